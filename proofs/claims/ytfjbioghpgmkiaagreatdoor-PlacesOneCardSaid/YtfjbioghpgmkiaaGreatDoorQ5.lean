/- Merged texts of ours: Za Pf Oa Ob; conditions are the hypotheses of each law. -/
import Derived.Test.YtfjbioghpgmkiaaGreatDoorQ4
import Derived.Test.YtfjbioghpgmkiaaGreatDoorTie
import Derived.Test.YtfjbioghpgmkiaaGreatDoorCards
import Derived.WalkKit
import Derived.ProofKit
import Derived.OpenShut
import Derived.Carry
import Derived.Deep.Slices
import Derived.SizedLaws
import Derived.LaidLaws
import Derived.LaidHandle
import Derived.ChangeVars
import Derived.JoinedOf
import Derived.RowKit
/- How the arguments of the laws of layer 19 are read; a world in which the listed tables lie; what a law that answers true and changes nothing leaves; conditions are the hypotheses of each law. -/
namespace Go.Proofs.YtfjbioghpgmkiaaGreatDoor
open Go.Eng Go.ChangeShapes Go.WideShapes Go.ChangeAt Go.RowKit Go.Deep

theorem laid : laidOutB Tryz.prog = true := by kernel_rfl
theorem ownK : ownKnob Tryz.prog.godebug = none := by kernel_rfl

theorem spot_none {w : World} {a : Addr} {v : Value} (h : w.cell? a = some v) : a.spot = none := by
  unfold World.cell? at h
  split at h
  · split at h
    · cases h
    · rename_i h2
      cases hs : a.spot
      · rfl
      · rw [hs] at h2; simp at h2
  · cases h

section
variable {H : Type} {enc : TypeId × Value → H} {P : Program} {w : World} {base : Nat} {spare : Nat → Bool} {held : Bool}

/-- a slice whose elements are read one by one reads as a list -/
theorem open_list {α : Type} {f : α → List Value} {ok : α → Prop} {t e k fuel : Nat} {cs : List Value} {x : DataW H × List MemPlace} (ht : P.underlying t = some (.slice e)) (hk : P.cellsOf e = k) (hk0 : 0 < k)
    (hop : ∀ n cs' y, DataW.trod enc P w base spare held n e cs' = some y → ∃ a, cs' = f a ∧ ok a) (h : DataW.trod enc P w base spare held fuel t cs = some x) :
    ∃ s c, ∃ l : List α, cs = [.slice s l.length c] ∧ l.length ≤ c ∧ c ≤ maxLen ∧ SlAt w k f s l ∧ (∀ a ∈ l, ok a) ∧ (l = [] ∨ ∃ es rs, x.1 = .slice es rs ∧ es.length = l.length) := by
  rcases open_slice ht h with ⟨rfl, _⟩ | ⟨a, len, cap, m, n, D, Pl, rfl, hb, hl, hm, hmm, hxe, hx⟩
  · exact ⟨none, 0, [], rfl, Nat.le_refl _, by unfold maxLen; omega, by intro i x hx; simp at hx, by simp, .inl rfl⟩
  · have hlm : len ≤ m := by rw [hmm]; split <;> omega
    rw [hk] at hx
    have hex : ∀ i : Fin len, ∃ y, w.cells? base (a.add (i * k)) k = some (f y) ∧ ok y := by
      intro i
      obtain ⟨cs', h1, h2⟩ := hx i (by omega)
      obtain ⟨y, rfl, hy⟩ := hop _ _ _ h2
      exact ⟨y, h1, hy⟩
    refine ⟨some a, cap, List.ofFn fun i => Classical.choose (hex i), by simp, by simpa using hl, hm, ?_, ?_, .inr ⟨_, _, by rw [hxe], by simp⟩⟩
    · intro i y hy
      have hi : i < len := by have := (List.getElem?_eq_some_iff.1 hy).1; simpa using this
      have hyc : Classical.choose (hex ⟨i, hi⟩) = y := by
        rw [List.getElem?_ofFn] at hy
        simpa [hi] using hy
      have hsp := (Classical.choose_spec (hex ⟨i, hi⟩)).1
      rw [hyc] at hsp
      obtain ⟨_, hlen, hc⟩ := World.cells?_some hsp
      obtain ⟨_, hlen0, hc0⟩ := World.cells?_some (Classical.choose_spec (hex ⟨0, by omega⟩)).1
      have hs0 := spot_none ((hc0 0 (by omega)).trans (List.getElem?_eq_getElem (by omega)))
      have hsa : a.spot = none := by simpa [Addr.add] using hs0
      refine ⟨a.block, a.off, ?_, fun j v hv => ?_⟩
      · cases a
        simp at hsa
        subst hsa
        rfl
      · have hj : j < k := by rw [← hlen]; exact (List.getElem?_eq_some_iff.1 hv).1
        have := (hc j hj).trans hv
        cases a
        simp at hsa
        subst hsa
        rw [addr_add, addr_add] at this
        exact this
    · intro y hy
      rw [List.mem_ofFn] at hy
      obtain ⟨i, rfl⟩ := hy
      exact (Classical.choose_spec (hex i)).2

theorem trodAll_stays (hl : laidOutB P = true) {W W' : World} (hb : Below W.heap.size W W') {sp : Nat → Bool} : ∀ (ts : List TypeId) (vs : List Value) (ds : List (DataW H)) (ps : List MemPlace),
    (∀ t ∈ ts, P.readableRec t = true ∧ t < P.types.size) → DataW.TrodAll enc P W 0 (fun _ => true) true ts vs ds ps → (∀ x ∈ ps, x.block < W.heap.size) → (∀ x ∈ ps, sp x.block = true) →
    DataW.TrodAll enc P W' 0 sp true ts vs ds ps
  | [], vs, ds, ps, _, h, _, _ => by
    obtain ⟨rfl, rfl, rfl⟩ := trodAll_nil h
    exact trodAll_mk0
  | t :: ts, vs, ds, ps, ht, h, hlt, hsp => by
    obtain ⟨v, vs', d, ds', p, q, rfl, rfl, rfl, h1, h2⟩ := trodAll_cons h
    refine ⟨p, q, ?_, trodAll_stays hl hb ts vs' ds' q (fun t h => ht t (List.mem_cons_of_mem _ h)) h2 (fun x hx => hlt x (List.mem_append_right _ hx)) (fun x hx => hsp x (List.mem_append_right _ hx)), rfl⟩
    obtain ⟨hr, hrow⟩ := ht t (List.mem_cons_self ..)
    exact WideElems.Trod_stays hl hr hrow h1 (fun x hx => hb.same (hlt x (List.mem_append_left _ hx))) (fun x hx => hsp x (List.mem_append_left _ hx))
end

/-- an array whose elements are read one by one -/
theorem arr_list {α : Type} {f : α → List Value} {ok : α → Prop} {sz : Nat} : ∀ (k : Nat) (cs : List Value), cs.length = k * sz → (∀ i, i < k → ∃ a, (cs.drop (i * sz)).take sz = f a ∧ ok a) → ∃ l : List α, l.length = k ∧ cs = l.flatMap f ∧ ∀ a ∈ l, ok a
  | 0, cs, hl, _ => ⟨[], rfl, by simpa using hl, by simp⟩
  | k + 1, cs, hl, h => by
    obtain ⟨a, ha, hoa⟩ := h 0 (by omega)
    obtain ⟨l, h1, h2, h3⟩ := arr_list (f := f) (ok := ok) (sz := sz) k (cs.drop sz) (by rw [List.length_drop, hl, Nat.succ_mul]; omega) (by
      intro i hi
      obtain ⟨b, hb, hob⟩ := h (i + 1) (by omega)
      refine ⟨b, ?_, hob⟩
      rw [List.drop_drop]
      rw [show sz + i * sz = (i + 1) * sz from by rw [Nat.succ_mul]; omega]
      exact hb)
    refine ⟨a :: l, by simp [h1], ?_, ?_⟩
    · rw [List.flatMap_cons, ← h2, ← ha]
      simp
    · intro x hx
      rcases List.mem_cons.1 hx with rfl | hx
      · exact hoa
      · exact h3 x hx
section
variable {H : Type} {enc : TypeId × Value → H} {P : Program} {w : World} {base : Nat} {spare : Nat → Bool} {held : Bool}
theorem open_arr {α : Type} {f : α → List Value} {ok : α → Prop} {t e k sz fuel : Nat} {cs : List Value} {x : DataW H × List MemPlace} (ht : P.underlying t = some (.array k e)) (he : P.cellsOf e = sz) (hc : P.cellsOf t = k * sz)
    (hop : ∀ n cs' y, DataW.trod enc P w base spare held n e cs' = some y → ∃ a, cs' = f a ∧ ok a) (h : DataW.trod enc P w base spare held fuel t cs = some x) :
    ∃ l : List α, l.length = k ∧ cs = l.flatMap f ∧ ∀ a ∈ l, ok a := by
  obtain ⟨xs, m, _, _, hl, hlen, hf⟩ := DataW.trod_array ht h
  refine arr_list k cs (by rw [hl, hc]) fun i hi => ?_
  have := hf i hi
  rw [he, List.getElem?_eq_getElem (by omega)] at this
  exact hop _ _ _ this
end
/-- what a law leaves that answers true and keeps all that was there -/
theorem post_true {H : Type} {enc : TypeId × Value → H} {f : Func} {s : ChangeSpec} {W W' : World} {args : Array Value} {ds gs : List (DataW H)} {before : List MemPlace} (hW : DataW.Whole enc Tryz.prog f.params.toList s.vars false W args.toList ds gs before)
    (hv : s.vars = []) (hr : f.resultTypes = #[4]) (hts : ∀ t ∈ f.params.toList, Tryz.prog.readableRec t = true ∧ t < Tryz.prog.types.size)
    (hres : (s.fn H (ds ++ gs)).results = [.lit (.bool true)]) (hargs : (s.fn H (ds ++ gs)).args = ds) (hvs : (s.fn H (ds ++ gs)).vars = []) (hk : Keeps [] W W') :
    s.post enc Tryz.prog f false true false false W args (.bool true) W' := by
  have hW' := hW
  obtain ⟨p, q, hA, hV, rfl, hfz, hnd⟩ := hW
  rw [hv] at hV
  obtain ⟨rfl, rfl⟩ := trodVars_none hV
  have hlt : ∀ x ∈ p, x.block < W.heap.size := fun x hx => hW'.lt x (by simpa using hx)
  refine ⟨ds, [], _, [], p, [], hW', ?_, ?_, ?_, (hk.below.frame _), fun h => by cases h⟩
  · rw [hres, hr]
    exact trodAll_cons_mk (shut_bool Tryz.underlying4 _) trodAll_mk0
  · rw [hargs]
    exact trodAll_stays laid hk.below _ _ _ _ hts hA hlt (fun x hx => by simpa using hlt x hx)
  · rw [hvs, hv]
    rfl

theorem len2 {α : Type} {l : List α} (h : l.length = 2) : ∃ c0 c1, l = [c0, c1] := by
  obtain ⟨c0, l0, rfl⟩ : ∃ a t, l = a :: t := List.exists_cons_of_length_eq_add_one h
  obtain ⟨c1, l1, rfl⟩ : ∃ a t, l0 = a :: t := List.exists_cons_of_length_eq_add_one (by simpa using h)
  have : l1 = [] := List.eq_nil_of_length_eq_zero (by simpa using h)
  subst this
  exact ⟨c0, c1, rfl⟩
theorem len3 {α : Type} {l : List α} (h : l.length = 3) : ∃ c0 c1 c2, l = [c0, c1, c2] := by
  obtain ⟨c0, l0, rfl⟩ : ∃ a t, l = a :: t := List.exists_cons_of_length_eq_add_one h
  obtain ⟨c1, l1, rfl⟩ : ∃ a t, l0 = a :: t := List.exists_cons_of_length_eq_add_one (by simpa using h)
  obtain ⟨c2, l2, rfl⟩ : ∃ a t, l1 = a :: t := List.exists_cons_of_length_eq_add_one (by simpa using h)
  have : l2 = [] := List.eq_nil_of_length_eq_zero (by simpa using h)
  subst this
  exact ⟨c0, c1, c2, rfl⟩
section
variable {H : Type} {enc : TypeId × Value → H} {w : World} {base : Nat} {spare : Nat → Bool} {held : Bool} {n : Nat} {cs : List Value} {x : DataW H × List MemPlace}
theorem rd_int (h : DataW.trod enc Tryz.prog w base spare held n 3 cs = some x) : ∃ a : Int, cs = eI a ∧ -9223372036854775808 ≤ a ∧ a ≤ 9223372036854775807 := by
  obtain ⟨a, rfl, _, hw⟩ := DataW.trod_int Tryz.underlying3 h
  have e1 : IntKind.i64.min = -9223372036854775808 := by decide
  have e2 : IntKind.i64.max = 9223372036854775807 := by decide
  simp only [Lit.wf, Bool.and_eq_true, decide_eq_true_eq, e1, e2] at hw
  exact ⟨a, rfl, hw⟩
theorem rd_ints (h : DataW.trod enc Tryz.prog w base spare held n 30 cs = some x) : ∃ s c, ∃ l : List Int, cs = [.slice s l.length c] ∧ l.length ≤ c ∧ c ≤ maxLen ∧ SlAt w 1 eI s l ∧ (∀ a ∈ l, -9223372036854775808 ≤ a ∧ a ≤ 9223372036854775807) ∧ (l = [] ∨ ∃ es rs, x.1 = .slice es rs ∧ es.length = l.length) :=
  open_list Tryz.underlying30 (by kernel_rfl) (by decide) (fun _ _ _ h => rd_int h) h
end
/-- how long a list that came in can be -/
theorem sized_list {H α : Type} {ts : List TypeId} {ds : List (DataW H)} {l : List α} {j t e k : Nat} {d : DataW H} (h : (DataW.weightsEach Tryz.prog ts ds).all (· ≤ reachBytes) = true) (ht : ts[j]? = some t) (hd : ds[j]? = some d) (hu : Tryz.prog.underlying t = some (.slice e)) (hk : Tryz.prog.bytesOf e = k)
    (hx : l = [] ∨ ∃ es rs, d = .slice es rs ∧ es.length = l.length) : l.length * k ≤ 140737488351232 := by
  rcases hx with rfl | ⟨es, rs, rfl, he⟩
  · simp
  · have h1 := sized_slice h ht hd hu
    rw [hk] at h1
    have h2 : l.length * k ≤ (es.length + rs.length) * k := Nat.mul_le_mul_right k (by omega)
    exact Nat.le_trans h2 h1
/-! ### the tables -/
def cellsL : DataW Unit → List Value
  | .lit (.int k n) => [.int k n]
  | .agg [.lit (.int k n), .lit (.int q m)] => [.int k n, .int q m]
  | _ => []
def cellsA : DataW Unit → Array Value
  | .agg l => (l.flatMap cellsL).toArray
  | _ => #[]
noncomputable def laidWorld (os : Os) : World :=
  let w0 := World.holding Tryz.prog os ⟨#[], #[], []⟩
  { w0 with heap := (w0.heap.modify 0 fun
      | .cells _ t fr => .cells (cellsA Rows.laid_unicode_utf8_first) t fr
      | o => o).modify 1 fun
      | .cells _ t fr => .cells (cellsA Rows.laid_unicode_utf8_acceptRanges) t fr
      | o => o }
set_option maxRecDepth 100000 in
theorem laidWorld_met (os : Os) (args : Array Value) : laidMetH Tryz.prog Rows.placesKeepsRow.laid ((laidWorld os).forCall (fun _ _ => 0) ⟨#[], args, []⟩).memory :=
  laidMet_of_run (ps := (List.range 32).map (fun i => MemPlace.cell 1 i) ++ (List.range 256).map (fun i => MemPlace.cell 0 i)) 8 (by kernel_rfl) (by kernel_rfl) (by kernel_rfl)
theorem agg_of_cells {v : Value} {l : List Value} (h : v.cells.toList = l) (hl : 2 ≤ l.length) : v = .agg l.toArray := by
  cases v with
  | agg vs =>
    have : vs.toList = l := h
    subst this
    rfl
  | _ =>
    exfalso
    subst h
    simp [Value.cells] at hl
theorem slice_of_cells {P : Program} {W : World} {base t e : Nat} {v : Value} {s : Option Addr} {m c : Nat} (ht : P.underlying t = some (.slice e)) (hok : Value.okWide P W .any base t v) (h : v.cells.toList = [.slice s m c]) : v = .slice s m c := by
  cases v with
  | agg vs => simp [Value.okWide, ht, Cell.okWide, Cell.ok] at hok
  | slice a1 b1 c1 =>
    have e : Value.slice a1 b1 c1 = .slice s m c := by simpa [Value.cells] using h
    exact e
  | _ => simp [Value.cells] at h

/-! ### further kinds of arguments -/
theorem cells3 : Tryz.prog.cellsOf 3 = 1 := by kernel_rfl
theorem cells5 : Tryz.prog.cellsOf 5 = 1 := by kernel_rfl
theorem cells22 : Tryz.prog.cellsOf 22 = 1 := by kernel_rfl
theorem cells23 : Tryz.prog.cellsOf 23 = 1 := by kernel_rfl
theorem cells30 : Tryz.prog.cellsOf 30 = 1 := by kernel_rfl
theorem cells84 : Tryz.prog.cellsOf 84 = 2 := by kernel_rfl
theorem cells87 : Tryz.prog.cellsOf 87 = 3 := by kernel_rfl
theorem cells25 : Tryz.prog.cellsOf 25 = 2 := by kernel_rfl
section
variable {H : Type} {enc : TypeId × Value → H} {w : World} {base : Nat} {spare : Nat → Bool} {held : Bool} {n : Nat} {cs : List Value} {x : DataW H × List MemPlace}
def e3 (x : Int × Int × Int) : List Value := [.int .i64 x.1, .int .i64 x.2.1, .int .i64 x.2.2]
theorem rd_arr3 (h : DataW.trod enc Tryz.prog w base spare held n 78 cs = some x) : ∃ a : Int × Int × Int, cs = e3 a ∧ a.1 ≤ 9223372036854775807 := by
  obtain ⟨l, hl, rfl, hb⟩ := open_arr Tryz.underlying78 cells3 (by kernel_rfl) (fun _ _ _ h => rd_int h) h
  obtain ⟨a, b, c, rfl⟩ := len3 hl
  exact ⟨(a, b, c), rfl, (hb a (by simp)).2⟩
theorem rd_arr2 (h : DataW.trod enc Tryz.prog w base spare held n 84 cs = some x) : ∃ a : Int × Int, cs = eT2 a ∧ a.2 ≤ 9223372036854775807 := by
  obtain ⟨l, hl, rfl, hb⟩ := open_arr Tryz.underlying84 cells3 (by kernel_rfl) (fun _ _ _ h => rd_int h) h
  obtain ⟨a, b, rfl⟩ := len2 hl
  exact ⟨(a, b), rfl, (hb b (by simp)).2⟩
theorem rd_list2 (h : DataW.trod enc Tryz.prog w base spare held n 22 cs = some x) : ∃ s c, ∃ l : List (Int × Int), cs = [.slice s l.length c] ∧ l.length ≤ c ∧ c ≤ maxLen ∧ SlAt w 2 eT2 s l ∧ (∀ p ∈ l, p.2 ≤ 9223372036854775807) := by
  obtain ⟨s, c, l, h1, h2, h3, h4, h5, _⟩ := open_list Tryz.underlying22 cells84 (by decide) (fun _ _ _ h => rd_arr2 h) h
  exact ⟨s, c, l, h1, h2, h3, h4, h5⟩
theorem rd_u8 (h : DataW.trod enc Tryz.prog w base spare held n 5 cs = some x) : ∃ a : Nat, cs = eB a ∧ a < 256 := by
  obtain ⟨a, rfl, _, hw⟩ := DataW.trod_int Tryz.underlying5 h
  have e1 : IntKind.u8.min = 0 := by decide
  have e2 : IntKind.u8.max = 255 := by decide
  simp only [Lit.wf, Bool.and_eq_true, decide_eq_true_eq, e1, e2] at hw
  obtain ⟨k, rfl⟩ : ∃ k : Nat, a = k := ⟨a.toNat, by omega⟩
  exact ⟨k, rfl, by omega⟩
theorem rd_bytes (h : DataW.trod enc Tryz.prog w base spare held n 61 cs = some x) : ∃ s c, ∃ l : List Nat, cs = [.slice s l.length c] ∧ l.length ≤ c ∧ c ≤ maxLen ∧ SlAt w 1 eB s l ∧ (∀ a ∈ l, a < 256) ∧ (l = [] ∨ ∃ es rs, x.1 = .slice es rs ∧ es.length = l.length) :=
  open_list Tryz.underlying61 cells5 (by decide) (fun _ _ _ h => rd_u8 h) h
theorem rd_person (h : DataW.trod enc Tryz.prog w base spare held n 87 cs = some x) : ∃ p : Pe, cs = ePe p ∧ SlAt w 1 eI p.ws p.wl := by
  obtain ⟨xs, m, _, _, hl, hlen, hf⟩ := DataW.trod_struct Tryz.underlying87 h
  rw [cells87] at hl
  obtain ⟨c0, c1, c2, rfl⟩ := len3 hl
  have h0 : DataW.trod enc Tryz.prog w base spare held m 3 (([c0, c1, c2].drop 0).take (Tryz.prog.cellsOf 3)) = xs[0]? := hf 0 _ rfl
  rw [cells3] at h0
  have h1 : DataW.trod enc Tryz.prog w base spare held m 3 (([c0, c1, c2].drop 1).take (Tryz.prog.cellsOf 3)) = xs[1]? := hf 1 _ rfl
  rw [cells3] at h1
  have h2 : DataW.trod enc Tryz.prog w base spare held m 30 (([c0, c1, c2].drop 2).take (Tryz.prog.cellsOf 30)) = xs[2]? := hf 2 _ rfl
  rw [cells30] at h2
  simp at hlen
  obtain ⟨a, e0, _⟩ := rd_int (h0.trans (List.getElem?_eq_getElem (by omega)))
  obtain ⟨b, e1, _⟩ := rd_int (h1.trans (List.getElem?_eq_getElem (by omega)))
  obtain ⟨s, c, l, e2, _, _, hs, _⟩ := rd_ints (h2.trans (List.getElem?_eq_getElem (by omega)))
  simp [eI] at e0 e1 e2
  subst e0 e1 e2
  exact ⟨⟨a, b, s, c, l⟩, rfl, hs⟩
theorem rd_people (h : DataW.trod enc Tryz.prog w base spare held n 23 cs = some x) : ∃ s c, ∃ l : List Pe, cs = [.slice s l.length c] ∧ l.length ≤ c ∧ c ≤ maxLen ∧ SlAt w 3 ePe s l ∧ (∀ p ∈ l, SlAt w 1 eI p.ws p.wl) := by
  obtain ⟨s, c, l, h1, h2, h3, h4, h5, _⟩ := open_list Tryz.underlying23 cells87 (by decide) (fun _ _ _ h => rd_person h) h
  exact ⟨s, c, l, h1, h2, h3, h4, h5⟩
theorem rd_plan (h : DataW.trod enc Tryz.prog w base spare held n 25 cs = some x) : ∃ (sp : Option Addr) (cp : Nat) (lp : List (Int × Int)) (se : Option Addr) (ce : Nat) (le : List Pe), cs = [.slice sp lp.length cp, .slice se le.length ce] ∧
    SlAt w 2 eT2 sp lp ∧ (∀ p ∈ lp, p.2 ≤ 9223372036854775807) ∧ SlAt w 3 ePe se le ∧ (∀ p ∈ le, SlAt w 1 eI p.ws p.wl) := by
  obtain ⟨xs, m, _, _, hl, hlen, hf⟩ := DataW.trod_struct Tryz.underlying25 h
  rw [cells25] at hl
  obtain ⟨c0, c1, rfl⟩ := len2 hl
  have h0 : DataW.trod enc Tryz.prog w base spare held m 22 (([c0, c1].drop 0).take (Tryz.prog.cellsOf 22)) = xs[0]? := hf 0 _ rfl
  rw [cells22] at h0
  have h1 : DataW.trod enc Tryz.prog w base spare held m 23 (([c0, c1].drop 1).take (Tryz.prog.cellsOf 23)) = xs[1]? := hf 1 _ rfl
  rw [cells23] at h1
  simp at hlen
  obtain ⟨s, c, l, e0, _, _, hs, hb⟩ := rd_list2 (h0.trans (List.getElem?_eq_getElem (by omega)))
  obtain ⟨s2, c2, l2, e1, _, _, hs2, hb2⟩ := rd_people (h1.trans (List.getElem?_eq_getElem (by omega)))
  simp at e0 e1
  subst e0 e1
  exact ⟨s, c, l, s2, c2, l2, rfl, hs, hb, hs2, hb2⟩
end
end Go.Proofs.YtfjbioghpgmkiaaGreatDoor
/- Exchanging two numbers in all orders; counts of the orders in which one is among the first; plain. -/
namespace Go.Proofs.YtfjbioghpgmkiaaGreatDoor
open Go.Eng Go.Dig

/-- the exchange of a and b -/
def tr (a b x : Int) : Int := if x = a then b else if x = b then a else x
theorem tr_tr (a b x : Int) : tr a b (tr a b x) = x := by
  unfold tr
  split
  · rename_i h
    split
    · rename_i h2
      omega
    · simp [h]
  · rename_i h
    split
    · rename_i h2
      simp [h2]
    · rename_i h2
      simp
theorem tr_inj {a b x y : Int} (h : tr a b x = tr a b y) : x = y := by rw [← tr_tr a b x, h, tr_tr]
theorem tr_bd {a b x n : Int} (ha : 0 ≤ a ∧ a < n) (hb : 0 ≤ b ∧ b < n) (hx : 0 ≤ x ∧ x < n) : 0 ≤ tr a b x ∧ tr a b x < n := by
  unfold tr
  split
  · exact hb
  · split
    · exact ha
    · exact hx
theorem tr_a (a b : Int) : tr a b a = b := by simp [tr]
theorem tr_b (a b : Int) : tr a b b = a := by
  unfold tr
  split
  · rename_i h; exact h
  · simp
theorem isO_of {n : Nat} {l : List Int} (h : Ord n l) : isO n l = true := by
  unfold isO
  rw [Bool.and_eq_true, Bool.and_eq_true, decide_eq_true_eq, decide_eq_true_eq, List.all_eq_true]
  refine ⟨h.len, fun x hx => ?_, h.nd⟩
  rw [Bool.and_eq_true, decide_eq_true_eq, decide_eq_true_eq]
  exact h.bd x hx
theorem ord_tr {n : Nat} {a b : Int} {o : List Int} (ha : 0 ≤ a ∧ a < n) (hb : 0 ≤ b ∧ b < n) (h : Ord n o) : Ord n (o.map (tr a b)) := by
  refine ⟨?_, fun k hk => ?_, by rw [List.length_map]; exact h.len⟩
  · unfold List.Nodup
    rw [List.pairwise_map]
    exact List.Pairwise.imp (fun h e => h (tr_inj e)) h.nd
  · obtain ⟨x, hx, rfl⟩ := List.mem_map.1 hk
    exact tr_bd ha hb (h.bd x hx)
theorem map_tr_tr (a b : Int) (o : List Int) : (o.map (tr a b)).map (tr a b) = o := by
  rw [List.map_map]
  conv => rhs; rw [← List.map_id o]
  congr 1
  funext x
  exact tr_tr a b x
theorem os_tr {n : Nat} {a b : Int} (ha : 0 ≤ a ∧ a < n) (hb : 0 ≤ b ∧ b < n) (p : List Int → Bool) : (osT n (fact n)).countP (fun o => p (o.map (tr a b))) = (osT n (fact n)).countP p :=
  os_map (f := List.map (tr a b)) (fun _ h => isO_of (ord_tr ha hb (Ord.of h))) (fun o o' _ _ h => by rw [← map_tr_tr a b o, h, map_tr_tr]) p
theorem os_congr {n : Nat} {p q : List Int → Bool} (h : ∀ o, isO n o = true → p o = q o) : (osT n (fact n)).countP p = (osT n (fact n)).countP q := by
  refine List.countP_congr fun o ho => ?_
  rw [h o (os_mem.1 ho)]

/-! how many orders have i among the first t -/
def cT (n t : Nat) (i : Int) : Nat := (osT n (fact n)).countP fun o => decide (i ∈ o.take t)
theorem cT_same {n t : Nat} {i j : Int} (hi : 0 ≤ i ∧ i < n) (hj : 0 ≤ j ∧ j < n) : cT n t i = cT n t j := by
  unfold cT
  rw [← os_tr hi hj (fun o => decide (j ∈ o.take t))]
  refine os_congr fun o _ => ?_
  rw [decide_eq_decide, ← List.map_take, List.mem_map]
  constructor
  · intro h
    exact ⟨i, h, tr_a i j⟩
  · rintro ⟨x, hx, he⟩
    have : x = i := by rw [← tr_tr i j x, he, tr_b]
    rw [← this]
    exact hx
theorem nd_le {α : Type} [BEq α] [LawfulBEq α] : ∀ {a b : List α}, a.Nodup → (∀ x ∈ a, x ∈ b) → a.length ≤ b.length
  | [], _, _, _ => Nat.zero_le _
  | x :: a, b, hn, hs => by
    obtain ⟨hx, hn⟩ := List.nodup_cons.1 hn
    have hp := List.perm_cons_erase (hs x List.mem_cons_self)
    have h1 := nd_le (b := b.erase x) hn (fun y hy => (List.mem_erase_of_ne (by rintro rfl; exact hx hy)).2 (hs y (List.mem_cons_of_mem _ hy)))
    have := hp.length_eq
    rw [List.length_cons] at this ⊢
    omega
theorem cnt_in {n : Nat} {L : List Int} (hn : L.Nodup) (hb : ∀ x ∈ L, 0 ≤ x ∧ x < n) : (List.range n).countP (fun (i : Nat) => decide ((i : Int) ∈ L)) = L.length := by
  have h1 : (List.range n).countP (fun (i : Nat) => decide ((i : Int) ∈ L)) = (idn n).countP fun x => decide (x ∈ L) := by
    unfold idn
    rw [List.countP_map]
    rfl
  rw [h1, List.countP_eq_length_filter]
  refine Nat.le_antisymm (nd_le ((idn_ris n).nd.filter _) fun x hx => ?_) (nd_le hn fun x hx => ?_)
  · simpa using (List.mem_filter.1 hx).2
  · exact List.mem_filter.2 ⟨idn_mem.2 (hb x hx), by simpa using hx⟩
theorem sum_const {α : Type} (f : α → Nat) (c : Nat) : ∀ l : List α, (∀ x ∈ l, f x = c) → (l.map f).sum = l.length * c
  | [], _ => by simp
  | x :: l, h => by
    rw [List.map_cons, List.sum_cons, sum_const f c l (fun y hy => h y (List.mem_cons_of_mem _ hy)), h x List.mem_cons_self, List.length_cons, Nat.add_mul, Nat.one_mul, Nat.add_comm]
theorem sum_add {α : Type} (f g : α → Nat) : ∀ l : List α, (l.map fun x => f x + g x).sum = (l.map f).sum + (l.map g).sum
  | [] => rfl
  | x :: l => by
    rw [List.map_cons, List.map_cons, List.map_cons, List.sum_cons, List.sum_cons, List.sum_cons, sum_add f g l]
    omega
theorem sum_swap {α β : Type} (p : α → β → Bool) : ∀ (A : List α) (B : List β), (A.map fun a => B.countP fun b => p a b).sum = (B.map fun b => A.countP fun a => p a b).sum
  | [], B => by
    rw [sum_const (fun b => ([] : List α).countP fun a => p a b) 0 B (fun _ _ => rfl)]
    rfl
  | a :: A, B => by
    have e : (fun b => (a :: A).countP fun a => p a b) = fun b => (A.countP fun a => p a b) + (if p a b = true then 1 else 0) := by
      funext b
      rw [List.countP_cons]
    rw [List.map_cons, List.sum_cons, sum_swap p A B, e, sum_add]
    have h2 : ∀ B : List β, (B.map fun b => if p a b = true then 1 else 0).sum = B.countP fun b => p a b := by
      intro B
      induction B with
      | nil => rfl
      | cons b B ih =>
        rw [List.map_cons, List.sum_cons, List.countP_cons, ih, Nat.add_comm]
    rw [h2, Nat.add_comm]
theorem os_len (n : Nat) : (osT n (fact n)).length = fact n := by simp [osT]
theorem cT_mul {n t : Nat} {i : Int} (hi : 0 ≤ i ∧ i < n) : n * cT n t i = fact n * min t n := by
  have h1 := sum_swap (fun (i : Nat) (o : List Int) => decide ((i : Int) ∈ o.take t)) (List.range n) (osT n (fact n))
  rw [sum_const (fun (j : Nat) => (osT n (fact n)).countP fun (o : List Int) => decide ((j : Int) ∈ List.take t o)) (cT n t i) _ (fun j hj => (cT_same (t := t) (i := i) (j := (j : Int)) hi ⟨by omega, by have := List.mem_range.1 hj; omega⟩).symm), sum_const _ (min t n) _ (fun o ho => ?_), List.length_range, os_len] at h1
  · exact h1
  · have hO := Ord.of (os_mem.1 ho)
    rw [cnt_in (hO.nd.sublist (List.take_sublist t o)) (fun x hx => hO.bd x (List.mem_of_mem_take hx)), List.length_take, hO.len]
/-! equal fractions have equal lowest terms -/
theorem rat_eq {a b c d : Nat} (hb : 0 < b) (hd : 0 < d) (h : a * d = c * b) : rat a b = rat c d := by
  have hg1 : 0 < Nat.gcd a b := Nat.gcd_pos_of_pos_right a hb
  have hg2 : 0 < Nat.gcd c d := Nat.gcd_pos_of_pos_right c hd
  have e1 : Nat.gcd (a * d) (b * d) = Nat.gcd a b * d := Nat.gcd_mul_right a d b
  have e2 : Nat.gcd (c * b) (d * b) = Nat.gcd c d * b := Nat.gcd_mul_right c b d
  have e3 : Nat.gcd a b * d = Nat.gcd c d * b := by rw [← e1, ← e2, h, Nat.mul_comm b d]
  unfold rat
  have q1 : a / Nat.gcd a b = c / Nat.gcd c d := by
    rw [← Nat.mul_div_mul_right a (Nat.gcd a b) hd, e3, h, Nat.mul_div_mul_right c (Nat.gcd c d) hb]
  have q2 : b / Nat.gcd a b = d / Nat.gcd c d := by
    rw [← Nat.mul_div_mul_right b (Nat.gcd a b) hd, e3, Nat.mul_comm b d, Nat.mul_div_mul_right d (Nat.gcd c d) hb]
  rw [q1, q2]
end Go.Proofs.YtfjbioghpgmkiaaGreatDoor
/- The plain law of One: one class, no families, one wish: the first of the order get the place; their chances; plain. -/
namespace Go.Proofs.YtfjbioghpgmkiaaGreatDoor
open Go.Eng Go.Dig

theorem insV_same {c : Int → Int} {x : Int} : ∀ r : List Int, (∀ y ∈ r, ¬ c x < c y) → insV c r x = x :: r
  | [], _ => rfl
  | y :: r, h => by rw [insV, if_neg (h y List.mem_cons_self)]
theorem sv_same {c : Int → Int} : ∀ l : List Int, (∀ x ∈ l, ∀ y ∈ l, ¬ c x < c y) → sv c l = l
  | [], _ => rfl
  | x :: r, h => by
    rw [sv, sv_same r (fun a ha b hb => h a (List.mem_cons_of_mem _ ha) b (List.mem_cons_of_mem _ hb)), insV_same r (fun y hy => h x List.mem_cons_self y (List.mem_cons_of_mem _ hy))]
theorem srt_same {c : Int → Int} {l : List Int} (h : ∀ x ∈ l, ∀ y ∈ l, ¬ c x < c y) : srt c l = l := by
  unfold srt
  rw [sv_same _ (fun x hx y hy => h x (List.mem_reverse.1 hx) y (List.mem_reverse.1 hy)), List.reverse_reverse]
theorem tl_none {r : Int → Int → Bool} (hr : ∀ a b, r a b = false) : ∀ Q D : List Int, Q.Nodup → (∀ x ∈ Q, x ∉ D) → tl r Q D = Q
  | [], _, _, _ => rfl
  | n :: Q, D, hn, hd => by
    have hfl : fl (r n) (D ++ [n]) Q = [] := by
      unfold fl
      simp [hr]
    obtain ⟨h1, h2⟩ := List.nodup_cons.1 hn
    rw [tl_take (hd n List.mem_cons_self), hfl, List.nil_append, List.append_nil, tl_none hr Q _ h2]
    intro x hx hm
    rcases List.mem_append.1 hm with h | h
    · exact hd x (List.mem_cons_of_mem _ hx) h
    · rw [List.mem_singleton] at h
      subst h
      exact h1 hx
/-- one class, no families: the turns are the order -/
theorem trn_id {l : List En} {ord : List Int} {C : Int} (hO : Ord l.length ord) (hc : ∀ e ∈ l, e.cls = C) (hf : ∀ e ∈ l, e.fam = 0) : trn l ord = ord := by
  have hcl : ∀ x ∈ ord, clsF l x = C := fun x hx => by
    have hb := hO.bd x hx
    have hlt : x.toNat < l.length := by omega
    unfold clsF
    rw [List.getElem?_eq_getElem hlt]
    exact hc _ (List.getElem_mem hlt)
  have hr : ∀ a b, relF l a b = false := fun a b => by
    unfold relF
    split
    · rename_i x y h1 h2
      have := hf x (List.mem_of_getElem? h1)
      unfold relB
      rw [decide_eq_true this]
      rfl
    · rfl
  unfold trn
  rw [srt_same (fun x hx y hy => by rw [hcl x hx, hcl y hy]; omega)]
  exact tl_none hr ord [] hO.nd (fun _ _ => by simp)

def noneN : ByteArray := ⟨#[110, 111, 110, 101]⟩
def onlyN : ByteArray := ⟨#[111, 110, 108, 121]⟩
theorem none_ne : noneN ≠ onlyN := by decide
theorem only_ne : onlyN ≠ noN := by decide
/-- what holds after those in A had their turn -/
structure InvO (m : Nat) (s : Int) (A : List Int) (S : AS) : Prop where
  len : S.2.length = m
  none_ : S.1 noneN = none
  left : (S.1 onlyN).getD 0 = s - (min A.length s.toNat : Nat)
  at_ : ∀ k : Int, 0 ≤ k → k < m → xa S.2 k = if k ∈ A.take s.toNat then onlyN else noN
theorem InvO.step {l : List En} {s : Int} {A : List Int} {S : AS} {k : Int} (hw : ∀ e ∈ l, e.wl = [noneN, onlyN]) (h : InvO l.length s A S) (h0 : 0 ≤ k) (hk : k < l.length) (_hkA : k ∉ A) : InvO l.length s (A ++ [k]) (stepA l S k) := by
  have hlt : k.toNat < l.length := by omega
  have hws : wsh l k = [noneN, onlyN] := by
    unfold wsh
    rw [List.getElem?_eq_getElem hlt]
    exact hw _ (List.getElem_mem hlt)
  have hn : avl S.1 noneN = false := by
    unfold avl
    rw [h.none_]
    rfl
  have hl := h.left
  by_cases hpos : A.length < s.toNat
  · have ho : avl S.1 onlyN = true := by
      unfold avl
      rw [decide_eq_true_eq, hl]
      omega
    have hf : (wsh l k).find? (avl S.1) = some onlyN := by
      rw [hws, List.find?_cons, hn, List.find?_cons, ho]
    rw [stepA_some hf]
    refine ⟨by simp [h.len], ?_, ?_, ?_⟩
    · show (if noneN = onlyN then some ((S.1 onlyN).getD 0 - 1) else S.1 noneN) = none
      rw [if_neg none_ne, h.none_]
    · show ((if onlyN = onlyN then some ((S.1 onlyN).getD 0 - 1) else S.1 onlyN).getD 0) = _
      rw [if_pos rfl, Option.getD_some, hl, List.length_append]
      show _ = s - (min (A.length + 1) s.toNat : Nat)
      omega
    · intro j hj0 hj
      have e1 : (A ++ [k]).take s.toNat = A ++ [k] := List.take_of_length_le (by rw [List.length_append]; show A.length + 1 ≤ _; omega)
      have e2 : A.take s.toNat = A := List.take_of_length_le (by omega)
      show xa (S.2.set k.toNat onlyN) j = _
      rw [xa_set h0 (by rw [h.len]; exact hk) hj0, h.at_ j hj0 hj, e1, e2]
      by_cases hjk : j = k
      · rw [if_pos hjk, if_pos (by simp [hjk])]
      · rw [if_neg hjk]
        congr 1
        simp [hjk]
  · have ho : avl S.1 onlyN = false := by
      unfold avl
      rw [decide_eq_false_iff_not, hl]
      omega
    have hf : (wsh l k).find? (avl S.1) = none := by
      rw [hws, List.find?_cons, hn, List.find?_cons, ho, List.find?_nil]
    rw [stepA_none hf]
    refine ⟨h.len, h.none_, ?_, ?_⟩
    · rw [hl, List.length_append]
      show _ = s - (min (A.length + 1) s.toNat : Nat)
      omega
    · intro j hj0 hj
      rw [h.at_ j hj0 hj, List.take_append_of_le_length (by omega)]
theorem InvO.start (l : List En) (s : Int) : InvO l.length s [] (asg0 l [(onlyN, s)]) := by
  refine ⟨by simp [asg0], ?_, ?_, ?_⟩
  · show stO [(onlyN, s)] noneN = none
    unfold stO
    rw [if_neg (by decide), List.find?_cons, decide_eq_false (fun h => none_ne h.symm), List.find?_nil]
    rfl
  · show (stO [(onlyN, s)] onlyN).getD 0 = _
    unfold stO
    rw [if_neg only_ne, List.find?_cons, decide_eq_true rfl]
    show s = s - (min 0 s.toNat : Nat)
    omega
  · intro k h0 hk
    show xa (List.replicate l.length noN) k = _
    unfold xa
    have : k.toNat < l.length := by omega
    rw [List.getElem?_replicate, if_pos this]
    simp
theorem InvO.all {l : List En} {s : Int} (hw : ∀ e ∈ l, e.wl = [noneN, onlyN]) : ∀ A : List Int, A.Nodup → (∀ k ∈ A, 0 ≤ k ∧ k < l.length) → InvO l.length s A (gA l [(onlyN, s)] A) := by
  intro A
  induction A using rev_ind with
  | nil => exact fun _ _ => InvO.start l s
  | append_singleton A k ih =>
    intro hn hb
    rw [gA_snoc]
    have h1 := List.nodup_append.1 hn
    have hk := hb k (by simp)
    exact InvO.step hw (ih h1.1 (fun x hx => hb x (List.mem_append_left _ hx))) hk.1 hk.2 (fun h => h1.2.2 k h k (by simp) rfl)
/-- who gets the place -/
theorem one_at {l : List En} {s : Int} {ord : List Int} (hO : Ord l.length ord) (hc : ∀ e ∈ l, e.cls = 3) (hf : ∀ e ∈ l, e.fam = 0) (hw : ∀ e ∈ l, e.wl = [noneN, onlyN]) (k : Int) (h0 : 0 ≤ k) (hk : k < l.length) :
    xa (asg l [(onlyN, s)] ord) k = if k ∈ ord.take s.toNat then onlyN else noN := by
  unfold asg
  rw [trn_id hO hc hf]
  exact (InvO.all hw ord hO.nd hO.bd).at_ k h0 hk
theorem one_col {l : List En} {s : Int} {ord : List Int} (hO : Ord l.length ord) (hc : ∀ e ∈ l, e.cls = 3) (hf : ∀ e ∈ l, e.fam = 0) (hw : ∀ e ∈ l, e.wl = [noneN, onlyN]) {i : Nat} (hi : i < l.length) :
    colG l [(onlyN, s)] ord i = if (i : Int) ∈ ord.take s.toNat then 0 else 1 := by
  unfold colG
  rw [one_at hO hc hf hw i (by omega) (by omega)]
  split
  · unfold colI colO
    rw [if_neg only_ne]
    rfl
  · unfold colI colO
    rw [if_pos rfl]
    rfl
theorem one_cnt0 {l : List En} {s : Int} (hc : ∀ e ∈ l, e.cls = 3) (hf : ∀ e ∈ l, e.fam = 0) (hw : ∀ e ∈ l, e.wl = [noneN, onlyN]) {i : Nat} (hi : i < l.length) :
    cntG (colG l [(onlyN, s)]) (osT l.length (fact l.length)) i 0 = cT l.length s.toNat (i : Int) := by
  unfold cntG cT
  refine os_congr fun o ho => ?_
  rw [one_col (Ord.of ho) hc hf hw hi]
  by_cases h : (i : Int) ∈ o.take s.toNat
  · rw [if_pos h, decide_eq_true h]; rfl
  · rw [if_neg h, decide_eq_false h]; rfl
theorem one_cnt1 {l : List En} {s : Int} (hc : ∀ e ∈ l, e.cls = 3) (hf : ∀ e ∈ l, e.fam = 0) (hw : ∀ e ∈ l, e.wl = [noneN, onlyN]) {i : Nat} (hi : i < l.length) :
    cntG (colG l [(onlyN, s)]) (osT l.length (fact l.length)) i 1 = fact l.length - cT l.length s.toNat (i : Int) := by
  have h1 : cntG (colG l [(onlyN, s)]) (osT l.length (fact l.length)) i 1 = (osT l.length (fact l.length)).countP (fun o => !decide ((i : Int) ∈ o.take s.toNat)) := by
    unfold cntG
    refine os_congr fun o ho => ?_
    rw [one_col (Ord.of ho) hc hf hw hi]
    by_cases h : (i : Int) ∈ o.take s.toNat
    · rw [if_pos h, decide_eq_true h]; rfl
    · rw [if_neg h, decide_eq_false h]; rfl
  rw [h1]
  unfold cT
  have h2 := List.length_eq_countP_add_countP (l := osT l.length (fact l.length)) (fun o => decide ((i : Int) ∈ o.take s.toNat))
  rw [os_len] at h2
  have h3 : (osT l.length (fact l.length)).countP (fun o => decide ¬ decide ((i : Int) ∈ o.take s.toNat) = true) = (osT l.length (fact l.length)).countP (fun o => !decide ((i : Int) ∈ o.take s.toNat)) := by
    congr 1
    funext o
    cases decide ((i : Int) ∈ o.take s.toNat) <;> rfl
  rw [h3] at h2
  omega
/-- the chances -/
theorem one_row {l : List En} {s : Int} (hc : ∀ e ∈ l, e.cls = 3) (hf : ∀ e ∈ l, e.fam = 0) (hw : ∀ e ∈ l, e.wl = [noneN, onlyN]) {i : Nat} (hi : i < l.length) :
    oddsR l [(onlyN, s)] i = [rat (min s.toNat l.length) l.length, rat (l.length - min s.toNat l.length) l.length] := by
  have hfp := fact_pos l.length
  have hm := cT_mul (n := l.length) (t := s.toNat) (i := (i : Int)) ⟨by omega, by omega⟩
  have hle : cT l.length s.toNat (i : Int) ≤ fact l.length := by
    unfold cT
    exact Nat.le_trans List.countP_le_length (Nat.le_of_eq (os_len _))
  have h0 : oddsR l [(onlyN, s)] i = [rat (cntG (colG l [(onlyN, s)]) (osT l.length (fact l.length)) i 0) (fact l.length), rat (cntG (colG l [(onlyN, s)]) (osT l.length (fact l.length)) i 1) (fact l.length)] := by
    unfold oddsR
    rfl
  rw [h0, one_cnt0 hc hf hw hi, one_cnt1 hc hf hw hi]
  rw [rat_eq hfp (Nat.zero_lt_of_lt hi) (c := min s.toNat l.length) (by rw [Nat.mul_comm, hm, Nat.mul_comm])]
  rw [rat_eq hfp (Nat.zero_lt_of_lt hi) (c := l.length - min s.toNat l.length) (by rw [Nat.sub_mul, Nat.mul_comm (cT _ _ _), hm, Nat.sub_mul, Nat.mul_comm (min _ _) (fact _), Nat.mul_comm (fact l.length) l.length])]
end Go.Proofs.YtfjbioghpgmkiaaGreatDoor
/- The law PlacesOne returns true; no conditions. -/
namespace Go.Proofs.YtfjbioghpgmkiaaGreatDoor
open Go.Eng Go.Dig

/-- the entrants: all of class 3, all with the same wishes -/
def OneL (l : List En) : Prop := (∀ e ∈ l, e.cls = 3) ∧ (∀ e ∈ l, e.fam = 0) ∧ (∀ e ∈ l, e.wl = [noneN, onlyN]) ∧ ∀ e ∈ l, SVL e.ws e.wc e.wl
theorem OneL.snoc {l : List En} {e : En} (h : OneL l) (h1 : e.cls = 3) (h2 : e.fam = 0) (h3 : e.wl = [noneN, onlyN]) (h4 : SVL e.ws e.wc e.wl) : OneL (l ++ [e]) := by
  have key : ∀ {p : En → Prop}, (∀ x ∈ l, p x) → p e → ∀ x ∈ l ++ [e], p x := fun hl he x hx => by
    rcases List.mem_append.1 hx with hx | hx
    · exact hl x hx
    · rw [List.mem_singleton] at hx
      rw [hx]
      exact he
  exact ⟨key h.1 h1, key h.2.1 h2, key h.2.2.1 h3, key h.2.2.2 h4⟩

theorem rat_sum {a e c d g1 g2 t m : Nat} (h1 : a * g1 = t) (h2 : e * g1 = m) (h3 : c * g2 = m - t) (h4 : d * g2 = m) (ht : t ≤ m) (hm : 0 < m) : a * d + c * e = e * d := by
  have g1p : 0 < g1 := Nat.pos_of_ne_zero (by rintro rfl; omega)
  have g2p : 0 < g2 := Nat.pos_of_ne_zero (by rintro rfl; omega)
  refine Nat.eq_of_mul_eq_mul_right (Nat.mul_pos g1p g2p) ?_
  have e1 : a * d * (g1 * g2) = (a * g1) * (d * g2) := by ac_rfl
  have e2 : c * e * (g1 * g2) = (c * g2) * (e * g1) := by ac_rfl
  have e3 : e * d * (g1 * g2) = (e * g1) * (d * g2) := by ac_rfl
  rw [Nat.add_mul, e1, e2, e3, h1, h2, h3, h4, ← Nat.add_mul]
  congr 1
  omega
/-- the two chances of a row add up to one -/
theorem rat_one {t m : Nat} (ht : t ≤ m) (hm : 0 < m) : (rat t m).1 * (rat (m - t) m).2 + (rat (m - t) m).1 * (rat t m).2 = (rat t m).2 * (rat (m - t) m).2 :=
  rat_sum (Nat.div_mul_cancel (Nat.gcd_dvd_left t m)) (Nat.div_mul_cancel (Nat.gcd_dvd_right t m)) (Nat.div_mul_cancel (Nat.gcd_dvd_left (m - t) m)) (Nat.div_mul_cancel (Nat.gcd_dvd_right (m - t) m)) ht hm
theorem mem_take_get {o : List Int} (hn : o.Nodup) {k t : Nat} {x : Int} (hx : o[k]? = some x) : x ∈ o.take t ↔ k < t := by
  obtain ⟨hk, rfl⟩ := List.getElem?_eq_some_iff.1 hx
  constructor
  · intro h
    obtain ⟨j, hj, hje⟩ := List.getElem_of_mem h
    rw [List.length_take] at hj
    rw [List.getElem_take] at hje
    have h2 : j < o.length := by omega
    have := (List.getElem?_inj h2 hn).1 ((List.getElem?_eq_getElem h2).trans (by rw [hje, List.getElem?_eq_getElem hk]))
    omega
  · intro h
    have h2 : k < (o.take t).length := by rw [List.length_take]; omega
    have : (o.take t)[k] = o[k] := List.getElem_take
    rw [← this]
    exact List.getElem_mem h2

attribute [local irreducible] PV StepF wpl wpd WP Ret
attribute [local irreducible] Fit srt tl fl seenL stO isO trn fact ordN rfO num asg nmI oddsL

set_option maxHeartbeats 16000000 in
theorem c5 (n0 s0 : Nat) (a : Int) (w : World) (ha : a ≤ 9223372036854775807) :
    Ret Tryz.prog 5 [.int .u8 (n0 : Int), .int .u8 (s0 : Int), .int .i64 a] w (fun v w' => v = .bool true ∧ Keeps [] w w') := by
  have hm := Nat.mod_lt n0 (show 7 > 0 by decide)
  have hs9 := Nat.mod_lt s0 (show 9 > 0 by decide)
  refine Ret.of_WP Tryz.func5 rfl Tryz.ntmps5 rfl ?_
  have hp := Hp.start (M := []) (w := w)
  (repeat (first | (with_reducible first | apply WP_seq | apply WP_region | apply wpl_nil | apply thenQ_n) | (apply wlp; apply pv_assign; exact fB rfl)))
  (apply wls; exact st_call rfl ent11 rfl (p11 _))
  rintro _ w1 ⟨rfl, hk⟩
  have hp := hp.call hk
  skip
  (apply wlp; apply pv_assign; exact fB rfl)
  (repeat (with_reducible first | apply WP_seq | apply WP_region | apply wpl_nil | apply thenQ_n))
  (apply wlp; apply pv_move; exact fI rfl)
  (apply wlp; exact pv_rem rfl rfl (by decide); exact int_eq (b := ((n0 % 7 : Nat) : Int)) (int_rem n0 7))
  (apply wlp; exact pf_conv rfl rfl rfl; exact int_eq (i64_in (by omega) (by omega)))
  (apply wlp; apply pv_move; exact fI rfl)
  (apply wlp; exact pv_rem rfl rfl (by decide); exact int_eq (b := ((s0 % 9 : Nat) : Int)) (int_rem s0 9))
  (apply wlp; exact pf_conv rfl rfl rfl; exact int_eq (i64_in (by omega) (by omega)))
  (apply wlp; exact pv_sub rfl rfl; exact int_eq (b := ((s0 % 9 : Nat) : Int) - 1) (i64_in (by omega) (by omega)))
  generalize n0 % 7 = m at hm
  obtain ⟨s, hs⟩ : ∃ s : Int, s = ((s0 % 9 : Nat) : Int) - 1 := ⟨_, rfl⟩
  rw [← hs]
  have hsb : -1 ≤ s ∧ s ≤ 7 := by omega
  clear hs hs9
  (repeat (first | (with_reducible first | apply WP_seq | apply WP_region | apply wpl_nil | apply thenQ_n) | (apply wlp; ((first | apply pv_move | apply pv_assign | (apply pf_build; exact rfl)) <;> exact rfl); (first | exact fI rfl | exact fA2 rfl))))
  (apply wls; exact sf_slice hp rfl rfl rfl rfl rfl rfl rfl; rintro _ w2 ⟨pb, rfl, hp⟩)
  (repeat (apply wlp; ((apply pf_build; exact rfl) <;> exact rfl); exact fA13 rfl))
  (apply wls; exact salloc13 hp (zeroTy_ok rfl); rintro _ w3 ⟨db, rfl, hp⟩)
  (apply wls0; exact sstore13 hp 0 rfl rfl rfl rfl (sizeTy_ok rfl) rfl; rintro _ w4 ⟨rfl, hp⟩)
  have hp := hp.norm 0 (dB noN 2 (some ⟨pb, 0, none⟩) 1 1) rfl rfl
  have hp := hp.rowOf (cs := [.string onlyN, .int .i64 s]) 1 2 1 rfl rfl
  have hp := hp.nilL eE 41 6
  have hp : Hp w [] w4 ([ownL eE 41 6 none 0 [], blk db 13 (frOf (dB noN 2 (some ⟨pb, 0, none⟩) 1 1)) 32, ownL eP 52 2 (some ⟨pb, 0, none⟩) 1 [(onlyN, s)]] ++ rowsW []) := hp
  (repeat (first | (with_reducible first | apply WP_seq | apply WP_block | apply WP_region | apply wpl_nil | apply thenQ_n) | (apply wlp; (first | apply pv_move | apply pv_assign); (first | exact fI rfl | exact fS rfl))))
  refine WP_loopS [11, 12, 37, 38, 39, 40, 41, 42, 43, 44, 45, 46] (fun (X : Nat × Option Addr × Nat × List En) F => (F.put 11 (.slice X.2.1 X.2.2.2.length X.2.2.1)).put 37 (.int .i64 (X.1 : Int)))
    (fun X w' => X.1 ≤ m ∧ SVL X.2.1 X.2.2.1 X.2.2.2 ∧ X.2.2.2.length = X.1 ∧ OneL X.2.2.2 ∧ Hp w [] w' ([ownL eE 41 6 X.2.1 X.2.2.1 X.2.2.2, blk db 13 (frOf (dB noN 2 (some ⟨pb, 0, none⟩) 1 1)) 32, ownL eP 52 2 (some ⟨pb, 0, none⟩) 1 [(onlyN, s)]] ++ rowsW X.2.2.2)) (fun X => m - X.1) (0, none, 0, [])
    (put_self (put_self (Same.eq .refl) rfl) rfl) ⟨Nat.zero_le _, .nil, rfl, ⟨by simp, by simp, by simp, by simp⟩, hp⟩ ?_
  (repeat clear hp)
  rintro u ⟨i, sl, cl, l⟩ w5 ⟨hi, hvl, hll, hone, hp⟩
  dsimp only at hi hvl hll hone hp ⊢
  (repeat (first | (with_reducible first | apply WP_seq | apply WP_region | apply wpl_nil | apply thenQ_n) | (apply wlp; (apply pv_lss <;> exact rfl); exact fB rfl)))
  refine WP_cond_d rfl (fun hlt => ?_) (fun hlt => ?_)
  · have hlt : i < m := by omega
    (repeat (first | (with_reducible first | apply WP_seq | apply WP_block | apply WP_region | apply wpl_nil | apply thenQ_n | apply WP_skip) | (apply wlp; (first | apply pv_move | apply pv_assign); (first | exact fI rfl | exact fS rfl))))
    (apply wls; exact sf_slice hp rfl rfl rfl rfl rfl rfl rfl; rintro _ w6 ⟨wb, rfl, hp⟩)
    have hp := hp.rowOf (cs := [.string noneN, .string onlyN]) 0 1 2 rfl rfl
    have hp : Hp w [] w6 (ownL eS 9 1 (some ⟨wb, 0, none⟩) 2 [noneN, onlyN] :: ([ownL eE 41 6 sl cl l, blk db 13 (frOf (dB noN 2 (some ⟨pb, 0, none⟩) 1 1)) 32, ownL eP 52 2 (some ⟨pb, 0, none⟩) 1 [(onlyN, s)]] ++ rowsW l)) := hp
    (repeat (apply wlp; ((apply pf_build; exact rfl) <;> exact rfl); exact fA6 rfl))
    (apply wls; exact sf_slice hp rfl rfl rfl rfl rfl rfl rfl; rintro _ w7 ⟨nb, rfl, hp⟩)
    (apply wls; exact sf_app1 eE l ⟨(i : Int), 3, 0, some ⟨wb, 0, none⟩, 2, [noneN, onlyN]⟩ hp 2 0 rfl rfl rfl rfl rfl rfl (fun _ => rfl) rfl rfl rfl hvl rfl rfl (by omega); rintro _ w8 ⟨s2, c2, rfl, hv2, hp⟩)
    obtain ⟨E, hE⟩ : ∃ E : En, E = ⟨(i : Int), 3, 0, some ⟨wb, 0, none⟩, 2, [noneN, onlyN]⟩ := ⟨_, rfl⟩
    have hE4 : SVL E.ws E.wc E.wl := by rw [hE]; exact .inr ⟨wb, 2, rfl, by show 2 ≤ 2; omega, by show 2 ≤ maxLen; unfold maxLen; omega⟩
    have hone2 := OneL.snoc (e := E) hone (by rw [hE]) (by rw [hE]) (by rw [hE]) hE4
    have hp := hp.tail
    have hp : Hp w [] w8 (ownL eS 9 1 E.ws E.wc E.wl :: ([ownL eE 41 6 s2 c2 (l ++ [E]), blk db 13 (frOf (dB noN 2 (some ⟨pb, 0, none⟩) 1 1)) 32, ownL eP 52 2 (some ⟨pb, 0, none⟩) 1 [(onlyN, s)]] ++ rowsW l)) := by
      rw [hE]
      exact hp
    rw [← hE] at hv2 ⊢
    have hp : Hp w [] w8 ([ownL eE 41 6 s2 c2 (l ++ [E]), blk db 13 (frOf (dB noN 2 (some ⟨pb, 0, none⟩) 1 1)) 32, ownL eP 52 2 (some ⟨pb, 0, none⟩) 1 [(onlyN, s)]] ++ rowsW (l ++ [E])) := by
      rw [rowsW_snoc, ← List.append_assoc]
      exact hp.perm (List.perm_append_singleton _ _).symm
    (repeat (first | (with_reducible first | apply WP_region | apply wpl_nil | apply thenQ_n | apply inBlk_n) | (apply wlp; apply pv_assign; exact fS rfl)))
    (apply wlp; (exact pv_add rfl rfl); exact int_eq (b := ((i + 1 : Nat) : Int)) (by rw [i64_in (by omega) (by omega)]; omega))
    (repeat (first | (with_reducible first | apply wpl_nil | apply thenQ_n) | (apply wlp; apply pv_move; exact fI rfl)))
    refine ⟨(i + 1, s2, c2, l ++ [E]), put_self (put_self (Same.eq (by repeat (first | exact Same.hav | exact Same.refl | refine Same.put rfl ?_ | refine Same.havs rfl ?_))) rfl) rfl, ⟨by dsimp only; omega, hv2, by dsimp only; rw [List.length_append, hll]; rfl, hone2, hp⟩, by dsimp only; omega⟩
  obtain rfl : m = l.length := by omega
  obtain rfl : i = l.length := by omega
  clear hi hlt
  have hps1 : ∀ p ∈ [(onlyN, s)], p.2 ≤ 9223372036854775807 := fun p hp => by
    rw [List.mem_singleton] at hp
    rw [hp]
    show s ≤ _
    omega
  have hE : EAt w5 sl l := ⟨ownL_At hp 0 rfl hvl (fun _ => rfl), fun e he => ownL_mem (e := 9) hp (List.mem_append_right [_, _, _] (List.mem_map_of_mem (f := fun e : En => ownL eS 9 1 e.ws e.wc e.wl) he)) (hone.2.2.2 e he) (fun _ => rfl), fun e he => by rw [hone.2.2.1 e he]; exact (show 2 ≤ 1000000 by omega)⟩
  have hP : SlAt w5 2 eP (some ⟨pb, 0, none⟩) [(onlyN, s)] := ownL_At hp 2 rfl (.inr ⟨pb, 1, rfl, Nat.le_refl _, by unfold maxLen; omega⟩) (fun _ => rfl)
  have hD : ∀ (j : Nat) (v : Value), (dB noN 2 (some ⟨pb, 0, none⟩) 1 1)[j]? = some v → w5.cell? ⟨db, 0 + j, none⟩ = some v := hp.cells 1 _ rfl rfl (fun j v hv => by rw [Nat.zero_add, frOf_eq, List.getD_eq_getElem?_getD, hv]; rfl)
  have hk5 := hp.keeps
  clear hp hvl
  have hp := Hp.start (M := []) (w := w5)
  obtain ⟨hc3, hf0, hwl, _⟩ := hone
  (repeat (first | (with_reducible first | apply WP_seq | apply WP_region | apply thenQ_n | apply thenQ_exit | apply WP_exit) | ((with_reducible apply inBlk_same); exact rfl) | (apply wlp; apply pv_move; exact fI rfl)))
  (apply wls; exact st_call rfl ent13 rfl (p13 l.length a _ (by omega) ha))
  rintro _ w6 ⟨so, co, rfl, hvo, hpo⟩
  have hp := hp.join hpo
  clear hpo
  have hX := shX_lt l.length a
  rw [← ord_rf l.length _ hX] at hvo hp ⊢
  have hol := ordN_len l.length (shX l.length a)
  have hio := ord_isO hX
  generalize ordN l.length (shX l.length a) = o at hol hio hvo hp
  clear hX
  have hOrd := Ord.of hio
  (repeat (first | (with_reducible first | apply WP_seq | apply WP_region | apply wpl_nil | apply thenQ_n) | (apply wlp; ((first | apply pv_assign | (apply pf_loadb; exact rfl)) <;> exact rfl); exact fS rfl)))
  (apply wlp; exact pf_loads (vs := dB noN 2 (some ⟨pb, 0, none⟩) 1 1) rfl rfl rfl rfl (fun j v hv => hp.old0 (hD j v hv)); exact fA13 rfl)
  (repeat (apply wlp; apply pv_move; exact fS rfl))
  (apply wls; exact st_call rfl ent14 rfl (p14 noN [(onlyN, s)] l o sl (some ⟨pb, 0, none⟩) so cl 1 co _ (hE.keep0 hp.keeps) (hP.keep0 hp.keeps) (ownL_At hp 0 rfl hvo (fun _ => rfl)) (by omega) (by show 1 ≤ 12; omega) hps1 hio (svl_none hvo)))
  rintro _ w7 ⟨ab, rfl, hva, hpo⟩
  have hp := hp.join hpo
  clear hpo
  have hat := fun k h0 hk => one_at (s := s) hOrd hc3 hf0 hwl k h0 hk
  have hAl := asg_len l [(onlyN, s)] o
  generalize asg l [(onlyN, s)] o = A at hat hAl hva hp
  have hsA : SlAt w7 1 eS (some ⟨ab, 0, none⟩) A := ownL_At hp 0 rfl hva (fun _ => rfl)
  have hso : SlAt w7 1 eI so o := ownL_At hp 1 rfl hvo (fun _ => rfl)
  have hE := hE.keep0 hp.keeps
  have hP := hP.keep0 hp.keeps
  have hD : ∀ (j : Nat) (v : Value), (dB noN 2 (some ⟨pb, 0, none⟩) 1 1)[j]? = some v → w7.cell? ⟨db, 0 + j, none⟩ = some v := fun j v hv => hp.old0 (hD j v hv)
  have hk7 := hk5.trans hp.keeps (by simp)
  clear hp hk5
  have hp := Hp.start (M := []) (w := w7)
  (repeat (first | (with_reducible first | apply WP_seq | apply WP_region | apply wpl_nil | apply thenQ_n) | (apply wlp; (intros; ((first | apply pv_move | apply pv_assign | (apply pf_len; exact rfl) | exact pv_orF rfl rfl | (apply pv_neq; (first | exact rfl | exact ev_sel rfl (by assumption))) | apply pv_not | apply pv_extract) <;> exact rfl)); (intros; (first | exact fI rfl | exact fB rfl | exact fS rfl | exact fU rfl))) | ((apply wlpT; exact rfl; exact rfl); (((first | apply pv_move | apply pv_assign | (apply pf_len; exact rfl) | exact pv_orF rfl rfl | (apply pv_neq; (first | exact rfl | exact ev_sel rfl (by assumption))) | apply pv_not | apply pv_extract) <;> exact rfl)); (intros; (first | exact fI rfl | exact fB rfl | exact fS rfl | exact fU rfl))) | (apply wlpF; exact rfl; exact rfl; exact rfl) | (apply wlpU; exact rfl; exact rfl)))
  refine WP_cond_nd rfl (fun h => absurd rfl h) (fun _ => ?_)
  (repeat (first | (with_reducible first | apply WP_seq | apply WP_block | apply WP_region | apply wpl_nil | apply thenQ_n | apply WP_skip) | (apply wlp; ((first | apply pv_move | (apply pf_len; exact rfl)) <;> exact rfl); (first | exact fI rfl | exact fS rfl))))
  refine WP_loopS [6, 16, 17, 67, 68, 69, 70, 71, 72, 73, 74, 75, 76, 77, 78, 79, 80, 81, 82, 83, 84, 85, 86, 87, 88, 89, 90, 91, 92, 93, 94, 95] (fun (k : Nat) F => F.put 67 (.int .i64 (k : Int))) (fun k w' => k ≤ o.length ∧ Hp w7 [] w' []) (fun k => o.length - k) 0 (put_self (Same.eq .refl) rfl) ⟨Nat.zero_le _, hp⟩ ?_
  clear hp
  rintro u2 k w8 ⟨hk, hp⟩
  (repeat (first | (with_reducible first | apply WP_seq | apply WP_region | apply wpl_nil | apply thenQ_n) | (apply wlp; (apply pv_lss <;> exact rfl); exact fB rfl)))
  refine WP_cond_d rfl (fun h => ?_) (fun h => ?_)
  · have hko : k < o.length := by omega
    have hxk := List.getElem?_eq_getElem hko
    have hbd := hOrd.bd _ (List.getElem_mem hko)
    have hmt := mem_take_get (t := s.toNat) hOrd.nd hxk
    obtain ⟨bo, oo, hsoe, hoc⟩ := hso.base (by omega)
    have hck := hoc k _ hxk 0 _ rfl
    generalize o[k] = x at hxk hbd hmt hck
    obtain ⟨q, rfl⟩ : ∃ q : Nat, x = q := ⟨x.toNat, by omega⟩
    have hqA : q < A.length := by omega
    have hql : q < l.length := by omega
    have hck : w7.cell? ⟨bo, oo + k * 1, none⟩ = some (.int .i64 (q : Int)) := hck
    have hq1 := hat q (by omega) (by omega)
    have hq2 : A[q]? = some (if (k : Int) < s then onlyN else noN) := by
      have h1 : xa A (q : Int) = A[q] := by
        unfold xa
        rw [Int.toNat_natCast, List.getElem?_eq_getElem hqA]
        rfl
      rw [List.getElem?_eq_getElem hqA, ← h1, hq1]
      congr 1
      by_cases hks : (k : Int) < s
      · rw [if_pos hks, if_pos (hmt.2 (by omega))]
      · rw [if_neg hks, if_neg (fun hh => hks (by have := hmt.1 hh; omega))]
    obtain ⟨_, _, hsAe, hAc⟩ := hsA.base (by omega)
    cases hsAe
    have hcA := hAc q _ hq2 0 _ rfl
    have hcA : w7.cell? ⟨ab, 0 + q * 1, none⟩ = some (.string (if (k : Int) < s then onlyN else noN)) := hcA
    by_cases hks : (k : Int) < s
    · rw [if_pos hks] at hcA
      (repeat (first | (with_reducible first | apply WP_seq | apply WP_block | apply WP_region | apply wpl_nil | apply thenQ_n | apply WP_skip) | (apply wlp; ((first | apply pv_move | apply pv_assign | (apply pf_load; exact rfl) | apply pv_lss | (apply pf_index; exact rfl) | (apply pv_seql; (first | exact rfl | exact ev_sel rfl (by assumption)))) <;> (first | exact rfl | assumption | exact hp.old0 (by assumption))); (first | exact fI rfl | exact fB rfl | exact fP rfl | exact fS rfl | exact fT rfl))))
      (apply wlp; exact pv_bneq Tryz.underlying4 rfl rfl; exact bool_eq (b := false) (by show (decide (onlyN = onlyN) != decide ((k : Int) < s)) = false; rw [decide_eq_true rfl, decide_eq_true hks]; rfl))
      (apply wlp; apply pv_move; exact fB rfl)
      ((apply wlpT; exact rfl; exact rfl); (apply pv_move); (intros; exact fS rfl))
      ((apply wlpT; exact rfl; exact rfl); (apply pv_move); (intros; exact fI rfl))
      ((apply wlpT; exact rfl; exact rfl); (((apply pf_index; exact rfl) <;> (first | exact rfl | assumption))); (intros; exact fP rfl))
      ((apply wlpT; exact rfl; exact rfl); (((apply pf_load; exact rfl) <;> (first | exact rfl | exact hp.old0 (by assumption)))); (intros; exact fT rfl))
      (apply wlpT; exact rfl; exact rfl; exact pv_sneq rfl rfl; exact bool_eq (b := false) (by show (!decide (onlyN = onlyN)) = false; rw [decide_eq_true rfl]; rfl))
      (repeat (first | (with_reducible first | apply wpl_nil | apply thenQ_n) | (apply wlp; (intros; (first | apply pv_move | exact pv_andF rfl | exact pv_orF rfl rfl)); (intros; exact fB rfl)) | ((apply wlpT; exact rfl; exact rfl); ((first | apply pv_move | exact pv_andF rfl | exact pv_orF rfl rfl)); (intros; exact fB rfl)) | (apply wlpF; exact rfl; exact rfl; exact rfl) | (apply wlpU; exact rfl; exact rfl)))
      refine WP_cond_f rfl ?_
      (repeat (with_reducible first | apply WP_region | apply thenQ_n | apply inBlk_n | apply WP_skip))
      (apply wlp; (exact pv_add rfl rfl); exact int_eq (b := ((k + 1 : Nat) : Int)) (by rw [i64_in (by omega) (by omega)]; omega))
      (repeat (first | (with_reducible first | apply wpl_nil | apply thenQ_n) | (apply wlp; apply pv_move; exact fI rfl)))
      exact ⟨k + 1, put_self (Same.eq (by repeat (first | exact Same.hav | exact Same.refl | refine Same.put rfl ?_ | refine Same.havs rfl ?_))) rfl, ⟨by omega, hp⟩, by omega⟩
    · rw [if_neg hks] at hcA
      (repeat (first | (with_reducible first | apply WP_seq | apply WP_block | apply WP_region | apply wpl_nil | apply thenQ_n | apply WP_skip) | (apply wlp; ((first | apply pv_move | apply pv_assign | (apply pf_load; exact rfl) | apply pv_lss | (apply pf_index; exact rfl) | (apply pv_seql; (first | exact rfl | exact ev_sel rfl (by assumption)))) <;> (first | exact rfl | assumption | exact hp.old0 (by assumption))); (first | exact fI rfl | exact fB rfl | exact fP rfl | exact fS rfl | exact fT rfl))))
      (apply wlp; exact pv_bneq Tryz.underlying4 rfl rfl; exact bool_eq (b := false) (by show (decide (noN = onlyN) != decide ((k : Int) < s)) = false; rw [decide_eq_false (fun e => only_ne (Eq.symm e)), decide_eq_false hks]; rfl))
      (apply wlp; apply pv_move; exact fB rfl)
      ((apply wlpT; exact rfl; exact rfl); (apply pv_move); (intros; exact fS rfl))
      ((apply wlpT; exact rfl; exact rfl); (apply pv_move); (intros; exact fI rfl))
      ((apply wlpT; exact rfl; exact rfl); (((apply pf_index; exact rfl) <;> (first | exact rfl | assumption))); (intros; exact fP rfl))
      ((apply wlpT; exact rfl; exact rfl); (((apply pf_load; exact rfl) <;> (first | exact rfl | exact hp.old0 (by assumption)))); (intros; exact fT rfl))
      (apply wlpT; exact rfl; exact rfl; exact pv_sneq rfl rfl; exact bool_eq (b := true) (by show (!decide (noN = onlyN)) = true; rw [decide_eq_false (fun e => only_ne (Eq.symm e))]; rfl))
      ((apply wlpT; exact rfl; exact rfl); (apply pv_move); (intros; exact fB rfl))
      ((apply wlpT; exact rfl; exact rfl); (apply pv_move); (intros; exact fS rfl))
      ((apply wlpT; exact rfl; exact rfl); (apply pv_move); (intros; exact fI rfl))
      ((apply wlpT; exact rfl; exact rfl); (((apply pf_index; exact rfl) <;> (first | exact rfl | assumption))); (intros; exact fP rfl))
      ((apply wlpT; exact rfl; exact rfl); (((apply pf_load; exact rfl) <;> (first | exact rfl | exact hp.old0 (by assumption)))); (intros; exact fT rfl))
      (apply wlpT; exact rfl; exact rfl; exact pv_sneq rfl rfl; exact bool_eq (b := false) (by show (!decide (noN = noN)) = false; rw [decide_eq_true rfl]; rfl))
      (repeat (first | (with_reducible first | apply wpl_nil | apply thenQ_n) | (apply wlp; (intros; (first | exact pv_andT rfl rfl | exact pv_orF rfl rfl)); (intros; exact fB rfl)) | ((apply wlpT; exact rfl; exact rfl); ((first | exact pv_andT rfl rfl | exact pv_orF rfl rfl)); (intros; exact fB rfl)) | (apply wlpF; exact rfl; exact rfl; exact rfl) | (apply wlpU; exact rfl; exact rfl)))
      refine WP_cond_f rfl ?_
      (repeat (with_reducible first | apply WP_region | apply thenQ_n | apply inBlk_n | apply WP_skip))
      (apply wlp; (exact pv_add rfl rfl); exact int_eq (b := ((k + 1 : Nat) : Int)) (by rw [i64_in (by omega) (by omega)]; omega))
      (repeat (first | (with_reducible first | apply wpl_nil | apply thenQ_n) | (apply wlp; apply pv_move; exact fI rfl)))
      exact ⟨k + 1, put_self (Same.eq (by repeat (first | exact Same.hav | exact Same.refl | refine Same.put rfl ?_ | refine Same.havs rfl ?_))) rfl, ⟨by omega, hp⟩, by omega⟩
  clear h hk hsA hso hat hva
  (repeat (first | (with_reducible first | apply WP_seq | apply WP_region | apply thenQ_n | apply thenQ_exit | apply WP_exit) | ((with_reducible apply inBlk_same); exact rfl) | (apply wlp; ((apply pf_loadb; exact rfl) <;> exact rfl); skip)))
  (apply wlp; exact pf_loads (vs := dB noN 2 (some ⟨pb, 0, none⟩) 1 1) rfl rfl rfl rfl (fun j v hv => hp.old0 (hD j v hv)); exact fA13 rfl)
  (repeat (apply wlp; apply pv_move; exact fS rfl))
  (apply wls; exact st_call rfl ent16 rfl (p16 noN [(onlyN, s)] l sl (some ⟨pb, 0, none⟩) cl 1 _ (hE.keep0 hp.keeps) (hP.keep0 hp.keeps) (by omega) (by show 1 ≤ 12; omega) hps1 (chain6 l.length (by omega))))
  rintro _ w9 ⟨sr, cr, rs, rfl, hsr, hrr, hrs, hk⟩
  have hkw := hk7.trans (hp.call hk).keeps (by simp)
  have hrl : rs.length = l.length := by
    have := congrArg List.length hrs
    rw [List.length_map] at this
    rw [this]
    unfold oddsL
    rw [List.length_map, List.length_range]
  clear hp hk hk7 hD hP hE
  have hp := Hp.start (M := []) (w := w9)
  (repeat (first | (with_reducible first | apply WP_seq | apply WP_region | apply wpl_nil | apply thenQ_n) | (apply wlp; (intros; ((first | apply pv_move | apply pv_assign | (apply pf_len; exact rfl) | exact pv_orF rfl rfl | (apply pv_neq; (first | exact rfl | exact ev_sel rfl (by assumption))) | apply pv_extract) <;> exact rfl)); (intros; (first | exact fI rfl | exact fB rfl | exact fS rfl | exact fU rfl))) | ((apply wlpT; exact rfl; exact rfl); (((first | apply pv_move | apply pv_assign | (apply pf_len; exact rfl) | exact pv_orF rfl rfl | (apply pv_neq; (first | exact rfl | exact ev_sel rfl (by assumption))) | apply pv_extract) <;> exact rfl)); (intros; (first | exact fI rfl | exact fB rfl | exact fS rfl | exact fU rfl))) | (apply wlpF; exact rfl; exact rfl; exact rfl) | (apply wlpU; exact rfl; exact rfl)))
  refine WP_cond_nd rfl (fun h => absurd (by rw [hrl]) h) (fun _ => ?_)
  (repeat (first | (with_reducible first | apply WP_seq | apply WP_block | apply WP_region | apply wpl_nil | apply thenQ_n | apply WP_skip) | (apply wlp; ((first | apply pv_move | (apply pf_len; exact rfl)) <;> exact rfl); (first | exact fI rfl | exact fS rfl))))
  refine WP_loopS [6, 21, 22, 23, 112, 113, 114, 115, 116, 117, 118, 119, 120, 121, 122, 123, 124, 125, 126, 127, 128, 129, 130, 131, 132, 133, 134, 135, 136, 137, 138, 139, 140, 141, 142, 143, 144, 145, 146, 147, 148] (fun (k : Nat) F => F.put 112 (.int .i64 (k : Int))) (fun k w' => k ≤ rs.length ∧ Hp w9 [] w' []) (fun k => rs.length - k) 0 (put_self (Same.eq .refl) rfl) ⟨Nat.zero_le _, hp⟩ ?_
  clear hp
  rintro u3 k w10 ⟨hk, hp⟩
  (repeat (first | (with_reducible first | apply WP_seq | apply WP_region | apply wpl_nil | apply thenQ_n) | (apply wlp; (apply pv_lss <;> exact rfl); exact fB rfl)))
  refine WP_cond_d rfl (fun h => ?_) (fun h => ?_)
  · have hkr : k < rs.length := by omega
    have hkl : k < l.length := by omega
    obtain ⟨br, orr, hsre, hrc⟩ := hsr.base (by omega)
    have hck := hrc k _ (List.getElem?_eq_getElem hkr) 0 _ rfl
    have hrow := hrr rs[k] (List.getElem_mem hkr)
    have hrk : rs[k].l = [rat (min s.toNat l.length) l.length, rat (l.length - min s.toNat l.length) l.length] := by
      have h1 : (rs.map QRow.l)[k]? = (oddsL l [(onlyN, s)])[k]? := by rw [hrs]
      rw [List.getElem?_map, List.getElem?_eq_getElem hkr] at h1
      unfold oddsL at h1
      rw [List.getElem?_map, List.getElem?_range hkl] at h1
      exact (Option.some.inj h1).trans (one_row hc3 hf0 hwl hkl)
    generalize rs[k] = r at hck hrow hrk
    obtain ⟨rsl, rc, rl⟩ := r
    have hrk : rl = _ := hrk
    subst hrk
    obtain ⟨t, ht⟩ : ∃ t, t = min s.toNat l.length := ⟨_, rfl⟩
    rw [← ht] at hck hrow
    have hck : w9.cell? ⟨br, orr + k * 1, none⟩ = some (.slice rsl 2 rc) := hck
    obtain ⟨bq, oq, hsq, hqc⟩ := hrow.base (by show 0 < 2; omega)
    have hq0 := hqc 0 _ rfl
    have hq1 := hqc 1 _ rfl
    have htm : t ≤ l.length := by omega
    have hm0 : 0 < l.length := by omega
    have fS : ∀ x, x ≤ 1000 → Fit x := fun x hx => Fit.small (by omega)
    have hR0 : Red (rat t l.length).1 (rat t l.length).2 := Red.low (fS t (by omega)) (fS _ (by omega)) hm0
    have hR1 : Red (rat (l.length - t) l.length).1 (rat (l.length - t) l.length).2 := Red.low (fS _ (by omega)) (fS _ (by omega)) hm0
    have hro := rat_one htm hm0
    have hb0 : (rat t l.length).1 ≤ 7 := Nat.le_trans (Nat.div_le_self _ _) (by omega)
    have hb1 : (rat t l.length).2 ≤ 7 := Nat.le_trans (Nat.div_le_self _ _) (by omega)
    have hb2 : (rat (l.length - t) l.length).1 ≤ 7 := Nat.le_trans (Nat.div_le_self _ _) (by omega)
    have hb3 : (rat (l.length - t) l.length).2 ≤ 7 := Nat.le_trans (Nat.div_le_self _ _) (by omega)
    have hp0 := hR0.d0
    have hp1 := hR1.d0
    have hRt : Red t 1 := ⟨Nat.gcd_one_right t, Nat.one_pos, fS t (by omega), one_fit⟩
    have hRm : Red l.length 1 := ⟨Nat.gcd_one_right _, Nat.one_pos, fS _ (by omega), one_fit⟩
    have hq18 := fun w => p18 (w := w) hRt hRm hm0 (fS _ (by omega)) (fS _ (by omega))
    rw [Nat.mul_one, Nat.one_mul] at hq18
    have hq18 : ∀ w, Ret Tryz.prog 18 [RV t 1, RV l.length 1] w (fun v w' => v = .tuple #[RV (rat t l.length).1 (rat t l.length).2, .bool true] ∧ Keeps [] w w') := hq18
    have hmul : ∀ x y, x ≤ 7 → y ≤ 7 → x * y ≤ 49 := fun x y hx hy => Nat.mul_le_mul hx hy
    have hq20 := fun w => p20 (w := w) hR0 hR1 (fS _ (Nat.le_trans (hmul _ _ hb0 hb3) (by decide))) (fS _ (Nat.le_trans (hmul _ _ hb2 hb1) (by decide))) (fS _ (Nat.le_trans (Nat.add_le_add (hmul _ _ hb0 hb3) (hmul _ _ hb2 hb1)) (by decide))) (fS _ (Nat.le_trans (hmul _ _ hb1 hb3) (by decide)))
    rw [hro, Nat.gcd_self, Nat.div_self (Nat.mul_pos hp0 hp1)] at hq20
    generalize rat t l.length = y0 at hq0 hq18 hq20
    generalize rat (l.length - t) l.length = y1 at hq1 hq20
    clear hR0 hR1 hro hb0 hb1 hb2 hb3 hp0 hp1 hmul hRt hRm hrow hqc
    (repeat (first | (with_reducible first | apply WP_seq | apply WP_block | apply WP_region | apply wpl_nil | apply thenQ_n | apply WP_skip) | (apply wlp; ((first | apply pv_move | apply pv_assign | (apply pf_load; exact rfl) | (apply pf_index; exact rfl)) <;> (first | exact rfl | assumption | exact hp.old0 (by assumption))); (first | exact fI rfl | exact fP rfl | exact rfl))))
    (apply wlp; exact pv_max rfl rfl; exact fI rfl)
    (apply wlp; apply pv_move; exact fI rfl)
    (apply wlp; exact pv_min rfl rfl; exact int_eq (b := (t : Int)) (by omega))
    (apply wls; exact st_call rfl ent19 rfl (p19 (t : Int) _ (by omega) (by omega)))
    rintro _ w11 ⟨rfl, hk11⟩
    have hp := hp.call hk11
    rw [Int.toNat_natCast]
    (repeat (apply wlp; apply pv_move; exact fI rfl))
    (apply wls; exact st_call rfl ent19 rfl (p19 (l.length : Int) _ (by omega) (by omega)))
    rintro _ w12 ⟨rfl, hk12⟩
    have hp := hp.call hk12
    rw [Int.toNat_natCast]
    skip
    (apply wls; exact st_call rfl ent18 rfl (hq18 _))
    rintro _ w13 ⟨rfl, hk13⟩
    have hp := hp.call hk13
    (repeat (apply wlp; ((first | apply pv_move | apply pv_extract) <;> exact rfl); (first | exact fB rfl | exact fA3 rfl | exact fU rfl)))
    (apply wls; exact salloc3 hp (zeroTy_ok rfl); rintro _ w14 ⟨tb, rfl, hp⟩)
    (apply wls0; exact sstore3 hp 0 rfl rfl rfl rfl (sizeTy_ok rfl) rfl; rintro _ w15 ⟨rfl, hp⟩)
    have hp := hp.norm 0 (eQ y0) rfl rfl
    (repeat (first | (with_reducible first | apply WP_seq | apply wpl_nil | apply thenQ_n) | (apply wlp; apply pv_assign; exact fB rfl)))
    refine WP_draw mixed (by kernel_rfl) (fun w' => Hp _ _ w' _) hp.drew ?_
    have hp := hp.drew
    (repeat (first | ((apply wdp; exact rfl); (intro w hp; intros; ((first | apply pv_move | (apply pf_len; exact rfl) | (apply pv_neq; (first | exact rfl | exact ev_sel rfl (by assumption))) | (apply pf_index; exact rfl)) <;> (first | exact rfl | assumption))); (intros; (first | exact fI rfl | exact fB rfl | exact rfl))) | ((apply wdpT; exact rfl; exact rfl; exact rfl); (intro w hp; ((first | apply pv_move | (apply pf_len; exact rfl) | (apply pv_neq; (first | exact rfl | exact ev_sel rfl (by assumption))) | (apply pf_index; exact rfl)) <;> (first | exact rfl | assumption))); (intros; (first | exact fI rfl | exact fB rfl | exact rfl))) | (apply wdpF; exact rfl; exact rfl; exact rfl; exact rfl) | (apply wdpU; exact rfl; exact rfl; exact rfl)))
    (apply wdpT; exact rfl; exact rfl; exact rfl; (intro w hp; exact pf_index (i := 0) rfl rfl rfl hsq (by decide)); exact fP rfl)
    (apply wdpT; exact rfl; exact rfl; exact rfl; (intro w hp; exact pf_loads (vs := eQ y0) rfl rfl rfl rfl (fun j v hv => hp.old0 (hq0 j v hv))); exact fA3 rfl)
    (apply wdpT; exact rfl; exact rfl; exact rfl; (intro w hp; exact pf_loadb rfl rfl rfl (hp.agg_blk 0 rfl rfl)); exact fA3 rfl)
    (apply wdpT; exact rfl; exact rfl; exact rfl; (intro w hp; exact pv_ne55 rfl rfl); exact bool_eq (b := false) (by simp))
    (repeat (first | ((apply wdp; exact rfl); (intro w hp; intros; ((first | apply pv_move | exact pv_orF rfl rfl | (apply pf_index; exact rfl)) <;> (first | exact rfl | assumption))); (intros; (first | exact fB rfl | exact rfl))) | ((apply wdpT; exact rfl; exact rfl; exact rfl); (intro w hp; ((first | apply pv_move | exact pv_orF rfl rfl | (apply pf_index; exact rfl)) <;> (first | exact rfl | assumption))); (intros; (first | exact fB rfl | exact rfl))) | (apply wdpF; exact rfl; exact rfl; exact rfl; exact rfl) | (apply wdpU; exact rfl; exact rfl; exact rfl)))
    (apply wdpT; exact rfl; exact rfl; exact rfl; (intro w hp; exact pf_index (i := 0) rfl rfl rfl hsq (by decide)); exact fP rfl)
    (apply wdpT; exact rfl; exact rfl; exact rfl; (intro w hp; exact pf_loads (vs := eQ y0) rfl rfl rfl rfl (fun j v hv => hp.old0 (hq0 j v hv))); exact fA3 rfl)
    (repeat (first | ((apply wdpT; exact rfl; exact rfl; exact rfl); (intro w hp; ((first | apply pv_move | (apply pf_index; exact rfl)) <;> (first | exact rfl | assumption))); (intros; exact rfl)) | (apply wdpF; exact rfl; exact rfl; exact rfl; exact rfl) | (apply wdpU; exact rfl; exact rfl; exact rfl)))
    (apply wdpT; exact rfl; exact rfl; exact rfl; (intro w hp; exact pf_index (i := 1) rfl rfl rfl hsq (by decide)); exact fP rfl)
    (apply wdpT; exact rfl; exact rfl; exact rfl; (intro w hp; exact pf_loads (vs := eQ y1) rfl rfl rfl rfl (fun j v hv => hp.old0 (hq1 j v hv))); exact fA3 rfl)
    (apply wdsT; exact rfl; exact rfl; exact rfl; exact st_call rfl ent20 rfl (hq20 _); rintro _ w16 ⟨rfl, hk16⟩; have hp := hp.call hk16; refine ⟨hp, ?_⟩)
    (apply wdsT; exact rfl; exact rfl; exact rfl; exact st_call rfl ent19 rfl (p19 1 _ (by decide) (by decide)); rintro _ w17 ⟨rfl, hk17⟩; have hp := hp.call hk17; refine ⟨hp, ?_⟩)
    rw [show (1 : Int).toNat = 1 from rfl]
    (apply wdpT; exact rfl; exact rfl; exact rfl; (intro w hp; exact pv_ne55 rfl rfl); exact bool_eq (b := false) (by simp))
    (repeat (first | ((apply wdp; exact rfl); (intro w hp; intros; exact pv_orF rfl rfl); (intros; exact fB rfl)) | (apply wdpF; exact rfl; exact rfl; exact rfl; exact rfl) | (apply wdpU; exact rfl; exact rfl; exact rfl)))
    refine wpd_nil ?_
    refine WP_cond_f rfl ?_
    (repeat (with_reducible first | apply WP_region | apply thenQ_n | apply inBlk_n | apply WP_skip))
    (apply wlp; (exact pv_add rfl rfl); exact int_eq (b := ((k + 1 : Nat) : Int)) (by rw [i64_in (by omega) (by omega)]; omega))
    (repeat (first | (with_reducible first | apply wpl_nil | apply thenQ_n) | (apply wlp; apply pv_move; exact fI rfl)))
    exact ⟨k + 1, put_self (Same.eq (by repeat (first | exact Same.hav | exact Same.refl | refine Same.put rfl ?_ | refine Same.havs rfl ?_))) rfl, ⟨by omega, hp.tail⟩, by omega⟩
  (repeat (first | (with_reducible first | apply WP_seq | apply WP_region | apply wpl_nil | apply thenQ_n | apply thenQ_exit | apply WP_ret | apply WP_exit) | ((with_reducible apply inBlk_same); exact rfl) | (apply wlp; (first | apply pv_move | apply pv_assign); exact fB rfl)))
  exact ret_tmp rfl rfl ⟨_, rfl, rfl, hkw.trans hp.keeps (by simp)⟩
end Go.Proofs.YtfjbioghpgmkiaaGreatDoor
