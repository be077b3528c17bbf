/- Merged texts of ours: Za Pf Ph Pi Od; conditions are the hypotheses of each law. -/
import Derived.Test.YtfjbioghpgmkiaaGreatDoorQ4
import Derived.Test.YtfjbioghpgmkiaaGreatDoorTie
import Derived.Test.YtfjbioghpgmkiaaGreatDoorCards
import Derived.WalkKit
import Derived.ProofKit
import Derived.OpenShut
import Derived.Carry
import Derived.Deep.Slices
import Derived.SizedLaws
import Derived.LaidLaws
import Derived.LaidHandle
import Derived.ChangeVars
import Derived.JoinedOf
import Derived.RowKit
/- How the arguments of the laws of layer 19 are read; a world in which the listed tables lie; what a law that answers true and changes nothing leaves; conditions are the hypotheses of each law. -/
namespace Go.Proofs.YtfjbioghpgmkiaaGreatDoor
open Go.Eng Go.ChangeShapes Go.WideShapes Go.ChangeAt Go.RowKit Go.Deep

theorem laid : laidOutB Tryz.prog = true := by kernel_rfl
theorem ownK : ownKnob Tryz.prog.godebug = none := by kernel_rfl

theorem spot_none {w : World} {a : Addr} {v : Value} (h : w.cell? a = some v) : a.spot = none := by
  unfold World.cell? at h
  split at h
  · split at h
    · cases h
    · rename_i h2
      cases hs : a.spot
      · rfl
      · rw [hs] at h2; simp at h2
  · cases h

section
variable {H : Type} {enc : TypeId × Value → H} {P : Program} {w : World} {base : Nat} {spare : Nat → Bool} {held : Bool}

/-- a slice whose elements are read one by one reads as a list -/
theorem open_list {α : Type} {f : α → List Value} {ok : α → Prop} {t e k fuel : Nat} {cs : List Value} {x : DataW H × List MemPlace} (ht : P.underlying t = some (.slice e)) (hk : P.cellsOf e = k) (hk0 : 0 < k)
    (hop : ∀ n cs' y, DataW.trod enc P w base spare held n e cs' = some y → ∃ a, cs' = f a ∧ ok a) (h : DataW.trod enc P w base spare held fuel t cs = some x) :
    ∃ s c, ∃ l : List α, cs = [.slice s l.length c] ∧ l.length ≤ c ∧ c ≤ maxLen ∧ SlAt w k f s l ∧ (∀ a ∈ l, ok a) ∧ (l = [] ∨ ∃ es rs, x.1 = .slice es rs ∧ es.length = l.length) := by
  rcases open_slice ht h with ⟨rfl, _⟩ | ⟨a, len, cap, m, n, D, Pl, rfl, hb, hl, hm, hmm, hxe, hx⟩
  · exact ⟨none, 0, [], rfl, Nat.le_refl _, by unfold maxLen; omega, by intro i x hx; simp at hx, by simp, .inl rfl⟩
  · have hlm : len ≤ m := by rw [hmm]; split <;> omega
    rw [hk] at hx
    have hex : ∀ i : Fin len, ∃ y, w.cells? base (a.add (i * k)) k = some (f y) ∧ ok y := by
      intro i
      obtain ⟨cs', h1, h2⟩ := hx i (by omega)
      obtain ⟨y, rfl, hy⟩ := hop _ _ _ h2
      exact ⟨y, h1, hy⟩
    refine ⟨some a, cap, List.ofFn fun i => Classical.choose (hex i), by simp, by simpa using hl, hm, ?_, ?_, .inr ⟨_, _, by rw [hxe], by simp⟩⟩
    · intro i y hy
      have hi : i < len := by have := (List.getElem?_eq_some_iff.1 hy).1; simpa using this
      have hyc : Classical.choose (hex ⟨i, hi⟩) = y := by
        rw [List.getElem?_ofFn] at hy
        simpa [hi] using hy
      have hsp := (Classical.choose_spec (hex ⟨i, hi⟩)).1
      rw [hyc] at hsp
      obtain ⟨_, hlen, hc⟩ := World.cells?_some hsp
      obtain ⟨_, hlen0, hc0⟩ := World.cells?_some (Classical.choose_spec (hex ⟨0, by omega⟩)).1
      have hs0 := spot_none ((hc0 0 (by omega)).trans (List.getElem?_eq_getElem (by omega)))
      have hsa : a.spot = none := by simpa [Addr.add] using hs0
      refine ⟨a.block, a.off, ?_, fun j v hv => ?_⟩
      · cases a
        simp at hsa
        subst hsa
        rfl
      · have hj : j < k := by rw [← hlen]; exact (List.getElem?_eq_some_iff.1 hv).1
        have := (hc j hj).trans hv
        cases a
        simp at hsa
        subst hsa
        rw [addr_add, addr_add] at this
        exact this
    · intro y hy
      rw [List.mem_ofFn] at hy
      obtain ⟨i, rfl⟩ := hy
      exact (Classical.choose_spec (hex i)).2

theorem trodAll_stays (hl : laidOutB P = true) {W W' : World} (hb : Below W.heap.size W W') {sp : Nat → Bool} : ∀ (ts : List TypeId) (vs : List Value) (ds : List (DataW H)) (ps : List MemPlace),
    (∀ t ∈ ts, P.readableRec t = true ∧ t < P.types.size) → DataW.TrodAll enc P W 0 (fun _ => true) true ts vs ds ps → (∀ x ∈ ps, x.block < W.heap.size) → (∀ x ∈ ps, sp x.block = true) →
    DataW.TrodAll enc P W' 0 sp true ts vs ds ps
  | [], vs, ds, ps, _, h, _, _ => by
    obtain ⟨rfl, rfl, rfl⟩ := trodAll_nil h
    exact trodAll_mk0
  | t :: ts, vs, ds, ps, ht, h, hlt, hsp => by
    obtain ⟨v, vs', d, ds', p, q, rfl, rfl, rfl, h1, h2⟩ := trodAll_cons h
    refine ⟨p, q, ?_, trodAll_stays hl hb ts vs' ds' q (fun t h => ht t (List.mem_cons_of_mem _ h)) h2 (fun x hx => hlt x (List.mem_append_right _ hx)) (fun x hx => hsp x (List.mem_append_right _ hx)), rfl⟩
    obtain ⟨hr, hrow⟩ := ht t (List.mem_cons_self ..)
    exact WideElems.Trod_stays hl hr hrow h1 (fun x hx => hb.same (hlt x (List.mem_append_left _ hx))) (fun x hx => hsp x (List.mem_append_left _ hx))
end

/-- an array whose elements are read one by one -/
theorem arr_list {α : Type} {f : α → List Value} {ok : α → Prop} {sz : Nat} : ∀ (k : Nat) (cs : List Value), cs.length = k * sz → (∀ i, i < k → ∃ a, (cs.drop (i * sz)).take sz = f a ∧ ok a) → ∃ l : List α, l.length = k ∧ cs = l.flatMap f ∧ ∀ a ∈ l, ok a
  | 0, cs, hl, _ => ⟨[], rfl, by simpa using hl, by simp⟩
  | k + 1, cs, hl, h => by
    obtain ⟨a, ha, hoa⟩ := h 0 (by omega)
    obtain ⟨l, h1, h2, h3⟩ := arr_list (f := f) (ok := ok) (sz := sz) k (cs.drop sz) (by rw [List.length_drop, hl, Nat.succ_mul]; omega) (by
      intro i hi
      obtain ⟨b, hb, hob⟩ := h (i + 1) (by omega)
      refine ⟨b, ?_, hob⟩
      rw [List.drop_drop]
      rw [show sz + i * sz = (i + 1) * sz from by rw [Nat.succ_mul]; omega]
      exact hb)
    refine ⟨a :: l, by simp [h1], ?_, ?_⟩
    · rw [List.flatMap_cons, ← h2, ← ha]
      simp
    · intro x hx
      rcases List.mem_cons.1 hx with rfl | hx
      · exact hoa
      · exact h3 x hx
section
variable {H : Type} {enc : TypeId × Value → H} {P : Program} {w : World} {base : Nat} {spare : Nat → Bool} {held : Bool}
theorem open_arr {α : Type} {f : α → List Value} {ok : α → Prop} {t e k sz fuel : Nat} {cs : List Value} {x : DataW H × List MemPlace} (ht : P.underlying t = some (.array k e)) (he : P.cellsOf e = sz) (hc : P.cellsOf t = k * sz)
    (hop : ∀ n cs' y, DataW.trod enc P w base spare held n e cs' = some y → ∃ a, cs' = f a ∧ ok a) (h : DataW.trod enc P w base spare held fuel t cs = some x) :
    ∃ l : List α, l.length = k ∧ cs = l.flatMap f ∧ ∀ a ∈ l, ok a := by
  obtain ⟨xs, m, _, _, hl, hlen, hf⟩ := DataW.trod_array ht h
  refine arr_list k cs (by rw [hl, hc]) fun i hi => ?_
  have := hf i hi
  rw [he, List.getElem?_eq_getElem (by omega)] at this
  exact hop _ _ _ this
end
/-- what a law leaves that answers true and keeps all that was there -/
theorem post_true {H : Type} {enc : TypeId × Value → H} {f : Func} {s : ChangeSpec} {W W' : World} {args : Array Value} {ds gs : List (DataW H)} {before : List MemPlace} (hW : DataW.Whole enc Tryz.prog f.params.toList s.vars false W args.toList ds gs before)
    (hv : s.vars = []) (hr : f.resultTypes = #[4]) (hts : ∀ t ∈ f.params.toList, Tryz.prog.readableRec t = true ∧ t < Tryz.prog.types.size)
    (hres : (s.fn H (ds ++ gs)).results = [.lit (.bool true)]) (hargs : (s.fn H (ds ++ gs)).args = ds) (hvs : (s.fn H (ds ++ gs)).vars = []) (hk : Keeps [] W W') :
    s.post enc Tryz.prog f false true false false W args (.bool true) W' := by
  have hW' := hW
  obtain ⟨p, q, hA, hV, rfl, hfz, hnd⟩ := hW
  rw [hv] at hV
  obtain ⟨rfl, rfl⟩ := trodVars_none hV
  have hlt : ∀ x ∈ p, x.block < W.heap.size := fun x hx => hW'.lt x (by simpa using hx)
  refine ⟨ds, [], _, [], p, [], hW', ?_, ?_, ?_, (hk.below.frame _), fun h => by cases h⟩
  · rw [hres, hr]
    exact trodAll_cons_mk (shut_bool Tryz.underlying4 _) trodAll_mk0
  · rw [hargs]
    exact trodAll_stays laid hk.below _ _ _ _ hts hA hlt (fun x hx => by simpa using hlt x hx)
  · rw [hvs, hv]
    rfl

theorem len2 {α : Type} {l : List α} (h : l.length = 2) : ∃ c0 c1, l = [c0, c1] := by
  obtain ⟨c0, l0, rfl⟩ : ∃ a t, l = a :: t := List.exists_cons_of_length_eq_add_one h
  obtain ⟨c1, l1, rfl⟩ : ∃ a t, l0 = a :: t := List.exists_cons_of_length_eq_add_one (by simpa using h)
  have : l1 = [] := List.eq_nil_of_length_eq_zero (by simpa using h)
  subst this
  exact ⟨c0, c1, rfl⟩
theorem len3 {α : Type} {l : List α} (h : l.length = 3) : ∃ c0 c1 c2, l = [c0, c1, c2] := by
  obtain ⟨c0, l0, rfl⟩ : ∃ a t, l = a :: t := List.exists_cons_of_length_eq_add_one h
  obtain ⟨c1, l1, rfl⟩ : ∃ a t, l0 = a :: t := List.exists_cons_of_length_eq_add_one (by simpa using h)
  obtain ⟨c2, l2, rfl⟩ : ∃ a t, l1 = a :: t := List.exists_cons_of_length_eq_add_one (by simpa using h)
  have : l2 = [] := List.eq_nil_of_length_eq_zero (by simpa using h)
  subst this
  exact ⟨c0, c1, c2, rfl⟩
section
variable {H : Type} {enc : TypeId × Value → H} {w : World} {base : Nat} {spare : Nat → Bool} {held : Bool} {n : Nat} {cs : List Value} {x : DataW H × List MemPlace}
theorem rd_int (h : DataW.trod enc Tryz.prog w base spare held n 3 cs = some x) : ∃ a : Int, cs = eI a ∧ -9223372036854775808 ≤ a ∧ a ≤ 9223372036854775807 := by
  obtain ⟨a, rfl, _, hw⟩ := DataW.trod_int Tryz.underlying3 h
  have e1 : IntKind.i64.min = -9223372036854775808 := by decide
  have e2 : IntKind.i64.max = 9223372036854775807 := by decide
  simp only [Lit.wf, Bool.and_eq_true, decide_eq_true_eq, e1, e2] at hw
  exact ⟨a, rfl, hw⟩
theorem rd_ints (h : DataW.trod enc Tryz.prog w base spare held n 30 cs = some x) : ∃ s c, ∃ l : List Int, cs = [.slice s l.length c] ∧ l.length ≤ c ∧ c ≤ maxLen ∧ SlAt w 1 eI s l ∧ (∀ a ∈ l, -9223372036854775808 ≤ a ∧ a ≤ 9223372036854775807) ∧ (l = [] ∨ ∃ es rs, x.1 = .slice es rs ∧ es.length = l.length) :=
  open_list Tryz.underlying30 (by kernel_rfl) (by decide) (fun _ _ _ h => rd_int h) h
end
/-- how long a list that came in can be -/
theorem sized_list {H α : Type} {ts : List TypeId} {ds : List (DataW H)} {l : List α} {j t e k : Nat} {d : DataW H} (h : (DataW.weightsEach Tryz.prog ts ds).all (· ≤ reachBytes) = true) (ht : ts[j]? = some t) (hd : ds[j]? = some d) (hu : Tryz.prog.underlying t = some (.slice e)) (hk : Tryz.prog.bytesOf e = k)
    (hx : l = [] ∨ ∃ es rs, d = .slice es rs ∧ es.length = l.length) : l.length * k ≤ 140737488351232 := by
  rcases hx with rfl | ⟨es, rs, rfl, he⟩
  · simp
  · have h1 := sized_slice h ht hd hu
    rw [hk] at h1
    have h2 : l.length * k ≤ (es.length + rs.length) * k := Nat.mul_le_mul_right k (by omega)
    exact Nat.le_trans h2 h1
/-! ### the tables -/
def cellsL : DataW Unit → List Value
  | .lit (.int k n) => [.int k n]
  | .agg [.lit (.int k n), .lit (.int q m)] => [.int k n, .int q m]
  | _ => []
def cellsA : DataW Unit → Array Value
  | .agg l => (l.flatMap cellsL).toArray
  | _ => #[]
noncomputable def laidWorld (os : Os) : World :=
  let w0 := World.holding Tryz.prog os ⟨#[], #[], []⟩
  { w0 with heap := (w0.heap.modify 0 fun
      | .cells _ t fr => .cells (cellsA Rows.laid_unicode_utf8_first) t fr
      | o => o).modify 1 fun
      | .cells _ t fr => .cells (cellsA Rows.laid_unicode_utf8_acceptRanges) t fr
      | o => o }
set_option maxRecDepth 100000 in
theorem laidWorld_met (os : Os) (args : Array Value) : laidMetH Tryz.prog Rows.placesKeepsRow.laid ((laidWorld os).forCall (fun _ _ => 0) ⟨#[], args, []⟩).memory :=
  laidMet_of_run (ps := (List.range 32).map (fun i => MemPlace.cell 1 i) ++ (List.range 256).map (fun i => MemPlace.cell 0 i)) 8 (by kernel_rfl) (by kernel_rfl) (by kernel_rfl)
theorem agg_of_cells {v : Value} {l : List Value} (h : v.cells.toList = l) (hl : 2 ≤ l.length) : v = .agg l.toArray := by
  cases v with
  | agg vs =>
    have : vs.toList = l := h
    subst this
    rfl
  | _ =>
    exfalso
    subst h
    simp [Value.cells] at hl
theorem slice_of_cells {P : Program} {W : World} {base t e : Nat} {v : Value} {s : Option Addr} {m c : Nat} (ht : P.underlying t = some (.slice e)) (hok : Value.okWide P W .any base t v) (h : v.cells.toList = [.slice s m c]) : v = .slice s m c := by
  cases v with
  | agg vs => simp [Value.okWide, ht, Cell.okWide, Cell.ok] at hok
  | slice a1 b1 c1 =>
    have e : Value.slice a1 b1 c1 = .slice s m c := by simpa [Value.cells] using h
    exact e
  | _ => simp [Value.cells] at h

/-! ### further kinds of arguments -/
theorem cells3 : Tryz.prog.cellsOf 3 = 1 := by kernel_rfl
theorem cells5 : Tryz.prog.cellsOf 5 = 1 := by kernel_rfl
theorem cells22 : Tryz.prog.cellsOf 22 = 1 := by kernel_rfl
theorem cells23 : Tryz.prog.cellsOf 23 = 1 := by kernel_rfl
theorem cells30 : Tryz.prog.cellsOf 30 = 1 := by kernel_rfl
theorem cells84 : Tryz.prog.cellsOf 84 = 2 := by kernel_rfl
theorem cells87 : Tryz.prog.cellsOf 87 = 3 := by kernel_rfl
theorem cells25 : Tryz.prog.cellsOf 25 = 2 := by kernel_rfl
section
variable {H : Type} {enc : TypeId × Value → H} {w : World} {base : Nat} {spare : Nat → Bool} {held : Bool} {n : Nat} {cs : List Value} {x : DataW H × List MemPlace}
def e3 (x : Int × Int × Int) : List Value := [.int .i64 x.1, .int .i64 x.2.1, .int .i64 x.2.2]
theorem rd_arr3 (h : DataW.trod enc Tryz.prog w base spare held n 78 cs = some x) : ∃ a : Int × Int × Int, cs = e3 a ∧ a.1 ≤ 9223372036854775807 := by
  obtain ⟨l, hl, rfl, hb⟩ := open_arr Tryz.underlying78 cells3 (by kernel_rfl) (fun _ _ _ h => rd_int h) h
  obtain ⟨a, b, c, rfl⟩ := len3 hl
  exact ⟨(a, b, c), rfl, (hb a (by simp)).2⟩
theorem rd_arr2 (h : DataW.trod enc Tryz.prog w base spare held n 84 cs = some x) : ∃ a : Int × Int, cs = eT2 a ∧ a.2 ≤ 9223372036854775807 := by
  obtain ⟨l, hl, rfl, hb⟩ := open_arr Tryz.underlying84 cells3 (by kernel_rfl) (fun _ _ _ h => rd_int h) h
  obtain ⟨a, b, rfl⟩ := len2 hl
  exact ⟨(a, b), rfl, (hb b (by simp)).2⟩
theorem rd_list2 (h : DataW.trod enc Tryz.prog w base spare held n 22 cs = some x) : ∃ s c, ∃ l : List (Int × Int), cs = [.slice s l.length c] ∧ l.length ≤ c ∧ c ≤ maxLen ∧ SlAt w 2 eT2 s l ∧ (∀ p ∈ l, p.2 ≤ 9223372036854775807) := by
  obtain ⟨s, c, l, h1, h2, h3, h4, h5, _⟩ := open_list Tryz.underlying22 cells84 (by decide) (fun _ _ _ h => rd_arr2 h) h
  exact ⟨s, c, l, h1, h2, h3, h4, h5⟩
theorem rd_u8 (h : DataW.trod enc Tryz.prog w base spare held n 5 cs = some x) : ∃ a : Nat, cs = eB a ∧ a < 256 := by
  obtain ⟨a, rfl, _, hw⟩ := DataW.trod_int Tryz.underlying5 h
  have e1 : IntKind.u8.min = 0 := by decide
  have e2 : IntKind.u8.max = 255 := by decide
  simp only [Lit.wf, Bool.and_eq_true, decide_eq_true_eq, e1, e2] at hw
  obtain ⟨k, rfl⟩ : ∃ k : Nat, a = k := ⟨a.toNat, by omega⟩
  exact ⟨k, rfl, by omega⟩
theorem rd_bytes (h : DataW.trod enc Tryz.prog w base spare held n 61 cs = some x) : ∃ s c, ∃ l : List Nat, cs = [.slice s l.length c] ∧ l.length ≤ c ∧ c ≤ maxLen ∧ SlAt w 1 eB s l ∧ (∀ a ∈ l, a < 256) ∧ (l = [] ∨ ∃ es rs, x.1 = .slice es rs ∧ es.length = l.length) :=
  open_list Tryz.underlying61 cells5 (by decide) (fun _ _ _ h => rd_u8 h) h
theorem rd_person (h : DataW.trod enc Tryz.prog w base spare held n 87 cs = some x) : ∃ p : Pe, cs = ePe p ∧ SlAt w 1 eI p.ws p.wl := by
  obtain ⟨xs, m, _, _, hl, hlen, hf⟩ := DataW.trod_struct Tryz.underlying87 h
  rw [cells87] at hl
  obtain ⟨c0, c1, c2, rfl⟩ := len3 hl
  have h0 : DataW.trod enc Tryz.prog w base spare held m 3 (([c0, c1, c2].drop 0).take (Tryz.prog.cellsOf 3)) = xs[0]? := hf 0 _ rfl
  rw [cells3] at h0
  have h1 : DataW.trod enc Tryz.prog w base spare held m 3 (([c0, c1, c2].drop 1).take (Tryz.prog.cellsOf 3)) = xs[1]? := hf 1 _ rfl
  rw [cells3] at h1
  have h2 : DataW.trod enc Tryz.prog w base spare held m 30 (([c0, c1, c2].drop 2).take (Tryz.prog.cellsOf 30)) = xs[2]? := hf 2 _ rfl
  rw [cells30] at h2
  simp at hlen
  obtain ⟨a, e0, _⟩ := rd_int (h0.trans (List.getElem?_eq_getElem (by omega)))
  obtain ⟨b, e1, _⟩ := rd_int (h1.trans (List.getElem?_eq_getElem (by omega)))
  obtain ⟨s, c, l, e2, _, _, hs, _⟩ := rd_ints (h2.trans (List.getElem?_eq_getElem (by omega)))
  simp [eI] at e0 e1 e2
  subst e0 e1 e2
  exact ⟨⟨a, b, s, c, l⟩, rfl, hs⟩
theorem rd_people (h : DataW.trod enc Tryz.prog w base spare held n 23 cs = some x) : ∃ s c, ∃ l : List Pe, cs = [.slice s l.length c] ∧ l.length ≤ c ∧ c ≤ maxLen ∧ SlAt w 3 ePe s l ∧ (∀ p ∈ l, SlAt w 1 eI p.ws p.wl) := by
  obtain ⟨s, c, l, h1, h2, h3, h4, h5, _⟩ := open_list Tryz.underlying23 cells87 (by decide) (fun _ _ _ h => rd_person h) h
  exact ⟨s, c, l, h1, h2, h3, h4, h5⟩
theorem rd_plan (h : DataW.trod enc Tryz.prog w base spare held n 25 cs = some x) : ∃ (sp : Option Addr) (cp : Nat) (lp : List (Int × Int)) (se : Option Addr) (ce : Nat) (le : List Pe), cs = [.slice sp lp.length cp, .slice se le.length ce] ∧
    SlAt w 2 eT2 sp lp ∧ (∀ p ∈ lp, p.2 ≤ 9223372036854775807) ∧ SlAt w 3 ePe se le ∧ (∀ p ∈ le, SlAt w 1 eI p.ws p.wl) := by
  obtain ⟨xs, m, _, _, hl, hlen, hf⟩ := DataW.trod_struct Tryz.underlying25 h
  rw [cells25] at hl
  obtain ⟨c0, c1, rfl⟩ := len2 hl
  have h0 : DataW.trod enc Tryz.prog w base spare held m 22 (([c0, c1].drop 0).take (Tryz.prog.cellsOf 22)) = xs[0]? := hf 0 _ rfl
  rw [cells22] at h0
  have h1 : DataW.trod enc Tryz.prog w base spare held m 23 (([c0, c1].drop 1).take (Tryz.prog.cellsOf 23)) = xs[1]? := hf 1 _ rfl
  rw [cells23] at h1
  simp at hlen
  obtain ⟨s, c, l, e0, _, _, hs, hb⟩ := rd_list2 (h0.trans (List.getElem?_eq_getElem (by omega)))
  obtain ⟨s2, c2, l2, e1, _, _, hs2, hb2⟩ := rd_people (h1.trans (List.getElem?_eq_getElem (by omega)))
  simp at e0 e1
  subst e0 e1
  exact ⟨s, c, l, s2, c2, l2, rfl, hs, hb, hs2, hb2⟩
end
end Go.Proofs.YtfjbioghpgmkiaaGreatDoor
/- Exchanging two numbers in all orders; counts of the orders in which one is among the first; plain. -/
namespace Go.Proofs.YtfjbioghpgmkiaaGreatDoor
open Go.Eng Go.Dig

/-- the exchange of a and b -/
def tr (a b x : Int) : Int := if x = a then b else if x = b then a else x
theorem tr_tr (a b x : Int) : tr a b (tr a b x) = x := by
  unfold tr
  split
  · rename_i h
    split
    · rename_i h2
      omega
    · simp [h]
  · rename_i h
    split
    · rename_i h2
      simp [h2]
    · rename_i h2
      simp
theorem tr_inj {a b x y : Int} (h : tr a b x = tr a b y) : x = y := by rw [← tr_tr a b x, h, tr_tr]
theorem tr_bd {a b x n : Int} (ha : 0 ≤ a ∧ a < n) (hb : 0 ≤ b ∧ b < n) (hx : 0 ≤ x ∧ x < n) : 0 ≤ tr a b x ∧ tr a b x < n := by
  unfold tr
  split
  · exact hb
  · split
    · exact ha
    · exact hx
theorem tr_a (a b : Int) : tr a b a = b := by simp [tr]
theorem tr_b (a b : Int) : tr a b b = a := by
  unfold tr
  split
  · rename_i h; exact h
  · simp
theorem isO_of {n : Nat} {l : List Int} (h : Ord n l) : isO n l = true := by
  unfold isO
  rw [Bool.and_eq_true, Bool.and_eq_true, decide_eq_true_eq, decide_eq_true_eq, List.all_eq_true]
  refine ⟨h.len, fun x hx => ?_, h.nd⟩
  rw [Bool.and_eq_true, decide_eq_true_eq, decide_eq_true_eq]
  exact h.bd x hx
theorem ord_tr {n : Nat} {a b : Int} {o : List Int} (ha : 0 ≤ a ∧ a < n) (hb : 0 ≤ b ∧ b < n) (h : Ord n o) : Ord n (o.map (tr a b)) := by
  refine ⟨?_, fun k hk => ?_, by rw [List.length_map]; exact h.len⟩
  · unfold List.Nodup
    rw [List.pairwise_map]
    exact List.Pairwise.imp (fun h e => h (tr_inj e)) h.nd
  · obtain ⟨x, hx, rfl⟩ := List.mem_map.1 hk
    exact tr_bd ha hb (h.bd x hx)
theorem map_tr_tr (a b : Int) (o : List Int) : (o.map (tr a b)).map (tr a b) = o := by
  rw [List.map_map]
  conv => rhs; rw [← List.map_id o]
  congr 1
  funext x
  exact tr_tr a b x
theorem os_tr {n : Nat} {a b : Int} (ha : 0 ≤ a ∧ a < n) (hb : 0 ≤ b ∧ b < n) (p : List Int → Bool) : (osT n (fact n)).countP (fun o => p (o.map (tr a b))) = (osT n (fact n)).countP p :=
  os_map (f := List.map (tr a b)) (fun _ h => isO_of (ord_tr ha hb (Ord.of h))) (fun o o' _ _ h => by rw [← map_tr_tr a b o, h, map_tr_tr]) p
theorem os_congr {n : Nat} {p q : List Int → Bool} (h : ∀ o, isO n o = true → p o = q o) : (osT n (fact n)).countP p = (osT n (fact n)).countP q := by
  refine List.countP_congr fun o ho => ?_
  rw [h o (os_mem.1 ho)]

/-! how many orders have i among the first t -/
def cT (n t : Nat) (i : Int) : Nat := (osT n (fact n)).countP fun o => decide (i ∈ o.take t)
theorem cT_same {n t : Nat} {i j : Int} (hi : 0 ≤ i ∧ i < n) (hj : 0 ≤ j ∧ j < n) : cT n t i = cT n t j := by
  unfold cT
  rw [← os_tr hi hj (fun o => decide (j ∈ o.take t))]
  refine os_congr fun o _ => ?_
  rw [decide_eq_decide, ← List.map_take, List.mem_map]
  constructor
  · intro h
    exact ⟨i, h, tr_a i j⟩
  · rintro ⟨x, hx, he⟩
    have : x = i := by rw [← tr_tr i j x, he, tr_b]
    rw [← this]
    exact hx
theorem nd_le {α : Type} [BEq α] [LawfulBEq α] : ∀ {a b : List α}, a.Nodup → (∀ x ∈ a, x ∈ b) → a.length ≤ b.length
  | [], _, _, _ => Nat.zero_le _
  | x :: a, b, hn, hs => by
    obtain ⟨hx, hn⟩ := List.nodup_cons.1 hn
    have hp := List.perm_cons_erase (hs x List.mem_cons_self)
    have h1 := nd_le (b := b.erase x) hn (fun y hy => (List.mem_erase_of_ne (by rintro rfl; exact hx hy)).2 (hs y (List.mem_cons_of_mem _ hy)))
    have := hp.length_eq
    rw [List.length_cons] at this ⊢
    omega
theorem cnt_in {n : Nat} {L : List Int} (hn : L.Nodup) (hb : ∀ x ∈ L, 0 ≤ x ∧ x < n) : (List.range n).countP (fun (i : Nat) => decide ((i : Int) ∈ L)) = L.length := by
  have h1 : (List.range n).countP (fun (i : Nat) => decide ((i : Int) ∈ L)) = (idn n).countP fun x => decide (x ∈ L) := by
    unfold idn
    rw [List.countP_map]
    rfl
  rw [h1, List.countP_eq_length_filter]
  refine Nat.le_antisymm (nd_le ((idn_ris n).nd.filter _) fun x hx => ?_) (nd_le hn fun x hx => ?_)
  · simpa using (List.mem_filter.1 hx).2
  · exact List.mem_filter.2 ⟨idn_mem.2 (hb x hx), by simpa using hx⟩
theorem sum_const {α : Type} (f : α → Nat) (c : Nat) : ∀ l : List α, (∀ x ∈ l, f x = c) → (l.map f).sum = l.length * c
  | [], _ => by simp
  | x :: l, h => by
    rw [List.map_cons, List.sum_cons, sum_const f c l (fun y hy => h y (List.mem_cons_of_mem _ hy)), h x List.mem_cons_self, List.length_cons, Nat.add_mul, Nat.one_mul, Nat.add_comm]
theorem sum_add {α : Type} (f g : α → Nat) : ∀ l : List α, (l.map fun x => f x + g x).sum = (l.map f).sum + (l.map g).sum
  | [] => rfl
  | x :: l => by
    rw [List.map_cons, List.map_cons, List.map_cons, List.sum_cons, List.sum_cons, List.sum_cons, sum_add f g l]
    omega
theorem sum_swap {α β : Type} (p : α → β → Bool) : ∀ (A : List α) (B : List β), (A.map fun a => B.countP fun b => p a b).sum = (B.map fun b => A.countP fun a => p a b).sum
  | [], B => by
    rw [sum_const (fun b => ([] : List α).countP fun a => p a b) 0 B (fun _ _ => rfl)]
    rfl
  | a :: A, B => by
    have e : (fun b => (a :: A).countP fun a => p a b) = fun b => (A.countP fun a => p a b) + (if p a b = true then 1 else 0) := by
      funext b
      rw [List.countP_cons]
    rw [List.map_cons, List.sum_cons, sum_swap p A B, e, sum_add]
    have h2 : ∀ B : List β, (B.map fun b => if p a b = true then 1 else 0).sum = B.countP fun b => p a b := by
      intro B
      induction B with
      | nil => rfl
      | cons b B ih =>
        rw [List.map_cons, List.sum_cons, List.countP_cons, ih, Nat.add_comm]
    rw [h2, Nat.add_comm]
theorem os_len (n : Nat) : (osT n (fact n)).length = fact n := by simp [osT]
theorem cT_mul {n t : Nat} {i : Int} (hi : 0 ≤ i ∧ i < n) : n * cT n t i = fact n * min t n := by
  have h1 := sum_swap (fun (i : Nat) (o : List Int) => decide ((i : Int) ∈ o.take t)) (List.range n) (osT n (fact n))
  rw [sum_const (fun (j : Nat) => (osT n (fact n)).countP fun (o : List Int) => decide ((j : Int) ∈ List.take t o)) (cT n t i) _ (fun j hj => (cT_same (t := t) (i := i) (j := (j : Int)) hi ⟨by omega, by have := List.mem_range.1 hj; omega⟩).symm), sum_const _ (min t n) _ (fun o ho => ?_), List.length_range, os_len] at h1
  · exact h1
  · have hO := Ord.of (os_mem.1 ho)
    rw [cnt_in (hO.nd.sublist (List.take_sublist t o)) (fun x hx => hO.bd x (List.mem_of_mem_take hx)), List.length_take, hO.len]
/-! equal fractions have equal lowest terms -/
theorem rat_eq {a b c d : Nat} (hb : 0 < b) (hd : 0 < d) (h : a * d = c * b) : rat a b = rat c d := by
  have hg1 : 0 < Nat.gcd a b := Nat.gcd_pos_of_pos_right a hb
  have hg2 : 0 < Nat.gcd c d := Nat.gcd_pos_of_pos_right c hd
  have e1 : Nat.gcd (a * d) (b * d) = Nat.gcd a b * d := Nat.gcd_mul_right a d b
  have e2 : Nat.gcd (c * b) (d * b) = Nat.gcd c d * b := Nat.gcd_mul_right c b d
  have e3 : Nat.gcd a b * d = Nat.gcd c d * b := by rw [← e1, ← e2, h, Nat.mul_comm b d]
  unfold rat
  have q1 : a / Nat.gcd a b = c / Nat.gcd c d := by
    rw [← Nat.mul_div_mul_right a (Nat.gcd a b) hd, e3, h, Nat.mul_div_mul_right c (Nat.gcd c d) hb]
  have q2 : b / Nat.gcd a b = d / Nat.gcd c d := by
    rw [← Nat.mul_div_mul_right b (Nat.gcd a b) hd, e3, Nat.mul_comm b d, Nat.mul_div_mul_right d (Nat.gcd c d) hb]
  rw [q1, q2]
end Go.Proofs.YtfjbioghpgmkiaaGreatDoor
/- The plain law of Families: the members of a family follow each other in the turns; plain. -/
namespace Go.Proofs.YtfjbioghpgmkiaaGreatDoor
open Go.Eng Go.Dig

/-- what is alike stands together -/
def Ctg (g : Int → Int) (T : List Int) : Prop := ∀ A x B y C, T = A ++ x :: (B ++ y :: C) → g x = g y → g x ≠ 0 → ∀ z ∈ B, g z = g x
theorem Ctg.nil (g : Int → Int) : Ctg g [] := fun A x B y C h => by
  cases A <;> simp at h
theorem Ctg.block {g : Int → Int} {n : Int} {F T : List Int} (hF : ∀ m ∈ F, g m = g n) (hT : ∀ m ∈ T, g n ≠ 0 → g m ≠ g n) (_hz : g n = 0 → F = []) (h : Ctg g T) : Ctg g (n :: (F ++ T)) := by
  intro A x B y C he hxy hx z hzB
  have hlen : A.length + 1 + B.length < (n :: (F ++ T)).length := by rw [he]; simp; omega
  by_cases hA : A.length ≤ F.length
  · -- x is in the block
    have hxn : g x = g n := by
      have e1 : (n :: (F ++ T))[A.length]? = some x := by rw [he]; simp
      cases hq : A.length with
      | zero => rw [hq] at e1; simp at e1; rw [e1]
      | succ q =>
        rw [hq, List.getElem?_cons_succ, List.getElem?_append_left (by omega)] at e1
        exact hF x (List.mem_of_getElem? e1)
    have hyB : A.length + 1 + B.length ≤ F.length := by
      rcases Nat.lt_or_ge F.length (A.length + 1 + B.length) with hgt | hle
      · exfalso
        have e1 : (n :: (F ++ T))[A.length + 1 + B.length]? = some y := by
          rw [he, List.getElem?_append_right (by omega), show A.length + 1 + B.length - A.length = B.length + 1 by omega, List.getElem?_cons_succ, List.getElem?_append_right (Nat.le_refl _), Nat.sub_self]
          rfl
        rw [show A.length + 1 + B.length = (A.length + B.length) + 1 by omega, List.getElem?_cons_succ, List.getElem?_append_right (by omega)] at e1
        exact hT y (List.mem_of_getElem? e1) (by rw [← hxn]; exact hx) (by rw [← hxy, hxn])
      · exact hle
    obtain ⟨q, hq, hqz⟩ := List.getElem_of_mem hzB
    have e1 : (n :: (F ++ T))[A.length + 1 + q]? = some z := by
      rw [he, List.getElem?_append_right (by omega), show A.length + 1 + q - A.length = q + 1 by omega, List.getElem?_cons_succ, List.getElem?_append_left hq, List.getElem?_eq_getElem hq, hqz]
    rw [show A.length + 1 + q = (A.length + q) + 1 by omega, List.getElem?_cons_succ, List.getElem?_append_left (by omega)] at e1
    rw [hxn]
    exact hF z (List.mem_of_getElem? e1)
  · -- behind the block
    have e2 : T = A.drop (F.length + 1) ++ x :: (B ++ y :: C) := by
      have := congrArg (List.drop (F.length + 1)) he
      rw [List.drop_succ_cons, List.drop_append_of_le_length (Nat.le_refl _), List.drop_length, List.nil_append, List.drop_append_of_le_length (by omega)] at this
      exact this
    exact h _ x B y C e2 hxy hx z hzB
theorem tl_ctg {r : Int → Int → Bool} {g : Int → Int} (P : Int → Prop) (hr : ∀ a b, P a → P b → (r a b = true ↔ g a ≠ 0 ∧ g a = g b)) : ∀ Q D : List Int, (∀ x ∈ Q, P x) → Ctg g (tl r Q D) ∧ ∀ m ∈ tl r Q D, m ∉ D
  | [], _, _ => ⟨Ctg.nil g, fun m hm => by cases hm⟩
  | n :: Q, D, hP => by
    have hPQ : ∀ x ∈ Q, P x := fun x hx => hP x (List.mem_cons_of_mem _ hx)
    have hPn := hP n List.mem_cons_self
    by_cases hn : n ∈ D
    · rw [tl_skip hn]
      exact tl_ctg P hr Q D hPQ
    · rw [tl_take hn]
      obtain ⟨h1, h2⟩ := tl_ctg P hr Q (D ++ [n] ++ fl (r n) (D ++ [n]) Q) hPQ
      have hFm : ∀ m ∈ fl (r n) (D ++ [n]) Q, m ∈ Q ∧ m ∉ D ++ [n] ∧ r n m = true := fun m hm => by
        have h3 := List.mem_filter.1 hm
        rw [Bool.and_eq_true, Bool.not_eq_true', decide_eq_false_iff_not] at h3
        exact ⟨h3.1, h3.2.1, h3.2.2⟩
      refine ⟨Ctg.block (fun m hm => ?_) (fun m hm h0 he => ?_) (fun h0 => ?_) h1, fun m hm => ?_⟩
      · obtain ⟨q1, _, q3⟩ := hFm m hm
        exact ((hr n m hPn (hPQ m q1)).1 q3).2.symm
      · have hmQ := tl_mem hm
        have hnd := h2 m hm
        have hrm : r n m = true := (hr n m hPn (hPQ m hmQ)).2 ⟨h0, he.symm⟩
        apply hnd
        by_cases hx : m ∈ D ++ [n]
        · exact List.mem_append_left _ hx
        · refine List.mem_append_right _ (List.mem_filter.2 ⟨hmQ, ?_⟩)
          rw [decide_eq_false hx, hrm]
          rfl
      · rw [List.eq_nil_iff_forall_not_mem]
        intro m hm
        obtain ⟨q1, _, q3⟩ := hFm m hm
        exact ((hr n m hPn (hPQ m q1)).1 q3).1 h0
      · rcases List.mem_cons.1 hm with rfl | hm
        · exact hn
        · rcases List.mem_append.1 hm with hm | hm
          · exact fun hD => (hFm m hm).2.1 (List.mem_append_left _ hD)
          · exact fun hD => h2 m hm (List.mem_append_left _ (List.mem_append_left _ hD))
/-- at most one family is divided by a cut -/
theorem ctg_cut {g : Int → Int} {T : List Int} (h : Ctg g T) (s : Nat) {x y x' y' : Int} (hx : x ∈ T.take s) (hy : y ∈ T.drop s) (hx' : x' ∈ T.take s) (hy' : y' ∈ T.drop s) (e : g x = g y) (e0 : g x ≠ 0) (e' : g x' = g y') (e0' : g x' ≠ 0) : g x = g x' := by
  obtain ⟨A, B, hA⟩ := List.append_of_mem hx
  obtain ⟨C, E, hC⟩ := List.append_of_mem hy
  obtain ⟨A', B', hA'⟩ := List.append_of_mem hx'
  obtain ⟨C', E', hC'⟩ := List.append_of_mem hy'
  have hT : T = T.take s ++ T.drop s := (List.take_append_drop s T).symm
  -- the last before the cut
  have key : ∀ {A B C E : List Int} {x y : Int}, T.take s = A ++ x :: B → T.drop s = C ++ y :: E → g x = g y → g x ≠ 0 → ∀ (L : List Int) (u : Int), T.take s = L ++ [u] → g u = g x := by
    intro A B C E x y hA hC e e0 L u hL
    rcases List.eq_nil_or_concat B with rfl | ⟨B', v, rfl⟩
    · have := (List.append_inj' (hL.symm.trans hA) rfl).2
      rw [List.cons.inj this |>.1]
    · have h1 : T = A ++ x :: ((B' ++ v :: C) ++ y :: E) := by
        rw [hT, hA, hC]
        simp
      have h2 := h A x (B' ++ v :: C) y E h1 e e0 v (by simp)
      have h3 : L ++ [u] = (A ++ x :: B') ++ [v] := by rw [← hL, hA]; simp
      have := (List.append_inj' h3 rfl).2
      rw [List.cons.inj this |>.1]
      exact h2
  rcases List.eq_nil_or_concat (T.take s) with h0 | ⟨L, u, hL⟩
  · rw [h0] at hx; cases hx
  · have hL : T.take s = L ++ [u] := by rw [hL]; simp
    rw [← key hA hC e e0 L u hL, key hA' hC' e' e0' L u hL]
end Go.Proofs.YtfjbioghpgmkiaaGreatDoor
/- The plain law of Families: who gets the place, how many of each family, at most one family is divided; plain. -/
namespace Go.Proofs.YtfjbioghpgmkiaaGreatDoor
open Go.Eng Go.Dig

/-- how often, as a map holds it -/
def cM (L : List Int) (x : Int) : Option Value := if L.count x = 0 then none else some (.int .i64 ((L.count x : Nat) : Int))
theorem cM_nil : (fun _ => none) = cM [] := by
  funext x
  unfold cM
  rw [if_pos (by simp)]
theorem cM_look (L : List Int) (x : Int) : (cM L x).getD (.int .i64 0) = .int .i64 ((L.count x : Nat) : Int) := by
  unfold cM
  split
  · rename_i h
    rw [h]
    rfl
  · rfl
theorem cM_put (L : List Int) (f : Int) : (fun x => if x = f then some (Value.int .i64 ((L.count f + 1 : Nat) : Int)) else cM L x) = cM (L ++ [f]) := by
  funext x
  unfold cM
  by_cases h : x = f
  · subst h
    rw [if_pos rfl, List.count_append, List.count_singleton_self, if_neg (by omega)]
  · have h2 : (L ++ [f]).count x = L.count x := by
      rw [List.count_append, List.count_singleton]
      have : (f == x) = false := by simp [Ne.symm h]
      rw [this]
      rfl
    rw [if_neg h, h2]

/-! ### the entrants -/
structure FamL (l : List En) : Prop where
  cls : ∀ e ∈ l, e.cls = 0
  wl : ∀ e ∈ l, e.wl = [aN]
def famF (l : List En) (k : Int) : Int := ((l[k.toNat]?).map En.fam).getD 0
theorem famF_get {l : List En} {k : Nat} {e : En} (h : l[k]? = some e) : famF l (k : Int) = e.fam := by
  unfold famF
  rw [Int.toNat_natCast, h]
  rfl
theorem relF_fam {l : List En} (h : FamL l) {a b : Int} (ha : 0 ≤ a ∧ a < l.length) (hb : 0 ≤ b ∧ b < l.length) : relF l a b = true ↔ famF l a ≠ 0 ∧ famF l a = famF l b := by
  have h1 : a.toNat < l.length := by omega
  have h2 : b.toNat < l.length := by omega
  unfold relF famF
  rw [List.getElem?_eq_getElem h1, List.getElem?_eq_getElem h2]
  show relB l[a.toNat] l[b.toNat] = true ↔ l[a.toNat].fam ≠ 0 ∧ l[a.toNat].fam = l[b.toNat].fam
  unfold relB
  rw [h.cls _ (List.getElem_mem h1), h.cls _ (List.getElem_mem h2)]
  simp
theorem trn_ctg {l : List En} (h : FamL l) {ord : List Int} (hO : Ord l.length ord) : Ctg (famF l) (trn l ord) := by
  unfold trn
  refine (tl_ctg (fun x => 0 ≤ x ∧ x < l.length) (fun a b ha hb => relF_fam (a := a) (b := b) h ha hb) _ [] (fun x hx => ?_)).1
  exact hO.bd x ((srt_perm (clsF l) ord).mem_iff.1 hx)
structure InvF (m : Nat) (s : Int) (A : List Int) (S : AS) : Prop where
  len : S.2.length = m
  left : (S.1 aN).getD 0 = s - (min A.length s.toNat : Nat)
  at_ : ∀ k : Int, 0 ≤ k → k < m → xa S.2 k = if k ∈ A.take s.toNat then aN else noN
theorem InvF.step {l : List En} {s : Int} {A : List Int} {S : AS} {k : Int} (hw : ∀ e ∈ l, e.wl = [aN]) (h : InvF l.length s A S) (h0 : 0 ≤ k) (hk : k < l.length) (_hkA : k ∉ A) : InvF l.length s (A ++ [k]) (stepA l S k) := by
  have hlt : k.toNat < l.length := by omega
  have hws : wsh l k = [aN] := by
    unfold wsh
    rw [List.getElem?_eq_getElem hlt]
    exact hw _ (List.getElem_mem hlt)
  have hl := h.left
  by_cases hpos : A.length < s.toNat
  · have ho : avl S.1 aN = true := by
      unfold avl
      rw [decide_eq_true_eq, hl]
      omega
    have hf : (wsh l k).find? (avl S.1) = some aN := by
      rw [hws, List.find?_cons, ho]
    rw [stepA_some hf]
    refine ⟨by simp [h.len], ?_, ?_⟩
    · show ((if aN = aN then some ((S.1 aN).getD 0 - 1) else S.1 aN).getD 0) = _
      rw [if_pos rfl, Option.getD_some, hl, List.length_append]
      show _ = s - (min (A.length + 1) s.toNat : Nat)
      omega
    · intro j hj0 hj
      have e1 : (A ++ [k]).take s.toNat = A ++ [k] := List.take_of_length_le (by rw [List.length_append]; show A.length + 1 ≤ _; omega)
      have e2 : A.take s.toNat = A := List.take_of_length_le (by omega)
      show xa (S.2.set k.toNat aN) j = _
      rw [xa_set h0 (by rw [h.len]; exact hk) hj0, h.at_ j hj0 hj, e1, e2]
      by_cases hjk : j = k
      · rw [if_pos hjk, if_pos (by simp [hjk])]
      · rw [if_neg hjk]
        congr 1
        simp [hjk]
  · have ho : avl S.1 aN = false := by
      unfold avl
      rw [decide_eq_false_iff_not, hl]
      omega
    have hf : (wsh l k).find? (avl S.1) = none := by
      rw [hws, List.find?_cons, ho, List.find?_nil]
    rw [stepA_none hf]
    refine ⟨h.len, ?_, ?_⟩
    · rw [hl, List.length_append]
      show _ = s - (min (A.length + 1) s.toNat : Nat)
      omega
    · intro j hj0 hj
      rw [h.at_ j hj0 hj, List.take_append_of_le_length (by omega)]
theorem aN_ne : aN ≠ noN := by decide
theorem InvF.start (l : List En) (s : Int) : InvF l.length s [] (asg0 l [(aN, s)]) := by
  refine ⟨by simp [asg0], ?_, ?_⟩
  · show (stO [(aN, s)] aN).getD 0 = _
    unfold stO
    rw [if_neg aN_ne, List.find?_cons, decide_eq_true rfl]
    show s = s - (min 0 s.toNat : Nat)
    omega
  · intro k h0 hk
    show xa (List.replicate l.length noN) k = _
    unfold xa
    have : k.toNat < l.length := by omega
    rw [List.getElem?_replicate, if_pos this]
    simp
theorem InvF.all {l : List En} {s : Int} (hw : ∀ e ∈ l, e.wl = [aN]) : ∀ A : List Int, A.Nodup → (∀ k ∈ A, 0 ≤ k ∧ k < l.length) → InvF l.length s A (gA l [(aN, s)] A) := by
  intro A
  induction A using rev_ind with
  | nil => exact fun _ _ => InvF.start l s
  | append_singleton A k ih =>
    intro hn hb
    rw [gA_snoc]
    have h1 := List.nodup_append.1 hn
    have hk := hb k (by simp)
    exact InvF.step hw (ih h1.1 (fun x hx => hb x (List.mem_append_left _ hx))) hk.1 hk.2 (fun h => h1.2.2 k h k (by simp) rfl)
/-- who gets the place -/
theorem fam_at {l : List En} {s : Int} {ord : List Int} (hO : Ord l.length ord) (h : FamL l) (k : Int) (h0 : 0 ≤ k) (hk : k < l.length) :
    xa (asg l [(aN, s)] ord) k = if k ∈ (trn l ord).take s.toNat then aN else noN :=
  (InvF.all h.wl (trn l ord) hO.trn.nd hO.trn.bd).at_ k h0 hk

/-! ### counts -/
/-- the families of those below i that are in L -/
def gotL (l : List En) (L : List Int) (i : Nat) : List Int := ((List.range i).filter fun (k : Nat) => decide ((k : Int) ∈ L)).map fun (k : Nat) => famF l (k : Int)
def famL (l : List En) (i : Nat) : List Int := (List.range i).map fun (k : Nat) => famF l (k : Int)
def allN (L : List Int) (i : Nat) : Nat := (List.range i).countP fun (k : Nat) => decide ((k : Int) ∈ L)
theorem gotL_succ (l : List En) (L : List Int) (i : Nat) : gotL l L (i + 1) = if (i : Int) ∈ L then gotL l L i ++ [famF l (i : Int)] else gotL l L i := by
  unfold gotL
  rw [List.range_succ, List.filter_append, List.map_append]
  by_cases h : (i : Int) ∈ L
  · rw [if_pos h]
    simp [h]
  · rw [if_neg h]
    simp [h]
theorem allN_succ (L : List Int) (i : Nat) : allN L (i + 1) = if (i : Int) ∈ L then allN L i + 1 else allN L i := by
  unfold allN
  rw [List.range_succ, List.countP_append]
  by_cases h : (i : Int) ∈ L
  · rw [if_pos h]
    simp [h]
  · rw [if_neg h]
    simp [h]
theorem allN_eq {n t : Nat} {T : List Int} (hO : Ord n T) : allN (T.take t) n = min t n := by
  unfold allN
  rw [cnt_in (hO.nd.sublist (List.take_sublist t T)) (fun x hx => hO.bd x (List.mem_of_mem_take hx)), List.length_take, hO.len]
theorem famL_map (l : List En) : famL l l.length = l.map En.fam := by
  unfold famL
  apply List.ext_getElem
  · simp
  · intro i h1 h2
    have hi : i < l.length := by simpa using h2
    rw [List.getElem_map, List.getElem_map, List.getElem_range, famF_get (List.getElem?_eq_getElem hi)]
/-- the family f is divided -/
def cutB (l : List En) (L : List Int) (f : Nat) : Bool := decide (0 < (gotL l L l.length).count (f : Int)) && decide ((gotL l L l.length).count (f : Int) < (famL l l.length).count (f : Int))
theorem got_mem {l : List En} {L : List Int} {f : Int} (h : 0 < (gotL l L l.length).count f) : ∃ k : Nat, k < l.length ∧ (k : Int) ∈ L ∧ famF l (k : Int) = f := by
  have := List.count_pos_iff.1 h
  unfold gotL at this
  obtain ⟨k, hk, he⟩ := List.mem_map.1 this
  obtain ⟨h1, h2⟩ := List.mem_filter.1 hk
  exact ⟨k, List.mem_range.1 h1, by simpa using h2, he⟩
theorem cut_mem {l : List En} {L : List Int} {f : Int} (h : (gotL l L l.length).count f < (famL l l.length).count f) : ∃ k : Nat, k < l.length ∧ (k : Int) ∉ L ∧ famF l (k : Int) = f := by
  apply Classical.byContradiction
  intro hn
  have hall : ∀ k : Nat, k < l.length → famF l (k : Int) = f → (k : Int) ∈ L := fun k hk he => Classical.byContradiction fun hx => hn ⟨k, hk, hx, he⟩
  have : (gotL l L l.length).count f = (famL l l.length).count f := by
    unfold gotL famL
    rw [List.count_eq_countP, List.count_eq_countP, List.countP_map, List.countP_map, List.countP_filter]
    refine List.countP_congr fun k hk => ?_
    have hk := List.mem_range.1 hk
    simp only [Function.comp, Bool.and_eq_true, beq_iff_eq, decide_eq_true_eq]
    exact ⟨fun h => h.1, fun h => ⟨h, hall k hk h⟩⟩
  omega
theorem cut_one {l : List En} (h : FamL l) {ord : List Int} (hO : Ord l.length ord) (t : Nat) {f f' : Nat} (hf0 : 0 < f) (hf0' : 0 < f') (hf : cutB l ((trn l ord).take t) f = true) (hf' : cutB l ((trn l ord).take t) f' = true) : f = f' := by
  have hT := hO.trn
  unfold cutB at hf hf'
  rw [Bool.and_eq_true, decide_eq_true_eq, decide_eq_true_eq] at hf hf'
  obtain ⟨x, hx, hxL, hxf⟩ := got_mem hf.1
  obtain ⟨y, hy, hyL, hyf⟩ := cut_mem hf.2
  obtain ⟨x', hx', hxL', hxf'⟩ := got_mem hf'.1
  obtain ⟨y', hy', hyL', hyf'⟩ := cut_mem hf'.2
  have hall : ∀ k : Nat, k < l.length → (k : Int) ∉ (trn l ord).take t → (k : Int) ∈ (trn l ord).drop t := fun k hk hn => by
    have hm : (k : Int) ∈ trn l ord := hT.all _ (by omega) (by omega)
    rw [← List.take_append_drop t (trn l ord)] at hm
    rcases List.mem_append.1 hm with h | h
    · exact absurd h hn
    · exact h
  have := ctg_cut (trn_ctg h hO) t hxL (hall y hy hyL) hxL' (hall y' hy' hyL') (by rw [hxf, hyf]) (by rw [hxf]; omega) (by rw [hxf', hyf']) (by rw [hxf']; omega)
  rw [hxf, hxf'] at this
  omega
def splN (l : List En) (L : List Int) (f : Nat) : Nat := (List.range f).countP fun g => cutB l L (g + 1)
theorem splN_succ (l : List En) (L : List Int) (f : Nat) : splN l L (f + 1) = if cutB l L (f + 1) = true then splN l L f + 1 else splN l L f := by
  unfold splN
  rw [List.range_succ, List.countP_append]
  by_cases h : cutB l L (f + 1) = true
  · rw [if_pos h]
    simp [h]
  · rw [if_neg h]
    simp [h]
theorem splN_le {l : List En} (h : FamL l) {ord : List Int} (hO : Ord l.length ord) (t f : Nat) : splN l ((trn l ord).take t) f ≤ 1 := by
  unfold splN
  apply Classical.byContradiction
  intro hn
  have h2 : 1 < ((List.range f).filter fun g => cutB l ((trn l ord).take t) (g + 1)).length := by
    rw [← List.countP_eq_length_filter]
    omega
  obtain ⟨a, b, r, hr⟩ : ∃ a b r, ((List.range f).filter fun g => cutB l ((trn l ord).take t) (g + 1)) = a :: b :: r := by
    match hq : ((List.range f).filter fun g => cutB l ((trn l ord).take t) (g + 1)), h2 with
    | a :: b :: r, _ => exact ⟨a, b, r, rfl⟩
  have hnd : (a :: b :: r).Nodup := by
    rw [← hr]
    exact List.nodup_range.filter _
  have ha := (List.mem_filter.1 (show a ∈ ((List.range f).filter fun g => cutB l ((trn l ord).take t) (g + 1)) by rw [hr]; simp)).2
  have hb := (List.mem_filter.1 (show b ∈ ((List.range f).filter fun g => cutB l ((trn l ord).take t) (g + 1)) by rw [hr]; simp)).2
  have := cut_one h hO t (by omega) (by omega) ha hb
  have hab : a ≠ b := by
    rintro rfl
    simp at hnd
  omega
end Go.Proofs.YtfjbioghpgmkiaaGreatDoor
/- The law PlacesFamilies returns true; conditions: the list of bytes lies in memory. -/
namespace Go.Proofs.YtfjbioghpgmkiaaGreatDoor
open Go.Eng Go.Dig

theorem mp62 : Tryz.prog.underlying 62 = some (.map 3 3) ∧ Tryz.prog.underlying 3 = some kInt.kd ∧ TZero Tryz.prog 3 (.int .i64 0) := ⟨Tryz.underlying62, Tryz.underlying3, zeroTy_ok rfl⟩
theorem FamL.snoc {l : List En} {e : En} (h : FamL l) (h1 : e.cls = 0) (h2 : e.wl = [aN]) : FamL (l ++ [e]) := by
  have key : ∀ {p : En → Prop}, (∀ x ∈ l, p x) → p e → ∀ x ∈ l ++ [e], p x := fun hl he x hx => by
    rcases List.mem_append.1 hx with hx | hx
    · exact hl x hx
    · rw [List.mem_singleton] at hx
      rw [hx]
      exact he
  exact ⟨key h.cls h1, key h.wl h2⟩
theorem mem_snoc_all {l : List En} {e : En} {p : En → Prop} (hl : ∀ x ∈ l, p x) (he : p e) : ∀ x ∈ l ++ [e], p x := fun x hx => by
  rcases List.mem_append.1 hx with hx | hx
  · exact hl x hx
  · rw [List.mem_singleton] at hx
    rw [hx]
    exact he
theorem cnt_le8 {L : List Int} {x : Int} {n : Nat} (h : L.length ≤ n) : L.count x ≤ n := Nat.le_trans List.count_le_length h
theorem gotL_len (l : List En) (L : List Int) (i : Nat) : (gotL l L i).length ≤ i := by
  unfold gotL
  rw [List.length_map]
  exact Nat.le_trans (List.length_filter_le _ _) (by simp)
theorem famL_len (l : List En) (i : Nat) : (famL l i).length = i := by simp [famL]
theorem allN_le (L : List Int) (i : Nat) : allN L i ≤ i := by
  unfold allN
  exact Nat.le_trans List.countP_le_length (by simp)
theorem splN_b (l : List En) (L : List Int) (i : Nat) : splN l L i ≤ i := by
  unfold splN
  exact Nat.le_trans List.countP_le_length (by simp)

attribute [local irreducible] PV StepF wpl wpd WP Ret
attribute [local irreducible] Fit srt tl fl seenL stO isO trn fact ordN rfO num asg nmI cM gotL famL allN splN cutB

set_option maxHeartbeats 16000000 in
theorem c6 (z : List Nat) (s0 : Nat) (a : Int) (s : Option Addr) (c : Nat) (w : World) (hs : SlAt w 1 eB s z) (hz : z.length ≤ 9223372036854775806) (_hs0 : s0 ≤ 255) (ha : a ≤ 9223372036854775807) :
    Ret Tryz.prog 6 [.slice s z.length c, .int .u8 (s0 : Int), .int .i64 a] w (fun v w' => v = .bool true ∧ Keeps [] w w') := by
  have hs9 := Nat.mod_lt s0 (show 10 > 0 by decide)
  refine Ret.of_WP Tryz.func6 rfl Tryz.ntmps6 rfl ?_
  have hp := Hp.start (M := []) (w := w)
  (repeat (first | (with_reducible first | apply WP_seq | apply WP_region | apply wpl_nil | apply thenQ_n) | (apply wlp; apply pv_assign; exact fB rfl)))
  (apply wls; exact st_call rfl ent11 rfl (p11 _))
  rintro _ w1 ⟨rfl, hk⟩
  have hp := hp.call hk
  (repeat (first | (with_reducible first | apply WP_seq | apply WP_region | apply wpl_nil | apply thenQ_n) | (apply wlp; apply pv_assign; (first | exact fB rfl | exact fS rfl))))
  (apply wls; exact st_makemap kInt hp; rintro _ w2 ⟨mb, rfl, hp⟩)
  rw [cM_nil] at hp
  have hp := hp.nilL eE 41 6
  have hp : Hp w [] w2 ([ownL eE 41 6 none 0 [], mapE kInt mb (cM (([] : List En).map En.fam))] ++ rowsW []) := hp
  (repeat (first | (with_reducible first | apply WP_seq | apply WP_block | apply WP_region | apply wpl_nil | apply thenQ_n) | (apply wlp; apply pv_assign; (first | exact fI rfl | exact fM rfl))))
  refine WP_loopS [8, 10, 11, 24, 25, 26, 27, 28, 29, 30, 31, 32, 33, 34, 35, 36, 37, 38, 39, 40, 41, 42, 43, 44, 45, 46, 47, 48, 49, 50] (fun (X : Nat × Option Addr × Nat × List En) F => (F.put 8 (.slice X.2.1 X.2.2.2.length X.2.2.1)).put 10 (.int .i64 (X.1 : Int)))
    (fun X w' => X.1 ≤ z.length ∧ X.1 ≤ 8 ∧ SVL X.2.1 X.2.2.1 X.2.2.2 ∧ X.2.2.2.length = X.1 ∧ FamL X.2.2.2 ∧ (∀ e ∈ X.2.2.2, SVL e.ws e.wc e.wl) ∧ Hp w [] w' ([ownL eE 41 6 X.2.1 X.2.2.1 X.2.2.2, mapE kInt mb (cM (X.2.2.2.map En.fam))] ++ rowsW X.2.2.2)) (fun X => 8 - X.1) (0, none, 0, [])
    (put_self (put_self (Same.eq .refl) rfl) rfl) ⟨Nat.zero_le _, Nat.zero_le _, .nil, rfl, ⟨by simp, by simp⟩, by simp, hp⟩ ?_
  (repeat clear hp)
  rintro u ⟨i, sl, cl, l⟩ w5 ⟨hi, hi8, hvl, hll, hfam, hsv, hp⟩
  dsimp only at hi hi8 hvl hll hfam hsv hp ⊢
  (repeat (first | (with_reducible first | apply WP_seq | apply WP_region | apply wpl_nil | apply thenQ_n) | ((first | apply wlp | (apply wlg; exact rfl; exact rfl)); (intros; ((first | apply pv_move | (apply pf_len; exact rfl) | exact pv_and rfl rfl rfl | apply pv_lss) <;> (first | exact rfl | exact ev_sel rfl (by assumption)))); (intros; (first | exact fI rfl | exact fB rfl | exact fS rfl)))))
  refine WP_cond rfl (fun hlt => ?_) (fun hlt => ?_)
  · simp only [Bool.and_eq_true, decide_eq_true_eq] at hlt
    have hlt8 : i < 8 := by omega
    have hlt : i < z.length := by omega
    obtain ⟨b0, o0, hse, hc0⟩ := hs.base (by omega)
    have hci := hc0 i _ (List.getElem?_eq_getElem hlt) 0 _ rfl
    generalize z[i] = q at hci
    have hci : w.cell? ⟨b0, o0 + i * 1, none⟩ = some (.int .u8 (q : Int)) := hci
    have hf4 := Nat.mod_lt q (show 4 > 0 by decide)
    (repeat (first | (with_reducible first | apply WP_seq | apply WP_block | apply WP_region | apply thenQ_n | apply WP_skip) | (apply wlp; ((first | apply pv_move | (apply pf_load; exact rfl) | (apply pf_index; exact rfl)) <;> (first | exact rfl | assumption | exact hp.old0 (by assumption))); (first | exact fI rfl | exact fP rfl | exact fS rfl))))
    (apply wlp; exact pv_rem rfl rfl (by decide); exact int_eq (b := ((q % 4 : Nat) : Int)) (int_rem q 4))
    (apply wlp; exact pf_conv rfl rfl rfl; exact int_eq (i64_in (by omega) (by omega)))
    generalize q % 4 = f at hf4
    clear hci hc0
    (repeat (first | (with_reducible first | apply WP_seq | apply WP_region | apply wpl_nil | apply thenQ_n) | (apply wlp; (first | apply pv_move | apply pv_assign); (first | exact fI rfl | exact fS rfl))))
    (apply wls; exact sf_slice hp rfl rfl rfl rfl rfl rfl rfl; rintro _ w6 ⟨wb, rfl, hp⟩)
    have hp := hp.rowOf (cs := [.string aN]) 0 1 1 rfl rfl
    have hp : Hp w [] w6 (ownL eS 9 1 (some ⟨wb, 0, none⟩) 1 [aN] :: ([ownL eE 41 6 sl cl l, mapE kInt mb (cM (l.map En.fam))] ++ rowsW l)) := hp
    (repeat (apply wlp; ((apply pf_build; exact rfl) <;> exact rfl); exact fA6 rfl))
    (apply wls; exact sf_slice hp rfl rfl rfl rfl rfl rfl rfl; rintro _ w7 ⟨nb, rfl, hp⟩)
    (apply wls; exact sf_app1 eE l ⟨(i : Int), 0, (f : Int), some ⟨wb, 0, none⟩, 1, [aN]⟩ hp 2 0 rfl rfl rfl rfl rfl rfl (fun _ => rfl) rfl rfl rfl hvl rfl rfl (by omega); rintro _ w8 ⟨s2, c2, rfl, hv2, hp⟩)
    obtain ⟨E, hE⟩ : ∃ E : En, E = ⟨(i : Int), 0, (f : Int), some ⟨wb, 0, none⟩, 1, [aN]⟩ := ⟨_, rfl⟩
    have hE4 : SVL E.ws E.wc E.wl := by rw [hE]; exact .inr ⟨wb, 1, rfl, by show 1 ≤ 1; omega, by show 1 ≤ maxLen; unfold maxLen; omega⟩
    have hfam2 := FamL.snoc (e := E) hfam (by rw [hE]) (by rw [hE])
    have hsv2 := mem_snoc_all (p := fun e => SVL e.ws e.wc e.wl) hsv hE4
    have hEf : E.fam = (f : Int) := by rw [hE]
    have hp := hp.tail
    have hp : Hp w [] w8 (ownL eS 9 1 E.ws E.wc E.wl :: ([ownL eE 41 6 s2 c2 (l ++ [E]), mapE kInt mb (cM (l.map En.fam))] ++ rowsW l)) := by
      rw [hE]
      exact hp
    rw [← hE] at hv2 ⊢
    have hcnt := cnt_le8 (L := l.map En.fam) (x := (f : Int)) (n := 8) (by rw [List.length_map]; omega)
    have hput := cM_put (l.map En.fam) (f : Int)
    have hlk := cM_look (l.map En.fam) (f : Int)
    have hfe : (l ++ [E]).map En.fam = l.map En.fam ++ [(f : Int)] := by rw [List.map_append, ← hEf]; rfl
    rw [← hfe] at hput
    generalize (l.map En.fam).count (f : Int) = n at hcnt hput hlk
    (repeat (first | (with_reducible first | apply WP_region | apply wpl_nil | apply thenQ_n) | (apply wlp; (first | apply pv_move | apply pv_assign); (first | exact fI rfl | exact fS rfl | exact fM rfl))))
    (apply wlp; exact pv_lookup (K := kInt) (a := (f : Int)) hp 2 rfl rfl rfl mp62.1 mp62.2.1 mp62.2.2; exact hlk)
    (apply wlp; (exact pv_add rfl rfl); exact int_eq (b := ((n + 1 : Nat) : Int)) (by rw [i64_in (by omega) (by omega)]; omega))
    (apply wls0; exact st_mapput (K := kInt) (a := (f : Int)) (v := .int .i64 ((n + 1 : Nat) : Int)) hp 2 rfl rfl rfl rfl mp62.1 mp62.2.1; rintro _ w9 ⟨rfl, hp⟩)
    have hp : Hp w [] w9 (ownL eS 9 1 E.ws E.wc E.wl :: ([ownL eE 41 6 s2 c2 (l ++ [E]), mapE kInt mb (fun x => if x = (f : Int) then some (.int .i64 ((n + 1 : Nat) : Int)) else cM (l.map En.fam) x)] ++ rowsW l)) := hp
    rw [hput] at hp
    have hp : Hp w [] w9 ([ownL eE 41 6 s2 c2 (l ++ [E]), mapE kInt mb (cM ((l ++ [E]).map En.fam))] ++ rowsW (l ++ [E])) := by
      rw [rowsW_snoc, ← List.append_assoc]
      exact hp.perm (List.perm_append_singleton _ _).symm
    (repeat (first | (with_reducible first | apply WP_region | apply wpl_nil | apply thenQ_n | apply inBlk_n) | (apply wlp; apply pv_move; exact fI rfl)))
    (apply wlp; (exact pv_add rfl rfl); exact int_eq (b := ((i + 1 : Nat) : Int)) (by rw [i64_in (by omega) (by omega)]; omega))
    (repeat (first | (with_reducible first | apply wpl_nil | apply thenQ_n) | (apply wlp; apply pv_assign; exact fI rfl)))
    refine ⟨(i + 1, s2, c2, l ++ [E]), put_self (put_self (Same.eq (by repeat (first | exact Same.hav | exact Same.refl | refine Same.put rfl ?_ | refine Same.havs rfl ?_))) rfl) rfl, ⟨by dsimp only; omega, by dsimp only; omega, hv2, by dsimp only; rw [List.length_append, hll]; rfl, hfam2, hsv2, hp⟩, by dsimp only; omega⟩
  clear hlt hi
  have hl8 : l.length ≤ 8 := by omega
  clear hll
  (repeat (first | (with_reducible first | apply WP_seq | apply WP_region | apply thenQ_n | apply thenQ_exit | apply WP_exit) | ((with_reducible apply inBlk_same); exact rfl) | (apply wlp; apply pv_move; exact fI rfl)))
  (apply wlp; exact pv_rem rfl rfl (by decide); exact int_eq (b := ((s0 % 10 : Nat) : Int)) (int_rem s0 10))
  (apply wlp; exact pf_conv rfl rfl rfl; exact int_eq (i64_in (by omega) (by omega)))
  (repeat (apply wlp; ((apply pf_build; exact rfl) <;> exact rfl); exact fA2 rfl))
  (apply wls; exact sf_slice hp rfl rfl rfl rfl rfl rfl rfl; rintro _ w6 ⟨pb, rfl, hp⟩)
  (repeat (apply wlp; ((apply pf_build; exact rfl) <;> exact rfl); exact fA13 rfl))
  (apply wls; exact salloc13 hp (zeroTy_ok rfl); rintro _ w7 ⟨db, rfl, hp⟩)
  (apply wls0; exact sstore13 hp 0 rfl rfl rfl rfl (sizeTy_ok rfl) rfl; rintro _ w8 ⟨rfl, hp⟩)
  have hp := hp.norm 0 (dB noN 2 (some ⟨pb, 0, none⟩) 1 1) rfl rfl
  have hp := hp.rowOf (cs := [.string aN, .int .i64 ((s0 % 10 : Nat) : Int)]) 1 2 1 rfl rfl
  obtain ⟨S, hS⟩ : ∃ S, S = s0 % 10 := ⟨_, rfl⟩
  have hp : Hp w [] w8 ([blk db 13 (frOf (dB noN 2 (some ⟨pb, 0, none⟩) 1 1)) 32, ownL eP 52 2 (some ⟨pb, 0, none⟩) 1 [(aN, (S : Int))], ownL eE 41 6 sl cl l, mapE kInt mb (cM (l.map En.fam))] ++ rowsW l) := by
    rw [hS]
    exact hp
  rw [← famL_map l] at hp
  have hps1 : ∀ p ∈ [(aN, (S : Int))], p.2 ≤ 9223372036854775807 := fun p hp => by
    rw [List.mem_singleton] at hp
    rw [hp]
    show (S : Int) ≤ _
    omega
  (repeat (first | (with_reducible first | apply WP_seq | apply WP_region | apply wpl_nil | apply thenQ_n) | (apply wlp; ((first | apply pv_move | (apply pf_len; exact rfl)) <;> exact rfl); (first | exact fI rfl | exact fS rfl))))
  (apply wls; exact st_call rfl ent13 rfl (p13 l.length a _ (by omega) ha))
  rintro _ w9 ⟨so, co, rfl, hvo, hpo⟩
  have hp := hp.join hpo
  clear hpo
  have hX := shX_lt l.length a
  rw [← ord_rf l.length _ hX] at hvo hp ⊢
  have hol := ordN_len l.length (shX l.length a)
  have hio := ord_isO hX
  generalize ordN l.length (shX l.length a) = o at hol hio hvo hp
  clear hX
  have hOrd := Ord.of hio
  have hp : Hp w [] w9 ([ownL eI 3 1 so co o, blk db 13 (frOf (dB noN 2 (some ⟨pb, 0, none⟩) 1 1)) 32, ownL eP 52 2 (some ⟨pb, 0, none⟩) 1 [(aN, (S : Int))], ownL eE 41 6 sl cl l, mapE kInt mb (cM (famL l l.length))] ++ rowsW l) := hp
  have hE : EAt w9 sl l := ⟨ownL_At hp 3 rfl hvl (fun _ => rfl), fun e he => ownL_mem (e := 9) hp (List.mem_append_right [_, _, _, _, _] (List.mem_map_of_mem (f := fun e : En => ownL eS 9 1 e.ws e.wc e.wl) he)) (hsv e he) (fun _ => rfl), fun e he => by rw [hfam.wl e he]; exact (show 1 ≤ 1000000 by omega)⟩
  have hP : SlAt w9 2 eP (some ⟨pb, 0, none⟩) [(aN, (S : Int))] := ownL_At hp 2 rfl (.inr ⟨pb, 1, rfl, Nat.le_refl _, by unfold maxLen; omega⟩) (fun _ => rfl)
  (repeat (first | (with_reducible first | apply WP_seq | apply WP_region | apply wpl_nil | apply thenQ_n) | (apply wlp; ((first | apply pv_move | apply pv_assign | (apply pf_loadb; exact rfl)) <;> (first | exact rfl | exact hp.agg_blk 1 rfl rfl)); (first | exact fS rfl | exact fA13 rfl))))
  (apply wls; exact st_call rfl ent14 rfl (p14 noN [(aN, (S : Int))] l o sl (some ⟨pb, 0, none⟩) so cl 1 co _ hE hP (ownL_At hp 0 rfl hvo (fun _ => rfl)) (by omega) (by show 1 ≤ 12; omega) hps1 hio (svl_none hvo)))
  rintro _ w10 ⟨ab, rfl, hva, hpo⟩
  have hp := hp.join hpo
  clear hpo hE hP
  have hat := fun k h0 hk => fam_at (s := (S : Int)) hOrd hfam k h0 hk
  rw [Int.toNat_natCast] at hat
  have hAl := asg_len l [(aN, (S : Int))] o
  have hsp := splN_le hfam hOrd S 3
  have hal := allN_eq (t := S) hOrd.trn
  generalize asg l [(aN, (S : Int))] o = A at hat hAl hva hp
  generalize (trn l o).take S = L at hat hsp hal
  have hp : Hp w [] w10 [ownL eS 9 1 (some ⟨ab, 0, none⟩) l.length A, ownL eE 41 6 sl cl l, mapE kInt mb (cM (famL l l.length))] := hp.picks [0, 4, 5] _ rfl rfl
  clear hvo hio hol hOrd hs
  (repeat (first | (with_reducible first | apply WP_seq | apply WP_region | apply wpl_nil | apply thenQ_n) | (apply wlp; (intros; ((first | apply pv_move | apply pv_assign | (apply pf_len; exact rfl) | exact pv_orF rfl rfl | (apply pv_neq; (first | exact rfl | exact ev_sel rfl (by assumption))) | apply pv_not | apply pv_extract) <;> exact rfl)); (intros; (first | exact fI rfl | exact fB rfl | exact fS rfl | exact fU rfl))) | ((apply wlpT; exact rfl; exact rfl); (((first | apply pv_move | apply pv_assign | (apply pf_len; exact rfl) | exact pv_orF rfl rfl | (apply pv_neq; (first | exact rfl | exact ev_sel rfl (by assumption))) | apply pv_not | apply pv_extract) <;> exact rfl)); (intros; (first | exact fI rfl | exact fB rfl | exact fS rfl | exact fU rfl))) | (apply wlpF; exact rfl; exact rfl; exact rfl) | (apply wlpU; exact rfl; exact rfl)))
  refine WP_cond_nd rfl (fun h => absurd rfl h) (fun _ => ?_)
  (repeat (with_reducible first | apply WP_seq | apply WP_region | apply thenQ_n | apply WP_skip))
  (apply wls; exact st_makemap kInt hp; rintro _ w11 ⟨gb, rfl, hp⟩)
  rw [cM_nil] at hp
  have hg0 : gotL l L 0 = [] := by unfold gotL; rfl
  have ha0 : allN L 0 = 0 := by unfold allN; rfl
  have hp : Hp w [] w11 [mapE kInt gb (cM (gotL l L 0)), ownL eS 9 1 (some ⟨ab, 0, none⟩) l.length A, ownL eE 41 6 sl cl l, mapE kInt mb (cM (famL l l.length))] := by
    rw [hg0]
    exact hp
  (repeat (first | (with_reducible first | apply WP_seq | apply WP_block | apply WP_region | apply wpl_nil | apply thenQ_n) | (apply wlp; ((first | apply pv_move | apply pv_assign | (apply pf_len; exact rfl)) <;> exact rfl); (first | exact fI rfl | exact fS rfl | exact fM rfl))))
  refine WP_loopS [17, 19, 20, 80, 81, 82, 83, 84, 85, 86, 87, 88, 89, 90, 91, 92, 93, 94, 95, 96, 97] (fun (k : Nat) F => (F.put 17 (.int .i64 (allN L k : Int))).put 80 (.int .i64 (k : Int)))
    (fun k w' => k ≤ l.length ∧ Hp w [] w' [mapE kInt gb (cM (gotL l L k)), ownL eS 9 1 (some ⟨ab, 0, none⟩) l.length A, ownL eE 41 6 sl cl l, mapE kInt mb (cM (famL l l.length))]) (fun k => l.length - k) 0
    (put_self (put_self (Same.eq .refl) (by show Value.int .i64 0 = _; rw [ha0]; rfl)) rfl) ⟨Nat.zero_le _, hp⟩ ?_
  (repeat clear hp)
  rintro u2 k w12 ⟨hk, hp⟩
  (repeat (first | (with_reducible first | apply WP_seq | apply WP_region | apply wpl_nil | apply thenQ_n) | (apply wlp; (apply pv_lss <;> exact rfl); exact fB rfl)))
  refine WP_cond_d rfl (fun h => ?_) (fun h => ?_)
  · have hkl : k < l.length := by omega
    have hkA : k < A.length := by omega
    obtain ⟨gl, rfl⟩ := hvl.addr (by rintro rfl; simp at hkl)
    have hgA := List.getElem?_eq_getElem hkA
    have hgl := List.getElem?_eq_getElem hkl
    have hff := famF_get hgl
    have hxa : A[k] = if (k : Int) ∈ L then aN else noN := by
      have h1 : xa A (k : Int) = A[k] := by
        unfold xa
        rw [Int.toNat_natCast, hgA]
        rfl
      rw [← h1]
      exact hat (k : Int) (by omega) (by omega)
    rw [hxa] at hgA
    clear hxa
    generalize l[k] = e at hgl hff
    have hgs := gotL_succ l L k
    have has := allN_succ L k
    have hak := allN_le L k
    rw [hff] at hgs
    by_cases hm : (k : Int) ∈ L
    · rw [if_pos hm] at hgA hgs has
      (repeat (first | (with_reducible first | apply WP_seq | apply WP_block | apply WP_region | apply thenQ_n | apply WP_skip) | (apply wlp; ((first | apply pv_move | (apply pf_load; exact rfl) | (apply pf_index; exact rfl)) <;> (first | exact rfl | assumption)); (first | exact fI rfl | exact fP rfl))))
      (apply wlp; exact pf_load rfl rfl (own_elem hp 1 rfl hva (fun _ => rfl) hgA 0 _ rfl); exact fT rfl)
      (apply wlp; apply pv_assign; exact fI rfl)
      (apply wlp; apply pv_assign; exact fT rfl)
      (repeat (with_reducible first | apply WP_seq | apply WP_region | apply wpl_nil | apply thenQ_n))
      (apply wlp; apply pv_move; exact fT rfl)
      (apply wlp; exact pv_seql rfl rfl; exact bool_eq (b := true) (decide_eq_true rfl))
      (repeat (with_reducible first | apply wpl_nil | apply thenQ_n))
      refine WP_cond_t rfl ?_
      have hcnt := cnt_le8 (L := gotL l L k) (x := e.fam) (n := 8) (Nat.le_trans (gotL_len l L k) (by omega))
      have hput := cM_put (gotL l L k) e.fam
      have hlk := cM_look (gotL l L k) e.fam
      rw [← hgs] at hput
      generalize (gotL l L k).count e.fam = n at hcnt hput hlk
      (repeat (first | (with_reducible first | apply WP_seq | apply WP_region) | (apply wlp; ((first | apply pv_move | apply pf_field | (apply pf_load; exact rfl) | (apply pf_index; exact rfl)) <;> (first | exact rfl | assumption)); (first | exact fI rfl | exact fP rfl | exact fS rfl | exact fM rfl))))
      (apply wlp; exact pf_load rfl rfl (own_elem hp 2 rfl hvl (fun _ => rfl) hgl 2 _ rfl); exact fI rfl)
      skip
      (apply wlp; exact pv_lookup (K := kInt) (a := e.fam) hp 0 rfl rfl rfl mp62.1 mp62.2.1 mp62.2.2; exact hlk)
      (apply wlp; (exact pv_add rfl rfl); exact int_eq (b := ((n + 1 : Nat) : Int)) (by rw [i64_in (by omega) (by omega)]; omega))
      (apply wls0; exact st_mapput (K := kInt) (a := e.fam) (v := .int .i64 ((n + 1 : Nat) : Int)) hp 0 rfl rfl rfl rfl mp62.1 mp62.2.1; rintro _ w13 ⟨rfl, hp⟩)
      have hp : Hp w [] w13 [mapE kInt gb (fun x => if x = e.fam then some (.int .i64 ((n + 1 : Nat) : Int)) else cM (gotL l L k) x), ownL eS 9 1 (some ⟨ab, 0, none⟩) l.length A, ownL eE 41 6 (some ⟨gl, 0, none⟩) cl l, mapE kInt mb (cM (famL l l.length))] := hp
      rw [hput] at hp
      (repeat (first | (with_reducible first | apply WP_region | apply wpl_nil | apply thenQ_n) | (apply wlp; apply pv_move; exact fI rfl)))
      (apply wlp; (exact pv_add rfl rfl); exact int_eq (b := ((allN L k + 1 : Nat) : Int)) (by rw [i64_in (by omega) (by omega)]; omega))
      (repeat (first | (with_reducible first | apply WP_region | apply wpl_nil | apply thenQ_n | apply inBlk_n) | (apply wlp; apply pv_assign; exact fI rfl)))
      (apply wlp; (exact pv_add rfl rfl); exact int_eq (b := ((k + 1 : Nat) : Int)) (by rw [i64_in (by omega) (by omega)]; omega))
      (repeat (first | (with_reducible first | apply wpl_nil | apply thenQ_n) | (apply wlp; apply pv_move; exact fI rfl)))
      exact ⟨k + 1, put_self (put_self (Same.eq (by repeat (first | exact Same.hav | exact Same.refl | refine Same.put rfl ?_ | refine Same.havs rfl ?_))) (by show Value.int .i64 ((allN L k + 1 : Nat) : Int) = _; rw [has])) rfl, ⟨by omega, hp⟩, by omega⟩
    · rw [if_neg hm] at hgA hgs has
      (repeat (first | (with_reducible first | apply WP_seq | apply WP_block | apply WP_region | apply thenQ_n | apply WP_skip) | (apply wlp; ((first | apply pv_move | (apply pf_load; exact rfl) | (apply pf_index; exact rfl)) <;> (first | exact rfl | assumption)); (first | exact fI rfl | exact fP rfl))))
      (apply wlp; exact pf_load rfl rfl (own_elem hp 1 rfl hva (fun _ => rfl) hgA 0 _ rfl); exact fT rfl)
      (apply wlp; apply pv_assign; exact fI rfl)
      (apply wlp; apply pv_assign; exact fT rfl)
      (repeat (with_reducible first | apply WP_seq | apply WP_region | apply wpl_nil | apply thenQ_n))
      (apply wlp; apply pv_move; exact fT rfl)
      (apply wlp; exact pv_seql rfl rfl; exact bool_eq (b := false) (decide_eq_false (fun e => aN_ne (Eq.symm e))))
      (repeat (with_reducible first | apply wpl_nil | apply thenQ_n))
      refine WP_cond_f rfl ?_
      rw [← hgs] at hp
      (repeat (with_reducible first | apply WP_region | apply thenQ_n | apply inBlk_n | apply WP_skip))
      (apply wlp; (exact pv_add rfl rfl); exact int_eq (b := ((k + 1 : Nat) : Int)) (by rw [i64_in (by omega) (by omega)]; omega))
      (repeat (first | (with_reducible first | apply wpl_nil | apply thenQ_n) | (apply wlp; apply pv_move; exact fI rfl)))
      exact ⟨k + 1, put_self (put_self (Same.eq (by repeat (first | exact Same.hav | exact Same.refl | refine Same.put rfl ?_ | refine Same.havs rfl ?_))) (by show Value.int .i64 ((allN L k : Nat) : Int) = _; rw [has])) rfl, ⟨by omega, hp⟩, by omega⟩
  obtain rfl : k = l.length := by omega
  clear h hk hat hg0 ha0
  have hs00 : splN l L 0 = 0 := by unfold splN; rfl
  have hal9 := allN_le L l.length
  (repeat (first | (with_reducible first | apply WP_seq | apply WP_block | apply WP_region | apply wpl_nil | apply thenQ_n | apply thenQ_exit | apply WP_exit) | ((with_reducible apply inBlk_same); exact rfl) | (apply wlp; apply pv_assign; exact fI rfl)))
  refine WP_loopS [18, 21, 98, 99, 100, 101, 102, 103, 104, 105, 106, 107, 108, 109, 110, 111, 112, 113, 114, 115, 116] (fun (g : Nat) F => (F.put 18 (.int .i64 (splN l L g : Int))).put 21 (.int .i64 ((g + 1 : Nat) : Int)))
    (fun g w' => g ≤ 3 ∧ Hp w [] w' [mapE kInt gb (cM (gotL l L l.length)), ownL eS 9 1 (some ⟨ab, 0, none⟩) l.length A, ownL eE 41 6 sl cl l, mapE kInt mb (cM (famL l l.length))]) (fun g => 3 - g) 0
    (put_self (put_self (Same.eq .refl) (by show Value.int .i64 0 = _; rw [hs00]; rfl)) rfl) ⟨Nat.zero_le _, hp⟩ ?_
  (repeat clear hp)
  rintro u3 g w13 ⟨hg, hp⟩
  (repeat (first | (with_reducible first | apply WP_seq | apply WP_region | apply wpl_nil | apply thenQ_n) | (apply wlp; ((first | apply pv_move | apply pv_lss) <;> exact rfl); (first | exact fI rfl | exact fB rfl))))
  refine WP_cond_d rfl (fun h => ?_) (fun h => ?_)
  · have hg3 : g < 3 := by omega
    have hcut : cutB l L (g + 1) = (decide (0 < (gotL l L l.length).count ((g + 1 : Nat) : Int)) && decide ((gotL l L l.length).count ((g + 1 : Nat) : Int) < (famL l l.length).count ((g + 1 : Nat) : Int))) := by unfold cutB; rfl
    have hss := splN_succ l L g
    have hsb := splN_b l L g
    have hl1 := cM_look (gotL l L l.length) ((g + 1 : Nat) : Int)
    have hl2 := cM_look (famL l l.length) ((g + 1 : Nat) : Int)
    generalize (gotL l L l.length).count ((g + 1 : Nat) : Int) = n1 at hcut hl1
    generalize (famL l l.length).count ((g + 1 : Nat) : Int) = n2 at hcut hl2
    (repeat (first | (with_reducible first | apply WP_seq | apply WP_block | apply WP_region | apply thenQ_n | apply WP_skip) | (apply wlp; apply pv_move; (first | exact fI rfl | exact fM rfl))))
    (apply wlp; exact pv_lookup (K := kInt) (a := ((g + 1 : Nat) : Int)) hp 0 rfl rfl rfl mp62.1 mp62.2.1 mp62.2.2; exact hl1)
    by_cases h1 : 0 < n1
    · (apply wlp; (exact pv_gtr rfl rfl); exact bool_eq (b := true) (decide_eq_true (by omega)))
      (apply wlp; apply pv_move; exact fB rfl)
      ((apply wlpT; exact rfl; exact rfl); (apply pv_move); (intros; exact fM rfl))
      ((apply wlpT; exact rfl; exact rfl); (apply pv_move); (intros; exact fI rfl))
      (apply wlpT; exact rfl; exact rfl; exact pv_lookup (K := kInt) (a := ((g + 1 : Nat) : Int)) hp 0 rfl rfl rfl mp62.1 mp62.2.1 mp62.2.2; exact hl1)
      ((apply wlpT; exact rfl; exact rfl); (apply pv_move); (intros; exact fM rfl))
      ((apply wlpT; exact rfl; exact rfl); (apply pv_move); (intros; exact fI rfl))
      (apply wlpT; exact rfl; exact rfl; exact pv_lookup (K := kInt) (a := ((g + 1 : Nat) : Int)) hp 3 rfl rfl rfl mp62.1 mp62.2.1 mp62.2.2; exact hl2)
      by_cases h2 : n1 < n2
      · rw [decide_eq_true h1, decide_eq_true h2] at hcut
        rw [hcut, if_pos (show (true && true) = true from rfl)] at hss
        (apply wlpT; exact rfl; exact rfl; (exact pv_lss rfl rfl); exact bool_eq (b := true) (decide_eq_true (by omega)))
        (apply wlp; exact pv_andT rfl rfl; exact fB rfl)
        (repeat (with_reducible first | apply wpl_nil | apply thenQ_n))
        refine WP_cond_t rfl ?_
        (repeat (first | with_reducible apply WP_region | (apply wlp; apply pv_move; exact fI rfl)))
        (apply wlp; (exact pv_add rfl rfl); exact int_eq (b := ((splN l L g + 1 : Nat) : Int)) (by rw [i64_in (by omega) (by omega)]; omega))
        (repeat (first | (with_reducible first | apply WP_region | apply wpl_nil | apply thenQ_n | apply inBlk_n) | (apply wlp; (first | apply pv_move | apply pv_assign); exact fI rfl)))
        (apply wlp; (exact pv_add rfl rfl); exact int_eq (b := ((g + 1 + 1 : Nat) : Int)) (by rw [i64_in (by omega) (by omega)]; omega))
        (repeat (first | (with_reducible first | apply wpl_nil | apply thenQ_n) | (apply wlp; apply pv_assign; exact fI rfl)))
        exact ⟨g + 1, put_self (put_self (Same.eq (by repeat (first | exact Same.hav | exact Same.refl | refine Same.put rfl ?_ | refine Same.havs rfl ?_))) (by show Value.int .i64 ((splN l L g + 1 : Nat) : Int) = _; rw [hss])) rfl, ⟨by omega, hp⟩, by omega⟩
      · rw [decide_eq_true h1, decide_eq_false h2] at hcut
        rw [hcut, if_neg (show ¬ (true && false) = true by decide)] at hss
        (apply wlpT; exact rfl; exact rfl; (exact pv_lss rfl rfl); exact bool_eq (b := false) (decide_eq_false (by omega)))
        (apply wlp; exact pv_andT rfl rfl; exact fB rfl)
        (repeat (with_reducible first | apply wpl_nil | apply thenQ_n))
        refine WP_cond_f rfl ?_
        (repeat (first | (with_reducible first | apply WP_region | apply thenQ_n | apply inBlk_n | apply WP_skip) | (apply wlp; apply pv_move; exact fI rfl)))
        (apply wlp; (exact pv_add rfl rfl); exact int_eq (b := ((g + 1 + 1 : Nat) : Int)) (by rw [i64_in (by omega) (by omega)]; omega))
        (repeat (first | (with_reducible first | apply wpl_nil | apply thenQ_n) | (apply wlp; apply pv_assign; exact fI rfl)))
        exact ⟨g + 1, put_self (put_self (Same.eq (by repeat (first | exact Same.hav | exact Same.refl | refine Same.put rfl ?_ | refine Same.havs rfl ?_))) (by show Value.int .i64 ((splN l L g : Nat) : Int) = _; rw [hss])) rfl, ⟨by omega, hp⟩, by omega⟩
    · rw [decide_eq_false h1] at hcut
      rw [hcut, if_neg (by simp)] at hss
      (apply wlp; (exact pv_gtr rfl rfl); exact bool_eq (b := false) (decide_eq_false (by omega)))
      (repeat (first | (with_reducible first | apply wpl_nil | apply thenQ_n) | (apply wlp; (intros; (first | apply pv_move | exact pv_andF rfl)); (intros; exact fB rfl)) | (apply wlpF; exact rfl; exact rfl; exact rfl) | (apply wlpU; exact rfl; exact rfl)))
      refine WP_cond_f rfl ?_
      (repeat (first | (with_reducible first | apply WP_region | apply thenQ_n | apply inBlk_n | apply WP_skip) | (apply wlp; apply pv_move; exact fI rfl)))
      (apply wlp; (exact pv_add rfl rfl); exact int_eq (b := ((g + 1 + 1 : Nat) : Int)) (by rw [i64_in (by omega) (by omega)]; omega))
      (repeat (first | (with_reducible first | apply wpl_nil | apply thenQ_n) | (apply wlp; apply pv_assign; exact fI rfl)))
      exact ⟨g + 1, put_self (put_self (Same.eq (by repeat (first | exact Same.hav | exact Same.refl | refine Same.put rfl ?_ | refine Same.havs rfl ?_))) (by show Value.int .i64 ((splN l L g : Nat) : Int) = _; rw [hss])) rfl, ⟨by omega, hp⟩, by omega⟩
  obtain rfl : g = 3 := by omega
  (repeat (first | (with_reducible first | apply WP_seq | apply WP_region | apply thenQ_n | apply thenQ_exit | apply WP_exit) | ((with_reducible apply inBlk_same); exact rfl)))
  (apply wlp; apply pv_move; exact fB rfl)
  (apply wlp; apply pv_move; exact fB rfl)
  ((apply wlpT; exact rfl; exact rfl); (apply pv_move); (intros; exact fI rfl))
  ((apply wlpT; exact rfl; exact rfl); (apply pv_move); (intros; exact fS rfl))
  ((apply wlpT; exact rfl; exact rfl); (((apply pf_len; exact rfl) <;> exact rfl)); (intros; exact fI rfl))
  ((apply wlpT; exact rfl; exact rfl); (apply pv_move); (intros; exact fI rfl))
  (apply wlpT; exact rfl; exact rfl; exact pv_rem rfl rfl (by decide); exact int_eq (b := ((s0 % 10 : Nat) : Int)) (int_rem s0 10))
  (apply wlpT; exact rfl; exact rfl; exact pf_conv rfl rfl rfl; exact int_eq (i64_in (by omega) (by omega)))
  (apply wlpT; exact rfl; exact rfl; exact pv_min rfl rfl; exact int_eq (b := (allN L l.length : Int)) (by omega))
  (apply wlpT; exact rfl; exact rfl; exact pv_eql rfl rfl; exact bool_eq (b := true) (decide_eq_true rfl))
  (apply wlp; exact pv_andT rfl rfl; exact fB rfl)
  (apply wlp; apply pv_move; exact fB rfl)
  ((apply wlpT; exact rfl; exact rfl); (apply pv_move); (intros; exact fI rfl))
  (apply wlpT; exact rfl; exact rfl; (exact pv_leq rfl rfl); exact bool_eq (b := true) (decide_eq_true (by omega)))
  (apply wlp; exact pv_andT rfl rfl; exact fB rfl)
  (repeat (first | (with_reducible first | apply wpl_nil | apply thenQ_n | apply WP_ret) | (apply wlp; apply pv_assign; exact fB rfl)))
  exact ret_tmp rfl rfl ⟨_, rfl, rfl, hp.keeps⟩
end Go.Proofs.YtfjbioghpgmkiaaGreatDoor
