/- Merged texts of ours: Za Pf Pg Sx Oc; conditions are the hypotheses of each law. -/
import Derived.Test.YtfjbioghpgmkiaaGreatDoorQ4
import Derived.Test.YtfjbioghpgmkiaaGreatDoorTie
import Derived.Test.YtfjbioghpgmkiaaGreatDoorCards
import Derived.WalkKit
import Derived.ProofKit
import Derived.OpenShut
import Derived.Carry
import Derived.Deep.Slices
import Derived.SizedLaws
import Derived.LaidLaws
import Derived.LaidHandle
import Derived.ChangeVars
import Derived.JoinedOf
import Derived.RowKit
/- How the arguments of the laws of layer 19 are read; a world in which the listed tables lie; what a law that answers true and changes nothing leaves; conditions are the hypotheses of each law. -/
namespace Go.Proofs.YtfjbioghpgmkiaaGreatDoor
open Go.Eng Go.ChangeShapes Go.WideShapes Go.ChangeAt Go.RowKit Go.Deep

theorem laid : laidOutB Tryz.prog = true := by kernel_rfl
theorem ownK : ownKnob Tryz.prog.godebug = none := by kernel_rfl

theorem spot_none {w : World} {a : Addr} {v : Value} (h : w.cell? a = some v) : a.spot = none := by
  unfold World.cell? at h
  split at h
  · split at h
    · cases h
    · rename_i h2
      cases hs : a.spot
      · rfl
      · rw [hs] at h2; simp at h2
  · cases h

section
variable {H : Type} {enc : TypeId × Value → H} {P : Program} {w : World} {base : Nat} {spare : Nat → Bool} {held : Bool}

/-- a slice whose elements are read one by one reads as a list -/
theorem open_list {α : Type} {f : α → List Value} {ok : α → Prop} {t e k fuel : Nat} {cs : List Value} {x : DataW H × List MemPlace} (ht : P.underlying t = some (.slice e)) (hk : P.cellsOf e = k) (hk0 : 0 < k)
    (hop : ∀ n cs' y, DataW.trod enc P w base spare held n e cs' = some y → ∃ a, cs' = f a ∧ ok a) (h : DataW.trod enc P w base spare held fuel t cs = some x) :
    ∃ s c, ∃ l : List α, cs = [.slice s l.length c] ∧ l.length ≤ c ∧ c ≤ maxLen ∧ SlAt w k f s l ∧ (∀ a ∈ l, ok a) ∧ (l = [] ∨ ∃ es rs, x.1 = .slice es rs ∧ es.length = l.length) := by
  rcases open_slice ht h with ⟨rfl, _⟩ | ⟨a, len, cap, m, n, D, Pl, rfl, hb, hl, hm, hmm, hxe, hx⟩
  · exact ⟨none, 0, [], rfl, Nat.le_refl _, by unfold maxLen; omega, by intro i x hx; simp at hx, by simp, .inl rfl⟩
  · have hlm : len ≤ m := by rw [hmm]; split <;> omega
    rw [hk] at hx
    have hex : ∀ i : Fin len, ∃ y, w.cells? base (a.add (i * k)) k = some (f y) ∧ ok y := by
      intro i
      obtain ⟨cs', h1, h2⟩ := hx i (by omega)
      obtain ⟨y, rfl, hy⟩ := hop _ _ _ h2
      exact ⟨y, h1, hy⟩
    refine ⟨some a, cap, List.ofFn fun i => Classical.choose (hex i), by simp, by simpa using hl, hm, ?_, ?_, .inr ⟨_, _, by rw [hxe], by simp⟩⟩
    · intro i y hy
      have hi : i < len := by have := (List.getElem?_eq_some_iff.1 hy).1; simpa using this
      have hyc : Classical.choose (hex ⟨i, hi⟩) = y := by
        rw [List.getElem?_ofFn] at hy
        simpa [hi] using hy
      have hsp := (Classical.choose_spec (hex ⟨i, hi⟩)).1
      rw [hyc] at hsp
      obtain ⟨_, hlen, hc⟩ := World.cells?_some hsp
      obtain ⟨_, hlen0, hc0⟩ := World.cells?_some (Classical.choose_spec (hex ⟨0, by omega⟩)).1
      have hs0 := spot_none ((hc0 0 (by omega)).trans (List.getElem?_eq_getElem (by omega)))
      have hsa : a.spot = none := by simpa [Addr.add] using hs0
      refine ⟨a.block, a.off, ?_, fun j v hv => ?_⟩
      · cases a
        simp at hsa
        subst hsa
        rfl
      · have hj : j < k := by rw [← hlen]; exact (List.getElem?_eq_some_iff.1 hv).1
        have := (hc j hj).trans hv
        cases a
        simp at hsa
        subst hsa
        rw [addr_add, addr_add] at this
        exact this
    · intro y hy
      rw [List.mem_ofFn] at hy
      obtain ⟨i, rfl⟩ := hy
      exact (Classical.choose_spec (hex i)).2

theorem trodAll_stays (hl : laidOutB P = true) {W W' : World} (hb : Below W.heap.size W W') {sp : Nat → Bool} : ∀ (ts : List TypeId) (vs : List Value) (ds : List (DataW H)) (ps : List MemPlace),
    (∀ t ∈ ts, P.readableRec t = true ∧ t < P.types.size) → DataW.TrodAll enc P W 0 (fun _ => true) true ts vs ds ps → (∀ x ∈ ps, x.block < W.heap.size) → (∀ x ∈ ps, sp x.block = true) →
    DataW.TrodAll enc P W' 0 sp true ts vs ds ps
  | [], vs, ds, ps, _, h, _, _ => by
    obtain ⟨rfl, rfl, rfl⟩ := trodAll_nil h
    exact trodAll_mk0
  | t :: ts, vs, ds, ps, ht, h, hlt, hsp => by
    obtain ⟨v, vs', d, ds', p, q, rfl, rfl, rfl, h1, h2⟩ := trodAll_cons h
    refine ⟨p, q, ?_, trodAll_stays hl hb ts vs' ds' q (fun t h => ht t (List.mem_cons_of_mem _ h)) h2 (fun x hx => hlt x (List.mem_append_right _ hx)) (fun x hx => hsp x (List.mem_append_right _ hx)), rfl⟩
    obtain ⟨hr, hrow⟩ := ht t (List.mem_cons_self ..)
    exact WideElems.Trod_stays hl hr hrow h1 (fun x hx => hb.same (hlt x (List.mem_append_left _ hx))) (fun x hx => hsp x (List.mem_append_left _ hx))
end

/-- an array whose elements are read one by one -/
theorem arr_list {α : Type} {f : α → List Value} {ok : α → Prop} {sz : Nat} : ∀ (k : Nat) (cs : List Value), cs.length = k * sz → (∀ i, i < k → ∃ a, (cs.drop (i * sz)).take sz = f a ∧ ok a) → ∃ l : List α, l.length = k ∧ cs = l.flatMap f ∧ ∀ a ∈ l, ok a
  | 0, cs, hl, _ => ⟨[], rfl, by simpa using hl, by simp⟩
  | k + 1, cs, hl, h => by
    obtain ⟨a, ha, hoa⟩ := h 0 (by omega)
    obtain ⟨l, h1, h2, h3⟩ := arr_list (f := f) (ok := ok) (sz := sz) k (cs.drop sz) (by rw [List.length_drop, hl, Nat.succ_mul]; omega) (by
      intro i hi
      obtain ⟨b, hb, hob⟩ := h (i + 1) (by omega)
      refine ⟨b, ?_, hob⟩
      rw [List.drop_drop]
      rw [show sz + i * sz = (i + 1) * sz from by rw [Nat.succ_mul]; omega]
      exact hb)
    refine ⟨a :: l, by simp [h1], ?_, ?_⟩
    · rw [List.flatMap_cons, ← h2, ← ha]
      simp
    · intro x hx
      rcases List.mem_cons.1 hx with rfl | hx
      · exact hoa
      · exact h3 x hx
section
variable {H : Type} {enc : TypeId × Value → H} {P : Program} {w : World} {base : Nat} {spare : Nat → Bool} {held : Bool}
theorem open_arr {α : Type} {f : α → List Value} {ok : α → Prop} {t e k sz fuel : Nat} {cs : List Value} {x : DataW H × List MemPlace} (ht : P.underlying t = some (.array k e)) (he : P.cellsOf e = sz) (hc : P.cellsOf t = k * sz)
    (hop : ∀ n cs' y, DataW.trod enc P w base spare held n e cs' = some y → ∃ a, cs' = f a ∧ ok a) (h : DataW.trod enc P w base spare held fuel t cs = some x) :
    ∃ l : List α, l.length = k ∧ cs = l.flatMap f ∧ ∀ a ∈ l, ok a := by
  obtain ⟨xs, m, _, _, hl, hlen, hf⟩ := DataW.trod_array ht h
  refine arr_list k cs (by rw [hl, hc]) fun i hi => ?_
  have := hf i hi
  rw [he, List.getElem?_eq_getElem (by omega)] at this
  exact hop _ _ _ this
end
/-- what a law leaves that answers true and keeps all that was there -/
theorem post_true {H : Type} {enc : TypeId × Value → H} {f : Func} {s : ChangeSpec} {W W' : World} {args : Array Value} {ds gs : List (DataW H)} {before : List MemPlace} (hW : DataW.Whole enc Tryz.prog f.params.toList s.vars false W args.toList ds gs before)
    (hv : s.vars = []) (hr : f.resultTypes = #[4]) (hts : ∀ t ∈ f.params.toList, Tryz.prog.readableRec t = true ∧ t < Tryz.prog.types.size)
    (hres : (s.fn H (ds ++ gs)).results = [.lit (.bool true)]) (hargs : (s.fn H (ds ++ gs)).args = ds) (hvs : (s.fn H (ds ++ gs)).vars = []) (hk : Keeps [] W W') :
    s.post enc Tryz.prog f false true false false W args (.bool true) W' := by
  have hW' := hW
  obtain ⟨p, q, hA, hV, rfl, hfz, hnd⟩ := hW
  rw [hv] at hV
  obtain ⟨rfl, rfl⟩ := trodVars_none hV
  have hlt : ∀ x ∈ p, x.block < W.heap.size := fun x hx => hW'.lt x (by simpa using hx)
  refine ⟨ds, [], _, [], p, [], hW', ?_, ?_, ?_, (hk.below.frame _), fun h => by cases h⟩
  · rw [hres, hr]
    exact trodAll_cons_mk (shut_bool Tryz.underlying4 _) trodAll_mk0
  · rw [hargs]
    exact trodAll_stays laid hk.below _ _ _ _ hts hA hlt (fun x hx => by simpa using hlt x hx)
  · rw [hvs, hv]
    rfl

theorem len2 {α : Type} {l : List α} (h : l.length = 2) : ∃ c0 c1, l = [c0, c1] := by
  obtain ⟨c0, l0, rfl⟩ : ∃ a t, l = a :: t := List.exists_cons_of_length_eq_add_one h
  obtain ⟨c1, l1, rfl⟩ : ∃ a t, l0 = a :: t := List.exists_cons_of_length_eq_add_one (by simpa using h)
  have : l1 = [] := List.eq_nil_of_length_eq_zero (by simpa using h)
  subst this
  exact ⟨c0, c1, rfl⟩
theorem len3 {α : Type} {l : List α} (h : l.length = 3) : ∃ c0 c1 c2, l = [c0, c1, c2] := by
  obtain ⟨c0, l0, rfl⟩ : ∃ a t, l = a :: t := List.exists_cons_of_length_eq_add_one h
  obtain ⟨c1, l1, rfl⟩ : ∃ a t, l0 = a :: t := List.exists_cons_of_length_eq_add_one (by simpa using h)
  obtain ⟨c2, l2, rfl⟩ : ∃ a t, l1 = a :: t := List.exists_cons_of_length_eq_add_one (by simpa using h)
  have : l2 = [] := List.eq_nil_of_length_eq_zero (by simpa using h)
  subst this
  exact ⟨c0, c1, c2, rfl⟩
section
variable {H : Type} {enc : TypeId × Value → H} {w : World} {base : Nat} {spare : Nat → Bool} {held : Bool} {n : Nat} {cs : List Value} {x : DataW H × List MemPlace}
theorem rd_int (h : DataW.trod enc Tryz.prog w base spare held n 3 cs = some x) : ∃ a : Int, cs = eI a ∧ -9223372036854775808 ≤ a ∧ a ≤ 9223372036854775807 := by
  obtain ⟨a, rfl, _, hw⟩ := DataW.trod_int Tryz.underlying3 h
  have e1 : IntKind.i64.min = -9223372036854775808 := by decide
  have e2 : IntKind.i64.max = 9223372036854775807 := by decide
  simp only [Lit.wf, Bool.and_eq_true, decide_eq_true_eq, e1, e2] at hw
  exact ⟨a, rfl, hw⟩
theorem rd_ints (h : DataW.trod enc Tryz.prog w base spare held n 30 cs = some x) : ∃ s c, ∃ l : List Int, cs = [.slice s l.length c] ∧ l.length ≤ c ∧ c ≤ maxLen ∧ SlAt w 1 eI s l ∧ (∀ a ∈ l, -9223372036854775808 ≤ a ∧ a ≤ 9223372036854775807) ∧ (l = [] ∨ ∃ es rs, x.1 = .slice es rs ∧ es.length = l.length) :=
  open_list Tryz.underlying30 (by kernel_rfl) (by decide) (fun _ _ _ h => rd_int h) h
end
/-- how long a list that came in can be -/
theorem sized_list {H α : Type} {ts : List TypeId} {ds : List (DataW H)} {l : List α} {j t e k : Nat} {d : DataW H} (h : (DataW.weightsEach Tryz.prog ts ds).all (· ≤ reachBytes) = true) (ht : ts[j]? = some t) (hd : ds[j]? = some d) (hu : Tryz.prog.underlying t = some (.slice e)) (hk : Tryz.prog.bytesOf e = k)
    (hx : l = [] ∨ ∃ es rs, d = .slice es rs ∧ es.length = l.length) : l.length * k ≤ 140737488351232 := by
  rcases hx with rfl | ⟨es, rs, rfl, he⟩
  · simp
  · have h1 := sized_slice h ht hd hu
    rw [hk] at h1
    have h2 : l.length * k ≤ (es.length + rs.length) * k := Nat.mul_le_mul_right k (by omega)
    exact Nat.le_trans h2 h1
/-! ### the tables -/
def cellsL : DataW Unit → List Value
  | .lit (.int k n) => [.int k n]
  | .agg [.lit (.int k n), .lit (.int q m)] => [.int k n, .int q m]
  | _ => []
def cellsA : DataW Unit → Array Value
  | .agg l => (l.flatMap cellsL).toArray
  | _ => #[]
noncomputable def laidWorld (os : Os) : World :=
  let w0 := World.holding Tryz.prog os ⟨#[], #[], []⟩
  { w0 with heap := (w0.heap.modify 0 fun
      | .cells _ t fr => .cells (cellsA Rows.laid_unicode_utf8_first) t fr
      | o => o).modify 1 fun
      | .cells _ t fr => .cells (cellsA Rows.laid_unicode_utf8_acceptRanges) t fr
      | o => o }
set_option maxRecDepth 100000 in
theorem laidWorld_met (os : Os) (args : Array Value) : laidMetH Tryz.prog Rows.placesKeepsRow.laid ((laidWorld os).forCall (fun _ _ => 0) ⟨#[], args, []⟩).memory :=
  laidMet_of_run (ps := (List.range 32).map (fun i => MemPlace.cell 1 i) ++ (List.range 256).map (fun i => MemPlace.cell 0 i)) 8 (by kernel_rfl) (by kernel_rfl) (by kernel_rfl)
theorem agg_of_cells {v : Value} {l : List Value} (h : v.cells.toList = l) (hl : 2 ≤ l.length) : v = .agg l.toArray := by
  cases v with
  | agg vs =>
    have : vs.toList = l := h
    subst this
    rfl
  | _ =>
    exfalso
    subst h
    simp [Value.cells] at hl
theorem slice_of_cells {P : Program} {W : World} {base t e : Nat} {v : Value} {s : Option Addr} {m c : Nat} (ht : P.underlying t = some (.slice e)) (hok : Value.okWide P W .any base t v) (h : v.cells.toList = [.slice s m c]) : v = .slice s m c := by
  cases v with
  | agg vs => simp [Value.okWide, ht, Cell.okWide, Cell.ok] at hok
  | slice a1 b1 c1 =>
    have e : Value.slice a1 b1 c1 = .slice s m c := by simpa [Value.cells] using h
    exact e
  | _ => simp [Value.cells] at h

/-! ### further kinds of arguments -/
theorem cells3 : Tryz.prog.cellsOf 3 = 1 := by kernel_rfl
theorem cells5 : Tryz.prog.cellsOf 5 = 1 := by kernel_rfl
theorem cells22 : Tryz.prog.cellsOf 22 = 1 := by kernel_rfl
theorem cells23 : Tryz.prog.cellsOf 23 = 1 := by kernel_rfl
theorem cells30 : Tryz.prog.cellsOf 30 = 1 := by kernel_rfl
theorem cells84 : Tryz.prog.cellsOf 84 = 2 := by kernel_rfl
theorem cells87 : Tryz.prog.cellsOf 87 = 3 := by kernel_rfl
theorem cells25 : Tryz.prog.cellsOf 25 = 2 := by kernel_rfl
section
variable {H : Type} {enc : TypeId × Value → H} {w : World} {base : Nat} {spare : Nat → Bool} {held : Bool} {n : Nat} {cs : List Value} {x : DataW H × List MemPlace}
def e3 (x : Int × Int × Int) : List Value := [.int .i64 x.1, .int .i64 x.2.1, .int .i64 x.2.2]
theorem rd_arr3 (h : DataW.trod enc Tryz.prog w base spare held n 78 cs = some x) : ∃ a : Int × Int × Int, cs = e3 a ∧ a.1 ≤ 9223372036854775807 := by
  obtain ⟨l, hl, rfl, hb⟩ := open_arr Tryz.underlying78 cells3 (by kernel_rfl) (fun _ _ _ h => rd_int h) h
  obtain ⟨a, b, c, rfl⟩ := len3 hl
  exact ⟨(a, b, c), rfl, (hb a (by simp)).2⟩
theorem rd_arr2 (h : DataW.trod enc Tryz.prog w base spare held n 84 cs = some x) : ∃ a : Int × Int, cs = eT2 a ∧ a.2 ≤ 9223372036854775807 := by
  obtain ⟨l, hl, rfl, hb⟩ := open_arr Tryz.underlying84 cells3 (by kernel_rfl) (fun _ _ _ h => rd_int h) h
  obtain ⟨a, b, rfl⟩ := len2 hl
  exact ⟨(a, b), rfl, (hb b (by simp)).2⟩
theorem rd_list2 (h : DataW.trod enc Tryz.prog w base spare held n 22 cs = some x) : ∃ s c, ∃ l : List (Int × Int), cs = [.slice s l.length c] ∧ l.length ≤ c ∧ c ≤ maxLen ∧ SlAt w 2 eT2 s l ∧ (∀ p ∈ l, p.2 ≤ 9223372036854775807) := by
  obtain ⟨s, c, l, h1, h2, h3, h4, h5, _⟩ := open_list Tryz.underlying22 cells84 (by decide) (fun _ _ _ h => rd_arr2 h) h
  exact ⟨s, c, l, h1, h2, h3, h4, h5⟩
theorem rd_u8 (h : DataW.trod enc Tryz.prog w base spare held n 5 cs = some x) : ∃ a : Nat, cs = eB a ∧ a < 256 := by
  obtain ⟨a, rfl, _, hw⟩ := DataW.trod_int Tryz.underlying5 h
  have e1 : IntKind.u8.min = 0 := by decide
  have e2 : IntKind.u8.max = 255 := by decide
  simp only [Lit.wf, Bool.and_eq_true, decide_eq_true_eq, e1, e2] at hw
  obtain ⟨k, rfl⟩ : ∃ k : Nat, a = k := ⟨a.toNat, by omega⟩
  exact ⟨k, rfl, by omega⟩
theorem rd_bytes (h : DataW.trod enc Tryz.prog w base spare held n 61 cs = some x) : ∃ s c, ∃ l : List Nat, cs = [.slice s l.length c] ∧ l.length ≤ c ∧ c ≤ maxLen ∧ SlAt w 1 eB s l ∧ (∀ a ∈ l, a < 256) ∧ (l = [] ∨ ∃ es rs, x.1 = .slice es rs ∧ es.length = l.length) :=
  open_list Tryz.underlying61 cells5 (by decide) (fun _ _ _ h => rd_u8 h) h
theorem rd_person (h : DataW.trod enc Tryz.prog w base spare held n 87 cs = some x) : ∃ p : Pe, cs = ePe p ∧ SlAt w 1 eI p.ws p.wl := by
  obtain ⟨xs, m, _, _, hl, hlen, hf⟩ := DataW.trod_struct Tryz.underlying87 h
  rw [cells87] at hl
  obtain ⟨c0, c1, c2, rfl⟩ := len3 hl
  have h0 : DataW.trod enc Tryz.prog w base spare held m 3 (([c0, c1, c2].drop 0).take (Tryz.prog.cellsOf 3)) = xs[0]? := hf 0 _ rfl
  rw [cells3] at h0
  have h1 : DataW.trod enc Tryz.prog w base spare held m 3 (([c0, c1, c2].drop 1).take (Tryz.prog.cellsOf 3)) = xs[1]? := hf 1 _ rfl
  rw [cells3] at h1
  have h2 : DataW.trod enc Tryz.prog w base spare held m 30 (([c0, c1, c2].drop 2).take (Tryz.prog.cellsOf 30)) = xs[2]? := hf 2 _ rfl
  rw [cells30] at h2
  simp at hlen
  obtain ⟨a, e0, _⟩ := rd_int (h0.trans (List.getElem?_eq_getElem (by omega)))
  obtain ⟨b, e1, _⟩ := rd_int (h1.trans (List.getElem?_eq_getElem (by omega)))
  obtain ⟨s, c, l, e2, _, _, hs, _⟩ := rd_ints (h2.trans (List.getElem?_eq_getElem (by omega)))
  simp [eI] at e0 e1 e2
  subst e0 e1 e2
  exact ⟨⟨a, b, s, c, l⟩, rfl, hs⟩
theorem rd_people (h : DataW.trod enc Tryz.prog w base spare held n 23 cs = some x) : ∃ s c, ∃ l : List Pe, cs = [.slice s l.length c] ∧ l.length ≤ c ∧ c ≤ maxLen ∧ SlAt w 3 ePe s l ∧ (∀ p ∈ l, SlAt w 1 eI p.ws p.wl) := by
  obtain ⟨s, c, l, h1, h2, h3, h4, h5, _⟩ := open_list Tryz.underlying23 cells87 (by decide) (fun _ _ _ h => rd_person h) h
  exact ⟨s, c, l, h1, h2, h3, h4, h5⟩
theorem rd_plan (h : DataW.trod enc Tryz.prog w base spare held n 25 cs = some x) : ∃ (sp : Option Addr) (cp : Nat) (lp : List (Int × Int)) (se : Option Addr) (ce : Nat) (le : List Pe), cs = [.slice sp lp.length cp, .slice se le.length ce] ∧
    SlAt w 2 eT2 sp lp ∧ (∀ p ∈ lp, p.2 ≤ 9223372036854775807) ∧ SlAt w 3 ePe se le ∧ (∀ p ∈ le, SlAt w 1 eI p.ws p.wl) := by
  obtain ⟨xs, m, _, _, hl, hlen, hf⟩ := DataW.trod_struct Tryz.underlying25 h
  rw [cells25] at hl
  obtain ⟨c0, c1, rfl⟩ := len2 hl
  have h0 : DataW.trod enc Tryz.prog w base spare held m 22 (([c0, c1].drop 0).take (Tryz.prog.cellsOf 22)) = xs[0]? := hf 0 _ rfl
  rw [cells22] at h0
  have h1 : DataW.trod enc Tryz.prog w base spare held m 23 (([c0, c1].drop 1).take (Tryz.prog.cellsOf 23)) = xs[1]? := hf 1 _ rfl
  rw [cells23] at h1
  simp at hlen
  obtain ⟨s, c, l, e0, _, _, hs, hb⟩ := rd_list2 (h0.trans (List.getElem?_eq_getElem (by omega)))
  obtain ⟨s2, c2, l2, e1, _, _, hs2, hb2⟩ := rd_people (h1.trans (List.getElem?_eq_getElem (by omega)))
  simp at e0 e1
  subst e0 e1
  exact ⟨s, c, l, s2, c2, l2, rfl, hs, hb, hs2, hb2⟩
end
end Go.Proofs.YtfjbioghpgmkiaaGreatDoor
/- Exchanging two numbers in all orders; counts of the orders in which one is among the first; plain. -/
namespace Go.Proofs.YtfjbioghpgmkiaaGreatDoor
open Go.Eng Go.Dig

/-- the exchange of a and b -/
def tr (a b x : Int) : Int := if x = a then b else if x = b then a else x
theorem tr_tr (a b x : Int) : tr a b (tr a b x) = x := by
  unfold tr
  split
  · rename_i h
    split
    · rename_i h2
      omega
    · simp [h]
  · rename_i h
    split
    · rename_i h2
      simp [h2]
    · rename_i h2
      simp
theorem tr_inj {a b x y : Int} (h : tr a b x = tr a b y) : x = y := by rw [← tr_tr a b x, h, tr_tr]
theorem tr_bd {a b x n : Int} (ha : 0 ≤ a ∧ a < n) (hb : 0 ≤ b ∧ b < n) (hx : 0 ≤ x ∧ x < n) : 0 ≤ tr a b x ∧ tr a b x < n := by
  unfold tr
  split
  · exact hb
  · split
    · exact ha
    · exact hx
theorem tr_a (a b : Int) : tr a b a = b := by simp [tr]
theorem tr_b (a b : Int) : tr a b b = a := by
  unfold tr
  split
  · rename_i h; exact h
  · simp
theorem isO_of {n : Nat} {l : List Int} (h : Ord n l) : isO n l = true := by
  unfold isO
  rw [Bool.and_eq_true, Bool.and_eq_true, decide_eq_true_eq, decide_eq_true_eq, List.all_eq_true]
  refine ⟨h.len, fun x hx => ?_, h.nd⟩
  rw [Bool.and_eq_true, decide_eq_true_eq, decide_eq_true_eq]
  exact h.bd x hx
theorem ord_tr {n : Nat} {a b : Int} {o : List Int} (ha : 0 ≤ a ∧ a < n) (hb : 0 ≤ b ∧ b < n) (h : Ord n o) : Ord n (o.map (tr a b)) := by
  refine ⟨?_, fun k hk => ?_, by rw [List.length_map]; exact h.len⟩
  · unfold List.Nodup
    rw [List.pairwise_map]
    exact List.Pairwise.imp (fun h e => h (tr_inj e)) h.nd
  · obtain ⟨x, hx, rfl⟩ := List.mem_map.1 hk
    exact tr_bd ha hb (h.bd x hx)
theorem map_tr_tr (a b : Int) (o : List Int) : (o.map (tr a b)).map (tr a b) = o := by
  rw [List.map_map]
  conv => rhs; rw [← List.map_id o]
  congr 1
  funext x
  exact tr_tr a b x
theorem os_tr {n : Nat} {a b : Int} (ha : 0 ≤ a ∧ a < n) (hb : 0 ≤ b ∧ b < n) (p : List Int → Bool) : (osT n (fact n)).countP (fun o => p (o.map (tr a b))) = (osT n (fact n)).countP p :=
  os_map (f := List.map (tr a b)) (fun _ h => isO_of (ord_tr ha hb (Ord.of h))) (fun o o' _ _ h => by rw [← map_tr_tr a b o, h, map_tr_tr]) p
theorem os_congr {n : Nat} {p q : List Int → Bool} (h : ∀ o, isO n o = true → p o = q o) : (osT n (fact n)).countP p = (osT n (fact n)).countP q := by
  refine List.countP_congr fun o ho => ?_
  rw [h o (os_mem.1 ho)]

/-! how many orders have i among the first t -/
def cT (n t : Nat) (i : Int) : Nat := (osT n (fact n)).countP fun o => decide (i ∈ o.take t)
theorem cT_same {n t : Nat} {i j : Int} (hi : 0 ≤ i ∧ i < n) (hj : 0 ≤ j ∧ j < n) : cT n t i = cT n t j := by
  unfold cT
  rw [← os_tr hi hj (fun o => decide (j ∈ o.take t))]
  refine os_congr fun o _ => ?_
  rw [decide_eq_decide, ← List.map_take, List.mem_map]
  constructor
  · intro h
    exact ⟨i, h, tr_a i j⟩
  · rintro ⟨x, hx, he⟩
    have : x = i := by rw [← tr_tr i j x, he, tr_b]
    rw [← this]
    exact hx
theorem nd_le {α : Type} [BEq α] [LawfulBEq α] : ∀ {a b : List α}, a.Nodup → (∀ x ∈ a, x ∈ b) → a.length ≤ b.length
  | [], _, _, _ => Nat.zero_le _
  | x :: a, b, hn, hs => by
    obtain ⟨hx, hn⟩ := List.nodup_cons.1 hn
    have hp := List.perm_cons_erase (hs x List.mem_cons_self)
    have h1 := nd_le (b := b.erase x) hn (fun y hy => (List.mem_erase_of_ne (by rintro rfl; exact hx hy)).2 (hs y (List.mem_cons_of_mem _ hy)))
    have := hp.length_eq
    rw [List.length_cons] at this ⊢
    omega
theorem cnt_in {n : Nat} {L : List Int} (hn : L.Nodup) (hb : ∀ x ∈ L, 0 ≤ x ∧ x < n) : (List.range n).countP (fun (i : Nat) => decide ((i : Int) ∈ L)) = L.length := by
  have h1 : (List.range n).countP (fun (i : Nat) => decide ((i : Int) ∈ L)) = (idn n).countP fun x => decide (x ∈ L) := by
    unfold idn
    rw [List.countP_map]
    rfl
  rw [h1, List.countP_eq_length_filter]
  refine Nat.le_antisymm (nd_le ((idn_ris n).nd.filter _) fun x hx => ?_) (nd_le hn fun x hx => ?_)
  · simpa using (List.mem_filter.1 hx).2
  · exact List.mem_filter.2 ⟨idn_mem.2 (hb x hx), by simpa using hx⟩
theorem sum_const {α : Type} (f : α → Nat) (c : Nat) : ∀ l : List α, (∀ x ∈ l, f x = c) → (l.map f).sum = l.length * c
  | [], _ => by simp
  | x :: l, h => by
    rw [List.map_cons, List.sum_cons, sum_const f c l (fun y hy => h y (List.mem_cons_of_mem _ hy)), h x List.mem_cons_self, List.length_cons, Nat.add_mul, Nat.one_mul, Nat.add_comm]
theorem sum_add {α : Type} (f g : α → Nat) : ∀ l : List α, (l.map fun x => f x + g x).sum = (l.map f).sum + (l.map g).sum
  | [] => rfl
  | x :: l => by
    rw [List.map_cons, List.map_cons, List.map_cons, List.sum_cons, List.sum_cons, List.sum_cons, sum_add f g l]
    omega
theorem sum_swap {α β : Type} (p : α → β → Bool) : ∀ (A : List α) (B : List β), (A.map fun a => B.countP fun b => p a b).sum = (B.map fun b => A.countP fun a => p a b).sum
  | [], B => by
    rw [sum_const (fun b => ([] : List α).countP fun a => p a b) 0 B (fun _ _ => rfl)]
    rfl
  | a :: A, B => by
    have e : (fun b => (a :: A).countP fun a => p a b) = fun b => (A.countP fun a => p a b) + (if p a b = true then 1 else 0) := by
      funext b
      rw [List.countP_cons]
    rw [List.map_cons, List.sum_cons, sum_swap p A B, e, sum_add]
    have h2 : ∀ B : List β, (B.map fun b => if p a b = true then 1 else 0).sum = B.countP fun b => p a b := by
      intro B
      induction B with
      | nil => rfl
      | cons b B ih =>
        rw [List.map_cons, List.sum_cons, List.countP_cons, ih, Nat.add_comm]
    rw [h2, Nat.add_comm]
theorem os_len (n : Nat) : (osT n (fact n)).length = fact n := by simp [osT]
theorem cT_mul {n t : Nat} {i : Int} (hi : 0 ≤ i ∧ i < n) : n * cT n t i = fact n * min t n := by
  have h1 := sum_swap (fun (i : Nat) (o : List Int) => decide ((i : Int) ∈ o.take t)) (List.range n) (osT n (fact n))
  rw [sum_const (fun (j : Nat) => (osT n (fact n)).countP fun (o : List Int) => decide ((j : Int) ∈ List.take t o)) (cT n t i) _ (fun j hj => (cT_same (t := t) (i := i) (j := (j : Int)) hi ⟨by omega, by have := List.mem_range.1 hj; omega⟩).symm), sum_const _ (min t n) _ (fun o ho => ?_), List.length_range, os_len] at h1
  · exact h1
  · have hO := Ord.of (os_mem.1 ho)
    rw [cnt_in (hO.nd.sublist (List.take_sublist t o)) (fun x hx => hO.bd x (List.mem_of_mem_take hx)), List.length_take, hO.len]
/-! equal fractions have equal lowest terms -/
theorem rat_eq {a b c d : Nat} (hb : 0 < b) (hd : 0 < d) (h : a * d = c * b) : rat a b = rat c d := by
  have hg1 : 0 < Nat.gcd a b := Nat.gcd_pos_of_pos_right a hb
  have hg2 : 0 < Nat.gcd c d := Nat.gcd_pos_of_pos_right c hd
  have e1 : Nat.gcd (a * d) (b * d) = Nat.gcd a b * d := Nat.gcd_mul_right a d b
  have e2 : Nat.gcd (c * b) (d * b) = Nat.gcd c d * b := Nat.gcd_mul_right c b d
  have e3 : Nat.gcd a b * d = Nat.gcd c d * b := by rw [← e1, ← e2, h, Nat.mul_comm b d]
  unfold rat
  have q1 : a / Nat.gcd a b = c / Nat.gcd c d := by
    rw [← Nat.mul_div_mul_right a (Nat.gcd a b) hd, e3, h, Nat.mul_div_mul_right c (Nat.gcd c d) hb]
  have q2 : b / Nat.gcd a b = d / Nat.gcd c d := by
    rw [← Nat.mul_div_mul_right b (Nat.gcd a b) hd, e3, Nat.mul_comm b d, Nat.mul_div_mul_right d (Nat.gcd c d) hb]
  rw [q1, q2]
end Go.Proofs.YtfjbioghpgmkiaaGreatDoor
/- The plain law of Equal: exchanging two entrants exchanges their chances; plain. -/
namespace Go.Proofs.YtfjbioghpgmkiaaGreatDoor
open Go.Eng Go.Dig

/-- l' is l with the entrants a and b exchanged -/
structure Swp (a b : Int) (l l' : List En) : Prop where
  len : l'.length = l.length
  ha : 0 ≤ a ∧ a < l.length
  hb : 0 ≤ b ∧ b < l.length
  at_ : ∀ k : Int, 0 ≤ k → k < l.length → l'[(tr a b k).toNat]? = l[k.toNat]?
theorem Swp.trn {a b : Int} {l l' : List En} (h : Swp a b l l') {ord : List Int} (hT : Ord l.length ord) : trn l' (ord.map (tr a b)) = (trn l ord).map (tr a b) := by
  have e1 : srt (clsF l') (ord.map (tr a b)) = (srt (clsF l) ord).map (tr a b) :=
    srt_map (clsF l) (clsF l') (tr a b) _ (fun k hk => by
      unfold clsF
      rw [h.at_ k (hT.bd k hk).1 (hT.bd k hk).2])
  have hQ : ∀ k ∈ srt (clsF l) ord, 0 ≤ k ∧ k < l.length := fun k hk => hT.bd k ((srt_perm (clsF l) ord).mem_iff.1 hk)
  unfold Proofs.YtfjbioghpgmkiaaGreatDoor.trn
  rw [e1]
  have e2 := tl_map (relF l) (relF l') (tr a b) (srt (clsF l) ord) [] (fun x hx y hy => by
    unfold relF
    rw [h.at_ x (hQ x hx).1 (hQ x hx).2, h.at_ y (hQ y hy).1 (hQ y hy).2]) (fun x _ y _ he => tr_inj he)
  rw [List.map_nil] at e2
  exact e2
theorem Swp.sim {a b : Int} {l l' : List En} (h : Swp a b l l') {ps : List (ByteArray × Int)} : ∀ A : List Int, (∀ k ∈ A, (0 : Int) ≤ k ∧ k < l.length) →
    (gA l' ps (A.map (tr a b))).1 = (gA l ps A).1 ∧ ∀ k : Int, 0 ≤ k → k < l.length → xa (gA l' ps (A.map (tr a b))).2 (tr a b k) = xa (gA l ps A).2 k := by
  intro A
  induction A using rev_ind with
  | nil =>
    intro _
    refine ⟨rfl, fun k h0 h1 => ?_⟩
    have hrep : ∀ (n : Nat) (i : Int), xa (List.replicate n noN) i = noN := by
      intro n i
      unfold xa
      rw [List.getElem?_replicate]
      split <;> rfl
    show xa (List.replicate _ noN) _ = xa (List.replicate _ noN) _
    rw [hrep, hrep]
  | append_singleton A k ih =>
    intro hA
    obtain ⟨h1, h2⟩ := ih (fun j hj => hA j (List.mem_append_left _ hj))
    obtain ⟨k0, k1⟩ := hA k (by simp)
    rw [List.map_append, List.map_cons, List.map_nil, gA_snoc, gA_snoc]
    have hl1 : (gA l ps A).2.length = l.length := by rw [foldA_len]; simp [asg0]
    have hl2 : (gA l' ps (A.map (tr a b))).2.length = l.length := by rw [foldA_len]; simp [asg0, h.len]
    have hw : wsh l' (tr a b k) = wsh l k := by
      unfold wsh
      rw [h.at_ k k0 k1]
    have hfl := tr_bd h.ha h.hb ⟨k0, k1⟩
    cases hf : (wsh l k).find? (avl (gA l ps A).1) with
    | none =>
      rw [stepA_none hf, stepA_none (by rw [hw, h1]; exact hf)]
      exact ⟨h1, h2⟩
    | some w0 =>
      rw [stepA_some hf, stepA_some (by rw [hw, h1]; exact hf)]
      refine ⟨by rw [h1], fun j j0 j1 => ?_⟩
      have hfj := tr_bd h.ha h.hb ⟨j0, j1⟩
      show xa ((gA l' ps (A.map (tr a b))).2.set (tr a b k).toNat w0) (tr a b j) = xa ((gA l ps A).2.set k.toNat w0) j
      rw [xa_set hfl.1 (by rw [hl2]; exact hfl.2) hfj.1, xa_set k0 (by rw [hl1]; exact k1) j0]
      by_cases e : j = k
      · rw [if_pos e, if_pos (by rw [e])]
      · rw [if_neg e, if_neg (fun h => e (tr_inj h))]
        exact h2 j j0 j1
theorem Swp.asg {a b : Int} {l l' : List En} (h : Swp a b l l') {ps : List (ByteArray × Int)} {ord : List Int} (hT : Ord l.length ord) {k : Int} (h0 : 0 ≤ k) (h1 : k < l.length) :
    xa (asg l' ps (ord.map (tr a b))) (tr a b k) = xa (asg l ps ord) k := by
  show xa (gA l' ps (Proofs.YtfjbioghpgmkiaaGreatDoor.trn l' (ord.map (tr a b)))).2 _ = xa (gA l ps (Proofs.YtfjbioghpgmkiaaGreatDoor.trn l ord)).2 k
  rw [h.trn hT]
  exact (h.sim _ hT.trn.bd).2 k h0 h1
/-- the chances of the one are those of the other -/
theorem Swp.odds {a b : Int} {l l' : List En} (h : Swp a b l l') (ps : List (ByteArray × Int)) {i j : Nat} (hi : i < l.length) (hij : tr a b (i : Int) = (j : Int)) : oddsR l' ps j = oddsR l ps i := by
  have hc : ∀ q, cntG (colG l' ps) (osT l.length (fact l.length)) j q = cntG (colG l ps) (osT l.length (fact l.length)) i q := by
    intro q
    unfold cntG
    rw [← os_tr h.ha h.hb (fun o => decide (colG l' ps o j = q))]
    refine os_congr fun o ho => ?_
    unfold colG
    rw [← hij, h.asg (Ord.of ho) (by omega) (by omega)]
  unfold oddsR
  rw [h.len]
  congr 1
  funext q
  rw [hc]
/-- the exchange, as the program writes it -/
theorem swp_set {l : List En} {i j : Nat} (hi : i < l.length) (hj : j < l.length) : Swp (i : Int) (j : Int) l ((l.set i l[j]).set j l[i]) := by
  refine ⟨by simp, ⟨by omega, by omega⟩, ⟨by omega, by omega⟩, fun k h0 h1 => ?_⟩
  obtain ⟨k, rfl⟩ : ∃ q : Nat, k = q := ⟨k.toNat, by omega⟩
  have hk : k < l.length := by omega
  rw [Int.toNat_natCast]
  unfold tr
  by_cases e1 : (k : Int) = i
  · have e : k = i := by omega
    subst e
    rw [if_pos rfl, Int.toNat_natCast, List.getElem?_set_self (by simpa using hj), List.getElem?_eq_getElem hk]
  · rw [if_neg e1]
    by_cases e2 : (k : Int) = j
    · have e : k = j := by omega
      subst e
      rw [if_pos rfl, Int.toNat_natCast, List.getElem?_set_ne (by omega), List.getElem?_set_self hi, List.getElem?_eq_getElem hk]
    · rw [if_neg e2, Int.toNat_natCast, List.getElem?_set_ne (by omega), List.getElem?_set_ne (by omega)]
/-- equal entrants -/
theorem swp_self {l : List En} {i j : Nat} (hi : i < l.length) (hj : j < l.length) (he : l[i] = l[j]) : Swp (i : Int) (j : Int) l l := by
  have h := swp_set hi hj
  have e : (l.set i l[j]).set j l[i] = l := by
    rw [← he]
    refine List.ext_getElem (by simp) fun k h1 h2 => ?_
    rw [List.getElem_set, List.getElem_set]
    split
    · rename_i e; subst e; exact he
    · split
      · rename_i e; subst e; rfl
      · rfl
  rw [e] at h
  exact h
end Go.Proofs.YtfjbioghpgmkiaaGreatDoor
/- A store of a struct into an owned list; helpers for regions that draw their order; conditions are the hypotheses of each law. -/
namespace Go.Eng

def putA (cur : Array Value) (o : Nat) : List Value → Array Value
  | [] => cur
  | v :: vs => putA (cur.setIfInBounds o v) (o + 1) vs
theorem putA_size : ∀ (vs : List Value) (cur : Array Value) (o : Nat), (putA cur o vs).size = cur.size
  | [], _, _ => rfl
  | v :: vs, cur, o => by
    show (putA (cur.setIfInBounds o v) (o + 1) vs).size = _
    rw [putA_size vs, Array.size_setIfInBounds]
theorem putA_list : ∀ (vs old A R : List Value) (cur : Array Value), cur.toList = A ++ (old ++ R) → old.length = vs.length → (putA cur A.length vs).toList = A ++ (vs ++ R)
  | [], [], A, R, cur, h, _ => h
  | [], u :: old, _, _, _, _, hl => by cases hl
  | v :: vs, [], _, _, _, _, hl => by cases hl
  | v :: vs, u :: old, A, R, cur, h, hl => by
    have h1 : (cur.setIfInBounds A.length v).toList = (A ++ [v]) ++ (old ++ R) := by
      rw [Array.toList_setIfInBounds, h]
      simp
    have h2 := putA_list vs old (A ++ [v]) R (cur.setIfInBounds A.length v) h1 (by simpa using hl)
    rw [List.length_append, List.length_singleton] at h2
    show (putA (cur.setIfInBounds A.length v) (A.length + 1) vs).toList = _
    rw [h2]
    simp
theorem run_storesC {P : Program} {b : Nat} {t : TypeId} : ∀ (vs : List Value) (w : World) (cur : Array Value) (o i : Nat), w.heap[b]? = some (.cells cur t (0, 0)) → o + i + vs.length ≤ cur.size → vs.all oneV = true →
    ∃ w', (storeCells ⟨b, o, none⟩ vs i).run P w = .ok () w' ∧ Keeps [b] w w' ∧ w'.heap[b]? = some (.cells (putA cur (o + i) vs) t (0, 0))
  | [], w, cur, o, i, hb, _, _ => ⟨w, by simp [storeCells], .refl, hb⟩
  | v :: vs, w, cur, o, i, hb, hl, h1 => by
    simp only [List.all_cons, Bool.and_eq_true] at h1
    simp only [List.length_cons] at hl
    obtain ⟨w1, r1, k1, b1⟩ := run_storeC (P := P) (o := o + i) hb (by omega) h1.1
    obtain ⟨w2, r2, k2, b2⟩ := run_storesC (P := P) vs w1 (cur.setIfInBounds (o + i) v) o (i + 1) b1 (by rw [Array.size_setIfInBounds]; omega) h1.2
    refine ⟨w2, ?_, k1.trans k2 (fun k hk => .inr hk), b2⟩
    simp only [storeCells, addr_add, Sem.run_bind, r1, Result.andThen_ok, r2]
section
variable {P : Program} {n : FrK} {w0 w : World} {M : List Nat} {L : List Ent} {F : Fr} {d : Option Tmp} {ty : TypeId} {pos : String} {aft : Array Edge} {g : Option (Nat × Bool)} {x y : Operand}
theorem st_setK {α : Type} (enc : α → List Value) (l : List α) (i : Nat) (xv : α) {t e gb c k : Nat} {v : Value} (hp : Hp w0 M w L) (j : Nat) (hj : L[j]? = some (ownL enc e k (some ⟨gb, 0, none⟩) c l)) (hvl : SVL (some ⟨gb, 0, none⟩) c l) (hi : i < l.length)
    (hx : ev n F x = .pointer (some ⟨gb, 0 + i * k, none⟩)) (hy : ev n F y = v) (hk : ∀ x, (enc x).length = k) (hv : v.cells.toList = enc xv) (h1 : (enc xv).all oneV = true) (hz : TSize P t k) :
    StepF P n ⟨d, .store t x y, ty, pos, aft, g⟩ F w (fun u w' => u = undef ∧ Hp w0 M w' (L.set j (ownL enc e k (some ⟨gb, 0, none⟩) c (l.set i xv)))) := by
  obtain ⟨o, ho, cur, rfl, hsz, htk⟩ := hp.has j _ hj gb rfl
  have hsz : cur.size = c * k := hsz
  have hcap := hvl.cap
  have hsp : l = l.take i ++ l[i] :: l.drop (i + 1) := by rw [List.getElem_cons_drop, List.take_append_drop]
  have hA : ((l.take i).flatMap enc).length = i * k := by
    rw [flatMap_len enc k hk, List.length_take, Nat.min_eq_left (by omega)]
  have hfl : l.flatMap enc = (l.take i).flatMap enc ++ (enc l[i] ++ (l.drop (i + 1)).flatMap enc) := by
    conv => lhs; rw [hsp]
    rw [List.flatMap_append, List.flatMap_cons]
  have hset : (l.set i xv).flatMap enc = (l.take i).flatMap enc ++ (enc xv ++ (l.drop (i + 1)).flatMap enc) := by
    rw [List.set_eq_take_append_cons_drop, if_pos hi, List.flatMap_append, List.flatMap_cons]
  have hcur : cur.toList = (l.take i).flatMap enc ++ (enc l[i] ++ ((l.drop (i + 1)).flatMap enc ++ cur.toList.drop (l.length * k))) := by
    have h2 := (List.take_append_drop (l.length * k) cur.toList).symm
    have htk' : cur.toList.take (l.length * k) = l.flatMap enc := htk
    rw [htk', hfl] at h2
    refine h2.trans ?_
    rw [List.append_assoc, List.append_assoc]
  have hle : i * k + k ≤ c * k := by
    have : (i + 1) * k ≤ c * k := Nat.mul_le_mul_right k (by omega)
    rw [Nat.add_mul, Nat.one_mul] at this
    exact this
  obtain ⟨w', hr, hk', hb'⟩ := run_storesC (P := P) (enc xv) w cur (0 + i * k) 0 ho (by rw [hk]; omega) h1
  simp only [Nat.zero_add] at hr
  refine stepF_skip (w' := w') ?_ ⟨rfl, hp.upd hj hk' ?_⟩
  · have hcs : v.cells.size = k := by rw [← Array.length_toList, hv, hk]
    have hz2 := hz.run (w := w)
    simp only [execOp, Instr.storeAt, hx, hy, Instr.sureAddr, storeVar, Sem.run_bind, Sem.run_pure, Result.andThen_ok, hz2, hcs, hv]
    simp only [Nat.zero_add]
    simp [hr]
  · intro b1 hb1
    have hb1 : b1 = gb := by
      have : (some gb : Option Nat) = some b1 := hb1
      simpa [eq_comm] using this
    subst hb1
    refine ⟨.inl rfl, _, hb', _, rfl, ?_, ?_⟩
    · rw [putA_size, hsz]
      rfl
    · have h3 := putA_list (enc xv) (enc l[i]) _ _ cur hcur (by rw [hk, hk])
      rw [hA] at h3
      rw [show 0 + i * k + 0 = i * k from by omega, h3, hset, List.length_set, ← List.append_assoc, ← List.append_assoc, ← List.append_assoc]
      have h4 : ((l.take i).flatMap enc ++ enc xv ++ (l.drop (i + 1)).flatMap enc).length = l.length * k := by
        have := flatMap_len enc k hk (l.set i xv)
        rw [hset, List.length_set, ← List.append_assoc] at this
        exact this
      rw [← h4, List.take_left]
end

/-! regions that draw their order -/
theorem Dn.putV {b m i : Nat} {V V' : Nat → Value} {F0 F : Fr} {D : Nat → Bool} (h : Dn b m V F0 D F) (hi : i < m) (hV : ∀ j, j < m → j ≠ i → V' j = V j) : Dn b m V' F0 (fun j => D j || Nat.beq j i) (F.put (b + i) (V' i)) := by
  refine ⟨fun j hj hD => ?_, fun s hs => ?_⟩
  · by_cases hji : j = i
    · subst hji
      have : Nat.beq (b + j) (b + j) = true := Nat.beq_refl _
      simp [Fr.put]
    · have h1 : Nat.beq j i = false := nbeq_false hji
      rw [h1, Bool.or_false] at hD
      have h2 : Nat.beq (b + j) (b + i) = false := nbeq_false (by omega)
      simp only [Fr.put, h2, cond_false]
      rw [h.at_ j hj hD, hV j hj hji]
  · have h2 : Nat.beq s (b + i) = false := nbeq_false (by omega)
    simp only [Fr.put, h2, cond_false]
    exact h.out s hs
/-- closed: what must come before has come -/
def ClP (prd : Nat → List Nat) (D : Nat → Bool) : Prop := ∀ a b, D a = true → b ∈ prd a → D b = true
theorem ClP.add {prd : Nat → List Nat} {D : Nat → Bool} {q : Nat} (h : ClP prd D) (hq : ∀ p ∈ prd q, D p = true) : ClP prd (fun j => D j || Nat.beq j q) := by
  intro a b ha hb
  rcases Bool.or_eq_true _ _ ▸ ha with h1 | h1
  · show (D b || _) = true
    rw [h a b h1 hb]
    rfl
  · have : a = q := Nat.eq_of_beq_eq_true h1
    subst this
    show (D b || _) = true
    rw [hq b hb]
    rfl
theorem ClP.not {prd : Nat → List Nat} {D : Nat → Bool} (h : ClP prd D) {a b : Nat} (hb : D b = false) (hm : b ∈ prd a) : D a = false := by
  cases ha : D a
  · rfl
  · rw [h a b ha hm] at hb
    cases hb
theorem aft_of {ops : Array Oper} {i : Nat} {D : Nat → Bool} (h : aftOK ops i D = true) (k : Nat) (hk : ((opAt ops i).after.toList.any fun e => Region.binds .any e && Nat.beq e.on k) = true) : D k = true := by
  obtain ⟨e, he, h1⟩ := List.any_eq_true.1 hk
  have h2 := List.all_eq_true.1 h e he
  rw [Bool.and_eq_true] at h1
  rw [h1.1] at h2
  have h3 : e.on = k := Nat.eq_of_beq_eq_true h1.2
  rw [h3] at h2
  simpa using h2
theorem al0 {D : Nat → Bool} : ∀ p ∈ ([] : List Nat), D p = true := fun p h => by cases h
theorem al1 {D : Nat → Bool} {a : Nat} (ha : D a = true) : ∀ p ∈ [a], D p = true := fun p h => by
  rcases List.mem_cons.1 h with rfl | h
  · exact ha
  · cases h
theorem al2 {D : Nat → Bool} {a b : Nat} (ha : D a = true) (hb : D b = true) : ∀ p ∈ [a, b], D p = true := fun p h => by
  rcases List.mem_cons.1 h with rfl | h
  · exact ha
  · exact al1 hb p h
theorem al3 {D : Nat → Bool} {a b c : Nat} (ha : D a = true) (hb : D b = true) (hc : D c = true) : ∀ p ∈ [a, b, c], D p = true := fun p h => by
  rcases List.mem_cons.1 h with rfl | h
  · exact ha
  · exact al2 hb hc p h
end Go.Eng
/- The law PlacesEqual returns true; conditions: the plan lies in memory. -/
namespace Go.Proofs.YtfjbioghpgmkiaaGreatDoor
open Go.Eng Go.Dig

theorem sl33 : Tryz.prog.underlying 33 = some (.slice 41) ∧ TSize Tryz.prog 41 6 := slTy_ok rfl
theorem EAt.sub {w : World} {s s2 : Option Addr} {l l2 : List En} (h : EAt w s l) (h2 : SlAt w 6 eE s2 l2) (hm : ∀ e ∈ l2, e ∈ l) : EAt w s2 l2 := ⟨h2, fun e he => h.ws e (hm e he), fun e he => h.len e (hm e he)⟩
theorem oddsR_len (l : List En) (ps : List (ByteArray × Int)) (i : Nat) : (oddsR l ps i).length = ps.length + 1 := by simp [oddsR]
theorem oddsL_len (l : List En) (ps : List (ByteArray × Int)) : (oddsL l ps).length = l.length := by simp [oddsL]
theorem rs_len {rs : List QRow} {l : List En} {ps : List (ByteArray × Int)} (h : rs.map QRow.l = oddsL l ps) : rs.length = l.length := by
  have := congrArg List.length h
  rw [List.length_map, oddsL_len] at this
  exact this
theorem rows_at {rs : List QRow} {l : List En} {ps : List (ByteArray × Int)} {w : World} {so : Option Addr} {b o : Nat} (h : rs.map QRow.l = oddsL l ps) (hsr : SlAt w 1 eQR so rs) (hrr : ∀ r ∈ rs, SlAt w 3 eQ r.s r.l) (hs : so = some ⟨b, o, none⟩) {k : Nat} (hk : k < l.length) :
    ∃ s' c', w.cell? ⟨b, o + k * 1, none⟩ = some (.slice s' (oddsR l ps k).length c') ∧ SlAt w 3 eQ s' (oddsR l ps k) := by
  have hkr : k < rs.length := by rw [rs_len h]; exact hk
  obtain ⟨b', o', hs', hc⟩ := hsr k _ (List.getElem?_eq_getElem hkr)
  rw [hs] at hs'
  cases hs'
  have hl : rs[k].l = oddsR l ps k := by
    have h1 : (rs.map QRow.l)[k]? = (oddsL l ps)[k]? := by rw [h]
    unfold oddsL at h1
    rw [List.getElem?_map, List.getElem?_eq_getElem hkr, List.getElem?_map, List.getElem?_range hk] at h1
    exact Option.some.inj h1
  have h2 := hrr rs[k] (List.getElem_mem hkr)
  rw [hl] at h2
  refine ⟨rs[k].s, rs[k].c, ?_, h2⟩
  rw [← hl]
  exact hc 0 _ rfl
theorem mem_swap {z : List En} {i j : Nat} {ei ej e : En} (hi : ei ∈ z) (hj : ej ∈ z) (h : e ∈ (z.set i ej).set j ei) : e ∈ z := by
  rcases List.mem_or_eq_of_mem_set h with h | rfl
  · rcases List.mem_or_eq_of_mem_set h with h | rfl
    · exact h
    · exact hj
  · exact hi
theorem swp_twin {z : List En} {i : Nat} (hi : i < z.length) : Swp (i : Int) (z.length : Int) (z ++ [z[i]]) (z ++ [z[i]]) :=
  swp_self (l := z ++ [z[i]]) (i := i) (j := z.length) (by simp; omega) (by simp) (by rw [List.getElem_append_left hi]; simp)

/-! the region of the twin -/
def tprd : Nat → List Nat
  | 2 => [0, 1]
  | 5 => [3, 4]
  | 6 => [5]
  | 7 => [6]
  | 8 => [0, 2, 7]
  | 9 => List.range 9
  | _ => []
def tnV (s : Option Addr) (n c bE oE i : Nat) (e : En) (eb : Nat) (t1 : Option Addr) (d1 nb : Nat) (t2 : Option Addr) (d2 : Nat) : Nat → Value :=
  frOf [.slice (some ⟨eb, 0, none⟩) 0 0, .slice s n c, .slice t1 n d1, .slice s n c, .int .i64 (i : Int), .pointer (some ⟨bE, oE + i * 6, none⟩), .agg (eE e).toArray, .slice (some ⟨nb, 0, none⟩) 1 1, .slice t2 (n + 1) d2]
def tnE (z : List En) (e : En) (eb : Nat) (t1 : Option Addr) (d1 : Nat) (t2 : Option Addr) (d2 : Nat) (b0 b2 b8 : Bool) : Ent :=
  bif b8 then ownL eE 41 6 t2 d2 (z ++ [e]) else bif b2 then ownL eE 41 6 t1 d1 z else bif b0 then blk eb 0 (frOf []) 41 else ownL eI 3 1 none 0 []
def tnL (B : List Ent) (z : List En) (e : En) (eb : Nat) (t1 : Option Addr) (d1 nb : Nat) (t2 : Option Addr) (d2 : Nat) (b0 b2 b8 b7 : Bool) : List Ent :=
  tnE z e eb t1 d1 t2 d2 b0 b2 b8 :: (bif b7 then blk nb 6 (frOf (eE e)) 41 else ownL eI 3 1 none 0 []) :: B
def tnI (w3 : World) (F0 : Fr) (B : List Ent) (z : List En) (e : En) (s : Option Addr) (c bE oE i : Nat) (D : Nat → Bool) (F : Fr) (w' : World) : Prop :=
  ∃ (eb : Nat) (t1 : Option Addr) (d1 nb : Nat) (t2 : Option Addr) (d2 : Nat) (G : Fr), Dn 62 9 (tnV s z.length c bE oE i e eb t1 d1 nb t2 d2) F0 D G ∧
    F = (bif D 9 then G.put 13 (.slice t2 (z.length + 1) d2) else G) ∧ ClP tprd D ∧ (D 2 = true → SVL t1 d1 z) ∧ (D 8 = true → SVL t2 d2 (z ++ [e])) ∧
    Hp w3 [] w' (tnL B z e eb t1 d1 nb t2 d2 (D 0) (D 2) (D 8) (D 7))
section
variable {w3 : World} {F0 : Fr} {B : List Ent} {z : List En} {e : En} {s : Option Addr} {c bE oE i : Nat} {D : Nat → Bool} {F : Fr} {w' : World} {q eb : Nat} {t1 : Option Addr} {d1 nb : Nat} {t2 : Option Addr} {d2 : Nat}
theorem tnI.mk (eb' : Nat) (t1' : Option Addr) (d1' nb' : Nat) (t2' : Option Addr) (d2' : Nat) (hq : q < 9) (hDn : Dn 62 9 (tnV s z.length c bE oE i e eb t1 d1 nb t2 d2) F0 D F)
    (hV : ∀ j, j < 9 → j ≠ q → tnV s z.length c bE oE i e eb' t1' d1' nb' t2' d2' j = tnV s z.length c bE oE i e eb t1 d1 nb t2 d2 j) (hcl : ClP tprd D) (hpr : ∀ p ∈ tprd q, D p = true) (h9 : D 9 = false) (b0 b2 b8 b7 : Bool)
    (e0 : (D 0 || Nat.beq 0 q) = b0) (e2 : (D 2 || Nat.beq 2 q) = b2) (e8 : (D 8 || Nat.beq 8 q) = b8) (e7 : (D 7 || Nat.beq 7 q) = b7) (h2 : b2 = true → SVL t1' d1' z) (h8 : b8 = true → SVL t2' d2' (z ++ [e]))
    (hp : Hp w3 [] w' (tnL B z e eb' t1' d1' nb' t2' d2' b0 b2 b8 b7)) :
    tnI w3 F0 B z e s c bE oE i (fun j => D j || Nat.beq j q) (F.put (62 + q) (tnV s z.length c bE oE i e eb' t1' d1' nb' t2' d2' q)) w' := by
  have f1 : Nat.beq 9 q = false := nbeq_false (by omega)
  subst e0 e2 e8 e7
  refine ⟨eb', t1', d1', nb', t2', d2', _, Dn.putV hDn hq hV, ?_, hcl.add hpr, h2, h8, hp⟩
  simp only [h9, f1, Bool.or_false, cond_false]
theorem tnI.pure (hq : q < 9) (n0 : q ≠ 0) (n2 : q ≠ 2) (n8 : q ≠ 8) (n7 : q ≠ 7) (hDn : Dn 62 9 (tnV s z.length c bE oE i e eb t1 d1 nb t2 d2) F0 D F) (hcl : ClP tprd D) (h9 : D 9 = false)
    (h2 : D 2 = true → SVL t1 d1 z) (h8 : D 8 = true → SVL t2 d2 (z ++ [e])) (hp : Hp w3 [] w' (tnL B z e eb t1 d1 nb t2 d2 (D 0) (D 2) (D 8) (D 7))) (hpr : ∀ p ∈ tprd q, D p = true) :
    tnI w3 F0 B z e s c bE oE i (fun j => D j || Nat.beq j q) (F.put (62 + q) (tnV s z.length c bE oE i e eb t1 d1 nb t2 d2 q)) w' := by
  have g : ∀ a, q ≠ a → (D a || Nat.beq a q) = D a := fun a h => by rw [nbeq_false (fun e => h e.symm), Bool.or_false]
  exact tnI.mk eb t1 d1 nb t2 d2 hq hDn (fun _ _ _ => rfl) hcl hpr h9 _ _ _ _ (g 0 n0) (g 2 n2) (g 8 n8) (g 7 n7) h2 h8 hp
theorem tnV0 {eb' : Nat} : ∀ j, j < 9 → j ≠ 0 → tnV s z.length c bE oE i e eb' t1 d1 nb t2 d2 j = tnV s z.length c bE oE i e eb t1 d1 nb t2 d2 j := by
  intro j hj hne
  match j, hj, hne with
  | 0, _, h => exact absurd rfl h
  | 1, _, _ => rfl
  | 2, _, _ => rfl
  | 3, _, _ => rfl
  | 4, _, _ => rfl
  | 5, _, _ => rfl
  | 6, _, _ => rfl
  | 7, _, _ => rfl
  | 8, _, _ => rfl
  | j + 9, h, _ => exact absurd h (by omega)
theorem tnV2 {t1' : Option Addr} {d1' : Nat} : ∀ j, j < 9 → j ≠ 2 → tnV s z.length c bE oE i e eb t1' d1' nb t2 d2 j = tnV s z.length c bE oE i e eb t1 d1 nb t2 d2 j := by
  intro j hj hne
  match j, hj, hne with
  | 0, _, _ => rfl
  | 1, _, _ => rfl
  | 2, _, h => exact absurd rfl h
  | 3, _, _ => rfl
  | 4, _, _ => rfl
  | 5, _, _ => rfl
  | 6, _, _ => rfl
  | 7, _, _ => rfl
  | 8, _, _ => rfl
  | j + 9, h, _ => exact absurd h (by omega)
theorem tnV7 {nb' : Nat} : ∀ j, j < 9 → j ≠ 7 → tnV s z.length c bE oE i e eb t1 d1 nb' t2 d2 j = tnV s z.length c bE oE i e eb t1 d1 nb t2 d2 j := by
  intro j hj hne
  match j, hj, hne with
  | 0, _, _ => rfl
  | 1, _, _ => rfl
  | 2, _, _ => rfl
  | 3, _, _ => rfl
  | 4, _, _ => rfl
  | 5, _, _ => rfl
  | 6, _, _ => rfl
  | 7, _, h => exact absurd rfl h
  | 8, _, _ => rfl
  | j + 9, h, _ => exact absurd h (by omega)
theorem tnV8 {t2' : Option Addr} {d2' : Nat} : ∀ j, j < 9 → j ≠ 8 → tnV s z.length c bE oE i e eb t1 d1 nb t2' d2' j = tnV s z.length c bE oE i e eb t1 d1 nb t2 d2 j := by
  intro j hj hne
  match j, hj, hne with
  | 0, _, _ => rfl
  | 1, _, _ => rfl
  | 2, _, _ => rfl
  | 3, _, _ => rfl
  | 4, _, _ => rfl
  | 5, _, _ => rfl
  | 6, _, _ => rfl
  | 7, _, _ => rfl
  | 8, _, h => exact absurd rfl h
  | j + 9, h, _ => exact absurd h (by omega)
theorem tnI.fin {G : Fr} (hDn : Dn 62 9 (tnV s z.length c bE oE i e eb t1 d1 nb t2 d2) F0 D G) (hcl : ClP tprd D) (hpr : ∀ p ∈ tprd 9, D p = true)
    (h2 : D 2 = true → SVL t1 d1 z) (h8 : D 8 = true → SVL t2 d2 (z ++ [e])) (hp : Hp w3 [] w' (tnL B z e eb t1 d1 nb t2 d2 (D 0) (D 2) (D 8) (D 7))) :
    tnI w3 F0 B z e s c bE oE i (fun j => D j || Nat.beq j 9) (G.put 13 (.slice t2 (z.length + 1) d2)) w' := by
  have g : ∀ a, a < 9 → (D a || Nat.beq a 9) = D a := fun a h => by rw [nbeq_false (show a ≠ 9 by omega), Bool.or_false]
  refine ⟨eb, t1, d1, nb, t2, d2, G, hDn.congr (fun j hj => g j hj), ?_, hcl.add hpr, fun h => h2 (by rw [← g 2 (by decide)]; exact h), fun h => h8 (by rw [← g 8 (by decide)]; exact h), ?_⟩
  · have e2 : (D 9 || Nat.beq 9 9) = true := Bool.or_true _
    simp only [e2, cond_true]
  · show Hp w3 [] w' (tnL B z e eb t1 d1 nb t2 d2 (D 0 || Nat.beq 0 9) (D 2 || Nat.beq 2 9) (D 8 || Nat.beq 8 9) (D 7 || Nat.beq 7 9))
    rw [g 0 (by decide), g 2 (by decide), g 8 (by decide), g 7 (by decide)]
    exact hp
end

attribute [local irreducible] PV StepF wpl wpd WP Ret
attribute [local irreducible] Fit srt tl fl seenL stO isO trn fact ordN rfO num asg nmI oddsR

set_option maxHeartbeats 16000000 in
theorem c4 (lp : List (Int × Int)) (le : List Pe) (sp se : Option Addr) (cp ce : Nat) (x0 y0 : Nat) (w : World) (hsp : SlAt w 2 eT2 sp lp) (hse : SlAt w 3 ePe se le) (hsw : ∀ p ∈ le, SlAt w 1 eI p.ws p.wl)
    (hpr : ∀ p ∈ lp, p.2 ≤ 9223372036854775807) (hx0 : x0 ≤ 255) (hy0 : y0 ≤ 255) :
    Ret Tryz.prog 4 [.agg #[.slice sp lp.length cp, .slice se le.length ce], .int .u8 (x0 : Int), .int .u8 (y0 : Int)] w (fun v w' => v = .bool true ∧ Keeps [] w w') := by
  have hpm := mkP_le hpr
  have hps := mkP_len lp
  refine Ret.of_WP Tryz.func4 rfl Tryz.ntmps4 rfl ?_
  have hp := Hp.start (M := []) (w := w)
  (repeat (with_reducible first | apply WP_seq | apply WP_region))
  (apply wls; exact sbox2 hp rfl; rintro _ w1 ⟨qb, rfl, hp⟩)
  (repeat (first | (with_reducible first | apply WP_seq | apply WP_region | apply wpl_nil | apply thenQ_n) | (apply wlp; apply pv_assign; exact fB rfl)))
  (apply wls; exact st_call rfl ent11 rfl (p11 _))
  rintro _ w2 ⟨rfl, hk⟩
  have hp := hp.call hk
  (repeat (first | (with_reducible first | apply WP_seq | apply WP_region | apply wpl_nil | apply thenQ_n) | (apply wlp; ((first | apply pv_assign | (apply pf_loadb; exact rfl)) <;> (first | exact rfl | exact hp.agg_blk 0 rfl rfl)); (first | exact fB rfl | exact fA2 rfl))))
  (apply wls; exact st_call rfl ent12 rfl (p12 lp le sp se cp ce _ (hsp.keep0 hp.keeps) (hse.keep0 hp.keeps) (fun p hp2 => (hsw p hp2).keep0 hp.keeps)))
  rintro _ w3 ⟨sP, cP, s, c, l, rfl, hP, hE, hec, hev, hlc, hk⟩
  have hp := hp.call hk
  have hk3 := hp.keeps
  generalize hPS : (lp.take 6).map mkP = ps at hpm hps hP
  clear hp hev hsp hse hsw
  have hp := Hp.start (M := []) (w := w3)
  (repeat (apply wlp; ((first | apply pv_move | apply pv_extract) <;> exact rfl); (first | exact fS rfl | exact fA13 rfl | exact fU rfl)))
  (apply wls; exact salloc13 hp (zeroTy_ok rfl); rintro _ w4 ⟨db, rfl, hp⟩)
  (apply wls0; exact sstore13 hp 0 rfl rfl rfl rfl (sizeTy_ok rfl) rfl; rintro _ w5 ⟨rfl, hp⟩)
  have hp := hp.norm 0 (dB xN 2 sP ps.length cP) rfl rfl
  (apply wlp; apply pv_assign; exact fS rfl)
  (repeat (with_reducible first | apply WP_seq | apply WP_region | apply wpl_nil | apply thenQ_n))
  (apply wlp; apply pv_move; exact fS rfl)
  (apply wlp; apply pv_move; exact fS rfl)
  (apply wlp; ((apply pf_len; exact rfl) <;> exact rfl); exact fI rfl)
  (apply wlp; exact pv_min rfl rfl; exact int_eq (b := ((l.take 4).length : Int)) (by rw [List.length_take]; omega))
  (apply wlp; exact pv_sliceHi sl33.1 sl33.2 rfl rfl (by rw [List.length_take]; omega); exact fS rfl)
  have hE : EAt w3 s (l.take 4) := hE.sub (SlAt_take hE.at_ 4) (fun e he => List.mem_of_mem_take he)
  have hz4 : (l.take 4).length ≤ 4 := by rw [List.length_take]; omega
  have hzc : (l.take 4).length ≤ c := by rw [List.length_take]; omega
  generalize l.take 4 = z at hE hz4 hzc
  clear hec hlc
  (repeat (first | (with_reducible first | apply WP_seq | apply WP_region | apply wpl_nil | apply thenQ_n) | (apply wlp; ((first | apply pv_move | apply pv_assign | (apply pf_len; exact rfl) | (apply pv_eql; (first | exact rfl | exact ev_sel rfl (by assumption)))) <;> exact rfl); (first | exact fI rfl | exact fB rfl | exact fS rfl))))
  refine WP_cond_d rfl (fun h => ?_) (fun h => ?_)
  · (repeat (first | (with_reducible first | apply WP_seq | apply WP_region | apply wpl_nil | apply thenQ_n | apply thenQ_ret | apply WP_ret) | (apply wlp; (first | apply pv_move | apply pv_assign); exact fB rfl)))
    exact ret_tmp rfl rfl ⟨_, rfl, rfl, hk3.trans hp.keeps (by simp)⟩
  have hz0 : 0 < z.length := by omega
  obtain ⟨i, hi⟩ : ∃ i, i = x0 % z.length := ⟨_, rfl⟩
  obtain ⟨j, hj⟩ : ∃ j, j = y0 % z.length := ⟨_, rfl⟩
  have hiz : i < z.length := by rw [hi]; exact Nat.mod_lt _ hz0
  have hjz : j < z.length := by rw [hj]; exact Nat.mod_lt _ hz0
  (repeat (with_reducible first | apply WP_seq | apply thenQ_n | apply WP_skip))
  refine WP_draw mixed (by kernel_rfl) (fun w' => Hp _ _ w' _) hp.drew ?_
  have hp := hp.drew
  (repeat ((apply wdp; exact rfl); (intro w hp; intros; ((first | apply pv_move | (apply pf_len; exact rfl) | apply pf_conv) <;> exact rfl)); (intros; (first | exact fI rfl | exact fS rfl))))
  (apply wdp; exact rfl; (intro w hp; exact pv_rem rfl rfl (by omega)); exact int_eq (b := (i : Int)) (by rw [i64_in (by omega) (by omega), int_rem, hi]))
  (repeat ((apply wdp; exact rfl); (intro w hp; intros; ((first | apply pv_move | (apply pf_len; exact rfl) | apply pf_conv) <;> exact rfl)); (intros; (first | exact fI rfl | exact fS rfl))))
  (apply wdp; exact rfl; (intro w hp; exact pv_rem rfl rfl (by omega)); exact int_eq (b := (j : Int)) (by rw [i64_in (by omega) (by omega), int_rem, hj]))
  (repeat ((apply wdp; exact rfl); (intro w hp; intros; apply pv_assign); (intros; exact fI rfl)))
  refine wpd_nil ?_
  clear hi hj hx0 hy0 h
  (repeat (with_reducible first | apply WP_seq | apply WP_region | apply thenQ_n))
  (apply wls; exact sf_slice hp rfl rfl rfl rfl rfl rfl rfl; rintro _ w6 ⟨eb, rfl, hp⟩)
  (repeat (apply wlp; apply pv_move; exact fS rfl))
  (apply wls; exact sf_clone eE z hp 0 rfl rfl rfl rfl rfl rfl (fun _ => rfl) rfl rfl rfl (hE.at_.keep0 hp.keeps) (fun _ => rfl) (by omega); rintro _ w7 ⟨sB, cB, rfl, hvB, hp⟩)
  have hp : Hp w3 [] w7 [ownL eE 41 6 sB cB z, blk db 13 (frOf (dB xN 2 sP ps.length cP)) 32] := hp
  obtain ⟨gb, rfl⟩ := hvB.addr (by rintro rfl; simp at hz0)
  have hgi := List.getElem?_eq_getElem hiz
  have hgj := List.getElem?_eq_getElem hjz
  have hmi := List.getElem_mem hiz
  have hmj := List.getElem_mem hjz
  have hsw := swp_set hiz hjz
  have htw := swp_twin hiz
  generalize z[i] = ei at hgi hmi hsw htw
  generalize z[j] = ej at hgj hmj hsw
  (repeat (first | (with_reducible first | apply WP_seq | apply wpl_nil | apply thenQ_n) | (apply wlp; apply pv_assign; exact fS rfl)))
  refine WP_drawS mixed (by kernel_rfl) (fun w' => Hp _ _ w' _) hp.drew ?_
  have hp := hp.drew
  (repeat ((apply wdp; exact rfl); (intro w hp; intros; ((first | apply pv_move | (apply pf_loadb; exact rfl) | (apply pf_index; exact rfl)) <;> (first | exact rfl | assumption))); (intros; (first | exact fI rfl | exact fP rfl | exact fS rfl))))
  (apply wdp; exact rfl; (intro w hp; exact pf_loads (vs := eE ej) rfl rfl rfl rfl (own_elem hp 0 rfl hvB (fun _ => rfl) hgj)); exact fA6 rfl)
  (repeat ((apply wdp; exact rfl); (intro w hp; intros; ((first | apply pv_move | (apply pf_loadb; exact rfl) | (apply pf_index; exact rfl)) <;> (first | exact rfl | assumption))); (intros; (first | exact fI rfl | exact fP rfl | exact fS rfl))))
  (apply wdp; exact rfl; (intro w hp; exact pf_loads (vs := eE ei) rfl rfl rfl rfl (own_elem hp 0 rfl hvB (fun _ => rfl) hgi)); exact fA6 rfl)
  (repeat ((apply wdp; exact rfl); (intro w hp; intros; ((apply pf_index; exact rfl) <;> (first | exact rfl | assumption))); (intros; exact fP rfl)))
  (apply wds0S; exact rfl; exact rfl; exact st_setK eE z i ej hp 0 rfl hvB hiz rfl rfl (fun _ => rfl) rfl rfl (sizeTy_ok rfl); rintro _ w8 ⟨rfl, hp⟩)
  (repeat ((apply wdp; exact rfl); (intro w hp; intros; ((apply pf_index; exact rfl) <;> (first | exact rfl | assumption))); (intros; exact fP rfl)))
  (apply wds0S; exact rfl; exact rfl; exact st_setK eE (z.set i ej) j ei hp 0 rfl (hvB.set i ej) (by rw [List.length_set]; exact hjz) rfl rfl (fun _ => rfl) rfl rfl (sizeTy_ok rfl); rintro _ w9 ⟨rfl, hp⟩)
  refine wpd_nil ?_
  have hvT : SVL (some ⟨gb, 0, none⟩) cB ((z.set i ej).set j ei) := (hvB.set i ej).set j ei
  have hTl : ((z.set i ej).set j ei).length = z.length := by rw [List.length_set, List.length_set]
  have hTm : ∀ e ∈ (z.set i ej).set j ei, e ∈ z := fun e he => mem_swap hmi hmj he
  generalize (z.set i ej).set j ei = T at hvT hTl hTm hsw hp
  have hp : Hp w3 [] w9 [ownL eE 41 6 (some ⟨gb, 0, none⟩) cB T, blk db 13 (frOf (dB xN 2 sP ps.length cP)) 32] := hp
  (repeat (with_reducible first | apply WP_seq | apply thenQ_n))
  refine WP_name ?_
  intro F0 hF0
  have f9 : F0 9 = .slice s z.length c := by rw [hF0]; rfl
  have f10 : F0 10 = .int .i64 (i : Int) := by rw [hF0]; rfl
  obtain ⟨bE, oE, hsE, hcE⟩ := hE.at_.base hz0
  have hcE := hcE i ei hgi
  obtain ⟨B, hB⟩ : ∃ B : List Ent, B = [ownL eE 41 6 (some ⟨gb, 0, none⟩) cB T, blk db 13 (frOf (dB xN 2 sP ps.length cP)) 32] := ⟨_, rfl⟩
  have hp : Hp w3 [] w9 (tnL B z ei 0 none 0 0 none 0 false false false false) := by
    rw [hB]
    exact (hp.nilL eI 3 1).nilL eI 3 1
  refine WP_drawI mixed (by kernel_rfl) (tnI w3 F0 B z ei s c bE oE i) ⟨0, none, 0, 0, none, 0, F0, Dn.start, rfl, by intro a b h; simp at h, by simp, by simp, hp.drew⟩ ?_ ?_
  · rintro q D F w17 hq hDq hA ⟨eb, t1, d1, nb, t2, d2, G, hDn, hFe, hcl, h2, h8, hp⟩
    have hq : q < 10 := hq
    by_cases hq9 : q < 9
    · have h9 : D 9 = false := hcl.not hDq (List.mem_range.2 hq9)
      have hF : F = G := by rw [hFe, h9]; rfl
      clear hFe
      subst hF
      have nxt := fun (q : Nat) (hq : q < 9) (n0 : q ≠ 0) (n2 : q ≠ 2) (n8 : q ≠ 8) (n7 : q ≠ 7) hpr => tnI.pure (w' := w17) hq n0 n2 n8 n7 hDn hcl h9 h2 h8 hp hpr
      match q, hq9 with
      | 0, _ =>
        have n2 : D 2 = false := hcl.not hDq (by decide)
        have n8 : D 8 = false := hcl.not hDq (by decide)
        rw [hDq, n2, n8] at hp
        refine effN (sf_slice (vs := []) (cs := []) hp rfl rfl rfl rfl rfl rfl rfl) ?_
        rintro _ w' ⟨eb', rfl, hp'⟩
        exact tnI.mk (q := 0) eb' t1 d1 nb t2 d2 (by decide) hDn tnV0 hcl al0 h9 true false false (D 7) (Bool.or_true _) (by rw [n2]; rfl) (by rw [n8]; rfl) (Bool.or_false _) (fun h => by cases h) (fun h => by cases h) (hp'.dropAt 1)
      | 1, _ => exact effNp pv_move ((hDn.old 9 rfl rfl).trans f9) (nxt 1 (by decide) (by decide) (by decide) (by decide) (by decide) al0)
      | 2, _ =>
        have a0 := aft_of hA 0 rfl
        have a1 := aft_of hA 1 rfl
        have n8 : D 8 = false := hcl.not hDq (by decide)
        rw [a0, hDq, n8] at hp
        refine effN (sf_clone eE z hp 0 rfl rfl rfl rfl rfl rfl (fun _ => rfl) (hDn.slot 0 a0 rfl rfl) (hDn.slot 1 a1 rfl rfl) rfl (hE.at_.keep0 hp.keeps) (fun _ => rfl) (by omega)) ?_
        rintro _ w' ⟨t1', d1', rfl, hv', hp'⟩
        exact tnI.mk (q := 2) eb t1' d1' nb t2 d2 (by decide) hDn tnV2 hcl (al2 a0 a1) h9 true true false (D 7) (by rw [a0]; rfl) (Bool.or_true _) (by rw [n8]; rfl) (Bool.or_false _) (fun _ => hv') (fun h => by cases h) hp'
      | 3, _ => exact effNp pv_move ((hDn.old 9 rfl rfl).trans f9) (nxt 3 (by decide) (by decide) (by decide) (by decide) (by decide) al0)
      | 4, _ => exact effNp pv_move ((hDn.old 10 rfl rfl).trans f10) (nxt 4 (by decide) (by decide) (by decide) (by decide) (by decide) al0)
      | 5, _ =>
        have a3 := aft_of hA 3 rfl
        have a4 := aft_of hA 4 rfl
        exact effNp (pf_index rfl (hDn.slot 3 a3 rfl rfl) (hDn.slot 4 a4 rfl rfl) hsE hiz) rfl (nxt 5 (by decide) (by decide) (by decide) (by decide) (by decide) (al2 a3 a4))
      | 6, _ =>
        have a5 := aft_of hA 5 rfl
        exact effNp (pf_loads (vs := eE ei) rfl rfl (hDn.slot 5 a5 rfl rfl) rfl (fun j v hv => hp.old0 (hcE j v hv))) rfl (nxt 6 (by decide) (by decide) (by decide) (by decide) (by decide) (al1 a5))
      | 7, _ =>
        have a6 := aft_of hA 6 rfl
        have n8 : D 8 = false := hcl.not hDq (by decide)
        rw [hDq] at hp
        refine effN (sf_slice (vs := [(0, .agg (eE ei).toArray)]) (cs := eE ei) hp rfl rfl (congrArg (fun v => [(0, v)]) (hDn.slot 6 a6 rfl rfl)) rfl rfl rfl rfl) ?_
        rintro _ w' ⟨nb', rfl, hp'⟩
        exact tnI.mk (q := 7) eb t1 d1 nb' t2 d2 (by decide) hDn tnV7 hcl (al1 a6) h9 (D 0) (D 2) false true (Bool.or_false _) (Bool.or_false _) (by rw [n8]; rfl) (Bool.or_true _) h2 (fun h => by cases h) (by rw [n8] at hp'; exact (hp'.perm (List.Perm.swap _ _ _)).dropAt 2)
      | 8, _ =>
        have a2 := aft_of hA 2 rfl
        have a7 := aft_of hA 7 rfl
        have a0 := hcl 2 0 a2 (by decide)
        rw [a0, a2, hDq, a7] at hp
        refine effN (sf_app1 eE z ei hp 0 1 rfl rfl rfl rfl rfl rfl (fun _ => rfl) (hDn.slot 2 a2 rfl rfl) (hDn.slot 7 a7 rfl rfl) rfl (h2 a2) rfl rfl (by omega)) ?_
        rintro u w' ⟨t2', d2', hu, hv', hp'⟩
        rw [List.length_append] at hu
        subst hu
        exact tnI.mk (q := 8) eb t1 d1 nb t2' d2' (by decide) hDn tnV8 hcl (al3 a0 a2 a7) h9 true true true true (by rw [a0]; rfl) (by rw [a2]; rfl) (Bool.or_true _) (by rw [a7]; rfl) (fun _ => h2 a2) (fun _ => hv') hp'
      | j + 9, h => exact absurd h (by omega)
    · obtain rfl : q = 9 := by omega
      have hF : F = G := by rw [hFe, hDq]; rfl
      clear hFe
      subst hF
      have a8 := aft_of hA 8 rfl
      have a0 := hcl 8 0 a8 (by decide)
      have a2 := hcl 8 2 a8 (by decide)
      have a7 := hcl 8 7 a8 (by decide)
      have a1 := hcl 2 1 a2 (by decide)
      have a6 := hcl 7 6 a7 (by decide)
      have a5 := hcl 6 5 a6 (by decide)
      have a3 := hcl 5 3 a5 (by decide)
      have a4 := hcl 5 4 a5 (by decide)
      have hall : ∀ p ∈ tprd 9, D p = true := by
        intro p hp
        have hp : p < 9 := List.mem_range.1 hp
        match p, hp with
        | 0, _ => exact a0
        | 1, _ => exact a1
        | 2, _ => exact a2
        | 3, _ => exact a3
        | 4, _ => exact a4
        | 5, _ => exact a5
        | 6, _ => exact a6
        | 7, _ => exact a7
        | 8, _ => exact a8
        | j + 9, h => exact absurd h (by omega)
      exact effNp pv_assign (hDn.slot 8 a8 rfl rfl) (tnI.fin hDn hcl hall h2 h8 hp)
  rintro D F w17 hD ⟨eb, t1, d1, nb, t2, d2, G, hDn, hFe, hcl, h2, h8, hp⟩
  rw [hD 9 (by decide), cond_true] at hFe
  have hvW := h8 (hD 8 (by decide))
  rw [hD 0 (by decide), hD 2 (by decide), hD 8 (by decide), hD 7 (by decide)] at hp
  have hG := hDn.same.eq
  rw [hFe, hG]
  subst hF0 hB
  clear hFe hG hDn hcl h2 h8 hD f9 f10
  have hp : Hp w3 [] w17 [ownL eE 41 6 t2 d2 (z ++ [ei]), ownL eE 41 6 (some ⟨gb, 0, none⟩) cB T, blk db 13 (frOf (dB xN 2 sP ps.length cP)) 32] := hp.picks [0, 2, 3] _ rfl rfl
  have hD : ∀ (j : Nat) (v : Value), (dB xN 2 sP ps.length cP)[j]? = some v → w17.cell? ⟨db, 0 + j, none⟩ = some v := hp.cells 2 _ rfl rfl (fun j v hv => by rw [Nat.zero_add, frOf_eq, List.getD_eq_getElem?_getD, hv]; rfl)
  have hE := hE.keep0 hp.keeps
  have hET : EAt w17 (some ⟨gb, 0, none⟩) T := hE.sub (ownL_At hp 1 rfl hvT (fun _ => rfl)) hTm
  have hEW : EAt w17 t2 (z ++ [ei]) := hE.sub (ownL_At hp 0 rfl hvW (fun _ => rfl)) (fun e he => by
    rcases List.mem_append.1 he with he | he
    · exact he
    · rw [List.mem_singleton.1 he]; exact hmi)
  have hP := hP.keep0 hp.keeps
  have hk17 := hk3.trans hp.keeps (by simp)
  have hWl : (z ++ [ei]).length = z.length + 1 := by simp
  clear hp hk3 hcE hvW hvT
  have hp := Hp.start (M := []) (w := w17)
  (repeat (first | (with_reducible first | apply WP_seq | apply WP_region | apply thenQ_n) | (apply wlp; ((apply pf_loadb; exact rfl) <;> exact rfl); skip)))
  (apply wlp; exact pf_loads (vs := dB xN 2 sP ps.length cP) rfl rfl rfl rfl (fun j v hv => hp.old0 (hD j v hv)); exact fA13 rfl)
  (repeat (apply wlp; apply pv_move; exact fS rfl))
  (apply wls; exact st_call rfl ent16 rfl (p16 xN ps z s sP c cP _ (hE.keep0 hp.keeps) (hP.keep0 hp.keeps) (by omega) hps hpm (chain6 z.length (by omega))))
  rintro _ w18 ⟨s1, c1, rs1, rfl, hs1, hr1, hm1, hk18⟩
  rw [rs_len hm1]
  have hp := hp.call hk18
  (repeat (first | (with_reducible first | apply WP_seq | apply WP_region | apply wpl_nil | apply thenQ_n) | (apply wlp; ((first | apply pv_move | apply pv_assign | (apply pf_loadb; exact rfl) | apply pv_extract) <;> exact rfl); (first | exact fI rfl | exact fS rfl | exact fU rfl))))
  (apply wlp; exact pf_loads (vs := dB xN 2 sP ps.length cP) rfl rfl rfl rfl (fun j v hv => hp.old0 (hD j v hv)); exact fA13 rfl)
  (repeat (apply wlp; apply pv_move; exact fS rfl))
  have h16 := p16 xN ps T (some ⟨gb, 0, none⟩) sP cB cP w18 (hET.keep0 hp.keeps) (hP.keep0 hp.keeps) (by omega) hps hpm (chain6 T.length (by omega))
  rw [hTl] at h16
  (apply wls; exact st_call rfl ent16 rfl h16; rintro _ w19 ⟨s2, c2, rs2, rfl, hs2, hr2, hm2, hk19⟩; have hp := hp.call hk19; clear h16)
  rw [rs_len hm2, hTl]
  (repeat (first | (with_reducible first | apply WP_seq | apply WP_region | apply wpl_nil | apply thenQ_n) | (apply wlp; ((first | apply pv_move | apply pv_assign | (apply pf_loadb; exact rfl) | apply pv_extract) <;> exact rfl); (first | exact fI rfl | exact fS rfl | exact fU rfl))))
  (apply wlp; exact pf_loads (vs := dB xN 2 sP ps.length cP) rfl rfl rfl rfl (fun j v hv => hp.old0 (hD j v hv)); exact fA13 rfl)
  (repeat (apply wlp; apply pv_move; exact fS rfl))
  have h16 := p16 xN ps (z ++ [ei]) t2 sP d2 cP w19 (hEW.keep0 hp.keeps) (hP.keep0 hp.keeps) (by omega) hps hpm (chain6 (z ++ [ei]).length (by omega))
  rw [hWl] at h16
  (apply wls; exact st_call rfl ent16 rfl h16; rintro _ w20 ⟨s3, c3, rs3, rfl, hs3, hr3, hm3, hk20⟩; have hp := hp.call hk20; clear h16)
  rw [rs_len hm3, hWl]
  have hka := hk19.trans hk20 (by simp)
  have hs1 := hs1.keep0 hka
  have hr1 := fun r hr => (hr1 r hr).keep0 hka
  have hs2 := hs2.keep0 hk20
  have hr2 := fun r hr => (hr2 r hr).keep0 hk20
  have hl1 := rs_len hm1
  have hl2 := rs_len hm2
  have hl3 := rs_len hm3
  obtain ⟨b1, o1, hb1, _⟩ := hs1.base (by omega)
  obtain ⟨b2, o2, hb2, _⟩ := hs2.base (by omega)
  obtain ⟨b3, o3, hb3, _⟩ := hs3.base (by omega)
  obtain ⟨q1, k1, g1i, G1i⟩ := rows_at hm1 hs1 hr1 hb1 hiz
  obtain ⟨q2, k2, g1j, G1j⟩ := rows_at hm1 hs1 hr1 hb1 hjz
  obtain ⟨q3, k3, g2i, G2i⟩ := rows_at hm2 hs2 hr2 hb2 (k := i) (by omega)
  obtain ⟨q4, k4, g2j, G2j⟩ := rows_at hm2 hs2 hr2 hb2 (k := j) (by omega)
  obtain ⟨q5, k5, g3i, G3i⟩ := rows_at hm3 hs3 hr3 hb3 (k := i) (by omega)
  obtain ⟨q6, k6, g3n, G3n⟩ := rows_at hm3 hs3 hr3 hb3 (k := z.length) (by omega)
  rw [hsw.odds ps hiz (tr_a _ _)] at g2j G2j
  rw [hsw.odds ps hjz (tr_b _ _)] at g2i G2i
  rw [htw.odds ps (i := i) (by omega) (tr_a _ _)] at g3n G3n
  have hX := oddsR_len z ps i
  have hY := oddsR_len z ps j
  have hZ := oddsR_len (z ++ [ei]) ps i
  generalize oddsR z ps i = X at g1i G1i g2j G2j hX
  generalize oddsR z ps j = Y at g1j G1j g2i G2i hY
  generalize oddsR (z ++ [ei]) ps i = Z at g3i G3i g3n G3n hZ
  have hk20 := hk17.trans hp.keeps (by simp)
  clear hp hs1 hr1 hm1 hs2 hr2 hm2 hs3 hr3 hm3 hE hET hEW hP hD hsw htw
  have hp := Hp.start (M := []) (w := w20)
  have hiz1 : i < z.length + 1 := by omega
  have hnn : z.length < z.length + 1 := by omega
  (apply wlp; apply pv_move; exact fU rfl)
  (apply wlp; (apply pv_extract <;> exact rfl); exact fS rfl)
  (apply wlp; (apply pv_extract <;> exact rfl); exact fI rfl)
  (apply wlp; apply pv_assign; exact fS rfl)
  (apply wlp; apply pv_assign; exact fI rfl)
  (repeat (with_reducible first | apply WP_seq | apply WP_region | apply wpl_nil | apply thenQ_n))
  (apply wlp; apply pv_move; exact fI rfl)
  (apply wlp; exact pv_neq rfl rfl; exact bool_eq (b := false) rfl)
  (apply wlp; apply pv_move; exact fB rfl)
  ((apply wlpT; exact rfl; exact rfl); (apply pv_move); (intros; exact fI rfl))
  (apply wlpT; exact rfl; exact rfl; exact pv_neq rfl rfl; exact bool_eq (b := false) (by rw [decide_eq_true rfl]; rfl))
  (apply wlp; exact pv_orF rfl rfl; exact fB rfl)
  (apply wlp; apply pv_move; exact fB rfl)
  ((apply wlpT; exact rfl; exact rfl); (apply pv_move); (intros; exact fI rfl))
  (apply wlpT; exact rfl; exact rfl; exact pv_neq rfl rfl; exact bool_eq (b := false) (by rw [decide_eq_true rfl]; rfl))
  (apply wlp; exact pv_orF rfl rfl; exact fB rfl)
  (apply wlp; apply pv_move; exact fB rfl)
  ((apply wlpT; exact rfl; exact rfl); (apply pv_move); (intros; exact fS rfl))
  ((apply wlpT; exact rfl; exact rfl); (((apply pf_len; exact rfl) <;> exact rfl)); (intros; exact fI rfl))
  ((apply wlpT; exact rfl; exact rfl); (apply pv_move); (intros; exact fS rfl))
  ((apply wlpT; exact rfl; exact rfl); (((apply pf_len; exact rfl) <;> exact rfl)); (intros; exact fI rfl))
  (apply wlpT; exact rfl; exact rfl; exact pv_neq rfl rfl; exact bool_eq (b := false) (by rw [decide_eq_true rfl]; rfl))
  (apply wlp; exact pv_orF rfl rfl; exact fB rfl)
  (apply wlp; apply pv_move; exact fB rfl)
  ((apply wlpT; exact rfl; exact rfl); (apply pv_move); (intros; exact fS rfl))
  ((apply wlpT; exact rfl; exact rfl); (((apply pf_len; exact rfl) <;> exact rfl)); (intros; exact fI rfl))
  ((apply wlpT; exact rfl; exact rfl); (apply pv_move); (intros; exact fS rfl))
  ((apply wlpT; exact rfl; exact rfl); (((apply pf_len; exact rfl) <;> exact rfl)); (intros; exact fI rfl))
  (apply wlpT; exact rfl; exact rfl; exact pv_neq rfl rfl; exact bool_eq (b := false) (by rw [decide_eq_true rfl]; rfl))
  (apply wlp; exact pv_orF rfl rfl; exact fB rfl)
  (apply wlp; apply pv_move; exact fB rfl)
  ((apply wlpT; exact rfl; exact rfl); (apply pv_move); (intros; exact fS rfl))
  ((apply wlpT; exact rfl; exact rfl); (((apply pf_len; exact rfl) <;> exact rfl)); (intros; exact fI rfl))
  ((apply wlpT; exact rfl; exact rfl); (apply pv_move); (intros; exact fS rfl))
  ((apply wlpT; exact rfl; exact rfl); (((apply pf_len; exact rfl) <;> exact rfl)); (intros; exact fI rfl))
  (apply wlpT; exact rfl; exact rfl; (exact pv_add rfl rfl); exact int_eq (b := ((z.length + 1 : Nat) : Int)) (by rw [i64_in (by omega) (by omega)]; omega))
  (apply wlpT; exact rfl; exact rfl; exact pv_neq rfl rfl; exact bool_eq (b := false) (by rw [decide_eq_true rfl]; rfl))
  (apply wlp; exact pv_orF rfl rfl; exact fB rfl)
  (repeat (with_reducible first | apply wpl_nil | apply thenQ_n))
  refine WP_cond_f rfl ?_
  (repeat (with_reducible first | apply WP_seq | apply thenQ_n | apply WP_skip))
  refine WP_draw mixed (by kernel_rfl) (fun w' => Hp _ _ w' _) hp.drew ?_
  have hp := hp.drew
  (repeat (first | ((apply wdp; exact rfl); (intro w hp; intros; ((first | apply pv_move | (apply pf_load; exact rfl) | (apply pf_index; exact rfl)) <;> (first | exact rfl | assumption | exact hp.old0 (by assumption)))); (intros; (first | exact fI rfl | exact fB rfl | exact fP rfl | exact fS rfl))) | ((apply wdpT; exact rfl; exact rfl; exact rfl); (intro w hp; ((first | apply pv_move | (apply pf_load; exact rfl) | (apply pf_index; exact rfl)) <;> (first | exact rfl | assumption | exact hp.old0 (by assumption)))); (intros; (first | exact fI rfl | exact fB rfl | exact fP rfl | exact fS rfl))) | (apply wdpF; exact rfl; exact rfl; exact rfl; exact rfl) | (apply wdpU; exact rfl; exact rfl; exact rfl)))
  (apply wdsT; exact rfl; exact rfl; exact rfl; exact st_call rfl ent17 rfl (p17 X X _ _ _ _ _ (G1i.keep0 hp.keeps) (G2j.keep0 hp.keeps) (by omega) (by omega)); rintro _ w21 ⟨hv, hk21⟩; obtain rfl := hv.trans (bool_eq (b := true) (decide_eq_true rfl)); have hp := hp.call hk21; refine ⟨hp, ?_⟩)
  (repeat (first | ((apply wdp; exact rfl); (intro w hp; intros; ((first | apply pv_move | (apply pf_load; exact rfl) | exact pv_andT rfl rfl | (apply pf_index; exact rfl)) <;> (first | exact rfl | assumption | exact hp.old0 (by assumption)))); (intros; (first | exact fI rfl | exact fB rfl | exact fP rfl | exact fS rfl))) | ((apply wdpT; exact rfl; exact rfl; exact rfl); (intro w hp; ((first | apply pv_move | (apply pf_load; exact rfl) | exact pv_andT rfl rfl | (apply pf_index; exact rfl)) <;> (first | exact rfl | assumption | exact hp.old0 (by assumption)))); (intros; (first | exact fI rfl | exact fB rfl | exact fP rfl | exact fS rfl))) | (apply wdpF; exact rfl; exact rfl; exact rfl; exact rfl) | (apply wdpU; exact rfl; exact rfl; exact rfl)))
  (apply wdsT; exact rfl; exact rfl; exact rfl; exact st_call rfl ent17 rfl (p17 Y Y _ _ _ _ _ (G1j.keep0 hp.keeps) (G2i.keep0 hp.keeps) (by omega) (by omega)); rintro _ w22 ⟨hv, hk22⟩; obtain rfl := hv.trans (bool_eq (b := true) (decide_eq_true rfl)); have hp := hp.call hk22; refine ⟨hp, ?_⟩)
  (repeat (first | ((apply wdp; exact rfl); (intro w hp; intros; ((first | apply pv_move | (apply pf_load; exact rfl) | (apply pf_len; exact rfl) | exact pv_andT rfl rfl | (apply pf_index; exact rfl)) <;> (first | exact rfl | assumption | exact hp.old0 (by assumption)))); (intros; (first | exact fI rfl | exact fB rfl | exact fP rfl | exact fS rfl))) | ((apply wdpT; exact rfl; exact rfl; exact rfl); (intro w hp; ((first | apply pv_move | (apply pf_load; exact rfl) | (apply pf_len; exact rfl) | exact pv_andT rfl rfl | (apply pf_index; exact rfl)) <;> (first | exact rfl | assumption | exact hp.old0 (by assumption)))); (intros; (first | exact fI rfl | exact fB rfl | exact fP rfl | exact fS rfl))) | (apply wdpF; exact rfl; exact rfl; exact rfl; exact rfl) | (apply wdpU; exact rfl; exact rfl; exact rfl)))
  (apply wdsT; exact rfl; exact rfl; exact rfl; exact st_call rfl ent17 rfl (p17 Z Z _ _ _ _ _ (G3i.keep0 hp.keeps) (G3n.keep0 hp.keeps) (by omega) (by omega)); rintro _ w23 ⟨hv, hk23⟩; obtain rfl := hv.trans (bool_eq (b := true) (decide_eq_true rfl)); have hp := hp.call hk23; refine ⟨hp, ?_⟩)
  (repeat (first | ((apply wdp; exact rfl); (intro w hp; intros; (first | apply pv_assign | exact pv_andT rfl rfl)); (intros; exact fB rfl)) | (apply wdpF; exact rfl; exact rfl; exact rfl; exact rfl) | (apply wdpU; exact rfl; exact rfl; exact rfl)))
  refine wpd_nil ?_
  (repeat (with_reducible first | apply thenQ_n | apply WP_ret))
  exact ret_tmp rfl rfl ⟨_, rfl, rfl, hk20.trans hp.keeps (by simp)⟩
end Go.Proofs.YtfjbioghpgmkiaaGreatDoor
