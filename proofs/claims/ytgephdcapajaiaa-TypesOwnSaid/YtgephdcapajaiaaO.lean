/- How the arguments of the laws of layer 14 are read: lists, rules; and what a law that answers true and changes nothing leaves; conditions are the hypotheses of each law. -/
import Derived.Test.YtgephdcapajaiaaN
import Derived.Test.YtgephdcapajaiaaRows
import Derived.WalkKit
import Derived.ProofKit
import Derived.OpenShut
import Derived.Carry
import Derived.Deep.Slices
namespace Go.Proofs.Ytgephdcapajaiaa
open Go.Eng Go.ChangeShapes Go.WideShapes Go.ChangeAt Go.RowKit Go.Deep

theorem laid : laidOutB Try.prog = true := by kernel_rfl
theorem ownK : ownKnob Try.prog.godebug = none := by kernel_rfl

theorem spot_none {w : World} {a : Addr} {v : Value} (h : w.cell? a = some v) : a.spot = none := by
  unfold World.cell? at h
  split at h
  · split at h
    · cases h
    · rename_i h2
      cases hs : a.spot
      · rfl
      · rw [hs] at h2; simp at h2
  · cases h

section
variable {H : Type} {enc : TypeId × Value → H} {P : Program} {w : World} {base : Nat} {spare : Nat → Bool} {held : Bool}

/-- a slice whose elements are read one by one reads as a list -/
theorem open_list {α : Type} {f : α → List Value} {ok : α → Prop} {t e k fuel : Nat} {cs : List Value} {x : DataW H × List MemPlace} (ht : P.underlying t = some (.slice e)) (hk : P.cellsOf e = k) (hk0 : 0 < k)
    (hop : ∀ n cs' y, DataW.trod enc P w base spare held n e cs' = some y → ∃ a, cs' = f a ∧ ok a) (h : DataW.trod enc P w base spare held fuel t cs = some x) :
    ∃ s c, ∃ l : List α, cs = [.slice s l.length c] ∧ l.length ≤ c ∧ c ≤ maxLen ∧ SlAt w k f s l ∧ ∀ a ∈ l, ok a := by
  rcases open_slice ht h with ⟨rfl, _⟩ | ⟨a, len, cap, m, n, D, Pl, rfl, hb, hl, hm, hmm, _, hx⟩
  · exact ⟨none, 0, [], rfl, Nat.le_refl _, by unfold maxLen; omega, by intro i x hx; simp at hx, by simp⟩
  · have hlm : len ≤ m := by rw [hmm]; split <;> omega
    rw [hk] at hx
    have hex : ∀ i : Fin len, ∃ y, w.cells? base (a.add (i * k)) k = some (f y) ∧ ok y := by
      intro i
      obtain ⟨cs', h1, h2⟩ := hx i (by omega)
      obtain ⟨y, rfl, hy⟩ := hop _ _ _ h2
      exact ⟨y, h1, hy⟩
    refine ⟨some a, cap, List.ofFn fun i => Classical.choose (hex i), by simp, by simpa using hl, hm, ?_, ?_⟩
    · intro i y hy
      have hi : i < len := by have := (List.getElem?_eq_some_iff.1 hy).1; simpa using this
      have hyc : Classical.choose (hex ⟨i, hi⟩) = y := by
        rw [List.getElem?_ofFn] at hy
        simpa [hi] using hy
      have hsp := (Classical.choose_spec (hex ⟨i, hi⟩)).1
      rw [hyc] at hsp
      obtain ⟨_, hlen, hc⟩ := World.cells?_some hsp
      obtain ⟨_, hlen0, hc0⟩ := World.cells?_some (Classical.choose_spec (hex ⟨0, by omega⟩)).1
      have hs0 := spot_none ((hc0 0 (by omega)).trans (List.getElem?_eq_getElem (by omega)))
      have hsa : a.spot = none := by simpa [Addr.add] using hs0
      refine ⟨a.block, a.off, ?_, fun j v hv => ?_⟩
      · cases a
        simp at hsa
        subst hsa
        rfl
      · have hj : j < k := by rw [← hlen]; exact (List.getElem?_eq_some_iff.1 hv).1
        have := (hc j hj).trans hv
        cases a
        simp at hsa
        subst hsa
        rw [addr_add, addr_add] at this
        exact this
    · intro y hy
      rw [List.mem_ofFn] at hy
      obtain ⟨i, rfl⟩ := hy
      exact (Classical.choose_spec (hex i)).2

theorem trodAll_stays (hl : laidOutB P = true) {W W' : World} (hb : Below W.heap.size W W') {sp : Nat → Bool} : ∀ (ts : List TypeId) (vs : List Value) (ds : List (DataW H)) (ps : List MemPlace),
    (∀ t ∈ ts, P.readableRec t = true ∧ t < P.types.size) → DataW.TrodAll enc P W 0 (fun _ => true) true ts vs ds ps → (∀ x ∈ ps, x.block < W.heap.size) → (∀ x ∈ ps, sp x.block = true) →
    DataW.TrodAll enc P W' 0 sp true ts vs ds ps
  | [], vs, ds, ps, _, h, _, _ => by
    obtain ⟨rfl, rfl, rfl⟩ := trodAll_nil h
    exact trodAll_mk0
  | t :: ts, vs, ds, ps, ht, h, hlt, hsp => by
    obtain ⟨v, vs', d, ds', p, q, rfl, rfl, rfl, h1, h2⟩ := trodAll_cons h
    refine ⟨p, q, ?_, trodAll_stays hl hb ts vs' ds' q (fun t h => ht t (List.mem_cons_of_mem _ h)) h2 (fun x hx => hlt x (List.mem_append_right _ hx)) (fun x hx => hsp x (List.mem_append_right _ hx)), rfl⟩
    obtain ⟨hr, hrow⟩ := ht t (List.mem_cons_self ..)
    exact WideElems.Trod_stays hl hr hrow h1 (fun x hx => hb.same (hlt x (List.mem_append_left _ hx))) (fun x hx => hsp x (List.mem_append_left _ hx))
end

/-- an array whose elements are read one by one -/
theorem arr_list {α : Type} {f : α → List Value} {ok : α → Prop} {sz : Nat} : ∀ (k : Nat) (cs : List Value), cs.length = k * sz → (∀ i, i < k → ∃ a, (cs.drop (i * sz)).take sz = f a ∧ ok a) → ∃ l : List α, l.length = k ∧ cs = l.flatMap f ∧ ∀ a ∈ l, ok a
  | 0, cs, hl, _ => ⟨[], rfl, by simpa using hl, by simp⟩
  | k + 1, cs, hl, h => by
    obtain ⟨a, ha, hoa⟩ := h 0 (by omega)
    obtain ⟨l, h1, h2, h3⟩ := arr_list (f := f) (ok := ok) (sz := sz) k (cs.drop sz) (by rw [List.length_drop, hl, Nat.succ_mul]; omega) (by
      intro i hi
      obtain ⟨b, hb, hob⟩ := h (i + 1) (by omega)
      refine ⟨b, ?_, hob⟩
      rw [List.drop_drop]
      rw [show sz + i * sz = (i + 1) * sz from by rw [Nat.succ_mul]; omega]
      exact hb)
    refine ⟨a :: l, by simp [h1], ?_, ?_⟩
    · rw [List.flatMap_cons, ← h2, ← ha]
      simp
    · intro x hx
      rcases List.mem_cons.1 hx with rfl | hx
      · exact hoa
      · exact h3 x hx
section
variable {H : Type} {enc : TypeId × Value → H} {P : Program} {w : World} {base : Nat} {spare : Nat → Bool} {held : Bool}
theorem open_arr {α : Type} {f : α → List Value} {ok : α → Prop} {t e k sz fuel : Nat} {cs : List Value} {x : DataW H × List MemPlace} (ht : P.underlying t = some (.array k e)) (he : P.cellsOf e = sz) (hc : P.cellsOf t = k * sz)
    (hop : ∀ n cs' y, DataW.trod enc P w base spare held n e cs' = some y → ∃ a, cs' = f a ∧ ok a) (h : DataW.trod enc P w base spare held fuel t cs = some x) :
    ∃ l : List α, l.length = k ∧ cs = l.flatMap f ∧ ∀ a ∈ l, ok a := by
  obtain ⟨xs, m, _, _, hl, hlen, hf⟩ := DataW.trod_array ht h
  refine arr_list k cs (by rw [hl, hc]) fun i hi => ?_
  have := hf i hi
  rw [he, List.getElem?_eq_getElem (by omega)] at this
  exact hop _ _ _ this
end
/-- what a law leaves that answers true and keeps all that was there -/
theorem post_true {H : Type} {enc : TypeId × Value → H} {f : Func} {s : ChangeSpec} {W W' : World} {args : Array Value} {ds gs : List (DataW H)} {before : List MemPlace} (hW : DataW.Whole enc Try.prog f.params.toList s.vars false W args.toList ds gs before)
    (hv : s.vars = []) (hr : f.resultTypes = #[4]) (hts : ∀ t ∈ f.params.toList, Try.prog.readableRec t = true ∧ t < Try.prog.types.size)
    (hres : (s.fn H (ds ++ gs)).results = [.lit (.bool true)]) (hargs : (s.fn H (ds ++ gs)).args = ds) (hvs : (s.fn H (ds ++ gs)).vars = []) (hk : Keeps [] W W') :
    s.post enc Try.prog f false true false false W args (.bool true) W' := by
  have hW' := hW
  obtain ⟨p, q, hA, hV, rfl, hfz, hnd⟩ := hW
  rw [hv] at hV
  obtain ⟨rfl, rfl⟩ := trodVars_none hV
  have hlt : ∀ x ∈ p, x.block < W.heap.size := fun x hx => hW'.lt x (by simpa using hx)
  refine ⟨ds, [], _, [], p, [], hW', ?_, ?_, ?_, (hk.below.frame _), fun h => by cases h⟩
  · rw [hres, hr]
    exact trodAll_cons_mk (shut_bool Try.underlying4 _) trodAll_mk0
  · rw [hargs]
    exact trodAll_stays laid hk.below _ _ _ _ hts hA hlt (fun x hx => by simpa using hlt x hx)
  · rw [hvs, hv]
    rfl

/-! ### rules -/
theorem len2 {α : Type} {l : List α} (h : l.length = 2) : ∃ c0 c1, l = [c0, c1] := by
  obtain ⟨c0, l0, rfl⟩ : ∃ a t, l = a :: t := List.exists_cons_of_length_eq_add_one h
  obtain ⟨c1, l1, rfl⟩ : ∃ a t, l0 = a :: t := List.exists_cons_of_length_eq_add_one (by simpa using h)
  have : l1 = [] := List.eq_nil_of_length_eq_zero (by simpa using h)
  subst this
  exact ⟨c0, c1, rfl⟩
theorem len3 {α : Type} {l : List α} (h : l.length = 3) : ∃ c0 c1 c2, l = [c0, c1, c2] := by
  obtain ⟨c0, l0, rfl⟩ : ∃ a t, l = a :: t := List.exists_cons_of_length_eq_add_one h
  obtain ⟨c1, l1, rfl⟩ : ∃ a t, l0 = a :: t := List.exists_cons_of_length_eq_add_one (by simpa using h)
  obtain ⟨c2, l2, rfl⟩ : ∃ a t, l1 = a :: t := List.exists_cons_of_length_eq_add_one (by simpa using h)
  have : l2 = [] := List.eq_nil_of_length_eq_zero (by simpa using h)
  subst this
  exact ⟨c0, c1, c2, rfl⟩
theorem len13 {α : Type} {l : List α} (h : l.length = 13) : ∃ c0 c1 c2 c3 c4 c5 c6 c7 c8 c9 c10 c11 c12, l = [c0, c1, c2, c3, c4, c5, c6, c7, c8, c9, c10, c11, c12] := by
  obtain ⟨c0, l0, rfl⟩ : ∃ a t, l = a :: t := List.exists_cons_of_length_eq_add_one h
  obtain ⟨c1, l1, rfl⟩ : ∃ a t, l0 = a :: t := List.exists_cons_of_length_eq_add_one (by simpa using h)
  obtain ⟨c2, l2, rfl⟩ : ∃ a t, l1 = a :: t := List.exists_cons_of_length_eq_add_one (by simpa using h)
  obtain ⟨c3, l3, rfl⟩ : ∃ a t, l2 = a :: t := List.exists_cons_of_length_eq_add_one (by simpa using h)
  obtain ⟨c4, l4, rfl⟩ : ∃ a t, l3 = a :: t := List.exists_cons_of_length_eq_add_one (by simpa using h)
  obtain ⟨c5, l5, rfl⟩ : ∃ a t, l4 = a :: t := List.exists_cons_of_length_eq_add_one (by simpa using h)
  obtain ⟨c6, l6, rfl⟩ : ∃ a t, l5 = a :: t := List.exists_cons_of_length_eq_add_one (by simpa using h)
  obtain ⟨c7, l7, rfl⟩ : ∃ a t, l6 = a :: t := List.exists_cons_of_length_eq_add_one (by simpa using h)
  obtain ⟨c8, l8, rfl⟩ : ∃ a t, l7 = a :: t := List.exists_cons_of_length_eq_add_one (by simpa using h)
  obtain ⟨c9, l9, rfl⟩ : ∃ a t, l8 = a :: t := List.exists_cons_of_length_eq_add_one (by simpa using h)
  obtain ⟨c10, l10, rfl⟩ : ∃ a t, l9 = a :: t := List.exists_cons_of_length_eq_add_one (by simpa using h)
  obtain ⟨c11, l11, rfl⟩ : ∃ a t, l10 = a :: t := List.exists_cons_of_length_eq_add_one (by simpa using h)
  obtain ⟨c12, l12, rfl⟩ : ∃ a t, l11 = a :: t := List.exists_cons_of_length_eq_add_one (by simpa using h)
  have : l12 = [] := List.eq_nil_of_length_eq_zero (by simpa using h)
  subst this
  exact ⟨c0, c1, c2, c3, c4, c5, c6, c7, c8, c9, c10, c11, c12, rfl⟩
section
variable {H : Type} {enc : TypeId × Value → H} {w : World} {base : Nat} {spare : Nat → Bool} {held : Bool} {n : Nat} {cs : List Value} {x : DataW H × List MemPlace}

theorem rd_int (h : DataW.trod enc Try.prog w base spare held n 3 cs = some x) : ∃ a : Int, cs = eI a ∧ -9223372036854775808 ≤ a ∧ a ≤ 9223372036854775807 := by
  obtain ⟨a, rfl, _, hw⟩ := DataW.trod_int Try.underlying3 h
  have e1 : IntKind.i64.min = -9223372036854775808 := by decide
  have e2 : IntKind.i64.max = 9223372036854775807 := by decide
  simp only [Lit.wf, Bool.and_eq_true, decide_eq_true_eq, e1, e2] at hw
  exact ⟨a, rfl, hw⟩
theorem rd_str (h : DataW.trod enc Try.prog w base spare held n 9 cs = some x) : ∃ a : ByteArray, cs = eS a ∧ a.size ≤ maxLen := by
  obtain ⟨a, rfl, _, hw⟩ := DataW.trod_string Try.underlying9 h
  exact ⟨a, rfl, hw⟩
theorem rd_ints (h : DataW.trod enc Try.prog w base spare held n 22 cs = some x) : ∃ s c, ∃ l : List Int, cs = [.slice s l.length c] ∧ l.length ≤ c ∧ c ≤ maxLen ∧ SlAt w 1 eI s l ∧ ∀ a ∈ l, -9223372036854775808 ≤ a ∧ a ≤ 9223372036854775807 :=
  open_list Try.underlying22 (by kernel_rfl) (by decide) (fun _ _ _ h => rd_int h) h
theorem cells3 : Try.prog.cellsOf 3 = 1 := by kernel_rfl
theorem cells9 : Try.prog.cellsOf 9 = 1 := by kernel_rfl
theorem cells4 : Try.prog.cellsOf 4 = 1 := by kernel_rfl
theorem cells22 : Try.prog.cellsOf 22 = 1 := by kernel_rfl
theorem cells26 : Try.prog.cellsOf 26 = 1 := by kernel_rfl
theorem cells27 : Try.prog.cellsOf 27 = 1 := by kernel_rfl
theorem cells28 : Try.prog.cellsOf 28 = 1 := by kernel_rfl
theorem cells63 : Try.prog.cellsOf 63 = 2 := by kernel_rfl
theorem cells65 : Try.prog.cellsOf 65 = 2 := by kernel_rfl
theorem cells67 : Try.prog.cellsOf 67 = 3 := by kernel_rfl
theorem cells30 : Try.prog.cellsOf 30 = 13 := by kernel_rfl

theorem rd_tier (h : DataW.trod enc Try.prog w base spare held n 63 cs = some x) : ∃ a : Int × Int, cs = eT a ∧ True := by
  obtain ⟨xs, m, _, _, hl, hlen, hf⟩ := DataW.trod_struct Try.underlying63 h
  rw [cells63] at hl
  obtain ⟨c0, c1, rfl⟩ := len2 hl
  have h0 : DataW.trod enc Try.prog w base spare held m 3 (([c0, c1].drop 0).take (Try.prog.cellsOf 3)) = xs[0]? := hf 0 _ rfl
  rw [cells3] at h0
  have h1 : DataW.trod enc Try.prog w base spare held m 3 (([c0, c1].drop 1).take (Try.prog.cellsOf 3)) = xs[1]? := hf 1 _ rfl
  rw [cells3] at h1
  simp at hlen
  obtain ⟨a, e0, _⟩ := rd_int (h0.trans (List.getElem?_eq_getElem (by omega)))
  obtain ⟨b, e1, _⟩ := rd_int (h1.trans (List.getElem?_eq_getElem (by omega)))
  simp [eI] at e0 e1
  subst e0 e1
  exact ⟨(a, b), rfl, trivial⟩
theorem rd_place (h : DataW.trod enc Try.prog w base spare held n 65 cs = some x) : ∃ a : ByteArray × Int, cs = eP a ∧ a.1.size ≤ maxLen := by
  obtain ⟨xs, m, _, _, hl, hlen, hf⟩ := DataW.trod_struct Try.underlying65 h
  rw [cells65] at hl
  obtain ⟨c0, c1, rfl⟩ := len2 hl
  have h0 : DataW.trod enc Try.prog w base spare held m 9 (([c0, c1].drop 0).take (Try.prog.cellsOf 9)) = xs[0]? := hf 0 _ rfl
  rw [cells9] at h0
  have h1 : DataW.trod enc Try.prog w base spare held m 3 (([c0, c1].drop 1).take (Try.prog.cellsOf 3)) = xs[1]? := hf 1 _ rfl
  rw [cells3] at h1
  simp at hlen
  obtain ⟨a, e0, hs⟩ := rd_str (h0.trans (List.getElem?_eq_getElem (by omega)))
  obtain ⟨b, e1, _⟩ := rd_int (h1.trans (List.getElem?_eq_getElem (by omega)))
  simp [eI, eS] at e0 e1
  subst e0 e1
  exact ⟨(a, b), rfl, hs⟩
theorem rd_quota (h : DataW.trod enc Try.prog w base spare held n 67 cs = some x) : ∃ a : ByteArray × Int × Int, cs = eQ a ∧ a.1.size ≤ maxLen := by
  obtain ⟨xs, m, _, _, hl, hlen, hf⟩ := DataW.trod_struct Try.underlying67 h
  rw [cells67] at hl
  obtain ⟨c0, c1, c2, rfl⟩ := len3 hl
  have h0 : DataW.trod enc Try.prog w base spare held m 9 (([c0, c1, c2].drop 0).take (Try.prog.cellsOf 9)) = xs[0]? := hf 0 _ rfl
  rw [cells9] at h0
  have h1 : DataW.trod enc Try.prog w base spare held m 3 (([c0, c1, c2].drop 1).take (Try.prog.cellsOf 3)) = xs[1]? := hf 1 _ rfl
  rw [cells3] at h1
  have h2 : DataW.trod enc Try.prog w base spare held m 3 (([c0, c1, c2].drop 2).take (Try.prog.cellsOf 3)) = xs[2]? := hf 2 _ rfl
  rw [cells3] at h2
  simp at hlen
  obtain ⟨a, e0, hs⟩ := rd_str (h0.trans (List.getElem?_eq_getElem (by omega)))
  obtain ⟨b, e1, _⟩ := rd_int (h1.trans (List.getElem?_eq_getElem (by omega)))
  obtain ⟨c, e2, _⟩ := rd_int (h2.trans (List.getElem?_eq_getElem (by omega)))
  simp [eI, eS] at e0 e1 e2
  subst e0 e1 e2
  exact ⟨(a, b, c), rfl, hs⟩

theorem rd_draw (h : DataW.trod enc Try.prog w base spare held n 30 cs = some x) : ∃ (d : Dr) (a : DrA), cs = (drV d a).cells.toList ∧ DrAt w d a ∧ DrSz d ∧ DrCap d a := by
  obtain ⟨xs, m, _, _, hl, hlen, hf⟩ := DataW.trod_struct Try.underlying30 h
  rw [cells30] at hl
  obtain ⟨c0, c1, c2, c3, c4, c5, c6, c7, c8, c9, c10, c11, c12, rfl⟩ := len13 hl
  have h0 : DataW.trod enc Try.prog w base spare held m 9 (([c0, c1, c2, c3, c4, c5, c6, c7, c8, c9, c10, c11, c12].drop 0).take (Try.prog.cellsOf 9)) = xs[0]? := hf 0 _ rfl
  rw [cells9] at h0
  have h1 : DataW.trod enc Try.prog w base spare held m 3 (([c0, c1, c2, c3, c4, c5, c6, c7, c8, c9, c10, c11, c12].drop 1).take (Try.prog.cellsOf 3)) = xs[1]? := hf 1 _ rfl
  rw [cells3] at h1
  have h2 : DataW.trod enc Try.prog w base spare held m 3 (([c0, c1, c2, c3, c4, c5, c6, c7, c8, c9, c10, c11, c12].drop 2).take (Try.prog.cellsOf 3)) = xs[2]? := hf 2 _ rfl
  rw [cells3] at h2
  have h3 : DataW.trod enc Try.prog w base spare held m 3 (([c0, c1, c2, c3, c4, c5, c6, c7, c8, c9, c10, c11, c12].drop 3).take (Try.prog.cellsOf 3)) = xs[3]? := hf 3 _ rfl
  rw [cells3] at h3
  have h4 : DataW.trod enc Try.prog w base spare held m 3 (([c0, c1, c2, c3, c4, c5, c6, c7, c8, c9, c10, c11, c12].drop 4).take (Try.prog.cellsOf 3)) = xs[4]? := hf 4 _ rfl
  rw [cells3] at h4
  have h5 : DataW.trod enc Try.prog w base spare held m 3 (([c0, c1, c2, c3, c4, c5, c6, c7, c8, c9, c10, c11, c12].drop 5).take (Try.prog.cellsOf 3)) = xs[5]? := hf 5 _ rfl
  rw [cells3] at h5
  have h6 : DataW.trod enc Try.prog w base spare held m 26 (([c0, c1, c2, c3, c4, c5, c6, c7, c8, c9, c10, c11, c12].drop 6).take (Try.prog.cellsOf 26)) = xs[6]? := hf 6 _ rfl
  rw [cells26] at h6
  have h7 : DataW.trod enc Try.prog w base spare held m 4 (([c0, c1, c2, c3, c4, c5, c6, c7, c8, c9, c10, c11, c12].drop 7).take (Try.prog.cellsOf 4)) = xs[7]? := hf 7 _ rfl
  rw [cells4] at h7
  have h8 : DataW.trod enc Try.prog w base spare held m 27 (([c0, c1, c2, c3, c4, c5, c6, c7, c8, c9, c10, c11, c12].drop 8).take (Try.prog.cellsOf 27)) = xs[8]? := hf 8 _ rfl
  rw [cells27] at h8
  have h9 : DataW.trod enc Try.prog w base spare held m 3 (([c0, c1, c2, c3, c4, c5, c6, c7, c8, c9, c10, c11, c12].drop 9).take (Try.prog.cellsOf 3)) = xs[9]? := hf 9 _ rfl
  rw [cells3] at h9
  have h10 : DataW.trod enc Try.prog w base spare held m 3 (([c0, c1, c2, c3, c4, c5, c6, c7, c8, c9, c10, c11, c12].drop 10).take (Try.prog.cellsOf 3)) = xs[10]? := hf 10 _ rfl
  rw [cells3] at h10
  have h11 : DataW.trod enc Try.prog w base spare held m 28 (([c0, c1, c2, c3, c4, c5, c6, c7, c8, c9, c10, c11, c12].drop 11).take (Try.prog.cellsOf 28)) = xs[11]? := hf 11 _ rfl
  rw [cells28] at h11
  have h12 : DataW.trod enc Try.prog w base spare held m 22 (([c0, c1, c2, c3, c4, c5, c6, c7, c8, c9, c10, c11, c12].drop 12).take (Try.prog.cellsOf 22)) = xs[12]? := hf 12 _ rfl
  rw [cells22] at h12
  simp at hlen
  obtain ⟨v0, e0, hz0⟩ := rd_str (h0.trans (List.getElem?_eq_getElem (by omega)))
  obtain ⟨v1, e1, _⟩ := rd_int (h1.trans (List.getElem?_eq_getElem (by omega)))
  obtain ⟨v2, e2, _⟩ := rd_int (h2.trans (List.getElem?_eq_getElem (by omega)))
  obtain ⟨v3, e3, _⟩ := rd_int (h3.trans (List.getElem?_eq_getElem (by omega)))
  obtain ⟨v4, e4, _⟩ := rd_int (h4.trans (List.getElem?_eq_getElem (by omega)))
  obtain ⟨v5, e5, _⟩ := rd_int (h5.trans (List.getElem?_eq_getElem (by omega)))
  obtain ⟨s6, k6, l6, e6, b6, _, g6, _⟩ := open_list Try.underlying26 cells63 (by decide) (fun _ _ _ h => rd_tier h) (h6.trans (List.getElem?_eq_getElem (by omega)))
  obtain ⟨v7, e7, _⟩ := DataW.trod_bool Try.underlying4 (h7.trans (List.getElem?_eq_getElem (by omega)))
  obtain ⟨s8, k8, l8, e8, b8, _, g8, z8⟩ := open_list Try.underlying27 cells65 (by decide) (fun _ _ _ h => rd_place h) (h8.trans (List.getElem?_eq_getElem (by omega)))
  obtain ⟨v9, e9, _⟩ := rd_int (h9.trans (List.getElem?_eq_getElem (by omega)))
  obtain ⟨v10, e10, _⟩ := rd_int (h10.trans (List.getElem?_eq_getElem (by omega)))
  obtain ⟨s11, k11, l11, e11, b11, _, g11, z11⟩ := open_list Try.underlying28 cells67 (by decide) (fun _ _ _ h => rd_quota h) (h11.trans (List.getElem?_eq_getElem (by omega)))
  obtain ⟨s12, k12, l12, e12, b12, _, g12, _⟩ := rd_ints (h12.trans (List.getElem?_eq_getElem (by omega)))
  simp [eI, eS] at e0 e1 e2 e3 e4 e5 e6 e7 e8 e9 e10 e11 e12
  subst e0 e1 e2 e3 e4 e5 e6 e7 e8 e9 e10 e11 e12
  have hmx : maxLen ≤ 9223372036854775807 := by unfold maxLen; omega
  exact ⟨⟨v0, v1, v2, v3, v4, v5, l6, v7, l8, v9, v10, l11, l12⟩, ⟨s6, k6, s8, k8, s11, k11, s12, k12⟩, rfl, ⟨g6, g8, g11, g12⟩, ⟨by simp only; omega, fun p hp => by have := z8 p hp; omega, fun p hp => by have := z11 p hp; omega⟩, ⟨b6, b8, b11, b12⟩⟩
end

section
variable {H : Type} {enc : TypeId × Value → H} {w : World} {base : Nat} {spare : Nat → Bool} {held : Bool} {n : Nat} {cs : List Value} {x : DataW H × List MemPlace}
def e3 (x : Int × Int × Int) : List Value := [.int .i64 x.1, .int .i64 x.2.1, .int .i64 x.2.2]
def eU (x : Int) : List Value := [.int .u8 x]
theorem rd_u8 (h : DataW.trod enc Try.prog w base spare held n 5 cs = some x) : ∃ a : Int, cs = eU a ∧ 0 ≤ a ∧ a < 256 := by
  obtain ⟨a, rfl, _, hw⟩ := DataW.trod_int Try.underlying5 h
  have e1 : IntKind.u8.min = 0 := by decide
  have e2 : IntKind.u8.max = 255 := by decide
  simp only [Lit.wf, Bool.and_eq_true, decide_eq_true_eq, e1, e2] at hw
  exact ⟨a, rfl, hw.1, by omega⟩
theorem rd_arr3 (h : DataW.trod enc Try.prog w base spare held n 23 cs = some x) : ∃ a : Int × Int × Int, cs = e3 a ∧ True := by
  obtain ⟨l, hl, rfl, _⟩ := open_arr Try.underlying23 cells3 (by kernel_rfl) (fun _ _ _ h => rd_int h) h
  obtain ⟨a, b, c, rfl⟩ := len3 hl
  exact ⟨(a, b, c), rfl, trivial⟩
theorem cells23 : Try.prog.cellsOf 23 = 3 := by kernel_rfl
theorem rd_arr23 (h : DataW.trod enc Try.prog w base spare held n 24 cs = some x) : ∃ a b : Int × Int × Int, cs = e3 a ++ e3 b := by
  obtain ⟨l, hl, rfl, _⟩ := open_arr Try.underlying24 cells23 (by kernel_rfl) (fun _ _ _ h => rd_arr3 h) h
  obtain ⟨a, b, rfl⟩ := len2 hl
  exact ⟨a, b, rfl⟩
theorem cells5 : Try.prog.cellsOf 5 = 1 := by kernel_rfl
theorem rd_arr3u (h : DataW.trod enc Try.prog w base spare held n 50 cs = some x) : ∃ a b c : Int, cs = [.int .u8 a, .int .u8 b, .int .u8 c] ∧ (0 ≤ a ∧ a < 256) ∧ (0 ≤ b ∧ b < 256) ∧ (0 ≤ c ∧ c < 256) := by
  obtain ⟨l, hl, rfl, hok⟩ := open_arr Try.underlying50 cells5 (by kernel_rfl) (fun _ _ _ h => rd_u8 h) h
  obtain ⟨a, b, c, rfl⟩ := len3 hl
  exact ⟨a, b, c, rfl, hok a (by simp), hok b (by simp), hok c (by simp)⟩
structure IntsOk (w : World) (y : Option Addr × List Int × Nat) : Prop where
  cap : y.2.1.length ≤ y.2.2
  mx : y.2.2 ≤ maxLen
  at_ : SlAt w 1 eI y.1 y.2.1
def eSl (y : Option Addr × List Int × Nat) : List Value := [.slice y.1 y.2.1.length y.2.2]
theorem rd_ints2 (h : DataW.trod enc Try.prog w base spare held n 41 cs = some x) : ∃ y z : Option Addr × List Int × Nat, cs = eSl y ++ eSl z ∧ IntsOk w y ∧ IntsOk w z := by
  obtain ⟨l, hl, rfl, hok⟩ := open_arr (f := eSl) (ok := IntsOk w) Try.underlying41 cells22 (by kernel_rfl) (fun _ _ _ h => by
    obtain ⟨s, c, l, rfl, h1, h2, h3, _⟩ := rd_ints h
    exact ⟨(s, l, c), rfl, h1, h2, h3⟩) h
  obtain ⟨a, b, rfl⟩ := len2 hl
  exact ⟨a, b, rfl, hok a (by simp), hok b (by simp)⟩
theorem rd_list3 (h : DataW.trod enc Try.prog w base spare held n 52 cs = some x) : ∃ s c, ∃ l : List (Int × Int × Int), cs = [.slice s l.length c] ∧ l.length ≤ c ∧ c ≤ maxLen ∧ SlAt w 3 e3 s l := by
  obtain ⟨s, c, l, h1, h2, h3, h4, _⟩ := open_list Try.underlying52 cells23 (by decide) (fun _ _ _ h => rd_arr3 h) h
  exact ⟨s, c, l, h1, h2, h3, h4⟩
end
theorem agg_of_cells {v : Value} {l : List Value} (h : v.cells.toList = l) (hl : 2 ≤ l.length) : v = .agg l.toArray := by
  cases v with
  | agg vs =>
    have : vs.toList = l := h
    subst this
    rfl
  | _ =>
    exfalso
    subst h
    simp [Value.cells] at hl
theorem slice_of_cells {P : Program} {W : World} {base t e : Nat} {v : Value} {s : Option Addr} {m c : Nat} (ht : P.underlying t = some (.slice e)) (hok : Value.okWide P W .any base t v) (h : v.cells.toList = [.slice s m c]) : v = .slice s m c := by
  cases v with
  | agg vs => simp [Value.okWide, ht, Cell.okWide, Cell.ok] at hok
  | slice a1 b1 c1 =>
    have e : Value.slice a1 b1 c1 = .slice s m c := by simpa [Value.cells] using h
    exact e
  | _ => simp [Value.cells] at h
end Go.Proofs.Ytgephdcapajaiaa
