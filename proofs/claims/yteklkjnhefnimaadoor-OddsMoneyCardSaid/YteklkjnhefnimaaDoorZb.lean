/- How further arguments of the laws of layer 18 are read: numbers, arrays, lists of pairs, bytes; conditions are the hypotheses of each law. -/
import Derived.Test.YteklkjnhefnimaaDoorZa
import Derived.Test.YteklkjnhefnimaaDoorFf
namespace Go.Proofs.YteklkjnhefnimaaDoor
open Go.Eng Go.ChangeShapes Go.WideShapes Go.ChangeAt Go.RowKit Go.Deep

theorem cells3 : Tryd.prog.cellsOf 3 = 1 := by kernel_rfl
theorem cells5 : Tryd.prog.cellsOf 5 = 1 := by kernel_rfl
theorem cells68 : Tryd.prog.cellsOf 68 = 2 := by kernel_rfl
section
variable {H : Type} {enc : TypeId × Value → H} {w : World} {base : Nat} {spare : Nat → Bool} {held : Bool} {n : Nat} {cs : List Value} {x : DataW H × List MemPlace}
def e3 (x : Int × Int × Int) : List Value := [.int .i64 x.1, .int .i64 x.2.1, .int .i64 x.2.2]
theorem rd_arr3 (h : DataW.trod enc Tryd.prog w base spare held n 29 cs = some x) : ∃ a : Int × Int × Int, cs = e3 a ∧ True := by
  obtain ⟨l, hl, rfl, _⟩ := open_arr Tryd.underlying29 cells3 (by kernel_rfl) (fun _ _ _ h => rd_int h) h
  obtain ⟨a, b, c, rfl⟩ := len3 hl
  exact ⟨(a, b, c), rfl, trivial⟩
theorem rd_arr2 (h : DataW.trod enc Tryd.prog w base spare held n 68 cs = some x) : ∃ a : Int × Int, cs = eT a ∧ True := by
  obtain ⟨l, hl, rfl, _⟩ := open_arr Tryd.underlying68 cells3 (by kernel_rfl) (fun _ _ _ h => rd_int h) h
  obtain ⟨a, b, rfl⟩ := len2 hl
  exact ⟨(a, b), rfl, trivial⟩
theorem rd_list2 (h : DataW.trod enc Tryd.prog w base spare held n 44 cs = some x) : ∃ s c, ∃ l : List (Int × Int), cs = [.slice s l.length c] ∧ l.length ≤ c ∧ c ≤ maxLen ∧ SlAt w 2 eT s l ∧ (l = [] ∨ ∃ es rs, x.1 = .slice es rs ∧ es.length = l.length) := by
  obtain ⟨s, c, l, h1, h2, h3, h4, _, h6⟩ := open_list Tryd.underlying44 cells68 (by decide) (fun _ _ _ h => rd_arr2 h) h
  exact ⟨s, c, l, h1, h2, h3, h4, h6⟩
theorem rd_u8 (h : DataW.trod enc Tryd.prog w base spare held n 5 cs = some x) : ∃ a : Int, cs = eV8 a ∧ 0 ≤ a ∧ a < 256 := by
  obtain ⟨a, rfl, _, hw⟩ := DataW.trod_int Tryd.underlying5 h
  have e1 : IntKind.u8.min = 0 := by decide
  have e2 : IntKind.u8.max = 255 := by decide
  simp only [Lit.wf, Bool.and_eq_true, decide_eq_true_eq, e1, e2] at hw
  exact ⟨a, rfl, hw.1, by omega⟩
theorem rd_bytes (h : DataW.trod enc Tryd.prog w base spare held n 45 cs = some x) : ∃ s c, ∃ l : List Int, cs = [.slice s l.length c] ∧ l.length ≤ c ∧ c ≤ maxLen ∧ SlAt w 1 eV8 s l ∧ (∀ a ∈ l, 0 ≤ a ∧ a < 256) ∧ (l = [] ∨ ∃ es rs, x.1 = .slice es rs ∧ es.length = l.length) := by
  obtain ⟨s, c, l, h1, h2, h3, h4, h5, h6⟩ := open_list Tryd.underlying45 cells5 (by decide) (fun _ _ _ h => rd_u8 h) h
  exact ⟨s, c, l, h1, h2, h3, h4, h5, h6⟩
end
end Go.Proofs.YteklkjnhefnimaaDoor
