/- Layer 14: owned lists that grow by one element; the reader of numbers without its place; rules that pass the check; conditions are the hypotheses of each law. -/
import Derived.Test.YtgephdcapajaiaaP
import Derived.Test.YtgephdcapajaiaaN
namespace Go.Proofs.Ytgephdcapajaiaa
open Go.Eng

/-! ### the reader of numbers -/
def strB (s : Option Addr) (c : Nat) (l : List Int) : Obj → Prop := fun o => ∃ j, cellsB 2 (frOf (strm s c l j)) 72 o
theorem nx_nonneg (l : List Int) (j : Nat) {n : Int} (hn : 0 < n) : 0 ≤ nx l j n := Int.emod_nonneg _ (by omega)
theorem nx_lt (l : List Int) (j : Nat) {n : Int} (hn : 0 < n) : nx l j n < n := Int.emod_lt_of_pos _ hn
theorem c28x {l : List Int} {s : Option Addr} {c mb : Nat} {n : Int} {w : World} (hs : SlAt w 1 eI s l) (hsb : l ≠ [] → ∀ b o, s = some ⟨b, o, none⟩ → b ≠ mb) (hl : l.length ≤ maxLen) (hn : 0 < n) (hn2 : n ≤ 9223372036854775807)
    (ho : ∃ o, w.heap[mb]? = some o ∧ strB s c l o) :
    Ret Try.prog 28 [.pointer (some ⟨mb, 0, none⟩), .int .i64 n] w (fun v w' => ∃ x, v = .int .i64 x ∧ 0 ≤ x ∧ x < n ∧ Keeps [mb] w w' ∧ ∃ o, w'.heap[mb]? = some o ∧ strB s c l o) := by
  obtain ⟨o, ho, j, hj⟩ := ho
  refine (c28 l s c j mb n w hs hsb hl hn hn2 ⟨o, ho, hj⟩).mono ?_
  rintro v w' ⟨rfl, hk, o', ho', hj'⟩
  exact ⟨_, rfl, nx_nonneg l j hn, nx_lt l j hn, hk, o', ho', _, hj'⟩
/-! ### rules that pass -/
def drC (d : Dr) (a : DrA) : List Value := [.string d.name, .int .i64 d.kind, .int .i64 d.round, .int .i64 d.price, .int .i64 d.pool, .int .i64 d.pick, .slice a.sT d.tiers.length a.cT, .bool d.roll, .slice a.sP d.places.length a.cP, .int .i64 d.cls, .int .i64 d.size, .slice a.sQ d.quotas.length a.cQ, .slice a.sB d.barred.length a.cB]
theorem clBad_of {d : Dr} {i : Nat} (h : clSkip d i = true ∨ clR d i = 0) : clBad d i = false := by
  unfold clBad
  rcases h with h | h <;> simp [h]
theorem clSkip_of {d : Dr} {i : Nat} (h0 : clK i ≠ 0) (h : clK i ≠ d.kind) : clSkip d i = true := by
  unfold clSkip
  simp [h0, h]
theorem chk_mk {d : Dr} (h0 : clR d 0 = 0) (h1 : clR d 1 = 0) (h2 : clR d 2 = 0) (h3 : clR d 3 = 0) (h4 : clR d 4 = 0) (k1 : d.kind = 1 → clR d 5 = 0 ∧ clR d 6 = 0 ∧ clR d 7 = 0) (k2 : d.kind = 2 → clR d 8 = 0 ∧ clR d 9 = 0)
    (k3 : d.kind = 3 → clR d 10 = 0 ∧ clR d 11 = 0) : chk d = (⟨#[]⟩, 0) := by
  refine chk_ok ?_
  intro j hj
  have s1 : ∀ i, clK i = 1 → (d.kind = 1 → clR d i = 0) → clBad d i = false := by
    intro i hi h
    by_cases hk : d.kind = 1
    · exact clBad_of (.inr (h hk))
    · exact clBad_of (.inl (clSkip_of (by rw [hi]; decide) (by rw [hi]; exact fun e => hk e.symm)))
  have s2 : ∀ i, clK i = 2 → (d.kind = 2 → clR d i = 0) → clBad d i = false := by
    intro i hi h
    by_cases hk : d.kind = 2
    · exact clBad_of (.inr (h hk))
    · exact clBad_of (.inl (clSkip_of (by rw [hi]; decide) (by rw [hi]; exact fun e => hk e.symm)))
  have s3 : ∀ i, clK i = 3 → (d.kind = 3 → clR d i = 0) → clBad d i = false := by
    intro i hi h
    by_cases hk : d.kind = 3
    · exact clBad_of (.inr (h hk))
    · exact clBad_of (.inl (clSkip_of (by rw [hi]; decide) (by rw [hi]; exact fun e => hk e.symm)))
  match j, hj with
  | 0, _ => exact clBad_of (.inr h0)
  | 1, _ => exact clBad_of (.inr h1)
  | 2, _ => exact clBad_of (.inr h2)
  | 3, _ => exact clBad_of (.inr h3)
  | 4, _ => exact clBad_of (.inr h4)
  | 5, _ => exact s1 5 rfl fun k => (k1 k).1
  | 6, _ => exact s1 6 rfl fun k => (k1 k).2.1
  | 7, _ => exact s1 7 rfl fun k => (k1 k).2.2
  | 8, _ => exact s2 8 rfl fun k => (k2 k).1
  | 9, _ => exact s2 9 rfl fun k => (k2 k).2
  | 10, _ => exact s3 10 rfl fun k => (k3 k).1
  | 11, _ => exact s3 11 rfl fun k => (k3 k).2
theorem within_ok {n lo hi : Int} (h1 : lo ≤ n) (h2 : n ≤ hi) : within n lo hi = 0 := by
  unfold within
  rw [if_neg (by omega)]

theorem wordB_size (n : Int) : (wordB n).size = 1 := by
  unfold wordB
  split <;> rfl
theorem wordB_word (n : Int) : isWordB (wordB n) = true := by
  unfold wordB
  split <;> decide
theorem xword (n : Int) : isWordB (⟨#[120]⟩ ++ wordB n) = true := by
  unfold wordB
  split <;> decide
theorem wordB_inj {a b : Nat} (ha : a < 6) (hb : b < 6) (h : wordB a = wordB b) : a = b := by
  have key : ∀ a, a < 6 → ∀ b, b < 6 → wordB (a : Nat) = wordB (b : Nat) → a = b := by decide
  exact key a ha b hb h
end Go.Proofs.Ytgephdcapajaiaa
