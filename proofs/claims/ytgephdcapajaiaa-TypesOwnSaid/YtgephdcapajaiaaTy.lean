/- Made by a program of ours (gen_ty.py): tables of the types of the program, each proved; no conditions. -/
import Derived.Test.YtgephdcapajaiaaProg
import Derived.Test.YtgephdcapajaiaaEngJ
import Derived.KernelRfl
namespace Go.Proofs.Ytgephdcapajaiaa
open Go.Eng
def oneTy : Nat → Bool
  | 1 => true
  | 2 => true
  | 3 => true
  | 4 => true
  | 5 => true
  | 9 => true
  | 21 => true
  | 22 => true
  | 25 => true
  | 26 => true
  | 27 => true
  | 28 => true
  | 31 => true
  | 32 => true
  | 34 => true
  | 36 => true
  | 37 => true
  | 38 => true
  | 40 => true
  | 42 => true
  | 43 => true
  | 44 => true
  | 47 => true
  | 48 => true
  | 49 => true
  | 51 => true
  | 52 => true
  | 53 => true
  | 54 => true
  | 56 => true
  | 57 => true
  | 58 => true
  | 59 => true
  | 60 => true
  | 61 => true
  | 69 => true
  | 70 => true
  | 73 => true
  | 74 => true
  | 75 => true
  | 76 => true
  | 77 => true
  | 78 => true
  | 81 => true
  | 82 => true
  | 83 => true
  | 84 => true
  | 85 => true
  | 86 => true
  | 87 => true
  | 88 => true
  | 89 => true
  | 92 => true
  | 93 => true
  | 94 => true
  | 95 => true
  | 96 => true
  | 97 => true
  | 98 => true
  | 99 => true
  | 100 => true
  | 101 => true
  | 102 => true
  | 103 => true
  | 104 => true
  | 105 => true
  | 106 => true
  | 107 => true
  | 108 => true
  | 109 => true
  | 110 => true
  | 111 => true
  | 112 => true
  | 113 => true
  | 114 => true
  | 115 => true
  | 116 => true
  | 117 => true
  | 118 => true
  | 124 => true
  | 125 => true
  | 129 => true
  | _ => false
theorem oneTy_ok {t : Nat} (h : oneTy t = true) : ∃ q, Try.prog.underlying t = some q ∧ isOne q = true := by
  unfold oneTy at h
  split at h
  · exact ⟨_, Try.underlying1, rfl⟩
  · exact ⟨_, Try.underlying2, rfl⟩
  · exact ⟨_, Try.underlying3, rfl⟩
  · exact ⟨_, Try.underlying4, rfl⟩
  · exact ⟨_, Try.underlying5, rfl⟩
  · exact ⟨_, Try.underlying9, rfl⟩
  · exact ⟨_, Try.underlying21, rfl⟩
  · exact ⟨_, Try.underlying22, rfl⟩
  · exact ⟨_, Try.underlying25, rfl⟩
  · exact ⟨_, Try.underlying26, rfl⟩
  · exact ⟨_, Try.underlying27, rfl⟩
  · exact ⟨_, Try.underlying28, rfl⟩
  · exact ⟨_, Try.underlying31, rfl⟩
  · exact ⟨_, Try.underlying32, rfl⟩
  · exact ⟨_, Try.underlying34, rfl⟩
  · exact ⟨_, Try.underlying36, rfl⟩
  · exact ⟨_, Try.underlying37, rfl⟩
  · exact ⟨_, Try.underlying38, rfl⟩
  · exact ⟨_, Try.underlying40, rfl⟩
  · exact ⟨_, Try.underlying42, rfl⟩
  · exact ⟨_, Try.underlying43, rfl⟩
  · exact ⟨_, Try.underlying44, rfl⟩
  · exact ⟨_, Try.underlying47, rfl⟩
  · exact ⟨_, Try.underlying48, rfl⟩
  · exact ⟨_, Try.underlying49, rfl⟩
  · exact ⟨_, Try.underlying51, rfl⟩
  · exact ⟨_, Try.underlying52, rfl⟩
  · exact ⟨_, Try.underlying53, rfl⟩
  · exact ⟨_, Try.underlying54, rfl⟩
  · exact ⟨_, Try.underlying56, rfl⟩
  · exact ⟨_, Try.underlying57, rfl⟩
  · exact ⟨_, Try.underlying58, rfl⟩
  · exact ⟨_, Try.underlying59, rfl⟩
  · exact ⟨_, Try.underlying60, rfl⟩
  · exact ⟨_, Try.underlying61, rfl⟩
  · exact ⟨_, Try.underlying69, rfl⟩
  · exact ⟨_, Try.underlying70, rfl⟩
  · exact ⟨_, Try.underlying73, rfl⟩
  · exact ⟨_, Try.underlying74, rfl⟩
  · exact ⟨_, Try.underlying75, rfl⟩
  · exact ⟨_, Try.underlying76, rfl⟩
  · exact ⟨_, Try.underlying77, rfl⟩
  · exact ⟨_, Try.underlying78, rfl⟩
  · exact ⟨_, Try.underlying81, rfl⟩
  · exact ⟨_, Try.underlying82, rfl⟩
  · exact ⟨_, Try.underlying83, rfl⟩
  · exact ⟨_, Try.underlying84, rfl⟩
  · exact ⟨_, Try.underlying85, rfl⟩
  · exact ⟨_, Try.underlying86, rfl⟩
  · exact ⟨_, Try.underlying87, rfl⟩
  · exact ⟨_, Try.underlying88, rfl⟩
  · exact ⟨_, Try.underlying89, rfl⟩
  · exact ⟨_, Try.underlying92, rfl⟩
  · exact ⟨_, Try.underlying93, rfl⟩
  · exact ⟨_, Try.underlying94, rfl⟩
  · exact ⟨_, Try.underlying95, rfl⟩
  · exact ⟨_, Try.underlying96, rfl⟩
  · exact ⟨_, Try.underlying97, rfl⟩
  · exact ⟨_, Try.underlying98, rfl⟩
  · exact ⟨_, Try.underlying99, rfl⟩
  · exact ⟨_, Try.underlying100, rfl⟩
  · exact ⟨_, Try.underlying101, rfl⟩
  · exact ⟨_, Try.underlying102, rfl⟩
  · exact ⟨_, Try.underlying103, rfl⟩
  · exact ⟨_, Try.underlying104, rfl⟩
  · exact ⟨_, Try.underlying105, rfl⟩
  · exact ⟨_, Try.underlying106, rfl⟩
  · exact ⟨_, Try.underlying107, rfl⟩
  · exact ⟨_, Try.underlying108, rfl⟩
  · exact ⟨_, Try.underlying109, rfl⟩
  · exact ⟨_, Try.underlying110, rfl⟩
  · exact ⟨_, Try.underlying111, rfl⟩
  · exact ⟨_, Try.underlying112, rfl⟩
  · exact ⟨_, Try.underlying113, rfl⟩
  · exact ⟨_, Try.underlying114, rfl⟩
  · exact ⟨_, Try.underlying115, rfl⟩
  · exact ⟨_, Try.underlying116, rfl⟩
  · exact ⟨_, Try.underlying117, rfl⟩
  · exact ⟨_, Try.underlying118, rfl⟩
  · exact ⟨_, Try.underlying124, rfl⟩
  · exact ⟨_, Try.underlying125, rfl⟩
  · exact ⟨_, Try.underlying129, rfl⟩
  · cases h
def manyTy : Nat → Option Nat
  | 23 => some 3
  | 24 => some 6
  | 29 => some 13
  | 30 => some 13
  | 33 => some 39
  | 39 => some 26
  | 41 => some 2
  | 45 => some 6
  | 46 => some 6
  | 50 => some 3
  | 62 => some 2
  | 63 => some 2
  | 64 => some 2
  | 65 => some 2
  | 66 => some 3
  | 67 => some 3
  | 71 => some 2
  | 72 => some 2
  | 79 => some 3
  | 80 => some 3
  | 90 => some 2
  | 91 => some 2
  | _ => none
theorem manyTy_ok {t k : Nat} (h : manyTy t = some k) : ∃ q, Try.prog.underlying t = some q ∧ isMany q = true := by
  unfold manyTy at h
  split at h
  · exact ⟨_, Try.underlying23, rfl⟩
  · exact ⟨_, Try.underlying24, rfl⟩
  · exact ⟨_, Try.underlying29, rfl⟩
  · exact ⟨_, Try.underlying30, rfl⟩
  · exact ⟨_, Try.underlying33, rfl⟩
  · exact ⟨_, Try.underlying39, rfl⟩
  · exact ⟨_, Try.underlying41, rfl⟩
  · exact ⟨_, Try.underlying45, rfl⟩
  · exact ⟨_, Try.underlying46, rfl⟩
  · exact ⟨_, Try.underlying50, rfl⟩
  · exact ⟨_, Try.underlying62, rfl⟩
  · exact ⟨_, Try.underlying63, rfl⟩
  · exact ⟨_, Try.underlying64, rfl⟩
  · exact ⟨_, Try.underlying65, rfl⟩
  · exact ⟨_, Try.underlying66, rfl⟩
  · exact ⟨_, Try.underlying67, rfl⟩
  · exact ⟨_, Try.underlying71, rfl⟩
  · exact ⟨_, Try.underlying72, rfl⟩
  · exact ⟨_, Try.underlying79, rfl⟩
  · exact ⟨_, Try.underlying80, rfl⟩
  · exact ⟨_, Try.underlying90, rfl⟩
  · exact ⟨_, Try.underlying91, rfl⟩
  · cases h
def sizeTy : Nat → Option Nat
  | 1 => some 1
  | 2 => some 1
  | 3 => some 1
  | 4 => some 1
  | 5 => some 1
  | 9 => some 1
  | 21 => some 1
  | 22 => some 1
  | 23 => some 3
  | 24 => some 6
  | 25 => some 1
  | 26 => some 1
  | 27 => some 1
  | 28 => some 1
  | 29 => some 13
  | 30 => some 13
  | 31 => some 1
  | 32 => some 1
  | 33 => some 39
  | 34 => some 1
  | 36 => some 1
  | 37 => some 1
  | 38 => some 1
  | 39 => some 26
  | 40 => some 1
  | 41 => some 2
  | 42 => some 1
  | 43 => some 1
  | 44 => some 1
  | 45 => some 6
  | 46 => some 6
  | 47 => some 1
  | 48 => some 1
  | 49 => some 1
  | 50 => some 3
  | 51 => some 1
  | 52 => some 1
  | 53 => some 1
  | 54 => some 1
  | 56 => some 1
  | 57 => some 1
  | 58 => some 1
  | 59 => some 1
  | 60 => some 1
  | 61 => some 1
  | 62 => some 2
  | 63 => some 2
  | 64 => some 2
  | 65 => some 2
  | 66 => some 3
  | 67 => some 3
  | 69 => some 1
  | 70 => some 1
  | 71 => some 2
  | 72 => some 2
  | 73 => some 1
  | 74 => some 1
  | 75 => some 1
  | 76 => some 1
  | 77 => some 1
  | 78 => some 1
  | 79 => some 3
  | 80 => some 3
  | 81 => some 1
  | 82 => some 1
  | 83 => some 1
  | 84 => some 1
  | 85 => some 1
  | 86 => some 1
  | 87 => some 1
  | 88 => some 1
  | 89 => some 1
  | 90 => some 2
  | 91 => some 2
  | 92 => some 1
  | 93 => some 1
  | 94 => some 1
  | 95 => some 1
  | 96 => some 1
  | 97 => some 1
  | 98 => some 1
  | 99 => some 1
  | 100 => some 1
  | 101 => some 1
  | 102 => some 1
  | 103 => some 1
  | 104 => some 1
  | 105 => some 1
  | 106 => some 1
  | 107 => some 1
  | 108 => some 1
  | 109 => some 1
  | 110 => some 1
  | 111 => some 1
  | 112 => some 1
  | 113 => some 1
  | 114 => some 1
  | 115 => some 1
  | 116 => some 1
  | 117 => some 1
  | 118 => some 1
  | 124 => some 1
  | 125 => some 1
  | 129 => some 1
  | _ => none
theorem sizeTy_ok {t k : Nat} (h : sizeTy t = some k) : TSize Try.prog t k := by
  unfold sizeTy at h
  split at h
  · cases h; unfold TSize; kernel_rfl
  · cases h; unfold TSize; kernel_rfl
  · cases h; unfold TSize; kernel_rfl
  · cases h; unfold TSize; kernel_rfl
  · cases h; unfold TSize; kernel_rfl
  · cases h; unfold TSize; kernel_rfl
  · cases h; unfold TSize; kernel_rfl
  · cases h; unfold TSize; kernel_rfl
  · cases h; unfold TSize; kernel_rfl
  · cases h; unfold TSize; kernel_rfl
  · cases h; unfold TSize; kernel_rfl
  · cases h; unfold TSize; kernel_rfl
  · cases h; unfold TSize; kernel_rfl
  · cases h; unfold TSize; kernel_rfl
  · cases h; unfold TSize; kernel_rfl
  · cases h; unfold TSize; kernel_rfl
  · cases h; unfold TSize; kernel_rfl
  · cases h; unfold TSize; kernel_rfl
  · cases h; unfold TSize; kernel_rfl
  · cases h; unfold TSize; kernel_rfl
  · cases h; unfold TSize; kernel_rfl
  · cases h; unfold TSize; kernel_rfl
  · cases h; unfold TSize; kernel_rfl
  · cases h; unfold TSize; kernel_rfl
  · cases h; unfold TSize; kernel_rfl
  · cases h; unfold TSize; kernel_rfl
  · cases h; unfold TSize; kernel_rfl
  · cases h; unfold TSize; kernel_rfl
  · cases h; unfold TSize; kernel_rfl
  · cases h; unfold TSize; kernel_rfl
  · cases h; unfold TSize; kernel_rfl
  · cases h; unfold TSize; kernel_rfl
  · cases h; unfold TSize; kernel_rfl
  · cases h; unfold TSize; kernel_rfl
  · cases h; unfold TSize; kernel_rfl
  · cases h; unfold TSize; kernel_rfl
  · cases h; unfold TSize; kernel_rfl
  · cases h; unfold TSize; kernel_rfl
  · cases h; unfold TSize; kernel_rfl
  · cases h; unfold TSize; kernel_rfl
  · cases h; unfold TSize; kernel_rfl
  · cases h; unfold TSize; kernel_rfl
  · cases h; unfold TSize; kernel_rfl
  · cases h; unfold TSize; kernel_rfl
  · cases h; unfold TSize; kernel_rfl
  · cases h; unfold TSize; kernel_rfl
  · cases h; unfold TSize; kernel_rfl
  · cases h; unfold TSize; kernel_rfl
  · cases h; unfold TSize; kernel_rfl
  · cases h; unfold TSize; kernel_rfl
  · cases h; unfold TSize; kernel_rfl
  · cases h; unfold TSize; kernel_rfl
  · cases h; unfold TSize; kernel_rfl
  · cases h; unfold TSize; kernel_rfl
  · cases h; unfold TSize; kernel_rfl
  · cases h; unfold TSize; kernel_rfl
  · cases h; unfold TSize; kernel_rfl
  · cases h; unfold TSize; kernel_rfl
  · cases h; unfold TSize; kernel_rfl
  · cases h; unfold TSize; kernel_rfl
  · cases h; unfold TSize; kernel_rfl
  · cases h; unfold TSize; kernel_rfl
  · cases h; unfold TSize; kernel_rfl
  · cases h; unfold TSize; kernel_rfl
  · cases h; unfold TSize; kernel_rfl
  · cases h; unfold TSize; kernel_rfl
  · cases h; unfold TSize; kernel_rfl
  · cases h; unfold TSize; kernel_rfl
  · cases h; unfold TSize; kernel_rfl
  · cases h; unfold TSize; kernel_rfl
  · cases h; unfold TSize; kernel_rfl
  · cases h; unfold TSize; kernel_rfl
  · cases h; unfold TSize; kernel_rfl
  · cases h; unfold TSize; kernel_rfl
  · cases h; unfold TSize; kernel_rfl
  · cases h; unfold TSize; kernel_rfl
  · cases h; unfold TSize; kernel_rfl
  · cases h; unfold TSize; kernel_rfl
  · cases h; unfold TSize; kernel_rfl
  · cases h; unfold TSize; kernel_rfl
  · cases h; unfold TSize; kernel_rfl
  · cases h; unfold TSize; kernel_rfl
  · cases h; unfold TSize; kernel_rfl
  · cases h; unfold TSize; kernel_rfl
  · cases h; unfold TSize; kernel_rfl
  · cases h; unfold TSize; kernel_rfl
  · cases h; unfold TSize; kernel_rfl
  · cases h; unfold TSize; kernel_rfl
  · cases h; unfold TSize; kernel_rfl
  · cases h; unfold TSize; kernel_rfl
  · cases h; unfold TSize; kernel_rfl
  · cases h; unfold TSize; kernel_rfl
  · cases h; unfold TSize; kernel_rfl
  · cases h; unfold TSize; kernel_rfl
  · cases h; unfold TSize; kernel_rfl
  · cases h; unfold TSize; kernel_rfl
  · cases h; unfold TSize; kernel_rfl
  · cases h; unfold TSize; kernel_rfl
  · cases h; unfold TSize; kernel_rfl
  · cases h; unfold TSize; kernel_rfl
  · cases h; unfold TSize; kernel_rfl
  · cases h; unfold TSize; kernel_rfl
  · cases h; unfold TSize; kernel_rfl
  · cases h; unfold TSize; kernel_rfl
  · cases h
def slTy : Nat → Option (Nat × Nat)
  | 22 => some (3, 1)
  | 26 => some (63, 2)
  | 27 => some (65, 2)
  | 28 => some (67, 3)
  | 42 => some (46, 6)
  | 44 => some (9, 1)
  | 52 => some (23, 3)
  | 54 => some (91, 2)
  | 75 => some (5, 1)
  | 76 => some (80, 3)
  | _ => none
theorem slTy_ok {t e k : Nat} (h : slTy t = some (e, k)) : Try.prog.underlying t = some (.slice e) ∧ TSize Try.prog e k := by
  unfold slTy at h
  split at h
  · cases h; exact ⟨Try.underlying22, sizeTy_ok rfl⟩
  · cases h; exact ⟨Try.underlying26, sizeTy_ok rfl⟩
  · cases h; exact ⟨Try.underlying27, sizeTy_ok rfl⟩
  · cases h; exact ⟨Try.underlying28, sizeTy_ok rfl⟩
  · cases h; exact ⟨Try.underlying42, sizeTy_ok rfl⟩
  · cases h; exact ⟨Try.underlying44, sizeTy_ok rfl⟩
  · cases h; exact ⟨Try.underlying52, sizeTy_ok rfl⟩
  · cases h; exact ⟨Try.underlying54, sizeTy_ok rfl⟩
  · cases h; exact ⟨Try.underlying75, sizeTy_ok rfl⟩
  · cases h; exact ⟨Try.underlying76, sizeTy_ok rfl⟩
  · cases h
def arrTy : Nat → Option (Nat × Nat × Nat)
  | 23 => some (3, 3, 1)
  | 24 => some (2, 23, 3)
  | 33 => some (3, 30, 13)
  | 39 => some (2, 30, 13)
  | 41 => some (2, 22, 1)
  | 50 => some (3, 5, 1)
  | _ => none
theorem arrTy_ok {t m e k : Nat} (h : arrTy t = some (m, e, k)) : Try.prog.underlying t = some (.array m e) ∧ TSize Try.prog e k := by
  unfold arrTy at h
  split at h
  · cases h; exact ⟨Try.underlying23, sizeTy_ok rfl⟩
  · cases h; exact ⟨Try.underlying24, sizeTy_ok rfl⟩
  · cases h; exact ⟨Try.underlying33, sizeTy_ok rfl⟩
  · cases h; exact ⟨Try.underlying39, sizeTy_ok rfl⟩
  · cases h; exact ⟨Try.underlying41, sizeTy_ok rfl⟩
  · cases h; exact ⟨Try.underlying50, sizeTy_ok rfl⟩
  · cases h
def strTy : Nat → Bool
  | 9 => true
  | _ => false
theorem strTy_ok {t : Nat} (h : strTy t = true) : Try.prog.underlying t = some .string := by
  unfold strTy at h
  split at h
  · exact Try.underlying9
  · cases h
def intTy : Nat → Option IntKind
  | 2 => some .i64
  | 3 => some .i64
  | 5 => some .u8
  | 21 => some .i32
  | 34 => some .i64
  | 125 => some .u32
  | _ => none
theorem intTy_ok {t : Nat} {k : IntKind} (h : intTy t = some k) : Try.prog.underlying t = some (.int k) := by
  unfold intTy at h
  split at h
  · cases h; exact Try.underlying2
  · cases h; exact Try.underlying3
  · cases h; exact Try.underlying5
  · cases h; exact Try.underlying21
  · cases h; exact Try.underlying34
  · cases h; exact Try.underlying125
  · cases h
def fieldTy : Nat → Nat → Option Nat
  | 29, 0 => some 0
  | 29, 1 => some 1
  | 29, 2 => some 2
  | 29, 3 => some 3
  | 29, 4 => some 4
  | 29, 5 => some 5
  | 29, 6 => some 6
  | 29, 7 => some 7
  | 29, 8 => some 8
  | 29, 9 => some 9
  | 29, 10 => some 10
  | 29, 11 => some 11
  | 29, 12 => some 12
  | 30, 0 => some 0
  | 30, 1 => some 1
  | 30, 2 => some 2
  | 30, 3 => some 3
  | 30, 4 => some 4
  | 30, 5 => some 5
  | 30, 6 => some 6
  | 30, 7 => some 7
  | 30, 8 => some 8
  | 30, 9 => some 9
  | 30, 10 => some 10
  | 30, 11 => some 11
  | 30, 12 => some 12
  | 45, 0 => some 0
  | 45, 1 => some 1
  | 45, 2 => some 2
  | 45, 3 => some 3
  | 45, 4 => some 4
  | 45, 5 => some 5
  | 46, 0 => some 0
  | 46, 1 => some 1
  | 46, 2 => some 2
  | 46, 3 => some 3
  | 46, 4 => some 4
  | 46, 5 => some 5
  | 62, 0 => some 0
  | 62, 1 => some 1
  | 63, 0 => some 0
  | 63, 1 => some 1
  | 64, 0 => some 0
  | 64, 1 => some 1
  | 65, 0 => some 0
  | 65, 1 => some 1
  | 66, 0 => some 0
  | 66, 1 => some 1
  | 66, 2 => some 2
  | 67, 0 => some 0
  | 67, 1 => some 1
  | 67, 2 => some 2
  | 71, 0 => some 0
  | 71, 1 => some 1
  | 72, 0 => some 0
  | 72, 1 => some 1
  | 79, 0 => some 0
  | 79, 1 => some 1
  | 79, 2 => some 2
  | 80, 0 => some 0
  | 80, 1 => some 1
  | 80, 2 => some 2
  | 90, 0 => some 0
  | 90, 1 => some 1
  | 91, 0 => some 0
  | 91, 1 => some 1
  | _, _ => none
section
variable {n : Nat} {w : World} {F : Fr} {d : Option Tmp} {ty : TypeId} {pos : String} {aft : Array Edge} {g : Option (Nat × Bool)} {x y : Operand}
set_option maxHeartbeats 2000000 in
theorem pf_field {s i off b o : Nat} (h : fieldTy s i = some off) (hx : ev n F x = .pointer (some ⟨b, o, none⟩)) : PV Try.prog n w F ⟨d, .fieldAddr s x i, ty, pos, aft, g⟩ (.pointer (some ⟨b, o + off, none⟩)) := by
  unfold fieldTy at h
  split at h
  · cases h; exact pv_fieldAt (k := 0) (by unfold FieldAt; kernel_rfl) hx
  · cases h; exact pv_fieldAt (k := 0) (by unfold FieldAt; kernel_rfl) hx
  · cases h; exact pv_fieldAt (k := 0) (by unfold FieldAt; kernel_rfl) hx
  · cases h; exact pv_fieldAt (k := 0) (by unfold FieldAt; kernel_rfl) hx
  · cases h; exact pv_fieldAt (k := 0) (by unfold FieldAt; kernel_rfl) hx
  · cases h; exact pv_fieldAt (k := 0) (by unfold FieldAt; kernel_rfl) hx
  · cases h; exact pv_fieldAt (k := 0) (by unfold FieldAt; kernel_rfl) hx
  · cases h; exact pv_fieldAt (k := 0) (by unfold FieldAt; kernel_rfl) hx
  · cases h; exact pv_fieldAt (k := 0) (by unfold FieldAt; kernel_rfl) hx
  · cases h; exact pv_fieldAt (k := 0) (by unfold FieldAt; kernel_rfl) hx
  · cases h; exact pv_fieldAt (k := 0) (by unfold FieldAt; kernel_rfl) hx
  · cases h; exact pv_fieldAt (k := 0) (by unfold FieldAt; kernel_rfl) hx
  · cases h; exact pv_fieldAt (k := 0) (by unfold FieldAt; kernel_rfl) hx
  · cases h; exact pv_fieldAt (k := 0) (by unfold FieldAt; kernel_rfl) hx
  · cases h; exact pv_fieldAt (k := 0) (by unfold FieldAt; kernel_rfl) hx
  · cases h; exact pv_fieldAt (k := 0) (by unfold FieldAt; kernel_rfl) hx
  · cases h; exact pv_fieldAt (k := 0) (by unfold FieldAt; kernel_rfl) hx
  · cases h; exact pv_fieldAt (k := 0) (by unfold FieldAt; kernel_rfl) hx
  · cases h; exact pv_fieldAt (k := 0) (by unfold FieldAt; kernel_rfl) hx
  · cases h; exact pv_fieldAt (k := 0) (by unfold FieldAt; kernel_rfl) hx
  · cases h; exact pv_fieldAt (k := 0) (by unfold FieldAt; kernel_rfl) hx
  · cases h; exact pv_fieldAt (k := 0) (by unfold FieldAt; kernel_rfl) hx
  · cases h; exact pv_fieldAt (k := 0) (by unfold FieldAt; kernel_rfl) hx
  · cases h; exact pv_fieldAt (k := 0) (by unfold FieldAt; kernel_rfl) hx
  · cases h; exact pv_fieldAt (k := 0) (by unfold FieldAt; kernel_rfl) hx
  · cases h; exact pv_fieldAt (k := 0) (by unfold FieldAt; kernel_rfl) hx
  · cases h; exact pv_fieldAt (k := 0) (by unfold FieldAt; kernel_rfl) hx
  · cases h; exact pv_fieldAt (k := 0) (by unfold FieldAt; kernel_rfl) hx
  · cases h; exact pv_fieldAt (k := 0) (by unfold FieldAt; kernel_rfl) hx
  · cases h; exact pv_fieldAt (k := 0) (by unfold FieldAt; kernel_rfl) hx
  · cases h; exact pv_fieldAt (k := 0) (by unfold FieldAt; kernel_rfl) hx
  · cases h; exact pv_fieldAt (k := 0) (by unfold FieldAt; kernel_rfl) hx
  · cases h; exact pv_fieldAt (k := 0) (by unfold FieldAt; kernel_rfl) hx
  · cases h; exact pv_fieldAt (k := 0) (by unfold FieldAt; kernel_rfl) hx
  · cases h; exact pv_fieldAt (k := 0) (by unfold FieldAt; kernel_rfl) hx
  · cases h; exact pv_fieldAt (k := 0) (by unfold FieldAt; kernel_rfl) hx
  · cases h; exact pv_fieldAt (k := 0) (by unfold FieldAt; kernel_rfl) hx
  · cases h; exact pv_fieldAt (k := 0) (by unfold FieldAt; kernel_rfl) hx
  · cases h; exact pv_fieldAt (k := 0) (by unfold FieldAt; kernel_rfl) hx
  · cases h; exact pv_fieldAt (k := 0) (by unfold FieldAt; kernel_rfl) hx
  · cases h; exact pv_fieldAt (k := 0) (by unfold FieldAt; kernel_rfl) hx
  · cases h; exact pv_fieldAt (k := 0) (by unfold FieldAt; kernel_rfl) hx
  · cases h; exact pv_fieldAt (k := 0) (by unfold FieldAt; kernel_rfl) hx
  · cases h; exact pv_fieldAt (k := 0) (by unfold FieldAt; kernel_rfl) hx
  · cases h; exact pv_fieldAt (k := 0) (by unfold FieldAt; kernel_rfl) hx
  · cases h; exact pv_fieldAt (k := 0) (by unfold FieldAt; kernel_rfl) hx
  · cases h; exact pv_fieldAt (k := 0) (by unfold FieldAt; kernel_rfl) hx
  · cases h; exact pv_fieldAt (k := 0) (by unfold FieldAt; kernel_rfl) hx
  · cases h; exact pv_fieldAt (k := 0) (by unfold FieldAt; kernel_rfl) hx
  · cases h; exact pv_fieldAt (k := 0) (by unfold FieldAt; kernel_rfl) hx
  · cases h; exact pv_fieldAt (k := 0) (by unfold FieldAt; kernel_rfl) hx
  · cases h; exact pv_fieldAt (k := 0) (by unfold FieldAt; kernel_rfl) hx
  · cases h; exact pv_fieldAt (k := 0) (by unfold FieldAt; kernel_rfl) hx
  · cases h; exact pv_fieldAt (k := 0) (by unfold FieldAt; kernel_rfl) hx
  · cases h; exact pv_fieldAt (k := 0) (by unfold FieldAt; kernel_rfl) hx
  · cases h; exact pv_fieldAt (k := 0) (by unfold FieldAt; kernel_rfl) hx
  · cases h; exact pv_fieldAt (k := 0) (by unfold FieldAt; kernel_rfl) hx
  · cases h; exact pv_fieldAt (k := 0) (by unfold FieldAt; kernel_rfl) hx
  · cases h; exact pv_fieldAt (k := 0) (by unfold FieldAt; kernel_rfl) hx
  · cases h; exact pv_fieldAt (k := 0) (by unfold FieldAt; kernel_rfl) hx
  · cases h; exact pv_fieldAt (k := 0) (by unfold FieldAt; kernel_rfl) hx
  · cases h; exact pv_fieldAt (k := 0) (by unfold FieldAt; kernel_rfl) hx
  · cases h; exact pv_fieldAt (k := 0) (by unfold FieldAt; kernel_rfl) hx
  · cases h; exact pv_fieldAt (k := 0) (by unfold FieldAt; kernel_rfl) hx
  · cases h; exact pv_fieldAt (k := 0) (by unfold FieldAt; kernel_rfl) hx
  · cases h; exact pv_fieldAt (k := 0) (by unfold FieldAt; kernel_rfl) hx
  · cases h
theorem pf_load {t b o : Nat} {v : Value} (h : oneTy t = true) (hx : ev n F x = .pointer (some ⟨b, o, none⟩)) (hc : w.cell? ⟨b, o, none⟩ = some v) : PV Try.prog n w F ⟨d, .load t x, ty, pos, aft, g⟩ v := by
  obtain ⟨q, h1, h2⟩ := oneTy_ok h
  exact pv_load h1 h2 hx hc
theorem pf_loads {t b o k : Nat} {vs : List Value} (h : manyTy t = some k) (hz : sizeTy t = some k) (hx : ev n F x = .pointer (some ⟨b, o, none⟩)) (hl : vs.length = k) (hc : ∀ (j : Nat) (v : Value), vs[j]? = some v → w.cell? ⟨b, o + j, none⟩ = some v) :
    PV Try.prog n w F ⟨d, .load t x, ty, pos, aft, g⟩ (.agg vs.toArray) := by
  obtain ⟨q, h1, h2⟩ := manyTy_ok h
  exact pv_loads h1 h2 (sizeTy_ok hz) hx hl hc
theorem pf_loadb {t b o k : Nat} {f : Fr} (h : manyTy t = some k) (hz : sizeTy t = some k) (hx : ev n F x = .pointer (some ⟨b, o, none⟩)) (hc : ∀ (j : Nat) (v : Value), ((List.range k).map fun j => f (o + j))[j]? = some v → w.cell? ⟨b, o + j, none⟩ = some v) :
    PV Try.prog n w F ⟨d, .load t x, ty, pos, aft, g⟩ (.agg ((List.range k).map fun j => f (o + j)).toArray) := pf_loads h hz hx (by simp) hc
theorem pf_index {t e k m c b o i : Nat} {q : IntKind} {s : Option Addr} (h : slTy t = some (e, k)) (hx : ev n F x = .slice s m c) (hy : ev n F y = .int q i) (hs : s = some ⟨b, o, none⟩) (hi : i < m) :
    PV Try.prog n w F ⟨d, .indexAddr t x y, ty, pos, aft, g⟩ (.pointer (some ⟨b, o + i * k, none⟩)) := pv_index (slTy_ok h).1 (slTy_ok h).2 hx hy hs hi
theorem pf_index_a {t e k m b o i : Nat} {q : IntKind} (h : arrTy t = some (m, e, k)) (hx : ev n F x = .pointer (some ⟨b, o, none⟩)) (hy : ev n F y = .int q i) (hi : i < m) :
    PV Try.prog n w F ⟨d, .indexAddr t x y, ty, pos, aft, g⟩ (.pointer (some ⟨b, o + i * k, none⟩)) := pv_index_a (arrTy_ok h).1 (arrTy_ok h).2 hx hy hi
theorem pf_len {q p e k : Nat} {s : Option Addr} {m c : Nat} (h : slTy p = some (e, k)) (hx : ev n F x = .slice s m c) : PV Try.prog n w F ⟨d, .call ⟨.builtin .len, #[x], #[p]⟩, q, pos, aft, g⟩ (.int .i64 m) := pv_len (slTy_ok h).1 hx
theorem pf_lens {q p : Nat} {s : ByteArray} (h : strTy p = true) (hx : ev n F x = .string s) : PV Try.prog n w F ⟨d, .call ⟨.builtin .len, #[x], #[p]⟩, q, pos, aft, g⟩ (.int .i64 s.size) := pv_lens (strTy_ok h) hx
theorem pf_index_s {t : Nat} {s : ByteArray} {k : IntKind} {i : Nat} (h : strTy t = true) (hx : ev n F x = .string s) (hy : ev n F y = .int k i) (hi : i < s.size) : PV Try.prog n w F ⟨d, .index t x y, ty, pos, aft, g⟩ (.int .u8 (bAt s i)) :=
  pv_index_s (strTy_ok h) hx hy hi
theorem pf_conv {t t' : Nat} {k k' q : IntKind} {a : Int} (h : intTy t = some q) (h' : intTy t' = some k') (hx : ev n F x = .int k a) : PV Try.prog n w F ⟨d, .convert t t' x, ty, pos, aft, g⟩ (.int k' (k'.wrap a)) :=
  pv_conv (intTy_ok h') ⟨_, intTy_ok h⟩ hx
end
def zeroTy : Nat → Option Value
  | 1 => some (.nilFunc)
  | 2 => some (.int .i64 0)
  | 3 => some (.int .i64 0)
  | 4 => some (.bool false)
  | 5 => some (.int .u8 0)
  | 9 => some (.string ⟨#[]⟩)
  | 21 => some (.int .i32 0)
  | 22 => some (.slice none 0 0)
  | 23 => some (.agg #[.int .i64 0, .int .i64 0, .int .i64 0])
  | 24 => some (.agg #[.int .i64 0, .int .i64 0, .int .i64 0, .int .i64 0, .int .i64 0, .int .i64 0])
  | 25 => some (.nilFunc)
  | 26 => some (.slice none 0 0)
  | 27 => some (.slice none 0 0)
  | 28 => some (.slice none 0 0)
  | 29 => some (.agg #[.string ⟨#[]⟩, .int .i64 0, .int .i64 0, .int .i64 0, .int .i64 0, .int .i64 0, .slice none 0 0, .bool false, .slice none 0 0, .int .i64 0, .int .i64 0, .slice none 0 0, .slice none 0 0])
  | 30 => some (.agg #[.string ⟨#[]⟩, .int .i64 0, .int .i64 0, .int .i64 0, .int .i64 0, .int .i64 0, .slice none 0 0, .bool false, .slice none 0 0, .int .i64 0, .int .i64 0, .slice none 0 0, .slice none 0 0])
  | 31 => some (.nilFunc)
  | 32 => some (.nilFunc)
  | 33 => some (.agg #[.string ⟨#[]⟩, .int .i64 0, .int .i64 0, .int .i64 0, .int .i64 0, .int .i64 0, .slice none 0 0, .bool false, .slice none 0 0, .int .i64 0, .int .i64 0, .slice none 0 0, .slice none 0 0, .string ⟨#[]⟩, .int .i64 0, .int .i64 0, .int .i64 0, .int .i64 0, .int .i64 0, .slice none 0 0, .bool false, .slice none 0 0, .int .i64 0, .int .i64 0, .slice none 0 0, .slice none 0 0, .string ⟨#[]⟩, .int .i64 0, .int .i64 0, .int .i64 0, .int .i64 0, .int .i64 0, .slice none 0 0, .bool false, .slice none 0 0, .int .i64 0, .int .i64 0, .slice none 0 0, .slice none 0 0])
  | 34 => some (.int .i64 0)
  | 36 => some (.nilFunc)
  | 37 => some (.nilFunc)
  | 38 => some (.nilFunc)
  | 39 => some (.agg #[.string ⟨#[]⟩, .int .i64 0, .int .i64 0, .int .i64 0, .int .i64 0, .int .i64 0, .slice none 0 0, .bool false, .slice none 0 0, .int .i64 0, .int .i64 0, .slice none 0 0, .slice none 0 0, .string ⟨#[]⟩, .int .i64 0, .int .i64 0, .int .i64 0, .int .i64 0, .int .i64 0, .slice none 0 0, .bool false, .slice none 0 0, .int .i64 0, .int .i64 0, .slice none 0 0, .slice none 0 0])
  | 40 => some (.nilFunc)
  | 41 => some (.agg #[.slice none 0 0, .slice none 0 0])
  | 42 => some (.slice none 0 0)
  | 43 => some (.nilFunc)
  | 44 => some (.slice none 0 0)
  | 45 => some (.agg #[.int .i64 0, .int .i64 0, .int .i64 0, .slice none 0 0, .slice none 0 0, .slice none 0 0])
  | 46 => some (.agg #[.int .i64 0, .int .i64 0, .int .i64 0, .slice none 0 0, .slice none 0 0, .slice none 0 0])
  | 47 => some (.nilFunc)
  | 48 => some (.nilFunc)
  | 49 => some (.nilFunc)
  | 50 => some (.agg #[.int .u8 0, .int .u8 0, .int .u8 0])
  | 51 => some (.nilFunc)
  | 52 => some (.slice none 0 0)
  | 53 => some (.nilFunc)
  | 54 => some (.slice none 0 0)
  | 56 => some (.nilFunc)
  | 57 => some (.nilFunc)
  | 58 => some (.nilFunc)
  | 59 => some (.nilFunc)
  | 60 => some (.nilFunc)
  | 61 => some (.nilFunc)
  | 62 => some (.agg #[.int .i64 0, .int .i64 0])
  | 63 => some (.agg #[.int .i64 0, .int .i64 0])
  | 64 => some (.agg #[.string ⟨#[]⟩, .int .i64 0])
  | 65 => some (.agg #[.string ⟨#[]⟩, .int .i64 0])
  | 66 => some (.agg #[.string ⟨#[]⟩, .int .i64 0, .int .i64 0])
  | 67 => some (.agg #[.string ⟨#[]⟩, .int .i64 0, .int .i64 0])
  | 69 => some (.nilFunc)
  | 70 => some (.pointer none)
  | 71 => some (.agg #[.slice none 0 0, .int .i64 0])
  | 72 => some (.agg #[.slice none 0 0, .int .i64 0])
  | 73 => some (.nilFunc)
  | 74 => some (.nilFunc)
  | 75 => some (.slice none 0 0)
  | 76 => some (.slice none 0 0)
  | 77 => some (.nilFunc)
  | 78 => some (.nilFunc)
  | 79 => some (.agg #[.string ⟨#[]⟩, .int .i64 0, .nilFunc])
  | 80 => some (.agg #[.string ⟨#[]⟩, .int .i64 0, .nilFunc])
  | 81 => some (.nilFunc)
  | 82 => some (.nilFunc)
  | 83 => some (.nilFunc)
  | 84 => some (.nilFunc)
  | 85 => some (.nilFunc)
  | 86 => some (.nilFunc)
  | 87 => some (.nilFunc)
  | 88 => some (.nilFunc)
  | 89 => some (.map none)
  | 90 => some (.agg #[.int .i64 0, .int .i64 0])
  | 91 => some (.agg #[.int .i64 0, .int .i64 0])
  | 92 => some (.nilFunc)
  | 93 => some (.nilFunc)
  | 94 => some (.nilFunc)
  | 95 => some (.nilFunc)
  | 96 => some (.nilFunc)
  | 97 => some (.nilFunc)
  | 98 => some (.nilFunc)
  | 99 => some (.nilFunc)
  | 100 => some (.nilFunc)
  | 101 => some (.nilFunc)
  | 102 => some (.nilFunc)
  | 103 => some (.nilFunc)
  | 104 => some (.nilFunc)
  | 105 => some (.nilFunc)
  | 106 => some (.nilFunc)
  | 107 => some (.nilFunc)
  | 108 => some (.nilFunc)
  | 109 => some (.nilFunc)
  | 110 => some (.nilFunc)
  | 111 => some (.nilFunc)
  | 112 => some (.nilFunc)
  | 113 => some (.nilFunc)
  | 114 => some (.nilFunc)
  | 115 => some (.map none)
  | 116 => some (.nilFunc)
  | 117 => some (.nilFunc)
  | 118 => some (.nilFunc)
  | 124 => some (.nilFunc)
  | 125 => some (.int .u32 0)
  | 129 => some (.pointer none)
  | _ => none
theorem zeroTy_ok {t : Nat} {z : Value} (h : zeroTy t = some z) : TZero Try.prog t z := by
  unfold zeroTy at h
  split at h
  · cases h; unfold TZero; kernel_rfl
  · cases h; unfold TZero; kernel_rfl
  · cases h; unfold TZero; kernel_rfl
  · cases h; unfold TZero; kernel_rfl
  · cases h; unfold TZero; kernel_rfl
  · cases h; unfold TZero; kernel_rfl
  · cases h; unfold TZero; kernel_rfl
  · cases h; unfold TZero; kernel_rfl
  · cases h; unfold TZero; kernel_rfl
  · cases h; unfold TZero; kernel_rfl
  · cases h; unfold TZero; kernel_rfl
  · cases h; unfold TZero; kernel_rfl
  · cases h; unfold TZero; kernel_rfl
  · cases h; unfold TZero; kernel_rfl
  · cases h; unfold TZero; kernel_rfl
  · cases h; unfold TZero; kernel_rfl
  · cases h; unfold TZero; kernel_rfl
  · cases h; unfold TZero; kernel_rfl
  · cases h; unfold TZero; kernel_rfl
  · cases h; unfold TZero; kernel_rfl
  · cases h; unfold TZero; kernel_rfl
  · cases h; unfold TZero; kernel_rfl
  · cases h; unfold TZero; kernel_rfl
  · cases h; unfold TZero; kernel_rfl
  · cases h; unfold TZero; kernel_rfl
  · cases h; unfold TZero; kernel_rfl
  · cases h; unfold TZero; kernel_rfl
  · cases h; unfold TZero; kernel_rfl
  · cases h; unfold TZero; kernel_rfl
  · cases h; unfold TZero; kernel_rfl
  · cases h; unfold TZero; kernel_rfl
  · cases h; unfold TZero; kernel_rfl
  · cases h; unfold TZero; kernel_rfl
  · cases h; unfold TZero; kernel_rfl
  · cases h; unfold TZero; kernel_rfl
  · cases h; unfold TZero; kernel_rfl
  · cases h; unfold TZero; kernel_rfl
  · cases h; unfold TZero; kernel_rfl
  · cases h; unfold TZero; kernel_rfl
  · cases h; unfold TZero; kernel_rfl
  · cases h; unfold TZero; kernel_rfl
  · cases h; unfold TZero; kernel_rfl
  · cases h; unfold TZero; kernel_rfl
  · cases h; unfold TZero; kernel_rfl
  · cases h; unfold TZero; kernel_rfl
  · cases h; unfold TZero; kernel_rfl
  · cases h; unfold TZero; kernel_rfl
  · cases h; unfold TZero; kernel_rfl
  · cases h; unfold TZero; kernel_rfl
  · cases h; unfold TZero; kernel_rfl
  · cases h; unfold TZero; kernel_rfl
  · cases h; unfold TZero; kernel_rfl
  · cases h; unfold TZero; kernel_rfl
  · cases h; unfold TZero; kernel_rfl
  · cases h; unfold TZero; kernel_rfl
  · cases h; unfold TZero; kernel_rfl
  · cases h; unfold TZero; kernel_rfl
  · cases h; unfold TZero; kernel_rfl
  · cases h; unfold TZero; kernel_rfl
  · cases h; unfold TZero; kernel_rfl
  · cases h; unfold TZero; kernel_rfl
  · cases h; unfold TZero; kernel_rfl
  · cases h; unfold TZero; kernel_rfl
  · cases h; unfold TZero; kernel_rfl
  · cases h; unfold TZero; kernel_rfl
  · cases h; unfold TZero; kernel_rfl
  · cases h; unfold TZero; kernel_rfl
  · cases h; unfold TZero; kernel_rfl
  · cases h; unfold TZero; kernel_rfl
  · cases h; unfold TZero; kernel_rfl
  · cases h; unfold TZero; kernel_rfl
  · cases h; unfold TZero; kernel_rfl
  · cases h; unfold TZero; kernel_rfl
  · cases h; unfold TZero; kernel_rfl
  · cases h; unfold TZero; kernel_rfl
  · cases h; unfold TZero; kernel_rfl
  · cases h; unfold TZero; kernel_rfl
  · cases h; unfold TZero; kernel_rfl
  · cases h; unfold TZero; kernel_rfl
  · cases h; unfold TZero; kernel_rfl
  · cases h; unfold TZero; kernel_rfl
  · cases h; unfold TZero; kernel_rfl
  · cases h; unfold TZero; kernel_rfl
  · cases h; unfold TZero; kernel_rfl
  · cases h; unfold TZero; kernel_rfl
  · cases h; unfold TZero; kernel_rfl
  · cases h; unfold TZero; kernel_rfl
  · cases h; unfold TZero; kernel_rfl
  · cases h; unfold TZero; kernel_rfl
  · cases h; unfold TZero; kernel_rfl
  · cases h; unfold TZero; kernel_rfl
  · cases h; unfold TZero; kernel_rfl
  · cases h; unfold TZero; kernel_rfl
  · cases h; unfold TZero; kernel_rfl
  · cases h; unfold TZero; kernel_rfl
  · cases h; unfold TZero; kernel_rfl
  · cases h; unfold TZero; kernel_rfl
  · cases h; unfold TZero; kernel_rfl
  · cases h; unfold TZero; kernel_rfl
  · cases h; unfold TZero; kernel_rfl
  · cases h; unfold TZero; kernel_rfl
  · cases h; unfold TZero; kernel_rfl
  · cases h; unfold TZero; kernel_rfl
  · cases h; unfold TZero; kernel_rfl
  · cases h
def byteTy : Nat → Option Nat
  | 1 => some 8
  | 2 => some 8
  | 3 => some 8
  | 4 => some 1
  | 5 => some 1
  | 9 => some 16
  | 21 => some 4
  | 22 => some 24
  | 23 => some 24
  | 24 => some 48
  | 25 => some 8
  | 26 => some 24
  | 27 => some 24
  | 28 => some 24
  | 29 => some 176
  | 30 => some 176
  | 31 => some 8
  | 32 => some 8
  | 33 => some 528
  | 34 => some 8
  | 36 => some 8
  | 37 => some 8
  | 38 => some 8
  | 39 => some 352
  | 40 => some 8
  | 41 => some 48
  | 42 => some 24
  | 43 => some 8
  | 44 => some 24
  | 45 => some 96
  | 46 => some 96
  | 47 => some 8
  | 48 => some 8
  | 49 => some 8
  | 50 => some 3
  | 51 => some 8
  | 52 => some 24
  | 53 => some 8
  | 54 => some 24
  | 56 => some 8
  | 57 => some 8
  | 58 => some 8
  | 59 => some 8
  | 60 => some 8
  | 61 => some 8
  | 62 => some 16
  | 63 => some 16
  | 64 => some 24
  | 65 => some 24
  | 66 => some 32
  | 67 => some 32
  | 69 => some 8
  | 70 => some 8
  | 71 => some 32
  | 72 => some 32
  | 73 => some 8
  | 74 => some 8
  | 75 => some 24
  | 76 => some 24
  | 77 => some 8
  | 78 => some 8
  | 79 => some 32
  | 80 => some 32
  | 81 => some 8
  | 82 => some 8
  | 83 => some 8
  | 84 => some 8
  | 85 => some 8
  | 86 => some 8
  | 87 => some 8
  | 88 => some 8
  | 89 => some 8
  | 90 => some 16
  | 91 => some 16
  | 92 => some 8
  | 93 => some 8
  | 94 => some 8
  | 95 => some 8
  | 96 => some 8
  | 97 => some 8
  | 98 => some 8
  | 99 => some 8
  | 100 => some 8
  | 101 => some 8
  | 102 => some 8
  | 103 => some 8
  | 104 => some 8
  | 105 => some 8
  | 106 => some 8
  | 107 => some 8
  | 108 => some 8
  | 109 => some 8
  | 110 => some 8
  | 111 => some 8
  | 112 => some 8
  | 113 => some 8
  | 114 => some 8
  | 115 => some 8
  | 116 => some 8
  | 117 => some 8
  | 118 => some 8
  | 124 => some 8
  | 125 => some 4
  | 129 => some 8
  | _ => none
theorem byteTy_ok {t k : Nat} (h : byteTy t = some k) : TBytes Try.prog t k := by
  unfold byteTy at h
  split at h
  · cases h; unfold TBytes; kernel_rfl
  · cases h; unfold TBytes; kernel_rfl
  · cases h; unfold TBytes; kernel_rfl
  · cases h; unfold TBytes; kernel_rfl
  · cases h; unfold TBytes; kernel_rfl
  · cases h; unfold TBytes; kernel_rfl
  · cases h; unfold TBytes; kernel_rfl
  · cases h; unfold TBytes; kernel_rfl
  · cases h; unfold TBytes; kernel_rfl
  · cases h; unfold TBytes; kernel_rfl
  · cases h; unfold TBytes; kernel_rfl
  · cases h; unfold TBytes; kernel_rfl
  · cases h; unfold TBytes; kernel_rfl
  · cases h; unfold TBytes; kernel_rfl
  · cases h; unfold TBytes; kernel_rfl
  · cases h; unfold TBytes; kernel_rfl
  · cases h; unfold TBytes; kernel_rfl
  · cases h; unfold TBytes; kernel_rfl
  · cases h; unfold TBytes; kernel_rfl
  · cases h; unfold TBytes; kernel_rfl
  · cases h; unfold TBytes; kernel_rfl
  · cases h; unfold TBytes; kernel_rfl
  · cases h; unfold TBytes; kernel_rfl
  · cases h; unfold TBytes; kernel_rfl
  · cases h; unfold TBytes; kernel_rfl
  · cases h; unfold TBytes; kernel_rfl
  · cases h; unfold TBytes; kernel_rfl
  · cases h; unfold TBytes; kernel_rfl
  · cases h; unfold TBytes; kernel_rfl
  · cases h; unfold TBytes; kernel_rfl
  · cases h; unfold TBytes; kernel_rfl
  · cases h; unfold TBytes; kernel_rfl
  · cases h; unfold TBytes; kernel_rfl
  · cases h; unfold TBytes; kernel_rfl
  · cases h; unfold TBytes; kernel_rfl
  · cases h; unfold TBytes; kernel_rfl
  · cases h; unfold TBytes; kernel_rfl
  · cases h; unfold TBytes; kernel_rfl
  · cases h; unfold TBytes; kernel_rfl
  · cases h; unfold TBytes; kernel_rfl
  · cases h; unfold TBytes; kernel_rfl
  · cases h; unfold TBytes; kernel_rfl
  · cases h; unfold TBytes; kernel_rfl
  · cases h; unfold TBytes; kernel_rfl
  · cases h; unfold TBytes; kernel_rfl
  · cases h; unfold TBytes; kernel_rfl
  · cases h; unfold TBytes; kernel_rfl
  · cases h; unfold TBytes; kernel_rfl
  · cases h; unfold TBytes; kernel_rfl
  · cases h; unfold TBytes; kernel_rfl
  · cases h; unfold TBytes; kernel_rfl
  · cases h; unfold TBytes; kernel_rfl
  · cases h; unfold TBytes; kernel_rfl
  · cases h; unfold TBytes; kernel_rfl
  · cases h; unfold TBytes; kernel_rfl
  · cases h; unfold TBytes; kernel_rfl
  · cases h; unfold TBytes; kernel_rfl
  · cases h; unfold TBytes; kernel_rfl
  · cases h; unfold TBytes; kernel_rfl
  · cases h; unfold TBytes; kernel_rfl
  · cases h; unfold TBytes; kernel_rfl
  · cases h; unfold TBytes; kernel_rfl
  · cases h; unfold TBytes; kernel_rfl
  · cases h; unfold TBytes; kernel_rfl
  · cases h; unfold TBytes; kernel_rfl
  · cases h; unfold TBytes; kernel_rfl
  · cases h; unfold TBytes; kernel_rfl
  · cases h; unfold TBytes; kernel_rfl
  · cases h; unfold TBytes; kernel_rfl
  · cases h; unfold TBytes; kernel_rfl
  · cases h; unfold TBytes; kernel_rfl
  · cases h; unfold TBytes; kernel_rfl
  · cases h; unfold TBytes; kernel_rfl
  · cases h; unfold TBytes; kernel_rfl
  · cases h; unfold TBytes; kernel_rfl
  · cases h; unfold TBytes; kernel_rfl
  · cases h; unfold TBytes; kernel_rfl
  · cases h; unfold TBytes; kernel_rfl
  · cases h; unfold TBytes; kernel_rfl
  · cases h; unfold TBytes; kernel_rfl
  · cases h; unfold TBytes; kernel_rfl
  · cases h; unfold TBytes; kernel_rfl
  · cases h; unfold TBytes; kernel_rfl
  · cases h; unfold TBytes; kernel_rfl
  · cases h; unfold TBytes; kernel_rfl
  · cases h; unfold TBytes; kernel_rfl
  · cases h; unfold TBytes; kernel_rfl
  · cases h; unfold TBytes; kernel_rfl
  · cases h; unfold TBytes; kernel_rfl
  · cases h; unfold TBytes; kernel_rfl
  · cases h; unfold TBytes; kernel_rfl
  · cases h; unfold TBytes; kernel_rfl
  · cases h; unfold TBytes; kernel_rfl
  · cases h; unfold TBytes; kernel_rfl
  · cases h; unfold TBytes; kernel_rfl
  · cases h; unfold TBytes; kernel_rfl
  · cases h; unfold TBytes; kernel_rfl
  · cases h; unfold TBytes; kernel_rfl
  · cases h; unfold TBytes; kernel_rfl
  · cases h; unfold TBytes; kernel_rfl
  · cases h; unfold TBytes; kernel_rfl
  · cases h; unfold TBytes; kernel_rfl
  · cases h; unfold TBytes; kernel_rfl
  · cases h; unfold TBytes; kernel_rfl
  · cases h
def mapTyI : Nat → Option (Nat × Nat × Value)
  | 89 => some (3, 4, .bool false)
  | _ => none
theorem mapTyI_ok {t k e : Nat} {z : Value} (h : mapTyI t = some (k, e, z)) : Try.prog.underlying t = some (.map k e) ∧ Try.prog.underlying k = some kInt.kd ∧ TZero Try.prog e z := by
  unfold mapTyI at h
  split at h
  · cases h; exact ⟨Try.underlying89, Try.underlying3, zeroTy_ok rfl⟩
  · cases h
def mapTyS : Nat → Option (Nat × Nat × Value)
  | 115 => some (9, 4, .bool false)
  | _ => none
theorem mapTyS_ok {t k e : Nat} {z : Value} (h : mapTyS t = some (k, e, z)) : Try.prog.underlying t = some (.map k e) ∧ Try.prog.underlying k = some kStr.kd ∧ TZero Try.prog e z := by
  unfold mapTyS at h
  split at h
  · cases h; exact ⟨Try.underlying115, Try.underlying9, zeroTy_ok rfl⟩
  · cases h
def flatTy : Nat → Option Nat
  | 29 => some 13
  | 30 => some 13
  | 45 => some 6
  | 46 => some 6
  | 62 => some 2
  | 63 => some 2
  | 64 => some 2
  | 65 => some 2
  | 66 => some 3
  | 67 => some 3
  | 71 => some 2
  | 72 => some 2
  | 79 => some 3
  | 80 => some 3
  | 90 => some 2
  | 91 => some 2
  | _ => none
theorem flatTy_ok {t k : Nat} (h : flatTy t = some k) : FlatAt Try.prog t k := by
  unfold flatTy at h
  split at h
  · cases h; exact ⟨_, Try.underlying29, fun w => ⟨#[(0, 1), (1, 1), (2, 1), (3, 1), (4, 1), (5, 1), (6, 1), (7, 1), (8, 1), (9, 1), (10, 1), (11, 1), (12, 1)], by kernel_rfl, by decide⟩⟩
  · cases h; exact ⟨_, Try.underlying30, fun w => ⟨#[(0, 1), (1, 1), (2, 1), (3, 1), (4, 1), (5, 1), (6, 1), (7, 1), (8, 1), (9, 1), (10, 1), (11, 1), (12, 1)], by kernel_rfl, by decide⟩⟩
  · cases h; exact ⟨_, Try.underlying45, fun w => ⟨#[(0, 1), (1, 1), (2, 1), (3, 1), (4, 1), (5, 1)], by kernel_rfl, by decide⟩⟩
  · cases h; exact ⟨_, Try.underlying46, fun w => ⟨#[(0, 1), (1, 1), (2, 1), (3, 1), (4, 1), (5, 1)], by kernel_rfl, by decide⟩⟩
  · cases h; exact ⟨_, Try.underlying62, fun w => ⟨#[(0, 1), (1, 1)], by kernel_rfl, by decide⟩⟩
  · cases h; exact ⟨_, Try.underlying63, fun w => ⟨#[(0, 1), (1, 1)], by kernel_rfl, by decide⟩⟩
  · cases h; exact ⟨_, Try.underlying64, fun w => ⟨#[(0, 1), (1, 1)], by kernel_rfl, by decide⟩⟩
  · cases h; exact ⟨_, Try.underlying65, fun w => ⟨#[(0, 1), (1, 1)], by kernel_rfl, by decide⟩⟩
  · cases h; exact ⟨_, Try.underlying66, fun w => ⟨#[(0, 1), (1, 1), (2, 1)], by kernel_rfl, by decide⟩⟩
  · cases h; exact ⟨_, Try.underlying67, fun w => ⟨#[(0, 1), (1, 1), (2, 1)], by kernel_rfl, by decide⟩⟩
  · cases h; exact ⟨_, Try.underlying71, fun w => ⟨#[(0, 1), (1, 1)], by kernel_rfl, by decide⟩⟩
  · cases h; exact ⟨_, Try.underlying72, fun w => ⟨#[(0, 1), (1, 1)], by kernel_rfl, by decide⟩⟩
  · cases h; exact ⟨_, Try.underlying79, fun w => ⟨#[(0, 1), (1, 1), (2, 1)], by kernel_rfl, by decide⟩⟩
  · cases h; exact ⟨_, Try.underlying80, fun w => ⟨#[(0, 1), (1, 1), (2, 1)], by kernel_rfl, by decide⟩⟩
  · cases h; exact ⟨_, Try.underlying90, fun w => ⟨#[(0, 1), (1, 1)], by kernel_rfl, by decide⟩⟩
  · cases h; exact ⟨_, Try.underlying91, fun w => ⟨#[(0, 1), (1, 1)], by kernel_rfl, by decide⟩⟩
  · cases h
section
variable {n : Nat} {w w0 : World} {M : List Nat} {L : List Ent} {F : Fr} {d : Option Tmp} {ty : TypeId} {pos : String} {aft : Array Edge} {g : Option (Nat × Bool)} {x y : Operand}
theorem pf_build {t k : Nat} {ps : Array (Nat × Operand)} {zs : List Value} (hf : flatTy t = some k) (hz : zeroTy t = some (.agg zs.toArray)) (hl : zs.length = k)
    (hall : ((ps.toList.map fun p => (p.1, ev n F p.2)).all fun p => Nat.blt p.1 k && Nat.beq p.2.cells.size 1) = true) :
    PV Try.prog n w F ⟨d, .build t ps, ty, pos, aft, g⟩ (.agg (fillL 1 zs (ps.toList.map fun p => (p.1, ev n F p.2))).toArray) := pv_build_s (flatTy_ok hf) (zeroTy_ok hz) hl hall
theorem pf_build_a {t k e sz : Nat} {ps : Array (Nat × Operand)} {zs : List Value} (ht : arrTy t = some (k, e, sz)) (hz : zeroTy t = some (.agg zs.toArray)) (hl : zs.length = k * sz)
    (hall : ((ps.toList.map fun p => (p.1, ev n F p.2)).all fun p => Nat.blt p.1 k && Nat.beq p.2.cells.size sz) = true) :
    PV Try.prog n w F ⟨d, .build t ps, ty, pos, aft, g⟩ (.agg (fillL sz zs (ps.toList.map fun p => (p.1, ev n F p.2))).toArray) := pv_build_a (arrTy_ok ht).1 (arrTy_ok ht).2 (zeroTy_ok hz) hl hall
theorem sf_slice {t e sz k : Nat} {ps : Array (Nat × Operand)} {z : Value} {vs : List (Nat × Value)} {cs : List Value} (hp : Hp w0 M w L) (ht : slTy t = some (e, sz)) (hz : zeroTy e = some z)
    (hvs : (ps.toList.map fun p => (p.1, ev n F p.2)) = vs) (ho : ordered sz 0 vs = true) (hk : vs.length = k) (hcs : vs.flatMap (fun p => p.2.cells.toList) = cs) (hsm : Nat.ble (k * sz) 16777216 = true) :
    StepF Try.prog n ⟨d, .buildSlice t k ps, ty, pos, aft, g⟩ F w (fun u w' => ∃ b, u = .slice (some ⟨b, 0, none⟩) k k ∧ Hp w0 M w' (blk b cs.length (frOf cs) e :: L)) :=
  st_buildSlice hp (slTy_ok ht).1 (slTy_ok ht).2 (zeroTy_ok hz) hvs ho hk hcs (Nat.le_of_ble_eq_true hsm)
theorem sf_append {t e size by_ : Nat} {z v : Value} {m k c : Nat} {xs news : List Value} {s : Option Addr} (hp : Hp w0 M w L) (i : Nat) (ht : slTy t = some (e, size)) (hby : byteTy e = some by_) (hz : zeroTy e = some z)
    (hzs : z.cells.size = size) (hpos : Nat.blt 0 size = true) (hx : ev n F x = v) (hy : ev n F y = .slice s k c) (hi : L[i]? = some (ownE v e size m xs)) (hv : SV v m) (hl : xs.length = m * size) (hn : news.length = k * size)
    (hsrc : ∀ (j : Nat) (u : Value), news[j]? = some u → ∃ b o, s = some ⟨b, o, none⟩ ∧ w.cell? ⟨b, o + j, none⟩ = some u) (h1 : ∀ u ∈ news, oneV u = true)
    (hb1 : m + k ≤ maxLen) (hb2 : (m + k) * by_ ≤ 140737488355328) :
    StepF Try.prog n ⟨d, .call ⟨.builtin .append, #[x, y], #[t, t]⟩, ty, pos, aft, g⟩ F w (fun u w' => SV u (m + k) ∧ Hp w0 M w' (L.set i (ownE u e size (m + k) (xs ++ news)))) :=
  st_append hp i (slTy_ok ht).1 (slTy_ok ht).2 (byteTy_ok hby) (zeroTy_ok hz) hzs (lt_of_nblt hpos) hx hy hi hv hl hn hsrc h1 hb1 hb2
end
theorem run_cellRes {n : Nat} {F : Fr} {w : World} {fn : Func} {p ty b o k : Nat} {vs : List Value} (h : fn.results = #[.cell p ty]) (h1 : manyTy ty = some k) (hz : sizeTy ty = some k) (hx : ev n F (.tmp p) = .pointer (some ⟨b, o, none⟩)) (hl : vs.length = k)
    (hc : ∀ (j : Nat) (v : Value), vs[j]? = some v → w.cell? ⟨b, o + j, none⟩ = some v) : (results fn (act n F).tmps).run Try.prog w = .ok (.agg vs.toArray) w := by
  obtain ⟨q, hq, hq1⟩ := manyTy_ok h1
  have hk := sizeTy_ok hz
  subst hl
  have := run_loadFrom (P := Try.prog) (w := w) b o vs 0 #[] (fun j v hv => by simpa using hc j v hv)
  have hx' : (act n F).tmps.getD p undef = .pointer (some ⟨b, o, none⟩) := by
    rw [← hx, ← act_eval]
    rfl
  have hx2 : (act n F).tmps[p]?.getD undef = .pointer (some ⟨b, o, none⟩) := by simpa using hx'
  simp [results, h, hx2, asAddr, loadVar, run_many hq hq1, loadCells, hk.run, this]
theorem ret_cell {n : Nat} {F : Fr} {w : World} {fn : Func} {R : Ending → World → Prop} {p ty b o k : Nat} {f : Fr} (h : fn.results = #[.cell p ty]) (h1 : manyTy ty = some k) (hz : sizeTy ty = some k) (hx : ev n F (.tmp p) = .pointer (some ⟨b, o, none⟩))
    (hc : ∀ (j : Nat) (v : Value), ((List.range k).map fun j => f (o + j))[j]? = some v → w.cell? ⟨b, o + j, none⟩ = some v) (hr : R (.returned (.agg ((List.range k).map fun j => f (o + j)).toArray)) w) : retQ Try.prog n fn R .ret F w :=
  ⟨_, run_cellRes h h1 hz hx (by simp) hc, hr⟩

section
variable {n : Nat} {F : Fr} {w : World} {d : Option Tmp} {ty : TypeId} {pos : String} {aft : Array Edge} {g : Option (Nat × Bool)} {x y : Operand}
theorem pv_sliceTo {t e k m c h : Nat} {q : IntKind} {s : Option Addr} (ht : slTy t = some (e, k)) (hx : ev n F x = .slice s m c) (hy : ev n F y = .int q h) (hh : h ≤ c) :
    PV Try.prog n w F ⟨d, .slice t x none (some y) none, ty, pos, aft, g⟩ (.slice s h c) := by
  have hb := run_bound (P := Try.prog) (w := w) (c := .sliceAcap) hy hh
  have e1 : (if c = 0 then s else s.map (·.add (0 * k))) = s := by
    split
    · rfl
    · cases s <;> simp [addr_add0]
  simp only [PV, execOp, Instr.sliceAt, Instr.slice, hx, Sem.run_bind, run_und (slTy_ok ht).1, Result.andThen_ok, Instr.sliceBounds, Sem.run_pure, Option.map_none, Option.map_some, hb, (slTy_ok ht).2.run, if_true, Nat.sub_zero, e1]
theorem pf_build_ord {t k e sz : Nat} {ps : Array (Nat × Operand)} {zs : List Value} {vs : List (Nat × Value)} (ht : arrTy t = some (k, e, sz)) (hz : zeroTy t = some (.agg zs.toArray)) (hl : zs.length = k * sz)
    (hvs : (ps.toList.map fun p => (p.1, ev n F p.2)) = vs) (ho : ordered sz 0 vs = true) (hk : vs.length = k) :
    PV Try.prog n w F ⟨d, .build t ps, ty, pos, aft, g⟩ (.agg (vs.flatMap fun p => p.2.cells.toList).toArray) := by
  have h1 := pf_build_a (w := w) (d := d) (ty := ty) (pos := pos) (aft := aft) (g := g) (n := n) (F := F) (ps := ps) ht hz hl (by rw [hvs]; exact ordered_all sz k vs 0 ho (by omega))
  have h2 := fillL_ord sz vs 0 [] zs ho (by simp) (by rw [hl, hk])
  rw [hvs] at h1
  rw [List.nil_append, List.nil_append] at h2
  rw [h2] at h1
  exact h1
end
section
variable {n : Nat} {w w0 : World} {M : List Nat} {L : List Ent} {F : Fr} {d : Option Tmp} {ty : TypeId} {pos : String} {aft : Array Edge} {g : Option (Nat × Bool)} {x y : Operand}
theorem sf_app1 {α : Type} (enc : α → List Value) (l : List α) (xv : α) {t e k by_ b c : Nat} {z : Value} {s : Option Addr} (hp : Hp w0 M w L) (i j : Nat) (ht : slTy t = some (e, k)) (hby : byteTy e = some by_) (hz : zeroTy e = some z)
    (hzs : z.cells.size = k) (hpos : Nat.blt 0 k = true) (hb : Nat.ble by_ 1000 = true) (hk : ∀ x, (enc x).length = k) (hx : ev n F x = .slice s l.length c) (hy : ev n F y = .slice (some ⟨b, 0, none⟩) 1 1)
    (hi : L[i]? = some (ownL enc e k s c l)) (hv : SVL s c l) (hj : L[j]? = some (blk b (enc xv).length (frOf (enc xv)) e)) (h1 : (enc xv).all oneV = true) (hlen : l.length < 1000000) :
    StepF Try.prog n ⟨d, .call ⟨.builtin .append, #[x, y], #[t, t]⟩, ty, pos, aft, g⟩ F w
      (fun u w' => ∃ s' c', u = .slice s' (l ++ [xv]).length c' ∧ SVL s' c' (l ++ [xv]) ∧ Hp w0 M w' (L.set i (ownL enc e k s' c' (l ++ [xv])))) := by
  have hb' := Nat.le_of_ble_eq_true hb
  have hb2 : (l.length + 1) * by_ ≤ 1000000 * 1000 := Nat.mul_le_mul (by omega) hb'
  refine (sf_append hp i ht hby hz hzs hpos hx hy hi hv (flatMap_len enc k hk l) (by rw [hk]; omega) (blk_src hp j hj) (by simpa [List.all_eq_true] using h1) (by unfold maxLen; omega) (by omega)).mono ?_
  rintro u w' ⟨h2, h3⟩
  obtain ⟨s', c', rfl⟩ := h2.ex
  have e1 : (l ++ [xv]).length = l.length + 1 := by simp
  have e2 : (l ++ [xv]).flatMap enc = l.flatMap enc ++ enc xv := by simp
  refine ⟨s', c', by rw [e1], by unfold SVL; rw [e1]; exact h2, ?_⟩
  unfold ownL
  rw [e1, e2]
  exact h3
end

section
variable {n : Nat} {w w0 : World} {M : List Nat} {L : List Ent} {F : Fr} {d : Option Tmp} {ty : TypeId} {pos : String} {aft : Array Edge} {g : Option (Nat × Bool)} {x y : Operand}
/-- append onto an owned list: the elements of another one -/
theorem sf_app {α : Type} (enc : α → List Value) (l l2 : List α) {t e k by_ c c2 : Nat} {z : Value} {s s2 : Option Addr} (hp : Hp w0 M w L) (i : Nat) (ht : slTy t = some (e, k)) (hby : byteTy e = some by_) (hz : zeroTy e = some z)
    (hzs : z.cells.size = k) (hpos : Nat.blt 0 k = true) (hb : Nat.ble by_ 1000 = true) (hk : ∀ x, (enc x).length = k) (hx : ev n F x = .slice s l.length c) (hy : ev n F y = .slice s2 l2.length c2)
    (hi : L[i]? = some (ownL enc e k s c l)) (hv : SVL s c l) (hs : SlAt w k enc s2 l2) (h1 : ∀ x, (enc x).all oneV = true) (hlen : l.length + l2.length < 1000000) :
    StepF Try.prog n ⟨d, .call ⟨.builtin .append, #[x, y], #[t, t]⟩, ty, pos, aft, g⟩ F w
      (fun u w' => ∃ s' c', u = .slice s' (l ++ l2).length c' ∧ SVL s' c' (l ++ l2) ∧ Hp w0 M w' (L.set i (ownL enc e k s' c' (l ++ l2)))) := by
  have hb' := Nat.le_of_ble_eq_true hb
  have hb2 : (l.length + l2.length) * by_ ≤ 1000000 * 1000 := Nat.mul_le_mul (by omega) hb'
  refine (sf_append hp i ht hby hz hzs hpos hx hy hi hv (flatMap_len enc k hk l) (flatMap_len enc k hk l2) (hs.src hk) ?_ (by unfold maxLen; omega) (by omega)).mono ?_
  · intro u hu
    rw [List.mem_flatMap] at hu
    obtain ⟨a, _, ha⟩ := hu
    exact List.all_eq_true.1 (h1 a) u ha
  rintro u w' ⟨h2, h3⟩
  obtain ⟨s', c', rfl⟩ := h2.ex
  have e1 : (l ++ l2).length = l.length + l2.length := by simp
  have e2 : (l ++ l2).flatMap enc = l.flatMap enc ++ l2.flatMap enc := by simp
  refine ⟨s', c', by rw [e1], by unfold SVL; rw [e1]; exact h2, ?_⟩
  unfold ownL
  rw [e1, e2]
  exact h3
theorem sf_clone {α : Type} (enc : α → List Value) (l : List α) {t e k by_ b c : Nat} {z : Value} {s : Option Addr} (hp : Hp w0 M w L) (i : Nat) (ht : slTy t = some (e, k)) (hby : byteTy e = some by_) (hz : zeroTy e = some z)
    (hzs : z.cells.size = k) (hpos : Nat.blt 0 k = true) (hb : Nat.ble by_ 1000 = true) (hk : ∀ x, (enc x).length = k) (hx : ev n F x = .slice (some ⟨b, 0, none⟩) 0 0) (hy : ev n F y = .slice s l.length c)
    (hi : L[i]? = some (blk b 0 (frOf []) e)) (hs : SlAt w k enc s l) (h1 : ∀ x, (enc x).all oneV = true) (hlen : l.length < 1000000) :
    StepF Try.prog n ⟨d, .call ⟨.builtin .append, #[x, y], #[t, t]⟩, ty, pos, aft, g⟩ F w
      (fun u w' => ∃ s' c', u = .slice s' l.length c' ∧ SVL s' c' l ∧ Hp w0 M w' (L.set i (ownL enc e k s' c' l))) := by
  have hr := hp.rowOf (cs := []) i k 0 hi (by simp)
  have hlt := (List.getElem?_eq_some_iff.1 hi).1
  refine (sf_app enc ([] : List α) l (s := some ⟨b, 0, none⟩) (c := 0) hr i ht hby hz hzs hpos hb hk hx hy (by rw [List.getElem?_set, if_pos rfl, if_pos hlt]; rfl) (.inr ⟨b, 0, rfl, by simp, by unfold maxLen; omega⟩) hs h1 (by simpa using hlen)).mono ?_
  rintro u w' ⟨s', c', h2, h3, h4⟩
  rw [List.set_set] at h4
  exact ⟨s', c', h2, h3, h4⟩
theorem pf_bts {t t' e b o len cap : Nat} {ns : List Int} (ht : slTy t = some (e, 1)) (he : intTy e = some .u8) (ht' : strTy t' = true) (hx : ev n F x = .slice (some ⟨b, o, none⟩) len cap) (hl : ns.length = len)
    (hc : ∀ (j : Nat) (v : Value), (ns.map (Value.int .u8))[j]? = some v → w.cell? ⟨b, o + j, none⟩ = some v) : PV Try.prog n w F ⟨d, .convert t t' x, ty, pos, aft, g⟩ (.string (bytesOf ns)) := pv_bts (slTy_ok ht).1 (intTy_ok he) (strTy_ok ht') hx hl hc
end

theorem mixed : Try.prog.follows .mixedOrders = true := by kernel_rfl
theorem ent3 : Enters Try.prog 3 := fun _ _ => by kernel_rfl
theorem ent4 : Enters Try.prog 4 := fun _ _ => by kernel_rfl
theorem ent5 : Enters Try.prog 5 := fun _ _ => by kernel_rfl
theorem ent6 : Enters Try.prog 6 := fun _ _ => by kernel_rfl
theorem ent7 : Enters Try.prog 7 := fun _ _ => by kernel_rfl
theorem ent8 : Enters Try.prog 8 := fun _ _ => by kernel_rfl
theorem ent9 : Enters Try.prog 9 := fun _ _ => by kernel_rfl
theorem ent10 : Enters Try.prog 10 := fun _ _ => by kernel_rfl
theorem ent11 : Enters Try.prog 11 := fun _ _ => by kernel_rfl
theorem ent12 : Enters Try.prog 12 := fun _ _ => by kernel_rfl
theorem ent13 : Enters Try.prog 13 := fun _ _ => by kernel_rfl
theorem ent14 : Enters Try.prog 14 := fun _ _ => by kernel_rfl
theorem ent15 : Enters Try.prog 15 := fun _ _ => by kernel_rfl
theorem ent16 : Enters Try.prog 16 := fun _ _ => by kernel_rfl
theorem ent17 : Enters Try.prog 17 := fun _ _ => by kernel_rfl
theorem ent18 : Enters Try.prog 18 := fun _ _ => by kernel_rfl
theorem ent19 : Enters Try.prog 19 := fun _ _ => by kernel_rfl
theorem ent20 : Enters Try.prog 20 := fun _ _ => by kernel_rfl
theorem ent21 : Enters Try.prog 21 := fun _ _ => by kernel_rfl
theorem ent22 : Enters Try.prog 22 := fun _ _ => by kernel_rfl
theorem ent23 : Enters Try.prog 23 := fun _ _ => by kernel_rfl
theorem ent24 : Enters Try.prog 24 := fun _ _ => by kernel_rfl
theorem ent25 : Enters Try.prog 25 := fun _ _ => by kernel_rfl
theorem ent26 : Enters Try.prog 26 := fun _ _ => by kernel_rfl
theorem ent27 : Enters Try.prog 27 := fun _ _ => by kernel_rfl
theorem ent28 : Enters Try.prog 28 := fun _ _ => by kernel_rfl
theorem ent29 : Enters Try.prog 29 := fun _ _ => by kernel_rfl
theorem ent30 : Enters Try.prog 30 := fun _ _ => by kernel_rfl
theorem ent31 : Enters Try.prog 31 := fun _ _ => by kernel_rfl
theorem ent32 : Enters Try.prog 32 := fun _ _ => by kernel_rfl
theorem ent33 : Enters Try.prog 33 := fun _ _ => by kernel_rfl
theorem ent34 : Enters Try.prog 34 := fun _ _ => by kernel_rfl
theorem ent35 : Enters Try.prog 35 := fun _ _ => by kernel_rfl
theorem ent36 : Enters Try.prog 36 := fun _ _ => by kernel_rfl
theorem ent37 : Enters Try.prog 37 := fun _ _ => by kernel_rfl
theorem ent38 : Enters Try.prog 38 := fun _ _ => by kernel_rfl
theorem ent39 : Enters Try.prog 39 := fun _ _ => by kernel_rfl
theorem ent40 : Enters Try.prog 40 := fun _ _ => by kernel_rfl
theorem ent41 : Enters Try.prog 41 := fun _ _ => by kernel_rfl
theorem ent42 : Enters Try.prog 42 := fun _ _ => by kernel_rfl
theorem ent43 : Enters Try.prog 43 := fun _ _ => by kernel_rfl
theorem ent44 : Enters Try.prog 44 := fun _ _ => by kernel_rfl
theorem ent45 : Enters Try.prog 45 := fun _ _ => by kernel_rfl
theorem ent46 : Enters Try.prog 46 := fun _ _ => by kernel_rfl
theorem ent47 : Enters Try.prog 47 := fun _ _ => by kernel_rfl
theorem ent48 : Enters Try.prog 48 := fun _ _ => by kernel_rfl
theorem ent49 : Enters Try.prog 49 := fun _ _ => by kernel_rfl
theorem ent50 : Enters Try.prog 50 := fun _ _ => by kernel_rfl
theorem ent51 : Enters Try.prog 51 := fun _ _ => by kernel_rfl
theorem ent52 : Enters Try.prog 52 := fun _ _ => by kernel_rfl
theorem ent53 : Enters Try.prog 53 := fun _ _ => by kernel_rfl
theorem ent54 : Enters Try.prog 54 := fun _ _ => by kernel_rfl
theorem ent55 : Enters Try.prog 55 := fun _ _ => by kernel_rfl
theorem ent56 : Enters Try.prog 56 := fun _ _ => by kernel_rfl
theorem ent57 : Enters Try.prog 57 := fun _ _ => by kernel_rfl
theorem ent58 : Enters Try.prog 58 := fun _ _ => by kernel_rfl
theorem ent59 : Enters Try.prog 59 := fun _ _ => by kernel_rfl
theorem ent60 : Enters Try.prog 60 := fun _ _ => by kernel_rfl
theorem ent61 : Enters Try.prog 61 := fun _ _ => by kernel_rfl
theorem ent62 : Enters Try.prog 62 := fun _ _ => by kernel_rfl
theorem ent63 : Enters Try.prog 63 := fun _ _ => by kernel_rfl
theorem ent64 : Enters Try.prog 64 := fun _ _ => by kernel_rfl
theorem ent65 : Enters Try.prog 65 := fun _ _ => by kernel_rfl
theorem ent66 : Enters Try.prog 66 := fun _ _ => by kernel_rfl
theorem ent67 : Enters Try.prog 67 := fun _ _ => by kernel_rfl
theorem ent68 : Enters Try.prog 68 := fun _ _ => by kernel_rfl
theorem ent69 : Enters Try.prog 69 := fun _ _ => by kernel_rfl
theorem ent70 : Enters Try.prog 70 := fun _ _ => by kernel_rfl
theorem ent71 : Enters Try.prog 71 := fun _ _ => by kernel_rfl
theorem ent72 : Enters Try.prog 72 := fun _ _ => by kernel_rfl
theorem ent73 : Enters Try.prog 73 := fun _ _ => by kernel_rfl
theorem ent74 : Enters Try.prog 74 := fun _ _ => by kernel_rfl
theorem ent75 : Enters Try.prog 75 := fun _ _ => by kernel_rfl
theorem ent76 : Enters Try.prog 76 := fun _ _ => by kernel_rfl
theorem ent77 : Enters Try.prog 77 := fun _ _ => by kernel_rfl
theorem ent78 : Enters Try.prog 78 := fun _ _ => by kernel_rfl
theorem ent79 : Enters Try.prog 79 := fun _ _ => by kernel_rfl
theorem ent80 : Enters Try.prog 80 := fun _ _ => by kernel_rfl
theorem ent81 : Enters Try.prog 81 := fun _ _ => by kernel_rfl
theorem ent82 : Enters Try.prog 82 := fun _ _ => by kernel_rfl
theorem ent83 : Enters Try.prog 83 := fun _ _ => by kernel_rfl
theorem ent84 : Enters Try.prog 84 := fun _ _ => by kernel_rfl
theorem ent85 : Enters Try.prog 85 := fun _ _ => by kernel_rfl
theorem ent86 : Enters Try.prog 86 := fun _ _ => by kernel_rfl
theorem ent87 : Enters Try.prog 87 := fun _ _ => by kernel_rfl
theorem ent88 : Enters Try.prog 88 := fun _ _ => by kernel_rfl
theorem ent89 : Enters Try.prog 89 := fun _ _ => by kernel_rfl
theorem ent90 : Enters Try.prog 90 := fun _ _ => by kernel_rfl
theorem ent91 : Enters Try.prog 91 := fun _ _ => by kernel_rfl
theorem ent92 : Enters Try.prog 92 := fun _ _ => by kernel_rfl
theorem ent93 : Enters Try.prog 93 := fun _ _ => by kernel_rfl
end Go.Proofs.Ytgephdcapajaiaa
