/- Made by a program of ours (gen_ty.py): tables of the types of the program, each proved; no conditions. -/
import Derived.Test.YteklkjnhefnimaaDoorProg
import Derived.Test.YteklkjnhefnimaaDoorEngJ
import Derived.KernelRfl
namespace Go.Proofs.YteklkjnhefnimaaDoor
open Go.Eng
def oneTy : Nat → Bool
  | 1 => true
  | 2 => true
  | 3 => true
  | 4 => true
  | 5 => true
  | 9 => true
  | 21 => true
  | 22 => true
  | 23 => true
  | 24 => true
  | 25 => true
  | 26 => true
  | 27 => true
  | 28 => true
  | 31 => true
  | 32 => true
  | 33 => true
  | 35 => true
  | 36 => true
  | 37 => true
  | 39 => true
  | 40 => true
  | 41 => true
  | 42 => true
  | 43 => true
  | 44 => true
  | 45 => true
  | 46 => true
  | 47 => true
  | 48 => true
  | 51 => true
  | 53 => true
  | 54 => true
  | 58 => true
  | 59 => true
  | 60 => true
  | 64 => true
  | 65 => true
  | 66 => true
  | 67 => true
  | 69 => true
  | 70 => true
  | 71 => true
  | 72 => true
  | 73 => true
  | 74 => true
  | 75 => true
  | 76 => true
  | 77 => true
  | 78 => true
  | 79 => true
  | 80 => true
  | 81 => true
  | 82 => true
  | 84 => true
  | 85 => true
  | 86 => true
  | 87 => true
  | 88 => true
  | 89 => true
  | 90 => true
  | 91 => true
  | 92 => true
  | 93 => true
  | 94 => true
  | 95 => true
  | 96 => true
  | 97 => true
  | 98 => true
  | 99 => true
  | 100 => true
  | 101 => true
  | 104 => true
  | 105 => true
  | 106 => true
  | 107 => true
  | 108 => true
  | 109 => true
  | 110 => true
  | 112 => true
  | 113 => true
  | 114 => true
  | 115 => true
  | 119 => true
  | 120 => true
  | 121 => true
  | 122 => true
  | 123 => true
  | 125 => true
  | 126 => true
  | 127 => true
  | 132 => true
  | 133 => true
  | 134 => true
  | 135 => true
  | 141 => true
  | 145 => true
  | _ => false
theorem oneTy_ok {t : Nat} (h : oneTy t = true) : ∃ q, Tryd.prog.underlying t = some q ∧ isOne q = true := by
  unfold oneTy at h
  split at h
  · exact ⟨_, Tryd.underlying1, rfl⟩
  · exact ⟨_, Tryd.underlying2, rfl⟩
  · exact ⟨_, Tryd.underlying3, rfl⟩
  · exact ⟨_, Tryd.underlying4, rfl⟩
  · exact ⟨_, Tryd.underlying5, rfl⟩
  · exact ⟨_, Tryd.underlying9, rfl⟩
  · exact ⟨_, Tryd.underlying21, rfl⟩
  · exact ⟨_, Tryd.underlying22, rfl⟩
  · exact ⟨_, Tryd.underlying23, rfl⟩
  · exact ⟨_, Tryd.underlying24, rfl⟩
  · exact ⟨_, Tryd.underlying25, rfl⟩
  · exact ⟨_, Tryd.underlying26, rfl⟩
  · exact ⟨_, Tryd.underlying27, rfl⟩
  · exact ⟨_, Tryd.underlying28, rfl⟩
  · exact ⟨_, Tryd.underlying31, rfl⟩
  · exact ⟨_, Tryd.underlying32, rfl⟩
  · exact ⟨_, Tryd.underlying33, rfl⟩
  · exact ⟨_, Tryd.underlying35, rfl⟩
  · exact ⟨_, Tryd.underlying36, rfl⟩
  · exact ⟨_, Tryd.underlying37, rfl⟩
  · exact ⟨_, Tryd.underlying39, rfl⟩
  · exact ⟨_, Tryd.underlying40, rfl⟩
  · exact ⟨_, Tryd.underlying41, rfl⟩
  · exact ⟨_, Tryd.underlying42, rfl⟩
  · exact ⟨_, Tryd.underlying43, rfl⟩
  · exact ⟨_, Tryd.underlying44, rfl⟩
  · exact ⟨_, Tryd.underlying45, rfl⟩
  · exact ⟨_, Tryd.underlying46, rfl⟩
  · exact ⟨_, Tryd.underlying47, rfl⟩
  · exact ⟨_, Tryd.underlying48, rfl⟩
  · exact ⟨_, Tryd.underlying51, rfl⟩
  · exact ⟨_, Tryd.underlying53, rfl⟩
  · exact ⟨_, Tryd.underlying54, rfl⟩
  · exact ⟨_, Tryd.underlying58, rfl⟩
  · exact ⟨_, Tryd.underlying59, rfl⟩
  · exact ⟨_, Tryd.underlying60, rfl⟩
  · exact ⟨_, Tryd.underlying64, rfl⟩
  · exact ⟨_, Tryd.underlying65, rfl⟩
  · exact ⟨_, Tryd.underlying66, rfl⟩
  · exact ⟨_, Tryd.underlying67, rfl⟩
  · exact ⟨_, Tryd.underlying69, rfl⟩
  · exact ⟨_, Tryd.underlying70, rfl⟩
  · exact ⟨_, Tryd.underlying71, rfl⟩
  · exact ⟨_, Tryd.underlying72, rfl⟩
  · exact ⟨_, Tryd.underlying73, rfl⟩
  · exact ⟨_, Tryd.underlying74, rfl⟩
  · exact ⟨_, Tryd.underlying75, rfl⟩
  · exact ⟨_, Tryd.underlying76, rfl⟩
  · exact ⟨_, Tryd.underlying77, rfl⟩
  · exact ⟨_, Tryd.underlying78, rfl⟩
  · exact ⟨_, Tryd.underlying79, rfl⟩
  · exact ⟨_, Tryd.underlying80, rfl⟩
  · exact ⟨_, Tryd.underlying81, rfl⟩
  · exact ⟨_, Tryd.underlying82, rfl⟩
  · exact ⟨_, Tryd.underlying84, rfl⟩
  · exact ⟨_, Tryd.underlying85, rfl⟩
  · exact ⟨_, Tryd.underlying86, rfl⟩
  · exact ⟨_, Tryd.underlying87, rfl⟩
  · exact ⟨_, Tryd.underlying88, rfl⟩
  · exact ⟨_, Tryd.underlying89, rfl⟩
  · exact ⟨_, Tryd.underlying90, rfl⟩
  · exact ⟨_, Tryd.underlying91, rfl⟩
  · exact ⟨_, Tryd.underlying92, rfl⟩
  · exact ⟨_, Tryd.underlying93, rfl⟩
  · exact ⟨_, Tryd.underlying94, rfl⟩
  · exact ⟨_, Tryd.underlying95, rfl⟩
  · exact ⟨_, Tryd.underlying96, rfl⟩
  · exact ⟨_, Tryd.underlying97, rfl⟩
  · exact ⟨_, Tryd.underlying98, rfl⟩
  · exact ⟨_, Tryd.underlying99, rfl⟩
  · exact ⟨_, Tryd.underlying100, rfl⟩
  · exact ⟨_, Tryd.underlying101, rfl⟩
  · exact ⟨_, Tryd.underlying104, rfl⟩
  · exact ⟨_, Tryd.underlying105, rfl⟩
  · exact ⟨_, Tryd.underlying106, rfl⟩
  · exact ⟨_, Tryd.underlying107, rfl⟩
  · exact ⟨_, Tryd.underlying108, rfl⟩
  · exact ⟨_, Tryd.underlying109, rfl⟩
  · exact ⟨_, Tryd.underlying110, rfl⟩
  · exact ⟨_, Tryd.underlying112, rfl⟩
  · exact ⟨_, Tryd.underlying113, rfl⟩
  · exact ⟨_, Tryd.underlying114, rfl⟩
  · exact ⟨_, Tryd.underlying115, rfl⟩
  · exact ⟨_, Tryd.underlying119, rfl⟩
  · exact ⟨_, Tryd.underlying120, rfl⟩
  · exact ⟨_, Tryd.underlying121, rfl⟩
  · exact ⟨_, Tryd.underlying122, rfl⟩
  · exact ⟨_, Tryd.underlying123, rfl⟩
  · exact ⟨_, Tryd.underlying125, rfl⟩
  · exact ⟨_, Tryd.underlying126, rfl⟩
  · exact ⟨_, Tryd.underlying127, rfl⟩
  · exact ⟨_, Tryd.underlying132, rfl⟩
  · exact ⟨_, Tryd.underlying133, rfl⟩
  · exact ⟨_, Tryd.underlying134, rfl⟩
  · exact ⟨_, Tryd.underlying135, rfl⟩
  · exact ⟨_, Tryd.underlying141, rfl⟩
  · exact ⟨_, Tryd.underlying145, rfl⟩
  · cases h
def manyTy : Nat → Option Nat
  | 29 => some 3
  | 49 => some 13
  | 50 => some 13
  | 56 => some 2
  | 57 => some 2
  | 61 => some 3
  | 62 => some 3
  | 68 => some 2
  | 102 => some 2
  | 111 => some 3
  | 116 => some 256
  | 117 => some 256
  | 128 => some 256
  | 129 => some 2
  | 130 => some 2
  | 131 => some 32
  | 150 => some 2
  | 151 => some 2
  | 152 => some 3
  | 153 => some 3
  | _ => none
theorem manyTy_ok {t k : Nat} (h : manyTy t = some k) : ∃ q, Tryd.prog.underlying t = some q ∧ isMany q = true := by
  unfold manyTy at h
  split at h
  · exact ⟨_, Tryd.underlying29, rfl⟩
  · exact ⟨_, Tryd.underlying49, rfl⟩
  · exact ⟨_, Tryd.underlying50, rfl⟩
  · exact ⟨_, Tryd.underlying56, rfl⟩
  · exact ⟨_, Tryd.underlying57, rfl⟩
  · exact ⟨_, Tryd.underlying61, rfl⟩
  · exact ⟨_, Tryd.underlying62, rfl⟩
  · exact ⟨_, Tryd.underlying68, rfl⟩
  · exact ⟨_, Tryd.underlying102, rfl⟩
  · exact ⟨_, Tryd.underlying111, rfl⟩
  · exact ⟨_, Tryd.underlying116, rfl⟩
  · exact ⟨_, Tryd.underlying117, rfl⟩
  · exact ⟨_, Tryd.underlying128, rfl⟩
  · exact ⟨_, Tryd.underlying129, rfl⟩
  · exact ⟨_, Tryd.underlying130, rfl⟩
  · exact ⟨_, Tryd.underlying131, rfl⟩
  · exact ⟨_, Tryd.underlying150, rfl⟩
  · exact ⟨_, Tryd.underlying151, rfl⟩
  · exact ⟨_, Tryd.underlying152, rfl⟩
  · exact ⟨_, Tryd.underlying153, rfl⟩
  · cases h
def sizeTy : Nat → Option Nat
  | 1 => some 1
  | 2 => some 1
  | 3 => some 1
  | 4 => some 1
  | 5 => some 1
  | 9 => some 1
  | 21 => some 1
  | 22 => some 1
  | 23 => some 1
  | 24 => some 1
  | 25 => some 1
  | 26 => some 1
  | 27 => some 1
  | 28 => some 1
  | 29 => some 3
  | 31 => some 1
  | 32 => some 1
  | 33 => some 1
  | 35 => some 1
  | 36 => some 1
  | 37 => some 1
  | 39 => some 1
  | 40 => some 1
  | 41 => some 1
  | 42 => some 1
  | 43 => some 1
  | 44 => some 1
  | 45 => some 1
  | 46 => some 1
  | 47 => some 1
  | 48 => some 1
  | 49 => some 13
  | 50 => some 13
  | 51 => some 1
  | 53 => some 1
  | 54 => some 1
  | 56 => some 2
  | 57 => some 2
  | 58 => some 1
  | 59 => some 1
  | 60 => some 1
  | 61 => some 3
  | 62 => some 3
  | 64 => some 1
  | 65 => some 1
  | 66 => some 1
  | 67 => some 1
  | 68 => some 2
  | 69 => some 1
  | 70 => some 1
  | 71 => some 1
  | 72 => some 1
  | 73 => some 1
  | 74 => some 1
  | 75 => some 1
  | 76 => some 1
  | 77 => some 1
  | 78 => some 1
  | 79 => some 1
  | 80 => some 1
  | 81 => some 1
  | 82 => some 1
  | 84 => some 1
  | 85 => some 1
  | 86 => some 1
  | 87 => some 1
  | 88 => some 1
  | 89 => some 1
  | 90 => some 1
  | 91 => some 1
  | 92 => some 1
  | 93 => some 1
  | 94 => some 1
  | 95 => some 1
  | 96 => some 1
  | 97 => some 1
  | 98 => some 1
  | 99 => some 1
  | 100 => some 1
  | 101 => some 1
  | 102 => some 2
  | 104 => some 1
  | 105 => some 1
  | 106 => some 1
  | 107 => some 1
  | 108 => some 1
  | 109 => some 1
  | 110 => some 1
  | 111 => some 3
  | 112 => some 1
  | 113 => some 1
  | 114 => some 1
  | 115 => some 1
  | 116 => some 256
  | 117 => some 256
  | 119 => some 1
  | 120 => some 1
  | 121 => some 1
  | 122 => some 1
  | 123 => some 1
  | 125 => some 1
  | 126 => some 1
  | 127 => some 1
  | 128 => some 256
  | 129 => some 2
  | 130 => some 2
  | 131 => some 32
  | 132 => some 1
  | 133 => some 1
  | 134 => some 1
  | 135 => some 1
  | 141 => some 1
  | 145 => some 1
  | 150 => some 2
  | 151 => some 2
  | 152 => some 3
  | 153 => some 3
  | _ => none
theorem sizeTy_ok {t k : Nat} (h : sizeTy t = some k) : TSize Tryd.prog t k := by
  unfold sizeTy at h
  split at h
  · cases h; unfold TSize; kernel_rfl
  · cases h; unfold TSize; kernel_rfl
  · cases h; unfold TSize; kernel_rfl
  · cases h; unfold TSize; kernel_rfl
  · cases h; unfold TSize; kernel_rfl
  · cases h; unfold TSize; kernel_rfl
  · cases h; unfold TSize; kernel_rfl
  · cases h; unfold TSize; kernel_rfl
  · cases h; unfold TSize; kernel_rfl
  · cases h; unfold TSize; kernel_rfl
  · cases h; unfold TSize; kernel_rfl
  · cases h; unfold TSize; kernel_rfl
  · cases h; unfold TSize; kernel_rfl
  · cases h; unfold TSize; kernel_rfl
  · cases h; unfold TSize; kernel_rfl
  · cases h; unfold TSize; kernel_rfl
  · cases h; unfold TSize; kernel_rfl
  · cases h; unfold TSize; kernel_rfl
  · cases h; unfold TSize; kernel_rfl
  · cases h; unfold TSize; kernel_rfl
  · cases h; unfold TSize; kernel_rfl
  · cases h; unfold TSize; kernel_rfl
  · cases h; unfold TSize; kernel_rfl
  · cases h; unfold TSize; kernel_rfl
  · cases h; unfold TSize; kernel_rfl
  · cases h; unfold TSize; kernel_rfl
  · cases h; unfold TSize; kernel_rfl
  · cases h; unfold TSize; kernel_rfl
  · cases h; unfold TSize; kernel_rfl
  · cases h; unfold TSize; kernel_rfl
  · cases h; unfold TSize; kernel_rfl
  · cases h; unfold TSize; kernel_rfl
  · cases h; unfold TSize; kernel_rfl
  · cases h; unfold TSize; kernel_rfl
  · cases h; unfold TSize; kernel_rfl
  · cases h; unfold TSize; kernel_rfl
  · cases h; unfold TSize; kernel_rfl
  · cases h; unfold TSize; kernel_rfl
  · cases h; unfold TSize; kernel_rfl
  · cases h; unfold TSize; kernel_rfl
  · cases h; unfold TSize; kernel_rfl
  · cases h; unfold TSize; kernel_rfl
  · cases h; unfold TSize; kernel_rfl
  · cases h; unfold TSize; kernel_rfl
  · cases h; unfold TSize; kernel_rfl
  · cases h; unfold TSize; kernel_rfl
  · cases h; unfold TSize; kernel_rfl
  · cases h; unfold TSize; kernel_rfl
  · cases h; unfold TSize; kernel_rfl
  · cases h; unfold TSize; kernel_rfl
  · cases h; unfold TSize; kernel_rfl
  · cases h; unfold TSize; kernel_rfl
  · cases h; unfold TSize; kernel_rfl
  · cases h; unfold TSize; kernel_rfl
  · cases h; unfold TSize; kernel_rfl
  · cases h; unfold TSize; kernel_rfl
  · cases h; unfold TSize; kernel_rfl
  · cases h; unfold TSize; kernel_rfl
  · cases h; unfold TSize; kernel_rfl
  · cases h; unfold TSize; kernel_rfl
  · cases h; unfold TSize; kernel_rfl
  · cases h; unfold TSize; kernel_rfl
  · cases h; unfold TSize; kernel_rfl
  · cases h; unfold TSize; kernel_rfl
  · cases h; unfold TSize; kernel_rfl
  · cases h; unfold TSize; kernel_rfl
  · cases h; unfold TSize; kernel_rfl
  · cases h; unfold TSize; kernel_rfl
  · cases h; unfold TSize; kernel_rfl
  · cases h; unfold TSize; kernel_rfl
  · cases h; unfold TSize; kernel_rfl
  · cases h; unfold TSize; kernel_rfl
  · cases h; unfold TSize; kernel_rfl
  · cases h; unfold TSize; kernel_rfl
  · cases h; unfold TSize; kernel_rfl
  · cases h; unfold TSize; kernel_rfl
  · cases h; unfold TSize; kernel_rfl
  · cases h; unfold TSize; kernel_rfl
  · cases h; unfold TSize; kernel_rfl
  · cases h; unfold TSize; kernel_rfl
  · cases h; unfold TSize; kernel_rfl
  · cases h; unfold TSize; kernel_rfl
  · cases h; unfold TSize; kernel_rfl
  · cases h; unfold TSize; kernel_rfl
  · cases h; unfold TSize; kernel_rfl
  · cases h; unfold TSize; kernel_rfl
  · cases h; unfold TSize; kernel_rfl
  · cases h; unfold TSize; kernel_rfl
  · cases h; unfold TSize; kernel_rfl
  · cases h; unfold TSize; kernel_rfl
  · cases h; unfold TSize; kernel_rfl
  · cases h; unfold TSize; kernel_rfl
  · cases h; unfold TSize; kernel_rfl
  · cases h; unfold TSize; kernel_rfl
  · cases h; unfold TSize; kernel_rfl
  · cases h; unfold TSize; kernel_rfl
  · cases h; unfold TSize; kernel_rfl
  · cases h; unfold TSize; kernel_rfl
  · cases h; unfold TSize; kernel_rfl
  · cases h; unfold TSize; kernel_rfl
  · cases h; unfold TSize; kernel_rfl
  · cases h; unfold TSize; kernel_rfl
  · cases h; unfold TSize; kernel_rfl
  · cases h; unfold TSize; kernel_rfl
  · cases h; unfold TSize; kernel_rfl
  · cases h; unfold TSize; kernel_rfl
  · cases h; unfold TSize; kernel_rfl
  · cases h; unfold TSize; kernel_rfl
  · cases h; unfold TSize; kernel_rfl
  · cases h; unfold TSize; kernel_rfl
  · cases h; unfold TSize; kernel_rfl
  · cases h; unfold TSize; kernel_rfl
  · cases h; unfold TSize; kernel_rfl
  · cases h; unfold TSize; kernel_rfl
  · cases h; unfold TSize; kernel_rfl
  · cases h; unfold TSize; kernel_rfl
  · cases h; unfold TSize; kernel_rfl
  · cases h
def slTy : Nat → Option (Nat × Nat)
  | 28 => some (3, 1)
  | 33 => some (28, 1)
  | 44 => some (68, 2)
  | 45 => some (5, 1)
  | 46 => some (57, 2)
  | 47 => some (151, 2)
  | 48 => some (153, 3)
  | 74 => some (93, 1)
  | 76 => some (23, 1)
  | _ => none
theorem slTy_ok {t e k : Nat} (h : slTy t = some (e, k)) : Tryd.prog.underlying t = some (.slice e) ∧ TSize Tryd.prog e k := by
  unfold slTy at h
  split at h
  · cases h; exact ⟨Tryd.underlying28, sizeTy_ok rfl⟩
  · cases h; exact ⟨Tryd.underlying33, sizeTy_ok rfl⟩
  · cases h; exact ⟨Tryd.underlying44, sizeTy_ok rfl⟩
  · cases h; exact ⟨Tryd.underlying45, sizeTy_ok rfl⟩
  · cases h; exact ⟨Tryd.underlying46, sizeTy_ok rfl⟩
  · cases h; exact ⟨Tryd.underlying47, sizeTy_ok rfl⟩
  · cases h; exact ⟨Tryd.underlying48, sizeTy_ok rfl⟩
  · cases h; exact ⟨Tryd.underlying74, sizeTy_ok rfl⟩
  · cases h; exact ⟨Tryd.underlying76, sizeTy_ok rfl⟩
  · cases h
def arrTy : Nat → Option (Nat × Nat × Nat)
  | 29 => some (3, 3, 1)
  | 68 => some (2, 3, 1)
  | 102 => some (2, 4, 1)
  | 116 => some (256, 4, 1)
  | 117 => some (256, 4, 1)
  | 128 => some (256, 5, 1)
  | 131 => some (16, 130, 2)
  | _ => none
theorem arrTy_ok {t m e k : Nat} (h : arrTy t = some (m, e, k)) : Tryd.prog.underlying t = some (.array m e) ∧ TSize Tryd.prog e k := by
  unfold arrTy at h
  split at h
  · cases h; exact ⟨Tryd.underlying29, sizeTy_ok rfl⟩
  · cases h; exact ⟨Tryd.underlying68, sizeTy_ok rfl⟩
  · cases h; exact ⟨Tryd.underlying102, sizeTy_ok rfl⟩
  · cases h; exact ⟨Tryd.underlying116, sizeTy_ok rfl⟩
  · cases h; exact ⟨Tryd.underlying117, sizeTy_ok rfl⟩
  · cases h; exact ⟨Tryd.underlying128, sizeTy_ok rfl⟩
  · cases h; exact ⟨Tryd.underlying131, sizeTy_ok rfl⟩
  · cases h
def strTy : Nat → Bool
  | 9 => true
  | 23 => true
  | _ => false
theorem strTy_ok {t : Nat} (h : strTy t = true) : Tryd.prog.underlying t = some .string := by
  unfold strTy at h
  split at h
  · exact Tryd.underlying9
  · exact Tryd.underlying23
  · cases h
def intTy : Nat → Option IntKind
  | 2 => some .i64
  | 3 => some .i64
  | 5 => some .u8
  | 21 => some .i32
  | 37 => some .u64
  | 40 => some .u64
  | 59 => some .u16
  | 93 => some .u32
  | _ => none
theorem intTy_ok {t : Nat} {k : IntKind} (h : intTy t = some k) : Tryd.prog.underlying t = some (.int k) := by
  unfold intTy at h
  split at h
  · cases h; exact Tryd.underlying2
  · cases h; exact Tryd.underlying3
  · cases h; exact Tryd.underlying5
  · cases h; exact Tryd.underlying21
  · cases h; exact Tryd.underlying37
  · cases h; exact Tryd.underlying40
  · cases h; exact Tryd.underlying59
  · cases h; exact Tryd.underlying93
  · cases h
def fieldTy : Nat → Nat → Option Nat
  | 49, 0 => some 0
  | 49, 1 => some 1
  | 49, 2 => some 2
  | 49, 3 => some 3
  | 49, 4 => some 4
  | 49, 5 => some 5
  | 49, 6 => some 6
  | 49, 7 => some 7
  | 49, 8 => some 8
  | 49, 9 => some 9
  | 49, 10 => some 10
  | 49, 11 => some 11
  | 49, 12 => some 12
  | 50, 0 => some 0
  | 50, 1 => some 1
  | 50, 2 => some 2
  | 50, 3 => some 3
  | 50, 4 => some 4
  | 50, 5 => some 5
  | 50, 6 => some 6
  | 50, 7 => some 7
  | 50, 8 => some 8
  | 50, 9 => some 9
  | 50, 10 => some 10
  | 50, 11 => some 11
  | 50, 12 => some 12
  | 56, 0 => some 0
  | 56, 1 => some 1
  | 57, 0 => some 0
  | 57, 1 => some 1
  | 61, 0 => some 0
  | 61, 1 => some 1
  | 61, 2 => some 2
  | 62, 0 => some 0
  | 62, 1 => some 1
  | 62, 2 => some 2
  | 111, 0 => some 0
  | 111, 1 => some 1
  | 111, 2 => some 2
  | 129, 0 => some 0
  | 129, 1 => some 1
  | 130, 0 => some 0
  | 130, 1 => some 1
  | 150, 0 => some 0
  | 150, 1 => some 1
  | 151, 0 => some 0
  | 151, 1 => some 1
  | 152, 0 => some 0
  | 152, 1 => some 1
  | 152, 2 => some 2
  | 153, 0 => some 0
  | 153, 1 => some 1
  | 153, 2 => some 2
  | _, _ => none
section
variable {n : Nat} {w : World} {F : Fr} {d : Option Tmp} {ty : TypeId} {pos : String} {aft : Array Edge} {g : Option (Nat × Bool)} {x y : Operand}
set_option maxHeartbeats 2000000 in
theorem pf_field {s i off b o : Nat} (h : fieldTy s i = some off) (hx : ev n F x = .pointer (some ⟨b, o, none⟩)) : PV Tryd.prog n w F ⟨d, .fieldAddr s x i, ty, pos, aft, g⟩ (.pointer (some ⟨b, o + off, none⟩)) := by
  unfold fieldTy at h
  split at h
  · cases h; exact pv_fieldAt (k := 0) (by unfold FieldAt; kernel_rfl) hx
  · cases h; exact pv_fieldAt (k := 0) (by unfold FieldAt; kernel_rfl) hx
  · cases h; exact pv_fieldAt (k := 0) (by unfold FieldAt; kernel_rfl) hx
  · cases h; exact pv_fieldAt (k := 0) (by unfold FieldAt; kernel_rfl) hx
  · cases h; exact pv_fieldAt (k := 0) (by unfold FieldAt; kernel_rfl) hx
  · cases h; exact pv_fieldAt (k := 0) (by unfold FieldAt; kernel_rfl) hx
  · cases h; exact pv_fieldAt (k := 0) (by unfold FieldAt; kernel_rfl) hx
  · cases h; exact pv_fieldAt (k := 0) (by unfold FieldAt; kernel_rfl) hx
  · cases h; exact pv_fieldAt (k := 0) (by unfold FieldAt; kernel_rfl) hx
  · cases h; exact pv_fieldAt (k := 0) (by unfold FieldAt; kernel_rfl) hx
  · cases h; exact pv_fieldAt (k := 0) (by unfold FieldAt; kernel_rfl) hx
  · cases h; exact pv_fieldAt (k := 0) (by unfold FieldAt; kernel_rfl) hx
  · cases h; exact pv_fieldAt (k := 0) (by unfold FieldAt; kernel_rfl) hx
  · cases h; exact pv_fieldAt (k := 0) (by unfold FieldAt; kernel_rfl) hx
  · cases h; exact pv_fieldAt (k := 0) (by unfold FieldAt; kernel_rfl) hx
  · cases h; exact pv_fieldAt (k := 0) (by unfold FieldAt; kernel_rfl) hx
  · cases h; exact pv_fieldAt (k := 0) (by unfold FieldAt; kernel_rfl) hx
  · cases h; exact pv_fieldAt (k := 0) (by unfold FieldAt; kernel_rfl) hx
  · cases h; exact pv_fieldAt (k := 0) (by unfold FieldAt; kernel_rfl) hx
  · cases h; exact pv_fieldAt (k := 0) (by unfold FieldAt; kernel_rfl) hx
  · cases h; exact pv_fieldAt (k := 0) (by unfold FieldAt; kernel_rfl) hx
  · cases h; exact pv_fieldAt (k := 0) (by unfold FieldAt; kernel_rfl) hx
  · cases h; exact pv_fieldAt (k := 0) (by unfold FieldAt; kernel_rfl) hx
  · cases h; exact pv_fieldAt (k := 0) (by unfold FieldAt; kernel_rfl) hx
  · cases h; exact pv_fieldAt (k := 0) (by unfold FieldAt; kernel_rfl) hx
  · cases h; exact pv_fieldAt (k := 0) (by unfold FieldAt; kernel_rfl) hx
  · cases h; exact pv_fieldAt (k := 0) (by unfold FieldAt; kernel_rfl) hx
  · cases h; exact pv_fieldAt (k := 0) (by unfold FieldAt; kernel_rfl) hx
  · cases h; exact pv_fieldAt (k := 0) (by unfold FieldAt; kernel_rfl) hx
  · cases h; exact pv_fieldAt (k := 0) (by unfold FieldAt; kernel_rfl) hx
  · cases h; exact pv_fieldAt (k := 0) (by unfold FieldAt; kernel_rfl) hx
  · cases h; exact pv_fieldAt (k := 0) (by unfold FieldAt; kernel_rfl) hx
  · cases h; exact pv_fieldAt (k := 0) (by unfold FieldAt; kernel_rfl) hx
  · cases h; exact pv_fieldAt (k := 0) (by unfold FieldAt; kernel_rfl) hx
  · cases h; exact pv_fieldAt (k := 0) (by unfold FieldAt; kernel_rfl) hx
  · cases h; exact pv_fieldAt (k := 0) (by unfold FieldAt; kernel_rfl) hx
  · cases h; exact pv_fieldAt (k := 0) (by unfold FieldAt; kernel_rfl) hx
  · cases h; exact pv_fieldAt (k := 0) (by unfold FieldAt; kernel_rfl) hx
  · cases h; exact pv_fieldAt (k := 0) (by unfold FieldAt; kernel_rfl) hx
  · cases h; exact pv_fieldAt (k := 0) (by unfold FieldAt; kernel_rfl) hx
  · cases h; exact pv_fieldAt (k := 0) (by unfold FieldAt; kernel_rfl) hx
  · cases h; exact pv_fieldAt (k := 0) (by unfold FieldAt; kernel_rfl) hx
  · cases h; exact pv_fieldAt (k := 0) (by unfold FieldAt; kernel_rfl) hx
  · cases h; exact pv_fieldAt (k := 0) (by unfold FieldAt; kernel_rfl) hx
  · cases h; exact pv_fieldAt (k := 0) (by unfold FieldAt; kernel_rfl) hx
  · cases h; exact pv_fieldAt (k := 0) (by unfold FieldAt; kernel_rfl) hx
  · cases h; exact pv_fieldAt (k := 0) (by unfold FieldAt; kernel_rfl) hx
  · cases h; exact pv_fieldAt (k := 0) (by unfold FieldAt; kernel_rfl) hx
  · cases h; exact pv_fieldAt (k := 0) (by unfold FieldAt; kernel_rfl) hx
  · cases h; exact pv_fieldAt (k := 0) (by unfold FieldAt; kernel_rfl) hx
  · cases h; exact pv_fieldAt (k := 0) (by unfold FieldAt; kernel_rfl) hx
  · cases h; exact pv_fieldAt (k := 0) (by unfold FieldAt; kernel_rfl) hx
  · cases h; exact pv_fieldAt (k := 0) (by unfold FieldAt; kernel_rfl) hx
  · cases h
theorem pf_load {t b o : Nat} {v : Value} (h : oneTy t = true) (hx : ev n F x = .pointer (some ⟨b, o, none⟩)) (hc : w.cell? ⟨b, o, none⟩ = some v) : PV Tryd.prog n w F ⟨d, .load t x, ty, pos, aft, g⟩ v := by
  obtain ⟨q, h1, h2⟩ := oneTy_ok h
  exact pv_load h1 h2 hx hc
theorem pf_loads {t b o k : Nat} {vs : List Value} (h : manyTy t = some k) (hz : sizeTy t = some k) (hx : ev n F x = .pointer (some ⟨b, o, none⟩)) (hl : vs.length = k) (hc : ∀ (j : Nat) (v : Value), vs[j]? = some v → w.cell? ⟨b, o + j, none⟩ = some v) :
    PV Tryd.prog n w F ⟨d, .load t x, ty, pos, aft, g⟩ (.agg vs.toArray) := by
  obtain ⟨q, h1, h2⟩ := manyTy_ok h
  exact pv_loads h1 h2 (sizeTy_ok hz) hx hl hc
theorem pf_loadb {t b o k : Nat} {f : Fr} (h : manyTy t = some k) (hz : sizeTy t = some k) (hx : ev n F x = .pointer (some ⟨b, o, none⟩)) (hc : ∀ (j : Nat) (v : Value), ((List.range k).map fun j => f (o + j))[j]? = some v → w.cell? ⟨b, o + j, none⟩ = some v) :
    PV Tryd.prog n w F ⟨d, .load t x, ty, pos, aft, g⟩ (.agg ((List.range k).map fun j => f (o + j)).toArray) := pf_loads h hz hx (by simp) hc
theorem pf_index {t e k m c b o i : Nat} {q : IntKind} {s : Option Addr} (h : slTy t = some (e, k)) (hx : ev n F x = .slice s m c) (hy : ev n F y = .int q i) (hs : s = some ⟨b, o, none⟩) (hi : i < m) :
    PV Tryd.prog n w F ⟨d, .indexAddr t x y, ty, pos, aft, g⟩ (.pointer (some ⟨b, o + i * k, none⟩)) := pv_index (slTy_ok h).1 (slTy_ok h).2 hx hy hs hi
theorem pf_index_a {t e k m b o i : Nat} {q : IntKind} (h : arrTy t = some (m, e, k)) (hx : ev n F x = .pointer (some ⟨b, o, none⟩)) (hy : ev n F y = .int q i) (hi : i < m) :
    PV Tryd.prog n w F ⟨d, .indexAddr t x y, ty, pos, aft, g⟩ (.pointer (some ⟨b, o + i * k, none⟩)) := pv_index_a (arrTy_ok h).1 (arrTy_ok h).2 hx hy hi
theorem pf_len {q p e k : Nat} {s : Option Addr} {m c : Nat} (h : slTy p = some (e, k)) (hx : ev n F x = .slice s m c) : PV Tryd.prog n w F ⟨d, .call ⟨.builtin .len, #[x], #[p]⟩, q, pos, aft, g⟩ (.int .i64 m) := pv_len (slTy_ok h).1 hx
theorem pf_lens {q p : Nat} {s : ByteArray} (h : strTy p = true) (hx : ev n F x = .string s) : PV Tryd.prog n w F ⟨d, .call ⟨.builtin .len, #[x], #[p]⟩, q, pos, aft, g⟩ (.int .i64 s.size) := pv_lens (strTy_ok h) hx
theorem pf_index_s {t : Nat} {s : ByteArray} {k : IntKind} {i : Nat} (h : strTy t = true) (hx : ev n F x = .string s) (hy : ev n F y = .int k i) (hi : i < s.size) : PV Tryd.prog n w F ⟨d, .index t x y, ty, pos, aft, g⟩ (.int .u8 (bAt s i)) :=
  pv_index_s (strTy_ok h) hx hy hi
theorem pf_conv {t t' : Nat} {k k' q : IntKind} {a : Int} (h : intTy t = some q) (h' : intTy t' = some k') (hx : ev n F x = .int k a) : PV Tryd.prog n w F ⟨d, .convert t t' x, ty, pos, aft, g⟩ (.int k' (k'.wrap a)) :=
  pv_conv (intTy_ok h') ⟨_, intTy_ok h⟩ hx
end
def zeroTy : Nat → Option Value
  | 1 => some (.nilFunc)
  | 2 => some (.int .i64 0)
  | 3 => some (.int .i64 0)
  | 4 => some (.bool false)
  | 5 => some (.int .u8 0)
  | 9 => some (.string ⟨#[]⟩)
  | 21 => some (.int .i32 0)
  | 22 => some (.nilFunc)
  | 23 => some (.string ⟨#[]⟩)
  | 24 => some (.nilFunc)
  | 25 => some (.nilFunc)
  | 26 => some (.nilFunc)
  | 27 => some (.nilFunc)
  | 28 => some (.slice none 0 0)
  | 29 => some (.agg #[.int .i64 0, .int .i64 0, .int .i64 0])
  | 31 => some (.nilFunc)
  | 32 => some (.nilFunc)
  | 33 => some (.slice none 0 0)
  | 35 => some (.nilFunc)
  | 36 => some (.nilFunc)
  | 37 => some (.int .u64 0)
  | 39 => some (.nilFunc)
  | 40 => some (.int .u64 0)
  | 41 => some (.nilFunc)
  | 42 => some (.nilFunc)
  | 43 => some (.nilFunc)
  | 44 => some (.slice none 0 0)
  | 45 => some (.slice none 0 0)
  | 46 => some (.slice none 0 0)
  | 47 => some (.slice none 0 0)
  | 48 => some (.slice none 0 0)
  | 49 => some (.agg #[.string ⟨#[]⟩, .int .i64 0, .int .i64 0, .int .i64 0, .int .i64 0, .int .i64 0, .slice none 0 0, .bool false, .slice none 0 0, .int .i64 0, .int .i64 0, .slice none 0 0, .slice none 0 0])
  | 50 => some (.agg #[.string ⟨#[]⟩, .int .i64 0, .int .i64 0, .int .i64 0, .int .i64 0, .int .i64 0, .slice none 0 0, .bool false, .slice none 0 0, .int .i64 0, .int .i64 0, .slice none 0 0, .slice none 0 0])
  | 51 => some (.nilFunc)
  | 53 => some (.nilFunc)
  | 54 => some (.map none)
  | 56 => some (.agg #[.int .i64 0, .int .i64 0])
  | 57 => some (.agg #[.int .i64 0, .int .i64 0])
  | 58 => some (.nilFunc)
  | 59 => some (.int .u16 0)
  | 60 => some (.nilFunc)
  | 61 => some (.agg #[.bool false, .string ⟨#[]⟩, .string ⟨#[]⟩])
  | 62 => some (.agg #[.bool false, .string ⟨#[]⟩, .string ⟨#[]⟩])
  | 64 => some (.nilFunc)
  | 65 => some (.nilFunc)
  | 66 => some (.nilFunc)
  | 67 => some (.nilFunc)
  | 68 => some (.agg #[.int .i64 0, .int .i64 0])
  | 69 => some (.nilFunc)
  | 70 => some (.nilFunc)
  | 71 => some (.nilFunc)
  | 72 => some (.nilFunc)
  | 73 => some (.nilFunc)
  | 74 => some (.slice none 0 0)
  | 75 => some (.nilFunc)
  | 76 => some (.slice none 0 0)
  | 77 => some (.nilFunc)
  | 78 => some (.nilFunc)
  | 79 => some (.nilFunc)
  | 80 => some (.nilFunc)
  | 81 => some (.nilFunc)
  | 82 => some (.nilFunc)
  | 84 => some (.nilFunc)
  | 85 => some (.map none)
  | 86 => some (.nilFunc)
  | 87 => some (.nilFunc)
  | 88 => some (.nilFunc)
  | 89 => some (.nilFunc)
  | 90 => some (.nilFunc)
  | 91 => some (.nilFunc)
  | 92 => some (.nilFunc)
  | 93 => some (.int .u32 0)
  | 94 => some (.nilFunc)
  | 95 => some (.nilFunc)
  | 96 => some (.nilFunc)
  | 97 => some (.nilFunc)
  | 98 => some (.nilFunc)
  | 99 => some (.nilFunc)
  | 100 => some (.nilFunc)
  | 101 => some (.nilFunc)
  | 102 => some (.agg #[.bool false, .bool false])
  | 104 => some (.nilFunc)
  | 105 => some (.nilFunc)
  | 106 => some (.nilFunc)
  | 107 => some (.nilFunc)
  | 108 => some (.nilFunc)
  | 109 => some (.nilFunc)
  | 110 => some (.nilFunc)
  | 111 => some (.agg #[.bool false, .string ⟨#[]⟩, .string ⟨#[]⟩])
  | 112 => some (.nilFunc)
  | 113 => some (.nilFunc)
  | 114 => some (.nilFunc)
  | 115 => some (.nilFunc)
  | 119 => some (.nilFunc)
  | 120 => some (.nilFunc)
  | 121 => some (.pointer none)
  | 122 => some (.nilFunc)
  | 123 => some (.nilFunc)
  | 125 => some (.nilFunc)
  | 126 => some (.nilFunc)
  | 127 => some (.nilFunc)
  | 129 => some (.agg #[.int .u8 0, .int .u8 0])
  | 130 => some (.agg #[.int .u8 0, .int .u8 0])
  | 131 => some (.agg #[.int .u8 0, .int .u8 0, .int .u8 0, .int .u8 0, .int .u8 0, .int .u8 0, .int .u8 0, .int .u8 0, .int .u8 0, .int .u8 0, .int .u8 0, .int .u8 0, .int .u8 0, .int .u8 0, .int .u8 0, .int .u8 0, .int .u8 0, .int .u8 0, .int .u8 0, .int .u8 0, .int .u8 0, .int .u8 0, .int .u8 0, .int .u8 0, .int .u8 0, .int .u8 0, .int .u8 0, .int .u8 0, .int .u8 0, .int .u8 0, .int .u8 0, .int .u8 0])
  | 132 => some (.nilFunc)
  | 133 => some (.nilFunc)
  | 134 => some (.nilFunc)
  | 135 => some (.nilFunc)
  | 141 => some (.nilFunc)
  | 145 => some (.pointer none)
  | 150 => some (.agg #[.string ⟨#[]⟩, .int .i64 0])
  | 151 => some (.agg #[.string ⟨#[]⟩, .int .i64 0])
  | 152 => some (.agg #[.string ⟨#[]⟩, .int .i64 0, .int .i64 0])
  | 153 => some (.agg #[.string ⟨#[]⟩, .int .i64 0, .int .i64 0])
  | _ => none
theorem zeroTy_ok {t : Nat} {z : Value} (h : zeroTy t = some z) : TZero Tryd.prog t z := by
  unfold zeroTy at h
  split at h
  · cases h; unfold TZero; kernel_rfl
  · cases h; unfold TZero; kernel_rfl
  · cases h; unfold TZero; kernel_rfl
  · cases h; unfold TZero; kernel_rfl
  · cases h; unfold TZero; kernel_rfl
  · cases h; unfold TZero; kernel_rfl
  · cases h; unfold TZero; kernel_rfl
  · cases h; unfold TZero; kernel_rfl
  · cases h; unfold TZero; kernel_rfl
  · cases h; unfold TZero; kernel_rfl
  · cases h; unfold TZero; kernel_rfl
  · cases h; unfold TZero; kernel_rfl
  · cases h; unfold TZero; kernel_rfl
  · cases h; unfold TZero; kernel_rfl
  · cases h; unfold TZero; kernel_rfl
  · cases h; unfold TZero; kernel_rfl
  · cases h; unfold TZero; kernel_rfl
  · cases h; unfold TZero; kernel_rfl
  · cases h; unfold TZero; kernel_rfl
  · cases h; unfold TZero; kernel_rfl
  · cases h; unfold TZero; kernel_rfl
  · cases h; unfold TZero; kernel_rfl
  · cases h; unfold TZero; kernel_rfl
  · cases h; unfold TZero; kernel_rfl
  · cases h; unfold TZero; kernel_rfl
  · cases h; unfold TZero; kernel_rfl
  · cases h; unfold TZero; kernel_rfl
  · cases h; unfold TZero; kernel_rfl
  · cases h; unfold TZero; kernel_rfl
  · cases h; unfold TZero; kernel_rfl
  · cases h; unfold TZero; kernel_rfl
  · cases h; unfold TZero; kernel_rfl
  · cases h; unfold TZero; kernel_rfl
  · cases h; unfold TZero; kernel_rfl
  · cases h; unfold TZero; kernel_rfl
  · cases h; unfold TZero; kernel_rfl
  · cases h; unfold TZero; kernel_rfl
  · cases h; unfold TZero; kernel_rfl
  · cases h; unfold TZero; kernel_rfl
  · cases h; unfold TZero; kernel_rfl
  · cases h; unfold TZero; kernel_rfl
  · cases h; unfold TZero; kernel_rfl
  · cases h; unfold TZero; kernel_rfl
  · cases h; unfold TZero; kernel_rfl
  · cases h; unfold TZero; kernel_rfl
  · cases h; unfold TZero; kernel_rfl
  · cases h; unfold TZero; kernel_rfl
  · cases h; unfold TZero; kernel_rfl
  · cases h; unfold TZero; kernel_rfl
  · cases h; unfold TZero; kernel_rfl
  · cases h; unfold TZero; kernel_rfl
  · cases h; unfold TZero; kernel_rfl
  · cases h; unfold TZero; kernel_rfl
  · cases h; unfold TZero; kernel_rfl
  · cases h; unfold TZero; kernel_rfl
  · cases h; unfold TZero; kernel_rfl
  · cases h; unfold TZero; kernel_rfl
  · cases h; unfold TZero; kernel_rfl
  · cases h; unfold TZero; kernel_rfl
  · cases h; unfold TZero; kernel_rfl
  · cases h; unfold TZero; kernel_rfl
  · cases h; unfold TZero; kernel_rfl
  · cases h; unfold TZero; kernel_rfl
  · cases h; unfold TZero; kernel_rfl
  · cases h; unfold TZero; kernel_rfl
  · cases h; unfold TZero; kernel_rfl
  · cases h; unfold TZero; kernel_rfl
  · cases h; unfold TZero; kernel_rfl
  · cases h; unfold TZero; kernel_rfl
  · cases h; unfold TZero; kernel_rfl
  · cases h; unfold TZero; kernel_rfl
  · cases h; unfold TZero; kernel_rfl
  · cases h; unfold TZero; kernel_rfl
  · cases h; unfold TZero; kernel_rfl
  · cases h; unfold TZero; kernel_rfl
  · cases h; unfold TZero; kernel_rfl
  · cases h; unfold TZero; kernel_rfl
  · cases h; unfold TZero; kernel_rfl
  · cases h; unfold TZero; kernel_rfl
  · cases h; unfold TZero; kernel_rfl
  · cases h; unfold TZero; kernel_rfl
  · cases h; unfold TZero; kernel_rfl
  · cases h; unfold TZero; kernel_rfl
  · cases h; unfold TZero; kernel_rfl
  · cases h; unfold TZero; kernel_rfl
  · cases h; unfold TZero; kernel_rfl
  · cases h; unfold TZero; kernel_rfl
  · cases h; unfold TZero; kernel_rfl
  · cases h; unfold TZero; kernel_rfl
  · cases h; unfold TZero; kernel_rfl
  · cases h; unfold TZero; kernel_rfl
  · cases h; unfold TZero; kernel_rfl
  · cases h; unfold TZero; kernel_rfl
  · cases h; unfold TZero; kernel_rfl
  · cases h; unfold TZero; kernel_rfl
  · cases h; unfold TZero; kernel_rfl
  · cases h; unfold TZero; kernel_rfl
  · cases h; unfold TZero; kernel_rfl
  · cases h; unfold TZero; kernel_rfl
  · cases h; unfold TZero; kernel_rfl
  · cases h; unfold TZero; kernel_rfl
  · cases h; unfold TZero; kernel_rfl
  · cases h; unfold TZero; kernel_rfl
  · cases h; unfold TZero; kernel_rfl
  · cases h; unfold TZero; kernel_rfl
  · cases h; unfold TZero; kernel_rfl
  · cases h; unfold TZero; kernel_rfl
  · cases h; unfold TZero; kernel_rfl
  · cases h; unfold TZero; kernel_rfl
  · cases h; unfold TZero; kernel_rfl
  · cases h; unfold TZero; kernel_rfl
  · cases h; unfold TZero; kernel_rfl
  · cases h; unfold TZero; kernel_rfl
  · cases h; unfold TZero; kernel_rfl
  · cases h
def byteTy : Nat → Option Nat
  | 1 => some 8
  | 2 => some 8
  | 3 => some 8
  | 4 => some 1
  | 5 => some 1
  | 9 => some 16
  | 21 => some 4
  | 22 => some 8
  | 23 => some 16
  | 24 => some 8
  | 25 => some 8
  | 26 => some 8
  | 27 => some 8
  | 28 => some 24
  | 29 => some 24
  | 31 => some 8
  | 32 => some 8
  | 33 => some 24
  | 35 => some 8
  | 36 => some 8
  | 37 => some 8
  | 39 => some 8
  | 40 => some 8
  | 41 => some 8
  | 42 => some 8
  | 43 => some 8
  | 44 => some 24
  | 45 => some 24
  | 46 => some 24
  | 47 => some 24
  | 48 => some 24
  | 49 => some 176
  | 50 => some 176
  | 51 => some 8
  | 53 => some 8
  | 54 => some 8
  | 56 => some 16
  | 57 => some 16
  | 58 => some 8
  | 59 => some 2
  | 60 => some 8
  | 61 => some 40
  | 62 => some 40
  | 64 => some 8
  | 65 => some 8
  | 66 => some 8
  | 67 => some 8
  | 68 => some 16
  | 69 => some 8
  | 70 => some 8
  | 71 => some 8
  | 72 => some 8
  | 73 => some 8
  | 74 => some 24
  | 75 => some 8
  | 76 => some 24
  | 77 => some 8
  | 78 => some 8
  | 79 => some 8
  | 80 => some 8
  | 81 => some 8
  | 82 => some 8
  | 84 => some 8
  | 85 => some 8
  | 86 => some 8
  | 87 => some 8
  | 88 => some 8
  | 89 => some 8
  | 90 => some 8
  | 91 => some 8
  | 92 => some 8
  | 93 => some 4
  | 94 => some 8
  | 95 => some 8
  | 96 => some 8
  | 97 => some 8
  | 98 => some 8
  | 99 => some 8
  | 100 => some 8
  | 101 => some 8
  | 102 => some 2
  | 104 => some 8
  | 105 => some 8
  | 106 => some 8
  | 107 => some 8
  | 108 => some 8
  | 109 => some 8
  | 110 => some 8
  | 111 => some 40
  | 112 => some 8
  | 113 => some 8
  | 114 => some 8
  | 115 => some 8
  | 116 => some 256
  | 117 => some 256
  | 119 => some 8
  | 120 => some 8
  | 121 => some 8
  | 122 => some 8
  | 123 => some 8
  | 125 => some 8
  | 126 => some 8
  | 127 => some 8
  | 128 => some 256
  | 129 => some 2
  | 130 => some 2
  | 131 => some 32
  | 132 => some 8
  | 133 => some 8
  | 134 => some 8
  | 135 => some 8
  | 141 => some 8
  | 145 => some 8
  | 150 => some 24
  | 151 => some 24
  | 152 => some 32
  | 153 => some 32
  | _ => none
theorem byteTy_ok {t k : Nat} (h : byteTy t = some k) : TBytes Tryd.prog t k := by
  unfold byteTy at h
  split at h
  · cases h; unfold TBytes; kernel_rfl
  · cases h; unfold TBytes; kernel_rfl
  · cases h; unfold TBytes; kernel_rfl
  · cases h; unfold TBytes; kernel_rfl
  · cases h; unfold TBytes; kernel_rfl
  · cases h; unfold TBytes; kernel_rfl
  · cases h; unfold TBytes; kernel_rfl
  · cases h; unfold TBytes; kernel_rfl
  · cases h; unfold TBytes; kernel_rfl
  · cases h; unfold TBytes; kernel_rfl
  · cases h; unfold TBytes; kernel_rfl
  · cases h; unfold TBytes; kernel_rfl
  · cases h; unfold TBytes; kernel_rfl
  · cases h; unfold TBytes; kernel_rfl
  · cases h; unfold TBytes; kernel_rfl
  · cases h; unfold TBytes; kernel_rfl
  · cases h; unfold TBytes; kernel_rfl
  · cases h; unfold TBytes; kernel_rfl
  · cases h; unfold TBytes; kernel_rfl
  · cases h; unfold TBytes; kernel_rfl
  · cases h; unfold TBytes; kernel_rfl
  · cases h; unfold TBytes; kernel_rfl
  · cases h; unfold TBytes; kernel_rfl
  · cases h; unfold TBytes; kernel_rfl
  · cases h; unfold TBytes; kernel_rfl
  · cases h; unfold TBytes; kernel_rfl
  · cases h; unfold TBytes; kernel_rfl
  · cases h; unfold TBytes; kernel_rfl
  · cases h; unfold TBytes; kernel_rfl
  · cases h; unfold TBytes; kernel_rfl
  · cases h; unfold TBytes; kernel_rfl
  · cases h; unfold TBytes; kernel_rfl
  · cases h; unfold TBytes; kernel_rfl
  · cases h; unfold TBytes; kernel_rfl
  · cases h; unfold TBytes; kernel_rfl
  · cases h; unfold TBytes; kernel_rfl
  · cases h; unfold TBytes; kernel_rfl
  · cases h; unfold TBytes; kernel_rfl
  · cases h; unfold TBytes; kernel_rfl
  · cases h; unfold TBytes; kernel_rfl
  · cases h; unfold TBytes; kernel_rfl
  · cases h; unfold TBytes; kernel_rfl
  · cases h; unfold TBytes; kernel_rfl
  · cases h; unfold TBytes; kernel_rfl
  · cases h; unfold TBytes; kernel_rfl
  · cases h; unfold TBytes; kernel_rfl
  · cases h; unfold TBytes; kernel_rfl
  · cases h; unfold TBytes; kernel_rfl
  · cases h; unfold TBytes; kernel_rfl
  · cases h; unfold TBytes; kernel_rfl
  · cases h; unfold TBytes; kernel_rfl
  · cases h; unfold TBytes; kernel_rfl
  · cases h; unfold TBytes; kernel_rfl
  · cases h; unfold TBytes; kernel_rfl
  · cases h; unfold TBytes; kernel_rfl
  · cases h; unfold TBytes; kernel_rfl
  · cases h; unfold TBytes; kernel_rfl
  · cases h; unfold TBytes; kernel_rfl
  · cases h; unfold TBytes; kernel_rfl
  · cases h; unfold TBytes; kernel_rfl
  · cases h; unfold TBytes; kernel_rfl
  · cases h; unfold TBytes; kernel_rfl
  · cases h; unfold TBytes; kernel_rfl
  · cases h; unfold TBytes; kernel_rfl
  · cases h; unfold TBytes; kernel_rfl
  · cases h; unfold TBytes; kernel_rfl
  · cases h; unfold TBytes; kernel_rfl
  · cases h; unfold TBytes; kernel_rfl
  · cases h; unfold TBytes; kernel_rfl
  · cases h; unfold TBytes; kernel_rfl
  · cases h; unfold TBytes; kernel_rfl
  · cases h; unfold TBytes; kernel_rfl
  · cases h; unfold TBytes; kernel_rfl
  · cases h; unfold TBytes; kernel_rfl
  · cases h; unfold TBytes; kernel_rfl
  · cases h; unfold TBytes; kernel_rfl
  · cases h; unfold TBytes; kernel_rfl
  · cases h; unfold TBytes; kernel_rfl
  · cases h; unfold TBytes; kernel_rfl
  · cases h; unfold TBytes; kernel_rfl
  · cases h; unfold TBytes; kernel_rfl
  · cases h; unfold TBytes; kernel_rfl
  · cases h; unfold TBytes; kernel_rfl
  · cases h; unfold TBytes; kernel_rfl
  · cases h; unfold TBytes; kernel_rfl
  · cases h; unfold TBytes; kernel_rfl
  · cases h; unfold TBytes; kernel_rfl
  · cases h; unfold TBytes; kernel_rfl
  · cases h; unfold TBytes; kernel_rfl
  · cases h; unfold TBytes; kernel_rfl
  · cases h; unfold TBytes; kernel_rfl
  · cases h; unfold TBytes; kernel_rfl
  · cases h; unfold TBytes; kernel_rfl
  · cases h; unfold TBytes; kernel_rfl
  · cases h; unfold TBytes; kernel_rfl
  · cases h; unfold TBytes; kernel_rfl
  · cases h; unfold TBytes; kernel_rfl
  · cases h; unfold TBytes; kernel_rfl
  · cases h; unfold TBytes; kernel_rfl
  · cases h; unfold TBytes; kernel_rfl
  · cases h; unfold TBytes; kernel_rfl
  · cases h; unfold TBytes; kernel_rfl
  · cases h; unfold TBytes; kernel_rfl
  · cases h; unfold TBytes; kernel_rfl
  · cases h; unfold TBytes; kernel_rfl
  · cases h; unfold TBytes; kernel_rfl
  · cases h; unfold TBytes; kernel_rfl
  · cases h; unfold TBytes; kernel_rfl
  · cases h; unfold TBytes; kernel_rfl
  · cases h; unfold TBytes; kernel_rfl
  · cases h; unfold TBytes; kernel_rfl
  · cases h; unfold TBytes; kernel_rfl
  · cases h; unfold TBytes; kernel_rfl
  · cases h; unfold TBytes; kernel_rfl
  · cases h; unfold TBytes; kernel_rfl
  · cases h; unfold TBytes; kernel_rfl
  · cases h; unfold TBytes; kernel_rfl
  · cases h
def mapTyI : Nat → Option (Nat × Nat × Value)
  | 54 => some (3, 3, .int .i64 0)
  | 85 => some (3, 4, .bool false)
  | _ => none
theorem mapTyI_ok {t k e : Nat} {z : Value} (h : mapTyI t = some (k, e, z)) : Tryd.prog.underlying t = some (.map k e) ∧ Tryd.prog.underlying k = some kInt.kd ∧ TZero Tryd.prog e z := by
  unfold mapTyI at h
  split at h
  · cases h; exact ⟨Tryd.underlying54, Tryd.underlying3, zeroTy_ok rfl⟩
  · cases h; exact ⟨Tryd.underlying85, Tryd.underlying3, zeroTy_ok rfl⟩
  · cases h
def mapTyS : Nat → Option (Nat × Nat × Value)
  | _ => none
theorem mapTyS_ok {t k e : Nat} {z : Value} (h : mapTyS t = some (k, e, z)) : Tryd.prog.underlying t = some (.map k e) ∧ Tryd.prog.underlying k = some kStr.kd ∧ TZero Tryd.prog e z := by
  unfold mapTyS at h
  split at h
  · cases h
def flatTy : Nat → Option Nat
  | 49 => some 13
  | 50 => some 13
  | 56 => some 2
  | 57 => some 2
  | 61 => some 3
  | 62 => some 3
  | 111 => some 3
  | 129 => some 2
  | 130 => some 2
  | 150 => some 2
  | 151 => some 2
  | 152 => some 3
  | 153 => some 3
  | _ => none
theorem flatTy_ok {t k : Nat} (h : flatTy t = some k) : FlatAt Tryd.prog t k := by
  unfold flatTy at h
  split at h
  · cases h; exact ⟨_, Tryd.underlying49, fun w => ⟨#[(0, 1), (1, 1), (2, 1), (3, 1), (4, 1), (5, 1), (6, 1), (7, 1), (8, 1), (9, 1), (10, 1), (11, 1), (12, 1)], by kernel_rfl, by decide⟩⟩
  · cases h; exact ⟨_, Tryd.underlying50, fun w => ⟨#[(0, 1), (1, 1), (2, 1), (3, 1), (4, 1), (5, 1), (6, 1), (7, 1), (8, 1), (9, 1), (10, 1), (11, 1), (12, 1)], by kernel_rfl, by decide⟩⟩
  · cases h; exact ⟨_, Tryd.underlying56, fun w => ⟨#[(0, 1), (1, 1)], by kernel_rfl, by decide⟩⟩
  · cases h; exact ⟨_, Tryd.underlying57, fun w => ⟨#[(0, 1), (1, 1)], by kernel_rfl, by decide⟩⟩
  · cases h; exact ⟨_, Tryd.underlying61, fun w => ⟨#[(0, 1), (1, 1), (2, 1)], by kernel_rfl, by decide⟩⟩
  · cases h; exact ⟨_, Tryd.underlying62, fun w => ⟨#[(0, 1), (1, 1), (2, 1)], by kernel_rfl, by decide⟩⟩
  · cases h; exact ⟨_, Tryd.underlying111, fun w => ⟨#[(0, 1), (1, 1), (2, 1)], by kernel_rfl, by decide⟩⟩
  · cases h; exact ⟨_, Tryd.underlying129, fun w => ⟨#[(0, 1), (1, 1)], by kernel_rfl, by decide⟩⟩
  · cases h; exact ⟨_, Tryd.underlying130, fun w => ⟨#[(0, 1), (1, 1)], by kernel_rfl, by decide⟩⟩
  · cases h; exact ⟨_, Tryd.underlying150, fun w => ⟨#[(0, 1), (1, 1)], by kernel_rfl, by decide⟩⟩
  · cases h; exact ⟨_, Tryd.underlying151, fun w => ⟨#[(0, 1), (1, 1)], by kernel_rfl, by decide⟩⟩
  · cases h; exact ⟨_, Tryd.underlying152, fun w => ⟨#[(0, 1), (1, 1), (2, 1)], by kernel_rfl, by decide⟩⟩
  · cases h; exact ⟨_, Tryd.underlying153, fun w => ⟨#[(0, 1), (1, 1), (2, 1)], by kernel_rfl, by decide⟩⟩
  · cases h
section
variable {n : Nat} {w w0 : World} {M : List Nat} {L : List Ent} {F : Fr} {d : Option Tmp} {ty : TypeId} {pos : String} {aft : Array Edge} {g : Option (Nat × Bool)} {x y : Operand}
theorem pf_build {t k : Nat} {ps : Array (Nat × Operand)} {zs : List Value} (hf : flatTy t = some k) (hz : zeroTy t = some (.agg zs.toArray)) (hl : zs.length = k)
    (hall : ((ps.toList.map fun p => (p.1, ev n F p.2)).all fun p => Nat.blt p.1 k && Nat.beq p.2.cells.size 1) = true) :
    PV Tryd.prog n w F ⟨d, .build t ps, ty, pos, aft, g⟩ (.agg (fillL 1 zs (ps.toList.map fun p => (p.1, ev n F p.2))).toArray) := pv_build_s (flatTy_ok hf) (zeroTy_ok hz) hl hall
theorem pf_build_a {t k e sz : Nat} {ps : Array (Nat × Operand)} {zs : List Value} (ht : arrTy t = some (k, e, sz)) (hz : zeroTy t = some (.agg zs.toArray)) (hl : zs.length = k * sz)
    (hall : ((ps.toList.map fun p => (p.1, ev n F p.2)).all fun p => Nat.blt p.1 k && Nat.beq p.2.cells.size sz) = true) :
    PV Tryd.prog n w F ⟨d, .build t ps, ty, pos, aft, g⟩ (.agg (fillL sz zs (ps.toList.map fun p => (p.1, ev n F p.2))).toArray) := pv_build_a (arrTy_ok ht).1 (arrTy_ok ht).2 (zeroTy_ok hz) hl hall
theorem sf_slice {t e sz k : Nat} {ps : Array (Nat × Operand)} {z : Value} {vs : List (Nat × Value)} {cs : List Value} (hp : Hp w0 M w L) (ht : slTy t = some (e, sz)) (hz : zeroTy e = some z)
    (hvs : (ps.toList.map fun p => (p.1, ev n F p.2)) = vs) (ho : ordered sz 0 vs = true) (hk : vs.length = k) (hcs : vs.flatMap (fun p => p.2.cells.toList) = cs) (hsm : Nat.ble (k * sz) 16777216 = true) :
    StepF Tryd.prog n ⟨d, .buildSlice t k ps, ty, pos, aft, g⟩ F w (fun u w' => ∃ b, u = .slice (some ⟨b, 0, none⟩) k k ∧ Hp w0 M w' (blk b cs.length (frOf cs) e :: L)) :=
  st_buildSlice hp (slTy_ok ht).1 (slTy_ok ht).2 (zeroTy_ok hz) hvs ho hk hcs (Nat.le_of_ble_eq_true hsm)
theorem sf_append {t e size by_ : Nat} {z v : Value} {m k c : Nat} {xs news : List Value} {s : Option Addr} (hp : Hp w0 M w L) (i : Nat) (ht : slTy t = some (e, size)) (hby : byteTy e = some by_) (hz : zeroTy e = some z)
    (hzs : z.cells.size = size) (hpos : Nat.blt 0 size = true) (hx : ev n F x = v) (hy : ev n F y = .slice s k c) (hi : L[i]? = some (ownE v e size m xs)) (hv : SV v m) (hl : xs.length = m * size) (hn : news.length = k * size)
    (hsrc : ∀ (j : Nat) (u : Value), news[j]? = some u → ∃ b o, s = some ⟨b, o, none⟩ ∧ w.cell? ⟨b, o + j, none⟩ = some u) (h1 : ∀ u ∈ news, oneV u = true)
    (hb1 : m + k ≤ maxLen) (hb2 : (m + k) * by_ ≤ 140737488355328) :
    StepF Tryd.prog n ⟨d, .call ⟨.builtin .append, #[x, y], #[t, t]⟩, ty, pos, aft, g⟩ F w (fun u w' => SV u (m + k) ∧ Hp w0 M w' (L.set i (ownE u e size (m + k) (xs ++ news)))) :=
  st_append hp i (slTy_ok ht).1 (slTy_ok ht).2 (byteTy_ok hby) (zeroTy_ok hz) hzs (lt_of_nblt hpos) hx hy hi hv hl hn hsrc h1 hb1 hb2
end
theorem run_cellRes {n : Nat} {F : Fr} {w : World} {fn : Func} {p ty b o k : Nat} {vs : List Value} (h : fn.results = #[.cell p ty]) (h1 : manyTy ty = some k) (hz : sizeTy ty = some k) (hx : ev n F (.tmp p) = .pointer (some ⟨b, o, none⟩)) (hl : vs.length = k)
    (hc : ∀ (j : Nat) (v : Value), vs[j]? = some v → w.cell? ⟨b, o + j, none⟩ = some v) : (results fn (act n F).tmps).run Tryd.prog w = .ok (.agg vs.toArray) w := by
  obtain ⟨q, hq, hq1⟩ := manyTy_ok h1
  have hk := sizeTy_ok hz
  subst hl
  have := run_loadFrom (P := Tryd.prog) (w := w) b o vs 0 #[] (fun j v hv => by simpa using hc j v hv)
  have hx' : (act n F).tmps.getD p undef = .pointer (some ⟨b, o, none⟩) := by
    rw [← hx, ← act_eval]
    rfl
  have hx2 : (act n F).tmps[p]?.getD undef = .pointer (some ⟨b, o, none⟩) := by simpa using hx'
  simp [results, h, hx2, asAddr, loadVar, run_many hq hq1, loadCells, hk.run, this]
theorem ret_cell {n : Nat} {F : Fr} {w : World} {fn : Func} {R : Ending → World → Prop} {p ty b o k : Nat} {f : Fr} (h : fn.results = #[.cell p ty]) (h1 : manyTy ty = some k) (hz : sizeTy ty = some k) (hx : ev n F (.tmp p) = .pointer (some ⟨b, o, none⟩))
    (hc : ∀ (j : Nat) (v : Value), ((List.range k).map fun j => f (o + j))[j]? = some v → w.cell? ⟨b, o + j, none⟩ = some v) (hr : R (.returned (.agg ((List.range k).map fun j => f (o + j)).toArray)) w) : retQ Tryd.prog n fn R .ret F w :=
  ⟨_, run_cellRes h h1 hz hx (by simp) hc, hr⟩

section
variable {n : Nat} {F : Fr} {w : World} {d : Option Tmp} {ty : TypeId} {pos : String} {aft : Array Edge} {g : Option (Nat × Bool)} {x y : Operand}
theorem pv_sliceTo {t e k m c h : Nat} {q : IntKind} {s : Option Addr} (ht : slTy t = some (e, k)) (hx : ev n F x = .slice s m c) (hy : ev n F y = .int q h) (hh : h ≤ c) :
    PV Tryd.prog n w F ⟨d, .slice t x none (some y) none, ty, pos, aft, g⟩ (.slice s h c) := by
  have hb := run_bound (P := Tryd.prog) (w := w) (c := .sliceAcap) hy hh
  have e1 : (if c = 0 then s else s.map (·.add (0 * k))) = s := by
    split
    · rfl
    · cases s <;> simp [addr_add0]
  simp only [PV, execOp, Instr.sliceAt, Instr.slice, hx, Sem.run_bind, run_und (slTy_ok ht).1, Result.andThen_ok, Instr.sliceBounds, Sem.run_pure, Option.map_none, Option.map_some, hb, (slTy_ok ht).2.run, if_true, Nat.sub_zero, e1]
theorem pf_build_ord {t k e sz : Nat} {ps : Array (Nat × Operand)} {zs : List Value} {vs : List (Nat × Value)} (ht : arrTy t = some (k, e, sz)) (hz : zeroTy t = some (.agg zs.toArray)) (hl : zs.length = k * sz)
    (hvs : (ps.toList.map fun p => (p.1, ev n F p.2)) = vs) (ho : ordered sz 0 vs = true) (hk : vs.length = k) :
    PV Tryd.prog n w F ⟨d, .build t ps, ty, pos, aft, g⟩ (.agg (vs.flatMap fun p => p.2.cells.toList).toArray) := by
  have h1 := pf_build_a (w := w) (d := d) (ty := ty) (pos := pos) (aft := aft) (g := g) (n := n) (F := F) (ps := ps) ht hz hl (by rw [hvs]; exact ordered_all sz k vs 0 ho (by omega))
  have h2 := fillL_ord sz vs 0 [] zs ho (by simp) (by rw [hl, hk])
  rw [hvs] at h1
  rw [List.nil_append, List.nil_append] at h2
  rw [h2] at h1
  exact h1
end
section
variable {n : Nat} {w w0 : World} {M : List Nat} {L : List Ent} {F : Fr} {d : Option Tmp} {ty : TypeId} {pos : String} {aft : Array Edge} {g : Option (Nat × Bool)} {x y : Operand}
theorem sf_app1 {α : Type} (enc : α → List Value) (l : List α) (xv : α) {t e k by_ b c : Nat} {z : Value} {s : Option Addr} (hp : Hp w0 M w L) (i j : Nat) (ht : slTy t = some (e, k)) (hby : byteTy e = some by_) (hz : zeroTy e = some z)
    (hzs : z.cells.size = k) (hpos : Nat.blt 0 k = true) (hb : Nat.ble by_ 1000 = true) (hk : ∀ x, (enc x).length = k) (hx : ev n F x = .slice s l.length c) (hy : ev n F y = .slice (some ⟨b, 0, none⟩) 1 1)
    (hi : L[i]? = some (ownL enc e k s c l)) (hv : SVL s c l) (hj : L[j]? = some (blk b (enc xv).length (frOf (enc xv)) e)) (h1 : (enc xv).all oneV = true) (hlen : l.length < 1000000) :
    StepF Tryd.prog n ⟨d, .call ⟨.builtin .append, #[x, y], #[t, t]⟩, ty, pos, aft, g⟩ F w
      (fun u w' => ∃ s' c', u = .slice s' (l ++ [xv]).length c' ∧ SVL s' c' (l ++ [xv]) ∧ Hp w0 M w' (L.set i (ownL enc e k s' c' (l ++ [xv])))) := by
  have hb' := Nat.le_of_ble_eq_true hb
  have hb2 : (l.length + 1) * by_ ≤ 1000000 * 1000 := Nat.mul_le_mul (by omega) hb'
  refine (sf_append hp i ht hby hz hzs hpos hx hy hi hv (flatMap_len enc k hk l) (by rw [hk]; omega) (blk_src hp j hj) (by simpa [List.all_eq_true] using h1) (by unfold maxLen; omega) (by omega)).mono ?_
  rintro u w' ⟨h2, h3⟩
  obtain ⟨s', c', rfl⟩ := h2.ex
  have e1 : (l ++ [xv]).length = l.length + 1 := by simp
  have e2 : (l ++ [xv]).flatMap enc = l.flatMap enc ++ enc xv := by simp
  refine ⟨s', c', by rw [e1], by unfold SVL; rw [e1]; exact h2, ?_⟩
  unfold ownL
  rw [e1, e2]
  exact h3
end

section
variable {n : Nat} {w w0 : World} {M : List Nat} {L : List Ent} {F : Fr} {d : Option Tmp} {ty : TypeId} {pos : String} {aft : Array Edge} {g : Option (Nat × Bool)} {x y : Operand}
/-- append onto an owned list: the elements of another one -/
theorem sf_app {α : Type} (enc : α → List Value) (l l2 : List α) {t e k by_ c c2 : Nat} {z : Value} {s s2 : Option Addr} (hp : Hp w0 M w L) (i : Nat) (ht : slTy t = some (e, k)) (hby : byteTy e = some by_) (hz : zeroTy e = some z)
    (hzs : z.cells.size = k) (hpos : Nat.blt 0 k = true) (hb : Nat.ble by_ 1000 = true) (hk : ∀ x, (enc x).length = k) (hx : ev n F x = .slice s l.length c) (hy : ev n F y = .slice s2 l2.length c2)
    (hi : L[i]? = some (ownL enc e k s c l)) (hv : SVL s c l) (hs : SlAt w k enc s2 l2) (h1 : ∀ x, (enc x).all oneV = true) (hlen : l.length + l2.length < 1000000) :
    StepF Tryd.prog n ⟨d, .call ⟨.builtin .append, #[x, y], #[t, t]⟩, ty, pos, aft, g⟩ F w
      (fun u w' => ∃ s' c', u = .slice s' (l ++ l2).length c' ∧ SVL s' c' (l ++ l2) ∧ Hp w0 M w' (L.set i (ownL enc e k s' c' (l ++ l2)))) := by
  have hb' := Nat.le_of_ble_eq_true hb
  have hb2 : (l.length + l2.length) * by_ ≤ 1000000 * 1000 := Nat.mul_le_mul (by omega) hb'
  refine (sf_append hp i ht hby hz hzs hpos hx hy hi hv (flatMap_len enc k hk l) (flatMap_len enc k hk l2) (hs.src hk) ?_ (by unfold maxLen; omega) (by omega)).mono ?_
  · intro u hu
    rw [List.mem_flatMap] at hu
    obtain ⟨a, _, ha⟩ := hu
    exact List.all_eq_true.1 (h1 a) u ha
  rintro u w' ⟨h2, h3⟩
  obtain ⟨s', c', rfl⟩ := h2.ex
  have e1 : (l ++ l2).length = l.length + l2.length := by simp
  have e2 : (l ++ l2).flatMap enc = l.flatMap enc ++ l2.flatMap enc := by simp
  refine ⟨s', c', by rw [e1], by unfold SVL; rw [e1]; exact h2, ?_⟩
  unfold ownL
  rw [e1, e2]
  exact h3
theorem sf_clone {α : Type} (enc : α → List Value) (l : List α) {t e k by_ b c : Nat} {z : Value} {s : Option Addr} (hp : Hp w0 M w L) (i : Nat) (ht : slTy t = some (e, k)) (hby : byteTy e = some by_) (hz : zeroTy e = some z)
    (hzs : z.cells.size = k) (hpos : Nat.blt 0 k = true) (hb : Nat.ble by_ 1000 = true) (hk : ∀ x, (enc x).length = k) (hx : ev n F x = .slice (some ⟨b, 0, none⟩) 0 0) (hy : ev n F y = .slice s l.length c)
    (hi : L[i]? = some (blk b 0 (frOf []) e)) (hs : SlAt w k enc s l) (h1 : ∀ x, (enc x).all oneV = true) (hlen : l.length < 1000000) :
    StepF Tryd.prog n ⟨d, .call ⟨.builtin .append, #[x, y], #[t, t]⟩, ty, pos, aft, g⟩ F w
      (fun u w' => ∃ s' c', u = .slice s' l.length c' ∧ SVL s' c' l ∧ Hp w0 M w' (L.set i (ownL enc e k s' c' l))) := by
  have hr := hp.rowOf (cs := []) i k 0 hi (by simp)
  have hlt := (List.getElem?_eq_some_iff.1 hi).1
  refine (sf_app enc ([] : List α) l (s := some ⟨b, 0, none⟩) (c := 0) hr i ht hby hz hzs hpos hb hk hx hy (by rw [List.getElem?_set, if_pos rfl, if_pos hlt]; rfl) (.inr ⟨b, 0, rfl, by simp, by unfold maxLen; omega⟩) hs h1 (by simpa using hlen)).mono ?_
  rintro u w' ⟨s', c', h2, h3, h4⟩
  rw [List.set_set] at h4
  exact ⟨s', c', h2, h3, h4⟩
theorem pf_bts {t t' e b o len cap : Nat} {ns : List Int} (ht : slTy t = some (e, 1)) (he : intTy e = some .u8) (ht' : strTy t' = true) (hx : ev n F x = .slice (some ⟨b, o, none⟩) len cap) (hl : ns.length = len)
    (hc : ∀ (j : Nat) (v : Value), (ns.map (Value.int .u8))[j]? = some v → w.cell? ⟨b, o + j, none⟩ = some v) : PV Tryd.prog n w F ⟨d, .convert t t' x, ty, pos, aft, g⟩ (.string (bytesOf ns)) := pv_bts (slTy_ok ht).1 (intTy_ok he) (strTy_ok ht') hx hl hc
end

theorem mixed : Tryd.prog.follows .mixedOrders = true := by kernel_rfl
theorem ent3 : Enters Tryd.prog 3 := fun _ _ => by kernel_rfl
theorem ent4 : Enters Tryd.prog 4 := fun _ _ => by kernel_rfl
theorem ent5 : Enters Tryd.prog 5 := fun _ _ => by kernel_rfl
theorem ent6 : Enters Tryd.prog 6 := fun _ _ => by kernel_rfl
theorem ent7 : Enters Tryd.prog 7 := fun _ _ => by kernel_rfl
theorem ent8 : Enters Tryd.prog 8 := fun _ _ => by kernel_rfl
theorem ent9 : Enters Tryd.prog 9 := fun _ _ => by kernel_rfl
theorem ent10 : Enters Tryd.prog 10 := fun _ _ => by kernel_rfl
theorem ent11 : Enters Tryd.prog 11 := fun _ _ => by kernel_rfl
theorem ent12 : Enters Tryd.prog 12 := fun _ _ => by kernel_rfl
theorem ent13 : Enters Tryd.prog 13 := fun _ _ => by kernel_rfl
theorem ent14 : Enters Tryd.prog 14 := fun _ _ => by kernel_rfl
theorem ent15 : Enters Tryd.prog 15 := fun _ _ => by kernel_rfl
theorem ent16 : Enters Tryd.prog 16 := fun _ _ => by kernel_rfl
theorem ent17 : Enters Tryd.prog 17 := fun _ _ => by kernel_rfl
theorem ent18 : Enters Tryd.prog 18 := fun _ _ => by kernel_rfl
theorem ent19 : Enters Tryd.prog 19 := fun _ _ => by kernel_rfl
theorem ent20 : Enters Tryd.prog 20 := fun _ _ => by kernel_rfl
theorem ent21 : Enters Tryd.prog 21 := fun _ _ => by kernel_rfl
theorem ent22 : Enters Tryd.prog 22 := fun _ _ => by kernel_rfl
theorem ent23 : Enters Tryd.prog 23 := fun _ _ => by kernel_rfl
theorem ent24 : Enters Tryd.prog 24 := fun _ _ => by kernel_rfl
theorem ent25 : Enters Tryd.prog 25 := fun _ _ => by kernel_rfl
theorem ent26 : Enters Tryd.prog 26 := fun _ _ => by kernel_rfl
theorem ent27 : Enters Tryd.prog 27 := fun _ _ => by kernel_rfl
theorem ent28 : Enters Tryd.prog 28 := fun _ _ => by kernel_rfl
theorem ent29 : Enters Tryd.prog 29 := fun _ _ => by kernel_rfl
theorem ent30 : Enters Tryd.prog 30 := fun _ _ => by kernel_rfl
theorem ent31 : Enters Tryd.prog 31 := fun _ _ => by kernel_rfl
theorem ent32 : Enters Tryd.prog 32 := fun _ _ => by kernel_rfl
theorem ent33 : Enters Tryd.prog 33 := fun _ _ => by kernel_rfl
theorem ent34 : Enters Tryd.prog 34 := fun _ _ => by kernel_rfl
theorem ent35 : Enters Tryd.prog 35 := fun _ _ => by kernel_rfl
theorem ent36 : Enters Tryd.prog 36 := fun _ _ => by kernel_rfl
theorem ent37 : Enters Tryd.prog 37 := fun _ _ => by kernel_rfl
theorem ent38 : Enters Tryd.prog 38 := fun _ _ => by kernel_rfl
theorem ent39 : Enters Tryd.prog 39 := fun _ _ => by kernel_rfl
theorem ent40 : Enters Tryd.prog 40 := fun _ _ => by kernel_rfl
theorem ent41 : Enters Tryd.prog 41 := fun _ _ => by kernel_rfl
theorem ent42 : Enters Tryd.prog 42 := fun _ _ => by kernel_rfl
theorem ent43 : Enters Tryd.prog 43 := fun _ _ => by kernel_rfl
theorem ent44 : Enters Tryd.prog 44 := fun _ _ => by kernel_rfl
theorem ent45 : Enters Tryd.prog 45 := fun _ _ => by kernel_rfl
theorem ent46 : Enters Tryd.prog 46 := fun _ _ => by kernel_rfl
theorem ent47 : Enters Tryd.prog 47 := fun _ _ => by kernel_rfl
theorem ent48 : Enters Tryd.prog 48 := fun _ _ => by kernel_rfl
theorem ent49 : Enters Tryd.prog 49 := fun _ _ => by kernel_rfl
theorem ent50 : Enters Tryd.prog 50 := fun _ _ => by kernel_rfl
theorem ent51 : Enters Tryd.prog 51 := fun _ _ => by kernel_rfl
theorem ent52 : Enters Tryd.prog 52 := fun _ _ => by kernel_rfl
theorem ent53 : Enters Tryd.prog 53 := fun _ _ => by kernel_rfl
theorem ent54 : Enters Tryd.prog 54 := fun _ _ => by kernel_rfl
theorem ent55 : Enters Tryd.prog 55 := fun _ _ => by kernel_rfl
theorem ent56 : Enters Tryd.prog 56 := fun _ _ => by kernel_rfl
theorem ent57 : Enters Tryd.prog 57 := fun _ _ => by kernel_rfl
theorem ent58 : Enters Tryd.prog 58 := fun _ _ => by kernel_rfl
theorem ent59 : Enters Tryd.prog 59 := fun _ _ => by kernel_rfl
theorem ent60 : Enters Tryd.prog 60 := fun _ _ => by kernel_rfl
theorem ent61 : Enters Tryd.prog 61 := fun _ _ => by kernel_rfl
theorem ent62 : Enters Tryd.prog 62 := fun _ _ => by kernel_rfl
theorem ent63 : Enters Tryd.prog 63 := fun _ _ => by kernel_rfl
theorem ent64 : Enters Tryd.prog 64 := fun _ _ => by kernel_rfl
theorem ent65 : Enters Tryd.prog 65 := fun _ _ => by kernel_rfl
theorem ent66 : Enters Tryd.prog 66 := fun _ _ => by kernel_rfl
theorem ent67 : Enters Tryd.prog 67 := fun _ _ => by kernel_rfl
theorem ent68 : Enters Tryd.prog 68 := fun _ _ => by kernel_rfl
theorem ent69 : Enters Tryd.prog 69 := fun _ _ => by kernel_rfl
theorem ent70 : Enters Tryd.prog 70 := fun _ _ => by kernel_rfl
theorem ent71 : Enters Tryd.prog 71 := fun _ _ => by kernel_rfl
theorem ent72 : Enters Tryd.prog 72 := fun _ _ => by kernel_rfl
theorem ent73 : Enters Tryd.prog 73 := fun _ _ => by kernel_rfl
theorem ent74 : Enters Tryd.prog 74 := fun _ _ => by kernel_rfl
theorem ent75 : Enters Tryd.prog 75 := fun _ _ => by kernel_rfl
theorem ent76 : Enters Tryd.prog 76 := fun _ _ => by kernel_rfl
theorem ent77 : Enters Tryd.prog 77 := fun _ _ => by kernel_rfl
theorem ent78 : Enters Tryd.prog 78 := fun _ _ => by kernel_rfl
theorem ent79 : Enters Tryd.prog 79 := fun _ _ => by kernel_rfl
theorem ent80 : Enters Tryd.prog 80 := fun _ _ => by kernel_rfl
theorem ent81 : Enters Tryd.prog 81 := fun _ _ => by kernel_rfl
theorem ent82 : Enters Tryd.prog 82 := fun _ _ => by kernel_rfl
theorem ent83 : Enters Tryd.prog 83 := fun _ _ => by kernel_rfl
theorem ent84 : Enters Tryd.prog 84 := fun _ _ => by kernel_rfl
theorem ent85 : Enters Tryd.prog 85 := fun _ _ => by kernel_rfl
theorem ent86 : Enters Tryd.prog 86 := fun _ _ => by kernel_rfl
theorem ent87 : Enters Tryd.prog 87 := fun _ _ => by kernel_rfl
theorem ent88 : Enters Tryd.prog 88 := fun _ _ => by kernel_rfl
theorem ent89 : Enters Tryd.prog 89 := fun _ _ => by kernel_rfl
theorem ent90 : Enters Tryd.prog 90 := fun _ _ => by kernel_rfl
theorem ent91 : Enters Tryd.prog 91 := fun _ _ => by kernel_rfl
theorem ent92 : Enters Tryd.prog 92 := fun _ _ => by kernel_rfl
theorem ent93 : Enters Tryd.prog 93 := fun _ _ => by kernel_rfl
theorem ent94 : Enters Tryd.prog 94 := fun _ _ => by kernel_rfl
theorem ent95 : Enters Tryd.prog 95 := fun _ _ => by kernel_rfl
theorem ent96 : Enters Tryd.prog 96 := fun _ _ => by kernel_rfl
theorem ent97 : Enters Tryd.prog 97 := fun _ _ => by kernel_rfl
theorem ent98 : Enters Tryd.prog 98 := fun _ _ => by kernel_rfl
theorem ent99 : Enters Tryd.prog 99 := fun _ _ => by kernel_rfl
theorem ent100 : Enters Tryd.prog 100 := fun _ _ => by kernel_rfl
theorem ent101 : Enters Tryd.prog 101 := fun _ _ => by kernel_rfl
theorem ent102 : Enters Tryd.prog 102 := fun _ _ => by kernel_rfl
theorem ent103 : Enters Tryd.prog 103 := fun _ _ => by kernel_rfl
theorem ent104 : Enters Tryd.prog 104 := fun _ _ => by kernel_rfl
theorem ent105 : Enters Tryd.prog 105 := fun _ _ => by kernel_rfl
theorem ent106 : Enters Tryd.prog 106 := fun _ _ => by kernel_rfl
theorem ent107 : Enters Tryd.prog 107 := fun _ _ => by kernel_rfl
theorem ent109 : Enters Tryd.prog 109 := fun _ _ => by kernel_rfl
theorem ent131 : Enters Tryd.prog 131 := fun _ _ => by kernel_rfl
end Go.Proofs.YteklkjnhefnimaaDoor
