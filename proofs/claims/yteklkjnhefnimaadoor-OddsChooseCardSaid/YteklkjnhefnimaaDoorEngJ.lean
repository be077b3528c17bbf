/- The engine, part J: bytes as a string; conditions are the hypotheses of each law. -/
import Derived.Test.YteklkjnhefnimaaDoorEngI
import Derived.Laws.BytesString
namespace Go.Eng

def bytesOf (ns : List Int) : ByteArray := ns.foldl (fun r n => r.push (UInt8.ofNat n.toNat)) ByteArray.empty
theorem bytesOf_size_aux (ns : List Int) : ∀ r : ByteArray, (ns.foldl (fun r n => r.push (UInt8.ofNat n.toNat)) r).size = r.size + ns.length := by
  induction ns with
  | nil => intro r; simp
  | cons n ns ih =>
    intro r
    rw [List.foldl_cons, ih, ByteArray.size_push, List.length_cons]
    omega
theorem bytesOf_size (ns : List Int) : (bytesOf ns).size = ns.length := by
  unfold bytesOf
  rw [bytesOf_size_aux]
  simp

section
variable {P : Program} {n : Nat} {w : World} {F : Fr} {d : Option Tmp} {ty : TypeId} {pos : String} {aft : Array Edge} {g : Option (Nat × Bool)} {x y : Operand}
theorem run_loadN {b o len : Nat} {vs : List Value} (hl : vs.length = len) (hc : ∀ (j : Nat) (v : Value), vs[j]? = some v → w.cell? ⟨b, o + j, none⟩ = some v) : (loadCells ⟨b, o, none⟩ len).run P w = .ok vs.toArray w := by
  subst hl
  have := run_loadFrom (P := P) (w := w) b o vs 0 #[] (fun j v hv => by simpa using hc j v hv)
  simp [loadCells, this]
theorem pv_bts {t t' e b o len cap : Nat} {ns : List Int} (ht : P.underlying t = some (.slice e)) (he : P.underlying e = some (.int .u8)) (ht' : P.underlying t' = some .string) (hx : ev n F x = .slice (some ⟨b, o, none⟩) len cap) (hl : ns.length = len)
    (hc : ∀ (j : Nat) (v : Value), (ns.map (Value.int .u8))[j]? = some v → w.cell? ⟨b, o + j, none⟩ = some v) : PV P n w F ⟨d, .convert t t' x, ty, pos, aft, g⟩ (.string (bytesOf ns)) := by
  have h1 := run_loadN (P := P) (len := len) (by simpa using hl) hc
  have h2 := run_bytesToString (P := P) w ⟨b, o, none⟩ len cap ns h1
  simp only [PV, execOp, convert, hx, Sem.run_bind, run_und ht, run_und ht', Result.andThen_ok, run_und he, h2]
  rfl
end
end Go.Eng
