/- Owned blocks in any order; a store into an owned list; entrants as owned data; shifts; conditions are the hypotheses of each law. -/
import Derived.Test.YtgephdcapajaiaaX
import Derived.Test.YtgephdcapajaiaaK
namespace Go.Eng
section
variable {w0 w w' : World} {M : List Nat} {L L' : List Ent}
def Apart (p q : Ent) : Prop := ∀ b, p.1 = some b → q.1 ≠ some b
theorem Hp.dis' (h : Hp w0 M w L) : L.Pairwise Apart := by
  rw [List.pairwise_iff_getElem]
  intro i j hi hj hij
  exact h.dis i j _ _ (List.getElem?_eq_getElem hi) (List.getElem?_eq_getElem hj) (by omega)
theorem Hp.own' (h : Hp w0 M w L) {p : Ent} (hp : p ∈ L) : ∀ b, p.1 = some b → w0.heap.size ≤ b ∨ b ∈ M := by
  obtain ⟨i, hi⟩ := List.getElem?_of_mem hp
  exact h.own i p hi
theorem Hp.has' (h : Hp w0 M w L) {p : Ent} (hp : p ∈ L) : ∀ b, p.1 = some b → ∃ o, w.heap[b]? = some o ∧ p.2 o := by
  obtain ⟨i, hi⟩ := List.getElem?_of_mem hp
  exact h.has i p hi
theorem Hp.of' (hk : Keeps M w0 w) (ho : ∀ p ∈ L, ∀ b, p.1 = some b → w0.heap.size ≤ b ∨ b ∈ M) (hh : ∀ p ∈ L, ∀ b, p.1 = some b → ∃ o, w.heap[b]? = some o ∧ p.2 o) (hd : L.Pairwise Apart) : Hp w0 M w L := by
  rw [List.pairwise_iff_getElem] at hd
  refine ⟨hk, fun i p hi => ho p (List.mem_of_getElem? hi), fun i p hi => hh p (List.mem_of_getElem? hi), fun i j p q hi hj hne b hb hq => ?_⟩
  obtain ⟨hi', rfl⟩ := List.getElem?_eq_some_iff.1 hi
  obtain ⟨hj', rfl⟩ := List.getElem?_eq_some_iff.1 hj
  rcases Nat.lt_or_gt_of_ne hne with h | h
  · exact hd i j hi' hj' h b hb hq
  · exact hd j i hj' hi' h b hq hb
theorem Hp.perm (h : Hp w0 M w L) (hp : L.Perm L') : Hp w0 M w L' :=
  .of' h.keeps (fun _ hm => h.own' (hp.mem_iff.2 hm)) (fun _ hm => h.has' (hp.mem_iff.2 hm)) ((hp.pairwise_iff (fun hxy b hb hq => hxy b hq hb)).1 h.dis')
theorem Hp.sub (h : Hp w0 M w L) (hs : L'.Sublist L) : Hp w0 M w L' :=
  .of' h.keeps (fun _ hm => h.own' (hs.subset hm)) (fun _ hm => h.has' (hs.subset hm)) (h.dis'.sublist hs)
theorem Hp.dropAt (h : Hp w0 M w L) (i : Nat) : Hp w0 M w (L.eraseIdx i) := h.sub (List.eraseIdx_sublist L i)
/-- some entries, in any order -/
theorem Hp.picks (h : Hp w0 M w L) (is : List Nat) (ps : List Ent) (hn : decide is.Nodup = true) (he : is.map (fun i => L[i]?) = ps.map some) : Hp w0 M w ps := by
  have hnd := of_decide_eq_true hn
  have hlen : is.length = ps.length := by
    have := congrArg List.length he
    simpa using this
  have key : ∀ (k : Nat) (p : Ent), ps[k]? = some p → ∃ i, is[k]? = some i ∧ L[i]? = some p := by
    intro k p hk
    have h1 := congrArg (fun l => l[k]?) he
    simp only [List.getElem?_map, hk, Option.map_some] at h1
    cases h2 : is[k]? with
    | none => rw [h2] at h1; simp at h1
    | some i => rw [h2] at h1; exact ⟨i, rfl, by simpa using h1⟩
  refine ⟨h.keeps, fun k p hk => ?_, fun k p hk => ?_, fun k m p q hk hm hkm => ?_⟩
  · obtain ⟨i, _, hi⟩ := key k p hk
    exact h.own i p hi
  · obtain ⟨i, _, hi⟩ := key k p hk
    exact h.has i p hi
  · obtain ⟨i, hi1, hi⟩ := key k p hk
    obtain ⟨j, hj1, hj⟩ := key m q hm
    refine h.dis i j p q hi hj ?_
    rintro rfl
    apply hkm
    obtain ⟨hk1, e1⟩ := List.getElem?_eq_some_iff.1 hi1
    obtain ⟨hm1, e2⟩ := List.getElem?_eq_some_iff.1 hj1
    exact (List.getElem_inj hnd).1 (e1.trans e2.symm)
theorem ownL_mem {α : Type} {e k : Nat} {enc : α → List Value} {s : Option Addr} {c : Nat} {l : List α} (hp : Hp w0 M w L) (hm : ownL enc e k s c l ∈ L) (hv : SVL s c l) (hk : ∀ x, (enc x).length = k) : SlAt w k enc s l := by
  obtain ⟨i, hi⟩ := List.getElem?_of_mem hm
  exact ownL_At hp i hi hv hk
theorem SVL.addr {α : Type} {s : Option Addr} {c : Nat} {l : List α} (h : SVL s c l) (hl : l ≠ []) : ∃ g, s = some ⟨g, 0, none⟩ := by
  rcases h with ⟨h, h2⟩ | ⟨g, cap, h, _⟩
  · exact absurd (List.eq_nil_of_length_eq_zero h2) hl
  · injection h with h1
    exact ⟨g, h1⟩
theorem SVL.set {α : Type} {s : Option Addr} {c : Nat} {l : List α} (h : SVL s c l) (i : Nat) (x : α) : SVL s c (l.set i x) := by
  unfold SVL at *
  rwa [List.length_set]
end

/-! a store into an owned list -/
theorem run_storeC {P : Program} {w : World} {b o : Nat} {cur : Array Value} {t : TypeId} {v : Value} (hb : w.heap[b]? = some (.cells cur t (0, 0))) (ho : o < cur.size) (h1 : oneV v = true) :
    ∃ w', (store ⟨b, o, none⟩ v).run P w = .ok () w' ∧ Keeps [b] w w' ∧ w'.heap[b]? = some (.cells (cur.setIfInBounds o v) t (0, 0)) := by
  have hc : w.cell? ⟨b, o, none⟩ = some cur[o] := by simp [World.cell?, hb, ho]
  have hf : w.frozen? ⟨b, o, none⟩ = false := by simp [World.frozen?, hb]
  refine ⟨w.setCell ⟨b, o, none⟩ v, ?_, ⟨rfl, rfl, rfl, by simp [World.setCell], fun k _ hm => ?_⟩, ?_⟩
  · cases v <;> first | (cases h1; done) | simp [store, Sem.run, hc, hf]
  · simp only [World.setCell, Array.getElem?_modify]
    rw [if_neg (by simp at hm; omega)]
  · simp only [World.setCell, Array.getElem?_modify, if_true, hb, Option.map_some]
    simp
theorem flatMap_set {α : Type} (enc : α → List Value) (v : Value) (xv : α) (hk : ∀ x, (enc x).length = 1) (hv : enc xv = [v]) : ∀ (l : List α) (i : Nat), (l.set i xv).flatMap enc = (l.flatMap enc).set i v
  | [], i => by simp
  | y :: l, 0 => by
    obtain ⟨u, hu⟩ : ∃ u, enc y = [u] := List.length_eq_one_iff.1 (hk y)
    simp [hu, hv]
  | y :: l, i + 1 => by
    obtain ⟨u, hu⟩ : ∃ u, enc y = [u] := List.length_eq_one_iff.1 (hk y)
    simp only [List.set_cons_succ, List.flatMap_cons, hu, List.cons_append, List.nil_append]
    rw [flatMap_set enc v xv hk hv l i]
section
variable {P : Program} {n : Nat} {w0 w : World} {M : List Nat} {L : List Ent} {F : Fr} {d : Option Tmp} {ty : TypeId} {pos : String} {aft : Array Edge} {g : Option (Nat × Bool)} {x y : Operand}
theorem st_setL {α : Type} (enc : α → List Value) (l : List α) (i : Nat) (xv : α) {t e gb c : Nat} {v : Value} (hp : Hp w0 M w L) (j : Nat) (hj : L[j]? = some (ownL enc e 1 (some ⟨gb, 0, none⟩) c l)) (hvl : SVL (some ⟨gb, 0, none⟩) c l) (hi : i < l.length)
    (hx : ev n F x = .pointer (some ⟨gb, 0 + i * 1, none⟩)) (hy : ev n F y = v) (hk : ∀ x, (enc x).length = 1) (hv : enc xv = [v]) (h1 : oneV v = true) (hz : TSize P t 1) :
    StepF P n ⟨d, .store t x y, ty, pos, aft, g⟩ F w (fun u w' => u = undef ∧ Hp w0 M w' (L.set j (ownL enc e 1 (some ⟨gb, 0, none⟩) c (l.set i xv)))) := by
  obtain ⟨o, ho, cur, rfl, hsz, htk⟩ := hp.has j _ hj gb rfl
  have hsz : cur.size = c * 1 := hsz
  have hcap := hvl.cap
  have hlen : (l.flatMap enc).length = l.length * 1 := flatMap_len enc 1 hk l
  obtain ⟨w', hr, hk', hb'⟩ := run_storeC (P := P) (o := 0 + i * 1) (v := v) ho (by omega) h1
  refine stepF_skip (w' := w') ?_ ⟨rfl, hp.upd hj hk' ?_⟩
  · have hcs : v.cells.size = 1 := by cases v <;> first | rfl | cases h1
    have hcl : v.cells.toList = [v] := by cases v <;> first | rfl | cases h1
    have hz2 := hz.run (w := w)
    simp only [execOp, Instr.storeAt, hx, hy, Instr.sureAddr, storeVar, Sem.run_bind, Sem.run_pure, Result.andThen_ok, hz2, hcs, hcl]
    simp only [storeCells, addr_add, Sem.run_bind]
    simp only [Nat.add_zero] at hr ⊢
    rw [if_neg (by simp)]
    simp only [Sem.run_bind, hr, Result.andThen_ok]
    rfl
  · intro b1 hb1
    have hb1 : b1 = gb := by
      have : (some gb : Option Nat) = some b1 := hb1
      simpa [eq_comm] using this
    subst hb1
    refine ⟨.inl rfl, _, hb', cur.setIfInBounds (0 + i * 1) v, rfl, ?_, ?_⟩
    · show _ = c * 1
      simp
      omega
    · rw [flatMap_set enc v xv hk hv, List.length_set, ← htk]
      simp only [Array.toList_setIfInBounds]
      rw [List.take_set]
      simp
end

/-! shifts and bits -/
def bandI (a b : Int) : Int := IntKind.i64.wrap ((BitVec.ofInt 64 a &&& BitVec.ofInt 64 b).toNat)
section
variable {P : Program} {n : Nat} {w : World} {F : Fr} {d : Option Tmp} {ty : TypeId} {pos : String} {aft : Array Edge} {g : Option (Nat × Bool)} {x y : Operand} {t t' : Nat} {k q : IntKind} {a b : Int}
theorem pv_shr (hx : ev n F x = .int k a) (hy : ev n F y = .int q b) (hb : 0 ≤ b) : PV P n w F ⟨d, .binOp .shr t x y t', ty, pos, aft, g⟩ (.int k (a.fdiv (2 ^ min b.toNat k.bits))) := by
  simp [PV, execOp, hx, hy, eqGuard, binOp, Op.shift]
  omega
theorem pv_band (hx : ev n F x = .int .i64 a) (hy : ev n F y = .int .i64 b) : PV P n w F ⟨d, .binOp .and t x y t', ty, pos, aft, g⟩ (.int .i64 (bandI a b)) := by
  simp only [PV, execOp, hx, hy, eqGuard, binOp, Op.intBits, bandI]
  rfl
end
end Go.Eng
namespace Go.Proofs.Ytgephdcapajaiaa
open Go.Eng

/-! entrants that a call owns -/
def enC (e : En) (a : EnA) : List Value := [.int .i64 e.id, .int .i64 e.cls, .int .i64 e.fam, .slice a.sP e.picks.length a.cP, .slice a.sW e.wishes.length a.cW, .slice a.sG e.groups.length a.cG]
def eEn (x : En × EnA) : List Value := enC x.1 x.2
def enOwn (x : En × EnA) : List Ent := [ownL eI 3 1 x.2.sP x.2.cP x.1.picks, ownL eS 9 1 x.2.sW x.2.cW x.1.wishes, ownL eS 9 1 x.2.sG x.2.cG x.1.groups]
structure EnVl (x : En × EnA) : Prop where
  vP : SVL x.2.sP x.2.cP x.1.picks
  vW : SVL x.2.sW x.2.cW x.1.wishes
  vG : SVL x.2.sG x.2.cG x.1.groups
theorem EnVl.at_ {x : En × EnA} {w0 w : World} {M : List Nat} {L : List Ent} (v : EnVl x) (hp : Hp w0 M w L) (hm : ∀ p ∈ enOwn x, p ∈ L) : EnAt w x.1 x.2 :=
  ⟨ownL_mem (e := 3) hp (hm _ (by simp [enOwn])) v.vP (fun _ => rfl), ownL_mem (e := 9) hp (hm _ (by simp [enOwn])) v.vW (fun _ => rfl), ownL_mem (e := 9) hp (hm _ (by simp [enOwn])) v.vG (fun _ => rfl)⟩
end Go.Proofs.Ytgephdcapajaiaa
