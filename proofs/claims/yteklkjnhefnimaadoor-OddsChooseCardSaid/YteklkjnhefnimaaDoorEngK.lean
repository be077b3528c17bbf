/- The engine, part K: owned blocks in any order, stores into owned lists and into blocks of which not all is known, shifts, frames of which only some slots are named, guards in drawn regions; conditions are the hypotheses of each law. -/
import Derived.Test.YteklkjnhefnimaaDoorEngJ
namespace Go.Eng
section
variable {w0 w w' : World} {M : List Nat} {L L' : List Ent}
def Apart (p q : Ent) : Prop := ∀ b, p.1 = some b → q.1 ≠ some b
theorem Hp.dis' (h : Hp w0 M w L) : L.Pairwise Apart := by
  rw [List.pairwise_iff_getElem]
  intro i j hi hj hij
  exact h.dis i j _ _ (List.getElem?_eq_getElem hi) (List.getElem?_eq_getElem hj) (by omega)
theorem Hp.own' (h : Hp w0 M w L) {p : Ent} (hp : p ∈ L) : ∀ b, p.1 = some b → w0.heap.size ≤ b ∨ b ∈ M := by
  obtain ⟨i, hi⟩ := List.getElem?_of_mem hp
  exact h.own i p hi
theorem Hp.has' (h : Hp w0 M w L) {p : Ent} (hp : p ∈ L) : ∀ b, p.1 = some b → ∃ o, w.heap[b]? = some o ∧ p.2 o := by
  obtain ⟨i, hi⟩ := List.getElem?_of_mem hp
  exact h.has i p hi
theorem Hp.of' (hk : Keeps M w0 w) (ho : ∀ p ∈ L, ∀ b, p.1 = some b → w0.heap.size ≤ b ∨ b ∈ M) (hh : ∀ p ∈ L, ∀ b, p.1 = some b → ∃ o, w.heap[b]? = some o ∧ p.2 o) (hd : L.Pairwise Apart) : Hp w0 M w L := by
  rw [List.pairwise_iff_getElem] at hd
  refine ⟨hk, fun i p hi => ho p (List.mem_of_getElem? hi), fun i p hi => hh p (List.mem_of_getElem? hi), fun i j p q hi hj hne b hb hq => ?_⟩
  obtain ⟨hi', rfl⟩ := List.getElem?_eq_some_iff.1 hi
  obtain ⟨hj', rfl⟩ := List.getElem?_eq_some_iff.1 hj
  rcases Nat.lt_or_gt_of_ne hne with h | h
  · exact hd i j hi' hj' h b hb hq
  · exact hd j i hj' hi' h b hq hb
theorem Hp.perm (h : Hp w0 M w L) (hp : L.Perm L') : Hp w0 M w L' :=
  .of' h.keeps (fun _ hm => h.own' (hp.mem_iff.2 hm)) (fun _ hm => h.has' (hp.mem_iff.2 hm)) ((hp.pairwise_iff (fun hxy b hb hq => hxy b hq hb)).1 h.dis')
theorem Hp.sub (h : Hp w0 M w L) (hs : L'.Sublist L) : Hp w0 M w L' :=
  .of' h.keeps (fun _ hm => h.own' (hs.subset hm)) (fun _ hm => h.has' (hs.subset hm)) (h.dis'.sublist hs)
theorem Hp.dropAt (h : Hp w0 M w L) (i : Nat) : Hp w0 M w (L.eraseIdx i) := h.sub (List.eraseIdx_sublist L i)
/-- some entries, in any order -/
theorem Hp.picks (h : Hp w0 M w L) (is : List Nat) (ps : List Ent) (hn : decide is.Nodup = true) (he : is.map (fun i => L[i]?) = ps.map some) : Hp w0 M w ps := by
  have hnd := of_decide_eq_true hn
  have hlen : is.length = ps.length := by
    have := congrArg List.length he
    simpa using this
  have key : ∀ (k : Nat) (p : Ent), ps[k]? = some p → ∃ i, is[k]? = some i ∧ L[i]? = some p := by
    intro k p hk
    have h1 := congrArg (fun l => l[k]?) he
    simp only [List.getElem?_map, hk, Option.map_some] at h1
    cases h2 : is[k]? with
    | none => rw [h2] at h1; simp at h1
    | some i => rw [h2] at h1; exact ⟨i, rfl, by simpa using h1⟩
  refine ⟨h.keeps, fun k p hk => ?_, fun k p hk => ?_, fun k m p q hk hm hkm => ?_⟩
  · obtain ⟨i, _, hi⟩ := key k p hk
    exact h.own i p hi
  · obtain ⟨i, _, hi⟩ := key k p hk
    exact h.has i p hi
  · obtain ⟨i, hi1, hi⟩ := key k p hk
    obtain ⟨j, hj1, hj⟩ := key m q hm
    refine h.dis i j p q hi hj ?_
    rintro rfl
    apply hkm
    obtain ⟨hk1, e1⟩ := List.getElem?_eq_some_iff.1 hi1
    obtain ⟨hm1, e2⟩ := List.getElem?_eq_some_iff.1 hj1
    exact (List.getElem_inj hnd).1 (e1.trans e2.symm)
theorem ownL_mem {α : Type} {e k : Nat} {enc : α → List Value} {s : Option Addr} {c : Nat} {l : List α} (hp : Hp w0 M w L) (hm : ownL enc e k s c l ∈ L) (hv : SVL s c l) (hk : ∀ x, (enc x).length = k) : SlAt w k enc s l := by
  obtain ⟨i, hi⟩ := List.getElem?_of_mem hm
  exact ownL_At hp i hi hv hk
theorem SVL.addr {α : Type} {s : Option Addr} {c : Nat} {l : List α} (h : SVL s c l) (hl : l ≠ []) : ∃ g, s = some ⟨g, 0, none⟩ := by
  rcases h with ⟨h, h2⟩ | ⟨g, cap, h, _⟩
  · exact absurd (List.eq_nil_of_length_eq_zero h2) hl
  · injection h with h1
    exact ⟨g, h1⟩
theorem SVL.set {α : Type} {s : Option Addr} {c : Nat} {l : List α} (h : SVL s c l) (i : Nat) (x : α) : SVL s c (l.set i x) := by
  unfold SVL at *
  rwa [List.length_set]
end

/-! a store into an owned list -/
theorem run_storeC {P : Program} {w : World} {b o : Nat} {cur : Array Value} {t : TypeId} {v : Value} (hb : w.heap[b]? = some (.cells cur t (0, 0))) (ho : o < cur.size) (h1 : oneV v = true) :
    ∃ w', (store ⟨b, o, none⟩ v).run P w = .ok () w' ∧ Keeps [b] w w' ∧ w'.heap[b]? = some (.cells (cur.setIfInBounds o v) t (0, 0)) := by
  have hc : w.cell? ⟨b, o, none⟩ = some cur[o] := by simp [World.cell?, hb, ho]
  have hf : w.frozen? ⟨b, o, none⟩ = false := by simp [World.frozen?, hb]
  refine ⟨w.setCell ⟨b, o, none⟩ v, ?_, ⟨rfl, rfl, rfl, by simp [World.setCell], fun k _ hm => ?_⟩, ?_⟩
  · cases v <;> first | (cases h1; done) | simp [store, Sem.run, hc, hf]
  · simp only [World.setCell, Array.getElem?_modify]
    rw [if_neg (by simp at hm; omega)]
  · simp only [World.setCell, Array.getElem?_modify, if_true, hb, Option.map_some]
    simp
theorem flatMap_set {α : Type} (enc : α → List Value) (v : Value) (xv : α) (hk : ∀ x, (enc x).length = 1) (hv : enc xv = [v]) : ∀ (l : List α) (i : Nat), (l.set i xv).flatMap enc = (l.flatMap enc).set i v
  | [], i => by simp
  | y :: l, 0 => by
    obtain ⟨u, hu⟩ : ∃ u, enc y = [u] := List.length_eq_one_iff.1 (hk y)
    simp [hu, hv]
  | y :: l, i + 1 => by
    obtain ⟨u, hu⟩ : ∃ u, enc y = [u] := List.length_eq_one_iff.1 (hk y)
    simp only [List.set_cons_succ, List.flatMap_cons, hu, List.cons_append, List.nil_append]
    rw [flatMap_set enc v xv hk hv l i]
section
variable {P : Program} {n : Nat} {w0 w : World} {M : List Nat} {L : List Ent} {F : Fr} {d : Option Tmp} {ty : TypeId} {pos : String} {aft : Array Edge} {g : Option (Nat × Bool)} {x y : Operand}
theorem st_setL {α : Type} (enc : α → List Value) (l : List α) (i : Nat) (xv : α) {t e gb c : Nat} {v : Value} (hp : Hp w0 M w L) (j : Nat) (hj : L[j]? = some (ownL enc e 1 (some ⟨gb, 0, none⟩) c l)) (hvl : SVL (some ⟨gb, 0, none⟩) c l) (hi : i < l.length)
    (hx : ev n F x = .pointer (some ⟨gb, 0 + i * 1, none⟩)) (hy : ev n F y = v) (hk : ∀ x, (enc x).length = 1) (hv : enc xv = [v]) (h1 : oneV v = true) (hz : TSize P t 1) :
    StepF P n ⟨d, .store t x y, ty, pos, aft, g⟩ F w (fun u w' => u = undef ∧ Hp w0 M w' (L.set j (ownL enc e 1 (some ⟨gb, 0, none⟩) c (l.set i xv)))) := by
  obtain ⟨o, ho, cur, rfl, hsz, htk⟩ := hp.has j _ hj gb rfl
  have hsz : cur.size = c * 1 := hsz
  have hcap := hvl.cap
  have hlen : (l.flatMap enc).length = l.length * 1 := flatMap_len enc 1 hk l
  obtain ⟨w', hr, hk', hb'⟩ := run_storeC (P := P) (o := 0 + i * 1) (v := v) ho (by omega) h1
  refine stepF_skip (w' := w') ?_ ⟨rfl, hp.upd hj hk' ?_⟩
  · have hcs : v.cells.size = 1 := by cases v <;> first | rfl | cases h1
    have hcl : v.cells.toList = [v] := by cases v <;> first | rfl | cases h1
    have hz2 := hz.run (w := w)
    simp only [execOp, Instr.storeAt, hx, hy, Instr.sureAddr, storeVar, Sem.run_bind, Sem.run_pure, Result.andThen_ok, hz2, hcs, hcl]
    simp only [storeCells, addr_add, Sem.run_bind]
    simp only [Nat.add_zero] at hr ⊢
    rw [if_neg (by simp)]
    simp only [Sem.run_bind, hr, Result.andThen_ok]
    rfl
  · intro b1 hb1
    have hb1 : b1 = gb := by
      have : (some gb : Option Nat) = some b1 := hb1
      simpa [eq_comm] using this
    subst hb1
    refine ⟨.inl rfl, _, hb', cur.setIfInBounds (0 + i * 1) v, rfl, ?_, ?_⟩
    · show _ = c * 1
      simp
      omega
    · rw [flatMap_set enc v xv hk hv, List.length_set, ← htk]
      simp only [Array.toList_setIfInBounds]
      rw [List.take_set]
      simp
end

/-! shifts and bits -/
def bandI (a b : Int) : Int := IntKind.i64.wrap ((BitVec.ofInt 64 a &&& BitVec.ofInt 64 b).toNat)
section
variable {P : Program} {n : Nat} {w : World} {F : Fr} {d : Option Tmp} {ty : TypeId} {pos : String} {aft : Array Edge} {g : Option (Nat × Bool)} {x y : Operand} {t t' : Nat} {k q : IntKind} {a b : Int}
theorem pv_shr (hx : ev n F x = .int k a) (hy : ev n F y = .int q b) (hb : 0 ≤ b) : PV P n w F ⟨d, .binOp .shr t x y t', ty, pos, aft, g⟩ (.int k (a.fdiv (2 ^ min b.toNat k.bits))) := by
  simp [PV, execOp, hx, hy, eqGuard, binOp, Op.shift]
  omega
theorem pv_band (hx : ev n F x = .int .i64 a) (hy : ev n F y = .int .i64 b) : PV P n w F ⟨d, .binOp .and t x y t', ty, pos, aft, g⟩ (.int .i64 (bandI a b)) := by
  simp only [PV, execOp, hx, hy, eqGuard, binOp, Op.intBits, bandI]
  rfl
end
/-- the slots that are read later on -/
def Fr.puts (F : Fr) : List (Nat × Value) → Fr
  | [] => F
  | p :: S => (Fr.puts F S).put p.1 p.2
def FrHas (F : Fr) : List (Nat × Value) → Prop
  | [] => True
  | p :: S => F p.1 = p.2 ∧ FrHas F S
theorem puts_self {F : Fr} : ∀ {S : List (Nat × Value)}, FrHas F S → F = F.puts S
  | [], _ => rfl
  | _ :: _, h => put_self (puts_self h.2) h.1
theorem WP_fresh {P : Program} {n : Nat} {c : Code} {Q : Exit → Fr → World → Prop} {F : Fr} {w : World} (S : List (Nat × Value)) (hS : FrHas F S) (h : ∀ F0 : Fr, WP P n c Q (F0.puts S) w) : WP P n c Q F w := by
  rw [puts_self hS]
  exact h F
section
variable {P : Program} {n : Nat} {Q : Exit → Fr → World → Prop} {F : Fr} {w : World} {ops : Array Oper} {rest : List Oper} {st : Bool} {G : World → Prop}
variable {d : Nat} {op : Op} {ty : TypeId} {pos : String} {aft : Array Edge}
/-- a guarded operation whose guard says yes, in a region that draws its order -/
theorem wdsT {R : Value → World → Prop} {j : Nat} {want : Bool} {e : Nat} (he : effOp op = true) (hj : gslot ops j = some e) (hc : ev n F (.tmp e) = .bool want)
    (hs : StepF P n ⟨some d, op, ty, pos, aft, some (j, want)⟩ F w R) (h : ∀ v w', R v w' → G w' ∧ wpd P n ops st G rest Q (F.put d v) w') :
    wpd P n ops st G (⟨some d, op, ty, pos, aft, some (j, want)⟩ :: rest) Q F w := by
  unfold wpd wpD
  rw [if_pos he]
  unfold EffStep
  rw [wanted_act rfl hj hc]
  refine ⟨fun _ => Step.mono hs fun v w' hr => ?_, fun hw => ?_⟩
  · rw [act_put]; exact ⟨fun _ => (h v w' hr).1, (h v w' hr).2⟩
  · simp at hw
theorem wdpT {r v : Value} {j : Nat} {want : Bool} {e : Nat} (he : effOp op = false) (hj : gslot ops j = some e) (hc : ev n F (.tmp e) = .bool want)
    (hp : ∀ w, G w → PV P n w F ⟨some d, op, ty, pos, aft, some (j, want)⟩ r) (hv : r = v) (h : wpd P n ops st G rest Q (F.put d v) w) : wpd P n ops st G (⟨some d, op, ty, pos, aft, some (j, want)⟩ :: rest) Q F w := by
  subst hv
  unfold wpd wpD
  rw [if_neg (by simp [he])]
  refine ⟨r, .inl ⟨?_, fun w hw => ?_⟩, ?_⟩
  · rw [wanted_act rfl hj hc]
    simp
  · rw [act_eval]; exact hp w hw
  · rw [act_put]; exact h
end
theorem Hp.joinT {w0 w w' : World} {M : List Nat} {L : List Ent} (h : Hp w0 M w L) (A B : List Ent) (h' : Hp w [] w' (A ++ B)) : Hp w0 M w' (A ++ (L ++ B)) := by
  refine (h.join h').perm ?_
  rw [List.append_assoc]
  exact List.Perm.append_left _ List.perm_append_comm
theorem Same.putB {S : List Nat} {d : Nat} {v : Value} {F F' : Fr} (h1 : F' d = v) (h : Same S F F') : Same S (F.put d v) F' := by
  intro i hi
  simp only [Fr.put]
  cases hb : Nat.beq i d
  · exact h i hi
  · rw [Nat.eq_of_beq_eq_true hb]
    exact h1.symm
/-- the cells of an element of an owned list -/
theorem own_elem {α : Type} {w0 w : World} {M : List Nat} {L : List Ent} {e k g c q : Nat} {enc : α → List Value} {l : List α} {x : α} (hp : Hp w0 M w L) (i : Nat) (hi : L[i]? = some (ownL enc e k (some ⟨g, 0, none⟩) c l)) (hv : SVL (some ⟨g, 0, none⟩) c l) (hk : ∀ x, (enc x).length = k) (hx : l[q]? = some x) :
    ∀ (j : Nat) (v : Value), (enc x)[j]? = some v → w.cell? ⟨g, 0 + q * k + j, none⟩ = some v := by
  obtain ⟨b, o, hs, hc⟩ := ownL_At hp i hi hv hk q x hx
  cases hs
  exact hc
/-- a block of the same size, whatever it holds -/
def anyC (p : Ent) : Ent := (p.1, fun o => ∃ q cur cur' t, p.2 q ∧ q = .cells cur t (0, 0) ∧ o = .cells cur' t (0, 0) ∧ cur'.size = cur.size)
theorem Hp.anyTail {w0 w : World} {M : List Nat} {A B : List Ent} (h : Hp w0 M w (A ++ B)) (hB : ∀ p ∈ B, ∀ o, p.2 o → ∃ cur t, o = .cells cur t (0, 0)) : Hp w0 M w (A ++ B.map anyC) := by
  have hd := h.dis'
  rw [List.pairwise_append] at hd
  refine .of' h.keeps ?_ ?_ ?_
  · intro p hp b hb
    rcases List.mem_append.1 hp with hp | hp
    · exact h.own' (List.mem_append_left _ hp) b hb
    · obtain ⟨q, hq, rfl⟩ := List.mem_map.1 hp
      exact h.own' (List.mem_append_right _ hq) b hb
  · intro p hp b hb
    rcases List.mem_append.1 hp with hp | hp
    · exact h.has' (List.mem_append_left _ hp) b hb
    · obtain ⟨q, hq, rfl⟩ := List.mem_map.1 hp
      obtain ⟨o, ho, hqo⟩ := h.has' (List.mem_append_right _ hq) b hb
      obtain ⟨cur, t, e⟩ := hB q hq o hqo
      exact ⟨o, ho, o, cur, cur, t, hqo, e, e, rfl⟩
  · rw [List.pairwise_append]
    refine ⟨hd.1, ?_, ?_⟩
    · rw [List.pairwise_map]
      exact hd.2.1
    · intro p hp q hq
      obtain ⟨r, hr, rfl⟩ := List.mem_map.1 hq
      exact hd.2.2 p hp r hr
section
variable {P : Program} {n : Nat} {w0 w : World} {M : List Nat} {L : List Ent} {F : Fr} {d : Option Tmp} {ty : TypeId} {pos : String} {aft : Array Edge} {g : Option (Nat × Bool)} {x y : Operand}
/-- a store into a block that stays as it is described -/
theorem st_storeM {t b off : Nat} {v : Value} {p : Ent} (hp : Hp w0 M w L) (hm : p ∈ L) (hb : p.1 = some b) (hcl : ∀ v, oneV v = true → ∀ o, p.2 o → ∃ cur t, o = .cells cur t (0, 0) ∧ off < cur.size ∧ p.2 (.cells (cur.setIfInBounds off v) t (0, 0)))
    (hx : ev n F x = .pointer (some ⟨b, off, none⟩)) (hy : ev n F y = v) (h1 : oneV v = true) (hz : TSize P t 1) :
    StepF P n ⟨d, .store t x y, ty, pos, aft, g⟩ F w (fun u w' => u = undef ∧ Hp w0 M w' L) := by
  obtain ⟨i, hi⟩ := List.getElem?_of_mem hm
  obtain ⟨o, ho, hpo⟩ := hp.has i p hi b hb
  obtain ⟨cur, tt, rfl, hoff, hset⟩ := hcl v h1 o hpo
  obtain ⟨w', hr, hk', hb'⟩ := run_storeC (P := P) (o := off) (v := v) ho hoff h1
  obtain ⟨pb, pp⟩ := p
  have hpb : pb = some b := hb
  subst hpb
  refine stepF_skip (w' := w') ?_ ⟨rfl, hp.callE i hi hk' ⟨_, hb', hset⟩⟩
  have hcs : v.cells.size = 1 := by cases v <;> first | rfl | cases h1
  have hcl2 : v.cells.toList = [v] := by cases v <;> first | rfl | cases h1
  have hz2 := hz.run (w := w)
  simp only [execOp, Instr.storeAt, hx, hy, Instr.sureAddr, storeVar, Sem.run_bind, Sem.run_pure, Result.andThen_ok, hz2, hcs, hcl2]
  simp only [storeCells, addr_add, Sem.run_bind]
  simp only [Nat.add_zero]
  rw [if_neg (by simp)]
  simp only [Sem.run_bind, hr, Result.andThen_ok]
  rfl
end
theorem anyC_set {α : Type} {enc : α → List Value} {e c off : Nat} {s : Option Addr} {l : List α} (hv : SVL s c l) (hk : ∀ x, (enc x).length = 1) (ho : off < l.length) :
    ∀ v, oneV v = true → ∀ o, (anyC (ownL enc e 1 s c l)).2 o → ∃ cur t, o = .cells cur t (0, 0) ∧ off < cur.size ∧ (anyC (ownL enc e 1 s c l)).2 (.cells (cur.setIfInBounds off v) t (0, 0)) := by
  rintro v _ o ⟨q, cur, cur', t, hq, rfl, rfl, hsz⟩
  have hq2 : rowB e 1 c l.length (l.flatMap enc) (.cells cur t (0, 0)) := hq
  obtain ⟨cur2, he, hs2, _⟩ := hq2
  have hcc : cur = cur2 := by injection he
  have hcap := hv.cap
  refine ⟨cur', t, rfl, by rw [hsz, hcc, hs2]; omega, _, cur, _, t, hq, rfl, rfl, by simpa using hsz⟩
theorem ownL_cells {α : Type} {enc : α → List Value} {e k c : Nat} {s : Option Addr} {l : List α} : ∀ o, (ownL enc e k s c l).2 o → ∃ cur t, o = .cells cur t (0, 0) := by
  rintro o ⟨cur, he, _⟩
  exact ⟨cur, e, he⟩
end Go.Eng
