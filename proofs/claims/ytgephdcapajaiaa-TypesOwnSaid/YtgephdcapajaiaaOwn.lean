/- Layer 14: the law TypesOwn returns true; conditions: numbers lie in memory. -/
import Derived.Test.YtgephdcapajaiaaAdm7
namespace Go.Eng
/-- a block of the same size, whatever it holds -/
def anyC (p : Ent) : Ent := (p.1, fun o => ∃ q cur cur' t, p.2 q ∧ q = .cells cur t (0, 0) ∧ o = .cells cur' t (0, 0) ∧ cur'.size = cur.size)
theorem Hp.anyTail {w0 w : World} {M : List Nat} {A B : List Ent} (h : Hp w0 M w (A ++ B)) (hB : ∀ p ∈ B, ∀ o, p.2 o → ∃ cur t, o = .cells cur t (0, 0)) : Hp w0 M w (A ++ B.map anyC) := by
  have hd := h.dis'
  rw [List.pairwise_append] at hd
  refine .of' h.keeps ?_ ?_ ?_
  · intro p hp b hb
    rcases List.mem_append.1 hp with hp | hp
    · exact h.own' (List.mem_append_left _ hp) b hb
    · obtain ⟨q, hq, rfl⟩ := List.mem_map.1 hp
      exact h.own' (List.mem_append_right _ hq) b hb
  · intro p hp b hb
    rcases List.mem_append.1 hp with hp | hp
    · exact h.has' (List.mem_append_left _ hp) b hb
    · obtain ⟨q, hq, rfl⟩ := List.mem_map.1 hp
      obtain ⟨o, ho, hqo⟩ := h.has' (List.mem_append_right _ hq) b hb
      obtain ⟨cur, t, e⟩ := hB q hq o hqo
      exact ⟨o, ho, o, cur, cur, t, hqo, e, e, rfl⟩
  · rw [List.pairwise_append]
    refine ⟨hd.1, ?_, ?_⟩
    · rw [List.pairwise_map]
      exact hd.2.1
    · intro p hp q hq
      obtain ⟨r, hr, rfl⟩ := List.mem_map.1 hq
      exact hd.2.2 p hp r hr
section
variable {P : Program} {n : Nat} {w0 w : World} {M : List Nat} {L : List Ent} {F : Fr} {d : Option Tmp} {ty : TypeId} {pos : String} {aft : Array Edge} {g : Option (Nat × Bool)} {x y : Operand}
/-- a store into a block that stays as it is described -/
theorem st_storeM {t b off : Nat} {v : Value} {p : Ent} (hp : Hp w0 M w L) (hm : p ∈ L) (hb : p.1 = some b) (hcl : ∀ v, oneV v = true → ∀ o, p.2 o → ∃ cur t, o = .cells cur t (0, 0) ∧ off < cur.size ∧ p.2 (.cells (cur.setIfInBounds off v) t (0, 0)))
    (hx : ev n F x = .pointer (some ⟨b, off, none⟩)) (hy : ev n F y = v) (h1 : oneV v = true) (hz : TSize P t 1) :
    StepF P n ⟨d, .store t x y, ty, pos, aft, g⟩ F w (fun u w' => u = undef ∧ Hp w0 M w' L) := by
  obtain ⟨i, hi⟩ := List.getElem?_of_mem hm
  obtain ⟨o, ho, hpo⟩ := hp.has i p hi b hb
  obtain ⟨cur, tt, rfl, hoff, hset⟩ := hcl v h1 o hpo
  obtain ⟨w', hr, hk', hb'⟩ := run_storeC (P := P) (o := off) (v := v) ho hoff h1
  obtain ⟨pb, pp⟩ := p
  have hpb : pb = some b := hb
  subst hpb
  refine stepF_skip (w' := w') ?_ ⟨rfl, hp.callE i hi hk' ⟨_, hb', hset⟩⟩
  have hcs : v.cells.size = 1 := by cases v <;> first | rfl | cases h1
  have hcl2 : v.cells.toList = [v] := by cases v <;> first | rfl | cases h1
  have hz2 := hz.run (w := w)
  simp only [execOp, Instr.storeAt, hx, hy, Instr.sureAddr, storeVar, Sem.run_bind, Sem.run_pure, Result.andThen_ok, hz2, hcs, hcl2]
  simp only [storeCells, addr_add, Sem.run_bind]
  simp only [Nat.add_zero]
  rw [if_neg (by simp)]
  simp only [Sem.run_bind, hr, Result.andThen_ok]
  rfl
end
theorem anyC_set {α : Type} {enc : α → List Value} {e c off : Nat} {s : Option Addr} {l : List α} (hv : SVL s c l) (hk : ∀ x, (enc x).length = 1) (ho : off < l.length) :
    ∀ v, oneV v = true → ∀ o, (anyC (ownL enc e 1 s c l)).2 o → ∃ cur t, o = .cells cur t (0, 0) ∧ off < cur.size ∧ (anyC (ownL enc e 1 s c l)).2 (.cells (cur.setIfInBounds off v) t (0, 0)) := by
  rintro v _ o ⟨q, cur, cur', t, hq, rfl, rfl, hsz⟩
  have hq2 : rowB e 1 c l.length (l.flatMap enc) (.cells cur t (0, 0)) := hq
  obtain ⟨cur2, he, hs2, _⟩ := hq2
  have hcc : cur = cur2 := by injection he
  have hcap := hv.cap
  refine ⟨cur', t, rfl, by rw [hsz, hcc, hs2]; omega, _, cur, _, t, hq, rfl, rfl, by simpa using hsz⟩
theorem ownL_cells {α : Type} {enc : α → List Value} {e k c : Nat} {s : Option Addr} {l : List α} : ∀ o, (ownL enc e k s c l).2 o → ∃ cur t, o = .cells cur t (0, 0) := by
  rintro o ⟨cur, he, _⟩
  exact ⟨cur, e, he⟩
end Go.Eng
namespace Go.Proofs.Ytgephdcapajaiaa
open Go.Eng
/-- a list of entrants of which only the heads of their lists are known -/
def inW (s : Option Addr) (c : Nat) (ins : List (En × EnA)) : Ent := ((Value.slice s ins.length c).ownBlock, fun o => ∃ cur, o = .cells cur 46 (0, 0) ∧ ∀ (i : Nat) (y : En × EnA), ins[i]? = some y → i * 6 + 5 < cur.size ∧
  cur[i * 6 + 3]? = some (.slice y.2.sP y.1.picks.length y.2.cP) ∧ cur[i * 6 + 4]? = some (.slice y.2.sW y.1.wishes.length y.2.cW) ∧ cur[i * 6 + 5]? = some (.slice y.2.sG y.1.groups.length y.2.cG))
theorem inW_of {s : Option Addr} {c : Nat} {ins : List (En × EnA)} (hv : SVL s c ins) : ∀ o, (ownL eEn 46 6 s c ins).2 o → (inW s c ins).2 o := by
  rintro o ⟨cur, he, hsz, htk⟩
  have hcap := hv.cap
  have hsz : cur.size = c * 6 := hsz
  refine ⟨cur, he, ?_⟩
  intro i y hi
  have hil := J_len hi
  have key : ∀ (j : Nat) (v : Value), (eEn y)[j]? = some v → cur[i * 6 + j]? = some v := by
    intro j v hj
    have h1 := flatMap_get eEn 6 (fun _ => rfl) ins i j y v hi hj
    rw [← htk, List.getElem?_take] at h1
    split at h1
    · simpa using h1
    · cases h1
  exact ⟨by omega, key 3 _ rfl, key 4 _ rfl, key 5 _ rfl⟩
structure HdAt (w : World) (g i : Nat) (y : En × EnA) : Prop where
  h1 : w.cell? ⟨g, 0 + i * 6 + 3, none⟩ = some (.slice y.2.sP y.1.picks.length y.2.cP)
  h2 : w.cell? ⟨g, 0 + i * 6 + 4, none⟩ = some (.slice y.2.sW y.1.wishes.length y.2.cW)
  h3 : w.cell? ⟨g, 0 + i * 6 + 5, none⟩ = some (.slice y.2.sG y.1.groups.length y.2.cG)
theorem inW_cell {w0 w : World} {M : List Nat} {L : List Ent} {g c i : Nat} {ins : List (En × EnA)} {y : En × EnA} (hp : Hp w0 M w (inW (some ⟨g, 0, none⟩) c ins :: L)) (hi : ins[i]? = some y) : HdAt w g i y := by
  obtain ⟨o, ho, cur, rfl, h⟩ := hp.has 0 _ rfl g rfl
  obtain ⟨_, h3, h4, h5⟩ := h i y hi
  refine ⟨?_, ?_, ?_⟩
  · simpa [World.cell?, ho] using h3
  · simpa [World.cell?, ho] using h4
  · simpa [World.cell?, ho] using h5
theorem inW_set {s : Option Addr} {c i : Nat} {ins : List (En × EnA)} (hi : i < ins.length) : ∀ v, oneV v = true → ∀ o, (inW s c ins).2 o → ∃ cur t, o = .cells cur t (0, 0) ∧ 0 + i * 6 + 0 < cur.size ∧ (inW s c ins).2 (.cells (cur.setIfInBounds (0 + i * 6 + 0) v) t (0, 0)) := by
  rintro v _ o ⟨cur, rfl, h⟩
  have h0 := (h i _ (List.getElem?_eq_getElem hi)).1
  refine ⟨cur, 46, rfl, by omega, _, rfl, ?_⟩
  intro j y hj
  obtain ⟨h1, h3, h4, h5⟩ := h j y hj
  refine ⟨by simpa using h1, ?_, ?_, ?_⟩
  · rw [Array.getElem?_setIfInBounds, if_neg (by omega)]; exact h3
  · rw [Array.getElem?_setIfInBounds, if_neg (by omega)]; exact h4
  · rw [Array.getElem?_setIfInBounds, if_neg (by omega)]; exact h5
attribute [local irreducible] PV StepF wpl wpd WP Ret
attribute [local irreducible] chk entC adm

set_option maxHeartbeats 4000000 in
theorem c9 (y z : Option Addr × List Int × Nat) (w0 : World) (hy : IntsOk w0 y) (hz : IntsOk w0 z) :
    Ret Try.prog 9 [.agg #[.slice y.1 y.2.1.length y.2.2, .slice z.1 z.2.1.length z.2.2]] w0 (fun v w' => v = .bool true ∧ Keeps [] w0 w') := by
  refine Ret.of_WP Try.func9 rfl Try.ntmps9 rfl ?_
  have hp := Hp.start (M := []) (w := w0)
  ((repeat (with_reducible first | apply WP_seq | apply WP_region)); apply wls; exact sbox2 hp rfl; rintro _ w ⟨lb, rfl, hp⟩)
  (repeat (first | (with_reducible first | apply WP_seq | apply WP_region | apply wpl_nil | apply thenQ_n) | (apply wlp; apply pv_assign; exact fB rfl)))
  (apply wls; exact st_call rfl ent10 rfl (c10 _))
  rintro _ w ⟨rfl, hk⟩
  have hp := hp.call hk
  (repeat (first | (with_reducible first | apply WP_seq | apply WP_region | apply wpl_nil | apply thenQ_n) | (apply wlp; ((first | apply pv_assign | (apply pf_index_a; exact rfl)) <;> exact rfl); exact fB rfl)))
  (apply wlp; exact pf_index_a (i := 0) rfl rfl rfl (by decide); exact fP rfl)
  (apply wlp; exact pf_load rfl rfl (hp.cell 0 rfl rfl); exact fS rfl)
  (apply wls; exact st_call rfl ent11 rfl (c11 y.2.1 y.1 y.2.2 _ (hy.at_.keep0 hp.keeps) (Nat.le_trans hy.cap hy.mx)))
  rintro _ w1 ⟨d, a, rfl, hk, hG⟩
  have hp := hp.call hk
  have clz : w1.cell? ⟨lb, 0 + 1 * 1, none⟩ = some (.slice z.1 z.2.1.length z.2.2) := hp.cell 0 rfl rfl
  have hk1 := hp.keeps
  clear hp hk
  have hp := Hp.start (M := []) (w := w1)
  have hd : DrAt w1 d a := hG.at_
  (apply wls; exact salloc13 hp (zeroTy_ok rfl); rintro _ w ⟨db, rfl, hp⟩)
  (apply wls0; exact sstore13 hp 0 rfl rfl rfl rfl (sizeTy_ok rfl) rfl; rintro _ w ⟨rfl, hp⟩)
  have hp := hp.norm 0 (drC d a) rfl rfl
  (repeat (first | (with_reducible first | apply WP_seq | apply WP_region | apply wpl_nil | apply thenQ_n) | (apply wlp; ((first | (apply pf_loadb; exact rfl) | (apply pf_index_a; exact rfl)) <;> (first | exact rfl | exact hp.agg_blk 0 rfl rfl)); exact fA13 rfl)))
  (apply wlp; exact pf_index_a (i := 1) rfl rfl rfl (by decide); exact fP rfl)
  (apply wlp; exact pf_load rfl rfl (hp.old0 clz); exact fS rfl)
  (apply wls; exact st_call rfl ent16 rfl (c16 d a z.2.1 z.1 z.2.2 _ (hd.keep hp.keeps) hG.ok (hz.at_.keep0 (hk1.trans hp.keeps (by simp))) (Nat.le_trans hz.cap hz.mx)))
  rintro _ w ⟨xs, so, co, rfl, hvo, hmap, hE0, hpE⟩
  have hp := hp.joinT [ownL eEn 46 6 so co xs] (xs.flatMap enOwn) hpE
  have hxl : xs.length < 7 := by
    have h1 := congrArg List.length hmap
    have h2 := nx_lt z.2.1 0 (n := 7) (by decide)
    have h3 := nx_nonneg z.2.1 0 (n := 7) (by decide)
    unfold entsOf at h1
    simp at h1
    omega
  have hO : ∀ x ∈ xs, EnOk 12 x := by
    intro x hx
    obtain ⟨je, ie, _, hxe1⟩ := ents_mem hmap hx
    exact ⟨hE0 x hx, by rw [hxe1]; exact entE_sz _ _ _ _, by rw [hxe1]; exact entE_ln hG.ok _ _ _⟩
  (apply wlp; apply pv_assign; exact fS rfl)
  (repeat (with_reducible first | apply WP_seq | apply WP_region | apply wpl_nil | apply thenQ_n))
  (apply wlp; (apply pf_loadb; exact rfl; exact rfl; exact rfl; exact hp.agg_blk 1 rfl rfl); exact fA13 rfl)
  (repeat (apply wlp; apply pv_move; exact fS rfl))
  have hxe : ∀ x ∈ xs, EnAt w x.1 x.2 := fun x hx => (hO x hx).v.at_ hp (fun p hp => List.mem_append_right [_, _] (List.mem_flatMap.2 ⟨x, hx, hp⟩))
  (apply wls; exact st_call rfl ent21 rfl (c21 d a xs so co _ (hd.keep hp.keeps) (ownL_At hp 0 rfl hvo (fun _ => rfl)) hxe (fun y hy => (hO y hy).ln.mono (by omega)) (by omega)))
  rintro _ w ⟨ins, outs, si, ci, sx, cx, rfl, hvi, hvx, hadm, hE, hpa⟩
  clear hxe
  have hp := hp.joinT [ownL eEn 46 6 si ci ins, ownL eT 91 2 sx cx outs] (ins.flatMap enOwn) hpa
  rw [hmap, ents_adm hG.ok hG.bar] at hadm
  have hil : ins.length = xs.length := by
    have h1 := congrArg List.length ((Prod.mk.inj hadm).1.trans hmap.symm)
    simpa using h1
  -- ins, outs, xs, db; lists of xs, lists of ins
  have hp : Hp w1 [] w ([inW si ci ins, ownL eT 91 2 sx cx outs, ownL eEn 46 6 so co xs, blk db 13 (frOf (drC d a)) 30] ++ (xs.flatMap enOwn ++ ins.flatMap enOwn)) := hp.weak (i := 0) rfl (inW_of hvi)
  have hp : Hp w1 [] w ([inW si ci ins, ownL eT 91 2 sx cx outs, ownL eEn 46 6 so co xs, blk db 13 (frOf (drC d a)) 30] ++ (xs.flatMap enOwn ++ (ins.flatMap enOwn).map anyC)) := by
    rw [← List.append_assoc] at hp ⊢
    refine hp.anyTail ?_
    intro p hpm o ho
    obtain ⟨x, _, hx⟩ := List.mem_flatMap.1 hpm
    simp only [enOwn, List.mem_cons, List.not_mem_nil, or_false] at hx
    rcases hx with rfl | rfl | rfl <;> exact ownL_cells o ho
  (repeat (first | (with_reducible first | apply WP_seq | apply WP_block | apply WP_region | apply wpl_nil | apply thenQ_n) | (apply wlp; ((first | apply pv_move | apply pv_assign | apply pv_extract) <;> exact rfl); (first | exact fI rfl | exact fS rfl | exact fU rfl))))
  refine WP_fresh [(1, .pointer (some ⟨lb, 0, none⟩)), (3, .bool true), (4, .pointer (some ⟨db, 0, none⟩)), (5, .slice so xs.length co), (6, .slice si ins.length ci), (8, .int .i64 0)] ⟨rfl, rfl, rfl, rfl, rfl, rfl, trivial⟩ ?_
  intro F0
  refine WP_loopS [8, 9, 10, 11, 28, 29, 30, 31, 32, 33, 34, 35, 36, 37, 38, 39, 40, 41, 42, 43, 44, 45, 46, 47, 48, 49, 50, 51, 52, 53, 54, 55, 56, 57, 58, 59, 60, 61, 62, 63, 64, 65, 66, 67, 68, 69, 70, 71, 72, 73, 74, 75, 76, 77, 78, 79, 80, 81, 82, 83, 84, 85, 86, 87, 88] (fun (i : Nat) F => F.put 8 (.int .i64 i)) (fun i w' => i ≤ ins.length ∧ Hp w1 [] w' ([inW si ci ins, ownL eT 91 2 sx cx outs, ownL eEn 46 6 so co xs, blk db 13 (frOf (drC d a)) 30] ++ (xs.flatMap enOwn ++ (ins.flatMap enOwn).map anyC))) (fun i => ins.length - i) 0 (put_self (Same.eq .refl) rfl) ⟨Nat.zero_le _, hp⟩ ?_
  clear hp
  rintro u i w ⟨hi, hp⟩
  (repeat (first | (with_reducible first | apply WP_seq | apply WP_region | apply wpl_nil | apply thenQ_n) | (apply wlp; ((first | apply pv_move | (apply pf_len; exact rfl) | apply pv_lss) <;> exact rfl); (first | exact fI rfl | exact fB rfl | exact fS rfl))))
  refine WP_cond_d rfl (fun h => ?_) (fun h => ?_)
  · have hilt : i < ins.length := by omega
    have hyi := List.getElem?_eq_getElem hilt
    have hym : ins[i] ∈ ins := List.getElem_mem hilt
    obtain ⟨y, hy⟩ : ∃ y, y = ins[i] := ⟨_, rfl⟩
    rw [← hy] at hyi hym
    have hly : EnLn y.1 12 := by
      have hmem : y.1 ∈ xs.map (·.1) := by
        rw [hmap, ← (Prod.mk.inj hadm).1]
        exact List.mem_map_of_mem hym
      obtain ⟨x, hx, e1⟩ := List.mem_map.1 hmem
      rw [← e1]
      exact (hO x hx).ln
    have hly1 := hly.picks
    have hly2 := hly.wishes
    have hly3 := hly.groups
    obtain ⟨gi, rfl⟩ := hvi.addr (by intro h0; rw [h0] at hilt; simp at hilt)
    (repeat (first | (with_reducible first | apply WP_seq | apply WP_block | apply WP_region | apply wpl_nil | apply thenQ_n | apply WP_skip) | (apply wlp; apply pv_assign; exact fI rfl)))
    refine WP_loopS [9, 34, 35, 36, 37, 38, 39, 40, 41, 42, 43, 44, 45, 46, 47, 48, 49, 50] (fun (k : Nat) F => F.put 9 (.int .i64 k)) (fun k w' => k ≤ y.1.picks.length ∧ Hp w1 [] w' ([inW (some ⟨gi, 0, none⟩) ci ins, ownL eT 91 2 sx cx outs, ownL eEn 46 6 so co xs, blk db 13 (frOf (drC d a)) 30] ++ (xs.flatMap enOwn ++ (ins.flatMap enOwn).map anyC))) (fun k => y.1.picks.length - k) 0 (put_self (Same.eq .refl) rfl) ⟨Nat.zero_le _, hp⟩ ?_
    clear hp
    rintro u9 k w ⟨hk, hp⟩
    have hcell := (inW_cell hp hyi).h1
    (repeat (first | (with_reducible first | apply WP_seq | apply WP_region | apply wpl_nil | apply thenQ_n) | (apply wlp; ((first | apply pv_move | apply pf_field | (apply pf_load; exact rfl) | (apply pf_len; exact rfl) | apply pv_lss | (apply pf_index; exact rfl)) <;> (first | exact rfl | assumption)); (first | exact fI rfl | exact fB rfl | exact fP rfl | exact fS rfl))))
    refine WP_cond_d rfl (fun hc => ?_) (fun hc => ?_)
    · have hkl : k < y.1.picks.length := by omega
      obtain ⟨gp, hgp⟩ := (hE y hym).vP.addr (by intro h0; rw [h0] at hkl; simp at hkl)
      (repeat (first | (with_reducible first | apply WP_seq | apply WP_block | apply WP_region | apply thenQ_n | apply WP_skip) | (apply wlp; ((first | apply pv_move | apply pf_field | (apply pf_load; exact rfl) | (apply pf_index; exact rfl)) <;> (first | exact rfl | assumption)); (first | exact fI rfl | exact fP rfl | exact fS rfl))))
      (apply wls0; exact st_storeM hp (p := anyC (ownL eI 3 1 y.2.sP y.2.cP y.1.picks)) (b := gp) (off := 0 + k * 1) (List.mem_append_right [_, _, _, _] (List.mem_append_right _ (List.mem_map.2 ⟨_, List.mem_flatMap.2 ⟨y, hym, by simp [enOwn]⟩, rfl⟩))) (by rw [hgp]; rfl) (anyC_set (hE y hym).vP (fun _ => rfl) (by omega)) rfl rfl rfl (sizeTy_ok rfl); rintro _ w ⟨rfl, hp⟩)
      (repeat (first | (with_reducible first | apply WP_region | apply wpl_nil | apply thenQ_n | apply inBlk_n) | (apply wlp; apply pv_move; exact fI rfl)))
      (apply wlp; exact pv_add rfl rfl; exact int_eq (i64_in (by omega) (by omega)))
      (repeat (first | (with_reducible first | apply wpl_nil | apply thenQ_n) | (apply wlp; apply pv_assign; exact fI rfl)))
      exact ⟨k + 1, put_self (Same.eq (by repeat (first | exact Same.hav | exact Same.refl | refine Same.put rfl ?_ | refine Same.havs rfl ?_))) rfl, ⟨by omega, hp⟩, by omega⟩
    (repeat (first | (with_reducible first | apply WP_seq | apply WP_block | apply WP_region | apply wpl_nil | apply thenQ_n | apply thenQ_exit | apply WP_exit) | ((with_reducible apply inBlk_same); exact rfl) | (apply wlp; apply pv_assign; exact fI rfl)))
    refine WP_loopS [10, 51, 52, 53, 54, 55, 56, 57, 58, 59, 60, 61, 62, 63, 64, 65, 66, 67] (fun (k : Nat) F => F.put 10 (.int .i64 k)) (fun k w' => k ≤ y.1.wishes.length ∧ Hp w1 [] w' ([inW (some ⟨gi, 0, none⟩) ci ins, ownL eT 91 2 sx cx outs, ownL eEn 46 6 so co xs, blk db 13 (frOf (drC d a)) 30] ++ (xs.flatMap enOwn ++ (ins.flatMap enOwn).map anyC))) (fun k => y.1.wishes.length - k) 0 (put_self (Same.eq .refl) rfl) ⟨Nat.zero_le _, hp⟩ ?_
    clear hp
    rintro u10 k w ⟨hk, hp⟩
    have hcell := (inW_cell hp hyi).h2
    (repeat (first | (with_reducible first | apply WP_seq | apply WP_region | apply wpl_nil | apply thenQ_n) | (apply wlp; ((first | apply pv_move | apply pf_field | (apply pf_load; exact rfl) | (apply pf_len; exact rfl) | apply pv_lss | (apply pf_index; exact rfl)) <;> (first | exact rfl | assumption)); (first | exact fI rfl | exact fB rfl | exact fP rfl | exact fS rfl))))
    refine WP_cond_d rfl (fun hc => ?_) (fun hc => ?_)
    · have hkl : k < y.1.wishes.length := by omega
      obtain ⟨gp, hgp⟩ := (hE y hym).vW.addr (by intro h0; rw [h0] at hkl; simp at hkl)
      (repeat (first | (with_reducible first | apply WP_seq | apply WP_block | apply WP_region | apply thenQ_n | apply WP_skip) | (apply wlp; ((first | apply pv_move | apply pf_field | (apply pf_load; exact rfl) | (apply pf_index; exact rfl)) <;> (first | exact rfl | assumption)); (first | exact fI rfl | exact fP rfl | exact fS rfl))))
      (apply wls0; exact st_storeM hp (p := anyC (ownL eS 9 1 y.2.sW y.2.cW y.1.wishes)) (b := gp) (off := 0 + k * 1) (List.mem_append_right [_, _, _, _] (List.mem_append_right _ (List.mem_map.2 ⟨_, List.mem_flatMap.2 ⟨y, hym, by simp [enOwn]⟩, rfl⟩))) (by rw [hgp]; rfl) (anyC_set (hE y hym).vW (fun _ => rfl) (by omega)) rfl rfl rfl (sizeTy_ok rfl); rintro _ w ⟨rfl, hp⟩)
      (repeat (first | (with_reducible first | apply WP_region | apply wpl_nil | apply thenQ_n | apply inBlk_n) | (apply wlp; apply pv_move; exact fI rfl)))
      (apply wlp; exact pv_add rfl rfl; exact int_eq (i64_in (by omega) (by omega)))
      (repeat (first | (with_reducible first | apply wpl_nil | apply thenQ_n) | (apply wlp; apply pv_assign; exact fI rfl)))
      exact ⟨k + 1, put_self (Same.eq (by repeat (first | exact Same.hav | exact Same.refl | refine Same.put rfl ?_ | refine Same.havs rfl ?_))) rfl, ⟨by omega, hp⟩, by omega⟩
    (repeat (first | (with_reducible first | apply WP_seq | apply WP_block | apply WP_region | apply wpl_nil | apply thenQ_n | apply thenQ_exit | apply WP_exit) | ((with_reducible apply inBlk_same); exact rfl) | (apply wlp; apply pv_assign; exact fI rfl)))
    refine WP_loopS [11, 68, 69, 70, 71, 72, 73, 74, 75, 76, 77, 78, 79, 80, 81, 82, 83, 84] (fun (k : Nat) F => F.put 11 (.int .i64 k)) (fun k w' => k ≤ y.1.groups.length ∧ Hp w1 [] w' ([inW (some ⟨gi, 0, none⟩) ci ins, ownL eT 91 2 sx cx outs, ownL eEn 46 6 so co xs, blk db 13 (frOf (drC d a)) 30] ++ (xs.flatMap enOwn ++ (ins.flatMap enOwn).map anyC))) (fun k => y.1.groups.length - k) 0 (put_self (Same.eq .refl) rfl) ⟨Nat.zero_le _, hp⟩ ?_
    clear hp
    rintro u11 k w ⟨hk, hp⟩
    have hcell := (inW_cell hp hyi).h3
    (repeat (first | (with_reducible first | apply WP_seq | apply WP_region | apply wpl_nil | apply thenQ_n) | (apply wlp; ((first | apply pv_move | apply pf_field | (apply pf_load; exact rfl) | (apply pf_len; exact rfl) | apply pv_lss | (apply pf_index; exact rfl)) <;> (first | exact rfl | assumption)); (first | exact fI rfl | exact fB rfl | exact fP rfl | exact fS rfl))))
    refine WP_cond_d rfl (fun hc => ?_) (fun hc => ?_)
    · have hkl : k < y.1.groups.length := by omega
      obtain ⟨gp, hgp⟩ := (hE y hym).vG.addr (by intro h0; rw [h0] at hkl; simp at hkl)
      (repeat (first | (with_reducible first | apply WP_seq | apply WP_block | apply WP_region | apply thenQ_n | apply WP_skip) | (apply wlp; ((first | apply pv_move | apply pf_field | (apply pf_load; exact rfl) | (apply pf_index; exact rfl)) <;> (first | exact rfl | assumption)); (first | exact fI rfl | exact fP rfl | exact fS rfl))))
      (apply wls0; exact st_storeM hp (p := anyC (ownL eS 9 1 y.2.sG y.2.cG y.1.groups)) (b := gp) (off := 0 + k * 1) (List.mem_append_right [_, _, _, _] (List.mem_append_right _ (List.mem_map.2 ⟨_, List.mem_flatMap.2 ⟨y, hym, by simp [enOwn]⟩, rfl⟩))) (by rw [hgp]; rfl) (anyC_set (hE y hym).vG (fun _ => rfl) (by omega)) rfl rfl rfl (sizeTy_ok rfl); rintro _ w ⟨rfl, hp⟩)
      (repeat (first | (with_reducible first | apply WP_region | apply wpl_nil | apply thenQ_n | apply inBlk_n) | (apply wlp; apply pv_move; exact fI rfl)))
      (apply wlp; exact pv_add rfl rfl; exact int_eq (i64_in (by omega) (by omega)))
      (repeat (first | (with_reducible first | apply wpl_nil | apply thenQ_n) | (apply wlp; apply pv_assign; exact fI rfl)))
      exact ⟨k + 1, put_self (Same.eq (by repeat (first | exact Same.hav | exact Same.refl | refine Same.put rfl ?_ | refine Same.havs rfl ?_))) rfl, ⟨by omega, hp⟩, by omega⟩
    (repeat (first | (with_reducible first | apply WP_region | apply thenQ_n | apply thenQ_exit | apply WP_exit) | ((with_reducible apply inBlk_same); exact rfl) | (apply wlp; ((first | apply pv_move | apply pf_field | (apply pf_index; exact rfl)) <;> (first | exact rfl | assumption)); (first | exact fI rfl | exact fP rfl | exact fS rfl))))
    (apply wls0; exact st_storeM hp (p := inW (some ⟨gi, 0, none⟩) ci ins) (b := gi) (off := 0 + i * 6 + 0) (by simp) rfl (inW_set hilt) rfl rfl rfl (sizeTy_ok rfl); rintro _ w ⟨rfl, hp⟩)
    (repeat (first | (with_reducible first | apply WP_region | apply wpl_nil | apply thenQ_n | apply inBlk_n) | (apply wlp; apply pv_move; exact fI rfl)))
    (apply wlp; exact pv_add rfl rfl; exact int_eq (i64_in (by omega) (by omega)))
    (repeat (first | (with_reducible first | apply wpl_nil | apply thenQ_n) | (apply wlp; apply pv_assign; exact fI rfl)))
    exact ⟨i + 1, put_self (Same.eq (by repeat (first | exact Same.hav | exact Same.refl | refine Same.put rfl ?_ | refine Same.havs rfl ?_))) rfl, ⟨by omega, hp⟩, by omega⟩
  -- all of the entrants' own lists are as they were
  obtain ⟨w5, hw5⟩ : ∃ w5, w5 = w := ⟨_, rfl⟩
  rw [← hw5] at hp ⊢
  have hd5 : DrAt w5 d a := hd.keep hp.keeps
  have cD := hp.agg_blk (k := 13) (o := 0) 3 rfl rfl
  have sX : SlAt w5 6 eEn so xs := ownL_At hp 2 rfl hvo (fun _ => rfl)
  have hxe : ∀ x ∈ xs, EnAt w5 x.1 x.2 := fun x hx => (hO x hx).v.at_ hp (fun p hp => List.mem_append_right [_, _, _, _] (List.mem_append_left _ (List.mem_flatMap.2 ⟨x, hx, hp⟩)))
  have clz5 := hp.old0 clz
  have hk5 := hk1.trans hp.keeps (by simp)
  have hln : ∀ x ∈ xs, EnLn x.1 1000000000 := fun x hx => (hO x hx).ln.mono (by omega)
  clear hp hw5
  have hp := Hp.start (M := []) (w := w5)
  (repeat (first | (with_reducible first | apply WP_seq | apply WP_region | apply thenQ_n | apply thenQ_exit | apply WP_exit) | ((with_reducible apply inBlk_same); exact rfl)))
  (apply wlp; (apply pf_loadb; exact rfl; exact rfl; exact rfl; exact fun j v hv => hp.old0 (cD j v hv)); exact fA13 rfl)
  (repeat (apply wlp; apply pv_move; exact fS rfl))
  (apply wls; exact st_call rfl ent21 rfl (c21 d a xs so co _ (hd5.keep hp.keeps) (sX.keep0 hp.keeps) (fun x hx => (hxe x hx).keep hp.keeps) (fun y hy => (hO y hy).ln.mono (by omega)) (by omega)))
  rintro _ w6 ⟨ins2, outs2, si2, ci2, sx2, cx2, rfl, hvi2, hvx2, hadm2, hE2, hpa⟩
  have hp := hp.joinT [ownL eEn 46 6 si2 ci2 ins2, ownL eT 91 2 sx2 cx2 outs2] (ins2.flatMap enOwn) hpa
  rw [hmap, ents_adm hG.ok hG.bar] at hadm2
  have hB1 : ins2.map (·.1) = xs.map (·.1) := by rw [(Prod.mk.inj hadm2).1, hmap]
  have hB2 : outs2 = [] := (Prod.mk.inj hadm2).2
  subst hB2
  have sI2 : SlAt w6 6 eEn si2 ins2 := ownL_At hp 0 rfl hvi2 (fun _ => rfl)
  have eI2 : ∀ y ∈ ins2, EnAt w6 y.1 y.2 := fun y hy => (hE2 y hy).at_ hp (fun p hp => List.mem_append_right [_, _] (List.mem_append_right _ (List.mem_flatMap.2 ⟨y, hy, hp⟩)))
  have hd6 : DrAt w6 d a := hd5.keep hp.keeps
  have cD6 : ∀ (j : Nat) (v : Value), _ → w6.cell? _ = some v := fun j v hv => hp.old0 (cD j v hv)
  have sX : SlAt w6 6 eEn so xs := sX.keep0 hp.keeps
  have hxe : ∀ x ∈ xs, EnAt w6 x.1 x.2 := fun x hx => (hxe x hx).keep hp.keeps
  have clz6 := hp.old0 clz5
  have hk6 := hk5.trans hp.keeps (by simp)
  have hl2 : ∀ y ∈ ins2, EnLn y.1 1000000000 := by
    intro y hy
    have hmem : y.1 ∈ xs.map (·.1) := by
      rw [← hB1]
      exact List.mem_map_of_mem hy
    obtain ⟨x, hx, e1⟩ := List.mem_map.1 hmem
    rw [← e1]
    exact hln x hx
  have hi2l : ins2.length = xs.length := by
    have h1 := congrArg List.length hB1
    simpa using h1
  clear hp
  have hp := Hp.start (M := []) (w := w6)
  (apply wlp; apply pv_move; exact fU rfl)
  (apply wlp; (apply pv_extract <;> exact rfl); exact fS rfl)
  (apply wlp; (apply pv_extract <;> exact rfl); exact fS rfl)
  (apply wlp; apply pv_assign; exact fS rfl)
  (apply wlp; apply pv_assign; exact fS rfl)
  ((repeat (with_reducible first | apply WP_seq | apply WP_region | apply wpl_nil | apply thenQ_n)); (apply wlp; apply pv_move; exact fB rfl); (apply wlp; apply pv_move; exact fB rfl))
  ((apply wlpT; exact rfl; exact rfl); (apply pv_move); (intros; exact fS rfl))
  (apply wlpT; exact rfl; exact rfl; (apply pf_loadb; exact rfl; exact rfl; exact rfl; exact fun j v hv => hp.old0 (cD6 j v hv)); exact fA13 rfl)
  (apply wlpT; exact rfl; exact rfl; exact pf_index_a (i := 1) rfl rfl rfl (by decide); exact fP rfl)
  (apply wlpT; exact rfl; exact rfl; exact pf_load rfl rfl (hp.old0 clz6); exact fS rfl)
  (apply wlsT; exact rfl; exact rfl; exact st_call rfl ent16 rfl (c16 d a z.2.1 z.1 z.2.2 _ (hd6.keep hp.keeps) hG.ok (hz.at_.keep0 (hk6.trans hp.keeps (by simp))) (Nat.le_trans hz.cap hz.mx)); rintro _ w7 ⟨zs, sz, cz, rfl, hvz, hmapz, hEz, hpE⟩)
  have hp := hp.joinT [ownL eEn 46 6 sz cz zs] (zs.flatMap enOwn) hpE
  have hze : ∀ x ∈ zs, EnAt w7 x.1 x.2 := fun x hx => (hEz x hx).at_ hp (fun p hp => List.mem_append_right [_] (List.mem_flatMap.2 ⟨x, hx, hp⟩))
  (apply wlsT; exact rfl; exact rfl; exact st_call rfl ent23 rfl (c23 xs zs so sz co cz _ (by omega) (hmap.trans hmapz.symm) (sX.keep0 hp.keeps) (ownL_At hp 0 rfl hvz (fun _ => rfl)) (fun y hy => (hxe y hy).keep hp.keeps) hze hln); rintro _ w ⟨rfl, hk⟩; have hp := hp.call hk)
  (apply wlp; exact pv_and' rfl rfl; exact bool_eq (b := true) rfl)
  (apply wlp; apply pv_move; exact fB rfl)
  ((apply wlpT; exact rfl; exact rfl); (apply pv_move); (intros; exact fS rfl))
  ((apply wlpT; exact rfl; exact rfl); (apply pv_move); (intros; exact fS rfl))
  (apply wlsT; exact rfl; exact rfl; exact st_call rfl ent23 rfl (c23 ins2 xs si2 so ci2 co _ (by omega) hB1 (sI2.keep0 hp.keeps) (sX.keep0 hp.keeps) (fun y hy => (eI2 y hy).keep hp.keeps) (fun y hy => (hxe y hy).keep hp.keeps) hl2); rintro _ w ⟨rfl, hk⟩; have hp := hp.call hk)
  (apply wlp; exact pv_and' rfl rfl; exact bool_eq (b := true) rfl)
  (apply wlp; apply pv_move; exact fB rfl)
  ((apply wlpT; exact rfl; exact rfl); (apply pv_move); (intros; exact fS rfl))
  ((apply wlpT; exact rfl; exact rfl); (((apply pf_len; exact rfl) <;> exact rfl)); (intros; exact fI rfl))
  (apply wlpT; exact rfl; exact rfl; exact pv_eql rfl rfl; exact bool_eq (b := true) rfl)
  (apply wlp; exact pv_and' rfl rfl; exact bool_eq (b := true) rfl)
  (repeat (first | (with_reducible first | apply wpl_nil | apply thenQ_n | apply WP_ret) | (apply wlp; apply pv_assign; exact fB rfl)))
  exact ret_tmp rfl rfl ⟨_, rfl, rfl, hk6.trans hp.keeps (by simp)⟩
end Go.Proofs.Ytgephdcapajaiaa
