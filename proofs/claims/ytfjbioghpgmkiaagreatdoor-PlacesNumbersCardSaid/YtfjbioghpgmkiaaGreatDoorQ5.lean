/- Merged texts of ours: Sd Za; conditions are the hypotheses of each law. -/
import Derived.Test.YtfjbioghpgmkiaaGreatDoorQ4
import Derived.Test.YtfjbioghpgmkiaaGreatDoorTie
import Derived.Test.YtfjbioghpgmkiaaGreatDoorCards
import Derived.WalkKit
import Derived.ProofKit
import Derived.OpenShut
import Derived.Carry
import Derived.Deep.Slices
import Derived.SizedLaws
import Derived.LaidLaws
import Derived.LaidHandle
import Derived.ChangeVars
import Derived.JoinedOf
import Derived.RowKit
/- The law PlacesKeeps returns true; conditions: the plan lies in memory. -/
namespace Go.Proofs.YtfjbioghpgmkiaaGreatDoor
open Go.Eng Go.Dig

theorem eqIn_int {P : Program} {w : World} {t : Nat} {a b : Int} (ht : P.underlying t = some (.int .i64)) (k : Nat) : (Op.equalIn (k + 1) t (.int .i64 a) (.int .i64 b)).run P w = .ok (decide (a = b)) w := by
  unfold Op.equalIn
  simp [run_und ht]
  rfl
theorem eq52 (a a' : ByteArray) (b b' : Int) (w : World) : (Op.equal 52 (.agg #[.string a, .int .i64 b]) (.agg #[.string a', .int .i64 b'])).run Tryz.prog w = .ok (decide (a = a') && decide (b = b')) w := by
  show (Op.equalIn (9998 + 1 + 1) 52 _ _).run Tryz.prog w = _
  have hs : (Program.stoodInHeld Tryz.prog 52) = false := by kernel_rfl
  have h9 := fun (x y : ByteArray) => eqIn_str (P := Tryz.prog) (w := w) (a := x) (b := y) Tryz.underlying9 9998
  have h3 := fun (x y : Int) => eqIn_int (P := Tryz.prog) (w := w) (a := x) (b := y) Tryz.underlying3 9998
  have g9 : (isAgg 9).run Tryz.prog w = .ok false w := by kernel_rfl
  have g3 : (isAgg 3).run Tryz.prog w = .ok false w := by kernel_rfl
  have p0 := fun (x : ByteArray) (y : Int) => partAt g9 #[.string x, .int .i64 y] 0 _ rfl
  have p1 := fun (x : ByteArray) (y : Int) => partAt g3 #[.string x, .int .i64 y] 1 _ rfl
  simp only [Nat.reduceAdd] at h9 h3
  rw [Op.equalIn]
  simp only [Sem.run_bind, run_und Tryz.underlying52, Result.andThen_ok]
  simp [hs, Sem.run_bind, p0, p1, h9, h3]
  by_cases hb : a = a' <;> by_cases hc : b = b' <;> simp [hb, hc]
theorem pv_ne52 {n : FrK} {w : World} {F : Fr} {d : Option Tmp} {ty : TypeId} {pos : String} {aft : Array Edge} {g : Option (Nat × Bool)} {x y : Operand} {t' : Nat} {a a' : ByteArray} {b b' : Int}
    (hx : ev n F x = .agg #[.string a, .int .i64 b]) (hy : ev n F y = .agg #[.string a', .int .i64 b']) : PV Tryz.prog n w F ⟨d, .binOp .neq 52 x y t', ty, pos, aft, g⟩ (.bool (!(decide (a = a') && decide (b = b')))) := by
  have h := eq52 a a' b b' w
  have hg : Program.eqGuardType Tryz.prog Tryz.prog.depth 52 = false := by kernel_rfl
  simp [PV, execOp, hx, hy, eqGuard, hg, binOp, h]
theorem mkP_le {lp : List (Int × Int)} (h : ∀ p ∈ lp, p.2 ≤ 9223372036854775807) : ∀ p ∈ (lp.take 6).map mkP, p.2 ≤ 9223372036854775807 := by
  intro p hp
  obtain ⟨q, hq, rfl⟩ := List.mem_map.1 hp
  exact h q (List.mem_of_mem_take hq)
theorem mkP_len (lp : List (Int × Int)) : ((lp.take 6).map mkP).length ≤ 12 := by
  rw [List.length_map, List.length_take]
  omega
theorem mkE_len {l : List En} {le : List Pe} (h : l.map evE = (le.take 8).mapIdx mkEV) : l.length ≤ 8 := by
  have := congrArg List.length h
  rw [List.length_map, List.length_mapIdx, List.length_take] at this
  omega
theorem svl_none {so : Option Addr} {co : Nat} {o : List Int} (h : SVL so co o) : so = none → o = [] := fun hn => by
  cases o with
  | nil => rfl
  | cons a b => obtain ⟨g, hg⟩ := h.addr (by simp); rw [hg] at hn; cases hn
def chB : ByteArray := ⟨#[99, 104, 97, 110, 103, 101, 100]⟩

attribute [local irreducible] PV StepF wpl wpd WP Ret
attribute [local irreducible] Fit srt tl fl seenL stO isO trn fact ordN rfO num asg nmI

set_option maxHeartbeats 16000000 in
theorem c7 (lp : List (Int × Int)) (le : List Pe) (sp se : Option Addr) (cp ce : Nat) (a : Int) (w : World) (hsp : SlAt w 2 eT2 sp lp) (hse : SlAt w 3 ePe se le) (hsw : ∀ p ∈ le, SlAt w 1 eI p.ws p.wl)
    (hpr : ∀ p ∈ lp, p.2 ≤ 9223372036854775807) (ha : a ≤ 9223372036854775807) :
    Ret Tryz.prog 7 [.agg #[.slice sp lp.length cp, .slice se le.length ce], .int .i64 a] w (fun v w' => v = .bool true ∧ Keeps [] w w') := by
  have hpm := mkP_le hpr
  have hps := mkP_len lp
  refine Ret.of_WP Tryz.func7 rfl Tryz.ntmps7 rfl ?_
  have hp := Hp.start (M := []) (w := w)
  (repeat (with_reducible first | apply WP_seq | apply WP_region))
  (apply wls; exact sbox2 hp rfl; rintro _ w1 ⟨qb, rfl, hp⟩)
  (repeat (first | (with_reducible first | apply WP_seq | apply WP_region | apply wpl_nil | apply thenQ_n) | (apply wlp; apply pv_assign; exact fB rfl)))
  (apply wls; exact st_call rfl ent11 rfl (p11 _))
  rintro _ w2 ⟨rfl, hk⟩
  have hp := hp.call hk
  (repeat (first | (with_reducible first | apply WP_seq | apply WP_region | apply wpl_nil | apply thenQ_n) | (apply wlp; ((first | apply pv_assign | (apply pf_loadb; exact rfl)) <;> (first | exact rfl | exact hp.agg_blk 0 rfl rfl)); (first | exact fB rfl | exact fA2 rfl))))
  (apply wls; exact st_call rfl ent12 rfl (p12 lp le sp se cp ce _ (hsp.keep0 hp.keeps) (hse.keep0 hp.keeps) (fun p hp2 => (hsw p hp2).keep0 hp.keeps)))
  rintro _ w3 ⟨sP, cP, s, c, l, rfl, hP, hE, hec, hev, hlc, hk⟩
  have hp := hp.call hk
  have hk3 := hp.keeps
  have hq : ∀ (j : Nat) (v : Value), [Value.slice sp lp.length cp, .slice se le.length ce][j]? = some v → w3.cell? ⟨qb, 0 + j, none⟩ = some v := hp.cells 0 _ rfl rfl (fun j v hv => by rw [Nat.zero_add, frOf_eq, List.getD_eq_getElem?_getD, hv]; rfl)
  have hl8 := mkE_len hev
  generalize hPS : (lp.take 6).map mkP = ps at hpm hps hP
  clear hp
  have hp := Hp.start (M := []) (w := w3)
  (repeat (apply wlp; ((first | apply pv_move | apply pv_extract) <;> exact rfl); (first | exact fS rfl | exact fA13 rfl | exact fU rfl)))
  (apply wls; exact salloc13 hp (zeroTy_ok rfl); rintro _ w4 ⟨db, rfl, hp⟩)
  (apply wls0; exact sstore13 hp 0 rfl rfl rfl rfl (sizeTy_ok rfl) rfl; rintro _ w5 ⟨rfl, hp⟩)
  have hp := hp.norm 0 (dB xN 2 sP ps.length cP) rfl rfl
  (repeat (first | (with_reducible first | apply WP_seq | apply WP_region | apply wpl_nil | apply thenQ_n) | (apply wlp; ((first | apply pv_assign | (apply pf_loadb; exact rfl)) <;> exact rfl); exact fS rfl)))
  (apply wlp; exact pf_loads (vs := [Value.slice sp lp.length cp, .slice se le.length ce]) rfl rfl rfl rfl (fun j v hv => hp.old0 (hq j v hv)); exact fA2 rfl)
  have hk35 := hk3.trans hp.keeps (by simp)
  (apply wls; exact st_call rfl ent12 rfl (p12 lp le sp se cp ce _ (hsp.keep0 hk35) (hse.keep0 hk35) (fun p hp2 => (hsw p hp2).keep0 hk35)))
  rintro _ w6 ⟨sP2, cP2, s2, c2, l2, rfl, hP2, hE2, hec2, hev2, hlc2, hk⟩
  have hp := hp.call hk
  rw [hPS] at hP2 ⊢
  have hD : ∀ (j : Nat) (v : Value), (dB xN 2 sP ps.length cP)[j]? = some v → w6.cell? ⟨db, 0 + j, none⟩ = some v := hp.cells 0 _ rfl rfl (fun j v hv => by rw [Nat.zero_add, frOf_eq, List.getD_eq_getElem?_getD, hv]; rfl)
  have hP := hP.keep0 hp.keeps
  have hE := hE.keep0 hp.keeps
  have hk6 := hk3.trans hp.keeps (by simp)
  have hll2 : l2.map evE = l.map evE := by rw [hev, hev2]
  clear hp hq hk35 hk3 hsp hse hsw hev hev2 hec2 hlc2 hPS
  have hp := Hp.start (M := []) (w := w6)
  (repeat (apply wlp; ((first | apply pv_move | apply pv_extract) <;> exact rfl); (first | exact fS rfl | exact fA13 rfl | exact fU rfl)))
  (apply wls; exact salloc13 hp (zeroTy_ok rfl); rintro _ w7 ⟨db2, rfl, hp⟩)
  (apply wls0; exact sstore13 hp 0 rfl rfl rfl rfl (sizeTy_ok rfl) rfl; rintro _ w8 ⟨rfl, hp⟩)
  have hp := hp.norm 0 (dB xN 2 sP2 ps.length cP2) rfl rfl
  (repeat (first | (with_reducible first | apply WP_seq | apply WP_region | apply wpl_nil | apply thenQ_n) | (apply wlp; ((first | apply pv_move | apply pv_assign | (apply pf_len; exact rfl)) <;> exact rfl); (first | exact fI rfl | exact fS rfl))))
  (apply wls; exact st_call rfl ent13 rfl (p13 l.length a _ (by omega) ha))
  rintro _ w9 ⟨so, co, rfl, hvo, hpo⟩
  have hp := hp.join hpo
  clear hpo
  have hX := shX_lt l.length a
  rw [← ord_rf l.length _ hX] at hvo hp ⊢
  have hol := ordN_len l.length (shX l.length a)
  have hno := num_ord hX
  have hio := ord_isO hX
  generalize shX l.length a = X at hX hol hno hio hvo hp
  have hfx : Fit X := (fact_fit (n := l.length) (by omega)).le (by omega)
  have hff : Fit (fact l.length) := fact_fit (n := l.length) (by omega)
  obtain ⟨o, ho⟩ : ∃ o, o = ordN l.length X := ⟨_, rfl⟩
  rw [← ho] at hol hno hio hvo hp ⊢
  (repeat (first | (with_reducible first | apply WP_seq | apply WP_region | apply wpl_nil | apply thenQ_n) | (apply wlp; ((first | apply pv_assign | (apply pf_loadb; exact rfl)) <;> exact rfl); exact fS rfl)))
  (apply wlp; exact pf_loads (vs := dB xN 2 sP ps.length cP) rfl rfl rfl rfl (fun j v hv => hp.old0 (hD j v hv)); exact fA13 rfl)
  (repeat (apply wlp; apply pv_move; exact fS rfl))
  (apply wls; exact st_call rfl ent14 rfl (p14 xN ps l o s sP so c cP co _ (hE.keep0 hp.keeps) (hP.keep0 hp.keeps) (ownL_At hp 0 rfl hvo (fun _ => rfl)) (by omega) hps hpm hio (svl_none hvo)))
  rintro _ w10 ⟨ab, rfl, hva, hpo⟩
  have hp := hp.join hpo
  clear hpo
  have hAl := asg_len l ps o
  obtain ⟨A, hA⟩ : ∃ A, A = asg l ps o := ⟨_, rfl⟩
  rw [← hA] at hva hp hAl
  (repeat (first | (with_reducible first | apply WP_seq | apply WP_region | apply wpl_nil | apply thenQ_n) | (apply wlp; ((first | apply pv_move | apply pv_assign | apply pv_extract) <;> exact rfl); (first | exact fB rfl | exact fS rfl | exact fU rfl))))
  (apply wls; exact sf_slice hp rfl rfl rfl rfl rfl rfl rfl; rintro _ w11 ⟨eb, rfl, hp⟩)
  (repeat (apply wlp; apply pv_move; exact fS rfl))
  (apply wls; exact sf_clone eS A hp 0 rfl rfl rfl rfl rfl rfl (fun _ => rfl) rfl (show _ = Value.slice (some ⟨ab, 0, none⟩) A.length l.length by rw [hAl]; rfl) rfl (ownL_At hp 1 rfl hva (fun _ => rfl)) (fun _ => rfl) (by omega); rintro _ w12 ⟨sB, cB, rfl, hvB, hp⟩)
  have hp : Hp w6 [] w12 [ownL eS 9 1 sB cB A, ownL eS 9 1 (some ⟨ab, 0, none⟩) l.length A, ownL eI 3 1 so co o, blk db2 13 (frOf (dB xN 2 sP2 ps.length cP2)) 32] := hp
  (repeat (first | (with_reducible first | apply WP_seq | apply WP_region | apply wpl_nil | apply thenQ_n) | (apply wlp; (first | apply pv_move | apply pv_assign); exact fS rfl)))
  (apply wls; exact st_call rfl ent21 rfl (p21t o so co _ (ownL_At hp 2 rfl hvo (fun _ => rfl)) (by omega) hvo.cap (by rw [hol]; exact hio)))
  rintro _ w13 ⟨rfl, hk⟩
  have hp := hp.call hk
  rw [hno]
  (repeat (first | (with_reducible first | apply WP_seq | apply WP_region | apply wpl_nil | apply thenQ_n) | (apply wlp; ((first | apply pv_move | apply pv_assign | (apply pf_len; exact rfl) | apply pv_extract) <;> exact rfl); (first | exact fI rfl | exact fB rfl | exact fS rfl | exact fT rfl | exact fU rfl))))
  (apply wls; exact st_call rfl ent22 rfl (p22t l.length (ofN X) X _ (NS.self hfx) hfx (by omega) hX))
  rintro _ w14 ⟨sk, ck, rfl, hvk, hpo⟩
  have hp := hp.join hpo
  clear hpo
  rw [← ho] at hvk hp ⊢
  have hp : Hp w6 [] w14 [ownL eI 3 1 sk ck o, ownL eS 9 1 sB cB A, ownL eS 9 1 (some ⟨ab, 0, none⟩) l.length A, ownL eI 3 1 so co o, blk db2 13 (frOf (dB xN 2 sP2 ps.length cP2)) 32] := hp
  (repeat (first | (with_reducible first | apply WP_seq | apply WP_region | apply wpl_nil | apply thenQ_n) | (apply wlp; ((first | apply pv_move | apply pv_assign | (apply pf_loadb; exact rfl) | apply pv_extract) <;> exact rfl); (first | exact fB rfl | exact fS rfl | exact fU rfl))))
  (apply wlp; exact pf_loads (vs := dB xN 2 sP ps.length cP) rfl rfl rfl rfl (fun j v hv => hp.old0 (hD j v hv)); exact fA13 rfl)
  (repeat (apply wlp; apply pv_move; exact fS rfl))
  have h23 := p23 xN ps l o A s sP so (some ⟨ab, 0, none⟩) c cP co l.length w14 (hE.keep0 hp.keeps) hec (hP.keep0 hp.keeps) (ownL_At hp 3 rfl hvo (fun _ => rfl)) (ownL_At hp 2 rfl hva (fun _ => rfl)) (by omega) hps hpm hio (svl_none hvo) hAl
  rw [hAl] at h23
  (apply wls; exact st_call rfl ent23 rfl h23; rintro _ w15 ⟨⟨bs, rfl, _⟩, hk⟩; have hp := hp.call hk; clear h23)
  (repeat (first | (with_reducible first | apply WP_seq | apply WP_block | apply WP_region | apply wpl_nil | apply thenQ_n) | (apply wlp; ((first | apply pv_move | (apply pf_len; exact rfl)) <;> exact rfl); (first | exact fI rfl | exact fS rfl))))
  refine WP_loop2 [18, 70, 71, 72, 73, 74, 75, 76] (fun (k : Nat) (_z : List ByteArray) F => F.put 70 (.int .i64 (k : Int))) (fun k z w' => k ≤ l.length ∧ z.length = l.length ∧ Hp w6 [] w' [ownL eI 3 1 sk ck o, ownL eS 9 1 sB cB A, ownL eS 9 1 (some ⟨ab, 0, none⟩) l.length z, ownL eI 3 1 so co o, blk db2 13 (frOf (dB xN 2 sP2 ps.length cP2)) 32]) (fun k _ => l.length - k) 0 A (put_self (Same.eq .refl) rfl) ⟨Nat.zero_le _, hAl, hp⟩ ?_
  (repeat clear hp)
  rintro u k z w16 ⟨hk, hzl, hp⟩
  (repeat (first | (with_reducible first | apply WP_seq | apply WP_region | apply wpl_nil | apply thenQ_n) | (apply wlp; (apply pv_lss <;> exact rfl); exact fB rfl)))
  refine WP_cond_d rfl (fun h => ?_) (fun h => ?_)
  · have hkl : k < l.length := by omega
    have hvz : SVL (some ⟨ab, 0, none⟩) l.length z := .inr ⟨ab, l.length, by rw [hzl], by rw [hzl]; exact Nat.le_refl _, by unfold maxLen; omega⟩
    (repeat (first | (with_reducible first | apply WP_seq | apply WP_block | apply WP_region | apply wpl_nil | apply thenQ_n | apply WP_skip) | (apply wlp; ((first | apply pv_move | apply pv_assign | (apply pf_index; exact rfl)) <;> (first | exact rfl | assumption)); (first | exact fI rfl | exact fP rfl | exact fS rfl))))
    (apply wls0; exact st_setL eS z k chB hp 2 rfl hvz (by rw [hzl]; exact hkl) rfl rfl (fun _ => rfl) rfl rfl (sizeTy_ok rfl); rintro _ w17 ⟨rfl, hp⟩)
    (repeat (with_reducible first | apply WP_region | apply wpl_nil | apply thenQ_n | apply inBlk_n))
    (apply wlp; (exact pv_add rfl rfl); exact int_eq (b := ((k + 1 : Nat) : Int)) (by rw [i64_in (by omega) (by omega)]; omega))
    (repeat (first | (with_reducible first | apply wpl_nil | apply thenQ_n) | (apply wlp; apply pv_move; exact fI rfl)))
    exact ⟨k + 1, z.set k chB, put_self (Same.eq (by repeat (first | exact Same.hav | exact Same.refl | refine Same.put rfl ?_ | refine Same.havs rfl ?_))) rfl, ⟨by omega, by rw [List.length_set]; exact hzl, hp⟩, by omega⟩
  have hp : Hp w6 [] w16 [ownL eI 3 1 sk ck o, ownL eS 9 1 sB cB A, ownL eI 3 1 so co o, blk db2 13 (frOf (dB xN 2 sP2 ps.length cP2)) 32] := hp.picks [0, 1, 3, 4] _ rfl rfl
  clear h hk hzl hva
  (repeat (first | (with_reducible first | apply WP_seq | apply WP_block | apply WP_region | apply wpl_nil | apply thenQ_n | apply thenQ_exit | apply WP_exit) | ((with_reducible apply inBlk_same); exact rfl) | (apply wlp; ((first | apply pv_move | (apply pf_len; exact rfl)) <;> exact rfl); (first | exact fI rfl | exact fS rfl))))
  refine WP_loop2 [19, 79, 80, 81, 82, 83, 84, 85] (fun (k : Nat) (_z : List Int) F => F.put 79 (.int .i64 (k : Int))) (fun k z w' => k ≤ o.length ∧ z.length = o.length ∧ SVL sk ck z ∧ Hp w6 [] w' [ownL eI 3 1 sk ck z, ownL eS 9 1 sB cB A, ownL eI 3 1 so co o, blk db2 13 (frOf (dB xN 2 sP2 ps.length cP2)) 32]) (fun k _ => o.length - k) 0 o (put_self (Same.eq .refl) rfl) ⟨Nat.zero_le _, rfl, hvk, hp⟩ ?_
  (repeat clear hp)
  rintro u2 k z2 w17 ⟨hk, hzl, hvz, hp⟩
  (repeat (first | (with_reducible first | apply WP_seq | apply WP_region | apply wpl_nil | apply thenQ_n) | (apply wlp; (apply pv_lss <;> exact rfl); exact fB rfl)))
  refine WP_cond_d rfl (fun h => ?_) (fun h => ?_)
  · have hkl : k < o.length := by omega
    obtain ⟨gk, rfl⟩ := hvz.addr (by rintro rfl; simp at hzl; omega)
    (repeat (first | (with_reducible first | apply WP_seq | apply WP_block | apply WP_region | apply wpl_nil | apply thenQ_n | apply WP_skip) | (apply wlp; ((first | apply pv_move | apply pv_assign | (apply pf_index; exact rfl)) <;> (first | exact rfl | assumption)); (first | exact fI rfl | exact fP rfl | exact fS rfl))))
    (apply wls0; exact st_setL eI z2 k (-1) hp 0 rfl hvz (by rw [hzl]; exact hkl) rfl rfl (fun _ => rfl) rfl rfl (sizeTy_ok rfl); rintro _ w18 ⟨rfl, hp⟩)
    (repeat (with_reducible first | apply WP_region | apply wpl_nil | apply thenQ_n | apply inBlk_n))
    (apply wlp; (exact pv_add rfl rfl); exact int_eq (b := ((k + 1 : Nat) : Int)) (by rw [i64_in (by omega) (by omega)]; omega))
    (repeat (first | (with_reducible first | apply wpl_nil | apply thenQ_n) | (apply wlp; apply pv_move; exact fI rfl)))
    exact ⟨k + 1, z2.set k (-1), put_self (Same.eq (by repeat (first | exact Same.hav | exact Same.refl | refine Same.put rfl ?_ | refine Same.havs rfl ?_))) rfl, ⟨by omega, by rw [List.length_set]; exact hzl, hvz.set k (-1), hp⟩, by omega⟩
  have hp := hp.tail
  clear h hk hzl hvz hvk
  (repeat (first | (with_reducible first | apply WP_seq | apply WP_region | apply thenQ_n | apply thenQ_exit | apply WP_exit) | ((with_reducible apply inBlk_same); exact rfl) | (apply wlp; ((apply pf_loadb; exact rfl) <;> exact rfl); skip)))
  (apply wlp; exact pf_loads (vs := dB xN 2 sP ps.length cP) rfl rfl rfl rfl (fun j v hv => hp.old0 (hD j v hv)); exact fA13 rfl)
  (repeat (apply wlp; apply pv_move; exact fS rfl))
  (apply wls; exact st_call rfl ent14 rfl (p14 xN ps l o s sP so c cP co _ (hE.keep0 hp.keeps) (hP.keep0 hp.keeps) (ownL_At hp 1 rfl hvo (fun _ => rfl)) (by omega) hps hpm hio (svl_none hvo)))
  rintro _ w18 ⟨ab2, rfl, hva2, hpo⟩
  have hp := hp.join hpo
  clear hpo
  rw [← hA] at hva2 hp
  have hp : Hp w6 [] w18 [ownL eS 9 1 (some ⟨ab2, 0, none⟩) l.length A, ownL eS 9 1 sB cB A, ownL eI 3 1 so co o, blk db2 13 (frOf (dB xN 2 sP2 ps.length cP2)) 32] := hp
  (repeat (first | (with_reducible first | apply WP_seq | apply WP_block | apply WP_region | apply wpl_nil | apply thenQ_n) | (apply wlp; ((first | apply pv_move | apply pv_assign | (apply pf_len; exact rfl) | apply pv_extract) <;> exact rfl); (first | exact fI rfl | exact fB rfl | exact fS rfl | exact fU rfl))))
  refine WP_loopS [4, 22, 95, 96, 97, 98, 99, 100, 101, 102, 103, 104, 105, 106, 107, 108, 109, 110, 111, 112, 113, 114, 115, 116, 117, 118, 119, 120, 121, 122, 123, 124, 125, 126, 127, 128, 129, 130, 131, 132, 133, 134, 135, 136] (fun (k : Nat) F => F.put 95 (.int .i64 (k : Int))) (fun k w' => k ≤ l.length ∧ Hp w6 [] w' [ownL eS 9 1 (some ⟨ab2, 0, none⟩) l.length A, ownL eS 9 1 sB cB A, ownL eI 3 1 so co o, blk db2 13 (frOf (dB xN 2 sP2 ps.length cP2)) 32]) (fun k => l.length - k) 0 (put_self (Same.eq .refl) rfl) ⟨Nat.zero_le _, hp⟩ ?_
  (repeat clear hp)
  rintro u3 k w19 ⟨hk, hp⟩
  (repeat (first | (with_reducible first | apply WP_seq | apply WP_region | apply wpl_nil | apply thenQ_n) | (apply wlp; (apply pv_lss <;> exact rfl); exact fB rfl)))
  refine WP_cond_d rfl (fun h => ?_) (fun h => ?_)
  · have hkl : k < l.length := by omega
    have hl2 : l2.length = l.length := by have := congrArg List.length hll2; simpa using this
    have hkl2 : k < l2.length := by omega
    obtain ⟨bE, oE, hsE, hcE⟩ := hE.at_.base (by omega)
    obtain ⟨bE2, oE2, hsE2, hcE2⟩ := hE2.at_.base (by omega)
    have hcn := hcE k _ (List.getElem?_eq_getElem hkl)
    have hcn2 := hcE2 k _ (List.getElem?_eq_getElem hkl2)
    have hws := hE.ws l[k] (List.getElem_mem hkl)
    have hws2 := hE2.ws l2[k] (List.getElem_mem hkl2)
    have hwl := hE.len l[k] (List.getElem_mem hkl)
    have hwl2 := hE2.len l2[k] (List.getElem_mem hkl2)
    have hev : evE l2[k] = evE l[k] := by
      have := congrArg (fun z => z[k]?) hll2
      simpa [List.getElem?_map, List.getElem?_eq_getElem hkl, List.getElem?_eq_getElem hkl2] using this
    generalize l[k] = e at hcn hws hwl hev
    generalize l2[k] = e2 at hcn2 hws2 hwl2 hev
    obtain ⟨i1, i2, i3, i4, i5, i6⟩ := e
    obtain ⟨j1, j2, j3, j4, j5, j6⟩ := e2
    simp only [evE, Prod.mk.injEq] at hev
    obtain ⟨rfl, rfl, rfl, rfl⟩ := hev
    have k0 : w6.cell? ⟨bE, oE + k * 6 + 0, none⟩ = some (.int .i64 j1) := hcn 0 _ rfl
    have k1 : w6.cell? ⟨bE, oE + k * 6 + 1, none⟩ = some (.int .i64 j2) := hcn 1 _ rfl
    have k4 : w6.cell? ⟨bE, oE + k * 6 + 4, none⟩ = some (.slice i4 j6.length i5) := hcn 4 _ rfl
    have q0 : w6.cell? ⟨bE2, oE2 + k * 6 + 0, none⟩ = some (.int .i64 j1) := hcn2 0 _ rfl
    have q1 : w6.cell? ⟨bE2, oE2 + k * 6 + 1, none⟩ = some (.int .i64 j2) := hcn2 1 _ rfl
    have q4 : w6.cell? ⟨bE2, oE2 + k * 6 + 4, none⟩ = some (.slice j4 j6.length j5) := hcn2 4 _ rfl
    (repeat (first | (with_reducible first | apply WP_seq | apply WP_block | apply WP_region | apply wpl_nil | apply thenQ_n | apply WP_skip) | (apply wlp; (first | apply pv_move | apply pv_assign); exact fI rfl)))
    refine WP_draw mixed (by kernel_rfl) (fun w' => Hp _ _ w' _) hp.drew ?_
    have hp := hp.drew
    (apply wdp; exact rfl; (intro w hp; exact pv_move); exact rfl)
    (apply wdp; exact rfl; (intro w hp; exact pv_move); exact rfl)
    (apply wdp; exact rfl; (intro w hp; exact pf_index rfl rfl rfl hsE hkl); exact fP rfl)
    (apply wdp; exact rfl; (intro w hp; exact pf_field rfl rfl); exact fP rfl)
    (apply wdp; exact rfl; (intro w hp; exact pf_load rfl rfl (hp.old0 k0)); exact fI rfl)
    (apply wdp; exact rfl; (intro w hp; exact pv_move); exact rfl)
    (apply wdp; exact rfl; (intro w hp; exact pv_move); exact rfl)
    (apply wdp; exact rfl; (intro w hp; exact pf_index rfl rfl rfl hsE2 hkl2); exact fP rfl)
    (apply wdp; exact rfl; (intro w hp; exact pf_field rfl rfl); exact fP rfl)
    (apply wdp; exact rfl; (intro w hp; exact pf_load rfl rfl (hp.old0 q0)); exact fI rfl)
    (apply wdp; exact rfl; (intro w hp; exact pv_neq rfl rfl); exact bool_eq (b := false) (by rw [decide_eq_true rfl]; rfl))
    (apply wdp; exact rfl; (intro w hp; exact pv_move); exact rfl)
    (apply wdpT; exact rfl; exact rfl; exact rfl; (intro w hp; exact pv_move); exact rfl)
    (apply wdpT; exact rfl; exact rfl; exact rfl; (intro w hp; exact pv_move); exact rfl)
    (apply wdpT; exact rfl; exact rfl; exact rfl; (intro w hp; exact pf_index rfl rfl rfl hsE hkl); exact fP rfl)
    (apply wdpT; exact rfl; exact rfl; exact rfl; (intro w hp; exact pf_field rfl rfl); exact fP rfl)
    (apply wdpT; exact rfl; exact rfl; exact rfl; (intro w hp; exact pf_load rfl rfl (hp.old0 k1)); exact fI rfl)
    (apply wdpT; exact rfl; exact rfl; exact rfl; (intro w hp; exact pv_move); exact rfl)
    (apply wdpT; exact rfl; exact rfl; exact rfl; (intro w hp; exact pv_move); exact rfl)
    (apply wdpT; exact rfl; exact rfl; exact rfl; (intro w hp; exact pf_index rfl rfl rfl hsE2 hkl2); exact fP rfl)
    (apply wdpT; exact rfl; exact rfl; exact rfl; (intro w hp; exact pf_field rfl rfl); exact fP rfl)
    (apply wdpT; exact rfl; exact rfl; exact rfl; (intro w hp; exact pf_load rfl rfl (hp.old0 q1)); exact fI rfl)
    (apply wdpT; exact rfl; exact rfl; exact rfl; (intro w hp; exact pv_neq rfl rfl); exact bool_eq (b := false) (by rw [decide_eq_true rfl]; rfl))
    (apply wdp; exact rfl; (intro w hp; exact pv_orF rfl rfl); exact fB rfl)
    (apply wdp; exact rfl; (intro w hp; exact pv_move); exact rfl)
    (apply wdpT; exact rfl; exact rfl; exact rfl; (intro w hp; exact pv_move); exact rfl)
    (apply wdpT; exact rfl; exact rfl; exact rfl; (intro w hp; exact pv_move); exact rfl)
    (apply wdpT; exact rfl; exact rfl; exact rfl; (intro w hp; exact pf_index rfl rfl rfl hsE hkl); exact fP rfl)
    (apply wdpT; exact rfl; exact rfl; exact rfl; (intro w hp; exact pf_field rfl rfl); exact fP rfl)
    (apply wdpT; exact rfl; exact rfl; exact rfl; (intro w hp; exact pf_load rfl rfl (hp.old0 k4)); exact fS rfl)
    (apply wdpT; exact rfl; exact rfl; exact rfl; (intro w hp; exact pv_move); exact rfl)
    (apply wdpT; exact rfl; exact rfl; exact rfl; (intro w hp; exact pv_move); exact rfl)
    (apply wdpT; exact rfl; exact rfl; exact rfl; (intro w hp; exact pf_index rfl rfl rfl hsE2 hkl2); exact fP rfl)
    (apply wdpT; exact rfl; exact rfl; exact rfl; (intro w hp; exact pf_field rfl rfl); exact fP rfl)
    (apply wdpT; exact rfl; exact rfl; exact rfl; (intro w hp; exact pf_load rfl rfl (hp.old0 q4)); exact fS rfl)
    (apply wdsT; exact rfl; exact rfl; exact rfl; exact st_call rfl ent15 rfl (p15 j6 j6 i4 j4 i5 j5 _ (hws.keep0 hp.keeps) (hws2.keep0 hp.keeps) (Nat.le_trans hwl (by decide)) (Nat.le_trans hwl (by decide))); rintro _ w20 ⟨hv, hk20⟩; obtain rfl := hv.trans (bool_eq (b := true) (decide_eq_true rfl)); have hp := hp.call hk20; refine ⟨hp, ?_⟩)
    (repeat (first | ((apply wdp; exact rfl); (intro w hp; intros; ((first | exact pv_orF rfl rfl | apply pv_not) <;> exact rfl)); (intros; exact fB rfl)) | ((apply wdpT; exact rfl; exact rfl; exact rfl); (intro w hp; ((first | exact pv_orF rfl rfl | apply pv_not) <;> exact rfl)); (intros; exact fB rfl)) | (apply wdpF; exact rfl; exact rfl; exact rfl; exact rfl) | (apply wdpU; exact rfl; exact rfl; exact rfl)))
    refine wpd_nil ?_
    refine WP_cond_f rfl ?_
    (repeat (with_reducible first | apply WP_region | apply thenQ_n | apply inBlk_n | apply WP_skip))
    (apply wlp; (exact pv_add rfl rfl); exact int_eq (b := ((k + 1 : Nat) : Int)) (by rw [i64_in (by omega) (by omega)]; omega))
    (repeat (first | (with_reducible first | apply wpl_nil | apply thenQ_n) | (apply wlp; apply pv_move; exact fI rfl)))
    exact ⟨k + 1, put_self (Same.eq (by repeat (first | exact Same.hav | exact Same.refl | refine Same.put rfl ?_ | refine Same.havs rfl ?_))) rfl, ⟨by omega, hp⟩, by omega⟩
  clear h hk
  (repeat (first | (with_reducible first | apply WP_seq | apply WP_region | apply thenQ_n | apply thenQ_exit | apply WP_exit) | ((with_reducible apply inBlk_same); exact rfl) | (apply wlp; ((first | apply pf_field | (apply pf_load; exact rfl)) <;> exact rfl); exact fP rfl)))
  (apply wlp; exact pf_load rfl rfl (hp.old0 (hD 8 _ rfl)); exact fS rfl)
  (repeat (first | (with_reducible first | apply WP_block | apply wpl_nil | apply thenQ_n) | (apply wlp; ((first | apply pv_move | (apply pf_len; exact rfl)) <;> exact rfl); exact fI rfl)))
  refine WP_loopS [4, 23, 140, 141, 142, 143, 144, 145, 146, 147, 148, 149, 150, 151, 152, 153, 154] (fun (k : Nat) F => F.put 140 (.int .i64 (k : Int))) (fun k w' => k ≤ ps.length ∧ Hp w6 [] w' [ownL eS 9 1 (some ⟨ab2, 0, none⟩) l.length A, ownL eS 9 1 sB cB A, ownL eI 3 1 so co o, blk db2 13 (frOf (dB xN 2 sP2 ps.length cP2)) 32]) (fun k => ps.length - k) 0 (put_self (Same.eq .refl) rfl) ⟨Nat.zero_le _, hp⟩ ?_
  (repeat clear hp)
  rintro u4 k w19 ⟨hk, hp⟩
  (repeat (first | (with_reducible first | apply WP_seq | apply WP_region | apply wpl_nil | apply thenQ_n) | (apply wlp; (apply pv_lss <;> exact rfl); exact fB rfl)))
  refine WP_cond_d rfl (fun h => ?_) (fun h => ?_)
  · have hkl : k < ps.length := by omega
    obtain ⟨bP, oP, hsP, hcP⟩ := hP.base (by omega)
    obtain ⟨bP2, oP2, hsP2, hcP2⟩ := hP2.base (by omega)
    have hcn := hcP k _ (List.getElem?_eq_getElem hkl)
    have hcn2 := hcP2 k _ (List.getElem?_eq_getElem hkl)
    generalize ps[k] = e at hcn hcn2
    obtain ⟨e1, e2⟩ := e
    (repeat (first | (with_reducible first | apply WP_seq | apply WP_block | apply WP_region | apply wpl_nil | apply thenQ_n | apply WP_skip) | (apply wlp; (first | apply pv_move | apply pv_assign); exact fI rfl)))
    refine WP_draw mixed (by kernel_rfl) (fun w' => Hp _ _ w' _) hp.drew ?_
    have hp := hp.drew
    (apply wdp; exact rfl; (intro w hp; exact pf_field rfl rfl); exact fP rfl)
    (apply wdp; exact rfl; (intro w hp; exact pf_load rfl rfl (hp.old0 (hD 8 _ rfl))); exact fS rfl)
    (apply wdp; exact rfl; (intro w hp; exact pv_move); exact rfl)
    (apply wdp; exact rfl; (intro w hp; exact pf_index rfl rfl rfl hsP hkl); exact fP rfl)
    (apply wdp; exact rfl; (intro w hp; exact pf_loads (vs := eP (e1, e2)) rfl rfl rfl rfl (fun j v hv => hp.old0 (hcn j v hv))); exact fA2 rfl)
    (repeat ((apply wdp; exact rfl); (intro w hp; intros; ((first | apply pv_move | apply pf_field | (apply pf_load; exact rfl) | (apply pf_loadb; exact rfl) | (apply pf_index; exact rfl)) <;> (first | exact rfl | assumption | exact hp.cell 3 rfl rfl))); (intros; (first | exact fI rfl | exact fP rfl | exact fS rfl))))
    (apply wdp; exact rfl; (intro w hp; exact pf_loads (vs := eP (e1, e2)) rfl rfl rfl rfl (fun j v hv => hp.old0 (hcn2 j v hv))); exact fA2 rfl)
    (apply wdp; exact rfl; (intro w hp; exact pv_ne52 rfl rfl); exact bool_eq (b := false) (by rw [decide_eq_true rfl, decide_eq_true rfl]; rfl))
    refine wpd_nil ?_
    refine WP_cond_f rfl ?_
    (repeat (with_reducible first | apply WP_region | apply thenQ_n | apply inBlk_n | apply WP_skip))
    (apply wlp; (exact pv_add rfl rfl); exact int_eq (b := ((k + 1 : Nat) : Int)) (by rw [i64_in (by omega) (by omega)]; omega))
    (repeat (first | (with_reducible first | apply wpl_nil | apply thenQ_n) | (apply wlp; apply pv_move; exact fI rfl)))
    exact ⟨k + 1, put_self (Same.eq (by repeat (first | exact Same.hav | exact Same.refl | refine Same.put rfl ?_ | refine Same.havs rfl ?_))) rfl, ⟨by omega, hp⟩, by omega⟩
  clear h hk
  (repeat (first | (with_reducible first | apply WP_seq | apply WP_region | apply thenQ_n | apply thenQ_exit | apply WP_exit) | ((with_reducible apply inBlk_same); exact rfl) | (apply wlp; ((first | apply pv_move | (apply pf_len; exact rfl)) <;> exact rfl); (first | exact fI rfl | exact fS rfl | exact fT rfl))))
  (apply wls; exact st_call rfl ent22 rfl (p22t l.length (ofN X) X _ (NS.self hfx) hfx (by omega) hX))
  rintro _ w20 ⟨sk2, ck2, rfl, hvk, hpo⟩
  have hp := hp.join hpo
  clear hpo
  rw [← ho] at hvk hp ⊢
  have hp : Hp w6 [] w20 [ownL eI 3 1 sk2 ck2 o, ownL eS 9 1 (some ⟨ab2, 0, none⟩) l.length A, ownL eS 9 1 sB cB A, ownL eI 3 1 so co o] := hp.picks [0, 1, 2, 3] _ rfl rfl
  (apply wlp; apply pv_move; exact fU rfl)
  (apply wlp; (apply pv_extract <;> exact rfl); exact fS rfl)
  (apply wlp; (apply pv_extract <;> exact rfl); exact fB rfl)
  (apply wlp; apply pv_assign; exact fS rfl)
  (apply wlp; apply pv_assign; exact fB rfl)
  (repeat (with_reducible first | apply WP_seq | apply WP_region | apply wpl_nil | apply thenQ_n))
  (apply wlp; apply pv_move; exact fB rfl)
  (apply wlp; apply pv_move; exact fB rfl)
  ((apply wlpT; exact rfl; exact rfl); (apply pv_move); (intros; exact fB rfl))
  (apply wlp; exact pv_andT rfl rfl; exact fB rfl)
  (apply wlp; apply pv_move; exact fB rfl)
  ((apply wlpT; exact rfl; exact rfl); (apply pv_move); (intros; exact fB rfl))
  (apply wlp; exact pv_andT rfl rfl; exact fB rfl)
  (apply wlp; apply pv_move; exact fB rfl)
  ((apply wlpT; exact rfl; exact rfl); (apply pv_move); (intros; exact fS rfl))
  ((apply wlpT; exact rfl; exact rfl); (apply pv_move); (intros; exact fS rfl))
  (have h15 := p15 A A (some ⟨ab2, 0, none⟩) sB l.length cB w20 (ownL_At hp 1 rfl hva2 (fun _ => rfl)) (ownL_At hp 2 rfl hvB (fun _ => rfl)) (by omega) (by omega))
  (apply wlsT; exact rfl; exact rfl; exact st_call rfl ent15 (by rw [hAl]; rfl) h15; rintro _ w21 ⟨hv, hk⟩; obtain rfl := hv.trans (bool_eq (b := true) (decide_eq_true rfl)); have hp := hp.call hk; clear h15)
  (apply wlp; exact pv_andT rfl rfl; exact fB rfl)
  (apply wlp; apply pv_move; exact fB rfl)
  ((apply wlpT; exact rfl; exact rfl); (apply pv_move); (intros; exact fS rfl))
  ((apply wlpT; exact rfl; exact rfl); (apply pv_move); (intros; exact fS rfl))
  (apply wlsT; exact rfl; exact rfl; exact st_call rfl ent24 rfl (p24 o o sk2 so ck2 co _ (ownL_At hp 0 rfl hvk (fun _ => rfl)) (ownL_At hp 3 rfl hvo (fun _ => rfl)) (by omega) (by omega)); rintro _ w22 ⟨hv, hk⟩; obtain rfl := hv.trans (bool_eq (b := true) (decide_eq_true rfl)); have hp := hp.call hk)
  (apply wlp; exact pv_andT rfl rfl; exact fB rfl)
  (apply wlp; apply pv_move; exact fB rfl)
  ((apply wlpT; exact rfl; exact rfl); (apply pv_move); (intros; exact fT rfl))
  ((apply wlpT; exact rfl; exact rfl); (apply pv_move); (intros; exact fS rfl))
  ((apply wlpT; exact rfl; exact rfl); (((apply pf_len; exact rfl) <;> exact rfl)); (intros; exact fI rfl))
  (apply wlsT; exact rfl; exact rfl; exact st_call rfl ent26 rfl (p26 l.length _ (by omega)); rintro _ w23 ⟨rfl, hk⟩; have hp := hp.call hk)
  (apply wlsT; exact rfl; exact rfl; exact st_call rfl ent25 rfl (c50 X (fact l.length) _ hfx hff); rintro _ w24 ⟨hv, hk⟩; obtain rfl := hv.trans (int_eq (b := -1) (by rw [if_pos hX])); have hp := hp.call hk)
  (apply wlpT; exact rfl; exact rfl; (exact pv_lss rfl rfl); exact bool_eq (b := true) (decide_eq_true (by omega)))
  (apply wlp; exact pv_andT rfl rfl; exact fB rfl)
  (repeat (first | (with_reducible first | apply wpl_nil | apply thenQ_n | apply WP_ret) | (apply wlp; apply pv_assign; exact fB rfl)))
  exact ret_tmp rfl rfl ⟨_, rfl, rfl, hk6.trans hp.keeps (by simp)⟩
end Go.Proofs.YtfjbioghpgmkiaaGreatDoor
/- How the arguments of the laws of layer 19 are read; a world in which the listed tables lie; what a law that answers true and changes nothing leaves; conditions are the hypotheses of each law. -/
namespace Go.Proofs.YtfjbioghpgmkiaaGreatDoor
open Go.Eng Go.ChangeShapes Go.WideShapes Go.ChangeAt Go.RowKit Go.Deep

theorem laid : laidOutB Tryz.prog = true := by kernel_rfl
theorem ownK : ownKnob Tryz.prog.godebug = none := by kernel_rfl

theorem spot_none {w : World} {a : Addr} {v : Value} (h : w.cell? a = some v) : a.spot = none := by
  unfold World.cell? at h
  split at h
  · split at h
    · cases h
    · rename_i h2
      cases hs : a.spot
      · rfl
      · rw [hs] at h2; simp at h2
  · cases h

section
variable {H : Type} {enc : TypeId × Value → H} {P : Program} {w : World} {base : Nat} {spare : Nat → Bool} {held : Bool}

/-- a slice whose elements are read one by one reads as a list -/
theorem open_list {α : Type} {f : α → List Value} {ok : α → Prop} {t e k fuel : Nat} {cs : List Value} {x : DataW H × List MemPlace} (ht : P.underlying t = some (.slice e)) (hk : P.cellsOf e = k) (hk0 : 0 < k)
    (hop : ∀ n cs' y, DataW.trod enc P w base spare held n e cs' = some y → ∃ a, cs' = f a ∧ ok a) (h : DataW.trod enc P w base spare held fuel t cs = some x) :
    ∃ s c, ∃ l : List α, cs = [.slice s l.length c] ∧ l.length ≤ c ∧ c ≤ maxLen ∧ SlAt w k f s l ∧ (∀ a ∈ l, ok a) ∧ (l = [] ∨ ∃ es rs, x.1 = .slice es rs ∧ es.length = l.length) := by
  rcases open_slice ht h with ⟨rfl, _⟩ | ⟨a, len, cap, m, n, D, Pl, rfl, hb, hl, hm, hmm, hxe, hx⟩
  · exact ⟨none, 0, [], rfl, Nat.le_refl _, by unfold maxLen; omega, by intro i x hx; simp at hx, by simp, .inl rfl⟩
  · have hlm : len ≤ m := by rw [hmm]; split <;> omega
    rw [hk] at hx
    have hex : ∀ i : Fin len, ∃ y, w.cells? base (a.add (i * k)) k = some (f y) ∧ ok y := by
      intro i
      obtain ⟨cs', h1, h2⟩ := hx i (by omega)
      obtain ⟨y, rfl, hy⟩ := hop _ _ _ h2
      exact ⟨y, h1, hy⟩
    refine ⟨some a, cap, List.ofFn fun i => Classical.choose (hex i), by simp, by simpa using hl, hm, ?_, ?_, .inr ⟨_, _, by rw [hxe], by simp⟩⟩
    · intro i y hy
      have hi : i < len := by have := (List.getElem?_eq_some_iff.1 hy).1; simpa using this
      have hyc : Classical.choose (hex ⟨i, hi⟩) = y := by
        rw [List.getElem?_ofFn] at hy
        simpa [hi] using hy
      have hsp := (Classical.choose_spec (hex ⟨i, hi⟩)).1
      rw [hyc] at hsp
      obtain ⟨_, hlen, hc⟩ := World.cells?_some hsp
      obtain ⟨_, hlen0, hc0⟩ := World.cells?_some (Classical.choose_spec (hex ⟨0, by omega⟩)).1
      have hs0 := spot_none ((hc0 0 (by omega)).trans (List.getElem?_eq_getElem (by omega)))
      have hsa : a.spot = none := by simpa [Addr.add] using hs0
      refine ⟨a.block, a.off, ?_, fun j v hv => ?_⟩
      · cases a
        simp at hsa
        subst hsa
        rfl
      · have hj : j < k := by rw [← hlen]; exact (List.getElem?_eq_some_iff.1 hv).1
        have := (hc j hj).trans hv
        cases a
        simp at hsa
        subst hsa
        rw [addr_add, addr_add] at this
        exact this
    · intro y hy
      rw [List.mem_ofFn] at hy
      obtain ⟨i, rfl⟩ := hy
      exact (Classical.choose_spec (hex i)).2

theorem trodAll_stays (hl : laidOutB P = true) {W W' : World} (hb : Below W.heap.size W W') {sp : Nat → Bool} : ∀ (ts : List TypeId) (vs : List Value) (ds : List (DataW H)) (ps : List MemPlace),
    (∀ t ∈ ts, P.readableRec t = true ∧ t < P.types.size) → DataW.TrodAll enc P W 0 (fun _ => true) true ts vs ds ps → (∀ x ∈ ps, x.block < W.heap.size) → (∀ x ∈ ps, sp x.block = true) →
    DataW.TrodAll enc P W' 0 sp true ts vs ds ps
  | [], vs, ds, ps, _, h, _, _ => by
    obtain ⟨rfl, rfl, rfl⟩ := trodAll_nil h
    exact trodAll_mk0
  | t :: ts, vs, ds, ps, ht, h, hlt, hsp => by
    obtain ⟨v, vs', d, ds', p, q, rfl, rfl, rfl, h1, h2⟩ := trodAll_cons h
    refine ⟨p, q, ?_, trodAll_stays hl hb ts vs' ds' q (fun t h => ht t (List.mem_cons_of_mem _ h)) h2 (fun x hx => hlt x (List.mem_append_right _ hx)) (fun x hx => hsp x (List.mem_append_right _ hx)), rfl⟩
    obtain ⟨hr, hrow⟩ := ht t (List.mem_cons_self ..)
    exact WideElems.Trod_stays hl hr hrow h1 (fun x hx => hb.same (hlt x (List.mem_append_left _ hx))) (fun x hx => hsp x (List.mem_append_left _ hx))
end

/-- an array whose elements are read one by one -/
theorem arr_list {α : Type} {f : α → List Value} {ok : α → Prop} {sz : Nat} : ∀ (k : Nat) (cs : List Value), cs.length = k * sz → (∀ i, i < k → ∃ a, (cs.drop (i * sz)).take sz = f a ∧ ok a) → ∃ l : List α, l.length = k ∧ cs = l.flatMap f ∧ ∀ a ∈ l, ok a
  | 0, cs, hl, _ => ⟨[], rfl, by simpa using hl, by simp⟩
  | k + 1, cs, hl, h => by
    obtain ⟨a, ha, hoa⟩ := h 0 (by omega)
    obtain ⟨l, h1, h2, h3⟩ := arr_list (f := f) (ok := ok) (sz := sz) k (cs.drop sz) (by rw [List.length_drop, hl, Nat.succ_mul]; omega) (by
      intro i hi
      obtain ⟨b, hb, hob⟩ := h (i + 1) (by omega)
      refine ⟨b, ?_, hob⟩
      rw [List.drop_drop]
      rw [show sz + i * sz = (i + 1) * sz from by rw [Nat.succ_mul]; omega]
      exact hb)
    refine ⟨a :: l, by simp [h1], ?_, ?_⟩
    · rw [List.flatMap_cons, ← h2, ← ha]
      simp
    · intro x hx
      rcases List.mem_cons.1 hx with rfl | hx
      · exact hoa
      · exact h3 x hx
section
variable {H : Type} {enc : TypeId × Value → H} {P : Program} {w : World} {base : Nat} {spare : Nat → Bool} {held : Bool}
theorem open_arr {α : Type} {f : α → List Value} {ok : α → Prop} {t e k sz fuel : Nat} {cs : List Value} {x : DataW H × List MemPlace} (ht : P.underlying t = some (.array k e)) (he : P.cellsOf e = sz) (hc : P.cellsOf t = k * sz)
    (hop : ∀ n cs' y, DataW.trod enc P w base spare held n e cs' = some y → ∃ a, cs' = f a ∧ ok a) (h : DataW.trod enc P w base spare held fuel t cs = some x) :
    ∃ l : List α, l.length = k ∧ cs = l.flatMap f ∧ ∀ a ∈ l, ok a := by
  obtain ⟨xs, m, _, _, hl, hlen, hf⟩ := DataW.trod_array ht h
  refine arr_list k cs (by rw [hl, hc]) fun i hi => ?_
  have := hf i hi
  rw [he, List.getElem?_eq_getElem (by omega)] at this
  exact hop _ _ _ this
end
/-- what a law leaves that answers true and keeps all that was there -/
theorem post_true {H : Type} {enc : TypeId × Value → H} {f : Func} {s : ChangeSpec} {W W' : World} {args : Array Value} {ds gs : List (DataW H)} {before : List MemPlace} (hW : DataW.Whole enc Tryz.prog f.params.toList s.vars false W args.toList ds gs before)
    (hv : s.vars = []) (hr : f.resultTypes = #[4]) (hts : ∀ t ∈ f.params.toList, Tryz.prog.readableRec t = true ∧ t < Tryz.prog.types.size)
    (hres : (s.fn H (ds ++ gs)).results = [.lit (.bool true)]) (hargs : (s.fn H (ds ++ gs)).args = ds) (hvs : (s.fn H (ds ++ gs)).vars = []) (hk : Keeps [] W W') :
    s.post enc Tryz.prog f false true false false W args (.bool true) W' := by
  have hW' := hW
  obtain ⟨p, q, hA, hV, rfl, hfz, hnd⟩ := hW
  rw [hv] at hV
  obtain ⟨rfl, rfl⟩ := trodVars_none hV
  have hlt : ∀ x ∈ p, x.block < W.heap.size := fun x hx => hW'.lt x (by simpa using hx)
  refine ⟨ds, [], _, [], p, [], hW', ?_, ?_, ?_, (hk.below.frame _), fun h => by cases h⟩
  · rw [hres, hr]
    exact trodAll_cons_mk (shut_bool Tryz.underlying4 _) trodAll_mk0
  · rw [hargs]
    exact trodAll_stays laid hk.below _ _ _ _ hts hA hlt (fun x hx => by simpa using hlt x hx)
  · rw [hvs, hv]
    rfl

theorem len2 {α : Type} {l : List α} (h : l.length = 2) : ∃ c0 c1, l = [c0, c1] := by
  obtain ⟨c0, l0, rfl⟩ : ∃ a t, l = a :: t := List.exists_cons_of_length_eq_add_one h
  obtain ⟨c1, l1, rfl⟩ : ∃ a t, l0 = a :: t := List.exists_cons_of_length_eq_add_one (by simpa using h)
  have : l1 = [] := List.eq_nil_of_length_eq_zero (by simpa using h)
  subst this
  exact ⟨c0, c1, rfl⟩
theorem len3 {α : Type} {l : List α} (h : l.length = 3) : ∃ c0 c1 c2, l = [c0, c1, c2] := by
  obtain ⟨c0, l0, rfl⟩ : ∃ a t, l = a :: t := List.exists_cons_of_length_eq_add_one h
  obtain ⟨c1, l1, rfl⟩ : ∃ a t, l0 = a :: t := List.exists_cons_of_length_eq_add_one (by simpa using h)
  obtain ⟨c2, l2, rfl⟩ : ∃ a t, l1 = a :: t := List.exists_cons_of_length_eq_add_one (by simpa using h)
  have : l2 = [] := List.eq_nil_of_length_eq_zero (by simpa using h)
  subst this
  exact ⟨c0, c1, c2, rfl⟩
section
variable {H : Type} {enc : TypeId × Value → H} {w : World} {base : Nat} {spare : Nat → Bool} {held : Bool} {n : Nat} {cs : List Value} {x : DataW H × List MemPlace}
theorem rd_int (h : DataW.trod enc Tryz.prog w base spare held n 3 cs = some x) : ∃ a : Int, cs = eI a ∧ -9223372036854775808 ≤ a ∧ a ≤ 9223372036854775807 := by
  obtain ⟨a, rfl, _, hw⟩ := DataW.trod_int Tryz.underlying3 h
  have e1 : IntKind.i64.min = -9223372036854775808 := by decide
  have e2 : IntKind.i64.max = 9223372036854775807 := by decide
  simp only [Lit.wf, Bool.and_eq_true, decide_eq_true_eq, e1, e2] at hw
  exact ⟨a, rfl, hw⟩
theorem rd_ints (h : DataW.trod enc Tryz.prog w base spare held n 30 cs = some x) : ∃ s c, ∃ l : List Int, cs = [.slice s l.length c] ∧ l.length ≤ c ∧ c ≤ maxLen ∧ SlAt w 1 eI s l ∧ (∀ a ∈ l, -9223372036854775808 ≤ a ∧ a ≤ 9223372036854775807) ∧ (l = [] ∨ ∃ es rs, x.1 = .slice es rs ∧ es.length = l.length) :=
  open_list Tryz.underlying30 (by kernel_rfl) (by decide) (fun _ _ _ h => rd_int h) h
end
/-- how long a list that came in can be -/
theorem sized_list {H α : Type} {ts : List TypeId} {ds : List (DataW H)} {l : List α} {j t e k : Nat} {d : DataW H} (h : (DataW.weightsEach Tryz.prog ts ds).all (· ≤ reachBytes) = true) (ht : ts[j]? = some t) (hd : ds[j]? = some d) (hu : Tryz.prog.underlying t = some (.slice e)) (hk : Tryz.prog.bytesOf e = k)
    (hx : l = [] ∨ ∃ es rs, d = .slice es rs ∧ es.length = l.length) : l.length * k ≤ 140737488351232 := by
  rcases hx with rfl | ⟨es, rs, rfl, he⟩
  · simp
  · have h1 := sized_slice h ht hd hu
    rw [hk] at h1
    have h2 : l.length * k ≤ (es.length + rs.length) * k := Nat.mul_le_mul_right k (by omega)
    exact Nat.le_trans h2 h1
/-! ### the tables -/
def cellsL : DataW Unit → List Value
  | .lit (.int k n) => [.int k n]
  | .agg [.lit (.int k n), .lit (.int q m)] => [.int k n, .int q m]
  | _ => []
def cellsA : DataW Unit → Array Value
  | .agg l => (l.flatMap cellsL).toArray
  | _ => #[]
noncomputable def laidWorld (os : Os) : World :=
  let w0 := World.holding Tryz.prog os ⟨#[], #[], []⟩
  { w0 with heap := (w0.heap.modify 0 fun
      | .cells _ t fr => .cells (cellsA Rows.laid_unicode_utf8_first) t fr
      | o => o).modify 1 fun
      | .cells _ t fr => .cells (cellsA Rows.laid_unicode_utf8_acceptRanges) t fr
      | o => o }
set_option maxRecDepth 100000 in
theorem laidWorld_met (os : Os) (args : Array Value) : laidMetH Tryz.prog Rows.placesKeepsRow.laid ((laidWorld os).forCall (fun _ _ => 0) ⟨#[], args, []⟩).memory :=
  laidMet_of_run (ps := (List.range 32).map (fun i => MemPlace.cell 1 i) ++ (List.range 256).map (fun i => MemPlace.cell 0 i)) 8 (by kernel_rfl) (by kernel_rfl) (by kernel_rfl)
theorem agg_of_cells {v : Value} {l : List Value} (h : v.cells.toList = l) (hl : 2 ≤ l.length) : v = .agg l.toArray := by
  cases v with
  | agg vs =>
    have : vs.toList = l := h
    subst this
    rfl
  | _ =>
    exfalso
    subst h
    simp [Value.cells] at hl
theorem slice_of_cells {P : Program} {W : World} {base t e : Nat} {v : Value} {s : Option Addr} {m c : Nat} (ht : P.underlying t = some (.slice e)) (hok : Value.okWide P W .any base t v) (h : v.cells.toList = [.slice s m c]) : v = .slice s m c := by
  cases v with
  | agg vs => simp [Value.okWide, ht, Cell.okWide, Cell.ok] at hok
  | slice a1 b1 c1 =>
    have e : Value.slice a1 b1 c1 = .slice s m c := by simpa [Value.cells] using h
    exact e
  | _ => simp [Value.cells] at h

/-! ### further kinds of arguments -/
theorem cells3 : Tryz.prog.cellsOf 3 = 1 := by kernel_rfl
theorem cells5 : Tryz.prog.cellsOf 5 = 1 := by kernel_rfl
theorem cells22 : Tryz.prog.cellsOf 22 = 1 := by kernel_rfl
theorem cells23 : Tryz.prog.cellsOf 23 = 1 := by kernel_rfl
theorem cells30 : Tryz.prog.cellsOf 30 = 1 := by kernel_rfl
theorem cells84 : Tryz.prog.cellsOf 84 = 2 := by kernel_rfl
theorem cells87 : Tryz.prog.cellsOf 87 = 3 := by kernel_rfl
theorem cells25 : Tryz.prog.cellsOf 25 = 2 := by kernel_rfl
section
variable {H : Type} {enc : TypeId × Value → H} {w : World} {base : Nat} {spare : Nat → Bool} {held : Bool} {n : Nat} {cs : List Value} {x : DataW H × List MemPlace}
def e3 (x : Int × Int × Int) : List Value := [.int .i64 x.1, .int .i64 x.2.1, .int .i64 x.2.2]
theorem rd_arr3 (h : DataW.trod enc Tryz.prog w base spare held n 78 cs = some x) : ∃ a : Int × Int × Int, cs = e3 a ∧ a.1 ≤ 9223372036854775807 := by
  obtain ⟨l, hl, rfl, hb⟩ := open_arr Tryz.underlying78 cells3 (by kernel_rfl) (fun _ _ _ h => rd_int h) h
  obtain ⟨a, b, c, rfl⟩ := len3 hl
  exact ⟨(a, b, c), rfl, (hb a (by simp)).2⟩
theorem rd_arr2 (h : DataW.trod enc Tryz.prog w base spare held n 84 cs = some x) : ∃ a : Int × Int, cs = eT2 a ∧ a.2 ≤ 9223372036854775807 := by
  obtain ⟨l, hl, rfl, hb⟩ := open_arr Tryz.underlying84 cells3 (by kernel_rfl) (fun _ _ _ h => rd_int h) h
  obtain ⟨a, b, rfl⟩ := len2 hl
  exact ⟨(a, b), rfl, (hb b (by simp)).2⟩
theorem rd_list2 (h : DataW.trod enc Tryz.prog w base spare held n 22 cs = some x) : ∃ s c, ∃ l : List (Int × Int), cs = [.slice s l.length c] ∧ l.length ≤ c ∧ c ≤ maxLen ∧ SlAt w 2 eT2 s l ∧ (∀ p ∈ l, p.2 ≤ 9223372036854775807) := by
  obtain ⟨s, c, l, h1, h2, h3, h4, h5, _⟩ := open_list Tryz.underlying22 cells84 (by decide) (fun _ _ _ h => rd_arr2 h) h
  exact ⟨s, c, l, h1, h2, h3, h4, h5⟩
theorem rd_u8 (h : DataW.trod enc Tryz.prog w base spare held n 5 cs = some x) : ∃ a : Nat, cs = eB a ∧ a < 256 := by
  obtain ⟨a, rfl, _, hw⟩ := DataW.trod_int Tryz.underlying5 h
  have e1 : IntKind.u8.min = 0 := by decide
  have e2 : IntKind.u8.max = 255 := by decide
  simp only [Lit.wf, Bool.and_eq_true, decide_eq_true_eq, e1, e2] at hw
  obtain ⟨k, rfl⟩ : ∃ k : Nat, a = k := ⟨a.toNat, by omega⟩
  exact ⟨k, rfl, by omega⟩
theorem rd_bytes (h : DataW.trod enc Tryz.prog w base spare held n 61 cs = some x) : ∃ s c, ∃ l : List Nat, cs = [.slice s l.length c] ∧ l.length ≤ c ∧ c ≤ maxLen ∧ SlAt w 1 eB s l ∧ (∀ a ∈ l, a < 256) ∧ (l = [] ∨ ∃ es rs, x.1 = .slice es rs ∧ es.length = l.length) :=
  open_list Tryz.underlying61 cells5 (by decide) (fun _ _ _ h => rd_u8 h) h
theorem rd_person (h : DataW.trod enc Tryz.prog w base spare held n 87 cs = some x) : ∃ p : Pe, cs = ePe p ∧ SlAt w 1 eI p.ws p.wl := by
  obtain ⟨xs, m, _, _, hl, hlen, hf⟩ := DataW.trod_struct Tryz.underlying87 h
  rw [cells87] at hl
  obtain ⟨c0, c1, c2, rfl⟩ := len3 hl
  have h0 : DataW.trod enc Tryz.prog w base spare held m 3 (([c0, c1, c2].drop 0).take (Tryz.prog.cellsOf 3)) = xs[0]? := hf 0 _ rfl
  rw [cells3] at h0
  have h1 : DataW.trod enc Tryz.prog w base spare held m 3 (([c0, c1, c2].drop 1).take (Tryz.prog.cellsOf 3)) = xs[1]? := hf 1 _ rfl
  rw [cells3] at h1
  have h2 : DataW.trod enc Tryz.prog w base spare held m 30 (([c0, c1, c2].drop 2).take (Tryz.prog.cellsOf 30)) = xs[2]? := hf 2 _ rfl
  rw [cells30] at h2
  simp at hlen
  obtain ⟨a, e0, _⟩ := rd_int (h0.trans (List.getElem?_eq_getElem (by omega)))
  obtain ⟨b, e1, _⟩ := rd_int (h1.trans (List.getElem?_eq_getElem (by omega)))
  obtain ⟨s, c, l, e2, _, _, hs, _⟩ := rd_ints (h2.trans (List.getElem?_eq_getElem (by omega)))
  simp [eI] at e0 e1 e2
  subst e0 e1 e2
  exact ⟨⟨a, b, s, c, l⟩, rfl, hs⟩
theorem rd_people (h : DataW.trod enc Tryz.prog w base spare held n 23 cs = some x) : ∃ s c, ∃ l : List Pe, cs = [.slice s l.length c] ∧ l.length ≤ c ∧ c ≤ maxLen ∧ SlAt w 3 ePe s l ∧ (∀ p ∈ l, SlAt w 1 eI p.ws p.wl) := by
  obtain ⟨s, c, l, h1, h2, h3, h4, h5, _⟩ := open_list Tryz.underlying23 cells87 (by decide) (fun _ _ _ h => rd_person h) h
  exact ⟨s, c, l, h1, h2, h3, h4, h5⟩
theorem rd_plan (h : DataW.trod enc Tryz.prog w base spare held n 25 cs = some x) : ∃ (sp : Option Addr) (cp : Nat) (lp : List (Int × Int)) (se : Option Addr) (ce : Nat) (le : List Pe), cs = [.slice sp lp.length cp, .slice se le.length ce] ∧
    SlAt w 2 eT2 sp lp ∧ (∀ p ∈ lp, p.2 ≤ 9223372036854775807) ∧ SlAt w 3 ePe se le ∧ (∀ p ∈ le, SlAt w 1 eI p.ws p.wl) := by
  obtain ⟨xs, m, _, _, hl, hlen, hf⟩ := DataW.trod_struct Tryz.underlying25 h
  rw [cells25] at hl
  obtain ⟨c0, c1, rfl⟩ := len2 hl
  have h0 : DataW.trod enc Tryz.prog w base spare held m 22 (([c0, c1].drop 0).take (Tryz.prog.cellsOf 22)) = xs[0]? := hf 0 _ rfl
  rw [cells22] at h0
  have h1 : DataW.trod enc Tryz.prog w base spare held m 23 (([c0, c1].drop 1).take (Tryz.prog.cellsOf 23)) = xs[1]? := hf 1 _ rfl
  rw [cells23] at h1
  simp at hlen
  obtain ⟨s, c, l, e0, _, _, hs, hb⟩ := rd_list2 (h0.trans (List.getElem?_eq_getElem (by omega)))
  obtain ⟨s2, c2, l2, e1, _, _, hs2, hb2⟩ := rd_people (h1.trans (List.getElem?_eq_getElem (by omega)))
  simp at e0 e1
  subst e0 e1
  exact ⟨s, c, l, s2, c2, l2, rfl, hs, hb, hs2, hb2⟩
end
end Go.Proofs.YtfjbioghpgmkiaaGreatDoor
