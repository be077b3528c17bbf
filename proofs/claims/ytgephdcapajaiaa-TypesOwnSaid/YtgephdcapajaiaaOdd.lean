/- Layer 14: Odd returns an entrant that lies in memory of its own; conditions: the entrant lies in memory, its lists are not long. -/
import Derived.Test.YtgephdcapajaiaaZ
namespace Go.Proofs.Ytgephdcapajaiaa
open Go.Eng

def oddI : List Int := [-1, 0, 1, 2, 3, 5, 10, 61, 1000000000, 1000000001]
def oddW : List ByteArray := [⟨#[]⟩, ⟨#[97]⟩, ⟨#[98]⟩, ⟨#[122]⟩, ⟨#[65]⟩]
theorem oddW_sz : ∀ x ∈ oddW, x.size ≤ 31 := by decide
def gn (i : Nat) : ByteArray := ⟨#[103]⟩ ++ bytesOf [IntKind.u8.wrap (97 + i)]
theorem gn_size (i : Nat) : (gn i).size ≤ 9223372036854775807 := by
  unfold gn
  rw [ByteArray.size_append, bytesOf_size]
  show 1 + 1 ≤ 9223372036854775807
  decide
def ez : En := ⟨0, 0, 0, [], [], []⟩
def aze : EnA := ⟨none, 0, none, 0, none, 0⟩
structure EnLn (e : En) (k : Nat) : Prop where
  picks : e.picks.length ≤ k
  wishes : e.wishes.length ≤ k
  groups : e.groups.length ≤ k
structure EnGrow (e : En) (k : Nat) : Prop where
  of : ∀ {f : En}, f.picks = e.picks → f.wishes = e.wishes → f.groups = e.groups → EnLn f (k + 12)
  p : ∀ {f : En}, f.wishes = e.wishes → f.groups = e.groups → f.picks.length ≤ e.picks.length + 12 → EnLn f (k + 12)
  w : ∀ {f : En}, f.picks = e.picks → f.groups = e.groups → f.wishes.length ≤ e.wishes.length + 12 → EnLn f (k + 12)
  g : ∀ {f : En}, f.picks = e.picks → f.wishes = e.wishes → f.groups.length ≤ e.groups.length + 12 → EnLn f (k + 12)
theorem EnLn.grow {e : En} {k : Nat} (h : EnLn e k) : EnGrow e k := by
  have h1 := h.picks
  have h2 := h.wishes
  have h3 := h.groups
  refine ⟨fun e1 e2 e3 => ⟨?_, ?_, ?_⟩, fun e1 e2 e3 => ⟨?_, ?_, ?_⟩, fun e1 e2 e3 => ⟨?_, ?_, ?_⟩, fun e1 e2 e3 => ⟨?_, ?_, ?_⟩⟩ <;>
    first | omega | (rw [e1]; omega) | (rw [e2]; omega) | (rw [e3]; omega)

structure OS (w0 : World) (eb qb rb : Nat) (q0 q1 q2 : Int) (e : En) (a : EnA) (w : World) : Prop where
  vP : SVL a.sP a.cP e.picks
  vW : SVL a.sW a.cW e.wishes
  vG : SVL a.sG a.cG e.groups
  hp : Hp w0 [] w [ownL eS 9 1 a.sG a.cG e.groups, ownL eS 9 1 a.sW a.cW e.wishes, ownL eI 3 1 a.sP a.cP e.picks, blk rb 6 (frOf (enC ez aze)) 46, blk qb 3 (frOf [.int .i64 q0, .int .i64 q1, .int .i64 q2]) 23, blk eb 6 (frOf (enC e a)) 46]
  sz : EnSz e
attribute [local irreducible] PV StepF wpl wpd WP Ret

set_option maxHeartbeats 2000000 in
theorem c17 (e : En) (a : EnA) (q0 q1 q2 : Int) (k : Nat) (w0 : World) (hd : EnAt w0 e a) (hz : EnSz e) (hl : EnLn e k) (hk1000 : k ≤ 1000) :
    Ret Try.prog 17 [enV e a, .agg #[.int .i64 q0, .int .i64 q1, .int .i64 q2]] w0 (fun v w' => ∃ e' a', v = enV e' a' ∧ Hp w0 [] w' (enOwn (e', a')) ∧ EnVl (e', a') ∧ EnSz e' ∧ EnLn e' (k + 12)) := by
  have lnk := hl.grow
  refine Ret.of_WP Try.func17 rfl Try.ntmps17 rfl ?_
  have hp := Hp.start (M := []) (w := w0)
  ((repeat (with_reducible first | apply WP_seq | apply WP_region)); apply wls; exact sbox6 hp rfl; rintro _ w ⟨eb, rfl, hp⟩)
  (apply wls; exact sbox3 hp rfl; rintro _ w ⟨qb, rfl, hp⟩)
  (apply wls; exact salloc6 hp (zeroTy_ok rfl); rintro _ w ⟨rb, rfl, hp⟩)
  have hp : Hp w0 [] w [blk rb 6 (frOf (enC ez aze)) 46, blk qb 3 (frOf [.int .i64 q0, .int .i64 q1, .int .i64 q2]) 23, blk eb 6 (frOf (enC e a)) 46] := hp
  ((repeat (with_reducible first | apply WP_seq | apply WP_region | apply wpl_nil | apply thenQ_n)); apply wls; exact sf_slice hp rfl rfl rfl rfl rfl rfl rfl; rintro _ w ⟨nbP, rfl, hp⟩)
  (repeat (apply wlp; ((first | apply pf_field | (apply pf_load; exact rfl)) <;> (first | exact rfl | exact hp.cell 3 rfl rfl)); (first | exact fP rfl | exact fS rfl)))
  (apply wls; exact sf_clone eI e.picks hp 0 rfl rfl rfl rfl rfl rfl (fun _ => rfl) rfl rfl rfl (hd.picks.keep0 hp.keeps) (fun _ => rfl) (by have := hl.picks; omega); rintro _ w ⟨sP, cP, rfl, vP, hp⟩)
  (repeat (apply wlp; (apply pf_field <;> exact rfl); exact fP rfl))
  (apply wls0; exact sstore1 hp 3 rfl rfl rfl rfl (sizeTy_ok rfl) rfl; rintro _ w ⟨rfl, hp⟩)
  have hp := hp.norm 3 (enC e { a with sP := sP, cP := cP }) rfl rfl
  ((repeat (with_reducible first | apply WP_seq | apply WP_region | apply wpl_nil | apply thenQ_n)); apply wls; exact sf_slice hp rfl rfl rfl rfl rfl rfl rfl; rintro _ w ⟨nbW, rfl, hp⟩)
  (repeat (apply wlp; ((first | apply pf_field | (apply pf_load; exact rfl)) <;> (first | exact rfl | exact hp.cell 4 rfl rfl)); (first | exact fP rfl | exact fS rfl)))
  (apply wls; exact sf_clone eS e.wishes hp 0 rfl rfl rfl rfl rfl rfl (fun _ => rfl) rfl rfl rfl (hd.wishes.keep0 hp.keeps) (fun _ => rfl) (by have := hl.wishes; omega); rintro _ w ⟨sW, cW, rfl, vW, hp⟩)
  (repeat (apply wlp; (apply pf_field <;> exact rfl); exact fP rfl))
  (apply wls0; exact sstore1 hp 4 rfl rfl rfl rfl (sizeTy_ok rfl) rfl; rintro _ w ⟨rfl, hp⟩)
  have hp := hp.norm 4 (enC e { a with sP := sP, cP := cP, sW := sW, cW := cW }) rfl rfl
  ((repeat (with_reducible first | apply WP_seq | apply WP_region | apply wpl_nil | apply thenQ_n)); apply wls; exact sf_slice hp rfl rfl rfl rfl rfl rfl rfl; rintro _ w ⟨nbG, rfl, hp⟩)
  (repeat (apply wlp; ((first | apply pf_field | (apply pf_load; exact rfl)) <;> (first | exact rfl | exact hp.cell 5 rfl rfl)); (first | exact fP rfl | exact fS rfl)))
  (apply wls; exact sf_clone eS e.groups hp 0 rfl rfl rfl rfl rfl rfl (fun _ => rfl) rfl rfl rfl (hd.groups.keep0 hp.keeps) (fun _ => rfl) (by have := hl.groups; omega); rintro _ w ⟨sG, cG, rfl, vG, hp⟩)
  (repeat (apply wlp; (apply pf_field <;> exact rfl); exact fP rfl))
  (apply wls0; exact sstore1 hp 5 rfl rfl rfl rfl (sizeTy_ok rfl) rfl; rintro _ w ⟨rfl, hp⟩)
  have hp := hp.norm 5 (enC e ⟨sP, cP, sW, cW, sG, cG⟩) rfl rfl
  obtain ⟨a', ha'⟩ : ∃ a' : EnA, a' = ⟨sP, cP, sW, cW, sG, cG⟩ := ⟨_, rfl⟩
  have hOS : OS w0 eb qb rb q0 q1 q2 e a' w := by
    subst ha'
    exact ⟨vP, vW, vG, hp, hz⟩
  obtain ⟨vP, vW, vG, hp, _⟩ := hOS
  clear ha'
  ((repeat (with_reducible first | apply WP_seq | apply WP_region | apply wpl_nil | apply thenQ_n)); apply wls; exact sf_slice hp rfl rfl rfl rfl rfl rfl rfl; rintro _ w ⟨nb, rfl, hp⟩)
  have hp : Hp w0 [] w (blk nb 10 (frOf (oddI.map (Value.int .i64))) 3 :: _) := hp
  (apply wlp; exact pf_index_a (i := 1) rfl rfl rfl (by decide); exact fP rfl)
  (apply wlp; exact pf_load rfl rfl (hp.cell 5 rfl rfl); exact fI rfl)
  (apply wls; exact st_call rfl ent20 rfl (c20 _ _ _ (by decide) (by decide)))
  rintro _ w ⟨rfl, hk⟩
  have hp := hp.call hk
  obtain ⟨k1, hk1, hk1u⟩ : ∃ j : Nat, q1 % 10 = j ∧ j < 10 := ⟨(q1 % 10).toNat, by omega, by omega⟩
  obtain ⟨nv, hnv⟩ : ∃ nv : Int, frOf (oddI.map (Value.int .i64)) (0 + k1 * 1) = .int .i64 nv := ⟨_, frOf_map _ _ (by show 0 + k1 * 1 < 10; omega)⟩
  (apply wlp; exact pf_index rfl rfl ((rfl : _ = Value.int .i64 (q1 % 10)).trans (int_eq hk1)) rfl hk1u; exact fP rfl)
  (apply wlp; exact pf_load rfl rfl ((hp.cell 0 rfl (nblt_true (by omega))).trans (congrArg some hnv)); exact fI rfl)
  have hp := Hp.tail hp
  (repeat (first | (with_reducible first | apply WP_seq | apply WP_region | apply wpl_nil | apply thenQ_n) | (apply wlp; apply pv_assign; exact fI rfl)))
  (apply wls; exact sf_slice hp rfl rfl rfl rfl rfl rfl rfl; rintro _ w ⟨nb2, rfl, hp⟩)
  have hp : Hp w0 [] w (blk nb2 5 (frOf (oddW.map Value.string)) 9 :: _) := hp
  (apply wlp; exact pf_index_a (i := 1) rfl rfl rfl (by decide); exact fP rfl)
  (apply wlp; exact pf_load rfl rfl (hp.cell 5 rfl rfl); exact fI rfl)
  (apply wls; exact st_call rfl ent20 rfl (c20 _ _ _ (by decide) (by decide)))
  rintro _ w ⟨rfl, hk⟩
  have hp := hp.call hk
  obtain ⟨k2, hk2, hk2u⟩ : ∃ j : Nat, q1 % 5 = j ∧ j < 5 := ⟨(q1 % 5).toNat, by omega, by omega⟩
  have hk2w : 0 + k2 * 1 < oddW.length := by show 0 + k2 * 1 < 5; omega
  obtain ⟨wv, hwv, hwz⟩ : ∃ wv : ByteArray, frOf (oddW.map Value.string) (0 + k2 * 1) = .string wv ∧ wv.size ≤ 31 := ⟨_, frOf_map _ _ hk2w, oddW_sz _ (List.getElem_mem hk2w)⟩
  (apply wlp; exact pf_index rfl rfl ((rfl : _ = Value.int .i64 (q1 % 5)).trans (int_eq hk2)) rfl hk2u; exact fP rfl)
  (apply wlp; exact pf_load rfl rfl ((hp.cell 0 rfl (nblt_true (by omega))).trans (congrArg some hwv)); exact fT rfl)
  have hp := Hp.tail hp
  (repeat (first | (with_reducible first | apply WP_seq | apply WP_region | apply wpl_nil | apply thenQ_n) | (apply wlp; ((first | apply pv_assign | (apply pf_index_a; exact rfl)) <;> exact rfl); exact fT rfl)))
  (apply wlp; exact pf_index_a (i := 0) rfl rfl rfl (by decide); exact fP rfl)
  (apply wlp; exact pf_load rfl rfl (hp.cell 4 rfl rfl); exact fI rfl)
  (apply wls; exact st_call rfl ent20 rfl (c20 _ _ _ (by decide) (by decide)))
  rintro _ w ⟨rfl, hk⟩
  have hp := hp.call hk
  refine wpl_nil ?_
  refine thenQ_n ?_
  refine WP_mid (fun F w => ∃ (F' : Fr) (e' : En) (a' : EnA), F = (F'.put 2 (.pointer (some ⟨eb, 0, none⟩))).put 4 (.pointer (some ⟨rb, 0, none⟩)) ∧ OS w0 eb qb rb q0 q1 q2 e' a' w ∧ EnLn e' (k + 12)) ?_ ?_
  · (repeat (first | (with_reducible first | apply WP_seq | apply WP_block | apply WP_region | apply wpl_nil | apply thenQ_n) | (apply wlp; ((first | apply pv_assign | (apply pv_eql; (first | exact rfl | exact ev_sel rfl (by assumption)))) <;> exact rfl); exact fB rfl)))
    refine WP_cond_d rfl (fun h0 => ?_) (fun h0 => ?_)
    · (repeat (first | with_reducible apply WP_region | (apply wlp; ((first | apply pv_move | apply pf_field) <;> exact rfl); (first | exact fI rfl | exact fP rfl))))
      (apply wls0; exact sstore1 hp 5 rfl rfl rfl rfl (sizeTy_ok rfl) rfl; rintro _ w ⟨rfl, hp⟩)
      have hp := hp.norm 5 (enC { e with id := nv } a') rfl rfl
      (repeat (with_reducible first | apply wpl_nil | apply thenQ_n | apply inBlk_n))
      exact ⟨_, { e with id := nv }, a', put_self (put_self rfl rfl) rfl, ⟨vP, vW, vG, hp, ⟨hz.groups⟩⟩, lnk.of rfl rfl rfl⟩
    (repeat (first | (with_reducible first | apply WP_seq | apply WP_region | apply wpl_nil | apply thenQ_n) | (apply wlp; ((first | apply pv_assign | (apply pv_eql; (first | exact rfl | exact ev_sel rfl (by assumption)))) <;> exact rfl); exact fB rfl)))
    refine WP_cond_d rfl (fun h1 => ?_) (fun h1 => ?_)
    · (repeat (first | with_reducible apply WP_region | (apply wlp; ((first | apply pv_move | apply pf_field) <;> exact rfl); (first | exact fI rfl | exact fP rfl))))
      (apply wls0; exact sstore1 hp 5 rfl rfl rfl rfl (sizeTy_ok rfl) rfl; rintro _ w ⟨rfl, hp⟩)
      have hp := hp.norm 5 (enC { e with cls := nv } a') rfl rfl
      (repeat (with_reducible first | apply wpl_nil | apply thenQ_n | apply inBlk_n))
      exact ⟨_, { e with cls := nv }, a', put_self (put_self rfl rfl) rfl, ⟨vP, vW, vG, hp, ⟨hz.groups⟩⟩, lnk.of rfl rfl rfl⟩
    (repeat (first | (with_reducible first | apply WP_seq | apply WP_region | apply wpl_nil | apply thenQ_n) | (apply wlp; ((first | apply pv_assign | (apply pv_eql; (first | exact rfl | exact ev_sel rfl (by assumption)))) <;> exact rfl); exact fB rfl)))
    refine WP_cond_d rfl (fun h2 => ?_) (fun h2 => ?_)
    · (repeat (first | with_reducible apply WP_region | (apply wlp; ((first | apply pv_move | apply pf_field) <;> exact rfl); (first | exact fI rfl | exact fP rfl))))
      (apply wls0; exact sstore1 hp 5 rfl rfl rfl rfl (sizeTy_ok rfl) rfl; rintro _ w ⟨rfl, hp⟩)
      have hp := hp.norm 5 (enC { e with fam := nv } a') rfl rfl
      (repeat (with_reducible first | apply wpl_nil | apply thenQ_n | apply inBlk_n))
      exact ⟨_, { e with fam := nv }, a', put_self (put_self rfl rfl) rfl, ⟨vP, vW, vG, hp, ⟨hz.groups⟩⟩, lnk.of rfl rfl rfl⟩
    (repeat (first | (with_reducible first | apply WP_seq | apply WP_region | apply wpl_nil | apply thenQ_n) | (apply wlp; ((first | apply pv_assign | (apply pv_eql; (first | exact rfl | exact ev_sel rfl (by assumption)))) <;> exact rfl); exact fB rfl)))
    refine WP_cond_d rfl (fun h3 => ?_) (fun h3 => ?_)
    · (repeat (first | with_reducible apply WP_region | (apply wlp; ((first | apply pv_move | apply pf_field | (apply pf_load; exact rfl)) <;> (first | exact rfl | exact hp.cell 5 rfl rfl)); (first | exact fI rfl | exact fP rfl | exact fS rfl))))
      (apply wls; exact sf_slice hp rfl rfl rfl rfl rfl rfl rfl; rintro _ w ⟨nb, rfl, hp⟩)
      (apply wls; exact sf_app1 eI e.picks nv hp 3 0 rfl rfl rfl rfl rfl rfl (fun _ => rfl) rfl rfl rfl vP rfl rfl (by have := hl.picks; omega); rintro _ w ⟨s', c', rfl, v', hp⟩)
      have hp := Hp.tail hp
      (repeat (apply wlp; (apply pf_field <;> exact rfl); exact fP rfl))
      (apply wls0; exact sstore1 hp 5 rfl rfl rfl rfl (sizeTy_ok rfl) rfl; rintro _ w ⟨rfl, hp⟩)
      have hp := hp.norm 5 (enC { e with picks := e.picks ++ [nv] } { a' with sP := s', cP := c' }) rfl rfl
      (repeat (with_reducible first | apply wpl_nil | apply thenQ_n | apply inBlk_n))
      exact ⟨_, { e with picks := e.picks ++ [nv] }, { a' with sP := s', cP := c' }, put_self (put_self rfl rfl) rfl, ⟨v', vW, vG, hp, ⟨hz.groups⟩⟩, lnk.p rfl rfl (by simp)⟩
    (repeat (first | (with_reducible first | apply WP_seq | apply WP_region | apply wpl_nil | apply thenQ_n) | (apply wlp; ((first | apply pv_assign | (apply pv_eql; (first | exact rfl | exact ev_sel rfl (by assumption)))) <;> exact rfl); exact fB rfl)))
    refine WP_cond_d rfl (fun h4 => ?_) (fun h4 => ?_)
    · (repeat (first | (with_reducible first | apply WP_seq | apply WP_region | apply wpl_nil | apply thenQ_n) | (apply wlp; ((first | apply pf_field | (apply pf_load; exact rfl) | (apply pf_len; exact rfl) | apply pv_gtr) <;> (first | exact rfl | exact hp.cell 5 rfl rfl)); (first | exact fI rfl | exact fB rfl | exact fP rfl | exact fS rfl))))
      refine WP_cond_d rfl (fun hc => ?_) (fun hc => ?_)
      · have hne : e.picks ≠ [] := by
          intro h
          rw [h] at hc
          simp at hc
        have hln := hl.picks
        obtain ⟨gP, hgP⟩ := vP.addr hne
        obtain ⟨a0, ha0⟩ : ∃ a0 : EnA, a0 = a' := ⟨_, rfl⟩
        have hpos : (0 : Int) < e.picks.length := hc
        obtain ⟨kk, hkk, hku⟩ : ∃ kk : Nat, q2 % (e.picks.length : Int) = kk ∧ kk < e.picks.length := by
          have h1 := Int.emod_nonneg q2 (b := (e.picks.length : Int)) (by omega)
          have h2 := Int.emod_lt_of_pos q2 hpos
          exact ⟨(q2 % (e.picks.length : Int)).toNat, by omega, by omega⟩
        skip
        refine WP_drawS mixed (by kernel_rfl) (fun w' => Hp w0 [] w' [blk qb 3 (frOf [.int .i64 q0, .int .i64 q1, .int .i64 q2]) 23, blk eb 6 (frOf (enC e a')) 46]) (hp.drew.picks [4, 5] _ rfl rfl) ?_
        have hp := hp.drew
        (repeat ((apply wdp; exact rfl); (intro w hp; intros; ((first | apply pf_field | (apply pf_load; exact rfl) | (apply pf_index_a; exact rfl)) <;> (first | exact rfl | exact hp.cell 1 rfl rfl))); (intros; (first | exact fP rfl | exact fS rfl))))
        (apply wdp; exact rfl; (intro w hp; exact pf_index_a (i := 2) rfl rfl rfl (by decide)); exact fP rfl)
        (apply wdp; exact rfl; (intro w hp; exact pf_load rfl rfl (hp.cell 0 rfl rfl)); exact fI rfl)
        (repeat ((apply wdp; exact rfl); (intro w hp; intros; ((first | apply pf_field | (apply pf_load; exact rfl) | (apply pf_len; exact rfl)) <;> (first | exact rfl | exact hp.cell 1 rfl rfl))); (intros; (first | exact fI rfl | exact fP rfl | exact fS rfl))))
        (apply wds; exact rfl; exact st_call rfl ent20 rfl (c20 _ _ _ hpos (by omega)))
        rintro _ w ⟨rfl, hk⟩
        have hp := hp.call hk
        refine ⟨hp.picks [4, 5] _ rfl rfl, ?_⟩
        (repeat ((apply wdp; exact rfl); (intro w hp; intros; ((first | apply pv_move | (apply pf_index; exact rfl)) <;> exact rfl)); (intros; exact fI rfl)))
        (apply wdp; exact rfl; (intro w hp; exact pf_index rfl rfl ((rfl : _ = Value.int .i64 (q2 % (e.picks.length : Int))).trans (int_eq hkk)) hgP hku); exact fP rfl)
        (apply wds0S; exact rfl; exact rfl; exact st_setL eI e.picks kk nv hp 2 (by rw [← hgP]; rfl) (by rw [← hgP]; exact vP) hku rfl rfl (fun _ => rfl) rfl rfl (sizeTy_ok rfl); rintro _ w ⟨rfl, hp⟩)
        have hp : Hp w0 [] w [ownL eS 9 1 a'.sG a'.cG e.groups, ownL eS 9 1 a'.sW a'.cW e.wishes, ownL eI 3 1 (some ⟨gP, 0, none⟩) a'.cP (e.picks.set kk nv), blk rb 6 (frOf (enC ez aze)) 46, blk qb 3 (frOf [.int .i64 q0, .int .i64 q1, .int .i64 q2]) 23, blk eb 6 (frOf (enC e a')) 46] := hp
        rw [← hgP] at hp
        have hp := hp.norm 5 (enC { e with picks := e.picks.set kk nv } a') rfl (by simp only [enC, List.length_set]; rfl)
        refine wpd_nil ?_
        (repeat (with_reducible first | apply thenQ_n | apply inBlk_n))
        exact ⟨_, { e with picks := e.picks.set kk nv }, a', put_self (put_self rfl rfl) rfl, ⟨vP.set _ _, vW, vG, hp, ⟨hz.groups⟩⟩, lnk.p rfl rfl (by simp)⟩
      · (repeat (with_reducible first | apply thenQ_n | apply inBlk_n | apply WP_skip))
        exact ⟨_, e, a', put_self (put_self rfl rfl) rfl, ⟨vP, vW, vG, hp, hz⟩, lnk.of rfl rfl rfl⟩
    (repeat (first | (with_reducible first | apply WP_seq | apply WP_region | apply wpl_nil | apply thenQ_n) | (apply wlp; ((first | apply pv_assign | (apply pv_eql; (first | exact rfl | exact ev_sel rfl (by assumption)))) <;> exact rfl); exact fB rfl)))
    refine WP_cond_d rfl (fun h5 => ?_) (fun h5 => ?_)
    · (repeat (first | with_reducible apply WP_region | (apply wlp; ((first | apply pv_move | apply pf_field | (apply pf_load; exact rfl)) <;> (first | exact rfl | exact hp.cell 5 rfl rfl)); (first | exact fP rfl | exact fS rfl | exact fT rfl))))
      (apply wls; exact sf_slice hp rfl rfl rfl rfl rfl rfl rfl; rintro _ w ⟨nb, rfl, hp⟩)
      (apply wls; exact sf_app1 eS e.wishes wv hp 2 0 rfl rfl rfl rfl rfl rfl (fun _ => rfl) rfl rfl rfl vW rfl rfl (by have := hl.wishes; omega); rintro _ w ⟨s', c', rfl, v', hp⟩)
      have hp := Hp.tail hp
      (repeat (apply wlp; (apply pf_field <;> exact rfl); exact fP rfl))
      (apply wls0; exact sstore1 hp 5 rfl rfl rfl rfl (sizeTy_ok rfl) rfl; rintro _ w ⟨rfl, hp⟩)
      have hp := hp.norm 5 (enC { e with wishes := e.wishes ++ [wv] } { a' with sW := s', cW := c' }) rfl rfl
      (repeat (with_reducible first | apply wpl_nil | apply thenQ_n | apply inBlk_n))
      exact ⟨_, { e with wishes := e.wishes ++ [wv] }, { a' with sW := s', cW := c' }, put_self (put_self rfl rfl) rfl, ⟨vP, v', vG, hp, ⟨hz.groups⟩⟩, lnk.w rfl rfl (by simp)⟩
    (repeat (first | (with_reducible first | apply WP_seq | apply WP_region | apply wpl_nil | apply thenQ_n) | (apply wlp; ((first | apply pv_assign | (apply pv_eql; (first | exact rfl | exact ev_sel rfl (by assumption)))) <;> exact rfl); exact fB rfl)))
    refine WP_cond_d rfl (fun h6 => ?_) (fun h6 => ?_)
    · (repeat (first | with_reducible apply WP_region | (apply wlp; ((first | apply pv_move | apply pf_field | (apply pf_load; exact rfl)) <;> (first | exact rfl | exact hp.cell 5 rfl rfl)); (first | exact fP rfl | exact fS rfl | exact fT rfl))))
      (apply wls; exact sf_slice hp rfl rfl rfl rfl rfl rfl rfl; rintro _ w ⟨nb, rfl, hp⟩)
      (apply wls; exact sf_app1 eS e.groups wv hp 1 0 rfl rfl rfl rfl rfl rfl (fun _ => rfl) rfl rfl rfl vG rfl rfl (by have := hl.groups; omega); rintro _ w ⟨s', c', rfl, v', hp⟩)
      have hp := Hp.tail hp
      (repeat (apply wlp; (apply pf_field <;> exact rfl); exact fP rfl))
      (apply wls0; exact sstore1 hp 5 rfl rfl rfl rfl (sizeTy_ok rfl) rfl; rintro _ w ⟨rfl, hp⟩)
      have hp := hp.norm 5 (enC { e with groups := e.groups ++ [wv] } { a' with sG := s', cG := c' }) rfl rfl
      (repeat (with_reducible first | apply wpl_nil | apply thenQ_n | apply inBlk_n))
      exact ⟨_, { e with groups := e.groups ++ [wv] }, { a' with sG := s', cG := c' }, put_self (put_self rfl rfl) rfl, ⟨vP, vW, v', hp, ⟨snoc_all hz.groups (by show wv.size ≤ 9223372036854775807; omega)⟩⟩, lnk.g rfl rfl (by simp)⟩
    (repeat (first | (with_reducible first | apply WP_seq | apply WP_region | apply wpl_nil | apply thenQ_n) | (apply wlp; ((first | apply pv_assign | (apply pv_eql; (first | exact rfl | exact ev_sel rfl (by assumption)))) <;> exact rfl); exact fB rfl)))
    refine WP_cond_d rfl (fun h7 => ?_) (fun h7 => ?_)
    · (repeat (first | (with_reducible first | apply WP_seq | apply WP_block | apply WP_region | apply wpl_nil | apply thenQ_n) | (apply wlp; apply pv_assign; exact fI rfl)))
      refine WP_loopS [7, 92, 93, 94, 95, 96, 97, 98, 99, 100, 101, 102, 103, 104, 105, 106] (fun (x : Nat × List ByteArray × Option Addr × Nat) F => F.put 7 (.int .i64 x.1))
        (fun x w' => x.1 ≤ 11 ∧ x.2.1.length ≤ e.groups.length + x.1 ∧ OS w0 eb qb rb q0 q1 q2 { e with groups := x.2.1 } { a' with sG := x.2.2.1, cG := x.2.2.2 } w') (fun x => 11 - x.1) (0, e.groups, a'.sG, a'.cG) (put_self (Same.eq .refl) rfl) ⟨by simp, by simp, ⟨vP, vW, vG, hp, hz⟩⟩ ?_
      clear hp vG
      rintro u ⟨i, gs, sX, cX⟩ w ⟨hi1, hi2, ⟨vP, vW, vG, hp, hz⟩⟩
      have hi1 : i ≤ 11 := hi1
      have hi2 : gs.length ≤ e.groups.length + i := hi2
      have hlb := hl.groups
      (repeat (first | (with_reducible first | apply WP_seq | apply WP_region | apply wpl_nil | apply thenQ_n) | (apply wlp; ((first | apply pv_move | apply pv_lss) <;> exact rfl); (first | exact fI rfl | exact fB rfl))))
      refine WP_cond_d rfl (fun hc => ?_) (fun hc => ?_)
      · (repeat (first | (with_reducible first | apply WP_seq | apply WP_block | apply WP_region | apply thenQ_n | apply WP_skip) | (apply wlp; ((first | apply pv_move | apply pf_field | (apply pf_load; exact rfl)) <;> (first | exact rfl | exact hp.cell 5 rfl rfl)); (first | exact fI rfl | exact fP rfl | exact fS rfl))))
        (apply wlp; exact pv_add rfl rfl; exact int_eq (i64_in (by omega) (by omega)))
        (repeat (apply wlp; (apply pf_conv <;> exact rfl); exact fI rfl))
        (apply wls; exact sf_slice hp rfl rfl rfl rfl rfl rfl rfl; rintro _ w ⟨nb, rfl, hp⟩)
        (apply wlp; exact pf_bts (ns := [IntKind.u8.wrap (97 + i)]) rfl rfl rfl rfl rfl (fun j v hv => by
          obtain ⟨b', o', e1, e2⟩ := blk_src (cs := [.int .u8 (IntKind.u8.wrap (97 + i))]) hp 0 rfl j v hv
          cases e1
          exact e2); exact fT rfl)
        have hp := Hp.tail hp
        (apply wlp; exact pv_sadd rfl rfl (by rw [bytesOf_size]; show 1 + 1 ≤ 9223372036854775807; decide); exact fT rfl)
        (apply wls; exact sf_slice hp rfl rfl rfl rfl rfl rfl rfl; rintro _ w ⟨nb, rfl, hp⟩)
        (apply wls; exact sf_app1 eS gs (gn i) hp 1 0 rfl rfl rfl rfl rfl rfl (fun _ => rfl) rfl rfl rfl vG rfl rfl (by omega); rintro _ w ⟨s', c', rfl, v', hp⟩)
        have hp := Hp.tail hp
        (repeat (apply wlp; (apply pf_field <;> exact rfl); exact fP rfl))
        (apply wls0; exact sstore1 hp 5 rfl rfl rfl rfl (sizeTy_ok rfl) rfl; rintro _ w ⟨rfl, hp⟩)
        have hp := hp.norm 5 (enC { e with groups := gs ++ [gn i] } { a' with sG := s', cG := c' }) rfl rfl
        (repeat (first | (with_reducible first | apply WP_region | apply wpl_nil | apply thenQ_n | apply inBlk_n) | (apply wlp; apply pv_move; exact fI rfl)))
        (apply wlp; exact pv_add rfl rfl; exact int_eq (i64_in (by omega) (by omega)))
        (repeat (first | (with_reducible first | apply wpl_nil | apply thenQ_n) | (apply wlp; apply pv_assign; exact fI rfl)))
        exact ⟨(i + 1, gs ++ [gn i], s', c'), put_self (Same.eq (by repeat (first | exact Same.hav | exact Same.refl | refine Same.put rfl ?_ | refine Same.havs rfl ?_))) rfl, ⟨by show i + 1 ≤ 11; omega, by show (gs ++ [gn i]).length ≤ e.groups.length + (i + 1); simp; omega, ⟨vP, vW, v', hp, ⟨snoc_all hz.groups (gn_size i)⟩⟩⟩, by show 11 - (i + 1) < 11 - i; omega⟩
      (repeat (first | (with_reducible first | apply thenQ_n | apply inBlk_n | apply thenQ_exit | apply WP_exit) | ((with_reducible apply inBlk_same); exact rfl)))
      exact ⟨_, { e with groups := gs }, { a' with sG := sX, cG := cX }, put_self (put_self rfl rfl) rfl, ⟨vP, vW, vG, hp, hz⟩, lnk.g rfl rfl (by show gs.length ≤ e.groups.length + 12; omega)⟩
    (repeat (with_reducible first | apply thenQ_n | apply inBlk_n | apply WP_skip))
    exact ⟨_, e, a', put_self (put_self rfl rfl) rfl, ⟨vP, vW, vG, hp, hz⟩, lnk.of rfl rfl rfl⟩
  · clear hp
    rintro F w ⟨F', e', a', rfl, ⟨vP, vW, vG, hp, hz⟩, hl'⟩
    (repeat (first | (with_reducible first | apply WP_seq | apply WP_region) | (apply wlp; ((apply pf_loadb; exact rfl) <;> (first | exact rfl | exact hp.agg_blk 5 rfl rfl)); exact fA6 rfl)))
    (apply wls0; exact sstore6 hp 3 rfl rfl rfl rfl (sizeTy_ok rfl) rfl; rintro _ w ⟨rfl, hp⟩)
    have hp := hp.norm 3 (enC e' a') rfl rfl
    (repeat (with_reducible first | apply wpl_nil | apply thenQ_n | apply WP_ret))
    exact ret_cell rfl rfl rfl rfl (hp.agg_blk 3 rfl rfl) ⟨_, rfl, e', a', rfl, hp.picks [2, 1, 0] _ rfl rfl, ⟨vP, vW, vG⟩, hz, hl'⟩
end Go.Proofs.Ytgephdcapajaiaa
