/- Layer 14: Bent returns rules that lie in memory of their own; conditions: the rules lie in memory, their lists are not long. -/
import Derived.Test.YtgephdcapajaiaaS
namespace Go.Proofs.Ytgephdcapajaiaa
open Go.Eng

def bentI : List Int := [-1, 0, 1, 2, 9, 10, 11, 40, 41, 60, 61, 100, 101, 1000, 1001, 1000000, 1000001, 1000000000, 1000000001]
def bentW : List ByteArray := [⟨#[]⟩, ⟨#[97]⟩, ⟨#[98]⟩, ⟨#[65]⟩, ⟨#[97, 49]⟩, ⟨#[116, 119, 111, 32, 119, 111, 114, 100, 115]⟩, ⟨#[97, 98, 99, 100, 101, 102, 103, 104, 105, 106, 107, 108, 109, 110, 111, 112, 113, 114, 115, 116, 117, 118, 119, 120, 121, 122, 97, 98, 99, 100]⟩, ⟨#[97, 98, 99, 100, 101, 102, 103, 104, 105, 106, 107, 108, 109, 110, 111, 112, 113, 114, 115, 116, 117, 118, 119, 120, 121, 122, 97, 98, 99, 100, 101]⟩]
theorem frOf_map {α : Type} (f : α → Value) (l : List α) {k : Nat} (hk : k < l.length) : frOf (l.map f) k = f l[k] := by
  rw [frOf_eq, List.getD_eq_getElem?_getD, List.getElem?_map, List.getElem?_eq_getElem hk]
  rfl
theorem bentW_sz : ∀ x ∈ bentW, x.size ≤ 31 := by decide
theorem snoc_all {α : Type} {P : α → Prop} {l : List α} {x : α} (h : ∀ y ∈ l, P y) (hx : P x) : ∀ y ∈ l ++ [x], P y := by
  intro y hy
  rcases List.mem_append.1 hy with hy | hy
  · exact h y hy
  · have : y = x := by simpa using hy
    subst this
    exact hx

def qn (i : Nat) : ByteArray := ⟨#[113]⟩ ++ bytesOf [IntKind.u8.wrap (97 + i)]
theorem qn_size (i : Nat) : (qn i).size ≤ 9223372036854775807 := by
  unfold qn
  rw [ByteArray.size_append, bytesOf_size]
  show 1 + 1 ≤ 9223372036854775807
  decide
structure DrLn (d : Dr) (k : Nat) : Prop where
  tiers : d.tiers.length ≤ k
  places : d.places.length ≤ k
  quotas : d.quotas.length ≤ k
  barred : d.barred.length ≤ k
/-- longer lists -/
structure DrGrow (d : Dr) (k : Nat) : Prop where
  of : ∀ {e : Dr}, e.tiers = d.tiers → e.places = d.places → e.quotas = d.quotas → e.barred = d.barred → DrLn e (k + 50)
  t : ∀ {e : Dr}, e.places = d.places → e.quotas = d.quotas → e.barred = d.barred → e.tiers.length ≤ d.tiers.length + 42 → DrLn e (k + 50)
  p : ∀ {e : Dr}, e.tiers = d.tiers → e.quotas = d.quotas → e.barred = d.barred → e.places.length ≤ d.places.length + 42 → DrLn e (k + 50)
  q : ∀ {e : Dr}, e.tiers = d.tiers → e.places = d.places → e.barred = d.barred → e.quotas.length ≤ d.quotas.length + 42 → DrLn e (k + 50)
  b : ∀ {e : Dr}, e.tiers = d.tiers → e.places = d.places → e.quotas = d.quotas → e.barred.length ≤ d.barred.length + 42 → DrLn e (k + 50)
theorem DrLn.grow {d : Dr} {k : Nat} (h : DrLn d k) : DrGrow d k := by
  have h1 := h.tiers
  have h2 := h.places
  have h3 := h.quotas
  have h4 := h.barred
  refine ⟨fun e1 e2 e3 e4 => ⟨?_, ?_, ?_, ?_⟩, fun e1 e2 e3 e4 => ⟨?_, ?_, ?_, ?_⟩, fun e1 e2 e3 e4 => ⟨?_, ?_, ?_, ?_⟩, fun e1 e2 e3 e4 => ⟨?_, ?_, ?_, ?_⟩, fun e1 e2 e3 e4 => ⟨?_, ?_, ?_, ?_⟩⟩ <;>
    first | omega | (rw [e1]; omega) | (rw [e2]; omega) | (rw [e3]; omega) | (rw [e4]; omega)

/-- lists of rules that a call owns -/
def drOwn (d : Dr) (a : DrA) : List Ent := [ownL eI 3 1 a.sB a.cB d.barred, ownL eQ 67 3 a.sQ a.cQ d.quotas, ownL eP 65 2 a.sP a.cP d.places, ownL eT 63 2 a.sT a.cT d.tiers]
structure DrV (d : Dr) (a : DrA) : Prop where
  vT : SVL a.sT a.cT d.tiers
  vP : SVL a.sP a.cP d.places
  vQ : SVL a.sQ a.cQ d.quotas
  vB : SVL a.sB a.cB d.barred
theorem DrV.at_ {d : Dr} {a : DrA} {w0 w : World} {M : List Nat} {L : List Ent} (v : DrV d a) (hp : Hp w0 M w L) (i j k m : Nat) (h0 : L[i]? = some (ownL eI 3 1 a.sB a.cB d.barred)) (h1 : L[j]? = some (ownL eQ 67 3 a.sQ a.cQ d.quotas))
    (h2 : L[k]? = some (ownL eP 65 2 a.sP a.cP d.places)) (h3 : L[m]? = some (ownL eT 63 2 a.sT a.cT d.tiers)) : DrAt w d a :=
  ⟨ownL_At hp m h3 v.vT (fun _ => rfl), ownL_At hp k h2 v.vP (fun _ => rfl), ownL_At hp j h1 v.vQ (fun _ => rfl), ownL_At hp i h0 v.vB (fun _ => rfl)⟩
structure BS (w0 : World) (db qb rb : Nat) (q0 q1 q2 : Int) (d : Dr) (a : DrA) (w : World) : Prop where
  vT : SVL a.sT a.cT d.tiers
  vP : SVL a.sP a.cP d.places
  vQ : SVL a.sQ a.cQ d.quotas
  vB : SVL a.sB a.cB d.barred
  hp : Hp w0 [] w [ownL eI 3 1 a.sB a.cB d.barred, ownL eQ 67 3 a.sQ a.cQ d.quotas, ownL eP 65 2 a.sP a.cP d.places, ownL eT 63 2 a.sT a.cT d.tiers, blk rb 13 (frOf (drC dz az)) 30, blk qb 3 (frOf [.int .i64 q0, .int .i64 q1, .int .i64 q2]) 23, blk db 13 (frOf (drC d a)) 30]
  sz : DrSz d
attribute [local irreducible] PV StepF wpl wpd WP Ret

set_option maxHeartbeats 2000000 in
theorem c12 (d : Dr) (a : DrA) (q0 q1 q2 : Int) (k : Nat) (w0 : World) (hd : DrAt w0 d a) (hz : DrSz d) (hl : DrLn d k) (hk1000 : k ≤ 1000) :
    Ret Try.prog 12 [drV d a, .agg #[.int .i64 q0, .int .i64 q1, .int .i64 q2]] w0 (fun v w' => ∃ d' a', v = drV d' a' ∧ Hp w0 [] w' (drOwn d' a') ∧ DrV d' a' ∧ DrSz d' ∧ DrLn d' (k + 50)) := by
  have lnk := hl.grow
  refine Ret.of_WP Try.func12 rfl Try.ntmps12 rfl ?_
  have hp := Hp.start (M := []) (w := w0)
  ((repeat (with_reducible first | apply WP_seq | apply WP_region)); apply wls; exact sbox13 hp rfl; rintro _ w ⟨db, rfl, hp⟩)
  (apply wls; exact sbox3 hp rfl; rintro _ w ⟨qb, rfl, hp⟩)
  (apply wls; exact salloc13 hp (zeroTy_ok rfl); rintro _ w ⟨rb, rfl, hp⟩)
  have hp : Hp w0 [] w [blk rb 13 (frOf (drC dz az)) 30, blk qb 3 (frOf [.int .i64 q0, .int .i64 q1, .int .i64 q2]) 23, blk db 13 (frOf (drC d a)) 30] := hp
  ((repeat (with_reducible first | apply WP_seq | apply WP_region | apply wpl_nil | apply thenQ_n)); apply wls; exact sf_slice hp rfl rfl rfl rfl rfl rfl rfl; rintro _ w ⟨nbT, rfl, hp⟩)
  (repeat (apply wlp; ((first | apply pf_field | (apply pf_load; exact rfl)) <;> (first | exact rfl | exact hp.cell 3 rfl rfl)); (first | exact fP rfl | exact fS rfl)))
  (apply wls; exact sf_clone eT d.tiers hp 0 rfl rfl rfl rfl rfl rfl (fun _ => rfl) rfl rfl rfl (hd.tiers.keep0 hp.keeps) (fun _ => rfl) (by have := hl.tiers; omega); rintro _ w ⟨sT, cT, rfl, vT, hp⟩)
  (repeat (apply wlp; (apply pf_field <;> exact rfl); exact fP rfl))
  (apply wls0; exact sstore1 hp 3 rfl rfl rfl rfl (sizeTy_ok rfl) rfl; rintro _ w ⟨rfl, hp⟩)
  have hp := hp.norm 3 (drC d { a with sT := sT, cT := cT }) rfl rfl
  ((repeat (with_reducible first | apply WP_seq | apply WP_region | apply wpl_nil | apply thenQ_n)); apply wls; exact sf_slice hp rfl rfl rfl rfl rfl rfl rfl; rintro _ w ⟨nbP, rfl, hp⟩)
  (repeat (apply wlp; ((first | apply pf_field | (apply pf_load; exact rfl)) <;> (first | exact rfl | exact hp.cell 4 rfl rfl)); (first | exact fP rfl | exact fS rfl)))
  (apply wls; exact sf_clone eP d.places hp 0 rfl rfl rfl rfl rfl rfl (fun _ => rfl) rfl rfl rfl (hd.places.keep0 hp.keeps) (fun _ => rfl) (by have := hl.places; omega); rintro _ w ⟨sP, cP, rfl, vP, hp⟩)
  (repeat (apply wlp; (apply pf_field <;> exact rfl); exact fP rfl))
  (apply wls0; exact sstore1 hp 4 rfl rfl rfl rfl (sizeTy_ok rfl) rfl; rintro _ w ⟨rfl, hp⟩)
  have hp := hp.norm 4 (drC d { a with sT := sT, cT := cT, sP := sP, cP := cP }) rfl rfl
  ((repeat (with_reducible first | apply WP_seq | apply WP_region | apply wpl_nil | apply thenQ_n)); apply wls; exact sf_slice hp rfl rfl rfl rfl rfl rfl rfl; rintro _ w ⟨nbQ, rfl, hp⟩)
  (repeat (apply wlp; ((first | apply pf_field | (apply pf_load; exact rfl)) <;> (first | exact rfl | exact hp.cell 5 rfl rfl)); (first | exact fP rfl | exact fS rfl)))
  (apply wls; exact sf_clone eQ d.quotas hp 0 rfl rfl rfl rfl rfl rfl (fun _ => rfl) rfl rfl rfl (hd.quotas.keep0 hp.keeps) (fun _ => rfl) (by have := hl.quotas; omega); rintro _ w ⟨sQ, cQ, rfl, vQ, hp⟩)
  (repeat (apply wlp; (apply pf_field <;> exact rfl); exact fP rfl))
  (apply wls0; exact sstore1 hp 5 rfl rfl rfl rfl (sizeTy_ok rfl) rfl; rintro _ w ⟨rfl, hp⟩)
  have hp := hp.norm 5 (drC d { a with sT := sT, cT := cT, sP := sP, cP := cP, sQ := sQ, cQ := cQ }) rfl rfl
  ((repeat (with_reducible first | apply WP_seq | apply WP_region | apply wpl_nil | apply thenQ_n)); apply wls; exact sf_slice hp rfl rfl rfl rfl rfl rfl rfl; rintro _ w ⟨nbB, rfl, hp⟩)
  (repeat (apply wlp; ((first | apply pf_field | (apply pf_load; exact rfl)) <;> (first | exact rfl | exact hp.cell 6 rfl rfl)); (first | exact fP rfl | exact fS rfl)))
  (apply wls; exact sf_clone eI d.barred hp 0 rfl rfl rfl rfl rfl rfl (fun _ => rfl) rfl rfl rfl (hd.barred.keep0 hp.keeps) (fun _ => rfl) (by have := hl.barred; omega); rintro _ w ⟨sB, cB, rfl, vB, hp⟩)
  (repeat (apply wlp; (apply pf_field <;> exact rfl); exact fP rfl))
  (apply wls0; exact sstore1 hp 6 rfl rfl rfl rfl (sizeTy_ok rfl) rfl; rintro _ w ⟨rfl, hp⟩)
  have hp := hp.norm 6 (drC d { a with sT := sT, cT := cT, sP := sP, cP := cP, sQ := sQ, cQ := cQ, sB := sB, cB := cB }) rfl rfl
  obtain ⟨a', ha'⟩ : ∃ a' : DrA, a' = { a with sT := sT, cT := cT, sP := sP, cP := cP, sQ := sQ, cQ := cQ, sB := sB, cB := cB } := ⟨_, rfl⟩
  have hBS : BS w0 db qb rb q0 q1 q2 d a' w := by
    subst ha'
    exact ⟨vT, vP, vQ, vB, hp, hz⟩
  obtain ⟨vT, vP, vQ, vB, hp, _⟩ := hBS
  clear ha'
  ((repeat (with_reducible first | apply WP_seq | apply WP_region | apply wpl_nil | apply thenQ_n)); apply wls; exact sf_slice hp rfl rfl rfl rfl rfl rfl rfl; rintro _ w ⟨nb, rfl, hp⟩)
  have hp : Hp w0 [] w (blk nb 19 (frOf (bentI.map (Value.int .i64))) 3 :: _) := hp
  (apply wlp; exact pf_index_a (i := 1) rfl rfl rfl (by decide); exact fP rfl)
  (apply wlp; exact pf_load rfl rfl (hp.cell 6 rfl rfl); exact fI rfl)
  (apply wls; exact st_call rfl ent20 rfl (c20 _ _ _ (by decide) (by decide)))
  rintro _ w ⟨rfl, hk⟩
  have hp := hp.call hk
  obtain ⟨k1, hk1, hk1u⟩ : ∃ j : Nat, q1 % 19 = j ∧ j < 19 := ⟨(q1 % 19).toNat, by omega, by omega⟩
  obtain ⟨nv, hnv⟩ : ∃ nv : Int, frOf (bentI.map (Value.int .i64)) (0 + k1 * 1) = .int .i64 nv := ⟨_, frOf_map _ _ (by show 0 + k1 * 1 < 19; omega)⟩
  (apply wlp; exact pf_index rfl rfl ((rfl : _ = Value.int .i64 (q1 % 19)).trans (int_eq hk1)) rfl hk1u; exact fP rfl)
  (apply wlp; exact pf_load rfl rfl ((hp.cell 0 rfl (nblt_true (by omega))).trans (congrArg some hnv)); exact fI rfl)
  have hp := Hp.tail hp
  (repeat (first | (with_reducible first | apply WP_seq | apply WP_region | apply wpl_nil | apply thenQ_n) | (apply wlp; ((first | apply pv_assign | (apply pf_index_a; exact rfl)) <;> exact rfl); exact fI rfl)))
  (apply wlp; exact pf_index_a (i := 2) rfl rfl rfl (by decide); exact fP rfl)
  (apply wlp; exact pf_load rfl rfl (hp.cell 5 rfl rfl); exact fI rfl)
  (repeat (first | (with_reducible first | apply WP_seq | apply WP_region | apply wpl_nil | apply thenQ_n) | (apply wlp; apply pv_assign; exact fI rfl)))
  (apply wls; exact sf_slice hp rfl rfl rfl rfl rfl rfl rfl; rintro _ w ⟨nb2, rfl, hp⟩)
  have hp : Hp w0 [] w (blk nb2 8 (frOf (bentW.map Value.string)) 9 :: _) := hp
  (apply wlp; exact pf_index_a (i := 1) rfl rfl rfl (by decide); exact fP rfl)
  (apply wlp; exact pf_load rfl rfl (hp.cell 6 rfl rfl); exact fI rfl)
  (apply wls; exact st_call rfl ent20 rfl (c20 _ _ _ (by decide) (by decide)))
  rintro _ w ⟨rfl, hk⟩
  have hp := hp.call hk
  obtain ⟨k2, hk2, hk2u⟩ : ∃ j : Nat, q1 % 8 = j ∧ j < 8 := ⟨(q1 % 8).toNat, by omega, by omega⟩
  have hk2w : 0 + k2 * 1 < bentW.length := by show 0 + k2 * 1 < 8; omega
  obtain ⟨wv, hwv, hwz⟩ : ∃ wv : ByteArray, frOf (bentW.map Value.string) (0 + k2 * 1) = .string wv ∧ wv.size ≤ 31 := ⟨_, frOf_map _ _ hk2w, bentW_sz _ (List.getElem_mem hk2w)⟩
  (apply wlp; exact pf_index rfl rfl ((rfl : _ = Value.int .i64 (q1 % 8)).trans (int_eq hk2)) rfl hk2u; exact fP rfl)
  (apply wlp; exact pf_load rfl rfl ((hp.cell 0 rfl (nblt_true (by omega))).trans (congrArg some hwv)); exact fT rfl)
  have hp := Hp.tail hp
  (repeat (first | (with_reducible first | apply WP_seq | apply WP_region | apply wpl_nil | apply thenQ_n) | (apply wlp; ((first | apply pv_assign | (apply pf_index_a; exact rfl)) <;> exact rfl); exact fT rfl)))
  (apply wlp; exact pf_index_a (i := 0) rfl rfl rfl (by decide); exact fP rfl)
  (apply wlp; exact pf_load rfl rfl (hp.cell 5 rfl rfl); exact fI rfl)
  (apply wls; exact st_call rfl ent20 rfl (c20 _ _ _ (by decide) (by decide)))
  rintro _ w ⟨rfl, hk⟩
  have hp := hp.call hk
  refine wpl_nil ?_
  refine thenQ_n ?_
  refine WP_mid (fun F w => ∃ (F' : Fr) (d' : Dr) (a' : DrA), F = (F'.put 2 (.pointer (some ⟨db, 0, none⟩))).put 4 (.pointer (some ⟨rb, 0, none⟩)) ∧ BS w0 db qb rb q0 q1 q2 d' a' w ∧ DrLn d' (k + 50)) ?_ ?_
  · (repeat (first | (with_reducible first | apply WP_seq | apply WP_block | apply WP_region | apply wpl_nil | apply thenQ_n) | (apply wlp; ((first | apply pv_assign | (apply pv_eql; (first | exact rfl | exact ev_sel rfl (by assumption)))) <;> exact rfl); exact fB rfl)))
    refine WP_cond_d rfl (fun h0 => ?_) (fun h0 => ?_)
    · (repeat (first | with_reducible apply WP_region | (apply wlp; ((first | apply pv_move | apply pf_field) <;> exact rfl); (first | exact fP rfl | exact fT rfl))))
      (apply wls0; exact sstore1 hp 6 rfl rfl rfl rfl (sizeTy_ok rfl) rfl; rintro _ w ⟨rfl, hp⟩)
      have hp := hp.norm 6 (drC { d with name := wv } a') rfl rfl
      (repeat (with_reducible first | apply wpl_nil | apply thenQ_n | apply inBlk_n))
      exact ⟨_, { d with name := wv }, a', put_self (put_self rfl rfl) rfl, ⟨vT, vP, vQ, vB, hp, ⟨by show wv.size ≤ 9223372036854775807; omega, hz.places, hz.quotas⟩⟩, lnk.of rfl rfl rfl rfl⟩
    (repeat (first | (with_reducible first | apply WP_seq | apply WP_region | apply wpl_nil | apply thenQ_n) | (apply wlp; ((first | apply pv_assign | (apply pv_eql; (first | exact rfl | exact ev_sel rfl (by assumption)))) <;> exact rfl); exact fB rfl)))
    refine WP_cond_d rfl (fun h1 => ?_) (fun h1 => ?_)
    · (repeat with_reducible apply WP_region)
      (apply wlp; exact pf_index_a (i := 1) rfl rfl rfl (by decide); exact fP rfl)
      (apply wlp; exact pf_load rfl rfl (hp.cell 5 rfl rfl); exact fI rfl)
      (apply wls; exact st_call rfl ent20 rfl (c20 _ _ _ (by decide) (by decide)))
      rintro _ w ⟨rfl, hk⟩
      have hp := hp.call hk
      have h6 := Int.emod_nonneg q1 (b := 6) (by decide)
      have h7 := Int.emod_lt_of_pos q1 (b := 6) (by decide)
      (apply wlp; exact pv_sub rfl rfl; exact int_eq (i64_in (by omega) (by omega)))
      (repeat (apply wlp; (apply pf_field <;> exact rfl); exact fP rfl))
      (apply wls0; exact sstore1 hp 6 rfl rfl rfl rfl (sizeTy_ok rfl) rfl; rintro _ w ⟨rfl, hp⟩)
      have hp := hp.norm 6 (drC { d with kind := q1 % 6 - 1 } a') rfl rfl
      (repeat (with_reducible first | apply wpl_nil | apply thenQ_n | apply inBlk_n))
      exact ⟨_, { d with kind := q1 % 6 - 1 }, a', put_self (put_self rfl rfl) rfl, ⟨vT, vP, vQ, vB, hp, ⟨hz.name, hz.places, hz.quotas⟩⟩, lnk.of rfl rfl rfl rfl⟩
    (repeat (first | (with_reducible first | apply WP_seq | apply WP_region | apply wpl_nil | apply thenQ_n) | (apply wlp; ((first | apply pv_assign | (apply pv_eql; (first | exact rfl | exact ev_sel rfl (by assumption)))) <;> exact rfl); exact fB rfl)))
    refine WP_cond_d rfl (fun h2 => ?_) (fun h2 => ?_)
    · (repeat (first | with_reducible apply WP_region | (apply wlp; ((first | apply pv_move | apply pf_field) <;> exact rfl); (first | exact fI rfl | exact fP rfl))))
      (apply wls0; exact sstore1 hp 6 rfl rfl rfl rfl (sizeTy_ok rfl) rfl; rintro _ w ⟨rfl, hp⟩)
      have hp := hp.norm 6 (drC { d with round := nv } a') rfl rfl
      (repeat (with_reducible first | apply wpl_nil | apply thenQ_n | apply inBlk_n))
      exact ⟨_, { d with round := nv }, a', put_self (put_self rfl rfl) rfl, ⟨vT, vP, vQ, vB, hp, ⟨hz.name, hz.places, hz.quotas⟩⟩, lnk.of rfl rfl rfl rfl⟩
    (repeat (first | (with_reducible first | apply WP_seq | apply WP_region | apply wpl_nil | apply thenQ_n) | (apply wlp; ((first | apply pv_assign | (apply pv_eql; (first | exact rfl | exact ev_sel rfl (by assumption)))) <;> exact rfl); exact fB rfl)))
    refine WP_cond_d rfl (fun h3 => ?_) (fun h3 => ?_)
    · (repeat (first | with_reducible apply WP_region | (apply wlp; ((first | apply pv_move | apply pf_field) <;> exact rfl); (first | exact fI rfl | exact fP rfl))))
      (apply wls0; exact sstore1 hp 6 rfl rfl rfl rfl (sizeTy_ok rfl) rfl; rintro _ w ⟨rfl, hp⟩)
      have hp := hp.norm 6 (drC { d with price := nv } a') rfl rfl
      (repeat (with_reducible first | apply wpl_nil | apply thenQ_n | apply inBlk_n))
      exact ⟨_, { d with price := nv }, a', put_self (put_self rfl rfl) rfl, ⟨vT, vP, vQ, vB, hp, ⟨hz.name, hz.places, hz.quotas⟩⟩, lnk.of rfl rfl rfl rfl⟩
    (repeat (first | (with_reducible first | apply WP_seq | apply WP_region | apply wpl_nil | apply thenQ_n) | (apply wlp; ((first | apply pv_assign | (apply pv_eql; (first | exact rfl | exact ev_sel rfl (by assumption)))) <;> exact rfl); exact fB rfl)))
    refine WP_cond_d rfl (fun h4 => ?_) (fun h4 => ?_)
    · (repeat (first | with_reducible apply WP_region | (apply wlp; ((first | apply pv_move | apply pf_field) <;> exact rfl); (first | exact fI rfl | exact fP rfl))))
      (apply wls0; exact sstore1 hp 6 rfl rfl rfl rfl (sizeTy_ok rfl) rfl; rintro _ w ⟨rfl, hp⟩)
      have hp := hp.norm 6 (drC { d with pool := nv } a') rfl rfl
      (repeat (with_reducible first | apply wpl_nil | apply thenQ_n | apply inBlk_n))
      exact ⟨_, { d with pool := nv }, a', put_self (put_self rfl rfl) rfl, ⟨vT, vP, vQ, vB, hp, ⟨hz.name, hz.places, hz.quotas⟩⟩, lnk.of rfl rfl rfl rfl⟩
    (repeat (first | (with_reducible first | apply WP_seq | apply WP_region | apply wpl_nil | apply thenQ_n) | (apply wlp; ((first | apply pv_assign | (apply pv_eql; (first | exact rfl | exact ev_sel rfl (by assumption)))) <;> exact rfl); exact fB rfl)))
    refine WP_cond_d rfl (fun h5 => ?_) (fun h5 => ?_)
    · (repeat (first | with_reducible apply WP_region | (apply wlp; ((first | apply pv_move | apply pf_field) <;> exact rfl); (first | exact fI rfl | exact fP rfl))))
      (apply wls0; exact sstore1 hp 6 rfl rfl rfl rfl (sizeTy_ok rfl) rfl; rintro _ w ⟨rfl, hp⟩)
      have hp := hp.norm 6 (drC { d with pick := nv } a') rfl rfl
      (repeat (with_reducible first | apply wpl_nil | apply thenQ_n | apply inBlk_n))
      exact ⟨_, { d with pick := nv }, a', put_self (put_self rfl rfl) rfl, ⟨vT, vP, vQ, vB, hp, ⟨hz.name, hz.places, hz.quotas⟩⟩, lnk.of rfl rfl rfl rfl⟩
    (repeat (first | (with_reducible first | apply WP_seq | apply WP_region | apply wpl_nil | apply thenQ_n) | (apply wlp; ((first | apply pv_assign | (apply pv_eql; (first | exact rfl | exact ev_sel rfl (by assumption)))) <;> exact rfl); exact fB rfl)))
    refine WP_cond_d rfl (fun h6 => ?_) (fun h6 => ?_)
    · (repeat (first | with_reducible apply WP_region | (apply wlp; (apply pf_field <;> exact rfl); exact fP rfl)))
      (apply wls0; exact sstore1 hp 6 rfl rfl rfl rfl (sizeTy_ok rfl) rfl; rintro _ w ⟨rfl, hp⟩)
      have hp := hp.norm 6 (drC { d with roll := true } a') rfl rfl
      (repeat (with_reducible first | apply wpl_nil | apply thenQ_n | apply inBlk_n))
      exact ⟨_, { d with roll := true }, a', put_self (put_self rfl rfl) rfl, ⟨vT, vP, vQ, vB, hp, ⟨hz.name, hz.places, hz.quotas⟩⟩, lnk.of rfl rfl rfl rfl⟩
    (repeat (first | (with_reducible first | apply WP_seq | apply WP_region | apply wpl_nil | apply thenQ_n) | (apply wlp; ((first | apply pv_assign | (apply pv_eql; (first | exact rfl | exact ev_sel rfl (by assumption)))) <;> exact rfl); exact fB rfl)))
    refine WP_cond_d rfl (fun h7 => ?_) (fun h7 => ?_)
    · (repeat (first | with_reducible apply WP_region | (apply wlp; ((first | apply pv_move | apply pf_field) <;> exact rfl); (first | exact fI rfl | exact fP rfl))))
      (apply wls0; exact sstore1 hp 6 rfl rfl rfl rfl (sizeTy_ok rfl) rfl; rintro _ w ⟨rfl, hp⟩)
      have hp := hp.norm 6 (drC { d with cls := nv } a') rfl rfl
      (repeat (with_reducible first | apply wpl_nil | apply thenQ_n | apply inBlk_n))
      exact ⟨_, { d with cls := nv }, a', put_self (put_self rfl rfl) rfl, ⟨vT, vP, vQ, vB, hp, ⟨hz.name, hz.places, hz.quotas⟩⟩, lnk.of rfl rfl rfl rfl⟩
    (repeat (first | (with_reducible first | apply WP_seq | apply WP_region | apply wpl_nil | apply thenQ_n) | (apply wlp; ((first | apply pv_assign | (apply pv_eql; (first | exact rfl | exact ev_sel rfl (by assumption)))) <;> exact rfl); exact fB rfl)))
    refine WP_cond_d rfl (fun h8 => ?_) (fun h8 => ?_)
    · (repeat (first | with_reducible apply WP_region | (apply wlp; ((first | apply pv_move | apply pf_field) <;> exact rfl); (first | exact fI rfl | exact fP rfl))))
      (apply wls0; exact sstore1 hp 6 rfl rfl rfl rfl (sizeTy_ok rfl) rfl; rintro _ w ⟨rfl, hp⟩)
      have hp := hp.norm 6 (drC { d with size := nv } a') rfl rfl
      (repeat (with_reducible first | apply wpl_nil | apply thenQ_n | apply inBlk_n))
      exact ⟨_, { d with size := nv }, a', put_self (put_self rfl rfl) rfl, ⟨vT, vP, vQ, vB, hp, ⟨hz.name, hz.places, hz.quotas⟩⟩, lnk.of rfl rfl rfl rfl⟩
    (repeat (first | (with_reducible first | apply WP_seq | apply WP_region | apply wpl_nil | apply thenQ_n) | (apply wlp; ((first | apply pv_assign | (apply pv_eql; (first | exact rfl | exact ev_sel rfl (by assumption)))) <;> exact rfl); exact fB rfl)))
    refine WP_cond_d rfl (fun h9 => ?_) (fun h9 => ?_)
    · (repeat (first | with_reducible apply WP_region | (apply wlp; ((first | apply pv_move | apply pf_field | (apply pf_load; exact rfl)) <;> (first | exact rfl | exact hp.cell 6 rfl rfl)); (first | exact fI rfl | exact fP rfl | exact fS rfl))))
      (apply wls; exact sf_slice hp rfl rfl rfl rfl rfl rfl rfl; rintro _ w ⟨nb, rfl, hp⟩)
      (apply wls; exact sf_app1 eI d.barred nv hp 1 0 rfl rfl rfl rfl rfl rfl (fun _ => rfl) rfl rfl rfl vB rfl rfl (by have := hl.barred; omega); rintro _ w ⟨s', c', rfl, v', hp⟩)
      have hp := Hp.tail hp
      (repeat (apply wlp; (apply pf_field <;> exact rfl); exact fP rfl))
      (apply wls0; exact sstore1 hp 6 rfl rfl rfl rfl (sizeTy_ok rfl) rfl; rintro _ w ⟨rfl, hp⟩)
      have hp := hp.norm 6 (drC { d with barred := d.barred ++ [nv] } { a' with sB := s', cB := c' }) rfl rfl
      (repeat (with_reducible first | apply wpl_nil | apply thenQ_n | apply inBlk_n))
      exact ⟨_, { d with barred := d.barred ++ [nv] }, { a' with sB := s', cB := c' }, put_self (put_self rfl rfl) rfl, ⟨vT, vP, vQ, v', hp, ⟨hz.name, hz.places, hz.quotas⟩⟩, lnk.b rfl rfl rfl (by simp)⟩
    (repeat (first | (with_reducible first | apply WP_seq | apply WP_region | apply wpl_nil | apply thenQ_n) | (apply wlp; ((first | apply pv_assign | (apply pv_eql; (first | exact rfl | exact ev_sel rfl (by assumption)))) <;> exact rfl); exact fB rfl)))
    refine WP_cond_d rfl (fun h10 => ?_) (fun h10 => ?_)
    · (repeat (first | (with_reducible first | apply WP_seq | apply WP_block | apply WP_region | apply wpl_nil | apply thenQ_n) | (apply wlp; apply pv_assign; exact fI rfl)))
      have h6 := Int.emod_nonneg q2 (b := 3) (by decide)
      have h7 := Int.emod_lt_of_pos q2 (b := 3) (by decide)
      refine WP_loopS [8, 96, 97, 98, 99, 100, 101, 102, 103, 104, 105, 106, 107, 108, 109] (fun (x : Nat × List Int × Option Addr × Nat) F => F.put 8 (.int .i64 x.1))
        (fun x w' => (x.1 : Int) ≤ 39 + q2 % 3 ∧ x.2.1.length ≤ d.barred.length + x.1 ∧ BS w0 db qb rb q0 q1 q2 { d with barred := x.2.1 } { a' with sB := x.2.2.1, cB := x.2.2.2 } w') (fun x => (39 + q2 % 3 - x.1).toNat) (0, d.barred, a'.sB, a'.cB) (put_self (Same.eq .refl) rfl) ⟨by simp; omega, by simp, ⟨vT, vP, vQ, vB, hp, hz⟩⟩ ?_
      clear hp vB
      rintro u ⟨i, xs, sX, cX⟩ w ⟨hi1, hi2, ⟨vT, vP, vQ, vB, hp, hz⟩⟩
      have hi1 : (i : Int) ≤ 39 + q2 % 3 := hi1
      have hi2 : xs.length ≤ d.barred.length + i := hi2
      have hlb := hl.barred
      (repeat (first | (with_reducible first | apply WP_seq | apply WP_region) | (apply wlp; apply pv_move; exact fI rfl)))
      (apply wls; exact st_call rfl ent20 rfl (c20 _ _ _ (by decide) (by decide)))
      rintro _ w ⟨rfl, hk⟩
      have hp := hp.call hk
      (apply wlp; exact pv_add rfl rfl; exact int_eq (i64_in (by omega) (by omega)))
      (repeat (first | (with_reducible first | apply wpl_nil | apply thenQ_n) | (apply wlp; (apply pv_lss <;> exact rfl); exact fB rfl)))
      refine WP_cond_d rfl (fun hc => ?_) (fun hc => ?_)
      · (repeat (first | (with_reducible first | apply WP_seq | apply WP_block | apply WP_region | apply thenQ_n | apply WP_skip) | (apply wlp; ((first | apply pv_move | apply pf_field | (apply pf_load; exact rfl)) <;> (first | exact rfl | exact hp.cell 6 rfl rfl)); (first | exact fI rfl | exact fP rfl | exact fS rfl))))
        (apply wlp; exact pv_add rfl rfl; exact int_eq (i64_in (by omega) (by omega)))
        (apply wls; exact sf_slice hp rfl rfl rfl rfl rfl rfl rfl; rintro _ w ⟨nb, rfl, hp⟩)
        (apply wls; exact sf_app1 eI xs (1000 + i) hp 1 0 rfl rfl rfl rfl rfl rfl (fun _ => rfl) rfl rfl rfl vB rfl rfl (by omega); rintro _ w ⟨s', c', rfl, v', hp⟩)
        have hp := Hp.tail hp
        (repeat (apply wlp; (apply pf_field <;> exact rfl); exact fP rfl))
        (apply wls0; exact sstore1 hp 6 rfl rfl rfl rfl (sizeTy_ok rfl) rfl; rintro _ w ⟨rfl, hp⟩)
        have hp := hp.norm 6 (drC { d with barred := xs ++ [1000 + (i : Int)] } { a' with sB := s', cB := c' }) rfl rfl
        (repeat (first | (with_reducible first | apply WP_region | apply wpl_nil | apply thenQ_n | apply inBlk_n) | (apply wlp; apply pv_move; exact fI rfl)))
        (apply wlp; exact pv_add rfl rfl; exact int_eq (i64_in (by omega) (by omega)))
        (repeat (first | (with_reducible first | apply wpl_nil | apply thenQ_n) | (apply wlp; apply pv_assign; exact fI rfl)))
        exact ⟨(i + 1, xs ++ [1000 + (i : Int)], s', c'), put_self (Same.eq (by repeat (first | exact Same.hav | exact Same.refl | refine Same.put rfl ?_ | refine Same.havs rfl ?_))) rfl, ⟨by show ((i + 1 : Nat) : Int) ≤ _; omega, by show (xs ++ [1000 + (i : Int)]).length ≤ d.barred.length + (i + 1); simp; omega, ⟨vT, vP, vQ, v', hp, ⟨hz.name, hz.places, hz.quotas⟩⟩⟩, by show (39 + q2 % 3 - ((i + 1 : Nat) : Int)).toNat < (39 + q2 % 3 - (i : Int)).toNat; omega⟩
      (repeat (first | (with_reducible first | apply thenQ_n | apply inBlk_n | apply thenQ_exit | apply WP_exit) | ((with_reducible apply inBlk_same); exact rfl)))
      exact ⟨_, { d with barred := xs }, { a' with sB := sX, cB := cX }, put_self (put_self rfl rfl) rfl, ⟨vT, vP, vQ, vB, hp, hz⟩, lnk.b rfl rfl rfl (by show xs.length ≤ d.barred.length + 42; omega)⟩
    (repeat (first | (with_reducible first | apply WP_seq | apply WP_region | apply wpl_nil | apply thenQ_n) | (apply wlp; ((first | apply pv_assign | (apply pv_eql; (first | exact rfl | exact ev_sel rfl (by assumption)))) <;> exact rfl); exact fB rfl)))
    refine WP_cond_d rfl (fun h11 => ?_) (fun h11 => ?_)
    · skip
      refine WP_drawS mixed (by kernel_rfl) (fun w' => Hp w0 [] w' [blk db 13 (frOf (drC d a')) 30]) (hp.drew.pick 6 rfl) ?_
      have hp := hp.drew
      (repeat ((apply wdp; exact rfl); (intro w hp; intros; ((first | apply pv_move | apply pf_field | (apply pf_load; exact rfl)) <;> (first | exact rfl | exact hp.cell 0 rfl rfl))); (intros; (first | exact fI rfl | exact fP rfl | exact fS rfl))))
      (apply wds; exact rfl; exact st_call rfl ent20 rfl (c20 _ _ _ (by decide) (by decide)))
      rintro _ w ⟨rfl, hk⟩
      have hp := hp.call hk
      refine ⟨hp.pick 6 rfl, ?_⟩
      (repeat ((apply wdp; exact rfl); (intro w hp; intros; ((first | apply pv_move | (apply pf_build; exact rfl)) <;> exact rfl)); (intros; (first | exact fI rfl | exact fA2 rfl))))
      (apply wds; exact rfl; exact sf_slice hp rfl rfl rfl rfl rfl rfl rfl; rintro _ w ⟨nb, rfl, hp⟩; refine ⟨hp.pick 7 rfl, ?_⟩)
      (apply wds; exact rfl; exact sf_app1 eT d.tiers (q2 % 5, nv) hp 4 0 rfl rfl rfl rfl rfl rfl (fun _ => rfl) rfl rfl rfl vT rfl rfl (by have := hl.tiers; omega); rintro _ w ⟨s', c', rfl, v', hp⟩; refine ⟨hp.pick 7 rfl, ?_⟩)
      have hp := Hp.tail hp
      (repeat ((apply wdp; exact rfl); (intro w hp; intros; (apply pf_field <;> exact rfl)); (intros; exact fP rfl)))
      (apply wds0S; exact rfl; exact rfl; exact sstore1 hp 6 rfl rfl rfl rfl (sizeTy_ok rfl) rfl; rintro _ w ⟨rfl, hp⟩)
      have hp := hp.norm 6 (drC { d with tiers := d.tiers ++ [(q2 % 5, nv)] } { a' with sT := s', cT := c' }) rfl rfl
      refine wpd_nil ?_
      (repeat (with_reducible first | apply thenQ_n | apply inBlk_n))
      exact ⟨_, { d with tiers := d.tiers ++ [(q2 % 5, nv)] }, { a' with sT := s', cT := c' }, put_self (put_self rfl rfl) rfl, ⟨v', vP, vQ, vB, hp, ⟨hz.name, hz.places, hz.quotas⟩⟩, lnk.t rfl rfl rfl (by simp)⟩
    (repeat (first | (with_reducible first | apply WP_seq | apply WP_region | apply wpl_nil | apply thenQ_n) | (apply wlp; ((first | apply pv_assign | (apply pv_eql; (first | exact rfl | exact ev_sel rfl (by assumption)))) <;> exact rfl); exact fB rfl)))
    refine WP_cond_d rfl (fun h12 => ?_) (fun h12 => ?_)
    · skip
      refine WP_drawS mixed (by kernel_rfl) (fun w' => Hp w0 [] w' [blk db 13 (frOf (drC d a')) 30]) (hp.drew.pick 6 rfl) ?_
      have hp := hp.drew
      (repeat ((apply wdp; exact rfl); (intro w hp; intros; ((first | apply pv_move | apply pf_field | (apply pf_load; exact rfl)) <;> (first | exact rfl | exact hp.cell 0 rfl rfl))); (intros; (first | exact fI rfl | exact fP rfl | exact fS rfl | exact fT rfl))))
      (apply wds; exact rfl; exact st_call rfl ent20 rfl (c20 _ _ _ (by decide) (by decide)))
      rintro _ w ⟨rfl, hk⟩
      have hp := hp.call hk
      refine ⟨hp.pick 6 rfl, ?_⟩
      have h6 := Int.emod_nonneg q2 (b := 3) (by decide)
      have h7 := Int.emod_lt_of_pos q2 (b := 3) (by decide)
      (apply wdp; exact rfl; (intro w hp; exact pv_add rfl rfl); exact int_eq (i64_in (by omega) (by omega)))
      (repeat ((apply wdp; exact rfl); (intro w hp; intros; ((apply pf_build; exact rfl) <;> exact rfl)); (intros; exact fA2 rfl)))
      (apply wds; exact rfl; exact sf_slice hp rfl rfl rfl rfl rfl rfl rfl; rintro _ w ⟨nb, rfl, hp⟩; refine ⟨hp.pick 7 rfl, ?_⟩)
      (apply wds; exact rfl; exact sf_app1 eP d.places (wv, 1 + q2 % 3) hp 3 0 rfl rfl rfl rfl rfl rfl (fun _ => rfl) rfl rfl rfl vP rfl rfl (by have := hl.places; omega); rintro _ w ⟨s', c', rfl, v', hp⟩; refine ⟨hp.pick 7 rfl, ?_⟩)
      have hp := Hp.tail hp
      (repeat ((apply wdp; exact rfl); (intro w hp; intros; (apply pf_field <;> exact rfl)); (intros; exact fP rfl)))
      (apply wds0S; exact rfl; exact rfl; exact sstore1 hp 6 rfl rfl rfl rfl (sizeTy_ok rfl) rfl; rintro _ w ⟨rfl, hp⟩)
      have hp := hp.norm 6 (drC { d with places := d.places ++ [(wv, 1 + q2 % 3)] } { a' with sP := s', cP := c' }) rfl rfl
      refine wpd_nil ?_
      (repeat (with_reducible first | apply thenQ_n | apply inBlk_n))
      exact ⟨_, { d with places := d.places ++ [(wv, 1 + q2 % 3)] }, { a' with sP := s', cP := c' }, put_self (put_self rfl rfl) rfl, ⟨vT, v', vQ, vB, hp, ⟨hz.name, snoc_all hz.places (by show wv.size ≤ 9223372036854775807; omega), hz.quotas⟩⟩, lnk.p rfl rfl rfl (by simp)⟩
    (repeat (first | (with_reducible first | apply WP_seq | apply WP_region | apply wpl_nil | apply thenQ_n) | (apply wlp; ((first | apply pv_assign | (apply pv_eql; (first | exact rfl | exact ev_sel rfl (by assumption)))) <;> exact rfl); exact fB rfl)))
    refine WP_cond_d rfl (fun h13 => ?_) (fun h13 => ?_)
    · (repeat (first | with_reducible apply WP_region | (apply wlp; ((first | apply pv_move | apply pf_field | (apply pf_load; exact rfl) | (apply pf_build; exact rfl)) <;> (first | exact rfl | exact hp.cell 6 rfl rfl)); (first | exact fI rfl | exact fP rfl | exact fS rfl | exact fA2 rfl))))
      (apply wls; exact sf_slice hp rfl rfl rfl rfl rfl rfl rfl; rintro _ w ⟨nb, rfl, hp⟩)
      (apply wls; exact sf_app1 eP d.places (⟨#[122]⟩, nv) hp 3 0 rfl rfl rfl rfl rfl rfl (fun _ => rfl) rfl rfl rfl vP rfl rfl (by have := hl.places; omega); rintro _ w ⟨s', c', rfl, v', hp⟩)
      have hp := Hp.tail hp
      (repeat (apply wlp; (apply pf_field <;> exact rfl); exact fP rfl))
      (apply wls0; exact sstore1 hp 6 rfl rfl rfl rfl (sizeTy_ok rfl) rfl; rintro _ w ⟨rfl, hp⟩)
      have hp := hp.norm 6 (drC { d with places := d.places ++ [(⟨#[122]⟩, nv)] } { a' with sP := s', cP := c' }) rfl rfl
      (repeat (with_reducible first | apply wpl_nil | apply thenQ_n | apply inBlk_n))
      exact ⟨_, { d with places := d.places ++ [(⟨#[122]⟩, nv)] }, { a' with sP := s', cP := c' }, put_self (put_self rfl rfl) rfl, ⟨vT, v', vQ, vB, hp, ⟨hz.name, snoc_all hz.places (by show ByteArray.size ⟨#[122]⟩ ≤ 9223372036854775807; decide), hz.quotas⟩⟩, lnk.p rfl rfl rfl (by simp)⟩
    (repeat (first | (with_reducible first | apply WP_seq | apply WP_region | apply wpl_nil | apply thenQ_n) | (apply wlp; ((first | apply pv_assign | (apply pv_eql; (first | exact rfl | exact ev_sel rfl (by assumption)))) <;> exact rfl); exact fB rfl)))
    refine WP_cond_d rfl (fun h14 => ?_) (fun h14 => ?_)
    · skip
      refine WP_drawS mixed (by kernel_rfl) (fun w' => Hp w0 [] w' [blk db 13 (frOf (drC d a')) 30]) (hp.drew.pick 6 rfl) ?_
      have hp := hp.drew
      (repeat ((apply wdp; exact rfl); (intro w hp; intros; ((first | apply pv_move | apply pf_field | (apply pf_load; exact rfl)) <;> (first | exact rfl | exact hp.cell 0 rfl rfl))); (intros; (first | exact fI rfl | exact fP rfl | exact fS rfl | exact fT rfl))))
      (apply wds; exact rfl; exact st_call rfl ent20 rfl (c20 _ _ _ (by decide) (by decide)))
      rintro _ w ⟨rfl, hk⟩
      have hp := hp.call hk
      refine ⟨hp.pick 6 rfl, ?_⟩
      (repeat ((apply wdp; exact rfl); (intro w hp; intros; ((apply pf_build; exact rfl) <;> exact rfl)); (intros; exact fA3 rfl)))
      (apply wds; exact rfl; exact sf_slice hp rfl rfl rfl rfl rfl rfl rfl; rintro _ w ⟨nb, rfl, hp⟩; refine ⟨hp.pick 7 rfl, ?_⟩)
      (apply wds; exact rfl; exact sf_app1 eQ d.quotas (wv, 0, q2 % 3) hp 2 0 rfl rfl rfl rfl rfl rfl (fun _ => rfl) rfl rfl rfl vQ rfl rfl (by have := hl.quotas; omega); rintro _ w ⟨s', c', rfl, v', hp⟩; refine ⟨hp.pick 7 rfl, ?_⟩)
      have hp := Hp.tail hp
      (repeat ((apply wdp; exact rfl); (intro w hp; intros; (apply pf_field <;> exact rfl)); (intros; exact fP rfl)))
      (apply wds0S; exact rfl; exact rfl; exact sstore1 hp 6 rfl rfl rfl rfl (sizeTy_ok rfl) rfl; rintro _ w ⟨rfl, hp⟩)
      have hp := hp.norm 6 (drC { d with quotas := d.quotas ++ [(wv, 0, q2 % 3)] } { a' with sQ := s', cQ := c' }) rfl rfl
      refine wpd_nil ?_
      (repeat (with_reducible first | apply thenQ_n | apply inBlk_n))
      exact ⟨_, { d with quotas := d.quotas ++ [(wv, 0, q2 % 3)] }, { a' with sQ := s', cQ := c' }, put_self (put_self rfl rfl) rfl, ⟨vT, vP, v', vB, hp, ⟨hz.name, hz.places, snoc_all hz.quotas (by show wv.size ≤ 9223372036854775807; omega)⟩⟩, lnk.q rfl rfl rfl (by simp)⟩
    (repeat (first | (with_reducible first | apply WP_seq | apply WP_region | apply wpl_nil | apply thenQ_n) | (apply wlp; ((first | apply pv_assign | (apply pv_eql; (first | exact rfl | exact ev_sel rfl (by assumption)))) <;> exact rfl); exact fB rfl)))
    refine WP_cond_d rfl (fun h15 => ?_) (fun h15 => ?_)
    · skip
      refine WP_drawS mixed (by kernel_rfl) (fun w' => Hp w0 [] w' [blk db 13 (frOf (drC d a')) 30]) (hp.drew.pick 6 rfl) ?_
      have hp := hp.drew
      (repeat ((apply wdp; exact rfl); (intro w hp; intros; ((first | apply pv_move | apply pf_field | (apply pf_load; exact rfl)) <;> (first | exact rfl | exact hp.cell 0 rfl rfl))); (intros; (first | exact fI rfl | exact fP rfl | exact fS rfl))))
      (apply wds; exact rfl; exact st_call rfl ent20 rfl (c20 _ _ _ (by decide) (by decide)))
      rintro _ w ⟨rfl, hk⟩
      have hp := hp.call hk
      refine ⟨hp.pick 6 rfl, ?_⟩
      (repeat ((apply wdp; exact rfl); (intro w hp; intros; ((first | apply pv_move | (apply pf_build; exact rfl)) <;> exact rfl)); (intros; (first | exact fI rfl | exact fA3 rfl))))
      (apply wds; exact rfl; exact sf_slice hp rfl rfl rfl rfl rfl rfl rfl; rintro _ w ⟨nb, rfl, hp⟩; refine ⟨hp.pick 7 rfl, ?_⟩)
      (apply wds; exact rfl; exact sf_app1 eQ d.quotas (⟨#[122]⟩, q2 % 3, nv) hp 2 0 rfl rfl rfl rfl rfl rfl (fun _ => rfl) rfl rfl rfl vQ rfl rfl (by have := hl.quotas; omega); rintro _ w ⟨s', c', rfl, v', hp⟩; refine ⟨hp.pick 7 rfl, ?_⟩)
      have hp := Hp.tail hp
      (repeat ((apply wdp; exact rfl); (intro w hp; intros; (apply pf_field <;> exact rfl)); (intros; exact fP rfl)))
      (apply wds0S; exact rfl; exact rfl; exact sstore1 hp 6 rfl rfl rfl rfl (sizeTy_ok rfl) rfl; rintro _ w ⟨rfl, hp⟩)
      have hp := hp.norm 6 (drC { d with quotas := d.quotas ++ [(⟨#[122]⟩, q2 % 3, nv)] } { a' with sQ := s', cQ := c' }) rfl rfl
      refine wpd_nil ?_
      (repeat (with_reducible first | apply thenQ_n | apply inBlk_n))
      exact ⟨_, { d with quotas := d.quotas ++ [(⟨#[122]⟩, q2 % 3, nv)] }, { a' with sQ := s', cQ := c' }, put_self (put_self rfl rfl) rfl, ⟨vT, vP, v', vB, hp, ⟨hz.name, hz.places, snoc_all hz.quotas (by show ByteArray.size ⟨#[122]⟩ ≤ 9223372036854775807; decide)⟩⟩, lnk.q rfl rfl rfl (by simp)⟩
    (repeat (first | (with_reducible first | apply WP_seq | apply WP_region | apply wpl_nil | apply thenQ_n) | (apply wlp; ((first | apply pv_assign | (apply pv_eql; (first | exact rfl | exact ev_sel rfl (by assumption)))) <;> exact rfl); exact fB rfl)))
    refine WP_cond_d rfl (fun h16 => ?_) (fun h16 => ?_)
    · (repeat (first | (with_reducible first | apply WP_seq | apply WP_block | apply WP_region | apply wpl_nil | apply thenQ_n) | (apply wlp; apply pv_assign; exact fI rfl)))
      have h6 := Int.emod_nonneg q2 (b := 4) (by decide)
      have h7 := Int.emod_lt_of_pos q2 (b := 4) (by decide)
      refine WP_loopS [9, 10, 166, 167, 168, 169, 170, 171, 172, 173, 174, 175, 176, 177, 178, 179, 180, 181, 182, 183, 184, 185, 186, 187, 188, 189, 190, 191, 192, 193, 194, 195, 196, 197, 198, 199, 200, 201, 202, 203, 204, 205, 206] (fun (x : Nat × Dr × DrA) F => F.put 9 (.int .i64 x.1))
        (fun x w' => (x.1 : Int) ≤ 10 + q2 % 4 ∧ DrLn x.2.1 (k + x.1) ∧ BS w0 db qb rb q0 q1 q2 x.2.1 x.2.2 w') (fun x => (10 + q2 % 4 - x.1).toNat) (0, d, a') (put_self (Same.eq .refl) rfl) ⟨by simp; omega, hl, ⟨vT, vP, vQ, vB, hp, hz⟩⟩ ?_
      clear hp vB vT vP vQ
      rintro u ⟨i, e, b⟩ w ⟨hi1, hle, ⟨vT, vP, vQ, vB, hp, hz⟩⟩
      have hi1 : (i : Int) ≤ 10 + q2 % 4 := hi1
      have hle : DrLn e (k + i) := hle
      have vT : SVL b.sT b.cT e.tiers := vT
      have vP : SVL b.sP b.cP e.places := vP
      have vQ : SVL b.sQ b.cQ e.quotas := vQ
      have vB : SVL b.sB b.cB e.barred := vB
      (repeat (first | (with_reducible first | apply WP_seq | apply WP_region) | (apply wlp; apply pv_move; exact fI rfl)))
      (apply wls; exact st_call rfl ent20 rfl (c20 _ _ _ (by decide) (by decide)))
      rintro _ w ⟨rfl, hk⟩
      have hp := hp.call hk
      (apply wlp; exact pv_add rfl rfl; exact int_eq (i64_in (by omega) (by omega)))
      (repeat (first | (with_reducible first | apply wpl_nil | apply thenQ_n) | (apply wlp; (apply pv_lss <;> exact rfl); exact fB rfl)))
      refine WP_cond_d rfl (fun hc => ?_) (fun hc => ?_)
      · (repeat (first | (with_reducible first | apply WP_seq | apply WP_block | apply WP_region | apply thenQ_n | apply WP_skip) | (apply wlp; apply pv_move; exact fI rfl)))
        (apply wlp; exact pv_add rfl rfl; exact int_eq (i64_in (by omega) (by omega)))
        (repeat (apply wlp; (apply pf_conv <;> exact rfl); exact fI rfl))
        (apply wls; exact sf_slice hp rfl rfl rfl rfl rfl rfl rfl; rintro _ w ⟨nb, rfl, hp⟩)
        (apply wlp; exact pf_bts (ns := [IntKind.u8.wrap (97 + i)]) rfl rfl rfl rfl rfl (fun j v hv => by
          obtain ⟨b', o', e1, e2⟩ := blk_src (cs := [.int .u8 (IntKind.u8.wrap (97 + i))]) hp 0 rfl j v hv
          cases e1
          exact e2); exact fT rfl)
        have hp := Hp.tail hp
        (apply wlp; exact pv_sadd rfl rfl (by rw [bytesOf_size]; show 1 + 1 ≤ 9223372036854775807; decide); exact fT rfl)
        (repeat (first | (with_reducible first | apply WP_seq | apply WP_block | apply WP_region | apply wpl_nil | apply thenQ_n) | (apply wlp; ((first | apply pv_assign | apply pf_field | (apply pf_load; exact rfl) | (apply pv_eql; (first | exact rfl | exact ev_sel rfl (by assumption)))) <;> (first | exact rfl | exact hp.cell 6 rfl rfl)); (first | exact fI rfl | exact fB rfl | exact fP rfl | exact fT rfl))))
        refine WP_cond_d rfl (fun hc1 => ?_) (fun hc1 => ?_)
        · (repeat (first | with_reducible apply WP_region | (apply wlp; ((first | apply pf_field | (apply pf_load; exact rfl) | (apply pf_build; exact rfl)) <;> (first | exact rfl | exact hp.cell 6 rfl rfl)); (first | exact fP rfl | exact fS rfl | exact fA2 rfl))))
          (apply wls; exact sf_slice hp rfl rfl rfl rfl rfl rfl rfl; rintro _ w ⟨nb, rfl, hp⟩)
          (apply wls; exact sf_app1 eT e.tiers (0, 1) hp 4 0 rfl rfl rfl rfl rfl rfl (fun _ => rfl) rfl rfl rfl vT rfl rfl (by have := hle.tiers; omega); rintro _ w ⟨s', c', rfl, v', hp⟩)
          have hp := Hp.tail hp
          (repeat (apply wlp; (apply pf_field <;> exact rfl); exact fP rfl))
          (apply wls0; exact sstore1 hp 6 rfl rfl rfl rfl (sizeTy_ok rfl) rfl; rintro _ w ⟨rfl, hp⟩)
          have hp := hp.norm 6 (drC { e with tiers := e.tiers ++ [(0, 1)] } { b with sT := s', cT := c' }) rfl rfl
          (repeat (first | (with_reducible first | apply WP_region | apply wpl_nil | apply thenQ_n | apply inBlk_n) | (apply wlp; apply pv_move; exact fI rfl)))
          (apply wlp; exact pv_add rfl rfl; exact int_eq (i64_in (by omega) (by omega)))
          (repeat (first | (with_reducible first | apply wpl_nil | apply thenQ_n) | (apply wlp; apply pv_assign; exact fI rfl)))
          exact ⟨(i + 1, { e with tiers := e.tiers ++ [(0, 1)] }, { b with sT := s', cT := c' }), put_self (Same.eq (by repeat (first | exact Same.hav | exact Same.refl | refine Same.put rfl ?_ | refine Same.havs rfl ?_))) rfl, ⟨by show ((i + 1 : Nat) : Int) ≤ _; omega, ⟨by have := hle.tiers; show (e.tiers ++ [(0, 1)]).length ≤ k + (i + 1); simp; omega, by have := hle.places; show e.places.length ≤ k + (i + 1); omega, by have := hle.quotas; show e.quotas.length ≤ k + (i + 1); omega, by have := hle.barred; show e.barred.length ≤ k + (i + 1); omega⟩, ⟨v', vP, vQ, vB, hp, ⟨hz.name, hz.places, hz.quotas⟩⟩⟩, by show (10 + q2 % 4 - ((i + 1 : Nat) : Int)).toNat < (10 + q2 % 4 - (i : Int)).toNat; omega⟩
        (repeat (first | (with_reducible first | apply WP_seq | apply WP_region | apply wpl_nil | apply thenQ_n) | (apply wlp; ((first | apply pv_assign | (apply pv_eql; (first | exact rfl | exact ev_sel rfl (by assumption)))) <;> exact rfl); exact fB rfl)))
        refine WP_cond_d rfl (fun hc2 => ?_) (fun hc2 => ?_)
        · (repeat (first | with_reducible apply WP_region | (apply wlp; ((first | apply pv_move | apply pf_field | (apply pf_load; exact rfl) | (apply pf_build; exact rfl)) <;> (first | exact rfl | exact hp.cell 6 rfl rfl)); (first | exact fP rfl | exact fS rfl | exact fT rfl | exact fA2 rfl))))
          (apply wls; exact sf_slice hp rfl rfl rfl rfl rfl rfl rfl; rintro _ w ⟨nb, rfl, hp⟩)
          (apply wls; exact sf_app1 eP e.places (qn i, 1) hp 3 0 rfl rfl rfl rfl rfl rfl (fun _ => rfl) rfl rfl rfl vP rfl rfl (by have := hle.places; omega); rintro _ w ⟨s', c', rfl, v', hp⟩)
          have hp := Hp.tail hp
          (repeat (apply wlp; (apply pf_field <;> exact rfl); exact fP rfl))
          (apply wls0; exact sstore1 hp 6 rfl rfl rfl rfl (sizeTy_ok rfl) rfl; rintro _ w ⟨rfl, hp⟩)
          have hp := hp.norm 6 (drC { e with places := e.places ++ [(qn i, 1)] } { b with sP := s', cP := c' }) rfl rfl
          (repeat (first | (with_reducible first | apply WP_region | apply wpl_nil | apply thenQ_n | apply inBlk_n) | (apply wlp; apply pv_move; exact fI rfl)))
          (apply wlp; exact pv_add rfl rfl; exact int_eq (i64_in (by omega) (by omega)))
          (repeat (first | (with_reducible first | apply wpl_nil | apply thenQ_n) | (apply wlp; apply pv_assign; exact fI rfl)))
          exact ⟨(i + 1, { e with places := e.places ++ [(qn i, 1)] }, { b with sP := s', cP := c' }), put_self (Same.eq (by repeat (first | exact Same.hav | exact Same.refl | refine Same.put rfl ?_ | refine Same.havs rfl ?_))) rfl, ⟨by show ((i + 1 : Nat) : Int) ≤ _; omega, ⟨by have := hle.tiers; show e.tiers.length ≤ k + (i + 1); omega, by have := hle.places; show (e.places ++ [(qn i, 1)]).length ≤ k + (i + 1); simp; omega, by have := hle.quotas; show e.quotas.length ≤ k + (i + 1); omega, by have := hle.barred; show e.barred.length ≤ k + (i + 1); omega⟩, ⟨vT, v', vQ, vB, hp, ⟨hz.name, snoc_all hz.places (qn_size i), hz.quotas⟩⟩⟩, by show (10 + q2 % 4 - ((i + 1 : Nat) : Int)).toNat < (10 + q2 % 4 - (i : Int)).toNat; omega⟩
        (repeat (first | (with_reducible first | apply WP_seq | apply WP_region | apply wpl_nil | apply thenQ_n) | (apply wlp; ((first | apply pv_assign | (apply pv_eql; (first | exact rfl | exact ev_sel rfl (by assumption)))) <;> exact rfl); exact fB rfl)))
        refine WP_cond_d rfl (fun hc3 => ?_) (fun hc3 => ?_)
        · (repeat (first | with_reducible apply WP_region | (apply wlp; ((first | apply pv_move | apply pf_field | (apply pf_load; exact rfl) | (apply pf_build; exact rfl)) <;> (first | exact rfl | exact hp.cell 6 rfl rfl)); (first | exact fP rfl | exact fS rfl | exact fT rfl | exact fA3 rfl))))
          (apply wls; exact sf_slice hp rfl rfl rfl rfl rfl rfl rfl; rintro _ w ⟨nb, rfl, hp⟩)
          (apply wls; exact sf_app1 eQ e.quotas (qn i, 0, 0) hp 2 0 rfl rfl rfl rfl rfl rfl (fun _ => rfl) rfl rfl rfl vQ rfl rfl (by have := hle.quotas; omega); rintro _ w ⟨s', c', rfl, v', hp⟩)
          have hp := Hp.tail hp
          (repeat (apply wlp; (apply pf_field <;> exact rfl); exact fP rfl))
          (apply wls0; exact sstore1 hp 6 rfl rfl rfl rfl (sizeTy_ok rfl) rfl; rintro _ w ⟨rfl, hp⟩)
          have hp := hp.norm 6 (drC { e with quotas := e.quotas ++ [(qn i, 0, 0)] } { b with sQ := s', cQ := c' }) rfl rfl
          (repeat (first | (with_reducible first | apply WP_region | apply wpl_nil | apply thenQ_n | apply inBlk_n) | (apply wlp; apply pv_move; exact fI rfl)))
          (apply wlp; exact pv_add rfl rfl; exact int_eq (i64_in (by omega) (by omega)))
          (repeat (first | (with_reducible first | apply wpl_nil | apply thenQ_n) | (apply wlp; apply pv_assign; exact fI rfl)))
          exact ⟨(i + 1, { e with quotas := e.quotas ++ [(qn i, 0, 0)] }, { b with sQ := s', cQ := c' }), put_self (Same.eq (by repeat (first | exact Same.hav | exact Same.refl | refine Same.put rfl ?_ | refine Same.havs rfl ?_))) rfl, ⟨by show ((i + 1 : Nat) : Int) ≤ _; omega, ⟨by have := hle.tiers; show e.tiers.length ≤ k + (i + 1); omega, by have := hle.places; show e.places.length ≤ k + (i + 1); omega, by have := hle.quotas; show (e.quotas ++ [(qn i, 0, 0)]).length ≤ k + (i + 1); simp; omega, by have := hle.barred; show e.barred.length ≤ k + (i + 1); omega⟩, ⟨vT, vP, v', vB, hp, ⟨hz.name, hz.places, snoc_all hz.quotas (qn_size i)⟩⟩⟩, by show (10 + q2 % 4 - ((i + 1 : Nat) : Int)).toNat < (10 + q2 % 4 - (i : Int)).toNat; omega⟩
        (repeat (first | (with_reducible first | apply WP_region | apply thenQ_n | apply inBlk_n | apply WP_skip) | (apply wlp; apply pv_move; exact fI rfl)))
        (apply wlp; exact pv_add rfl rfl; exact int_eq (i64_in (by omega) (by omega)))
        (repeat (first | (with_reducible first | apply wpl_nil | apply thenQ_n) | (apply wlp; apply pv_assign; exact fI rfl)))
        exact ⟨(i + 1, e, b), put_self (Same.eq (by repeat (first | exact Same.hav | exact Same.refl | refine Same.put rfl ?_ | refine Same.havs rfl ?_))) rfl, ⟨by show ((i + 1 : Nat) : Int) ≤ _; omega, ⟨by have := hle.tiers; show e.tiers.length ≤ k + (i + 1); omega, by have := hle.places; show e.places.length ≤ k + (i + 1); omega, by have := hle.quotas; show e.quotas.length ≤ k + (i + 1); omega, by have := hle.barred; show e.barred.length ≤ k + (i + 1); omega⟩, ⟨vT, vP, vQ, vB, hp, hz⟩⟩, by show (10 + q2 % 4 - ((i + 1 : Nat) : Int)).toNat < (10 + q2 % 4 - (i : Int)).toNat; omega⟩
      (repeat (first | (with_reducible first | apply thenQ_n | apply inBlk_n | apply thenQ_exit | apply WP_exit) | ((with_reducible apply inBlk_same); exact rfl)))
      exact ⟨_, e, b, put_self (put_self rfl rfl) rfl, ⟨vT, vP, vQ, vB, hp, hz⟩, ⟨by have := hle.tiers; omega, by have := hle.places; omega, by have := hle.quotas; omega, by have := hle.barred; omega⟩⟩
    (repeat (with_reducible first | apply thenQ_n | apply inBlk_n | apply WP_skip))
    exact ⟨_, d, a', put_self (put_self rfl rfl) rfl, ⟨vT, vP, vQ, vB, hp, hz⟩, lnk.of rfl rfl rfl rfl⟩
  · clear hp
    rintro F w ⟨F', d', a', rfl, ⟨vT, vP, vQ, vB, hp, hz⟩, hl'⟩
    (repeat (first | (with_reducible first | apply WP_seq | apply WP_region) | (apply wlp; ((apply pf_loadb; exact rfl) <;> (first | exact rfl | exact hp.agg_blk 6 rfl rfl)); exact fA13 rfl)))
    (apply wls0; exact sstore13 hp 4 rfl rfl rfl rfl (sizeTy_ok rfl) rfl; rintro _ w ⟨rfl, hp⟩)
    have hp := hp.norm 4 (drC d' a') rfl rfl
    (repeat (with_reducible first | apply wpl_nil | apply thenQ_n | apply WP_ret))
    refine ret_cell rfl rfl rfl rfl (hp.agg_blk 4 rfl rfl) ⟨_, rfl, d', a', rfl, hp.takeN 4, ⟨vT, vP, vQ, vB⟩, hz, hl'⟩
end Go.Proofs.Ytgephdcapajaiaa
