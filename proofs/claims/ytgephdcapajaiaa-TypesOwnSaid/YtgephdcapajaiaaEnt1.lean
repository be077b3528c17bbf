/- Layer 14: Entrants returns the entrants that the numbers determine, in memory of their own; conditions: rules and numbers lie in memory, the rules are permitted. -/
import Derived.Test.YtgephdcapajaiaaZ
namespace Go.Eng
/-- the slots that are read later on -/
def Fr.puts (F : Fr) : List (Nat × Value) → Fr
  | [] => F
  | p :: S => (Fr.puts F S).put p.1 p.2
def FrHas (F : Fr) : List (Nat × Value) → Prop
  | [] => True
  | p :: S => F p.1 = p.2 ∧ FrHas F S
theorem puts_self {F : Fr} : ∀ {S : List (Nat × Value)}, FrHas F S → F = F.puts S
  | [], _ => rfl
  | _ :: _, h => put_self (puts_self h.2) h.1
theorem WP_fresh {P : Program} {n : Nat} {c : Code} {Q : Exit → Fr → World → Prop} {F : Fr} {w : World} (S : List (Nat × Value)) (hS : FrHas F S) (h : ∀ F0 : Fr, WP P n c Q (F0.puts S) w) : WP P n c Q F w := by
  rw [puts_self hS]
  exact h F
end Go.Eng
namespace Go.Proofs.Ytgephdcapajaiaa
open Go.Eng
theorem J_eq {α : Type} {f : Nat → α} {l : List α} (h : ∀ q y, l[q]? = some y → y = f q) : l = (List.range l.length).map f := by
  apply List.ext_getElem
  · simp
  · intro i h1 h2
    simp
    exact h i _ (List.getElem?_eq_getElem h1)
theorem panQ_succ (l : List Int) (j k : Nat) : panQ l j (k + 1) = panQ l j k ++ (if bitQ (nx l j 8) k = true then [wordB k] else []) := by
  unfold panQ
  rw [List.range_succ, List.filter_append, List.map_append]
  congr 1
  by_cases h : bitQ (nx l j 8) k = true <;> simp [h]
theorem chk_lot' {d : Dr} (h : chk d = (⟨#[]⟩, 0)) (hk : d.kind = 1) : 1 ≤ d.pool ∧ d.pool ≤ 60 ∧ 1 ≤ d.pick ∧ d.pick ≤ 10 ∧ d.pick ≤ d.pool := by
  obtain ⟨⟨p1, p2⟩, p3, p4, p5⟩ := chk_pick (d := d) (by rw [h]) hk
  exact ⟨p1, p2, p3, p4, p5⟩
attribute [local irreducible] PV StepF wpl wpd WP Ret
attribute [local irreducible] chk nx wordB strm bitQ

set_option maxHeartbeats 4000000 in
theorem c16 (d : Dr) (a : DrA) (l : List Int) (s : Option Addr) (c : Nat) (w0 : World) (hd : DrAt w0 d a) (hok : chk d = (⟨#[]⟩, 0)) (hs : SlAt w0 1 eI s l) (hl : l.length ≤ maxLen) :
    Ret Try.prog 16 [drV d a, .slice s l.length c] w0 (fun v w' => ∃ (xs : List (En × EnA)) (so : Option Addr) (co : Nat), v = .slice so xs.length co ∧ SVL so co xs ∧ xs.map (·.1) = entsOf d l ∧ (∀ x ∈ xs, EnVl x) ∧
      Hp w0 [] w' (ownL eEn 46 6 so co xs :: xs.flatMap enOwn)) := by
  refine Ret.of_WP Try.func16 rfl Try.ntmps16 rfl ?_
  have hp := Hp.start (M := []) (w := w0)
  ((repeat (with_reducible first | apply WP_seq | apply WP_region)); apply wls; exact sbox13 hp rfl; rintro _ w ⟨db, rfl, hp⟩)
  have hp := hp.norm 0 (drC d a) rfl rfl
  (repeat (first | (with_reducible first | apply WP_seq | apply WP_region | apply wpl_nil | apply thenQ_n) | (apply wlp; ((first | apply pv_move | apply pv_assign | (apply pf_build; exact rfl)) <;> exact rfl); (first | exact fS rfl | exact fA2 rfl))))
  (apply wls; exact sbox2 hp rfl; rintro _ w ⟨mb, rfl, hp⟩)
  have hp := hp.norm 0 (strm s c l 0) rfl (by rw [strm0]; rfl)
  have hmb : w0.heap.size ≤ mb := by simpa using hp.own 0 _ rfl mb rfl
  have hsb : l ≠ [] → ∀ b o, s = some ⟨b, o, none⟩ → b ≠ mb := fun h b o e => by
    have := hs.lt (fun _ => rfl) (by decide) h e
    omega
  (repeat (first | (with_reducible first | apply WP_seq | apply WP_region | apply wpl_nil | apply thenQ_n) | (apply wlp; (first | apply pv_move | apply pv_assign); exact fP rfl)))
  (apply wls; exact st_call rfl ent28 rfl (c28 l s c (0) mb _ _ (hs.keep0 hp.keeps) hsb hl (by decide) (by decide) (hp.has 0 _ rfl mb rfl)); rintro _ w ⟨rfl, hk, ho⟩; have hp := hp.callAt 0 rfl hk ho)
  have m0 := nx_nonneg l 0 (n := 7) (by decide)
  have m1 := nx_lt l 0 (n := 7) (by decide)
  (repeat (first | (with_reducible first | apply WP_seq | apply WP_block | apply WP_region | apply wpl_nil | apply thenQ_n) | (apply wlp; apply pv_assign; (first | exact fI rfl | exact fS rfl))))
  have hp := hp.nilL eEn 46 6
  have hkd := chk_kind (d := d) (by rw [hok])
  refine WP_fresh [(2, .pointer (some ⟨db, 0, none⟩)), (5, .pointer (some ⟨mb, 0, none⟩)), (6, .int .i64 (nx l 0 7)), (7, .slice none 0 0), (8, .int .i64 0)] ⟨rfl, rfl, rfl, rfl, rfl, trivial⟩ ?_
  intro F0
  refine WP_loop3 [7, 8, 9, 10, 11, 12, 13, 14, 15, 16, 22, 23, 24, 25, 26, 27, 28, 29, 30, 31, 32, 33, 34, 35, 36, 37, 38, 39, 40, 41, 42, 43, 44, 45, 46, 47, 48, 49, 50, 51, 52, 53, 54, 55, 56, 57, 58, 59, 60, 61, 62, 63, 64, 65, 66, 67, 68, 69, 70, 71, 72, 73, 74, 75, 76, 77, 78, 79, 80, 81, 82, 83, 84, 85, 86, 87, 88, 89, 90, 91, 92, 93, 94, 95, 96, 97, 98, 99, 100, 101, 102, 103, 104, 105, 106, 107, 108, 109, 110, 111, 112, 113, 114, 115, 116, 117, 118, 119, 120, 121, 122, 123, 124, 125, 126, 127, 128, 129, 130, 131, 132, 133, 134, 135, 136, 137, 138, 139, 140, 141, 142, 143, 144, 145, 146, 147] (fun (xs : List (En × EnA)) (so : Option Addr) (co : Nat) F => (F.put 8 (.int .i64 xs.length)).put 7 (.slice so xs.length co))
    (fun xs so co w' => (xs.length : Int) ≤ nx l 0 7 ∧ SVL so co xs ∧ (∀ q x, (xs.map (·.1))[q]? = some x → x = entE d l (1 + q * entN d) q) ∧ (∀ x ∈ xs, EnVl x) ∧
      Hp w0 [] w' ([ownL eEn 46 6 so co xs, blk mb 2 (frOf (strm s c l (1 + xs.length * entN d))) 72, blk db 13 (frOf (drC d a)) 30] ++ xs.flatMap enOwn))
    (fun xs _ _ => (nx l 0 7 - xs.length).toNat) [] none 0 (put_self (put_self (Same.eq .refl) rfl) rfl) ⟨by simp; omega, .nil, J_nil, by simp, by simpa using hp⟩ ?_
  clear hp hk ho
  rintro u xs so co w ⟨hle, hvo, hJ, hE, hp⟩
  (repeat (first | (with_reducible first | apply WP_seq | apply WP_region | apply wpl_nil | apply thenQ_n) | (apply wlp; ((first | apply pv_move | apply pv_lss) <;> exact rfl); (first | exact fI rfl | exact fB rfl))))
  refine WP_cond_d rfl (fun h => ?_) (fun h => ?_)
  · have hx7 : xs.length < 7 := by omega
    (repeat (first | (with_reducible first | apply WP_seq | apply WP_block | apply WP_region | apply thenQ_n | apply WP_skip) | (apply wlp; apply pv_move; exact fI rfl)))
    (apply wlp; exact pv_add rfl rfl; exact int_eq (i64_in (by omega) (by omega)))
    (repeat (apply wlp; ((apply pf_build; exact rfl) <;> exact rfl); exact fA6 rfl))
    (apply wls; exact salloc6 hp (zeroTy_ok rfl); rintro _ w ⟨eb, rfl, hp⟩)
    (apply wls0; exact sstore6 hp 0 rfl rfl rfl rfl (sizeTy_ok rfl) rfl; rintro _ w ⟨rfl, hp⟩)
    have hp := hp.norm 0 (enC ⟨101 + xs.length, 0, 0, [], [], []⟩ ⟨none, 0, none, 0, none, 0⟩) rfl rfl
    have hp := ((hp.nilL eS 9 1).nilL eS 9 1).nilL eI 3 1
    refine wpl_nil ?_
    refine thenQ_n ?_
    refine WP_seq ?_
    refine WP_mid (fun F w => ∃ (e : En) (ae : EnA), Same [7, 8, 9, 10, 11, 12, 13, 14, 15, 16, 22, 23, 24, 25, 26, 27, 28, 29, 30, 31, 32, 33, 34, 35, 36, 37, 38, 39, 40, 41, 42, 43, 44, 45, 46, 47, 48, 49, 50, 51, 52, 53, 54, 55, 56, 57, 58, 59, 60, 61, 62, 63, 64, 65, 66, 67, 68, 69, 70, 71, 72, 73, 74, 75, 76, 77, 78, 79, 80, 81, 82, 83, 84, 85, 86, 87, 88, 89, 90, 91, 92, 93, 94, 95, 96, 97, 98, 99, 100, 101, 102, 103, 104, 105, 106, 107, 108, 109, 110, 111, 112, 113, 114, 115, 116, 117, 118, 119, 120, 121, 122, 123, 124, 125, 126, 127, 128, 129, 130, 131, 132, 133, 134, 135, 136, 137, 138, 139, 140, 141, 142, 143, 144, 145, 146, 147] F (F0.puts [(2, .pointer (some ⟨db, 0, none⟩)), (5, .pointer (some ⟨mb, 0, none⟩)), (6, .int .i64 (nx l 0 7)), (7, .slice none 0 0), (8, .int .i64 0)]) ∧ FrHas F [(9, .pointer (some ⟨eb, 0, none⟩)), (7, .slice so xs.length co), (8, .int .i64 xs.length)] ∧
      e = entE d l (1 + xs.length * entN d) xs.length ∧ EnVl (e, ae) ∧ Hp w0 [] w ([ownL eI 3 1 ae.sP ae.cP e.picks, ownL eS 9 1 ae.sW ae.cW e.wishes, ownL eS 9 1 ae.sG ae.cG e.groups, blk eb 6 (frOf (enC e ae)) 46, ownL eEn 46 6 so co xs, blk mb 2 (frOf (strm s c l (1 + (xs.length + 1) * entN d))) 72, blk db 13 (frOf (drC d a)) 30] ++ xs.flatMap enOwn)) ?_ ?_
    · (repeat (first | (with_reducible first | apply WP_seq | apply WP_block | apply WP_region | apply wpl_nil | apply thenQ_n) | (apply wlp; ((first | apply pv_assign | apply pf_field | (apply pf_load; exact rfl) | (apply pv_eql; (first | exact rfl | exact ev_sel rfl (by assumption)))) <;> (first | exact rfl | exact hp.cell 6 rfl rfl)); (first | exact fI rfl | exact fB rfl | exact fP rfl))))
      refine WP_cond_d rfl (fun hk1 => ?_) (fun hk1 => ?_)
      · have hk1 : d.kind = 1 := hk1
        have hN : entN d = 2 := by unfold entN; rw [if_pos hk1]
        obtain ⟨p1, p2, p3, p4, p5⟩ := chk_lot' hok hk1
        (repeat (first | (with_reducible first | apply WP_seq | apply WP_region) | (apply wlp; ((first | apply pv_move | apply pf_field | (apply pf_load; exact rfl)) <;> (first | exact rfl | exact hp.cell 6 rfl rfl)); (first | exact fI rfl | exact fP rfl))))
        (apply wlp; exact pv_sub rfl rfl; exact int_eq (i64_in (by omega) (by omega)))
        (apply wlp; exact pv_add rfl rfl; exact int_eq (i64_in (by omega) (by omega)))
        (apply wls; exact st_call rfl ent28 rfl (c28 l s c ((1 + xs.length * entN d)) mb _ _ (hs.keep0 hp.keeps) hsb hl (by omega) (by omega) (hp.has 5 _ rfl mb rfl)); rintro _ w ⟨rfl, hk, ho⟩; have hp := hp.callAt 5 rfl hk ho)
        have f0 := nx_nonneg l (1 + xs.length * entN d) (n := d.pool - d.pick + 1) (by omega)
        have f1 := nx_lt l (1 + xs.length * entN d) (n := d.pool - d.pick + 1) (by omega)
        have hlf : lotFrom d l (1 + xs.length * entN d) = 1 + nx l (1 + xs.length * entN d) (d.pool - d.pick + 1) := rfl
        (apply wlp; exact pv_add rfl rfl; exact int_eq (b := lotFrom d l (1 + xs.length * entN d)) (i64_in (by omega) (by omega)))
        (repeat (first | (with_reducible first | apply WP_seq | apply WP_block | apply WP_region | apply wpl_nil | apply thenQ_n) | (apply wlp; apply pv_assign; exact fI rfl)))
        refine WP_loop3 [11, 43, 44, 45, 46, 47, 48, 49, 50, 51, 52, 53, 54, 55, 56] (fun (ps : List Int) (sP : Option Addr) (cP : Nat) F => F.put 11 (.int .i64 ps.length))
          (fun ps sP cP w' => (ps.length : Int) ≤ d.pick ∧ SVL sP cP ps ∧ (∀ (q : Nat) (x : Int), ps[q]? = some x → x = lotFrom d l (1 + xs.length * entN d) + (q : Int)) ∧ Hp w0 [] w' ([ownL eI 3 1 sP cP ps, ownL eS 9 1 none 0 [], ownL eS 9 1 none 0 [], blk eb 6 (frOf (enC ⟨101 + xs.length, 0, 0, ps, [], []⟩ ⟨sP, cP, none, 0, none, 0⟩)) 46, ownL eEn 46 6 so co xs, blk mb 2 (frOf (strm s c l ((1 + xs.length * entN d) + 1))) 72, blk db 13 (frOf (drC d a)) 30] ++ xs.flatMap enOwn))
          (fun ps _ _ => (d.pick - ps.length).toNat) [] none 0 (put_self (Same.eq .refl) rfl) ⟨by simp; omega, .nil, J_nil, hp⟩ ?_
        clear hp hk ho
        rintro u2 ps sP cP w ⟨hle2, hvP, hJP, hp⟩
        (repeat (first | (with_reducible first | apply WP_seq | apply WP_region | apply wpl_nil | apply thenQ_n) | (apply wlp; ((first | apply pv_move | apply pf_field | (apply pf_load; exact rfl) | apply pv_lss) <;> (first | exact rfl | exact hp.cell 6 rfl rfl)); (first | exact fI rfl | exact fB rfl | exact fP rfl))))
        refine WP_cond_d rfl (fun h5 => ?_) (fun h5 => ?_)
        · (repeat (first | (with_reducible first | apply WP_seq | apply WP_block | apply WP_region | apply thenQ_n | apply WP_skip) | (apply wlp; ((first | apply pv_move | apply pf_field | (apply pf_load; exact rfl)) <;> (first | exact rfl | exact hp.cell 3 rfl rfl)); (first | exact fI rfl | exact fP rfl | exact fS rfl))))
          (apply wlp; exact pv_add rfl rfl; exact int_eq (i64_in (by omega) (by omega)))
          (apply wls; exact sf_slice hp rfl rfl rfl rfl rfl rfl rfl; rintro _ w ⟨nb, rfl, hp⟩)
          (apply wls; exact sf_app1 eI ps (lotFrom d l (1 + xs.length * entN d) + ps.length) hp 1 0 rfl rfl rfl rfl rfl rfl (fun _ => rfl) rfl rfl rfl hvP rfl rfl (by omega); rintro _ w ⟨s', c', rfl, hv', hp⟩)
          have hp := Hp.tail hp
          (repeat (apply wlp; (apply pf_field <;> exact rfl); exact fP rfl))
          (apply wls0; exact sstore1 hp 3 rfl rfl rfl rfl (sizeTy_ok rfl) rfl; rintro _ w ⟨rfl, hp⟩)
          have hp := hp.norm 3 (enC ⟨101 + xs.length, 0, 0, ps ++ [lotFrom d l (1 + xs.length * entN d) + ps.length], [], []⟩ ⟨s', c', none, 0, none, 0⟩) rfl rfl
          (repeat (first | (with_reducible first | apply WP_region | apply wpl_nil | apply thenQ_n | apply inBlk_n) | (apply wlp; apply pv_move; exact fI rfl)))
          (apply wlp; exact pv_add rfl rfl; exact int_eq (i64_in (by omega) (by omega)))
          (repeat (first | (with_reducible first | apply wpl_nil | apply thenQ_n) | (apply wlp; apply pv_assign; exact fI rfl)))
          exact ⟨ps ++ [lotFrom d l (1 + xs.length * entN d) + ps.length], s', c', put_self (Same.eq (by repeat (first | exact Same.hav | exact Same.refl | refine Same.put rfl ?_ | refine Same.havs rfl ?_))) (int_eq (by simp)), ⟨by simp; omega, hv', J_snoc hJP rfl, hp⟩, by simp; omega⟩
        have hpl : (ps.length : Int) = d.pick := by omega
        have hps : ps = lotPs d l (1 + xs.length * entN d) := by
          rw [J_eq hJP]
          unfold lotPs
          rw [show d.pick.toNat = ps.length from by omega]
        have hpne : ps ≠ [] := by
          rintro rfl
          simp at hpl
          omega
        obtain ⟨gP, rfl⟩ := hvP.addr hpne
        have hlt : ps.length - 1 < ps.length := by omega
        have hlast : (ps.flatMap eI)[(ps.length - 1) * 1]? = some (.int .i64 (lotFrom d l (1 + xs.length * entN d) + (d.pick - 1))) := by
          have h1 := List.getElem?_eq_getElem hlt
          have h2 := flatMap_get eI 1 (fun _ => rfl) ps (ps.length - 1) 0 _ _ h1 rfl
          rw [Nat.add_zero] at h2
          rw [h2, hJP _ _ h1]
          congr 2
          omega
        (repeat (first | (with_reducible first | apply WP_seq | apply thenQ_n | apply thenQ_exit | apply WP_exit) | ((with_reducible apply inBlk_same); exact rfl)))
        refine WP_drawS mixed (by kernel_rfl) (fun w' => Hp w0 [] w' [ownL eI 3 1 (some ⟨gP, 0, none⟩) cP ps, blk eb 6 (frOf (enC ⟨101 + xs.length, 0, 0, ps, [], []⟩ ⟨some ⟨gP, 0, none⟩, cP, none, 0, none, 0⟩)) 46, blk db 13 (frOf (drC d a)) 30]) (hp.drew.picks [0, 3, 6] _ rfl rfl) ?_
        have hp := hp.drew
        (repeat ((apply wdp; exact rfl); (intro w hp; intros; apply pv_move); (intros; exact fP rfl)))
        (apply wds; exact rfl; exact st_call rfl ent28 rfl (c28 l s c ((1 + xs.length * entN d) + 1) mb _ _ (hs.keep0 hp.keeps) hsb hl (by decide) (by decide) (hp.has 5 _ rfl mb rfl)); rintro _ w ⟨rfl, hk, ho⟩; have hp := hp.callAt 5 rfl hk ho; refine ⟨hp.picks [0, 3, 6] _ rfl rfl, ?_⟩)
        (repeat ((first | (apply wdp; exact rfl) | (apply wdg; exact rfl; exact rfl; exact rfl)); (intro w hp; intros; ((first | apply pv_move | apply pf_field | (apply pf_load; exact rfl) | (apply pv_eql; (first | exact rfl | exact ev_sel rfl (by assumption)))) <;> (first | exact rfl | exact ev_sel rfl (by assumption) | exact hp.cell 1 rfl rfl | exact hp.cell 2 rfl rfl))); (intros; (first | exact fI rfl | exact fB rfl | exact fP rfl | exact fS rfl))))
        (apply wdg; exact rfl; exact rfl; exact rfl; (intro w hp hb; exact pv_sub (ev_sel rfl hb) rfl); (intro hb; exact int_eq (b := ((ps.length - 1 : Nat) : Int)) (by rw [i64_in (by omega) (by omega)]; omega)))
        (apply wdg; exact rfl; exact rfl; exact rfl; (intro w hp hb; exact pf_index rfl (ev_sel rfl hb) (ev_sel rfl hb) rfl hlt); (intro hb; exact fP rfl))
        (apply wdg; exact rfl; exact rfl; exact rfl; (intro w hp hb; exact pf_load rfl (ev_sel rfl hb) (hp.own_cell (i := 0) rfl hlast)); (intro hb; exact fI rfl))
        (repeat ((first | (apply wdp; exact rfl) | (apply wdg; exact rfl; exact rfl; exact rfl)); (intro w hp; intros; ((first | apply pf_field | (apply pf_load; exact rfl) | exact pv_and rfl rfl rfl | apply pv_lss) <;> (first | exact rfl | exact ev_sel rfl (by assumption) | exact hp.cell 2 rfl rfl))); (intros; (first | exact fI rfl | exact fB rfl | exact fP rfl))))
        refine wpd_nil ?_
        (repeat with_reducible apply thenQ_n)
        refine WP_cond rfl (fun hB => ?_) (fun hB => ?_)
        · have hB : lotB d l (1 + xs.length * entN d) = true := hB
          (repeat (first | with_reducible apply WP_region | (apply wlp; ((first | apply pf_field | (apply pf_load; exact rfl)) <;> (first | exact rfl | exact hp.cell 3 rfl rfl | exact hp.cell 6 rfl rfl)); (first | exact fI rfl | exact fP rfl | exact fS rfl))))
          (apply wlp; exact pv_sub rfl rfl; exact int_eq (b := ((ps.length - 1 : Nat) : Int)) (by rw [i64_in (by omega) (by omega)]; omega))
          (repeat (apply wlp; ((first | apply pf_field | (apply pf_load; exact rfl) | (apply pf_index; exact rfl)) <;> (first | exact rfl | assumption | exact hp.cell 6 rfl rfl)); (first | exact fI rfl | exact fP rfl)))
          (apply wls0; exact st_setL eI ps (ps.length - 1) d.pool hp 0 rfl hvP hlt rfl rfl (fun _ => rfl) rfl rfl (sizeTy_ok rfl); rintro _ w ⟨rfl, hp⟩)
          have hp := hp.norm 3 (enC ⟨101 + xs.length, 0, 0, ps.set (ps.length - 1) d.pool, [], []⟩ ⟨some ⟨gP, 0, none⟩, cP, none, 0, none, 0⟩) rfl (by simp only [enC, List.length_set]; rfl)
          (repeat (with_reducible first | apply wpl_nil | apply thenQ_n | apply inBlk_n))
          refine ⟨⟨101 + xs.length, 0, 0, ps.set (ps.length - 1) d.pool, [], []⟩, ⟨some ⟨gP, 0, none⟩, cP, none, 0, none, 0⟩, (by repeat (first | exact Same.hav | exact Same.refl | refine Same.put rfl ?_ | refine Same.havs rfl ?_)), ⟨rfl, rfl, rfl, trivial⟩, ?_, ⟨hvP.set _ _, .nil, .nil⟩, ?_⟩
          · unfold entE
            rw [if_pos hk1]
            unfold lotPicks
            rw [if_pos hB, ← hps, show d.pick.toNat = ps.length from by omega]
          · rw [hN, show 1 + (xs.length + 1) * 2 = 1 + xs.length * 2 + 1 + 1 from by omega]
            rw [hN] at hp
            exact hp
        · have hB : lotB d l (1 + xs.length * entN d) = false := hB
          (repeat (with_reducible first | apply thenQ_n | apply inBlk_n | apply WP_skip))
          refine ⟨⟨101 + xs.length, 0, 0, ps, [], []⟩, ⟨some ⟨gP, 0, none⟩, cP, none, 0, none, 0⟩, (by repeat (first | exact Same.hav | exact Same.refl | refine Same.put rfl ?_ | refine Same.havs rfl ?_)), ⟨rfl, rfl, rfl, trivial⟩, ?_, ⟨hvP, .nil, .nil⟩, ?_⟩
          · unfold entE
            rw [if_pos hk1]
            unfold lotPicks
            rw [if_neg (by rw [hB]; simp), ← hps]
          · rw [hN, show 1 + (xs.length + 1) * 2 = 1 + xs.length * 2 + 1 + 1 from by omega]
            rw [hN] at hp
            exact hp
      have hk1 : ¬ d.kind = 1 := hk1
      (repeat (first | (with_reducible first | apply WP_seq | apply WP_region | apply wpl_nil | apply thenQ_n) | (apply wlp; ((first | apply pv_assign | (apply pv_eql; (first | exact rfl | exact ev_sel rfl (by assumption)))) <;> exact rfl); exact fB rfl)))
      refine WP_cond_d rfl (fun hk2 => ?_) (fun hk2 => ?_)
      · have hk2 : d.kind = 2 := hk2
        have hN : entN d = 4 := by unfold entN; rw [if_neg hk1, if_pos hk2]
        obtain ⟨q1, q2⟩ := chk_places (d := d) (by rw [hok]) hk2
        obtain ⟨q3, q4⟩ := chk_cls hok hk2
        (repeat (first | (with_reducible first | apply WP_seq | apply WP_region) | (apply wlp; ((first | apply pv_move | apply pf_field | (apply pf_load; exact rfl)) <;> (first | exact rfl | exact hp.cell 6 rfl rfl)); (first | exact fI rfl | exact fP rfl))))
        (apply wlp; exact pv_add rfl rfl; exact int_eq (i64_in (by omega) (by omega)))
        (apply wls; exact st_call rfl ent28 rfl (c28 l s c ((1 + xs.length * entN d)) mb _ _ (hs.keep0 hp.keeps) hsb hl (by omega) (by omega) (hp.has 5 _ rfl mb rfl)); rintro _ w ⟨rfl, hk, ho⟩; have hp := hp.callAt 5 rfl hk ho)
        (repeat (apply wlp; (apply pf_field <;> exact rfl); exact fP rfl))
        (apply wls0; exact sstore1 hp 3 rfl rfl rfl rfl (sizeTy_ok rfl) rfl; rintro _ w ⟨rfl, hp⟩)
        (repeat (first | (with_reducible first | apply WP_seq | apply WP_region | apply wpl_nil | apply thenQ_n) | (apply wlp; apply pv_move; exact fP rfl)))
        (apply wls; exact st_call rfl ent28 rfl (c28 l s c ((1 + xs.length * entN d) + 1) mb _ _ (hs.keep0 hp.keeps) hsb hl (by decide) (by decide) (hp.has 5 _ rfl mb rfl)); rintro _ w ⟨rfl, hk, ho⟩; have hp := hp.callAt 5 rfl hk ho)
        (repeat (apply wlp; (apply pf_field <;> exact rfl); exact fP rfl))
        (apply wls0; exact sstore1 hp 3 rfl rfl rfl rfl (sizeTy_ok rfl) rfl; rintro _ w ⟨rfl, hp⟩)
        have hp := hp.norm 3 (enC ⟨101 + xs.length, nx l (1 + xs.length * entN d) (d.cls + 1), nx l ((1 + xs.length * entN d) + 1) 4, [], [], []⟩ ⟨none, 0, none, 0, none, 0⟩) rfl rfl
        (repeat (first | (with_reducible first | apply WP_seq | apply WP_region | apply wpl_nil | apply thenQ_n) | (apply wlp; ((first | apply pv_move | apply pf_field | (apply pf_load; exact rfl) | (apply pf_len; exact rfl)) <;> (first | exact rfl | exact hp.cell 6 rfl rfl)); (first | exact fI rfl | exact fP rfl | exact fS rfl))))
        (apply wls; exact st_call rfl ent28 rfl (c28 l s c ((1 + xs.length * entN d) + 2) mb _ _ (hs.keep0 hp.keeps) hsb hl (by omega) (by omega) (hp.has 5 _ rfl mb rfl)); rintro _ w ⟨rfl, hk, ho⟩; have hp := hp.callAt 5 rfl hk ho)
        have a0 := nx_nonneg l ((1 + xs.length * entN d) + 2) (n := d.places.length) (by omega)
        have a1 := nx_lt l ((1 + xs.length * entN d) + 2) (n := d.places.length) (by omega)
        (repeat (first | (with_reducible first | apply WP_seq | apply WP_region | apply wpl_nil | apply thenQ_n) | (apply wlp; ((first | apply pv_move | apply pv_assign | apply pf_field | (apply pf_load; exact rfl) | (apply pf_len; exact rfl)) <;> (first | exact rfl | exact hp.cell 6 rfl rfl)); (first | exact fI rfl | exact fP rfl | exact fS rfl))))
        (apply wlp; exact pv_add rfl rfl; exact int_eq (i64_in (by omega) (by omega)))
        (apply wls; exact st_call rfl ent28 rfl (c28 l s c ((1 + xs.length * entN d) + 3) mb _ _ (hs.keep0 hp.keeps) hsb hl (by omega) (by omega) (hp.has 5 _ rfl mb rfl)); rintro _ w ⟨rfl, hk, ho⟩; have hp := hp.callAt 5 rfl hk ho)
        have b0 := nx_nonneg l ((1 + xs.length * entN d) + 3) (n := d.places.length + 1) (by omega)
        have b1 := nx_lt l ((1 + xs.length * entN d) + 3) (n := d.places.length + 1) (by omega)
        (repeat (first | (with_reducible first | apply WP_seq | apply WP_block | apply WP_region | apply wpl_nil | apply thenQ_n) | (apply wlp; apply pv_assign; exact fI rfl)))
        refine WP_loop3 [14, 102, 103, 104, 105, 106, 107, 108, 109, 110, 111, 112, 113, 114, 115, 116, 117, 118, 119, 120, 121, 122, 123] (fun (ps : List ByteArray) (sP : Option Addr) (cP : Nat) F => F.put 14 (.int .i64 ps.length))
          (fun ps sP cP w' => (ps.length : Int) ≤ nx l ((1 + xs.length * entN d) + 3) (d.places.length + 1) ∧ SVL sP cP ps ∧ (∀ (q : Nat) (x : ByteArray), ps[q]? = some x → x = balF d l (1 + xs.length * entN d) q) ∧ Hp w0 [] w' ([ownL eI 3 1 none 0 [], ownL eS 9 1 sP cP ps, ownL eS 9 1 none 0 [], blk eb 6 (frOf (enC ⟨101 + xs.length, nx l (1 + xs.length * entN d) (d.cls + 1), nx l ((1 + xs.length * entN d) + 1) 4, [], ps, []⟩ ⟨none, 0, sP, cP, none, 0⟩)) 46, ownL eEn 46 6 so co xs, blk mb 2 (frOf (strm s c l ((1 + xs.length * entN d) + 4))) 72, blk db 13 (frOf (drC d a)) 30] ++ xs.flatMap enOwn))
          (fun ps _ _ => (nx l ((1 + xs.length * entN d) + 3) (d.places.length + 1) - ps.length).toNat) [] none 0 (put_self (Same.eq .refl) rfl) ⟨by simp; omega, .nil, J_nil, hp⟩ ?_
        clear hp hk ho
        rintro u2 ps sP cP w ⟨hle2, hvP, hJP, hp⟩
        (repeat (first | (with_reducible first | apply WP_seq | apply WP_region | apply wpl_nil | apply thenQ_n) | (apply wlp; ((first | apply pv_move | apply pv_lss) <;> exact rfl); (first | exact fI rfl | exact fB rfl))))
        refine WP_cond_d rfl (fun h5 => ?_) (fun h5 => ?_)
        · obtain ⟨t0, t1⟩ : 0 ≤ (nx l ((1 + xs.length * entN d) + 2) d.places.length + (ps.length : Int)).tmod d.places.length ∧ (nx l ((1 + xs.length * entN d) + 2) d.places.length + (ps.length : Int)).tmod d.places.length < d.places.length := ⟨Int.tmod_nonneg _ (by omega), Int.tmod_lt_of_pos _ (by omega)⟩
          obtain ⟨k, hk, hkl⟩ : ∃ k : Nat, (nx l ((1 + xs.length * entN d) + 2) d.places.length + (ps.length : Int)).tmod d.places.length = k ∧ k < d.places.length := ⟨((nx l ((1 + xs.length * entN d) + 2) d.places.length + (ps.length : Int)).tmod d.places.length).toNat, by omega, by omega⟩
          obtain ⟨pb, po, hpb, hpc⟩ := hd.places.base (by omega)
          have hcell := hpc k _ (List.getElem?_eq_getElem hkl) 0 _ rfl
          have hbf : balF d l (1 + xs.length * entN d) ps.length = d.places[k].1 := by
            unfold balF plc
            rw [hk, Int.toNat_natCast, List.getD_eq_getElem?_getD, List.getElem?_eq_getElem hkl]
            rfl
          (repeat (with_reducible first | apply WP_seq | apply WP_block | apply thenQ_n | apply WP_skip))
          refine WP_drawS mixed (by kernel_rfl) (fun w' => Hp w0 [] w' [blk eb 6 (frOf (enC ⟨101 + xs.length, nx l (1 + xs.length * entN d) (d.cls + 1), nx l ((1 + xs.length * entN d) + 1) 4, [], ps, []⟩ ⟨none, 0, sP, cP, none, 0⟩)) 46, blk db 13 (frOf (drC d a)) 30]) (hp.drew.picks [3, 6] _ rfl rfl) ?_
          have hp := hp.drew
          (repeat ((apply wdp; exact rfl); (intro w hp; intros; ((first | apply pv_move | apply pf_field | (apply pf_load; exact rfl)) <;> (first | exact rfl | exact hp.cell 0 rfl rfl | exact hp.cell 1 rfl rfl))); (intros; (first | exact fI rfl | exact fP rfl | exact fS rfl))))
          (apply wdp; exact rfl; (intro w hp; exact pv_add rfl rfl); exact int_eq (i64_in (by omega) (by omega)))
          (repeat ((apply wdp; exact rfl); (intro w hp; intros; ((first | apply pf_field | (apply pf_load; exact rfl) | (apply pf_len; exact rfl)) <;> (first | exact rfl | exact hp.cell 1 rfl rfl))); (intros; (first | exact fI rfl | exact fP rfl | exact fS rfl))))
          (apply wdp; exact rfl; (intro w hp; exact pv_rem rfl rfl (by omega)); exact int_eq hk)
          (apply wdp; exact rfl; (intro w hp; exact pf_index rfl rfl rfl hpb hkl); exact fP rfl)
          (repeat ((apply wdp; exact rfl); (intro w hp; intros; ((first | apply pf_field | (apply pf_load; exact rfl)) <;> (first | exact rfl | exact hp.old0 (by assumption)))); (intros; (first | exact fP rfl | exact fT rfl))))
          (apply wds; exact rfl; exact sf_slice hp rfl rfl rfl rfl rfl rfl rfl; rintro _ w ⟨nb, rfl, hp⟩; refine ⟨hp.picks [4, 7] _ rfl rfl, ?_⟩)
          (apply wds; exact rfl; exact sf_app1 eS ps d.places[k].1 hp 2 0 rfl rfl rfl rfl rfl rfl (fun _ => rfl) rfl rfl rfl hvP rfl rfl (by omega); rintro _ w ⟨s', c', rfl, hv', hp⟩; refine ⟨hp.picks [4, 7] _ rfl rfl, ?_⟩)
          have hp := Hp.tail hp
          (repeat ((apply wdp; exact rfl); (intro w hp; intros; (apply pf_field <;> exact rfl)); (intros; exact fP rfl)))
          (apply wds0S; exact rfl; exact rfl; exact sstore1 hp 3 rfl rfl rfl rfl (sizeTy_ok rfl) rfl; rintro _ w ⟨rfl, hp⟩)
          have hp := hp.norm 3 (enC ⟨101 + xs.length, nx l (1 + xs.length * entN d) (d.cls + 1), nx l ((1 + xs.length * entN d) + 1) 4, [], ps ++ [d.places[k].1], []⟩ ⟨none, 0, s', c', none, 0⟩) rfl rfl
          refine wpd_nil ?_
          (repeat (first | (with_reducible first | apply WP_region | apply thenQ_n | apply inBlk_n) | (apply wlp; apply pv_move; exact fI rfl)))
          (apply wlp; exact pv_add rfl rfl; exact int_eq (i64_in (by omega) (by omega)))
          (repeat (first | (with_reducible first | apply wpl_nil | apply thenQ_n) | (apply wlp; apply pv_assign; exact fI rfl)))
          exact ⟨ps ++ [d.places[k].1], s', c', put_self (Same.eq (by repeat (first | exact Same.hav | exact Same.refl | refine Same.put rfl ?_ | refine Same.havs rfl ?_))) (int_eq (by simp)), ⟨by simp; omega, hv', J_snoc hJP hbf.symm, hp⟩, by simp; omega⟩
        (repeat (first | (with_reducible first | apply thenQ_n | apply inBlk_n | apply thenQ_exit | apply WP_exit) | ((with_reducible apply inBlk_same); exact rfl)))
        refine ⟨⟨101 + xs.length, nx l (1 + xs.length * entN d) (d.cls + 1), nx l ((1 + xs.length * entN d) + 1) 4, [], ps, []⟩, ⟨none, 0, sP, cP, none, 0⟩, (by repeat (first | exact Same.hav | exact Same.refl | refine Same.put rfl ?_ | refine Same.havs rfl ?_)), ⟨rfl, rfl, rfl, trivial⟩, ?_, ⟨.nil, hvP, .nil⟩, ?_⟩
        · unfold entE
          rw [if_neg hk1, if_pos hk2]
          congr 1
          rw [J_eq hJP]
          unfold balW
          rw [show (nx l ((1 + xs.length * entN d) + 3) (d.places.length + 1)).toNat = ps.length from by omega]
        · rw [hN, show 1 + (xs.length + 1) * 4 = 1 + xs.length * 4 + 4 from by omega]
          rw [hN] at hp
          exact hp
      have hk2 : ¬ d.kind = 2 := hk2
      (repeat (first | (with_reducible first | apply WP_seq | apply WP_region | apply wpl_nil | apply thenQ_n) | (apply wlp; ((first | apply pv_assign | (apply pv_eql; (first | exact rfl | exact ev_sel rfl (by assumption)))) <;> exact rfl); exact fB rfl)))
      refine WP_cond_d rfl (fun hk3 => ?_) (fun hk3 => ?_)
      · have hN : entN d = 1 := by unfold entN; rw [if_neg hk1, if_neg hk2]
        (repeat (first | (with_reducible first | apply WP_seq | apply WP_region) | (apply wlp; apply pv_move; exact fP rfl)))
        (apply wls; exact st_call rfl ent28 rfl (c28 l s c ((1 + xs.length * entN d)) mb _ _ (hs.keep0 hp.keeps) hsb hl (by decide) (by decide) (hp.has 5 _ rfl mb rfl)); rintro _ w ⟨rfl, hk, ho⟩; have hp := hp.callAt 5 rfl hk ho)
        (repeat (first | (with_reducible first | apply WP_seq | apply WP_block | apply WP_region | apply wpl_nil | apply thenQ_n) | (apply wlp; apply pv_assign; exact fI rfl)))
        refine WP_loopS [16, 128, 129, 130, 131, 132, 133, 134, 135, 136, 137, 138, 139, 140, 141, 142, 143] (fun (x : Nat × Option Addr × Nat) F => F.put 16 (.int .i64 x.1))
          (fun x w' => x.1 ≤ 3 ∧ SVL x.2.1 x.2.2 (panQ l (1 + xs.length * entN d) x.1) ∧ Hp w0 [] w' ([ownL eI 3 1 none 0 [], ownL eS 9 1 none 0 [], ownL eS 9 1 x.2.1 x.2.2 (panQ l (1 + xs.length * entN d) x.1), blk eb 6 (frOf (enC ⟨101 + xs.length, 0, 0, [], [], panQ l (1 + xs.length * entN d) x.1⟩ ⟨none, 0, none, 0, x.2.1, x.2.2⟩)) 46, ownL eEn 46 6 so co xs, blk mb 2 (frOf (strm s c l ((1 + xs.length * entN d) + 1))) 72, blk db 13 (frOf (drC d a)) 30] ++ xs.flatMap enOwn))
          (fun x => 3 - x.1) (0, none, 0) (put_self (Same.eq .refl) rfl) ⟨by simp, .nil, hp⟩ ?_
        clear hp hk ho
        rintro u2 ⟨k, sP, cP⟩ w ⟨hle2, hvP, hp⟩
        have hle2 : k ≤ 3 := hle2
        have hvP : SVL sP cP (panQ l (1 + xs.length * entN d) k) := hvP
        have hpl : (panQ l (1 + xs.length * entN d) k).length ≤ k := by
          unfold panQ
          rw [List.length_map]
          exact Nat.le_trans (List.length_filter_le _ _) (by simp)
        have hsucc := panQ_succ l (1 + xs.length * entN d) k
        (repeat (first | (with_reducible first | apply WP_seq | apply WP_region | apply wpl_nil | apply thenQ_n) | (apply wlp; ((first | apply pv_move | apply pv_lss) <;> exact rfl); (first | exact fI rfl | exact fB rfl))))
        refine WP_cond_d rfl (fun h5 => ?_) (fun h5 => ?_)
        · (repeat (first | (with_reducible first | apply WP_seq | apply WP_block | apply WP_region | apply thenQ_n | apply WP_skip) | (apply wlp; apply pv_move; exact fI rfl)))
          (apply wlp; exact pv_shr rfl rfl (by omega); exact fI rfl)
          (apply wlp; exact pv_band rfl rfl; exact fI rfl)
          (repeat (first | (with_reducible first | apply wpl_nil | apply thenQ_n) | (apply wlp; ((apply pv_eql; (first | exact rfl | exact ev_sel rfl (by assumption))) <;> exact rfl); exact fB rfl)))
          refine WP_cond rfl (fun hb => ?_) (fun hb => ?_)
          · have hb : bitQ (nx l (1 + xs.length * entN d) 8) k = true := by
              unfold bitQ
              exact hb
            rw [if_pos hb] at hsucc
            skip
            refine WP_drawS mixed (by kernel_rfl) (fun w' => Hp w0 [] w' [blk eb 6 (frOf (enC ⟨101 + xs.length, 0, 0, [], [], panQ l (1 + xs.length * entN d) k⟩ ⟨none, 0, none, 0, sP, cP⟩)) 46]) (hp.drew.picks [3] _ rfl rfl) ?_
            have hp := hp.drew
            (repeat ((apply wdp; exact rfl); (intro w hp; intros; ((first | apply pv_move | apply pf_field | (apply pf_load; exact rfl)) <;> (first | exact rfl | exact hp.cell 0 rfl rfl))); (intros; (first | exact fI rfl | exact fP rfl | exact fS rfl))))
            (apply wds; exact rfl; exact st_call rfl ent27 rfl (c27 _ _))
            rintro _ w ⟨rfl, hk⟩
            have hp := hp.call hk
            refine ⟨hp.picks [3] _ rfl rfl, ?_⟩
            (apply wds; exact rfl; exact sf_slice hp rfl rfl rfl rfl rfl rfl rfl; rintro _ w ⟨nb, rfl, hp⟩; refine ⟨hp.picks [4] _ rfl rfl, ?_⟩)
            (apply wds; exact rfl; exact sf_app1 eS (panQ l (1 + xs.length * entN d) k) (wordB k) hp 3 0 rfl rfl rfl rfl rfl rfl (fun _ => rfl) rfl rfl rfl hvP rfl rfl (by omega); rintro _ w ⟨s', c', rfl, hv', hp⟩; refine ⟨hp.picks [4] _ rfl rfl, ?_⟩)
            have hp := Hp.tail hp
            (repeat ((apply wdp; exact rfl); (intro w hp; intros; (apply pf_field <;> exact rfl)); (intros; exact fP rfl)))
            (apply wds0S; exact rfl; exact rfl; exact sstore1 hp 3 rfl rfl rfl rfl (sizeTy_ok rfl) rfl; rintro _ w ⟨rfl, hp⟩)
            have hp := hp.norm 3 (enC ⟨101 + xs.length, 0, 0, [], [], panQ l (1 + xs.length * entN d) k ++ [wordB k]⟩ ⟨none, 0, none, 0, s', c'⟩) rfl rfl
            rw [← hsucc] at hv'
            have hp : Hp w0 [] w ([ownL eI 3 1 none 0 [], ownL eS 9 1 none 0 [], ownL eS 9 1 s' c' (panQ l (1 + xs.length * entN d) k ++ [wordB k]), blk eb 6 (frOf (enC ⟨101 + xs.length, 0, 0, [], [], panQ l (1 + xs.length * entN d) k ++ [wordB k]⟩ ⟨none, 0, none, 0, s', c'⟩)) 46, ownL eEn 46 6 so co xs, blk mb 2 (frOf (strm s c l ((1 + xs.length * entN d) + 1))) 72, blk db 13 (frOf (drC d a)) 30] ++ xs.flatMap enOwn) := hp
            rw [← hsucc] at hp
            refine wpd_nil ?_
            (repeat (first | (with_reducible first | apply WP_region | apply thenQ_n | apply inBlk_n) | (apply wlp; apply pv_move; exact fI rfl)))
            (apply wlp; exact pv_add rfl rfl; exact int_eq (i64_in (by omega) (by omega)))
            (repeat (first | (with_reducible first | apply wpl_nil | apply thenQ_n) | (apply wlp; apply pv_assign; exact fI rfl)))
            exact ⟨(k + 1, s', c'), put_self (Same.eq (by repeat (first | exact Same.hav | exact Same.refl | refine Same.put rfl ?_ | refine Same.havs rfl ?_))) rfl, ⟨by show k + 1 ≤ 3; omega, hv', hp⟩, by show 3 - (k + 1) < 3 - k; omega⟩
          · have hb : bitQ (nx l (1 + xs.length * entN d) 8) k = false := by
              unfold bitQ
              exact hb
            have hb : ¬ bitQ (nx l (1 + xs.length * entN d) 8) k = true := by
              rw [hb]
              simp
            rw [if_neg hb, List.append_nil] at hsucc
            (repeat (first | (with_reducible first | apply WP_region | apply thenQ_n | apply inBlk_n | apply WP_skip) | (apply wlp; apply pv_move; exact fI rfl)))
            (apply wlp; exact pv_add rfl rfl; exact int_eq (i64_in (by omega) (by omega)))
            (repeat (first | (with_reducible first | apply wpl_nil | apply thenQ_n) | (apply wlp; apply pv_assign; exact fI rfl)))
            refine ⟨(k + 1, sP, cP), put_self (Same.eq (by repeat (first | exact Same.hav | exact Same.refl | refine Same.put rfl ?_ | refine Same.havs rfl ?_))) rfl, ⟨by show k + 1 ≤ 3; omega, ?_, ?_⟩, by show 3 - (k + 1) < 3 - k; omega⟩
            · show SVL sP cP (panQ l (1 + xs.length * entN d) (k + 1))
              rw [hsucc]
              exact hvP
            · show Hp w0 [] w ([ownL eI 3 1 none 0 [], ownL eS 9 1 none 0 [], ownL eS 9 1 sP cP (panQ l (1 + xs.length * entN d) (k + 1)), blk eb 6 (frOf (enC ⟨101 + xs.length, 0, 0, [], [], panQ l (1 + xs.length * entN d) (k + 1)⟩ ⟨none, 0, none, 0, sP, cP⟩)) 46, ownL eEn 46 6 so co xs, blk mb 2 (frOf (strm s c l ((1 + xs.length * entN d) + 1))) 72, blk db 13 (frOf (drC d a)) 30] ++ xs.flatMap enOwn)
              rw [hsucc]
              exact hp
        have hk3 : k = 3 := by omega
        subst hk3
        (repeat (first | (with_reducible first | apply thenQ_n | apply inBlk_n | apply thenQ_exit | apply WP_exit) | ((with_reducible apply inBlk_same); exact rfl)))
        refine ⟨⟨101 + xs.length, 0, 0, [], [], panQ l (1 + xs.length * entN d) 3⟩, ⟨none, 0, none, 0, sP, cP⟩, (by repeat (first | exact Same.hav | exact Same.refl | refine Same.put rfl ?_ | refine Same.havs rfl ?_)), ⟨rfl, rfl, rfl, trivial⟩, ?_, ⟨.nil, .nil, hvP⟩, ?_⟩
        · unfold entE
          rw [if_neg hk1, if_neg hk2]
        · rw [hN, show 1 + (xs.length + 1) * 1 = 1 + xs.length * 1 + 1 from by omega]
          rw [hN] at hp
          exact hp
      · exfalso
        have hk3 : ¬ d.kind = 3 := hk3
        omega
    · clear hp
      rintro F w ⟨e, ae, hsame, hF, he, hve, hp⟩
      rw [puts_self hF]
      (repeat (first | with_reducible apply WP_region | (apply wlp; ((first | apply pv_move | (apply pf_loadb; exact rfl)) <;> (first | exact rfl | exact hp.agg_blk 3 rfl rfl)); (first | exact fS rfl | exact fA6 rfl))))
      (apply wls; exact sf_slice hp rfl rfl rfl rfl rfl rfl rfl; rintro _ w ⟨nb, rfl, hp⟩)
      (apply wls; exact sf_app1 eEn xs (e, ae) hp 5 0 rfl rfl rfl rfl rfl rfl (fun _ => rfl) rfl rfl rfl hvo rfl rfl (by omega); rintro _ w ⟨s', c', rfl, hv', hp⟩)
      have hp := (Hp.tail hp).dropAt 3
      have hp : Hp w0 [] w ([ownL eEn 46 6 s' c' (xs ++ [(e, ae)]), blk mb 2 (frOf (strm s c l (1 + (xs.length + 1) * entN d))) 72, blk db 13 (frOf (drC d a)) 30] ++ (xs.flatMap enOwn ++ enOwn (e, ae))) :=
        hp.perm (((List.perm_append_comm_assoc (enOwn (e, ae)) [ownL eEn 46 6 s' c' (xs ++ [(e, ae)]), blk mb 2 (frOf (strm s c l (1 + (xs.length + 1) * entN d))) 72, blk db 13 (frOf (drC d a)) 30] (xs.flatMap enOwn))).trans (List.Perm.append_left _ List.perm_append_comm))
      (repeat (first | (with_reducible first | apply WP_region | apply wpl_nil | apply thenQ_n | apply inBlk_n) | (apply wlp; (first | apply pv_move | apply pv_assign); (first | exact fI rfl | exact fS rfl))))
      (apply wlp; exact pv_add rfl rfl; exact int_eq (i64_in (by omega) (by omega)))
      (repeat (first | (with_reducible first | apply wpl_nil | apply thenQ_n) | (apply wlp; apply pv_assign; exact fI rfl)))
      refine ⟨xs ++ [(e, ae)], s', c', put_self (put_self (Same.eq (by repeat (first | exact hsame | refine Same.put rfl ?_))) (int_eq (by simp))) rfl, ⟨by simp; omega, hv', ?_, ?_, ?_⟩, by simp; omega⟩
      · rw [List.map_append]
        exact J_snoc hJ (by rw [List.length_map]; exact he)
      · exact snoc_all hE hve
      · rw [List.length_append, List.flatMap_append]
        simpa using hp
  · have hx7 : (xs.length : Int) = nx l 0 7 := by omega
    (repeat (first | (with_reducible first | apply WP_seq | apply WP_region | apply wpl_nil | apply thenQ_n | apply thenQ_exit | apply WP_ret | apply WP_exit) | ((with_reducible apply inBlk_same); exact rfl) | (apply wlp; (first | apply pv_move | apply pv_assign); exact fS rfl)))
    refine ret_tmp rfl rfl ⟨_, rfl, xs, so, co, rfl, hvo, ?_, hE, ?_⟩
    · unfold entsOf
      rw [J_eq hJ, List.length_map, show (nx l 0 7).toNat = xs.length from by omega]
    · exact (hp.dropAt 2).dropAt 1
end Go.Proofs.Ytgephdcapajaiaa
