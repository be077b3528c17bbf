/- Layer 14: Admit, of the program and of the reference: both admit the same entrants and have the same exceptions; conditions: rules and entrants lie in memory, the lists are not long. -/
import Derived.Test.YtgephdcapajaiaaSm
namespace Go.Eng
theorem Same.putB {S : List Nat} {d : Nat} {v : Value} {F F' : Fr} (h1 : F' d = v) (h : Same S F F') : Same S (F.put d v) F' := by
  intro i hi
  simp only [Fr.put]
  cases hb : Nat.beq i d
  · exact h i hi
  · rw [Nat.eq_of_beq_eq_true hb]
    exact h1.symm
end Go.Eng
namespace Go.Proofs.Ytgephdcapajaiaa
open Go.Eng

def admE (d : Dr) (ids : List Int) (n : Nat) (e : En) : Int :=
  if (decide (entC d e = 0) && !decide (d.kind = 1)) = true then (if memD e.id ids = true then 33 else if 40 ≤ (n : Int) then 2 else entC d e) else entC d e
def admStep (d : Dr) (st : List En × List (Int × Int)) (e : En) (i : Nat) : List En × List (Int × Int) :=
  if admE d (st.1.map (·.id)) st.1.length e = 0 then (st.1 ++ [e], st.2) else (st.1, st.2 ++ [((i : Int), admE d (st.1.map (·.id)) st.1.length e)])
def admTo (d : Dr) (es : List En) : Nat → List En × List (Int × Int)
  | 0 => ([], [])
  | k + 1 => match es[k]? with
    | some e => admStep d (admTo d es k) e k
    | none => admTo d es k
def adm (d : Dr) (es : List En) : List En × List (Int × Int) := admTo d es es.length
theorem admTo_succ {d : Dr} {es : List En} {k : Nat} {e : En} (h : es[k]? = some e) : admTo d es (k + 1) = admStep d (admTo d es k) e k := by
  simp only [admTo, h]
theorem memD_snoc {ids : List Int} {a : Int} : (fun z => decide (z = a) || memD z ids) = fun z => memD z (ids ++ [a]) := by
  funext z
  unfold memD
  rw [Bool.eq_iff_iff]
  simp
  rw [or_comm]
/-- what a round of Admit comes to -/
theorem adm_in {d : Dr} {es : List En} {ins : List (En × EnA)} {outs : List (Int × Int)} {i : Nat} {e : En} {a : EnA} (h : (ins.map (·.1), outs) = admTo d es i) (he : es[i]? = some e) (hz : admE d (ins.map fun y => y.1.id) ins.length e = 0) :
    ((ins ++ [(e, a)]).map (·.1), outs) = admTo d es (i + 1) := by
  rw [admTo_succ he, ← h]
  unfold admStep
  have e1 : (ins.map (·.1)).map (·.id) = ins.map fun y => y.1.id := by simp
  simp only [e1, List.length_map]
  rw [if_pos hz]
  simp
theorem adm_out {d : Dr} {es : List En} {ins : List (En × EnA)} {outs : List (Int × Int)} {i : Nat} {e : En} (h : (ins.map (·.1), outs) = admTo d es i) (he : es[i]? = some e) (hz : ¬ admE d (ins.map fun y => y.1.id) ins.length e = 0) :
    (ins.map (·.1), outs ++ [((i : Int), admE d (ins.map fun y => y.1.id) ins.length e)]) = admTo d es (i + 1) := by
  rw [admTo_succ he, ← h]
  unfold admStep
  have e1 : (ins.map (·.1)).map (·.id) = ins.map fun y => y.1.id := by simp
  simp only [e1, List.length_map]
  rw [if_neg hz]
structure AdS where
  i : Nat
  ins : List (En × EnA)
  outs : List (Int × Int)
  si : Option Addr
  ci : Nat
  so : Option Addr
  co : Nat
  sd : Option Addr
  cd : Nat
attribute [local irreducible] PV StepF wpl wpd WP Ret
attribute [local irreducible] chk entC admE admTo

set_option maxHeartbeats 2000000 in
theorem c21 (d : Dr) (a : DrA) (es : List (En × EnA)) (s : Option Addr) (c : Nat) (w0 : World) (hd : DrAt w0 d a) (hs : SlAt w0 6 eEn s es) (he : ∀ x ∈ es, EnAt w0 x.1 x.2) (hl : ∀ x ∈ es, EnLn x.1 1000) (hn : es.length < 100000) :
    Ret Try.prog 21 [drV d a, .slice s es.length c] w0 (fun v w' => ∃ (ins : List (En × EnA)) (outs : List (Int × Int)) (si : Option Addr) (ci : Nat) (so : Option Addr) (co : Nat), v = .tuple #[.slice si ins.length ci, .slice so outs.length co] ∧
      SVL si ci ins ∧ SVL so co outs ∧ (ins.map (·.1), outs) = adm d (es.map (·.1)) ∧ (∀ y ∈ ins, EnVl y) ∧ Hp w0 [] w' (ownL eEn 46 6 si ci ins :: ownL eT 91 2 so co outs :: ins.flatMap enOwn)) := by
  refine Ret.of_WP Try.func21 rfl Try.ntmps21 rfl ?_
  have hp := Hp.start (M := []) (w := w0)
  ((repeat (with_reducible first | apply WP_seq | apply WP_region)); apply wls; exact sbox13 hp rfl; rintro _ w ⟨db, rfl, hp⟩)
  have hp := hp.norm 0 (drC d a) rfl rfl
  (repeat (first | (with_reducible first | apply WP_seq | apply WP_region | apply wpl_nil | apply thenQ_n) | (apply wlp; apply pv_assign; exact fS rfl)))
  (apply wls; exact st_makemap kInt hp; rintro _ w ⟨mb, rfl, hp⟩)
  have hp : Hp w0 [] w [mapE kInt mb (setF (fun z => memD z [])), blk db 13 (frOf (drC d a)) 30] := by
    have hz : (setF fun z : Int => memD z ([] : List Int)) = fun _ => none := setF_none _ (fun _ => by simp [memD])
    rw [hz]
    exact hp
  (repeat (first | (with_reducible first | apply WP_seq | apply WP_block | apply WP_region | apply wpl_nil | apply thenQ_n) | (apply wlp; ((first | apply pv_move | apply pv_assign | (apply pf_len; exact rfl)) <;> exact rfl); (first | exact fI rfl | exact fS rfl | exact fM rfl))))
  have hp := (hp.nilL eT 91 2).nilL eEn 46 6
  refine WP_fresh [(2, .pointer (some ⟨db, 0, none⟩)), (6, .slice none 0 0), (7, .slice none 0 0), (8, .map (some mb)), (13, .slice s es.length c), (14, .int .i64 es.length), (15, .int .i64 0)] ⟨rfl, rfl, rfl, rfl, rfl, rfl, rfl, trivial⟩ ?_
  intro F0
  refine WP_loopS [6, 7, 9, 10, 11, 15, 16, 17, 18, 19, 20, 21, 22, 23, 24, 25, 26, 27, 28, 29, 30, 31, 32, 33, 34, 35, 36, 37, 38, 39, 40, 41, 42, 43, 44, 45, 46, 47, 48, 49, 50, 51, 52, 53, 54, 55, 56, 57, 58, 59, 60, 61, 62, 63, 64, 65, 66] (fun (x : AdS) F => ((F.put 15 (.int .i64 x.i)).put 6 (.slice x.si x.ins.length x.ci)).put 7 (.slice x.so x.outs.length x.co))
    (fun x w' => x.i ≤ es.length ∧ x.ins.length ≤ x.i ∧ x.outs.length ≤ x.i ∧ SVL x.si x.ci x.ins ∧ SVL x.so x.co x.outs ∧ (x.ins.map (·.1), x.outs) = admTo d (es.map (·.1)) x.i ∧ (∀ y ∈ x.ins, EnVl y) ∧
      Hp w0 [] w' ([ownL eEn 46 6 x.si x.ci x.ins, ownL eT 91 2 x.so x.co x.outs, mapE kInt mb (setF (fun z => memD z (x.ins.map fun y => y.1.id))), blk db 13 (frOf (drC d a)) 30] ++ x.ins.flatMap enOwn))
    (fun x => es.length - x.i) ⟨0, [], [], none, 0, none, 0, none, 0⟩ (put_self (put_self (put_self (Same.eq .refl) rfl) rfl) rfl) ⟨Nat.zero_le _, Nat.le_refl _, Nat.le_refl _, .nil, .nil, by unfold admTo; rfl, by simp, by simpa using hp⟩ ?_
  clear hp
  rintro u ⟨i, ins, outs, si, ci, so, co, sd, cd⟩ w ⟨hi, hi1, hi2, hvi, hvo, hadm, hE, hp⟩
  have hi : i ≤ es.length := hi
  have hi1 : ins.length ≤ i := hi1
  have hi2 : outs.length ≤ i := hi2
  have hvi : SVL si ci ins := hvi
  have hvo : SVL so co outs := hvo
  have hadm : (ins.map (·.1), outs) = admTo d (es.map (·.1)) i := hadm
  have hE : ∀ y ∈ ins, EnVl y := hE
  have hp : Hp w0 [] w ([ownL eEn 46 6 si ci ins, ownL eT 91 2 so co outs, mapE kInt mb (setF (fun z => memD z (ins.map fun y => y.1.id))), blk db 13 (frOf (drC d a)) 30] ++ ins.flatMap enOwn) := hp
  (repeat (first | (with_reducible first | apply WP_seq | apply WP_region | apply wpl_nil | apply thenQ_n) | (apply wlp; (apply pv_lss <;> exact rfl); exact fB rfl)))
  refine WP_cond_d rfl (fun h => ?_) (fun h => ?_)
  · have h : (i : Int) < es.length := h
    have hil : i < es.length := by omega
    obtain ⟨pb, po, hso, hpc⟩ := hs.base (by omega)
    have hcx := hpc i _ (List.getElem?_eq_getElem hil)
    have hxm : es[i] ∈ es := List.getElem_mem hil
    have hge : (es.map (·.1))[i]? = some es[i].1 := by
      rw [List.getElem?_map, List.getElem?_eq_getElem hil]
      rfl
    obtain ⟨x, hx⟩ : ∃ x, x = es[i] := ⟨_, rfl⟩
    rw [← hx] at hcx hxm hge
    obtain ⟨e, ae⟩ := x
    have hax : EnAt w0 e ae := he _ hxm
    have hlx : EnLn e 1000 := hl _ hxm
    have hge : (es.map (·.1))[i]? = some e := hge
    (repeat (first | (with_reducible first | apply WP_seq | apply WP_block | apply WP_region | apply thenQ_n | apply WP_skip) | (apply wlp; ((first | apply pv_move | (apply pf_loadb; exact rfl) | (apply pf_index; exact rfl)) <;> (first | exact rfl | assumption)); (first | exact fI rfl | exact fP rfl))))
    (apply wlp; exact pf_loads rfl rfl rfl rfl (fun j v hv => hp.old0 (hcx j v hv)); exact (rfl : _ = enV e ae))
    (apply wls; exact salloc6 hp (zeroTy_ok rfl); rintro _ w ⟨eb, rfl, hp⟩)
    (apply wlp; apply pv_assign; exact fI rfl)
    (apply wls0; exact sstore6 hp 0 rfl rfl rfl rfl (sizeTy_ok rfl) rfl; rintro _ w ⟨rfl, hp⟩)
    have hp := hp.norm 0 (enC e ae) rfl rfl
    (repeat (first | (with_reducible first | apply WP_seq | apply WP_region | apply wpl_nil | apply thenQ_n) | (apply wlp; ((apply pf_loadb; exact rfl) <;> (first | exact rfl | exact hp.agg_blk 0 rfl rfl | exact hp.agg_blk 4 rfl rfl)); (first | exact fA6 rfl | exact fA13 rfl))))
    (apply wls; exact st_call rfl ent18 rfl (c18 d a e ae _ (hd.keep hp.keeps) (hax.keep hp.keeps)))
    rintro _ w ⟨rfl, hk⟩
    have hp := hp.call hk
    (apply wlp; apply pv_assign; exact fI rfl)
    refine wpl_nil ?_
    refine thenQ_n ?_
    refine WP_seq ?_
    refine WP_mid (fun F w => Same [6, 7, 9, 10, 11, 15, 16, 17, 18, 19, 20, 21, 22, 23, 24, 25, 26, 27, 28, 29, 30, 31, 32, 33, 34, 35, 36, 37, 38, 39, 40, 41, 42, 43, 44, 45, 46, 47, 48, 49, 50, 51, 52, 53, 54, 55, 56, 57, 58, 59, 60, 61, 62, 63, 64, 65, 66] F (F0.puts [(2, .pointer (some ⟨db, 0, none⟩)), (6, .slice none 0 0), (7, .slice none 0 0), (8, .map (some mb)), (13, .slice s es.length c), (14, .int .i64 es.length), (15, .int .i64 0)]) ∧
      FrHas F [(6, .slice si ins.length ci), (7, .slice so outs.length co), (8, .map (some mb)), (9, .int .i64 i), (10, .pointer (some ⟨eb, 0, none⟩)), (11, .int .i64 (admE d (ins.map fun y => y.1.id) ins.length e)), (15, .int .i64 i)] ∧ Hp w0 [] w (blk eb 6 (frOf (enC e ae)) 46 :: ([ownL eEn 46 6 si ci ins, ownL eT 91 2 so co outs, mapE kInt mb (setF (fun z => memD z (ins.map fun y => y.1.id))), blk db 13 (frOf (drC d a)) 30] ++ ins.flatMap enOwn))) ?_ ?_
    · (repeat (first | (with_reducible first | apply WP_seq | apply WP_region | apply wpl_nil | apply thenQ_n) | ((first | apply wlp | (apply wlg; exact rfl; exact rfl)); (intros; ((first | apply pv_move | apply pf_field | (apply pf_load; exact rfl) | exact pv_and rfl rfl rfl | (apply pv_eql; (first | exact rfl | exact ev_sel rfl (by assumption))) | (apply pv_neq; (first | exact rfl | exact ev_sel rfl (by assumption)))) <;> (first | exact rfl | exact ev_sel rfl (by assumption) | exact hp.cell 4 rfl rfl))); (intros; (first | exact fI rfl | exact fB rfl | exact fP rfl)))))
      refine WP_cond rfl (fun h1 => ?_) (fun h1 => ?_)
      · have h1 : (decide (entC d e = 0) && !decide (d.kind = 1)) = true := h1
        (repeat (first | (with_reducible first | apply WP_seq | apply WP_block | apply WP_region) | (apply wlp; ((first | apply pv_move | apply pf_field | (apply pf_load; exact rfl)) <;> (first | exact rfl | exact hp.cell 0 rfl rfl)); (first | exact fI rfl | exact fP rfl | exact fM rfl))))
        (apply wlp; exact pv_lookup hp 3 rfl rfl rfl (mapTyI_ok (t := 89) rfl).1 (mapTyI_ok (t := 89) rfl).2.1 (mapTyI_ok (t := 89) rfl).2.2; exact setF_get _ _)
        (repeat (first | (with_reducible first | apply wpl_nil | apply thenQ_n) | (apply wlp; apply pv_assign; exact fB rfl)))
        refine WP_cond rfl (fun h2 => ?_) (fun h2 => ?_)
        · have h2 : memD e.id (ins.map fun y => y.1.id) = true := h2
          (repeat (first | (with_reducible first | apply WP_region | apply wpl_nil | apply thenQ_n | apply inBlk_n) | (apply wlp; apply pv_assign; exact fI rfl)))
          exact ⟨(by repeat (first | exact Same.hav | exact Same.refl | refine Same.put rfl ?_ | refine Same.havs rfl ?_)), ⟨rfl, rfl, rfl, rfl, rfl, int_eq (by unfold admE; rw [if_pos h1, if_pos h2]), rfl, trivial⟩, hp⟩
        · have h2 : memD e.id (ins.map fun y => y.1.id) = false := h2
          (repeat (first | (with_reducible first | apply WP_seq | apply WP_region | apply wpl_nil | apply thenQ_n) | (apply wlp; ((first | apply pv_move | apply pv_assign | (apply pf_len; exact rfl) | apply pv_geq) <;> exact rfl); (first | exact fI rfl | exact fB rfl | exact fS rfl))))
          refine WP_cond_d rfl (fun h3 => ?_) (fun h3 => ?_)
          · (repeat (first | (with_reducible first | apply WP_region | apply wpl_nil | apply thenQ_n | apply inBlk_n) | (apply wlp; apply pv_assign; exact fI rfl)))
            exact ⟨(by repeat (first | exact Same.hav | exact Same.refl | refine Same.put rfl ?_ | refine Same.havs rfl ?_)), ⟨rfl, rfl, rfl, rfl, rfl, int_eq (by unfold admE; rw [if_pos h1, if_neg (by rw [h2]; simp), if_pos h3]), rfl, trivial⟩, hp⟩
          · (repeat (with_reducible first | apply thenQ_n | apply inBlk_n | apply WP_skip))
            exact ⟨(by repeat (first | exact Same.hav | exact Same.refl | refine Same.put rfl ?_ | refine Same.havs rfl ?_)), ⟨rfl, rfl, rfl, rfl, rfl, int_eq (by unfold admE; rw [if_pos h1, if_neg (by rw [h2]; simp), if_neg h3]), rfl, trivial⟩, hp⟩
      · have h1 : (decide (entC d e = 0) && !decide (d.kind = 1)) = false := h1
        (repeat (with_reducible first | apply thenQ_n | apply WP_skip))
        exact ⟨(by repeat (first | exact Same.hav | exact Same.refl | refine Same.put rfl ?_ | refine Same.havs rfl ?_)), ⟨rfl, rfl, rfl, rfl, rfl, int_eq (by unfold admE; rw [if_neg (by rw [h1]; simp)]), rfl, trivial⟩, hp⟩
    · clear hp hk
      rintro F w ⟨hsame, hF, hp⟩
      rw [puts_self hF]
      (repeat (first | (with_reducible first | apply WP_seq | apply WP_region | apply wpl_nil | apply thenQ_n) | (apply wlp; ((first | apply pv_move | (apply pv_neq; (first | exact rfl | exact ev_sel rfl (by assumption)))) <;> exact rfl); (first | exact fI rfl | exact fB rfl))))
      refine WP_cond_nd rfl (fun hz => ?_) (fun hz => ?_)
      · (repeat (first | (with_reducible first | apply WP_seq | apply WP_region) | (apply wlp; ((first | apply pv_move | (apply pf_build; exact rfl)) <;> exact rfl); (first | exact fI rfl | exact fS rfl | exact fA2 rfl))))
        (apply wls; exact sf_slice hp rfl rfl rfl rfl rfl rfl rfl; rintro _ w ⟨nb, rfl, hp⟩)
        (apply wls; exact sf_app1 eT outs ((i : Int), admE d (ins.map fun y => y.1.id) ins.length e) hp 3 0 rfl rfl rfl rfl rfl rfl (fun _ => rfl) rfl rfl rfl hvo rfl rfl (by omega); rintro _ w ⟨s', c', rfl, hv', hp⟩)
        have hp := Hp.tail (Hp.tail hp)
        (repeat (first | (with_reducible first | apply WP_region | apply wpl_nil | apply thenQ_n | apply thenQ_exit | apply WP_exit) | ((with_reducible apply inBlk_same); exact rfl) | (apply wlp; apply pv_assign; exact fS rfl)))
        (apply wlp; exact pv_add rfl rfl; exact int_eq (i64_in (by omega) (by omega)))
        (repeat (first | (with_reducible first | apply wpl_nil | apply thenQ_n) | (apply wlp; apply pv_move; exact fI rfl)))
        exact ⟨⟨i + 1, ins, outs ++ [((i : Int), admE d (ins.map fun y => y.1.id) ins.length e)], si, ci, s', c', none, 0⟩, put_self (put_self (put_self (Same.eq (by repeat (first | exact hsame | refine Same.put rfl ?_ | refine Same.putB rfl ?_))) rfl) rfl) rfl,
          ⟨by show i + 1 ≤ es.length; omega, by show ins.length ≤ i + 1; omega, by show (outs ++ [_]).length ≤ i + 1; simp; omega, hvi, hv', adm_out hadm hge hz, hE, hp⟩, by show es.length - (i + 1) < es.length - i; omega⟩
      · (repeat (first | (with_reducible first | apply WP_seq | apply WP_region | apply thenQ_n | apply WP_skip) | (apply wlp; ((first | apply pv_move | apply pf_field | (apply pf_load; exact rfl)) <;> (first | exact rfl | exact hp.cell 0 rfl rfl)); (first | exact fI rfl | exact fP rfl | exact fM rfl))))
        (apply wls0; exact st_setadd hp 3 rfl rfl rfl rfl (mapTyI_ok (t := 89) rfl).1 (mapTyI_ok (t := 89) rfl).2.1; rintro _ w ⟨rfl, hp⟩)
        rw [memD_snoc] at hp
        (repeat (with_reducible first | apply WP_seq | apply wpl_nil | apply thenQ_n))
        refine WP_drawS mixed (by kernel_rfl) (fun w' => Hp w0 [] w' [blk eb 6 (frOf (enC e ae)) 46]) (hp.drew.picks [0] _ rfl rfl) ?_
        have hp := hp.drew
        (repeat ((apply wdp; exact rfl); (intro w hp; intros; ((first | apply pf_field | (apply pf_load; exact rfl)) <;> (first | exact rfl | exact hp.cell 0 rfl rfl))); (intros; (first | exact fP rfl | exact fS rfl))))
        (apply wds; exact rfl; exact st_call rfl ent46 rfl (c46 e.picks ae.sP ae.cP _ (by have := hlx.picks; omega) (hax.picks.keep0 hp.keeps)); rintro _ w ⟨sP, cP, rfl, vP, hpo⟩; have hp := hp.join hpo; refine ⟨hp.picks [1] _ rfl rfl, ?_⟩)
        (repeat ((apply wdp; exact rfl); (intro w hp; intros; ((first | apply pf_field | (apply pf_load; exact rfl)) <;> (first | exact rfl | exact hp.cell 0 rfl rfl))); (intros; (first | exact fP rfl | exact fS rfl))))
        (apply wds; exact rfl; exact st_call rfl ent47 rfl (c47 e.wishes ae.sW ae.cW _ (by have := hlx.wishes; omega) (hax.wishes.keep0 hp.keeps)); rintro _ w ⟨sW, cW, rfl, vW, hpo⟩; have hp := hp.join hpo; refine ⟨hp.picks [2] _ rfl rfl, ?_⟩)
        (repeat ((apply wdp; exact rfl); (intro w hp; intros; ((first | apply pf_field | (apply pf_load; exact rfl)) <;> (first | exact rfl | exact hp.cell 0 rfl rfl))); (intros; (first | exact fP rfl | exact fS rfl))))
        (apply wds; exact rfl; exact st_call rfl ent47 rfl (c47 e.groups ae.sG ae.cG _ (by have := hlx.groups; omega) (hax.groups.keep0 hp.keeps)); rintro _ w ⟨sG, cG, rfl, vG, hpo⟩; have hp := hp.join hpo; refine ⟨hp.picks [3] _ rfl rfl, ?_⟩)
        (repeat ((apply wdp; exact rfl); (intro w hp; intros; (apply pf_field <;> exact rfl)); (intros; exact fP rfl)))
        (apply wds0S; exact rfl; exact rfl; exact sstore1 hp 3 rfl rfl rfl rfl (sizeTy_ok rfl) rfl; rintro _ w ⟨rfl, hp⟩)
        (repeat ((apply wdp; exact rfl); (intro w hp; intros; (apply pf_field <;> exact rfl)); (intros; exact fP rfl)))
        (apply wds0S; exact rfl; exact rfl; exact sstore1 hp 3 rfl rfl rfl rfl (sizeTy_ok rfl) rfl; rintro _ w ⟨rfl, hp⟩)
        (repeat ((apply wdp; exact rfl); (intro w hp; intros; (apply pf_field <;> exact rfl)); (intros; exact fP rfl)))
        (apply wds0S; exact rfl; exact rfl; exact sstore1 hp 3 rfl rfl rfl rfl (sizeTy_ok rfl) rfl; rintro _ w ⟨rfl, hp⟩)
        have hp := hp.norm 3 (enC e ⟨sP, cP, sW, cW, sG, cG⟩) rfl rfl
        refine wpd_nil ?_
        (repeat (first | (with_reducible first | apply WP_region | apply thenQ_n) | (apply wlp; ((first | apply pv_move | (apply pf_loadb; exact rfl)) <;> (first | exact rfl | exact hp.agg_blk 3 rfl rfl)); (first | exact fS rfl | exact fA6 rfl))))
        (apply wls; exact sf_slice hp rfl rfl rfl rfl rfl rfl rfl; rintro _ w ⟨nb, rfl, hp⟩)
        (apply wls; exact sf_app1 eEn ins ((e, (⟨sP, cP, sW, cW, sG, cG⟩ : EnA)) : En × EnA) hp 5 0 rfl rfl rfl rfl rfl rfl (fun _ => rfl) rfl rfl rfl hvi rfl rfl (by omega); rintro _ w ⟨s', c', rfl, hv', hp⟩)
        have hp := (Hp.tail hp).dropAt 3
        have hp : Hp w0 [] w ([ownL eEn 46 6 s' c' (ins ++ [((e, (⟨sP, cP, sW, cW, sG, cG⟩ : EnA)) : En × EnA)]), ownL eT 91 2 so co outs, mapE kInt mb (setF (fun z => memD z ((ins.map fun y => y.1.id) ++ [e.id]))), blk db 13 (frOf (drC d a)) 30] ++ (ins.flatMap enOwn ++ enOwn ((e, (⟨sP, cP, sW, cW, sG, cG⟩ : EnA)) : En × EnA))) :=
          hp.perm ((((List.reverse_perm (enOwn ((e, (⟨sP, cP, sW, cW, sG, cG⟩ : EnA)) : En × EnA))).append_right _).trans (List.perm_append_comm_assoc (enOwn ((e, (⟨sP, cP, sW, cW, sG, cG⟩ : EnA)) : En × EnA)) [ownL eEn 46 6 s' c' (ins ++ [((e, (⟨sP, cP, sW, cW, sG, cG⟩ : EnA)) : En × EnA)]), ownL eT 91 2 so co outs, mapE kInt mb (setF (fun z => memD z ((ins.map fun y => y.1.id) ++ [e.id]))), blk db 13 (frOf (drC d a)) 30] (ins.flatMap enOwn))).trans (List.Perm.append_left _ List.perm_append_comm))
        (repeat (first | (with_reducible first | apply WP_region | apply wpl_nil | apply thenQ_n | apply inBlk_n) | (apply wlp; apply pv_assign; exact fS rfl)))
        (apply wlp; exact pv_add rfl rfl; exact int_eq (i64_in (by omega) (by omega)))
        (repeat (first | (with_reducible first | apply wpl_nil | apply thenQ_n) | (apply wlp; apply pv_move; exact fI rfl)))
        refine ⟨⟨i + 1, ins ++ [((e, (⟨sP, cP, sW, cW, sG, cG⟩ : EnA)) : En × EnA)], outs, s', c', so, co, none, 0⟩, put_self (put_self (put_self (Same.eq (by repeat (first | exact hsame | refine Same.put rfl ?_ | refine Same.putB rfl ?_))) rfl) rfl) rfl,
          ⟨by show i + 1 ≤ es.length; omega, by show (ins ++ [_]).length ≤ i + 1; simp; omega, by show outs.length ≤ i + 1; omega, hv', hvo, adm_in hadm hge hz, snoc_all hE ⟨vP, vW, vG⟩, ?_⟩, by show es.length - (i + 1) < es.length - i; omega⟩
        show Hp w0 [] w ([ownL eEn 46 6 s' c' (ins ++ [((e, (⟨sP, cP, sW, cW, sG, cG⟩ : EnA)) : En × EnA)]), ownL eT 91 2 so co outs, mapE kInt mb (setF (fun z => memD z ((ins ++ [((e, (⟨sP, cP, sW, cW, sG, cG⟩ : EnA)) : En × EnA)]).map fun y => y.1.id))), blk db 13 (frOf (drC d a)) 30] ++ (ins ++ [((e, (⟨sP, cP, sW, cW, sG, cG⟩ : EnA)) : En × EnA)]).flatMap enOwn)
        rw [List.map_append, List.flatMap_append]
        simpa using hp
  · have h : ¬ (i : Int) < es.length := h
    have hil : i = es.length := by omega
    (repeat (first | (with_reducible first | apply WP_seq | apply WP_region | apply wpl_nil | apply thenQ_n | apply thenQ_exit | apply WP_ret | apply WP_exit) | ((with_reducible apply inBlk_same); exact rfl) | (apply wlp; (first | apply pv_move | apply pv_assign); exact fS rfl)))
    refine ret_tmp2 rfl rfl rfl ⟨_, rfl, ins, outs, si, ci, so, co, rfl, hvi, hvo, ?_, hE, (hp.dropAt 3).dropAt 2⟩
    unfold adm
    rw [List.length_map, ← hil]
    exact hadm
end Go.Proofs.Ytgephdcapajaiaa
