/- Layer 14: types.Entrant and what it calls; conditions: rules and entrant lie in memory. -/
import Derived.Test.YtgephdcapajaiaaI
namespace Go.Proofs.Ytgephdcapajaiaa
open Go.Eng
attribute [local irreducible] PV StepF wpl wpd WP Ret

structure En where
  id : Int
  cls : Int
  fam : Int
  picks : List Int
  wishes : List ByteArray
  groups : List ByteArray
structure EnA where
  sP : Option Addr
  cP : Nat
  sW : Option Addr
  cW : Nat
  sG : Option Addr
  cG : Nat
def enV (e : En) (a : EnA) : Value := .agg #[.int .i64 e.id, .int .i64 e.cls, .int .i64 e.fam, .slice a.sP e.picks.length a.cP, .slice a.sW e.wishes.length a.cW, .slice a.sG e.groups.length a.cG]
structure EnAt (w : World) (e : En) (a : EnA) : Prop where
  picks : SlAt w 1 eI a.sP e.picks
  wishes : SlAt w 1 eS a.sW e.wishes
  groups : SlAt w 1 eS a.sG e.groups
theorem EnAt.keep {w w' : World} {d : En} {a : EnA} (h : EnAt w d a) (hk : Keeps [] w w') : EnAt w' d a := ⟨h.picks.keep0 hk, h.wishes.keep0 hk, h.groups.keep0 hk⟩

theorem c61 (s : Option Addr) (c : Nat) (l : List Int) (x : Int) (w : World) (hn : l.length ≤ 1000000000) (hs : SlAt w 1 eI s l) : Ret Try.prog 61 [.slice s l.length c, .int .i64 x] w (fun v w' => (∃ r : Int, v = .int .i64 r ∧ decide (0 ≤ r) = memD x l) ∧ Keeps [] w w') := by
  refine Ret.of_WP Try.func61 rfl Try.ntmps61 rfl ?_
  have hp := Hp.start (M := []) (w := w)
  (repeat (first | (with_reducible first | apply WP_seq | apply WP_block | apply WP_region | apply wpl_nil | apply thenQ_n) | (apply wlp; ((first | apply pv_move | apply pv_assign | (apply pf_len; exact rfl)) <;> exact rfl); (first | exact fI rfl | exact fS rfl))))
  refine WP_loopS [4, 5, 8, 9, 10, 11, 12, 13, 14, 15, 16, 17, 18] (fun (i : Nat) F => F.put 8 (.int .i64 i)) (fun i w' => i ≤ l.length ∧ Hp w [] w' [] ∧ ∀ j (hj : j < i) (hl : j < l.length), x ≠ l[j]) (fun i => l.length - i) 0 (put_self (Same.eq .refl) rfl) ⟨Nat.zero_le _, hp, by simp⟩ ?_
  clear hp
  rintro u i w1 ⟨hi, hp, hall⟩
  (repeat (first | (with_reducible first | apply WP_seq | apply WP_region | apply wpl_nil | apply thenQ_n) | (apply wlp; (apply pv_lss <;> exact rfl); exact fB rfl)))
  refine WP_cond_d rfl (fun h => ?_) (fun h => ?_)
  · have hlt : i < l.length := by omega
    obtain ⟨b0, o0, hs0, hc0⟩ := hs.base (by omega)
    have hci := hc0 i _ (List.getElem?_eq_getElem hlt) 0 _ rfl
    (repeat (first | (with_reducible first | apply WP_seq | apply WP_block | apply WP_region | apply wpl_nil | apply thenQ_n | apply WP_skip) | (apply wlp; ((first | apply pv_move | apply pv_assign | (apply pf_load; exact rfl) | (apply pv_eql; (first | exact rfl | exact ev_sel rfl (by assumption))) | (apply pf_index; exact rfl)) <;> (first | exact rfl | assumption | exact hp.old0 (by assumption))); (first | exact fI rfl | exact fB rfl | exact fP rfl | exact fS rfl))))
    refine WP_cond_d rfl (fun h2 => ?_) (fun h2 => ?_)
    · (repeat (first | (with_reducible first | apply WP_seq | apply WP_region | apply wpl_nil | apply thenQ_n | apply thenQ_ret | apply inBlk_ret | apply WP_ret) | (apply wlp; (first | apply pv_move | apply pv_assign); exact fI rfl)))
      refine ret_tmp rfl rfl ⟨_, rfl, ⟨_, rfl, ?_⟩, hp.keeps⟩
      unfold memD
      have : x ∈ l := by rw [h2]; exact List.getElem_mem hlt
      simp [this]
    · (repeat (with_reducible first | apply WP_region | apply thenQ_n | apply inBlk_n | apply WP_skip))
      (apply wlp; exact pv_add rfl rfl; exact int_eq (i64_in (by omega) (by omega)))
      (repeat (first | (with_reducible first | apply wpl_nil | apply thenQ_n) | (apply wlp; apply pv_move; exact fI rfl)))
      exact ⟨i + 1, put_self (Same.eq (by repeat (first | exact Same.hav | exact Same.refl | refine Same.put rfl ?_ | refine Same.havs rfl ?_))) rfl, ⟨by omega, hp, fun j hj hl => by
        by_cases e : j = i
        · subst e; exact h2
        · exact hall j (by omega) hl⟩, by omega⟩
  · have e : i = l.length := by omega
    subst e
    (repeat (first | (with_reducible first | apply WP_seq | apply WP_region | apply wpl_nil | apply thenQ_n | apply thenQ_exit | apply WP_ret | apply WP_exit) | ((with_reducible apply inBlk_same); exact rfl) | (apply wlp; exact pv_assign; exact rfl)))
    refine ret_tmp rfl rfl ⟨_, rfl, ⟨_, rfl, ?_⟩, hp.keeps⟩
    unfold memD
    rw [eq_comm]
    have : ¬ x ∈ l := by
      intro hm
      obtain ⟨j, hj, e⟩ := List.getElem_of_mem hm
      exact hall j hj hj e.symm
    simp [this]

theorem c38 (s : Option Addr) (c : Nat) (l : List Int) (x : Int) (w : World) (hn : l.length ≤ 1000000000) (hs : SlAt w 1 eI s l) : Ret Try.prog 38 [.slice s l.length c, .int .i64 x] w (fun v w' => v = .bool (memD x l) ∧ Keeps [] w w') := by
  refine Ret.of_WP Try.func38 rfl Try.ntmps38 rfl ?_
  have hp := Hp.start (M := []) (w := w)
  (repeat (first | (with_reducible first | apply WP_seq | apply WP_region | apply wpl_nil | apply thenQ_n) | (apply wlp; (first | apply pv_move | apply pv_assign); (first | exact fI rfl | exact fB rfl | exact fS rfl))))
  (apply wls; exact st_call rfl ent61 rfl (c61 s c l x _ hn hs))
  rintro _ w2 ⟨⟨r, rfl, hr⟩, hk⟩
  have hp := hp.call hk
  (repeat (first | (with_reducible first | apply wpl_nil | apply thenQ_n | apply WP_ret) | (apply wlp; ((first | apply pv_assign | apply pv_geq) <;> exact rfl); exact fB rfl)))
  exact ret_tmp rfl rfl ⟨_, rfl, bool_eq hr, hp.keeps⟩

theorem c64 (p : ByteArray × Int) (sb : Nat) (s : ByteArray) (w : World) (hc : w.cell? ⟨sb, 0, none⟩ = some (.string s)) : Ret Try.prog 64 [vP p, .pointer (some ⟨sb, 0, none⟩)] w (fun v w' => v = .bool (decide (p.1 = s)) ∧ Keeps [] w w') := by
  refine Ret.of_WP Try.func64 rfl Try.ntmps64 rfl ?_
  have hp := Hp.start (M := []) (w := w)
  (repeat (first | (with_reducible first | apply WP_seq | apply WP_region | apply wpl_nil | apply thenQ_n | apply WP_ret) | (apply wlp; ((first | apply pv_assign | apply pf_field | (apply pf_load; exact rfl) | (apply pv_seql; (first | exact rfl | exact ev_sel rfl (by assumption)))) <;> (first | exact rfl | exact hp.cell 0 rfl rfl | exact hp.old0 (by assumption))); (first | exact fB rfl | exact fP rfl | exact fT rfl)) | (apply wls; exact sbox2 hp rfl; rintro _ w ⟨b, rfl, hp⟩)))
  exact ret_tmp rfl rfl ⟨_, rfl, rfl, hp.keeps⟩

theorem c87 (sl : Option Addr) (c : Nat) (l : List (ByteArray × Int)) (sb : Nat) (x : ByteArray) (w : World) (hn : l.length ≤ 1000000000) (hs : SlAt w 2 eP sl l) (hx : w.cell? ⟨sb, 0, none⟩ = some (.string x)) :
    Ret Try.prog 87 [.slice sl l.length c, .func (.func 64) #[] #[.pointer (some ⟨sb, 0, none⟩)]] w (fun v w' => (∃ r : Int, v = .int .i64 r ∧ decide (0 ≤ r) = memD x (l.map (·.1))) ∧ Keeps [] w w') := by
  refine Ret.of_WP Try.func87 rfl Try.ntmps87 rfl ?_
  have hp := Hp.start (M := []) (w := w)
  (repeat (first | (with_reducible first | apply WP_seq | apply WP_block | apply WP_region | apply wpl_nil | apply thenQ_n) | (apply wlp; ((first | apply pv_move | apply pv_assign | (apply pf_len; exact rfl)) <;> exact rfl); (first | exact fI rfl | exact fS rfl))))
  refine WP_loopS [4, 5, 8, 9, 10, 11, 12, 13, 14, 15, 16, 17, 18] (fun (i : Nat) F => F.put 8 (.int .i64 i)) (fun i w' => i ≤ l.length ∧ Hp w [] w' [] ∧ ∀ j (hj : j < i) (hl : j < l.length), l[j].1 ≠ x) (fun i => l.length - i) 0 (put_self (Same.eq .refl) rfl) ⟨Nat.zero_le _, hp, by simp⟩ ?_
  clear hp
  rintro u i w1 ⟨hi, hp, hall⟩
  (repeat (first | (with_reducible first | apply WP_seq | apply WP_region | apply wpl_nil | apply thenQ_n) | (apply wlp; (apply pv_lss <;> exact rfl); exact fB rfl)))
  refine WP_cond_d rfl (fun h => ?_) (fun h => ?_)
  · have hlt : i < l.length := by omega
    obtain ⟨b0, o0, hs0, hc0⟩ := hs.base (by omega)
    have hci := List.getElem?_eq_getElem hlt
    have hc1 := hc0 i _ hci 0 _ rfl
    have hc2 := hc0 i _ hci 1 _ rfl
    (repeat (first | (with_reducible first | apply WP_seq | apply WP_block | apply WP_region | apply wpl_nil | apply thenQ_n | apply WP_skip) | (apply wlp; ((first | apply pv_move | apply pv_assign | (apply pf_loadb; exact rfl) | (apply pf_index; exact rfl)) <;> (first | exact rfl | assumption)); (first | exact fI rfl | exact fP rfl | exact fS rfl | exact fF1 rfl))))
    (apply wlp; (apply pf_loads (vs := eP l[i]); exact rfl; exact rfl; exact rfl; exact rfl; exact fun j v hv => hp.old0 (by match j, hv with | 0, hv => (cases hv; exact hc1) | 1, hv => (cases hv; exact hc2))); exact fA2 rfl)
    skip
    (apply wls; exact st_call rfl ent64 rfl (c64 l[i] sb x _ (hp.old0 hx)))
    rintro _ w2 ⟨rfl, hk⟩
    have hp := hp.call hk
    refine wpl_nil ?_
    (repeat with_reducible apply thenQ_n)
    refine WP_cond_d rfl (fun h2 => ?_) (fun h2 => ?_)
    · (repeat (first | (with_reducible first | apply WP_seq | apply WP_region | apply wpl_nil | apply thenQ_n | apply thenQ_ret | apply inBlk_ret | apply WP_ret) | (apply wlp; (first | apply pv_move | apply pv_assign); exact fI rfl)))
      refine ret_tmp rfl rfl ⟨_, rfl, ⟨_, rfl, ?_⟩, hp.keeps⟩
      unfold memD
      have : x ∈ l.map (·.1) := List.mem_map.2 ⟨l[i], List.getElem_mem hlt, h2⟩
      simp only [this, decide_true, decide_eq_true_eq]
      omega
    · (repeat (with_reducible first | apply WP_region | apply thenQ_n | apply inBlk_n | apply WP_skip))
      (apply wlp; exact pv_add rfl rfl; exact int_eq (i64_in (by omega) (by omega)))
      (repeat (first | (with_reducible first | apply wpl_nil | apply thenQ_n) | (apply wlp; apply pv_move; exact fI rfl)))
      exact ⟨i + 1, put_self (Same.eq (by repeat (first | exact Same.hav | exact Same.refl | refine Same.put rfl ?_ | refine Same.havs rfl ?_))) rfl, ⟨by omega, hp, fun j hj hl => by
        by_cases e : j = i
        · subst e; exact h2
        · exact hall j (by omega) hl⟩, by omega⟩
  · have e : i = l.length := by omega
    subst e
    (repeat (first | (with_reducible first | apply WP_seq | apply WP_region | apply wpl_nil | apply thenQ_n | apply thenQ_exit | apply WP_ret | apply WP_exit) | ((with_reducible apply inBlk_same); exact rfl) | (apply wlp; exact pv_assign; exact rfl)))
    refine ret_tmp rfl rfl ⟨_, rfl, ⟨_, rfl, ?_⟩, hp.keeps⟩
    unfold memD
    rw [eq_comm]
    have : ¬ x ∈ l.map (·.1) := by
      intro hm
      obtain ⟨y, hy, e⟩ := List.mem_map.1 hm
      obtain ⟨j, hj, e2⟩ := List.getElem_of_mem hy
      exact hall j hj hj (by rw [e2]; exact e)
    simp only [this, decide_false]
    rfl

theorem c63 (sl : Option Addr) (c : Nat) (l : List (ByteArray × Int)) (sb : Nat) (x : ByteArray) (w : World) (hn : l.length ≤ 1000000000) (hs : SlAt w 2 eP sl l) (hx : w.cell? ⟨sb, 0, none⟩ = some (.string x)) :
    Ret Try.prog 63 [.slice sl l.length c, .func (.func 64) #[] #[.pointer (some ⟨sb, 0, none⟩)]] w (fun v w' => v = .bool (memD x (l.map (·.1))) ∧ Keeps [] w w') := by
  refine Ret.of_WP Try.func63 rfl Try.ntmps63 rfl ?_
  have hp := Hp.start (M := []) (w := w)
  (repeat (first | (with_reducible first | apply WP_seq | apply WP_region | apply wpl_nil | apply thenQ_n) | (apply wlp; (first | apply pv_move | apply pv_assign); (first | exact fB rfl | exact fS rfl | exact fF1 rfl))))
  (apply wls; exact st_call rfl ent87 rfl (c87 sl c l sb x _ hn hs hx))
  rintro _ w2 ⟨⟨r, rfl, hr⟩, hk⟩
  have hp := hp.call hk
  (repeat (first | (with_reducible first | apply wpl_nil | apply thenQ_n | apply WP_ret) | (apply wlp; ((first | apply pv_assign | apply pv_geq) <;> exact rfl); exact fB rfl)))
  exact ret_tmp rfl rfl ⟨_, rfl, bool_eq hr, hp.keeps⟩

theorem c62 (sl : Option Addr) (c : Nat) (l : List (ByteArray × Int)) (db : Nat) (x : ByteArray) (w : World) (hn : l.length ≤ 1000000000) (hs : SlAt w 2 eP sl l) (hx : w.cell? ⟨db, 0 + 8, none⟩ = some (.slice sl l.length c)) :
    Ret Try.prog 62 [vS x, .pointer (some ⟨db, 0, none⟩)] w (fun v w' => v = .bool (memD x (l.map (·.1))) ∧ Keeps [] w w') := by
  refine Ret.of_WP Try.func62 rfl Try.ntmps62 rfl ?_
  have hp := Hp.start (M := []) (w := w)
  ((repeat (with_reducible first | apply WP_seq | apply WP_region)); apply wls; exact sbox1 hp rfl rfl; rintro _ w1 ⟨sb, rfl, hp⟩)
  have hs1 := hs.keep0 hp.keeps
  (repeat (first | (with_reducible first | apply WP_seq | apply WP_region | apply wpl_nil | apply thenQ_n) | (apply wlp; ((first | apply pv_assign | apply pf_field | (apply pf_load; exact rfl) | apply pv_func) <;> (first | exact rfl | exact hp.old0 (by assumption))); (first | exact fB rfl | exact fP rfl | exact fS rfl | exact fF1 rfl))))
  (apply wls; exact st_call rfl ent63 rfl (c63 sl c l sb x _ hn hs1 (hp.cell 0 rfl rfl)))
  rintro _ w2 ⟨rfl, hk⟩
  have hp := hp.call hk
  (repeat (first | (with_reducible first | apply wpl_nil | apply thenQ_n | apply WP_ret) | (apply wlp; apply pv_assign; exact fB rfl)))
  exact ret_tmp rfl rfl ⟨_, rfl, rfl, hp.keeps⟩

def okPicks (pool : Int) : Int → List Int → Bool
  | _, [] => true
  | last, n :: l => !(decide (n ≤ last) || decide (pool < n)) && okPicks pool n l
def ckPicks (d : Dr) (e : En) : Int := if ¬ (e.picks.length : Int) = d.pick then 15 else if okPicks d.pool 0 e.picks = true then 0 else 15

theorem okPicks_step {pool last : Int} {l : List Int} {i : Nat} (hi : i < l.length) : okPicks pool last (l.drop i) = (!(decide (l[i] ≤ last) || decide (pool < l[i])) && okPicks pool l[i] (l.drop (i + 1))) := by
  rw [List.drop_eq_getElem_cons hi]
  rfl

theorem c39 (d : Dr) (a : DrA) (e : En) (b : EnA) (w : World) (he : EnAt w e b) (hn : d.pick ≤ 1000000000) : Ret Try.prog 39 [drV d a, enV e b] w (fun v w' => v = .int .i64 (ckPicks d e) ∧ Keeps [] w w') := by
  refine Ret.of_WP Try.func39 rfl Try.ntmps39 rfl ?_
  have hp := Hp.start (M := []) (w := w)
  ((repeat (with_reducible first | apply WP_seq | apply WP_region)); apply wls; exact sbox13 hp rfl; rintro _ w1 ⟨db, rfl, hp⟩)
  ((repeat fail); apply wls; exact sbox6 hp rfl; rintro _ w2 ⟨eb, rfl, hp⟩)
  (repeat (first | (with_reducible first | apply WP_seq | apply WP_region | apply wpl_nil | apply thenQ_n) | (apply wlp; ((first | apply pv_assign | apply pf_field | (apply pf_load; exact rfl) | (apply pf_len; exact rfl) | (apply pv_neq; (first | exact rfl | exact ev_sel rfl (by assumption)))) <;> (first | exact rfl | exact hp.cell 0 rfl rfl | exact hp.cell 1 rfl rfl)); (first | exact fI rfl | exact fB rfl | exact fP rfl | exact fS rfl))))
  refine WP_cond_nd rfl (fun h => ?_) (fun h => ?_)
  · (repeat (first | (with_reducible first | apply WP_seq | apply WP_region | apply wpl_nil | apply thenQ_n | apply thenQ_ret | apply WP_ret) | (apply wlp; exact pv_assign; exact rfl)))
    exact ret_tmp rfl rfl ⟨_, rfl, int_eq (Eq.symm (if_pos h)), hp.keeps⟩
  have hl : (e.picks.length : Int) ≤ 1000000000 := by rw [h]; exact hn
  (repeat (first | (with_reducible first | apply WP_seq | apply WP_block | apply WP_region | apply wpl_nil | apply thenQ_n | apply WP_skip) | (apply wlp; ((first | apply pv_move | apply pv_assign | apply pf_field | (apply pf_load; exact rfl) | (apply pf_len; exact rfl)) <;> (first | exact rfl | exact hp.cell 0 rfl rfl)); (first | exact fI rfl | exact fP rfl | exact fS rfl))))
  refine WP_loop2 [4, 5, 7, 17, 18, 19, 20, 21, 22, 23, 24, 25, 26, 27, 28, 29, 30, 31] (fun (i : Nat) (last : Int) F => (F.put 5 (.int .i64 last)).put 17 (.int .i64 i))
    (fun i last w' => i ≤ e.picks.length ∧ Hp w [] w' [blk eb 6 (frOf [.int .i64 e.id, .int .i64 e.cls, .int .i64 e.fam, .slice b.sP e.picks.length b.cP, .slice b.sW e.wishes.length b.cW, .slice b.sG e.groups.length b.cG]) 46, blk db 13 (frOf [.string d.name, .int .i64 d.kind, .int .i64 d.round, .int .i64 d.price, .int .i64 d.pool, .int .i64 d.pick, .slice a.sT d.tiers.length a.cT, .bool d.roll, .slice a.sP d.places.length a.cP, .int .i64 d.cls, .int .i64 d.size, .slice a.sQ d.quotas.length a.cQ, .slice a.sB d.barred.length a.cB]) 30] ∧ okPicks d.pool 0 e.picks = okPicks d.pool last (e.picks.drop i))
    (fun i _ => e.picks.length - i) 0 0 (put_self (put_self (Same.eq .refl) rfl) rfl) ⟨Nat.zero_le _, hp, rfl⟩ ?_
  clear hp
  rintro u i last w3 ⟨hi, hp, hok⟩
  (repeat (first | (with_reducible first | apply WP_seq | apply WP_region | apply wpl_nil | apply thenQ_n) | (apply wlp; (apply pv_lss <;> exact rfl); exact fB rfl)))
  refine WP_cond_d rfl (fun h1 => ?_) (fun h1 => ?_)
  · have hlt : i < e.picks.length := by omega
    obtain ⟨b0, o0, hs0, hc0⟩ := he.picks.base (by omega)
    have hc1 := hc0 i _ (List.getElem?_eq_getElem hlt) 0 _ rfl
    rw [okPicks_step hlt] at hok
    (repeat (first | (with_reducible first | apply WP_seq | apply WP_block | apply WP_region | apply wpl_nil | apply thenQ_n | apply WP_skip) | ((first | apply wlp | (apply wlg; exact rfl; exact rfl)); (intros; ((first | apply pv_move | apply pv_assign | apply pf_field | (apply pf_load; exact rfl) | exact pv_or rfl rfl rfl | apply pv_leq | apply pv_gtr | (apply pf_index; exact rfl)) <;> (first | exact rfl | exact ev_sel rfl (by assumption) | assumption | exact hp.cell 1 rfl rfl | exact hp.old0 (by assumption)))); (intros; (first | exact fI rfl | exact fB rfl | exact fP rfl)))))
    refine WP_cond rfl (fun h2 => ?_) (fun h2 => ?_)
    · (repeat (first | (with_reducible first | apply WP_seq | apply WP_region | apply wpl_nil | apply thenQ_n | apply thenQ_ret | apply inBlk_ret | apply WP_ret) | (apply wlp; exact pv_assign; exact rfl)))
      refine ret_tmp rfl rfl ⟨_, rfl, int_eq (Eq.symm ((if_neg (not_not_intro h)).trans (if_neg ?_))), hp.keeps⟩
      rw [hok, h2]
      simp
    · rw [h2] at hok
      simp only [Bool.not_false, Bool.true_and] at hok
      (repeat (first | (with_reducible first | apply WP_region | apply wpl_nil | apply thenQ_n | apply inBlk_n | apply WP_skip) | (apply wlp; (first | apply pv_move | apply pv_assign); exact fI rfl)))
      (apply wlp; exact pv_add rfl rfl; exact int_eq (i64_in (by omega) (by omega)))
      (repeat (first | (with_reducible first | apply wpl_nil | apply thenQ_n) | (apply wlp; apply pv_move; exact fI rfl)))
      exact ⟨i + 1, e.picks[i], put_self (put_self (Same.eq (by repeat (first | exact Same.hav | exact Same.refl | refine Same.put rfl ?_ | refine Same.havs rfl ?_))) rfl) rfl, ⟨by omega, hp, hok⟩, by omega⟩
  · have ee : i = e.picks.length := by omega
    subst ee
    rw [List.drop_length] at hok
    (repeat (first | (with_reducible first | apply WP_seq | apply WP_region | apply wpl_nil | apply thenQ_n | apply thenQ_exit | apply WP_ret | apply WP_exit) | ((with_reducible apply inBlk_same); exact rfl) | (apply wlp; exact pv_assign; exact rfl)))
    exact ret_tmp rfl rfl ⟨_, rfl, int_eq (Eq.symm ((if_neg (not_not_intro h)).trans (if_pos hok))), hp.keeps⟩

def badCF (d : Dr) (e : En) : Bool := ((decide (e.cls < 0) || decide (d.cls < e.cls)) || decide (e.fam < 0)) || decide (1000000000 < e.fam)
def ckWishes (d : Dr) (e : En) : Int :=
  if badCF d e = true then 15
  else if (d.places.length : Int) < e.wishes.length then 2
  else if e.wishes.all (fun x => memD x (d.places.map (·.1))) = false then 13
  else if nodupB e.wishes = false then 33
  else 0
theorem c40 (d : Dr) (a : DrA) (e : En) (b : EnA) (w : World) (hd : DrAt w d a) (he : EnAt w e b) (hn : d.places.length ≤ 1000000000) : Ret Try.prog 40 [drV d a, enV e b] w (fun v w' => v = .int .i64 (ckWishes d e) ∧ Keeps [] w w') := by
  refine Ret.of_WP Try.func40 rfl Try.ntmps40 rfl ?_
  have hp := Hp.start (M := []) (w := w)
  ((repeat (with_reducible first | apply WP_seq | apply WP_region)); apply wls; exact sbox13 hp rfl; rintro _ w1 ⟨db, rfl, hp⟩)
  ((repeat fail); apply wls; exact sbox6 hp rfl; rintro _ w2 ⟨eb, rfl, hp⟩)
  (repeat (first | (with_reducible first | apply WP_seq | apply WP_region | apply wpl_nil | apply thenQ_n) | ((first | apply wlp | (apply wlg; exact rfl; exact rfl)); (intros; ((first | apply pv_move | apply pv_assign | apply pf_field | (apply pf_load; exact rfl) | exact pv_or rfl rfl rfl | apply pv_lss | apply pv_gtr) <;> (first | exact rfl | exact ev_sel rfl (by assumption) | exact hp.cell 0 rfl rfl | exact hp.cell 1 rfl rfl))); (intros; (first | exact fI rfl | exact fB rfl | exact fP rfl)))))
  refine WP_cond rfl (fun h => ?_) (fun h => ?_)
  · (repeat (first | (with_reducible first | apply WP_seq | apply WP_region | apply wpl_nil | apply thenQ_n | apply thenQ_ret | apply WP_ret) | (apply wlp; exact pv_assign; exact rfl)))
    exact ret_tmp rfl rfl ⟨_, rfl, int_eq (Eq.symm (if_pos h)), hp.keeps⟩
  have h1 : ¬ badCF d e = true := neT h
  (repeat (first | (with_reducible first | apply WP_seq | apply WP_region | apply wpl_nil | apply thenQ_n | apply WP_skip) | (apply wlp; ((first | apply pf_field | (apply pf_load; exact rfl) | (apply pf_len; exact rfl) | apply pv_gtr) <;> (first | exact rfl | exact hp.cell 0 rfl rfl | exact hp.cell 1 rfl rfl)); (first | exact fI rfl | exact fB rfl | exact fP rfl | exact fS rfl))))
  refine WP_cond_d rfl (fun h => ?_) (fun h2 => ?_)
  · (repeat (first | (with_reducible first | apply WP_seq | apply WP_region | apply wpl_nil | apply thenQ_n | apply thenQ_ret | apply WP_ret) | (apply wlp; exact pv_assign; exact rfl)))
    exact ret_tmp rfl rfl ⟨_, rfl, int_eq (Eq.symm ((if_neg h1).trans (if_pos h))), hp.keeps⟩
  have hl : e.wishes.length ≤ 1000000000 := by omega
  (repeat (first | (with_reducible first | apply WP_seq | apply WP_region | apply wpl_nil | apply thenQ_n | apply WP_skip) | (apply wlp; ((first | apply pv_move | apply pv_assign | apply pf_field | (apply pf_load; exact rfl) | apply pv_func) <;> (first | exact rfl | exact hp.cell 0 rfl rfl)); (first | exact fP rfl | exact fS rfl | exact fF1 rfl))))
  have hpl : w2.cell? ⟨db, 0 + 8, none⟩ = some (.slice a.sP d.places.length a.cP) := hp.cell 1 rfl rfl
  have hdp := hd.places.keep0 hp.keeps
  have hc := c65 62 #[.pointer (some ⟨db, 0, none⟩)] ent62 [] (fun _ w' => Keeps [] w2 w') (pA e.wishes (fun x => memD x (d.places.map (·.1)))) b.sW b.cW e.wishes w2 hl (he.wishes.keep0 hp.keeps) (by simp) .refl (fun _ _ _ h hk => h.trans hk (by simp))
    (fun i x w' hx h => (c62 a.sP a.cP d.places db x w' hn (hdp.keep0 h) (h.cell hpl (by simp))).mono (fun v w'' ⟨hv, hk⟩ => ⟨by rw [hv, pA_at hx], hk, fun _ => h.trans hk (by simp)⟩))
  rw [pA_all] at hc
  (apply wls; exact st_call rfl ent65 rfl hc)
  clear hc
  rintro _ w3 ⟨rfl, hk, _⟩
  have hp := hp.call hk
  (repeat (first | (with_reducible first | apply wpl_nil | apply thenQ_n) | (apply wlp; (apply pv_not <;> exact rfl); exact fB rfl)))
  refine WP_cond rfl (fun h => ?_) (fun h => ?_)
  · (repeat (first | (with_reducible first | apply WP_seq | apply WP_region | apply wpl_nil | apply thenQ_n | apply thenQ_ret | apply WP_ret) | (apply wlp; exact pv_assign; exact rfl)))
    exact ret_tmp rfl rfl ⟨_, rfl, int_eq (Eq.symm ((if_neg h1).trans ((if_neg h2).trans (if_pos (by simpa using h))))), hp.keeps⟩
  have h3 : ¬ e.wishes.all (fun x => memD x (d.places.map (·.1))) = false := by simpa using h
  (repeat (first | (with_reducible first | apply WP_seq | apply WP_region | apply thenQ_n | apply WP_skip) | (apply wlp; ((first | apply pf_field | (apply pf_load; exact rfl)) <;> (first | exact rfl | exact hp.cell 0 rfl rfl)); (first | exact fP rfl | exact fS rfl))))
  have hc := c66 id 67 ent67 b.sW b.cW e.wishes _ hl (he.wishes.keep0 hp.keeps) (fun x w' => c67 x w')
  rw [List.map_id] at hc
  (apply wls; exact st_call rfl ent66 rfl hc)
  clear hc
  rintro _ w' ⟨rfl, hk⟩
  have hp := hp.call hk
  (repeat (first | (with_reducible first | apply wpl_nil | apply thenQ_n) | (apply wlp; (apply pv_not <;> exact rfl); exact fB rfl)))
  refine WP_cond rfl (fun h => ?_) (fun h => ?_)
  · (repeat (first | (with_reducible first | apply WP_seq | apply WP_region | apply wpl_nil | apply thenQ_n | apply thenQ_ret | apply WP_ret) | (apply wlp; exact pv_assign; exact rfl)))
    exact ret_tmp rfl rfl ⟨_, rfl, int_eq (Eq.symm ((if_neg h1).trans ((if_neg h2).trans ((if_neg h3).trans (if_pos (by simpa using h)))))), hp.keeps⟩
  · (repeat (first | (with_reducible first | apply WP_seq | apply WP_region | apply wpl_nil | apply thenQ_n | apply WP_ret | apply WP_skip) | (apply wlp; exact pv_assign; exact rfl)))
    exact ret_tmp rfl rfl ⟨_, rfl, int_eq (Eq.symm ((if_neg h1).trans ((if_neg h2).trans ((if_neg h3).trans (if_neg (by simpa using h)))))), hp.keeps⟩

def ckGroups (e : En) : Int :=
  if 12 < (e.groups.length : Int) then 2
  else if e.groups.all isWordB = false then 13
  else if nodupB e.groups = false then 33
  else 0
theorem c41 (e : En) (b : EnA) (w : World) (he : EnAt w e b) : Ret Try.prog 41 [enV e b] w (fun v w' => v = .int .i64 (ckGroups e) ∧ Keeps [] w w') := by
  refine Ret.of_WP Try.func41 rfl Try.ntmps41 rfl ?_
  have hp := Hp.start (M := []) (w := w)
  ((repeat (with_reducible first | apply WP_seq | apply WP_region)); apply wls; exact sbox6 hp rfl; rintro _ w2 ⟨eb, rfl, hp⟩)
  (repeat (first | (with_reducible first | apply WP_seq | apply WP_region | apply wpl_nil | apply thenQ_n) | (apply wlp; ((first | apply pv_assign | apply pf_field | (apply pf_load; exact rfl) | (apply pf_len; exact rfl) | apply pv_gtr) <;> (first | exact rfl | exact hp.cell 0 rfl rfl)); (first | exact fI rfl | exact fB rfl | exact fP rfl | exact fS rfl))))
  refine WP_cond_d rfl (fun h => ?_) (fun h2 => ?_)
  · (repeat (first | (with_reducible first | apply WP_seq | apply WP_region | apply wpl_nil | apply thenQ_n | apply thenQ_ret | apply WP_ret) | (apply wlp; exact pv_assign; exact rfl)))
    exact ret_tmp rfl rfl ⟨_, rfl, int_eq (Eq.symm (if_pos h)), hp.keeps⟩
  have hl : e.groups.length ≤ 1000000000 := by omega
  (repeat (first | (with_reducible first | apply WP_seq | apply WP_region | apply thenQ_n | apply WP_skip) | (apply wlp; ((first | apply pf_field | (apply pf_load; exact rfl)) <;> (first | exact rfl | exact hp.cell 0 rfl rfl)); (first | exact fP rfl | exact fS rfl))))
  have hc := c65 68 #[] ent68 [] (fun _ _ => True) (pA e.groups isWordB) b.sG b.cG e.groups _ hl (he.groups.keep0 hp.keeps) (by simp) trivial (fun _ _ _ _ _ => trivial)
    (fun i x w' hx _ => (c68 x w').mono (fun v w'' ⟨hv, hk⟩ => ⟨by rw [hv, pA_at hx], hk, fun _ => trivial⟩))
  rw [pA_all] at hc
  (apply wls; exact st_call rfl ent65 rfl hc)
  clear hc
  rintro _ w3 ⟨rfl, hk, _⟩
  have hp := hp.call hk
  (repeat (first | (with_reducible first | apply wpl_nil | apply thenQ_n) | (apply wlp; (apply pv_not <;> exact rfl); exact fB rfl)))
  refine WP_cond rfl (fun h => ?_) (fun h => ?_)
  · (repeat (first | (with_reducible first | apply WP_seq | apply WP_region | apply wpl_nil | apply thenQ_n | apply thenQ_ret | apply WP_ret) | (apply wlp; exact pv_assign; exact rfl)))
    exact ret_tmp rfl rfl ⟨_, rfl, int_eq (Eq.symm ((if_neg h2).trans (if_pos (by simpa using h)))), hp.keeps⟩
  have h3 : ¬ e.groups.all isWordB = false := by simpa using h
  (repeat (first | (with_reducible first | apply WP_seq | apply WP_region | apply thenQ_n | apply WP_skip) | (apply wlp; ((first | apply pf_field | (apply pf_load; exact rfl)) <;> (first | exact rfl | exact hp.cell 0 rfl rfl)); (first | exact fP rfl | exact fS rfl))))
  have hc := c66 id 67 ent67 b.sG b.cG e.groups _ hl (he.groups.keep0 hp.keeps) (fun x w' => c67 x w')
  rw [List.map_id] at hc
  (apply wls; exact st_call rfl ent66 rfl hc)
  clear hc
  rintro _ w' ⟨rfl, hk⟩
  have hp := hp.call hk
  (repeat (first | (with_reducible first | apply wpl_nil | apply thenQ_n) | (apply wlp; (apply pv_not <;> exact rfl); exact fB rfl)))
  refine WP_cond rfl (fun h => ?_) (fun h => ?_)
  · (repeat (first | (with_reducible first | apply WP_seq | apply WP_region | apply wpl_nil | apply thenQ_n | apply thenQ_ret | apply WP_ret) | (apply wlp; exact pv_assign; exact rfl)))
    exact ret_tmp rfl rfl ⟨_, rfl, int_eq (Eq.symm ((if_neg h2).trans ((if_neg h3).trans (if_pos (by simpa using h))))), hp.keeps⟩
  · (repeat (first | (with_reducible first | apply WP_seq | apply WP_region | apply wpl_nil | apply thenQ_n | apply WP_ret | apply WP_skip) | (apply wlp; exact pv_assign; exact rfl)))
    exact ret_tmp rfl rfl ⟨_, rfl, int_eq (Eq.symm ((if_neg h2).trans ((if_neg h3).trans (if_neg (by simpa using h))))), hp.keeps⟩

theorem chk_zero {d : Dr} (h : (chk d).2 = 0) : ∀ j, j < 12 → clBad d j = false := by
  unfold chk at h
  split at h
  · rename_i i hi
    have := List.find?_some hi
    unfold clBad at this
    simp at this
    exact absurd h this.2
  · rename_i hi
    rw [List.find?_eq_none] at hi
    intro j hj
    simpa using hi j (by simpa using hj)
theorem clR_zero {d : Dr} {i : Nat} (hk : clK i = 0 ∨ clK i = d.kind) (h : clBad d i = false) : clR d i = 0 := by
  by_cases e : clR d i = 0
  · exact e
  · rw [bad_of hk e] at h; cases h
theorem within_zero {n lo hi : Int} (h : within n lo hi = 0) : lo ≤ n ∧ n ≤ hi := by
  unfold within at h
  split at h <;> omega
theorem chk_kind {d : Dr} (h : (chk d).2 = 0) : d.kind = 1 ∨ d.kind = 2 ∨ d.kind = 3 := by
  have := clR_zero (.inl rfl) (chk_zero h 1 (by omega))
  have e : ckKind d = 0 := this
  unfold ckKind at e
  by_cases h1 : d.kind = 1
  · exact .inl h1
  by_cases h2 : d.kind = 2
  · exact .inr (.inl h2)
  by_cases h3 : d.kind = 3
  · exact .inr (.inr h3)
  simp [h1, h2, h3] at e
theorem chk_bar {d : Dr} (h : (chk d).2 = 0) : d.barred.length ≤ 40 := by
  have : ckBar d = 0 := clR_zero (.inl rfl) (chk_zero h 4 (by omega))
  unfold ckBar at this
  split at this
  · cases this
  · omega
theorem chk_pick {d : Dr} (h : (chk d).2 = 0) (hk : d.kind = 1) : (1 ≤ d.pool ∧ d.pool ≤ 60) ∧ 1 ≤ d.pick ∧ d.pick ≤ 10 ∧ d.pick ≤ d.pool := by
  have h1 := within_zero (clR_zero (i := 5) (.inr hk.symm) (chk_zero h 5 (by omega)))
  have h2 := within_zero (clR_zero (i := 6) (.inr hk.symm) (chk_zero h 6 (by omega)))
  exact ⟨h1, h2.1, by omega, by omega⟩
theorem chk_places {d : Dr} (h : (chk d).2 = 0) (hk : d.kind = 2) : 1 ≤ d.places.length ∧ d.places.length ≤ 12 := by
  have : ckPlaces d = 0 := clR_zero (i := 8) (.inr hk.symm) (chk_zero h 8 (by omega))
  unfold ckPlaces at this
  split at this
  · cases this
  · rename_i h
    unfold lenBad at h
    simp at h
    omega

def fW (e : En) : Bool := ((!decide (e.cls = 0)) || (!decide (e.fam = 0))) || decide (0 < (e.wishes.length : Int))
def fP' (e : En) : Bool := decide (0 < (e.picks.length : Int))
def fG (e : En) : Bool := decide (0 < (e.groups.length : Int))
def entC (d : Dr) (e : En) : Int :=
  if ¬ (chk d).2 = 0 then 1
  else if ¬ within e.id 1 1000000000 = 0 then 15
  else if memD e.id d.barred = true then 35
  else if d.kind = 1 then (if (fW e || fG e) = true then 14 else ckPicks d e)
  else if d.kind = 2 then (if (fP' e || fG e) = true then 14 else ckWishes d e)
  else if (fP' e || fW e) = true then 14 else ckGroups e

theorem c18 (d : Dr) (a : DrA) (e : En) (b : EnA) (w : World) (hd : DrAt w d a) (he : EnAt w e b) : Ret Try.prog 18 [drV d a, enV e b] w (fun v w' => v = .int .i64 (entC d e) ∧ Keeps [] w w') := by
  refine Ret.of_WP Try.func18 rfl Try.ntmps18 rfl ?_
  have hp := Hp.start (M := []) (w := w)
  ((repeat (with_reducible first | apply WP_seq | apply WP_region)); apply wls; exact sbox13 hp rfl; rintro _ w1 ⟨db, rfl, hp⟩)
  ((repeat fail); apply wls; exact sbox6 hp rfl; rintro _ w2 ⟨eb, rfl, hp⟩)
  (repeat (first | (with_reducible first | apply WP_seq | apply WP_region | apply wpl_nil | apply thenQ_n) | (apply wlp; ((first | apply pv_assign | (apply pf_loadb; exact rfl)) <;> (first | exact rfl | exact hp.agg_blk 1 rfl rfl)); (first | exact fI rfl | exact fA13 rfl))))
  (apply wls; exact st_call rfl ent13 rfl (c13 d a _ (hd.keep hp.keeps)))
  rintro _ w3 ⟨rfl, hk⟩
  have hp := hp.call hk
  (repeat (first | (with_reducible first | apply WP_seq | apply WP_region | apply wpl_nil | apply thenQ_n) | (apply wlp; ((first | apply pv_move | apply pv_assign | (apply pv_neq; (first | exact rfl | exact ev_sel rfl (by assumption))) | apply pv_extract) <;> exact rfl); (first | exact fI rfl | exact fB rfl | exact fT rfl | exact fU rfl))))
  refine WP_cond_nd rfl (fun h => ?_) (fun h1 => ?_)
  · (repeat (first | (with_reducible first | apply WP_seq | apply WP_region | apply wpl_nil | apply thenQ_n | apply thenQ_ret | apply WP_ret) | (apply wlp; exact pv_assign; exact rfl)))
    exact ret_tmp rfl rfl ⟨_, rfl, int_eq (Eq.symm (if_pos h)), hp.keeps⟩
  (repeat (first | (with_reducible first | apply WP_seq | apply WP_region | apply thenQ_n | apply WP_skip) | (apply wlp; ((first | apply pf_field | (apply pf_load; exact rfl)) <;> (first | exact rfl | exact hp.cell 0 rfl rfl)); (first | exact fI rfl | exact fP rfl))))
  (apply wls; exact st_call rfl ent37 rfl (c37 _ _ _ _))
  rintro _ w4 ⟨rfl, hk⟩
  have hp := hp.call hk
  (repeat (first | (with_reducible first | apply wpl_nil | apply thenQ_n) | (apply wlp; ((apply pv_neq; (first | exact rfl | exact ev_sel rfl (by assumption))) <;> exact rfl); exact fB rfl)))
  refine WP_cond_nd rfl (fun h => ?_) (fun h2 => ?_)
  · (repeat (first | (with_reducible first | apply WP_seq | apply WP_region | apply wpl_nil | apply thenQ_n | apply thenQ_ret | apply WP_ret) | (apply wlp; exact pv_assign; exact rfl)))
    exact ret_tmp rfl rfl ⟨_, rfl, int_eq (Eq.symm ((if_neg (not_not_intro h1)).trans (if_pos h))), hp.keeps⟩
  have hbar := chk_bar h1
  (repeat (first | (with_reducible first | apply WP_seq | apply WP_region | apply thenQ_n | apply WP_skip) | (apply wlp; ((first | apply pf_field | (apply pf_load; exact rfl)) <;> (first | exact rfl | exact hp.cell 0 rfl rfl | exact hp.cell 1 rfl rfl)); (first | exact fI rfl | exact fP rfl | exact fS rfl))))
  (apply wls; exact st_call rfl ent38 rfl (c38 _ _ d.barred _ _ (by omega) (hd.barred.keep0 hp.keeps)))
  rintro _ w5 ⟨rfl, hk⟩
  have hp := hp.call hk
  (repeat (with_reducible first | apply wpl_nil | apply thenQ_n))
  refine WP_cond rfl (fun h => ?_) (fun h3 => ?_)
  · (repeat (first | (with_reducible first | apply WP_seq | apply WP_region | apply wpl_nil | apply thenQ_n | apply thenQ_ret | apply WP_ret) | (apply wlp; exact pv_assign; exact rfl)))
    exact ret_tmp rfl rfl ⟨_, rfl, int_eq (Eq.symm ((if_neg (not_not_intro h1)).trans ((if_neg (not_not_intro h2)).trans (if_pos h)))), hp.keeps⟩
  have h3 := neT h3
  have hh : ∀ {x y : Int}, (if d.kind = 1 then (if (fW e || fG e) = true then 14 else ckPicks d e)
  else if d.kind = 2 then (if (fP' e || fG e) = true then 14 else ckWishes d e)
  else if (fP' e || fW e) = true then 14 else ckGroups e) = x → x = y → entC d e = y := by
    intro x y h h'
    rw [← h', ← h]
    exact (if_neg (not_not_intro h1)).trans ((if_neg (not_not_intro h2)).trans (if_neg h3))
  (repeat (first | (with_reducible first | apply WP_seq | apply WP_block | apply WP_region | apply wpl_nil | apply thenQ_n | apply WP_skip) | ((first | apply wlp | (apply wlg; exact rfl; exact rfl)); (intros; ((first | apply pv_move | apply pv_assign | apply pf_field | (apply pf_load; exact rfl) | (apply pf_len; exact rfl) | exact pv_or rfl rfl rfl | apply pv_gtr | (apply pv_eql; (first | exact rfl | exact ev_sel rfl (by assumption))) | (apply pv_neq; (first | exact rfl | exact ev_sel rfl (by assumption)))) <;> (first | exact rfl | exact ev_sel rfl (by assumption) | exact hp.cell 0 rfl rfl | exact hp.cell 1 rfl rfl))); (intros; (first | exact fI rfl | exact fB rfl | exact fP rfl | exact fS rfl)))))
  refine WP_cond_d rfl (fun hk1 => ?_) (fun hk1 => ?_)
  · (repeat (first | (with_reducible first | apply WP_seq | apply WP_region | apply wpl_nil | apply thenQ_n) | ((first | apply wlp | (apply wlg; exact rfl; exact rfl)); (intros; (first | apply pv_move | exact pv_or rfl rfl rfl)); (intros; exact fB rfl))))
    refine WP_cond rfl (fun h4 => ?_) (fun h4 => ?_)
    · (repeat (first | (with_reducible first | apply WP_seq | apply WP_region | apply wpl_nil | apply thenQ_n | apply thenQ_ret | apply inBlk_ret | apply WP_ret) | (apply wlp; exact pv_assign; exact rfl)))
      exact ret_tmp rfl rfl ⟨_, rfl, int_eq (hh (if_pos hk1) (if_pos h4)).symm, hp.keeps⟩
    have hpk := chk_pick h1 hk1
    (repeat (first | (with_reducible first | apply WP_seq | apply WP_region | apply thenQ_n | apply WP_skip) | (apply wlp; ((apply pf_loadb; exact rfl) <;> (first | exact rfl | exact hp.agg_blk 0 rfl rfl | exact hp.agg_blk 1 rfl rfl)); (first | exact fA6 rfl | exact fA13 rfl))))
    (apply wls; exact st_call rfl ent39 rfl (c39 d a e b _ (he.keep hp.keeps) (by omega)))
    rintro _ w6 ⟨rfl, hk⟩
    have hp := hp.call hk
    (repeat (first | (with_reducible first | apply wpl_nil | apply thenQ_n | apply thenQ_ret | apply inBlk_ret | apply WP_ret) | (apply wlp; apply pv_assign; exact fI rfl)))
    exact ret_tmp rfl rfl ⟨_, rfl, int_eq (hh (if_pos hk1) (if_neg (neT h4))).symm, hp.keeps⟩
  (repeat (first | (with_reducible first | apply WP_seq | apply WP_region | apply wpl_nil | apply thenQ_n) | (apply wlp; ((first | apply pv_assign | (apply pv_eql; (first | exact rfl | exact ev_sel rfl (by assumption)))) <;> exact rfl); exact fB rfl)))
  refine WP_cond_d rfl (fun hk2 => ?_) (fun hk2 => ?_)
  · (repeat (first | (with_reducible first | apply WP_seq | apply WP_region | apply wpl_nil | apply thenQ_n) | ((first | apply wlp | (apply wlg; exact rfl; exact rfl)); (intros; (first | apply pv_move | exact pv_or rfl rfl rfl)); (intros; exact fB rfl))))
    refine WP_cond rfl (fun h4 => ?_) (fun h4 => ?_)
    · (repeat (first | (with_reducible first | apply WP_seq | apply WP_region | apply wpl_nil | apply thenQ_n | apply thenQ_ret | apply inBlk_ret | apply WP_ret) | (apply wlp; exact pv_assign; exact rfl)))
      exact ret_tmp rfl rfl ⟨_, rfl, int_eq (hh ((if_neg hk1).trans (if_pos hk2)) (if_pos h4)).symm, hp.keeps⟩
    have hpl := chk_places h1 hk2
    (repeat (first | (with_reducible first | apply WP_seq | apply WP_region | apply thenQ_n | apply WP_skip) | (apply wlp; ((apply pf_loadb; exact rfl) <;> (first | exact rfl | exact hp.agg_blk 0 rfl rfl | exact hp.agg_blk 1 rfl rfl)); (first | exact fA6 rfl | exact fA13 rfl))))
    (apply wls; exact st_call rfl ent40 rfl (c40 d a e b _ (hd.keep hp.keeps) (he.keep hp.keeps) (by omega)))
    rintro _ w6 ⟨rfl, hk⟩
    have hp := hp.call hk
    (repeat (first | (with_reducible first | apply wpl_nil | apply thenQ_n | apply thenQ_ret | apply inBlk_ret | apply WP_ret) | (apply wlp; apply pv_assign; exact fI rfl)))
    exact ret_tmp rfl rfl ⟨_, rfl, int_eq (hh ((if_neg hk1).trans (if_pos hk2)) (if_neg (neT h4))).symm, hp.keeps⟩
  (repeat (first | (with_reducible first | apply WP_seq | apply WP_region | apply wpl_nil | apply thenQ_n | apply inBlk_n | apply WP_skip) | ((first | apply wlp | (apply wlg; exact rfl; exact rfl)); (intros; (first | apply pv_move | exact pv_or rfl rfl rfl)); (intros; exact fB rfl))))
  refine WP_cond rfl (fun h4 => ?_) (fun h4 => ?_)
  · (repeat (first | (with_reducible first | apply WP_seq | apply WP_region | apply wpl_nil | apply thenQ_n | apply thenQ_ret | apply WP_ret) | (apply wlp; exact pv_assign; exact rfl)))
    exact ret_tmp rfl rfl ⟨_, rfl, int_eq (hh ((if_neg hk1).trans (if_neg hk2)) (if_pos h4)).symm, hp.keeps⟩
  (repeat (first | (with_reducible first | apply WP_seq | apply WP_region | apply thenQ_n | apply WP_skip) | (apply wlp; ((apply pf_loadb; exact rfl) <;> (first | exact rfl | exact hp.agg_blk 0 rfl rfl)); exact fA6 rfl)))
  (apply wls; exact st_call rfl ent41 rfl (c41 e b _ (he.keep hp.keeps)))
  rintro _ w6 ⟨rfl, hk⟩
  have hp := hp.call hk
  (repeat (first | (with_reducible first | apply wpl_nil | apply thenQ_n | apply WP_ret) | (apply wlp; apply pv_assign; exact fI rfl)))
  exact ret_tmp rfl rfl ⟨_, rfl, int_eq (hh ((if_neg hk1).trans (if_neg hk2)) (if_neg (neT h4))).symm, hp.keeps⟩
end Go.Proofs.Ytgephdcapajaiaa
