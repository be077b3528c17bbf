/- Layer 14: Check, whole; conditions: the rules lie in memory. -/
import Derived.Test.YtgephdcapajaiaaE
namespace Go.Proofs.Ytgephdcapajaiaa
open Go.Eng
attribute [local irreducible] PV StepF wpl wpd WP Ret

def ckTiers (d : Dr) : Int :=
  if lenBad d.tiers.length = true then 2
  else if d.tiers.all (tierOk d.pick) = false then 15
  else if nodupB (d.tiers.map (·.1)) = false then 33
  else within (sum2 d.tiers) 0 100

theorem sumW_eq (pick : Int) (l : List (Int × Int)) (hl : l.length ≤ 12) (h : l.all (tierOk pick) = true) : sumW l = sum2 l := by
  have key : ∀ (l : List (Int × Int)) (a : Int), l.all (tierOk pick) = true → 0 ≤ a → a + 100 * l.length ≤ 1000000 → l.foldl (fun a t => IntKind.i64.wrap (a + t.2)) a = a + sum2 l := by
    intro l
    induction l with
    | nil => intro a _ _ _; simp [sum2]
    | cons t l ih =>
      intro a h ha hb
      simp only [List.all_cons, Bool.and_eq_true] at h
      obtain ⟨h1, h2⟩ := h
      simp only [tierOk, Bool.and_eq_true, decide_eq_true_eq] at h1
      simp only [List.length_cons] at hb
      simp only [List.foldl_cons]
      rw [i64_in (by omega) (by omega), ih _ h2 (by omega) (by omega)]
      simp only [sum2, List.map_cons, List.sum_cons]
      omega
  have := key l 0 h (by omega) (by omega)
  simpa [sumW] using this

theorem sumW_snoc (l : List (Int × Int)) (i : Nat) (t : Int × Int) (h : l[i]? = some t) : sumW (l.take (i + 1)) = IntKind.i64.wrap (sumW (l.take i) + t.2) := by
  unfold sumW
  rw [List.take_add_one, h]
  simp

theorem c56 (d : Dr) (a : DrA) (w : World) (hd : DrAt w d a) : Ret Try.prog 56 [drV d a] w (fun v w' => v = .int .i64 (ckTiers d) ∧ Keeps [] w w') := by
  refine Ret.of_WP Try.func56 rfl Try.ntmps56 rfl ?_
  have hp := Hp.start (M := []) (w := w)
  ((repeat (with_reducible first | apply WP_seq | apply WP_region)); apply wls; exact sbox13 hp rfl; rintro _ w1 ⟨db, rfl, hp⟩)
  (repeat (first | (with_reducible first | apply WP_seq | apply WP_region | apply wpl_nil | apply thenQ_n) | ((first | apply wlp | (apply wlg; exact rfl; exact rfl)); (intros; ((first | apply pv_move | apply pv_assign | apply pf_field | (apply pf_load; exact rfl) | (apply pf_len; exact rfl) | exact pv_or rfl rfl rfl | apply pv_lss | apply pv_gtr) <;> (first | exact rfl | exact ev_sel rfl (by assumption) | exact hp.cell 0 rfl rfl))); (intros; (first | exact fI rfl | exact fB rfl | exact fP rfl | exact fS rfl)))))
  refine WP_cond rfl (fun h => ?_) (fun h => ?_)
  · (repeat (first | (with_reducible first | apply WP_seq | apply WP_region | apply wpl_nil | apply thenQ_n | apply thenQ_ret | apply WP_ret) | (apply wlp; exact pv_assign; exact rfl)))
    exact ret_tmp rfl rfl ⟨_, rfl, int_eq (Eq.symm (if_pos h)), hp.keeps⟩
  have h1 : lenBad d.tiers.length = false := h
  have hn : d.tiers.length ≤ 12 := by simp at h; omega
  have h1 := neT h1
  (repeat (with_reducible first | apply WP_seq | apply WP_region | apply thenQ_n | apply WP_skip))
  (apply wls; exact salloc1 hp (zeroTy_ok rfl) rfl; rintro _ w2 ⟨sb, rfl, hp⟩)
  (apply wls0; exact sstore1 hp 0 rfl rfl rfl rfl (sizeTy_ok rfl) rfl; rintro _ w3 ⟨rfl, hp⟩)
  (repeat (first | (with_reducible first | apply WP_seq | apply WP_region | apply wpl_nil | apply thenQ_n) | (apply wlp; ((first | apply pf_field | (apply pf_load; exact rfl) | apply pv_func) <;> (first | exact rfl | exact hp.cell 1 rfl rfl)); (first | exact fP rfl | exact fS rfl | exact fF2 rfl))))
  have hne : db ≠ sb := fun e => hp.dis 1 0 _ _ rfl rfl (by omega) db rfl (by rw [e]; rfl)
  have hsw : w.heap.size ≤ sb := by
    have := hp.own 0 _ rfl sb rfl
    simpa using this
  have hdw : w.heap.size ≤ db := by
    have := hp.own 1 _ rfl db rfl
    simpa using this
  have hpk : w3.cell? ⟨db, 5, none⟩ = some (.int .i64 d.pick) := hp.cell 1 rfl rfl
  have hsum : ∃ o, w3.heap[sb]? = some o ∧ cellsB 1 (frOf [.int .i64 0]) 3 o := by
    obtain ⟨o, ho, hc⟩ := hp.has 0 _ rfl sb rfl
    exact ⟨o, ho, cells1 hc rfl⟩
  have hc := c73 74 #[.pointer (some ⟨sb, 0, none⟩), .pointer (some ⟨db, 0, none⟩)] ent74 [sb] (fun i w' => JT d.pick sb db (sumW (d.tiers.take i)) w') (pA d.tiers (tierOk d.pick)) a.sT a.cT d.tiers w3 (by omega) (hd.tiers.keep0 hp.keeps)
    (fun hne' b o hb hm => by
      simp at hm
      subst hm
      have h0 : 0 < d.tiers.length := List.length_pos_iff.2 hne'
      obtain ⟨b', o', e1, e2⟩ := hd.tiers 0 _ (List.getElem?_eq_getElem h0)
      rw [e1] at hb
      cases hb
      have := World.block_lt_of_cell? w _ (e2 0 _ rfl)
      simp at this
      omega)
    ⟨by simpa [sumW] using hsum, hpk⟩ (fun i w' w'' h hk => h.keep hk)
    (fun i x w' hx hJ => (c74 x d.pick sb db _ w' hJ hne).mono (by
      rintro v w'' ⟨rfl, hk, hj⟩
      rw [pA_at hx]
      exact ⟨rfl, hk, fun _ => by rw [sumW_snoc _ i x hx]; exact hj⟩))
  rw [pA_all] at hc
  (apply wls; exact st_call rfl ent73 rfl hc)
  clear hc
  rintro _ w4 ⟨rfl, hk4, hJ4⟩
  have hkw : Keeps [] w w4 := hp.keeps.trans hk4 (by intro k hk; simp at hk; subst hk; exact .inl hsw)
  have hd4 := hd.keep hkw
  (repeat (first | (with_reducible first | apply WP_seq | apply WP_region | apply wpl_nil | apply thenQ_n) | (apply wlp; ((first | apply pv_move | apply pv_assign | apply pv_not) <;> exact rfl); exact fB rfl)))
  refine WP_cond rfl (fun h => ?_) (fun h => ?_)
  · (repeat (first | (with_reducible first | apply WP_seq | apply WP_region | apply wpl_nil | apply thenQ_n | apply thenQ_ret | apply WP_ret) | (apply wlp; exact pv_assign; exact rfl)))
    exact ret_tmp rfl rfl ⟨_, rfl, int_eq (Eq.symm ((if_neg h1).trans (if_pos (by simpa using h)))), hkw⟩
  have h2 : d.tiers.all (tierOk d.pick) = true := by simpa using h
  have hJ := hJ4 h2
  have h2' : ¬ d.tiers.all (tierOk d.pick) = false := by rw [h2]; simp
  have hdt : w4.cell? ⟨db, 6, none⟩ = some (.slice a.sT d.tiers.length a.cT) := hk4.cell (hp.cell 1 rfl rfl) (by simp [hne])
  clear hp
  have hp := Hp.start (M := []) (w := w4)
  (repeat (first | (with_reducible first | apply WP_seq | apply WP_region | apply thenQ_n | apply WP_skip) | (apply wlp; ((first | apply pf_field | (apply pf_load; exact rfl)) <;> (first | exact rfl | assumption)); (first | exact fP rfl | exact fS rfl))))
  (apply wls; exact st_call rfl ent75 rfl (c75 (·.1) 76 ent76 a.sT a.cT d.tiers _ (by omega) (hd4.tiers.keep0 hp.keeps) (fun x w' => c76 x w')))
  rintro _ w5 ⟨rfl, hk5⟩
  have hp := hp.call hk5
  have hkw5 := hkw.trans hk5 (by simp)
  (repeat (first | (with_reducible first | apply wpl_nil | apply thenQ_n) | (apply wlp; (apply pv_not <;> exact rfl); exact fB rfl)))
  refine WP_cond rfl (fun h => ?_) (fun h => ?_)
  · (repeat (first | (with_reducible first | apply WP_seq | apply WP_region | apply wpl_nil | apply thenQ_n | apply thenQ_ret | apply WP_ret) | (apply wlp; exact pv_assign; exact rfl)))
    exact ret_tmp rfl rfl ⟨_, rfl, int_eq (Eq.symm ((if_neg h1).trans ((if_neg h2').trans (if_pos (by simpa using h))))), hkw5⟩
  have h3 : ¬ nodupB (d.tiers.map (·.1)) = false := by simpa using h
  have hs4 : w4.cell? ⟨sb, 0, none⟩ = some (.int .i64 (sum2 d.tiers)) := by
    obtain ⟨o, ho, hc⟩ := hJ.sum
    rw [List.take_length, sumW_eq d.pick _ hn h2] at hc
    have hc' : o = .cells (Array.ofFn (n := 1) fun i => frOf [.int .i64 (sum2 d.tiers)] i) 3 (0, 0) := hc
    subst hc'
    exact cell_blk ho (by omega)
  (repeat (first | (with_reducible first | apply WP_seq | apply WP_region | apply thenQ_n | apply WP_skip) | (apply wlp; ((apply pf_load; exact rfl) <;> (first | exact rfl | exact hp.old0 (by assumption))); exact fI rfl)))
  (apply wls; exact st_call rfl ent37 rfl (c37 _ _ _ _))
  rintro _ w6 ⟨rfl, hk6⟩
  (repeat (first | (with_reducible first | apply wpl_nil | apply thenQ_n | apply WP_ret) | (apply wlp; exact pv_assign; exact rfl)))
  exact ret_tmp rfl rfl ⟨_, rfl, int_eq (Eq.symm ((if_neg h1).trans ((if_neg h2').trans (if_neg h3)))), hkw5.trans hk6 (by simp)⟩

def ckQuotas (d : Dr) : Int :=
  if 12 < (d.quotas.length : Int) then 2
  else if d.quotas.all (fun p => isWordB p.1) = false then 13
  else if d.quotas.all (quotaOk d.size) = false then 15
  else if nodupB (d.quotas.map (·.1)) = false then 33
  else 0

theorem c60 (d : Dr) (a : DrA) (w : World) (hd : DrAt w d a) : Ret Try.prog 60 [drV d a] w (fun v w' => v = .int .i64 (ckQuotas d) ∧ Keeps [] w w') := by
  refine Ret.of_WP Try.func60 rfl Try.ntmps60 rfl ?_
  have hp := Hp.start (M := []) (w := w)
  ((repeat (with_reducible first | apply WP_seq | apply WP_region)); apply wls; exact sbox13 hp rfl; rintro _ w1 ⟨db, rfl, hp⟩)
  (repeat (first | (with_reducible first | apply WP_seq | apply WP_region | apply wpl_nil | apply thenQ_n) | (apply wlp; ((first | apply pv_assign | apply pf_field | (apply pf_load; exact rfl) | (apply pf_len; exact rfl) | apply pv_gtr) <;> (first | exact rfl | exact hp.cell 0 rfl rfl)); (first | exact fI rfl | exact fB rfl | exact fP rfl | exact fS rfl))))
  refine WP_cond_d rfl (fun h => ?_) (fun h1 => ?_)
  · (repeat (first | (with_reducible first | apply WP_seq | apply WP_region | apply wpl_nil | apply thenQ_n | apply thenQ_ret | apply WP_ret) | (apply wlp; exact pv_assign; exact rfl)))
    exact ret_tmp rfl rfl ⟨_, rfl, int_eq (Eq.symm (if_pos h)), hp.keeps⟩
  have hn : d.quotas.length ≤ 1000000000 := by omega
  (repeat (first | (with_reducible first | apply WP_seq | apply WP_region | apply thenQ_n | apply WP_skip) | (apply wlp; ((first | apply pf_field | (apply pf_load; exact rfl)) <;> (first | exact rfl | exact hp.cell 0 rfl rfl)); (first | exact fP rfl | exact fS rfl))))
  have hc := c82 83 #[] ent83 [] (fun _ _ => True) (pA d.quotas (fun p => isWordB p.1)) a.sQ a.cQ d.quotas _ hn (hd.quotas.keep0 hp.keeps) (by simp) trivial (fun _ _ _ _ _ => trivial)
    (fun i x w' hx _ => (c83 x w').mono (fun v w'' ⟨hv, hk⟩ => ⟨by rw [hv, pA_at hx], hk, fun _ => trivial⟩))
  rw [pA_all] at hc
  (apply wls; exact st_call rfl ent82 rfl hc)
  clear hc
  rintro _ w' ⟨rfl, hk, _⟩
  have hp := hp.call hk
  (repeat (first | (with_reducible first | apply wpl_nil | apply thenQ_n) | (apply wlp; (apply pv_not <;> exact rfl); exact fB rfl)))
  refine WP_cond rfl (fun h => ?_) (fun h => ?_)
  · (repeat (first | (with_reducible first | apply WP_seq | apply WP_region | apply wpl_nil | apply thenQ_n | apply thenQ_ret | apply WP_ret) | (apply wlp; exact pv_assign; exact rfl)))
    exact ret_tmp rfl rfl ⟨_, rfl, int_eq (Eq.symm ((if_neg h1).trans (if_pos (by simpa using h)))), hp.keeps⟩
  have h2 : ¬ d.quotas.all (fun p => isWordB p.1) = false := by simpa using h
  (repeat (first | (with_reducible first | apply WP_seq | apply WP_region | apply thenQ_n | apply WP_skip) | (apply wlp; ((first | apply pf_field | (apply pf_load; exact rfl) | apply pv_func) <;> (first | exact rfl | exact hp.cell 0 rfl rfl)); (first | exact fP rfl | exact fS rfl | exact fF1 rfl))))
  have hsz : w'.cell? ⟨db, 10, none⟩ = some (.int .i64 d.size) := hp.cell 0 rfl rfl
  have hc := c82 84 #[.pointer (some ⟨db, 0, none⟩)] ent84 [] (fun _ w' => w'.cell? ⟨db, 10, none⟩ = some (.int .i64 d.size)) (pA d.quotas (quotaOk d.size)) a.sQ a.cQ d.quotas _ hn (hd.quotas.keep0 hp.keeps) (by simp) hsz (fun _ _ _ h hk => hk.cell h (by simp))
    (fun i x w' hx h => (c84 x d.size db w' h).mono (fun v w'' ⟨hv, hk⟩ => ⟨by rw [hv, pA_at hx], hk, fun _ => hk.cell h (by simp)⟩))
  rw [pA_all] at hc
  (apply wls; exact st_call rfl ent82 rfl hc)
  clear hc
  rintro _ w2 ⟨rfl, hk, _⟩
  have hp := hp.call hk
  (repeat (first | (with_reducible first | apply wpl_nil | apply thenQ_n) | (apply wlp; (apply pv_not <;> exact rfl); exact fB rfl)))
  refine WP_cond rfl (fun h => ?_) (fun h => ?_)
  · (repeat (first | (with_reducible first | apply WP_seq | apply WP_region | apply wpl_nil | apply thenQ_n | apply thenQ_ret | apply WP_ret) | (apply wlp; exact pv_assign; exact rfl)))
    exact ret_tmp rfl rfl ⟨_, rfl, int_eq (Eq.symm ((if_neg h1).trans ((if_neg h2).trans (if_pos (by simpa using h))))), hp.keeps⟩
  have h3 : ¬ d.quotas.all (quotaOk d.size) = false := by simpa using h
  (repeat (first | (with_reducible first | apply WP_seq | apply WP_region | apply thenQ_n | apply WP_skip) | (apply wlp; ((first | apply pf_field | (apply pf_load; exact rfl)) <;> (first | exact rfl | exact hp.cell 0 rfl rfl)); (first | exact fP rfl | exact fS rfl))))
  (apply wls; exact st_call rfl ent85 rfl (c85 (·.1) 86 ent86 a.sQ a.cQ d.quotas _ hn (hd.quotas.keep0 hp.keeps) (fun x w' => c86 x w')))
  rintro _ w' ⟨rfl, hk⟩
  have hp := hp.call hk
  (repeat (first | (with_reducible first | apply wpl_nil | apply thenQ_n) | (apply wlp; (apply pv_not <;> exact rfl); exact fB rfl)))
  refine WP_cond rfl (fun h => ?_) (fun h => ?_)
  · (repeat (first | (with_reducible first | apply WP_seq | apply WP_region | apply wpl_nil | apply thenQ_n | apply thenQ_ret | apply WP_ret) | (apply wlp; exact pv_assign; exact rfl)))
    exact ret_tmp rfl rfl ⟨_, rfl, int_eq (Eq.symm ((if_neg h1).trans ((if_neg h2).trans ((if_neg h3).trans (if_pos (by simpa using h)))))), hp.keeps⟩
  · (repeat (first | (with_reducible first | apply WP_seq | apply WP_region | apply wpl_nil | apply thenQ_n | apply WP_ret | apply WP_skip) | (apply wlp; exact pv_assign; exact rfl)))
    exact ret_tmp rfl rfl ⟨_, rfl, int_eq (Eq.symm ((if_neg h1).trans ((if_neg h2).trans ((if_neg h3).trans (if_neg (by simpa using h)))))), hp.keeps⟩

def clN : Nat → ByteArray
  | 0 => ⟨#[110, 97, 109, 101]⟩
  | 1 => ⟨#[107, 105, 110, 100]⟩
  | 2 => ⟨#[114, 111, 117, 110, 100]⟩
  | 3 => ⟨#[112, 114, 105, 99, 101]⟩
  | 4 => ⟨#[98, 97, 114]⟩
  | 5 => ⟨#[112, 111, 111, 108]⟩
  | 6 => ⟨#[112, 105, 99, 107]⟩
  | 7 => ⟨#[116, 105, 101, 114]⟩
  | 8 => ⟨#[112, 108, 97, 99, 101]⟩
  | 9 => ⟨#[99, 108, 97, 115, 115]⟩
  | 10 => ⟨#[115, 105, 122, 101]⟩
  | 11 => ⟨#[113, 117, 111, 116, 97]⟩
  | _ => ⟨#[]⟩
def clK : Nat → Int
  | 0 => 0
  | 1 => 0
  | 2 => 0
  | 3 => 0
  | 4 => 0
  | 5 => 1
  | 6 => 1
  | 7 => 1
  | 8 => 2
  | 9 => 2
  | 10 => 3
  | 11 => 3
  | _ => 0
def clF : Nat → Nat
  | 0 => 49
  | 1 => 50
  | 2 => 51
  | 3 => 52
  | 4 => 53
  | 5 => 54
  | 6 => 55
  | 7 => 56
  | 8 => 57
  | 9 => 58
  | 10 => 59
  | 11 => 60
  | _ => 0
def clR (d : Dr) : Nat → Int
  | 0 => ckName d
  | 1 => ckKind d
  | 2 => within d.round 1 1000000000
  | 3 => within d.price 0 1000000
  | 4 => ckBar d
  | 5 => within d.pool 1 60
  | 6 => within d.pick 1 (min 10 d.pool)
  | 7 => ckTiers d
  | 8 => ckPlaces d
  | 9 => within d.cls 0 9
  | 10 => within d.size 1 40
  | 11 => ckQuotas d
  | _ => 0

structure ClAt (b : Nat) (w : World) : Prop where
  name : ∀ i, i < 12 → w.cell? ⟨b, 0 + i * 3, none⟩ = some (.string (clN i))
  kind : ∀ i, i < 12 → w.cell? ⟨b, 0 + i * 3 + 1, none⟩ = some (.int .i64 (clK i))
  fn : ∀ i, i < 12 → w.cell? ⟨b, 0 + i * 3 + 2, none⟩ = some (.func (.func (clF i)) #[] #[])

theorem c29 (w : World) : Ret Try.prog 29 [] w (fun v w' => ∃ b, v = .slice (some ⟨b, 0, none⟩) 12 12 ∧ Keeps [] w w' ∧ ClAt b w') := by
  refine Ret.of_WP Try.func29 rfl Try.ntmps29 rfl ?_
  have hp := Hp.start (M := []) (w := w)
  (repeat (first | (with_reducible first | apply WP_seq | apply WP_region | apply wpl_nil | apply thenQ_n) | (apply wlp; ((first | apply pv_assign | (apply pf_build; exact rfl)) <;> exact rfl); (first | exact fS rfl | exact fA3 rfl))))
  (apply wls; exact sf_slice hp rfl rfl rfl rfl rfl rfl rfl; rintro _ w ⟨b, rfl, hp⟩)
  (repeat (first | (with_reducible first | apply wpl_nil | apply thenQ_n | apply WP_ret) | (apply wlp; exact pv_assign; exact rfl)))
  refine ret_tmp rfl rfl ⟨_, rfl, b, rfl, hp.keeps, ?_, ?_, ?_⟩
  · intro i hi
    match i, hi with
    | 0, _ => exact hp.cell 0 rfl rfl
    | 1, _ => exact hp.cell 0 rfl rfl
    | 2, _ => exact hp.cell 0 rfl rfl
    | 3, _ => exact hp.cell 0 rfl rfl
    | 4, _ => exact hp.cell 0 rfl rfl
    | 5, _ => exact hp.cell 0 rfl rfl
    | 6, _ => exact hp.cell 0 rfl rfl
    | 7, _ => exact hp.cell 0 rfl rfl
    | 8, _ => exact hp.cell 0 rfl rfl
    | 9, _ => exact hp.cell 0 rfl rfl
    | 10, _ => exact hp.cell 0 rfl rfl
    | 11, _ => exact hp.cell 0 rfl rfl
  · intro i hi
    match i, hi with
    | 0, _ => exact hp.cell 0 rfl rfl
    | 1, _ => exact hp.cell 0 rfl rfl
    | 2, _ => exact hp.cell 0 rfl rfl
    | 3, _ => exact hp.cell 0 rfl rfl
    | 4, _ => exact hp.cell 0 rfl rfl
    | 5, _ => exact hp.cell 0 rfl rfl
    | 6, _ => exact hp.cell 0 rfl rfl
    | 7, _ => exact hp.cell 0 rfl rfl
    | 8, _ => exact hp.cell 0 rfl rfl
    | 9, _ => exact hp.cell 0 rfl rfl
    | 10, _ => exact hp.cell 0 rfl rfl
    | 11, _ => exact hp.cell 0 rfl rfl
  · intro i hi
    match i, hi with
    | 0, _ => exact hp.cell 0 rfl rfl
    | 1, _ => exact hp.cell 0 rfl rfl
    | 2, _ => exact hp.cell 0 rfl rfl
    | 3, _ => exact hp.cell 0 rfl rfl
    | 4, _ => exact hp.cell 0 rfl rfl
    | 5, _ => exact hp.cell 0 rfl rfl
    | 6, _ => exact hp.cell 0 rfl rfl
    | 7, _ => exact hp.cell 0 rfl rfl
    | 8, _ => exact hp.cell 0 rfl rfl
    | 9, _ => exact hp.cell 0 rfl rfl
    | 10, _ => exact hp.cell 0 rfl rfl
    | 11, _ => exact hp.cell 0 rfl rfl

theorem entCl (i : Nat) (hi : i < 12) : Enters Try.prog (clF i) := by
  match i, hi with
  | 0, _ => exact ent49
  | 1, _ => exact ent50
  | 2, _ => exact ent51
  | 3, _ => exact ent52
  | 4, _ => exact ent53
  | 5, _ => exact ent54
  | 6, _ => exact ent55
  | 7, _ => exact ent56
  | 8, _ => exact ent57
  | 9, _ => exact ent58
  | 10, _ => exact ent59
  | 11, _ => exact ent60

theorem cCl (d : Dr) (a : DrA) (i : Nat) (hi : i < 12) (w : World) (hd : DrAt w d a) : Ret Try.prog (clF i) [drV d a] w (fun v w' => v = .int .i64 (clR d i) ∧ Keeps [] w w') := by
  match i, hi with
  | 0, _ => exact c49 d a w
  | 1, _ => exact c50 d a w
  | 2, _ => exact c51 d a w
  | 3, _ => exact c52 d a w
  | 4, _ => exact c53 d a w hd
  | 5, _ => exact c54 d a w
  | 6, _ => exact c55 d a w
  | 7, _ => exact c56 d a w hd
  | 8, _ => exact c57 d a w hd
  | 9, _ => exact c58 d a w
  | 10, _ => exact c59 d a w
  | 11, _ => exact c60 d a w hd

/-- the clause does not concern the kind -/
def clSkip (d : Dr) (i : Nat) : Bool := (!decide (clK i = 0)) && (!decide (clK i = d.kind))
def clBad (d : Dr) (i : Nat) : Bool := !clSkip d i && !decide (clR d i = 0)
def chk (d : Dr) : ByteArray × Int := match (List.range 12).find? (clBad d) with
  | some i => (clN i, clR d i)
  | none => (⟨#[]⟩, 0)

theorem find_range {p : Nat → Bool} {n i : Nat} (hi : i < n) (h : ∀ j, j < i → p j = false) (h2 : p i = true) : (List.range n).find? p = some i := by
  rw [List.find?_range_eq_some]
  refine ⟨h2, by simpa using hi, fun j hj => by simp [h j hj]⟩
theorem find_none {p : Nat → Bool} {n : Nat} (h : ∀ j, j < n → p j = false) : (List.range n).find? p = none := by
  rw [List.find?_eq_none]
  intro j hj
  simp [h j (by simpa using hj)]

theorem below_succ' {p : Nat → Bool} {i : Nat} (h : ∀ j, j < i → p j = false) (h2 : p i = false) : ∀ j, j < i + 1 → p j = false := by
  intro j hlt
  by_cases e : j = i
  · subst e; exact h2
  · exact h j (by omega)

theorem c13 (d : Dr) (a : DrA) (w : World) (hd : DrAt w d a) : Ret Try.prog 13 [drV d a] w (fun v w' => v = .tuple #[.string (chk d).1, .int .i64 (chk d).2] ∧ Keeps [] w w') := by
  refine Ret.of_WP Try.func13 rfl Try.ntmps13 rfl ?_
  have hp := Hp.start (M := []) (w := w)
  ((repeat (with_reducible first | apply WP_seq | apply WP_region)); apply wls; exact sbox13 hp rfl; rintro _ w1 ⟨db, rfl, hp⟩)
  (repeat (first | (with_reducible first | apply WP_seq | apply WP_region | apply wpl_nil | apply thenQ_n) | (apply wlp; apply pv_assign; (first | exact fI rfl | exact fT rfl))))
  (apply wls; exact st_call rfl ent29 rfl (c29 _))
  rintro _ w2 ⟨cb, rfl, hk2, hcl⟩
  have hp := hp.call hk2
  have hw2 := hp.keeps
  have hdk : w2.cell? ⟨db, 0 + 1, none⟩ = some (.int .i64 d.kind) := hp.cell 0 rfl rfl
  have hdall := hp.agg_blk (k := 13) (o := 0) 0 rfl rfl
  clear hp hk2
  (repeat (first | (with_reducible first | apply WP_block | apply wpl_nil | apply thenQ_n) | (apply wlp; ((first | apply pv_move | (apply pf_len; exact rfl)) <;> exact rfl); exact fI rfl)))
  refine WP_loopS [2, 3, 5, 6, 9, 10, 11, 12, 13, 14, 15, 16, 17, 18, 19, 20, 21, 22, 23, 24, 25, 26, 27, 28, 29, 30, 31, 32] (fun (i : Nat) F => F.put 9 (.int .i64 i)) (fun i w' => i ≤ 12 ∧ Keeps [] w2 w' ∧ ∀ j, j < i → clBad d j = false) (fun i => 12 - i) 0 (put_self (Same.eq .refl) rfl) ⟨Nat.zero_le _, .refl, by simp⟩ ?_
  rintro u i w ⟨hi, hk, hall⟩
  have hp := Hp.of_keeps hk
  (repeat (first | (with_reducible first | apply WP_seq | apply WP_region | apply wpl_nil | apply thenQ_n) | (apply wlp; (apply pv_lss <;> exact rfl); exact fB rfl)))
  refine WP_cond_d rfl (fun h => ?_) (fun h => ?_)
  · have hlt : i < 12 := by omega
    have hc1 := hcl.name i hlt
    have hc2 := hcl.kind i hlt
    have hc3 := hcl.fn i hlt
    have hs : (some ⟨cb, 0, none⟩ : Option Addr) = some ⟨cb, 0, none⟩ := rfl
    (repeat (first | (with_reducible first | apply WP_seq | apply WP_block | apply WP_region | apply thenQ_n | apply WP_skip) | (apply wlp; ((first | (apply pf_loadb; exact rfl) | (apply pf_index; exact rfl)) <;> (first | exact rfl | assumption)); exact fP rfl)))
    (apply wlp; (apply pf_loads (vs := [.string (clN i), .int .i64 (clK i), .func (.func (clF i)) #[] #[]]); exact rfl; exact rfl; exact rfl; exact rfl; exact fun j v hv => hp.old0 (by match j, hv with | 0, hv => (cases hv; exact hc1) | 1, hv => (cases hv; exact hc2) | 2, hv => (cases hv; exact hc3))); exact fA3 rfl)
    (repeat (first | (with_reducible first | apply WP_seq | apply WP_region | apply wpl_nil | apply thenQ_n) | ((first | apply wlp | (apply wlg; exact rfl; exact rfl)); (intros; ((first | apply pv_move | apply pf_field | (apply pf_load; exact rfl) | exact pv_and rfl rfl rfl | (apply pv_neq; (first | exact rfl | exact ev_sel rfl (by assumption)))) <;> (first | exact rfl | exact ev_sel rfl (by assumption) | exact hp.cell 0 rfl rfl | exact hp.old0 (by assumption)))); (intros; (first | exact fI rfl | exact fB rfl | exact fP rfl))) | (apply wls; exact salloc3 hp (zeroTy_ok rfl); rintro _ w ⟨b, rfl, hp⟩) | (apply wls0; exact sstore3 hp 0 rfl rfl rfl rfl (sizeTy_ok rfl) rfl; rintro _ w ⟨rfl, hp⟩)))
    refine WP_cond rfl (fun hsk => ?_) (fun hsk => ?_)
    · (repeat (first | (with_reducible first | apply WP_region | apply thenQ_n | apply thenQ_exit | apply WP_exit) | ((with_reducible apply inBlk_same); exact rfl)))
      (apply wlp; exact pv_add rfl rfl; exact int_eq (i64_in (by omega) (by omega)))
      (repeat (first | (with_reducible first | apply wpl_nil | apply thenQ_n) | (apply wlp; apply pv_move; exact fI rfl)))
      exact ⟨i + 1, put_self (Same.eq (by repeat (first | exact Same.hav | exact Same.refl | refine Same.put rfl ?_ | refine Same.havs rfl ?_))) rfl, ⟨by omega, hp.keeps, below_succ' hall (by unfold clBad clSkip; rw [hsk]; rfl)⟩, by omega⟩
    · (repeat (first | (with_reducible first | apply WP_seq | apply WP_region | apply thenQ_n | apply WP_skip) | (apply wlp; ((first | apply pf_field | (apply pf_load; exact rfl) | (apply pf_loadb; exact rfl)) <;> (first | exact rfl | exact hp.cell 0 rfl rfl)); (first | exact fP rfl | exact fF0 rfl))))
      (apply wlp; (apply pf_loadb; exact rfl; exact rfl; exact rfl; exact fun j v hv => hp.old0 (hdall j v hv)); exact fA13 rfl)
      (apply wls; exact st_call rfl (entCl i hlt) rfl (cCl d a i hlt _ (hd.keep (hw2.trans hp.keeps (by simp)))))
      rintro _ w5 ⟨rfl, hk5⟩
      have hp := hp.call hk5
      (repeat (first | (with_reducible first | apply WP_seq | apply WP_region | apply wpl_nil | apply thenQ_n) | (apply wlp; ((first | apply pv_move | apply pv_assign | (apply pv_neq; (first | exact rfl | exact ev_sel rfl (by assumption)))) <;> exact rfl); (first | exact fI rfl | exact fB rfl))))
      refine WP_cond_nd rfl (fun he => ?_) (fun he => ?_)
      · (repeat (first | (with_reducible first | apply WP_seq | apply WP_region | apply wpl_nil | apply thenQ_n | apply thenQ_ret | apply inBlk_ret | apply WP_ret) | (apply wlp; ((first | apply pv_move | apply pv_assign | apply pf_field | (apply pf_load; exact rfl)) <;> (first | exact rfl | exact hp.cell 0 rfl rfl)); (first | exact fI rfl | exact fP rfl | exact fT rfl))))
        refine ret_tmp2 rfl (fT rfl) (fI rfl) ⟨_, rfl, ?_, hw2.trans hp.keeps (by simp)⟩
        unfold chk
        rw [find_range hlt hall (by unfold clBad clSkip; rw [hsk]; simp [he])]
      · (repeat (with_reducible first | apply WP_region | apply thenQ_n | apply inBlk_n | apply WP_skip))
        (apply wlp; exact pv_add rfl rfl; exact int_eq (i64_in (by omega) (by omega)))
        (repeat (first | (with_reducible first | apply wpl_nil | apply thenQ_n) | (apply wlp; apply pv_move; exact fI rfl)))
        exact ⟨i + 1, put_self (Same.eq (by repeat (first | exact Same.hav | exact Same.refl | refine Same.put rfl ?_ | refine Same.havs rfl ?_))) rfl, ⟨by omega, hp.keeps, below_succ' hall (by unfold clBad; simp [he])⟩, by omega⟩
  · (repeat (first | (with_reducible first | apply WP_seq | apply WP_region | apply wpl_nil | apply thenQ_n | apply thenQ_exit | apply WP_ret | apply WP_exit) | ((with_reducible apply inBlk_same); exact rfl) | (apply wlp; apply pv_assign; (first | exact fI rfl | exact fT rfl))))
    have e : i = 12 := by omega
    subst e
    refine ret_tmp2 rfl (fT rfl) (fI rfl) ⟨_, rfl, ?_, hw2.trans hk (by simp)⟩
    unfold chk
    rw [find_none hall]
end Go.Proofs.Ytgephdcapajaiaa
