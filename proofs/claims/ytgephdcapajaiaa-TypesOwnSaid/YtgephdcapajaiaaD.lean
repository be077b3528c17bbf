/- Layer 14: the generic function different, at its five instances; conditions: the list lies in memory. -/
import Derived.Test.YtgephdcapajaiaaC
namespace Go.Proofs.Ytgephdcapajaiaa
open Go.Eng
attribute [local irreducible] PV StepF wpl wpd WP Ret

def memD {κ : Type} [DecidableEq κ] (a : κ) (l : List κ) : Bool := decide (a ∈ l)
def nodupB {κ : Type} [DecidableEq κ] (l : List κ) : Bool := decide l.Nodup

/-- the element is not among those before it -/
def pN {κ : Type} [DecidableEq κ] (ks : List κ) (i : Nat) : Bool := match ks[i]? with
  | some k => !memD k (ks.take i)
  | none => true

theorem pN_all {κ : Type} [DecidableEq κ] (ks : List κ) : (List.range ks.length).all (pN ks) = nodupB ks := by
  unfold nodupB
  rw [Bool.eq_iff_iff, List.all_eq_true, decide_eq_true_eq]
  constructor
  · intro h
    rw [List.nodup_iff_pairwise_ne, List.pairwise_iff_getElem]
    intro i j hi hj hij e
    have := h j (by simpa using hj)
    unfold pN at this
    rw [List.getElem?_eq_getElem hj] at this
    simp only [memD, Bool.not_eq_true', decide_eq_false_iff_not] at this
    apply this
    rw [← e]
    rw [List.mem_take_iff_getElem]
    exact ⟨i, by omega, rfl⟩
  · intro h i hi
    have hi' : i < ks.length := by simpa using hi
    unfold pN
    rw [List.getElem?_eq_getElem hi']
    simp only [memD, Bool.not_eq_true', decide_eq_false_iff_not]
    intro hm
    rw [List.mem_take_iff_getElem] at hm
    obtain ⟨j, hj, e⟩ := hm
    rw [List.nodup_iff_pairwise_ne, List.pairwise_iff_getElem] at h
    exact h j i (by omega) hi' (by omega) e

theorem pN_at {κ : Type} [DecidableEq κ] {ks : List κ} {i : Nat} {k : κ} (h : ks[i]? = some k) : pN ks i = !memD k (ks.take i) := by
  unfold pN
  rw [h]

theorem mem_take_succ {κ : Type} [DecidableEq κ] {ks : List κ} {i : Nat} {k : κ} (h : ks[i]? = some k) : (fun a => decide (a = k) || memD a (ks.take i)) = (fun a => memD a (ks.take (i + 1))) := by
  funext a
  unfold memD
  rw [List.take_add_one, h, Bool.eq_iff_iff]
  simp
  exact or_comm

/-- what the closure of different has captured -/
structure JD {κ : Type} [DecidableEq κ] (K : KeyEnc κ) (kf : FuncId) (kb sb mb : Nat) (S : κ → Bool) (w : World) : Prop where
  key : w.cell? ⟨kb, 0, none⟩ = some (.func (.func kf) #[] #[])
  seen : w.cell? ⟨sb, 0, none⟩ = some (.map (some mb))
  map : ∃ o, w.heap[mb]? = some o ∧ mapB K (setF S) o

theorem JD.keep {κ : Type} [DecidableEq κ] {K : KeyEnc κ} {kf : FuncId} {kb sb mb : Nat} {S : κ → Bool} {w w' : World} (h : JD K kf kb sb mb S w) (hk : Keeps [] w w') : JD K kf kb sb mb S w' := by
  refine ⟨hk.cell h.key (by simp), hk.cell h.seen (by simp), ?_⟩
  obtain ⟨o, ho, hm⟩ := h.map
  exact ⟨o, by rw [hk.block mb (Array.getElem?_eq_some_iff.1 ho).1 (by simp)]; exact ho, hm⟩


theorem c67 (x : ByteArray) (w : World) : Ret Try.prog 67 [vS x] w (fun v w' => v = kStr.enc x ∧ Keeps [] w w') := by
  refine Ret.of_WP Try.func67 rfl Try.ntmps67 rfl ?_
  have hp := Hp.start (M := []) (w := w)
  (repeat (first | (with_reducible first | apply WP_seq | apply WP_region | apply wpl_nil | apply thenQ_n | apply WP_ret) | (apply wlp; (first | apply pv_move | apply pv_assign); exact fT rfl)))
  exact ret_tmp rfl rfl ⟨_, rfl, rfl, hp.keeps⟩


theorem c72 (x : Int) (w : World) : Ret Try.prog 72 [vI x] w (fun v w' => v = kInt.enc x ∧ Keeps [] w w') := by
  refine Ret.of_WP Try.func72 rfl Try.ntmps72 rfl ?_
  have hp := Hp.start (M := []) (w := w)
  (repeat (first | (with_reducible first | apply WP_seq | apply WP_region | apply wpl_nil | apply thenQ_n | apply WP_ret) | (apply wlp; (first | apply pv_move | apply pv_assign); exact fI rfl)))
  exact ret_tmp rfl rfl ⟨_, rfl, rfl, hp.keeps⟩


theorem c76 (x : Int × Int) (w : World) : Ret Try.prog 76 [vT x] w (fun v w' => v = kInt.enc x.1 ∧ Keeps [] w w') := by
  refine Ret.of_WP Try.func76 rfl Try.ntmps76 rfl ?_
  have hp := Hp.start (M := []) (w := w)
  (repeat (first | (with_reducible first | apply WP_seq | apply WP_region | apply wpl_nil | apply thenQ_n | apply WP_ret) | (apply wlp; ((first | apply pv_assign | apply pf_field | (apply pf_load; exact rfl)) <;> (first | exact rfl | exact hp.cell 0 rfl rfl)); (first | exact fI rfl | exact fP rfl)) | (apply wls; exact sbox2 hp rfl; rintro _ w ⟨b, rfl, hp⟩)))
  exact ret_tmp rfl rfl ⟨_, rfl, rfl, hp.keeps⟩


theorem c81 (x : ByteArray × Int) (w : World) : Ret Try.prog 81 [vP x] w (fun v w' => v = kStr.enc x.1 ∧ Keeps [] w w') := by
  refine Ret.of_WP Try.func81 rfl Try.ntmps81 rfl ?_
  have hp := Hp.start (M := []) (w := w)
  (repeat (first | (with_reducible first | apply WP_seq | apply WP_region | apply wpl_nil | apply thenQ_n | apply WP_ret) | (apply wlp; ((first | apply pv_assign | apply pf_field | (apply pf_load; exact rfl)) <;> (first | exact rfl | exact hp.cell 0 rfl rfl)); (first | exact fP rfl | exact fT rfl)) | (apply wls; exact sbox2 hp rfl; rintro _ w ⟨b, rfl, hp⟩)))
  exact ret_tmp rfl rfl ⟨_, rfl, rfl, hp.keeps⟩


theorem c86 (x : ByteArray × Int × Int) (w : World) : Ret Try.prog 86 [vQ x] w (fun v w' => v = kStr.enc x.1 ∧ Keeps [] w w') := by
  refine Ret.of_WP Try.func86 rfl Try.ntmps86 rfl ?_
  have hp := Hp.start (M := []) (w := w)
  (repeat (first | (with_reducible first | apply WP_seq | apply WP_region | apply wpl_nil | apply thenQ_n | apply WP_ret) | (apply wlp; ((first | apply pv_assign | apply pf_field | (apply pf_load; exact rfl)) <;> (first | exact rfl | exact hp.cell 0 rfl rfl)); (first | exact fP rfl | exact fT rfl)) | (apply wls; exact sbox3 hp rfl; rintro _ w ⟨b, rfl, hp⟩)))
  exact ret_tmp rfl rfl ⟨_, rfl, rfl, hp.keeps⟩


theorem c88 (x : ByteArray) (kk : ByteArray) (kf : FuncId) (he : Enters Try.prog kf) (kb sb mb : Nat) (S : ByteArray → Bool) (w : World) (hJ : JD kStr kf kb sb mb S w) (hn1 : kb ≠ mb) (hn2 : sb ≠ mb)
    (hkey : ∀ w', Ret Try.prog kf [vS x] w' (fun v w'' => v = kStr.enc kk ∧ Keeps [] w' w'')) :
    Ret Try.prog 88 [vS x, .pointer (some ⟨kb, 0, none⟩), .pointer (some ⟨sb, 0, none⟩)] w (fun v w' => v = .bool (!S kk) ∧ Keeps [mb] w w' ∧ ((!S kk) = true → JD kStr kf kb sb mb (fun a => decide (a = kk) || S a) w')) := by
  refine Ret.of_WP Try.func88 rfl Try.ntmps88 rfl ?_
  obtain ⟨o, ho, hm⟩ := hJ.map
  have hp : Hp w [mb] w [mapE kStr mb (setF S)] := Hp.start.adopt (by simp) ho hm (by simp)
  have hk1 := hJ.key
  have hk2 := hJ.seen
  (repeat (first | (with_reducible first | apply WP_seq | apply WP_region | apply wpl_nil | apply thenQ_n) | (apply wlp; ((first | apply pv_move | apply pv_assign | (apply pf_load; exact rfl)) <;> (first | exact rfl | assumption)); (first | exact fB rfl | exact fT rfl | exact fF0 rfl))))
  (try (apply wlp; (apply pf_load; exact rfl; exact rfl; exact hp.old hk1 (by simp [hn1])); fail))
  skip
  (apply wls; exact st_call rfl he rfl (hkey _))
  rintro _ w1 ⟨rfl, hkk⟩
  have hp := hp.call hkk
  (repeat (first | (with_reducible first | apply WP_seq | apply WP_region | apply wpl_nil | apply thenQ_n) | (apply wlp; ((first | apply pv_assign | (apply pf_load; exact rfl)) <;> exact rfl); exact fT rfl)))
  (try (apply wlp; (apply pf_load; exact rfl; exact rfl; exact hp.old hk2 (by simp [hn2])); exact fM rfl))
  (repeat (apply wlp; apply pv_move; exact fT rfl))
  (apply wlp; exact pv_lookup hp 0 rfl rfl rfl (mapTyS_ok (t := 115) rfl).1 (mapTyS_ok (t := 115) rfl).2.1 (mapTyS_ok (t := 115) rfl).2.2; exact setF_get S kk)
  (repeat (with_reducible first | apply wpl_nil | apply thenQ_n))
  refine WP_cond rfl (fun h => ?_) (fun h => ?_)
  · (repeat (first | (with_reducible first | apply WP_seq | apply WP_region | apply wpl_nil | apply thenQ_n | apply thenQ_ret | apply WP_ret) | (apply wlp; exact pv_assign; exact rfl)))
    refine ret_tmp rfl rfl ⟨_, rfl, bool_eq (by rw [h]; rfl), hp.keeps, fun e => ?_⟩
    rw [h] at e
    cases e
  · (repeat (first | (with_reducible first | apply WP_seq | apply WP_region | apply thenQ_n | apply WP_skip) | (apply wlp; ((apply pf_load; exact rfl) <;> exact rfl); skip)))
    (try (apply wlp; (apply pf_load; exact rfl; exact rfl; exact hp.old hk2 (by simp [hn2])); exact fM rfl))
    (repeat (apply wlp; apply pv_move; exact fT rfl))
    (apply wls0; exact st_setadd hp 0 rfl rfl rfl rfl (mapTyS_ok (t := 115) rfl).1 (mapTyS_ok (t := 115) rfl).2.1; rintro _ w2 ⟨rfl, hp2⟩)
    (repeat (first | (with_reducible first | apply WP_seq | apply WP_region | apply wpl_nil | apply thenQ_n | apply WP_ret) | (apply wlp; exact pv_assign; exact rfl)))
    refine ret_tmp rfl rfl ⟨_, rfl, bool_eq (by rw [h]; rfl), hp2.keeps, fun _ => ⟨hp2.old hk1 (by simp [hn1]), hp2.old hk2 (by simp [hn2]), ?_⟩⟩
    exact hp2.has 0 _ rfl mb rfl

theorem c66 (key : ByteArray → ByteArray) (kf : FuncId) (he : Enters Try.prog kf) (s : Option Addr) (c : Nat) (l : List (ByteArray)) (w : World) (hn : l.length ≤ 1000000000) (hs : SlAt w 1 eS s l)
    (hkey : ∀ x w', Ret Try.prog kf [vS x] w' (fun v w'' => v = kStr.enc (key x) ∧ Keeps [] w' w'')) :
    Ret Try.prog 66 [.slice s l.length c, .func (.func kf) #[] #[]] w (fun v w' => v = .bool (nodupB (l.map key)) ∧ Keeps [] w w') := by
  refine Ret.of_WP Try.func66 rfl Try.ntmps66 rfl ?_
  have hp := Hp.start (M := []) (w := w)
  (repeat (with_reducible first | apply WP_seq | apply WP_region))
  (apply wls; exact sbox1 hp rfl rfl; rintro _ w1 ⟨kb, rfl, hp⟩)
  (repeat (first | (with_reducible first | apply WP_seq | apply WP_region | apply wpl_nil | apply thenQ_n) | (apply wlp; apply pv_assign; exact fB rfl)))
  (apply wls; exact st_makemap kStr hp; rintro _ w2 ⟨mb, rfl, hp⟩)
  (apply wls; exact salloc1 hp (zeroTy_ok rfl) rfl; rintro _ w3 ⟨sb, rfl, hp⟩)
  (apply wls0; exact sstore1 hp 0 rfl rfl rfl rfl (sizeTy_ok rfl) rfl; rintro _ w4 ⟨rfl, hp⟩)
  (repeat (first | (with_reducible first | apply WP_seq | apply WP_region | apply wpl_nil | apply thenQ_n) | (apply wlp; (first | apply pv_move | apply pv_func); (first | exact fS rfl | exact fF2 rfl))))
  have hk1 : w4.cell? ⟨kb, 0, none⟩ = some (.func (.func kf) #[] #[]) := hp.cell 2 rfl rfl
  have hk2 : w4.cell? ⟨sb, 0, none⟩ = some (.map (some mb)) := hp.cell 0 rfl rfl
  have hk3 := hp.has 1 _ rfl mb rfl
  have hn1 : kb ≠ mb := fun e => hp.dis 2 1 _ _ rfl rfl (by omega) kb rfl (by rw [e]; rfl)
  have hn2 : sb ≠ mb := fun e => hp.dis 0 1 _ _ rfl rfl (by omega) sb rfl (by rw [e]; rfl)
  have hmw : w.heap.size ≤ mb := by
    have := hp.own 1 _ rfl mb rfl
    simpa using this
  have hlen : (l.map key).length = l.length := List.length_map ..
  have hcall := c65 88 #[.pointer (some ⟨kb, 0, none⟩), .pointer (some ⟨sb, 0, none⟩)] ent88 [mb] (fun i w' => JD kStr kf kb sb mb (fun (a : ByteArray) => memD a ((l.map key).take i)) w') (pN (l.map key)) s c l w4 hn (hs.keep0 hp.keeps)
    (fun hne b o hb hm => by
      simp at hm
      subst hm
      have h0 : 0 < l.length := List.length_pos_iff.2 hne
      obtain ⟨b', o', e1, e2⟩ := hs 0 _ (List.getElem?_eq_getElem h0)
      rw [e1] at hb
      cases hb
      have := World.block_lt_of_cell? w _ (e2 0 _ rfl)
      simp at this
      omega)
    ⟨hk1, hk2, by rw [setF_none _ (fun a => by simp [memD])]; exact hk3⟩ (fun i w' w'' h hk => h.keep hk)
    (fun i x w' hx hJ => by
      have hkx : (l.map key)[i]? = some (key x) := by simp [hx]
      refine (c88 x (key x) kf he kb sb mb _ w' hJ hn1 hn2 (hkey x)).mono ?_
      rintro v w'' ⟨rfl, hk, hj⟩
      rw [pN_at hkx]
      refine ⟨rfl, hk, fun e => ?_⟩
      have := hj e
      rwa [mem_take_succ hkx] at this)
  (apply wls; exact st_call rfl ent65 rfl hcall)
  rintro _ w5 ⟨rfl, hk5, _⟩
  (repeat (first | (with_reducible first | apply wpl_nil | apply thenQ_n | apply WP_ret) | (apply wlp; exact pv_assign; exact rfl)))
  refine ret_tmp rfl rfl ⟨_, rfl, bool_eq (by rw [← hlen, pN_all]), hp.keeps.trans hk5 ?_⟩
  intro k hk
  simp at hk
  subst hk
  exact .inl hmw


theorem c90 (x : Int) (kk : Int) (kf : FuncId) (he : Enters Try.prog kf) (kb sb mb : Nat) (S : Int → Bool) (w : World) (hJ : JD kInt kf kb sb mb S w) (hn1 : kb ≠ mb) (hn2 : sb ≠ mb)
    (hkey : ∀ w', Ret Try.prog kf [vI x] w' (fun v w'' => v = kInt.enc kk ∧ Keeps [] w' w'')) :
    Ret Try.prog 90 [vI x, .pointer (some ⟨kb, 0, none⟩), .pointer (some ⟨sb, 0, none⟩)] w (fun v w' => v = .bool (!S kk) ∧ Keeps [mb] w w' ∧ ((!S kk) = true → JD kInt kf kb sb mb (fun a => decide (a = kk) || S a) w')) := by
  refine Ret.of_WP Try.func90 rfl Try.ntmps90 rfl ?_
  obtain ⟨o, ho, hm⟩ := hJ.map
  have hp : Hp w [mb] w [mapE kInt mb (setF S)] := Hp.start.adopt (by simp) ho hm (by simp)
  have hk1 := hJ.key
  have hk2 := hJ.seen
  (repeat (first | (with_reducible first | apply WP_seq | apply WP_region | apply wpl_nil | apply thenQ_n) | (apply wlp; ((first | apply pv_move | apply pv_assign | (apply pf_load; exact rfl)) <;> (first | exact rfl | assumption)); (first | exact fI rfl | exact fB rfl | exact fF0 rfl))))
  (try (apply wlp; (apply pf_load; exact rfl; exact rfl; exact hp.old hk1 (by simp [hn1])); fail))
  skip
  (apply wls; exact st_call rfl he rfl (hkey _))
  rintro _ w1 ⟨rfl, hkk⟩
  have hp := hp.call hkk
  (repeat (first | (with_reducible first | apply WP_seq | apply WP_region | apply wpl_nil | apply thenQ_n) | (apply wlp; ((first | apply pv_assign | (apply pf_load; exact rfl)) <;> exact rfl); exact fI rfl)))
  (try (apply wlp; (apply pf_load; exact rfl; exact rfl; exact hp.old hk2 (by simp [hn2])); exact fM rfl))
  (repeat (apply wlp; apply pv_move; exact fI rfl))
  (apply wlp; exact pv_lookup hp 0 rfl rfl rfl (mapTyI_ok (t := 89) rfl).1 (mapTyI_ok (t := 89) rfl).2.1 (mapTyI_ok (t := 89) rfl).2.2; exact setF_get S kk)
  (repeat (with_reducible first | apply wpl_nil | apply thenQ_n))
  refine WP_cond rfl (fun h => ?_) (fun h => ?_)
  · (repeat (first | (with_reducible first | apply WP_seq | apply WP_region | apply wpl_nil | apply thenQ_n | apply thenQ_ret | apply WP_ret) | (apply wlp; exact pv_assign; exact rfl)))
    refine ret_tmp rfl rfl ⟨_, rfl, bool_eq (by rw [h]; rfl), hp.keeps, fun e => ?_⟩
    rw [h] at e
    cases e
  · (repeat (first | (with_reducible first | apply WP_seq | apply WP_region | apply thenQ_n | apply WP_skip) | (apply wlp; ((apply pf_load; exact rfl) <;> exact rfl); skip)))
    (try (apply wlp; (apply pf_load; exact rfl; exact rfl; exact hp.old hk2 (by simp [hn2])); exact fM rfl))
    (repeat (apply wlp; apply pv_move; exact fI rfl))
    (apply wls0; exact st_setadd hp 0 rfl rfl rfl rfl (mapTyI_ok (t := 89) rfl).1 (mapTyI_ok (t := 89) rfl).2.1; rintro _ w2 ⟨rfl, hp2⟩)
    (repeat (first | (with_reducible first | apply WP_seq | apply WP_region | apply wpl_nil | apply thenQ_n | apply WP_ret) | (apply wlp; exact pv_assign; exact rfl)))
    refine ret_tmp rfl rfl ⟨_, rfl, bool_eq (by rw [h]; rfl), hp2.keeps, fun _ => ⟨hp2.old hk1 (by simp [hn1]), hp2.old hk2 (by simp [hn2]), ?_⟩⟩
    exact hp2.has 0 _ rfl mb rfl

theorem c71 (key : Int → Int) (kf : FuncId) (he : Enters Try.prog kf) (s : Option Addr) (c : Nat) (l : List (Int)) (w : World) (hn : l.length ≤ 1000000000) (hs : SlAt w 1 eI s l)
    (hkey : ∀ x w', Ret Try.prog kf [vI x] w' (fun v w'' => v = kInt.enc (key x) ∧ Keeps [] w' w'')) :
    Ret Try.prog 71 [.slice s l.length c, .func (.func kf) #[] #[]] w (fun v w' => v = .bool (nodupB (l.map key)) ∧ Keeps [] w w') := by
  refine Ret.of_WP Try.func71 rfl Try.ntmps71 rfl ?_
  have hp := Hp.start (M := []) (w := w)
  (repeat (with_reducible first | apply WP_seq | apply WP_region))
  (apply wls; exact sbox1 hp rfl rfl; rintro _ w1 ⟨kb, rfl, hp⟩)
  (repeat (first | (with_reducible first | apply WP_seq | apply WP_region | apply wpl_nil | apply thenQ_n) | (apply wlp; apply pv_assign; exact fB rfl)))
  (apply wls; exact st_makemap kInt hp; rintro _ w2 ⟨mb, rfl, hp⟩)
  (apply wls; exact salloc1 hp (zeroTy_ok rfl) rfl; rintro _ w3 ⟨sb, rfl, hp⟩)
  (apply wls0; exact sstore1 hp 0 rfl rfl rfl rfl (sizeTy_ok rfl) rfl; rintro _ w4 ⟨rfl, hp⟩)
  (repeat (first | (with_reducible first | apply WP_seq | apply WP_region | apply wpl_nil | apply thenQ_n) | (apply wlp; (first | apply pv_move | apply pv_func); (first | exact fS rfl | exact fF2 rfl))))
  have hk1 : w4.cell? ⟨kb, 0, none⟩ = some (.func (.func kf) #[] #[]) := hp.cell 2 rfl rfl
  have hk2 : w4.cell? ⟨sb, 0, none⟩ = some (.map (some mb)) := hp.cell 0 rfl rfl
  have hk3 := hp.has 1 _ rfl mb rfl
  have hn1 : kb ≠ mb := fun e => hp.dis 2 1 _ _ rfl rfl (by omega) kb rfl (by rw [e]; rfl)
  have hn2 : sb ≠ mb := fun e => hp.dis 0 1 _ _ rfl rfl (by omega) sb rfl (by rw [e]; rfl)
  have hmw : w.heap.size ≤ mb := by
    have := hp.own 1 _ rfl mb rfl
    simpa using this
  have hlen : (l.map key).length = l.length := List.length_map ..
  have hcall := c89 90 #[.pointer (some ⟨kb, 0, none⟩), .pointer (some ⟨sb, 0, none⟩)] ent90 [mb] (fun i w' => JD kInt kf kb sb mb (fun (a : Int) => memD a ((l.map key).take i)) w') (pN (l.map key)) s c l w4 hn (hs.keep0 hp.keeps)
    (fun hne b o hb hm => by
      simp at hm
      subst hm
      have h0 : 0 < l.length := List.length_pos_iff.2 hne
      obtain ⟨b', o', e1, e2⟩ := hs 0 _ (List.getElem?_eq_getElem h0)
      rw [e1] at hb
      cases hb
      have := World.block_lt_of_cell? w _ (e2 0 _ rfl)
      simp at this
      omega)
    ⟨hk1, hk2, by rw [setF_none _ (fun a => by simp [memD])]; exact hk3⟩ (fun i w' w'' h hk => h.keep hk)
    (fun i x w' hx hJ => by
      have hkx : (l.map key)[i]? = some (key x) := by simp [hx]
      refine (c90 x (key x) kf he kb sb mb _ w' hJ hn1 hn2 (hkey x)).mono ?_
      rintro v w'' ⟨rfl, hk, hj⟩
      rw [pN_at hkx]
      refine ⟨rfl, hk, fun e => ?_⟩
      have := hj e
      rwa [mem_take_succ hkx] at this)
  (apply wls; exact st_call rfl ent89 rfl hcall)
  rintro _ w5 ⟨rfl, hk5, _⟩
  (repeat (first | (with_reducible first | apply wpl_nil | apply thenQ_n | apply WP_ret) | (apply wlp; exact pv_assign; exact rfl)))
  refine ret_tmp rfl rfl ⟨_, rfl, bool_eq (by rw [← hlen, pN_all]), hp.keeps.trans hk5 ?_⟩
  intro k hk
  simp at hk
  subst hk
  exact .inl hmw


theorem c91 (x : Int × Int) (kk : Int) (kf : FuncId) (he : Enters Try.prog kf) (kb sb mb : Nat) (S : Int → Bool) (w : World) (hJ : JD kInt kf kb sb mb S w) (hn1 : kb ≠ mb) (hn2 : sb ≠ mb)
    (hkey : ∀ w', Ret Try.prog kf [vT x] w' (fun v w'' => v = kInt.enc kk ∧ Keeps [] w' w'')) :
    Ret Try.prog 91 [vT x, .pointer (some ⟨kb, 0, none⟩), .pointer (some ⟨sb, 0, none⟩)] w (fun v w' => v = .bool (!S kk) ∧ Keeps [mb] w w' ∧ ((!S kk) = true → JD kInt kf kb sb mb (fun a => decide (a = kk) || S a) w')) := by
  refine Ret.of_WP Try.func91 rfl Try.ntmps91 rfl ?_
  obtain ⟨o, ho, hm⟩ := hJ.map
  have hp : Hp w [mb] w [mapE kInt mb (setF S)] := Hp.start.adopt (by simp) ho hm (by simp)
  have hk1 := hJ.key
  have hk2 := hJ.seen
  (repeat (first | (with_reducible first | apply WP_seq | apply WP_region | apply wpl_nil | apply thenQ_n) | (apply wlp; ((first | apply pv_assign | (apply pf_load; exact rfl)) <;> exact rfl); exact fB rfl) | (apply wls; exact sbox2 hp rfl; rintro _ w ⟨b, rfl, hp⟩)))
  (try (apply wlp; (apply pf_load; exact rfl; exact rfl; exact hp.old hk1 (by simp [hn1])); exact fF0 rfl))
  (repeat (apply wlp; ((apply pf_loadb; exact rfl) <;> (first | exact rfl | exact hp.agg_blk 0 rfl rfl)); exact fA2 rfl))
  (apply wls; exact st_call rfl he rfl (hkey _))
  rintro _ w1 ⟨rfl, hkk⟩
  have hp := hp.call hkk
  (repeat (first | (with_reducible first | apply WP_seq | apply WP_region | apply wpl_nil | apply thenQ_n) | (apply wlp; ((first | apply pv_assign | (apply pf_load; exact rfl)) <;> exact rfl); exact fI rfl)))
  (try (apply wlp; (apply pf_load; exact rfl; exact rfl; exact hp.old hk2 (by simp [hn2])); exact fM rfl))
  (repeat (apply wlp; apply pv_move; exact fI rfl))
  (apply wlp; exact pv_lookup hp 1 rfl rfl rfl (mapTyI_ok (t := 89) rfl).1 (mapTyI_ok (t := 89) rfl).2.1 (mapTyI_ok (t := 89) rfl).2.2; exact setF_get S kk)
  (repeat (with_reducible first | apply wpl_nil | apply thenQ_n))
  refine WP_cond rfl (fun h => ?_) (fun h => ?_)
  · (repeat (first | (with_reducible first | apply WP_seq | apply WP_region | apply wpl_nil | apply thenQ_n | apply thenQ_ret | apply WP_ret) | (apply wlp; exact pv_assign; exact rfl)))
    refine ret_tmp rfl rfl ⟨_, rfl, bool_eq (by rw [h]; rfl), hp.keeps, fun e => ?_⟩
    rw [h] at e
    cases e
  · (repeat (first | (with_reducible first | apply WP_seq | apply WP_region | apply thenQ_n | apply WP_skip) | (apply wlp; ((apply pf_load; exact rfl) <;> exact rfl); skip)))
    (try (apply wlp; (apply pf_load; exact rfl; exact rfl; exact hp.old hk2 (by simp [hn2])); exact fM rfl))
    (repeat (apply wlp; apply pv_move; exact fI rfl))
    (apply wls0; exact st_setadd hp 1 rfl rfl rfl rfl (mapTyI_ok (t := 89) rfl).1 (mapTyI_ok (t := 89) rfl).2.1; rintro _ w2 ⟨rfl, hp2⟩)
    (repeat (first | (with_reducible first | apply WP_seq | apply WP_region | apply wpl_nil | apply thenQ_n | apply WP_ret) | (apply wlp; exact pv_assign; exact rfl)))
    refine ret_tmp rfl rfl ⟨_, rfl, bool_eq (by rw [h]; rfl), hp2.keeps, fun _ => ⟨hp2.old hk1 (by simp [hn1]), hp2.old hk2 (by simp [hn2]), ?_⟩⟩
    exact hp2.has 1 _ rfl mb rfl

theorem c75 (key : Int × Int → Int) (kf : FuncId) (he : Enters Try.prog kf) (s : Option Addr) (c : Nat) (l : List (Int × Int)) (w : World) (hn : l.length ≤ 1000000000) (hs : SlAt w 2 eT s l)
    (hkey : ∀ x w', Ret Try.prog kf [vT x] w' (fun v w'' => v = kInt.enc (key x) ∧ Keeps [] w' w'')) :
    Ret Try.prog 75 [.slice s l.length c, .func (.func kf) #[] #[]] w (fun v w' => v = .bool (nodupB (l.map key)) ∧ Keeps [] w w') := by
  refine Ret.of_WP Try.func75 rfl Try.ntmps75 rfl ?_
  have hp := Hp.start (M := []) (w := w)
  (repeat (with_reducible first | apply WP_seq | apply WP_region))
  (apply wls; exact sbox1 hp rfl rfl; rintro _ w1 ⟨kb, rfl, hp⟩)
  (repeat (first | (with_reducible first | apply WP_seq | apply WP_region | apply wpl_nil | apply thenQ_n) | (apply wlp; apply pv_assign; exact fB rfl)))
  (apply wls; exact st_makemap kInt hp; rintro _ w2 ⟨mb, rfl, hp⟩)
  (apply wls; exact salloc1 hp (zeroTy_ok rfl) rfl; rintro _ w3 ⟨sb, rfl, hp⟩)
  (apply wls0; exact sstore1 hp 0 rfl rfl rfl rfl (sizeTy_ok rfl) rfl; rintro _ w4 ⟨rfl, hp⟩)
  (repeat (first | (with_reducible first | apply WP_seq | apply WP_region | apply wpl_nil | apply thenQ_n) | (apply wlp; (first | apply pv_move | apply pv_func); (first | exact fS rfl | exact fF2 rfl))))
  have hk1 : w4.cell? ⟨kb, 0, none⟩ = some (.func (.func kf) #[] #[]) := hp.cell 2 rfl rfl
  have hk2 : w4.cell? ⟨sb, 0, none⟩ = some (.map (some mb)) := hp.cell 0 rfl rfl
  have hk3 := hp.has 1 _ rfl mb rfl
  have hn1 : kb ≠ mb := fun e => hp.dis 2 1 _ _ rfl rfl (by omega) kb rfl (by rw [e]; rfl)
  have hn2 : sb ≠ mb := fun e => hp.dis 0 1 _ _ rfl rfl (by omega) sb rfl (by rw [e]; rfl)
  have hmw : w.heap.size ≤ mb := by
    have := hp.own 1 _ rfl mb rfl
    simpa using this
  have hlen : (l.map key).length = l.length := List.length_map ..
  have hcall := c73 91 #[.pointer (some ⟨kb, 0, none⟩), .pointer (some ⟨sb, 0, none⟩)] ent91 [mb] (fun i w' => JD kInt kf kb sb mb (fun (a : Int) => memD a ((l.map key).take i)) w') (pN (l.map key)) s c l w4 hn (hs.keep0 hp.keeps)
    (fun hne b o hb hm => by
      simp at hm
      subst hm
      have h0 : 0 < l.length := List.length_pos_iff.2 hne
      obtain ⟨b', o', e1, e2⟩ := hs 0 _ (List.getElem?_eq_getElem h0)
      rw [e1] at hb
      cases hb
      have := World.block_lt_of_cell? w _ (e2 0 _ rfl)
      simp at this
      omega)
    ⟨hk1, hk2, by rw [setF_none _ (fun a => by simp [memD])]; exact hk3⟩ (fun i w' w'' h hk => h.keep hk)
    (fun i x w' hx hJ => by
      have hkx : (l.map key)[i]? = some (key x) := by simp [hx]
      refine (c91 x (key x) kf he kb sb mb _ w' hJ hn1 hn2 (hkey x)).mono ?_
      rintro v w'' ⟨rfl, hk, hj⟩
      rw [pN_at hkx]
      refine ⟨rfl, hk, fun e => ?_⟩
      have := hj e
      rwa [mem_take_succ hkx] at this)
  (apply wls; exact st_call rfl ent73 rfl hcall)
  rintro _ w5 ⟨rfl, hk5, _⟩
  (repeat (first | (with_reducible first | apply wpl_nil | apply thenQ_n | apply WP_ret) | (apply wlp; exact pv_assign; exact rfl)))
  refine ret_tmp rfl rfl ⟨_, rfl, bool_eq (by rw [← hlen, pN_all]), hp.keeps.trans hk5 ?_⟩
  intro k hk
  simp at hk
  subst hk
  exact .inl hmw


theorem c92 (x : ByteArray × Int) (kk : ByteArray) (kf : FuncId) (he : Enters Try.prog kf) (kb sb mb : Nat) (S : ByteArray → Bool) (w : World) (hJ : JD kStr kf kb sb mb S w) (hn1 : kb ≠ mb) (hn2 : sb ≠ mb)
    (hkey : ∀ w', Ret Try.prog kf [vP x] w' (fun v w'' => v = kStr.enc kk ∧ Keeps [] w' w'')) :
    Ret Try.prog 92 [vP x, .pointer (some ⟨kb, 0, none⟩), .pointer (some ⟨sb, 0, none⟩)] w (fun v w' => v = .bool (!S kk) ∧ Keeps [mb] w w' ∧ ((!S kk) = true → JD kStr kf kb sb mb (fun a => decide (a = kk) || S a) w')) := by
  refine Ret.of_WP Try.func92 rfl Try.ntmps92 rfl ?_
  obtain ⟨o, ho, hm⟩ := hJ.map
  have hp : Hp w [mb] w [mapE kStr mb (setF S)] := Hp.start.adopt (by simp) ho hm (by simp)
  have hk1 := hJ.key
  have hk2 := hJ.seen
  (repeat (first | (with_reducible first | apply WP_seq | apply WP_region | apply wpl_nil | apply thenQ_n) | (apply wlp; ((first | apply pv_assign | (apply pf_load; exact rfl)) <;> exact rfl); exact fB rfl) | (apply wls; exact sbox2 hp rfl; rintro _ w ⟨b, rfl, hp⟩)))
  (try (apply wlp; (apply pf_load; exact rfl; exact rfl; exact hp.old hk1 (by simp [hn1])); exact fF0 rfl))
  (repeat (apply wlp; ((apply pf_loadb; exact rfl) <;> (first | exact rfl | exact hp.agg_blk 0 rfl rfl)); exact fA2 rfl))
  (apply wls; exact st_call rfl he rfl (hkey _))
  rintro _ w1 ⟨rfl, hkk⟩
  have hp := hp.call hkk
  (repeat (first | (with_reducible first | apply WP_seq | apply WP_region | apply wpl_nil | apply thenQ_n) | (apply wlp; ((first | apply pv_assign | (apply pf_load; exact rfl)) <;> exact rfl); exact fT rfl)))
  (try (apply wlp; (apply pf_load; exact rfl; exact rfl; exact hp.old hk2 (by simp [hn2])); exact fM rfl))
  (repeat (apply wlp; apply pv_move; exact fT rfl))
  (apply wlp; exact pv_lookup hp 1 rfl rfl rfl (mapTyS_ok (t := 115) rfl).1 (mapTyS_ok (t := 115) rfl).2.1 (mapTyS_ok (t := 115) rfl).2.2; exact setF_get S kk)
  (repeat (with_reducible first | apply wpl_nil | apply thenQ_n))
  refine WP_cond rfl (fun h => ?_) (fun h => ?_)
  · (repeat (first | (with_reducible first | apply WP_seq | apply WP_region | apply wpl_nil | apply thenQ_n | apply thenQ_ret | apply WP_ret) | (apply wlp; exact pv_assign; exact rfl)))
    refine ret_tmp rfl rfl ⟨_, rfl, bool_eq (by rw [h]; rfl), hp.keeps, fun e => ?_⟩
    rw [h] at e
    cases e
  · (repeat (first | (with_reducible first | apply WP_seq | apply WP_region | apply thenQ_n | apply WP_skip) | (apply wlp; ((apply pf_load; exact rfl) <;> exact rfl); skip)))
    (try (apply wlp; (apply pf_load; exact rfl; exact rfl; exact hp.old hk2 (by simp [hn2])); exact fM rfl))
    (repeat (apply wlp; apply pv_move; exact fT rfl))
    (apply wls0; exact st_setadd hp 1 rfl rfl rfl rfl (mapTyS_ok (t := 115) rfl).1 (mapTyS_ok (t := 115) rfl).2.1; rintro _ w2 ⟨rfl, hp2⟩)
    (repeat (first | (with_reducible first | apply WP_seq | apply WP_region | apply wpl_nil | apply thenQ_n | apply WP_ret) | (apply wlp; exact pv_assign; exact rfl)))
    refine ret_tmp rfl rfl ⟨_, rfl, bool_eq (by rw [h]; rfl), hp2.keeps, fun _ => ⟨hp2.old hk1 (by simp [hn1]), hp2.old hk2 (by simp [hn2]), ?_⟩⟩
    exact hp2.has 1 _ rfl mb rfl

theorem c80 (key : ByteArray × Int → ByteArray) (kf : FuncId) (he : Enters Try.prog kf) (s : Option Addr) (c : Nat) (l : List (ByteArray × Int)) (w : World) (hn : l.length ≤ 1000000000) (hs : SlAt w 2 eP s l)
    (hkey : ∀ x w', Ret Try.prog kf [vP x] w' (fun v w'' => v = kStr.enc (key x) ∧ Keeps [] w' w'')) :
    Ret Try.prog 80 [.slice s l.length c, .func (.func kf) #[] #[]] w (fun v w' => v = .bool (nodupB (l.map key)) ∧ Keeps [] w w') := by
  refine Ret.of_WP Try.func80 rfl Try.ntmps80 rfl ?_
  have hp := Hp.start (M := []) (w := w)
  (repeat (with_reducible first | apply WP_seq | apply WP_region))
  (apply wls; exact sbox1 hp rfl rfl; rintro _ w1 ⟨kb, rfl, hp⟩)
  (repeat (first | (with_reducible first | apply WP_seq | apply WP_region | apply wpl_nil | apply thenQ_n) | (apply wlp; apply pv_assign; exact fB rfl)))
  (apply wls; exact st_makemap kStr hp; rintro _ w2 ⟨mb, rfl, hp⟩)
  (apply wls; exact salloc1 hp (zeroTy_ok rfl) rfl; rintro _ w3 ⟨sb, rfl, hp⟩)
  (apply wls0; exact sstore1 hp 0 rfl rfl rfl rfl (sizeTy_ok rfl) rfl; rintro _ w4 ⟨rfl, hp⟩)
  (repeat (first | (with_reducible first | apply WP_seq | apply WP_region | apply wpl_nil | apply thenQ_n) | (apply wlp; (first | apply pv_move | apply pv_func); (first | exact fS rfl | exact fF2 rfl))))
  have hk1 : w4.cell? ⟨kb, 0, none⟩ = some (.func (.func kf) #[] #[]) := hp.cell 2 rfl rfl
  have hk2 : w4.cell? ⟨sb, 0, none⟩ = some (.map (some mb)) := hp.cell 0 rfl rfl
  have hk3 := hp.has 1 _ rfl mb rfl
  have hn1 : kb ≠ mb := fun e => hp.dis 2 1 _ _ rfl rfl (by omega) kb rfl (by rw [e]; rfl)
  have hn2 : sb ≠ mb := fun e => hp.dis 0 1 _ _ rfl rfl (by omega) sb rfl (by rw [e]; rfl)
  have hmw : w.heap.size ≤ mb := by
    have := hp.own 1 _ rfl mb rfl
    simpa using this
  have hlen : (l.map key).length = l.length := List.length_map ..
  have hcall := c77 92 #[.pointer (some ⟨kb, 0, none⟩), .pointer (some ⟨sb, 0, none⟩)] ent92 [mb] (fun i w' => JD kStr kf kb sb mb (fun (a : ByteArray) => memD a ((l.map key).take i)) w') (pN (l.map key)) s c l w4 hn (hs.keep0 hp.keeps)
    (fun hne b o hb hm => by
      simp at hm
      subst hm
      have h0 : 0 < l.length := List.length_pos_iff.2 hne
      obtain ⟨b', o', e1, e2⟩ := hs 0 _ (List.getElem?_eq_getElem h0)
      rw [e1] at hb
      cases hb
      have := World.block_lt_of_cell? w _ (e2 0 _ rfl)
      simp at this
      omega)
    ⟨hk1, hk2, by rw [setF_none _ (fun a => by simp [memD])]; exact hk3⟩ (fun i w' w'' h hk => h.keep hk)
    (fun i x w' hx hJ => by
      have hkx : (l.map key)[i]? = some (key x) := by simp [hx]
      refine (c92 x (key x) kf he kb sb mb _ w' hJ hn1 hn2 (hkey x)).mono ?_
      rintro v w'' ⟨rfl, hk, hj⟩
      rw [pN_at hkx]
      refine ⟨rfl, hk, fun e => ?_⟩
      have := hj e
      rwa [mem_take_succ hkx] at this)
  (apply wls; exact st_call rfl ent77 rfl hcall)
  rintro _ w5 ⟨rfl, hk5, _⟩
  (repeat (first | (with_reducible first | apply wpl_nil | apply thenQ_n | apply WP_ret) | (apply wlp; exact pv_assign; exact rfl)))
  refine ret_tmp rfl rfl ⟨_, rfl, bool_eq (by rw [← hlen, pN_all]), hp.keeps.trans hk5 ?_⟩
  intro k hk
  simp at hk
  subst hk
  exact .inl hmw


theorem c93 (x : ByteArray × Int × Int) (kk : ByteArray) (kf : FuncId) (he : Enters Try.prog kf) (kb sb mb : Nat) (S : ByteArray → Bool) (w : World) (hJ : JD kStr kf kb sb mb S w) (hn1 : kb ≠ mb) (hn2 : sb ≠ mb)
    (hkey : ∀ w', Ret Try.prog kf [vQ x] w' (fun v w'' => v = kStr.enc kk ∧ Keeps [] w' w'')) :
    Ret Try.prog 93 [vQ x, .pointer (some ⟨kb, 0, none⟩), .pointer (some ⟨sb, 0, none⟩)] w (fun v w' => v = .bool (!S kk) ∧ Keeps [mb] w w' ∧ ((!S kk) = true → JD kStr kf kb sb mb (fun a => decide (a = kk) || S a) w')) := by
  refine Ret.of_WP Try.func93 rfl Try.ntmps93 rfl ?_
  obtain ⟨o, ho, hm⟩ := hJ.map
  have hp : Hp w [mb] w [mapE kStr mb (setF S)] := Hp.start.adopt (by simp) ho hm (by simp)
  have hk1 := hJ.key
  have hk2 := hJ.seen
  (repeat (first | (with_reducible first | apply WP_seq | apply WP_region | apply wpl_nil | apply thenQ_n) | (apply wlp; ((first | apply pv_assign | (apply pf_load; exact rfl)) <;> exact rfl); exact fB rfl) | (apply wls; exact sbox3 hp rfl; rintro _ w ⟨b, rfl, hp⟩)))
  (try (apply wlp; (apply pf_load; exact rfl; exact rfl; exact hp.old hk1 (by simp [hn1])); exact fF0 rfl))
  (repeat (apply wlp; ((apply pf_loadb; exact rfl) <;> (first | exact rfl | exact hp.agg_blk 0 rfl rfl)); exact fA3 rfl))
  (apply wls; exact st_call rfl he rfl (hkey _))
  rintro _ w1 ⟨rfl, hkk⟩
  have hp := hp.call hkk
  (repeat (first | (with_reducible first | apply WP_seq | apply WP_region | apply wpl_nil | apply thenQ_n) | (apply wlp; ((first | apply pv_assign | (apply pf_load; exact rfl)) <;> exact rfl); exact fT rfl)))
  (try (apply wlp; (apply pf_load; exact rfl; exact rfl; exact hp.old hk2 (by simp [hn2])); exact fM rfl))
  (repeat (apply wlp; apply pv_move; exact fT rfl))
  (apply wlp; exact pv_lookup hp 1 rfl rfl rfl (mapTyS_ok (t := 115) rfl).1 (mapTyS_ok (t := 115) rfl).2.1 (mapTyS_ok (t := 115) rfl).2.2; exact setF_get S kk)
  (repeat (with_reducible first | apply wpl_nil | apply thenQ_n))
  refine WP_cond rfl (fun h => ?_) (fun h => ?_)
  · (repeat (first | (with_reducible first | apply WP_seq | apply WP_region | apply wpl_nil | apply thenQ_n | apply thenQ_ret | apply WP_ret) | (apply wlp; exact pv_assign; exact rfl)))
    refine ret_tmp rfl rfl ⟨_, rfl, bool_eq (by rw [h]; rfl), hp.keeps, fun e => ?_⟩
    rw [h] at e
    cases e
  · (repeat (first | (with_reducible first | apply WP_seq | apply WP_region | apply thenQ_n | apply WP_skip) | (apply wlp; ((apply pf_load; exact rfl) <;> exact rfl); skip)))
    (try (apply wlp; (apply pf_load; exact rfl; exact rfl; exact hp.old hk2 (by simp [hn2])); exact fM rfl))
    (repeat (apply wlp; apply pv_move; exact fT rfl))
    (apply wls0; exact st_setadd hp 1 rfl rfl rfl rfl (mapTyS_ok (t := 115) rfl).1 (mapTyS_ok (t := 115) rfl).2.1; rintro _ w2 ⟨rfl, hp2⟩)
    (repeat (first | (with_reducible first | apply WP_seq | apply WP_region | apply wpl_nil | apply thenQ_n | apply WP_ret) | (apply wlp; exact pv_assign; exact rfl)))
    refine ret_tmp rfl rfl ⟨_, rfl, bool_eq (by rw [h]; rfl), hp2.keeps, fun _ => ⟨hp2.old hk1 (by simp [hn1]), hp2.old hk2 (by simp [hn2]), ?_⟩⟩
    exact hp2.has 1 _ rfl mb rfl

theorem c85 (key : ByteArray × Int × Int → ByteArray) (kf : FuncId) (he : Enters Try.prog kf) (s : Option Addr) (c : Nat) (l : List (ByteArray × Int × Int)) (w : World) (hn : l.length ≤ 1000000000) (hs : SlAt w 3 eQ s l)
    (hkey : ∀ x w', Ret Try.prog kf [vQ x] w' (fun v w'' => v = kStr.enc (key x) ∧ Keeps [] w' w'')) :
    Ret Try.prog 85 [.slice s l.length c, .func (.func kf) #[] #[]] w (fun v w' => v = .bool (nodupB (l.map key)) ∧ Keeps [] w w') := by
  refine Ret.of_WP Try.func85 rfl Try.ntmps85 rfl ?_
  have hp := Hp.start (M := []) (w := w)
  (repeat (with_reducible first | apply WP_seq | apply WP_region))
  (apply wls; exact sbox1 hp rfl rfl; rintro _ w1 ⟨kb, rfl, hp⟩)
  (repeat (first | (with_reducible first | apply WP_seq | apply WP_region | apply wpl_nil | apply thenQ_n) | (apply wlp; apply pv_assign; exact fB rfl)))
  (apply wls; exact st_makemap kStr hp; rintro _ w2 ⟨mb, rfl, hp⟩)
  (apply wls; exact salloc1 hp (zeroTy_ok rfl) rfl; rintro _ w3 ⟨sb, rfl, hp⟩)
  (apply wls0; exact sstore1 hp 0 rfl rfl rfl rfl (sizeTy_ok rfl) rfl; rintro _ w4 ⟨rfl, hp⟩)
  (repeat (first | (with_reducible first | apply WP_seq | apply WP_region | apply wpl_nil | apply thenQ_n) | (apply wlp; (first | apply pv_move | apply pv_func); (first | exact fS rfl | exact fF2 rfl))))
  have hk1 : w4.cell? ⟨kb, 0, none⟩ = some (.func (.func kf) #[] #[]) := hp.cell 2 rfl rfl
  have hk2 : w4.cell? ⟨sb, 0, none⟩ = some (.map (some mb)) := hp.cell 0 rfl rfl
  have hk3 := hp.has 1 _ rfl mb rfl
  have hn1 : kb ≠ mb := fun e => hp.dis 2 1 _ _ rfl rfl (by omega) kb rfl (by rw [e]; rfl)
  have hn2 : sb ≠ mb := fun e => hp.dis 0 1 _ _ rfl rfl (by omega) sb rfl (by rw [e]; rfl)
  have hmw : w.heap.size ≤ mb := by
    have := hp.own 1 _ rfl mb rfl
    simpa using this
  have hlen : (l.map key).length = l.length := List.length_map ..
  have hcall := c82 93 #[.pointer (some ⟨kb, 0, none⟩), .pointer (some ⟨sb, 0, none⟩)] ent93 [mb] (fun i w' => JD kStr kf kb sb mb (fun (a : ByteArray) => memD a ((l.map key).take i)) w') (pN (l.map key)) s c l w4 hn (hs.keep0 hp.keeps)
    (fun hne b o hb hm => by
      simp at hm
      subst hm
      have h0 : 0 < l.length := List.length_pos_iff.2 hne
      obtain ⟨b', o', e1, e2⟩ := hs 0 _ (List.getElem?_eq_getElem h0)
      rw [e1] at hb
      cases hb
      have := World.block_lt_of_cell? w _ (e2 0 _ rfl)
      simp at this
      omega)
    ⟨hk1, hk2, by rw [setF_none _ (fun a => by simp [memD])]; exact hk3⟩ (fun i w' w'' h hk => h.keep hk)
    (fun i x w' hx hJ => by
      have hkx : (l.map key)[i]? = some (key x) := by simp [hx]
      refine (c93 x (key x) kf he kb sb mb _ w' hJ hn1 hn2 (hkey x)).mono ?_
      rintro v w'' ⟨rfl, hk, hj⟩
      rw [pN_at hkx]
      refine ⟨rfl, hk, fun e => ?_⟩
      have := hj e
      rwa [mem_take_succ hkx] at this)
  (apply wls; exact st_call rfl ent82 rfl hcall)
  rintro _ w5 ⟨rfl, hk5, _⟩
  (repeat (first | (with_reducible first | apply wpl_nil | apply thenQ_n | apply WP_ret) | (apply wlp; exact pv_assign; exact rfl)))
  refine ret_tmp rfl rfl ⟨_, rfl, bool_eq (by rw [← hlen, pN_all]), hp.keeps.trans hk5 ?_⟩
  intro k hk
  simp at hk
  subst hk
  exact .inl hmw

end Go.Proofs.Ytgephdcapajaiaa
