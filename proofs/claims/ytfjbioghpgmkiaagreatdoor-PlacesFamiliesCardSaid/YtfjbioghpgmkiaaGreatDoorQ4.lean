/- Merged texts of ours: Pc Mh Mi Ra Rb Rc Rd Re Pd Sa Sb Sd Pe; conditions are the hypotheses of each law. -/
import Derived.Test.YtfjbioghpgmkiaaGreatDoorQ3
import Derived.KernelRfl
/- places: what Stable computes says that the list is the one that is given out; plain. -/
namespace Go.Proofs.YtfjbioghpgmkiaaGreatDoor
open Go.Eng Go.Dig

theorem hoF_noN (x : List ByteArray) : hoF x noN = none := by
  induction x using rev_ind with
  | nil => rfl
  | append_singleton x w ih =>
    rw [hoF_snoc]
    unfold stepH
    split
    · exact ih
    · rename_i h
      show (if noN = w then _ else hoF x noN) = none
      rw [if_neg (fun e => h e.symm)]
      exact ih
theorem cS_snoc (x : List ByteArray) (a w : ByteArray) : cS (x ++ [a]) w = cS x w + if a = w then 1 else 0 := by
  unfold cS
  rw [List.countP_append, List.countP_cons, List.countP_nil]
  by_cases h : a = w <;> simp [h]
theorem hoF_val (x : List ByteArray) {w : ByteArray} (hw : w ≠ noN) : (hoF x w).getD 0 = (cS x w : Int) := by
  induction x using rev_ind with
  | nil => rfl
  | append_singleton x a ih =>
    rw [hoF_snoc, cS_snoc]
    unfold stepH
    split
    · rename_i h
      rw [ih, if_neg (fun e => hw (by rw [← e, h]))]
      omega
    · show (if w = a then some ((hoF x a).getD 0 + 1) else hoF x w).getD 0 = _
      by_cases e : w = a
      · subst e
        rw [if_pos rfl, if_pos rfl, Option.getD_some, ih]
        omega
      · rw [if_neg e, if_neg (fun e2 => e e2.symm), ih]
        omega
theorem laF_lt (q : List (ByteArray × Int)) {w : ByteArray} (hw : w ≠ noN) {t : Int} (ht : 0 ≤ t) : t < (laF q w).getD 0 ↔ ∃ p ∈ q, p.1 = w ∧ t < p.2 := by
  induction q using rev_ind with
  | nil =>
    constructor
    · intro h
      have h : t < 0 := h
      omega
    · rintro ⟨p, hp, _⟩
      cases hp
  | append_singleton q p ih =>
    rw [laF_snoc]
    unfold stepLa
    split
    · rename_i h
      rw [ih]
      constructor
      · rintro ⟨p', h1, h2⟩
        exact ⟨p', List.mem_append_left _ h1, h2⟩
      · rintro ⟨p', h1, h2, h3⟩
        rcases List.mem_append.1 h1 with h1 | h1
        · exact ⟨p', h1, h2, h3⟩
        · rw [List.mem_singleton.1 h1] at h2
          exact absurd (by rw [← h2, h]) hw
    · show t < (if w = p.1 then some (max ((laF q p.1).getD 0) p.2) else laF q w).getD 0 ↔ _
      by_cases e : w = p.1
      · rw [if_pos e, ← e, Option.getD_some]
        constructor
        · intro h
          by_cases h1 : t < (laF q w).getD 0
          · obtain ⟨p', h2, h3⟩ := ih.1 h1
            exact ⟨p', List.mem_append_left _ h2, h3⟩
          · exact ⟨p, by simp, e.symm, by omega⟩
        · rintro ⟨p', h1, h2, h3⟩
          rcases List.mem_append.1 h1 with h1 | h1
          · have := ih.2 ⟨p', h1, h2, h3⟩
            omega
          · rw [List.mem_singleton.1 h1] at h3
            omega
      · rw [if_neg e, ih]
        constructor
        · rintro ⟨p', h1, h2⟩
          exact ⟨p', List.mem_append_left _ h1, h2⟩
        · rintro ⟨p', h1, h2, h3⟩
          rcases List.mem_append.1 h1 with h1 | h1
          · exact ⟨p', h1, h2, h3⟩
          · rw [List.mem_singleton.1 h1] at h2
            exact absurd h2.symm e
theorem tnS_at {n : Nat} {A : List Int} {k : Int} (hk : 0 ≤ k) (hkn : k < n) : ∀ B : List Int, (∀ m ∈ B, 0 ≤ m ∧ m ≠ k) → (tnS n (A ++ k :: B)).1[k.toNat]? = some (A.length : Int) := by
  intro B
  induction B using rev_ind with
  | nil =>
    intro _
    rw [tnS_snoc]
    show ((tnS n A).1.set k.toNat ((tnS n A).2 : Int))[k.toNat]? = _
    rw [List.getElem?_set, if_pos rfl, if_pos (by rw [(tnS_num n A).2]; omega), (tnS_num n A).1]
  | append_singleton B m ih =>
    intro h
    have hm := h m (by simp)
    rw [show A ++ k :: (B ++ [m]) = (A ++ k :: B) ++ [m] from by simp, tnS_snoc]
    show ((tnS n (A ++ k :: B)).1.set m.toNat _)[k.toNat]? = _
    rw [List.getElem?_set, if_neg (by have := hm.1; have := hm.2; omega)]
    exact ih fun z hz => h z (List.mem_append_left _ hz)
theorem tn_pos {n : Nat} {T A B : List Int} {k : Int} (hT : Ord n T) (h : T = A ++ k :: B) : (tnS n T).1[k.toNat]? = some (A.length : Int) := by
  have hb := hT.bd k (by rw [h]; simp)
  have hn := hT.nd
  rw [h, List.nodup_append] at hn
  have hkB := (List.nodup_cons.1 hn.2.1).1
  rw [h]
  exact tnS_at hb.1 hb.2 B fun m hm => ⟨(hT.bd m (by rw [h]; simp [hm])).1, fun e => hkB (e ▸ hm)⟩
theorem tn_after {n : Nat} {T A B : List Int} {k j : Int} (hT : Ord n T) (h : T = A ++ k :: B) (hj : j ∈ T) {t : Int} (ht : (tnS n T).1[j.toNat]? = some t) : (A.length : Int) < t ↔ j ∈ B := by
  constructor
  · intro hlt
    rw [h] at hj
    rcases List.mem_append.1 hj with hj | hj
    · obtain ⟨A1, A2, hA⟩ := List.append_of_mem hj
      have := tn_pos hT (A := A1) (k := j) (B := A2 ++ k :: B) (by rw [h, hA]; simp)
      rw [ht] at this
      have : t = (A1.length : Int) := by simpa using this
      rw [hA, List.length_append, List.length_cons] at hlt
      omega
    · rcases List.mem_cons.1 hj with hj | hj
      · subst hj
        have := tn_pos hT h
        rw [ht] at this
        have : t = (A.length : Int) := by simpa using this
        omega
      · exact hj
  · intro hj
    obtain ⟨B1, B2, hB⟩ := List.append_of_mem hj
    have := tn_pos hT (A := A ++ k :: B1) (k := j) (B := B2) (by rw [h, hB]; simp)
    rw [ht] at this
    have : t = ((A ++ k :: B1).length : Int) := by simpa using this
    rw [this, List.length_append, List.length_cons]
    omega
theorem badW_iff {l : List En} {ps : List (ByteArray × Int)} {T A B : List Int} {x : List ByteArray} {k : Int} (hT : Ord l.length T) (hx : x.length = l.length) (h : T = A ++ k :: B) (w : ByteArray) :
    badW ps (hoF x) (laF (x.zip (tnS l.length T).1)) (A.length : Int) w = false ↔ ((stO ps w).isSome = true → (cS x w : Int) = max ((stO ps w).getD 0) 0 ∧ ∀ j ∈ B, xa x j ≠ w) := by
  unfold badW
  cases hs : (stO ps w).isSome with
  | false => simp
  | true =>
    have hw : w ≠ noN := by
      rintro rfl
      rw [stO_noN] at hs
      cases hs
    rw [hoF_val x hw]
    have htl : (tnS l.length T).1.length = l.length := (tnS_num _ _).2
    have hla := laF_lt (x.zip (tnS l.length T).1) hw (t := (A.length : Int)) (by omega)
    have hB : ((A.length : Int) < (laF (x.zip (tnS l.length T).1) w).getD 0) ↔ ∃ j ∈ B, xa x j = w := by
      rw [hla]
      constructor
      · rintro ⟨p, hp, h1, h2⟩
        obtain ⟨i, hi⟩ := List.getElem?_of_mem hp
        rw [List.getElem?_zip_eq_some] at hi
        have hil : i < x.length := (List.getElem?_eq_some_iff.1 hi.1).1
        have hm : (i : Int) ∈ T := hT.all _ (by omega) (by omega)
        refine ⟨(i : Int), (tn_after hT h hm (t := p.2) (by simpa using hi.2)).1 h2, ?_⟩
        unfold xa
        rw [Int.toNat_natCast, hi.1, Option.getD_some, h1]
      · rintro ⟨j, hj, hjw⟩
        have hm : j ∈ T := by rw [h]; simp [hj]
        have hb := hT.bd j hm
        have hjl : j.toNat < (tnS l.length T).1.length := by omega
        have hjx : j.toNat < x.length := by omega
        refine ⟨(x[j.toNat], (tnS l.length T).1[j.toNat]), ?_, ?_, ?_⟩
        · refine List.mem_of_getElem? (i := j.toNat) ?_
          rw [List.getElem?_zip_eq_some]
          exact ⟨List.getElem?_eq_getElem hjx, List.getElem?_eq_getElem hjl⟩
        · unfold xa at hjw
          rw [List.getElem?_eq_getElem hjx] at hjw
          exact hjw
        · exact (tn_after hT h hm (List.getElem?_eq_getElem hjl)).2 hj
    have hc : (∃ j ∈ B, xa x j = w) → 0 < (cS x w : Int) := by
      rintro ⟨j, hj, hjw⟩
      rw [← hT.count hx w]
      unfold cA
      have : 0 < T.countP fun j => decide (xa x j = w) := List.countP_pos_iff.2 ⟨j, by rw [h]; simp [hj], by simpa using hjw⟩
      omega
    simp only [Bool.true_and, Bool.or_eq_false_iff, Bool.not_eq_false', decide_eq_true_eq, Bool.and_eq_false_iff, decide_eq_false_iff_not, true_implies]
    constructor
    · rintro ⟨h1, h2⟩
      refine ⟨h1, fun j hj hjw => ?_⟩
      have h3 := hB.2 ⟨j, hj, hjw⟩
      have h4 := hc ⟨j, hj, hjw⟩
      rcases h2 with h2 | h2
      · exact h2 h4
      · exact h2 h3
    · rintro ⟨h1, h2⟩
      refine ⟨h1, .inr fun h3 => ?_⟩
      obtain ⟨j, hj, hjw⟩ := hB.1 h3
      exact h2 j hj hjw
theorem stbP_iff {l : List En} {ps : List (ByteArray × Int)} {T : List Int} {x : List ByteArray} (hT : Ord l.length T) (hx : x.length = l.length) : StbP l ps T x ↔ Stb l ps T x := by
  have hpos : ∀ A k B, T = A ++ k :: B → (((tnS l.length T).1[k.toNat]?).getD 0) = (A.length : Int) := fun A k B h => by rw [tn_pos hT h]; rfl
  have hpr : ∀ ws p, prefOk ws p = true ↔ (p ≠ noN → p ∈ ws) := by
    intro ws p
    unfold prefOk
    by_cases h : p = noN <;> simp [h, inB_iff]
  have hck : ∀ k ∈ T, ∃ n : Nat, k = n ∧ n < l.length := fun k hk => ⟨k.toNat, by have := hT.bd k hk; omega, by have := hT.bd k hk; omega⟩
  constructor
  · intro h
    refine ⟨fun k hk hne => ?_, fun w hw => ?_, fun A k B hTe w hw => ?_⟩
    · obtain ⟨n, rfl, hn⟩ := hck k hk
      exact (hpr _ _).1 (h.ok n hn).1 hne
    · rw [← hoF_val x hw]
      cases hs : hoF x w with
      | none => simp; omega
      | some n => exact h.cap w n hs
    · obtain ⟨n, rfl, hn⟩ := hck k (by rw [hTe]; simp)
      have h1 := (h.ok n hn).2 w hw
      have h2 := hpos A n B hTe
      rw [Int.toNat_natCast] at h2
      rw [h2] at h1
      exact (badW_iff hT hx hTe w).1 h1
  · intro h
    refine ⟨fun w n hs => ?_, fun n hn => ⟨?_, fun w hw => ?_⟩⟩
    · have hw : w ≠ noN := by
        rintro rfl
        rw [hoF_noN] at hs
        cases hs
      have := hoF_val x hw
      rw [hs, Option.getD_some] at this
      rw [this]
      exact h.cap w hw
    · exact (hpr _ _).2 (h.mem n (hT.all _ (by omega) (by omega)))
    · obtain ⟨A, B, hTe⟩ := List.append_of_mem (hT.all (n : Int) (by omega) (by omega))
      have h2 := hpos A n B hTe
      rw [Int.toNat_natCast] at h2
      rw [h2]
      exact (badW_iff hT hx hTe w).2 (h.bet A n B hTe w hw)
/-- Stable says whether the list is the one that is given out -/
theorem stbP_asg {l : List En} {ps : List (ByteArray × Int)} {ord : List Int} {x : List ByteArray} (hO : isO l.length ord = true) (hx : x.length = l.length) : StbP l ps (trn l ord) x ↔ x = asg l ps ord :=
  (stbP_iff (Ord.of hO).trn hx).trans (stb_iff hO hx)
end Go.Proofs.YtfjbioghpgmkiaaGreatDoor
/- places.Assign, slices.Reverse, places.advance; conditions: the data lie in memory, the order is the caller's own. -/
namespace Go.Proofs.YtfjbioghpgmkiaaGreatDoor
open Go.Eng Go.Dig

/-- the last place before k from which the list does not fall -/
def fi (l : List Int) : Nat → Option Nat
  | 0 => none
  | k + 1 => if l.getD (k + 1) 0 < l.getD k 0 then fi l k else some k
/-- the last place before k that does not hold less than x -/
def fj (l : List Int) (x : Int) : Nat → Nat
  | 0 => 0
  | k + 1 => if l.getD k 0 < x then fj l x k else k
def swp (l : List Int) (i j : Nat) : List Int := (l.set i (l.getD j 0)).set j (l.getD i 0)
/-- the next order -/
def adv (l : List Int) : Option (List Int) := match fi l (l.length - 1) with
  | none => none
  | some i => some ((swp l i (fj l (l.getD i 0) l.length)).take (i + 1) ++ ((swp l i (fj l (l.getD i 0) l.length)).drop (i + 1)).reverse)
theorem swp_len (l : List Int) (i j : Nat) : (swp l i j).length = l.length := by simp [swp]
theorem fi_some {l : List Int} : ∀ {k i : Nat}, fi l k = some i → i < k ∧ ¬ l.getD (i + 1) 0 < l.getD i 0
  | 0, i, h => by cases h
  | k + 1, i, h => by
    unfold fi at h
    split at h
    · have := fi_some h
      exact ⟨by omega, this.2⟩
    · rename_i h2
      cases h
      exact ⟨by omega, h2⟩
theorem ptr_eq {b o o' : Nat} (h : o = o') : Value.pointer (some ⟨b, o, none⟩) = .pointer (some ⟨b, o', none⟩) := by rw [h]
theorem getD_at {l : List Int} {i : Nat} (h : i < l.length) : l[i]? = some (l.getD i 0) := by
  rw [List.getD_eq_getElem?_getD, List.getElem?_eq_getElem h]
  rfl
def revIn (B z : List Int) (k : Nat) : Prop := z.length = B.length ∧ ∀ q, q < B.length → z[q]? = if q < k ∨ B.length - k ≤ q then B[B.length - 1 - q]? else B[q]?
theorem revIn.start (B : List Int) : revIn B B 0 := ⟨rfl, fun q hq => by rw [if_neg (by omega)]⟩
theorem revIn.step {B z : List Int} {k : Nat} (h : revIn B z k) (hk : k < B.length - 1 - k) {x y : Int} (hx : z[k]? = some x) (hy : z[B.length - 1 - k]? = some y) : revIn B ((z.set k y).set (B.length - 1 - k) x) (k + 1) := by
  obtain ⟨h1, h2⟩ := h
  refine ⟨by simp [h1], fun q hq => ?_⟩
  have e1 := h2 k (by omega)
  rw [if_neg (by omega), hx] at e1
  have e2 := h2 (B.length - 1 - k) (by omega)
  rw [if_neg (by omega), hy] at e2
  rw [List.getElem?_set]
  by_cases hq1 : B.length - 1 - k = q
  · subst hq1
    rw [if_pos rfl, if_pos (by rw [List.length_set]; omega), if_pos (by omega), e1]
    congr 1
    omega
  · rw [if_neg hq1, List.getElem?_set]
    by_cases hq2 : k = q
    · subst hq2
      rw [if_pos rfl, if_pos (by omega), if_pos (by omega), e2]
    · rw [if_neg hq2, h2 q hq]
      by_cases hc : q < k ∨ B.length - k ≤ q
      · rw [if_pos hc, if_pos (by omega)]
      · rw [if_neg hc, if_neg (by omega)]
theorem revIn.done {B z : List Int} {k : Nat} (h : revIn B z k) (hk : B.length - 1 - k ≤ k) (hB : B ≠ []) : z = B.reverse := by
  obtain ⟨h1, h2⟩ := h
  have hpos : 0 < B.length := List.length_pos_iff.2 hB
  apply List.ext_getElem?
  intro q
  by_cases hq : q < B.length
  · rw [h2 q hq, List.getElem?_reverse hq]
    split
    · rfl
    · congr 1
      omega
  · rw [List.getElem?_eq_none (by omega), List.getElem?_eq_none (by rw [List.length_reverse]; omega)]

attribute [local irreducible] PV StepF wpl wpd WP Ret
attribute [local irreducible] Fit srt tl fl seenL stO isO trn

theorem p14 (nm : ByteArray) (ps : List (ByteArray × Int)) (l : List En) (ord : List Int) (s sP so : Option Addr) (c cP co : Nat) (w : World) (hE : EAt w s l) (hP : SlAt w 2 eP sP ps) (hso : SlAt w 1 eI so ord) (h20 : l.length < 20) (hps : ps.length ≤ 12) (hpm : ∀ p ∈ ps, p.2 ≤ 9223372036854775807) (hO : isO l.length ord = true) (hson : so = none → ord = []) :
    Ret Tryz.prog 14 [.agg (dB nm 2 sP ps.length cP).toArray, .slice s l.length c, .slice so ord.length co] w (fun v w' => ∃ gb, v = .tuple #[.slice (some ⟨gb, 0, none⟩) l.length l.length, .bool true] ∧ SVL (some ⟨gb, 0, none⟩) l.length (asg l ps ord) ∧ Hp w [] w' [ownL eS 9 1 (some ⟨gb, 0, none⟩) l.length (asg l ps ord)]) := by
  have hol := (isO_facts hO).1
  refine Ret.of_WP Tryz.func14 rfl Tryz.ntmps14 rfl ?_
  have hp := Hp.start (M := []) (w := w)
  (repeat (with_reducible first | apply WP_seq | apply WP_region))
  (apply wls; exact sbox13 hp rfl; rintro _ w1 ⟨b3, rfl, hp⟩)
  (repeat (first | (with_reducible first | apply WP_seq | apply WP_region | apply wpl_nil | apply thenQ_n) | (apply wlp; ((first | apply pv_move | apply pv_assign | (apply pf_loadb; exact rfl)) <;> (first | exact rfl | exact hp.agg_blk 0 rfl rfl)); (first | exact fB rfl | exact fS rfl | exact fA13 rfl))))
  (apply wls; exact st_call rfl ent38 rfl (p38 nm ps.length l ord s sP so c cP co _ (hso.keep0 hp.keeps) (by omega) hps (by omega)); rintro _ w2 ⟨rfl, hk⟩; rw [hO]; have hp := hp.call hk)
  (repeat (first | (with_reducible first | apply wpl_nil | apply thenQ_n) | (apply wlp; (apply pv_not <;> exact rfl); exact fB rfl)))
  refine WP_cond_f rfl ?_
  (repeat (first | (with_reducible first | apply WP_seq | apply WP_region | apply thenQ_n | apply WP_skip) | (apply wlp; ((first | apply pv_move | (apply pf_loadb; exact rfl)) <;> (first | exact rfl | exact hp.agg_blk 0 rfl rfl)); (first | exact fS rfl | exact fA13 rfl))))
  (apply wls; exact st_call rfl ent39 rfl (p39 nm ps l ord s sP so c cP co _ ⟨hE.at_.keep0 hp.keeps, fun e he => (hE.ws e he).keep0 hp.keeps, hE.len⟩ (hP.keep0 hp.keeps) (hso.keep0 hp.keeps) h20 (by omega) hpm hO hson); rintro _ w3 ⟨gb, rfl, hv, hpo⟩; have hp := hp.join hpo; clear hpo)
  (repeat (first | (with_reducible first | apply wpl_nil | apply thenQ_n | apply WP_ret) | (apply wlp; apply pv_assign; (first | exact fB rfl | exact fS rfl))))
  exact ret_tmp2 rfl rfl rfl ⟨_, rfl, gb, rfl, hv, hp.pick 0 rfl⟩
theorem p72 (A B : List Int) (b c o m c' : Nat) (w : World) (hr : rowAt w b c (A ++ B)) (hc : (A ++ B).length ≤ c) (hcm : c ≤ 1000000) (hB : B ≠ []) (ho : o = A.length) (hm : m = B.length) :
    Ret Tryz.prog 72 [.slice (some ⟨b, o, none⟩) m c'] w (fun _ w' => Keeps [b] w w' ∧ rowAt w' b c (A ++ B.reverse)) := by
  have hpos : 0 < B.length := List.length_pos_iff.2 hB
  rw [List.length_append] at hc
  have hSV : ∀ z : List Int, z.length = B.length → SVL (some ⟨b, 0, none⟩) c (A ++ z) := fun z hz => .inr ⟨b, c, by rw [List.length_append, hz], by rw [List.length_append, hz]; omega, by unfold maxLen; omega⟩
  subst hm
  refine Ret.of_WP Tryz.func72 rfl Tryz.ntmps72 rfl ?_
  have hp := Hp.ofRow hr
  (repeat (first | (with_reducible first | apply WP_seq | apply WP_region) | (apply wlp; ((first | apply pv_move | (apply pf_len; exact rfl)) <;> exact rfl); (first | exact fI rfl | exact fS rfl))))
  (apply wlp; (exact pv_sub rfl rfl); exact int_eq (b := ((B.length - 1 : Nat) : Int)) (by rw [i64_in (by omega) (by omega)]; omega))
  (repeat (first | (with_reducible first | apply WP_block | apply wpl_nil | apply thenQ_n) | (apply wlp; apply pv_assign; exact fI rfl)))
  refine WP_loop2 [2, 3, 7, 8, 9, 10, 11, 12, 13, 14, 15, 16, 17, 18, 19, 20, 21, 22, 23, 24, 25, 26, 27] (fun (k : Nat) (_z : List Int) F => (F.put 2 (.int .i64 (k : Int))).put 3 (.int .i64 ((B.length - 1 - k : Nat) : Int)))
    (fun k z w' => k ≤ B.length - 1 ∧ 2 * k ≤ B.length ∧ revIn B z k ∧ Hp w [b] w' [ownL eI 3 1 (some ⟨b, 0, none⟩) c (A ++ z)]) (fun k _ => B.length - k) 0 B (put_self (put_self (Same.eq .refl) rfl) rfl) ⟨by omega, by omega, .start B, hp⟩ ?_
  (repeat clear hp)
  rintro u k z w1 ⟨hk, hk2, hrv, hp⟩
  have hzl := hrv.1
  have hvz := hSV z hzl
  (repeat (first | (with_reducible first | apply WP_seq | apply WP_region | apply wpl_nil | apply thenQ_n) | (apply wlp; ((first | apply pv_move | apply pv_lss) <;> exact rfl); (first | exact fI rfl | exact fB rfl))))
  refine WP_cond_d rfl (fun h => ?_) (fun h => ?_)
  · have hlt : k < B.length - 1 - k := by omega
    have hl1 : k < B.length := by omega
    have hl2 : B.length - 1 - k < B.length := by omega
    obtain ⟨x, hx⟩ : ∃ x, z[k]? = some x := ⟨_, List.getElem?_eq_getElem (by omega)⟩
    obtain ⟨y, hy⟩ : ∃ y, z[B.length - 1 - k]? = some y := ⟨_, List.getElem?_eq_getElem (by omega)⟩
    have hst := hrv.step hlt hx hy
    have hgx : (A ++ z)[A.length + k]? = some x := by rw [List.getElem?_append_right (by omega), Nat.add_sub_cancel_left]; exact hx
    have hgy : (A ++ z)[A.length + (B.length - 1 - k)]? = some y := by rw [List.getElem?_append_right (by omega), Nat.add_sub_cancel_left]; exact hy
    have hs1 : A.length + k < (A ++ z).length := by rw [List.length_append]; omega
    have hset1 : (A ++ z).set (A.length + k) y = A ++ z.set k y := by rw [List.set_append_right _ _ (by omega), Nat.add_sub_cancel_left]
    have hset2 : (A ++ z.set k y).set (A.length + (B.length - 1 - k)) x = A ++ (z.set k y).set (B.length - 1 - k) x := by rw [List.set_append_right _ _ (by omega), Nat.add_sub_cancel_left]
    have hs2 : A.length + (B.length - 1 - k) < (A ++ z.set k y).length := by rw [List.length_append, List.length_set]; omega
    have hvz2 := hSV (z.set k y) (by rw [List.length_set]; exact hzl)
    (repeat (with_reducible first | apply WP_seq | apply WP_block | apply thenQ_n | apply WP_skip))
    refine WP_drawS mixed (by kernel_rfl) (fun w' => Hp w [b] w' [ownL eI 3 1 (some ⟨b, 0, none⟩) c (A ++ z)]) hp.drew ?_
    have hp := hp.drew
    (repeat (apply wdp; exact rfl; (intro w hp; exact pv_move); exact rfl))
    (apply wdp; exact rfl; (intro w hp; exact pf_index rfl rfl rfl rfl hl2); exact ptr_eq (o' := 0 + (A.length + (B.length - 1 - k)) * 1) (by omega))
    (apply wdp; exact rfl; (intro w hp; exact pf_load rfl rfl (own_elem hp 0 rfl hvz (fun _ => rfl) hgy 0 _ rfl)); exact fI rfl)
    (repeat (apply wdp; exact rfl; (intro w hp; exact pv_move); exact rfl))
    (apply wdp; exact rfl; (intro w hp; exact pf_index rfl rfl rfl rfl hl1); exact ptr_eq (o' := 0 + (A.length + k) * 1) (by omega))
    (apply wdp; exact rfl; (intro w hp; exact pf_load rfl rfl (own_elem hp 0 rfl hvz (fun _ => rfl) hgx 0 _ rfl)); exact fI rfl)
    (apply wdp; exact rfl; (intro w hp; exact pf_index rfl rfl rfl rfl hl1); exact ptr_eq (o' := 0 + (A.length + k) * 1) (by omega))
    (apply wds0S; exact rfl; exact rfl; exact st_setL eI _ (A.length + k) y hp 0 rfl hvz hs1 rfl rfl (fun _ => rfl) rfl rfl (sizeTy_ok rfl); rintro _ w3 ⟨rfl, hp⟩)
    (apply wdp; exact rfl; (intro w hp; exact pf_index rfl rfl rfl rfl hl2); exact ptr_eq (o' := 0 + (A.length + (B.length - 1 - k)) * 1) (by omega))
    rw [hset1] at hp
    (apply wds0S; exact rfl; exact rfl; exact st_setL eI _ (A.length + (B.length - 1 - k)) x hp 0 rfl hvz2 hs2 rfl rfl (fun _ => rfl) rfl rfl (sizeTy_ok rfl); rintro _ w4 ⟨rfl, hp⟩)
    rw [hset2] at hp
    refine wpd_nil ?_
    (repeat (first | (with_reducible first | apply WP_region | apply thenQ_n | apply inBlk_n) | (apply wlp; apply pv_move; exact fI rfl)))
    (apply wlp; (exact pv_add rfl rfl); exact int_eq (b := ((k + 1 : Nat) : Int)) (by rw [i64_in (by omega) (by omega)]; omega))
    (repeat (apply wlp; apply pv_move; exact fI rfl))
    (apply wlp; (exact pv_sub rfl rfl); exact int_eq (b := ((B.length - 1 - (k + 1) : Nat) : Int)) (by rw [i64_in (by omega) (by omega)]; omega))
    (repeat (first | (with_reducible first | apply wpl_nil | apply thenQ_n) | (apply wlp; apply pv_assign; exact fI rfl)))
    exact ⟨k + 1, _, put_self (put_self (Same.eq (by repeat (first | exact Same.hav | exact Same.refl | refine Same.put rfl ?_ | refine Same.havs rfl ?_))) rfl) rfl, ⟨by omega, by omega, hst, hp⟩, by omega⟩
  · have hz := hrv.done (by omega) hB
    subst hz
    (repeat (first | (with_reducible first | apply thenQ_exit | apply WP_exit) | ((with_reducible apply inBlk_same); exact rfl)))
    exact ret_none rfl ⟨_, rfl, hp.keeps, Hp.rowat hp 0 rfl⟩
end Go.Proofs.YtfjbioghpgmkiaaGreatDoor
/- places.advance; conditions: the order lies in a block that the caller owns. -/
namespace Go.Proofs.YtfjbioghpgmkiaaGreatDoor
open Go.Eng Go.Dig

attribute [local irreducible] PV StepF wpl wpd WP Ret
attribute [local irreducible] Fit srt tl fl seenL stO isO trn

set_option maxHeartbeats 2000000 in
theorem p41 (l : List Int) (b c : Nat) (w : World) (hr : rowAt w b c l) (hc : l.length ≤ c) (hcm : c ≤ 1000000) :
    Ret Tryz.prog 41 [.slice (some ⟨b, 0, none⟩) l.length c] w (fun v w' => v = .bool (adv l).isSome ∧ Keeps [b] w w' ∧ rowAt w' b c ((adv l).getD l)) := by
  have hSV : ∀ z : List Int, z.length = l.length → SVL (some ⟨b, 0, none⟩) c z := fun z hz => .inr ⟨b, c, by rw [hz], by omega, by unfold maxLen; omega⟩
  have hvz := hSV l rfl
  have hnone : fi l (l.length - 1) = none → adv l = none := fun h => by unfold adv; rw [h]
  refine Ret.of_WP Tryz.func41 rfl Tryz.ntmps41 rfl ?_
  have hp := Hp.ofRow hr
  (repeat (first | (with_reducible first | apply WP_seq | apply WP_region | apply wpl_nil | apply thenQ_n) | (apply wlp; ((first | apply pv_move | apply pv_assign | (apply pf_len; exact rfl)) <;> exact rfl); (first | exact fI rfl | exact fB rfl | exact fS rfl))))
  by_cases hl : l = []
  · have hn : adv l = none := by rw [hl]; rfl
    have hl0 : l.length = 0 := by rw [hl]; rfl
    (apply wlp; exact pv_sub rfl rfl; exact int_eq (b := -2) (by rw [hl0]; decide))
    (repeat (first | (with_reducible first | apply WP_seq | apply WP_block | apply wpl_nil | apply thenQ_n) | (apply wlp; apply pv_assign; exact fI rfl)))
    refine WP_loopS [3, 8, 9, 10, 11, 12, 13, 14, 15, 16, 17, 18, 19, 20, 21, 22, 23] (fun (_ : Unit) F => F.put 3 (.int .i64 (-2))) (fun _ w' => Hp w [b] w' [ownL eI 3 1 (some ⟨b, 0, none⟩) c l]) (fun _ => 0) () (put_self (Same.eq .refl) rfl) hp ?_
    (repeat clear hp)
    rintro u ⟨⟩ w1 hp
    (repeat with_reducible apply WP_seq)
    refine WP_draw mixed (by kernel_rfl) (fun w' => Hp w [b] w' [ownL eI 3 1 (some ⟨b, 0, none⟩) c l]) hp.drew ?_
    have hp := hp.drew
    (apply wdp; exact rfl; (intro w hp; exact pv_move); exact fI rfl)
    (apply wdp; exact rfl; (intro w hp; exact pv_geq rfl rfl); exact bool_eq (b := false) (decide_eq_false (by omega)))
    (repeat (first | ((apply wdp; exact rfl); (intro w hp; intros; (first | apply pv_move | exact pv_andF rfl)); (intros; exact fB rfl)) | (apply wdpF; exact rfl; exact rfl; exact rfl; exact rfl) | (apply wdpU; exact rfl; exact rfl; exact rfl)))
    refine wpd_nil ?_
    refine WP_cond_f rfl ?_
    (repeat (first | (with_reducible first | apply WP_seq | apply WP_region | apply wpl_nil | apply thenQ_n | apply thenQ_exit | apply WP_exit) | ((with_reducible apply inBlk_same); exact rfl) | (apply wlp; ((first | apply pv_move | apply pv_lss) <;> exact rfl); (first | exact fI rfl | exact fB rfl))))
    refine WP_cond_d rfl (fun _ => ?_) (fun h => absurd (by omega) h)
    (repeat (first | (with_reducible first | apply WP_seq | apply WP_region | apply wpl_nil | apply thenQ_n | apply thenQ_ret | apply WP_ret) | (apply wlp; apply pv_assign; exact fB rfl)))
    exact ret_tmp rfl rfl ⟨_, rfl, by rw [hn]; rfl, hp.keeps, by rw [hn]; exact Hp.rowat hp 0 rfl⟩
  have hpos : 0 < l.length := List.length_pos_iff.2 hl
  (apply wlp; exact pv_sub rfl rfl; exact int_eq (b := ((l.length - 1 : Nat) : Int) - 1) (by rw [i64_in (by omega) (by omega)]; omega))
  (repeat (first | (with_reducible first | apply WP_seq | apply WP_block | apply wpl_nil | apply thenQ_n) | (apply wlp; apply pv_assign; exact fI rfl)))
  refine WP_loopS [3, 8, 9, 10, 11, 12, 13, 14, 15, 16, 17, 18, 19, 20, 21, 22, 23] (fun (k : Nat) F => F.put 3 (.int .i64 ((k : Int) - 1))) (fun k w' => k ≤ l.length - 1 ∧ fi l (l.length - 1) = fi l k ∧ Hp w [b] w' [ownL eI 3 1 (some ⟨b, 0, none⟩) c l]) (fun k => k) (l.length - 1) (put_self (Same.eq .refl) rfl) ⟨Nat.le_refl _, rfl, hp⟩ ?_
  (repeat clear hp)
  rintro u k w1 ⟨hk, hfi, hp⟩
  rcases Nat.eq_zero_or_pos k with h0 | h0
  · subst h0
    have hn := hnone hfi
    (repeat with_reducible apply WP_seq)
    refine WP_draw mixed (by kernel_rfl) (fun w' => Hp w [b] w' [ownL eI 3 1 (some ⟨b, 0, none⟩) c l]) hp.drew ?_
    have hp := hp.drew
    (apply wdp; exact rfl; (intro w hp; exact pv_move); exact fI rfl)
    (apply wdp; exact rfl; (intro w hp; exact pv_geq rfl rfl); exact bool_eq (b := false) (decide_eq_false (by omega)))
    (repeat (first | ((apply wdp; exact rfl); (intro w hp; intros; (first | apply pv_move | exact pv_andF rfl)); (intros; exact fB rfl)) | (apply wdpF; exact rfl; exact rfl; exact rfl; exact rfl) | (apply wdpU; exact rfl; exact rfl; exact rfl)))
    refine wpd_nil ?_
    refine WP_cond_f rfl ?_
    (repeat (first | (with_reducible first | apply WP_seq | apply WP_region | apply wpl_nil | apply thenQ_n | apply thenQ_exit | apply WP_exit) | ((with_reducible apply inBlk_same); exact rfl) | (apply wlp; ((first | apply pv_move | apply pv_lss) <;> exact rfl); (first | exact fI rfl | exact fB rfl))))
    refine WP_cond_d rfl (fun _ => ?_) (fun h => absurd (by omega) h)
    (repeat (first | (with_reducible first | apply WP_seq | apply WP_region | apply wpl_nil | apply thenQ_n | apply thenQ_ret | apply WP_ret) | (apply wlp; apply pv_assign; exact fB rfl)))
    exact ret_tmp rfl rfl ⟨_, rfl, by rw [hn]; rfl, hp.keeps, by rw [hn]; exact Hp.rowat hp 0 rfl⟩
  obtain ⟨i, rfl⟩ : ∃ i, k = i + 1 := ⟨k - 1, by omega⟩
  rw [show ((i + 1 : Nat) : Int) - 1 = (i : Int) from by omega]
  have hil : i < l.length := by omega
  have hil1 : i + 1 < l.length := by omega
  have hgi := getD_at hil
  have hgi1 := getD_at hil1
  (repeat with_reducible apply WP_seq)
  refine WP_draw mixed (by kernel_rfl) (fun w' => Hp w [b] w' [ownL eI 3 1 (some ⟨b, 0, none⟩) c l]) hp.drew ?_
  have hp := hp.drew
  (apply wdp; exact rfl; (intro w hp; exact pv_move); exact fI rfl)
  (apply wdp; exact rfl; (intro w hp; exact pv_geq rfl rfl); exact bool_eq (b := true) (decide_eq_true (by omega)))
  (repeat (first | ((apply wdp; exact rfl); (intro w hp; intros; ((first | apply pv_move | (apply pf_load; exact rfl) | (apply pf_index; exact rfl)) <;> (first | exact rfl | assumption))); (intros; (first | exact fI rfl | exact fB rfl | exact fP rfl | exact fS rfl))) | ((apply wdpT; exact rfl; exact rfl; exact rfl); (intro w hp; ((first | apply pv_move | (apply pf_load; exact rfl) | (apply pf_index; exact rfl)) <;> (first | exact rfl | assumption))); (intros; (first | exact fI rfl | exact fB rfl | exact fP rfl | exact fS rfl))) | (apply wdpF; exact rfl; exact rfl; exact rfl; exact rfl) | (apply wdpU; exact rfl; exact rfl; exact rfl)))
  (apply wdpT; exact rfl; exact rfl; exact rfl; (intro w hp; exact pf_load rfl rfl (own_elem hp 0 rfl hvz (fun _ => rfl) hgi 0 _ rfl)); exact fI rfl)
  (repeat (first | ((apply wdpT; exact rfl; exact rfl; exact rfl); (intro w hp; apply pv_move); (intros; (first | exact fI rfl | exact fS rfl))) | (apply wdpF; exact rfl; exact rfl; exact rfl; exact rfl) | (apply wdpU; exact rfl; exact rfl; exact rfl)))
  (apply wdpT; exact rfl; exact rfl; exact rfl; (intro w hp; exact pv_add rfl rfl); exact int_eq (b := ((i + 1 : Nat) : Int)) (by rw [i64_in (by omega) (by omega)]; omega))
  (repeat (first | ((apply wdpT; exact rfl; exact rfl; exact rfl); (intro w hp; ((first | (apply pf_load; exact rfl) | (apply pf_index; exact rfl)) <;> (first | exact rfl | assumption))); (intros; exact fP rfl)) | (apply wdpF; exact rfl; exact rfl; exact rfl; exact rfl) | (apply wdpU; exact rfl; exact rfl; exact rfl)))
  (apply wdpT; exact rfl; exact rfl; exact rfl; (intro w hp; exact pf_load rfl rfl (own_elem hp 0 rfl hvz (fun _ => rfl) hgi1 0 _ rfl)); exact fI rfl)
  by_cases hlt : l.getD (i + 1) 0 < l.getD i 0
  · (apply wdpT; exact rfl; exact rfl; exact rfl; (intro w hp; exact pv_gtr rfl rfl); exact bool_eq (b := true) (decide_eq_true hlt))
    (repeat (first | ((apply wdp; exact rfl); (intro w hp; intros; exact pv_andT rfl rfl); (intros; exact fB rfl)) | (apply wdpF; exact rfl; exact rfl; exact rfl; exact rfl) | (apply wdpU; exact rfl; exact rfl; exact rfl)))
    refine wpd_nil ?_
    refine WP_cond_t rfl ?_
    (repeat (first | (with_reducible first | apply WP_block | apply WP_region | apply thenQ_n | apply WP_skip) | (apply wlp; apply pv_move; exact fI rfl)))
    (apply wlp; exact pv_sub rfl rfl; exact int_eq (i64_in (by omega) (by omega)))
    (repeat (first | (with_reducible first | apply wpl_nil | apply thenQ_n | apply inBlk_n) | (apply wlp; apply pv_assign; exact fI rfl)))
    refine ⟨i, put_self (Same.eq (by repeat (first | exact Same.hav | exact Same.refl | refine Same.put rfl ?_ | refine Same.havs rfl ?_))) rfl, ⟨by omega, ?_, hp⟩, by omega⟩
    rw [hfi]
    conv => lhs; unfold fi
    rw [if_pos hlt]
  (apply wdpT; exact rfl; exact rfl; exact rfl; (intro w hp; exact pv_gtr rfl rfl); exact bool_eq (b := false) (decide_eq_false hlt))
  (repeat (first | ((apply wdp; exact rfl); (intro w hp; intros; exact pv_andT rfl rfl); (intros; exact fB rfl)) | (apply wdpF; exact rfl; exact rfl; exact rfl; exact rfl) | (apply wdpU; exact rfl; exact rfl; exact rfl)))
  refine wpd_nil ?_
  refine WP_cond_f rfl ?_
  have hfi : fi l (l.length - 1) = some i := by
    rw [hfi]
    unfold fi
    rw [if_neg hlt]
  have hadv : adv l = some ((swp l i (fj l (l.getD i 0) l.length)).take (i + 1) ++ ((swp l i (fj l (l.getD i 0) l.length)).drop (i + 1)).reverse) := by
    unfold adv
    rw [hfi]
  (repeat (first | (with_reducible first | apply WP_seq | apply WP_region | apply wpl_nil | apply thenQ_n | apply thenQ_exit | apply WP_exit) | ((with_reducible apply inBlk_same); exact rfl) | (apply wlp; ((first | apply pv_move | apply pv_lss) <;> exact rfl); (first | exact fI rfl | exact fB rfl))))
  refine WP_cond_d rfl (fun h => absurd h (by omega)) (fun _ => ?_)
  (repeat (first | (with_reducible first | apply WP_seq | apply WP_region | apply thenQ_n | apply WP_skip) | (apply wlp; ((first | apply pv_move | (apply pf_len; exact rfl)) <;> exact rfl); (first | exact fI rfl | exact fS rfl))))
  (apply wlp; (exact pv_sub rfl rfl); exact int_eq (b := ((l.length - 1 : Nat) : Int)) (by rw [i64_in (by omega) (by omega)]; omega))
  (repeat (first | (with_reducible first | apply WP_seq | apply WP_block | apply wpl_nil | apply thenQ_n) | (apply wlp; apply pv_assign; exact fI rfl)))
  refine WP_loopS [4, 29, 30, 31, 32, 33, 34, 35, 36, 37, 38, 39] (fun (m : Nat) F => F.put 4 (.int .i64 (m : Int))) (fun m w' => i + 1 ≤ m ∧ m < l.length ∧ fj l (l.getD i 0) l.length = fj l (l.getD i 0) (m + 1) ∧ Hp w [b] w' [ownL eI 3 1 (some ⟨b, 0, none⟩) c l]) (fun m => m) (l.length - 1) (put_self (Same.eq .refl) rfl) ⟨by omega, by omega, by rw [show l.length - 1 + 1 = l.length from by omega], hp⟩ ?_
  (repeat clear hp)
  rintro u2 m w2 ⟨hm1, hm2, hfj, hp⟩
  have hgm := getD_at hm2
  (repeat with_reducible apply WP_seq)
  refine WP_draw mixed (by kernel_rfl) (fun w' => Hp w [b] w' [ownL eI 3 1 (some ⟨b, 0, none⟩) c l]) hp.drew ?_
  have hp := hp.drew
  (repeat ((apply wdp; exact rfl); (intro w hp; intros; ((first | apply pv_move | (apply pf_load; exact rfl) | (apply pf_index; exact rfl)) <;> (first | exact rfl | assumption))); (intros; (first | exact fI rfl | exact fP rfl | exact fS rfl))))
  (apply wdp; exact rfl; (intro w hp; exact pf_load rfl rfl (own_elem hp 0 rfl hvz (fun _ => rfl) hgm 0 _ rfl)); exact fI rfl)
  (repeat ((apply wdp; exact rfl); (intro w hp; intros; ((first | apply pv_move | (apply pf_load; exact rfl) | (apply pf_index; exact rfl)) <;> (first | exact rfl | assumption))); (intros; (first | exact fI rfl | exact fP rfl | exact fS rfl))))
  (apply wdp; exact rfl; (intro w hp; exact pf_load rfl rfl (own_elem hp 0 rfl hvz (fun _ => rfl) hgi 0 _ rfl)); exact fI rfl)
  by_cases hlm : l.getD m 0 < l.getD i 0
  · (apply wdp; exact rfl; (intro w hp; exact pv_lss rfl rfl); exact bool_eq (b := true) (decide_eq_true hlm))
    refine wpd_nil ?_
    refine WP_cond_t rfl ?_
    have hne : m ≠ i + 1 := by rintro rfl; exact hlt hlm
    (repeat (first | (with_reducible first | apply WP_block | apply WP_region | apply thenQ_n | apply WP_skip) | (apply wlp; apply pv_move; exact fI rfl)))
    (apply wlp; (exact pv_sub rfl rfl); exact int_eq (b := ((m - 1 : Nat) : Int)) (by rw [i64_in (by omega) (by omega)]; omega))
    (repeat (first | (with_reducible first | apply wpl_nil | apply thenQ_n | apply inBlk_n) | (apply wlp; apply pv_assign; exact fI rfl)))
    refine ⟨m - 1, put_self (Same.eq (by repeat (first | exact Same.hav | exact Same.refl | refine Same.put rfl ?_ | refine Same.havs rfl ?_))) rfl, ⟨by omega, by omega, ?_, hp⟩, by omega⟩
    rw [hfj, show m - 1 + 1 = m from by omega]
    conv => lhs; unfold fj
    rw [if_pos hlm]
  (apply wdp; exact rfl; (intro w hp; exact pv_lss rfl rfl); exact bool_eq (b := false) (decide_eq_false hlm))
  refine wpd_nil ?_
  refine WP_cond_f rfl ?_
  have hfj : fj l (l.getD i 0) l.length = m := by
    rw [hfj]
    unfold fj
    rw [if_neg hlm]
  rw [hfj] at hadv
  have hsl : (swp l i m).length = l.length := swp_len l i m
  have hvz2 := hSV (l.set i (l.getD m 0)) (by rw [List.length_set])
  have hs2 : m < (l.set i (l.getD m 0)).length := by rw [List.length_set]; exact hm2
  (repeat (first | (with_reducible first | apply WP_seq | apply thenQ_n | apply thenQ_exit | apply WP_exit) | ((with_reducible apply inBlk_same); exact rfl)))
  refine WP_drawS mixed (by kernel_rfl) (fun w' => Hp w [b] w' [ownL eI 3 1 (some ⟨b, 0, none⟩) c l]) hp.drew ?_
  have hp := hp.drew
  (repeat ((apply wdp; exact rfl); (intro w hp; intros; ((first | apply pv_move | (apply pf_load; exact rfl) | (apply pf_index; exact rfl)) <;> (first | exact rfl | assumption))); (intros; (first | exact fI rfl | exact fP rfl | exact fS rfl))))
  (apply wdp; exact rfl; (intro w hp; exact pf_load rfl rfl (own_elem hp 0 rfl hvz (fun _ => rfl) hgm 0 _ rfl)); exact fI rfl)
  (repeat ((apply wdp; exact rfl); (intro w hp; intros; ((first | apply pv_move | (apply pf_load; exact rfl) | (apply pf_index; exact rfl)) <;> (first | exact rfl | assumption))); (intros; (first | exact fI rfl | exact fP rfl | exact fS rfl))))
  (apply wdp; exact rfl; (intro w hp; exact pf_load rfl rfl (own_elem hp 0 rfl hvz (fun _ => rfl) hgi 0 _ rfl)); exact fI rfl)
  (repeat ((apply wdp; exact rfl); (intro w hp; intros; ((apply pf_index; exact rfl) <;> (first | exact rfl | assumption))); (intros; exact fP rfl)))
  (apply wds0S; exact rfl; exact rfl; exact st_setL eI _ i (l.getD m 0) hp 0 rfl hvz hil rfl rfl (fun _ => rfl) rfl rfl (sizeTy_ok rfl); rintro _ w3 ⟨rfl, hp⟩)
  (apply wdp; exact rfl; (intro w hp; exact pf_index rfl rfl rfl rfl hm2); exact fP rfl)
  (apply wds0S; exact rfl; exact rfl; exact st_setL eI _ m (l.getD i 0) hp 0 rfl hvz2 hs2 rfl rfl (fun _ => rfl) rfl rfl (sizeTy_ok rfl); rintro _ w4 ⟨rfl, hp⟩)
  have hp : Hp w [b] w4 [ownL eI 3 1 (some ⟨b, 0, none⟩) c (swp l i m)] := hp
  refine wpd_nil ?_
  (repeat (first | (with_reducible first | apply WP_seq | apply WP_region | apply thenQ_n) | (apply wlp; apply pv_move; (first | exact fI rfl | exact fS rfl))))
  (apply wlp; (exact pv_add rfl rfl); exact int_eq (b := ((i + 1 : Nat) : Int)) (by rw [i64_in (by omega) (by omega)]; omega))
  (apply wlp; exact pv_sliceLo sl30.1 sl30.2 rfl rfl (by omega) hc; exact fS rfl)
  have hr4 : rowAt w4 b c ((swp l i m).take (i + 1) ++ (swp l i m).drop (i + 1)) := by
    rw [List.take_append_drop]
    exact Hp.rowat hp 0 rfl
  (apply wls; exact st_call rfl ent72 rfl (p72 ((swp l i m).take (i + 1)) ((swp l i m).drop (i + 1)) b c _ _ _ _ hr4 (by rw [List.take_append_drop, hsl]; exact hc) hcm (by intro h0; have := congrArg List.length h0; rw [List.length_drop, hsl] at this; simp at this; omega) (by rw [if_neg (by omega), List.length_take, hsl]; omega) (by rw [List.length_drop, hsl])); rintro _ w5 ⟨hk5, hr5⟩; have hp := Hp.callU hp 0 rfl hk5 hr5)
  (repeat (first | (with_reducible first | apply WP_seq | apply WP_region | apply wpl_nil | apply thenQ_n | apply WP_ret) | (apply wlp; apply pv_assign; exact fB rfl)))
  exact ret_tmp rfl rfl ⟨_, rfl, by rw [hadv]; rfl, hp.keeps, by rw [hadv]; exact hr5⟩
end Go.Proofs.YtfjbioghpgmkiaaGreatDoor
/- sortesref01: Gcd, Right; sortesref02: lowest, Right, value, Of, Quo, Add, Equal; equality of rationals; conditions: numbers that are not negative, short. -/
namespace Go.Proofs.YtfjbioghpgmkiaaGreatDoor
open Go.Eng Go.Dig

theorem eqIn_str {P : Program} {w : World} {t : Nat} {a b : ByteArray} (ht : P.underlying t = some .string) (k : Nat) : (Op.equalIn (k + 1) t (.string a) (.string b)).run P w = .ok (decide (a = b)) w := by
  unfold Op.equalIn
  simp [run_und ht]
  exact beq_bytes a b
theorem partAt {t : Nat} {w : World} (hag : (isAgg t).run Tryz.prog w = .ok false w) (xs : Array Value) (o : Nat) (v : Value) (h : xs[o]? = some v) : (part t xs o).run Tryz.prog w = .ok v w := by
  simp [part, hag, h]
theorem eq55 (a a' : Bool) (b b' c c' : ByteArray) (w : World) : (Op.equal 55 (.agg #[.bool a, .string b, .string c]) (.agg #[.bool a', .string b', .string c'])).run Tryz.prog w = .ok ((a == a') && (decide (b = b') && decide (c = c'))) w := by
  show (Op.equalIn (9998 + 1 + 1) 55 _ _).run Tryz.prog w = _
  have hs : (Program.stoodInHeld Tryz.prog 55) = false := by kernel_rfl
  have h4 := fun (x y : Bool) => eqIn_bool (P := Tryz.prog) (w := w) (a := x) (b := y) Tryz.underlying4 9998
  have h23 := fun (x y : ByteArray) => eqIn_str (P := Tryz.prog) (w := w) (a := x) (b := y) Tryz.underlying53 9998
  have g4 : (isAgg 4).run Tryz.prog w = .ok false w := by kernel_rfl
  have g23 : (isAgg 53).run Tryz.prog w = .ok false w := by kernel_rfl
  have p0 := fun (x : Bool) (y z : ByteArray) => partAt g4 #[.bool x, .string y, .string z] 0 _ rfl
  have p1 := fun (x : Bool) (y z : ByteArray) => partAt g23 #[.bool x, .string y, .string z] 1 _ rfl
  have p2 := fun (x : Bool) (y z : ByteArray) => partAt g23 #[.bool x, .string y, .string z] 2 _ rfl
  simp only [Nat.reduceAdd] at h4 h23
  rw [Op.equalIn]
  simp only [Sem.run_bind, run_und Tryz.underlying55, Result.andThen_ok]
  simp [hs, Sem.run_bind, p0, p1, p2, h4, h23]
  cases a <;> cases a' <;> by_cases hb : b = b' <;> by_cases hc : c = c' <;> simp [hb, hc]
theorem pv_eq55 {n : FrK} {w : World} {F : Fr} {d : Option Tmp} {ty : TypeId} {pos : String} {aft : Array Edge} {g : Option (Nat × Bool)} {x y : Operand} {t' : Nat} {a a' : Bool} {b b' c c' : ByteArray}
    (hx : ev n F x = .agg #[.bool a, .string b, .string c]) (hy : ev n F y = .agg #[.bool a', .string b', .string c']) : PV Tryz.prog n w F ⟨d, .binOp .eql 55 x y t', ty, pos, aft, g⟩ (.bool ((a == a') && (decide (b = b') && decide (c = c')))) := by
  have h := eq55 a a' b b' c c' w
  have hg : Program.eqGuardType Tryz.prog Tryz.prog.depth 55 = false := by kernel_rfl
  simp [PV, execOp, hx, hy, eqGuard, hg, binOp, h]
theorem pv_ne55 {n : FrK} {w : World} {F : Fr} {d : Option Tmp} {ty : TypeId} {pos : String} {aft : Array Edge} {g : Option (Nat × Bool)} {x y : Operand} {t' : Nat} {a a' : Bool} {b b' c c' : ByteArray}
    (hx : ev n F x = .agg #[.bool a, .string b, .string c]) (hy : ev n F y = .agg #[.bool a', .string b', .string c']) : PV Tryz.prog n w F ⟨d, .binOp .neq 55 x y t', ty, pos, aft, g⟩ (.bool (!((a == a') && (decide (b = b') && decide (c = c'))))) := by
  have h := eq55 a a' b b' c c' w
  have hg : Program.eqGuardType Tryz.prog Tryz.prog.depth 55 = false := by kernel_rfl
  simp [PV, execOp, hx, hy, eqGuard, hg, binOp, h]
theorem pv_beql {P : Program} {n : FrK} {F : Fr} {w : World} {d : Option Tmp} {ty : TypeId} {pos : String} {aft : Array Edge} {g : Option (Nat × Bool)} {x y : Operand} {t t' : Nat} {a b : Bool} (ht : P.underlying t = some .bool) (hx : ev n F x = .bool a) (hy : ev n F y = .bool b) : PV P n w F ⟨d, .binOp .eql t x y t', ty, pos, aft, g⟩ (.bool (a == b)) := by
  have h := eq_bool (P := P) (w := w) (a := a) (b := b) ht
  simp [PV, execOp, hx, hy, eqGuard, binOp, h]

attribute [local irreducible] PV StepF wpl wpd WP Ret
attribute [local irreducible] Fit ofN

theorem c85 (x : Nat) (w : World) : Ret Tryz.prog 95 [.string (ofN x)] w (fun v w' => v = .bool true ∧ Keeps [] w w') := by
  have hsz := ofN_size x
  refine Ret.of_WP Tryz.func95 rfl Tryz.ntmps95 rfl ?_
  have hp := Hp.start (M := []) (w := w)
  (repeat (with_reducible first | apply WP_seq | apply WP_region))
  (apply wlp; apply pv_assign; exact fB rfl)
  (repeat (with_reducible first | apply WP_seq | apply WP_region | apply wpl_nil | apply thenQ_n))
  (apply wlp; apply pv_move; exact fT rfl)
  (apply wlp; ((apply pf_lens; exact rfl) <;> exact rfl); exact fI rfl)
  by_cases h0 : x = 0
  · have h1 : (ofN x).size = 0 := by rw [hsz, h0]; rfl
    (apply wlp; exact pv_eql rfl rfl; exact bool_eq (b := true) (decide_eq_true (by omega)))
    (repeat (first | (with_reducible first | apply wpl_nil | apply thenQ_n | apply WP_ret) | (apply wlp; (intros; (first | apply pv_move | apply pv_assign | exact pv_orT rfl)); (intros; exact fB rfl)) | (apply wlpF; exact rfl; exact rfl; exact rfl) | (apply wlpU; exact rfl; exact rfl)))
    exact ret_tmp rfl rfl ⟨_, rfl, rfl, hp.keeps⟩
  · obtain ⟨h1, hb⟩ := ofN_top h0
    (apply wlp; exact pv_eql rfl rfl; exact bool_eq (b := false) (decide_eq_false (by omega)))
    (apply wlp; apply pv_move; exact fB rfl)
    ((apply wlpT; exact rfl; exact rfl); (apply pv_move); (intros; exact fT rfl))
    (apply wlpT; exact rfl; exact rfl; exact pf_index_s (i := 0) rfl rfl rfl h1; exact fI rfl)
    (apply wlpT; exact rfl; exact rfl; exact pv_neq rfl rfl; exact bool_eq (b := true) (ndt hb))
    (repeat (first | (with_reducible first | apply wpl_nil | apply thenQ_n | apply WP_ret) | (apply wlp; (intros; (first | apply pv_assign | exact pv_orF rfl rfl)); (intros; exact fB rfl)) | (apply wlpF; exact rfl; exact rfl; exact rfl) | (apply wlpU; exact rfl; exact rfl)))
    exact ret_tmp rfl rfl ⟨_, rfl, rfl, hp.keeps⟩
theorem c91 (x y : Nat) (w : World) (hx : Fit x) (hy : Fit y) : Ret Tryz.prog 78 [.string (ofN x), .string (ofN y)] w (fun v w' => v = .string (ofN (Nat.gcd x y)) ∧ Keeps [] w w') := by
  refine Ret.of_WP Tryz.func78 rfl Tryz.ntmps78 rfl ?_
  have hp := Hp.start (M := []) (w := w)
  (repeat (first | (with_reducible first | apply WP_seq | apply WP_region | apply wpl_nil | apply thenQ_n) | (apply wlp; (first | apply pv_move | apply pv_assign); exact fT rfl)))
  (apply wls; exact st_call rfl ent57 rfl (c67N x _ hx); rintro _ w1 ⟨rfl, hk⟩; have hp := hp.call hk)
  (repeat (first | (with_reducible first | apply WP_seq | apply WP_region | apply wpl_nil | apply thenQ_n) | (apply wlp; (first | apply pv_move | apply pv_assign); exact fT rfl)))
  (apply wls; exact st_call rfl ent57 rfl (c67N y _ hy); rintro _ w2 ⟨rfl, hk⟩; have hp := hp.call hk)
  (repeat (first | (with_reducible first | apply WP_seq | apply WP_block | apply wpl_nil | apply thenQ_n) | (apply wlp; apply pv_assign; exact fT rfl)))
  refine WP_loop2 [0, 1, 5, 6, 7, 12, 13, 14, 15, 16, 17, 18, 19, 20, 21, 22, 23] (fun (a b : Nat) F => (F.put 0 (.string (ofN a))).put 1 (.string (ofN b))) (fun a b w' => Fit a ∧ Fit b ∧ Nat.gcd a b = Nat.gcd x y ∧ Hp w [] w' []) (fun _ b => b) x y (put_self (put_self (Same.eq .refl) rfl) rfl) ⟨hx, hy, rfl, hp⟩ ?_
  clear hp
  rintro u a b w3 ⟨ha, hb, hg, hp⟩
  have hsz := ofN_size b
  (repeat (first | (with_reducible first | apply WP_seq | apply WP_region | apply wpl_nil | apply thenQ_n) | (apply wlp; ((first | apply pv_move | (apply pf_lens; exact rfl) | apply pv_gtr) <;> exact rfl); (first | exact fI rfl | exact fB rfl | exact fT rfl))))
  refine WP_cond_d rfl (fun h => ?_) (fun h => ?_)
  · have hb0 : 0 < b := by
      rcases Nat.eq_zero_or_pos b with h0 | h0
      · subst h0
        rw [hsz, digs_zero] at h
        simp at h
      · exact h0
    have hlt := Nat.mod_lt a hb0
    (repeat (first | (with_reducible first | apply WP_seq | apply WP_block | apply WP_region | apply thenQ_n | apply WP_skip) | (apply wlp; apply pv_move; exact fT rfl)))
    (apply wls; exact st_call rfl ent28 rfl (c92 a b _ ha hb hb0); rintro _ w4 ⟨rfl, hk⟩; have hp := hp.call hk)
    (repeat (first | (with_reducible first | apply WP_seq | apply WP_region | apply wpl_nil | apply thenQ_n | apply inBlk_n) | (apply wlp; ((first | apply pv_move | apply pv_assign | apply pv_extract) <;> exact rfl); (first | exact fB rfl | exact fT rfl | exact fU rfl))))
    exact ⟨b, a % b, put_self (put_self (Same.eq (by repeat (first | exact Same.hav | exact Same.refl | refine Same.put rfl ?_ | refine Same.havs rfl ?_))) rfl) rfl, ⟨hb, ha.mod, by rw [← gcd_step]; exact hg, hp⟩, hlt⟩
  · obtain rfl : b = 0 := by
      rcases Nat.eq_zero_or_pos b with h0 | h0
      · exact h0
      · have := (ofN_top (n := b) (by omega)).1
        omega
    rw [Nat.gcd_zero_right] at hg
    subst hg
    (repeat (first | (with_reducible first | apply WP_seq | apply WP_region | apply wpl_nil | apply thenQ_n | apply thenQ_exit | apply WP_ret | apply WP_exit) | ((with_reducible apply inBlk_same); exact rfl) | (apply wlp; (first | apply pv_move | apply pv_assign); exact fT rfl)))
    exact ret_tmp rfl rfl ⟨_, rfl, rfl, hp.keeps⟩
theorem c86 (n d : Nat) (w : World) (hn : Fit n) (hd : Fit d) (hd0 : 0 < d) : Ret Tryz.prog 45 [.bool false, .string (ofN n), .string (ofN d)] w (fun v w' => v = RV (n / Nat.gcd n d) (d / Nat.gcd n d) ∧ Keeps [] w w') := by
  have hg0 : 0 < Nat.gcd n d := Nat.gcd_pos_of_pos_right n hd0
  have hgf : Fit (Nat.gcd n d) := hd.le (Nat.le_of_dvd hd0 (Nat.gcd_dvd_right n d))
  have he := ofN_eq n 0
  rw [ofN_zero] at he
  refine Ret.of_WP Tryz.func45 rfl Tryz.ntmps45 rfl ?_
  have hp := Hp.start (M := []) (w := w)
  (repeat (with_reducible first | apply WP_seq | apply WP_region))
  (apply wls; exact salloc3 hp (zeroTy_ok rfl); rintro _ w0 ⟨b, rfl, hp⟩)
  (repeat (with_reducible first | apply WP_seq | apply WP_region | apply wpl_nil | apply thenQ_n))
  (apply wlp; apply pv_move; exact fT rfl)
  by_cases h0 : n = 0
  · subst h0
    rw [Nat.gcd_zero_left, Nat.zero_div, Nat.div_self hd0]
    (apply wlp; exact pv_seql rfl rfl; exact bool_eq (b := true) (he.trans (decide_eq_true rfl)))
    (repeat (with_reducible first | apply wpl_nil | apply thenQ_n))
    refine WP_cond_t rfl ?_
    (repeat (with_reducible first | apply WP_seq | apply WP_region))
    (apply wls; exact st_call rfl ent37 rfl (c40 1 _ (by decide)); rintro _ w1 ⟨rfl, hk⟩; have hp := hp.call hk)
    rw [show (1 : Int).toNat = 1 from rfl]
    (repeat (first | (with_reducible first | apply wpl_nil | apply thenQ_n | apply thenQ_ret | apply WP_ret) | (apply wlp; ((apply pf_build; exact rfl) <;> exact rfl); exact fA3 rfl) | (apply wls0; exact sstore3 hp 0 rfl rfl rfl rfl (sizeTy_ok rfl) rfl; rintro _ w ⟨rfl, hp⟩)))
    exact ret_cell rfl rfl rfl rfl (hp.agg_blk 0 rfl rfl) ⟨_, rfl, by unfold RV; rw [ofN_zero]; rfl, hp.keeps⟩
  · (apply wlp; exact pv_seql rfl rfl; exact bool_eq (b := false) (he.trans (decide_eq_false h0)))
    (repeat (with_reducible first | apply wpl_nil | apply thenQ_n))
    refine WP_cond_f rfl ?_
    (repeat (first | (with_reducible first | apply WP_seq | apply WP_region | apply thenQ_n | apply WP_skip) | (apply wlp; apply pv_move; exact fT rfl)))
    (apply wls; exact st_call rfl ent78 rfl (c91 n d _ hn hd))
    rintro _ w1 ⟨rfl, hk⟩
    have hp := hp.call hk
    (repeat (first | (with_reducible first | apply WP_seq | apply WP_region | apply wpl_nil | apply thenQ_n) | (apply wlp; (first | apply pv_move | apply pv_assign); exact fT rfl)))
    (apply wls; exact st_call rfl ent28 rfl (c92 _ _ _ hn hgf hg0))
    rintro _ w2 ⟨rfl, hk⟩
    have hp := hp.call hk
    (repeat (first | (with_reducible first | apply WP_seq | apply WP_region | apply wpl_nil | apply thenQ_n) | (apply wlp; ((first | apply pv_move | apply pv_assign | apply pv_extract) <;> exact rfl); (first | exact fB rfl | exact fT rfl | exact fU rfl))))
    (apply wls; exact st_call rfl ent28 rfl (c92 _ _ _ hd hgf hg0))
    rintro _ w3 ⟨rfl, hk⟩
    have hp := hp.call hk
    (repeat (first | (with_reducible first | apply WP_seq | apply WP_region | apply wpl_nil | apply thenQ_n) | (apply wlp; ((first | apply pv_move | apply pv_assign | apply pv_extract | (apply pf_build; exact rfl)) <;> exact rfl); (first | exact fB rfl | exact fT rfl | exact fA3 rfl | exact fU rfl))))
    (repeat (first | (with_reducible first | apply wpl_nil | apply thenQ_n | apply WP_ret) | (apply wls0; exact sstore3 hp 0 rfl rfl rfl rfl (sizeTy_ok rfl) rfl; rintro _ w ⟨rfl, hp⟩)))
    exact ret_cell rfl rfl rfl rfl (hp.agg_blk 0 rfl rfl) ⟨_, rfl, rfl, hp.keeps⟩
theorem one_fit : Fit 1 := Fit.small (by decide)
/-- a rational number, as it lies in memory -/
def eQ (q : Nat × Nat) : List Value := [.bool false, .string (ofN q.1), .string (ofN q.2)]
structure Red (n d : Nat) : Prop where
  g : Nat.gcd n d = 1
  d0 : 0 < d
  fn : Fit n
  fd : Fit d
theorem Red.low {n d : Nat} (hn : Fit n) (hd : Fit d) (h0 : 0 < d) : Red (n / Nat.gcd n d) (d / Nat.gcd n d) := by
  have hg : 0 < Nat.gcd n d := Nat.gcd_pos_of_pos_right n h0
  refine ⟨?_, ?_, hn.le (Nat.div_le_self _ _), hd.le (Nat.div_le_self _ _)⟩
  · rw [Nat.gcd_div (Nat.gcd_dvd_left n d) (Nat.gcd_dvd_right n d), Nat.div_self hg]
  · exact Nat.div_pos (Nat.le_of_dvd h0 (Nat.gcd_dvd_right n d)) hg
theorem p77 {n d : Nat} (h : Red n d) (w : World) : Ret Tryz.prog 77 [RV n d] w (fun v w' => v = .bool true ∧ Keeps [] w w') := by
  have he := ofN_eq n 0
  rw [ofN_zero] at he
  have hed := ofN_eq d 0
  rw [ofN_zero] at hed
  have hd0 := h.d0
  refine Ret.of_WP Tryz.func77 rfl Tryz.ntmps77 rfl ?_
  have hp := Hp.start (M := []) (w := w)
  (repeat (first | (with_reducible first | apply WP_seq | apply WP_region | apply wpl_nil | apply thenQ_n) | (apply wlp; ((first | apply pv_assign | apply pf_field | (apply pf_load; exact rfl)) <;> (first | exact rfl | exact hp.cell 0 rfl rfl)); (first | exact fB rfl | exact fP rfl | exact fT rfl)) | (apply wls; exact sbox3 hp rfl; rintro _ w ⟨b, rfl, hp⟩)))
  (apply wls; exact st_call rfl ent95 rfl (c85 n _))
  rintro _ w1 ⟨rfl, hk⟩
  have hp := hp.call hk
  (repeat (first | (with_reducible first | apply WP_seq | apply WP_region | apply wpl_nil | apply thenQ_n) | (apply wlp; ((first | apply pv_assign | apply pf_field | (apply pf_load; exact rfl)) <;> (first | exact rfl | exact hp.cell 0 rfl rfl)); (first | exact fB rfl | exact fP rfl | exact fT rfl))))
  (apply wls; exact st_call rfl ent95 rfl (c85 d _))
  rintro _ w2 ⟨rfl, hk⟩
  have hp := hp.call hk
  skip
  (apply wlp; apply pv_assign; exact fB rfl)
  (repeat (with_reducible first | apply WP_seq | apply WP_region | apply wpl_nil | apply thenQ_n))
  (apply wlp; apply pv_move; exact fB rfl)
  (apply wlp; (apply pv_not <;> exact rfl); exact fB rfl)
  (apply wlp; apply pv_move; exact fB rfl)
  ((apply wlpT; exact rfl; exact rfl); (apply pv_move); (intros; exact fB rfl))
  ((apply wlpT; exact rfl; exact rfl); ((apply pv_not <;> exact rfl)); (intros; exact fB rfl))
  (apply wlp; exact pv_orF rfl rfl; exact fB rfl)
  (apply wlp; apply pv_move; exact fB rfl)
  ((apply wlpT; exact rfl; exact rfl); ((apply pf_field <;> exact rfl)); (intros; exact fP rfl))
  ((apply wlpT; exact rfl; exact rfl); (((apply pf_load; exact rfl) <;> (first | exact rfl | exact hp.cell 0 rfl rfl))); (intros; exact fT rfl))
  (apply wlpT; exact rfl; exact rfl; exact pv_seql rfl rfl; exact bool_eq (b := false) (hed.trans (decide_eq_false (by omega))))
  (apply wlp; exact pv_orF rfl rfl; exact fB rfl)
  (repeat (with_reducible first | apply wpl_nil | apply thenQ_n))
  refine WP_cond_f rfl ?_
  (repeat (with_reducible first | apply WP_seq | apply WP_region | apply thenQ_n | apply WP_skip))
  (apply wlp; (apply pf_field <;> exact rfl); exact fP rfl)
  (apply wlp; ((apply pf_load; exact rfl) <;> (first | exact rfl | exact hp.cell 0 rfl rfl)); exact fT rfl)
  by_cases h0 : n = 0
  · have hd1 : d = 1 := by have := h.g; rw [h0, Nat.gcd_zero_left] at this; exact this
    (apply wlp; exact pv_seql rfl rfl; exact bool_eq (b := true) (he.trans (decide_eq_true h0)))
    (repeat (with_reducible first | apply wpl_nil | apply thenQ_n))
    refine WP_cond_t rfl ?_
    (repeat with_reducible apply WP_seq)
    refine WP_draw mixed (by kernel_rfl) (fun w' => Hp _ _ w' _) hp.drew ?_
    have hp := hp.drew
    (repeat (first | ((apply wdp; exact rfl); (intro w hp; intros; ((first | apply pv_move | apply pf_field | (apply pf_load; exact rfl) | apply pv_not) <;> (first | exact rfl | exact hp.cell 0 rfl rfl))); (intros; (first | exact fB rfl | exact fP rfl | exact fT rfl))) | ((apply wdpT; exact rfl; exact rfl; exact rfl); (intro w hp; ((first | apply pv_move | apply pf_field | (apply pf_load; exact rfl) | apply pv_not) <;> (first | exact rfl | exact hp.cell 0 rfl rfl))); (intros; (first | exact fB rfl | exact fP rfl | exact fT rfl))) | (apply wdpF; exact rfl; exact rfl; exact rfl; exact rfl) | (apply wdpU; exact rfl; exact rfl; exact rfl)))
    (apply wdsT; exact rfl; exact rfl; exact rfl; exact st_call rfl ent37 rfl (c40 1 _ (by decide)); rintro _ w3 ⟨rfl, hk⟩; have hp := hp.call hk; refine ⟨hp, ?_⟩)
    rw [show (1 : Int).toNat = 1 from rfl]
    (apply wdsT; exact rfl; exact rfl; exact rfl; exact st_call rfl ent25 rfl (c50 d 1 _ h.fd one_fit); rintro _ w4 ⟨rfl, hk⟩; have hp := hp.call hk; refine ⟨hp, ?_⟩)
    rw [hd1, if_neg (by omega), if_pos rfl]
    (apply wdpT; exact rfl; exact rfl; exact rfl; (intro w hp; exact pv_eql rfl rfl); exact bool_eq (b := true) (by decide))
    (repeat (first | ((apply wdp; exact rfl); (intro w hp; intros; (first | apply pv_assign | exact pv_andT rfl rfl)); (intros; exact fB rfl)) | (apply wdpF; exact rfl; exact rfl; exact rfl; exact rfl) | (apply wdpU; exact rfl; exact rfl; exact rfl)))
    refine wpd_nil ?_
    (repeat (with_reducible first | apply thenQ_n | apply thenQ_ret | apply WP_ret))
    exact ret_tmp rfl rfl ⟨_, rfl, rfl, hp.keeps⟩
  · (apply wlp; exact pv_seql rfl rfl; exact bool_eq (b := false) (he.trans (decide_eq_false h0)))
    (repeat (with_reducible first | apply wpl_nil | apply thenQ_n))
    refine WP_cond_f rfl ?_
    (repeat (first | (with_reducible first | apply WP_seq | apply WP_region | apply thenQ_n | apply WP_skip) | (apply wlp; ((first | apply pf_field | (apply pf_load; exact rfl)) <;> (first | exact rfl | exact hp.cell 0 rfl rfl)); (first | exact fP rfl | exact fT rfl))))
    (apply wls; exact st_call rfl ent78 rfl (c91 n d _ h.fn h.fd))
    rintro _ w3 ⟨rfl, hk⟩
    have hp := hp.call hk
    skip
    (apply wls; exact st_call rfl ent37 rfl (c40 1 _ (by decide)))
    rintro _ w4 ⟨rfl, hk⟩
    have hp := hp.call hk
    rw [show (1 : Int).toNat = 1 from rfl, h.g]
    skip
    (apply wls; exact st_call rfl ent25 rfl (c50 1 1 _ one_fit one_fit))
    rintro _ w5 ⟨rfl, hk⟩
    have hp := hp.call hk
    rw [if_neg (by omega), if_pos rfl]
    (apply wlp; exact pv_eql rfl rfl; exact bool_eq (b := true) (by decide))
    (repeat (first | (with_reducible first | apply wpl_nil | apply thenQ_n | apply WP_ret) | (apply wlp; apply pv_assign; exact fB rfl)))
    exact ret_tmp rfl rfl ⟨_, rfl, rfl, hp.keeps⟩
theorem p44 {n d : Nat} (h : Red n d) (w : World) : Ret Tryz.prog 44 [RV n d] w (fun v w' => v = RV n d ∧ Keeps [] w w') := by
  refine Ret.of_WP Tryz.func44 rfl Tryz.ntmps44 rfl ?_
  have hp := Hp.start (M := []) (w := w)
  (repeat (first | (with_reducible first | apply WP_seq | apply WP_region | apply wpl_nil | apply thenQ_n) | (apply wlp; ((apply pf_loadb; exact rfl) <;> (first | exact rfl | exact hp.agg_blk 1 rfl rfl)); exact fA3 rfl) | (apply wls; (first | exact sbox3 hp rfl | exact salloc3 hp (zeroTy_ok rfl)); rintro _ w ⟨b, rfl, hp⟩)))
  (apply wls; exact st_call rfl ent77 rfl (p77 h _))
  rintro _ w1 ⟨rfl, hk⟩
  have hp := hp.call hk
  (repeat (first | (with_reducible first | apply WP_seq | apply WP_region | apply wpl_nil | apply thenQ_n) | (apply wlp; ((first | apply pv_move | apply pv_assign | apply pv_not) <;> exact rfl); exact fB rfl)))
  refine WP_cond_f rfl ?_
  (repeat (first | (with_reducible first | apply WP_seq | apply WP_region | apply wpl_nil | apply thenQ_n | apply WP_ret | apply WP_skip) | (apply wlp; ((apply pf_loadb; exact rfl) <;> (first | exact rfl | exact hp.agg_blk 1 rfl rfl)); exact fA3 rfl) | (apply wls0; exact sstore3 hp 0 rfl rfl rfl rfl (sizeTy_ok rfl) rfl; rintro _ w ⟨rfl, hp⟩)))
  exact ret_cell rfl rfl rfl rfl (hp.agg_blk 0 rfl rfl) ⟨_, rfl, rfl, hp.keeps⟩
theorem p19 (a : Int) (w : World) (h0 : 0 ≤ a) (h2 : a ≤ 9223372036854775807) : Ret Tryz.prog 19 [.int .i64 a] w (fun v w' => v = RV a.toNat 1 ∧ Keeps [] w w') := by
  refine Ret.of_WP Tryz.func19 rfl Tryz.ntmps19 rfl ?_
  have hp := Hp.start (M := []) (w := w)
  (repeat (first | (with_reducible first | apply WP_seq | apply WP_region | apply wpl_nil | apply thenQ_n) | (apply wlp; ((first | apply pv_move | apply pv_geq) <;> exact rfl); (first | exact fI rfl | exact fB rfl)) | (apply wls; exact salloc3 hp (zeroTy_ok rfl); rintro _ w ⟨b, rfl, hp⟩)))
  refine WP_cond_d rfl (fun _ => ?_) (fun h => absurd h0 h)
  (repeat (first | (with_reducible first | apply WP_seq | apply WP_region) | (apply wlp; apply pv_move; exact fI rfl)))
  (apply wls; exact st_call rfl ent37 rfl (c40 a _ h2))
  rintro _ w1 ⟨rfl, hk⟩
  have hp := hp.call hk
  skip
  (apply wls; exact st_call rfl ent37 rfl (c40 1 _ (by decide)))
  rintro _ w2 ⟨rfl, hk⟩
  have hp := hp.call hk
  rw [show (1 : Int).toNat = 1 from rfl]
  (repeat (first | (with_reducible first | apply wpl_nil | apply thenQ_n | apply thenQ_ret | apply WP_ret) | (apply wlp; ((apply pf_build; exact rfl) <;> exact rfl); exact fA3 rfl) | (apply wls0; exact sstore3 hp 0 rfl rfl rfl rfl (sizeTy_ok rfl) rfl; rintro _ w ⟨rfl, hp⟩)))
  exact ret_cell rfl rfl rfl rfl (hp.agg_blk 0 rfl rfl) ⟨_, rfl, rfl, hp.keeps⟩
theorem p18 {a e c d : Nat} (h1 : Red a e) (h2 : Red c d) (hc : 0 < c) (hf1 : Fit (a * d)) (hf2 : Fit (e * c)) (w : World) :
    Ret Tryz.prog 18 [RV a e, RV c d] w (fun v w' => v = .tuple #[RV (a * d / Nat.gcd (a * d) (e * c)) (e * c / Nat.gcd (a * d) (e * c)), .bool true] ∧ Keeps [] w w') := by
  have he := ofN_eq c 0
  rw [ofN_zero] at he
  refine Ret.of_WP Tryz.func18 rfl Tryz.ntmps18 rfl ?_
  have hp := Hp.start (M := []) (w := w)
  (repeat (first | (with_reducible first | apply WP_seq | apply WP_region | apply wpl_nil | apply thenQ_n) | (apply wlp; ((first | apply pv_assign | (apply pf_loadb; exact rfl)) <;> (first | exact rfl | exact hp.agg_blk 2 rfl rfl)); (first | exact fB rfl | exact fA3 rfl)) | (apply wls; (first | exact sbox3 hp rfl | exact salloc3 hp (zeroTy_ok rfl)); rintro _ w ⟨b, rfl, hp⟩)))
  (apply wls; exact st_call rfl ent44 rfl (p44 h1 _))
  rintro _ w1 ⟨rfl, hk⟩
  have hp := hp.call hk
  (apply wls0; exact sstore3 hp 2 rfl rfl rfl rfl (sizeTy_ok rfl) rfl; rintro _ w2 ⟨rfl, hp⟩)
  have hp := hp.norm 2 [.bool false, .string (ofN a), .string (ofN e)] rfl rfl
  (repeat (first | (with_reducible first | apply WP_seq | apply WP_region | apply wpl_nil | apply thenQ_n) | (apply wlp; ((apply pf_loadb; exact rfl) <;> (first | exact rfl | exact hp.agg_blk 1 rfl rfl)); exact fA3 rfl)))
  (apply wls; exact st_call rfl ent44 rfl (p44 h2 _))
  rintro _ w3 ⟨rfl, hk⟩
  have hp := hp.call hk
  (apply wls0; exact sstore3 hp 1 rfl rfl rfl rfl (sizeTy_ok rfl) rfl; rintro _ w4 ⟨rfl, hp⟩)
  have hp := hp.norm 1 [.bool false, .string (ofN c), .string (ofN d)] rfl rfl
  (repeat (with_reducible first | apply WP_seq | apply WP_region | apply wpl_nil | apply thenQ_n))
  (apply wlp; (apply pf_field <;> exact rfl); exact fP rfl)
  (apply wlp; ((apply pf_load; exact rfl) <;> (first | exact rfl | exact hp.cell 1 rfl rfl)); exact fT rfl)
  (apply wlp; exact pv_seql rfl rfl; exact bool_eq (b := false) (he.trans (decide_eq_false (by omega))))
  (repeat (with_reducible first | apply wpl_nil | apply thenQ_n))
  refine WP_cond_f rfl ?_
  (repeat (with_reducible first | apply WP_seq | apply thenQ_n | apply WP_skip))
  refine WP_drawS mixed (by kernel_rfl) (fun w' => Hp _ _ w' _) hp.drew ?_
  have hp := hp.drew
  (repeat ((apply wdp; exact rfl); (intro w hp; intros; ((first | apply pf_field | (apply pf_load; exact rfl)) <;> (first | exact rfl | exact hp.cell 1 rfl rfl | exact hp.cell 2 rfl rfl))); (intros; (first | exact fB rfl | exact fP rfl))))
  (apply wdp; exact rfl; (intro w hp; exact pv_bneq Tryz.underlying4 rfl rfl); exact bool_eq (b := false) rfl)
  (repeat ((apply wdp; exact rfl); (intro w hp; intros; ((first | apply pf_field | (apply pf_load; exact rfl)) <;> (first | exact rfl | exact hp.cell 1 rfl rfl | exact hp.cell 2 rfl rfl))); (intros; (first | exact fP rfl | exact fT rfl))))
  (apply wds; exact rfl; exact st_call rfl ent36 rfl (c43 a d _ h1.fn h2.fd); rintro _ w5 ⟨rfl, hk⟩; have hp := hp.call hk; refine ⟨hp, ?_⟩)
  (repeat ((apply wdp; exact rfl); (intro w hp; intros; ((first | apply pf_field | (apply pf_load; exact rfl)) <;> (first | exact rfl | exact hp.cell 1 rfl rfl | exact hp.cell 2 rfl rfl))); (intros; (first | exact fP rfl | exact fT rfl))))
  (apply wds; exact rfl; exact st_call rfl ent36 rfl (c43 e c _ h1.fd h2.fn); rintro _ w6 ⟨rfl, hk⟩; have hp := hp.call hk; refine ⟨hp, ?_⟩)
  skip
  (apply wds; exact rfl; exact st_call rfl ent45 rfl (c86 (a * d) (e * c) _ hf1 hf2 (Nat.mul_pos h1.d0 hc)); rintro _ w7 ⟨rfl, hk⟩; have hp := hp.call hk; refine ⟨hp, ?_⟩)
  (apply wds0S; exact rfl; exact rfl; exact sstore3 hp 0 rfl rfl rfl rfl (sizeTy_ok rfl) rfl; rintro _ w8 ⟨rfl, hp⟩)
  (repeat (apply wdp; exact rfl; (intro w hp; exact pv_assign); exact rfl))
  refine wpd_nil ?_
  (repeat (with_reducible first | apply thenQ_n | apply WP_ret))
  exact ret_cell2 rfl rfl rfl rfl rfl (hp.agg_blk 0 rfl rfl) ⟨_, rfl, rfl, hp.keeps⟩
theorem p20 {a e c d : Nat} (h1 : Red a e) (h2 : Red c d) (hf1 : Fit (a * d)) (hf2 : Fit (c * e)) (hf3 : Fit (a * d + c * e)) (hf4 : Fit (e * d)) (w : World) :
    Ret Tryz.prog 20 [RV a e, RV c d] w (fun v w' => v = RV ((a * d + c * e) / Nat.gcd (a * d + c * e) (e * d)) (e * d / Nat.gcd (a * d + c * e) (e * d)) ∧ Keeps [] w w') := by
  refine Ret.of_WP Tryz.func20 rfl Tryz.ntmps20 rfl ?_
  have hp := Hp.start (M := []) (w := w)
  (repeat (first | (with_reducible first | apply WP_seq | apply WP_region | apply wpl_nil | apply thenQ_n) | (apply wlp; ((apply pf_loadb; exact rfl) <;> (first | exact rfl | exact hp.agg_blk 2 rfl rfl)); exact fA3 rfl) | (apply wls; (first | exact sbox3 hp rfl | exact salloc3 hp (zeroTy_ok rfl)); rintro _ w ⟨b, rfl, hp⟩)))
  (apply wls; exact st_call rfl ent44 rfl (p44 h1 _))
  rintro _ w1 ⟨rfl, hk⟩
  have hp := hp.call hk
  (apply wls0; exact sstore3 hp 2 rfl rfl rfl rfl (sizeTy_ok rfl) rfl; rintro _ w2 ⟨rfl, hp⟩)
  have hp := hp.norm 2 [.bool false, .string (ofN a), .string (ofN e)] rfl rfl
  (repeat (first | (with_reducible first | apply WP_seq | apply WP_region | apply wpl_nil | apply thenQ_n) | (apply wlp; ((apply pf_loadb; exact rfl) <;> (first | exact rfl | exact hp.agg_blk 1 rfl rfl)); exact fA3 rfl)))
  (apply wls; exact st_call rfl ent44 rfl (p44 h2 _))
  rintro _ w3 ⟨rfl, hk⟩
  have hp := hp.call hk
  (apply wls0; exact sstore3 hp 1 rfl rfl rfl rfl (sizeTy_ok rfl) rfl; rintro _ w4 ⟨rfl, hp⟩)
  have hp := hp.norm 1 [.bool false, .string (ofN c), .string (ofN d)] rfl rfl
  (repeat (first | (with_reducible first | apply WP_seq | apply WP_region | apply wpl_nil | apply thenQ_n) | (apply wlp; ((first | apply pf_field | (apply pf_load; exact rfl)) <;> (first | exact rfl | exact hp.cell 1 rfl rfl | exact hp.cell 2 rfl rfl)); (first | exact fP rfl | exact fT rfl))))
  (apply wls; exact st_call rfl ent36 rfl (c43 a d _ h1.fn h2.fd))
  rintro _ w5 ⟨rfl, hk⟩
  have hp := hp.call hk
  (repeat (first | (with_reducible first | apply WP_seq | apply WP_region | apply wpl_nil | apply thenQ_n) | (apply wlp; ((first | apply pv_assign | apply pf_field | (apply pf_load; exact rfl)) <;> (first | exact rfl | exact hp.cell 1 rfl rfl | exact hp.cell 2 rfl rfl)); (first | exact fP rfl | exact fT rfl))))
  (apply wls; exact st_call rfl ent36 rfl (c43 c e _ h2.fn h1.fd))
  rintro _ w6 ⟨rfl, hk⟩
  have hp := hp.call hk
  (repeat (first | (with_reducible first | apply WP_seq | apply WP_region | apply wpl_nil | apply thenQ_n) | (apply wlp; ((first | apply pv_assign | apply pf_field | (apply pf_load; exact rfl)) <;> (first | exact rfl | exact hp.cell 1 rfl rfl | exact hp.cell 2 rfl rfl)); (first | exact fP rfl | exact fT rfl))))
  (apply wls; exact st_call rfl ent36 rfl (c43 e d _ h1.fd h2.fd))
  rintro _ w7 ⟨rfl, hk⟩
  have hp := hp.call hk
  (repeat (first | (with_reducible first | apply WP_seq | apply WP_region | apply wpl_nil | apply thenQ_n) | (apply wlp; ((first | apply pv_assign | apply pf_field | (apply pf_load; exact rfl)) <;> (first | exact rfl | exact hp.cell 1 rfl rfl | exact hp.cell 2 rfl rfl)); (first | exact fB rfl | exact fP rfl | exact fT rfl))))
  (apply wlp; exact pv_beql Tryz.underlying4 rfl rfl; exact bool_eq (b := true) rfl)
  (repeat (with_reducible first | apply wpl_nil | apply thenQ_n))
  refine WP_cond_t rfl ?_
  (repeat with_reducible apply WP_seq)
  refine WP_drawS mixed (by kernel_rfl) (fun w' => Hp _ _ w' _) hp.drew ?_
  have hp := hp.drew
  (repeat ((apply wdp; exact rfl); (intro w hp; intros; ((first | apply pv_move | apply pf_field | (apply pf_load; exact rfl)) <;> (first | exact rfl | exact hp.cell 2 rfl rfl))); (intros; (first | exact fB rfl | exact fP rfl | exact fT rfl))))
  (apply wds; exact rfl; exact st_call rfl ent32 rfl (c41 (a * d) (c * e) _ hf1 hf2); rintro _ w8 ⟨rfl, hk⟩; have hp := hp.call hk; refine ⟨hp, ?_⟩)
  (repeat ((apply wdp; exact rfl); (intro w hp; intros; apply pv_move); (intros; exact fT rfl)))
  (apply wds; exact rfl; exact st_call rfl ent45 rfl (c86 (a * d + c * e) (e * d) _ hf3 hf4 (Nat.mul_pos h1.d0 h2.d0)); rintro _ w9 ⟨rfl, hk⟩; have hp := hp.call hk; refine ⟨hp, ?_⟩)
  (apply wds0S; exact rfl; exact rfl; exact sstore3 hp 0 rfl rfl rfl rfl (sizeTy_ok rfl) rfl; rintro _ w10 ⟨rfl, hp⟩)
  refine wpd_nil ?_
  (repeat (with_reducible first | apply thenQ_n | apply thenQ_ret | apply WP_ret))
  exact ret_cell rfl rfl rfl rfl (hp.agg_blk 0 rfl rfl) ⟨_, rfl, rfl, hp.keeps⟩
theorem rv_eq (a b c d : Nat) : ((false == false) && (decide (ofN a = ofN c) && decide (ofN b = ofN d))) = decide ((a, b) = (c, d)) := by
  rw [ofN_eq, ofN_eq]
  by_cases h1 : a = c <;> by_cases h2 : b = d <;> simp [h1, h2]
theorem p17 (a b : List (Nat × Nat)) (s s2 : Option Addr) (c c2 : Nat) (w : World) (hs : SlAt w 3 eQ s a) (hs2 : SlAt w 3 eQ s2 b) (hla : a.length ≤ 1000000) (hlb : b.length ≤ 1000000) :
    Ret Tryz.prog 17 [.slice s a.length c, .slice s2 b.length c2] w (fun v w' => v = .bool (decide (a = b)) ∧ Keeps [] w w') := by
  refine Ret.of_WP Tryz.func17 rfl Tryz.ntmps17 rfl ?_
  have hp := Hp.start (M := []) (w := w)
  (repeat (first | (with_reducible first | apply WP_seq | apply WP_region | apply wpl_nil | apply thenQ_n) | (apply wlp; ((first | apply pv_move | apply pv_assign | (apply pf_len; exact rfl) | (apply pv_neq; (first | exact rfl | exact ev_sel rfl (by assumption)))) <;> exact rfl); (first | exact fI rfl | exact fB rfl | exact fS rfl))))
  refine WP_cond_nd rfl (fun h => ?_) (fun h => ?_)
  · have hne : a ≠ b := by rintro rfl; exact h rfl
    (repeat (first | (with_reducible first | apply WP_seq | apply WP_region | apply wpl_nil | apply thenQ_n | apply thenQ_ret | apply WP_ret) | (apply wlp; apply pv_assign; exact fB rfl)))
    exact ret_tmp rfl rfl ⟨_, rfl, by rw [decide_eq_false hne]; rfl, hp.keeps⟩
  · have hl : a.length = b.length := by omega
    (repeat (first | (with_reducible first | apply WP_seq | apply WP_block | apply WP_region | apply wpl_nil | apply thenQ_n | apply WP_skip) | (apply wlp; apply pv_assign; exact fI rfl)))
    refine WP_loopS [4, 5, 11, 12, 13, 14, 15, 16, 17, 18, 19, 20, 21, 22, 23, 24, 25] (fun (i : Nat) F => F.put 5 (.int .i64 (i : Int))) (fun i w' => i ≤ a.length ∧ a.take i = b.take i ∧ Hp w [] w' []) (fun i => a.length - i) 0 (put_self (Same.eq .refl) rfl) ⟨Nat.zero_le _, rfl, hp⟩ ?_
    clear hp
    rintro u i w1 ⟨hi, he, hp⟩
    (repeat (first | (with_reducible first | apply WP_seq | apply WP_region | apply wpl_nil | apply thenQ_n) | (apply wlp; ((first | apply pv_move | (apply pf_len; exact rfl) | apply pv_lss) <;> exact rfl); (first | exact fI rfl | exact fB rfl | exact fS rfl))))
    refine WP_cond_d rfl (fun h2 => ?_) (fun h2 => ?_)
    · have hlt : i < a.length := by omega
      have hlt2 : i < b.length := by omega
      obtain ⟨b0, o0, hs0, hc0⟩ := hs.base (by omega)
      have hci := hc0 i _ (List.getElem?_eq_getElem hlt)
      obtain ⟨b1, o1, hs1, hc1⟩ := hs2.base (by omega)
      have hcj := hc1 i _ (List.getElem?_eq_getElem hlt2)
      have ht1 := List.take_succ_eq_append_getElem hlt
      have ht2 := List.take_succ_eq_append_getElem hlt2
      have hne : a[i] ≠ b[i] → a ≠ b := by rintro h rfl; exact h rfl
      generalize a[i] = x at hci ht1 hne
      generalize b[i] = y at hcj ht2 hne
      obtain ⟨x1, x2⟩ := x
      obtain ⟨y1, y2⟩ := y
      (repeat (with_reducible first | apply WP_seq | apply WP_block | apply thenQ_n | apply WP_skip))
      refine WP_draw mixed (by kernel_rfl) (fun w' => Hp _ _ w' _) hp.drew ?_
      have hp := hp.drew
      (repeat ((apply wdp; exact rfl); (intro w hp; intros; ((first | apply pv_move | (apply pf_loadb; exact rfl) | (apply pf_index; exact rfl)) <;> (first | exact rfl | assumption))); (intros; (first | exact fI rfl | exact fP rfl | exact fS rfl))))
      (apply wdp; exact rfl; (intro w hp; exact pf_loads (vs := eQ (x1, x2)) rfl rfl rfl rfl (fun j v hv => hp.old0 (hci j v hv))); exact fA3 rfl)
      (repeat ((apply wdp; exact rfl); (intro w hp; intros; ((first | apply pv_move | (apply pf_loadb; exact rfl) | (apply pf_index; exact rfl)) <;> (first | exact rfl | assumption))); (intros; (first | exact fI rfl | exact fP rfl | exact fS rfl))))
      (apply wdp; exact rfl; (intro w hp; exact pf_loads (vs := eQ (y1, y2)) rfl rfl rfl rfl (fun j v hv => hp.old0 (hcj j v hv))); exact fA3 rfl)
      (apply wdp; exact rfl; (intro w hp; exact pv_ne55 rfl rfl); exact bool_eq (congrArg Bool.not (rv_eq x1 x2 y1 y2)))
      refine wpd_nil ?_
      (repeat with_reducible apply thenQ_n)
      refine WP_cond_nd rfl (fun h3 => ?_) (fun h3 => ?_)
      · (repeat (first | (with_reducible first | apply WP_seq | apply WP_region | apply wpl_nil | apply thenQ_n | apply thenQ_ret | apply inBlk_ret | apply WP_ret) | (apply wlp; apply pv_assign; exact fB rfl)))
        exact ret_tmp rfl rfl ⟨_, rfl, by rw [decide_eq_false (hne h3)]; rfl, hp.keeps⟩
      · (repeat (first | (with_reducible first | apply WP_region | apply thenQ_n | apply inBlk_n | apply WP_skip) | (apply wlp; apply pv_move; exact fI rfl)))
        (apply wlp; exact pv_add rfl rfl; exact int_eq (i64_in (by omega) (by omega)))
        (repeat (first | (with_reducible first | apply wpl_nil | apply thenQ_n) | (apply wlp; apply pv_assign; exact fI rfl)))
        exact ⟨i + 1, put_self (Same.eq (by repeat (first | exact Same.hav | exact Same.refl | refine Same.put rfl ?_ | refine Same.havs rfl ?_))) rfl, ⟨by omega, by rw [ht1, ht2, he, h3], hp⟩, by omega⟩
    · obtain rfl : i = a.length := by omega
      have hab : a = b := by
        rw [List.take_length, hl, List.take_length] at he
        exact he
      (repeat (first | (with_reducible first | apply WP_seq | apply WP_region | apply wpl_nil | apply thenQ_n | apply thenQ_exit | apply WP_ret | apply WP_exit) | ((with_reducible apply inBlk_same); exact rfl) | (apply wlp; apply pv_assign; exact fB rfl)))
      exact ret_tmp rfl rfl ⟨_, rfl, by rw [decide_eq_true hab]; rfl, hp.keeps⟩
end Go.Proofs.YtfjbioghpgmkiaaGreatDoor
/- sortesref19.Plan.Make; conditions: the plan lies in memory. -/
namespace Go.Proofs.YtfjbioghpgmkiaaGreatDoor
open Go.Eng Go.Dig

def eT2 (p : Int × Int) : List Value := [.int .i64 p.1, .int .i64 p.2]
structure Pe where
  cls : Int
  fam : Int
  ws : Option Addr
  wc : Nat
  wl : List Int
def ePe (p : Pe) : List Value := [.int .i64 p.cls, .int .i64 p.fam, .slice p.ws p.wl.length p.wc]
def mkP (p : Int × Int) : ByteArray × Int := (nmI p.1, p.2)
/-- what matters of an entrant -/
abbrev EV := Int × Int × Int × List ByteArray
def evE (e : En) : EV := (e.id, e.cls, e.fam, e.wl)
def mkEV (k : Nat) (p : Pe) : EV := (((k + 1 : Nat) : Int), p.cls, p.fam, (p.wl.take 4).map nmI)
def xN : ByteArray := ⟨#[120]⟩
/-- the entrants' wishes, owned -/
def rowsW (l : List En) : List Ent := l.map fun e => ownL eS 9 1 e.ws e.wc e.wl
theorem rowsW_snoc (l : List En) (e : En) : rowsW (l ++ [e]) = rowsW l ++ [ownL eS 9 1 e.ws e.wc e.wl] := by simp [rowsW]
theorem take_snoc {α : Type} {l : List α} {i : Nat} (h : i < l.length) (k : Nat) (hk : i < k) : (l.take k).take (i + 1) = (l.take k).take i ++ [l[i]] := by
  rw [List.take_take, List.take_take, Nat.min_eq_left (by omega), Nat.min_eq_left (by omega)]
  exact List.take_succ_eq_append_getElem h

attribute [local irreducible] PV StepF wpl wpd WP Ret
attribute [local irreducible] Fit srt tl fl seenL stO isO trn nmI

set_option maxHeartbeats 2000000 in
theorem p12 (lp : List (Int × Int)) (le : List Pe) (sp se : Option Addr) (cp ce : Nat) (w : World) (hsp : SlAt w 2 eT2 sp lp) (hse : SlAt w 3 ePe se le) (hsw : ∀ p ∈ le, SlAt w 1 eI p.ws p.wl) :
    Ret Tryz.prog 12 [.agg #[.slice sp lp.length cp, .slice se le.length ce]] w (fun v w' => ∃ (sP : Option Addr) (cP : Nat) (s : Option Addr) (c : Nat) (l : List En), v = .tuple #[.agg (dB xN 2 sP ((lp.take 6).map mkP).length cP).toArray, .slice s l.length c] ∧
      SlAt w' 2 eP sP ((lp.take 6).map mkP) ∧ EAt w' s l ∧ (∀ e ∈ l, e.wl.length ≤ e.wc) ∧ l.map evE = (le.take 8).mapIdx mkEV ∧ l.length ≤ c ∧ Keeps [] w w') := by
  refine Ret.of_WP Tryz.func12 rfl Tryz.ntmps12 rfl ?_
  have hp := Hp.start (M := []) (w := w)
  (repeat (with_reducible first | apply WP_seq | apply WP_region))
  (apply wls; exact sbox2 hp rfl; rintro _ w1 ⟨b1, rfl, hp⟩)
  (apply wls; exact salloc13 hp (zeroTy_ok rfl); rintro _ w2 ⟨b2, rfl, hp⟩)
  (repeat (first | (with_reducible first | apply WP_seq | apply WP_region | apply wpl_nil | apply thenQ_n) | (apply wlp; ((first | apply pv_assign | (apply pf_build; exact rfl)) <;> exact rfl); (first | exact fS rfl | exact fA13 rfl))))
  (apply wls; exact salloc13 hp (zeroTy_ok rfl); rintro _ w3 ⟨b4, rfl, hp⟩)
  (apply wls0; exact sstore13 hp 0 rfl rfl rfl rfl (sizeTy_ok rfl) rfl; rintro _ w4 ⟨rfl, hp⟩)
  have hp := hp.norm 0 (dB xN 2 none 0 0) rfl rfl
  have hp := hp.nilL eP 52 2
  have hp : Hp w [] w4 [blk b4 13 (frOf (dB xN 2 none ([] : List (ByteArray × Int)).length 0)) 32, ownL eP 52 2 none 0 [], blk b2 13 (frOf (dB ⟨#[]⟩ 0 none 0 0)) 32, blk b1 2 (frOf [.slice sp lp.length cp, .slice se le.length ce]) 25] := hp.picks [1, 0, 2, 3] _ rfl rfl
  (repeat (first | (with_reducible first | apply WP_seq | apply WP_block | apply WP_region | apply wpl_nil | apply thenQ_n) | (apply wlp; apply pv_assign; exact fI rfl)))
  refine WP_loopS [5, 11, 12, 13, 14, 15, 16, 17, 18, 19, 20, 21, 22, 23, 24, 25, 26, 27, 28, 29, 30, 31, 32, 33, 34, 35, 36, 37, 38, 39, 40] (fun (i : Nat) F => F.put 5 (.int .i64 (i : Int))) (fun i w' => i ≤ lp.length ∧ i ≤ 6 ∧ ∃ sP cP, SVL sP cP (((lp.take 6).take i).map mkP) ∧ Hp w [] w' [blk b4 13 (frOf (dB xN 2 sP (((lp.take 6).take i).map mkP).length cP)) 32, ownL eP 52 2 sP cP (((lp.take 6).take i).map mkP), blk b2 13 (frOf (dB ⟨#[]⟩ 0 none 0 0)) 32, blk b1 2 (frOf [.slice sp lp.length cp, .slice se le.length ce]) 25]) (fun i => 6 - i) 0 (put_self (Same.eq .refl) rfl) ⟨Nat.zero_le _, Nat.zero_le _, none, 0, .nil, hp⟩ ?_
  (repeat clear hp)
  rintro u i w5 ⟨hi, hi6, sP, cP, hvP, hp⟩
  (repeat (first | (with_reducible first | apply WP_seq | apply WP_region | apply wpl_nil | apply thenQ_n) | ((first | apply wlp | (apply wlg; exact rfl; exact rfl)); (intros; ((first | apply pv_move | apply pf_field | (apply pf_load; exact rfl) | (apply pf_len; exact rfl) | exact pv_and rfl rfl rfl | apply pv_lss) <;> (first | exact rfl | exact ev_sel rfl (by assumption) | exact hp.cell 3 rfl rfl))); (intros; (first | exact fI rfl | exact fB rfl | exact fP rfl | exact fS rfl)))))
  refine WP_cond rfl (fun hlt => ?_) (fun hlt => ?_)
  · simp only [Bool.and_eq_true, decide_eq_true_eq] at hlt
    have hlt6 : i < 6 := by omega
    have hlt : i < lp.length := by omega
    obtain ⟨b0, o0, hs0, hc0⟩ := hsp.base (by omega)
    have hci := hc0 i _ (List.getElem?_eq_getElem hlt)
    have htk := take_snoc hlt 6 hlt6
    generalize lp[i] = p at hci htk
    obtain ⟨pa, pb⟩ := p
    have hc1 := hci 0 _ rfl
    have hc2 := hci 1 _ rfl
    have htk2 : ((lp.take 6).take (i + 1)).map mkP = ((lp.take 6).take i).map mkP ++ [mkP (pa, pb)] := by rw [htk, List.map_append]; rfl
    have hTl : (((lp.take 6).take i).map mkP).length ≤ 6 := by rw [List.length_map, List.length_take]; omega
    generalize ((lp.take 6).take i).map mkP = T at hvP hp hTl htk2
    (repeat (with_reducible first | apply WP_seq | apply WP_block | apply thenQ_n | apply WP_skip))
    refine WP_drawS mixed (by kernel_rfl) (fun w' => Hp _ _ w' _) hp.drew ?_
    have hp := hp.drew
    (repeat ((apply wdp; exact rfl); (intro w hp; intros; ((first | apply pv_move | apply pf_field | (apply pf_load; exact rfl) | (apply pf_index; exact rfl) | (apply pf_index_a; exact rfl)) <;> (first | exact rfl | assumption | exact hp.cell 0 rfl rfl | exact hp.cell 3 rfl rfl))); (intros; (first | exact fI rfl | exact fP rfl | exact fS rfl))))
    (apply wdp; exact rfl; (intro w hp; exact pf_index_a (i := 0) rfl rfl rfl (by decide)); exact fP rfl)
    (apply wdp; exact rfl; (intro w hp; exact pf_load rfl rfl (hp.old0 hc1)); exact fI rfl)
    (apply wds; exact rfl; exact st_call rfl ent34 rfl (p34 pa _); rintro _ w6 ⟨rfl, hk⟩; have hp := hp.call hk; refine ⟨hp, ?_⟩)
    (repeat ((apply wdp; exact rfl); (intro w hp; intros; ((first | apply pv_move | apply pf_field | (apply pf_load; exact rfl) | (apply pf_index; exact rfl) | (apply pf_index_a; exact rfl)) <;> (first | exact rfl | assumption | exact hp.cell 3 rfl rfl))); (intros; (first | exact fI rfl | exact fP rfl | exact fS rfl))))
    (apply wdp; exact rfl; (intro w hp; exact pf_index_a (i := 1) rfl rfl rfl (by decide)); exact fP rfl)
    (apply wdp; exact rfl; (intro w hp; exact pf_load rfl rfl (hp.old0 hc2)); exact fI rfl)
    (repeat ((apply wdp; exact rfl); (intro w hp; intros; ((apply pf_build; exact rfl) <;> exact rfl)); (intros; exact fA2 rfl)))
    (apply wds; exact rfl; exact sf_slice hp rfl rfl rfl rfl rfl rfl rfl; rintro _ w7 ⟨nb, rfl, hp⟩; refine ⟨hp.tail, ?_⟩)
    (apply wdsS; exact rfl; exact rfl; exact sf_app1 eP T (mkP (pa, pb)) hp 2 0 rfl rfl rfl rfl rfl rfl (fun _ => rfl) rfl rfl rfl hvP rfl rfl (by omega); rintro _ w8 ⟨s2, c2, rfl, hv2, hp⟩)
    (repeat ((apply wdp; exact rfl); (intro w hp; intros; (apply pf_field <;> exact rfl)); (intros; exact fP rfl)))
    (apply wds0S; exact rfl; exact rfl; exact sstore1 hp 1 rfl rfl rfl rfl (sizeTy_ok rfl) rfl; rintro _ w9 ⟨rfl, hp⟩)
    refine wpd_nil ?_
    have hp := hp.norm 1 (dB xN 2 s2 (T ++ [mkP (pa, pb)]).length c2) rfl rfl
    have hp := hp.tail
    (repeat (first | (with_reducible first | apply WP_region | apply thenQ_n | apply inBlk_n) | (apply wlp; apply pv_move; exact fI rfl)))
    (apply wlp; (exact pv_add rfl rfl); exact int_eq (b := ((i + 1 : Nat) : Int)) (by rw [i64_in (by omega) (by omega)]; omega))
    (repeat (first | (with_reducible first | apply wpl_nil | apply thenQ_n) | (apply wlp; apply pv_assign; exact fI rfl)))
    refine ⟨i + 1, put_self (Same.eq (by repeat (first | exact Same.hav | exact Same.refl | refine Same.put rfl ?_ | refine Same.havs rfl ?_))) rfl, ⟨by omega, by omega, ?_⟩, by omega⟩
    rw [htk2]
    exact ⟨s2, c2, hv2, hp⟩
  simp only [Bool.and_eq_false_iff, decide_eq_false_iff_not] at hlt
  have hTe : (lp.take 6).take i = lp.take 6 := List.take_of_length_le (by rw [List.length_take]; omega)
  rw [hTe] at hvP hp
  have hlen6 : ((lp.take 6).map mkP).length ≤ 6 := by rw [List.length_map, List.length_take]; omega
  generalize (lp.take 6).map mkP = PS at hvP hp hlen6
  clear hlt hTe hi hi6
  have hp := hp.nilL eE 41 6
  have hp : Hp w [] w5 ([blk b4 13 (frOf (dB xN 2 sP PS.length cP)) 32, ownL eP 52 2 sP cP PS, blk b2 13 (frOf (dB ⟨#[]⟩ 0 none 0 0)) 32, blk b1 2 (frOf [.slice sp lp.length cp, .slice se le.length ce]) 25, ownL eE 41 6 none 0 []] ++ rowsW []) := hp.picks [1, 2, 3, 4, 0] _ rfl rfl
  (repeat (first | (with_reducible first | apply WP_seq | apply WP_block | apply WP_region | apply wpl_nil | apply thenQ_n | apply thenQ_exit | apply WP_exit) | ((with_reducible apply inBlk_same); exact rfl) | (apply wlp; apply pv_assign; (first | exact fI rfl | exact fS rfl))))
  refine WP_loopS [6, 7, 8, 9, 41, 42, 43, 44, 45, 46, 47, 48, 49, 50, 51, 52, 53, 54, 55, 56, 57, 58, 59, 60, 61, 62, 63, 64, 65, 66, 67, 68, 69, 70, 71, 72, 73, 74, 75, 76, 77, 78, 79, 80, 81, 82, 83, 84, 85, 86, 87, 88, 89, 90, 91, 92, 93, 94, 95, 96, 97, 98, 99, 100] (fun (X : Nat × Option Addr × Nat × List En) F => (F.put 6 (.slice X.2.1 X.2.2.2.length X.2.2.1)).put 7 (.int .i64 (X.1 : Int)))
    (fun X w' => X.1 ≤ le.length ∧ X.1 ≤ 8 ∧ SVL X.2.1 X.2.2.1 X.2.2.2 ∧ X.2.2.2.length = X.1 ∧ X.2.2.2.map evE = ((le.take 8).take X.1).mapIdx mkEV ∧ (∀ e ∈ X.2.2.2, SVL e.ws e.wc e.wl ∧ e.wl.length ≤ 4) ∧ Hp w [] w' ([blk b4 13 (frOf (dB xN 2 sP PS.length cP)) 32, ownL eP 52 2 sP cP PS, blk b2 13 (frOf (dB ⟨#[]⟩ 0 none 0 0)) 32, blk b1 2 (frOf [.slice sp lp.length cp, .slice se le.length ce]) 25, ownL eE 41 6 X.2.1 X.2.2.1 X.2.2.2] ++ rowsW X.2.2.2)) (fun X => 8 - X.1) (0, none, 0, []) (put_self (put_self (Same.eq .refl) rfl) rfl) ⟨Nat.zero_le _, Nat.zero_le _, .nil, rfl, by simp, by simp, hp⟩ ?_
  (repeat clear hp)
  rintro u ⟨i, s, c, l⟩ w6 ⟨hi, hi8, hvl, hll, hmap, hrw, hp⟩
  dsimp only at hi hi8 hvl hll hmap hrw hp ⊢
  (repeat (first | (with_reducible first | apply WP_seq | apply WP_region | apply wpl_nil | apply thenQ_n) | ((first | apply wlp | (apply wlg; exact rfl; exact rfl)); (intros; ((first | apply pv_move | apply pf_field | (apply pf_load; exact rfl) | (apply pf_len; exact rfl) | exact pv_and rfl rfl rfl | apply pv_lss) <;> (first | exact rfl | exact ev_sel rfl (by assumption) | exact hp.cell 3 rfl rfl))); (intros; (first | exact fI rfl | exact fB rfl | exact fP rfl | exact fS rfl)))))
  refine WP_cond rfl (fun hlt => ?_) (fun hlt => ?_)
  · simp only [Bool.and_eq_true, decide_eq_true_eq] at hlt
    have hlt8 : i < 8 := by omega
    have hlt : i < le.length := by omega
    obtain ⟨b0, o0, hs0, hc0⟩ := hse.base (by omega)
    have hci := hc0 i _ (List.getElem?_eq_getElem hlt)
    have hws := hsw le[i] (List.getElem_mem hlt)
    have htk := take_snoc hlt 8 hlt8
    generalize le[i] = p at hci htk hws
    have hc1 : w.cell? ⟨b0, o0 + i * 3 + 0, none⟩ = some (.int .i64 p.cls) := hci 0 _ rfl
    have hc2 : w.cell? ⟨b0, o0 + i * 3 + 1, none⟩ = some (.int .i64 p.fam) := hci 1 _ rfl
    have hc3 : w.cell? ⟨b0, o0 + i * 3 + 2, none⟩ = some (.slice p.ws p.wl.length p.wc) := hci 2 _ rfl
    have hmap2 : ((le.take 8).take (i + 1)).mapIdx mkEV = ((le.take 8).take i).mapIdx mkEV ++ [mkEV i p] := by
      rw [htk, List.mapIdx_append]
      simp only [List.mapIdx_cons, List.mapIdx_nil, List.length_take]
      rw [show 0 + min i (min 8 le.length) = i from by omega]
    rw [← hmap] at hmap2
    clear htk hmap
    (repeat (with_reducible first | apply WP_seq | apply WP_block | apply thenQ_n | apply WP_skip))
    refine WP_drawS mixed (by kernel_rfl) (fun w' => Hp _ _ w' _) hp.drew ?_
    have hp := hp.drew
    (repeat ((apply wdp; exact rfl); (intro w hp; intros; apply pv_move); (intros; exact fI rfl)))
    (apply wdp; exact rfl; (intro w hp; exact pv_add rfl rfl); exact int_eq (b := ((i + 1 : Nat) : Int)) (by rw [i64_in (by omega) (by omega)]; omega))
    (repeat ((apply wdp; exact rfl); (intro w hp; intros; ((first | apply pv_move | apply pf_field | (apply pf_load; exact rfl) | (apply pf_index; exact rfl) | (apply pf_build; exact rfl)) <;> (first | exact rfl | assumption | exact hp.cell 3 rfl rfl | exact hp.old0 (by assumption)))); (intros; (first | exact fI rfl | exact fP rfl | exact fS rfl | exact fA6 rfl))))
    (apply wds; exact rfl; exact salloc6 hp (zeroTy_ok rfl); rintro _ w7 ⟨pb, rfl, hp⟩; refine ⟨hp.tail, ?_⟩)
    (apply wds0S; exact rfl; exact rfl; exact sstore6 hp 0 rfl rfl rfl rfl (sizeTy_ok rfl) rfl; rintro _ w8 ⟨rfl, hp⟩)
    refine wpd_nil ?_
    have hp := hp.norm 0 (eE ⟨((i + 1 : Nat) : Int), p.cls, p.fam, none, 0, []⟩) rfl rfl
    have hp := hp.nilL eS 9 1
    have hp : Hp w [] w8 ([ownL eS 9 1 none 0 (((p.wl.take 4).take 0).map nmI), blk pb 6 (frOf (eE ⟨((i + 1 : Nat) : Int), p.cls, p.fam, none, 0, ((p.wl.take 4).take 0).map nmI⟩)) 41] ++ ([blk b4 13 (frOf (dB xN 2 sP PS.length cP)) 32, ownL eP 52 2 sP cP PS, blk b2 13 (frOf (dB ⟨#[]⟩ 0 none 0 0)) 32, blk b1 2 (frOf [.slice sp lp.length cp, .slice se le.length ce]) 25, ownL eE 41 6 s c l] ++ rowsW l)) := hp
    (repeat (first | (with_reducible first | apply WP_seq | apply WP_block | apply WP_region | apply wpl_nil | apply thenQ_n) | (apply wlp; apply pv_assign; exact fI rfl)))
    refine WP_loopS [9, 67, 68, 69, 70, 71, 72, 73, 74, 75, 76, 77, 78, 79, 80, 81, 82, 83, 84, 85, 86, 87, 88, 89, 90, 91, 92, 93, 94, 95, 96] (fun (j : Nat) F => F.put 9 (.int .i64 (j : Int)))
      (fun j w' => j ≤ p.wl.length ∧ j ≤ 4 ∧ ∃ ws wc, SVL ws wc (((p.wl.take 4).take j).map nmI) ∧ Hp w [] w' ([ownL eS 9 1 ws wc (((p.wl.take 4).take j).map nmI), blk pb 6 (frOf (eE ⟨((i + 1 : Nat) : Int), p.cls, p.fam, ws, wc, ((p.wl.take 4).take j).map nmI⟩)) 41] ++ ([blk b4 13 (frOf (dB xN 2 sP PS.length cP)) 32, ownL eP 52 2 sP cP PS, blk b2 13 (frOf (dB ⟨#[]⟩ 0 none 0 0)) 32, blk b1 2 (frOf [.slice sp lp.length cp, .slice se le.length ce]) 25, ownL eE 41 6 s c l] ++ rowsW l))) (fun j => 4 - j) 0 (put_self (Same.eq .refl) rfl) ⟨Nat.zero_le _, Nat.zero_le _, none, 0, .nil, hp⟩ ?_
    (repeat clear hp)
    rintro u2 j w9 ⟨hj, hj4, ws, wc, hvw, hp⟩
    (repeat (first | (with_reducible first | apply WP_seq | apply WP_region | apply wpl_nil | apply thenQ_n) | ((first | apply wlp | (apply wlg; exact rfl; exact rfl)); (intros; ((first | apply pv_move | apply pf_field | (apply pf_load; exact rfl) | (apply pf_len; exact rfl) | exact pv_and rfl rfl rfl | apply pv_lss | (apply pf_index; exact rfl)) <;> (first | exact rfl | exact ev_sel rfl (by assumption) | assumption | exact hp.old0 (by assumption) | exact hp.cell 5 rfl rfl))); (intros; (first | exact fI rfl | exact fB rfl | exact fP rfl | exact fS rfl)))))
    refine WP_cond rfl (fun hjt => ?_) (fun hjt => ?_)
    · simp only [Bool.and_eq_true, decide_eq_true_eq] at hjt
      have hjt4 : j < 4 := by omega
      have hjt : j < p.wl.length := by omega
      obtain ⟨b1', o1', hs1, hc1'⟩ := hws.base (by omega)
      have hcj := hc1' j _ (List.getElem?_eq_getElem hjt) 0 _ rfl
      have htj := take_snoc hjt 4 hjt4
      generalize p.wl[j] = a at hcj htj
      have hcj : w.cell? ⟨b1', o1' + j * 1, none⟩ = some (.int .i64 a) := hcj
      have htj2 : ((p.wl.take 4).take (j + 1)).map nmI = ((p.wl.take 4).take j).map nmI ++ [nmI a] := by rw [htj, List.map_append]; rfl
      have hWl : (((p.wl.take 4).take j).map nmI).length ≤ 4 := by rw [List.length_map, List.length_take]; omega
      generalize ((p.wl.take 4).take j).map nmI = W at hvw hp hWl htj2
      clear htj
      (repeat (with_reducible first | apply WP_seq | apply WP_block | apply thenQ_n | apply WP_skip))
      refine WP_drawS mixed (by kernel_rfl) (fun w' => Hp _ _ w' _) hp.drew ?_
      have hp := hp.drew
      (repeat ((apply wdp; exact rfl); (intro w hp; intros; ((first | apply pv_move | apply pf_field | (apply pf_load; exact rfl) | (apply pf_index; exact rfl)) <;> (first | exact rfl | assumption | exact hp.cell 1 rfl rfl | exact hp.old0 (by assumption) | exact hp.cell 5 rfl rfl))); (intros; (first | exact fI rfl | exact fP rfl | exact fS rfl))))
      (apply wds; exact rfl; exact st_call rfl ent34 rfl (p34 a _); rintro _ w10 ⟨rfl, hk⟩; have hp := hp.call hk; refine ⟨hp, ?_⟩)
      (apply wds; exact rfl; exact sf_slice hp rfl rfl rfl rfl rfl rfl rfl; rintro _ w11 ⟨nb, rfl, hp⟩; refine ⟨hp.tail, ?_⟩)
      (apply wdsS; exact rfl; exact rfl; exact sf_app1 eS W (nmI a) hp 1 0 rfl rfl rfl rfl rfl rfl (fun _ => rfl) rfl rfl rfl hvw rfl rfl (by omega); rintro _ w12 ⟨s2, c2, rfl, hv2, hp⟩)
      (repeat ((apply wdp; exact rfl); (intro w hp; intros; (apply pf_field <;> exact rfl)); (intros; exact fP rfl)))
      (apply wds0S; exact rfl; exact rfl; exact sstore1 hp 2 rfl rfl rfl rfl (sizeTy_ok rfl) rfl; rintro _ w13 ⟨rfl, hp⟩)
      refine wpd_nil ?_
      have hp := hp.norm 2 (eE ⟨((i + 1 : Nat) : Int), p.cls, p.fam, s2, c2, W ++ [nmI a]⟩) rfl rfl
      have hp := hp.tail
      (repeat (first | (with_reducible first | apply WP_region | apply thenQ_n | apply inBlk_n) | (apply wlp; apply pv_move; exact fI rfl)))
      (apply wlp; (exact pv_add rfl rfl); exact int_eq (b := ((j + 1 : Nat) : Int)) (by rw [i64_in (by omega) (by omega)]; omega))
      (repeat (first | (with_reducible first | apply wpl_nil | apply thenQ_n) | (apply wlp; apply pv_assign; exact fI rfl)))
      refine ⟨j + 1, put_self (Same.eq (by repeat (first | exact Same.hav | exact Same.refl | refine Same.put rfl ?_ | refine Same.havs rfl ?_))) rfl, ⟨by omega, by omega, ?_⟩, by omega⟩
      rw [htj2]
      exact ⟨s2, c2, hv2, hp⟩
    simp only [Bool.and_eq_false_iff, decide_eq_false_iff_not] at hjt
    have hWe : (p.wl.take 4).take j = p.wl.take 4 := List.take_of_length_le (by rw [List.length_take]; omega)
    rw [hWe] at hvw hp
    have hW4 : ((p.wl.take 4).map nmI).length ≤ 4 := by rw [List.length_map, List.length_take]; omega
    obtain ⟨E, hE⟩ : ∃ E : En, E = ⟨((i + 1 : Nat) : Int), p.cls, p.fam, ws, wc, (p.wl.take 4).map nmI⟩ := ⟨_, rfl⟩
    have hEv : evE E = mkEV i p := by rw [hE]; rfl
    have hE2 : SVL E.ws E.wc E.wl ∧ E.wl.length ≤ 4 := by rw [hE]; exact ⟨hvw, hW4⟩
    have hp : Hp w [] w9 ([ownL eS 9 1 E.ws E.wc E.wl, blk pb 6 (frOf (eE E)) 41] ++ ([blk b4 13 (frOf (dB xN 2 sP PS.length cP)) 32, ownL eP 52 2 sP cP PS, blk b2 13 (frOf (dB ⟨#[]⟩ 0 none 0 0)) 32, blk b1 2 (frOf [.slice sp lp.length cp, .slice se le.length ce]) 25, ownL eE 41 6 s c l] ++ rowsW l)) := by
      rw [hE]
      exact hp
    clear hE hvw hW4 hWe hjt hj hj4
    (repeat (first | (with_reducible first | apply WP_region | apply thenQ_n | apply thenQ_exit | apply WP_exit) | ((with_reducible apply inBlk_same); exact rfl) | (apply wlp; ((first | apply pv_move | (apply pf_loadb; exact rfl)) <;> (first | exact rfl | exact hp.agg_blk 1 rfl rfl)); (first | exact fS rfl | exact fA6 rfl))))
    (apply wls; exact sf_slice hp rfl rfl rfl rfl rfl rfl rfl; rintro _ w14 ⟨nb, rfl, hp⟩)
    (apply wls; exact sf_app1 eE l E hp 7 0 rfl rfl rfl rfl rfl rfl (fun _ => rfl) rfl rfl rfl hvl rfl rfl (by omega); rintro _ w15 ⟨s2, c2, rfl, hv2, hp⟩)
    have hp := hp.tail
    have hp := hp.dropAt 1
    have hp : Hp w [] w15 ([blk b4 13 (frOf (dB xN 2 sP PS.length cP)) 32, ownL eP 52 2 sP cP PS, blk b2 13 (frOf (dB ⟨#[]⟩ 0 none 0 0)) 32, blk b1 2 (frOf [.slice sp lp.length cp, .slice se le.length ce]) 25, ownL eE 41 6 s2 c2 (l ++ [E])] ++ rowsW (l ++ [E])) := by
      rw [rowsW_snoc, ← List.append_assoc]
      exact hp.perm (List.perm_append_singleton _ _).symm
    (repeat (first | (with_reducible first | apply WP_region | apply wpl_nil | apply thenQ_n | apply inBlk_n) | (apply wlp; (first | apply pv_move | apply pv_assign); (first | exact fI rfl | exact fS rfl))))
    (apply wlp; (exact pv_add rfl rfl); exact int_eq (b := ((i + 1 : Nat) : Int)) (by rw [i64_in (by omega) (by omega)]; omega))
    (repeat (first | (with_reducible first | apply wpl_nil | apply thenQ_n) | (apply wlp; apply pv_assign; exact fI rfl)))
    refine ⟨(i + 1, s2, c2, l ++ [E]), put_self (put_self (Same.eq (by repeat (first | exact Same.hav | exact Same.refl | refine Same.put rfl ?_ | refine Same.havs rfl ?_))) rfl) rfl, ⟨by dsimp only; omega, by dsimp only; omega, hv2, by dsimp only; rw [List.length_append, hll]; rfl, ?_, ?_, hp⟩, by dsimp only; omega⟩
    · dsimp only
      rw [hmap2, List.map_append]
      simp [hEv]
    · dsimp only
      intro e he
      rcases List.mem_append.1 he with he | he
      · exact hrw e he
      · rw [List.mem_singleton.1 he]
        exact hE2
  simp only [Bool.and_eq_false_iff, decide_eq_false_iff_not] at hlt
  have hTe : (le.take 8).take i = le.take 8 := List.take_of_length_le (by rw [List.length_take]; omega)
  rw [hTe] at hmap
  clear hlt hTe
  (repeat (first | (with_reducible first | apply WP_seq | apply WP_region | apply thenQ_n | apply thenQ_exit | apply WP_exit) | ((with_reducible apply inBlk_same); exact rfl) | (apply wlp; ((first | apply pv_move | (apply pf_loadb; exact rfl)) <;> (first | exact rfl | exact hp.agg_blk 0 rfl rfl)); (first | exact fS rfl | exact fA13 rfl))))
  (apply wls0; exact sstore13 hp 2 rfl rfl rfl rfl (sizeTy_ok rfl) rfl; rintro _ w7 ⟨rfl, hp⟩)
  have hp := hp.norm 2 (dB xN 2 sP PS.length cP) rfl rfl
  (repeat (first | (with_reducible first | apply wpl_nil | apply thenQ_n | apply WP_ret) | (apply wlp; apply pv_assign; exact fS rfl)))
  refine ret_cell2 rfl rfl rfl rfl rfl (hp.agg_blk 2 rfl rfl) ⟨_, rfl, sP, cP, s, c, l, rfl, ownL_At hp 1 rfl hvP (fun _ => rfl), ⟨ownL_At hp 4 rfl hvl (fun _ => rfl), fun e he => ?_, fun e he => by have := (hrw e he).2; omega⟩, fun e he => (hrw e he).1.cap, hmap, hvl.cap, hp.keeps⟩
  refine ownL_mem (e := 9) hp ?_ (hrw e he).1 (fun _ => rfl)
  exact List.mem_append_right [_, _, _, _, _] (List.mem_map_of_mem (f := fun e : En => ownL eS 9 1 e.ws e.wc e.wl) he)
end Go.Proofs.YtfjbioghpgmkiaaGreatDoor
/- places.Odds; conditions: a ballot of at most 7 entrants that lies in memory, for whose number of entrants the chain of orders is checked. -/
namespace Go.Proofs.YtfjbioghpgmkiaaGreatDoor
open Go.Eng Go.Dig

/-- from each order one comes to the next one -/
structure Chain (n : Nat) : Prop where
  zero : ordN n 0 = idn n
  next : ∀ t, t < fact n → adv (ordN n t) = if t + 1 < fact n then some (ordN n (t + 1)) else none
  ok : ∀ t, t < fact n → isO n (ordN n t) = true
/-- the column of a place -/
def colO (m : Nat) (T : List (ByteArray × Int)) (a : ByteArray) : Option Int := if a = noN then some m else (T.findIdx? fun p => decide (p.1 = a)).map fun i => (i : Int)
def colI (ps : List (ByteArray × Int)) (a : ByteArray) : Nat := ((colO ps.length ps a).getD 0).toNat
theorem colO_nil (m : Nat) : (fun x => if x = noN then some (Value.int .i64 (m : Int)) else none) = mF (colO m []) := by
  funext a
  unfold mF colO
  by_cases h : a = noN
  · rw [if_pos h, if_pos h]; rfl
  · rw [if_neg h, if_neg h]; rfl
theorem colO_snoc (m : Nat) (T : List (ByteArray × Int)) (p : ByteArray × Int) (a : ByteArray) : colO m (T ++ [p]) a = if (colO m T p.1).isSome = false ∧ a = p.1 then some (T.length : Int) else colO m T a := by
  unfold colO
  by_cases ha : a = noN
  · rw [if_pos ha, if_pos ha]
    rw [if_neg]
    rintro ⟨h1, h2⟩
    rw [if_pos (h2 ▸ ha)] at h1
    cases h1
  · rw [if_neg ha, if_neg ha, List.findIdx?_append]
    by_cases hp : a = p.1
    · subst hp
      rw [if_neg ha]
      cases h : T.findIdx? fun q => decide (q.1 = p.1) with
      | none => simp
      | some i => simp
    · rw [if_neg (fun h => hp h.2)]
      cases h : T.findIdx? fun q => decide (q.1 = a) with
      | none =>
        have : ¬ p.1 = a := fun e => hp e.symm
        simp [this]
      | some i => simp
theorem colI_lt {ps : List (ByteArray × Int)} {a : ByteArray} (_h : a = noN ∨ (stO ps a).isSome = true) : colI ps a < ps.length + 1 ∧ (colO ps.length ps a).getD 0 = (colI ps a : Int) := by
  have h0 : 0 ≤ (colO ps.length ps a).getD 0 ∧ (colO ps.length ps a).getD 0 ≤ ps.length := by
    unfold colO
    by_cases ha : a = noN
    · rw [if_pos ha]
      exact ⟨Int.natCast_nonneg _, Int.le_refl _⟩
    · rw [if_neg ha]
      cases hf : ps.findIdx? fun p => decide (p.1 = a) with
      | none => exact ⟨Int.le_refl _, Int.natCast_nonneg _⟩
      | some i =>
        have := (List.findIdx?_eq_some_iff_getElem.1 hf).1
        constructor
        · exact Int.natCast_nonneg _
        · show (i : Int) ≤ _
          omega
  unfold colI
  constructor <;> omega
theorem asg_place {l : List En} {ps : List (ByteArray × Int)} : ∀ (T : List Int) (S : AS), (∀ w, (S.1 w).getD 0 ≤ (stO ps w).getD 0) → (∀ y ∈ S.2, y = noN ∨ (stO ps y).isSome = true) → ∀ y ∈ (T.foldl (stepA l) S).2, y = noN ∨ (stO ps y).isSome = true
  | [], S, _, h => h
  | k :: T, S, h0, h => by
    rw [List.foldl_cons]
    refine asg_place T _ (fun w => Int.le_trans (stepA_le l S k w) (h0 w)) ?_
    cases hf : (wsh l k).find? (avl S.1) with
    | none => rw [stepA_none hf]; exact h
    | some w0 =>
      rw [stepA_some hf]
      intro y hy
      have hy : y ∈ S.2.set k.toNat w0 := hy
      rcases List.mem_or_eq_of_mem_set hy with hy | hy
      · exact h y hy
      · subst hy
        have ha := List.find?_some hf
        unfold avl at ha
        have ha : 0 < (S.1 y).getD 0 := by simpa using ha
        have := h0 y
        cases hs : stO ps y with
        | none => rw [hs, Option.getD_none] at this; omega
        | some v => exact .inr rfl
theorem asg_ok (l : List En) (ps : List (ByteArray × Int)) (ord : List Int) : ∀ y ∈ asg l ps ord, y = noN ∨ (stO ps y).isSome = true := by
  refine asg_place (trn l ord) (asg0 l ps) (fun w => Int.le_refl _) ?_
  intro y hy
  exact .inl (List.eq_of_mem_replicate hy)
theorem asg_len (l : List En) (ps : List (ByteArray × Int)) (ord : List Int) : (asg l ps ord).length = l.length := by
  unfold asg
  rw [foldA_len]
  simp [asg0]
theorem xa_ok (l : List En) (ps : List (ByteArray × Int)) (ord : List Int) (k : Nat) : xa (asg l ps ord) k = noN ∨ (stO ps (xa (asg l ps ord) k)).isSome = true := by
  unfold xa
  rw [Int.toNat_natCast]
  cases h : (asg l ps ord)[k]? with
  | none => exact .inl rfl
  | some y => exact asg_ok l ps ord y (List.mem_of_getElem? h)
/-- the column in which an entrant is counted at an order -/
def colG (l : List En) (ps : List (ByteArray × Int)) (o : List Int) (i : Nat) : Nat := colI ps (xa (asg l ps o) i)

/-! the table of counts -/
def cntG (g : List Int → Nat → Nat) (os : List (List Int)) (i j : Nat) : Nat := os.countP fun o => decide (g o i = j)
def rowC (m : Nat) (g : List Int → Nat → Nat) (os : List (List Int)) (i : Nat) : List Int := (List.range (m + 1)).map fun j => (cntG g os i j : Int)
def mtx (n m : Nat) (g : List Int → Nat → Nat) (os : List (List Int)) (o : List Int) (k : Nat) : List (List Int) := (List.range n).map fun i => rowC m g (if i < k then os ++ [o] else os) i
theorem rowC_len (m : Nat) (g : List Int → Nat → Nat) (os : List (List Int)) (i : Nat) : (rowC m g os i).length = m + 1 := by simp [rowC]
theorem rowC_get {m : Nat} {g : List Int → Nat → Nat} {os : List (List Int)} {i j : Nat} (hj : j < m + 1) : (rowC m g os i)[j]? = some (cntG g os i j : Int) := by
  unfold rowC
  rw [List.getElem?_map, List.getElem?_range hj]
  rfl
theorem cntG_snoc (g : List Int → Nat → Nat) (os : List (List Int)) (o : List Int) (i j : Nat) : cntG g (os ++ [o]) i j = cntG g os i j + if g o i = j then 1 else 0 := by
  unfold cntG
  rw [List.countP_append, List.countP_cons, List.countP_nil]
  by_cases h : g o i = j <;> simp [h]
theorem cntG_le (g : List Int → Nat → Nat) (os : List (List Int)) (i j : Nat) : cntG g os i j ≤ os.length := List.countP_le_length
theorem rowC_step {m : Nat} {g : List Int → Nat → Nat} {os : List (List Int)} {o : List Int} {i : Nat} (hg : g o i < m + 1) : (rowC m g os i).set (g o i) ((cntG g os i (g o i) + 1 : Nat) : Int) = rowC m g (os ++ [o]) i := by
  apply List.ext_getElem?
  intro j
  rw [List.getElem?_set, rowC_len]
  by_cases hj : j < m + 1
  · rw [rowC_get hj, rowC_get hj, cntG_snoc]
    by_cases h : g o i = j
    · subst h
      rw [if_pos rfl, if_pos hg, if_pos rfl]
    · rw [if_neg h, if_neg h]
      rfl
  · rw [if_neg (by omega), List.getElem?_eq_none (by rw [rowC_len]; omega), List.getElem?_eq_none (by rw [rowC_len]; omega)]
theorem mtx_len (n m : Nat) (g : List Int → Nat → Nat) (os : List (List Int)) (o : List Int) (k : Nat) : (mtx n m g os o k).length = n := by simp [mtx]
theorem mtx_get {n m : Nat} {g : List Int → Nat → Nat} {os : List (List Int)} {o : List Int} {k i : Nat} (hi : i < n) : (mtx n m g os o k)[i]? = some (rowC m g (if i < k then os ++ [o] else os) i) := by
  unfold mtx
  rw [List.getElem?_map, List.getElem?_range hi]
  rfl
theorem mtx_step {n m : Nat} {g : List Int → Nat → Nat} {os : List (List Int)} {o : List Int} {k : Nat} (hk : k < n) : (mtx n m g os o k).set k (rowC m g (os ++ [o]) k) = mtx n m g os o (k + 1) := by
  apply List.ext_getElem?
  intro i
  rw [List.getElem?_set, mtx_len]
  by_cases hi : i < n
  · rw [mtx_get hi, mtx_get hi]
    by_cases h : k = i
    · subst h
      rw [if_pos rfl, if_pos hk, if_pos (by omega)]
    · rw [if_neg h]
      by_cases h2 : i < k
      · rw [if_pos h2, if_pos (by omega)]
      · rw [if_neg h2, if_neg (by omega)]
  · rw [if_neg (by omega), List.getElem?_eq_none (by rw [mtx_len]; omega), List.getElem?_eq_none (by rw [mtx_len]; omega)]
theorem mtx_done (n m : Nat) (g : List Int → Nat → Nat) (os : List (List Int)) (o o' : List Int) : mtx n m g os o n = mtx n m g (os ++ [o]) o' 0 := by
  unfold mtx
  apply List.map_congr_left
  intro i hi
  have := List.mem_range.1 hi
  rw [if_pos this, if_neg (by omega)]
theorem mtx_zero' (n m : Nat) (g : List Int → Nat → Nat) (os : List (List Int)) (o o' : List Int) : mtx n m g os o 0 = mtx n m g os o' 0 := by
  unfold mtx
  apply List.map_congr_left
  intro i _
  rw [if_neg (by omega), if_neg (by omega)]
theorem mtx_zero (n m : Nat) (g : List Int → Nat → Nat) (o : List Int) : mtx n m g [] o 0 = List.replicate n (List.replicate (m + 1) 0) := by
  unfold mtx
  apply List.ext_getElem
  · simp
  · intro i h1 h2
    simp only [List.getElem_map, List.getElem_replicate]
    rw [if_neg (by omega)]
    unfold rowC cntG
    apply List.ext_getElem
    · simp
    · intro j h3 h4
      simp
def osT (n t : Nat) : List (List Int) := (List.range t).map (ordN n)
theorem osT_zero (n : Nat) : osT n 0 = [] := rfl
theorem osT_snoc (n t : Nat) : osT n (t + 1) = osT n t ++ [ordN n t] := by simp [osT, List.range_succ]
theorem osT_len (n t : Nat) : (osT n t).length = t := by simp [osT]
theorem fact7 : fact 7 = 5040 := rfl
def rat (a b : Nat) : Nat × Nat := (a / Nat.gcd a b, b / Nat.gcd a b)
/-- the chances of a list of entrants -/
def oddsR (l : List En) (ps : List (ByteArray × Int)) (i : Nat) : List (Nat × Nat) := (List.range (ps.length + 1)).map fun j => rat (cntG (colG l ps) (osT l.length (fact l.length)) i j) (fact l.length)
theorem oddsR_eq (l : List En) (ps : List (ByteArray × Int)) (i : Nat) : oddsR l ps i = (List.range (ps.length + 1)).map fun j => rat (cntG (colG l ps) (osT l.length (fact l.length)) i j) (fact l.length) := rfl
def oddsL (l : List En) (ps : List (ByteArray × Int)) : List (List (Nat × Nat)) := (List.range l.length).map (oddsR l ps)

/-! rows in memory -/
def eOB (m : Nat) : Option Nat → List Value
  | none => [.slice none 0 0]
  | some b => [.slice (some ⟨b, 0, none⟩) (m + 1) (m + 1)]
theorem eOB_len (m : Nat) (x : Option Nat) : (eOB m x).length = 1 := by cases x <;> rfl
structure QRow where
  s : Option Addr
  c : Nat
  l : List (Nat × Nat)
def eQR (r : QRow) : List Value := [.slice r.s r.l.length r.c]
def zQ : QRow := ⟨none, 0, []⟩
def rowE (m b : Nat) (z : List Int) : Ent := ownL eI 3 1 (some ⟨b, 0, none⟩) (m + 1) z
def rowsC (m : Nat) (rb : List Nat) (M : List (List Int)) : List Ent := List.zipWith (rowE m) rb M
theorem rowsC_nil (m : Nat) : rowsC m [] [] = [] := rfl
theorem rowsC_get {m : Nat} {rb : List Nat} {M : List (List Int)} {i b : Nat} {z : List Int} (hb : rb[i]? = some b) (hz : M[i]? = some z) : (rowsC m rb M)[i]? = some (rowE m b z) := by
  unfold rowsC
  rw [List.getElem?_zipWith, hb, hz]
theorem rowsC_set {m : Nat} {rb : List Nat} {M : List (List Int)} {i b : Nat} {z : List Int} (hb : rb[i]? = some b) : (rowsC m rb M).set i (rowE m b z) = rowsC m rb (M.set i z) := by
  unfold rowsC
  apply List.ext_getElem?
  intro j
  rw [List.getElem?_set, List.getElem?_zipWith, List.getElem?_zipWith, List.getElem?_set, List.length_zipWith]
  by_cases h : i = j
  · subst h
    rw [if_pos rfl, if_pos rfl, hb]
    have := (List.getElem?_eq_some_iff.1 hb).1
    by_cases h2 : i < M.length
    · rw [if_pos (by omega), if_pos h2]
    · rw [if_neg (by omega), if_neg h2]
  · rw [if_neg h, if_neg h]
theorem rowsC_snoc {m : Nat} {rb : List Nat} {M : List (List Int)} {b : Nat} {z : List Int} (h : rb.length = M.length) : rowsC m (rb ++ [b]) (M ++ [z]) = rowsC m rb M ++ [rowE m b z] := by
  unfold rowsC
  rw [List.zipWith_append h]
  rfl
def rowsQ (rs : List QRow) : List Ent := rs.map fun r => ownL eQ 55 3 r.s r.c r.l
theorem rowsQ_snoc (rs : List QRow) (r : QRow) : rowsQ (rs ++ [r]) = rowsQ rs ++ [ownL eQ 55 3 r.s r.c r.l] := by simp [rowsQ]
theorem part_set {α : Type} {A : List α} {n i : Nat} {z x : α} (hA : A.length = i) (h : i < n) : (A ++ List.replicate (n - i) z).set i x = (A ++ [x]) ++ List.replicate (n - (i + 1)) z := by
  obtain ⟨k, hk⟩ : ∃ k, n - i = k + 1 := ⟨n - i - 1, by omega⟩
  rw [List.set_append_right _ _ (by omega), hA, Nat.sub_self, hk, show n - (i + 1) = k from by omega, List.replicate_succ]
  simp
theorem part_split {α : Type} {A : List α} {n i : Nat} {z : α} (h : i < n) : A ++ List.replicate (n - i) z = (A ++ [z]) ++ List.replicate (n - (i + 1)) z := by
  obtain ⟨k, hk⟩ : ∃ k, n - i = k + 1 := ⟨n - i - 1, by omega⟩
  rw [hk, show n - (i + 1) = k from by omega, List.replicate_succ]
  simp
theorem mid_set {α : Type} {A X : List α} {i : Nat} {z x : α} (hA : A.length = i) : ((A ++ [z]) ++ X).set i x = (A ++ [x]) ++ X := by
  rw [List.append_assoc, List.set_append_right _ _ (by omega), hA, Nat.sub_self, List.append_assoc]
  rfl
theorem mid_get {α : Type} {A X : List α} {i : Nat} {z : α} (hA : A.length = i) : ((A ++ [z]) ++ X)[i]? = some z := by
  rw [List.append_assoc, List.getElem?_append_right (by omega), hA, Nat.sub_self]
  rfl
theorem part_get {α : Type} {A : List α} {n i : Nat} {z : α} (hA : A.length = i) (h : i < n) : (A ++ List.replicate (n - i) z)[i]? = some z := by
  rw [List.getElem?_append_right (by omega), hA, Nat.sub_self, List.getElem?_replicate, if_pos (by omega)]
theorem part_len {α : Type} {A : List α} {n i : Nat} {z : α} (hA : A.length = i) (h : i ≤ n) : (A ++ List.replicate (n - i) z).length = n := by
  rw [List.length_append, List.length_replicate]
  omega
theorem part_done {α : Type} {A : List α} {n : Nat} {z : α} : A ++ List.replicate (n - n) z = A := by
  rw [Nat.sub_self]
  simp

section
variable {α : Type} [DecidableEq α] {K : KeyEnc α} {P : Program} {n : FrK} {w0 w : World} {M : List Nat} {L : List Ent} {F : Fr} {d : Option Tmp} {ty : TypeId} {pos : String} {aft : Array Edge} {g : Option (Nat × Bool)} {x y z : Operand}
theorem st_insert {mt kt et : TypeId} {b : Nat} {f : α → Option Value} {a : α} {v : Value} (hp : Hp w0 M w L) (i : Nat) (hi : L[i]? = some (mapE K b f)) (hx : ev n F x = .map (some b)) (hy : ev n F y = K.enc a) (hv : ev n F z = v)
    (hm : P.underlying mt = some (.map kt et)) (hk : P.underlying kt = some K.kd) :
    StepF P n ⟨d, .insert mt x y z, ty, pos, aft, g⟩ F w (fun u w' => u = undef ∧ Hp w0 M w' (L.set i (mapE K b (fun x => if x = a then some v else f x)))) := by
  obtain ⟨o, ho, hf⟩ := hp.has i _ hi b rfl
  obtain ⟨w', o', hr, hk', hb', hf'⟩ := run_put (P := P) K hm hk ho hf a v
  refine stepF_skip (w' := w') ?_ ⟨rfl, hp.upd hi (by simpa [mapE] using hk') ?_⟩
  · simp [execOp, hx, hy, hv, hr]
  · intro b1 hb1
    have : b1 = b := by simpa [mapE, eq_comm] using hb1
    subst this
    exact ⟨.inl rfl, o', hb', hf'⟩
end

attribute [local irreducible] PV StepF wpl wpd WP Ret
attribute [local irreducible] Fit srt tl fl seenL stO isO trn fact colO mtx osT rowsC rowC cntG ordN oddsR

set_option maxHeartbeats 4000000 in
theorem p16 (nm : ByteArray) (ps : List (ByteArray × Int)) (l : List En) (s sP : Option Addr) (c cP : Nat) (w : World) (hE : EAt w s l) (hP : SlAt w 2 eP sP ps) (h7 : l.length ≤ 7) (hps : ps.length ≤ 12) (hpm : ∀ p ∈ ps, p.2 ≤ 9223372036854775807) (hch : Chain l.length) :
    Ret Tryz.prog 16 [.agg (dB nm 2 sP ps.length cP).toArray, .slice s l.length c] w (fun v w' => ∃ so co rs, v = .tuple #[.slice so rs.length co, .int .i64 0] ∧ SlAt w' 1 eQR so rs ∧ (∀ r ∈ rs, SlAt w' 3 eQ r.s r.l) ∧ rs.map QRow.l = oddsL l ps ∧ Keeps [] w w') := by
  have hfp := fact_pos l.length
  have hfb : fact l.length ≤ 5040 := Nat.le_trans (fact_le h7) (Nat.le_of_eq fact7)
  refine Ret.of_WP Tryz.func16 rfl Tryz.ntmps16 rfl ?_
  have hp := Hp.start (M := []) (w := w)
  (repeat (with_reducible first | apply WP_seq | apply WP_region))
  (apply wls; exact sbox13 hp rfl; rintro _ w1 ⟨b2, rfl, hp⟩)
  have hp : Hp w [] w1 [blk b2 13 (frOf (dB nm 2 sP ps.length cP)) 32] := hp
  (repeat (first | (with_reducible first | apply WP_seq | apply WP_region | apply wpl_nil | apply thenQ_n) | (apply wlp; ((first | apply pv_assign | apply pf_field | (apply pf_load; exact rfl) | (apply pv_neq; (first | exact rfl | exact ev_sel rfl (by assumption)))) <;> (first | exact rfl | exact hp.cell 0 rfl rfl)); (first | exact fI rfl | exact fB rfl | exact fP rfl | exact fS rfl))))
  refine WP_cond_nd rfl (fun h => absurd rfl h) (fun _ => ?_)
  (repeat (first | (with_reducible first | apply WP_seq | apply WP_region | apply wpl_nil | apply thenQ_n | apply WP_skip) | ((first | apply wlp | (apply wlg; exact rfl; exact rfl)); (intros; ((first | apply pv_move | apply pf_field | (apply pf_load; exact rfl) | (apply pf_len; exact rfl) | exact pv_or rfl rfl rfl | apply pv_gtr) <;> (first | exact rfl | exact ev_sel rfl (by assumption) | exact hp.cell 0 rfl rfl))); (intros; (first | exact fI rfl | exact fB rfl | exact fP rfl | exact fS rfl)))))
  refine WP_cond rfl (fun h => ?_) (fun _ => ?_)
  · exfalso
    simp only [Bool.or_eq_true, decide_eq_true_eq] at h
    omega
  (repeat (with_reducible first | apply WP_seq | apply WP_region | apply thenQ_n | apply WP_skip))
  (apply wls; exact st_makemap kStr hp; rintro _ w2 ⟨cb, rfl, hp⟩)
  (repeat (apply wlp; ((first | apply pf_field | (apply pf_load; exact rfl) | (apply pf_len; exact rfl)) <;> (first | exact rfl | exact hp.cell 1 rfl rfl)); (first | exact fI rfl | exact fP rfl | exact fS rfl)))
  (apply wls0; exact st_insert (K := kStr) (a := noN) (v := .int .i64 (ps.length : Int)) hp 0 rfl rfl rfl rfl mp90.1 mp90.2.1; rintro _ w3 ⟨rfl, hp⟩)
  have hp : Hp w [] w3 [mapE kStr cb (fun x => if x = noN then some (Value.int .i64 (ps.length : Int)) else none), blk b2 13 (frOf (dB nm 2 sP ps.length cP)) 32] := hp
  rw [colO_nil] at hp
  (repeat (first | (with_reducible first | apply WP_seq | apply WP_block | apply WP_region | apply wpl_nil | apply thenQ_n) | (apply wlp; ((first | apply pv_move | apply pv_assign | apply pf_field | (apply pf_load; exact rfl) | (apply pf_len; exact rfl)) <;> (first | exact rfl | exact hp.cell 1 rfl rfl)); (first | exact fI rfl | exact fP rfl | exact fS rfl | exact fM rfl))))
  refine WP_loopS [7, 8, 9, 10, 45, 46, 47, 48, 49, 50, 51, 52, 53, 54, 55, 56, 57, 58, 59, 60, 61, 62, 63] (fun (i : Nat) F => F.put 45 (.int .i64 (i : Int))) (fun i w' => i ≤ ps.length ∧ Hp w [] w' [mapE kStr cb (mF (colO ps.length (ps.take i))), blk b2 13 (frOf (dB nm 2 sP ps.length cP)) 32]) (fun i => ps.length - i) 0 (put_self (Same.eq .refl) rfl) ⟨Nat.zero_le _, hp⟩ ?_
  (repeat clear hp)
  rintro u i w4 ⟨hi, hp⟩
  (repeat (first | (with_reducible first | apply WP_seq | apply WP_region | apply wpl_nil | apply thenQ_n) | (apply wlp; (apply pv_lss <;> exact rfl); exact fB rfl)))
  refine WP_cond_d rfl (fun h => ?_) (fun h => ?_)
  · have hlt : i < ps.length := by omega
    obtain ⟨b0, o0, hs0, hc0⟩ := hP.base (by omega)
    have hci := hc0 i _ (List.getElem?_eq_getElem hlt)
    have htk := List.take_succ_eq_append_getElem hlt
    have hsn := fun a => colO_snoc ps.length (ps.take i) ps[i] a
    rw [← htk] at hsn
    have htl : (ps.take i).length = i := by rw [List.length_take]; omega
    rw [htl] at hsn
    generalize ps[i] = p at hci hsn
    obtain ⟨pn, pv⟩ := p
    clear htk
    generalize colO ps.length (ps.take i) = f at hp hsn
    (repeat (first | (with_reducible first | apply WP_seq | apply WP_block | apply WP_region | apply thenQ_n | apply WP_skip) | (apply wlp; ((first | apply pv_move | (apply pf_loadb; exact rfl) | (apply pf_index; exact rfl)) <;> (first | exact rfl | assumption)); (first | exact fI rfl | exact fP rfl))))
    (apply wlp; exact pf_loads (vs := eP (pn, pv)) rfl rfl rfl rfl (fun j v hv => hp.old0 (hci j v hv)); exact fA2 rfl)
    (apply wls; exact salloc2 hp (zeroTy_ok rfl); rintro _ w5 ⟨pb, rfl, hp⟩)
    (repeat (apply wlp; apply pv_assign; exact fI rfl))
    (apply wls0; exact sstore2 hp 0 rfl rfl rfl rfl (sizeTy_ok rfl) rfl; rintro _ w6 ⟨rfl, hp⟩)
    have hp := hp.norm 0 [.string pn, .int .i64 pv] rfl rfl
    have hp : Hp w [] w6 [blk pb 2 (frOf [.string pn, .int .i64 pv]) 52, mapE kStr cb (mF f), blk b2 13 (frOf (dB nm 2 sP ps.length cP)) 32] := hp
    (repeat (first | (with_reducible first | apply WP_seq | apply WP_region | apply wpl_nil | apply thenQ_n) | (apply wlp; ((first | apply pv_move | apply pf_field | (apply pf_load; exact rfl)) <;> (first | exact rfl | exact hp.cell 0 rfl rfl)); (first | exact fP rfl | exact fT rfl | exact fM rfl))))
    (apply wlp; exact pv_lookup_ok (K := kStr) (a := pn) hp 1 rfl rfl rfl mp90.1 mp90.2.1 mp90.2.2; exact fU rfl)
    rw [mF_some, mF_look]
    (repeat (first | (with_reducible first | apply WP_seq | apply WP_region | apply wpl_nil | apply thenQ_n) | (apply wlp; ((first | apply pv_move | apply pv_assign | apply pv_not | apply pv_extract) <;> exact rfl); (first | exact fI rfl | exact fB rfl | exact fU rfl))))
    refine WP_cond rfl (fun h2 => ?_) (fun h2 => ?_)
    · have h2 : (f pn).isSome = false := by simpa using h2
      (repeat (first | with_reducible apply WP_region | (apply wlp; ((first | apply pv_move | apply pf_field | (apply pf_load; exact rfl)) <;> (first | exact rfl | exact hp.cell 0 rfl rfl)); (first | exact fI rfl | exact fP rfl | exact fT rfl | exact fM rfl))))
      (apply wls0; exact st_mapput (K := kStr) (a := pn) (v := .int .i64 (i : Int)) hp 1 rfl rfl rfl rfl mp90.1 mp90.2.1; rintro _ w7 ⟨rfl, hp⟩)
      have hfe : (fun x => if x = pn then some (Value.int .i64 (i : Int)) else mF f x) = mF (colO ps.length (ps.take (i + 1))) := by
        funext a
        unfold mF
        rw [hsn a]
        by_cases ha : a = pn
        · rw [if_pos ha, if_pos ⟨h2, ha⟩]; rfl
        · rw [if_neg ha, if_neg (fun h => ha h.2)]
      have hp : Hp w [] w7 [blk pb 2 (frOf [.string pn, .int .i64 pv]) 52, mapE kStr cb (fun x => if x = pn then some (Value.int .i64 (i : Int)) else mF f x), blk b2 13 (frOf (dB nm 2 sP ps.length cP)) 32] := hp
      rw [hfe] at hp
      (repeat (with_reducible first | apply WP_region | apply wpl_nil | apply thenQ_n | apply inBlk_n))
      (apply wlp; (exact pv_add rfl rfl); exact int_eq (b := ((i + 1 : Nat) : Int)) (by rw [i64_in (by omega) (by omega)]; omega))
      (repeat (first | (with_reducible first | apply wpl_nil | apply thenQ_n) | (apply wlp; apply pv_move; exact fI rfl)))
      exact ⟨i + 1, put_self (Same.eq (by repeat (first | exact Same.hav | exact Same.refl | refine Same.put rfl ?_ | refine Same.havs rfl ?_))) rfl, ⟨by omega, hp.tail⟩, by omega⟩
    · have hfe : f = colO ps.length (ps.take (i + 1)) := by
        funext a
        rw [hsn a, if_neg]
        rintro ⟨h3, _⟩
        simp at h2
        exact absurd h2 (by simpa using h3)
      rw [hfe] at hp
      (repeat (with_reducible first | apply WP_region | apply thenQ_n | apply inBlk_n | apply WP_skip))
      (apply wlp; (exact pv_add rfl rfl); exact int_eq (b := ((i + 1 : Nat) : Int)) (by rw [i64_in (by omega) (by omega)]; omega))
      (repeat (first | (with_reducible first | apply wpl_nil | apply thenQ_n) | (apply wlp; apply pv_move; exact fI rfl)))
      exact ⟨i + 1, put_self (Same.eq (by repeat (first | exact Same.hav | exact Same.refl | refine Same.put rfl ?_ | refine Same.havs rfl ?_))) rfl, ⟨by omega, hp.tail⟩, by omega⟩
  have e : ps.take i = ps := List.take_of_length_le (by omega)
  rw [e] at hp
  clear e hi h
  obtain ⟨m, hm⟩ : ∃ m, m = ps.length := ⟨_, rfl⟩
  (repeat (first | (with_reducible first | apply WP_seq | apply WP_region | apply thenQ_n | apply thenQ_exit | apply WP_exit) | ((with_reducible apply inBlk_same); exact rfl) | (apply wlp; ((first | apply pv_move | (apply pf_len; exact rfl)) <;> exact rfl); (first | exact fI rfl | exact fS rfl))))
  (apply wls; exact sf_make (eOB m) none hp rfl rfl rfl rfl rfl rfl rfl (by omega) rfl; rintro _ w5 ⟨ob, rfl, hvo, hp⟩)
  have hp : Hp w [] w5 ([ownL (eOB m) 30 1 (some ⟨ob, 0, none⟩) l.length (([] : List Nat).map some ++ List.replicate (l.length - 0) none), mapE kStr cb (mF (colO ps.length ps)), blk b2 13 (frOf (dB nm 2 sP ps.length cP)) 32] ++ rowsC m [] []) := by
    rw [rowsC_nil]
    exact hp
  clear hvo
  (repeat (first | (with_reducible first | apply WP_seq | apply WP_block | apply WP_region | apply wpl_nil | apply thenQ_n) | (apply wlp; ((first | apply pv_move | apply pv_assign | (apply pf_len; exact rfl)) <;> exact rfl); (first | exact fI rfl | exact fS rfl))))
  refine WP_loop2 [12, 69, 70, 71, 72, 73, 74, 75, 76, 77, 78, 79, 80] (fun (i : Nat) (_rb : List Nat) F => F.put 69 (.int .i64 (i : Int))) (fun i rb w' => i ≤ l.length ∧ rb.length = i ∧ Hp w [] w' ([ownL (eOB m) 30 1 (some ⟨ob, 0, none⟩) l.length (rb.map some ++ List.replicate (l.length - i) none), mapE kStr cb (mF (colO ps.length ps)), blk b2 13 (frOf (dB nm 2 sP ps.length cP)) 32] ++ rowsC m rb (List.replicate i (List.replicate (m + 1) 0)))) (fun i _ => l.length - i) 0 [] (put_self (Same.eq .refl) rfl) ⟨Nat.zero_le _, rfl, hp⟩ ?_
  (repeat clear hp)
  rintro u i rb w6 ⟨hi, hrb, hp⟩
  have hrb1 : (rb.map some).length = i := by rw [List.length_map]; exact hrb
  have hol := part_len (z := (none : Option Nat)) hrb1 hi
  have hvo : SVL (some ⟨ob, 0, none⟩) l.length (rb.map some ++ List.replicate (l.length - i) none) := .inr ⟨ob, l.length, by rw [hol], by rw [hol]; exact Nat.le_refl _, by unfold maxLen; omega⟩
  (repeat (first | (with_reducible first | apply WP_seq | apply WP_region | apply wpl_nil | apply thenQ_n) | (apply wlp; (apply pv_lss <;> exact rfl); exact fB rfl)))
  refine WP_cond_d rfl (fun h => ?_) (fun h => ?_)
  · have hlt : i < l.length := by omega
    (repeat (first | (with_reducible first | apply WP_seq | apply WP_block | apply WP_region | apply wpl_nil | apply thenQ_n | apply WP_skip) | (apply wlp; ((first | apply pv_move | apply pv_assign | apply pf_field | (apply pf_load; exact rfl) | (apply pf_len; exact rfl)) <;> (first | exact rfl | exact hp.cell 2 rfl rfl)); (first | exact fI rfl | exact fP rfl | exact fS rfl))))
    (apply wlp; (exact pv_add rfl rfl); exact int_eq (b := ((m + 1 : Nat) : Int)) (by rw [i64_in (by omega) (by omega)]; omega))
    (apply wls; exact sf_make eI 0 hp rfl rfl rfl rfl rfl rfl rfl (by omega) rfl; rintro _ w7 ⟨gb, rfl, hvg, hp⟩)
    (repeat (apply wlp; ((apply pf_index; exact rfl) <;> (first | exact rfl | assumption)); exact fP rfl))
    (apply wls0; exact st_setL (eOB m) _ i (some gb) hp 1 rfl hvo (by rw [hol]; exact hlt) rfl rfl (eOB_len m) rfl rfl (sizeTy_ok rfl); rintro _ w8 ⟨rfl, hp⟩)
    rw [part_set hrb1 hlt] at hp
    have hp : Hp w [] w8 ([ownL (eOB m) 30 1 (some ⟨ob, 0, none⟩) l.length ((rb ++ [gb]).map some ++ List.replicate (l.length - (i + 1)) none), mapE kStr cb (mF (colO ps.length ps)), blk b2 13 (frOf (dB nm 2 sP ps.length cP)) 32] ++ rowsC m (rb ++ [gb]) (List.replicate (i + 1) (List.replicate (m + 1) 0))) := by
      rw [List.replicate_succ', rowsC_snoc (by rw [List.length_replicate]; exact hrb), List.map_append, ← List.append_assoc]
      exact hp.perm (List.perm_append_singleton _ _).symm
    (repeat (with_reducible first | apply WP_region | apply wpl_nil | apply thenQ_n | apply inBlk_n))
    (apply wlp; (exact pv_add rfl rfl); exact int_eq (b := ((i + 1 : Nat) : Int)) (by rw [i64_in (by omega) (by omega)]; omega))
    (repeat (first | (with_reducible first | apply wpl_nil | apply thenQ_n) | (apply wlp; apply pv_move; exact fI rfl)))
    exact ⟨i + 1, rb ++ [gb], put_self (Same.eq (by repeat (first | exact Same.hav | exact Same.refl | refine Same.put rfl ?_ | refine Same.havs rfl ?_))) rfl, ⟨by omega, by rw [List.length_append, hrb]; rfl, hp⟩, by omega⟩
  obtain rfl : i = l.length := by omega
  clear hi h hrb1 hol hvo
  rw [part_done, ← mtx_zero l.length m (colG l ps) []] at hp
  have hol : (rb.map some).length = l.length := by rw [List.length_map]; exact hrb
  have hvo : SVL (some ⟨ob, 0, none⟩) l.length (rb.map some) := .inr ⟨ob, l.length, by rw [hol], by rw [hol]; exact Nat.le_refl _, by unfold maxLen; omega⟩
  have hog : ∀ (k b : Nat), rb[k]? = some b → (rb.map some)[k]? = some (some b) := fun k b h => by rw [List.getElem?_map, h]; rfl
  have hsw : l ≠ [] → ∀ b o, s = some ⟨b, o, none⟩ → b < w.heap.size := fun h b o e => hE.at_.lt (fun _ => rfl) (by decide) h e
  (repeat (first | (with_reducible first | apply WP_seq | apply WP_region | apply wpl_nil | apply thenQ_n | apply thenQ_exit | apply WP_exit) | ((with_reducible apply inBlk_same); exact rfl) | (apply wlp; ((first | apply pv_move | apply pv_assign | (apply pf_len; exact rfl)) <;> exact rfl); (first | exact fI rfl | exact fS rfl))))
  (apply wls; exact st_call rfl ent40 rfl (p40 l.length _ (by omega)); rintro _ w7 ⟨qb, rfl, hvq, hpo⟩; have hp := hp.join hpo; clear hpo)
  have hp : Hp w [] w7 ([ownL eI 3 1 (some ⟨qb, 0, none⟩) l.length (ordN l.length 0), ownL (eOB m) 30 1 (some ⟨ob, 0, none⟩) l.length (rb.map some), mapE kStr cb (mF (colO ps.length ps)), blk b2 13 (frOf (dB nm 2 sP ps.length cP)) 32] ++ rowsC m rb (mtx l.length m (colG l ps) (osT l.length 0) [] 0)) := by
    rw [osT_zero, hch.zero]
    exact hp
  clear hvq
  (repeat (first | (with_reducible first | apply WP_block | apply wpl_nil | apply thenQ_n) | (apply wlp; apply pv_assign; (first | exact fB rfl | exact fS rfl))))
  refine WP_loop2 [13, 15, 16, 17, 84, 85, 86, 87, 88, 89, 90, 91, 92, 93, 94, 95, 96, 97, 98, 99, 100, 101, 102, 103, 104, 105, 106, 107, 108, 109, 110] (fun (t : Nat) (_z : List Int) F => (F.put 13 (.int .i64 (t : Int))).put 15 (.bool (decide (t < fact l.length))))
    (fun t z w' => t ≤ fact l.length ∧ z.length = l.length ∧ (t < fact l.length → z = ordN l.length t) ∧ Hp w [] w' ([ownL eI 3 1 (some ⟨qb, 0, none⟩) l.length z, ownL (eOB m) 30 1 (some ⟨ob, 0, none⟩) l.length (rb.map some), mapE kStr cb (mF (colO ps.length ps)), blk b2 13 (frOf (dB nm 2 sP ps.length cP)) 32] ++ rowsC m rb (mtx l.length m (colG l ps) (osT l.length t) [] 0))) (fun t _ => fact l.length - t) 0 (ordN l.length 0) (put_self (put_self (Same.eq .refl) rfl) (bool_eq (decide_eq_true hfp).symm)) ⟨Nat.zero_le _, ordN_len _ _, fun _ => rfl, hp⟩ ?_
  (repeat clear hp)
  rintro u t z w8 ⟨ht, hzl, hz, hp⟩
  (repeat (first | (with_reducible first | apply WP_seq | apply WP_region | apply wpl_nil | apply thenQ_n) | (apply wlp; apply pv_move; exact fB rfl)))
  refine WP_cond_d rfl (fun h => ?_) (fun h => ?_)
  · have hz := hz h
    subst hz
    have hO : isO l.length (ordN l.length t) = true := hch.ok t h
    have hnx := hch.next t h
    have hosl := osT_len l.length t
    have hos := osT_snoc l.length t
    generalize osT l.length t = OS at hp hosl hos
    generalize hoo : ordN l.length t = o at hp hO hnx hzl hos
    have hvq : SVL (some ⟨qb, 0, none⟩) l.length o := .inr ⟨qb, l.length, by rw [hzl], by rw [hzl]; exact Nat.le_refl _, by unfold maxLen; omega⟩
    have hso := ownL_At hp 0 rfl hvq (fun _ => rfl)
    (repeat (first | (with_reducible first | apply WP_seq | apply WP_block | apply WP_region | apply thenQ_n | apply WP_skip) | (apply wlp; apply pv_move; exact fI rfl)))
    (apply wlp; (exact pv_add rfl rfl); exact int_eq (b := ((t + 1 : Nat) : Int)) (by rw [i64_in (by omega) (by omega)]; omega))
    (repeat (first | (with_reducible first | apply WP_seq | apply WP_region | apply wpl_nil | apply thenQ_n) | (apply wlp; ((first | apply pv_move | apply pv_assign | (apply pf_loadb; exact rfl)) <;> (first | exact rfl | exact hp.agg_blk 3 rfl rfl)); (first | exact fI rfl | exact fS rfl | exact fA13 rfl))))
    have h39 := p39 nm ps l o s sP (some ⟨qb, 0, none⟩) c cP l.length w8 ⟨hE.at_.keep0 hp.keeps, fun e he => (hE.ws e he).keep0 hp.keeps, hE.len⟩ (hP.keep0 hp.keeps) hso (by omega) (by omega) hpm hO (fun h => by cases h)
    rw [hzl] at h39
    (apply wls; exact st_call rfl ent39 rfl h39; rintro _ w9 ⟨ab, rfl, hva, hpo⟩; have hp := hp.join hpo; clear hpo h39)
    have hal := asg_len l ps o
    have hak : ∀ k, k < l.length → (asg l ps o)[k]? = some (xa (asg l ps o) k) := by
      intro k hk
      unfold xa
      rw [Int.toNat_natCast, List.getElem?_eq_getElem (by omega)]
      rfl
    have hcol : ∀ k : Nat, colG l ps o k < m + 1 ∧ (colO ps.length ps (xa (asg l ps o) k)).getD 0 = (colG l ps o k : Int) := fun k => by rw [hm]; exact colI_lt (xa_ok l ps o k)
    generalize hA : asg l ps o = A at hp hva hal hak hcol
    (repeat (first | (with_reducible first | apply WP_block | apply wpl_nil | apply thenQ_n) | (apply wlp; ((first | apply pv_move | (apply pf_len; exact rfl)) <;> exact rfl); exact fI rfl)))
    refine WP_loopS [16, 17, 94, 95, 96, 97, 98, 99, 100, 101, 102, 103, 104, 105, 106, 107, 108, 109, 110] (fun (k : Nat) F => F.put 94 (.int .i64 (k : Int))) (fun k w' => k ≤ l.length ∧ Hp w [] w' ([ownL eS 9 1 (some ⟨ab, 0, none⟩) l.length A, ownL eI 3 1 (some ⟨qb, 0, none⟩) l.length o, ownL (eOB m) 30 1 (some ⟨ob, 0, none⟩) l.length (rb.map some), mapE kStr cb (mF (colO ps.length ps)), blk b2 13 (frOf (dB nm 2 sP ps.length cP)) 32] ++ rowsC m rb (mtx l.length m (colG l ps) OS o k))) (fun k => l.length - k) 0 (put_self (Same.eq .refl) rfl) ⟨Nat.zero_le _, ?_⟩ ?_
    · have e : mtx l.length m (colG l ps) OS o 0 = mtx l.length m (colG l ps) OS [] 0 := mtx_zero' _ _ _ _ _ _
      rw [e]
      exact hp
    (repeat clear hp)
    rintro u2 k w10 ⟨hk, hp⟩
    (repeat (first | (with_reducible first | apply WP_seq | apply WP_region | apply wpl_nil | apply thenQ_n) | (apply wlp; (apply pv_lss <;> exact rfl); exact fB rfl)))
    refine WP_cond_d rfl (fun h2 => ?_) (fun h2 => ?_)
    · have hkl : k < l.length := by omega
      have hkb : k < rb.length := by omega
      have hck := hak k hkl
      obtain ⟨hgm, hgv⟩ := hcol k
      obtain ⟨bk, hbk⟩ : ∃ bk, rb[k]? = some bk := ⟨_, List.getElem?_eq_getElem hkb⟩
      have hobk := hog k bk hbk
      have hrow := mtx_get (n := l.length) (m := m) (g := colG l ps) (os := OS) (o := o) (k := k) hkl
      rw [if_neg (by omega)] at hrow
      have hent := rowsC_get (m := m) hbk hrow
      have hrl := rowC_len m (colG l ps) OS k
      have hrg := rowC_get (m := m) (g := colG l ps) (os := OS) (i := k) hgm
      have hcl := cntG_le (colG l ps) OS k (colG l ps o k)
      have hst := rowC_step (m := m) (os := OS) (i := k) hgm
      have hms := mtx_step (m := m) (g := colG l ps) (os := OS) (o := o) hkl
      have hrs := rowsC_set (m := m) (M := mtx l.length m (colG l ps) OS o k) (z := rowC m (colG l ps) (OS ++ [o]) k) hbk
      rw [hms] at hrs
      generalize xa A k = pl at hck hgv
      generalize colG l ps o k = j at hgm hgv hrg hcl hst
      generalize cntG (colG l ps) OS k j = cn at hrg hcl hst
      generalize rowC m (colG l ps) OS k = R at hent hrl hrg hst
      have hvr : SVL (some ⟨bk, 0, none⟩) (m + 1) R := .inr ⟨bk, m + 1, by rw [hrl], by rw [hrl]; exact Nat.le_refl _, by unfold maxLen; omega⟩
      (repeat (first | (with_reducible first | apply WP_seq | apply WP_block | apply WP_region | apply thenQ_n | apply WP_skip) | (apply wlp; ((first | apply pv_move | (apply pf_load; exact rfl) | (apply pf_index; exact rfl)) <;> (first | exact rfl | assumption)); (first | exact fI rfl | exact fP rfl))))
      (apply wlp; exact pf_load rfl rfl (own_elem hp 0 rfl hva (fun _ => rfl) hck 0 _ rfl); exact fT rfl)
      (repeat (first | (with_reducible first | apply wpl_nil | apply thenQ_n) | (apply wlp; apply pv_assign; (first | exact fI rfl | exact fT rfl))))
      refine WP_drawS mixed (by kernel_rfl) (fun w' => Hp _ _ w' _) hp.drew ?_
      have hp := hp.drew
      (repeat ((apply wdp; exact rfl); (intro w hp; intros; ((first | apply pv_move | (apply pf_load; exact rfl) | (apply pf_index; exact rfl)) <;> (first | exact rfl | assumption))); (intros; (first | exact fI rfl | exact fP rfl | exact fS rfl))))
      (apply wdp; exact rfl; (intro w hp; exact pf_load rfl rfl (own_elem hp 2 rfl hvo (eOB_len m) hobk 0 _ rfl)); exact fS rfl)
      (repeat ((apply wdp; exact rfl); (intro w hp; intros; apply pv_move); (intros; (first | exact fT rfl | exact fM rfl))))
      (apply wdp; exact rfl; (intro w hp; exact pv_lookup (K := kStr) (a := pl) hp 3 rfl rfl rfl mp90.1 mp90.2.1 mp90.2.2); exact (mF_look _ _).trans (int_eq hgv))
      (apply wdp; exact rfl; (intro w hp; exact pf_index rfl rfl rfl rfl hgm); exact fP rfl)
      (apply wdp; exact rfl; (intro w hp; exact pf_load rfl rfl (own_elem hp (k + 5) hent hvr (fun _ => rfl) hrg 0 _ rfl)); exact fI rfl)
      (apply wdp; exact rfl; (intro w hp; exact pv_add rfl rfl); exact int_eq (b := ((cn + 1 : Nat) : Int)) (by rw [i64_in (by omega) (by omega)]; omega))
      (apply wdp; exact rfl; (intro w hp; exact pf_index rfl rfl rfl rfl hgm); exact fP rfl)
      (apply wds0S; exact rfl; exact rfl; exact st_setL eI R j ((cn + 1 : Nat) : Int) hp (k + 5) hent hvr (by rw [hrl]; exact hgm) rfl rfl (fun _ => rfl) rfl rfl (sizeTy_ok rfl); rintro _ w11 ⟨rfl, hp⟩)
      rw [hst] at hp
      have hp : Hp w [] w11 ([ownL eS 9 1 (some ⟨ab, 0, none⟩) l.length A, ownL eI 3 1 (some ⟨qb, 0, none⟩) l.length o, ownL (eOB m) 30 1 (some ⟨ob, 0, none⟩) l.length (rb.map some), mapE kStr cb (mF (colO ps.length ps)), blk b2 13 (frOf (dB nm 2 sP ps.length cP)) 32] ++ rowsC m rb (mtx l.length m (colG l ps) OS o (k + 1))) := by
        rw [← hrs]
        exact hp
      refine wpd_nil ?_
      (repeat (with_reducible first | apply WP_region | apply thenQ_n | apply inBlk_n))
      (apply wlp; (exact pv_add rfl rfl); exact int_eq (b := ((k + 1 : Nat) : Int)) (by rw [i64_in (by omega) (by omega)]; omega))
      (repeat (first | (with_reducible first | apply wpl_nil | apply thenQ_n) | (apply wlp; apply pv_move; exact fI rfl)))
      exact ⟨k + 1, put_self (Same.eq (by repeat (first | exact Same.hav | exact Same.refl | refine Same.put rfl ?_ | refine Same.havs rfl ?_))) rfl, ⟨by omega, hp⟩, by omega⟩
    obtain rfl : k = l.length := by omega
    rw [mtx_done _ _ _ _ _ []] at hp
    have hp := hp.tail
    have hr := Hp.rowat hp 0 rfl
    have h41 := p41 o qb l.length w10 hr (by omega) (by omega)
    rw [hzl, hnx] at h41
    clear hk h2 hva hak hcol hA
    (repeat (first | (with_reducible first | apply WP_region | apply thenQ_n | apply inBlk_n | apply thenQ_exit | apply WP_exit) | ((with_reducible apply inBlk_same); exact rfl) | (apply wlp; apply pv_move; exact fS rfl)))
    (apply wls; exact st_call rfl ent41 rfl h41; rintro _ w11 ⟨rfl, hk5, hr5⟩; have hp := Hp.callU hp 0 rfl hk5 hr5)
    (repeat (first | (with_reducible first | apply wpl_nil | apply thenQ_n) | (apply wlp; apply pv_assign; exact fB rfl)))
    refine ⟨t + 1, (if t + 1 < fact l.length then some (ordN l.length (t + 1)) else none).getD o, put_self (put_self (Same.eq (by repeat (first | exact Same.hav | exact Same.refl | refine Same.put rfl ?_ | refine Same.havs rfl ?_))) rfl) (bool_eq ?_), ⟨by omega, ?_, ?_, by rw [hos]; exact hp⟩, by omega⟩
    · by_cases ht1 : t + 1 < fact l.length
      · rw [if_pos ht1, decide_eq_true ht1]; rfl
      · rw [if_neg ht1, decide_eq_false ht1]; rfl
    · by_cases ht1 : t + 1 < fact l.length
      · rw [if_pos ht1]; exact ordN_len _ _
      · rw [if_neg ht1]; exact hzl
    · intro ht1
      rw [if_pos ht1]
      rfl
  obtain rfl : t = fact l.length := by omega
  clear ht h hz
  have hM := fun i (hi : i < l.length) => mtx_get (n := l.length) (m := m) (g := colG l ps) (os := osT l.length (fact l.length)) (o := []) (k := 0) hi
  have hrg0 : ∀ i j, j < m + 1 → (rowC m (colG l ps) (osT l.length (fact l.length)) i)[j]? = some (cntG (colG l ps) (osT l.length (fact l.length)) i j : Int) := fun i j hj => rowC_get hj
  have hrl0 := fun i => rowC_len m (colG l ps) (osT l.length (fact l.length)) i
  have hcl0 := fun i j => cntG_le (colG l ps) (osT l.length (fact l.length)) i j
  rw [osT_len] at hcl0
  have hod : ∀ i, oddsR l ps i = (List.range (m + 1)).map fun j => rat (cntG (colG l ps) (osT l.length (fact l.length)) i j) (fact l.length) := fun i => by rw [hm]; exact oddsR_eq l ps i
  generalize hMM : mtx l.length m (colG l ps) (osT l.length (fact l.length)) [] 0 = MM at hp hM
  generalize osT l.length (fact l.length) = OS at hrg0 hrl0 hcl0 hod hM
  clear hMM
  have hp : Hp w [] w8 ([ownL (eOB m) 30 1 (some ⟨ob, 0, none⟩) l.length (rb.map some)] ++ rowsC m rb MM) := (hp.dropAt 0).sub (List.Sublist.cons_cons _ (List.Sublist.cons _ (List.Sublist.cons _ (List.Sublist.refl _))))
  (repeat (first | (with_reducible first | apply WP_seq | apply WP_region | apply thenQ_n | apply thenQ_exit | apply WP_exit) | ((with_reducible apply inBlk_same); exact rfl) | (apply wlp; ((first | apply pv_move | (apply pf_len; exact rfl)) <;> exact rfl); (first | exact fI rfl | exact fS rfl))))
  (apply wls; exact sf_make eQR zQ hp rfl rfl rfl rfl rfl rfl rfl (by omega) rfl; rintro _ w9 ⟨cb2, rfl, hv2, hp⟩)
  have hp : Hp w [] w9 ([ownL eQR 49 1 (some ⟨cb2, 0, none⟩) l.length (([] : List QRow) ++ List.replicate (l.length - 0) zQ), ownL (eOB m) 30 1 (some ⟨ob, 0, none⟩) l.length (rb.map some)] ++ (rowsC m rb MM ++ rowsQ [])) := by
    rw [show rowsQ [] = [] from rfl, List.append_nil]
    exact hp
  clear hv2
  (repeat (first | (with_reducible first | apply WP_seq | apply WP_block | apply WP_region | apply wpl_nil | apply thenQ_n) | (apply wlp; ((first | apply pv_move | apply pv_assign | (apply pf_len; exact rfl)) <;> exact rfl); (first | exact fI rfl | exact fS rfl))))
  refine WP_loop2 [19, 20, 22, 23, 24, 116, 117, 118, 119, 120, 121, 122, 123, 124, 125, 126, 127, 128, 129, 130, 131, 132, 133, 134, 135, 136, 137, 138, 139, 140, 141, 142, 143, 144, 145, 146] (fun (i : Nat) (_rs : List QRow) F => F.put 116 (.int .i64 (i : Int)))
    (fun i rs w' => i ≤ l.length ∧ rs.length = i ∧ rs.map QRow.l = (List.range i).map (oddsR l ps) ∧ (∀ r ∈ rs, SVL r.s r.c r.l) ∧ Hp w [] w' ([ownL eQR 49 1 (some ⟨cb2, 0, none⟩) l.length (rs ++ List.replicate (l.length - i) zQ), ownL (eOB m) 30 1 (some ⟨ob, 0, none⟩) l.length (rb.map some)] ++ (rowsC m rb MM ++ rowsQ rs))) (fun i _ => l.length - i) 0 [] (put_self (Same.eq .refl) rfl) ⟨Nat.zero_le _, rfl, rfl, by simp, hp⟩ ?_
  (repeat clear hp)
  rintro u i rs w10 ⟨hi, hrs, hrm, hrv, hp⟩
  have hql := part_len (z := zQ) hrs hi
  have hvq : SVL (some ⟨cb2, 0, none⟩) l.length (rs ++ List.replicate (l.length - i) zQ) := .inr ⟨cb2, l.length, by rw [hql], by rw [hql]; exact Nat.le_refl _, by unfold maxLen; omega⟩
  (repeat (first | (with_reducible first | apply WP_seq | apply WP_region | apply wpl_nil | apply thenQ_n) | (apply wlp; (apply pv_lss <;> exact rfl); exact fB rfl)))
  refine WP_cond_d rfl (fun h => ?_) (fun h => ?_)
  · have hlt : i < l.length := by omega
    have hkb : i < rb.length := by omega
    obtain ⟨bk, hbk⟩ : ∃ bk, rb[i]? = some bk := ⟨_, List.getElem?_eq_getElem hkb⟩
    have hobk := hog i bk hbk
    have hrow := hM i hlt
    rw [if_neg (by omega)] at hrow
    have hent := rowsC_get (m := m) hbk hrow
    have hrl := hrl0 i
    have hrg := hrg0 i
    have hcl := hcl0 i
    have hod := hod i
    generalize rowC m (colG l ps) OS i = R at hent hrl hrg
    generalize cntG (colG l ps) OS i = cn at hrg hcl hod
    have hvr : SVL (some ⟨bk, 0, none⟩) (m + 1) R := .inr ⟨bk, m + 1, by rw [hrl], by rw [hrl]; exact Nat.le_refl _, by unfold maxLen; omega⟩
    have hent : (rowsC m rb MM ++ rowsQ rs)[i]? = some (rowE m bk R) := by
      rw [List.getElem?_append_left (List.getElem?_eq_some_iff.1 hent).1]
      exact hent
    have hp := hp.nilL eQ 55 3
    rw [part_split hlt] at hp
    have hp : Hp w [] w10 ([ownL eQ 55 3 none 0 ((List.range 0).map fun j => rat (cn j) (fact l.length)), ownL eQR 49 1 (some ⟨cb2, 0, none⟩) l.length ((rs ++ [⟨none, 0, (List.range 0).map fun j => rat (cn j) (fact l.length)⟩]) ++ List.replicate (l.length - (i + 1)) zQ), ownL (eOB m) 30 1 (some ⟨ob, 0, none⟩) l.length (rb.map some)] ++ (rowsC m rb MM ++ rowsQ rs)) := hp
    clear hql hvq
    have hql : ∀ q : QRow, ((rs ++ [q]) ++ List.replicate (l.length - (i + 1)) zQ).length = l.length := fun q => part_len (by rw [List.length_append, hrs]; rfl) (by omega)
    have hvq : ∀ q : QRow, SVL (some ⟨cb2, 0, none⟩) l.length ((rs ++ [q]) ++ List.replicate (l.length - (i + 1)) zQ) := fun q => .inr ⟨cb2, l.length, by rw [hql], by rw [hql]; exact Nat.le_refl _, by unfold maxLen; omega⟩
    (repeat (first | (with_reducible first | apply WP_seq | apply WP_block | apply WP_region | apply thenQ_n | apply WP_skip) | (apply wlp; ((first | apply pv_move | (apply pf_load; exact rfl) | (apply pf_index; exact rfl)) <;> (first | exact rfl | assumption)); (first | exact fI rfl | exact fP rfl))))
    (apply wlp; exact pf_load rfl rfl (own_elem hp 2 rfl hvo (eOB_len m) hobk 0 _ rfl); exact fS rfl)
    (repeat (first | (with_reducible first | apply WP_seq | apply WP_block | apply WP_region | apply wpl_nil | apply thenQ_n) | (apply wlp; ((first | apply pv_move | apply pv_assign | (apply pf_len; exact rfl)) <;> exact rfl); (first | exact fI rfl | exact fS rfl))))
    refine WP_loopS [22, 23, 24, 123, 124, 125, 126, 127, 128, 129, 130, 131, 132, 133, 134, 135, 136, 137, 138, 139, 140, 141, 142, 143, 144, 145] (fun (X : Nat × Option Addr × Nat) F => F.put 123 (.int .i64 (X.1 : Int)))
      (fun X w' => X.1 ≤ m + 1 ∧ SVL X.2.1 X.2.2 ((List.range X.1).map fun j => rat (cn j) (fact l.length)) ∧ Hp w [] w' ([ownL eQ 55 3 X.2.1 X.2.2 ((List.range X.1).map fun j => rat (cn j) (fact l.length)), ownL eQR 49 1 (some ⟨cb2, 0, none⟩) l.length ((rs ++ [⟨X.2.1, X.2.2, (List.range X.1).map fun j => rat (cn j) (fact l.length)⟩]) ++ List.replicate (l.length - (i + 1)) zQ), ownL (eOB m) 30 1 (some ⟨ob, 0, none⟩) l.length (rb.map some)] ++ (rowsC m rb MM ++ rowsQ rs))) (fun X => m + 1 - X.1) (0, none, 0) (put_self (Same.eq .refl) rfl) ⟨Nat.zero_le _, .nil, hp⟩ ?_
    (repeat clear hp)
    rintro u2 ⟨j, s2, c2⟩ w11 ⟨hj, hvT, hp⟩
    dsimp only at hj hvT hp ⊢
    (repeat (first | (with_reducible first | apply WP_seq | apply WP_region | apply wpl_nil | apply thenQ_n) | (apply wlp; (apply pv_lss <;> exact rfl); exact fB rfl)))
    refine WP_cond_d rfl (fun h2 => ?_) (fun h2 => ?_)
    · have hjm : j < m + 1 := by omega
      have hrgj := hrg j hjm
      have hclj := hcl j
      have hT1 : (List.range (j + 1)).map (fun j => rat (cn j) (fact l.length)) = (List.range j).map (fun j => rat (cn j) (fact l.length)) ++ [rat (cn j) (fact l.length)] := by rw [List.range_succ, List.map_append]; rfl
      have hTl : ((List.range j).map fun j => rat (cn j) (fact l.length)).length = j := by rw [List.length_map, List.length_range]
      generalize (List.range j).map (fun j => rat (cn j) (fact l.length)) = T at hvT hp hT1 hTl
      have hfc : Fit (cn j) := Fit.small (by omega)
      have hff : Fit (fact l.length) := Fit.small (by omega)
      generalize cn j = q at hrgj hclj hT1 hfc
      (repeat (first | (with_reducible first | apply WP_seq | apply WP_block | apply WP_region | apply thenQ_n | apply WP_skip) | (apply wlp; ((first | (apply pf_load; exact rfl) | (apply pf_index; exact rfl)) <;> (first | exact rfl | assumption)); exact fP rfl)))
      (apply wlp; exact pf_load rfl rfl (own_elem hp (i + 3) hent hvr (fun _ => rfl) hrgj 0 _ rfl); exact fI rfl)
      (repeat (first | (with_reducible first | apply WP_seq | apply WP_region | apply wpl_nil | apply thenQ_n) | (apply wlp; (first | apply pv_move | apply pv_assign); exact fI rfl)))
      (apply wls; exact st_call rfl ent43 rfl (c13 (q : Int) _ (by omega)); rintro _ w12 ⟨rfl, hk⟩; rw [Int.toNat_natCast]; have hp := hp.call hk)
      (repeat (apply wlp; apply pv_move; exact fI rfl))
      (apply wls; exact st_call rfl ent43 rfl (c13 (fact l.length : Int) _ (by omega)); rintro _ w13 ⟨rfl, hk⟩; rw [Int.toNat_natCast]; have hp := hp.call hk)
      skip
      (apply wls; exact st_call rfl ent42 rfl (c59 q (fact l.length) _ hfc hff hfp); rintro _ w14 ⟨rfl, hk⟩; have hp := hp.call hk)
      (repeat (apply wlp; ((first | apply pv_move | apply pv_extract) <;> exact rfl); (first | exact fB rfl | exact fA3 rfl | exact fU rfl)))
      (apply wls; exact salloc3 hp (zeroTy_ok rfl); rintro _ w15 ⟨pb, rfl, hp⟩)
      (apply wls0; exact sstore3 hp 0 rfl rfl rfl rfl (sizeTy_ok rfl) rfl; rintro _ w16 ⟨rfl, hp⟩)
      have hp := hp.norm 0 (eQ (rat q (fact l.length))) rfl rfl
      have hp : Hp w [] w16 ([blk pb 3 (frOf (eQ (rat q (fact l.length)))) 55, ownL eQ 55 3 s2 c2 T, ownL eQR 49 1 (some ⟨cb2, 0, none⟩) l.length ((rs ++ [⟨s2, c2, T⟩]) ++ List.replicate (l.length - (i + 1)) zQ), ownL (eOB m) 30 1 (some ⟨ob, 0, none⟩) l.length (rb.map some)] ++ (rowsC m rb MM ++ rowsQ rs)) := hp
      (repeat (first | (with_reducible first | apply wpl_nil | apply thenQ_n) | (apply wlp; apply pv_assign; exact fB rfl)))
      refine WP_drawS mixed (by kernel_rfl) (fun w' => Hp _ _ w' _) hp.drew ?_
      have hp := hp.drew
      (repeat ((apply wdp; exact rfl); (intro w hp; intros; ((first | apply pv_move | (apply pf_load; exact rfl) | (apply pf_index; exact rfl)) <;> (first | exact rfl | assumption))); (intros; (first | exact fI rfl | exact fP rfl | exact fS rfl))))
      (apply wdp; exact rfl; (intro w hp; exact pf_load rfl rfl (own_elem hp 2 rfl (hvq _) (fun _ => rfl) (mid_get hrs) 0 _ rfl)); exact fS rfl)
      (repeat ((apply wdp; exact rfl); (intro w hp; intros; ((apply pf_loadb; exact rfl) <;> (first | exact rfl | exact hp.agg_blk 0 rfl rfl))); (intros; exact fA3 rfl)))
      (apply wds; exact rfl; exact sf_slice hp rfl rfl rfl rfl rfl rfl rfl; rintro _ w17 ⟨nb, rfl, hp⟩; refine ⟨hp.tail, ?_⟩)
      (apply wdsS; exact rfl; exact rfl; exact sf_app1 eQ T (rat q (fact l.length)) hp 2 0 rfl rfl rfl rfl rfl rfl (fun _ => rfl) rfl rfl rfl hvT rfl rfl (by omega); rintro _ w18 ⟨s3, c3, rfl, hv3, hp⟩)
      (repeat ((apply wdp; exact rfl); (intro w hp; intros; ((apply pf_index; exact rfl) <;> (first | exact rfl | assumption))); (intros; exact fP rfl)))
      (apply wds0S; exact rfl; exact rfl; exact st_setL eQR _ i ⟨s3, c3, T ++ [rat q (fact l.length)]⟩ hp 3 rfl (hvq _) (by rw [hql]; exact hlt) rfl rfl (fun _ => rfl) rfl rfl (sizeTy_ok rfl); rintro _ w19 ⟨rfl, hp⟩)
      rw [mid_set hrs] at hp
      refine wpd_nil ?_
      have hp := hp.tail.tail
      (repeat (with_reducible first | apply WP_region | apply thenQ_n | apply inBlk_n))
      (apply wlp; (exact pv_add rfl rfl); exact int_eq (b := ((j + 1 : Nat) : Int)) (by rw [i64_in (by omega) (by omega)]; omega))
      (repeat (first | (with_reducible first | apply wpl_nil | apply thenQ_n) | (apply wlp; apply pv_move; exact fI rfl)))
      refine ⟨(j + 1, s3, c3), put_self (Same.eq (by repeat (first | exact Same.hav | exact Same.refl | refine Same.put rfl ?_ | refine Same.havs rfl ?_))) rfl, ⟨by dsimp only; omega, ?_, ?_⟩, by dsimp only; omega⟩
      · dsimp only
        rw [hT1]
        exact hv3
      · dsimp only
        rw [hT1]
        exact hp
    · obtain rfl : j = m + 1 := by omega
      rw [← hod] at hvT hp
      have hp : Hp w [] w11 ([ownL eQR 49 1 (some ⟨cb2, 0, none⟩) l.length ((rs ++ [⟨s2, c2, oddsR l ps i⟩]) ++ List.replicate (l.length - (i + 1)) zQ), ownL (eOB m) 30 1 (some ⟨ob, 0, none⟩) l.length (rb.map some)] ++ (rowsC m rb MM ++ rowsQ (rs ++ [⟨s2, c2, oddsR l ps i⟩]))) := by
        rw [rowsQ_snoc, ← List.append_assoc, ← List.append_assoc]
        refine hp.perm ?_
        rw [← List.append_assoc]
        exact (List.perm_append_singleton _ _).symm
      (repeat (first | (with_reducible first | apply WP_region | apply thenQ_n | apply inBlk_n | apply thenQ_exit | apply WP_exit) | ((with_reducible apply inBlk_same); exact rfl)))
      (apply wlp; (exact pv_add rfl rfl); exact int_eq (b := ((i + 1 : Nat) : Int)) (by rw [i64_in (by omega) (by omega)]; omega))
      (repeat (first | (with_reducible first | apply wpl_nil | apply thenQ_n) | (apply wlp; apply pv_move; exact fI rfl)))
      refine ⟨i + 1, rs ++ [⟨s2, c2, oddsR l ps i⟩], put_self (Same.eq (by repeat (first | exact Same.hav | exact Same.refl | refine Same.put rfl ?_ | refine Same.havs rfl ?_))) rfl, ⟨by omega, by rw [List.length_append, hrs]; rfl, ?_, ?_, hp⟩, by omega⟩
      · rw [List.map_append, hrm, List.range_succ, List.map_append]
        rfl
      · intro r hr
        rcases List.mem_append.1 hr with hr | hr
        · exact hrv r hr
        · rw [List.mem_singleton.1 hr]
          exact hvT
  obtain rfl : i = l.length := by omega
  rw [part_done] at hp hvq
  have hso := ownL_At hp 0 rfl hvq (fun _ => rfl)
  have hrows : ∀ r ∈ rs, SlAt w10 3 eQ r.s r.l := fun r hr => ownL_mem (e := 55) hp (List.mem_append_right _ (List.mem_append_right _ (List.mem_map_of_mem (f := fun r : QRow => ownL eQ 55 3 r.s r.c r.l) hr))) (hrv r hr) (fun _ => rfl)
  (repeat (first | (with_reducible first | apply WP_seq | apply WP_region | apply wpl_nil | apply thenQ_n | apply thenQ_exit | apply WP_ret | apply WP_exit) | ((with_reducible apply inBlk_same); exact rfl) | (apply wlp; (first | apply pv_move | apply pv_assign); (first | exact fI rfl | exact fS rfl))))
  refine ret_tmp2 rfl rfl rfl ⟨_, rfl, some ⟨cb2, 0, none⟩, l.length, rs, by rw [hrs]; rfl, hso, hrows, hrm, hp.keeps⟩
end Go.Proofs.YtfjbioghpgmkiaaGreatDoor
/- places: what is given out hangs on class, family and wishes alone; the chain of orders up to six entrants; plain. -/
namespace Go.Proofs.YtfjbioghpgmkiaaGreatDoor
open Go.Eng Go.Dig

def enV (v : EV) : En := ⟨v.1, v.2.1, v.2.2.1, none, 0, v.2.2.2⟩
def cln (l : List En) : List En := (l.map evE).map enV
theorem cln_get (l : List En) (i : Nat) : (cln l)[i]? = (l[i]?).map fun e => enV (evE e) := by
  unfold cln
  rw [List.getElem?_map, List.getElem?_map]
  cases l[i]? <;> rfl
theorem cln_len (l : List En) : (cln l).length = l.length := by simp [cln]
theorem wsh_cln (l : List En) : wsh (cln l) = wsh l := by
  funext n
  unfold wsh
  rw [cln_get]
  cases l[n.toNat]? <;> rfl
theorem clsF_cln (l : List En) : clsF (cln l) = clsF l := by
  funext n
  unfold clsF
  rw [cln_get]
  cases l[n.toNat]? <;> rfl
theorem relF_cln (l : List En) : relF (cln l) = relF l := by
  funext n m
  unfold relF
  rw [cln_get, cln_get]
  cases l[n.toNat]? <;> cases l[m.toNat]? <;> rfl
theorem stepA_cln (l : List En) : stepA (cln l) = stepA l := by
  funext S n
  unfold stepA
  rw [wsh_cln]
theorem trn_cln (l : List En) (ord : List Int) : trn (cln l) ord = trn l ord := by
  unfold trn
  rw [clsF_cln, relF_cln]
theorem asg_cln (l : List En) (ps : List (ByteArray × Int)) (ord : List Int) : asg (cln l) ps ord = asg l ps ord := by
  unfold asg asg0
  rw [trn_cln, stepA_cln, cln_len]
/-- the same for lists that differ in their places in memory alone -/
theorem asg_ev {l l' : List En} (h : l.map evE = l'.map evE) (ps : List (ByteArray × Int)) (ord : List Int) : asg l ps ord = asg l' ps ord := by
  rw [← asg_cln l, ← asg_cln l']
  unfold cln
  rw [h]
theorem oddsL_cln (l : List En) (ps : List (ByteArray × Int)) : oddsL (cln l) ps = oddsL l ps := by
  unfold oddsL oddsR
  rw [cln_len]
  have : colG (cln l) ps = colG l ps := by
    funext o i
    unfold colG
    rw [asg_cln]
  rw [this]
theorem oddsL_ev {l l' : List En} (h : l.map evE = l'.map evE) (ps : List (ByteArray × Int)) : oddsL l ps = oddsL l' ps := by
  rw [← oddsL_cln l, ← oddsL_cln l']
  unfold cln
  rw [h]

def chainB (n : Nat) : Bool := decide (ordN n 0 = idn n) && (List.range (fact n)).all fun t => decide (adv (ordN n t) = if t + 1 < fact n then some (ordN n (t + 1)) else none) && isO n (ordN n t)
theorem chain_of {n : Nat} (h : chainB n = true) : Chain n := by
  unfold chainB at h
  simp only [Bool.and_eq_true, decide_eq_true_eq, List.all_eq_true, List.mem_range] at h
  exact ⟨h.1, fun t ht => (h.2 t ht).1, fun t ht => (h.2 t ht).2⟩
theorem chain6 : ∀ n, n ≤ 6 → Chain n
  | 0, _ => chain_of (by kernel_rfl)
  | 1, _ => chain_of (by kernel_rfl)
  | 2, _ => chain_of (by kernel_rfl)
  | 3, _ => chain_of (by kernel_rfl)
  | 4, _ => chain_of (by kernel_rfl)
  | 5, _ => chain_of (by kernel_rfl)
  | 6, _ => chain_of (by kernel_rfl)
  | n + 7, h => absurd h (by omega)

/-! the examples of the document -/
def aN : ByteArray := ⟨#[97]⟩
def bN : ByteArray := ⟨#[98]⟩
theorem ex1 : asg [enV (0, 0, 0, [aN]), enV (0, 0, 0, [aN]), enV (0, 0, 0, [aN])] [(aN, 1)] [1, 2, 0] = [noN, aN, noN] := by kernel_rfl
theorem ex2 : asg [enV (0, 0, 0, [aN]), enV (0, 1, 0, [aN]), enV (0, 1, 0, [aN])] [(aN, 1)] [1, 2, 0] = [aN, noN, noN] := by kernel_rfl
theorem ex3 : asg [enV (0, 0, 0, [aN, bN]), enV (0, 0, 5, [aN]), enV (0, 0, 5, [bN])] [(aN, 1), (bN, 1)] [1, 0, 2] = [noN, aN, bN] := by kernel_rfl
theorem ex4 : oddsL [enV (0, 0, 0, [aN]), enV (0, 0, 0, [aN])] [(aN, 1)] = [[(1, 2), (1, 2)], [(1, 2), (1, 2)]] := by kernel_rfl
theorem ex5 : ordN 3 0 = [0, 1, 2] := by kernel_rfl
theorem ex6 : ordN 3 3 = [1, 2, 0] := by kernel_rfl
theorem ex7 : num [2, 1, 0] = 5 := by kernel_rfl
theorem ex8 : 3 < fact 3 := by decide
theorem ex9 : fact (3 : Int).toNat ≤ 6 := by decide
theorem ex10 : isO 3 [2, 1, 0] = true := by kernel_rfl
theorem ex11 : isO 2 [0, 2] = false := by kernel_rfl
theorem ex12 : isO 3 [1, 2, 0] = true := by kernel_rfl
theorem ex13 : isO 3 [1, 0, 2] = true := by kernel_rfl
end Go.Proofs.YtfjbioghpgmkiaaGreatDoor
/- sorteslaw19.sanity returns true; no conditions. -/
namespace Go.Proofs.YtfjbioghpgmkiaaGreatDoor
open Go.Eng Go.Dig

def E1 (cls fam : Int) (b : Nat) (wl : List ByteArray) : En := ⟨0, cls, fam, some ⟨b, 0, none⟩, wl.length, wl⟩
theorem two_rows {rs : List QRow} {a b : List (Nat × Nat)} (h : rs.map QRow.l = [a, b]) : ∃ r0 r1, rs = [r0, r1] ∧ r0.l = a ∧ r1.l = b := by
  match rs, h with
  | [], h => cases h
  | [_], h => cases h
  | [r0, r1], h => exact ⟨r0, r1, rfl, by injection h, by injection h with _ h2; injection h2⟩
  | _ :: _ :: _ :: _, h => cases h
theorem pm1 : ∀ p ∈ [(aN, (1 : Int))], p.2 ≤ 9223372036854775807 := by
  intro p hp
  rw [List.mem_singleton.1 hp]
  decide
theorem pm2 : ∀ p ∈ [(aN, (1 : Int)), (bN, 1)], p.2 ≤ 9223372036854775807 := by
  intro p hp
  simp only [List.mem_cons, List.mem_nil_iff, or_false] at hp
  rcases hp with rfl | rfl <;> decide
theorem red1 (n : Nat) (h : n < 18446744073709551616) : Red n 1 := ⟨Nat.gcd_one_right n, by decide, Fit.small h, one_fit⟩

attribute [local irreducible] PV StepF wpl wpd WP Ret
attribute [local irreducible] Fit srt tl fl seenL stO isO trn fact ordN asg oddsL num

set_option maxHeartbeats 16000000 in
theorem p11 (w : World) : Ret Tryz.prog 11 [] w (fun v w' => v = .bool true ∧ Keeps [] w w') := by
  refine Ret.of_WP Tryz.func11 rfl Tryz.ntmps11 rfl ?_
  have hp := Hp.start (M := []) (w := w)
  (repeat (first | (with_reducible first | apply WP_seq | apply WP_region | apply wpl_nil | apply thenQ_n) | (apply wlp; apply pv_assign; exact fB rfl)))
  (apply wls; exact st_call rfl ent33 rfl (p33 0 _ (by decide)))
  rintro _ w1 ⟨rfl, hk⟩
  have hp := hp.call hk
  rw [show (0 : Int).toNat = 0 from rfl]
  skip
  (apply wls; exact st_call rfl ent22 rfl (p22t 3 (ofN 0) 0 _ (NS.self (Fit.small (by decide))) (Fit.small (by decide)) (by decide) (fact_pos 3)))
  rintro _ w2 ⟨sa, ca, rfl, hva, hpo⟩
  have hp := hp.join hpo
  clear hpo
  rw [ex5] at hva hp ⊢
  (repeat (first | (with_reducible first | apply WP_seq | apply WP_region | apply wpl_nil | apply thenQ_n) | (apply wlp; ((first | apply pv_move | apply pv_assign | apply pv_extract) <;> exact rfl); (first | exact fB rfl | exact fS rfl | exact fU rfl))))
  (apply wls; exact st_call rfl ent33 rfl (p33 3 _ (by decide)))
  rintro _ w3 ⟨rfl, hk⟩
  have hp := hp.call hk
  rw [show (3 : Int).toNat = 3 from rfl]
  skip
  (apply wls; exact st_call rfl ent22 rfl (p22t 3 (ofN 3) 3 _ (NS.self (Fit.small (by decide))) (Fit.small (by decide)) (by decide) ex8))
  rintro _ w4 ⟨sb, cb, rfl, hvb, hpo⟩
  have hp := hp.join hpo
  clear hpo
  rw [ex6] at hvb hp ⊢
  (repeat (first | (with_reducible first | apply WP_seq | apply WP_region | apply wpl_nil | apply thenQ_n) | (apply wlp; ((first | apply pv_move | apply pv_assign | apply pv_extract) <;> exact rfl); (first | exact fB rfl | exact fS rfl | exact fU rfl))))
  (apply wls; exact st_call rfl ent33 rfl (p33 6 _ (by decide)))
  rintro _ w5 ⟨rfl, hk⟩
  have hp := hp.call hk
  rw [show (6 : Int).toNat = 6 from rfl]
  skip
  (apply wls; exact st_call rfl ent22 rfl (p22f 3 (ofN 6) 6 _ (NS.self (Fit.small (by decide))) (.inr (.inr ex9))))
  rintro _ w6 ⟨rfl, hk⟩
  have hp := hp.call hk
  (repeat (first | (with_reducible first | apply WP_seq | apply WP_region | apply wpl_nil | apply thenQ_n) | (apply wlp; ((first | apply pv_move | apply pv_assign | apply pv_extract) <;> exact rfl); (first | exact fB rfl | exact fS rfl | exact fU rfl))))
  (apply wls; exact sf_slice hp rfl rfl rfl rfl rfl rfl rfl; rintro _ w7 ⟨n1, rfl, hp⟩)
  (apply wls; exact st_call rfl ent21 rfl (p21t [2, 1, 0] (some ⟨n1, 0, none⟩) 3 _ (blk_SlAt [2, 1, 0] hp 0 rfl (fun _ => rfl)) (by decide) (Nat.le_refl _) ex10))
  rintro _ w8 ⟨rfl, hk⟩
  have hp := (hp.call hk).tail
  rw [ex7]
  (repeat (first | (with_reducible first | apply WP_seq | apply WP_region | apply wpl_nil | apply thenQ_n) | (apply wlp; ((first | apply pv_move | apply pv_assign | apply pv_extract) <;> exact rfl); (first | exact fB rfl | exact fT rfl | exact fU rfl))))
  (apply wls; exact sf_slice hp rfl rfl rfl rfl rfl rfl rfl; rintro _ w9 ⟨n2, rfl, hp⟩)
  (apply wls; exact st_call rfl ent21 rfl (p21f [0, 2] (some ⟨n2, 0, none⟩) 2 _ (blk_SlAt [0, 2] hp 0 rfl (fun _ => rfl)) (by decide) (.inr ex11)))
  rintro _ w10 ⟨rfl, hk⟩
  have hp := (hp.call hk).tail
  (repeat (first | (with_reducible first | apply WP_seq | apply WP_region | apply wpl_nil | apply thenQ_n) | (apply wlp; ((first | apply pv_move | apply pv_assign | apply pv_extract) <;> exact rfl); (first | exact fB rfl | exact fS rfl | exact fT rfl | exact fU rfl))))
  (apply wls; exact sf_slice hp rfl rfl rfl rfl rfl rfl rfl; rintro _ w11 ⟨n3, rfl, hp⟩)
  (apply wls; exact st_call rfl ent24 rfl (p24 [0, 1, 2] [0, 1, 2] sa (some ⟨n3, 0, none⟩) ca 3 _ (ownL_At hp 2 rfl hva (fun _ => rfl)) (blk_SlAt [0, 1, 2] hp 0 rfl (fun _ => rfl)) (by decide) (by decide)))
  rintro _ w12 ⟨hv, hk⟩
  obtain rfl := hv.trans (bool_eq (b := true) (decide_eq_true rfl))
  have hp := (hp.call hk).tail
  (apply wlp; (apply pv_not <;> exact rfl); exact fB rfl)
  (apply wlp; apply pv_move; exact fB rfl)
  ((apply wlpT; exact rfl; exact rfl); (apply pv_move); (intros; exact fS rfl))
  (apply wlsT; exact rfl; exact rfl; exact sf_slice hp rfl rfl rfl rfl rfl rfl rfl; rintro _ w13 ⟨n4, rfl, hp⟩)
  (apply wlsT; exact rfl; exact rfl; exact st_call rfl ent24 rfl (p24 [1, 2, 0] [1, 2, 0] sb (some ⟨n4, 0, none⟩) cb 3 _ (ownL_At hp 1 rfl hvb (fun _ => rfl)) (blk_SlAt [1, 2, 0] hp 0 rfl (fun _ => rfl)) (by decide) (by decide)); rintro _ w14 ⟨hv, hk⟩; obtain rfl := hv.trans (bool_eq (b := true) (decide_eq_true rfl)); have hp := (hp.call hk).tail)
  ((apply wlpT; exact rfl; exact rfl); ((apply pv_not <;> exact rfl)); (intros; exact fB rfl))
  (apply wlp; exact pv_orF rfl rfl; exact fB rfl)
  (apply wlp; apply pv_move; exact fB rfl)
  ((apply wlpT; exact rfl; exact rfl); (apply pv_move); (intros; exact fB rfl))
  ((apply wlpT; exact rfl; exact rfl); ((apply pv_not <;> exact rfl)); (intros; exact fB rfl))
  (apply wlp; exact pv_orF rfl rfl; exact fB rfl)
  (apply wlp; apply pv_move; exact fB rfl)
  ((apply wlpT; exact rfl; exact rfl); (apply pv_move); (intros; exact fB rfl))
  ((apply wlpT; exact rfl; exact rfl); ((apply pv_not <;> exact rfl)); (intros; exact fB rfl))
  (apply wlp; exact pv_orF rfl rfl; exact fB rfl)
  (apply wlp; apply pv_move; exact fB rfl)
  ((apply wlpT; exact rfl; exact rfl); (apply pv_move); (intros; exact fB rfl))
  (apply wlp; exact pv_orF rfl rfl; exact fB rfl)
  (apply wlp; apply pv_move; exact fB rfl)
  ((apply wlpT; exact rfl; exact rfl); (apply pv_move); (intros; exact fT rfl))
  (apply wlsT; exact rfl; exact rfl; exact st_call rfl ent33 rfl (p33 5 _ (by decide)); rintro _ w15 ⟨rfl, hk⟩; have hp := hp.call hk)
  rw [show (5 : Int).toNat = 5 from rfl]
  (apply wlpT; exact rfl; exact rfl; exact pv_sneq rfl rfl; exact bool_eq (b := false) (by rw [decide_eq_true rfl]; rfl))
  (apply wlp; exact pv_orF rfl rfl; exact fB rfl)
  (apply wlp; apply pv_move; exact fB rfl)
  ((apply wlpT; exact rfl; exact rfl); (apply pv_move); (intros; exact fB rfl))
  ((apply wlpT; exact rfl; exact rfl); ((apply pv_not <;> exact rfl)); (intros; exact fB rfl))
  (apply wlp; exact pv_orF rfl rfl; exact fB rfl)
  (apply wlp; apply pv_move; exact fB rfl)
  ((apply wlpT; exact rfl; exact rfl); (apply pv_move); (intros; exact fB rfl))
  (apply wlp; exact pv_orF rfl rfl; exact fB rfl)
  (repeat (with_reducible first | apply wpl_nil | apply thenQ_n))
  refine WP_cond_f rfl ?_
  refine WP_fresh [] trivial ?_
  intro F1
  have hp := Hp.of_keeps (M := []) hp.keeps
  clear hva hvb
  (repeat (first | (with_reducible first | apply WP_seq | apply WP_region | apply thenQ_n | apply WP_skip) | (apply wlp; ((apply pf_build; exact rfl) <;> exact rfl); exact fA2 rfl)))
  (apply wls; exact sf_slice hp rfl rfl rfl rfl rfl rfl rfl; rintro _ w16 ⟨pb, rfl, hp⟩)
  (repeat (apply wlp; ((apply pf_build; exact rfl) <;> exact rfl); exact fA13 rfl))
  (apply wls; exact salloc13 hp (zeroTy_ok rfl); rintro _ w17 ⟨db, rfl, hp⟩)
  (apply wls0; exact sstore13 hp 0 rfl rfl rfl rfl (sizeTy_ok rfl) rfl; rintro _ w18 ⟨rfl, hp⟩)
  have hp := hp.norm 0 (dB noN 2 (some ⟨pb, 0, none⟩) 1 1) rfl rfl
  (repeat (with_reducible first | apply WP_seq | apply WP_region | apply wpl_nil | apply thenQ_n))
  (apply wls; exact sf_slice hp rfl rfl rfl rfl rfl rfl rfl; rintro _ w19 ⟨u1, rfl, hp⟩)
  (repeat (apply wlp; ((apply pf_build; exact rfl) <;> exact rfl); exact fA6 rfl))
  (apply wls; exact sf_slice hp rfl rfl rfl rfl rfl rfl rfl; rintro _ w20 ⟨u2, rfl, hp⟩)
  (repeat (apply wlp; ((apply pf_build; exact rfl) <;> exact rfl); exact fA6 rfl))
  (apply wls; exact sf_slice hp rfl rfl rfl rfl rfl rfl rfl; rintro _ w21 ⟨u3, rfl, hp⟩)
  (repeat (apply wlp; ((apply pf_build; exact rfl) <;> exact rfl); exact fA6 rfl))
  (apply wls; exact sf_slice hp rfl rfl rfl rfl rfl rfl rfl; rintro _ w22 ⟨lb, rfl, hp⟩)
  have hp : Hp w [] w22 [blk lb 18 (frOf ([E1 0 0 u1 [aN], E1 0 0 u2 [aN], E1 0 0 u3 [aN]].flatMap eE)) 41, blk u3 1 (frOf [.string aN]) 9, blk u2 1 (frOf [.string aN]) 9, blk u1 1 (frOf [.string aN]) 9, blk db 13 (frOf (dB noN 2 (some ⟨pb, 0, none⟩) 1 1)) 32, blk pb 2 (frOf [.string aN, .int .i64 1]) 52] := hp
  (repeat (first | (with_reducible first | apply WP_seq | apply WP_region | apply wpl_nil | apply thenQ_n) | (apply wlp; ((first | apply pv_move | apply pv_assign | (apply pf_loadb; exact rfl)) <;> (first | exact rfl | exact hp.agg_blk 4 rfl rfl)); (first | exact fS rfl | exact fA13 rfl))))
  (apply wls; exact sf_slice hp rfl rfl rfl rfl rfl rfl rfl; rintro _ w23 ⟨ob, rfl, hp⟩)
  have hE : EAt w23 (some ⟨lb, 0, none⟩) [E1 0 0 u1 [aN], E1 0 0 u2 [aN], E1 0 0 u3 [aN]] := ⟨blk_SlAt [E1 0 0 u1 [aN], E1 0 0 u2 [aN], E1 0 0 u3 [aN]] hp 1 rfl (fun _ => rfl), by
    intro e he
    simp only [List.mem_cons, List.mem_nil_iff, or_false] at he
    rcases he with rfl | rfl | rfl
    · exact blk_SlAt [aN] hp 4 rfl (fun _ => rfl)
    · exact blk_SlAt [aN] hp 3 rfl (fun _ => rfl)
    · exact blk_SlAt [aN] hp 2 rfl (fun _ => rfl)
    , by
    intro e he
    simp only [List.mem_cons, List.mem_nil_iff, or_false] at he
    rcases he with rfl | rfl | rfl
    · exact Nat.le_of_ble_eq_true rfl
    · exact Nat.le_of_ble_eq_true rfl
    · exact Nat.le_of_ble_eq_true rfl
    ⟩
  (apply wls; exact st_call rfl ent14 rfl (p14 noN [(aN, 1)] [E1 0 0 u1 [aN], E1 0 0 u2 [aN], E1 0 0 u3 [aN]] [1, 2, 0] (some ⟨lb, 0, none⟩) (some ⟨pb, 0, none⟩) (some ⟨ob, 0, none⟩) 3 1 3 _ hE (blk_SlAt [(aN, 1)] hp 6 rfl (fun _ => rfl)) (blk_SlAt [1, 2, 0] hp 0 rfl (fun _ => rfl)) (Nat.le_of_ble_eq_true rfl) (Nat.le_of_ble_eq_true rfl) pm1 ex12 (fun h => by cases h)))
  rintro _ w24 ⟨xb, rfl, hvx, hpo⟩
  have hp := (hp.join hpo).dropAt 1
  clear hpo hE
  have hx1 : asg [E1 0 0 u1 [aN], E1 0 0 u2 [aN], E1 0 0 u3 [aN]] [(aN, 1)] [1, 2, 0] = [noN, aN, noN] := (asg_ev (l := [E1 0 0 u1 [aN], E1 0 0 u2 [aN], E1 0 0 u3 [aN]]) (l' := [enV (0, 0, 0, [aN]), enV (0, 0, 0, [aN]), enV (0, 0, 0, [aN])]) rfl _ _).trans ex1
  rw [hx1] at hvx hp
  have hp : Hp w [] w24 [ownL eS 9 1 (some ⟨xb, 0, none⟩) 3 [noN, aN, noN], blk lb 18 (frOf ([E1 0 0 u1 [aN], E1 0 0 u2 [aN], E1 0 0 u3 [aN]].flatMap eE)) 41, blk u3 1 (frOf [.string aN]) 9, blk u2 1 (frOf [.string aN]) 9, blk u1 1 (frOf [.string aN]) 9, blk db 13 (frOf (dB noN 2 (some ⟨pb, 0, none⟩) 1 1)) 32, blk pb 2 (frOf [.string aN, .int .i64 1]) 52] := hp
  (repeat (first | (with_reducible first | apply WP_seq | apply WP_region | apply wpl_nil | apply thenQ_n) | (apply wlp; ((first | apply pv_move | apply pv_assign | apply pv_extract | (apply pf_index; exact rfl)) <;> exact rfl); (first | exact fB rfl | exact fS rfl | exact fU rfl))))
  (apply wlp; exact pf_index (i := 1) rfl rfl rfl rfl (by decide); exact fP rfl)
  (repeat (apply wlp; (apply pf_field <;> exact rfl); exact fP rfl))
  (apply wls0; exact sstore1 hp 1 rfl rfl rfl rfl (sizeTy_ok rfl) rfl; rintro _ w25 ⟨rfl, hp⟩)
  (repeat (apply wlp; ((apply pf_index; exact rfl) <;> exact rfl); skip))
  (apply wlp; exact pf_index (i := 2) rfl rfl rfl rfl (by decide); exact fP rfl)
  (repeat (apply wlp; (apply pf_field <;> exact rfl); exact fP rfl))
  (apply wls0; exact sstore1 hp 1 rfl rfl rfl rfl (sizeTy_ok rfl) rfl; rintro _ w26 ⟨rfl, hp⟩)
  have hp := hp.norm 1 ([E1 0 0 u1 [aN], E1 1 0 u2 [aN], E1 1 0 u3 [aN]].flatMap eE) rfl rfl
  have hp : Hp w [] w26 [ownL eS 9 1 (some ⟨xb, 0, none⟩) 3 [noN, aN, noN], blk lb 18 (frOf ([E1 0 0 u1 [aN], E1 1 0 u2 [aN], E1 1 0 u3 [aN]].flatMap eE)) 41, blk u3 1 (frOf [.string aN]) 9, blk u2 1 (frOf [.string aN]) 9, blk u1 1 (frOf [.string aN]) 9, blk db 13 (frOf (dB noN 2 (some ⟨pb, 0, none⟩) 1 1)) 32, blk pb 2 (frOf [.string aN, .int .i64 1]) 52] := hp
  (repeat (first | (with_reducible first | apply WP_seq | apply WP_region | apply wpl_nil | apply thenQ_n) | (apply wlp; ((first | apply pv_move | (apply pf_loadb; exact rfl)) <;> (first | exact rfl | exact hp.agg_blk 5 rfl rfl)); (first | exact fS rfl | exact fA13 rfl))))
  (apply wls; exact sf_slice hp rfl rfl rfl rfl rfl rfl rfl; rintro _ w27 ⟨ob2, rfl, hp⟩)
  have hE : EAt w27 (some ⟨lb, 0, none⟩) [E1 0 0 u1 [aN], E1 1 0 u2 [aN], E1 1 0 u3 [aN]] := ⟨blk_SlAt [E1 0 0 u1 [aN], E1 1 0 u2 [aN], E1 1 0 u3 [aN]] hp 2 rfl (fun _ => rfl), by
    intro e he
    simp only [List.mem_cons, List.mem_nil_iff, or_false] at he
    rcases he with rfl | rfl | rfl
    · exact blk_SlAt [aN] hp 5 rfl (fun _ => rfl)
    · exact blk_SlAt [aN] hp 4 rfl (fun _ => rfl)
    · exact blk_SlAt [aN] hp 3 rfl (fun _ => rfl)
    , by
    intro e he
    simp only [List.mem_cons, List.mem_nil_iff, or_false] at he
    rcases he with rfl | rfl | rfl
    · exact Nat.le_of_ble_eq_true rfl
    · exact Nat.le_of_ble_eq_true rfl
    · exact Nat.le_of_ble_eq_true rfl
    ⟩
  (apply wls; exact st_call rfl ent14 rfl (p14 noN [(aN, 1)] [E1 0 0 u1 [aN], E1 1 0 u2 [aN], E1 1 0 u3 [aN]] [1, 2, 0] (some ⟨lb, 0, none⟩) (some ⟨pb, 0, none⟩) (some ⟨ob2, 0, none⟩) 3 1 3 _ hE (blk_SlAt [(aN, 1)] hp 7 rfl (fun _ => rfl)) (blk_SlAt [1, 2, 0] hp 0 rfl (fun _ => rfl)) (Nat.le_of_ble_eq_true rfl) (Nat.le_of_ble_eq_true rfl) pm1 ex12 (fun h => by cases h)))
  rintro _ w28 ⟨yb, rfl, hvy, hpo⟩
  have hp := hp.join hpo
  clear hpo hE
  have hx2 : asg [E1 0 0 u1 [aN], E1 1 0 u2 [aN], E1 1 0 u3 [aN]] [(aN, 1)] [1, 2, 0] = [aN, noN, noN] := (asg_ev (l := [E1 0 0 u1 [aN], E1 1 0 u2 [aN], E1 1 0 u3 [aN]]) (l' := [enV (0, 0, 0, [aN]), enV (0, 1, 0, [aN]), enV (0, 1, 0, [aN])]) rfl _ _).trans ex2
  rw [hx2] at hvy hp
  have hp : Hp w [] w28 [ownL eS 9 1 (some ⟨yb, 0, none⟩) 3 [aN, noN, noN], ownL eS 9 1 (some ⟨xb, 0, none⟩) 3 [noN, aN, noN], blk db 13 (frOf (dB noN 2 (some ⟨pb, 0, none⟩) 1 1)) 32, blk pb 2 (frOf [.string aN, .int .i64 1]) 52] := hp.picks [0, 2, 7, 8] _ rfl rfl
  (repeat (first | (with_reducible first | apply WP_seq | apply WP_region | apply wpl_nil | apply thenQ_n) | (apply wlp; ((first | apply pv_move | apply pv_assign | apply pv_extract | (apply pf_build; exact rfl)) <;> exact rfl); (first | exact fB rfl | exact fS rfl | exact fA2 rfl | exact fU rfl))))
  (apply wls; exact sf_slice hp rfl rfl rfl rfl rfl rfl rfl; rintro _ w29 ⟨pb2, rfl, hp⟩)
  (repeat (apply wlp; ((apply pf_build; exact rfl) <;> exact rfl); exact fA13 rfl))
  (apply wls; exact salloc13 hp (zeroTy_ok rfl); rintro _ w30 ⟨db2, rfl, hp⟩)
  (apply wls0; exact sstore13 hp 0 rfl rfl rfl rfl (sizeTy_ok rfl) rfl; rintro _ w31 ⟨rfl, hp⟩)
  have hp := hp.norm 0 (dB noN 2 (some ⟨pb2, 0, none⟩) 2 2) rfl rfl
  (repeat (with_reducible first | apply WP_seq | apply WP_region | apply wpl_nil | apply thenQ_n))
  (apply wls; exact sf_slice hp rfl rfl rfl rfl rfl rfl rfl; rintro _ w32 ⟨v1, rfl, hp⟩)
  (repeat (apply wlp; ((apply pf_build; exact rfl) <;> exact rfl); exact fA6 rfl))
  (apply wls; exact sf_slice hp rfl rfl rfl rfl rfl rfl rfl; rintro _ w33 ⟨v2, rfl, hp⟩)
  (repeat (apply wlp; ((apply pf_build; exact rfl) <;> exact rfl); exact fA6 rfl))
  (apply wls; exact sf_slice hp rfl rfl rfl rfl rfl rfl rfl; rintro _ w34 ⟨v3, rfl, hp⟩)
  (repeat (apply wlp; ((apply pf_build; exact rfl) <;> exact rfl); exact fA6 rfl))
  (apply wls; exact sf_slice hp rfl rfl rfl rfl rfl rfl rfl; rintro _ w35 ⟨mb, rfl, hp⟩)
  have hp : Hp w [] w35 [blk mb 18 (frOf ([E1 0 0 v1 [aN, bN], E1 0 5 v2 [aN], E1 0 5 v3 [bN]].flatMap eE)) 41, blk v3 1 (frOf [.string bN]) 9, blk v2 1 (frOf [.string aN]) 9, blk v1 2 (frOf [.string aN, .string bN]) 9, blk db2 13 (frOf (dB noN 2 (some ⟨pb2, 0, none⟩) 2 2)) 32, blk pb2 4 (frOf [.string aN, .int .i64 1, .string bN, .int .i64 1]) 52, ownL eS 9 1 (some ⟨yb, 0, none⟩) 3 [aN, noN, noN], ownL eS 9 1 (some ⟨xb, 0, none⟩) 3 [noN, aN, noN], blk db 13 (frOf (dB noN 2 (some ⟨pb, 0, none⟩) 1 1)) 32, blk pb 2 (frOf [.string aN, .int .i64 1]) 52] := hp
  (repeat (first | (with_reducible first | apply WP_seq | apply WP_region | apply wpl_nil | apply thenQ_n) | (apply wlp; ((first | apply pv_move | apply pv_assign | (apply pf_loadb; exact rfl)) <;> (first | exact rfl | exact hp.agg_blk 4 rfl rfl)); (first | exact fS rfl | exact fA13 rfl))))
  (apply wls; exact sf_slice hp rfl rfl rfl rfl rfl rfl rfl; rintro _ w36 ⟨ob3, rfl, hp⟩)
  have hE : EAt w36 (some ⟨mb, 0, none⟩) [E1 0 0 v1 [aN, bN], E1 0 5 v2 [aN], E1 0 5 v3 [bN]] := ⟨blk_SlAt [E1 0 0 v1 [aN, bN], E1 0 5 v2 [aN], E1 0 5 v3 [bN]] hp 1 rfl (fun _ => rfl), by
    intro e he
    simp only [List.mem_cons, List.mem_nil_iff, or_false] at he
    rcases he with rfl | rfl | rfl
    · exact blk_SlAt [aN, bN] hp 4 rfl (fun _ => rfl)
    · exact blk_SlAt [aN] hp 3 rfl (fun _ => rfl)
    · exact blk_SlAt [bN] hp 2 rfl (fun _ => rfl)
    , by
    intro e he
    simp only [List.mem_cons, List.mem_nil_iff, or_false] at he
    rcases he with rfl | rfl | rfl
    · exact Nat.le_of_ble_eq_true rfl
    · exact Nat.le_of_ble_eq_true rfl
    · exact Nat.le_of_ble_eq_true rfl
    ⟩
  (apply wls; exact st_call rfl ent14 rfl (p14 noN [(aN, 1), (bN, 1)] [E1 0 0 v1 [aN, bN], E1 0 5 v2 [aN], E1 0 5 v3 [bN]] [1, 0, 2] (some ⟨mb, 0, none⟩) (some ⟨pb2, 0, none⟩) (some ⟨ob3, 0, none⟩) 3 2 3 _ hE (blk_SlAt [(aN, 1), (bN, 1)] hp 6 rfl (fun _ => rfl)) (blk_SlAt [1, 0, 2] hp 0 rfl (fun _ => rfl)) (Nat.le_of_ble_eq_true rfl) (Nat.le_of_ble_eq_true rfl) pm2 ex13 (fun h => by cases h)))
  rintro _ w37 ⟨zb, rfl, hvz, hpo⟩
  have hp := (hp.join hpo).dropAt 1
  clear hpo hE
  have hx3 : asg [E1 0 0 v1 [aN, bN], E1 0 5 v2 [aN], E1 0 5 v3 [bN]] [(aN, 1), (bN, 1)] [1, 0, 2] = [noN, aN, bN] := (asg_ev (l := [E1 0 0 v1 [aN, bN], E1 0 5 v2 [aN], E1 0 5 v3 [bN]]) (l' := [enV (0, 0, 0, [aN, bN]), enV (0, 0, 5, [aN]), enV (0, 0, 5, [bN])]) rfl _ _).trans ex3
  rw [hx3] at hvz hp
  have hp : Hp w [] w37 [ownL eS 9 1 (some ⟨zb, 0, none⟩) 3 [noN, aN, bN], blk mb 18 (frOf ([E1 0 0 v1 [aN, bN], E1 0 5 v2 [aN], E1 0 5 v3 [bN]].flatMap eE)) 41, blk v3 1 (frOf [.string bN]) 9, blk v2 1 (frOf [.string aN]) 9, blk v1 2 (frOf [.string aN, .string bN]) 9, blk db2 13 (frOf (dB noN 2 (some ⟨pb2, 0, none⟩) 2 2)) 32, blk pb2 4 (frOf [.string aN, .int .i64 1, .string bN, .int .i64 1]) 52, ownL eS 9 1 (some ⟨yb, 0, none⟩) 3 [aN, noN, noN], ownL eS 9 1 (some ⟨xb, 0, none⟩) 3 [noN, aN, noN], blk db 13 (frOf (dB noN 2 (some ⟨pb, 0, none⟩) 1 1)) 32, blk pb 2 (frOf [.string aN, .int .i64 1]) 52] := hp
  (repeat (first | (with_reducible first | apply WP_seq | apply WP_region | apply wpl_nil | apply thenQ_n) | (apply wlp; ((first | apply pv_move | apply pv_assign | apply pv_extract) <;> exact rfl); (first | exact fB rfl | exact fS rfl | exact fU rfl))))
  (apply wls; exact sf_slice hp rfl rfl rfl rfl rfl rfl rfl; rintro _ w38 ⟨n1, rfl, hp⟩)
  (apply wls; exact st_call rfl ent15 rfl (p15 [noN, aN, noN] [noN, aN, noN] (some ⟨xb, 0, none⟩) (some ⟨n1, 0, none⟩) 3 3 _ (ownL_At hp 9 rfl hvx (fun _ => rfl)) (blk_SlAt [noN, aN, noN] hp 0 rfl (fun _ => rfl)) (by decide) (by decide)))
  rintro _ w39 ⟨hv, hk⟩
  obtain rfl := hv.trans (bool_eq (b := true) (decide_eq_true rfl))
  have hp := (hp.call hk).tail
  (apply wlp; (apply pv_not <;> exact rfl); exact fB rfl)
  (apply wlp; apply pv_move; exact fB rfl)
  ((apply wlpT; exact rfl; exact rfl); (apply pv_move); (intros; exact fS rfl))
  (apply wlsT; exact rfl; exact rfl; exact sf_slice hp rfl rfl rfl rfl rfl rfl rfl; rintro _ w40 ⟨n2, rfl, hp⟩)
  (apply wlsT; exact rfl; exact rfl; exact st_call rfl ent15 rfl (p15 [aN, noN, noN] [aN, noN, noN] (some ⟨yb, 0, none⟩) (some ⟨n2, 0, none⟩) 3 3 _ (ownL_At hp 8 rfl hvy (fun _ => rfl)) (blk_SlAt [aN, noN, noN] hp 0 rfl (fun _ => rfl)) (by decide) (by decide)); rintro _ w41 ⟨hv, hk⟩; obtain rfl := hv.trans (bool_eq (b := true) (decide_eq_true rfl)); have hp := (hp.call hk).tail)
  ((apply wlpT; exact rfl; exact rfl); ((apply pv_not <;> exact rfl)); (intros; exact fB rfl))
  (apply wlp; exact pv_orF rfl rfl; exact fB rfl)
  (apply wlp; apply pv_move; exact fB rfl)
  ((apply wlpT; exact rfl; exact rfl); (apply pv_move); (intros; exact fS rfl))
  (apply wlsT; exact rfl; exact rfl; exact sf_slice hp rfl rfl rfl rfl rfl rfl rfl; rintro _ w42 ⟨n3, rfl, hp⟩)
  (apply wlsT; exact rfl; exact rfl; exact st_call rfl ent15 rfl (p15 [noN, aN, bN] [noN, aN, bN] (some ⟨zb, 0, none⟩) (some ⟨n3, 0, none⟩) 3 3 _ (ownL_At hp 1 rfl hvz (fun _ => rfl)) (blk_SlAt [noN, aN, bN] hp 0 rfl (fun _ => rfl)) (by decide) (by decide)); rintro _ w43 ⟨hv, hk⟩; obtain rfl := hv.trans (bool_eq (b := true) (decide_eq_true rfl)); have hp := (hp.call hk).tail)
  ((apply wlpT; exact rfl; exact rfl); ((apply pv_not <;> exact rfl)); (intros; exact fB rfl))
  (apply wlp; exact pv_orF rfl rfl; exact fB rfl)
  (apply wlp; apply pv_move; exact fB rfl)
  ((apply wlpT; exact rfl; exact rfl); (((apply pf_loadb; exact rfl) <;> (first | exact rfl | exact hp.agg_blk 5 rfl rfl))); (intros; exact fA13 rfl))
  ((apply wlpT; exact rfl; exact rfl); (apply pv_move); (intros; exact fS rfl))
  (apply wlsT; exact rfl; exact rfl; exact sf_slice hp rfl rfl rfl rfl rfl rfl rfl; rintro _ w44 ⟨ob4, rfl, hp⟩)
  ((apply wlpT; exact rfl; exact rfl); (apply pv_move); (intros; exact fS rfl))
  have hE : EAt w44 (some ⟨mb, 0, none⟩) [E1 0 0 v1 [aN, bN], E1 0 5 v2 [aN], E1 0 5 v3 [bN]] := ⟨blk_SlAt [E1 0 0 v1 [aN, bN], E1 0 5 v2 [aN], E1 0 5 v3 [bN]] hp 2 rfl (fun _ => rfl), by
    intro e he
    simp only [List.mem_cons, List.mem_nil_iff, or_false] at he
    rcases he with rfl | rfl | rfl
    · exact blk_SlAt [aN, bN] hp 5 rfl (fun _ => rfl)
    · exact blk_SlAt [aN] hp 4 rfl (fun _ => rfl)
    · exact blk_SlAt [bN] hp 3 rfl (fun _ => rfl)
    , by
    intro e he
    simp only [List.mem_cons, List.mem_nil_iff, or_false] at he
    rcases he with rfl | rfl | rfl
    · exact Nat.le_of_ble_eq_true rfl
    · exact Nat.le_of_ble_eq_true rfl
    · exact Nat.le_of_ble_eq_true rfl
    ⟩
  (apply wlsT; exact rfl; exact rfl; exact st_call rfl ent23 rfl (p23 noN [(aN, 1), (bN, 1)] [E1 0 0 v1 [aN, bN], E1 0 5 v2 [aN], E1 0 5 v3 [bN]] [1, 0, 2] [noN, aN, bN] (some ⟨mb, 0, none⟩) (some ⟨pb2, 0, none⟩) (some ⟨ob4, 0, none⟩) (some ⟨zb, 0, none⟩) 3 2 3 3 _ hE (by
    intro e he
    simp only [List.mem_cons, List.mem_nil_iff, or_false] at he
    rcases he with rfl | rfl | rfl <;> exact Nat.le_refl _) (blk_SlAt [(aN, 1), (bN, 1)] hp 7 rfl (fun _ => rfl)) (blk_SlAt [1, 0, 2] hp 0 rfl (fun _ => rfl)) (ownL_At hp 1 rfl hvz (fun _ => rfl)) (Nat.le_of_ble_eq_true rfl) (Nat.le_of_ble_eq_true rfl) pm2 ex13 (fun h => by cases h) rfl); rintro _ w45 ⟨⟨bo, rfl, hbo⟩, hk⟩; have hp := hp.call hk)
  have hbo : bo = true := hbo.2 ((stbP_asg (l := [E1 0 0 v1 [aN, bN], E1 0 5 v2 [aN], E1 0 5 v3 [bN]]) (ps := [(aN, 1), (bN, 1)]) (ord := [1, 0, 2]) (x := [noN, aN, bN]) ex13 rfl).2 hx3.symm)
  subst hbo
  clear hE
  ((apply wlpT; exact rfl; exact rfl); ((apply pv_not <;> exact rfl)); (intros; exact fB rfl))
  (apply wlp; exact pv_orF rfl rfl; exact fB rfl)
  (repeat (with_reducible first | apply wpl_nil | apply thenQ_n))
  refine WP_cond_f rfl ?_
  refine WP_fresh [(11, .pointer (some ⟨db, 0, none⟩))] ⟨rfl, trivial⟩ ?_
  intro F2
  have hp : Hp w [] w45 [blk db 13 (frOf (dB noN 2 (some ⟨pb, 0, none⟩) 1 1)) 32, blk pb 2 (frOf [.string aN, .int .i64 1]) 52] := hp.picks [10, 11] _ rfl rfl
  clear hvx hvy hvz
  (repeat (first | (with_reducible first | apply WP_seq | apply WP_region | apply thenQ_n | apply WP_skip) | (apply wlp; ((apply pf_loadb; exact rfl) <;> (first | exact rfl | exact hp.agg_blk 0 rfl rfl)); exact fA13 rfl)))
  (apply wls; exact sf_slice hp rfl rfl rfl rfl rfl rfl rfl; rintro _ w46 ⟨c1, rfl, hp⟩)
  (repeat (apply wlp; ((apply pf_build; exact rfl) <;> exact rfl); exact fA6 rfl))
  (apply wls; exact sf_slice hp rfl rfl rfl rfl rfl rfl rfl; rintro _ w47 ⟨c2, rfl, hp⟩)
  (repeat (apply wlp; ((apply pf_build; exact rfl) <;> exact rfl); exact fA6 rfl))
  (apply wls; exact sf_slice hp rfl rfl rfl rfl rfl rfl rfl; rintro _ w48 ⟨lb3, rfl, hp⟩)
  have hp : Hp w [] w48 [blk lb3 12 (frOf ([E1 0 0 c1 [aN], E1 0 0 c2 [aN]].flatMap eE)) 41, blk c2 1 (frOf [.string aN]) 9, blk c1 1 (frOf [.string aN]) 9, blk db 13 (frOf (dB noN 2 (some ⟨pb, 0, none⟩) 1 1)) 32, blk pb 2 (frOf [.string aN, .int .i64 1]) 52] := hp
  have hE : EAt w48 (some ⟨lb3, 0, none⟩) [E1 0 0 c1 [aN], E1 0 0 c2 [aN]] := ⟨blk_SlAt [E1 0 0 c1 [aN], E1 0 0 c2 [aN]] hp 0 rfl (fun _ => rfl), by
    intro e he
    simp only [List.mem_cons, List.mem_nil_iff, or_false] at he
    rcases he with rfl | rfl
    · exact blk_SlAt [aN] hp 2 rfl (fun _ => rfl)
    · exact blk_SlAt [aN] hp 1 rfl (fun _ => rfl)
    , by
    intro e he
    simp only [List.mem_cons, List.mem_nil_iff, or_false] at he
    rcases he with rfl | rfl
    · exact Nat.le_of_ble_eq_true rfl
    · exact Nat.le_of_ble_eq_true rfl
    ⟩
  (apply wls; exact st_call rfl ent16 rfl (p16 noN [(aN, 1)] [E1 0 0 c1 [aN], E1 0 0 c2 [aN]] (some ⟨lb3, 0, none⟩) (some ⟨pb, 0, none⟩) 2 1 _ hE (blk_SlAt [(aN, 1)] hp 4 rfl (fun _ => rfl)) (Nat.le_of_ble_eq_true rfl) (Nat.le_of_ble_eq_true rfl) pm1 (chain6 2 (by decide))))
  rintro _ w49 ⟨so, co, rs, rfl, hso, hrs, hrm, hk⟩
  have hk0 : Keeps [] w w49 := hp.keeps.trans hk (by simp)
  have hx4 : oddsL [E1 0 0 c1 [aN], E1 0 0 c2 [aN]] [(aN, 1)] = [[(1, 2), (1, 2)], [(1, 2), (1, 2)]] := (oddsL_ev (l := [E1 0 0 c1 [aN], E1 0 0 c2 [aN]]) (l' := [enV (0, 0, 0, [aN]), enV (0, 0, 0, [aN])]) rfl _).trans ex4
  rw [hx4] at hrm
  obtain ⟨r0, r1, rfl, h0, h1⟩ := two_rows hrm
  have hs0 : SlAt w49 3 eQ r0.s [(1, 2), (1, 2)] := by rw [← h0]; exact hrs r0 (by simp)
  have hs1 : SlAt w49 3 eQ r1.s [(1, 2), (1, 2)] := by rw [← h1]; exact hrs r1 (by simp)
  obtain ⟨bo, oo, hso0, hco⟩ := hso.base (Nat.le_of_ble_eq_true rfl)
  have hc0 : w49.cell? ⟨bo, oo + 0 * 1 + 0, none⟩ = some (.slice r0.s 2 r0.c) := by
    have := hco 0 r0 rfl 0 _ rfl
    rw [h0] at this
    exact this
  have hc1 : w49.cell? ⟨bo, oo + 1 * 1 + 0, none⟩ = some (.slice r1.s 2 r1.c) := by
    have := hco 1 r1 rfl 0 _ rfl
    rw [h1] at this
    exact this
  clear hp hE hso hrs hco
  have hp := Hp.start (M := []) (w := w49)
  (repeat (first | (with_reducible first | apply WP_seq | apply WP_region | apply wpl_nil | apply thenQ_n) | (apply wlp; ((first | apply pv_move | apply pv_assign | apply pv_extract) <;> exact rfl); (first | exact fI rfl | exact fS rfl | exact fU rfl))))
  (apply wls; exact st_call rfl ent19 rfl (p19 1 _ (by decide) (by decide)))
  rintro _ w50 ⟨rfl, hk⟩
  have hp := hp.call hk
  rw [show (1 : Int).toNat = 1 from rfl]
  skip
  (apply wls; exact st_call rfl ent19 rfl (p19 2 _ (by decide) (by decide)))
  rintro _ w51 ⟨rfl, hk⟩
  have hp := hp.call hk
  rw [show (2 : Int).toNat = 2 from rfl]
  skip
  (apply wls; exact st_call rfl ent18 rfl (p18 (a := 1) (e := 1) (c := 2) (d := 1) (red1 1 (by decide)) (red1 2 (by decide)) (by decide) (Fit.small (by decide)) (Fit.small (by decide)) _))
  rintro _ w52 ⟨hv, hk⟩
  obtain rfl := hv.trans (show _ = Value.tuple #[RV 1 2, .bool true] from rfl)
  have hp := hp.call hk
  (repeat (apply wlp; ((first | apply pv_move | apply pv_extract) <;> exact rfl); (first | exact fB rfl | exact fA3 rfl | exact fU rfl)))
  (apply wls; exact salloc3 hp (zeroTy_ok rfl); rintro _ w53 ⟨hb, rfl, hp⟩)
  (apply wls0; exact sstore3 hp 0 rfl rfl rfl rfl (sizeTy_ok rfl) rfl; rintro _ w54 ⟨rfl, hp⟩)
  have hp := hp.norm 0 (eQ (1, 2)) rfl rfl
  (repeat (first | (with_reducible first | apply WP_seq | apply WP_region | apply wpl_nil | apply thenQ_n) | (apply wlp; ((first | apply pv_assign | (apply pf_loadb; exact rfl)) <;> (first | exact rfl | exact hp.agg_blk 0 rfl rfl)); (first | exact fB rfl | exact fA3 rfl))))
  (apply wls; exact sf_slice hp rfl rfl rfl rfl rfl rfl rfl; rintro _ w55 ⟨wb, rfl, hp⟩)
  have hp : Hp w49 [] w55 [blk wb 6 (frOf ([(1, 2), (1, 2)].flatMap eQ)) 55, blk hb 3 (frOf (eQ (1, 2))) 55] := hp
  (apply wlp; apply pv_assign; exact fS rfl)
  (repeat (with_reducible first | apply WP_seq | apply WP_region | apply wpl_nil | apply thenQ_n))
  (apply wlp; apply pv_move; exact fI rfl)
  (apply wlp; (exact pv_eql rfl rfl); exact bool_eq (b := true) (decide_eq_true (by omega)))
  (apply wlp; apply pv_move; exact fB rfl)
  ((apply wlpT; exact rfl; exact rfl); (apply pv_move); (intros; exact fS rfl))
  ((apply wlpT; exact rfl; exact rfl); (((apply pf_len; exact rfl) <;> exact rfl)); (intros; exact fI rfl))
  (apply wlpT; exact rfl; exact rfl; exact pv_eql rfl rfl; exact bool_eq (b := true) (decide_eq_true rfl))
  (apply wlp; exact pv_andT rfl rfl; exact fB rfl)
  (apply wlp; apply pv_move; exact fB rfl)
  ((apply wlpT; exact rfl; exact rfl); (apply pv_move); (intros; exact fS rfl))
  (apply wlpT; exact rfl; exact rfl; exact pf_index (i := 0) rfl rfl rfl hso0 (Nat.le_of_ble_eq_true rfl); exact fP rfl)
  (apply wlpT; exact rfl; exact rfl; exact pf_load rfl rfl (hp.old0 hc0); exact fS rfl)
  ((apply wlpT; exact rfl; exact rfl); (apply pv_move); (intros; exact fS rfl))
  (apply wlsT; exact rfl; exact rfl; exact st_call rfl ent17 rfl (p17 [(1, 2), (1, 2)] [(1, 2), (1, 2)] r0.s (some ⟨wb, 0, none⟩) r0.c 2 _ (hs0.keep0 hp.keeps) (blk_SlAt [(1, 2), (1, 2)] hp 0 rfl (fun _ => rfl)) (by decide) (by decide)); rintro _ w56 ⟨hv, hk⟩; obtain rfl := hv.trans (bool_eq (b := true) (decide_eq_true rfl)); have hp := hp.call hk)
  (apply wlp; exact pv_andT rfl rfl; exact fB rfl)
  (apply wlp; apply pv_move; exact fB rfl)
  ((apply wlpT; exact rfl; exact rfl); (apply pv_move); (intros; exact fS rfl))
  (apply wlpT; exact rfl; exact rfl; exact pf_index (i := 1) rfl rfl rfl hso0 (Nat.le_of_ble_eq_true rfl); exact fP rfl)
  (apply wlpT; exact rfl; exact rfl; exact pf_load rfl rfl (hp.old0 hc1); exact fS rfl)
  ((apply wlpT; exact rfl; exact rfl); (apply pv_move); (intros; exact fS rfl))
  (apply wlsT; exact rfl; exact rfl; exact st_call rfl ent17 rfl (p17 [(1, 2), (1, 2)] [(1, 2), (1, 2)] r1.s (some ⟨wb, 0, none⟩) r1.c 2 _ (hs1.keep0 hp.keeps) (blk_SlAt [(1, 2), (1, 2)] hp 0 rfl (fun _ => rfl)) (by decide) (by decide)); rintro _ w57 ⟨hv, hk⟩; obtain rfl := hv.trans (bool_eq (b := true) (decide_eq_true rfl)); have hp := hp.call hk)
  (apply wlp; exact pv_andT rfl rfl; exact fB rfl)
  (repeat (first | (with_reducible first | apply wpl_nil | apply thenQ_n | apply WP_ret) | (apply wlp; apply pv_assign; exact fB rfl)))
  exact ret_tmp rfl rfl ⟨_, rfl, rfl, hk0.trans hp.keeps (by simp)⟩
end Go.Proofs.YtfjbioghpgmkiaaGreatDoor
/- Plain laws on orders: a number's order is an order, numbers and orders are inverse, a greater number's order is later, both tests agree; no conditions. -/
namespace Go.Proofs.YtfjbioghpgmkiaaGreatDoor
open Go.Dig Go.Eng

/-- a list that rises -/
def Ris (L : List Int) : Prop := L.Pairwise (· < ·)
theorem idn_ris (n : Nat) : Ris (idn n) := by
  unfold Ris idn
  rw [List.pairwise_map]
  exact List.pairwise_lt_range.imp (fun h => by omega)
theorem idn_mem {n : Nat} {x : Int} : x ∈ idn n ↔ 0 ≤ x ∧ x < n := by
  unfold idn
  rw [List.mem_map]
  constructor
  · rintro ⟨i, hi, rfl⟩
    have := List.mem_range.1 hi
    omega
  · rintro ⟨h0, h1⟩
    exact ⟨x.toNat, List.mem_range.2 (by omega), Int.toNat_of_nonneg h0⟩
theorem Ris.nd {L : List Int} (h : Ris L) : L.Nodup := List.Pairwise.imp (fun h e => by omega) h
theorem Ris.erase {L : List Int} (h : Ris L) (i : Nat) : Ris (L.eraseIdx i) := List.Pairwise.sublist (List.eraseIdx_sublist L i) h
theorem erase_perm {L : List Int} {d : Nat} (hd : d < L.length) : (L[d] :: L.eraseIdx d).Perm L := by
  have e : L = L.take d ++ L[d] :: L.drop (d + 1) := by rw [← List.drop_eq_getElem_cons hd, List.take_append_drop]
  have h : (L[d] :: (L.take d ++ L.drop (d + 1))).Perm (L.take d ++ L[d] :: L.drop (d + 1)) := List.perm_middle.symm
  rw [erase_split]
  rwa [← e] at h
theorem dec_perm : ∀ (k : Nat) (L : List Int) (x : Nat), L.length = k → x < fact k → (dec k L x).Perm L
  | 0, L, _, hL, _ => by
    rw [List.eq_nil_of_length_eq_zero hL]
    exact .refl _
  | k + 1, L, x, hL, hx => by
    have hd : x / fact k < L.length := by
      rw [hL]
      exact (Nat.div_lt_iff_lt_mul (fact_pos k)).2 hx
    have hm := Nat.mod_lt x (fact_pos k)
    rw [dec, List.getElem?_eq_getElem hd]
    refine (List.Perm.cons _ (dec_perm k _ _ (by rw [List.length_eraseIdx_of_lt hd]; omega) hm)).trans ?_
    exact erase_perm hd
theorem ord_isO {n x : Nat} (h : x < fact n) : isO n (ordN n x) = true := by
  have hp := dec_perm n (idn n) x (idn_len n) h
  unfold isO
  have h1 : (ordN n x).length = n := ordN_len n x
  rw [decide_eq_true h1, decide_eq_true (show (ordN n x).Nodup from hp.nodup_iff.2 (idn_ris n).nd), Bool.and_true, Bool.true_and, List.all_eq_true]
  intro y hy
  have := idn_mem.1 (hp.mem_iff.1 hy)
  simp [this.1, this.2]
/-- how many elements of a rising list are less than the one at d -/
theorem less_at {L : List Int} (h : Ris L) {d : Nat} (hd : d < L.length) : L.countP (fun y => decide (y < L[d])) = d := by
  have e : L = L.take d ++ L[d] :: L.drop (d + 1) := by rw [← List.drop_eq_getElem_cons hd, List.take_append_drop]
  have hp : (L.take d ++ L[d] :: L.drop (d + 1)).Pairwise (· < ·) := by rw [← e]; exact h
  rw [List.pairwise_append] at hp
  obtain ⟨_, h2, h3⟩ := hp
  have h4 := List.pairwise_cons.1 h2
  have e2 : L.countP (fun y => decide (y < L[d])) = (L.take d ++ L[d] :: L.drop (d + 1)).countP (fun y => decide (y < L[d])) := by rw [← e]
  rw [e2, List.countP_append, List.countP_cons]
  have c1 : (L.take d).countP (fun y => decide (y < L[d])) = d := by
    rw [List.countP_eq_length.2 (fun y hy => decide_eq_true (h3 y hy _ List.mem_cons_self)), List.length_take]
    omega
  have c2 : (L.drop (d + 1)).countP (fun y => decide (y < L[d])) = 0 := by
    rw [List.countP_eq_zero]
    intro y hy
    have := h4.1 y hy
    simp
    omega
  rw [c1, c2]
  simp
theorem less_erase {L : List Int} (h : Ris L) {d : Nat} (hd : d < L.length) : lessC L[d] (L.eraseIdx d) = d := by
  have hp := erase_perm hd
  have h1 := hp.countP_eq (fun y => decide (y < L[d]))
  rw [less_at h hd, List.countP_cons] at h1
  unfold lessC
  simpa using h1
theorem num_dec : ∀ (k : Nat) (L : List Int) (x : Nat), L.length = k → Ris L → x < fact k → num (dec k L x) = x
  | 0, _, x, _, _, hx => by
    have : x = 0 := by unfold fact at hx; omega
    rw [this]
    rfl
  | k + 1, L, x, hL, hR, hx => by
    have hd : x / fact k < L.length := by
      rw [hL]
      exact (Nat.div_lt_iff_lt_mul (fact_pos k)).2 hx
    have hm := Nat.mod_lt x (fact_pos k)
    have hel : (L.eraseIdx (x / fact k)).length = k := by rw [List.length_eraseIdx_of_lt hd]; omega
    rw [dec, List.getElem?_eq_getElem hd]
    show num (L[x / fact k] :: dec k (L.eraseIdx (x / fact k)) (x % fact k)) = x
    rw [num_cons, num_dec k _ _ hel (hR.erase _) hm, dec_len]
    have hp := dec_perm k (L.eraseIdx (x / fact k)) (x % fact k) hel hm
    have hl : lessC L[x / fact k] (dec k (L.eraseIdx (x / fact k)) (x % fact k)) = x / fact k := by
      have h1 := hp.countP_eq (fun y => decide (y < L[x / fact k]))
      have h2 := less_erase hR hd
      unfold lessC at *
      rw [h1]
      exact h2
    rw [hl, Nat.mul_comm]
    exact Nat.div_add_mod x (fact k)
theorem num_ord {n x : Nat} (h : x < fact n) : num (ordN n x) = x := num_dec n (idn n) x (idn_len n) (idn_ris n) h
theorem dec_num : ∀ (l L : List Int), l.Perm L → Ris L → dec l.length L (num l) = l
  | [], L, h, _ => rfl
  | y :: l, L, h, hR => by
    have hy : y ∈ L := h.mem_iff.1 List.mem_cons_self
    obtain ⟨d, hd, rfl⟩ := List.getElem_of_mem hy
    have hp := erase_perm hd
    have hpl : l.Perm (L.eraseIdx d) := (List.perm_cons _).1 (h.trans hp.symm)
    have hl : lessC L[d] l = d := by
      have := hpl.countP_eq (fun z => decide (z < L[d]))
      have h2 := less_erase hR hd
      unfold lessC at *
      rw [this]
      exact h2
    have hn := num_lt l
    have hf := fact_pos l.length
    rw [num_cons, hl, List.length_cons, dec]
    have e1 : (d * fact l.length + num l) / fact l.length = d := by
      rw [Nat.add_comm, Nat.add_mul_div_right _ _ hf, Nat.div_eq_of_lt hn, Nat.zero_add]
    have e2 : (d * fact l.length + num l) % fact l.length = num l := by
      rw [Nat.add_comm, Nat.add_mul_mod_self_right, Nat.mod_eq_of_lt hn]
    rw [e1, e2, List.getElem?_eq_getElem hd, dec_num l _ hpl (hR.erase d)]
    rfl
theorem isO_perm {n : Nat} {l : List Int} (h : isO n l = true) : l.Perm (idn n) := by
  obtain ⟨h1, h2, h3⟩ := isO_facts h
  exact perm_of_sub h3 (fun x hx => idn_mem.2 (h2 x hx)) (by rw [idn_len, h1]; exact Nat.le_refl _)
theorem ord_num {n : Nat} {l : List Int} (h : isO n l = true) : ordN n (num l) = l ∧ num l < fact n := by
  have h1 := (isO_facts h).1
  have h2 := dec_num l (idn n) (isO_perm h) (idn_ris n)
  have h3 := num_lt l
  rw [h1] at h2 h3
  exact ⟨h2, h3⟩
/-- both tests agree -/
theorem isR_isO (n : Nat) (l : List Int) : isR n l = (decide (n ≤ 40) && isO n l) := by
  rw [Bool.eq_iff_iff]
  constructor
  · intro h
    unfold isR at h
    simp only [Bool.and_eq_true, decide_eq_true_eq, List.all_eq_true] at h
    obtain ⟨h1, h2, h3⟩ := h
    have hp : (idn n).Perm l := perm_of_sub (idn_ris n).nd h3 (by rw [idn_len, h1]; exact Nat.le_refl _)
    rw [decide_eq_true h2, Bool.true_and]
    unfold isO
    rw [decide_eq_true h1, decide_eq_true (hp.nodup_iff.1 (idn_ris n).nd), Bool.and_true, Bool.true_and, List.all_eq_true]
    intro y hy
    have := idn_mem.1 (hp.mem_iff.2 hy)
    simp [this.1, this.2]
  · intro h
    simp only [Bool.and_eq_true, decide_eq_true_eq] at h
    unfold isR
    have hp := isO_perm h.2
    rw [decide_eq_true (isO_facts h.2).1, decide_eq_true h.1, Bool.true_and, Bool.true_and, List.all_eq_true]
    intro y hy
    exact decide_eq_true (hp.mem_iff.2 hy)
/-- the one list comes before the other one -/
def lexlt (a b : List Int) : Prop := ∃ i : Nat, a.take i = b.take i ∧ ∃ x y, a[i]? = some x ∧ b[i]? = some y ∧ x < y
theorem dec_lex : ∀ (k : Nat) (L : List Int) (x y : Nat), L.length = k → Ris L → x < y → y < fact k → lexlt (dec k L x) (dec k L y)
  | 0, _, x, y, _, _, hxy, hy => by
    unfold fact at hy
    omega
  | k + 1, L, x, y, hL, hR, hxy, hy => by
    have hf := fact_pos k
    have hx : x < fact (k + 1) := Nat.lt_trans hxy hy
    have hd : x / fact k < L.length := by
      rw [hL]
      exact (Nat.div_lt_iff_lt_mul hf).2 hx
    have hd2 : y / fact k < L.length := by
      rw [hL]
      exact (Nat.div_lt_iff_lt_mul hf).2 hy
    have hle : x / fact k ≤ y / fact k := Nat.div_le_div_right (Nat.le_of_lt hxy)
    rw [dec, dec, List.getElem?_eq_getElem hd, List.getElem?_eq_getElem hd2]
    by_cases he : x / fact k = y / fact k
    · have hm : x % fact k < y % fact k := by
        have a := Nat.div_add_mod x (fact k)
        have b := Nat.div_add_mod y (fact k)
        rw [he] at a
        omega
      obtain ⟨i, h1, u, v, h2, h3, h4⟩ := dec_lex k (L.eraseIdx (y / fact k)) (x % fact k) (y % fact k) (by rw [List.length_eraseIdx_of_lt hd2]; omega) (hR.erase _) hm (Nat.mod_lt _ hf)
      refine ⟨i + 1, ?_, u, v, ?_, ?_, h4⟩
      · simp only [he, List.take_succ_cons, h1]
      · simp only [he, List.getElem?_cons_succ, h2]
      · simp only [List.getElem?_cons_succ, h3]
    · refine ⟨0, rfl, L[x / fact k], L[y / fact k], rfl, rfl, ?_⟩
      exact (List.pairwise_iff_getElem.1 hR) _ _ hd hd2 (by omega)
theorem ord_lex {n x : Nat} (h : x + 1 < fact n) : lexlt (ordN n x) (ordN n (x + 1)) := dec_lex n (idn n) x (x + 1) (idn_len n) (idn_ris n) (Nat.lt_succ_self _) h
theorem dec_last : ∀ (k : Nat) (L : List Int), L.length = k → dec k L (fact k - 1) = L.reverse
  | 0, L, hL => by
    rw [List.eq_nil_of_length_eq_zero hL]
    rfl
  | k + 1, L, hL => by
    have hf := fact_pos k
    have e0 : fact (k + 1) - 1 = k * fact k + (fact k - 1) := by
      rw [fact_succ, Nat.succ_mul]
      omega
    have e1 : (fact (k + 1) - 1) / fact k = k := by
      rw [e0, Nat.add_comm, Nat.add_mul_div_right _ _ hf, Nat.div_eq_of_lt (by omega), Nat.zero_add]
    have e2 : (fact (k + 1) - 1) % fact k = fact k - 1 := by
      rw [e0, Nat.add_comm, Nat.add_mul_mod_self_right, Nat.mod_eq_of_lt (by omega)]
    rw [dec, e1, e2, dec_last k _ (by rw [List.length_eraseIdx_of_lt (by omega)]; omega), List.getElem?_eq_getElem (by omega)]
    have e : L = L.take k ++ [L[k]] := by
      rw [← List.take_succ_eq_append_getElem (by omega), List.take_of_length_le (by omega)]
    have e3 : L.eraseIdx k = L.take k := by
      rw [erase_split, List.drop_eq_nil_of_le (by omega), List.append_nil]
    rw [e3]
    conv => rhs; rw [e, List.reverse_append]
    rfl
theorem ord_last (n : Nat) : ordN n (fact n - 1) = (idn n).reverse := dec_last n (idn n) (idn_len n)
/-! all orders -/
theorem os_mem {n : Nat} {o : List Int} : o ∈ osT n (fact n) ↔ isO n o = true := by
  unfold osT
  rw [List.mem_map]
  constructor
  · rintro ⟨t, ht, rfl⟩
    exact ord_isO (List.mem_range.1 ht)
  · intro h
    obtain ⟨h1, h2⟩ := ord_num h
    exact ⟨num o, List.mem_range.2 h2, h1⟩
theorem os_nd (n : Nat) : (osT n (fact n)).Nodup := by
  unfold osT List.Nodup
  rw [List.pairwise_map]
  have h : (List.range (fact n)).Pairwise (fun a b => a ∈ List.range (fact n) ∧ b ∈ List.range (fact n) ∧ a < b) := by
    rw [List.pairwise_iff_getElem]
    intro i j hi hj hij
    exact ⟨List.getElem_mem hi, List.getElem_mem hj, by simpa using hij⟩
  refine h.imp ?_
  rintro a b ⟨ha, hb, hlt⟩ he
  have h1 := num_ord (List.mem_range.1 ha)
  have h2 := num_ord (List.mem_range.1 hb)
  rw [he, h2] at h1
  omega
/-- a map of the orders that can be undone leaves counts as they are -/
theorem os_map {n : Nat} {f : List Int → List Int} (hf : ∀ o, isO n o = true → isO n (f o) = true) (hi : ∀ o o', isO n o = true → isO n o' = true → f o = f o' → o = o') (p : List Int → Bool) : (osT n (fact n)).countP (fun o => p (f o)) = (osT n (fact n)).countP p := by
  have hn : ((osT n (fact n)).map f).Nodup := by
    unfold List.Nodup
    rw [List.pairwise_map]
    have h : (osT n (fact n)).Pairwise (fun a b => a ∈ osT n (fact n) ∧ b ∈ osT n (fact n) ∧ a ≠ b) := by
      rw [List.pairwise_iff_getElem]
      intro i j hi hj hij
      exact ⟨List.getElem_mem hi, List.getElem_mem hj, List.pairwise_iff_getElem.1 (os_nd n) i j hi hj hij⟩
    refine h.imp ?_
    rintro a b ⟨ha, hb, hne⟩ he
    exact hne (hi a b (os_mem.1 ha) (os_mem.1 hb) he)
  have hp : ((osT n (fact n)).map f).Perm (osT n (fact n)) := perm_of_sub hn (fun o ho => by
    obtain ⟨o', ho', rfl⟩ := List.mem_map.1 ho
    exact os_mem.2 (hf o' (os_mem.1 ho'))) (by rw [List.length_map]; exact Nat.le_refl _)
  have := hp.countP_eq p
  rw [List.countP_map] at this
  exact this
end Go.Proofs.YtfjbioghpgmkiaaGreatDoor
/- sortesref01.Made; the law PlacesOrders returns true; conditions: the bytes lie in memory. -/
namespace Go.Proofs.YtfjbioghpgmkiaaGreatDoor
open Go.Eng Go.Dig

theorem NS.mk {z : List Nat} (hb : Bd 256 z) (hl : z.length ≤ 100000) : NS (bs z) (val 256 z.reverse) := ⟨z, rfl, hb, hl, rfl⟩
theorem val_fit {z : List Nat} (hb : Bd 256 z) (hl : z.length ≤ 40) : Fit (val 256 z.reverse) := by
  have h := val_lt (Bd.rev hb)
  rw [List.length_reverse] at h
  refine Fit.of (k := 8 * z.length) ?_ (by omega)
  rw [Nat.pow_mul]
  exact h
theorem bs_cons0 (z : List Nat) : (⟨#[0]⟩ : ByteArray) ++ bs z = bs (0 :: z) := by
  apply ByteArray.ext
  unfold bs
  simp
theorem val_zero (z : List Nat) : val 256 (0 :: z).reverse = val 256 z.reverse := by
  rw [List.reverse_cons, val_append]
  simp [val]
theorem Bd.mem {z : List Nat} {k : Nat} (h : Bd 256 z) : Bd 256 (z.take k) := fun d hd => h d (List.mem_of_mem_take hd)
theorem d8s {x : Nat} (h : Fit x) : (digs 256 x).length ≤ 4000 := by
  obtain ⟨k, h1, h2⟩ := h
  exact Nat.le_trans (len_of_lt (by decide) (Nat.lt_of_lt_of_le h2 (Nat.pow_le_pow_left (by decide) k))) h1
theorem sl61 : Tryz.prog.underlying 61 = some (.slice 5) ∧ TSize Tryz.prog 5 1 := slTy_ok rfl
theorem pf_bts_e {n : FrK} {F : Fr} {w : World} {d : Option Tmp} {ty : TypeId} {pos : String} {aft : Array Edge} {g : Option (Nat × Bool)} {x : Operand} {t t' c : Nat} {a : Addr} (ht : slTy t = some (5, 1)) (ht' : strTy t' = true) (hx : ev n F x = .slice (some a) 0 c) : PV Tryz.prog n w F ⟨d, .convert t t' x, ty, pos, aft, g⟩ (.string (bs [])) := by
  have h1 : (loadCells a 0).run Tryz.prog w = .ok (([] : List Int).map (Value.int .u8)).toArray w := by simp [loadCells, loadCellsFrom]
  have h2 := run_bytesToString (P := Tryz.prog) w a 0 c [] h1
  have ht1 := (slTy_ok ht).1
  have ht2 := strTy_ok ht'
  have h5 : Tryz.prog.underlying 5 = some (.int .u8) := intTy_ok rfl
  simp only [PV, execOp, convert, hx, Sem.run_bind, run_und ht1, run_und ht2, Result.andThen_ok, run_und h5, h2]
  rfl
theorem pf_bts_n {n : FrK} {F : Fr} {w : World} {d : Option Tmp} {ty : TypeId} {pos : String} {aft : Array Edge} {g : Option (Nat × Bool)} {x : Operand} {t t' c : Nat} (ht : slTy t = some (5, 1)) (ht' : strTy t' = true) (hx : ev n F x = .slice none 0 c) : PV Tryz.prog n w F ⟨d, .convert t t' x, ty, pos, aft, g⟩ (.string (bs [])) := by
  have ht1 := (slTy_ok ht).1
  have ht2 := strTy_ok ht'
  have h5 : Tryz.prog.underlying 5 = some (.int .u8) := intTy_ok rfl
  simp [PV, execOp, convert, hx, run_und ht1, run_und ht2, run_und h5, Conv.bytesToString]
  rfl
theorem Hp.keep {w0 w w' : World} {M : List Nat} {L : List Ent} (h : Hp w0 M w L) (hk : Keeps [] w w') : Hp w0 M w' L := h.call hk

attribute [local irreducible] PV StepF wpl wpd WP Ret
attribute [local irreducible] Fit srt tl fl seenL stO isO trn fact ordN rfO num NS val

theorem p27 (z : List Nat) (s : Option Addr) (c : Nat) (w : World) (hs : SlAt w 1 eB s z) (hl : z.length ≤ 40) (hc : z.length ≤ c) : Ret Tryz.prog 27 [.slice s z.length c] w (fun v w' => v = .string (bs z) ∧ Keeps [] w w') := by
  refine Ret.of_WP Tryz.func27 rfl Tryz.ntmps27 rfl ?_
  have hp := Hp.start (M := []) (w := w)
  (repeat (with_reducible first | apply WP_seq | apply WP_region))
  (apply wlp; apply pv_assign; exact fT rfl)
  (repeat (with_reducible first | apply WP_seq | apply WP_region | apply wpl_nil | apply thenQ_n))
  (apply wlp; apply pv_move; exact fS rfl)
  (apply wlp; apply pv_move; exact fS rfl)
  (apply wlp; ((apply pf_len; exact rfl) <;> exact rfl); exact fI rfl)
  (apply wlp; exact pv_min rfl rfl; exact int_eq (b := (z.length : Int)) (by omega))
  (apply wlp; exact pv_sliceHi sl61.1 sl61.2 rfl rfl hc; exact fS rfl)
  by_cases h0 : z = []
  · subst h0
    cases s with
    | none =>
      (apply wlp; exact pf_bts_n rfl rfl rfl; exact fT rfl)
      (repeat (first | (with_reducible first | apply wpl_nil | apply thenQ_n | apply WP_ret) | (apply wlp; apply pv_assign; exact fT rfl)))
      exact ret_tmp rfl rfl ⟨_, rfl, rfl, hp.keeps⟩
    | some a =>
      (apply wlp; exact pf_bts_e rfl rfl rfl; exact fT rfl)
      (repeat (first | (with_reducible first | apply wpl_nil | apply thenQ_n | apply WP_ret) | (apply wlp; apply pv_assign; exact fT rfl)))
      exact ret_tmp rfl rfl ⟨_, rfl, rfl, hp.keeps⟩
  · obtain ⟨b0, o0, rfl, hc0⟩ := hs.base (List.length_pos_iff.2 h0)
    have hcell : ∀ (j : Nat) (v : Value), ((z.map fun (d : Nat) => (d : Int)).map (Value.int .u8))[j]? = some v → w.cell? ⟨b0, o0 + j, none⟩ = some v := by
      intro j v hv
      simp only [List.map_map, List.getElem?_map, Option.map_eq_some_iff] at hv
      obtain ⟨q, hq, rfl⟩ := hv
      have := hc0 j q hq 0 _ rfl
      simpa using this
    (apply wlp; exact pf_bts (ns := z.map fun (d : Nat) => (d : Int)) (e := 5) rfl rfl rfl rfl (by simp) hcell; exact congrArg Value.string (bytesOf_bs z))
    (repeat (first | (with_reducible first | apply wpl_nil | apply thenQ_n | apply WP_ret) | (apply wlp; apply pv_assign; exact fT rfl)))
    exact ret_tmp rfl rfl ⟨_, rfl, rfl, hp.keeps⟩

set_option maxHeartbeats 4000000 in
theorem c8 (m0 : Nat) (z : List Nat) (other : Int) (s : Option Addr) (c : Nat) (w : World) (hs : SlAt w 1 eB s z) (hb : Bd 256 z) (hc : z.length ≤ c) (hz : z.length ≤ 9223372036854775806) :
    Ret Tryz.prog 8 [.int .u8 (m0 : Int), .slice s z.length c, .int .i64 other] w (fun v w' => v = .bool true ∧ Keeps [] w w') := by
  have hm := Nat.mod_lt m0 (show 42 > 0 by decide)
  have hzt : (z.take 30).length ≤ 30 := by rw [List.length_take]; omega
  refine Ret.of_WP Tryz.func8 rfl Tryz.ntmps8 rfl ?_
  have hp := Hp.start (M := []) (w := w)
  (repeat (first | (with_reducible first | apply WP_seq | apply WP_region | apply wpl_nil | apply thenQ_n) | (apply wlp; apply pv_assign; exact fB rfl)))
  (apply wls; exact st_call rfl ent11 rfl (p11 _))
  rintro _ w1 ⟨rfl, hk⟩
  have hp := hp.call hk
  skip
  (apply wlp; apply pv_assign; exact fB rfl)
  (repeat (with_reducible first | apply WP_seq | apply WP_region | apply wpl_nil | apply thenQ_n))
  (apply wlp; apply pv_move; exact fI rfl)
  (apply wlp; exact pv_rem rfl rfl (by decide); exact int_eq (b := ((m0 % 42 : Nat) : Int)) (int_rem m0 42))
  (apply wlp; exact pf_conv rfl rfl rfl; exact int_eq (i64_in (by omega) (by omega)))
  generalize m0 % 42 = m at hm
  (apply wlp; apply pv_assign; exact fI rfl)
  (repeat (with_reducible first | apply WP_seq | apply WP_region | apply wpl_nil | apply thenQ_n))
  (apply wlp; apply pv_move; exact fS rfl)
  (apply wlp; apply pv_move; exact fS rfl)
  (apply wlp; ((apply pf_len; exact rfl) <;> exact rfl); exact fI rfl)
  (apply wlp; exact pv_min rfl rfl; exact int_eq (b := ((z.take 30).length : Int)) (by rw [List.length_take]; omega))
  (apply wlp; exact pv_sliceHi sl61.1 sl61.2 rfl rfl (by rw [List.length_take]; omega); exact fS rfl)
  (apply wls; exact st_call rfl ent27 rfl (p27 (z.take 30) s c _ (SlAt_take (hs.keep0 hp.keeps) 30) (by omega) (by rw [List.length_take]; omega)))
  rintro _ w2 ⟨rfl, hk⟩
  have hp := hp.call hk
  have hbt := Bd.mem (k := 30) hb
  have hnx := NS.mk hbt (by omega)
  have hfx := val_fit hbt (by omega)
  generalize val 256 (z.take 30).reverse = X at hnx hfx
  generalize bs (z.take 30) = SX at hnx
  (repeat (first | (with_reducible first | apply WP_seq | apply WP_region | apply wpl_nil | apply thenQ_n) | (apply wlp; (first | apply pv_move | apply pv_assign); (first | exact fI rfl | exact fT rfl))))
  (apply wls; exact st_call rfl ent26 rfl (p26 m _ (by omega)))
  rintro _ w3 ⟨rfl, hk⟩
  have hp := hp.call hk
  have hff := fact_fit (n := m) (by omega)
  have hfp := fact_pos m
  (apply wls; exact st_call rfl ent28 rfl (c92S SX X (fact m) _ hnx hfx hff hfp))
  rintro _ w4 ⟨rfl, hk⟩
  have hp := hp.call hk
  generalize hR : X % fact m = R
  have hfr : Fit R := by rw [← hR]; exact hfx.mod
  (repeat (first | (with_reducible first | apply WP_seq | apply WP_region | apply wpl_nil | apply thenQ_n) | (apply wlp; ((first | apply pv_move | apply pv_assign | apply pv_extract) <;> exact rfl); (first | exact fI rfl | exact fB rfl | exact fT rfl | exact fU rfl))))
  (apply wls; exact st_call rfl ent26 rfl (p26 m _ (by omega)))
  rintro _ w5 ⟨rfl, hk⟩
  have hp := hp.call hk
  have hrd : Bd 256 (digs 256 R).reverse := Bd.rev (digs_bd (b := 256) (by decide) R)
  have hrl : (digs 256 R).reverse.length ≤ 99999 := by rw [List.length_reverse]; exact Nat.le_trans (d8s hfr) (by decide)
  have hs0 : NS (bs (0 :: (digs 256 R).reverse)) R := by
    have h := NS.mk (z := 0 :: (digs 256 R).reverse) (Bd.cons (by decide) hrd) (by rw [List.length_cons]; omega)
    rw [val_zero, List.reverse_reverse, digs_val (by decide)] at h
    exact h
  (repeat (apply wlp; apply pv_move; exact fT rfl))
  (apply wlp; exact pv_sadd rfl rfl (by rw [ofN_size]; have := hfr.d8; show 1 + _ ≤ _; omega); exact congrArg Value.string (show _ = bs (0 :: (digs 256 R).reverse) from by rw [ofN_bs]; exact bs_cons0 _))
  (apply wls; exact sf_slice hp rfl rfl rfl rfl rfl rfl rfl; rintro _ w6 ⟨yb, rfl, hp⟩)
  obtain ⟨Ys, hYs⟩ : ∃ Ys, Ys = [SX, ofN R, ofN (fact m), bs (0 :: (digs 256 R).reverse)] := ⟨_, rfl⟩
  have hYl : Ys.length = 4 := by rw [hYs]; rfl
  have hY : ∀ y ∈ Ys, ∃ x, NS y x ∧ Fit x := by
    intro y hy
    rw [hYs] at hy
    simp only [List.mem_cons, List.mem_nil_iff, or_false] at hy
    rcases hy with rfl | rfl | rfl | rfl
    · exact ⟨X, hnx, hfx⟩
    · exact ⟨R, NS.self hfr, hfr⟩
    · exact ⟨fact m, NS.self hff, hff⟩
    · exact ⟨R, hs0, hfr⟩
  have hp : Hp w [] w6 [blk yb (Ys.flatMap eS).length (frOf (Ys.flatMap eS)) 53] := by
    rw [hYs]
    exact hp
  clear hYs
  (repeat (first | (with_reducible first | apply WP_block | apply wpl_nil | apply thenQ_n) | (apply wlp; ((first | apply pv_move | (apply pf_len; exact rfl)) <;> exact rfl); exact fI rfl)))
  refine WP_loopS [6, 14, 16, 17, 18, 19, 20, 21, 22, 49, 50, 51, 52, 53, 54, 55, 56, 57, 58, 59, 60, 61, 62, 63, 64, 65, 66, 67, 68, 69, 70, 71, 72, 73, 74, 75, 76, 77, 78, 79, 80, 81, 82, 83, 84, 85, 86, 87, 88, 89, 90, 91, 92, 93, 94, 95, 96, 97] (fun (i : Nat) F => F.put 49 (.int .i64 (i : Int))) (fun i w' => i ≤ 4 ∧ Hp w [] w' [blk yb (Ys.flatMap eS).length (frOf (Ys.flatMap eS)) 53]) (fun i => 4 - i) 0 (put_self (Same.eq .refl) rfl) ⟨Nat.zero_le _, hp⟩ ?_
  (repeat clear hp)
  rintro u i w7 ⟨hi, hp⟩
  (repeat (first | (with_reducible first | apply WP_seq | apply WP_region | apply wpl_nil | apply thenQ_n) | (apply wlp; (apply pv_lss <;> exact rfl); exact fB rfl)))
  refine WP_cond_d rfl (fun h => ?_) (fun h => ?_)
  · have hlt : i < 4 := by omega
    have hltY : i < Ys.length := by omega
    obtain ⟨b1, o1, hs1, hc1⟩ := (blk_SlAt Ys hp 0 rfl (fun _ => rfl)).base (by omega)
    have hci := hc1 i _ (List.getElem?_eq_getElem hltY) 0 _ rfl
    obtain ⟨x, hnx, hfx⟩ := hY Ys[i] (List.getElem_mem hltY)
    generalize Ys[i] = st at hci hnx
    cases hs1
    have hci : w7.cell? ⟨yb, 0 + i * 1, none⟩ = some (.string st) := hci
    (repeat (first | (with_reducible first | apply WP_seq | apply WP_block | apply WP_region | apply wpl_nil | apply thenQ_n | apply WP_skip) | (apply wlp; ((first | apply pv_move | apply pv_assign | (apply pf_load; exact rfl) | (apply pf_index; exact rfl)) <;> (first | exact rfl | assumption)); (first | exact fI rfl | exact fP rfl | exact fT rfl))))
    (apply wls; exact sf_slice hp rfl rfl rfl rfl rfl rfl rfl; rintro _ w8 ⟨kb, rfl, hp⟩)
    have hp : Hp w [] w8 [blk kb ([(m : Int), other].flatMap eI).length (frOf ([(m : Int), other].flatMap eI)) 3, blk yb (Ys.flatMap eS).length (frOf (Ys.flatMap eS)) 53] := hp
    (repeat (first | (with_reducible first | apply WP_block | apply wpl_nil | apply thenQ_n) | (apply wlp; ((first | apply pv_move | (apply pf_len; exact rfl)) <;> exact rfl); exact fI rfl)))
    refine WP_loopS [6, 16, 17, 18, 19, 20, 21, 22, 57, 58, 59, 60, 61, 62, 63, 64, 65, 66, 67, 68, 69, 70, 71, 72, 73, 74, 75, 76, 77, 78, 79, 80, 81, 82, 83, 84, 85, 86, 87, 88, 89, 90, 91, 92, 93, 94, 95, 96] (fun (j : Nat) F => F.put 57 (.int .i64 (j : Int))) (fun j w' => j ≤ 2 ∧ Hp w [] w' [blk kb ([(m : Int), other].flatMap eI).length (frOf ([(m : Int), other].flatMap eI)) 3, blk yb (Ys.flatMap eS).length (frOf (Ys.flatMap eS)) 53]) (fun j => 2 - j) 0 (put_self (Same.eq .refl) rfl) ⟨Nat.zero_le _, hp⟩ ?_
    (repeat clear hp)
    rintro u2 j w9 ⟨hj, hp⟩
    (repeat (first | (with_reducible first | apply WP_seq | apply WP_region | apply wpl_nil | apply thenQ_n) | (apply wlp; (apply pv_lss <;> exact rfl); exact fB rfl)))
    refine WP_cond_d rfl (fun h2 => ?_) (fun h2 => ?_)
    · have hj2 : j < 2 := by omega
      have hjl : j < [(m : Int), other].length := hj2
      obtain ⟨b2, o2, hs2, hc2⟩ := (blk_SlAt [(m : Int), other] hp 0 rfl (fun _ => rfl)).base (Nat.lt_of_le_of_lt (Nat.zero_le _) hjl)
      have hcj := hc2 j _ (List.getElem?_eq_getElem hjl) 0 _ rfl
      generalize [(m : Int), other][j] = k at hcj
      cases hs2
      have hcj : w9.cell? ⟨kb, 0 + j * 1, none⟩ = some (.int .i64 k) := hcj
      (repeat (first | (with_reducible first | apply WP_seq | apply WP_block | apply WP_region | apply wpl_nil | apply thenQ_n | apply WP_skip) | (apply wlp; ((first | apply pv_move | apply pv_assign | (apply pf_load; exact rfl) | (apply pf_index; exact rfl)) <;> (first | exact rfl | assumption)); (first | exact fI rfl | exact fP rfl | exact fT rfl))))
      by_cases hk : k < 0 ∨ 40 < k ∨ fact k.toNat ≤ x
      · (apply wls; exact st_call rfl ent22 rfl (p22f k st x _ hnx hk))
        rintro _ w10 ⟨rfl, hk1⟩
        have hp := hp.call hk1
        (repeat (first | (with_reducible first | apply WP_seq | apply WP_region | apply wpl_nil | apply thenQ_n) | (apply wlp; ((first | apply pv_move | apply pv_assign | apply pv_extract) <;> exact rfl); (first | exact fI rfl | exact fB rfl | exact fS rfl | exact fT rfl | exact fU rfl))))
        (apply wls; exact st_call rfl ent29 rfl (p29f k st x _ hnx hk))
        rintro _ w11 ⟨rfl, hk2⟩
        have hp := hp.call hk2
        skip
        (apply wlp; apply pv_move; exact fU rfl)
        (apply wlp; (apply pv_extract <;> exact rfl); exact fS rfl)
        (apply wlp; (apply pv_extract <;> exact rfl); exact fB rfl)
        (apply wlp; apply pv_assign; exact fS rfl)
        (apply wlp; apply pv_assign; exact fB rfl)
        (repeat (with_reducible first | apply WP_seq | apply WP_region | apply wpl_nil | apply thenQ_n))
        (apply wlp; apply pv_move; exact fB rfl)
        (apply wlp; apply pv_move; exact fB rfl)
        (apply wlp; exact pv_bneq Tryz.underlying4 rfl rfl; exact bool_eq (b := false) rfl)
        (apply wlp; apply pv_move; exact fB rfl)
        ((apply wlpT; exact rfl; exact rfl); (apply pv_move); (intros; exact fS rfl))
        ((apply wlpT; exact rfl; exact rfl); (apply pv_move); (intros; exact fS rfl))
        (apply wlsT; exact rfl; exact rfl; exact st_call rfl ent24 rfl (p24 [] [] none none 0 0 _ SlAt_nil SlAt_nil (by decide) (by decide)); rintro _ w12 ⟨hv, hk3⟩; obtain rfl := hv.trans (bool_eq (b := true) (decide_eq_true rfl)); have hp := hp.call hk3)
        ((apply wlpT; exact rfl; exact rfl); ((apply pv_not <;> exact rfl)); (intros; exact fB rfl))
        (apply wlp; exact pv_orF rfl rfl; exact fB rfl)
        (repeat (with_reducible first | apply wpl_nil | apply thenQ_n))
        refine WP_cond_f rfl ?_
        (repeat (first | (with_reducible first | apply WP_seq | apply WP_region | apply wpl_nil | apply thenQ_n | apply WP_skip) | (apply wlp; apply pv_move; exact fB rfl)))
        refine WP_cond_f rfl ?_
        (repeat (with_reducible first | apply WP_region | apply thenQ_n | apply inBlk_n | apply WP_skip))
        (apply wlp; (exact pv_add rfl rfl); exact int_eq (b := ((j + 1 : Nat) : Int)) (by rw [i64_in (by omega) (by omega)]; omega))
        (repeat (first | (with_reducible first | apply wpl_nil | apply thenQ_n) | (apply wlp; apply pv_move; exact fI rfl)))
        exact ⟨j + 1, put_self (Same.eq (by repeat (first | exact Same.hav | exact Same.refl | refine Same.put rfl ?_ | refine Same.havs rfl ?_))) rfl, ⟨by omega, hp⟩, by omega⟩
      · obtain ⟨N, rfl⟩ : ∃ N : Nat, k = N := ⟨k.toNat, by omega⟩
        rw [Int.toNat_natCast] at hk
        have hN : N ≤ 40 := by omega
        have hxN : x < fact N := by omega
        have hon := ordN_len N x
        have hno := num_ord hxN
        have hio := ord_isO hxN
        have horf := ord_rf N x hxN
        (apply wls; exact st_call rfl ent22 rfl (p22t N st x _ hnx hfx hN hxN))
        rintro _ w10 ⟨sa, ca, rfl, hva, hpo⟩
        have hp := hp.join hpo
        clear hpo
        (repeat (first | (with_reducible first | apply WP_seq | apply WP_region | apply wpl_nil | apply thenQ_n) | (apply wlp; ((first | apply pv_move | apply pv_assign | apply pv_extract) <;> exact rfl); (first | exact fI rfl | exact fB rfl | exact fS rfl | exact fT rfl | exact fU rfl))))
        (apply wls; exact st_call rfl ent29 rfl (p29t N st x _ hnx hfx hN hxN))
        rintro _ w11 ⟨sb, cb, rfl, hvb, hpo⟩
        have hp := hp.join hpo
        clear hpo
        rw [← horf] at hvb hp ⊢
        generalize ordN N x = o at hva hvb hp hon hno hio
        skip
        (apply wlp; apply pv_move; exact fU rfl)
        (apply wlp; (apply pv_extract <;> exact rfl); exact fS rfl)
        (apply wlp; (apply pv_extract <;> exact rfl); exact fB rfl)
        (apply wlp; apply pv_assign; exact fS rfl)
        (apply wlp; apply pv_assign; exact fB rfl)
        (repeat (with_reducible first | apply WP_seq | apply WP_region | apply wpl_nil | apply thenQ_n))
        (apply wlp; apply pv_move; exact fB rfl)
        (apply wlp; apply pv_move; exact fB rfl)
        (apply wlp; exact pv_bneq Tryz.underlying4 rfl rfl; exact bool_eq (b := false) rfl)
        (apply wlp; apply pv_move; exact fB rfl)
        ((apply wlpT; exact rfl; exact rfl); (apply pv_move); (intros; exact fS rfl))
        ((apply wlpT; exact rfl; exact rfl); (apply pv_move); (intros; exact fS rfl))
        (apply wlsT; exact rfl; exact rfl; exact st_call rfl ent24 rfl (p24 o o sa sb ca cb _ (ownL_At hp 1 rfl hva (fun _ => rfl)) (ownL_At hp 0 rfl hvb (fun _ => rfl)) (by omega) (by omega)); rintro _ w12 ⟨hv, hk3⟩; obtain rfl := hv.trans (bool_eq (b := true) (decide_eq_true rfl)); have hp := hp.call hk3)
        ((apply wlpT; exact rfl; exact rfl); ((apply pv_not <;> exact rfl)); (intros; exact fB rfl))
        (apply wlp; exact pv_orF rfl rfl; exact fB rfl)
        (repeat (with_reducible first | apply wpl_nil | apply thenQ_n))
        refine WP_cond_f rfl ?_
        (repeat (first | (with_reducible first | apply WP_seq | apply WP_region | apply wpl_nil | apply thenQ_n | apply WP_skip) | (apply wlp; apply pv_move; exact fB rfl)))
        refine WP_cond_t rfl ?_
        (repeat (first | (with_reducible first | apply WP_seq | apply WP_region) | (apply wlp; apply pv_move; exact fS rfl)))
        (apply wls; exact st_call rfl ent21 rfl (p21t o sa ca _ (ownL_At hp 1 rfl hva (fun _ => rfl)) (by omega) hva.cap (by rw [hon]; exact hio)))
        rintro _ w13 ⟨rfl, hk4⟩
        have hp := hp.call hk4
        rw [hno]
        skip
        (apply wlp; apply pv_move; exact fU rfl)
        (apply wlp; (apply pv_extract <;> exact rfl); exact fT rfl)
        (apply wlp; (apply pv_extract <;> exact rfl); exact fB rfl)
        (apply wlp; apply pv_assign; exact fT rfl)
        (apply wlp; apply pv_assign; exact fB rfl)
        (repeat (with_reducible first | apply WP_seq | apply WP_region | apply wpl_nil | apply thenQ_n))
        (apply wlp; apply pv_move; exact fB rfl)
        (apply wlp; (apply pv_not <;> exact rfl); exact fB rfl)
        (apply wlp; apply pv_move; exact fB rfl)
        ((apply wlpT; exact rfl; exact rfl); (apply pv_move); (intros; exact fT rfl))
        ((apply wlpT; exact rfl; exact rfl); (apply pv_move); (intros; exact fT rfl))
        (apply wlsT; exact rfl; exact rfl; exact st_call rfl ent25 rfl (c50S (ofN x) st x x _ (NS.self hfx) hnx); rintro _ w14 ⟨hv, hk5⟩; obtain rfl := hv.trans (int_eq (b := 0) (by rw [if_neg (by omega), if_pos rfl])); have hp := hp.call hk5)
        (apply wlpT; exact rfl; exact rfl; (exact pv_neq rfl rfl); exact bool_eq (b := false) (ndf (by omega)))
        (apply wlp; exact pv_orF rfl rfl; exact fB rfl)
        (repeat (with_reducible first | apply wpl_nil | apply thenQ_n))
        refine WP_cond_f rfl ?_
        (repeat (with_reducible first | apply WP_region | apply thenQ_n | apply inBlk_n | apply WP_skip))
        (apply wlp; (exact pv_add rfl rfl); exact int_eq (b := ((j + 1 : Nat) : Int)) (by rw [i64_in (by omega) (by omega)]; omega))
        (repeat (first | (with_reducible first | apply wpl_nil | apply thenQ_n) | (apply wlp; apply pv_move; exact fI rfl)))
        exact ⟨j + 1, put_self (Same.eq (by repeat (first | exact Same.hav | exact Same.refl | refine Same.put rfl ?_ | refine Same.havs rfl ?_))) rfl, ⟨by omega, hp.tail.tail⟩, by omega⟩
    · (repeat (first | (with_reducible first | apply WP_region | apply thenQ_n | apply inBlk_n | apply thenQ_exit | apply WP_exit) | ((with_reducible apply inBlk_same); exact rfl)))
      (apply wlp; (exact pv_add rfl rfl); exact int_eq (b := ((i + 1 : Nat) : Int)) (by rw [i64_in (by omega) (by omega)]; omega))
      (repeat (first | (with_reducible first | apply wpl_nil | apply thenQ_n) | (apply wlp; apply pv_move; exact fI rfl)))
      exact ⟨i + 1, put_self (Same.eq (by repeat (first | exact Same.hav | exact Same.refl | refine Same.put rfl ?_ | refine Same.havs rfl ?_))) rfl, ⟨by omega, hp.tail⟩, by omega⟩
  · (repeat (first | (with_reducible first | apply WP_seq | apply WP_region | apply wpl_nil | apply thenQ_n | apply thenQ_exit | apply WP_ret | apply WP_exit) | ((with_reducible apply inBlk_same); exact rfl) | (apply wlp; (first | apply pv_move | apply pv_assign); exact fB rfl)))
    exact ret_tmp rfl rfl ⟨_, rfl, rfl, hp.keeps⟩
end Go.Proofs.YtfjbioghpgmkiaaGreatDoor
/- An append onto a slice that is full, a slice with its bound, and how they are read; conditions are the hypotheses of each law. -/
namespace Go.Proofs.YtfjbioghpgmkiaaGreatDoor
open Go.Eng Go.Dig

section
variable {n : FrK} {w w0 : World} {M : List Nat} {L : List Ent} {F : Fr} {d : Option Tmp} {ty : TypeId} {pos : String} {aft : Array Edge} {g : Option (Nat × Bool)} {x y : Operand}
theorem sf_appFull {α : Type} (enc : α → List Value) (l : List α) (xv : α) {t e k by_ b : Nat} {z : Value} {s : Option Addr} (hp : Hp w0 M w L) (j : Nat) (ht : slTy t = some (e, k)) (hby : byteTy e = some by_) (hz : zeroTy e = some z)
    (hzs : z.cells.size = k) (_hpos : Nat.blt 0 k = true) (hb : Nat.ble by_ 1000 = true) (hk : ∀ x, (enc x).length = k) (hx : ev n F x = .slice s l.length l.length) (hy : ev n F y = .slice (some ⟨b, 0, none⟩) 1 1)
    (hs : SlAt w k enc s l) (hsn : s = none → l = []) (hs0 : ∀ a, s = some a → a.spot = none) (hj : L[j]? = some (blk b (enc xv).length (frOf (enc xv)) e)) (hlen : l.length < 1000000) :
    StepF Tryz.prog n ⟨d, .call ⟨.builtin .append, #[x, y], #[t, t]⟩, ty, pos, aft, g⟩ F w
      (fun u w' => ∃ gb c', u = .slice (some ⟨gb, 0, none⟩) (l ++ [xv]).length c' ∧ SVL (some ⟨gb, 0, none⟩) c' (l ++ [xv]) ∧ Hp w0 M w' (ownL enc e k (some ⟨gb, 0, none⟩) c' (l ++ [xv]) :: L)) := by
  have htu := (slTy_ok ht).1
  have hts := (slTy_ok ht).2
  obtain ⟨inf, hinf, hib⟩ := (byteTy_ok hby).ex
  have his : inf.size = k := by
    unfold TSize at hts
    simpa [hinf] using hts
  have hiz : inf.zero = some z := by
    have := zeroTy_ok hz
    unfold TZero at this
    simpa [hinf] using this
  have hb' := Nat.le_of_ble_eq_true hb
  have hbb : (l.length + 1) * inf.bytes ≤ 140737488355328 := by
    rw [hib]
    have : (l.length + 1) * by_ ≤ 1000000 * 1000 := Nat.mul_le_mul (by omega) hb'
    omega
  have hnl : (enc xv).length = 1 * inf.size := by rw [hk, his, Nat.one_mul]
  have hnews : ∀ q v, (enc xv)[q]? = some v → w.cell? ((⟨b, 0, none⟩ : Addr).add q) = some v := by
    intro q v hv
    obtain ⟨b', o', e1, e2⟩ := blk_src hp j hj q v hv
    cases e1
    rw [addr_add]
    exact e2
  have hlo : (l.flatMap enc).length = l.length * inf.size := by rw [flatMap_len enc k hk l, his]
  obtain ⟨cap, hcap⟩ : ∃ cap, cap = grownCap w (l.length + 1) l.length e := ⟨_, rfl⟩
  have hge : l.length + 1 ≤ cap := by rw [hcap]; exact grownCap_ge w (l.length + 1) l.length e
  have hcm : cap ≤ maxLen := by rw [hcap]; exact grownCap_le_maxLen w (l.length + 1) l.length e (by unfold maxLen; omega)
  have hll : (l ++ [xv]).length = l.length + 1 := by simp
  have hrun : (Builtin.append_ #[t, t] ty #[.slice s l.length l.length, .slice (some ⟨b, 0, none⟩) 1 1]).run Tryz.prog w =
      .ok (.slice (some ⟨w.heap.size, 0, none⟩) (l.length + 1) cap) (w.drew.alloc (.cells ((l.flatMap enc).toArray ++ (enc xv).toArray ++ Builtin.zeroCells z.cells (cap - (l.length + 1))) e)) := by
    cases s with
    | none =>
      have := hsn rfl
      subst this
      have := run_append_nil (P := Tryz.prog) w t ty e inf z htu hinf hiz ⟨b, 0, none⟩ 1 1 (enc xv) hnl hnews (by decide) (by decide) (by simp at hbb; omega)
      simpa [hcap] using this
    | some a =>
      have holds : ∀ q v, (l.flatMap enc)[q]? = some v → w.cell? (a.add q) = some v := by
        intro q v hv
        obtain ⟨b', o', e1, e2⟩ := hs.src hk q v hv
        cases e1
        rw [addr_add]
        exact e2
      rw [hcap]
      exact run_append_grow (P := Tryz.prog) w t ty e inf z htu hinf hiz a l.length l.length (l.flatMap enc) hlo holds ⟨b, 0, none⟩ 1 1 (enc xv) hnl hnews (by omega) (by omega) (growslice_fits (by omega) hbb)
  refine stepF_val (v := .slice (some ⟨w.heap.size, 0, none⟩) (l.length + 1) cap) (w' := w.drew.alloc (.cells ((l.flatMap enc).toArray ++ (enc xv).toArray ++ Builtin.zeroCells z.cells (cap - (l.length + 1))) e)) ?_ ⟨w.heap.size, cap, by rw [hll], .inr ⟨w.heap.size, cap, by rw [hll], by rw [hll]; exact hge, hcm⟩, ?_⟩
  · simp only [execOp, resolve, Sem.run_bind, Sem.run_pure, Result.andThen_ok, invoke, builtin]
    simp [hx, hy, hrun]
  · have h := hp.drew.alloc (.cells ((l.flatMap enc).toArray ++ (enc xv).toArray ++ Builtin.zeroCells z.cells (cap - (l.length + 1))) e) (φ := rowB e k cap (l ++ [xv]).length ((l ++ [xv]).flatMap enc)) ⟨_, rfl, ?_, ?_⟩
    · exact h
    · rw [Array.size_append, Array.size_append, List.size_toArray, List.size_toArray, size_zeroCells, hzs, hlo, hnl, his, ← Nat.add_mul, ← Nat.add_mul, Nat.add_sub_of_le hge]
    · have hfl : (l ++ [xv]).flatMap enc = l.flatMap enc ++ enc xv := by simp
      simp only [Array.toList_append, List.append_assoc]
      rw [← List.append_assoc, hfl]
      have : (l ++ [xv]).length * k = (l.flatMap enc ++ enc xv).length := by
        rw [hll, List.length_append, hlo, hnl, his, ← Nat.add_mul]
      rw [this]
      exact List.take_left
theorem pv_slice3hi {t e k m c h : Nat} {q q' : IntKind} {s : Option Addr} {hi mx : Operand} (ht : Tryz.prog.underlying t = some (.slice e)) (hk : TSize Tryz.prog e k) (hx : ev n F x = .slice s m c) (hh : ev n F hi = .int q h) (hm : ev n F mx = .int q' h) (h1 : h ≤ c) :
    PV Tryz.prog n w F ⟨d, .slice t x none (some hi) (some mx), ty, pos, aft, g⟩ (.slice s h h) := by
  have hb1 := run_bound (P := Tryz.prog) (w := w) (c := .slice3Acap) hm h1
  have hb2 := run_bound (P := Tryz.prog) (w := w) (c := .slice3B) hh (Nat.le_refl h)
  have e1 : (if h = 0 then s else s.map (·.add (0 * k))) = s := by
    split
    · rfl
    · cases s <;> simp [addr_add0]
  simp only [PV, execOp, Instr.sliceAt, Instr.slice, hx, Sem.run_bind, run_und ht, Result.andThen_ok, Instr.sliceBounds, Sem.run_pure, Option.map_none, Option.map_some, hb1, hb2, hk.run, if_true, Nat.sub_zero, e1]
end
end Go.Proofs.YtfjbioghpgmkiaaGreatDoor
/- The law PlacesKeeps returns true; conditions: the plan lies in memory. -/
namespace Go.Proofs.YtfjbioghpgmkiaaGreatDoor
open Go.Eng Go.Dig

theorem eqIn_int {P : Program} {w : World} {t : Nat} {a b : Int} (ht : P.underlying t = some (.int .i64)) (k : Nat) : (Op.equalIn (k + 1) t (.int .i64 a) (.int .i64 b)).run P w = .ok (decide (a = b)) w := by
  unfold Op.equalIn
  simp [run_und ht]
  rfl
theorem eq52 (a a' : ByteArray) (b b' : Int) (w : World) : (Op.equal 52 (.agg #[.string a, .int .i64 b]) (.agg #[.string a', .int .i64 b'])).run Tryz.prog w = .ok (decide (a = a') && decide (b = b')) w := by
  show (Op.equalIn (9998 + 1 + 1) 52 _ _).run Tryz.prog w = _
  have hs : (Program.stoodInHeld Tryz.prog 52) = false := by kernel_rfl
  have h9 := fun (x y : ByteArray) => eqIn_str (P := Tryz.prog) (w := w) (a := x) (b := y) Tryz.underlying9 9998
  have h3 := fun (x y : Int) => eqIn_int (P := Tryz.prog) (w := w) (a := x) (b := y) Tryz.underlying3 9998
  have g9 : (isAgg 9).run Tryz.prog w = .ok false w := by kernel_rfl
  have g3 : (isAgg 3).run Tryz.prog w = .ok false w := by kernel_rfl
  have p0 := fun (x : ByteArray) (y : Int) => partAt g9 #[.string x, .int .i64 y] 0 _ rfl
  have p1 := fun (x : ByteArray) (y : Int) => partAt g3 #[.string x, .int .i64 y] 1 _ rfl
  simp only [Nat.reduceAdd] at h9 h3
  rw [Op.equalIn]
  simp only [Sem.run_bind, run_und Tryz.underlying52, Result.andThen_ok]
  simp [hs, Sem.run_bind, p0, p1, h9, h3]
  by_cases hb : a = a' <;> by_cases hc : b = b' <;> simp [hb, hc]
theorem pv_ne52 {n : FrK} {w : World} {F : Fr} {d : Option Tmp} {ty : TypeId} {pos : String} {aft : Array Edge} {g : Option (Nat × Bool)} {x y : Operand} {t' : Nat} {a a' : ByteArray} {b b' : Int}
    (hx : ev n F x = .agg #[.string a, .int .i64 b]) (hy : ev n F y = .agg #[.string a', .int .i64 b']) : PV Tryz.prog n w F ⟨d, .binOp .neq 52 x y t', ty, pos, aft, g⟩ (.bool (!(decide (a = a') && decide (b = b')))) := by
  have h := eq52 a a' b b' w
  have hg : Program.eqGuardType Tryz.prog Tryz.prog.depth 52 = false := by kernel_rfl
  simp [PV, execOp, hx, hy, eqGuard, hg, binOp, h]
theorem mkP_le {lp : List (Int × Int)} (h : ∀ p ∈ lp, p.2 ≤ 9223372036854775807) : ∀ p ∈ (lp.take 6).map mkP, p.2 ≤ 9223372036854775807 := by
  intro p hp
  obtain ⟨q, hq, rfl⟩ := List.mem_map.1 hp
  exact h q (List.mem_of_mem_take hq)
theorem mkP_len (lp : List (Int × Int)) : ((lp.take 6).map mkP).length ≤ 12 := by
  rw [List.length_map, List.length_take]
  omega
theorem mkE_len {l : List En} {le : List Pe} (h : l.map evE = (le.take 8).mapIdx mkEV) : l.length ≤ 8 := by
  have := congrArg List.length h
  rw [List.length_map, List.length_mapIdx, List.length_take] at this
  omega
theorem svl_none {so : Option Addr} {co : Nat} {o : List Int} (h : SVL so co o) : so = none → o = [] := fun hn => by
  cases o with
  | nil => rfl
  | cons a b => obtain ⟨g, hg⟩ := h.addr (by simp); rw [hg] at hn; cases hn
def chB : ByteArray := ⟨#[99, 104, 97, 110, 103, 101, 100]⟩

attribute [local irreducible] PV StepF wpl wpd WP Ret
attribute [local irreducible] Fit srt tl fl seenL stO isO trn fact ordN rfO num asg nmI

set_option maxHeartbeats 16000000 in
theorem c7 (lp : List (Int × Int)) (le : List Pe) (sp se : Option Addr) (cp ce : Nat) (a : Int) (w : World) (hsp : SlAt w 2 eT2 sp lp) (hse : SlAt w 3 ePe se le) (hsw : ∀ p ∈ le, SlAt w 1 eI p.ws p.wl)
    (hpr : ∀ p ∈ lp, p.2 ≤ 9223372036854775807) (ha : a ≤ 9223372036854775807) :
    Ret Tryz.prog 7 [.agg #[.slice sp lp.length cp, .slice se le.length ce], .int .i64 a] w (fun v w' => v = .bool true ∧ Keeps [] w w') := by
  have hpm := mkP_le hpr
  have hps := mkP_len lp
  refine Ret.of_WP Tryz.func7 rfl Tryz.ntmps7 rfl ?_
  have hp := Hp.start (M := []) (w := w)
  (repeat (with_reducible first | apply WP_seq | apply WP_region))
  (apply wls; exact sbox2 hp rfl; rintro _ w1 ⟨qb, rfl, hp⟩)
  (repeat (first | (with_reducible first | apply WP_seq | apply WP_region | apply wpl_nil | apply thenQ_n) | (apply wlp; apply pv_assign; exact fB rfl)))
  (apply wls; exact st_call rfl ent11 rfl (p11 _))
  rintro _ w2 ⟨rfl, hk⟩
  have hp := hp.call hk
  (repeat (first | (with_reducible first | apply WP_seq | apply WP_region | apply wpl_nil | apply thenQ_n) | (apply wlp; ((first | apply pv_assign | (apply pf_loadb; exact rfl)) <;> (first | exact rfl | exact hp.agg_blk 0 rfl rfl)); (first | exact fB rfl | exact fA2 rfl))))
  (apply wls; exact st_call rfl ent12 rfl (p12 lp le sp se cp ce _ (hsp.keep0 hp.keeps) (hse.keep0 hp.keeps) (fun p hp2 => (hsw p hp2).keep0 hp.keeps)))
  rintro _ w3 ⟨sP, cP, s, c, l, rfl, hP, hE, hec, hev, hlc, hk⟩
  have hp := hp.call hk
  have hk3 := hp.keeps
  have hq : ∀ (j : Nat) (v : Value), [Value.slice sp lp.length cp, .slice se le.length ce][j]? = some v → w3.cell? ⟨qb, 0 + j, none⟩ = some v := hp.cells 0 _ rfl rfl (fun j v hv => by rw [Nat.zero_add, frOf_eq, List.getD_eq_getElem?_getD, hv]; rfl)
  have hl8 := mkE_len hev
  generalize hPS : (lp.take 6).map mkP = ps at hpm hps hP
  clear hp
  have hp := Hp.start (M := []) (w := w3)
  (repeat (apply wlp; ((first | apply pv_move | apply pv_extract) <;> exact rfl); (first | exact fS rfl | exact fA13 rfl | exact fU rfl)))
  (apply wls; exact salloc13 hp (zeroTy_ok rfl); rintro _ w4 ⟨db, rfl, hp⟩)
  (apply wls0; exact sstore13 hp 0 rfl rfl rfl rfl (sizeTy_ok rfl) rfl; rintro _ w5 ⟨rfl, hp⟩)
  have hp := hp.norm 0 (dB xN 2 sP ps.length cP) rfl rfl
  (repeat (first | (with_reducible first | apply WP_seq | apply WP_region | apply wpl_nil | apply thenQ_n) | (apply wlp; ((first | apply pv_assign | (apply pf_loadb; exact rfl)) <;> exact rfl); exact fS rfl)))
  (apply wlp; exact pf_loads (vs := [Value.slice sp lp.length cp, .slice se le.length ce]) rfl rfl rfl rfl (fun j v hv => hp.old0 (hq j v hv)); exact fA2 rfl)
  have hk35 := hk3.trans hp.keeps (by simp)
  (apply wls; exact st_call rfl ent12 rfl (p12 lp le sp se cp ce _ (hsp.keep0 hk35) (hse.keep0 hk35) (fun p hp2 => (hsw p hp2).keep0 hk35)))
  rintro _ w6 ⟨sP2, cP2, s2, c2, l2, rfl, hP2, hE2, hec2, hev2, hlc2, hk⟩
  have hp := hp.call hk
  rw [hPS] at hP2 ⊢
  have hD : ∀ (j : Nat) (v : Value), (dB xN 2 sP ps.length cP)[j]? = some v → w6.cell? ⟨db, 0 + j, none⟩ = some v := hp.cells 0 _ rfl rfl (fun j v hv => by rw [Nat.zero_add, frOf_eq, List.getD_eq_getElem?_getD, hv]; rfl)
  have hP := hP.keep0 hp.keeps
  have hE := hE.keep0 hp.keeps
  have hk6 := hk3.trans hp.keeps (by simp)
  have hll2 : l2.map evE = l.map evE := by rw [hev, hev2]
  clear hp hq hk35 hk3 hsp hse hsw hev hev2 hec2 hlc2 hPS
  have hp := Hp.start (M := []) (w := w6)
  (repeat (apply wlp; ((first | apply pv_move | apply pv_extract) <;> exact rfl); (first | exact fS rfl | exact fA13 rfl | exact fU rfl)))
  (apply wls; exact salloc13 hp (zeroTy_ok rfl); rintro _ w7 ⟨db2, rfl, hp⟩)
  (apply wls0; exact sstore13 hp 0 rfl rfl rfl rfl (sizeTy_ok rfl) rfl; rintro _ w8 ⟨rfl, hp⟩)
  have hp := hp.norm 0 (dB xN 2 sP2 ps.length cP2) rfl rfl
  (repeat (first | (with_reducible first | apply WP_seq | apply WP_region | apply wpl_nil | apply thenQ_n) | (apply wlp; ((first | apply pv_move | apply pv_assign | (apply pf_len; exact rfl)) <;> exact rfl); (first | exact fI rfl | exact fS rfl))))
  (apply wls; exact st_call rfl ent13 rfl (p13 l.length a _ (by omega) ha))
  rintro _ w9 ⟨so, co, rfl, hvo, hpo⟩
  have hp := hp.join hpo
  clear hpo
  have hX := shX_lt l.length a
  rw [← ord_rf l.length _ hX] at hvo hp ⊢
  have hol := ordN_len l.length (shX l.length a)
  have hno := num_ord hX
  have hio := ord_isO hX
  generalize shX l.length a = X at hX hol hno hio hvo hp
  have hfx : Fit X := (fact_fit (n := l.length) (by omega)).le (by omega)
  have hff : Fit (fact l.length) := fact_fit (n := l.length) (by omega)
  obtain ⟨o, ho⟩ : ∃ o, o = ordN l.length X := ⟨_, rfl⟩
  rw [← ho] at hol hno hio hvo hp ⊢
  (repeat (first | (with_reducible first | apply WP_seq | apply WP_region | apply wpl_nil | apply thenQ_n) | (apply wlp; ((first | apply pv_assign | (apply pf_loadb; exact rfl)) <;> exact rfl); exact fS rfl)))
  (apply wlp; exact pf_loads (vs := dB xN 2 sP ps.length cP) rfl rfl rfl rfl (fun j v hv => hp.old0 (hD j v hv)); exact fA13 rfl)
  (repeat (apply wlp; apply pv_move; exact fS rfl))
  (apply wls; exact st_call rfl ent14 rfl (p14 xN ps l o s sP so c cP co _ (hE.keep0 hp.keeps) (hP.keep0 hp.keeps) (ownL_At hp 0 rfl hvo (fun _ => rfl)) (by omega) hps hpm hio (svl_none hvo)))
  rintro _ w10 ⟨ab, rfl, hva, hpo⟩
  have hp := hp.join hpo
  clear hpo
  have hAl := asg_len l ps o
  obtain ⟨A, hA⟩ : ∃ A, A = asg l ps o := ⟨_, rfl⟩
  rw [← hA] at hva hp hAl
  (repeat (first | (with_reducible first | apply WP_seq | apply WP_region | apply wpl_nil | apply thenQ_n) | (apply wlp; ((first | apply pv_move | apply pv_assign | apply pv_extract) <;> exact rfl); (first | exact fB rfl | exact fS rfl | exact fU rfl))))
  (apply wls; exact sf_slice hp rfl rfl rfl rfl rfl rfl rfl; rintro _ w11 ⟨eb, rfl, hp⟩)
  (repeat (apply wlp; apply pv_move; exact fS rfl))
  (apply wls; exact sf_clone eS A hp 0 rfl rfl rfl rfl rfl rfl (fun _ => rfl) rfl (show _ = Value.slice (some ⟨ab, 0, none⟩) A.length l.length by rw [hAl]; rfl) rfl (ownL_At hp 1 rfl hva (fun _ => rfl)) (fun _ => rfl) (by omega); rintro _ w12 ⟨sB, cB, rfl, hvB, hp⟩)
  have hp : Hp w6 [] w12 [ownL eS 9 1 sB cB A, ownL eS 9 1 (some ⟨ab, 0, none⟩) l.length A, ownL eI 3 1 so co o, blk db2 13 (frOf (dB xN 2 sP2 ps.length cP2)) 32] := hp
  (repeat (first | (with_reducible first | apply WP_seq | apply WP_region | apply wpl_nil | apply thenQ_n) | (apply wlp; (first | apply pv_move | apply pv_assign); exact fS rfl)))
  (apply wls; exact st_call rfl ent21 rfl (p21t o so co _ (ownL_At hp 2 rfl hvo (fun _ => rfl)) (by omega) hvo.cap (by rw [hol]; exact hio)))
  rintro _ w13 ⟨rfl, hk⟩
  have hp := hp.call hk
  rw [hno]
  (repeat (first | (with_reducible first | apply WP_seq | apply WP_region | apply wpl_nil | apply thenQ_n) | (apply wlp; ((first | apply pv_move | apply pv_assign | (apply pf_len; exact rfl) | apply pv_extract) <;> exact rfl); (first | exact fI rfl | exact fB rfl | exact fS rfl | exact fT rfl | exact fU rfl))))
  (apply wls; exact st_call rfl ent22 rfl (p22t l.length (ofN X) X _ (NS.self hfx) hfx (by omega) hX))
  rintro _ w14 ⟨sk, ck, rfl, hvk, hpo⟩
  have hp := hp.join hpo
  clear hpo
  rw [← ho] at hvk hp ⊢
  have hp : Hp w6 [] w14 [ownL eI 3 1 sk ck o, ownL eS 9 1 sB cB A, ownL eS 9 1 (some ⟨ab, 0, none⟩) l.length A, ownL eI 3 1 so co o, blk db2 13 (frOf (dB xN 2 sP2 ps.length cP2)) 32] := hp
  (repeat (first | (with_reducible first | apply WP_seq | apply WP_region | apply wpl_nil | apply thenQ_n) | (apply wlp; ((first | apply pv_move | apply pv_assign | (apply pf_loadb; exact rfl) | apply pv_extract) <;> exact rfl); (first | exact fB rfl | exact fS rfl | exact fU rfl))))
  (apply wlp; exact pf_loads (vs := dB xN 2 sP ps.length cP) rfl rfl rfl rfl (fun j v hv => hp.old0 (hD j v hv)); exact fA13 rfl)
  (repeat (apply wlp; apply pv_move; exact fS rfl))
  have h23 := p23 xN ps l o A s sP so (some ⟨ab, 0, none⟩) c cP co l.length w14 (hE.keep0 hp.keeps) hec (hP.keep0 hp.keeps) (ownL_At hp 3 rfl hvo (fun _ => rfl)) (ownL_At hp 2 rfl hva (fun _ => rfl)) (by omega) hps hpm hio (svl_none hvo) hAl
  rw [hAl] at h23
  (apply wls; exact st_call rfl ent23 rfl h23; rintro _ w15 ⟨⟨bs, rfl, _⟩, hk⟩; have hp := hp.call hk; clear h23)
  (repeat (first | (with_reducible first | apply WP_seq | apply WP_block | apply WP_region | apply wpl_nil | apply thenQ_n) | (apply wlp; ((first | apply pv_move | (apply pf_len; exact rfl)) <;> exact rfl); (first | exact fI rfl | exact fS rfl))))
  refine WP_loop2 [18, 70, 71, 72, 73, 74, 75, 76] (fun (k : Nat) (_z : List ByteArray) F => F.put 70 (.int .i64 (k : Int))) (fun k z w' => k ≤ l.length ∧ z.length = l.length ∧ Hp w6 [] w' [ownL eI 3 1 sk ck o, ownL eS 9 1 sB cB A, ownL eS 9 1 (some ⟨ab, 0, none⟩) l.length z, ownL eI 3 1 so co o, blk db2 13 (frOf (dB xN 2 sP2 ps.length cP2)) 32]) (fun k _ => l.length - k) 0 A (put_self (Same.eq .refl) rfl) ⟨Nat.zero_le _, hAl, hp⟩ ?_
  (repeat clear hp)
  rintro u k z w16 ⟨hk, hzl, hp⟩
  (repeat (first | (with_reducible first | apply WP_seq | apply WP_region | apply wpl_nil | apply thenQ_n) | (apply wlp; (apply pv_lss <;> exact rfl); exact fB rfl)))
  refine WP_cond_d rfl (fun h => ?_) (fun h => ?_)
  · have hkl : k < l.length := by omega
    have hvz : SVL (some ⟨ab, 0, none⟩) l.length z := .inr ⟨ab, l.length, by rw [hzl], by rw [hzl]; exact Nat.le_refl _, by unfold maxLen; omega⟩
    (repeat (first | (with_reducible first | apply WP_seq | apply WP_block | apply WP_region | apply wpl_nil | apply thenQ_n | apply WP_skip) | (apply wlp; ((first | apply pv_move | apply pv_assign | (apply pf_index; exact rfl)) <;> (first | exact rfl | assumption)); (first | exact fI rfl | exact fP rfl | exact fS rfl))))
    (apply wls0; exact st_setL eS z k chB hp 2 rfl hvz (by rw [hzl]; exact hkl) rfl rfl (fun _ => rfl) rfl rfl (sizeTy_ok rfl); rintro _ w17 ⟨rfl, hp⟩)
    (repeat (with_reducible first | apply WP_region | apply wpl_nil | apply thenQ_n | apply inBlk_n))
    (apply wlp; (exact pv_add rfl rfl); exact int_eq (b := ((k + 1 : Nat) : Int)) (by rw [i64_in (by omega) (by omega)]; omega))
    (repeat (first | (with_reducible first | apply wpl_nil | apply thenQ_n) | (apply wlp; apply pv_move; exact fI rfl)))
    exact ⟨k + 1, z.set k chB, put_self (Same.eq (by repeat (first | exact Same.hav | exact Same.refl | refine Same.put rfl ?_ | refine Same.havs rfl ?_))) rfl, ⟨by omega, by rw [List.length_set]; exact hzl, hp⟩, by omega⟩
  have hp : Hp w6 [] w16 [ownL eI 3 1 sk ck o, ownL eS 9 1 sB cB A, ownL eI 3 1 so co o, blk db2 13 (frOf (dB xN 2 sP2 ps.length cP2)) 32] := hp.picks [0, 1, 3, 4] _ rfl rfl
  clear h hk hzl hva
  (repeat (first | (with_reducible first | apply WP_seq | apply WP_block | apply WP_region | apply wpl_nil | apply thenQ_n | apply thenQ_exit | apply WP_exit) | ((with_reducible apply inBlk_same); exact rfl) | (apply wlp; ((first | apply pv_move | (apply pf_len; exact rfl)) <;> exact rfl); (first | exact fI rfl | exact fS rfl))))
  refine WP_loop2 [19, 79, 80, 81, 82, 83, 84, 85] (fun (k : Nat) (_z : List Int) F => F.put 79 (.int .i64 (k : Int))) (fun k z w' => k ≤ o.length ∧ z.length = o.length ∧ SVL sk ck z ∧ Hp w6 [] w' [ownL eI 3 1 sk ck z, ownL eS 9 1 sB cB A, ownL eI 3 1 so co o, blk db2 13 (frOf (dB xN 2 sP2 ps.length cP2)) 32]) (fun k _ => o.length - k) 0 o (put_self (Same.eq .refl) rfl) ⟨Nat.zero_le _, rfl, hvk, hp⟩ ?_
  (repeat clear hp)
  rintro u2 k z2 w17 ⟨hk, hzl, hvz, hp⟩
  (repeat (first | (with_reducible first | apply WP_seq | apply WP_region | apply wpl_nil | apply thenQ_n) | (apply wlp; (apply pv_lss <;> exact rfl); exact fB rfl)))
  refine WP_cond_d rfl (fun h => ?_) (fun h => ?_)
  · have hkl : k < o.length := by omega
    obtain ⟨gk, rfl⟩ := hvz.addr (by rintro rfl; simp at hzl; omega)
    (repeat (first | (with_reducible first | apply WP_seq | apply WP_block | apply WP_region | apply wpl_nil | apply thenQ_n | apply WP_skip) | (apply wlp; ((first | apply pv_move | apply pv_assign | (apply pf_index; exact rfl)) <;> (first | exact rfl | assumption)); (first | exact fI rfl | exact fP rfl | exact fS rfl))))
    (apply wls0; exact st_setL eI z2 k (-1) hp 0 rfl hvz (by rw [hzl]; exact hkl) rfl rfl (fun _ => rfl) rfl rfl (sizeTy_ok rfl); rintro _ w18 ⟨rfl, hp⟩)
    (repeat (with_reducible first | apply WP_region | apply wpl_nil | apply thenQ_n | apply inBlk_n))
    (apply wlp; (exact pv_add rfl rfl); exact int_eq (b := ((k + 1 : Nat) : Int)) (by rw [i64_in (by omega) (by omega)]; omega))
    (repeat (first | (with_reducible first | apply wpl_nil | apply thenQ_n) | (apply wlp; apply pv_move; exact fI rfl)))
    exact ⟨k + 1, z2.set k (-1), put_self (Same.eq (by repeat (first | exact Same.hav | exact Same.refl | refine Same.put rfl ?_ | refine Same.havs rfl ?_))) rfl, ⟨by omega, by rw [List.length_set]; exact hzl, hvz.set k (-1), hp⟩, by omega⟩
  have hp := hp.tail
  clear h hk hzl hvz hvk
  (repeat (first | (with_reducible first | apply WP_seq | apply WP_region | apply thenQ_n | apply thenQ_exit | apply WP_exit) | ((with_reducible apply inBlk_same); exact rfl) | (apply wlp; ((apply pf_loadb; exact rfl) <;> exact rfl); skip)))
  (apply wlp; exact pf_loads (vs := dB xN 2 sP ps.length cP) rfl rfl rfl rfl (fun j v hv => hp.old0 (hD j v hv)); exact fA13 rfl)
  (repeat (apply wlp; apply pv_move; exact fS rfl))
  (apply wls; exact st_call rfl ent14 rfl (p14 xN ps l o s sP so c cP co _ (hE.keep0 hp.keeps) (hP.keep0 hp.keeps) (ownL_At hp 1 rfl hvo (fun _ => rfl)) (by omega) hps hpm hio (svl_none hvo)))
  rintro _ w18 ⟨ab2, rfl, hva2, hpo⟩
  have hp := hp.join hpo
  clear hpo
  rw [← hA] at hva2 hp
  have hp : Hp w6 [] w18 [ownL eS 9 1 (some ⟨ab2, 0, none⟩) l.length A, ownL eS 9 1 sB cB A, ownL eI 3 1 so co o, blk db2 13 (frOf (dB xN 2 sP2 ps.length cP2)) 32] := hp
  (repeat (first | (with_reducible first | apply WP_seq | apply WP_block | apply WP_region | apply wpl_nil | apply thenQ_n) | (apply wlp; ((first | apply pv_move | apply pv_assign | (apply pf_len; exact rfl) | apply pv_extract) <;> exact rfl); (first | exact fI rfl | exact fB rfl | exact fS rfl | exact fU rfl))))
  refine WP_loopS [4, 22, 95, 96, 97, 98, 99, 100, 101, 102, 103, 104, 105, 106, 107, 108, 109, 110, 111, 112, 113, 114, 115, 116, 117, 118, 119, 120, 121, 122, 123, 124, 125, 126, 127, 128, 129, 130, 131, 132, 133, 134, 135, 136] (fun (k : Nat) F => F.put 95 (.int .i64 (k : Int))) (fun k w' => k ≤ l.length ∧ Hp w6 [] w' [ownL eS 9 1 (some ⟨ab2, 0, none⟩) l.length A, ownL eS 9 1 sB cB A, ownL eI 3 1 so co o, blk db2 13 (frOf (dB xN 2 sP2 ps.length cP2)) 32]) (fun k => l.length - k) 0 (put_self (Same.eq .refl) rfl) ⟨Nat.zero_le _, hp⟩ ?_
  (repeat clear hp)
  rintro u3 k w19 ⟨hk, hp⟩
  (repeat (first | (with_reducible first | apply WP_seq | apply WP_region | apply wpl_nil | apply thenQ_n) | (apply wlp; (apply pv_lss <;> exact rfl); exact fB rfl)))
  refine WP_cond_d rfl (fun h => ?_) (fun h => ?_)
  · have hkl : k < l.length := by omega
    have hl2 : l2.length = l.length := by have := congrArg List.length hll2; simpa using this
    have hkl2 : k < l2.length := by omega
    obtain ⟨bE, oE, hsE, hcE⟩ := hE.at_.base (by omega)
    obtain ⟨bE2, oE2, hsE2, hcE2⟩ := hE2.at_.base (by omega)
    have hcn := hcE k _ (List.getElem?_eq_getElem hkl)
    have hcn2 := hcE2 k _ (List.getElem?_eq_getElem hkl2)
    have hws := hE.ws l[k] (List.getElem_mem hkl)
    have hws2 := hE2.ws l2[k] (List.getElem_mem hkl2)
    have hwl := hE.len l[k] (List.getElem_mem hkl)
    have hwl2 := hE2.len l2[k] (List.getElem_mem hkl2)
    have hev : evE l2[k] = evE l[k] := by
      have := congrArg (fun z => z[k]?) hll2
      simpa [List.getElem?_map, List.getElem?_eq_getElem hkl, List.getElem?_eq_getElem hkl2] using this
    generalize l[k] = e at hcn hws hwl hev
    generalize l2[k] = e2 at hcn2 hws2 hwl2 hev
    obtain ⟨i1, i2, i3, i4, i5, i6⟩ := e
    obtain ⟨j1, j2, j3, j4, j5, j6⟩ := e2
    simp only [evE, Prod.mk.injEq] at hev
    obtain ⟨rfl, rfl, rfl, rfl⟩ := hev
    have k0 : w6.cell? ⟨bE, oE + k * 6 + 0, none⟩ = some (.int .i64 j1) := hcn 0 _ rfl
    have k1 : w6.cell? ⟨bE, oE + k * 6 + 1, none⟩ = some (.int .i64 j2) := hcn 1 _ rfl
    have k4 : w6.cell? ⟨bE, oE + k * 6 + 4, none⟩ = some (.slice i4 j6.length i5) := hcn 4 _ rfl
    have q0 : w6.cell? ⟨bE2, oE2 + k * 6 + 0, none⟩ = some (.int .i64 j1) := hcn2 0 _ rfl
    have q1 : w6.cell? ⟨bE2, oE2 + k * 6 + 1, none⟩ = some (.int .i64 j2) := hcn2 1 _ rfl
    have q4 : w6.cell? ⟨bE2, oE2 + k * 6 + 4, none⟩ = some (.slice j4 j6.length j5) := hcn2 4 _ rfl
    (repeat (first | (with_reducible first | apply WP_seq | apply WP_block | apply WP_region | apply wpl_nil | apply thenQ_n | apply WP_skip) | (apply wlp; (first | apply pv_move | apply pv_assign); exact fI rfl)))
    refine WP_draw mixed (by kernel_rfl) (fun w' => Hp _ _ w' _) hp.drew ?_
    have hp := hp.drew
    (apply wdp; exact rfl; (intro w hp; exact pv_move); exact rfl)
    (apply wdp; exact rfl; (intro w hp; exact pv_move); exact rfl)
    (apply wdp; exact rfl; (intro w hp; exact pf_index rfl rfl rfl hsE hkl); exact fP rfl)
    (apply wdp; exact rfl; (intro w hp; exact pf_field rfl rfl); exact fP rfl)
    (apply wdp; exact rfl; (intro w hp; exact pf_load rfl rfl (hp.old0 k0)); exact fI rfl)
    (apply wdp; exact rfl; (intro w hp; exact pv_move); exact rfl)
    (apply wdp; exact rfl; (intro w hp; exact pv_move); exact rfl)
    (apply wdp; exact rfl; (intro w hp; exact pf_index rfl rfl rfl hsE2 hkl2); exact fP rfl)
    (apply wdp; exact rfl; (intro w hp; exact pf_field rfl rfl); exact fP rfl)
    (apply wdp; exact rfl; (intro w hp; exact pf_load rfl rfl (hp.old0 q0)); exact fI rfl)
    (apply wdp; exact rfl; (intro w hp; exact pv_neq rfl rfl); exact bool_eq (b := false) (by rw [decide_eq_true rfl]; rfl))
    (apply wdp; exact rfl; (intro w hp; exact pv_move); exact rfl)
    (apply wdpT; exact rfl; exact rfl; exact rfl; (intro w hp; exact pv_move); exact rfl)
    (apply wdpT; exact rfl; exact rfl; exact rfl; (intro w hp; exact pv_move); exact rfl)
    (apply wdpT; exact rfl; exact rfl; exact rfl; (intro w hp; exact pf_index rfl rfl rfl hsE hkl); exact fP rfl)
    (apply wdpT; exact rfl; exact rfl; exact rfl; (intro w hp; exact pf_field rfl rfl); exact fP rfl)
    (apply wdpT; exact rfl; exact rfl; exact rfl; (intro w hp; exact pf_load rfl rfl (hp.old0 k1)); exact fI rfl)
    (apply wdpT; exact rfl; exact rfl; exact rfl; (intro w hp; exact pv_move); exact rfl)
    (apply wdpT; exact rfl; exact rfl; exact rfl; (intro w hp; exact pv_move); exact rfl)
    (apply wdpT; exact rfl; exact rfl; exact rfl; (intro w hp; exact pf_index rfl rfl rfl hsE2 hkl2); exact fP rfl)
    (apply wdpT; exact rfl; exact rfl; exact rfl; (intro w hp; exact pf_field rfl rfl); exact fP rfl)
    (apply wdpT; exact rfl; exact rfl; exact rfl; (intro w hp; exact pf_load rfl rfl (hp.old0 q1)); exact fI rfl)
    (apply wdpT; exact rfl; exact rfl; exact rfl; (intro w hp; exact pv_neq rfl rfl); exact bool_eq (b := false) (by rw [decide_eq_true rfl]; rfl))
    (apply wdp; exact rfl; (intro w hp; exact pv_orF rfl rfl); exact fB rfl)
    (apply wdp; exact rfl; (intro w hp; exact pv_move); exact rfl)
    (apply wdpT; exact rfl; exact rfl; exact rfl; (intro w hp; exact pv_move); exact rfl)
    (apply wdpT; exact rfl; exact rfl; exact rfl; (intro w hp; exact pv_move); exact rfl)
    (apply wdpT; exact rfl; exact rfl; exact rfl; (intro w hp; exact pf_index rfl rfl rfl hsE hkl); exact fP rfl)
    (apply wdpT; exact rfl; exact rfl; exact rfl; (intro w hp; exact pf_field rfl rfl); exact fP rfl)
    (apply wdpT; exact rfl; exact rfl; exact rfl; (intro w hp; exact pf_load rfl rfl (hp.old0 k4)); exact fS rfl)
    (apply wdpT; exact rfl; exact rfl; exact rfl; (intro w hp; exact pv_move); exact rfl)
    (apply wdpT; exact rfl; exact rfl; exact rfl; (intro w hp; exact pv_move); exact rfl)
    (apply wdpT; exact rfl; exact rfl; exact rfl; (intro w hp; exact pf_index rfl rfl rfl hsE2 hkl2); exact fP rfl)
    (apply wdpT; exact rfl; exact rfl; exact rfl; (intro w hp; exact pf_field rfl rfl); exact fP rfl)
    (apply wdpT; exact rfl; exact rfl; exact rfl; (intro w hp; exact pf_load rfl rfl (hp.old0 q4)); exact fS rfl)
    (apply wdsT; exact rfl; exact rfl; exact rfl; exact st_call rfl ent15 rfl (p15 j6 j6 i4 j4 i5 j5 _ (hws.keep0 hp.keeps) (hws2.keep0 hp.keeps) (Nat.le_trans hwl (by decide)) (Nat.le_trans hwl (by decide))); rintro _ w20 ⟨hv, hk20⟩; obtain rfl := hv.trans (bool_eq (b := true) (decide_eq_true rfl)); have hp := hp.call hk20; refine ⟨hp, ?_⟩)
    (repeat (first | ((apply wdp; exact rfl); (intro w hp; intros; ((first | exact pv_orF rfl rfl | apply pv_not) <;> exact rfl)); (intros; exact fB rfl)) | ((apply wdpT; exact rfl; exact rfl; exact rfl); (intro w hp; ((first | exact pv_orF rfl rfl | apply pv_not) <;> exact rfl)); (intros; exact fB rfl)) | (apply wdpF; exact rfl; exact rfl; exact rfl; exact rfl) | (apply wdpU; exact rfl; exact rfl; exact rfl)))
    refine wpd_nil ?_
    refine WP_cond_f rfl ?_
    (repeat (with_reducible first | apply WP_region | apply thenQ_n | apply inBlk_n | apply WP_skip))
    (apply wlp; (exact pv_add rfl rfl); exact int_eq (b := ((k + 1 : Nat) : Int)) (by rw [i64_in (by omega) (by omega)]; omega))
    (repeat (first | (with_reducible first | apply wpl_nil | apply thenQ_n) | (apply wlp; apply pv_move; exact fI rfl)))
    exact ⟨k + 1, put_self (Same.eq (by repeat (first | exact Same.hav | exact Same.refl | refine Same.put rfl ?_ | refine Same.havs rfl ?_))) rfl, ⟨by omega, hp⟩, by omega⟩
  clear h hk
  (repeat (first | (with_reducible first | apply WP_seq | apply WP_region | apply thenQ_n | apply thenQ_exit | apply WP_exit) | ((with_reducible apply inBlk_same); exact rfl) | (apply wlp; ((first | apply pf_field | (apply pf_load; exact rfl)) <;> exact rfl); exact fP rfl)))
  (apply wlp; exact pf_load rfl rfl (hp.old0 (hD 8 _ rfl)); exact fS rfl)
  (repeat (first | (with_reducible first | apply WP_block | apply wpl_nil | apply thenQ_n) | (apply wlp; ((first | apply pv_move | (apply pf_len; exact rfl)) <;> exact rfl); exact fI rfl)))
  refine WP_loopS [4, 23, 140, 141, 142, 143, 144, 145, 146, 147, 148, 149, 150, 151, 152, 153, 154] (fun (k : Nat) F => F.put 140 (.int .i64 (k : Int))) (fun k w' => k ≤ ps.length ∧ Hp w6 [] w' [ownL eS 9 1 (some ⟨ab2, 0, none⟩) l.length A, ownL eS 9 1 sB cB A, ownL eI 3 1 so co o, blk db2 13 (frOf (dB xN 2 sP2 ps.length cP2)) 32]) (fun k => ps.length - k) 0 (put_self (Same.eq .refl) rfl) ⟨Nat.zero_le _, hp⟩ ?_
  (repeat clear hp)
  rintro u4 k w19 ⟨hk, hp⟩
  (repeat (first | (with_reducible first | apply WP_seq | apply WP_region | apply wpl_nil | apply thenQ_n) | (apply wlp; (apply pv_lss <;> exact rfl); exact fB rfl)))
  refine WP_cond_d rfl (fun h => ?_) (fun h => ?_)
  · have hkl : k < ps.length := by omega
    obtain ⟨bP, oP, hsP, hcP⟩ := hP.base (by omega)
    obtain ⟨bP2, oP2, hsP2, hcP2⟩ := hP2.base (by omega)
    have hcn := hcP k _ (List.getElem?_eq_getElem hkl)
    have hcn2 := hcP2 k _ (List.getElem?_eq_getElem hkl)
    generalize ps[k] = e at hcn hcn2
    obtain ⟨e1, e2⟩ := e
    (repeat (first | (with_reducible first | apply WP_seq | apply WP_block | apply WP_region | apply wpl_nil | apply thenQ_n | apply WP_skip) | (apply wlp; (first | apply pv_move | apply pv_assign); exact fI rfl)))
    refine WP_draw mixed (by kernel_rfl) (fun w' => Hp _ _ w' _) hp.drew ?_
    have hp := hp.drew
    (apply wdp; exact rfl; (intro w hp; exact pf_field rfl rfl); exact fP rfl)
    (apply wdp; exact rfl; (intro w hp; exact pf_load rfl rfl (hp.old0 (hD 8 _ rfl))); exact fS rfl)
    (apply wdp; exact rfl; (intro w hp; exact pv_move); exact rfl)
    (apply wdp; exact rfl; (intro w hp; exact pf_index rfl rfl rfl hsP hkl); exact fP rfl)
    (apply wdp; exact rfl; (intro w hp; exact pf_loads (vs := eP (e1, e2)) rfl rfl rfl rfl (fun j v hv => hp.old0 (hcn j v hv))); exact fA2 rfl)
    (repeat ((apply wdp; exact rfl); (intro w hp; intros; ((first | apply pv_move | apply pf_field | (apply pf_load; exact rfl) | (apply pf_loadb; exact rfl) | (apply pf_index; exact rfl)) <;> (first | exact rfl | assumption | exact hp.cell 3 rfl rfl))); (intros; (first | exact fI rfl | exact fP rfl | exact fS rfl))))
    (apply wdp; exact rfl; (intro w hp; exact pf_loads (vs := eP (e1, e2)) rfl rfl rfl rfl (fun j v hv => hp.old0 (hcn2 j v hv))); exact fA2 rfl)
    (apply wdp; exact rfl; (intro w hp; exact pv_ne52 rfl rfl); exact bool_eq (b := false) (by rw [decide_eq_true rfl, decide_eq_true rfl]; rfl))
    refine wpd_nil ?_
    refine WP_cond_f rfl ?_
    (repeat (with_reducible first | apply WP_region | apply thenQ_n | apply inBlk_n | apply WP_skip))
    (apply wlp; (exact pv_add rfl rfl); exact int_eq (b := ((k + 1 : Nat) : Int)) (by rw [i64_in (by omega) (by omega)]; omega))
    (repeat (first | (with_reducible first | apply wpl_nil | apply thenQ_n) | (apply wlp; apply pv_move; exact fI rfl)))
    exact ⟨k + 1, put_self (Same.eq (by repeat (first | exact Same.hav | exact Same.refl | refine Same.put rfl ?_ | refine Same.havs rfl ?_))) rfl, ⟨by omega, hp⟩, by omega⟩
  clear h hk
  (repeat (first | (with_reducible first | apply WP_seq | apply WP_region | apply thenQ_n | apply thenQ_exit | apply WP_exit) | ((with_reducible apply inBlk_same); exact rfl) | (apply wlp; ((first | apply pv_move | (apply pf_len; exact rfl)) <;> exact rfl); (first | exact fI rfl | exact fS rfl | exact fT rfl))))
  (apply wls; exact st_call rfl ent22 rfl (p22t l.length (ofN X) X _ (NS.self hfx) hfx (by omega) hX))
  rintro _ w20 ⟨sk2, ck2, rfl, hvk, hpo⟩
  have hp := hp.join hpo
  clear hpo
  rw [← ho] at hvk hp ⊢
  have hp : Hp w6 [] w20 [ownL eI 3 1 sk2 ck2 o, ownL eS 9 1 (some ⟨ab2, 0, none⟩) l.length A, ownL eS 9 1 sB cB A, ownL eI 3 1 so co o] := hp.picks [0, 1, 2, 3] _ rfl rfl
  (apply wlp; apply pv_move; exact fU rfl)
  (apply wlp; (apply pv_extract <;> exact rfl); exact fS rfl)
  (apply wlp; (apply pv_extract <;> exact rfl); exact fB rfl)
  (apply wlp; apply pv_assign; exact fS rfl)
  (apply wlp; apply pv_assign; exact fB rfl)
  (repeat (with_reducible first | apply WP_seq | apply WP_region | apply wpl_nil | apply thenQ_n))
  (apply wlp; apply pv_move; exact fB rfl)
  (apply wlp; apply pv_move; exact fB rfl)
  ((apply wlpT; exact rfl; exact rfl); (apply pv_move); (intros; exact fB rfl))
  (apply wlp; exact pv_andT rfl rfl; exact fB rfl)
  (apply wlp; apply pv_move; exact fB rfl)
  ((apply wlpT; exact rfl; exact rfl); (apply pv_move); (intros; exact fB rfl))
  (apply wlp; exact pv_andT rfl rfl; exact fB rfl)
  (apply wlp; apply pv_move; exact fB rfl)
  ((apply wlpT; exact rfl; exact rfl); (apply pv_move); (intros; exact fS rfl))
  ((apply wlpT; exact rfl; exact rfl); (apply pv_move); (intros; exact fS rfl))
  (have h15 := p15 A A (some ⟨ab2, 0, none⟩) sB l.length cB w20 (ownL_At hp 1 rfl hva2 (fun _ => rfl)) (ownL_At hp 2 rfl hvB (fun _ => rfl)) (by omega) (by omega))
  (apply wlsT; exact rfl; exact rfl; exact st_call rfl ent15 (by rw [hAl]; rfl) h15; rintro _ w21 ⟨hv, hk⟩; obtain rfl := hv.trans (bool_eq (b := true) (decide_eq_true rfl)); have hp := hp.call hk; clear h15)
  (apply wlp; exact pv_andT rfl rfl; exact fB rfl)
  (apply wlp; apply pv_move; exact fB rfl)
  ((apply wlpT; exact rfl; exact rfl); (apply pv_move); (intros; exact fS rfl))
  ((apply wlpT; exact rfl; exact rfl); (apply pv_move); (intros; exact fS rfl))
  (apply wlsT; exact rfl; exact rfl; exact st_call rfl ent24 rfl (p24 o o sk2 so ck2 co _ (ownL_At hp 0 rfl hvk (fun _ => rfl)) (ownL_At hp 3 rfl hvo (fun _ => rfl)) (by omega) (by omega)); rintro _ w22 ⟨hv, hk⟩; obtain rfl := hv.trans (bool_eq (b := true) (decide_eq_true rfl)); have hp := hp.call hk)
  (apply wlp; exact pv_andT rfl rfl; exact fB rfl)
  (apply wlp; apply pv_move; exact fB rfl)
  ((apply wlpT; exact rfl; exact rfl); (apply pv_move); (intros; exact fT rfl))
  ((apply wlpT; exact rfl; exact rfl); (apply pv_move); (intros; exact fS rfl))
  ((apply wlpT; exact rfl; exact rfl); (((apply pf_len; exact rfl) <;> exact rfl)); (intros; exact fI rfl))
  (apply wlsT; exact rfl; exact rfl; exact st_call rfl ent26 rfl (p26 l.length _ (by omega)); rintro _ w23 ⟨rfl, hk⟩; have hp := hp.call hk)
  (apply wlsT; exact rfl; exact rfl; exact st_call rfl ent25 rfl (c50 X (fact l.length) _ hfx hff); rintro _ w24 ⟨hv, hk⟩; obtain rfl := hv.trans (int_eq (b := -1) (by rw [if_pos hX])); have hp := hp.call hk)
  (apply wlpT; exact rfl; exact rfl; (exact pv_lss rfl rfl); exact bool_eq (b := true) (decide_eq_true (by omega)))
  (apply wlp; exact pv_andT rfl rfl; exact fB rfl)
  (repeat (first | (with_reducible first | apply wpl_nil | apply thenQ_n | apply WP_ret) | (apply wlp; apply pv_assign; exact fB rfl)))
  exact ret_tmp rfl rfl ⟨_, rfl, rfl, hk6.trans hp.keeps (by simp)⟩
end Go.Proofs.YtfjbioghpgmkiaaGreatDoor
/- places: entrants of a greater class have no effect on those of a lesser one; plain. -/
namespace Go.Proofs.YtfjbioghpgmkiaaGreatDoor
open Go.Eng Go.Dig

/-! sorting -/
theorem insV_filter (c : Int → Int) (C : Int) : ∀ (r : List Int) (x : Int), (insV c r x).filter (fun y => decide (c y ≤ C)) = if c x ≤ C then insV c (r.filter fun y => decide (c y ≤ C)) x else r.filter fun y => decide (c y ≤ C)
  | [], x => by
    by_cases h : c x ≤ C
    · rw [if_pos h]
      simp [insV, h]
    · rw [if_neg h]
      simp [insV, h]
  | y :: r, x => by
    rw [insV]
    by_cases hxy : c x < c y
    · rw [if_pos hxy]
      by_cases hy : c y ≤ C
      · have hx : c x ≤ C := by omega
        rw [if_pos hx, List.filter_cons_of_pos (by simpa using hy), List.filter_cons_of_pos (by simpa using hy), insV_filter c C r x, if_pos hx, insV, if_pos hxy]
      · rw [List.filter_cons_of_neg (by simpa using hy), List.filter_cons_of_neg (by simpa using hy), insV_filter c C r x]
    · rw [if_neg hxy]
      by_cases hx : c x ≤ C
      · have hy : c y ≤ C := by omega
        rw [if_pos hx, List.filter_cons_of_pos (by simpa using hx), List.filter_cons_of_pos (by simpa using hy), insV, if_neg hxy]
      · rw [if_neg hx, List.filter_cons_of_neg (by simpa using hx)]
theorem sv_filter (c : Int → Int) (C : Int) : ∀ l : List Int, (sv c l).filter (fun y => decide (c y ≤ C)) = sv c (l.filter fun y => decide (c y ≤ C))
  | [] => rfl
  | x :: r => by
    rw [sv, insV_filter, sv_filter c C r]
    by_cases hx : c x ≤ C
    · rw [if_pos hx, List.filter_cons_of_pos (by simpa using hx)]
      rfl
    · rw [if_neg hx, List.filter_cons_of_neg (by simpa using hx)]
theorem srt_filter (c : Int → Int) (C : Int) (l : List Int) : (srt c l).filter (fun y => decide (c y ≤ C)) = srt c (l.filter fun y => decide (c y ≤ C)) := by
  unfold srt
  rw [List.filter_reverse, sv_filter, List.filter_reverse]
theorem insV_map (c c' : Int → Int) (f : Int → Int) (x : Int) (hx : c' (f x) = c x) : ∀ r : List Int, (∀ y ∈ r, c' (f y) = c y) → insV c' (r.map f) (f x) = (insV c r x).map f
  | [], _ => rfl
  | y :: r, h => by
    rw [List.map_cons, insV, insV, hx, h y List.mem_cons_self]
    by_cases hxy : c x < c y
    · rw [if_pos hxy, if_pos hxy, insV_map c c' f x hx r (fun z hz => h z (List.mem_cons_of_mem _ hz))]
      rfl
    · rw [if_neg hxy, if_neg hxy]
      rfl
theorem sv_map (c c' : Int → Int) (f : Int → Int) : ∀ l : List Int, (∀ y ∈ l, c' (f y) = c y) → sv c' (l.map f) = (sv c l).map f
  | [], _ => rfl
  | x :: r, h => by
    have ih := sv_map c c' f r (fun z hz => h z (List.mem_cons_of_mem _ hz))
    rw [List.map_cons, sv, ih, insV_map c c' f x (h x List.mem_cons_self) _ (fun y hy => h y (List.mem_cons_of_mem _ ((sv_perm c r).mem_iff.1 hy)))]
    rfl
theorem srt_map (c c' : Int → Int) (f : Int → Int) (l : List Int) (h : ∀ y ∈ l, c' (f y) = c y) : srt c' (l.map f) = (srt c l).map f := by
  unfold srt
  rw [← List.map_reverse, sv_map c c' f _ (fun y hy => h y (List.mem_reverse.1 hy)), List.map_reverse]
theorem insV_desc (c : Int → Int) (x : Int) : ∀ r : List Int, r.Pairwise (fun a b => c b ≤ c a) → (insV c r x).Pairwise (fun a b => c b ≤ c a)
  | [], _ => by simp [insV]
  | y :: r, h => by
    have h2 := List.pairwise_cons.1 h
    rw [insV]
    by_cases hxy : c x < c y
    · rw [if_pos hxy, List.pairwise_cons]
      refine ⟨fun z hz => ?_, insV_desc c x r h2.2⟩
      rcases List.mem_cons.1 ((insV_perm c x r).mem_iff.1 hz) with rfl | hz
      · omega
      · exact h2.1 z hz
    · rw [if_neg hxy, List.pairwise_cons]
      refine ⟨fun z hz => ?_, h⟩
      rcases List.mem_cons.1 hz with rfl | hz
      · omega
      · have := h2.1 z hz
        omega
theorem sv_desc (c : Int → Int) : ∀ l : List Int, (sv c l).Pairwise (fun a b => c b ≤ c a)
  | [] => List.Pairwise.nil
  | x :: r => insV_desc c x _ (sv_desc c r)
theorem srt_asc (c : Int → Int) (l : List Int) : (srt c l).Pairwise (fun a b => c a ≤ c b) := by
  unfold srt
  rw [List.pairwise_reverse]
  exact sv_desc c _

/-! turns -/
theorem fl_congr {r : Int → Bool} {D D' : List Int} : ∀ {R : List Int}, (∀ m ∈ R, r m = true → (m ∈ D ↔ m ∈ D')) → fl r D R = fl r D' R := by
  intro R h
  unfold fl
  apply List.filter_congr
  intro m hm
  cases hr : r m
  · simp
  · have := h m hm hr
    by_cases h1 : m ∈ D
    · simp [h1, this.1 h1]
    · have h2 : m ∉ D' := fun h3 => h1 (this.2 h3)
      simp [h1, h2]
theorem tl_filter (r : Int → Int → Bool) (p : Int → Bool) (hr : ∀ a b, r a b = true → p a = p b) : ∀ (Q D D' : List Int), (∀ m ∈ Q, p m = true → (m ∈ D ↔ m ∈ D')) → (tl r Q D).filter p = tl r (Q.filter p) D'
  | [], D, D', _ => by
    unfold tl
    rfl
  | n :: Q, D, D', h => by
    have hQ : ∀ m ∈ Q, p m = true → (m ∈ D ↔ m ∈ D') := fun m hm => h m (List.mem_cons_of_mem _ hm)
    by_cases hp : p n = true
    · have hn := h n List.mem_cons_self hp
      rw [List.filter_cons_of_pos hp]
      by_cases hD : n ∈ D
      · rw [tl_skip hD, tl_skip (hn.1 hD)]
        exact tl_filter r p hr Q D D' hQ
      · have hD' : n ∉ D' := fun h2 => hD (hn.2 h2)
        rw [tl_take hD, tl_take hD', List.filter_cons_of_pos hp, List.filter_append]
        have e1 : (fl (r n) (D ++ [n]) Q).filter p = fl (r n) (D' ++ [n]) (Q.filter p) := by
          unfold fl
          rw [List.filter_filter, List.filter_filter]
          apply List.filter_congr
          intro m hm
          cases hpm : p m
          · simp
          · have := hQ m hm hpm
            by_cases h1 : m ∈ D <;> by_cases h2 : m ∈ D' <;> simp [h1, h2] <;> simp [h1, h2] at this
        rw [e1]
        congr 2
        refine tl_filter r p hr Q _ _ (fun m hm hpm => ?_)
        have h1 := hQ m hm hpm
        have h2 : m ∈ fl (r n) (D ++ [n]) Q ↔ m ∈ fl (r n) (D' ++ [n]) (Q.filter p) := by
          rw [← e1, List.mem_filter]
          exact ⟨fun h => ⟨h, hpm⟩, fun h => h.1⟩
        simp only [List.mem_append, h1, h2]
    · have hp : p n = false := by simpa using hp
      rw [List.filter_cons_of_neg (by simp [hp])]
      by_cases hD : n ∈ D
      · rw [tl_skip hD]
        exact tl_filter r p hr Q D D' hQ
      · rw [tl_take hD, List.filter_cons_of_neg (by simp [hp]), List.filter_append]
        have hf : ∀ m ∈ fl (r n) (D ++ [n]) Q, p m = false := by
          intro m hm
          unfold fl at hm
          have h1 := (List.mem_filter.1 hm).2
          simp only [Bool.and_eq_true] at h1
          rw [← hr n m h1.2]
          exact hp
        have e1 : (fl (r n) (D ++ [n]) Q).filter p = [] := by
          rw [List.filter_eq_nil_iff]
          intro m hm
          simp [hf m hm]
        rw [e1, List.nil_append]
        refine tl_filter r p hr Q _ _ (fun m hm hpm => ?_)
        rw [← hQ m hm hpm]
        simp only [List.mem_append, List.mem_singleton]
        constructor
        · rintro ((h1 | h1) | h1)
          · exact h1
          · rw [h1, hp] at hpm
            cases hpm
          · rw [hf m h1] at hpm
            cases hpm
        · exact fun h1 => .inl (.inl h1)
theorem tl_map (r r' : Int → Int → Bool) (f : Int → Int) : ∀ (Q D : List Int), (∀ a ∈ Q, ∀ b ∈ Q, r' (f a) (f b) = r a b) → (∀ a ∈ Q, ∀ b ∈ Q ++ D, f a = f b → a = b) → tl r' (Q.map f) (D.map f) = (tl r Q D).map f
  | [], D, _, _ => by
    unfold tl
    rfl
  | n :: Q, D, hr, hi => by
    have hmem : ∀ (a : Int) (Z : List Int), a ∈ n :: Q → (∀ b ∈ Z, b ∈ (n :: Q) ++ D) → (f a ∈ Z.map f ↔ a ∈ Z) := by
      intro a Z ha hZ
      rw [List.mem_map]
      constructor
      · rintro ⟨b, hb, e⟩
        have := hi a ha b (hZ b hb) e.symm
        rw [this]
        exact hb
      · exact fun h => ⟨a, h, rfl⟩
    have hnD := hmem n D List.mem_cons_self (fun b hb => List.mem_append_right _ hb)
    have hrQ : ∀ a ∈ Q, ∀ b ∈ Q, r' (f a) (f b) = r a b := fun a ha b hb => hr a (List.mem_cons_of_mem _ ha) b (List.mem_cons_of_mem _ hb)
    rw [List.map_cons]
    by_cases hD : n ∈ D
    · rw [tl_skip hD, tl_skip (hnD.2 hD)]
      exact tl_map r r' f Q D hrQ (fun a ha b hb => hi a (List.mem_cons_of_mem _ ha) b (by
        rcases List.mem_append.1 hb with hb | hb
        · simp [hb]
        · simp [hb]))
    · rw [tl_take hD, tl_take (fun h => hD (hnD.1 h)), List.map_cons, List.map_append]
      have e0 : D.map f ++ [f n] = (D ++ [n]).map f := by simp
      have e1 : fl (r' (f n)) (D.map f ++ [f n]) (Q.map f) = (fl (r n) (D ++ [n]) Q).map f := by
        rw [e0]
        unfold fl
        rw [List.filter_map]
        congr 1
        apply List.filter_congr
        intro m hm
        have h1 := hmem m (D ++ [n]) (List.mem_cons_of_mem _ hm) (fun b hb => by
          rcases List.mem_append.1 hb with hb | hb
          · exact List.mem_append_right _ hb
          · simp [List.mem_singleton.1 hb])
        have h2 := hr n List.mem_cons_self m (List.mem_cons_of_mem _ hm)
        show (!decide (f m ∈ (D ++ [n]).map f) && r' (f n) (f m)) = _
        rw [h2]
        by_cases h3 : m ∈ D ++ [n]
        · rw [decide_eq_true h3, decide_eq_true (h1.2 h3)]
        · have h4 : f m ∉ (D ++ [n]).map f := fun h => h3 (h1.1 h)
          rw [decide_eq_false h3, decide_eq_false h4]
      rw [e1, e0, ← List.map_append]
      congr 2
      refine tl_map r r' f Q _ hrQ (fun a ha b hb => hi a (List.mem_cons_of_mem _ ha) b ?_)
      rcases List.mem_append.1 hb with hb | hb
      · simp [hb]
      · rcases List.mem_append.1 hb with hb | hb
        · rcases List.mem_append.1 hb with hb | hb
          · simp [hb]
          · simp [List.mem_singleton.1 hb]
        · have := fl_mem hb
          simp [this]
theorem tl_mem {r : Int → Int → Bool} : ∀ {Q D : List Int} {m : Int}, m ∈ tl r Q D → m ∈ Q
  | [], D, m, h => by
    unfold tl at h
    cases h
  | n :: Q, D, m, h => by
    by_cases hD : n ∈ D
    · rw [tl_skip hD] at h
      exact List.mem_cons_of_mem _ (tl_mem h)
    · rw [tl_take hD] at h
      rcases List.mem_cons.1 h with rfl | h
      · exact List.mem_cons_self
      · rcases List.mem_append.1 h with h | h
        · exact List.mem_cons_of_mem _ (fl_mem h)
        · exact List.mem_cons_of_mem _ (tl_mem h)
theorem tl_asc {r : Int → Int → Bool} {c : Int → Int} (hr : ∀ a b, r a b = true → c a = c b) : ∀ (Q D : List Int), Q.Pairwise (fun a b => c a ≤ c b) → (tl r Q D).Pairwise (fun a b => c a ≤ c b)
  | [], D, _ => by
    unfold tl
    exact List.Pairwise.nil
  | n :: Q, D, h => by
    have h2 := List.pairwise_cons.1 h
    by_cases hD : n ∈ D
    · rw [tl_skip hD]
      exact tl_asc hr Q D h2.2
    · have hf : ∀ m ∈ fl (r n) (D ++ [n]) Q, c m = c n := by
        intro m hm
        unfold fl at hm
        have h1 := (List.mem_filter.1 hm).2
        simp only [Bool.and_eq_true] at h1
        exact (hr n m h1.2).symm
      rw [tl_take hD, List.pairwise_cons, List.pairwise_append]
      refine ⟨fun m hm => ?_, ?_, tl_asc hr Q _ h2.2, fun a ha b hb => ?_⟩
      · rcases List.mem_append.1 hm with hm | hm
        · exact h2.1 m (fl_mem hm)
        · exact h2.1 m (tl_mem hm)
      · rw [List.pairwise_iff_getElem]
        intro i j hi hj _
        rw [hf _ (List.getElem_mem hi), hf _ (List.getElem_mem hj)]
        exact Int.le_refl _
      · rw [hf a ha]
        exact h2.1 b (tl_mem hb)
theorem asc_split {c : Int → Int} {C : Int} : ∀ {T : List Int}, T.Pairwise (fun a b => c a ≤ c b) → T = T.filter (fun y => decide (c y ≤ C)) ++ T.filter fun y => !decide (c y ≤ C)
  | [], _ => rfl
  | x :: T, h => by
    have h2 := List.pairwise_cons.1 h
    by_cases hx : c x ≤ C
    · rw [List.filter_cons_of_pos (by simpa using hx), List.filter_cons_of_neg (by simp [hx]), List.cons_append, ← asc_split h2.2]
    · have e1 : (x :: T).filter (fun y => decide (c y ≤ C)) = [] := by
        rw [List.filter_eq_nil_iff]
        intro y hy
        rcases List.mem_cons.1 hy with rfl | hy
        · simpa using hx
        · have := h2.1 y hy
          simp
          omega
      have e2 : (x :: T).filter (fun y => !decide (c y ≤ C)) = x :: T := by
        rw [List.filter_eq_self]
        intro y hy
        rcases List.mem_cons.1 hy with rfl | hy
        · simpa using hx
        · have := h2.1 y hy
          simp
          omega
      rw [e1, e2]
      rfl
theorem relF_cls {l : List En} {a b : Int} (h : relF l a b = true) : clsF l a = clsF l b := by
  unfold relF at h
  unfold clsF
  cases ha : l[a.toNat]? with
  | none => rw [ha] at h; cases h
  | some x =>
    cases hb : l[b.toNat]? with
    | none => rw [ha, hb] at h; cases h
    | some y =>
      rw [ha, hb] at h
      unfold relB at h
      simp only [Bool.and_eq_true, decide_eq_true_eq] at h
      exact h.2.2

/-! those who stay -/
theorem filter_at {α : Type} {p : α → Bool} : ∀ (l : List α) (k : Nat) (x : α), l[k]? = some x → p x = true → (l.filter p)[(l.take k).countP p]? = some x
  | [], k, x, h, _ => by simp at h
  | y :: l, 0, x, h, hp => by
    have h : y = x := by simpa using h
    subst h
    rw [List.filter_cons_of_pos hp]
    rfl
  | y :: l, k + 1, x, h, hp => by
    have ih := filter_at l k x (by simpa using h) hp
    rw [List.take_succ_cons, List.countP_cons]
    by_cases hy : p y = true
    · rw [List.filter_cons_of_pos hy, if_pos hy, List.getElem?_cons_succ]
      exact ih
    · rw [List.filter_cons_of_neg hy, if_neg hy]
      exact ih
theorem filter_surj {α : Type} {p : α → Bool} : ∀ (l : List α) (j : Nat), j < (l.filter p).length → ∃ k x, l[k]? = some x ∧ p x = true ∧ (l.take k).countP p = j
  | [], j, h => by simp at h
  | y :: l, j, h => by
    by_cases hy : p y = true
    · rw [List.filter_cons_of_pos hy, List.length_cons] at h
      cases j with
      | zero => exact ⟨0, y, rfl, hy, rfl⟩
      | succ j =>
        obtain ⟨k, x, h1, h2, h3⟩ := filter_surj (p := p) l j (by omega)
        exact ⟨k + 1, x, by simpa using h1, h2, by rw [List.take_succ_cons, List.countP_cons, if_pos hy, h3]⟩
    · rw [List.filter_cons_of_neg hy] at h
      obtain ⟨k, x, h1, h2, h3⟩ := filter_surj (p := p) l j h
      exact ⟨k + 1, x, by simpa using h1, h2, by rw [List.take_succ_cons, List.countP_cons, if_neg hy, h3]; rfl⟩
def kp (C : Int) (e : En) : Bool := decide (e.cls ≤ C)
def restF (l : List En) (C : Int) : List En := l.filter (kp C)
def rk (l : List En) (C : Int) (k : Nat) : Nat := (l.take k).countP (kp C)
def keepF (l : List En) (C : Int) (k : Int) : Bool := decide (clsF l k ≤ C)
def fK (l : List En) (C : Int) (k : Int) : Int := (rk l C k.toNat : Int)
theorem keep_at {l : List En} {C : Int} {k : Nat} (hk : k < l.length) : keepF l C (k : Int) = kp C l[k] := by
  unfold keepF kp clsF
  rw [Int.toNat_natCast, List.getElem?_eq_getElem hk]
  rfl
theorem rest_at {l : List En} {C : Int} {k : Nat} (hk : k < l.length) (hp : keepF l C (k : Int) = true) : (restF l C)[rk l C k]? = some l[k] :=
  filter_at l k _ (List.getElem?_eq_getElem hk) (by rw [← keep_at hk]; exact hp)
theorem rk_mono {l : List En} {C : Int} {a b : Nat} (h : a ≤ b) : rk l C a ≤ rk l C b := by
  unfold rk
  have : l.take a = (l.take b).take a := by rw [List.take_take, Nat.min_eq_left h]
  rw [this]
  exact List.Sublist.countP_le (List.take_sublist _ _)
theorem rk_succ {l : List En} {C : Int} {k : Nat} (hk : k < l.length) : rk l C (k + 1) = rk l C k + if keepF l C (k : Int) = true then 1 else 0 := by
  unfold rk
  rw [List.take_succ_eq_append_getElem hk, List.countP_append, List.countP_cons, List.countP_nil, keep_at hk, Nat.zero_add]
theorem fK_inj {l : List En} {C : Int} {a b : Int} (ha0 : 0 ≤ a) (ha : a < l.length) (hka : keepF l C a = true) (hb0 : 0 ≤ b) (hb : b < l.length) (hkb : keepF l C b = true) (h : fK l C a = fK l C b) : a = b := by
  obtain ⟨x, rfl⟩ : ∃ x : Nat, a = x := ⟨a.toNat, by omega⟩
  obtain ⟨y, rfl⟩ : ∃ y : Nat, b = y := ⟨b.toNat, by omega⟩
  unfold fK at h
  rw [Int.toNat_natCast, Int.toNat_natCast] at h
  have e1 := rk_succ (C := C) (show x < l.length by omega)
  have e2 := rk_succ (C := C) (show y < l.length by omega)
  rw [if_pos hka] at e1
  rw [if_pos hkb] at e2
  rcases Nat.lt_trichotomy x y with hlt | heq | hgt
  · have := rk_mono (l := l) (C := C) (show x + 1 ≤ y by omega)
    omega
  · rw [heq]
  · have := rk_mono (l := l) (C := C) (show y + 1 ≤ x by omega)
    omega
/-- the order of those who stay -/
def shF (l : List En) (C : Int) (ord : List Int) : List Int := (ord.filter (keepF l C)).map (fK l C)
theorem ord_nat {n : Nat} {T : List Int} (hT : Ord n T) {k : Int} (hk : k ∈ T) : ∃ j : Nat, k = j ∧ j < n := ⟨k.toNat, by have := hT.bd k hk; omega, by have := hT.bd k hk; omega⟩
theorem shF_isO {l : List En} {C : Int} {ord : List Int} (hT : Ord l.length ord) : isO (restF l C).length (shF l C ord) = true := by
  have hlen : (ord.filter (keepF l C)).length = (restF l C).length := by
    unfold restF
    rw [← List.countP_eq_length_filter, ← List.countP_eq_length_filter, hT.perm.countP_eq, List.countP_map]
    have e : l = (List.range l.length).map fun i => (l[i]?).getD ⟨0, 0, 0, none, 0, []⟩ := by
      apply List.ext_getElem
      · simp
      · intro i h1 h2
        simp [h1]
    conv => rhs; rw [e, List.countP_map]
    apply List.countP_congr
    intro i hi
    have hi := List.mem_range.1 hi
    have := keep_at (C := C) hi
    simp only [Function.comp]
    rw [List.getElem?_eq_getElem hi]
    show keepF l C (i : Int) = true ↔ _
    rw [this]
    rfl
  have hnd : (shF l C ord).Nodup := by
    unfold shF List.Nodup
    rw [List.pairwise_map]
    have h0 : (ord.filter (keepF l C)).Nodup := hT.nd.sublist List.filter_sublist
    rw [List.pairwise_iff_getElem]
    intro i j hi hj hij he
    have hm1 := List.mem_filter.1 (List.getElem_mem hi)
    have hm2 := List.mem_filter.1 (List.getElem_mem hj)
    have b1 := hT.bd _ hm1.1
    have b2 := hT.bd _ hm2.1
    have := fK_inj b1.1 b1.2 hm1.2 b2.1 b2.2 hm2.2 he
    exact List.pairwise_iff_getElem.1 h0 i j hi hj hij this
  unfold isO
  rw [decide_eq_true (show (shF l C ord).length = (restF l C).length by unfold shF; rw [List.length_map]; exact hlen), decide_eq_true hnd, Bool.and_true, Bool.true_and, List.all_eq_true]
  intro y hy
  obtain ⟨k, hk, rfl⟩ := List.mem_map.1 hy
  have hm := List.mem_filter.1 hk
  obtain ⟨j, rfl, hj⟩ := ord_nat hT hm.1
  have h1 := rest_at hj hm.2
  have h2 := (List.getElem?_eq_some_iff.1 h1).1
  unfold fK
  rw [Int.toNat_natCast]
  simp
  omega
theorem at_rest {l : List En} {C : Int} {k : Int} (h0 : 0 ≤ k) (hk : k < l.length) (hp : keepF l C k = true) : (restF l C)[(fK l C k).toNat]? = l[k.toNat]? := by
  obtain ⟨j, rfl⟩ : ∃ j : Nat, k = j := ⟨k.toNat, by omega⟩
  unfold fK
  rw [Int.toNat_natCast, Int.toNat_natCast, rest_at (by omega) hp, List.getElem?_eq_getElem]
theorem trn_rest {l : List En} {C : Int} {ord : List Int} (hT : Ord l.length ord) : trn (restF l C) (shF l C ord) = ((trn l ord).filter (keepF l C)).map (fK l C) := by
  have hb : ∀ k ∈ ord.filter (keepF l C), 0 ≤ k ∧ k < l.length ∧ keepF l C k = true := fun k hk => by
    have hm := List.mem_filter.1 hk
    exact ⟨(hT.bd k hm.1).1, (hT.bd k hm.1).2, hm.2⟩
  have e1 : srt (clsF (restF l C)) (shF l C ord) = ((srt (clsF l) ord).filter (keepF l C)).map (fK l C) := by
    unfold shF
    rw [srt_map (clsF l) (clsF (restF l C)) (fK l C) _ (fun k hk => by
      obtain ⟨h0, h1, h2⟩ := hb k hk
      unfold clsF
      rw [at_rest h0 h1 h2])]
    congr 1
    exact (srt_filter (clsF l) C ord).symm
  have hQ : ∀ k ∈ (srt (clsF l) ord).filter (keepF l C), 0 ≤ k ∧ k < l.length ∧ keepF l C k = true := fun k hk => by
    have hm := List.mem_filter.1 hk
    have h2 := (srt_perm (clsF l) ord).mem_iff.1 hm.1
    exact ⟨(hT.bd k h2).1, (hT.bd k h2).2, hm.2⟩
  unfold trn
  rw [e1]
  have e2 := tl_map (relF l) (relF (restF l C)) (fK l C) ((srt (clsF l) ord).filter (keepF l C)) [] (fun a ha b hb2 => by
    obtain ⟨a0, a1, a2⟩ := hQ a ha
    obtain ⟨b0, b1, b2⟩ := hQ b hb2
    unfold relF
    rw [at_rest a0 a1 a2, at_rest b0 b1 b2]) (fun a ha b hb2 he => by
    rw [List.append_nil] at hb2
    obtain ⟨a0, a1, a2⟩ := hQ a ha
    obtain ⟨b0, b1, b2⟩ := hQ b hb2
    exact fK_inj a0 a1 a2 b0 b1 b2 he)
  rw [List.map_nil] at e2
  rw [e2]
  congr 1
  refine (tl_filter (relF l) (keepF l C) (fun a b h => ?_) (srt (clsF l) ord) [] [] (fun m _ _ => Iff.rfl)).symm
  unfold keepF
  rw [relF_cls h]
theorem simA {l : List En} {C : Int} {ps : List (ByteArray × Int)} : ∀ A : List Int, (∀ k ∈ A, (0 : Int) ≤ k ∧ k < l.length ∧ keepF l C k = true) →
    (gA (restF l C) ps (A.map (fK l C))).1 = (gA l ps A).1 ∧ ∀ k : Int, 0 ≤ k → k < l.length → keepF l C k = true → xa (gA (restF l C) ps (A.map (fK l C))).2 (fK l C k) = xa (gA l ps A).2 k := by
  intro A
  induction A using rev_ind with
  | nil =>
    intro _
    refine ⟨rfl, fun k h0 h1 h2 => ?_⟩
    have hrep : ∀ (n : Nat) (i : Int), xa (List.replicate n noN) i = noN := by
      intro n i
      unfold xa
      rw [List.getElem?_replicate]
      split <;> rfl
    show xa (List.replicate _ noN) _ = xa (List.replicate _ noN) _
    rw [hrep, hrep]
  | append_singleton A k ih =>
    intro hA
    obtain ⟨h1, h2⟩ := ih (fun j hj => hA j (List.mem_append_left _ hj))
    obtain ⟨k0, k1, k2⟩ := hA k (by simp)
    rw [List.map_append, List.map_cons, List.map_nil, gA_snoc, gA_snoc]
    have hl1 : (gA l ps A).2.length = l.length := by rw [foldA_len]; simp [asg0]
    have hl2 : (gA (restF l C) ps (A.map (fK l C))).2.length = (restF l C).length := by rw [foldA_len]; simp [asg0]
    have hw : wsh (restF l C) (fK l C k) = wsh l k := by
      unfold wsh
      rw [at_rest k0 k1 k2]
    have hfl : fK l C k < (restF l C).length ∧ 0 ≤ fK l C k := by
      obtain ⟨j, rfl⟩ : ∃ j : Nat, k = j := ⟨k.toNat, by omega⟩
      have := (List.getElem?_eq_some_iff.1 (rest_at (by omega) k2)).1
      unfold fK
      rw [Int.toNat_natCast]
      omega
    cases hf : (wsh l k).find? (avl (gA l ps A).1) with
    | none =>
      rw [stepA_none hf, stepA_none (by rw [hw, h1]; exact hf)]
      exact ⟨h1, h2⟩
    | some w0 =>
      rw [stepA_some hf, stepA_some (by rw [hw, h1]; exact hf)]
      refine ⟨by rw [h1], fun j j0 j1 j2 => ?_⟩
      have hfj : 0 ≤ fK l C j := Int.natCast_nonneg _
      show xa ((gA (restF l C) ps (A.map (fK l C))).2.set (fK l C k).toNat w0) (fK l C j) = xa ((gA l ps A).2.set k.toNat w0) j
      rw [xa_set hfl.2 (by rw [hl2]; exact hfl.1) hfj, xa_set k0 (by rw [hl1]; exact k1) j0]
      by_cases e : j = k
      · rw [if_pos e, if_pos (by rw [e])]
      · rw [if_neg e, if_neg (fun h => e (fK_inj j0 j1 j2 k0 k1 k2 h))]
        exact h2 j j0 j1 j2
/-- those who stay have the same places -/
theorem rest_same {l : List En} {C : Int} {ps : List (ByteArray × Int)} {ord : List Int} (hT : Ord l.length ord) {k : Int} (h0 : 0 ≤ k) (h1 : k < l.length) (h2 : keepF l C k = true) : xa (asg (restF l C) ps (shF l C ord)) (fK l C k) = xa (asg l ps ord) k := by
  have hT2 := hT.trn
  have hasc : (trn l ord).Pairwise (fun a b => clsF l a ≤ clsF l b) := tl_asc (fun a b h => relF_cls h) _ _ (srt_asc _ _)
  have hsp := asc_split (C := C) hasc
  show xa (gA (restF l C) ps (trn (restF l C) (shF l C ord))).2 _ = xa (gA l ps (trn l ord)).2 k
  rw [trn_rest hT]
  have hA : ∀ j ∈ (trn l ord).filter (keepF l C), 0 ≤ j ∧ j < l.length ∧ keepF l C j = true := fun j hj => by
    have hm := List.mem_filter.1 hj
    exact ⟨(hT2.bd j hm.1).1, (hT2.bd j hm.1).2, hm.2⟩
  rw [(simA _ hA).2 k h0 h1 h2]
  have e : trn l ord = (trn l ord).filter (keepF l C) ++ (trn l ord).filter fun y => !decide (clsF l y ≤ C) := hsp
  conv => rhs; rw [e]
  refine (gA_later l ps _ k h0 _ (fun m hm => ?_)).symm
  have hm := List.mem_filter.1 hm
  refine ⟨(hT2.bd m hm.1).1, (hT2.bd m hm.1).2, ?_⟩
  rintro rfl
  unfold keepF at h2
  have := hm.2
  rw [h2] at this
  cases this
def wantF (l : List En) (C : Int) (a : List ByteArray) : List ByteArray := ((l.zip a).filter fun p => kp C p.1).map (·.2)
theorem zip_count (C : Int) : ∀ (l : List En) (a : List ByteArray) (k : Nat), l.length ≤ a.length → ((l.zip a).take k).countP (fun p => kp C p.1) = (l.take k).countP (kp C)
  | [], a, k, _ => by simp
  | e :: l, [], k, h => by simp at h
  | e :: l, x :: a, 0, _ => rfl
  | e :: l, x :: a, k + 1, h => by
    rw [List.zip_cons_cons, List.take_succ_cons, List.take_succ_cons, List.countP_cons, List.countP_cons, zip_count C l a k (by simpa using h)]
theorem want_same {l : List En} {C : Int} {ps : List (ByteArray × Int)} {ord : List Int} (hT : Ord l.length ord) : asg (restF l C) ps (shF l C ord) = wantF l C (asg l ps ord) := by
  have hal := asg_len l ps ord
  have harl := asg_len (restF l C) ps (shF l C ord)
  have hwl : (wantF l C (asg l ps ord)).length = (restF l C).length := by
    unfold wantF restF
    rw [List.length_map, ← List.countP_eq_length_filter, ← List.countP_eq_length_filter]
    have := zip_count C l (asg l ps ord) l.length (by omega)
    rw [List.take_of_length_le (by rw [List.length_zip]; omega), List.take_of_length_le (Nat.le_refl _)] at this
    exact this
  apply List.ext_getElem?
  intro j
  by_cases hj : j < (restF l C).length
  · obtain ⟨k, x, h1, h2, h3⟩ := filter_surj l j hj
    have hk : k < l.length := (List.getElem?_eq_some_iff.1 h1).1
    have hx : l[k] = x := by rw [List.getElem?_eq_getElem hk] at h1; simpa using h1
    have hkeep : keepF l C (k : Int) = true := by rw [keep_at hk, hx]; exact h2
    have hs := rest_same (ps := ps) hT (Int.natCast_nonneg k) (by omega) hkeep
    have hfk : (fK l C (k : Int)).toNat = j := by
      unfold fK
      rw [Int.toNat_natCast, Int.toNat_natCast]
      exact h3
    unfold xa at hs
    rw [hfk, Int.toNat_natCast, List.getElem?_eq_getElem (by omega), List.getElem?_eq_getElem (by omega)] at hs
    have hs : (asg (restF l C) ps (shF l C ord))[j]'(by omega) = (asg l ps ord)[k]'(by omega) := hs
    rw [List.getElem?_eq_getElem (by omega), hs]
    have hz : (l.zip (asg l ps ord))[k]? = some (x, (asg l ps ord)[k]'(by omega)) := by
      rw [List.getElem?_zip_eq_some]
      exact ⟨h1, List.getElem?_eq_getElem (by omega)⟩
    have := filter_at (p := fun p : En × ByteArray => kp C p.1) (l.zip (asg l ps ord)) k _ hz h2
    rw [zip_count C l _ k (by omega), h3] at this
    unfold wantF
    rw [List.getElem?_map, this]
    rfl
  · rw [List.getElem?_eq_none (by omega), List.getElem?_eq_none (by omega)]
end Go.Proofs.YtfjbioghpgmkiaaGreatDoor
