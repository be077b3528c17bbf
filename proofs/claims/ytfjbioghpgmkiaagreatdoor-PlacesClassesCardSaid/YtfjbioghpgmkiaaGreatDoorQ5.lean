/- Merged texts of ours: Se Za; conditions are the hypotheses of each law. -/
import Derived.Test.YtfjbioghpgmkiaaGreatDoorQ4
import Derived.Test.YtfjbioghpgmkiaaGreatDoorTie
import Derived.Test.YtfjbioghpgmkiaaGreatDoorCards
import Derived.WalkKit
import Derived.ProofKit
import Derived.OpenShut
import Derived.Carry
import Derived.Deep.Slices
import Derived.SizedLaws
import Derived.LaidLaws
import Derived.LaidHandle
import Derived.ChangeVars
import Derived.JoinedOf
import Derived.RowKit
/- The law PlacesClasses returns true; conditions: the plan lies in memory. -/
namespace Go.Proofs.YtfjbioghpgmkiaaGreatDoor
open Go.Eng Go.Dig

def atV (l : List En) (C : Int) (k : Nat) : Int := if keepF l C (k : Int) = true then (rk l C k : Int) else -1
def atL (l : List En) (C : Int) (i : Nat) : List Int := (List.range i).map (atV l C)
theorem atL_len (l : List En) (C : Int) (i : Nat) : (atL l C i).length = i := by simp [atL]
theorem atL_snoc (l : List En) (C : Int) (i : Nat) : atL l C (i + 1) = atL l C i ++ [atV l C i] := by simp [atL, List.range_succ]
theorem atL_get {l : List En} {C : Int} {n k : Nat} (h : k < n) : (atL l C n)[k]? = some (atV l C k) := by
  unfold atL
  rw [List.getElem?_map, List.getElem?_range h]
  rfl
def wantZ (l : List En) (C : Int) (a : List ByteArray) (i : Nat) : List ByteArray := (((l.zip a).take i).filter fun p => kp C p.1).map (·.2)
theorem restF_snoc {l : List En} {C : Int} {i : Nat} (h : i < l.length) : restF (l.take (i + 1)) C = restF (l.take i) C ++ if kp C l[i] = true then [l[i]] else [] := by
  unfold restF
  rw [List.take_succ_eq_append_getElem h, List.filter_append]
  congr 1
  by_cases hk : kp C l[i] = true <;> simp [hk]
theorem wantZ_snoc {l : List En} {C : Int} {a : List ByteArray} {i : Nat} (h : i < l.length) (h2 : i < a.length) : wantZ l C a (i + 1) = wantZ l C a i ++ if kp C l[i] = true then [a[i]] else [] := by
  unfold wantZ
  rw [List.take_succ_eq_append_getElem (by rw [List.length_zip]; omega), List.filter_append, List.map_append, List.getElem_zip]
  congr 1
  by_cases hk : kp C l[i] = true <;> simp [hk]
theorem restF_rk (l : List En) (C : Int) (i : Nat) : (restF (l.take i) C).length = rk l C i := by
  unfold restF rk
  rw [List.countP_eq_length_filter]
theorem restF_le (l : List En) (C : Int) (i : Nat) : (restF (l.take i) C).length ≤ l.length := by
  unfold restF
  exact Nat.le_trans (List.length_filter_le _ _) (by rw [List.length_take]; omega)
theorem wantZ_le (l : List En) (C : Int) (a : List ByteArray) (i : Nat) : (wantZ l C a i).length ≤ l.length := by
  unfold wantZ
  rw [List.length_map]
  refine Nat.le_trans (List.length_filter_le _ _) ?_
  rw [List.length_take, List.length_zip]
  omega
theorem shF_le (l : List En) (C : Int) (o : List Int) (i : Nat) : (shF l C (o.take i)).length ≤ o.length := by
  unfold shF
  rw [List.length_map]
  refine Nat.le_trans (List.length_filter_le _ _) ?_
  rw [List.length_take]
  omega
theorem restF_mem {l : List En} {C : Int} {e : En} (h : e ∈ restF l C) : e ∈ l := by
  unfold restF at h
  exact (List.mem_filter.1 h).1
theorem Dn.putV {b m i : Nat} {V V' : Nat → Value} {F0 F : Fr} {D : Nat → Bool} (h : Dn b m V F0 D F) (hi : i < m) (hV : ∀ j, j < m → j ≠ i → V' j = V j) : Dn b m V' F0 (fun j => D j || Nat.beq j i) (F.put (b + i) (V' i)) := by
  refine ⟨fun j hj hD => ?_, fun s hs => ?_⟩
  · by_cases hji : j = i
    · subst hji
      have : Nat.beq (b + j) (b + j) = true := Nat.beq_refl _
      simp [Fr.put]
    · have h1 : Nat.beq j i = false := nbeq_false hji
      rw [h1, Bool.or_false] at hD
      have h2 : Nat.beq (b + j) (b + i) = false := nbeq_false (by omega)
      simp only [Fr.put, h2, cond_false]
      rw [h.at_ j hj hD, hV j hj hji]
  · have h2 : Nat.beq s (b + i) = false := nbeq_false (by omega)
    simp only [Fr.put, h2, cond_false]
    exact h.out s hs
def prd : Nat → List Nat
  | 2 => [1]
  | 3 => [0, 2]
  | 7 => [5, 6]
  | 8 => [7]
  | 9 => [8]
  | 10 => [3, 4, 9]
  | 11 => List.range 11
  | 12 => List.range 12
  | _ => []
def Cl (D : Nat → Bool) : Prop := ∀ a b, D a = true → b ∈ prd a → D b = true
theorem Cl.add {D : Nat → Bool} {q : Nat} (h : Cl D) (hq : ∀ p ∈ prd q, D p = true) : Cl (fun j => D j || Nat.beq j q) := by
  intro a b ha hb
  rcases Bool.or_eq_true _ _ ▸ ha with h1 | h1
  · show (D b || _) = true
    rw [h a b h1 hb]
    rfl
  · have : a = q := Nat.eq_of_beq_eq_true h1
    subst this
    show (D b || _) = true
    rw [hq b hb]
    rfl
/-- the slots of the region of the two appends -/
def twV (s1 : Option Addr) (n1 c1 : Nat) (e : En) (s2 : Option Addr) (n2 c2 : Nat) (ab n : Nat) (i : Nat) (pl : ByteArray) (nb : Nat) (t1 : Option Addr) (d1 : Nat) (nb2 : Nat) (t2 : Option Addr) (d2 : Nat) : Nat → Value :=
  frOf [.slice s1 n1 c1, .agg (eE e).toArray, .slice (some ⟨nb, 0, none⟩) 1 1, .slice t1 (n1 + 1) d1, .slice s2 n2 c2, .slice (some ⟨ab, 0, none⟩) n n, .int .i64 (i : Int), .pointer (some ⟨ab, 0 + i * 1, none⟩), .string pl, .slice (some ⟨nb2, 0, none⟩) 1 1, .slice t2 (n2 + 1) d2]
/-- what is owned there -/
def twL (B : List Ent) (R : List En) (WW : List ByteArray) (e : En) (pl : ByteArray) (s1 : Option Addr) (c1 : Nat) (s2 : Option Addr) (c2 : Nat) (nb : Nat) (t1 : Option Addr) (d1 : Nat) (nb2 : Nat) (t2 : Option Addr) (d2 : Nat) (b2 b3 b9 b10 : Bool) : List Ent :=
  (bif b3 then ownL eE 41 6 t1 d1 (R ++ [e]) else ownL eE 41 6 s1 c1 R) :: (bif b10 then ownL eS 9 1 t2 d2 (WW ++ [pl]) else ownL eS 9 1 s2 c2 WW) :: (bif b2 then blk nb 6 (frOf (eE e)) 41 else ownL eI 3 1 none 0 []) :: (bif b9 then blk nb2 1 (frOf [.string pl]) 9 else ownL eI 3 1 none 0 []) :: B
theorem Hp.in2 {w0 w : World} {M : List Nat} {x a b c : Ent} {B : List Ent} (h : Hp w0 M w (x :: a :: b :: c :: B)) : Hp w0 M w (a :: b :: x :: B) :=
  (h.perm (((List.Perm.swap a x (b :: c :: B)).trans ((List.Perm.swap b x (c :: B)).cons a)).trans (((List.Perm.swap c x B).cons b).cons a))).sub (((List.Sublist.cons c (List.Sublist.refl _)).cons_cons b).cons_cons a)
theorem Hp.in3 {w0 w : World} {M : List Nat} {x a b c d : Ent} {B : List Ent} (h : Hp w0 M w (x :: a :: b :: c :: d :: B)) : Hp w0 M w (a :: b :: c :: x :: B) :=
  (h.perm (((List.Perm.swap a x (b :: c :: d :: B)).trans ((List.Perm.swap b x (c :: d :: B)).cons a)).trans ((((List.Perm.swap c x (d :: B)).cons b).cons a).trans ((((List.Perm.swap d x B).cons c).cons b).cons a)))).sub ((((List.Sublist.cons d (List.Sublist.refl _)).cons_cons c).cons_cons b).cons_cons a)
theorem aft_of {ops : Array Oper} {i : Nat} {D : Nat → Bool} (h : aftOK ops i D = true) (k : Nat) (hk : ((opAt ops i).after.toList.any fun e => Region.binds .any e && Nat.beq e.on k) = true) : D k = true := by
  obtain ⟨e, he, h1⟩ := List.any_eq_true.1 hk
  have h2 := List.all_eq_true.1 h e he
  rw [Bool.and_eq_true] at h1
  rw [h1.1] at h2
  have h3 : e.on = k := Nat.eq_of_beq_eq_true h1.2
  rw [h3] at h2
  simpa using h2
theorem al0 {D : Nat → Bool} : ∀ p ∈ ([] : List Nat), D p = true := fun p h => by cases h
theorem al1 {D : Nat → Bool} {a : Nat} (ha : D a = true) : ∀ p ∈ [a], D p = true := fun p h => by
  rcases List.mem_cons.1 h with rfl | h
  · exact ha
  · cases h
theorem al2 {D : Nat → Bool} {a b : Nat} (ha : D a = true) (hb : D b = true) : ∀ p ∈ [a, b], D p = true := fun p h => by
  rcases List.mem_cons.1 h with rfl | h
  · exact ha
  · exact al1 hb p h
theorem al3 {D : Nat → Bool} {a b c : Nat} (ha : D a = true) (hb : D b = true) (hc : D c = true) : ∀ p ∈ [a, b, c], D p = true := fun p h => by
  rcases List.mem_cons.1 h with rfl | h
  · exact ha
  · exact al2 hb hc p h
def twI (w3 : World) (F0 : Fr) (B : List Ent) (R : List En) (WW : List ByteArray) (e : En) (pl : ByteArray) (s1 : Option Addr) (c1 : Nat) (s2 : Option Addr) (c2 : Nat) (ab n i : Nat) (D : Nat → Bool) (F : Fr) (w' : World) : Prop :=
  ∃ (nb : Nat) (t1 : Option Addr) (d1 : Nat) (nb2 : Nat) (t2 : Option Addr) (d2 : Nat) (G : Fr), Dn 72 11 (twV s1 R.length c1 e s2 WW.length c2 ab n i pl nb t1 d1 nb2 t2 d2) F0 D G ∧
    F = (bif D 12 then (G.put 13 (.slice t1 (R.length + 1) d1)).put 14 (.slice t2 (WW.length + 1) d2) else bif D 11 then G.put 13 (.slice t1 (R.length + 1) d1) else G) ∧ Cl D ∧ (D 3 = true → SVL t1 d1 (R ++ [e])) ∧ (D 10 = true → SVL t2 d2 (WW ++ [pl])) ∧
    Hp w3 [] w' (twL B R WW e pl s1 c1 s2 c2 nb t1 d1 nb2 t2 d2 (D 2) (D 3) (D 9) (D 10))
section
variable {w3 : World} {F0 : Fr} {B : List Ent} {R : List En} {WW : List ByteArray} {e : En} {pl : ByteArray} {s1 : Option Addr} {c1 : Nat} {s2 : Option Addr} {c2 : Nat} {ab n i : Nat} {D : Nat → Bool} {F : Fr} {w' : World} {q nb : Nat} {t1 : Option Addr} {d1 nb2 : Nat} {t2 : Option Addr} {d2 : Nat}
theorem twI.mk (nb' : Nat) (t1' : Option Addr) (d1' : Nat) (nb2' : Nat) (t2' : Option Addr) (d2' : Nat) (hq : q < 11) (hDn : Dn 72 11 (twV s1 R.length c1 e s2 WW.length c2 ab n i pl nb t1 d1 nb2 t2 d2) F0 D F)
    (hV : ∀ j, j < 11 → j ≠ q → twV s1 R.length c1 e s2 WW.length c2 ab n i pl nb' t1' d1' nb2' t2' d2' j = twV s1 R.length c1 e s2 WW.length c2 ab n i pl nb t1 d1 nb2 t2 d2 j) (hcl : Cl D) (hpr : ∀ p ∈ prd q, D p = true) (h11 : D 11 = false) (h12 : D 12 = false) (b2 b3 b9 b10 : Bool)
    (e2 : (D 2 || Nat.beq 2 q) = b2) (e3 : (D 3 || Nat.beq 3 q) = b3) (e9 : (D 9 || Nat.beq 9 q) = b9) (e10 : (D 10 || Nat.beq 10 q) = b10) (h3 : b3 = true → SVL t1' d1' (R ++ [e])) (h10 : b10 = true → SVL t2' d2' (WW ++ [pl]))
    (hp : Hp w3 [] w' (twL B R WW e pl s1 c1 s2 c2 nb' t1' d1' nb2' t2' d2' b2 b3 b9 b10)) :
    twI w3 F0 B R WW e pl s1 c1 s2 c2 ab n i (fun j => D j || Nat.beq j q) (F.put (72 + q) (twV s1 R.length c1 e s2 WW.length c2 ab n i pl nb' t1' d1' nb2' t2' d2' q)) w' := by
  have f1 : Nat.beq 11 q = false := nbeq_false (by omega)
  have f2 : Nat.beq 12 q = false := nbeq_false (by omega)
  subst e2 e3 e9 e10
  refine ⟨nb', t1', d1', nb2', t2', d2', _, Dn.putV hDn hq hV, ?_, hcl.add hpr, h3, h10, hp⟩
  simp only [h11, h12, f1, f2, Bool.or_false, cond_false]
theorem twI.pure (hq : q < 11) (n2 : q ≠ 2) (n3 : q ≠ 3) (n9 : q ≠ 9) (n10 : q ≠ 10) (hDn : Dn 72 11 (twV s1 R.length c1 e s2 WW.length c2 ab n i pl nb t1 d1 nb2 t2 d2) F0 D F) (hcl : Cl D) (h11 : D 11 = false) (h12 : D 12 = false)
    (h3 : D 3 = true → SVL t1 d1 (R ++ [e])) (h10 : D 10 = true → SVL t2 d2 (WW ++ [pl])) (hp : Hp w3 [] w' (twL B R WW e pl s1 c1 s2 c2 nb t1 d1 nb2 t2 d2 (D 2) (D 3) (D 9) (D 10))) (hpr : ∀ p ∈ prd q, D p = true) :
    twI w3 F0 B R WW e pl s1 c1 s2 c2 ab n i (fun j => D j || Nat.beq j q) (F.put (72 + q) (twV s1 R.length c1 e s2 WW.length c2 ab n i pl nb t1 d1 nb2 t2 d2 q)) w' := by
  have g : ∀ a, q ≠ a → (D a || Nat.beq a q) = D a := fun a h => by rw [nbeq_false (fun e => h e.symm), Bool.or_false]
  exact twI.mk nb t1 d1 nb2 t2 d2 hq hDn (fun _ _ _ => rfl) hcl hpr h11 h12 _ _ _ _ (g 2 n2) (g 3 n3) (g 9 n9) (g 10 n10) h3 h10 hp
theorem twI.fin {G : Fr} (hq : 11 ≤ q) (hDn : Dn 72 11 (twV s1 R.length c1 e s2 WW.length c2 ab n i pl nb t1 d1 nb2 t2 d2) F0 D G) (hcl : Cl D) (hpr : ∀ p ∈ prd q, D p = true)
    (h3 : D 3 = true → SVL t1 d1 (R ++ [e])) (h10 : D 10 = true → SVL t2 d2 (WW ++ [pl])) (hp : Hp w3 [] w' (twL B R WW e pl s1 c1 s2 c2 nb t1 d1 nb2 t2 d2 (D 2) (D 3) (D 9) (D 10))) 
    (hF : F = bif (D 12 || Nat.beq 12 q) then (G.put 13 (.slice t1 (R.length + 1) d1)).put 14 (.slice t2 (WW.length + 1) d2) else bif (D 11 || Nat.beq 11 q) then G.put 13 (.slice t1 (R.length + 1) d1) else G) :
    twI w3 F0 B R WW e pl s1 c1 s2 c2 ab n i (fun j => D j || Nat.beq j q) F w' := by
  have g : ∀ a, a < 11 → (D a || Nat.beq a q) = D a := fun a h => by rw [nbeq_false (show a ≠ q by omega), Bool.or_false]
  refine ⟨nb, t1, d1, nb2, t2, d2, G, hDn.congr (fun j hj => g j hj), hF, hcl.add hpr, fun h => h3 (by rw [← g 3 (by decide)]; exact h), fun h => h10 (by rw [← g 10 (by decide)]; exact h), ?_⟩
  show Hp w3 [] w' (twL B R WW e pl s1 c1 s2 c2 nb t1 d1 nb2 t2 d2 (D 2 || Nat.beq 2 q) (D 3 || Nat.beq 3 q) (D 9 || Nat.beq 9 q) (D 10 || Nat.beq 10 q))
  rw [g 2 (by decide), g 3 (by decide), g 9 (by decide), g 10 (by decide)]
  exact hp
theorem twV2 {nb' : Nat} : ∀ j, j < 11 → j ≠ 2 → twV s1 R.length c1 e s2 WW.length c2 ab n i pl nb' t1 d1 nb2 t2 d2 j = twV s1 R.length c1 e s2 WW.length c2 ab n i pl nb t1 d1 nb2 t2 d2 j := by
  intro j hj hne
  match j, hj, hne with
  | 0, _, _ => rfl
  | 1, _, _ => rfl
  | 2, _, h => exact absurd rfl h
  | 3, _, _ => rfl
  | 4, _, _ => rfl
  | 5, _, _ => rfl
  | 6, _, _ => rfl
  | 7, _, _ => rfl
  | 8, _, _ => rfl
  | 9, _, _ => rfl
  | 10, _, _ => rfl
  | j + 11, h, _ => exact absurd h (by omega)
theorem twV3 {t1' : Option Addr} {d1' : Nat} : ∀ j, j < 11 → j ≠ 3 → twV s1 R.length c1 e s2 WW.length c2 ab n i pl nb t1' d1' nb2 t2 d2 j = twV s1 R.length c1 e s2 WW.length c2 ab n i pl nb t1 d1 nb2 t2 d2 j := by
  intro j hj hne
  match j, hj, hne with
  | 0, _, _ => rfl
  | 1, _, _ => rfl
  | 2, _, _ => rfl
  | 3, _, h => exact absurd rfl h
  | 4, _, _ => rfl
  | 5, _, _ => rfl
  | 6, _, _ => rfl
  | 7, _, _ => rfl
  | 8, _, _ => rfl
  | 9, _, _ => rfl
  | 10, _, _ => rfl
  | j + 11, h, _ => exact absurd h (by omega)
theorem twV9 {nb2' : Nat} : ∀ j, j < 11 → j ≠ 9 → twV s1 R.length c1 e s2 WW.length c2 ab n i pl nb t1 d1 nb2' t2 d2 j = twV s1 R.length c1 e s2 WW.length c2 ab n i pl nb t1 d1 nb2 t2 d2 j := by
  intro j hj hne
  match j, hj, hne with
  | 0, _, _ => rfl
  | 1, _, _ => rfl
  | 2, _, _ => rfl
  | 3, _, _ => rfl
  | 4, _, _ => rfl
  | 5, _, _ => rfl
  | 6, _, _ => rfl
  | 7, _, _ => rfl
  | 8, _, _ => rfl
  | 9, _, h => exact absurd rfl h
  | 10, _, _ => rfl
  | j + 11, h, _ => exact absurd h (by omega)
theorem twV10 {t2' : Option Addr} {d2' : Nat} : ∀ j, j < 11 → j ≠ 10 → twV s1 R.length c1 e s2 WW.length c2 ab n i pl nb t1 d1 nb2 t2' d2' j = twV s1 R.length c1 e s2 WW.length c2 ab n i pl nb t1 d1 nb2 t2 d2 j := by
  intro j hj hne
  match j, hj, hne with
  | 0, _, _ => rfl
  | 1, _, _ => rfl
  | 2, _, _ => rfl
  | 3, _, _ => rfl
  | 4, _, _ => rfl
  | 5, _, _ => rfl
  | 6, _, _ => rfl
  | 7, _, _ => rfl
  | 8, _, _ => rfl
  | 9, _, _ => rfl
  | 10, _, h => exact absurd rfl h
  | j + 11, h, _ => exact absurd h (by omega)
end
theorem shF_snoc {l : List En} {C : Int} {o : List Int} {j : Nat} (h : j < o.length) : shF l C (o.take (j + 1)) = shF l C (o.take j) ++ if keepF l C o[j] = true then [fK l C o[j]] else [] := by
  unfold shF
  rw [List.take_succ_eq_append_getElem h, List.filter_append, List.map_append]
  congr 1
  by_cases hk : keepF l C o[j] = true <;> simp [hk]

attribute [local irreducible] PV StepF wpl wpd WP Ret
attribute [local irreducible] Fit srt tl fl seenL stO isO trn fact ordN rfO num asg nmI restF wantZ shF rk keepF

set_option maxHeartbeats 16000000 in
theorem c3 (lp : List (Int × Int)) (le : List Pe) (sp se : Option Addr) (cp ce : Nat) (a C : Int) (w : World) (hsp : SlAt w 2 eT2 sp lp) (hse : SlAt w 3 ePe se le) (hsw : ∀ p ∈ le, SlAt w 1 eI p.ws p.wl) (hpr : ∀ p ∈ lp, p.2 ≤ 9223372036854775807) (ha : a ≤ 9223372036854775807) :
    Ret Tryz.prog 3 [.agg #[.slice sp lp.length cp, .slice se le.length ce], .int .i64 a, .int .i64 C] w (fun v w' => v = .bool true ∧ Keeps [] w w') := by
  have hpm := mkP_le hpr
  have hps := mkP_len lp
  refine Ret.of_WP Tryz.func3 rfl Tryz.ntmps3 rfl ?_
  have hp := Hp.start (M := []) (w := w)
  (repeat (with_reducible first | apply WP_seq | apply WP_region))
  (apply wls; exact sbox2 hp rfl; rintro _ w1 ⟨qb, rfl, hp⟩)
  (repeat (first | (with_reducible first | apply WP_seq | apply WP_region | apply wpl_nil | apply thenQ_n) | (apply wlp; apply pv_assign; exact fB rfl)))
  (apply wls; exact st_call rfl ent11 rfl (p11 _))
  rintro _ w2 ⟨rfl, hk⟩
  have hp := hp.call hk
  (repeat (first | (with_reducible first | apply WP_seq | apply WP_region | apply wpl_nil | apply thenQ_n) | (apply wlp; ((first | apply pv_assign | (apply pf_loadb; exact rfl)) <;> (first | exact rfl | exact hp.agg_blk 0 rfl rfl)); (first | exact fB rfl | exact fA2 rfl))))
  (apply wls; exact st_call rfl ent12 rfl (p12 lp le sp se cp ce _ (hsp.keep0 hp.keeps) (hse.keep0 hp.keeps) (fun p hp2 => (hsw p hp2).keep0 hp.keeps)))
  rintro _ w3 ⟨sP, cP, s, c, l, rfl, hP, hE, hec, hev, hlc, hk⟩
  have hp := hp.call hk
  have hk3 := hp.keeps
  have hl8 := mkE_len hev
  generalize hPS : (lp.take 6).map mkP = ps at hpm hps hP
  clear hp
  have hp := Hp.start (M := []) (w := w3)
  (repeat (apply wlp; ((first | apply pv_move | apply pv_extract) <;> exact rfl); (first | exact fS rfl | exact fA13 rfl | exact fU rfl)))
  (apply wls; exact salloc13 hp (zeroTy_ok rfl); rintro _ w4 ⟨db, rfl, hp⟩)
  (apply wls0; exact sstore13 hp 0 rfl rfl rfl rfl (sizeTy_ok rfl) rfl; rintro _ w5 ⟨rfl, hp⟩)
  have hp := hp.norm 0 (dB xN 2 sP ps.length cP) rfl rfl
  (repeat (first | (with_reducible first | apply WP_seq | apply WP_region | apply wpl_nil | apply thenQ_n) | (apply wlp; ((first | apply pv_move | apply pv_assign | (apply pf_len; exact rfl)) <;> exact rfl); (first | exact fI rfl | exact fS rfl))))
  (apply wls; exact st_call rfl ent13 rfl (p13 l.length a _ (by omega) ha))
  rintro _ w9 ⟨so, co, rfl, hvo, hpo⟩
  have hp := hp.join hpo
  clear hpo
  have hX := shX_lt l.length a
  rw [← ord_rf l.length _ hX] at hvo hp ⊢
  have hol := ordN_len l.length (shX l.length a)
  have hio := ord_isO hX
  generalize ordN l.length (shX l.length a) = o at hol hio hvo hp
  have hOrd := Ord.of hio
  have hp : Hp w3 [] w9 [ownL eI 3 1 so co o, blk db 13 (frOf (dB xN 2 sP ps.length cP)) 32] := hp
  (repeat (first | (with_reducible first | apply WP_seq | apply WP_region | apply wpl_nil | apply thenQ_n) | (apply wlp; ((first | apply pv_move | apply pv_assign | (apply pf_loadb; exact rfl)) <;> (first | exact rfl | exact hp.agg_blk 1 rfl rfl)); (first | exact fS rfl | exact fA13 rfl))))
  (apply wls; exact st_call rfl ent14 rfl (p14 xN ps l o s sP so c cP co _ (hE.keep0 hp.keeps) (hP.keep0 hp.keeps) (ownL_At hp 0 rfl hvo (fun _ => rfl)) (by omega) hps hpm hio (svl_none hvo)))
  rintro _ w10 ⟨ab, rfl, hva, hpo⟩
  have hp := hp.join hpo
  clear hpo
  have hAl := asg_len l ps o
  have hws := want_same (C := C) (ps := ps) hOrd
  have hshO := shF_isO (C := C) hOrd
  obtain ⟨A, hA⟩ : ∃ A, A = asg l ps o := ⟨_, rfl⟩
  rw [← hA] at hva hp hAl hws
  have hwz : wantF l C A = wantZ l C A l.length := by
    unfold wantZ
    rw [List.take_of_length_le (by rw [List.length_zip]; omega)]
    rfl
  rw [hwz] at hws
  (repeat (first | (with_reducible first | apply WP_seq | apply WP_region | apply wpl_nil | apply thenQ_n) | (apply wlp; ((first | apply pv_move | apply pv_assign | (apply pf_len; exact rfl) | apply pv_extract) <;> exact rfl); (first | exact fI rfl | exact fB rfl | exact fS rfl | exact fU rfl))))
  (apply wls; exact sf_make eI 0 hp rfl rfl rfl rfl rfl rfl rfl (by omega) rfl; rintro _ w11 ⟨tb, rfl, hvt, hp⟩)
  have hp := (hp.nilL eS 9 1).nilL eE 41 6
  have hr0 : restF (l.take 0) C = [] := by unfold restF; rfl
  have hw0 : wantZ l C A 0 = [] := by unfold wantZ; rfl
  have hp : Hp w3 [] w11 [ownL eE 41 6 none 0 (restF (l.take 0) C), ownL eS 9 1 none 0 (wantZ l C A 0), ownL eI 3 1 (some ⟨tb, 0, none⟩) l.length (atL l C 0 ++ List.replicate (l.length - 0) 0), ownL eS 9 1 (some ⟨ab, 0, none⟩) l.length A, ownL eI 3 1 so co o, blk db 13 (frOf (dB xN 2 sP ps.length cP)) 32] := by
    rw [hr0, hw0]
    exact hp
  have hv1 : SVL none 0 (restF (l.take 0) C) := by rw [hr0]; exact .nil
  have hv2 : SVL none 0 (wantZ l C A 0) := by rw [hw0]; exact .nil
  clear hvt
  (repeat (first | (with_reducible first | apply WP_seq | apply WP_block | apply WP_region | apply wpl_nil | apply thenQ_n) | (apply wlp; ((first | apply pv_move | apply pv_assign | (apply pf_len; exact rfl)) <;> exact rfl); (first | exact fI rfl | exact fS rfl))))
  refine WP_loopS [13, 14, 16, 17, 45, 46, 47, 48, 49, 50, 51, 52, 53, 54, 55, 56, 57, 58, 59, 60, 61, 62, 63, 64, 65, 66, 67, 68, 69, 70, 71, 72, 73, 74, 75, 76, 77, 78, 79, 80, 81, 82, 83] (fun (X : Nat × (Option Addr × Nat) × (Option Addr × Nat)) F => ((F.put 13 (.slice X.2.1.1 (restF (l.take X.1) C).length X.2.1.2)).put 14 (.slice X.2.2.1 (wantZ l C A X.1).length X.2.2.2)).put 45 (.int .i64 (X.1 : Int)))
    (fun X w' => X.1 ≤ l.length ∧ SVL X.2.1.1 X.2.1.2 (restF (l.take X.1) C) ∧ SVL X.2.2.1 X.2.2.2 (wantZ l C A X.1) ∧ Hp w3 [] w' [ownL eE 41 6 X.2.1.1 X.2.1.2 (restF (l.take X.1) C), ownL eS 9 1 X.2.2.1 X.2.2.2 (wantZ l C A X.1), ownL eI 3 1 (some ⟨tb, 0, none⟩) l.length (atL l C X.1 ++ List.replicate (l.length - X.1) 0), ownL eS 9 1 (some ⟨ab, 0, none⟩) l.length A, ownL eI 3 1 so co o, blk db 13 (frOf (dB xN 2 sP ps.length cP)) 32]) (fun X => l.length - X.1) (0, (none, 0), (none, 0)) (put_self (put_self (put_self (Same.eq .refl) (by show Value.slice none 0 0 = _; rw [hr0]; rfl)) (by show Value.slice none 0 0 = _; rw [hw0]; rfl)) rfl) ⟨Nat.zero_le _, hv1, hv2, hp⟩ ?_
  (repeat clear hp)
  clear hv1 hv2
  rintro u ⟨i, ⟨s1, c1⟩, ⟨s2, c2⟩⟩ w12 ⟨hi, hv1, hv2, hp⟩
  dsimp only at hi hv1 hv2 hp ⊢
  (repeat (first | (with_reducible first | apply WP_seq | apply WP_region | apply wpl_nil | apply thenQ_n) | (apply wlp; (apply pv_lss <;> exact rfl); exact fB rfl)))
  refine WP_cond_d rfl (fun h => ?_) (fun h => ?_)
  · have hlt : i < l.length := by omega
    have hltA : i < A.length := by omega
    obtain ⟨bE, oE, hsE, hcE⟩ := hE.at_.base (by omega)
    have hcn := hcE i _ (List.getElem?_eq_getElem hlt)
    have hrs := restF_snoc (C := C) hlt
    have hwsn := wantZ_snoc (C := C) hlt hltA
    have hke := keep_at (C := C) hlt
    have hgA := List.getElem?_eq_getElem hltA
    have hrk := restF_rk l C i
    have hta := atL_len l C i
    have htl := part_len (z := (0 : Int)) hta hi
    have hts := atL_snoc l C i
    have hvt : SVL (some ⟨tb, 0, none⟩) l.length (atL l C i ++ List.replicate (l.length - i) 0) := .inr ⟨tb, l.length, by rw [htl], by rw [htl]; exact Nat.le_refl _, by unfold maxLen; omega⟩
    have hset := part_set (z := (0 : Int)) (x := -1) hta hlt
    have hatv : atV l C i = if kp C l[i] = true then ((restF (l.take i) C).length : Int) else -1 := by
      unfold atV
      rw [hke, hrk]
    have hRl : (restF (l.take i) C).length ≤ 8 := Nat.le_trans (restF_le l C i) hl8
    have hWl : (wantZ l C A i).length ≤ 8 := Nat.le_trans (wantZ_le l C A i) hl8
    generalize l[i] = e at hcn hrs hwsn hatv hke
    generalize A[i] = pl at hwsn hgA
    generalize restF (l.take i) C = R at hrs hatv hv1 hp hRl
    generalize wantZ l C A i = WW at hwsn hv2 hp hWl
    (repeat (first | (with_reducible first | apply WP_seq | apply WP_block | apply WP_region | apply thenQ_n | apply WP_skip) | (apply wlp; ((first | apply pv_move | (apply pf_loadb; exact rfl) | (apply pf_index; exact rfl)) <;> (first | exact rfl | assumption)); (first | exact fI rfl | exact fP rfl))))
    (apply wlp; exact pf_loads (vs := eE e) rfl rfl rfl rfl (fun j v hv => hp.old0 (hcn j v hv)); exact fA6 rfl)
    (apply wls; exact salloc6 hp (zeroTy_ok rfl); rintro _ w13 ⟨pb, rfl, hp⟩)
    (repeat (apply wlp; apply pv_assign; exact fI rfl))
    (apply wls0; exact sstore6 hp 0 rfl rfl rfl rfl (sizeTy_ok rfl) rfl; rintro _ w14 ⟨rfl, hp⟩)
    have hp := hp.norm 0 (eE e) rfl rfl
    (repeat (first | (with_reducible first | apply WP_seq | apply WP_region | apply wpl_nil | apply thenQ_n) | (apply wlp; ((first | apply pv_move | (apply pf_index; exact rfl)) <;> (first | exact rfl | assumption)); (first | exact fI rfl | exact fP rfl | exact fS rfl))))
    (apply wls0; exact st_setL eI _ i (-1) hp 3 rfl hvt (by rw [htl]; exact hlt) rfl rfl (fun _ => rfl) rfl rfl (sizeTy_ok rfl); rintro _ w15 ⟨rfl, hp⟩)
    rw [hset] at hp
    have hml : ∀ x : Int, ((atL l C i ++ [x]) ++ List.replicate (l.length - (i + 1)) 0).length = l.length := fun x => part_len (by rw [List.length_append, hta]; rfl) (by omega)
    have hvt2 : ∀ x : Int, SVL (some ⟨tb, 0, none⟩) l.length ((atL l C i ++ [x]) ++ List.replicate (l.length - (i + 1)) 0) := fun x => .inr ⟨tb, l.length, by rw [hml], by rw [hml]; exact Nat.le_refl _, by unfold maxLen; omega⟩
    have hp : Hp w3 [] w15 [blk pb 6 (frOf (eE e)) 41, ownL eE 41 6 s1 c1 R, ownL eS 9 1 s2 c2 WW, ownL eI 3 1 (some ⟨tb, 0, none⟩) l.length ((atL l C i ++ [-1]) ++ List.replicate (l.length - (i + 1)) 0), ownL eS 9 1 (some ⟨ab, 0, none⟩) l.length A, ownL eI 3 1 so co o, blk db 13 (frOf (dB xN 2 sP ps.length cP)) 32] := hp
    (repeat (with_reducible first | apply WP_seq | apply WP_region | apply wpl_nil | apply thenQ_n))
    (apply wlp; apply pv_move; exact fB rfl)
    (apply wlp; apply pv_move; exact fB rfl)
    ((apply wlpT; exact rfl; exact rfl); (apply pv_move); (intros; exact fS rfl))
    ((apply wlpT; exact rfl; exact rfl); (((apply pf_len; exact rfl) <;> exact rfl)); (intros; exact fI rfl))
    ((apply wlpT; exact rfl; exact rfl); (apply pv_move); (intros; exact fS rfl))
    ((apply wlpT; exact rfl; exact rfl); (((apply pf_len; exact rfl) <;> exact rfl)); (intros; exact fI rfl))
    (apply wlpT; exact rfl; exact rfl; exact pv_eql rfl rfl; exact bool_eq (b := true) (decide_eq_true rfl))
    (apply wlp; exact pv_andT rfl rfl; exact fB rfl)
    (apply wlp; apply pv_move; exact fB rfl)
    ((apply wlpT; exact rfl; exact rfl); ((apply pf_field <;> exact rfl)); (intros; exact fP rfl))
    ((apply wlpT; exact rfl; exact rfl); (((apply pf_load; exact rfl) <;> (first | exact rfl | exact hp.cell 0 rfl rfl))); (intros; exact fI rfl))
    ((apply wlpT; exact rfl; exact rfl); (apply pv_move); (intros; exact fI rfl))
    by_cases hc : e.cls ≤ C
    · have hkp : kp C e = true := decide_eq_true hc
      rw [if_pos hkp] at hrs hwsn hatv
      (apply wlpT; exact rfl; exact rfl; exact pv_leq rfl rfl; exact bool_eq (b := true) (decide_eq_true hc))
      (apply wlp; exact pv_andT rfl rfl; exact fB rfl)
      (repeat (with_reducible first | apply wpl_nil | apply thenQ_n))
      refine WP_cond_t rfl ?_
      (repeat (first | (with_reducible first | apply WP_seq | apply WP_region) | (apply wlp; ((first | apply pv_move | (apply pf_len; exact rfl) | (apply pf_index; exact rfl)) <;> (first | exact rfl | assumption)); (first | exact fI rfl | exact fP rfl | exact fS rfl))))
      (apply wls0; exact st_setL eI _ i (R.length : Int) hp 3 rfl (hvt2 _) (by rw [hml]; exact hlt) rfl rfl (fun _ => rfl) rfl rfl (sizeTy_ok rfl); rintro _ w16 ⟨rfl, hp⟩)
      rw [mid_set hta, ← hatv, ← hts] at hp
      have hp : Hp w3 [] w16 [blk pb 6 (frOf (eE e)) 41, ownL eE 41 6 s1 c1 R, ownL eS 9 1 s2 c2 WW, ownL eI 3 1 (some ⟨tb, 0, none⟩) l.length (atL l C (i + 1) ++ List.replicate (l.length - (i + 1)) 0), ownL eS 9 1 (some ⟨ab, 0, none⟩) l.length A, ownL eI 3 1 so co o, blk db 13 (frOf (dB xN 2 sP ps.length cP)) 32] := hp
      (repeat (with_reducible first | apply wpl_nil | apply thenQ_n))
      refine WP_name ?_
      intro F0 hF0
      have f13 : F0 13 = .slice s1 R.length c1 := by rw [hF0]; rfl
      have f14 : F0 14 = .slice s2 WW.length c2 := by rw [hF0]; rfl
      have f11 : F0 11 = .slice (some ⟨ab, 0, none⟩) l.length l.length := by rw [hF0]; rfl
      have f16 : F0 16 = .int .i64 (i : Int) := by rw [hF0]; rfl
      have f17 : F0 17 = .pointer (some ⟨pb, 0, none⟩) := by rw [hF0]; rfl
      obtain ⟨B, hB⟩ : ∃ B : List Ent, B = [blk pb 6 (frOf (eE e)) 41, ownL eI 3 1 (some ⟨tb, 0, none⟩) l.length (atL l C (i + 1) ++ List.replicate (l.length - (i + 1)) 0), ownL eS 9 1 (some ⟨ab, 0, none⟩) l.length A, ownL eI 3 1 so co o, blk db 13 (frOf (dB xN 2 sP ps.length cP)) 32] := ⟨_, rfl⟩
      have hp : Hp w3 [] w16 (twL B R WW e pl s1 c1 s2 c2 0 none 0 0 none 0 false false false false) := by
        rw [hB]
        exact ((hp.nilL eI 3 1).nilL eI 3 1).picks [3, 4, 0, 1, 2, 5, 6, 7, 8] _ rfl rfl
      have hgB0 : ∀ a b c d : Ent, (a :: b :: c :: d :: B)[4]? = some (blk pb 6 (frOf (eE e)) 41) := by intro a b c d; rw [hB]; rfl
      have hgB2 : ∀ a b c d : Ent, (a :: b :: c :: d :: B)[6]? = some (ownL eS 9 1 (some ⟨ab, 0, none⟩) l.length A) := by intro a b c d; rw [hB]; rfl
      refine WP_drawI mixed (by kernel_rfl) (twI w3 F0 B R WW e pl s1 c1 s2 c2 ab l.length i) ⟨0, none, 0, 0, none, 0, F0, Dn.start, rfl, by intro a b h; simp at h, by simp, by simp, hp.drew⟩ ?_ ?_
      · rintro q D F w17 hq hDq hA ⟨nb, t1, d1, nb2, t2, d2, G, hDn, hFe, hcl, h3, h10, hp⟩
        have hq : q < 13 := hq
        have hup : ∀ a, D q = false → q ∈ prd a → D a = false := fun a hb hm => by
          cases ha : D a
          · rfl
          · rw [hcl a q ha hm] at hb
            cases hb
        by_cases hq11 : q < 11
        · have h11 : D 11 = false := hup 11 hDq (List.mem_range.2 hq11)
          have h12 : D 12 = false := hup 12 hDq (List.mem_range.2 (by omega))
          have hF : F = G := by rw [hFe, h12, h11]; rfl
          clear hFe hup
          subst hF
          have nxt := fun (q : Nat) (hq : q < 11) (n2 : q ≠ 2) (n3 : q ≠ 3) (n9 : q ≠ 9) (n10 : q ≠ 10) hpr => twI.pure (w' := w17) hq n2 n3 n9 n10 hDn hcl h11 h12 h3 h10 hp hpr
          match q, hq11 with
          | 0, _ => exact effNp pv_move ((hDn.old 13 rfl rfl).trans f13) (nxt 0 (by decide) (by decide) (by decide) (by decide) (by decide) al0)
          | 1, _ => exact effNp (pf_loadb rfl rfl ((hDn.old 17 rfl rfl).trans f17) (hp.agg_blk 4 (hgB0 _ _ _ _) rfl)) rfl (nxt 1 (by decide) (by decide) (by decide) (by decide) (by decide) al0)
          | 2, _ =>
            have a1 := aft_of hA 1 rfl
            rw [hDq] at hp
            refine effN (sf_slice (vs := [(0, .agg (eE e).toArray)]) (cs := eE e) hp rfl rfl (congrArg (fun v => [(0, v)]) (hDn.slot 1 a1 rfl rfl)) rfl rfl rfl rfl) ?_
            rintro _ w' ⟨nb', rfl, hp'⟩
            exact twI.mk (q := 2) nb' t1 d1 nb2 t2 d2 (by decide) hDn twV2 hcl (al1 a1) h11 h12 true (D 3) (D 9) (D 10) (Bool.or_true _) (Bool.or_false _) (Bool.or_false _) (Bool.or_false _) h3 h10 (Hp.in2 hp')
          | 3, _ =>
            have a0 := aft_of hA 0 rfl
            have a2 := aft_of hA 2 rfl
            rw [hDq, a2] at hp
            refine effN (sf_app1 eE R e hp 0 2 rfl rfl rfl rfl rfl rfl (fun _ => rfl) (hDn.slot 0 a0 rfl rfl) (hDn.slot 2 a2 rfl rfl) rfl hv1 rfl rfl (by omega)) ?_
            rintro u w' ⟨t1', d1', hu, hv', hp'⟩
            rw [List.length_append] at hu
            subst hu
            exact twI.mk (q := 3) nb t1' d1' nb2 t2 d2 (by decide) hDn twV3 hcl (al2 a0 a2) h11 h12 true true (D 9) (D 10) (by rw [a2]; rfl) (Bool.or_true _) (Bool.or_false _) (Bool.or_false _) (fun _ => hv') h10 hp'
          | 4, _ => exact effNp pv_move ((hDn.old 14 rfl rfl).trans f14) (nxt 4 (by decide) (by decide) (by decide) (by decide) (by decide) al0)
          | 5, _ => exact effNp pv_move ((hDn.old 11 rfl rfl).trans f11) (nxt 5 (by decide) (by decide) (by decide) (by decide) (by decide) al0)
          | 6, _ => exact effNp pv_move ((hDn.old 16 rfl rfl).trans f16) (nxt 6 (by decide) (by decide) (by decide) (by decide) (by decide) al0)
          | 7, _ =>
            have a5 := aft_of hA 5 rfl
            have a6 := aft_of hA 6 rfl
            exact effNp (pf_index rfl (hDn.slot 5 a5 rfl rfl) (hDn.slot 6 a6 rfl rfl) rfl hlt) rfl (nxt 7 (by decide) (by decide) (by decide) (by decide) (by decide) (al2 a5 a6))
          | 8, _ =>
            have a7 := aft_of hA 7 rfl
            exact effNp (pf_load rfl (hDn.slot 7 a7 rfl rfl) (own_elem hp 6 (hgB2 _ _ _ _) hva (fun _ => rfl) hgA 0 _ rfl)) rfl (nxt 8 (by decide) (by decide) (by decide) (by decide) (by decide) (al1 a7))
          | 9, _ =>
            have a8 := aft_of hA 8 rfl
            rw [hDq] at hp
            refine effN (sf_slice (vs := [(0, .string pl)]) (cs := [.string pl]) hp rfl rfl (congrArg (fun v => [(0, v)]) (hDn.slot 8 a8 rfl rfl)) rfl rfl rfl rfl) ?_
            rintro _ w' ⟨nb', rfl, hp'⟩
            exact twI.mk (q := 9) nb t1 d1 nb' t2 d2 (by decide) hDn twV9 hcl (al1 a8) h11 h12 (D 2) (D 3) true (D 10) (Bool.or_false _) (Bool.or_false _) (Bool.or_true _) (Bool.or_false _) h3 h10 (Hp.in3 hp')
          | 10, _ =>
            have a3 := aft_of hA 3 rfl
            have a4 := aft_of hA 4 rfl
            have a9 := aft_of hA 9 rfl
            rw [hDq, a9] at hp
            refine effN (sf_app1 eS WW pl hp 1 3 rfl rfl rfl rfl rfl rfl (fun _ => rfl) (hDn.slot 4 a4 rfl rfl) (hDn.slot 9 a9 rfl rfl) rfl hv2 rfl rfl (by omega)) ?_
            rintro u w' ⟨t2', d2', hu, hv', hp'⟩
            rw [List.length_append] at hu
            subst hu
            exact twI.mk (q := 10) nb t1 d1 nb2 t2' d2' (by decide) hDn twV10 hcl (al3 a3 a4 a9) h11 h12 (D 2) (D 3) true true (Bool.or_false _) (Bool.or_false _) (by rw [a9]; rfl) (Bool.or_true _) h3 (fun _ => hv') hp'
          | j + 11, h => exact absurd h (by omega)
        · rcases (show q = 11 ∨ q = 12 by omega) with rfl | rfl
          · have h12 : D 12 = false := hup 12 hDq (List.mem_range.2 (by decide))
            have hF : F = G := by rw [hFe, h12, hDq]; rfl
            clear hFe hup
            subst hF
            have a0 := aft_of hA 0 rfl
            have a1 := aft_of hA 1 rfl
            have a2 := aft_of hA 2 rfl
            have a3 := aft_of hA 3 rfl
            have a10 := aft_of hA 10 rfl
            have a4 := hcl 10 4 a10 (by decide)
            have a9 := hcl 10 9 a10 (by decide)
            have a8 := hcl 9 8 a9 (by decide)
            have a7 := hcl 8 7 a8 (by decide)
            have a6 := hcl 7 6 a7 (by decide)
            have a5 := hcl 7 5 a7 (by decide)
            have hall : ∀ p ∈ prd 11, D p = true := by
              intro p hp
              have hp : p < 11 := List.mem_range.1 hp
              match p, hp with
              | 0, _ => exact a0
              | 1, _ => exact a1
              | 2, _ => exact a2
              | 3, _ => exact a3
              | 4, _ => exact a4
              | 5, _ => exact a5
              | 6, _ => exact a6
              | 7, _ => exact a7
              | 8, _ => exact a8
              | 9, _ => exact a9
              | 10, _ => exact a10
              | j + 11, h => exact absurd h (by omega)
            refine effNp pv_assign (hDn.slot 3 a3 rfl rfl) (twI.fin (Nat.le_refl _) hDn hcl hall h3 h10 hp ?_)
            have e1 : (D 12 || Nat.beq 12 11) = false := by rw [h12]; rfl
            have e2 : (D 11 || Nat.beq 11 11) = true := Bool.or_true _
            rw [e1, e2]
            rfl
          · have a11 := aft_of hA 11 rfl
            have hF : F = G.put 13 (.slice t1 (R.length + 1) d1) := by rw [hFe, hDq, a11]; rfl
            clear hFe hup
            subst hF
            have a10 := hcl 11 10 a11 (by decide)
            have hall : ∀ p ∈ prd 12, D p = true := by
              intro p hp
              have hp : p < 12 := List.mem_range.1 hp
              rcases (show p = 11 ∨ p < 11 by omega) with rfl | h
              · exact a11
              · exact hcl 11 p a11 (List.mem_range.2 h)
            refine effNp pv_assign (hDn.slot 10 a10 rfl rfl) (twI.fin (by decide) hDn hcl hall h3 h10 hp ?_)
            have e1 : (D 12 || Nat.beq 12 12) = true := Bool.or_true _
            rw [e1]
            rfl
      · rintro D F w17 hD ⟨nb, t1, d1, nb2, t2, d2, G, hDn, hFe, hcl, h3, h10, hp⟩
        rw [hD 12 (by decide), cond_true] at hFe
        have hv1' := h3 (hD 3 (by decide))
        have hv2' := h10 (hD 10 (by decide))
        rw [hD 2 (by decide), hD 3 (by decide), hD 9 (by decide), hD 10 (by decide)] at hp
        have hG := hDn.same.eq
        rw [hFe, hG]
        subst hF0 hB
        have hp : Hp w3 [] w17 [ownL eE 41 6 t1 d1 (R ++ [e]), ownL eS 9 1 t2 d2 (WW ++ [pl]), ownL eI 3 1 (some ⟨tb, 0, none⟩) l.length (atL l C (i + 1) ++ List.replicate (l.length - (i + 1)) 0), ownL eS 9 1 (some ⟨ab, 0, none⟩) l.length A, ownL eI 3 1 so co o, blk db 13 (frOf (dB xN 2 sP ps.length cP)) 32] := hp.picks [0, 1, 5, 6, 7, 8] _ rfl rfl
        (repeat (with_reducible first | apply WP_region | apply thenQ_n | apply inBlk_n))
        (apply wlp; (exact pv_add rfl rfl); exact int_eq (b := ((i + 1 : Nat) : Int)) (by rw [i64_in (by omega) (by omega)]; omega))
        (repeat (first | (with_reducible first | apply wpl_nil | apply thenQ_n) | (apply wlp; apply pv_move; exact fI rfl)))
        refine ⟨(i + 1, (t1, d1), (t2, d2)), put_self (put_self (put_self (Same.eq (by repeat (first | exact Same.hav | exact Same.refl | refine Same.put rfl ?_ | refine Same.havs rfl ?_))) (by show Value.slice t1 (R.length + 1) d1 = _; rw [hrs, List.length_append]; rfl)) (by show Value.slice t2 (WW.length + 1) d2 = _; rw [hwsn, List.length_append]; rfl)) rfl, ⟨by dsimp only; omega, by dsimp only; rw [hrs]; exact hv1', by dsimp only; rw [hwsn]; exact hv2', ?_⟩, by dsimp only; omega⟩
        dsimp only
        rw [hrs, hwsn]
        exact hp
    · have hkp : kp C e = false := decide_eq_false hc
      rw [if_neg (by rw [hkp]; decide)] at hrs hwsn hatv
      rw [List.append_nil] at hrs hwsn
      (apply wlpT; exact rfl; exact rfl; exact pv_leq rfl rfl; exact bool_eq (b := false) (decide_eq_false hc))
      (apply wlp; exact pv_andT rfl rfl; exact fB rfl)
      (repeat (with_reducible first | apply wpl_nil | apply thenQ_n))
      refine WP_cond_f rfl ?_
      rw [← hatv, ← hts] at hp
      have hp := hp.tail
      (repeat (with_reducible first | apply WP_region | apply thenQ_n | apply inBlk_n | apply WP_skip))
      (apply wlp; (exact pv_add rfl rfl); exact int_eq (b := ((i + 1 : Nat) : Int)) (by rw [i64_in (by omega) (by omega)]; omega))
      (repeat (first | (with_reducible first | apply wpl_nil | apply thenQ_n) | (apply wlp; apply pv_move; exact fI rfl)))
      refine ⟨(i + 1, (s1, c1), (s2, c2)), put_self (put_self (put_self (Same.eq (by repeat (first | exact Same.hav | exact Same.refl | refine Same.put rfl ?_ | refine Same.havs rfl ?_))) (by show Value.slice s1 R.length c1 = _; rw [← hrs])) (by show Value.slice s2 WW.length c2 = _; rw [← hwsn])) rfl, ⟨by dsimp only; omega, by dsimp only; rw [hrs]; exact hv1, by dsimp only; rw [hwsn]; exact hv2, ?_⟩, by dsimp only; omega⟩
      dsimp only
      rw [hrs, hwsn]
      exact hp
  obtain rfl : i = l.length := by omega
  rw [part_done] at hp
  have hlt : l.take l.length = l := List.take_of_length_le (Nat.le_refl _)
  rw [hlt] at hv1 hp ⊢
  clear hlt hi h hr0 hw0
  have hatl := atL_len l C l.length
  have hvt : SVL (some ⟨tb, 0, none⟩) l.length (atL l C l.length) := .inr ⟨tb, l.length, by rw [hatl], by rw [hatl]; exact Nat.le_refl _, by unfold maxLen; omega⟩
  have hs0 : shF l C (o.take 0) = [] := by unfold shF; rfl
  have hp := hp.nilL eI 3 1
  have hp : Hp w3 [] w12 [ownL eI 3 1 none 0 (shF l C (o.take 0)), ownL eE 41 6 s1 c1 (restF l C), ownL eS 9 1 s2 c2 (wantZ l C A l.length), ownL eI 3 1 (some ⟨tb, 0, none⟩) l.length (atL l C l.length), ownL eS 9 1 (some ⟨ab, 0, none⟩) l.length A, ownL eI 3 1 so co o, blk db 13 (frOf (dB xN 2 sP ps.length cP)) 32] := by
    rw [hs0]
    exact hp
  have hv3 : SVL none 0 (shF l C (o.take 0)) := by rw [hs0]; exact .nil
  have hrl8 : (restF l C).length ≤ 8 := by
    have := restF_le l C l.length
    rw [List.take_of_length_le (Nat.le_refl _)] at this
    omega
  have hwl8 : (wantZ l C A l.length).length ≤ 8 := Nat.le_trans (wantZ_le l C A l.length) hl8
  (repeat (first | (with_reducible first | apply WP_seq | apply WP_block | apply WP_region | apply wpl_nil | apply thenQ_n | apply thenQ_exit | apply WP_exit) | ((with_reducible apply inBlk_same); exact rfl) | (apply wlp; ((first | apply pv_move | apply pv_assign | (apply pf_len; exact rfl)) <;> exact rfl); (first | exact fI rfl | exact fS rfl))))
  refine WP_loopS [18, 20, 86, 87, 88, 89, 90, 91, 92, 93, 94, 95, 96, 97, 98, 99, 100, 101, 102] (fun (X : Nat × (Option Addr × Nat)) F => (F.put 18 (.slice X.2.1 (shF l C (o.take X.1)).length X.2.2)).put 86 (.int .i64 (X.1 : Int)))
    (fun X w' => X.1 ≤ o.length ∧ SVL X.2.1 X.2.2 (shF l C (o.take X.1)) ∧ Hp w3 [] w' [ownL eI 3 1 X.2.1 X.2.2 (shF l C (o.take X.1)), ownL eE 41 6 s1 c1 (restF l C), ownL eS 9 1 s2 c2 (wantZ l C A l.length), ownL eI 3 1 (some ⟨tb, 0, none⟩) l.length (atL l C l.length), ownL eS 9 1 (some ⟨ab, 0, none⟩) l.length A, ownL eI 3 1 so co o, blk db 13 (frOf (dB xN 2 sP ps.length cP)) 32]) (fun X => o.length - X.1) (0, (none, 0)) (put_self (put_self (Same.eq .refl) (by show Value.slice none 0 0 = _; rw [hs0]; rfl)) rfl) ⟨Nat.zero_le _, hv3, hp⟩ ?_
  (repeat clear hp)
  clear hv3 hs0
  rintro u2 ⟨j, ⟨s3, c3⟩⟩ w13 ⟨hj, hv3, hp⟩
  dsimp only at hj hv3 hp ⊢
  (repeat (first | (with_reducible first | apply WP_seq | apply WP_region | apply wpl_nil | apply thenQ_n) | (apply wlp; (apply pv_lss <;> exact rfl); exact fB rfl)))
  refine WP_cond_d rfl (fun h => ?_) (fun h => ?_)
  · have hjl : j < o.length := by omega
    have hgo := List.getElem?_eq_getElem hjl
    have hsn := shF_snoc (l := l) (C := C) hjl
    obtain ⟨k, hk, hkl⟩ := ord_nat hOrd (List.getElem_mem hjl)
    rw [hk] at hgo hsn
    have hga := atL_get (l := l) (C := C) hkl
    have hSl : (shF l C (o.take j)).length ≤ 8 := Nat.le_trans (shF_le l C o j) (by omega)
    have hfk : fK l C (k : Int) = (rk l C k : Int) := by unfold fK; rw [Int.toNat_natCast]
    generalize shF l C (o.take j) = SS at hv3 hp hsn hSl
    obtain ⟨go, hgoa⟩ := hvo.addr (by rintro rfl; simp at hjl)
    subst hgoa
    (repeat (first | (with_reducible first | apply WP_seq | apply WP_block | apply WP_region | apply thenQ_n | apply WP_skip) | (apply wlp; ((first | (apply pf_load; exact rfl) | (apply pf_index; exact rfl)) <;> (first | exact rfl | assumption)); exact fP rfl)))
    (apply wlp; exact pf_load rfl rfl (own_elem hp 5 rfl hvo (fun _ => rfl) hgo 0 _ rfl); exact fI rfl)
    (repeat (first | (with_reducible first | apply WP_seq | apply WP_region | apply wpl_nil | apply thenQ_n) | (apply wlp; ((first | apply pv_move | apply pv_assign | (apply pf_load; exact rfl) | (apply pf_index; exact rfl)) <;> (first | exact rfl | assumption)); (first | exact fI rfl | exact fP rfl | exact fS rfl))))
    (apply wlp; exact pf_load rfl rfl (own_elem hp 3 rfl hvt (fun _ => rfl) hga 0 _ rfl); exact fI rfl)
    by_cases hke : keepF l C (k : Int) = true
    · have hav : atV l C k = (rk l C k : Int) := by unfold atV; rw [if_pos hke]
      rw [if_pos hke, hfk] at hsn
      rw [hav] at hga ⊢
      (apply wlp; (exact pv_geq rfl rfl); exact bool_eq (b := true) (decide_eq_true (by omega)))
      (repeat (with_reducible first | apply wpl_nil | apply thenQ_n))
      refine WP_cond_t rfl ?_
      (repeat (first | with_reducible apply WP_region | (apply wlp; ((first | apply pv_move | (apply pf_load; exact rfl) | (apply pf_index; exact rfl)) <;> (first | exact rfl | assumption)); (first | exact fI rfl | exact fP rfl | exact fS rfl))))
      (apply wlp; exact pf_load rfl rfl (own_elem hp 3 rfl hvt (fun _ => rfl) hga 0 _ rfl); exact fI rfl)
      (apply wls; exact sf_slice hp rfl rfl rfl rfl rfl rfl rfl; rintro _ w14 ⟨nb, rfl, hp⟩)
      (apply wls; exact sf_app1 eI SS (rk l C k : Int) hp 1 0 rfl rfl rfl rfl rfl rfl (fun _ => rfl) rfl rfl rfl hv3 rfl rfl (by omega); rintro _ w15 ⟨s3', c3', rfl, hv3', hp⟩)
      have hp := hp.tail
      (repeat (first | (with_reducible first | apply WP_region | apply wpl_nil | apply thenQ_n | apply inBlk_n) | (apply wlp; apply pv_assign; exact fS rfl)))
      (apply wlp; (exact pv_add rfl rfl); exact int_eq (b := ((j + 1 : Nat) : Int)) (by rw [i64_in (by omega) (by omega)]; omega))
      (repeat (first | (with_reducible first | apply wpl_nil | apply thenQ_n) | (apply wlp; apply pv_move; exact fI rfl)))
      refine ⟨(j + 1, (s3', c3')), put_self (put_self (Same.eq (by repeat (first | exact Same.hav | exact Same.refl | refine Same.put rfl ?_ | refine Same.havs rfl ?_))) (by show Value.slice s3' (SS ++ [(rk l C k : Int)]).length c3' = _; rw [← hsn])) rfl, ⟨by dsimp only; omega, by dsimp only; rw [hsn]; exact hv3', ?_⟩, by dsimp only; omega⟩
      dsimp only
      rw [hsn]
      exact hp
    · have hav : atV l C k = -1 := by unfold atV; rw [if_neg hke]
      rw [if_neg hke, List.append_nil] at hsn
      rw [hav]
      (apply wlp; (exact pv_geq rfl rfl); exact bool_eq (b := false) (decide_eq_false (by omega)))
      (repeat (with_reducible first | apply wpl_nil | apply thenQ_n))
      refine WP_cond_f rfl ?_
      (repeat (with_reducible first | apply WP_region | apply thenQ_n | apply inBlk_n | apply WP_skip))
      (apply wlp; (exact pv_add rfl rfl); exact int_eq (b := ((j + 1 : Nat) : Int)) (by rw [i64_in (by omega) (by omega)]; omega))
      (repeat (first | (with_reducible first | apply wpl_nil | apply thenQ_n) | (apply wlp; apply pv_move; exact fI rfl)))
      refine ⟨(j + 1, (s3, c3)), put_self (put_self (Same.eq (by repeat (first | exact Same.hav | exact Same.refl | refine Same.put rfl ?_ | refine Same.havs rfl ?_))) (by show Value.slice s3 SS.length c3 = _; rw [← hsn])) rfl, ⟨by dsimp only; omega, by dsimp only; rw [hsn]; exact hv3, ?_⟩, by dsimp only; omega⟩
      dsimp only
      rw [hsn]
      exact hp
  have hot : o.take j = o := List.take_of_length_le (by omega)
  rw [hot] at hv3 hp ⊢
  (repeat (first | (with_reducible first | apply WP_seq | apply WP_region | apply thenQ_n | apply thenQ_exit | apply WP_exit) | ((with_reducible apply inBlk_same); exact rfl) | (apply wlp; ((first | apply pv_move | (apply pf_loadb; exact rfl)) <;> (first | exact rfl | exact hp.agg_blk 6 rfl rfl)); (first | exact fS rfl | exact fA13 rfl))))
  skip
  (apply wls; exact st_call rfl ent14 rfl (p14 xN ps (restF l C) (shF l C o) s1 sP s3 c1 cP c3 _ ⟨ownL_At hp 1 rfl hv1 (fun _ => rfl), fun e he => (hE.ws e (restF_mem he)).keep0 hp.keeps, fun e he => hE.len e (restF_mem he)⟩ (hP.keep0 hp.keeps) (ownL_At hp 0 rfl hv3 (fun _ => rfl)) (by omega) hps hpm hshO (svl_none hv3)))
  rintro _ w14 ⟨bb, rfl, hvb, hpo⟩
  have hp := hp.join hpo
  clear hpo
  have hbl := asg_len (restF l C) ps (shF l C o)
  rw [hws] at hvb hp hbl
  have h15 := p15 (wantZ l C A l.length) (wantZ l C A l.length) (some ⟨bb, 0, none⟩) s2 (restF l C).length c2 w14 (ownL_At hp 0 rfl hvb (fun _ => rfl)) (ownL_At hp 3 rfl hv2 (fun _ => rfl)) (by omega) (by omega)
  (apply wlp; apply pv_move; exact fU rfl)
  (apply wlp; (apply pv_extract <;> exact rfl); exact fS rfl)
  (apply wlp; (apply pv_extract <;> exact rfl); exact fB rfl)
  (apply wlp; apply pv_assign; exact fS rfl)
  (apply wlp; apply pv_assign; exact fB rfl)
  (repeat (with_reducible first | apply WP_seq | apply WP_region | apply wpl_nil | apply thenQ_n))
  (apply wlp; apply pv_move; exact fB rfl)
  (apply wlp; apply pv_move; exact fB rfl)
  ((apply wlpT; exact rfl; exact rfl); (apply pv_move); (intros; exact fB rfl))
  (apply wlp; exact pv_andT rfl rfl; exact fB rfl)
  (apply wlp; apply pv_move; exact fB rfl)
  ((apply wlpT; exact rfl; exact rfl); (apply pv_move); (intros; exact fB rfl))
  (apply wlp; exact pv_andT rfl rfl; exact fB rfl)
  (apply wlp; apply pv_move; exact fB rfl)
  ((apply wlpT; exact rfl; exact rfl); (apply pv_move); (intros; exact fS rfl))
  ((apply wlpT; exact rfl; exact rfl); (apply pv_move); (intros; exact fS rfl))
  (apply wlsT; exact rfl; exact rfl; exact st_call rfl ent15 (by rw [hbl]; rfl) h15; rintro _ w21 ⟨hv, hk⟩; obtain rfl := hv.trans (bool_eq (b := true) (decide_eq_true rfl)); have hp := hp.call hk; clear h15)
  (apply wlp; exact pv_andT rfl rfl; exact fB rfl)
  (repeat (first | (with_reducible first | apply wpl_nil | apply thenQ_n | apply WP_ret) | (apply wlp; apply pv_assign; exact fB rfl)))
  exact ret_tmp rfl rfl ⟨_, rfl, rfl, hk3.trans hp.keeps (by simp)⟩
end Go.Proofs.YtfjbioghpgmkiaaGreatDoor
/- How the arguments of the laws of layer 19 are read; a world in which the listed tables lie; what a law that answers true and changes nothing leaves; conditions are the hypotheses of each law. -/
namespace Go.Proofs.YtfjbioghpgmkiaaGreatDoor
open Go.Eng Go.ChangeShapes Go.WideShapes Go.ChangeAt Go.RowKit Go.Deep

theorem laid : laidOutB Tryz.prog = true := by kernel_rfl
theorem ownK : ownKnob Tryz.prog.godebug = none := by kernel_rfl

theorem spot_none {w : World} {a : Addr} {v : Value} (h : w.cell? a = some v) : a.spot = none := by
  unfold World.cell? at h
  split at h
  · split at h
    · cases h
    · rename_i h2
      cases hs : a.spot
      · rfl
      · rw [hs] at h2; simp at h2
  · cases h

section
variable {H : Type} {enc : TypeId × Value → H} {P : Program} {w : World} {base : Nat} {spare : Nat → Bool} {held : Bool}

/-- a slice whose elements are read one by one reads as a list -/
theorem open_list {α : Type} {f : α → List Value} {ok : α → Prop} {t e k fuel : Nat} {cs : List Value} {x : DataW H × List MemPlace} (ht : P.underlying t = some (.slice e)) (hk : P.cellsOf e = k) (hk0 : 0 < k)
    (hop : ∀ n cs' y, DataW.trod enc P w base spare held n e cs' = some y → ∃ a, cs' = f a ∧ ok a) (h : DataW.trod enc P w base spare held fuel t cs = some x) :
    ∃ s c, ∃ l : List α, cs = [.slice s l.length c] ∧ l.length ≤ c ∧ c ≤ maxLen ∧ SlAt w k f s l ∧ (∀ a ∈ l, ok a) ∧ (l = [] ∨ ∃ es rs, x.1 = .slice es rs ∧ es.length = l.length) := by
  rcases open_slice ht h with ⟨rfl, _⟩ | ⟨a, len, cap, m, n, D, Pl, rfl, hb, hl, hm, hmm, hxe, hx⟩
  · exact ⟨none, 0, [], rfl, Nat.le_refl _, by unfold maxLen; omega, by intro i x hx; simp at hx, by simp, .inl rfl⟩
  · have hlm : len ≤ m := by rw [hmm]; split <;> omega
    rw [hk] at hx
    have hex : ∀ i : Fin len, ∃ y, w.cells? base (a.add (i * k)) k = some (f y) ∧ ok y := by
      intro i
      obtain ⟨cs', h1, h2⟩ := hx i (by omega)
      obtain ⟨y, rfl, hy⟩ := hop _ _ _ h2
      exact ⟨y, h1, hy⟩
    refine ⟨some a, cap, List.ofFn fun i => Classical.choose (hex i), by simp, by simpa using hl, hm, ?_, ?_, .inr ⟨_, _, by rw [hxe], by simp⟩⟩
    · intro i y hy
      have hi : i < len := by have := (List.getElem?_eq_some_iff.1 hy).1; simpa using this
      have hyc : Classical.choose (hex ⟨i, hi⟩) = y := by
        rw [List.getElem?_ofFn] at hy
        simpa [hi] using hy
      have hsp := (Classical.choose_spec (hex ⟨i, hi⟩)).1
      rw [hyc] at hsp
      obtain ⟨_, hlen, hc⟩ := World.cells?_some hsp
      obtain ⟨_, hlen0, hc0⟩ := World.cells?_some (Classical.choose_spec (hex ⟨0, by omega⟩)).1
      have hs0 := spot_none ((hc0 0 (by omega)).trans (List.getElem?_eq_getElem (by omega)))
      have hsa : a.spot = none := by simpa [Addr.add] using hs0
      refine ⟨a.block, a.off, ?_, fun j v hv => ?_⟩
      · cases a
        simp at hsa
        subst hsa
        rfl
      · have hj : j < k := by rw [← hlen]; exact (List.getElem?_eq_some_iff.1 hv).1
        have := (hc j hj).trans hv
        cases a
        simp at hsa
        subst hsa
        rw [addr_add, addr_add] at this
        exact this
    · intro y hy
      rw [List.mem_ofFn] at hy
      obtain ⟨i, rfl⟩ := hy
      exact (Classical.choose_spec (hex i)).2

theorem trodAll_stays (hl : laidOutB P = true) {W W' : World} (hb : Below W.heap.size W W') {sp : Nat → Bool} : ∀ (ts : List TypeId) (vs : List Value) (ds : List (DataW H)) (ps : List MemPlace),
    (∀ t ∈ ts, P.readableRec t = true ∧ t < P.types.size) → DataW.TrodAll enc P W 0 (fun _ => true) true ts vs ds ps → (∀ x ∈ ps, x.block < W.heap.size) → (∀ x ∈ ps, sp x.block = true) →
    DataW.TrodAll enc P W' 0 sp true ts vs ds ps
  | [], vs, ds, ps, _, h, _, _ => by
    obtain ⟨rfl, rfl, rfl⟩ := trodAll_nil h
    exact trodAll_mk0
  | t :: ts, vs, ds, ps, ht, h, hlt, hsp => by
    obtain ⟨v, vs', d, ds', p, q, rfl, rfl, rfl, h1, h2⟩ := trodAll_cons h
    refine ⟨p, q, ?_, trodAll_stays hl hb ts vs' ds' q (fun t h => ht t (List.mem_cons_of_mem _ h)) h2 (fun x hx => hlt x (List.mem_append_right _ hx)) (fun x hx => hsp x (List.mem_append_right _ hx)), rfl⟩
    obtain ⟨hr, hrow⟩ := ht t (List.mem_cons_self ..)
    exact WideElems.Trod_stays hl hr hrow h1 (fun x hx => hb.same (hlt x (List.mem_append_left _ hx))) (fun x hx => hsp x (List.mem_append_left _ hx))
end

/-- an array whose elements are read one by one -/
theorem arr_list {α : Type} {f : α → List Value} {ok : α → Prop} {sz : Nat} : ∀ (k : Nat) (cs : List Value), cs.length = k * sz → (∀ i, i < k → ∃ a, (cs.drop (i * sz)).take sz = f a ∧ ok a) → ∃ l : List α, l.length = k ∧ cs = l.flatMap f ∧ ∀ a ∈ l, ok a
  | 0, cs, hl, _ => ⟨[], rfl, by simpa using hl, by simp⟩
  | k + 1, cs, hl, h => by
    obtain ⟨a, ha, hoa⟩ := h 0 (by omega)
    obtain ⟨l, h1, h2, h3⟩ := arr_list (f := f) (ok := ok) (sz := sz) k (cs.drop sz) (by rw [List.length_drop, hl, Nat.succ_mul]; omega) (by
      intro i hi
      obtain ⟨b, hb, hob⟩ := h (i + 1) (by omega)
      refine ⟨b, ?_, hob⟩
      rw [List.drop_drop]
      rw [show sz + i * sz = (i + 1) * sz from by rw [Nat.succ_mul]; omega]
      exact hb)
    refine ⟨a :: l, by simp [h1], ?_, ?_⟩
    · rw [List.flatMap_cons, ← h2, ← ha]
      simp
    · intro x hx
      rcases List.mem_cons.1 hx with rfl | hx
      · exact hoa
      · exact h3 x hx
section
variable {H : Type} {enc : TypeId × Value → H} {P : Program} {w : World} {base : Nat} {spare : Nat → Bool} {held : Bool}
theorem open_arr {α : Type} {f : α → List Value} {ok : α → Prop} {t e k sz fuel : Nat} {cs : List Value} {x : DataW H × List MemPlace} (ht : P.underlying t = some (.array k e)) (he : P.cellsOf e = sz) (hc : P.cellsOf t = k * sz)
    (hop : ∀ n cs' y, DataW.trod enc P w base spare held n e cs' = some y → ∃ a, cs' = f a ∧ ok a) (h : DataW.trod enc P w base spare held fuel t cs = some x) :
    ∃ l : List α, l.length = k ∧ cs = l.flatMap f ∧ ∀ a ∈ l, ok a := by
  obtain ⟨xs, m, _, _, hl, hlen, hf⟩ := DataW.trod_array ht h
  refine arr_list k cs (by rw [hl, hc]) fun i hi => ?_
  have := hf i hi
  rw [he, List.getElem?_eq_getElem (by omega)] at this
  exact hop _ _ _ this
end
/-- what a law leaves that answers true and keeps all that was there -/
theorem post_true {H : Type} {enc : TypeId × Value → H} {f : Func} {s : ChangeSpec} {W W' : World} {args : Array Value} {ds gs : List (DataW H)} {before : List MemPlace} (hW : DataW.Whole enc Tryz.prog f.params.toList s.vars false W args.toList ds gs before)
    (hv : s.vars = []) (hr : f.resultTypes = #[4]) (hts : ∀ t ∈ f.params.toList, Tryz.prog.readableRec t = true ∧ t < Tryz.prog.types.size)
    (hres : (s.fn H (ds ++ gs)).results = [.lit (.bool true)]) (hargs : (s.fn H (ds ++ gs)).args = ds) (hvs : (s.fn H (ds ++ gs)).vars = []) (hk : Keeps [] W W') :
    s.post enc Tryz.prog f false true false false W args (.bool true) W' := by
  have hW' := hW
  obtain ⟨p, q, hA, hV, rfl, hfz, hnd⟩ := hW
  rw [hv] at hV
  obtain ⟨rfl, rfl⟩ := trodVars_none hV
  have hlt : ∀ x ∈ p, x.block < W.heap.size := fun x hx => hW'.lt x (by simpa using hx)
  refine ⟨ds, [], _, [], p, [], hW', ?_, ?_, ?_, (hk.below.frame _), fun h => by cases h⟩
  · rw [hres, hr]
    exact trodAll_cons_mk (shut_bool Tryz.underlying4 _) trodAll_mk0
  · rw [hargs]
    exact trodAll_stays laid hk.below _ _ _ _ hts hA hlt (fun x hx => by simpa using hlt x hx)
  · rw [hvs, hv]
    rfl

theorem len2 {α : Type} {l : List α} (h : l.length = 2) : ∃ c0 c1, l = [c0, c1] := by
  obtain ⟨c0, l0, rfl⟩ : ∃ a t, l = a :: t := List.exists_cons_of_length_eq_add_one h
  obtain ⟨c1, l1, rfl⟩ : ∃ a t, l0 = a :: t := List.exists_cons_of_length_eq_add_one (by simpa using h)
  have : l1 = [] := List.eq_nil_of_length_eq_zero (by simpa using h)
  subst this
  exact ⟨c0, c1, rfl⟩
theorem len3 {α : Type} {l : List α} (h : l.length = 3) : ∃ c0 c1 c2, l = [c0, c1, c2] := by
  obtain ⟨c0, l0, rfl⟩ : ∃ a t, l = a :: t := List.exists_cons_of_length_eq_add_one h
  obtain ⟨c1, l1, rfl⟩ : ∃ a t, l0 = a :: t := List.exists_cons_of_length_eq_add_one (by simpa using h)
  obtain ⟨c2, l2, rfl⟩ : ∃ a t, l1 = a :: t := List.exists_cons_of_length_eq_add_one (by simpa using h)
  have : l2 = [] := List.eq_nil_of_length_eq_zero (by simpa using h)
  subst this
  exact ⟨c0, c1, c2, rfl⟩
section
variable {H : Type} {enc : TypeId × Value → H} {w : World} {base : Nat} {spare : Nat → Bool} {held : Bool} {n : Nat} {cs : List Value} {x : DataW H × List MemPlace}
theorem rd_int (h : DataW.trod enc Tryz.prog w base spare held n 3 cs = some x) : ∃ a : Int, cs = eI a ∧ -9223372036854775808 ≤ a ∧ a ≤ 9223372036854775807 := by
  obtain ⟨a, rfl, _, hw⟩ := DataW.trod_int Tryz.underlying3 h
  have e1 : IntKind.i64.min = -9223372036854775808 := by decide
  have e2 : IntKind.i64.max = 9223372036854775807 := by decide
  simp only [Lit.wf, Bool.and_eq_true, decide_eq_true_eq, e1, e2] at hw
  exact ⟨a, rfl, hw⟩
theorem rd_ints (h : DataW.trod enc Tryz.prog w base spare held n 30 cs = some x) : ∃ s c, ∃ l : List Int, cs = [.slice s l.length c] ∧ l.length ≤ c ∧ c ≤ maxLen ∧ SlAt w 1 eI s l ∧ (∀ a ∈ l, -9223372036854775808 ≤ a ∧ a ≤ 9223372036854775807) ∧ (l = [] ∨ ∃ es rs, x.1 = .slice es rs ∧ es.length = l.length) :=
  open_list Tryz.underlying30 (by kernel_rfl) (by decide) (fun _ _ _ h => rd_int h) h
end
/-- how long a list that came in can be -/
theorem sized_list {H α : Type} {ts : List TypeId} {ds : List (DataW H)} {l : List α} {j t e k : Nat} {d : DataW H} (h : (DataW.weightsEach Tryz.prog ts ds).all (· ≤ reachBytes) = true) (ht : ts[j]? = some t) (hd : ds[j]? = some d) (hu : Tryz.prog.underlying t = some (.slice e)) (hk : Tryz.prog.bytesOf e = k)
    (hx : l = [] ∨ ∃ es rs, d = .slice es rs ∧ es.length = l.length) : l.length * k ≤ 140737488351232 := by
  rcases hx with rfl | ⟨es, rs, rfl, he⟩
  · simp
  · have h1 := sized_slice h ht hd hu
    rw [hk] at h1
    have h2 : l.length * k ≤ (es.length + rs.length) * k := Nat.mul_le_mul_right k (by omega)
    exact Nat.le_trans h2 h1
/-! ### the tables -/
def cellsL : DataW Unit → List Value
  | .lit (.int k n) => [.int k n]
  | .agg [.lit (.int k n), .lit (.int q m)] => [.int k n, .int q m]
  | _ => []
def cellsA : DataW Unit → Array Value
  | .agg l => (l.flatMap cellsL).toArray
  | _ => #[]
noncomputable def laidWorld (os : Os) : World :=
  let w0 := World.holding Tryz.prog os ⟨#[], #[], []⟩
  { w0 with heap := (w0.heap.modify 0 fun
      | .cells _ t fr => .cells (cellsA Rows.laid_unicode_utf8_first) t fr
      | o => o).modify 1 fun
      | .cells _ t fr => .cells (cellsA Rows.laid_unicode_utf8_acceptRanges) t fr
      | o => o }
set_option maxRecDepth 100000 in
theorem laidWorld_met (os : Os) (args : Array Value) : laidMetH Tryz.prog Rows.placesKeepsRow.laid ((laidWorld os).forCall (fun _ _ => 0) ⟨#[], args, []⟩).memory :=
  laidMet_of_run (ps := (List.range 32).map (fun i => MemPlace.cell 1 i) ++ (List.range 256).map (fun i => MemPlace.cell 0 i)) 8 (by kernel_rfl) (by kernel_rfl) (by kernel_rfl)
theorem agg_of_cells {v : Value} {l : List Value} (h : v.cells.toList = l) (hl : 2 ≤ l.length) : v = .agg l.toArray := by
  cases v with
  | agg vs =>
    have : vs.toList = l := h
    subst this
    rfl
  | _ =>
    exfalso
    subst h
    simp [Value.cells] at hl
theorem slice_of_cells {P : Program} {W : World} {base t e : Nat} {v : Value} {s : Option Addr} {m c : Nat} (ht : P.underlying t = some (.slice e)) (hok : Value.okWide P W .any base t v) (h : v.cells.toList = [.slice s m c]) : v = .slice s m c := by
  cases v with
  | agg vs => simp [Value.okWide, ht, Cell.okWide, Cell.ok] at hok
  | slice a1 b1 c1 =>
    have e : Value.slice a1 b1 c1 = .slice s m c := by simpa [Value.cells] using h
    exact e
  | _ => simp [Value.cells] at h

/-! ### further kinds of arguments -/
theorem cells3 : Tryz.prog.cellsOf 3 = 1 := by kernel_rfl
theorem cells5 : Tryz.prog.cellsOf 5 = 1 := by kernel_rfl
theorem cells22 : Tryz.prog.cellsOf 22 = 1 := by kernel_rfl
theorem cells23 : Tryz.prog.cellsOf 23 = 1 := by kernel_rfl
theorem cells30 : Tryz.prog.cellsOf 30 = 1 := by kernel_rfl
theorem cells84 : Tryz.prog.cellsOf 84 = 2 := by kernel_rfl
theorem cells87 : Tryz.prog.cellsOf 87 = 3 := by kernel_rfl
theorem cells25 : Tryz.prog.cellsOf 25 = 2 := by kernel_rfl
section
variable {H : Type} {enc : TypeId × Value → H} {w : World} {base : Nat} {spare : Nat → Bool} {held : Bool} {n : Nat} {cs : List Value} {x : DataW H × List MemPlace}
def e3 (x : Int × Int × Int) : List Value := [.int .i64 x.1, .int .i64 x.2.1, .int .i64 x.2.2]
theorem rd_arr3 (h : DataW.trod enc Tryz.prog w base spare held n 78 cs = some x) : ∃ a : Int × Int × Int, cs = e3 a ∧ a.1 ≤ 9223372036854775807 := by
  obtain ⟨l, hl, rfl, hb⟩ := open_arr Tryz.underlying78 cells3 (by kernel_rfl) (fun _ _ _ h => rd_int h) h
  obtain ⟨a, b, c, rfl⟩ := len3 hl
  exact ⟨(a, b, c), rfl, (hb a (by simp)).2⟩
theorem rd_arr2 (h : DataW.trod enc Tryz.prog w base spare held n 84 cs = some x) : ∃ a : Int × Int, cs = eT2 a ∧ a.2 ≤ 9223372036854775807 := by
  obtain ⟨l, hl, rfl, hb⟩ := open_arr Tryz.underlying84 cells3 (by kernel_rfl) (fun _ _ _ h => rd_int h) h
  obtain ⟨a, b, rfl⟩ := len2 hl
  exact ⟨(a, b), rfl, (hb b (by simp)).2⟩
theorem rd_list2 (h : DataW.trod enc Tryz.prog w base spare held n 22 cs = some x) : ∃ s c, ∃ l : List (Int × Int), cs = [.slice s l.length c] ∧ l.length ≤ c ∧ c ≤ maxLen ∧ SlAt w 2 eT2 s l ∧ (∀ p ∈ l, p.2 ≤ 9223372036854775807) := by
  obtain ⟨s, c, l, h1, h2, h3, h4, h5, _⟩ := open_list Tryz.underlying22 cells84 (by decide) (fun _ _ _ h => rd_arr2 h) h
  exact ⟨s, c, l, h1, h2, h3, h4, h5⟩
theorem rd_u8 (h : DataW.trod enc Tryz.prog w base spare held n 5 cs = some x) : ∃ a : Nat, cs = eB a ∧ a < 256 := by
  obtain ⟨a, rfl, _, hw⟩ := DataW.trod_int Tryz.underlying5 h
  have e1 : IntKind.u8.min = 0 := by decide
  have e2 : IntKind.u8.max = 255 := by decide
  simp only [Lit.wf, Bool.and_eq_true, decide_eq_true_eq, e1, e2] at hw
  obtain ⟨k, rfl⟩ : ∃ k : Nat, a = k := ⟨a.toNat, by omega⟩
  exact ⟨k, rfl, by omega⟩
theorem rd_bytes (h : DataW.trod enc Tryz.prog w base spare held n 61 cs = some x) : ∃ s c, ∃ l : List Nat, cs = [.slice s l.length c] ∧ l.length ≤ c ∧ c ≤ maxLen ∧ SlAt w 1 eB s l ∧ (∀ a ∈ l, a < 256) ∧ (l = [] ∨ ∃ es rs, x.1 = .slice es rs ∧ es.length = l.length) :=
  open_list Tryz.underlying61 cells5 (by decide) (fun _ _ _ h => rd_u8 h) h
theorem rd_person (h : DataW.trod enc Tryz.prog w base spare held n 87 cs = some x) : ∃ p : Pe, cs = ePe p ∧ SlAt w 1 eI p.ws p.wl := by
  obtain ⟨xs, m, _, _, hl, hlen, hf⟩ := DataW.trod_struct Tryz.underlying87 h
  rw [cells87] at hl
  obtain ⟨c0, c1, c2, rfl⟩ := len3 hl
  have h0 : DataW.trod enc Tryz.prog w base spare held m 3 (([c0, c1, c2].drop 0).take (Tryz.prog.cellsOf 3)) = xs[0]? := hf 0 _ rfl
  rw [cells3] at h0
  have h1 : DataW.trod enc Tryz.prog w base spare held m 3 (([c0, c1, c2].drop 1).take (Tryz.prog.cellsOf 3)) = xs[1]? := hf 1 _ rfl
  rw [cells3] at h1
  have h2 : DataW.trod enc Tryz.prog w base spare held m 30 (([c0, c1, c2].drop 2).take (Tryz.prog.cellsOf 30)) = xs[2]? := hf 2 _ rfl
  rw [cells30] at h2
  simp at hlen
  obtain ⟨a, e0, _⟩ := rd_int (h0.trans (List.getElem?_eq_getElem (by omega)))
  obtain ⟨b, e1, _⟩ := rd_int (h1.trans (List.getElem?_eq_getElem (by omega)))
  obtain ⟨s, c, l, e2, _, _, hs, _⟩ := rd_ints (h2.trans (List.getElem?_eq_getElem (by omega)))
  simp [eI] at e0 e1 e2
  subst e0 e1 e2
  exact ⟨⟨a, b, s, c, l⟩, rfl, hs⟩
theorem rd_people (h : DataW.trod enc Tryz.prog w base spare held n 23 cs = some x) : ∃ s c, ∃ l : List Pe, cs = [.slice s l.length c] ∧ l.length ≤ c ∧ c ≤ maxLen ∧ SlAt w 3 ePe s l ∧ (∀ p ∈ l, SlAt w 1 eI p.ws p.wl) := by
  obtain ⟨s, c, l, h1, h2, h3, h4, h5, _⟩ := open_list Tryz.underlying23 cells87 (by decide) (fun _ _ _ h => rd_person h) h
  exact ⟨s, c, l, h1, h2, h3, h4, h5⟩
theorem rd_plan (h : DataW.trod enc Tryz.prog w base spare held n 25 cs = some x) : ∃ (sp : Option Addr) (cp : Nat) (lp : List (Int × Int)) (se : Option Addr) (ce : Nat) (le : List Pe), cs = [.slice sp lp.length cp, .slice se le.length ce] ∧
    SlAt w 2 eT2 sp lp ∧ (∀ p ∈ lp, p.2 ≤ 9223372036854775807) ∧ SlAt w 3 ePe se le ∧ (∀ p ∈ le, SlAt w 1 eI p.ws p.wl) := by
  obtain ⟨xs, m, _, _, hl, hlen, hf⟩ := DataW.trod_struct Tryz.underlying25 h
  rw [cells25] at hl
  obtain ⟨c0, c1, rfl⟩ := len2 hl
  have h0 : DataW.trod enc Tryz.prog w base spare held m 22 (([c0, c1].drop 0).take (Tryz.prog.cellsOf 22)) = xs[0]? := hf 0 _ rfl
  rw [cells22] at h0
  have h1 : DataW.trod enc Tryz.prog w base spare held m 23 (([c0, c1].drop 1).take (Tryz.prog.cellsOf 23)) = xs[1]? := hf 1 _ rfl
  rw [cells23] at h1
  simp at hlen
  obtain ⟨s, c, l, e0, _, _, hs, hb⟩ := rd_list2 (h0.trans (List.getElem?_eq_getElem (by omega)))
  obtain ⟨s2, c2, l2, e1, _, _, hs2, hb2⟩ := rd_people (h1.trans (List.getElem?_eq_getElem (by omega)))
  simp at e0 e1
  subst e0 e1
  exact ⟨s, c, l, s2, c2, l2, rfl, hs, hb, hs2, hb2⟩
end
end Go.Proofs.YtfjbioghpgmkiaaGreatDoor
