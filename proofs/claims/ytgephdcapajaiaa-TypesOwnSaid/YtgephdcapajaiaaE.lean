/- Layer 14: the checks of barred entrants, tiers, places and quotas; conditions: the rules lie in memory. -/
import Derived.Test.YtgephdcapajaiaaD
namespace Go.Proofs.Ytgephdcapajaiaa
open Go.Eng
attribute [local irreducible] PV StepF wpl wpd WP Ret

def tierOk (pick : Int) (t : Int × Int) : Bool := decide (0 ≤ t.1) && decide (t.1 ≤ pick) && decide (1 ≤ t.2) && decide (t.2 ≤ 100)
def placeOk (p : ByteArray × Int) : Bool := decide (1 ≤ p.2) && decide (p.2 ≤ 1000)
def quotaOk (size : Int) (q : ByteArray × Int × Int) : Bool := decide (0 ≤ q.2.1) && decide (q.2.1 ≤ q.2.2) && decide (q.2.2 ≤ size)
def sumW (l : List (Int × Int)) : Int := l.foldl (fun a t => IntKind.i64.wrap (a + t.2)) 0
def sum2 (l : List (Int × Int)) : Int := (l.map (·.2)).sum

theorem cells1 {f : Fr} {t : TypeId} {v : Value} {o : Obj} (h : cellsB 1 f t o) (hv : f 0 = v) : cellsB 1 (frOf [v]) t o := by
  have h' : o = .cells (Array.ofFn (n := 1) fun i => f i) t (0, 0) := h
  show o = _
  rw [h']
  congr 1
  apply Array.ext
  · simp
  · intro i h1 h2
    have : i = 0 := by simp at h1; omega
    subst this
    simp [hv, frOf]

theorem range_all {α : Type} (l : List α) (p : α → Bool) : (List.range l.length).all (fun i => match l[i]? with | some x => p x | none => true) = l.all p := by
  rw [Bool.eq_iff_iff, List.all_eq_true, List.all_eq_true]
  constructor
  · intro h x hx
    obtain ⟨i, hi, rfl⟩ := List.getElem_of_mem hx
    have := h i (by simpa using hi)
    rw [List.getElem?_eq_getElem hi] at this
    exact this
  · intro h i hi
    have hi' : i < l.length := by simpa using hi
    rw [List.getElem?_eq_getElem hi']
    exact h _ (List.getElem_mem hi')

/-- an element's condition by its index -/
def pA {α : Type} (l : List α) (p : α → Bool) (i : Nat) : Bool := match l[i]? with | some x => p x | none => true
theorem pA_at {α : Type} {l : List α} {p : α → Bool} {i : Nat} {x : α} (h : l[i]? = some x) : pA l p i = p x := by unfold pA; rw [h]
theorem pA_all {α : Type} (l : List α) (p : α → Bool) : (List.range l.length).all (pA l p) = l.all p := range_all l p

structure JT (pick : Int) (sb db : Nat) (s : Int) (w : World) : Prop where
  sum : ∃ o, w.heap[sb]? = some o ∧ cellsB 1 (frOf [.int .i64 s]) 3 o
  pick : w.cell? ⟨db, 5, none⟩ = some (.int .i64 pick)
theorem JT.keep {pick : Int} {sb db : Nat} {s : Int} {w w' : World} (h : JT pick sb db s w) (hk : Keeps [] w w') : JT pick sb db s w' := by
  obtain ⟨o, ho, hc⟩ := h.sum
  exact ⟨⟨o, by rw [hk.block sb (Array.getElem?_eq_some_iff.1 ho).1 (by simp)]; exact ho, hc⟩, hk.cell h.pick (by simp)⟩

theorem c74 (t : Int × Int) (pick : Int) (sb db : Nat) (s : Int) (w : World) (hJ : JT pick sb db s w) (hne : db ≠ sb) :
    Ret Try.prog 74 [vT t, .pointer (some ⟨sb, 0, none⟩), .pointer (some ⟨db, 0, none⟩)] w (fun v w' => v = .bool (tierOk pick t) ∧ Keeps [sb] w w' ∧ JT pick sb db (IntKind.i64.wrap (s + t.2)) w') := by
  refine Ret.of_WP Try.func74 rfl Try.ntmps74 rfl ?_
  obtain ⟨o, ho, hc⟩ := hJ.sum
  have hp : Hp w [sb] w [blk sb 1 (frOf [.int .i64 s]) 3] := Hp.start.adopt (by simp) ho hc (by simp)
  have hpk := hJ.pick
  (repeat (first | (with_reducible first | apply WP_seq | apply WP_region | apply wpl_nil | apply thenQ_n) | (apply wlp; ((first | apply pv_assign | apply pf_field | (apply pf_load; exact rfl)) <;> (first | exact rfl | exact hp.cell 0 rfl rfl | exact hp.cell 1 rfl rfl)); (first | exact fI rfl | exact fB rfl | exact fP rfl)) | (apply wls; exact sbox2 hp rfl; rintro _ w ⟨b, rfl, hp⟩)))
  (apply wlp; exact pv_add rfl rfl; exact rfl)
  (apply wls0; exact sstore1 hp 1 rfl rfl rfl rfl (sizeTy_ok rfl) rfl; rintro _ w2 ⟨rfl, hp⟩)
  (repeat (first | (with_reducible first | apply WP_seq | apply WP_region | apply wpl_nil | apply thenQ_n) | ((first | apply wlp | (apply wlg; exact rfl; exact rfl)); (intros; ((first | apply pv_move | apply pf_field | (apply pf_load; exact rfl) | apply pv_geq) <;> (first | exact rfl | exact ev_sel rfl (by assumption) | exact hp.cell 0 rfl rfl))); (intros; (first | exact fI rfl | exact fB rfl | exact fP rfl)))))
  (apply wlg; exact rfl; exact rfl; (intro hb; (apply pf_load; exact rfl; exact ev_sel rfl hb; exact hp.old hpk (by simp [hne]))); (intro hb; exact rfl))
  (repeat (first | (with_reducible first | apply wpl_nil | apply thenQ_n | apply WP_ret) | ((first | apply wlp | (apply wlg; exact rfl; exact rfl)); (intros; ((first | apply pv_move | apply pv_assign | apply pf_field | (apply pf_load; exact rfl) | exact pv_and rfl rfl rfl | apply pv_leq | apply pv_geq) <;> (first | exact rfl | exact ev_sel rfl (by assumption) | exact hp.cell 0 rfl rfl))); (intros; (first | exact fI rfl | exact fB rfl | exact fP rfl)))))
  refine ret_tmp rfl rfl ⟨_, rfl, rfl, hp.keeps, ?_, hp.old hpk (by simp [hne])⟩
  obtain ⟨o', ho', hc'⟩ := hp.has 1 _ rfl sb rfl
  exact ⟨o', ho', cells1 hc' rfl⟩

theorem c78 (p : ByteArray × Int) (w : World) : Ret Try.prog 78 [vP p] w (fun v w' => v = .bool (isWordB p.1) ∧ Keeps [] w w') := by
  refine Ret.of_WP Try.func78 rfl Try.ntmps78 rfl ?_
  have hp := Hp.start (M := []) (w := w)
  (repeat (first | (with_reducible first | apply WP_seq | apply WP_region | apply wpl_nil | apply thenQ_n) | (apply wlp; ((first | apply pv_assign | apply pf_field | (apply pf_load; exact rfl)) <;> (first | exact rfl | exact hp.cell 0 rfl rfl)); (first | exact fB rfl | exact fP rfl | exact fT rfl)) | (apply wls; exact sbox2 hp rfl; rintro _ w ⟨b, rfl, hp⟩)))
  (apply wls; exact st_call rfl ent68 rfl (c68 _ _))
  rintro _ w' ⟨rfl, hk⟩
  have hp := hp.call hk
  (repeat (first | (with_reducible first | apply wpl_nil | apply thenQ_n | apply WP_ret) | (apply wlp; exact pv_assign; exact rfl)))
  exact ret_tmp rfl rfl ⟨_, rfl, rfl, hp.keeps⟩
theorem c79 (p : ByteArray × Int) (w : World) : Ret Try.prog 79 [vP p] w (fun v w' => v = .bool (placeOk p) ∧ Keeps [] w w') := by
  refine Ret.of_WP Try.func79 rfl Try.ntmps79 rfl ?_
  have hp := Hp.start (M := []) (w := w)
  (repeat (first | (with_reducible first | apply WP_seq | apply WP_region | apply wpl_nil | apply thenQ_n | apply WP_ret) | ((first | apply wlp | (apply wlg; exact rfl; exact rfl)); (intros; ((first | apply pv_move | apply pv_assign | apply pf_field | (apply pf_load; exact rfl) | exact pv_and rfl rfl rfl | apply pv_leq | apply pv_geq) <;> (first | exact rfl | exact ev_sel rfl (by assumption) | exact hp.cell 0 rfl rfl))); (intros; (first | exact fI rfl | exact fB rfl | exact fP rfl))) | (apply wls; exact sbox2 hp rfl; rintro _ w ⟨b, rfl, hp⟩)))
  exact ret_tmp rfl rfl ⟨_, rfl, rfl, hp.keeps⟩
theorem c83 (p : ByteArray × Int × Int) (w : World) : Ret Try.prog 83 [vQ p] w (fun v w' => v = .bool (isWordB p.1) ∧ Keeps [] w w') := by
  refine Ret.of_WP Try.func83 rfl Try.ntmps83 rfl ?_
  have hp := Hp.start (M := []) (w := w)
  (repeat (first | (with_reducible first | apply WP_seq | apply WP_region | apply wpl_nil | apply thenQ_n) | (apply wlp; ((first | apply pv_assign | apply pf_field | (apply pf_load; exact rfl)) <;> (first | exact rfl | exact hp.cell 0 rfl rfl)); (first | exact fB rfl | exact fP rfl | exact fT rfl)) | (apply wls; exact sbox3 hp rfl; rintro _ w ⟨b, rfl, hp⟩)))
  (apply wls; exact st_call rfl ent68 rfl (c68 _ _))
  rintro _ w' ⟨rfl, hk⟩
  have hp := hp.call hk
  (repeat (first | (with_reducible first | apply wpl_nil | apply thenQ_n | apply WP_ret) | (apply wlp; exact pv_assign; exact rfl)))
  exact ret_tmp rfl rfl ⟨_, rfl, rfl, hp.keeps⟩
theorem c84 (q : ByteArray × Int × Int) (sz : Int) (db : Nat) (w : World) (hc : w.cell? ⟨db, 10, none⟩ = some (.int .i64 sz)) : Ret Try.prog 84 [vQ q, .pointer (some ⟨db, 0, none⟩)] w (fun v w' => v = .bool (quotaOk sz q) ∧ Keeps [] w w') := by
  refine Ret.of_WP Try.func84 rfl Try.ntmps84 rfl ?_
  have hp := Hp.start (M := []) (w := w)
  (repeat (first | (with_reducible first | apply WP_seq | apply WP_region | apply wpl_nil | apply thenQ_n | apply WP_ret) | ((first | apply wlp | (apply wlg; exact rfl; exact rfl)); (intros; ((first | apply pv_move | apply pv_assign | apply pf_field | (apply pf_load; exact rfl) | exact pv_and rfl rfl rfl | apply pv_leq | apply pv_geq) <;> (first | exact rfl | exact ev_sel rfl (by assumption) | exact hp.cell 0 rfl rfl | exact hp.old0 (by assumption)))); (intros; (first | exact fI rfl | exact fB rfl | exact fP rfl))) | (apply wls; exact sbox3 hp rfl; rintro _ w ⟨b, rfl, hp⟩)))
  exact ret_tmp rfl rfl ⟨_, rfl, rfl, hp.keeps⟩

def ckBar (d : Dr) : Int := if 40 < (d.barred.length : Int) then 2 else if nodupB d.barred = true then 0 else 33

theorem map_id' {α : Type} (l : List α) : l.map (fun x => x) = l := by simp

theorem c53 (d : Dr) (a : DrA) (w : World) (hd : DrAt w d a) : Ret Try.prog 53 [drV d a] w (fun v w' => v = .int .i64 (ckBar d) ∧ Keeps [] w w') := by
  refine Ret.of_WP Try.func53 rfl Try.ntmps53 rfl ?_
  have hp := Hp.start (M := []) (w := w)
  (repeat (first | (with_reducible first | apply WP_seq | apply WP_region | apply wpl_nil | apply thenQ_n) | (apply wlp; ((first | apply pv_assign | apply pf_field | (apply pf_load; exact rfl) | (apply pf_len; exact rfl) | apply pv_gtr) <;> (first | exact rfl | exact hp.cell 0 rfl rfl)); (first | exact fI rfl | exact fB rfl | exact fP rfl | exact fS rfl)) | (apply wls; exact sbox13 hp rfl; rintro _ w ⟨b, rfl, hp⟩)))
  refine WP_cond_d rfl (fun h => ?_) (fun h => ?_)
  · (repeat (first | (with_reducible first | apply WP_seq | apply WP_region | apply wpl_nil | apply thenQ_n | apply thenQ_ret | apply WP_ret) | (apply wlp; exact pv_assign; exact rfl)))
    exact ret_tmp rfl rfl ⟨_, rfl, int_eq (Eq.symm (if_pos h)), hp.keeps⟩
  · (repeat (first | (with_reducible first | apply WP_seq | apply WP_region | apply thenQ_n | apply WP_skip) | (apply wlp; ((first | apply pf_field | (apply pf_load; exact rfl)) <;> (first | exact rfl | exact hp.cell 0 rfl rfl)); (first | exact fP rfl | exact fS rfl))))
    have hc := c71 (fun x => x) 72 ent72 a.sB a.cB d.barred _ (by omega) (hd.barred.keep0 hp.keeps) (fun x w' => c72 x w')
    rw [map_id'] at hc
    (apply wls; exact st_call rfl ent71 rfl hc)
    rintro _ w' ⟨rfl, hk⟩
    have hp := hp.call hk
    (repeat (first | (with_reducible first | apply wpl_nil | apply thenQ_n) | (apply wlp; (apply pv_not <;> exact rfl); exact fB rfl)))
    refine WP_cond rfl (fun h2 => ?_) (fun h2 => ?_)
    · (repeat (first | (with_reducible first | apply WP_seq | apply WP_region | apply wpl_nil | apply thenQ_n | apply thenQ_ret | apply WP_ret) | (apply wlp; exact pv_assign; exact rfl)))
      exact ret_tmp rfl rfl ⟨_, rfl, int_eq (Eq.symm ((if_neg h).trans (if_neg (neT (by simpa using h2))))), hp.keeps⟩
    · (repeat (first | (with_reducible first | apply WP_seq | apply WP_region | apply wpl_nil | apply thenQ_n | apply WP_ret | apply WP_skip) | (apply wlp; exact pv_assign; exact rfl)))
      exact ret_tmp rfl rfl ⟨_, rfl, int_eq (Eq.symm ((if_neg h).trans (if_pos (by simpa using h2)))), hp.keeps⟩

def lenBad (n : Nat) : Bool := decide ((n : Int) < 1) || decide (12 < (n : Int))

def ckPlaces (d : Dr) : Int :=
  if lenBad d.places.length = true then 2
  else if d.places.all (fun p => isWordB p.1) = false then 13
  else if d.places.all placeOk = false then 15
  else if nodupB (d.places.map (·.1)) = false then 33
  else 0

theorem c57 (d : Dr) (a : DrA) (w : World) (hd : DrAt w d a) : Ret Try.prog 57 [drV d a] w (fun v w' => v = .int .i64 (ckPlaces d) ∧ Keeps [] w w') := by
  refine Ret.of_WP Try.func57 rfl Try.ntmps57 rfl ?_
  have hp := Hp.start (M := []) (w := w)
  (repeat (first | (with_reducible first | apply WP_seq | apply WP_region | apply wpl_nil | apply thenQ_n) | ((first | apply wlp | (apply wlg; exact rfl; exact rfl)); (intros; ((first | apply pv_move | apply pv_assign | apply pf_field | (apply pf_load; exact rfl) | (apply pf_len; exact rfl) | exact pv_or rfl rfl rfl | apply pv_lss | apply pv_gtr) <;> (first | exact rfl | exact ev_sel rfl (by assumption) | exact hp.cell 0 rfl rfl))); (intros; (first | exact fI rfl | exact fB rfl | exact fP rfl | exact fS rfl))) | (apply wls; exact sbox13 hp rfl; rintro _ w ⟨b, rfl, hp⟩)))
  refine WP_cond rfl (fun h => ?_) (fun h => ?_)
  · (repeat (first | (with_reducible first | apply WP_seq | apply WP_region | apply wpl_nil | apply thenQ_n | apply thenQ_ret | apply WP_ret) | (apply wlp; exact pv_assign; exact rfl)))
    exact ret_tmp rfl rfl ⟨_, rfl, int_eq (Eq.symm (if_pos h)), hp.keeps⟩
  have h1 : lenBad d.places.length = false := h
  have hn : d.places.length ≤ 1000000000 := by simp at h; omega
  have h1 := neT h1
  (repeat (first | (with_reducible first | apply WP_seq | apply WP_region | apply thenQ_n | apply WP_skip) | (apply wlp; ((first | apply pf_field | (apply pf_load; exact rfl)) <;> (first | exact rfl | exact hp.cell 0 rfl rfl)); (first | exact fP rfl | exact fS rfl))))
  have hc := c77 78 #[] ent78 [] (fun _ _ => True) (pA d.places (fun p => isWordB p.1)) a.sP a.cP d.places _ hn (hd.places.keep0 hp.keeps) (by simp) trivial (fun _ _ _ _ _ => trivial)
    (fun i x w' hx _ => (c78 x w').mono (fun v w'' ⟨hv, hk⟩ => ⟨by rw [hv, pA_at hx], hk, fun _ => trivial⟩))
  rw [pA_all] at hc
  (apply wls; exact st_call rfl ent77 rfl hc)
  clear hc
  rintro _ w' ⟨rfl, hk, _⟩
  have hp := hp.call hk
  (repeat (first | (with_reducible first | apply wpl_nil | apply thenQ_n) | (apply wlp; (apply pv_not <;> exact rfl); exact fB rfl)))
  refine WP_cond rfl (fun h => ?_) (fun h => ?_)
  · (repeat (first | (with_reducible first | apply WP_seq | apply WP_region | apply wpl_nil | apply thenQ_n | apply thenQ_ret | apply WP_ret) | (apply wlp; exact pv_assign; exact rfl)))
    exact ret_tmp rfl rfl ⟨_, rfl, int_eq (Eq.symm ((if_neg h1).trans (if_pos (by simpa using h)))), hp.keeps⟩
  have h2 : ¬ d.places.all (fun p => isWordB p.1) = false := by simpa using h
  (repeat (first | (with_reducible first | apply WP_seq | apply WP_region | apply thenQ_n | apply WP_skip) | (apply wlp; ((first | apply pf_field | (apply pf_load; exact rfl)) <;> (first | exact rfl | exact hp.cell 0 rfl rfl)); (first | exact fP rfl | exact fS rfl))))
  have hc := c77 79 #[] ent79 [] (fun _ _ => True) (pA d.places placeOk) a.sP a.cP d.places _ hn (hd.places.keep0 hp.keeps) (by simp) trivial (fun _ _ _ _ _ => trivial)
    (fun i x w' hx _ => (c79 x w').mono (fun v w'' ⟨hv, hk⟩ => ⟨by rw [hv, pA_at hx], hk, fun _ => trivial⟩))
  rw [pA_all] at hc
  (apply wls; exact st_call rfl ent77 rfl hc)
  clear hc
  rintro _ w' ⟨rfl, hk, _⟩
  have hp := hp.call hk
  (repeat (first | (with_reducible first | apply wpl_nil | apply thenQ_n) | (apply wlp; (apply pv_not <;> exact rfl); exact fB rfl)))
  refine WP_cond rfl (fun h => ?_) (fun h => ?_)
  · (repeat (first | (with_reducible first | apply WP_seq | apply WP_region | apply wpl_nil | apply thenQ_n | apply thenQ_ret | apply WP_ret) | (apply wlp; exact pv_assign; exact rfl)))
    exact ret_tmp rfl rfl ⟨_, rfl, int_eq (Eq.symm ((if_neg h1).trans ((if_neg h2).trans (if_pos (by simpa using h))))), hp.keeps⟩
  have h3 : ¬ d.places.all placeOk = false := by simpa using h
  (repeat (first | (with_reducible first | apply WP_seq | apply WP_region | apply thenQ_n | apply WP_skip) | (apply wlp; ((first | apply pf_field | (apply pf_load; exact rfl)) <;> (first | exact rfl | exact hp.cell 0 rfl rfl)); (first | exact fP rfl | exact fS rfl))))
  (apply wls; exact st_call rfl ent80 rfl (c80 (·.1) 81 ent81 a.sP a.cP d.places _ hn (hd.places.keep0 hp.keeps) (fun x w' => c81 x w')))
  rintro _ w' ⟨rfl, hk⟩
  have hp := hp.call hk
  (repeat (first | (with_reducible first | apply wpl_nil | apply thenQ_n) | (apply wlp; (apply pv_not <;> exact rfl); exact fB rfl)))
  refine WP_cond rfl (fun h => ?_) (fun h => ?_)
  · (repeat (first | (with_reducible first | apply WP_seq | apply WP_region | apply wpl_nil | apply thenQ_n | apply thenQ_ret | apply WP_ret) | (apply wlp; exact pv_assign; exact rfl)))
    exact ret_tmp rfl rfl ⟨_, rfl, int_eq (Eq.symm ((if_neg h1).trans ((if_neg h2).trans ((if_neg h3).trans (if_pos (by simpa using h)))))), hp.keeps⟩
  · (repeat (first | (with_reducible first | apply WP_seq | apply WP_region | apply wpl_nil | apply thenQ_n | apply WP_ret | apply WP_skip) | (apply wlp; exact pv_assign; exact rfl)))
    exact ret_tmp rfl rfl ⟨_, rfl, int_eq (Eq.symm ((if_neg h1).trans ((if_neg h2).trans ((if_neg h3).trans (if_neg (by simpa using h)))))), hp.keeps⟩
end Go.Proofs.Ytgephdcapajaiaa
