/- The engine, part F: struct and slice literals, append onto a slice of the call's own; conditions are the hypotheses of each law. -/
import Derived.Test.YteklkjnhefnimaaDoorEngM
namespace Go.Eng

/-! ### literals -/
def setL (cs : List Value) (o : Nat) : List Value → List Value
  | [] => cs
  | v :: vs => setL (cs.set o v) (o + 1) vs
theorem setL_length : ∀ (vs cs : List Value) (o : Nat), (setL cs o vs).length = cs.length
  | [], _, _ => rfl
  | v :: vs, cs, o => by simp [setL, setL_length vs]
theorem zipIdx_set : ∀ (vs cs : List Value) (o k : Nat), (vs.zipIdx k).foldl (fun (a : Array Value) (x : Value × Nat) => a.setIfInBounds (o + x.2) x.1) cs.toArray = (setL cs (o + k) vs).toArray
  | [], _, _, _ => rfl
  | v :: vs, cs, o, k => by
    simp only [List.zipIdx_cons, List.foldl_cons, setL]
    have h : (cs.toArray).setIfInBounds (o + k) v = (cs.set (o + k) v).toArray := by simp
    rw [h, zipIdx_set vs _ o (k + 1)]
    rfl

def fillL (sz : Nat) (cs : List Value) : List (Nat × Value) → List Value
  | [] => cs
  | (i, v) :: ps => fillL sz (setL cs (i * sz) v.cells.toList) ps

theorem fill_eq (place : Nat → Option (Nat × Nat)) (sz k : Nat) (hpl : ∀ i, i < k → place i = some (i * sz, sz)) : ∀ (ps : List (Nat × Value)) (cs : List Value), cs.length = k * sz →
    (ps.all fun p => Nat.blt p.1 k && Nat.beq p.2.cells.size sz) = true → Instr.fill place cs.toArray ps = some (fillL sz cs ps).toArray
  | [], cs, _, _ => rfl
  | (i, v) :: ps, cs, hl, h => by
    simp only [List.all_cons, Bool.and_eq_true] at h
    obtain ⟨⟨h1, h2⟩, h3⟩ := h
    have hi := lt_of_nblt h1
    have hs : v.cells.size = sz := Nat.eq_of_beq_eq_true h2
    have hle : i * sz + sz ≤ k * sz := by
      rw [← Nat.succ_mul]
      exact Nat.mul_le_mul_right sz hi
    have hz : v.cells.zipIdx.foldl (fun cs (x : Value × Nat) => cs.setIfInBounds (i * sz + x.2) x.1) cs.toArray = (setL cs (i * sz) v.cells.toList).toArray := by
      rw [← Array.foldl_toList, Array.toList_zipIdx]
      have := zipIdx_set v.cells.toList cs (i * sz) 0
      simpa using this
    simp only [Instr.fill, hpl i hi]
    rw [if_neg (by simp [hs, hl]; omega)]
    rw [hz]
    exact fill_eq place sz k hpl ps _ (by rw [setL_length]; exact hl) h3

/-- a struct all of whose fields have one cell -/
def FlatAt (P : Program) (t k : Nat) : Prop := ∃ fs, P.underlying t = some (.struct fs) ∧ ∀ w, ∃ pl : Array (Nat × Nat), (fs.mapM (fun f => do pure (f.offset, ← sizeOf f.type) : Field → Sem (Nat × Nat))).run P w = .ok pl w ∧ ∀ i, i < k → pl[i]? = some (i * 1, 1)

section
variable {P : Program} {n : Nat} {w0 w : World} {M : List Nat} {L : List Ent} {F : Fr} {d : Option Tmp} {ty : TypeId} {pos : String} {aft : Array Edge} {g : Option (Nat × Bool)} {x y : Operand}

theorem map_parts (n : Nat) (F : Fr) (ps : Array (Nat × Operand)) : (ps.map fun (i, x) => (i, ev n F x)).toList = ps.toList.map fun p => (p.1, ev n F p.2) := by
  cases ps; simp

theorem pv_build_s {t : TypeId} {k : Nat} {ps : Array (Nat × Operand)} {zs : List Value} (hf : FlatAt P t k) (hz : TZero P t (.agg zs.toArray)) (hl : zs.length = k)
    (hall : ((ps.toList.map fun p => (p.1, ev n F p.2)).all fun p => Nat.blt p.1 k && Nat.beq p.2.cells.size 1) = true) :
    PV P n w F ⟨d, .build t ps, ty, pos, aft, g⟩ (.agg (fillL 1 zs (ps.toList.map fun p => (p.1, ev n F p.2))).toArray) := by
  obtain ⟨fs, ht, hw⟩ := hf
  obtain ⟨pl, hpl, hp⟩ := hw w
  have hfill := fill_eq (pl[·]?) 1 k hp _ zs (by omega) hall
  simp only [PV, execOp, Instr.build, Sem.run_bind, hz.run, Result.andThen_ok, run_und ht, hpl, Value.cells, map_parts, hfill]
  rfl

theorem pv_build_a {t e : TypeId} {k sz : Nat} {ps : Array (Nat × Operand)} {zs : List Value} (ht : P.underlying t = some (.array k e)) (hs : TSize P e sz) (hz : TZero P t (.agg zs.toArray)) (hl : zs.length = k * sz)
    (hall : ((ps.toList.map fun p => (p.1, ev n F p.2)).all fun p => Nat.blt p.1 k && Nat.beq p.2.cells.size sz) = true) :
    PV P n w F ⟨d, .build t ps, ty, pos, aft, g⟩ (.agg (fillL sz zs (ps.toList.map fun p => (p.1, ev n F p.2))).toArray) := by
  have hfill := fill_eq (fun i => some (i * sz, sz)) sz k (fun _ _ => rfl) _ zs hl hall
  simp only [PV, execOp, Instr.build, Sem.run_bind, hz.run, Result.andThen_ok, run_und ht, hs.run, Value.cells, map_parts, hfill]
  rfl

theorem setL_mid : ∀ (vs pre rest : List Value), vs.length ≤ rest.length → setL (pre ++ rest) pre.length vs = pre ++ vs ++ rest.drop vs.length
  | [], pre, rest, _ => by simp [setL]
  | v :: vs, pre, [], h => by simp at h
  | v :: vs, pre, r :: rest, h => by
    simp only [setL]
    have h1 : (pre ++ r :: rest).set pre.length v = (pre ++ [v]) ++ rest := by
      rw [List.set_append_right _ _ (Nat.le_refl _)]
      simp
    have := setL_mid vs (pre ++ [v]) rest (by simpa using h)
    rw [h1]
    simp only [List.length_append, List.length_cons, List.length_nil] at this
    rw [this]
    simp

/-- the parts in their order -/
def ordered (sz : Nat) : Nat → List (Nat × Value) → Bool
  | _, [] => true
  | i, (j, v) :: ps => Nat.beq j i && Nat.beq v.cells.size sz && ordered sz (i + 1) ps

theorem fillL_ord (sz : Nat) : ∀ (ps : List (Nat × Value)) (i : Nat) (pre rest : List Value), ordered sz i ps = true → pre.length = i * sz → rest.length = ps.length * sz →
    fillL sz (pre ++ rest) ps = pre ++ ps.flatMap (fun p => p.2.cells.toList)
  | [], i, pre, rest, _, _, h => by
    have : rest = [] := List.eq_nil_of_length_eq_zero (by simpa using h)
    simp [fillL, this]
  | (j, v) :: ps, i, pre, rest, ho, hp, hr => by
    simp only [ordered, Bool.and_eq_true] at ho
    obtain ⟨⟨h1, h2⟩, h3⟩ := ho
    have hj : j = i := Nat.eq_of_beq_eq_true h1
    have hs : v.cells.size = sz := Nat.eq_of_beq_eq_true h2
    subst hj
    have hlen : v.cells.toList.length = sz := by simpa using hs
    have hr' : rest.length = ps.length * sz + sz := by rw [hr, List.length_cons, Nat.succ_mul]
    simp only [fillL]
    rw [← hp, setL_mid _ _ _ (by rw [hlen, hr']; omega)]
    rw [fillL_ord sz ps (j + 1) (pre ++ v.cells.toList) (rest.drop v.cells.toList.length) h3 (by rw [List.length_append, hlen, hp, Nat.succ_mul]) (by rw [List.length_drop, hlen, hr']; omega)]
    simp

theorem ordered_all (sz k : Nat) : ∀ (ps : List (Nat × Value)) (i : Nat), ordered sz i ps = true → i + ps.length ≤ k → (ps.all fun p => Nat.blt p.1 k && Nat.beq p.2.cells.size sz) = true
  | [], _, _, _ => rfl
  | (j, v) :: ps, i, ho, hl => by
    simp only [ordered, Bool.and_eq_true] at ho
    obtain ⟨⟨h1, h2⟩, h3⟩ := ho
    have hj : j = i := Nat.eq_of_beq_eq_true h1
    simp only [List.length_cons] at hl
    simp only [List.all_cons, Bool.and_eq_true]
    exact ⟨⟨nblt_true (by omega), h2⟩, ordered_all sz k ps (i + 1) h3 (by omega)⟩

/-- a slice literal -/
theorem st_buildSlice {t e : TypeId} {sz k : Nat} {ps : Array (Nat × Operand)} {z : Value} {vs : List (Nat × Value)} {cs : List Value} (hp : Hp w0 M w L) (ht : P.underlying t = some (.slice e)) (hs : TSize P e sz) (hz : TZero P e z)
    (hvs : (ps.toList.map fun p => (p.1, ev n F p.2)) = vs) (ho : ordered sz 0 vs = true) (hk : vs.length = k) (hcs : vs.flatMap (fun p => p.2.cells.toList) = cs) (hsm : k * sz ≤ 16777216) :
    StepF P n ⟨d, .buildSlice t k ps, ty, pos, aft, g⟩ F w (fun u w' => ∃ b, u = .slice (some ⟨b, 0, none⟩) k k ∧ Hp w0 M w' (blk b cs.length (frOf cs) e :: L)) := by
  subst hvs
  obtain ⟨zs, hzs⟩ : ∃ zs : List Value, zs = (Array.range (k * sz)).toList.map (z.cells[· % z.cells.size]!) := ⟨_, rfl⟩
  have hzl : zs.length = k * sz := by rw [hzs]; simp
  have hfill := fill_eq (fun i => some (i * sz, sz)) sz k (fun _ _ => rfl) _ zs hzl (ordered_all sz k _ 0 ho (by omega))
  have hord := fillL_ord sz (ps.toList.map fun p => (p.1, ev n F p.2)) 0 [] zs ho (by simp) (by rw [hzl, hk])
  simp only [List.nil_append] at hord
  rw [hord, hcs] at hfill
  refine stepF_val (v := .slice (some ⟨w.heap.size, 0, none⟩) k k) (w' := w.alloc (.cells cs.toArray e)) ?_ ⟨_, rfl, hp.alloc _ ?_⟩
  · have hbig : ¬ k * sz > 2 ^ 24 := by
      have : (2 : Nat) ^ 24 = 16777216 := rfl
      omega
    by_cases h0 : k * sz = 0
    · have hzn : zs = [] := List.eq_nil_of_length_eq_zero (by omega)
      rw [hzn] at hfill
      have hcsn : Array.map (fun x => (#[] : Array Value)[x % (#[] : Array Value).size]!) (Array.range (k * sz)) = (#[] : Array Value) := by rw [h0]; simp
      simp only [execOp, Instr.buildSlice, Sem.run_bind, run_und ht, Result.andThen_ok, hs.run, if_neg hbig, if_pos h0, Sem.run_pure, map_parts]
      rw [hcsn]
      simp [newRow, newObj, Sem.run, hfill]
    · have hzz : Array.map (fun x => z.cells[x % z.cells.size]!) (Array.range (k * sz)) = zs.toArray := by
        rw [hzs]
        apply Array.ext'
        simp
      simp only [execOp, Instr.buildSlice, Sem.run_bind, run_und ht, Result.andThen_ok, hs.run, if_neg hbig, if_neg h0, hz.run, Sem.run_pure, map_parts]
      rw [hzz]
      simp [newRow, newObj, Sem.run, hfill]
  · show _ = _
    rw [frOf_arr]
end

/-! ### slices that the call owns -/
/-- the block of a slice: its first n elements are xs -/
def rowB (e size cap n : Nat) (xs : List Value) : Obj → Prop := fun o => ∃ cur, o = .cells cur e (0, 0) ∧ cur.size = cap * size ∧ cur.toList.take (n * size) = xs
def scap : Value → Nat
  | .slice _ _ c => c
  | _ => 0
def ownE (v : Value) (e size n : Nat) (xs : List Value) : Ent := (v.ownBlock, rowB e size (scap v) n xs)
def SV (v : Value) (n : Nat) : Prop := (v = .slice none 0 0 ∧ n = 0) ∨ ∃ g cap, v = .slice (some ⟨g, 0, none⟩) n cap ∧ n ≤ cap ∧ cap ≤ maxLen

theorem SV.nil : SV (.slice none 0 0) 0 := .inl ⟨rfl, rfl⟩
theorem SV.ex {v : Value} {n : Nat} (h : SV v n) : ∃ s c, v = .slice s n c := by
  rcases h with ⟨rfl, rfl⟩ | ⟨g, cap, rfl, _⟩
  · exact ⟨_, _, rfl⟩
  · exact ⟨_, _, rfl⟩

section
variable {w0 w w' : World} {M : List Nat} {L : List Ent} {v : Value} {e size n : Nat} {xs : List Value}

theorem Hp.addNil (h : Hp w0 M w L) (φ : Obj → Prop) : Hp w0 M w ((none, φ) :: L) := h.add .refl (by simp)

theorem Hp.owns (h : Hp w0 M w L) {i : Nat} (hi : L[i]? = some (ownE v e size n xs)) (hv : SV v n) (hl : xs.length = n * size) : w.ownsRow 0 e size v n xs := by
  refine ⟨hl, ?_⟩
  rcases hv with ⟨rfl, rfl⟩ | ⟨g, cap, rfl, h1, h2⟩
  · exact .inl ⟨rfl, rfl⟩
  · obtain ⟨o, ho, cur, rfl, hsz, htk⟩ := h.has i _ hi g rfl
    exact .inr ⟨g, cap, cur, rfl, Nat.zero_le _, ho, h1, h2, hsz, htk⟩

/-- a cell of an owned slice -/
theorem Hp.own_cell (h : Hp w0 M w L) {i g cap j : Nat} {u : Value} (hi : L[i]? = some (ownE (.slice (some ⟨g, 0, none⟩) n cap) e size n xs)) (hj : xs[j]? = some u) : w.cell? ⟨g, 0 + j, none⟩ = some u := by
  obtain ⟨o, ho, cur, rfl, _, htk⟩ := h.has i _ hi g rfl
  rw [← htk, List.getElem?_take] at hj
  split at hj
  · simpa [World.cell?, ho] using hj
  · cases hj
end

section
variable {P : Program} {n : Nat} {w0 w : World} {M : List Nat} {L : List Ent} {F : Fr} {d : Option Tmp} {ty : TypeId} {pos : String} {aft : Array Edge} {g : Option (Nat × Bool)} {x y : Operand}

/-- append onto a slice that the call owns; the source is any slice -/
theorem st_append {t e : TypeId} {size by_ : Nat} {z v : Value} {m k c : Nat} {xs news : List Value} {s : Option Addr} (hp : Hp w0 M w L) (i : Nat) (ht : P.underlying t = some (.slice e)) (hs : TSize P e size) (hby : TBytes P e by_) (hz : TZero P e z)
    (hzs : z.cells.size = size) (hpos : 0 < size) (hx : ev n F x = v) (hy : ev n F y = .slice s k c) (hi : L[i]? = some (ownE v e size m xs)) (hv : SV v m) (hl : xs.length = m * size) (hn : news.length = k * size)
    (hsrc : ∀ (j : Nat) (u : Value), news[j]? = some u → ∃ b o, s = some ⟨b, o, none⟩ ∧ w.cell? ⟨b, o + j, none⟩ = some u) (h1 : ∀ u ∈ news, oneV u = true)
    (hb1 : m + k ≤ maxLen) (hb2 : (m + k) * by_ ≤ 140737488355328) :
    StepF P n ⟨d, .call ⟨.builtin .append, #[x, y], #[t, t]⟩, ty, pos, aft, g⟩ F w (fun u w' => SV u (m + k) ∧ Hp w0 M w' (L.set i (ownE u e size (m + k) (xs ++ news)))) := by
  obtain ⟨inf, hinf, hib⟩ := hby.ex
  have his : inf.size = size := by
    unfold TSize at hs
    simpa [hinf] using hs
  have hiz : inf.zero = some z := by
    unfold TZero at hz
    simpa [hinf] using hz
  have hone : ∀ u ∈ news, u.oneCell' = true := by
    intro u hu
    have := h1 u hu
    cases u <;> first | rfl | (cases this)
  have howns := hp.owns hi hv hl
  by_cases hk : k = 0
  · subst hk
    have hnn : news = [] := List.eq_nil_of_length_eq_zero (by simpa using hn)
    subst hnn
    have hrun : (Builtin.append_ #[t, t] ty #[v, .slice s 0 c]).run P w = .ok v w := by
      rcases hv with ⟨rfl, rfl⟩ | ⟨gb, cap, rfl, h2, h3⟩
      · cases s <;> simp [Builtin.append_, run_und ht, hs.run, Builtin.lenOf, Builtin.firstCells, loadCells, loadCellsFrom]
      · cases s <;> simp [Builtin.append_, run_und ht, hs.run, Builtin.lenOf, Builtin.firstCells, loadCells, loadCellsFrom, h2, storeCells]
    refine stepF_val (v := v) (w' := w) ?_ ⟨by simpa using hv, ?_⟩
    · simp only [execOp, resolve, Sem.run_bind, Sem.run_pure, Result.andThen_ok, invoke, builtin]
      simp [hx, hy, hrun]
    · have : L.set i (ownE v e size (m + 0) (xs ++ [])) = L := by
        simp only [Nat.add_zero, List.append_nil]
        apply List.ext_getElem?
        intro j
        rw [List.getElem?_set]
        by_cases hij : i = j
        · subst hij
          have hlt := (List.getElem?_eq_some_iff.1 hi).1
          rw [if_pos rfl, if_pos hlt, hi]
        · rw [if_neg hij]
      rw [this]
      exact hp
  · have hnl : 0 < news.length := by rw [hn]; exact Nat.mul_pos (by omega) hpos
    obtain ⟨b, o, hsa, _⟩ := hsrc 0 news[0] (List.getElem?_eq_getElem hnl)
    subst hsa
    have hcells : ∀ (j : Nat) (u : Value), news[j]? = some u → w.cell? ((⟨b, o, none⟩ : Addr).add j) = some u := by
      intro j u hu
      obtain ⟨b', o', e1, e2⟩ := hsrc j u hu
      cases e1
      rw [addr_add]
      exact e2
    obtain ⟨v', w', hrun, hown', hgrow, _⟩ := run_append_own (P := P) w 0 t ty e inf z size by_ ht hinf hiz his hib hzs hpos v m xs howns ⟨b, o, none⟩ k c news hn hcells hone hb1 hb2 (Nat.zero_le _)
    refine stepF_val (v := v') (w' := w') ?_ ⟨?_, hp.upd hi ?_ ?_⟩
    · simp only [execOp, resolve, Sem.run_bind, Sem.run_pure, Result.andThen_ok, invoke, builtin]
      simp [hx, hy, hrun]
    · rcases hown'.2 with ⟨h2, h3⟩ | ⟨g2, cap, cur, h2, _, _, h4, h5, _⟩
      · exact .inl ⟨h2, h3⟩
      · exact .inr ⟨g2, cap, h2, h4, h5⟩
    · refine ⟨hgrow.os, hgrow.tape, hgrow.output, hgrow.size, fun q hq hm => hgrow.block q hq ?_⟩
      intro e1
      apply hm
      simp only [ownE]
      rw [← e1]
      simp
    · intro q hq
      rcases hown'.2 with ⟨h2, h3⟩ | ⟨g2, cap, cur, h2, _, h6, h4, h5, h7, h8⟩
      · exact absurd h3 (by omega)
      · subst h2
        have hqg : q = g2 := by simpa [ownE, Value.ownBlock, eq_comm] using hq
        subst hqg
        refine ⟨?_, _, h6, cur, rfl, h7, h8⟩
        rcases hv with ⟨rfl, rfl⟩ | ⟨gb, cap0, rfl, hc1, hc2⟩
        · have hxs : xs = [] := List.eq_nil_of_length_eq_zero (by simpa using hl)
          subst hxs
          obtain ⟨v2, w2, hrun2, hown2, _, _⟩ := run_append_own (P := P) w w.heap.size t ty e inf z size by_ ht hinf hiz his hib hzs hpos (.slice none 0 0) 0 [] (World.ownsRow_nil _ _ _ _) ⟨b, o, none⟩ k c news hn hcells hone hb1 hb2 (Nat.le_refl _)
          rw [hrun] at hrun2
          cases hrun2
          rcases hown2.2 with ⟨h9, _⟩ | ⟨g3, _, _, h9, h10, _⟩
          · cases h9
          · cases h9
            exact .inr h10
        · obtain ⟨o9, ho9, cur9, rfl, hsz9, htk9⟩ := hp.has i _ hi gb rfl
          have hsz9' : cur9.size = cap0 * size := hsz9
          by_cases hroom : m + k ≤ cap0
          · have hfit : m * inf.size + news.length ≤ cur9.size := by
              rw [hn, his, hsz9', ← Nat.add_mul]
              exact Nat.mul_le_mul_right _ hroom
            have hr := run_append_room (P := P) w t ty e inf ht hinf gb m cap0 cur9 ho9 ⟨b, o, none⟩ k c news (by rw [his]; exact hn) hcells hone hroom hfit
            rw [hrun] at hr
            cases hr
            exact .inl rfl
          · have holds := howns.cells (g := gb) rfl
            have hr := run_append_grow (P := P) w t ty e inf z ht hinf hiz ⟨gb, 0, none⟩ m cap0 xs (by rw [his]; exact hl) holds ⟨b, o, none⟩ k c news (by rw [his]; exact hn) hcells (by omega) (by unfold maxLen at hb1; omega) (growslice_fits (by omega) (by rw [hib]; exact hb2))
            rw [hrun] at hr
            cases hr
            exact .inr (Nat.le_refl _)
end
end Go.Eng
