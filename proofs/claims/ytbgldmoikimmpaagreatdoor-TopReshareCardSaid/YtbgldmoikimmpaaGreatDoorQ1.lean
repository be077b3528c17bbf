/- Merged texts of ours: EngL EngR Na Nb Nc Da Db Dc Dd De Df Dg Dh Di Dj Dk Dl Dm Dn Do Dp Dq Dr Ef; conditions are the hypotheses of each law. -/
import Derived.Test.YtbgldmoikimmpaaGreatDoorQ0
import Derived.Laws.MakeOwn
import Derived.Scope
import Derived.RangeFuncLeaves
import Derived.RangeFuncSeq
namespace Go.Eng
section
variable {P:Program} {n:FrK} {w0 w:World} {M:List Nat} {L:List Ent} {F:Fr} {d:Option Tmp} {ty:TypeId} {pos:String} {aft:Array Edge} {g:Option (Nat × Bool)} {x y:Operand}
theorem qGa (z:Value) (m:Nat):madeCells #[z] m = (List.replicate m z).toArray:=by
 apply Array.ext
 ·simp [madeCells]
 ·intro i h1 h2
  simp [madeCells,Nat.mod_one]
theorem qOa {α:Type} (enc:α→List Value) (x0:α) {t e by_ m:Nat} {kl kc:IntKind} {z:Value} (hp:Hp w0 M w L) (ht:P.underlying t = some (.slice e)) (hs:TSize P e 1) (hz:TZero P e z) (hby:TBytes P e by_)
  (hx:ev n F x = .int kl m) (hy:ev n F y = .int kc m) (henc:enc x0 = [z]) (h1:wK z = true) (hm:m < 1000000000) (hb:Nat.ble by_ 1000 = true) :
  StepF P n ⟨d,.makeSlice t x y,ty,pos,aft,g⟩ F w (fun u w'=>∃ b,u = .slice (some ⟨b,0,none⟩) m m∧SVL (some ⟨b,0,none⟩) m (List.replicate m x0)∧Hp w0 M w' (qW enc e 1 (some ⟨b,0,none⟩) m (List.replicate m x0) :: L)):=by
 obtain ⟨inf,hinf,hib⟩:=hby.ex
 have his:inf.size = 1:=by
  unfold TSize at hs
  simpa [hinf] using hs
 have hiz:inf.zero = some z:=by
  unfold TZero at hz
  simpa [hinf] using hz
 have hb':=Nat.le_of_ble_eq_true hb
 have hbm:by_ * m≤1000 * 1000000000:=Nat.mul_le_mul hb' (by omega)
 have hbm':(inf.bytes:Int) * (m:Int)≤281474976710656:=by
  rw [hib]
  have:((by_ * m:Nat):Int)≤281474976710656:=by omega
  rwa [Int.natCast_mul] at this
 have hr:=run_make (P:=P) w t e inf z ht hinf hiz kl kc m m (by omega) (by omega) hbm' (by omega)
 have hzc:z.cells = #[z]:=by cases z<;>first|rfl|cases h1
 have hlen:(List.replicate m x0).length = m:=by simp
 have hfm:(List.replicate m x0).flatMap enc = List.replicate m z:=by
  clear hr hbm hbm' hm hlen hx hy
  induction m with
  | zero=>rfl
  | succ m ih=>rw [List.replicate_succ,List.flatMap_cons,ih,henc];rfl
 refine kT (v:=.slice (some ⟨w.heap.size,0,none⟩) m m) (w':=w.alloc (.cells (List.replicate m z).toArray e)) ?_ ⟨w.heap.size,rfl,?_,?_⟩
 ·rw [his,hzc,Nat.mul_one,qGa] at hr
  simp only [Int.toNat_natCast] at hr
  simp [execOp,hx,hy,hr]
 ·unfold SVL
  rw [hlen]
  exact .inr ⟨_,m,rfl,Nat.le_refl _,by unfold maxLen;omega⟩
 ·unfold qW
  rw [hfm,hlen]
  exact hp.alloc _ ⟨_,rfl,by simp [qZd],by simp⟩
theorem qCa {t e k b o m c l h:Nat} {q q':IntKind} {lo hi:Operand} (ht:P.underlying t = some (.slice e)) (hk:TSize P e k) (hx:ev n F x = .slice (some ⟨b,o,none⟩) m c) (hl:ev n F lo = .int q l) (hh:ev n F hi = .int q' h) (h1:l≤h) (h2:h≤c) (h3:l < c) :
  PV P n w F ⟨d,.slice t x (some lo) (some hi) none,ty,pos,aft,g⟩ (.slice (some ⟨b,o + l * k,none⟩) (h - l) (c - l)):=by
 have hb1:=yS (P:=P) (w:=w) (c:=.sliceAcap) hh h2
 have hb2:=yS (P:=P) (w:=w) (c:=.sliceB) hl h1
 have hne:¬ c = l:=by omega
 simp [PV,execOp,Instr.sliceAt,Instr.slice,hx,zE ht,Instr.sliceBounds,hb1,hb2,hk.run,hne,yH]
theorem qKa {t e k m c h:Nat} {q:IntKind} {s:Option Addr} (ht:P.underlying t = some (.slice e)) (hk:TSize P e k) (hx:ev n F x = .slice s m c) (hy:ev n F y = .int q h) (hh:h≤c) :
  PV P n w F ⟨d,.slice t x none (some y) none,ty,pos,aft,g⟩ (.slice s h c):=by
 have hb:=yS (P:=P) (w:=w) (c:=.sliceAcap) hy hh
 have e1:(if c = 0 then s else s.map (·.add (0 * k))) = s:=by
  split
  ·rfl
  ·cases s<;>simp [qH4]
 simp only [PV,execOp,Instr.sliceAt,Instr.slice,hx,Sem.run_bind,zE ht,Result.andThen_ok,Instr.sliceBounds,Sem.run_pure,Option.map_none,Option.map_some,hb,hk.run,if_true,Nat.sub_zero,e1]
theorem qIy {t l:Nat} {q:IntKind} {s:ByteArray} (ht:P.underlying t = some .string) (hx:ev n F x = .string s) (hy:ev n F y = .int q l) (hl:l≤s.size) :
  PV P n w F ⟨d,.slice t x (some y) none none,ty,pos,aft,g⟩ (.string (s.extract l s.size)):=by
 have hb:=yS (P:=P) (w:=w) (c:=.sliceB) hy hl
 simp [PV,execOp,Instr.sliceAt,Instr.slice,hx,zE ht,Instr.sliceBounds,hb]
end
theorem qHb (m:Nat):IntKind.u32.wrap (m:Int) = ((m % 4294967296:Nat):Int):=by
 rw [IntKind.wrap_u32];omega
theorem qHc {m:Nat} (h:m < 4294967296):IntKind.u32.wrap (m:Int) = (m:Int):=by
 rw [IntKind.wrap_u32];omega
theorem kS {m:Nat} (h:m < 18446744073709551616):IntKind.u64.wrap (m:Int) = (m:Int):=by
 rw [IntKind.wrap_u64];omega
theorem qO5 (m:Nat):IntKind.u8.wrap (m:Int) = ((m % 256:Nat):Int):=by
 rw [IntKind.wrap_u8];omega
theorem yX (k:Nat) (m:Nat) (h:m < 2 ^ k):(BitVec.ofInt k (m:Int)).toNat = m:=by
 rw [BitVec.toNat_ofInt]
 have:((m:Int) % ((2 ^ k:Nat):Int)) = (m:Int):=Int.emod_eq_of_lt (by omega) (by omega)
 rw [this]
 rfl
section
variable {P:Program} {n:FrK} {w:World} {F:Fr} {d:Option Tmp} {ty:TypeId} {pos:String} {aft:Array Edge} {g:Option (Nat × Bool)} {x y:Operand} {t t':Nat}
theorem qKb {k q:IntKind} {a b:Int} (hx:ev n F x = .int k a) (hy:ev n F y = .int q b) (hb:0≤b):PV P n w F ⟨d,.binOp .shl t x y t',ty,pos,aft,g⟩ (.int k (k.wrap (a * 2 ^ min b.toNat k.bits))):=by
 simp [PV,execOp,hx,hy,eqGuard,binOp,Op.shift]
 omega
theorem qHn {a b:Nat} (hx:ev n F x = .int .u32 a) (hy:ev n F y = .int .u32 b) (ha:a < 4294967296) (hb:b < 4294967296):PV P n w F ⟨d,.binOp .or t x y t',ty,pos,aft,g⟩ (.int .u32 ((a ||| b:Nat):Int)):=by
 have h1:(BitVec.ofInt 32 (a:Int) ||| BitVec.ofInt 32 (b:Int)).toNat = a ||| b:=by
  rw [BitVec.toNat_or,yX 32 a ha,yX 32 b hb]
 have h2:a ||| b < 2 ^ 32:=Nat.or_lt_two_pow ha hb
 have h3:=qHc h2
 simp only [PV,execOp,hx,hy,eqGuard,binOp,Op.intBits]
 show Sem.run P (pure (Next.value (Value.int IntKind.u32 (IntKind.u32.wrap ((BitVec.ofInt 32 (a:Int) ||| BitVec.ofInt 32 (b:Int)).toNat:Int))))) w = _
 rw [h1,h3]
 rfl
theorem qAn {a b:Nat} (hx:ev n F x = .int .u64 a) (hy:ev n F y = .int .u64 b) (ha:a < 18446744073709551616) (hb:b < 18446744073709551616):PV P n w F ⟨d,.binOp .or t x y t',ty,pos,aft,g⟩ (.int .u64 ((a ||| b:Nat):Int)):=by
 have h1:(BitVec.ofInt 64 (a:Int) ||| BitVec.ofInt 64 (b:Int)).toNat = a ||| b:=by
  rw [BitVec.toNat_or,yX 64 a ha,yX 64 b hb]
 have h2:a ||| b < 2 ^ 64:=Nat.or_lt_two_pow ha hb
 have h3:=kS h2
 simp only [PV,execOp,hx,hy,eqGuard,binOp,Op.intBits]
 show Sem.run P (pure (Next.value (Value.int IntKind.u64 (IntKind.u64.wrap ((BitVec.ofInt 64 (a:Int) ||| BitVec.ofInt 64 (b:Int)).toNat:Int))))) w = _
 rw [h1,h3]
 rfl
end
section
variable {P:Program} {n:FrK} {Q:Exit→Fr→World→Prop} {F:Fr} {w:World} {ops:Array Oper} {rest:List Oper} {st:Bool} {G:World→Prop}
variable {d:Nat} {op:Op} {ty:TypeId} {pos:String} {aft:Array Edge}
theorem vS {j:Nat} {want c:Bool} {e:Nat} (hj:kF ops j = some e) (hc:ev n F (.tmp e) = .bool c) (hw:(c == want) = false) (h:wpl P n ops rest Q (F.put d undef) w):wpl P n ops (⟨some d,op,ty,pos,aft,some (j,want)⟩ :: rest) Q F w:=by
 refine wlg (r:=undef) (v:=undef) hj hc (fun e=>by rw [hw] at e;cases e) (fun _=>rfl) ?_
 rw [hw]
 exact h
theorem vR {j:Nat} {want:Bool} {e:Nat} (hj:kF ops j = some e) (hc:ev n F (.tmp e) = undef) (h:wpl P n ops rest Q (F.put d undef) w):wpl P n ops (⟨some d,op,ty,pos,aft,some (j,want)⟩ :: rest) Q F w:=by
 refine jBh (r:=undef) (v:=undef) (b:=false) (c:=false) hj hc (fun e=>by cases e) (fun _ _=>rfl) ?_
 exact h
theorem uN {j:Nat} {want c:Bool} {e:Nat} (he:jZ op = false) (hj:kF ops j = some e) (hc:ev n F (.tmp e) = .bool c) (hw:(c == want) = false) (h:wpd P n ops st G rest Q (F.put d undef) w):wpd P n ops st G (⟨some d,op,ty,pos,aft,some (j,want)⟩ :: rest) Q F w:=by
 refine wdg (r:=undef) (v:=undef) he hj hc (fun _ _ e=>by rw [hw] at e;cases e) (fun _=>rfl) ?_
 rw [hw]
 exact h
theorem uM {j:Nat} {want:Bool} {e:Nat} (he:jZ op = false) (hj:kF ops j = some e) (hc:ev n F (.tmp e) = undef) (h:wpd P n ops st G rest Q (F.put d undef) w):wpd P n ops st G (⟨some d,op,ty,pos,aft,some (j,want)⟩ :: rest) Q F w:=by
 refine jBi (r:=undef) (v:=undef) (b:=false) (c:=false) he hj hc (fun _ _ e=>by cases e) (fun _ _=>rfl) ?_
 exact h
end
section
variable {P:Program} {n:FrK} {w:World} {F:Fr} {d:Option Tmp} {ty:TypeId} {pos:String} {aft:Array Edge} {g:Option (Nat × Bool)} {x y:Operand} {t t':Nat}
theorem vX (hx:ev n F x = .bool false):PV P n w F ⟨d,.pick x y (.const (.bool false)),ty,pos,aft,g⟩ (.bool false):=by
 simp only [PV,execOp,hx,asBool,qAc]
 rfl
theorem qOs (hx:ev n F x = .bool true):PV P n w F ⟨d,.pick x (.const (.bool true)) y,ty,pos,aft,g⟩ (.bool true):=by
 simp only [PV,execOp,hx,asBool,qAc]
 rfl
theorem zM {b:Bool} (hx:ev n F x = .bool true) (hy:ev n F y = .bool b):PV P n w F ⟨d,.pick x y (.const (.bool false)),ty,pos,aft,g⟩ (.bool b):=by
 simp only [PV,execOp,hx,hy,asBool,qAc]
 rfl
theorem jU {b:Bool} (hx:ev n F x = .bool false) (hy:ev n F y = .bool b):PV P n w F ⟨d,.pick x (.const (.bool true)) y,ty,pos,aft,g⟩ (.bool b):=by
 simp only [PV,execOp,hx,hy,asBool,qAc]
 rfl
theorem uA {a b:Nat} (hx:ev n F x = .int .u64 (a:Int)) (hy:ev n F y = .int .u64 (b:Int)) (h:a + b < 18446744073709551616):PV P n w F ⟨d,.binOp .add t x y t',ty,pos,aft,g⟩ (.int .u64 ((a + b:Nat):Int)):=by
 have:=qY (P:=P) (w:=w) (d:=d) (ty:=ty) (pos:=pos) (aft:=aft) (g:=g) (t:=t) (t':=t') hx hy
 rwa [← Int.natCast_add,kS h] at this
theorem qB4 {a b:Nat} (hx:ev n F x = .int .u64 (a:Int)) (hy:ev n F y = .int .u64 (b:Int)) (h:a * b < 18446744073709551616):PV P n w F ⟨d,.binOp .mul t x y t',ty,pos,aft,g⟩ (.int .u64 ((a * b:Nat):Int)):=by
 have:=xU (P:=P) (w:=w) (d:=d) (ty:=ty) (pos:=pos) (aft:=aft) (g:=g) (t:=t) (t':=t') hx hy
 rwa [← Int.natCast_mul,kS h] at this
def qBr (a b:Nat):Nat:=(a + 18446744073709551616 - b) % 18446744073709551616
theorem kK {a b:Nat} (hx:ev n F x = .int .u64 (a:Int)) (hy:ev n F y = .int .u64 (b:Int)) (h:b≤18446744073709551616):PV P n w F ⟨d,.binOp .sub t x y t',ty,pos,aft,g⟩ (.int .u64 (qBr a b:Int)):=by
 have h2:=jN (P:=P) (w:=w) (d:=d) (ty:=ty) (pos:=pos) (aft:=aft) (g:=g) (t:=t) (t':=t') hx hy
 have:IntKind.u64.wrap ((a:Int) - (b:Int)) = (qBr a b:Int):=by
  rw [IntKind.wrap_u64]
  unfold qBr
  omega
 rwa [this] at h2
theorem zH {a b:Nat} (hx:ev n F x = .int .u32 (a:Int)) (hy:ev n F y = .int .u32 (b:Int)):PV P n w F ⟨d,.binOp .add t x y t',ty,pos,aft,g⟩ (.int .u32 (((a + b) % 4294967296:Nat):Int)):=by
 have:=qY (P:=P) (w:=w) (d:=d) (ty:=ty) (pos:=pos) (aft:=aft) (g:=g) (t:=t) (t':=t') hx hy
 rwa [← Int.natCast_add,qHb] at this
theorem xA {k q:IntKind} {a b:Nat} (hx:ev n F x = .int k (a:Int)) (hy:ev n F y = .int q (b:Int)) (hb:b≤k.bits):PV P n w F ⟨d,.binOp .shr t x y t',ty,pos,aft,g⟩ (.int k ((a / 2 ^ b:Nat):Int)):=by
 have h2:=qW2 (P:=P) (w:=w) (d:=d) (ty:=ty) (pos:=pos) (aft:=aft) (g:=g) (t:=t) (t':=t') hx hy (by omega)
 have e:(a:Int).fdiv (2 ^ min (b:Int).toNat k.bits) = ((a / 2 ^ b:Nat):Int):=by
  rw [Int.toNat_natCast,Nat.min_eq_left hb,Int.fdiv_eq_ediv_of_nonneg _ (Int.le_of_lt (Int.pow_pos (by decide)))]
  rw [show ((2:Int) ^ b) = ((2 ^ b:Nat):Int) from by simp]
  exact (Int.natCast_ediv a (2 ^ b)).symm
 rwa [e] at h2
theorem kZ {q:IntKind} {a b:Nat} (hx:ev n F x = .int .u64 (a:Int)) (hy:ev n F y = .int q (b:Int)) (hb:b≤64) (h:a * 2 ^ b < 18446744073709551616):PV P n w F ⟨d,.binOp .shl t x y t',ty,pos,aft,g⟩ (.int .u64 ((a * 2 ^ b:Nat):Int)):=by
 have h2:=qKb (P:=P) (w:=w) (d:=d) (ty:=ty) (pos:=pos) (aft:=aft) (g:=g) (t:=t) (t':=t') hx hy (by omega)
 have e:(a:Int) * 2 ^ min (b:Int).toNat IntKind.u64.bits = ((a * 2 ^ b:Nat):Int):=by
  rw [Int.toNat_natCast,show IntKind.u64.bits = 64 from rfl,Nat.min_eq_left hb]
  simp
 rwa [e,kS h] at h2
theorem wC {q:IntKind} {a b:Nat} (hx:ev n F x = .int .u32 (a:Int)) (hy:ev n F y = .int q (b:Int)) (hb:b≤32):PV P n w F ⟨d,.binOp .shl t x y t',ty,pos,aft,g⟩ (.int .u32 ((a * 2 ^ b % 4294967296:Nat):Int)):=by
 have h2:=qKb (P:=P) (w:=w) (d:=d) (ty:=ty) (pos:=pos) (aft:=aft) (g:=g) (t:=t) (t':=t') hx hy (by omega)
 have e:(a:Int) * 2 ^ min (b:Int).toNat IntKind.u32.bits = ((a * 2 ^ b:Nat):Int):=by
  rw [Int.toNat_natCast,show IntKind.u32.bits = 32 from rfl,Nat.min_eq_left hb]
  simp
 rwa [e,qHb] at h2
end
theorem qDz {s:Option Addr} {m m' c:Nat} (h:m = m'):Value.slice s m c = .slice s m' c:=by rw [h]
theorem ndt {p:Prop} [Decidable p] (h:¬ p):(!decide p) = true:=by simp [h]
theorem ndf {p:Prop} [Decidable p] (h:p):(!decide p) = false:=by simp [h]
theorem SlAt.pre {α:Type} {w:World} {k:Nat} {enc:α→List Value} {s:Option Addr} {l l':List α} (h:SlAt w k enc s l) (hp:l' <+: l):SlAt w k enc s l':=by
 intro i x hx
 refine h i x ?_
 obtain ⟨t,rfl⟩:=hp
 rw [List.getElem?_append_left (by rcases Nat.lt_or_ge i l'.length with h|h;exact h;rw [List.getElem?_eq_none h] at hx;cases hx)]
 exact hx
def ngQ (Q:Exit→Fr→World→Prop):Exit→Fr→World→Prop:=fun e F w=>match e with
 | .goto _=>False
 | e=>Q e F w
section
variable {P:Program} {n:FrK} {Q:Exit→Fr→World→Prop} {F:Fr} {w:World}
theorem qRz {m:Nat} {ds:List Deferred} {c:Code} (h:WP P ⟨m,ds,none⟩ c (ngQ Q) F w):WP P ⟨m,ds,none⟩ (.scope c) Q F w:=by
 unfold WP at *
 rw [FrK.fence_none rfl] at *
 refine wpIn_wide.2 (wp_scope_straight (wp_mono (wpIn_wide.1 h) ?_))
 rintro e a w ⟨F,rfl,h2⟩
 cases e<;>first|exact h2.elim|exact ⟨F,rfl,h2⟩
theorem qM2 (h:Q .ret F w):ngQ Q .ret F w:=h
end
end Go.Eng
namespace Go.Eng
structure Priv (B:Nat) (W W':World):Prop where
 os:W'.os = W.os
 tape:W'.tape = W.tape
 output:W'.output = W.output
 size:W.heap.size≤W'.heap.size
 block:∀ k,k < B→W'.heap[k]? = W.heap[k]?
theorem Priv.mono {B B':Nat} {W W':World} (h:Priv B W W') (hb:B'≤B):Priv B' W W':=⟨h.os,h.tape,h.output,h.size,fun k hk=>h.block k (by omega)⟩
theorem Priv.put {B:Nat} (W:World) {l:Nat} (o:Obj) (h:B≤l):Priv B W (W.putObj l o):=
 ⟨rfl,rfl,rfl,by simp,fun k hk=>World.putObj_heap_other (by omega)⟩
theorem qBp (W:World) (l:Nat) (o:Obj):Keeps [l] W (W.putObj l o):=
 ⟨rfl,rfl,rfl,by simp,fun k _ hk=>World.putObj_heap_other (by simpa using hk)⟩
theorem Hp.priv {w0 W W':World} {M:List Nat} {L:List Ent} {B:Nat} (h:Hp w0 M W L) (hp:Priv B W W') (h0:w0.heap.size≤B) (hL:∀ p ∈ L,∀ b,p.1 = some b→b < B):Hp w0 M W' L:=by
 refine ⟨⟨hp.os.trans h.keeps.os,hp.tape.trans h.keeps.tape,hp.output.trans h.keeps.output,Nat.le_trans h.keeps.size hp.size,fun k hk hm=>(hp.block k (by omega)).trans (h.keeps.block k hk hm)⟩,h.own,fun i p hi b hb=>?_,h.dis⟩
 obtain ⟨o,ho,hpo⟩:=h.has i p hi b hb
 exact ⟨o,by rw [hp.block b (hL p (List.mem_of_getElem? hi) b hb)];exact ho,hpo⟩
def It {α:Type} (P:Program) (g:FuncId) (lb:List Value) (enc:α→Value) (xs:List α) (M:List Nat) (w:World):Prop:=
 ∀ (l:Nat) (J:List α→World→Prop),l < w.heap.size→(∀ (a:Addr) (v:Value),w.cell? a = some v→a.block ≠ l) →
  (∀ pre x W1,J pre W1→(∃ suf,xs = pre ++ x :: suf)→YieldAt Fence.wide 0 P l #[enc x] W1 fun e W'=>e = .returned (.bool true)∧J (pre ++ [x]) W'∧Keeps (l :: M) W1 W') →
  (∀ pre W W',J pre W→Priv w.heap.size W W'→J pre W')→J [] w →
  Ret P g (.func (.yield l) #[] #[] :: lb) w (fun _ W'=>J xs W')
def WPA (P:Program) (n:FrK) (c:Code) (QA:Exit→Act→World→Prop) (F:Fr) (w:World):Prop:=c.wpIn n.fence 0 P QA (act n F) w
section
variable {P:Program} {n:FrK} {Q:Exit→Fr→World→Prop} {QA:Exit→Act→World→Prop} {F:Fr} {w:World}
theorem qIm {x y:Code} (h:WP P n x (wL (fun F w=>WPA P n y QA F w) (fun e F w=>QA e (act n F) w)) F w):WPA P n (.seq x y) QA F w:=by
 refine wpIn_seq (wpIn_mono h ?_)
 rintro e a w ⟨F,rfl,h2⟩
 cases e<;>exact h2
theorem qJw {x b y:Code} (h:WP P n x (wL (fun F w=>WPA P n b (Exit.then (fun a w=>y.wpIn n.fence 0 P QA a w) QA) F w) (fun e F w=>QA e (act n F) w)) F w):WPA P n (.seq (.seq x b) y) QA F w:=by
 refine wpIn_seq (wpIn_seq (wpIn_mono h ?_))
 rintro e a w ⟨F,rfl,h2⟩
 cases e<;>exact h2
theorem qS4 {c:Code} (h:WP P n c (fun e F w=>QA e (act n F) w) F w):WPA P n c QA F w:=
 wpIn_mono h (by rintro e a w ⟨F,rfl,h2⟩;exact h2)
theorem Ret.of_marks {f:FuncId} {fn:Func} {c:Code} {args:List Value} {R:Value→World→Prop} (hf:P.funcs[f]? = some fn) (hb:fn.body = some c) {m:Nat} (hn:fn.ntmps = m) (hsz:Nat.ble args.length m = true)
  (h:WPA P (FrK.of m) c (bodyPostM Fence.wide 0 P fn (fun e w'=>∃ v,e = .returned v∧R v w')) (qV args) w):Ret P f args w R:=by
 refine callsIn_wide.1 (callsIn_of_wp_marks (n:=0) (F:=Fence.wide) hf hb trivial ?_)
 have hsz:=Nat.le_of_ble_eq_true hsz
 have ha:({ tmps:=args.toArray ++ Array.replicate (fn.ntmps - args.toArray.size) undef,defers:=[] }:Act) = act (FrK.of m) (qV args):=by
  simp only [act]
  congr 1
  apply Array.ext
  ·simp [hn];omega
  ·intro i h1 h2
   simp only [Array.getElem_ofFn]
   rw [kW]
   by_cases hi:i < args.length
   ·rw [Array.getElem_append_left (by simpa using hi)]
    simp [List.getD_eq_getElem?_getD,hi]
   ·rw [Array.getElem_append_right (by simpa using hi)]
    simp [List.getD_eq_getElem?_getD,hi]
 rw [ha]
 exact h
theorem qIv {fn:Func} {R:Ending→World→Prop} {t D:Nat} {v:Value} (h:fn.results = #[.tmp t]) (hv:ev n F (.tmp t) = v) (hds:n.ds = [{ target:=.collected D,args:=#[] }]) (hD:w.heap[D]? = some (.deferred (some []))) (hr:R (.returned v) (w.putObj D (.deferred none))) :
  bodyPostM Fence.wide 0 P fn R .ret (act n F) w:=by
 show LeavesInM Fence.wide 0 P fn (act n F).tmps R n.ds .returning w
 rw [hds]
 refine ⟨by simp,.inl ⟨D,_,rfl,run_takeDeferred hD,v,?_,hr⟩⟩
 rw [results_tmp h]
 rw [← hv,← zZ]
 rfl
theorem wlY {ops:Array Oper} {rest:List Oper} {d m l:Nat} {x:Operand} {ty:TypeId} {pos:String} {aft:Array Edge} {args:Array Operand} {ts:Array TypeId} {vs:List Value} {R:Ending→World→Prop}
  (hx:ev (FrK.of m) F x = .func (.yield l) #[] #[]) (hargs:args.toList.map (ev (FrK.of m) F) = vs) (hy:YieldAt Fence.wide 0 P l vs.toArray w R)
  (h:∀ e w',R e w'→∃ v,e = .returned v∧wpl P (FrK.of m) ops rest Q (F.put d v) w') :
  wpl P (FrK.of m) ops (⟨some d,.call ⟨.value x,args,ts⟩,ty,pos,aft,none⟩ :: rest) Q F w:=by
 obtain ⟨fn,tmps,assign,body,hrun,hround⟩:=hy
 refine wpListIn_plain rfl fun K hK=>⟨fun _ _=>trivial,?_⟩
 have ha:args.map (ev (FrK.of m) F) = vs.toArray:=by
  rw [← hargs]
  apply Array.ext'
  rw [Array.toList_map]
 have hex:(execOp (ev (FrK.of m) F) ⟨some d,.call ⟨.value x,args,ts⟩,ty,pos,aft,none⟩).run P w = .ok (.round l fn tmps assign body) w:=by
  simp only [execOp,resolve,Sem.run_bind,hx,Deferred.ofValue,Sem.run_pure,Result.andThen_ok,invoke]
  rw [ha]
  simpa using hrun
 rw [Oper.semAt_eq _ _ _ (by intro c hc;cases hc),zZ,hex]
 refine ⟨fun h=>(by cases h),?_⟩
 refine RoundIn.mono hround ?_
 intro e w' hr
 obtain ⟨v,rfl,h2⟩:=h e w' hr
 refine hK _ _ ?_
 rw [xW]
 exact h2
end
end Go.Eng
namespace Go.Dig
def val (b:Nat):List Nat→Nat
 | []=>0
 | d :: l=>d + b * val b l
def Bd (b:Nat) (l:List Nat):Prop:=∀ d ∈ l,d < b
theorem Bd.nil {b:Nat}:Bd b []:=by intro d h;cases h
theorem Bd.cons {b d:Nat} {l:List Nat} (h:d < b) (hl:Bd b l):Bd b (d :: l):=by
 intro x hx
 rcases List.mem_cons.1 hx with rfl|hx
 ·exact h
 ·exact hl x hx
theorem Bd.head {b d:Nat} {l:List Nat} (h:Bd b (d :: l)):d < b:=h d (by simp)
theorem Bd.tail {b d:Nat} {l:List Nat} (h:Bd b (d :: l)):Bd b l:=fun x hx=>h x (by simp [hx])
theorem Bd.app {b:Nat} {l m:List Nat} (h:Bd b l) (h2:Bd b m):Bd b (l ++ m):=by
 intro x hx
 rcases List.mem_append.1 hx with hx|hx
 ·exact h x hx
 ·exact h2 x hx
theorem Bd.left {b:Nat} {l m:List Nat} (h:Bd b (l ++ m)):Bd b l:=fun x hx=>h x (by simp [hx])
theorem Bd.right {b:Nat} {l m:List Nat} (h:Bd b (l ++ m)):Bd b m:=fun x hx=>h x (by simp [hx])
theorem Bd.get {b i:Nat} {l:List Nat} (h:Bd b l) (hi:i < l.length):l[i] < b:=h _ (List.getElem_mem hi)
theorem Bd.take {b:Nat} {l:List Nat} (h:Bd b l) (i:Nat):Bd b (l.take i):=fun x hx=>h x (List.mem_of_mem_take hx)
theorem Bd.drop {b:Nat} {l:List Nat} (h:Bd b l) (i:Nat):Bd b (l.drop i):=fun x hx=>h x (List.mem_of_mem_drop hx)
theorem Bd.set {b i d:Nat} {l:List Nat} (h:Bd b l) (hd:d < b):Bd b (l.set i d):=by
 intro x hx
 rcases List.mem_or_eq_of_mem_set hx with hx|hx
 ·exact h x hx
 ·rw [hx];exact hd
theorem yM (b:Nat) (l m:List Nat):val b (l ++ m) = val b l + b ^ l.length * val b m:=by
 induction l with
 | nil=>simp [val]
 | cons d l ih=>
  simp only [List.cons_append,val,ih,List.length_cons,Nat.pow_succ]
  rw [Nat.mul_add,← Nat.mul_assoc,Nat.mul_comm b (b ^ l.length)]
  omega
theorem qAh (b d:Nat):val b [d] = d:=by simp [val]
theorem yL {b:Nat} {l:List Nat} (h:Bd b l):val b l < b ^ l.length:=by
 induction l with
 | nil=>simp [val]
 | cons d l ih=>
  have h1:=ih h.tail
  have h2:=h.head
  simp only [val,List.length_cons,Nat.pow_succ]
  have h3:b * (val b l + 1)≤b * b ^ l.length:=Nat.mul_le_mul_left b h1
  rw [Nat.mul_add,Nat.mul_one] at h3
  rw [Nat.mul_comm (b ^ l.length) b]
  omega
theorem qBj (b n:Nat):val b (List.replicate n 0) = 0:=by
 induction n with
 | zero=>rfl
 | succ n ih=>rw [List.replicate_succ,val,ih];simp
theorem uV {b:Nat} (hb:0 < b) (n:Nat):Bd b (List.replicate n 0):=by
 intro d hd
 rw [List.eq_of_mem_replicate hd]
 exact hb
theorem kV (b:Nat) (l:List Nat) (i:Nat) (hi:i≤l.length):val b l = val b (l.take i) + b ^ i * val b (l.drop i):=by
 have h:=yM b (l.take i) (l.drop i)
 rw [List.take_append_drop,List.length_take,Nat.min_eq_left hi] at h
 exact h
theorem qBv (b:Nat) (l:List Nat) (i:Nat) (hi:i < l.length):val b (l.take (i + 1)) = val b (l.take i) + b ^ i * l[i]:=by
 rw [List.take_succ_eq_append_getElem hi,yM,List.length_take,Nat.min_eq_left (by omega),qAh]
theorem qBk (b:Nat) (l:List Nat) (i d:Nat) (hi:i < l.length):val b (l.set i d) + b ^ i * l[i] = val b l + b ^ i * d:=by
 induction l generalizing i with
 | nil=>simp at hi
 | cons x l ih=>
  cases i with
  | zero=>simp [val];omega
  | succ i=>
   have:=ih i (by simpa using hi)
   simp only [List.set_cons_succ,val,List.getElem_cons_succ,Nat.pow_succ]
   have h2:=congrArg (b * ·) this
   simp only [Nat.mul_add] at h2
   rw [Nat.mul_comm (b ^ i) b,Nat.mul_assoc,Nat.mul_assoc]
   omega
def dg (b n:Nat):Nat→List Nat
 | 0=>[]
 | m + 1=>n % b :: dg b (n / b) m
theorem uI (b m:Nat):∀ n,(dg b n m).length = m:=by
 induction m with
 | zero=>intro n;rfl
 | succ m ih=>intro n;simp [dg,ih]
theorem qFu {b:Nat} (hb:0 < b) (m:Nat):∀ n,Bd b (dg b n m):=by
 induction m with
 | zero=>intro n;exact .nil
 | succ m ih=>intro n;exact .cons (Nat.mod_lt _ hb) (ih _)
theorem qIc (b m:Nat):∀ n,val b (dg b n m) = n % b ^ m:=by
 induction m with
 | zero=>intro n;simp [dg,val,Nat.mod_one]
 | succ m ih=>
  intro n
  simp only [dg,val,ih,Nat.pow_succ]
  rw [Nat.mul_comm (b ^ m) b,Nat.mod_mul]
theorem qDb {b d n:Nat} (h:d < b):(d + b * n) % b = d∧(d + b * n) / b = n:=by
 have hb:0 < b:=by omega
 exact ⟨by rw [Nat.add_mul_mod_self_left,Nat.mod_eq_of_lt h],by rw [Nat.add_mul_div_left _ _ hb,Nat.div_eq_of_lt h,Nat.zero_add]⟩
theorem uU {b:Nat} {l:List Nat} (h:Bd b l):l = dg b (val b l) l.length:=by
 induction l with
 | nil=>rfl
 | cons d l ih=>
  simp only [val,List.length_cons,dg]
  rw [(qDb h.head).1,(qDb h.head).2,← ih h.tail]
theorem qDr (b m:Nat):∀ n i,i < m→(dg b n m)[i]? = some (n / b ^ i % b):=by
 induction m with
 | zero=>intro n i h;omega
 | succ m ih=>
  intro n i h
  cases i with
  | zero=>simp [dg]
  | succ i=>
   simp only [dg,List.getElem?_cons_succ]
   rw [ih _ i (by omega),Nat.div_div_eq_div_mul,Nat.pow_succ,Nat.mul_comm b]
def yZ (l:List Nat):List Nat:=(l.reverse.dropWhile (· == 0)).reverse
theorem qAw (l:List Nat):yZ (l ++ [0]) = yZ l:=by
 simp [yZ]
theorem qC5 {l:List Nat} {d:Nat} (h:d ≠ 0):yZ (l ++ [d]) = l ++ [d]:=by
 simp [yZ,h]
def qFt (b:Nat):Nat→Nat→List Nat
 | 0,_=>[]
 | k + 1,n=>if n = 0 then [] else n % b :: qFt b k (n / b)
def jT (b n:Nat):List Nat:=qFt b n n
theorem qR6 {b:Nat} (hb:1 < b):∀ (n k m:Nat),n≤k→n≤m→qFt b k n = qFt b m n:=by
 intro n
 induction n using Nat.strongRecOn with
 | _ n ih=>
  intro k m hk hm
  by_cases h:n = 0
  ·subst h
   cases k<;>cases m<;>simp [qFt]
  ·obtain ⟨k,rfl⟩:∃ k',k = k' + 1:=⟨k - 1,by omega⟩
   obtain ⟨m,rfl⟩:∃ m',m = m' + 1:=⟨m - 1,by omega⟩
   simp only [qFt,if_neg h]
   have hlt:=Nat.div_lt_self (Nat.pos_of_ne_zero h) hb
   rw [ih _ hlt k m (by omega) (by omega)]
theorem uT (b:Nat):jT b 0 = []:=rfl
section
variable {b:Nat} (hb:1 < b)
include hb
theorem qBh {n:Nat} (h:n ≠ 0):jT b n = n % b :: jT b (n / b):=by
 obtain ⟨k,rfl⟩:∃ k,n = k + 1:=⟨n - 1,by omega⟩
 unfold jT
 simp only [qFt,if_neg h]
 have hlt:=Nat.div_lt_self (Nat.pos_of_ne_zero h) hb
 rw [qR6 hb _ k _ (by omega) (Nat.le_refl _)]
theorem yR (n:Nat):val b (jT b n) = n:=by
 induction n using Nat.strongRecOn with
 | _ n ih=>
  by_cases h:n = 0
  ·subst h;rfl
  ·rw [qBh hb h,val,ih _ (Nat.div_lt_self (by omega) hb)]
   exact Nat.mod_add_div n b
theorem vC (n:Nat):Bd b (jT b n):=by
 induction n using Nat.strongRecOn with
 | _ n ih=>
  by_cases h:n = 0
  ·subst h;exact .nil
  ·rw [qBh hb h]
   exact .cons (Nat.mod_lt _ (by omega)) (ih _ (Nat.div_lt_self (by omega) hb))
theorem yK {n:Nat}:jT b n = [] ↔ n = 0:=by
 constructor
 ·intro h
  have:=yR hb n
  rw [h] at this
  exact this.symm
 ·rintro rfl
  rfl
theorem qDq (n:Nat):∀ l d,jT b n = l ++ [d]→d ≠ 0:=by
 induction n using Nat.strongRecOn with
 | _ n ih=>
  intro l d h
  by_cases h0:n = 0
  ·subst h0
   rw [uT] at h
   simp at h
  ·rw [qBh hb h0] at h
   cases l with
   | nil=>
    simp only [List.nil_append,List.cons.injEq] at h
    obtain ⟨h1,h2⟩:=h
    have h3:n / b = 0:=(yK hb).1 h2
    have h5:n < b:=by
     rcases Nat.div_eq_zero_iff.1 h3 with h6|h6
     ·omega
     ·exact h6
    rw [← h1,Nat.mod_eq_of_lt h5]
    exact h0
   | cons x l=>
    simp only [List.cons_append,List.cons.injEq] at h
    exact ih _ (Nat.div_lt_self (by omega) hb) l d h.2
theorem qTz {l:List Nat} (h:Bd b l) (hl:∀ m d,l = m ++ [d]→d ≠ 0):l = jT b (val b l):=by
 induction l with
 | nil=>rfl
 | cons d l ih=>
  have hlt:∀ m e,l = m ++ [e]→e ≠ 0:=fun m e he=>hl (d :: m) e (by rw [he];rfl)
  have hne:d + b * val b l ≠ 0:=by
   intro h0
   have hd:d = 0:=by omega
   have hv:val b l = 0:=by
    have:b * val b l = 0:=by omega
    rcases Nat.mul_eq_zero.1 this with h2|h2
    ·omega
    ·exact h2
   cases hl2:l with
   | nil=>
    subst hl2
    exact hl [] d rfl hd
   | cons x t=>
    have:=ih h.tail hlt
    rw [hv,uT,hl2] at this
    cases this
  rw [val,qBh hb hne,(qDb h.head).1,(qDb h.head).2,← ih h.tail hlt]
omit hb in
theorem qC7 {α:Type} (l:List α):l = []∨∃ m d,l = m ++ [d]:=by
 rcases List.eq_nil_or_concat l with h|⟨m,d,h⟩
 ·exact .inl h
 ·exact .inr ⟨m,d,by rw [h];simp⟩
theorem qAi {l:List Nat}:Bd b l→yZ l = jT b (val b l):=by
 intro h
 generalize hn:l.length = n
 induction n generalizing l with
 | zero=>
  have:l = []:=List.eq_nil_of_length_eq_zero hn
  subst this
  rfl
 | succ n ih=>
  rcases qC7 l with rfl|⟨m,d,rfl⟩
  ·simp at hn
  ·by_cases hd:d = 0
   ·subst hd
    rw [qAw,ih h.left (by simpa using hn),yM]
    simp [val]
   ·rw [qC5 hd]
    refine qTz hb h ?_
    intro m' d' e
    have:=List.append_inj' e rfl
    simp at this
    rw [← this.2]
    exact hd
theorem vF {x y:Nat} (h:(jT b x).length < (jT b y).length):x < y:=by
 rcases qC7 (jT b y) with hy|⟨m,d,hy⟩
 ·rw [hy] at h;simp at h
 ·have h1:=yL (vC hb x)
  rw [yR hb] at h1
  have h2:=yR hb y
  rw [hy,yM] at h2
  have h3:=qDq hb y m d hy
  have h4:(jT b x).length≤m.length:=by rw [hy] at h;simp at h;omega
  have h5:b ^ (jT b x).length≤b ^ m.length:=Nat.pow_le_pow_right (by omega) h4
  have h6:b ^ m.length * 1≤b ^ m.length * val b [d]:=Nat.mul_le_mul_left _ (by simp [val];omega)
  omega
theorem yT {n k:Nat} (h:(jT b n).length≤k):n < b ^ k:=by
 have h1:=yL (vC hb n)
 rw [yR hb] at h1
 exact Nat.lt_of_lt_of_le h1 (Nat.pow_le_pow_right (by omega) h)
theorem uS {n k:Nat} (h:n < b ^ k):(jT b n).length≤k:=by
 induction k generalizing n with
 | zero=>
  have:n = 0:=by simpa using h
  subst this
  simp [uT]
 | succ k ih=>
  by_cases h0:n = 0
  ·subst h0;simp [uT]
  ·rw [qBh hb h0,List.length_cons]
   have:n / b < b ^ k:=by
    rw [Nat.div_lt_iff_lt_mul (by omega)]
    rwa [Nat.pow_succ] at h
   have:=ih this
   omega
theorem qSj {n m:Nat} (h:n < b ^ m):yZ (dg b n m) = jT b n:=by
 rw [qAi hb (qFu (by omega) m n),qIc,Nat.mod_eq_of_lt h]
end
end Go.Dig
namespace Go.Dig
theorem xX (b n i:Nat):n % b ^ (i + 1) = n % b ^ i + b ^ i * (n / b ^ i % b):=Nat.mod_pow_succ
theorem qFs {b:Nat} (hb:1 < b) {n i:Nat} (hi:i < (jT b n).length):(jT b n)[i] = n / b ^ i % b:=by
 have h1:jT b n = dg b n (jT b n).length:=by
  have:=uU (vC hb n)
  rwa [yR hb] at this
 have h2:=qDr b (jT b n).length n i hi
 rw [← h1,List.getElem?_eq_getElem hi] at h2
 simpa using h2
theorem qEa {b:Nat} (hb:1 < b) {n i:Nat} (hi:(jT b n).length≤i):n / b ^ i % b = 0:=by
 rw [Nat.div_eq_of_lt (yT hb hi),Nat.zero_mod]
theorem qRy {b x y i c z c' V:Nat} (h:V + c * b ^ i = x % b ^ i + y % b ^ i) (hz:z + b * c' = c + x / b ^ i % b + y / b ^ i % b):(V + b ^ i * z) + c' * b ^ (i + 1) = x % b ^ (i + 1) + y % b ^ (i + 1):=by
 rw [xX,xX,Nat.pow_succ]
 have h2:=congrArg (b ^ i * ·) hz
 simp only [Nat.mul_add] at h2
 have e1:c' * (b ^ i * b) = b ^ i * (b * c'):=by rw [Nat.mul_comm,Nat.mul_assoc]
 have e2:c * b ^ i = b ^ i * c:=Nat.mul_comm _ _
 omega
theorem qA2 {b x y i c z c' V:Nat} (h:V + y % b ^ i = x % b ^ i + c * b ^ i) (hz:z + c + y / b ^ i % b = x / b ^ i % b + b * c'):(V + b ^ i * z) + y % b ^ (i + 1) = x % b ^ (i + 1) + c' * b ^ (i + 1):=by
 rw [xX,xX,Nat.pow_succ]
 have h2:=congrArg (b ^ i * ·) hz
 simp only [Nat.mul_add] at h2
 have e1:c' * (b ^ i * b) = b ^ i * (b * c'):=by rw [Nat.mul_comm,Nat.mul_assoc]
 have e2:c * b ^ i = b ^ i * c:=Nat.mul_comm _ _
 omega
theorem qLk {b x y n c V:Nat} (h:V + y % b ^ n = x % b ^ n + c * b ^ n) (hx:x < b ^ n) (hy:y≤x) (hV:V < b ^ n):V = x - y:=by
 rw [Nat.mod_eq_of_lt hx,Nat.mod_eq_of_lt (by omega)] at h
 cases c with
 | zero=>omega
 | succ c=>
  rw [Nat.succ_mul] at h
  have:=Nat.zero_le (c * b ^ n)
  omega
theorem qMi {b x y i:Nat} (h:∀ j,i < j→x / b ^ j % b = y / b ^ j % b) {n:Nat} (hb:0 < b) (hx:x < b ^ n) (hy:y < b ^ n):x / b ^ (i + 1) = y / b ^ (i + 1):=by
 have up:∀ m,∀ j,i + 1≤j→j + m = max n (i + 1)→x / b ^ j = y / b ^ j:=by
  intro m
  induction m with
  | zero=>
   intro j hj hm
   have hjn:n≤j:=by omega
   have h1:x < b ^ j:=Nat.lt_of_lt_of_le hx (Nat.pow_le_pow_right hb hjn)
   have h2:y < b ^ j:=Nat.lt_of_lt_of_le hy (Nat.pow_le_pow_right hb hjn)
   rw [Nat.div_eq_of_lt h1,Nat.div_eq_of_lt h2]
  | succ m ih=>
   intro j hj hm
   have h1:=ih (j + 1) (by omega) (by omega)
   have h2:=h j (by omega)
   rw [← Nat.div_add_mod (x / b ^ j) b,← Nat.div_add_mod (y / b ^ j) b,Nat.div_div_eq_div_mul,Nat.div_div_eq_div_mul,← Nat.pow_succ,h1,h2]
 exact up (max n (i + 1) - (i + 1)) (i + 1) (Nat.le_refl _) (by omega)
theorem uC (b x i:Nat):x / b ^ i = b * (x / b ^ (i + 1)) + x / b ^ i % b:=by
 rw [Nat.pow_succ,← Nat.div_div_eq_div_mul]
 exact (Nat.div_add_mod _ _).symm
theorem wQ {b x y i:Nat} (hb:0 < b) (h:x / b ^ (i + 1) = y / b ^ (i + 1)) (hd:x / b ^ i % b < y / b ^ i % b):x < y:=by
 have h1:x / b ^ i < y / b ^ i:=by
  rw [uC b x i,uC b y i,h]
  omega
 have hp:0 < b ^ i:=Nat.pow_pos hb
 have h2:=Nat.div_mul_le_self y (b ^ i)
 have h3:=Nat.lt_mul_div_succ x hp
 have h4:b ^ i * (x / b ^ i + 1)≤b ^ i * (y / b ^ i):=Nat.mul_le_mul_left _ h1
 rw [Nat.mul_comm (y / b ^ i)] at h2
 omega
theorem qPl {b V V' c d y j i z c' old P:Nat} (h:V + c * b ^ (i + j) = P + d * (y % b ^ j) * b ^ i) (hz:z + b * c' = c + d * (y / b ^ j % b) + old) (hs:V' + b ^ (i + j) * old = V + b ^ (i + j) * z) :
  V' + c' * b ^ (i + (j + 1)) = P + d * (y % b ^ (j + 1)) * b ^ i:=by
 rw [xX]
 have e0:i + (j + 1) = (i + j) + 1:=by omega
 have e1:c' * b ^ (i + (j + 1)) = b ^ (i + j) * (b * c'):=by rw [e0,Nat.pow_succ,Nat.mul_comm,Nat.mul_assoc]
 have e2:d * (y % b ^ j + b ^ j * (y / b ^ j % b)) * b ^ i = d * (y % b ^ j) * b ^ i + b ^ (i + j) * (d * (y / b ^ j % b)):=by
  rw [Nat.mul_add,Nat.add_mul]
  congr 1
  rw [Nat.pow_add]
  ac_rfl
 have h2:=congrArg (b ^ (i + j) * ·) hz
 simp only [Nat.mul_add] at h2
 have e3:c * b ^ (i + j) = b ^ (i + j) * c:=Nat.mul_comm _ _
 rw [e1,e2]
 omega
theorem qTk {b x y i:Nat}:x % b ^ (i + 1) * y = x % b ^ i * y + (x / b ^ i % b) * y * b ^ i:=by
 rw [xX,Nat.add_mul]
 congr 1
 ac_rfl
theorem qTl {b c d e o:Nat} (hc:c < b) (hd:d < b) (he:e < b) (ho:o < b):c + d * e + o < b * b:=by
 have h1:d * e≤(b - 1) * (b - 1):=Nat.mul_le_mul (by omega) (by omega)
 obtain ⟨m,rfl⟩:∃ m,b = m + 1:=⟨b - 1,by omega⟩
 simp only [Nat.add_sub_cancel] at h1
 have h2:(m + 1) * (m + 1) = m * m + m + m + 1:=by
  rw [Nat.mul_add,Nat.add_mul]
  omega
 omega
theorem qIr {b:Nat} {l:List Nat} (hb:0 < b) {k:Nat} (hv:val b l < b ^ k) {i:Nat} (hi:i < l.length) (hki:k≤i):l[i] = 0:=by
 have h1:=kV b l i (by omega)
 have h2:l.drop i = l[i] :: l.drop (i + 1):=List.drop_eq_getElem_cons hi
 rw [h2,val,Nat.mul_add] at h1
 have h3:b ^ k≤b ^ i:=Nat.pow_le_pow_right hb hki
 by_cases h4:l[i] = 0
 ·exact h4
 ·have h5:b ^ i * 1≤b ^ i * l[i]:=Nat.mul_le_mul_left _ (by omega)
  omega
def ofN (n:Nat):ByteArray:=⟨((jT 256 n).reverse.map UInt8.ofNat).toArray⟩
theorem wD (n:Nat):(ofN n).size = (jT 256 n).length:=by
 show (((jT 256 n).reverse.map UInt8.ofNat).toArray).size = _
 simp
theorem qJb:ofN 0 = ⟨#[]⟩:=rfl
theorem qTg {m n:Nat} (h:ofN m = ofN n):m = n:=by
 have h1:(jT 256 m).reverse.map UInt8.ofNat = (jT 256 n).reverse.map UInt8.ofNat:=by
  have:=congrArg (fun a:ByteArray=>a.data.toList) h
  simpa [ofN] using this
 have key:∀ k,((jT 256 k).reverse.map UInt8.ofNat).map UInt8.toNat = (jT 256 k).reverse:=by
  intro k
  rw [List.map_map]
  conv=>rhs;rw [← List.map_id (jT 256 k).reverse]
  apply List.map_congr_left
  intro d hd
  have hd':d < 256:=vC (by decide) k d (by simpa using hd)
  simp
  omega
 have h2:=congrArg (List.map UInt8.toNat) h1
 rw [key,key] at h2
 have h3:jT 256 m = jT 256 n:=List.reverse_inj.1 h2
 have:=congrArg (val 256) h3
 rwa [yR (by decide),yR (by decide)] at this
end Go.Dig
namespace Go.Dig
def ch:Nat→Nat→Nat
 | _,0=>1
 | 0,_ + 1=>0
 | n + 1,k + 1=>ch n k + ch n (k + 1)
def vP:Nat→Nat
 | 0=>1
 | n + 1=>(n + 1) * vP n
theorem qU8 (n:Nat):ch n 0 = 1:=by cases n<;>rfl
theorem qJo:∀ (n k:Nat),n < k→ch n k = 0
 | _,0,h=>by omega
 | 0,k + 1,_=>rfl
 | n + 1,k + 1,h=>by
  rw [ch,qJo n k (by omega),qJo n (k + 1) (by omega)]
theorem qMl:∀ n,ch n n = 1
 | 0=>rfl
 | n + 1=>by rw [ch,qMl n,qJo n (n + 1) (by omega)]
theorem qAa:∀ n,0 < vP n
 | 0=>by decide
 | n + 1=>Nat.mul_pos (by omega) (qAa n)
theorem qDd:∀ (n k:Nat),k≤n→ch n k * vP k * vP (n - k) = vP n
 | n,0,_=>by rw [qU8];simp [vP]
 | 0,k + 1,h=>by omega
 | n + 1,k + 1,h=>by
  rw [ch,Nat.add_sub_add_right]
  rcases Nat.lt_or_ge k n with hk|hk
  ·have h1:=qDd n k (by omega)
   have h2:=qDd n (k + 1) (by omega)
   obtain ⟨m,hm⟩:∃ m,n - k = m + 1:=⟨n - k - 1,by omega⟩
   have hm2:n - (k + 1) = m:=by omega
   rw [hm] at h1 ⊢
   rw [hm2] at h2
   rw [Nat.add_mul,Nat.add_mul]
   have e1:ch n k * vP (k + 1) * vP (m + 1) = (k + 1) * (ch n k * vP k * vP (m + 1)):=by
    rw [vP]
    ac_rfl
   have e2:ch n (k + 1) * vP (k + 1) * vP (m + 1) = (m + 1) * (ch n (k + 1) * vP (k + 1) * vP m):=by
    rw [show vP (m + 1) = (m + 1) * vP m from rfl]
    ac_rfl
   rw [e1,e2,h1,h2,← Nat.add_mul,show vP (n + 1) = (n + 1) * vP n from rfl]
   congr 1
   omega
  ·have:k = n:=by omega
   subst this
   rw [qMl,qJo k (k + 1) (by omega),Nat.sub_self]
   simp [vP]
theorem qU9 {n k:Nat} (h:k≤n):ch n (n - k) = ch n k:=by
 have h1:=qDd n k h
 have h2:=qDd n (n - k) (by omega)
 rw [show n - (n - k) = k from by omega] at h2
 have hp:0 < vP k * vP (n - k):=Nat.mul_pos (qAa _) (qAa _)
 refine Nat.eq_of_mul_eq_mul_right hp ?_
 rw [Nat.mul_assoc] at h1
 rw [h1,← h2,Nat.mul_comm (vP k),Nat.mul_assoc]
def qC9 (m:Nat):Nat→Nat
 | 0=>1
 | k + 1=>qC9 m k * (m + (k + 1))
theorem qGl (m:Nat):∀ k,qC9 m k * vP m = vP (m + k)
 | 0=>by simp [qC9]
 | k + 1=>by
  have:=qGl m k
  rw [qC9,show m + (k + 1) = (m + k) + 1 from by omega,show vP (m + k + 1) = (m + k + 1) * vP (m + k) from rfl,← this]
  ac_rfl
theorem qSz {n k:Nat} (h:k≤n):qC9 (n - k) k = ch n k * vP k:=by
 have h1:=qGl (n - k) k
 rw [show n - k + k = n from by omega,← qDd n k h] at h1
 exact Nat.eq_of_mul_eq_mul_right (qAa _) h1
theorem qOm {n k:Nat} (h:k≤n):qC9 (n - k) k / vP k = ch n k:=by
 rw [qSz h]
 exact Nat.mul_div_cancel _ (qAa k)
theorem qDo:∀ n,qC9 0 n = vP n
 | 0=>rfl
 | n + 1=>by
  rw [qC9,qDo n,show vP (n + 1) = (n + 1) * vP n from rfl,Nat.mul_comm]
  congr 1
  omega
end Go.Dig
namespace Go.Proofs.YtbgldmoikimmpaaGreatDoor
open Go.Eng Go.Dig
section
variable {n:Nat} {F:Fr} {w:World} {d:Option Tmp} {ty:TypeId} {pos:String} {aft:Array Edge} {g:Option (Nat × Bool)} {x y:Operand}
theorem qKo {t e k m c h:Nat} {q:IntKind} {s:Option Addr} (ht:qC8 t = some (e,k)) (hx:ev n F x = .slice s m c) (hy:ev n F y = .int q h) (hh:h≤c) :
  PV Tryz.prog n w F ⟨d,.slice t x none (some y) none,ty,pos,aft,g⟩ (.slice s h c):=qKa (xT ht).1 (xT ht).2 hx hy hh
theorem zN {t t':Nat} {q:IntKind} {a:Nat} (h:qBa t = some q) (h':qBa t' = some .u64) (hx:ev n F x = .int .u32 (a:Int)) (ha:a < 4294967296):PV Tryz.prog n w F ⟨d,.convert t t' x,ty,pos,aft,g⟩ (.int .u64 (a:Int)):=by
 have:=zQ (w:=w) (d:=d) (ty:=ty) (pos:=pos) (aft:=aft) (g:=g) h h' hx
 rwa [kS (by omega)] at this
theorem xM {t t':Nat} {k q:IntKind} {a:Nat} (h:qBa t = some q) (h':qBa t' = some .u32) (hx:ev n F x = .int k (a:Int)):PV Tryz.prog n w F ⟨d,.convert t t' x,ty,pos,aft,g⟩ (.int .u32 ((a % 4294967296:Nat):Int)):=by
 have:=zQ (w:=w) (d:=d) (ty:=ty) (pos:=pos) (aft:=aft) (g:=g) h h' hx
 rwa [qHb] at this
theorem uG {t t':Nat} {k q:IntKind} {a:Nat} (h:qBa t = some q) (h':qBa t' = some .u8) (hx:ev n F x = .int k (a:Int)):PV Tryz.prog n w F ⟨d,.convert t t' x,ty,pos,aft,g⟩ (.int .u8 ((a % 256:Nat):Int)):=by
 have:=zQ (w:=w) (d:=d) (ty:=ty) (pos:=pos) (aft:=aft) (g:=g) h h' hx
 rwa [qO5] at this
end
attribute [local irreducible] PV StepF wpl wpd WP Ret
def eW (d:Nat):List Value:=[.int .u32 (d:Int)]
theorem vJ (l:List Nat):yZ l <+: l:=by
 unfold yZ
 have h:=List.dropWhile_suffix (l:=l.reverse) (· == 0)
 have h2:=List.reverse_prefix.2 h
 rwa [List.reverse_reverse] at h2
theorem c66 (l:List Nat) (s:Option Addr) (c:Nat) (w:World) (hc:l.length≤c) (hm:c≤maxLen) (hs:SlAt w 1 eW s l) :
  Ret Tryz.prog 247 [.slice s l.length c] w (fun v w'=>v = .slice s (yZ l).length c∧Keeps [] w w'):=by
 have hcm:c≤9223372036854775807:=by unfold maxLen at hm;omega
 refine Ret.of_WP Tryz.func247 rfl Tryz.ntmps247 rfl ?_
 have hp:=Hp.start (M:=[]) (w:=w)
 (repeat (first|(with_reducible first|apply qF|apply qK|apply qA|apply qE|apply qB)|(apply wlp;apply qD;exact fS rfl)))
 refine jE [0,3,4,5,6,7,8,9,10,11,12,13,14,15,16,17,18,19] (fun (k:Nat) F=>F.put 0 (.slice s k c)) (fun k w'=>k≤l.length∧yZ (l.take k) = yZ l∧Hp w [] w' []) (fun k=>k) l.length (qG (Same.eq .refl) rfl) ⟨Nat.le_refl _,by rw [List.take_length],hp⟩ ?_
 clear hp
 rintro u k w1 ⟨hk,ht,hp⟩
 rcases Nat.eq_zero_or_pos k with h0|h0
 ·subst h0
  (repeat (with_reducible first|apply qF|apply qA))
  (apply wlp;apply qC;exact fS rfl)
  (apply wlp;((apply jC;exact rfl)<;>exact rfl);exact fI rfl)
  (apply wlp;(exact zA rfl rfl);exact jF (b:=false) (decide_eq_false (by omega)))
  (repeat (first|(with_reducible first|apply qE|apply qB)|(apply wlp;(intros;(first|apply qC|exact vX rfl));(intros;exact fB rfl))|(apply vS;exact rfl;exact rfl;exact rfl)|(apply vR;exact rfl;exact rfl)))
  refine jI rfl ?_
  (repeat (first|(with_reducible first|apply qF|apply qA|apply qE|apply qB|apply qO|apply qT|apply jB)|((with_reducible apply qP);exact rfl)|(apply wlp;(first|apply qC|apply qD);exact fS rfl)))
  refine qU rfl rfl ⟨_,rfl,qDz (m:=0) ?_,hp.keeps⟩
  rw [← ht]
  rfl
 ·have hlt:k - 1 < l.length:=by omega
  have hkk:k - 1 < k:=by omega
  obtain ⟨b0,o0,hs0,hc0⟩:=hs.base (by omega)
  have hci:=hc0 (k - 1) _ (List.getElem?_eq_getElem hlt) 0 _ rfl
  have hsn:=List.take_succ_eq_append_getElem hlt
  rw [show k - 1 + 1 = k from by omega] at hsn
  (repeat (with_reducible first|apply qF|apply qA))
  (apply wlp;apply qC;exact fS rfl)
  (apply wlp;((apply jC;exact rfl)<;>exact rfl);exact fI rfl)
  (apply wlp;(exact zA rfl rfl);exact jF (b:=true) (decide_eq_true (by omega)))
  (repeat (first|(apply wlp;(intros;((first|apply qC|(apply jC;exact rfl))<;>exact rfl));(intros;(first|exact fI rfl|exact fB rfl|exact fS rfl)))|((apply jO;exact rfl;exact rfl);(((first|apply qC|(apply jC;exact rfl))<;>exact rfl));(intros;(first|exact fI rfl|exact fB rfl|exact fS rfl)))|(apply vS;exact rfl;exact rfl;exact rfl)|(apply vR;exact rfl;exact rfl)))
  (apply jO;exact rfl;exact rfl;(exact jN rfl rfl);exact qI (b:=((k - 1:Nat):Int)) (by rw [qN (by omega) (by omega)];omega))
  (repeat (first|(with_reducible first|apply qE|apply qB)|(apply wlp;(intros;((first|(apply qJ;exact rfl)|exact zM rfl rfl|(apply zF;(first|exact rfl|exact jR rfl (by assumption)))|(apply qR;exact rfl))<;>(first|exact rfl|assumption|exact hp.old0 (by assumption))));(intros;(first|exact fI rfl|exact fB rfl|exact fP rfl)))|((apply jO;exact rfl;exact rfl);(((first|(apply qJ;exact rfl)|exact zM rfl rfl|(apply zF;(first|exact rfl|exact jR rfl (by assumption)))|(apply qR;exact rfl))<;>(first|exact rfl|assumption|exact hp.old0 (by assumption))));(intros;(first|exact fI rfl|exact fB rfl|exact fP rfl)))|(apply vS;exact rfl;exact rfl;exact rfl)|(apply vR;exact rfl;exact rfl)))
  refine qM rfl (fun h=>?_) (fun h=>?_)
  ·have hz:l[k - 1] = 0:=by omega
   (repeat (first|(with_reducible first|apply qK|apply qA|apply qB|apply qL)|(apply wlp;((first|apply qC|(apply jC;exact rfl))<;>exact rfl);(first|exact fI rfl|exact fS rfl))))
   (apply wlp;(exact jN rfl rfl);exact qI (b:=((k - 1:Nat):Int)) (by rw [qN (by omega) (by omega)];omega))
   (apply wlp;exact qKo rfl rfl rfl (by omega);exact fS rfl)
   (repeat (first|(with_reducible first|apply qE|apply qB|apply qZ)|(apply wlp;apply qD;exact fS rfl)))
   refine ⟨k - 1,qG (Same.eq (by repeat (first|exact Same.hav|exact Same.refl|refine Same.put rfl ?_|refine Same.havs rfl ?_))) rfl,⟨by omega,?_,hp⟩,by omega⟩
   rw [hsn,hz,qAw] at ht
   exact ht
  ·have hz:l[k - 1] ≠ 0:=by omega
   (repeat (first|(with_reducible first|apply qF|apply qA|apply qE|apply qB|apply qO|apply qT|apply jB)|((with_reducible apply qP);exact rfl)|(apply wlp;(first|apply qC|apply qD);exact fS rfl)))
   refine qU rfl rfl ⟨_,rfl,qDz (m:=k) ?_,hp.keeps⟩
   rw [hsn,qC5 hz,← hsn] at ht
   rw [← ht,List.length_take,Nat.min_eq_left hk]
end Go.Proofs.YtbgldmoikimmpaaGreatDoor
namespace Go.Proofs.YtbgldmoikimmpaaGreatDoor
open Go.Eng Go.Dig
attribute [local irreducible] PV StepF wpl wpd WP Ret
def dN (x:Nat):List Nat:=jT 4294967296 x
theorem qFv (x:Nat):Bd 4294967296 (dN x):=vC (by decide) x
theorem uJ {x i:Nat} (h:i < (dN x).length):(dN x)[i] = x / 4294967296 ^ i % 4294967296:=qFs (by decide) h
theorem qNn {x i:Nat} (h:(dN x).length≤i):x / 4294967296 ^ i % 4294967296 = 0:=qEa (by decide) h
theorem uK {x i:Nat} (h:(dN x).length≤i):x < 4294967296 ^ i:=yT (by decide) h
theorem qRd {x i:Nat} (h:x < 4294967296 ^ i):(dN x).length≤i:=uS (by decide) h
theorem qEl:dN 0 = []:=rfl
theorem qRc {x:Nat}:dN x = [] ↔ x = 0:=yK (by decide)
theorem qLi {l:List Nat} (h:Bd 4294967296 l):yZ l = dN (val 4294967296 l):=qAi (by decide) h
structure DA (w:World) (x:Nat) (s:Option Addr) (c:Nat):Prop where
 cap:(dN x).length≤c
 max:c≤maxLen
 at_:SlAt w 1 eW s (dN x)
theorem DA.keep {w w':World} {x:Nat} {s:Option Addr} {c:Nat} (h:DA w x s c) (hk:Keeps [] w w'):DA w' x s c:=⟨h.cap,h.max,h.at_.keep0 hk⟩
theorem DA.zero (w:World):DA w 0 none 0:=⟨by simp [qEl],by simp,by intro i x hx;simp [qEl] at hx⟩
theorem DA.len {w:World} {x:Nat} {s:Option Addr} {c:Nat} (h:DA w x s c):(dN x).length≤9223372036854775807:=by
 have h1:=h.cap
 have h2:=h.max
 unfold maxLen at h2
 omega
theorem qNq {w0 w:World} {z:List Nat} {g c x:Nat} (hp:Hp w0 [] w [qW eW 242 1 (some ⟨g,0,none⟩) c z]) (hv:SVL (some ⟨g,0,none⟩) c z) (hc:c≤maxLen) (hb:Bd 4294967296 z) (hx:val 4294967296 z = x) :
  Ret Tryz.prog 247 [.slice (some ⟨g,0,none⟩) z.length c] w (fun v w'=>∃ s' c',v = .slice s' (dN x).length c'∧DA w' x s' c'∧Keeps [] w0 w'):=by
 have hs:SlAt w 1 eW (some ⟨g,0,none⟩) z:=jS hp 0 rfl hv (fun _=>rfl)
 refine Ret.mono (c66 z _ c w hv.cap hc hs) ?_
 rintro v w' ⟨rfl,hk⟩
 have e:yZ z = dN x:=by rw [qLi hb,hx]
 refine ⟨_,_,qDz (by rw [e]),⟨?_,hc,?_⟩,hp.keeps.trans hk (by simp)⟩
 ·rw [← e]
  exact Nat.le_trans (vJ z).length_le hv.cap
 ·rw [← e]
  exact (hs.pre (vJ z)).keep0 hk
theorem qCc {a k d:Nat} (h:a < 2 ^ k):a ||| (d * 2 ^ k) = a + d * 2 ^ k:=by
 rw [Nat.or_comm,Nat.mul_comm,← Nat.two_pow_add_eq_or_of_lt h d,Nat.add_comm]
theorem c58 (x:Nat) (s:Option Addr) (c:Nat) (w:World) (hx:x < 18446744073709551616) (hd:DA w x s c) :
  Ret Tryz.prog 248 [.slice s (dN x).length c] w (fun v w'=>v = .int .u64 (x:Int)∧Keeps [] w w'):=by
 have hl2:(dN x).length≤2:=qRd (by simpa using hx)
 refine Ret.of_WP Tryz.func248 rfl Tryz.ntmps248 rfl ?_
 have hp:=Hp.start (M:=[]) (w:=w)
 (repeat (first|(with_reducible first|apply qF|apply qK|apply qA|apply qE|apply qB)|(apply wlp;((first|apply qC|apply qD|(apply jC;exact rfl))<;>exact rfl);(first|exact fI rfl|exact fS rfl))))
 refine jE [3,4,5,8,9,10,11,12,13,14,15,16,17,18,19,20] (fun (i:Nat) F=>(F.put 3 (.int .u64 ((x % 4294967296 ^ i:Nat):Int))).put 8 (.int .i64 i)) (fun i w'=>i≤(dN x).length∧Hp w [] w' []) (fun i=>(dN x).length - i) 0 (qG (qG (Same.eq .refl) (qI (by simp [Nat.mod_one]))) rfl) ⟨Nat.zero_le _,hp⟩ ?_
 clear hp
 rintro u i w1 ⟨hi,hp⟩
 (repeat (first|(with_reducible first|apply qF|apply qA|apply qE|apply qB)|(apply wlp;(apply jA<;>exact rfl);exact fB rfl)))
 refine qM rfl (fun h2=>?_) (fun h2=>?_)
 ·have hlt:i < (dN x).length:=by omega
  obtain ⟨b0,o0,hs0,hc0⟩:=hd.at_.base (by omega)
  have hci:=hc0 i _ (List.getElem?_eq_getElem hlt) 0 _ rfl
  have hbd:=(qFv x).get hlt
  have hg:=uJ hlt
  generalize (dN x)[i] = di at hci hbd hg
  have e32:4294967296 ^ i = 2 ^ (32 * i):=by rw [Nat.pow_mul]
  have hmod:x % 4294967296 ^ i < 2 ^ (32 * i):=by rw [← e32];exact Nat.mod_lt _ (Nat.pow_pos (by decide))
  have hm64:x % 4294967296 ^ i < 18446744073709551616:=Nat.lt_of_le_of_lt (Nat.mod_le _ _) hx
  have hstep:=xX 4294967296 x i
  rw [← hg] at hstep
  have hstep2:x % 4294967296 ^ (i + 1) = x % 4294967296 ^ i + di * 2 ^ (32 * i):=by rw [hstep,e32,Nat.mul_comm (2 ^ (32 * i)) di]
  have hle:di * 2 ^ (32 * i) < 18446744073709551616:=by
   have:=Nat.mod_le x (4294967296 ^ (i + 1))
   omega
  (repeat (first|(with_reducible first|apply qF|apply qK|apply qA|apply qE|apply qB|apply qL)|(apply wlp;((first|apply qC|apply qD|(apply qJ;exact rfl)|(apply qR;exact rfl)|exact zN rfl rfl rfl (by assumption))<;>(first|exact rfl|assumption|exact hp.old0 (by assumption)));(first|exact fI rfl|exact fP rfl))))
  (apply wlp;(exact xU rfl rfl);exact qI (b:=((32 * i:Nat):Int)) (by rw [qN (by omega) (by omega)];omega))
  (apply wlp;exact kZ rfl rfl (by omega) hle;exact fI rfl)
  (apply wlp;exact qAn rfl rfl hm64 hle;exact qI (b:=((x % 4294967296 ^ (i + 1):Nat):Int)) (by rw [qCc hmod,hstep2]))
  (repeat (first|(with_reducible first|apply qA|apply qE|apply qB|apply qZ)|(apply wlp;apply qD;exact fI rfl)))
  (apply wlp;exact qY rfl rfl;exact qI (qN (by omega) (by omega)))
  (repeat (first|(with_reducible first|apply qE|apply qB)|(apply wlp;apply qC;exact fI rfl)))
  exact ⟨i + 1,qG (qG (Same.eq (by repeat (first|exact Same.hav|exact Same.refl|refine Same.put rfl ?_|refine Same.havs rfl ?_))) rfl) rfl,⟨by omega,hp⟩,by omega⟩
 ·(repeat (first|(with_reducible first|apply qF|apply qA|apply qE|apply qB|apply qO|apply qT|apply jB)|((with_reducible apply qP);exact rfl)|(apply wlp;(first|apply qC|apply qD);exact fI rfl)))
  refine qU rfl rfl ⟨_,rfl,qI ?_,hp.keeps⟩
  rw [Nat.mod_eq_of_lt (uK (by omega))]
theorem c39 (x:Nat) (w:World) (hx:x < 18446744073709551616) :
  Ret Tryz.prog 177 [.int .u64 (x:Int)] w (fun v w'=>∃ s' c',v = .slice s' (dN x).length c'∧DA w' x s' c'∧Keeps [] w w'):=by
 refine Ret.of_WP Tryz.func177 rfl Tryz.ntmps177 rfl ?_
 have hp:=Hp.start (M:=[]) (w:=w)
 (repeat (first|(with_reducible first|apply qF|apply qA|apply qE|apply qB)|(apply wlp;(first|apply qC|apply qD|exact xM rfl rfl rfl);(first|exact fI rfl|exact fS rfl))))
 (apply wlp;exact xA (b:=32) rfl rfl (by decide);exact qI (b:=((x / 4294967296:Nat):Int)) rfl)
 (apply wlp;exact xM rfl rfl rfl;exact qI (b:=((x / 4294967296:Nat):Int)) (by omega))
 (apply wls;exact jP hp rfl rfl rfl rfl rfl rfl rfl;rintro _ w1 ⟨nb,rfl,hp⟩)
 have hp:Hp w [] w1 [qW eW 242 1 (some ⟨nb,0,none⟩) 2 [x % 4294967296,x / 4294967296]]:=hp.rowOf 0 1 2 rfl rfl
 have hv:SVL (some ⟨nb,0,none⟩) 2 [x % 4294967296,x / 4294967296]:=.inr ⟨nb,2,rfl,Nat.le_refl _,by unfold maxLen;omega⟩
 have hb:Bd 4294967296 [x % 4294967296,x / 4294967296]:=.cons (by omega) (.cons (by omega) .nil)
 (apply wls;exact qH rfl qCg rfl (qNq hp hv (by unfold maxLen;omega) hb (x:=x) (by simp only [val];omega));rintro _ w2 ⟨s',c',rfl,hd,hk⟩)
 (repeat (first|(with_reducible first|apply qE|apply qB|apply qT)|(apply wlp;apply qD;exact fS rfl)))
 exact qU rfl rfl ⟨_,rfl,s',c',rfl,hd,hk⟩
theorem c71 (x y:Nat) (s s2:Option Addr) (c c2:Nat) (w:World) (hx:DA w x s c) (hy:DA w y s2 c2) :
  Ret Tryz.prog 175 [.slice s (dN x).length c,.slice s2 (dN y).length c2] w (fun v w'=>v = .int .i64 (if x < y then -1 else if x = y then 0 else 1)∧Keeps [] w w'):=by
 have hlx:=hx.len
 have hly:=hy.len
 refine Ret.of_WP Tryz.func175 rfl Tryz.ntmps175 rfl ?_
 have hp:=Hp.start (M:=[]) (w:=w)
 (repeat (first|(with_reducible first|apply qF|apply qA|apply qE|apply qB)|(apply wlp;((first|apply qC|apply qD|(apply jC;exact rfl)|(apply zJ;(first|exact rfl|exact jR rfl (by assumption))))<;>exact rfl);(first|exact fI rfl|exact fB rfl|exact fS rfl))))
 refine yQ rfl (fun h=>?_) (fun h=>?_)
 ·(repeat (first|(with_reducible first|apply qF|apply qA|apply qE|apply qB)|(apply wlp;((first|apply qC|(apply jC;exact rfl)|apply jA)<;>exact rfl);(first|exact fI rfl|exact fB rfl|exact fS rfl))))
  refine qM rfl (fun h2=>?_) (fun h2=>?_)
  ·have hlt:x < y:=vF (b:=4294967296) (by decide) (by have:(dN x).length < (dN y).length:=(by omega);exact this)
   (repeat (first|(with_reducible first|apply qF|apply qA|apply qE|apply qB|apply jV|apply qT)|(apply wlp;apply qD;exact fI rfl)))
   exact qU rfl rfl ⟨_,rfl,qI (by rw [if_pos hlt]),hp.keeps⟩
  ·have hlt:y < x:=vF (b:=4294967296) (by decide) (by have:(dN y).length < (dN x).length:=(by omega);exact this)
   (repeat (first|(with_reducible first|apply qF|apply qA|apply qE|apply qB|apply jV|apply qT|apply qL)|(apply wlp;apply qD;exact fI rfl)))
   exact qU rfl rfl ⟨_,rfl,qI (by rw [if_neg (by omega),if_neg (by omega)]),hp.keeps⟩
 ·have hl:(dN x).length = (dN y).length:=by omega
  (repeat (first|(with_reducible first|apply qF|apply qA|apply qB|apply qL)|(apply wlp;((first|apply qC|(apply jC;exact rfl))<;>exact rfl);(first|exact fI rfl|exact fS rfl))))
  (apply wlp;exact jN rfl rfl;exact qI (qN (by omega) (by omega)))
  (repeat (first|(with_reducible first|apply qK|apply qE|apply qB)|(apply wlp;apply qD;exact fI rfl)))
  refine jE [4,5,19,20,21,22,23,24,25,26,27,28,29,30,31,32,33,34,35,36,37,38,39,40] (fun (i:Nat) F=>F.put 5 (.int .i64 ((i:Int) - 1))) (fun i w'=>i≤(dN x).length∧x / 4294967296 ^ i = y / 4294967296 ^ i∧Hp w [] w' []) (fun i=>i) (dN x).length (qG (Same.eq .refl) rfl) ⟨Nat.le_refl _,?_,hp⟩ ?_
  ·rw [Nat.div_eq_of_lt (uK (Nat.le_refl _)),Nat.div_eq_of_lt (uK (by omega))]
  clear hp
  rintro u i w1 ⟨hi,he,hp⟩
  (repeat (first|(with_reducible first|apply qF|apply qA|apply qE|apply qB)|(apply wlp;((first|apply qC|apply xF)<;>exact rfl);(first|exact fI rfl|exact fB rfl))))
  refine qM rfl (fun h2=>?_) (fun h2=>?_)
  ·obtain ⟨j,rfl⟩:∃ j,i = j + 1:=⟨i - 1,by omega⟩
   have hlt:j < (dN x).length:=by omega
   have hlt2:j < (dN y).length:=by omega
   obtain ⟨b0,o0,hs0,hc0⟩:=hx.at_.base (by omega)
   have hci:=hc0 j _ (List.getElem?_eq_getElem hlt) 0 _ rfl
   obtain ⟨b1,o1,hs1,hc1⟩:=hy.at_.base (by omega)
   have hcj:=hc1 j _ (List.getElem?_eq_getElem hlt2) 0 _ rfl
   have hg:=uJ hlt
   have hg2:=uJ hlt2
   generalize (dN x)[j] = dx at hci hg
   generalize (dN y)[j] = dy at hcj hg2
   have ej:((j + 1:Nat):Int) - 1 = (j:Int):=by omega
   rw [ej]
   (repeat (with_reducible first|apply qF|apply qK|apply qB|apply qL))
   refine jX jW (by kernel_rfl) (fun w'=>Hp _ _ w' _) hp.drew ?_
   have hp:=hp.drew
   (repeat ((apply wdp;exact rfl);(intro w hp;intros;((first|apply qC|(apply qJ;exact rfl)|(apply zJ;(first|exact rfl|exact jR rfl (by assumption)))|(apply qR;exact rfl))<;>(first|exact rfl|assumption|exact hp.old0 (by assumption))));(intros;(first|exact fI rfl|exact fB rfl|exact fP rfl|exact fS rfl))))
   refine jL ?_
   (repeat with_reducible apply qB)
   refine yQ rfl (fun h=>?_) (fun h=>?_)
   ·(repeat with_reducible apply qF)
    refine jX jW (by kernel_rfl) (fun w'=>Hp _ _ w' _) hp.drew ?_
    have hp:=hp.drew
    (repeat ((apply wdp;exact rfl);(intro w hp;intros;((first|apply qC|(apply qJ;exact rfl)|apply jA|(apply qR;exact rfl))<;>(first|exact rfl|assumption|exact hp.old0 (by assumption))));(intros;(first|exact fI rfl|exact fB rfl|exact fP rfl|exact fS rfl))))
    refine jL ?_
    (repeat with_reducible apply qB)
    refine qM rfl (fun h3=>?_) (fun h3=>?_)
    ·have hlt3:x < y:=wQ (b:=4294967296) (i:=j) (by decide) he (by omega)
     (repeat (first|(with_reducible first|apply qF|apply qA|apply qE|apply qB|apply jV|apply qA9|apply qT)|(apply wlp;apply qD;exact fI rfl)))
     exact qU rfl rfl ⟨_,rfl,qI (by rw [if_pos hlt3]),hp.keeps⟩
    ·have hlt3:y < x:=wQ (b:=4294967296) (i:=j) (by decide) he.symm (by omega)
     (repeat (first|(with_reducible first|apply qF|apply qA|apply qE|apply qB|apply jV|apply qA9|apply qT|apply qL)|(apply wlp;apply qD;exact fI rfl)))
     exact qU rfl rfl ⟨_,rfl,qI (by rw [if_neg (by omega),if_neg (by omega)]),hp.keeps⟩
   ·(repeat (first|(with_reducible first|apply qA|apply qB|apply qZ|apply qL)|(apply wlp;apply qC;exact fI rfl)))
    (apply wlp;exact jN rfl rfl;exact qI (qN (by omega) (by omega)))
    (repeat (first|(with_reducible first|apply qE|apply qB)|(apply wlp;apply qD;exact fI rfl)))
    refine ⟨j,qG (Same.eq (by repeat (first|exact Same.hav|exact Same.refl|refine Same.put rfl ?_|refine Same.havs rfl ?_))) rfl,⟨by omega,?_,hp⟩,by omega⟩
    rw [uC 4294967296 x j,uC 4294967296 y j,he,← hg,← hg2]
    have:dx = dy:=by omega
    rw [this]
  ·obtain rfl:i = 0:=by omega
   have hxy:x = y:=by simpa using he
   (repeat (first|(with_reducible first|apply qF|apply qA|apply qE|apply qB|apply qO|apply qT|apply jB)|((with_reducible apply qP);exact rfl)|(apply wlp;apply qD;exact fI rfl)))
   exact qU rfl rfl ⟨_,rfl,qI (by rw [if_neg (by omega),if_pos hxy]),hp.keeps⟩
end Go.Proofs.YtbgldmoikimmpaaGreatDoor
namespace Go.Proofs.YtbgldmoikimmpaaGreatDoor
open Go.Eng Go.Dig
section
variable {n:Nat} {w0 w:World} {M:List Nat} {L:List Ent} {F:Fr} {d:Option Tmp} {ty:TypeId} {pos:String} {aft:Array Edge} {g:Option (Nat × Bool)} {x y:Operand}
theorem vL {α:Type} (enc:α→List Value) (x0:α) {t e by_ m:Nat} {kl kc:IntKind} {z:Value} (hp:Hp w0 M w L) (ht:qC8 t = some (e,1)) (hz:uW e = some z) (hby:qCl e = some by_)
  (hx:ev n F x = .int kl m) (hy:ev n F y = .int kc m) (henc:enc x0 = [z]) (h1:wK z = true) (hm:m < 1000000000) (hb:Nat.ble by_ 1000 = true) :
  StepF Tryz.prog n ⟨d,.makeSlice t x y,ty,pos,aft,g⟩ F w (fun u w'=>∃ b,u = .slice (some ⟨b,0,none⟩) m m∧SVL (some ⟨b,0,none⟩) m (List.replicate m x0)∧Hp w0 M w' (qW enc e 1 (some ⟨b,0,none⟩) m (List.replicate m x0) :: L)):=
 qOa enc x0 hp (xT ht).1 (xT ht).2 (jD hz) (qH0 hby) hx hy henc h1 hm hb
end
theorem take_set {l:List Nat} {i d:Nat} (h:i < l.length):(l.set i d).take (i + 1) = l.take i ++ [d]:=by
 rw [List.take_succ_eq_append_getElem (by simpa using h),List.take_set]
 congr 1
 ·rw [List.set_eq_of_length_le (by simp;omega)]
 ·simp
theorem vI {b:Nat} {l:List Nat} {i d:Nat} (h:i < l.length):val b ((l.set i d).take (i + 1)) = val b (l.take i) + b ^ i * d:=by
 rw [take_set h,yM,List.length_take,Nat.min_eq_left (by omega),qAh]
attribute [local irreducible] PV StepF wpl wpd WP Ret
theorem c72 (x y:Nat) (s s2:Option Addr) (c c2:Nat) (w:World) (hx:DA w x s c) (hy:DA w y s2 c2) (hlx:(dN x).length≤100000) (hyx:y≤x) :
  Ret Tryz.prog 176 [.slice s (dN x).length c,.slice s2 (dN y).length c2] w (fun v w'=>∃ s' c',v = .slice s' (dN (x - y)).length c'∧DA w' (x - y) s' c'∧Keeps [] w w'):=by
 have hly:=hy.len
 refine Ret.of_WP Tryz.func176 rfl Tryz.ntmps176 rfl ?_
 have hp:=Hp.start (M:=[]) (w:=w)
 (repeat (first|(with_reducible first|apply qF|apply qA|apply qE|apply qB)|(apply wlp;((first|apply qC|apply qD|(apply jC;exact rfl))<;>exact rfl);(first|exact fI rfl|exact fS rfl))))
 (apply wls;exact vL eW 0 hp rfl rfl rfl rfl rfl rfl rfl (by omega) rfl;rintro _ w2 ⟨g,rfl,hv,hp⟩)
 (repeat (first|(with_reducible first|apply qF|apply qK|apply qA|apply qE|apply qB)|(apply wlp;((first|apply qC|apply qD|(apply jC;exact rfl))<;>exact rfl);(first|exact fI rfl|exact fS rfl))))
 refine zW [6,7,8,14,15,16,17,18,19,20,21,22,23,24,25,26,27,28,29,30,31,32,33,34,35,36,37,38,39,40,41,42] (fun (i cy:Nat) (z:List Nat) F=>(F.put 14 (.int .i64 i)).put 6 (.int .u64 (cy:Int)))
  (fun i cy z w'=>i≤(dN x).length∧z.length = (dN x).length∧Bd 4294967296 z∧cy < 2∧val 4294967296 (z.take i) + y % 4294967296 ^ i = x % 4294967296 ^ i + cy * 4294967296 ^ i∧SVL (some ⟨g,0,none⟩) (dN x).length z∧Hp w [] w' [qW eW 242 1 (some ⟨g,0,none⟩) (dN x).length z])
  (fun i _ _=>(dN x).length - i) 0 0 (List.replicate (dN x).length 0) (qG (qG (Same.eq .refl) rfl) rfl) ⟨Nat.zero_le _,by simp,uV (by decide) _,by omega,by simp [val,Nat.mod_one],hv,hp⟩ ?_
 clear hp hv
 rintro u i cy z w3 ⟨hi,hzl,hzb,hcy,hval,hv,hp⟩
 (repeat (first|(with_reducible first|apply qF|apply qA|apply qE|apply qB)|(apply wlp;(apply jA<;>exact rfl);exact fB rfl)))
 refine qM rfl (fun h2=>?_) (fun h2=>?_)
 ·have hlt:i < (dN x).length:=by omega
  have hiz:i < z.length:=by omega
  obtain ⟨b0,o0,hs0,hc0⟩:=hx.at_.base (by omega)
  have hci:=hc0 i _ (List.getElem?_eq_getElem hlt) 0 _ rfl
  have hbd:=(qFv x).get hlt
  have hg:=uJ hlt
  generalize (dN x)[i] = dx at hci hbd hg
  (repeat (first|(with_reducible first|apply qF|apply qK|apply qA|apply qE|apply qB|apply qL)|(apply wlp;((first|apply qC|apply qD|(apply qJ;exact rfl)|(apply qR;exact rfl)|exact zN rfl rfl rfl (by assumption))<;>(first|exact rfl|assumption|exact hp.old0 (by assumption)));(first|exact fI rfl|exact fP rfl|exact fS rfl))))
  (apply wlp;exact kK rfl rfl (by omega);exact fI rfl)
  (repeat (first|(with_reducible first|apply qF|apply qA|apply qE|apply qB)|(apply wlp;((first|apply qC|apply qD|(apply jC;exact rfl)|apply jA)<;>exact rfl);(first|exact fI rfl|exact fB rfl|exact fS rfl))))
  obtain ⟨dy,hgy,hbdy⟩:∃ dy,dy = y / 4294967296 ^ i % 4294967296∧dy < 4294967296:=⟨_,rfl,Nat.mod_lt _ (by decide)⟩
  refine qM rfl (fun h3=>?_) (fun h3=>?_)
  ·have hlty:i < (dN y).length:=by omega
   obtain ⟨b1,o1,hs1,hc1⟩:=hy.at_.base (by omega)
   have hcj:=hc1 i _ (List.getElem?_eq_getElem hlty) 0 _ rfl
   have hg2:=uJ hlty
   rw [← hgy] at hg2
   rw [hg2] at hcj
   (repeat (first|with_reducible apply qA|(apply wlp;((first|apply qC|(apply qJ;exact rfl)|(apply qR;exact rfl)|exact zN rfl rfl rfl (by assumption))<;>(first|exact rfl|assumption|exact hp.old0 (by assumption)));(first|exact fI rfl|exact fP rfl|exact fS rfl))))
   (apply wlp;exact kK rfl rfl (by omega);exact fI rfl)
   (repeat (first|(with_reducible first|apply qF|apply qA|apply qE|apply qB)|(apply wlp;((first|apply qC|apply qD|(apply qR;exact rfl)|exact xM rfl rfl rfl)<;>(first|exact rfl|assumption));(first|exact fI rfl|exact fP rfl|exact fS rfl))))
   (apply zG;exact xO eW z i _ hp 0 rfl hv hiz rfl rfl (fun _=>rfl) rfl rfl (qQ rfl);rintro _ w4 ⟨rfl,hp⟩)
   (repeat (first|(with_reducible first|apply qA|apply qE|apply qB)|(apply wlp;apply qC;exact fI rfl)))
   (apply wlp;exact xA (b:=63) rfl rfl (by decide);exact fI rfl)
   (repeat (first|(with_reducible first|apply qA|apply qE|apply qB|apply qZ)|(apply wlp;apply qD;exact fI rfl)))
   (apply wlp;exact qY rfl rfl;exact qI (qN (by omega) (by omega)))
   (repeat (first|(with_reducible first|apply qE|apply qB)|(apply wlp;apply qC;exact fI rfl)))
   refine ⟨i + 1,_,_,qG (qG (Same.eq (by repeat (first|exact Same.hav|exact Same.refl|refine Same.put rfl ?_|refine Same.havs rfl ?_))) rfl) rfl,⟨by omega,?_,?_,?_,?_,hv.set _ _,hp⟩,by omega⟩
   ·rw [List.length_set,hzl]
   ·exact hzb.set (by omega)
   ·unfold qBr
    omega
   ·rw [vI hiz]
    exact qA2 hval (by rw [← hg,← hgy];unfold qBr;omega)
  ·have hdy:dy = 0:=by rw [hgy];exact qNn (by omega)
   (repeat (first|(with_reducible first|apply qF|apply qA|apply qB|apply qL)|(apply wlp;((first|apply qC|(apply qR;exact rfl)|exact xM rfl rfl rfl)<;>(first|exact rfl|assumption));(first|exact fI rfl|exact fP rfl|exact fS rfl))))
   (apply zG;exact xO eW z i _ hp 0 rfl hv hiz rfl rfl (fun _=>rfl) rfl rfl (qQ rfl);rintro _ w4 ⟨rfl,hp⟩)
   (repeat (first|(with_reducible first|apply qA|apply qE|apply qB)|(apply wlp;apply qC;exact fI rfl)))
   (apply wlp;exact xA (b:=63) rfl rfl (by decide);exact fI rfl)
   (repeat (first|(with_reducible first|apply qA|apply qE|apply qB|apply qZ)|(apply wlp;apply qD;exact fI rfl)))
   (apply wlp;exact qY rfl rfl;exact qI (qN (by omega) (by omega)))
   (repeat (first|(with_reducible first|apply qE|apply qB)|(apply wlp;apply qC;exact fI rfl)))
   refine ⟨i + 1,_,_,qG (qG (Same.eq (by repeat (first|exact Same.hav|exact Same.refl|refine Same.put rfl ?_|refine Same.havs rfl ?_))) rfl) rfl,⟨by omega,?_,?_,?_,?_,hv.set _ _,hp⟩,by omega⟩
   ·rw [List.length_set,hzl]
   ·exact hzb.set (by omega)
   ·unfold qBr
    omega
   ·rw [vI hiz]
    exact qA2 hval (by rw [← hg,← hgy];unfold qBr;omega)
 ·obtain rfl:i = (dN x).length:=by omega
  have hV:val 4294967296 z = x - y:=by
   rw [List.take_of_length_le (by omega)] at hval
   refine qLk hval (uK (Nat.le_refl _)) hyx ?_
   have:=yL hzb
   rwa [hzl] at this
  (repeat (first|(with_reducible first|apply qF|apply qA|apply qB|apply qO|apply jB)|((with_reducible apply qP);exact rfl)|(apply wlp;apply qC;exact fS rfl)))
  (apply wls;exact qH rfl qCg (by rw [hzl];rfl) (qNq hp hv (by unfold maxLen;omega) hzb hV);rintro _ w2 ⟨s',c',rfl,hd,hk⟩)
  (repeat (first|(with_reducible first|apply qE|apply qB|apply qT)|(apply wlp;apply qD;exact fS rfl)))
  exact qU rfl rfl ⟨_,rfl,s',c',rfl,hd,hk⟩
end Go.Proofs.YtbgldmoikimmpaaGreatDoor
namespace Go.Proofs.YtbgldmoikimmpaaGreatDoor
open Go.Eng Go.Dig
attribute [local irreducible] PV StepF wpl wpd WP Ret
theorem c46 (x y:Nat) (s s2:Option Addr) (c c2:Nat) (w:World) (hx:DA w x s c) (hy:DA w y s2 c2) (hlx:(dN x).length≤100000) (hly:(dN y).length≤100000) :
  Ret Tryz.prog 171 [.slice s (dN x).length c,.slice s2 (dN y).length c2] w (fun v w'=>∃ s' c',v = .slice s' (dN (x * y)).length c'∧DA w' (x * y) s' c'∧Keeps [] w w'):=by
 refine Ret.of_WP Tryz.func171 rfl Tryz.ntmps171 rfl ?_
 have hp:=Hp.start (M:=[]) (w:=w)
 (repeat (first|(with_reducible first|apply qF|apply qA|apply qE|apply qB)|(apply wlp;((first|apply qC|apply qD|(apply jC;exact rfl))<;>exact rfl);(first|exact fI rfl|exact fS rfl))))
 (apply wlp;(exact qY rfl rfl);exact qI (b:=(((dN x).length + (dN y).length:Nat):Int)) (by rw [qN (by omega) (by omega)];omega))
 (apply wls;exact vL eW 0 hp rfl rfl rfl rfl rfl rfl rfl (by omega) rfl;rintro _ w2 ⟨g,rfl,hv,hp⟩)
 (repeat (first|(with_reducible first|apply qF|apply qK|apply qA|apply qE|apply qB)|(apply wlp;((first|apply qC|apply qD|(apply jC;exact rfl))<;>exact rfl);(first|exact fI rfl|exact fS rfl))))
 refine uF [6,7,8,9,10,19,20,21,22,23,24,25,26,27,28,29,30,31,32,33,34,35,36,37,38,39,40,41,42,43,44,45,46,47,48,49,50,51,52,53,54,55,56,57,58,59,60,61,62,63,64] (fun (i:Nat) (_z:List Nat) F=>F.put 19 (.int .i64 i))
  (fun i z w'=>i≤(dN x).length∧z.length = (dN x).length + (dN y).length∧Bd 4294967296 z∧val 4294967296 z = x % 4294967296 ^ i * y∧SVL (some ⟨g,0,none⟩) ((dN x).length + (dN y).length) z∧Hp w [] w' [qW eW 242 1 (some ⟨g,0,none⟩) ((dN x).length + (dN y).length) z])
  (fun i _=>(dN x).length - i) 0 (List.replicate ((dN x).length + (dN y).length) 0) (qG (Same.eq .refl) rfl) ⟨Nat.zero_le _,by simp,uV (by decide) _,by simp [qBj,Nat.mod_one],hv,hp⟩ ?_
 clear hp hv
 rintro u i z w3 ⟨hi,hzl,hzb,hval,hv,hp⟩
 (repeat (first|(with_reducible first|apply qF|apply qA|apply qE|apply qB)|(apply wlp;(apply jA<;>exact rfl);exact fB rfl)))
 refine qM rfl (fun h2=>?_) (fun h2=>?_)
 ·have hlt:i < (dN x).length:=by omega
  obtain ⟨b0,o0,hs0,hc0⟩:=hx.at_.base (by omega)
  have hci:=hc0 i _ (List.getElem?_eq_getElem hlt) 0 _ rfl
  have hbd:=(qFv x).get hlt
  have hg:=uJ hlt
  generalize (dN x)[i] = dx at hci hbd hg
  have htop:z[i + (dN y).length]? = some 0:=by
   have h1:i + (dN y).length < z.length:=by omega
   rw [List.getElem?_eq_getElem h1]
   congr 1
   refine qIr (b:=4294967296) (by decide) (k:=i + (dN y).length) ?_ h1 (Nat.le_refl _)
   rw [hval,Nat.pow_add]
   exact Nat.mul_lt_mul'' (Nat.mod_lt _ (Nat.pow_pos (by decide))) (uK (Nat.le_refl _))
  (repeat (first|(with_reducible first|apply qF|apply qK|apply qA|apply qE|apply qB|apply qL)|(apply wlp;((first|apply qC|apply qD|(apply qJ;exact rfl)|(apply jC;exact rfl)|(apply qR;exact rfl))<;>(first|exact rfl|assumption|exact hp.old0 (by assumption)));(first|exact fI rfl|exact fP rfl|exact fS rfl))))
  refine zW [8,9,10,26,27,28,29,30,31,32,33,34,35,36,37,38,39,40,41,42,43,44,45,46,47,48,49,50,51,52,53,54,55] (fun (j cy:Nat) (_z:List Nat) F=>(F.put 26 (.int .i64 j)).put 8 (.int .u64 (cy:Int)))
   (fun j cy z w'=>j≤(dN y).length∧z.length = (dN x).length + (dN y).length∧Bd 4294967296 z∧cy < 4294967296∧val 4294967296 z + cy * 4294967296 ^ (i + j) = x % 4294967296 ^ i * y + dx * (y % 4294967296 ^ j) * 4294967296 ^ i∧z[i + (dN y).length]? = some 0∧SVL (some ⟨g,0,none⟩) ((dN x).length + (dN y).length) z∧Hp w [] w' [qW eW 242 1 (some ⟨g,0,none⟩) ((dN x).length + (dN y).length) z])
   (fun j _ _=>(dN y).length - j) 0 0 z (qG (qG (Same.eq .refl) rfl) rfl) ⟨Nat.zero_le _,hzl,hzb,by omega,by simp [hval,Nat.mod_one],htop,hv,hp⟩ ?_
  clear hp hv hzl hzb hval htop z
  rintro u2 j cy z w4 ⟨hj,hzl,hzb,hcy,hval,htop,hv,hp⟩
  (repeat (first|(with_reducible first|apply qF|apply qA|apply qE|apply qB)|(apply wlp;(apply jA<;>exact rfl);exact fB rfl)))
  refine qM rfl (fun h3=>?_) (fun h3=>?_)
  ·have hltj:j < (dN y).length:=by omega
   have hij:i + j < (dN x).length + (dN y).length:=by omega
   have hijz:i + j < z.length:=by omega
   obtain ⟨b1,o1,hs1,hc1⟩:=hy.at_.base (by omega)
   have hcj:=hc1 j _ (List.getElem?_eq_getElem hltj) 0 _ rfl
   have hbd2:=(qFv y).get hltj
   have hg2:=uJ hltj
   generalize (dN y)[j] = dy at hcj hbd2 hg2
   have hcz:=xK hp 0 rfl hv (fun _=>rfl) (List.getElem?_eq_getElem hijz) 0 _ rfl
   have hzo:=hzb.get hijz
   have hset:=fun d=>qBk 4294967296 z (i + j) d hijz
   generalize z[i + j] = old at hcz hzo hset
   have hfit:=qTl hcy hbd hbd2 hzo
   have hmul:dx * dy < 18446744073709551616:=by omega
   (repeat (first|(with_reducible first|apply qF|apply qK|apply qA|apply qE|apply qB|apply qL)|(apply wlp;((first|apply qC|apply qD|(apply qJ;exact rfl)|(apply qR;exact rfl)|exact zN rfl rfl rfl (by assumption))<;>(first|exact rfl|assumption|exact hp.old0 (by assumption)));(first|exact fI rfl|exact fP rfl))))
   (apply wlp;exact qB4 rfl rfl hmul;exact fI rfl)
   (repeat (apply wlp;apply qC;(first|exact fI rfl|exact fS rfl)))
   (apply wlp;(exact qY rfl rfl);exact qI (b:=((i + j:Nat):Int)) (by rw [qN (by omega) (by omega)];omega))
   (repeat (apply wlp;((first|(apply qJ;exact rfl)|(apply qR;exact rfl)|exact zN rfl rfl rfl (by assumption))<;>(first|exact rfl|assumption));(first|exact fI rfl|exact fP rfl)))
   (apply wlp;exact uA rfl rfl (by omega);exact fI rfl)
   (apply wlp;exact uA rfl rfl (by omega);exact fI rfl)
   (repeat (first|(with_reducible first|apply qF|apply qA|apply qE|apply qB)|(apply wlp;(first|apply qC|apply qD);(first|exact fI rfl|exact fS rfl))))
   (apply wlp;(exact qY rfl rfl);exact qI (b:=((i + j:Nat):Int)) (by rw [qN (by omega) (by omega)];omega))
   (repeat (apply wlp;((first|apply qC|(apply qR;exact rfl)|exact xM rfl rfl rfl)<;>(first|exact rfl|assumption));(first|exact fI rfl|exact fP rfl)))
   (apply zG;exact xO eW z (i + j) _ hp 0 rfl hv hijz rfl rfl (fun _=>rfl) rfl rfl (qQ rfl);rintro _ w4 ⟨rfl,hp⟩)
   (repeat (first|(with_reducible first|apply qA|apply qE|apply qB)|(apply wlp;apply qC;exact fI rfl)))
   (apply wlp;exact xA (b:=32) rfl rfl (by decide);exact fI rfl)
   (repeat (first|(with_reducible first|apply qA|apply qE|apply qB|apply qZ)|(apply wlp;apply qD;exact fI rfl)))
   (apply wlp;exact qY rfl rfl;exact qI (qN (by omega) (by omega)))
   (repeat (first|(with_reducible first|apply qE|apply qB)|(apply wlp;apply qC;exact fI rfl)))
   refine ⟨j + 1,_,_,qG (qG (Same.eq (by repeat (first|exact Same.hav|exact Same.refl|refine Same.put rfl ?_|refine Same.havs rfl ?_))) rfl) rfl,⟨by omega,?_,?_,?_,?_,?_,hv.set _ _,hp⟩,by omega⟩
   ·rw [List.length_set,hzl]
   ·exact hzb.set (by omega)
   ·omega
   ·exact qPl hval (by rw [← hg2];omega) (hset _)
   ·rw [List.getElem?_set_ne (by omega)]
    exact htop
  ·obtain rfl:j = (dN y).length:=by omega
   have hij:i + (dN y).length < (dN x).length + (dN y).length:=by omega
   have hijz:i + (dN y).length < z.length:=by omega
   (repeat (first|(with_reducible first|apply qA|apply qB|apply qO|apply jB)|((with_reducible apply qP);exact rfl)|(apply wlp;((first|apply qC|(apply jC;exact rfl))<;>exact rfl);(first|exact fI rfl|exact fS rfl))))
   (apply wlp;(exact qY rfl rfl);exact qI (b:=((i + (dN y).length:Nat):Int)) (by rw [qN (by omega) (by omega)];omega))
   (repeat (apply wlp;((first|apply qC|(apply qR;exact rfl)|exact xM rfl rfl rfl)<;>(first|exact rfl|assumption));(first|exact fI rfl|exact fP rfl)))
   (apply zG;exact xO eW z (i + (dN y).length) _ hp 0 rfl hv hijz rfl rfl (fun _=>rfl) rfl rfl (qQ rfl);rintro _ w4 ⟨rfl,hp⟩)
   (repeat (with_reducible first|apply qA|apply qE|apply qB|apply qZ))
   (apply wlp;exact qY rfl rfl;exact qI (qN (by omega) (by omega)))
   (repeat (first|(with_reducible first|apply qE|apply qB)|(apply wlp;apply qC;exact fI rfl)))
   refine ⟨i + 1,_,qG (Same.eq (by repeat (first|exact Same.hav|exact Same.refl|refine Same.put rfl ?_|refine Same.havs rfl ?_))) rfl,⟨by omega,?_,?_,?_,hv.set _ _,hp⟩,by omega⟩
   ·rw [List.length_set,hzl]
   ·exact hzb.set (by omega)
   ·have h1:=qBk 4294967296 z (i + (dN y).length) (cy % 4294967296) hijz
    have h0:z[i + (dN y).length] = 0:=by
     rw [List.getElem?_eq_getElem hijz] at htop
     simpa using htop
    rw [h0,Nat.mul_zero,Nat.add_zero,Nat.mod_eq_of_lt hcy,Nat.mul_comm (4294967296 ^ _) cy,hval,Nat.mod_eq_of_lt (uK (Nat.le_refl (dN y).length))] at h1
    rw [Nat.mod_eq_of_lt hcy,h1,qTk,← hg]
 ·obtain rfl:i = (dN x).length:=by omega
  rw [Nat.mod_eq_of_lt (uK (Nat.le_refl _))] at hval
  (repeat (first|(with_reducible first|apply qF|apply qA|apply qB|apply qO|apply jB)|((with_reducible apply qP);exact rfl)|(apply wlp;apply qC;exact fS rfl)))
  (apply wls;exact qH rfl qCg (by rw [hzl];rfl) (qNq hp hv (by unfold maxLen;omega) hzb hval);rintro _ w2 ⟨s',c',rfl,hd,hk⟩)
  (repeat (first|(with_reducible first|apply qE|apply qB|apply qT)|(apply wlp;apply qD;exact fS rfl)))
  exact qU rfl rfl ⟨_,rfl,s',c',rfl,hd,hk⟩
end Go.Proofs.YtbgldmoikimmpaaGreatDoor
namespace Go.Proofs.YtbgldmoikimmpaaGreatDoor
open Go.Eng Go.Dig
def bs (l:List Nat):ByteArray:=⟨(l.map UInt8.ofNat).toArray⟩
theorem qPf (n:Nat):ofN n = bs (jT 256 n).reverse:=rfl
theorem qDf (l:List Nat):(bs l).size = l.length:=by
 show ((l.map UInt8.ofNat).toArray).size = _
 simp
theorem jBd {l:List Nat} (h:Bd 256 l) {i:Nat} (hi:i < l.length):bAt (bs l) i = (l[i]:Int):=by
 have h1:=h.get hi
 unfold bAt bs
 simp only [List.getElem?_map,List.getElem?_eq_getElem hi,Option.map_some,Option.getD_some]
 simp
 omega
theorem qUe (l:List Nat) (k:Nat):(bs l).extract k (bs l).size = bs (l.drop k):=by
 apply ByteArray.ext
 rw [ByteArray.data_extract,qDf]
 apply Array.ext'
 simp [bs]
 rw [List.take_of_length_le (by simp)]
theorem qZ2 {l:List Nat}:bs l = ⟨#[]⟩ ↔ l = []:=by
 constructor
 ·intro h
  have:=congrArg ByteArray.size h
  rw [qDf] at this
  exact List.eq_nil_of_length_eq_zero this
 ·rintro rfl;rfl
theorem qIh (ns:List Int):∀ r:ByteArray,(ns.foldl (fun r n=>r.push (UInt8.ofNat n.toNat)) r).data = r.data ++ (ns.map fun n=>UInt8.ofNat n.toNat).toArray:=by
 induction ns with
 | nil=>intro r;simp
 | cons n ns ih=>
  intro r
  rw [List.foldl_cons,ih,ByteArray.data_push]
  simp
theorem qFw (l:List Nat):kX (l.map fun (d:Nat)=>(d:Int)) = bs l:=by
 apply ByteArray.ext
 unfold kX
 rw [qIh]
 simp [bs]
theorem qCq {x m:Nat} (h:x < 256 ^ m):(dg 256 x m).reverse.dropWhile (· == 0) = (jT 256 x).reverse:=by
 rw [← qSj (b:=256) (by decide) h]
 simp [yZ]
section
variable {n:Nat} {F:Fr} {w:World} {d:Option Tmp} {ty:TypeId} {pos:String} {aft:Array Edge} {g:Option (Nat × Bool)} {x y:Operand}
theorem qFb {t k:Nat} {q:IntKind} {l:List Nat} (ht:qBz t = true) (hx:ev n F x = .string (bs l)) (hy:ev n F y = .int q k) (hl:k≤l.length) :
  PV Tryz.prog n w F ⟨d,.slice t x (some y) none none,ty,pos,aft,g⟩ (.string (bs (l.drop k))):=by
 rw [← qUe]
 exact qIy (vT ht) hx hy (by rw [qDf];exact hl)
theorem qFc {t i:Nat} {l:List Nat} {k:IntKind} (h:qBz t = true) (hx:ev n F x = .string (bs l)) (hy:ev n F y = .int k i) (hb:Bd 256 l) (hi:i < l.length):PV Tryz.prog n w F ⟨d,.index t x y,ty,pos,aft,g⟩ (.int .u8 (l[i]:Int)):=by
 rw [← jBd hb hi]
 exact zY h hx hy (by rw [qDf];exact hi)
theorem kL {q p:Nat} {l:List Nat} (h:qBz p = true) (hx:ev n F x = .string (bs l)):PV Tryz.prog n w F ⟨d,.call ⟨.builtin .len,#[x],#[p]⟩,q,pos,aft,g⟩ (.int .i64 l.length):=by
 have:=xP (q:=q) (w:=w) (d:=d) (pos:=pos) (aft:=aft) (g:=g) h hx
 rwa [qDf] at this
end
theorem qGc {l:List Nat} (h:l ≠ []) (h0:l[0]'(List.length_pos_iff.2 h) = 0):l.dropWhile (· == 0) = (l.drop 1).dropWhile (· == 0):=by
 cases l with
 | nil=>exact absurd rfl h
 | cons a l=>
  simp at h0
  subst h0
  simp
theorem qGd {l:List Nat} (h:l ≠ []) (h0:l[0]'(List.length_pos_iff.2 h) ≠ 0):l.dropWhile (· == 0) = l:=by
 cases l with
 | nil=>exact absurd rfl h
 | cons a l=>
  simp at h0
  simp [h0]
attribute [local irreducible] PV StepF wpl wpd WP Ret
theorem c93 (l:List Nat) (w:World) (hb:Bd 256 l) (hl:l.length≤9223372036854775807) :
  Ret Tryz.prog 312 [.string (bs l),.int .u8 0] w (fun v w'=>v = .string (bs (l.dropWhile (· == 0)))∧Keeps [] w w'):=by
 refine Ret.of_WP Tryz.func312 rfl Tryz.ntmps312 rfl ?_
 have hp:=Hp.start (M:=[]) (w:=w)
 (repeat (first|(with_reducible first|apply qF|apply qK|apply qA|apply qE|apply qB)|(apply wlp;apply qD;exact fT rfl)))
 refine jE [0,5,6,7,8,9,10,11,12,13,14,15] (fun (m:List Nat) F=>F.put 0 (.string (bs m))) (fun m w'=>Bd 256 m∧m.length≤9223372036854775807∧m.dropWhile (· == 0) = l.dropWhile (· == 0)∧Hp w [] w' []) (fun m=>m.length) l (qG (Same.eq .refl) rfl) ⟨hb,hl,rfl,hp⟩ ?_
 clear hp hb hl
 rintro u m w1 ⟨hb,hl,he,hp⟩
 rw [← he]
 clear he
 by_cases h0:m = []
 ·subst h0
  (repeat (with_reducible first|apply qF|apply qA))
  (apply wlp;apply qC;exact fT rfl)
  (apply wlp;exact kL rfl rfl;exact fI rfl)
  (apply wlp;exact zA rfl rfl;exact jF (b:=false) (decide_eq_false (by simp)))
  (repeat (first|(with_reducible first|apply qE|apply qB)|(apply wlp;(intros;(first|apply qC|exact vX rfl));(intros;exact fB rfl))|(apply vS;exact rfl;exact rfl;exact rfl)|(apply vR;exact rfl;exact rfl)))
  refine jI rfl ?_
  (repeat (first|(with_reducible first|apply qF|apply qA|apply qE|apply qB|apply qO|apply qT|apply jB)|((with_reducible apply qP);exact rfl)|(apply wlp;(first|apply qC|apply qD);exact fT rfl)))
  exact qU rfl rfl ⟨_,rfl,rfl,hp.keeps⟩
 ·have hpos:0 < m.length:=List.length_pos_iff.2 h0
  (repeat (with_reducible first|apply qF|apply qA))
  (apply wlp;apply qC;exact fT rfl)
  (apply wlp;exact kL rfl rfl;exact fI rfl)
  (apply wlp;(exact zA rfl rfl);exact jF (b:=true) (decide_eq_true (by omega)))
  (repeat (first|(apply wlp;(intros;((first|apply qC|apply zY)<;>exact rfl));(intros;(first|exact fB rfl|exact fT rfl)))|((apply jO;exact rfl;exact rfl);(((first|apply qC|apply zY)<;>exact rfl));(intros;(first|exact fB rfl|exact fT rfl)))|(apply vS;exact rfl;exact rfl;exact rfl)|(apply vR;exact rfl;exact rfl)))
  (apply jO;exact rfl;exact rfl;exact qFc (i:=0) rfl rfl rfl hb hpos;exact fI rfl)
  (repeat (first|(with_reducible first|apply qE|apply qB)|(apply wlp;(intros;((first|apply qC|exact zM rfl rfl|(apply zF;(first|exact rfl|exact jR rfl (by assumption))))<;>exact rfl));(intros;(first|exact fI rfl|exact fB rfl)))|((apply jO;exact rfl;exact rfl);(((first|apply qC|exact zM rfl rfl|(apply zF;(first|exact rfl|exact jR rfl (by assumption))))<;>exact rfl));(intros;(first|exact fI rfl|exact fB rfl)))|(apply vS;exact rfl;exact rfl;exact rfl)|(apply vR;exact rfl;exact rfl)))
  refine qM rfl (fun h=>?_) (fun h=>?_)
  ·have hz:m[0] = 0:=by omega
   (repeat (first|(with_reducible first|apply qK|apply qA|apply qB|apply qL)|(apply wlp;apply qC;exact fT rfl)))
   (apply wlp;exact qFb (k:=1) rfl rfl rfl (by omega);exact fT rfl)
   (repeat (first|(with_reducible first|apply qE|apply qB|apply qZ)|(apply wlp;apply qD;exact fT rfl)))
   exact ⟨m.drop 1,qG (Same.eq (by repeat (first|exact Same.hav|exact Same.refl|refine Same.put rfl ?_|refine Same.havs rfl ?_))) rfl,⟨hb.drop 1,by simp;omega,(qGc h0 hz).symm,hp⟩,by simp;omega⟩
  ·have hz:m[0] ≠ 0:=by omega
   (repeat (first|(with_reducible first|apply qF|apply qA|apply qE|apply qB|apply qO|apply qT|apply jB)|((with_reducible apply qP);exact rfl)|(apply wlp;(first|apply qC|apply qD);exact fT rfl)))
   refine qU rfl rfl ⟨_,rfl,?_,hp.keeps⟩
   rw [qGd h0 hz]
   rfl
theorem c87 (l:List Nat) (w:World) (hb:Bd 256 l) (hl:l.length≤9223372036854775807) :
  Ret Tryz.prog 256 [.string (bs l),.string ⟨#[0]⟩] w (fun v w'=>v = .string (bs (l.dropWhile (· == 0)))∧Keeps [] w w'):=by
 refine Ret.of_WP Tryz.func256 rfl Tryz.ntmps256 rfl ?_
 have hp:=Hp.start (M:=[]) (w:=w)
 by_cases h0:l = []
 ·subst h0
  (repeat (with_reducible first|apply qF|apply qA))
  (repeat (first|(with_reducible first|apply qF|apply qA|apply qE|apply qB)|(apply wlp;(intros;((first|apply qC|apply qD|exact qOs rfl|(apply uO;(first|exact rfl|exact jR rfl (by assumption))))<;>exact rfl));(intros;(first|exact fB rfl|exact fT rfl)))|(apply vS;exact rfl;exact rfl;exact rfl)|(apply vR;exact rfl;exact rfl)))
  refine yI rfl ?_
  (repeat (first|(with_reducible first|apply qF|apply qA|apply qE|apply qB|apply jV|apply qT)|(apply wlp;(first|apply qC|apply qD);exact fT rfl)))
  exact qU rfl rfl ⟨_,rfl,rfl,hp.keeps⟩
 ·have hne:¬ bs l = ⟨#[]⟩:=fun e=>h0 (qZ2.1 e)
  (repeat (with_reducible first|apply qF|apply qA))
  (apply wlp;apply qD;exact fT rfl)
  (repeat (with_reducible first|apply qF|apply qA|apply qE|apply qB))
  (apply wlp;apply qC;exact fT rfl)
  (apply wlp;exact uO rfl rfl;exact jF (b:=false) (decide_eq_false hne))
  (repeat (first|(with_reducible first|apply qE|apply qB)|(apply wlp;(intros;((first|apply qC|exact jU rfl rfl|(apply uO;(first|exact rfl|exact jR rfl (by assumption))))<;>exact rfl));(intros;(first|exact fB rfl|exact fT rfl)))|((apply jO;exact rfl;exact rfl);(((first|apply qC|exact jU rfl rfl|(apply uO;(first|exact rfl|exact jR rfl (by assumption))))<;>exact rfl));(intros;(first|exact fB rfl|exact fT rfl)))|(apply vS;exact rfl;exact rfl;exact rfl)|(apply vR;exact rfl;exact rfl)))
  refine jI rfl ?_
  (repeat (with_reducible first|apply qF|apply qA|apply qB|apply qL))
  (apply wlp;apply qC;exact fT rfl)
  (apply wlp;((apply xP;exact rfl)<;>exact rfl);exact fI rfl)
  (apply wlp;exact zF rfl rfl;exact jF (b:=true) (decide_eq_true rfl))
  (apply wlp;apply qC;exact fB rfl)
  ((apply jO;exact rfl;exact rfl);(apply qC);(intros;exact fT rfl))
  (apply jO;exact rfl;exact rfl;exact qFc (l:=[0]) (i:=0) rfl rfl rfl (.cons (by decide) .nil) (by decide);exact fI rfl)
  (apply jO;exact rfl;exact rfl;exact jA rfl rfl;exact jF (b:=true) rfl)
  (repeat (first|(with_reducible first|apply qE|apply qB)|(apply wlp;(intros;exact zM rfl rfl);(intros;exact fB rfl))|(apply vS;exact rfl;exact rfl;exact rfl)|(apply vR;exact rfl;exact rfl)))
  refine yI rfl ?_
  (repeat (with_reducible first|apply qF|apply qA))
  (apply wlp;apply qC;exact fT rfl)
  (apply wlp;apply qC;exact fT rfl)
  (apply wlp;exact qFc (l:=[0]) (i:=0) rfl rfl rfl (.cons (by decide) .nil) (by decide);exact qI (b:=0) rfl)
  (apply wls;exact qH rfl qX2 rfl (c93 l _ hb hl))
  rintro _ w2 ⟨rfl,hk⟩
  have hp:=hp.call hk
  (repeat (first|(with_reducible first|apply qE|apply qB|apply jV|apply qT)|(apply wlp;apply qD;exact fT rfl)))
  exact qU rfl rfl ⟨_,rfl,rfl,hp.keeps⟩
theorem c65 (l:List Nat) (w:World) (hb:Bd 256 l) (hl:l.length≤9223372036854775807) :
  Ret Tryz.prog 178 [.string (bs l)] w (fun v w'=>v = .string (bs (l.dropWhile (· == 0)))∧Keeps [] w w'):=by
 refine Ret.of_WP Tryz.func178 rfl Tryz.ntmps178 rfl ?_
 have hp:=Hp.start (M:=[]) (w:=w)
 (repeat (first|(with_reducible first|apply qF|apply qA|apply qE|apply qB)|(apply wlp;(first|apply qC|apply qD);exact fT rfl)))
 (apply wls;exact qH rfl qXc rfl (c87 l _ hb hl))
 rintro _ w2 ⟨rfl,hk⟩
 have hp:=hp.call hk
 (repeat (first|(with_reducible first|apply qE|apply qB|apply qT)|(apply wlp;apply qD;exact fT rfl)))
 exact qU rfl rfl ⟨_,rfl,rfl,hp.keeps⟩
end Go.Proofs.YtbgldmoikimmpaaGreatDoor
namespace Go.Proofs.YtbgldmoikimmpaaGreatDoor
open Go.Eng Go.Dig
theorem vO {i:Nat} (k:Nat) (h:i≤9223372036854775807):IntKind.i64.wrap ((i:Int).tdiv (k:Int)) = ((i / k:Nat):Int):=by
 rw [Int.tdiv_eq_ediv_of_nonneg (by omega),← Int.natCast_ediv]
 have h1:((i / k:Nat):Int)≤(i:Int):=Int.ofNat_le.2 (Nat.div_le_self i k)
 have h0:(0:Int)≤((i / k:Nat):Int):=Int.natCast_nonneg _
 generalize ((i / k:Nat):Int) = q at h0 h1
 exact qN (by omega) (by omega)
theorem yP (i k:Nat):(i:Int).tmod (k:Int) = ((i % k:Nat):Int):=by
 rw [Int.tmod_eq_emod_of_nonneg (by omega),← Int.natCast_emod]
theorem qO3 {b:Nat} {l:List Nat} {q:Nat} (h:q < l.length):b ^ q * l[q]≤val b l:=by
 have h1:=kV b l q (by omega)
 rw [List.drop_eq_getElem_cons h,val,Nat.mul_add] at h1
 omega
theorem qKl (i:Nat):256 ^ i = 4294967296 ^ (i / 4) * 2 ^ (8 * (i % 4)):=by
 conv=>lhs;rw [← Nat.div_add_mod i 4,Nat.pow_add,Nat.pow_mul]
 rw [Nat.pow_mul 2 8]
theorem jBn {r:Nat} (h:r < 4):2 ^ (8 * r)≤16777216:=by
 have:2 ^ (8 * r)≤2 ^ 24:=Nat.pow_le_pow_right (by decide) (by omega)
 simpa using this
theorem qRo {r d:Nat} (hr:r < 4) (hd:d < 256):(d + 1) * 2 ^ (8 * r)≤4294967296:=by
 have h1:=jBn hr
 have h2:(d + 1) * 2 ^ (8 * r)≤256 * 16777216:=Nat.mul_le_mul (by omega) h1
 omega
theorem qZ6 {x i:Nat} (h:i < (jT 256 x).length) (h2:(jT 256 x).length - 1 - i < (jT 256 x).reverse.length):(jT 256 x).reverse[(jT 256 x).length - 1 - i] = x / 256 ^ i % 256:=by
 rw [List.getElem_reverse,← qFs (b:=256) (by decide) h]
 congr 1
 omega
theorem Bd.rev {b:Nat} {l:List Nat} (h:Bd b l):Bd b l.reverse:=fun d hd=>h d (by simpa using hd)
def NS (st:ByteArray) (x:Nat):Prop:=∃ br:List Nat,st = bs br∧Bd 256 br∧br.length≤100000∧x = val 256 br.reverse
theorem NS.self' {x:Nat} (hl:(jT 256 x).length≤100000):NS (ofN x) x:=
 ⟨(jT 256 x).reverse,qPf x,Bd.rev (vC (b:=256) (by decide) x),by rw [List.length_reverse];exact hl,by rw [List.reverse_reverse,yR (by decide)]⟩
theorem jBe {br:List Nat} {x n i:Nat} (hb:Bd 256 br) (hn:br.length = n) (hx:x = val 256 br.reverse) (hi:i < n) (h2:n - 1 - i < br.length):br[n - 1 - i] = x / 256 ^ i % 256:=by
 have h:=uU (Bd.rev hb)
 rw [← hx,List.length_reverse,hn] at h
 have h3:=qDr 256 n x i hi
 rw [← h,List.getElem?_eq_getElem (by simp;omega),List.getElem_reverse] at h3
 injection h3 with h3
 rw [← h3]
 congr 1
 omega
attribute [local irreducible] PV StepF wpl wpd WP Ret
theorem qZ1 (st:ByteArray) (x:Nat) (w:World) (hst:NS st x) :
  Ret Tryz.prog 168 [.string st] w (fun v w'=>∃ s' c',v = .slice s' (dN x).length c'∧DA w' x s' c'∧Keeps [] w w'):=by
 obtain ⟨br,rfl,hb8,hl,hxv⟩:=hst
 obtain ⟨n,hrl⟩:∃ n,br.length = n:=⟨_,rfl⟩
 have hx:x < 256 ^ n:=by
  rw [hxv,← hrl,← List.length_reverse]
  exact yL (Bd.rev hb8)
 have hby:∀ {i:Nat},i < n→∀ (h2:n - 1 - i < br.length),br[n - 1 - i] = x / 256 ^ i % 256:=fun hi h2=>jBe hb8 hrl hxv hi h2
 rw [hrl] at hl
 clear hxv
 obtain ⟨m,hm⟩:∃ m,m = (n + 3) / 4:=⟨_,rfl⟩
 refine Ret.of_WP Tryz.func168 rfl Tryz.ntmps168 rfl ?_
 have hp:=Hp.start (M:=[]) (w:=w)
 (repeat (with_reducible first|apply qF|apply qA))
 (apply wlp;apply qD;exact fS rfl)
 (repeat (with_reducible first|apply qF|apply qA|apply qE|apply qB))
 (apply wlp;apply qC;exact fT rfl)
 (apply wlp;exact kL rfl rfl;exact qI (b:=(n:Int)) (by rw [hrl]))
 (apply wlp;(exact qY rfl rfl);exact qI (b:=((n + 3:Nat):Int)) (by rw [qN (by omega) (by omega)];omega))
 (apply wlp;exact yV rfl rfl (by decide);exact qI (b:=(m:Int)) (by rw [hm];exact vO 4 (by omega)))
 (apply wls;exact vL eW 0 hp rfl rfl rfl rfl rfl rfl rfl (by omega) rfl;rintro _ w2 ⟨g,rfl,hv,hp⟩)
 (apply wlp;apply qD;exact fS rfl)
 (repeat (with_reducible first|apply qF|apply qA|apply qE|apply qB))
 (apply wlp;apply qC;exact fT rfl)
 (apply wlp;exact kL rfl rfl;exact qI (b:=(n:Int)) (by rw [hrl]))
 (repeat (first|(with_reducible first|apply qK|apply qE|apply qB)|(apply wlp;apply qC;exact fI rfl)))
 refine uF [4,12,13,14,15,16,17,18,19,20,21,22,23,24,25,26,27,28,29,30,31,32,33,34] (fun (i:Nat) (_z:List Nat) F=>F.put 12 (.int .i64 i))
  (fun i z w'=>i≤n∧z.length = m∧Bd 4294967296 z∧val 4294967296 z = x % 256 ^ i∧SVL (some ⟨g,0,none⟩) m z∧Hp w [] w' [qW eW 242 1 (some ⟨g,0,none⟩) m z])
  (fun i _=>n - i) 0 (List.replicate m 0) (qG (Same.eq .refl) rfl) ⟨Nat.zero_le _,by simp,uV (by decide) _,by simp [qBj,Nat.mod_one],hv,hp⟩ ?_
 clear hp hv
 rintro u i z w3 ⟨hi,hzl,hzb,hval,hv,hp⟩
 (repeat (first|(with_reducible first|apply qF|apply qA|apply qE|apply qB)|(apply wlp;(apply jA<;>exact rfl);exact fB rfl)))
 refine qM rfl (fun h2=>?_) (fun h2=>?_)
 ·have hlt:i < n:=by omega
  have him:i / 4 < m:=by omega
  have hiz:i / 4 < z.length:=by omega
  have hr:i % 4 < 4:=by omega
  have hni:n - 1 - i < br.length:=by omega
  have hcz:=xK hp 0 rfl hv (fun _=>rfl) (List.getElem?_eq_getElem hiz) 0 _ rfl
  have hge:=qO3 (b:=4294967296) hiz
  have hzo:=hzb.get hiz
  have hset:=fun d=>qBk 4294967296 z (i / 4) d hiz
  have hd:=hby hlt hni
  have hdb:=hb8.get hni
  generalize hq:z[i / 4] = old at hcz hge hzo hset
  generalize hbr:br[n - 1 - i] = dd at hd hdb
  have hold:old < 2 ^ (8 * (i % 4)):=by
   have h1:val 4294967296 z < 256 ^ i:=by rw [hval];exact Nat.mod_lt _ (Nat.pow_pos (by decide))
   rw [qKl] at h1
   exact Nat.lt_of_mul_lt_mul_left (Nat.lt_of_le_of_lt hge h1)
  have hfit:=qRo hr hdb
  have hsh:dd * 2 ^ (8 * (i % 4)) < 4294967296:=by
   rw [Nat.add_mul] at hfit
   omega
  have hnew:old + dd * 2 ^ (8 * (i % 4)) < 4294967296:=by
   rw [Nat.add_mul] at hfit
   omega
  (repeat (first|(with_reducible first|apply qF|apply qK|apply qA|apply qE|apply qB|apply qL)|(apply wlp;(first|apply qC|apply qD);exact fI rfl)))
  refine xH jW (by kernel_rfl) (fun w'=>Hp w [] w' [qW eW 242 1 (some ⟨g,0,none⟩) m z]) hp.drew ?_
  have hp:=hp.drew
  (repeat ((apply wdp;exact rfl);(intro w hp;intros;apply qC);(intros;(first|exact fI rfl|exact fS rfl))))
  (apply wdp;exact rfl;(intro w hp;exact yV rfl rfl (by decide));exact qI (b:=((i / 4:Nat):Int)) (vO 4 (by omega)))
  (apply wdp;exact rfl;(intro w hp;exact qR rfl rfl rfl rfl him);exact fP rfl)
  (apply wdp;exact rfl;(intro w hp;exact qJ rfl rfl (xK hp 0 rfl hv (fun _=>rfl) (List.getElem?_eq_getElem hiz) 0 _ rfl));exact qI (b:=(old:Int)) (by rw [hq]))
  (apply wdp;exact rfl;(intro w hp;exact qC);exact fT rfl)
  (apply wdp;exact rfl;(intro w hp;exact qC);exact fT rfl)
  (apply wdp;exact rfl;(intro w hp;exact kL rfl rfl);exact qI (b:=(n:Int)) (by rw [hrl]))
  (apply wdp;exact rfl;(intro w hp;exact jN rfl rfl);exact qI (b:=((n - 1:Nat):Int)) (by rw [qN (by omega) (by omega)];omega))
  (repeat ((apply wdp;exact rfl);(intro w hp;intros;apply qC);(intros;exact fI rfl)))
  (apply wdp;exact rfl;(intro w hp;exact jN rfl rfl);exact qI (b:=((n - 1 - i:Nat):Int)) (by rw [qN (by omega) (by omega)];omega))
  (apply wdp;exact rfl;(intro w hp;exact qFc rfl rfl rfl hb8 hni);exact qI (b:=(dd:Int)) (by rw [hbr]))
  (apply wdp;exact rfl;(intro w hp;exact xM rfl rfl rfl);exact qI (b:=(dd:Int)) (by omega))
  (repeat ((apply wdp;exact rfl);(intro w hp;intros;apply qC);(intros;exact fI rfl)))
  (apply wdp;exact rfl;(intro w hp;exact yU rfl rfl (by decide));exact qI (b:=((i % 4:Nat):Int)) (yP i 4))
  (apply wdp;exact rfl;(intro w hp;exact xU rfl rfl);exact qI (b:=((8 * (i % 4):Nat):Int)) (by rw [qN (by omega) (by omega)];omega))
  (apply wdp;exact rfl;(intro w hp;exact wC rfl rfl (by omega));exact qI (b:=((dd * 2 ^ (8 * (i % 4)):Nat):Int)) (by rw [Nat.mod_eq_of_lt hsh]))
  (apply wdp;exact rfl;(intro w hp;exact qHn rfl rfl hzo hsh);exact qI (b:=((old + dd * 2 ^ (8 * (i % 4)):Nat):Int)) (by rw [qCc hold]))
  (apply wdp;exact rfl;(intro w hp;exact qR rfl rfl rfl rfl him);exact fP rfl)
  (apply kH;exact rfl;exact rfl;exact xO eW z (i / 4) _ hp 0 rfl hv hiz rfl rfl (fun _=>rfl) rfl rfl (qQ rfl);rintro _ w4 ⟨rfl,hp⟩)
  refine jL ?_
  (repeat (with_reducible first|apply qA|apply qB|apply qZ))
  (apply wlp;exact qY rfl rfl;exact qI (qN (by omega) (by omega)))
  (repeat (first|(with_reducible first|apply qE|apply qB)|(apply wlp;apply qC;exact fI rfl)))
  refine ⟨i + 1,_,qG (Same.eq (by repeat (first|exact Same.hav|exact Same.refl|refine Same.put rfl ?_|refine Same.havs rfl ?_))) rfl,⟨by omega,?_,hzb.set hnew,?_,hv.set _ _,hp⟩,by omega⟩
  ·rw [List.length_set,hzl]
  ·have h1:=hset (old + dd * 2 ^ (8 * (i % 4)))
   rw [Nat.mul_add,hval] at h1
   rw [xX 256 x i,← hd]
   have h3:256 ^ i * dd = 4294967296 ^ (i / 4) * (dd * 2 ^ (8 * (i % 4))):=by rw [qKl];ac_rfl
   omega
 ·obtain rfl:i = n:=by omega
  rw [Nat.mod_eq_of_lt hx] at hval
  (repeat (first|(with_reducible first|apply qF|apply qA|apply qB|apply qO|apply jB)|((with_reducible apply qP);exact rfl)|(apply wlp;apply qC;exact fS rfl)))
  (apply wls;exact qH rfl qCg (by rw [hzl];rfl) (qNq hp hv (by unfold maxLen;omega) hzb hval);rintro _ w2 ⟨s',c',rfl,hd,hk⟩)
  (repeat (first|(with_reducible first|apply qE|apply qB|apply qT)|(apply wlp;apply qD;exact fS rfl)))
  exact qU rfl rfl ⟨_,rfl,s',c',rfl,hd,hk⟩
theorem c45 (x:Nat) (w:World) (hl:(jT 256 x).length≤100000) :
  Ret Tryz.prog 168 [.string (ofN x)] w (fun v w'=>∃ s' c',v = .slice s' (dN x).length c'∧DA w' x s' c'∧Keeps [] w w'):=qZ1 (ofN x) x w (NS.self' hl)
end Go.Proofs.YtbgldmoikimmpaaGreatDoor
namespace Go.Proofs.YtbgldmoikimmpaaGreatDoor
open Go.Eng Go.Dig
def eB (d:Nat):List Value:=[.int .u8 (d:Int)]
theorem qEk (b m:Nat):∀ n,dg b n (m + 1) = dg b n m ++ [n / b ^ m % b]:=by
 induction m with
 | zero=>intro n;simp [dg]
 | succ m ih=>
  intro n
  rw [dg,ih,Nat.div_div_eq_div_mul,Nat.pow_succ,Nat.mul_comm b]
  rfl
theorem qJl {l:List Nat} {k d:Nat} (h:k < l.length):(l.set k d).drop k = d :: l.drop (k + 1):=by
 rw [List.drop_eq_getElem_cons (by simpa using h),List.drop_set_of_lt (by omega)]
 simp
theorem qUd (x i:Nat):x / 4294967296 ^ (i / 4) % 4294967296 / 2 ^ (8 * (i % 4)) % 256 = x / 256 ^ i % 256:=by
 have hr:i % 4 < 4:=Nat.mod_lt _ (by decide)
 have e:4294967296 = 2 ^ (8 * (i % 4)) * 2 ^ (8 * (4 - i % 4)):=by
  rw [← Nat.pow_add,show 8 * (i % 4) + 8 * (4 - i % 4) = 32 from by omega]
 have h1:x / 4294967296 ^ (i / 4) % 4294967296 / 2 ^ (8 * (i % 4)) = x / 4294967296 ^ (i / 4) / 2 ^ (8 * (i % 4)) % 2 ^ (8 * (4 - i % 4)):=by
  conv=>lhs;arg 1;arg 2;rw [e]
  exact Nat.mod_mul_right_div_self _ _ _
 have h2:256 ∣ 2 ^ (8 * (4 - i % 4)):=by
  rw [show (256:Nat) = 2 ^ 8 from rfl]
  exact Nat.pow_dvd_pow 2 (by omega)
 rw [h1,Nat.mod_mod_of_dvd _ h2,Nat.div_div_eq_div_mul,← qKl]
section
variable {n:Nat} {w0 w:World} {M:List Nat} {L:List Ent} {F:Fr} {d:Option Tmp} {ty:TypeId} {pos:String} {aft:Array Edge} {g:Option (Nat × Bool)} {x:Operand}
theorem qEg {t t' b m:Nat} {z:List Nat} {c:Nat} (hp:Hp w0 M w L) (ht:qC8 t = some (5,1)) (ht':qBz t' = true) (hx:ev n F x = .slice (some ⟨b,0,none⟩) m c) (hl:z.length = m) (hi:L[0]? = some (qW eB 5 1 (some ⟨b,0,none⟩) c z)) (hv:SVL (some ⟨b,0,none⟩) c z) :
  PV Tryz.prog n w F ⟨d,.convert t t' x,ty,pos,aft,g⟩ (.string (bs z)):=by
 rw [← qFw]
 refine qOy (xT ht).1 (qB9 rfl) (vT ht') hx (by simpa using hl) ?_
 intro j v hj
 simp only [List.map_map,List.getElem?_map,Option.map_eq_some_iff] at hj
 obtain ⟨q,hq,rfl⟩:=hj
 have:=xK hp 0 hi hv (fun _=>rfl) hq 0 _ rfl
 simpa using this
end
attribute [local irreducible] PV StepF wpl wpd WP Ret
theorem c38 (x:Nat) (s:Option Addr) (c:Nat) (w:World) (hd:DA w x s c) (hl:(dN x).length≤100000) :
  Ret Tryz.prog 170 [.slice s (dN x).length c] w (fun v w'=>v = .string (ofN x)∧Keeps [] w w'):=by
 have hx:=uK (Nat.le_refl (dN x).length)
 obtain ⟨m,hm⟩:∃ m,m = 4 * (dN x).length:=⟨_,rfl⟩
 have hx8:x < 256 ^ m:=by
  rw [hm,Nat.pow_mul]
  exact hx
 refine Ret.of_WP Tryz.func170 rfl Tryz.ntmps170 rfl ?_
 have hp:=Hp.start (M:=[]) (w:=w)
 (repeat (first|(with_reducible first|apply qF|apply qA|apply qE|apply qB)|(apply wlp;((first|apply qC|apply qD|(apply jC;exact rfl))<;>exact rfl);(first|exact fI rfl|exact fS rfl|exact fT rfl))))
 (apply wlp;(exact xU rfl rfl);exact qI (b:=((m:Nat):Int)) (by rw [qN (by omega) (by omega)];omega))
 (apply wls;exact vL eB 0 hp rfl rfl rfl rfl rfl rfl rfl (by omega) rfl;rintro _ w2 ⟨g,rfl,hv,hp⟩)
 (repeat (first|(with_reducible first|apply qF|apply qK|apply qA|apply qE|apply qB)|(apply wlp;((first|apply qC|apply qD|(apply jC;exact rfl))<;>exact rfl);(first|exact fI rfl|exact fS rfl))))
 refine uF [4,11,12,13,14,15,16,17,18,19,20,21,22,23,24,25,26,27,28,29,30,31] (fun (i:Nat) (_z:List Nat) F=>F.put 11 (.int .i64 i))
  (fun i z w'=>i≤m∧z.length = m∧Bd 256 z∧z.drop (m - i) = (dg 256 x i).reverse∧SVL (some ⟨g,0,none⟩) m z∧Hp w [] w' [qW eB 5 1 (some ⟨g,0,none⟩) m z])
  (fun i _=>m - i) 0 (List.replicate m 0) (qG (Same.eq .refl) rfl) ⟨Nat.zero_le _,by simp,uV (by decide) _,by simp [dg],hv,hp⟩ ?_
 clear hp hv
 rintro u i z w3 ⟨hi,hzl,hzb,hval,hv,hp⟩
 (repeat (first|(with_reducible first|apply qF|apply qA|apply qE|apply qB)|(apply wlp;(apply jA<;>exact rfl);exact fB rfl)))
 refine qM rfl (fun h2=>?_) (fun h2=>?_)
 ·have hlt:i < m:=by omega
  have hq:i / 4 < (dN x).length:=by omega
  have hk:m - 1 - i < m:=by omega
  have hkz:m - 1 - i < z.length:=by omega
  obtain ⟨b0,o0,hs0,hc0⟩:=hd.at_.base (by omega)
  have hci:=hc0 (i / 4) _ (List.getElem?_eq_getElem hq) 0 _ rfl
  have hg:=uJ hq
  generalize (dN x)[i / 4] = dx at hci hg
  have hby:=qUd x i
  rw [← hg] at hby
  (repeat (first|(with_reducible first|apply qF|apply qK|apply qA|apply qE|apply qB|apply qL)|(apply wlp;((first|apply qC|apply qD|(apply jC;exact rfl))<;>exact rfl);(first|exact fI rfl|exact fS rfl))))
  (apply wlp;(exact jN rfl rfl);exact qI (b:=((m - 1:Nat):Int)) (by rw [qN (by omega) (by omega)];omega))
  (repeat (apply wlp;apply qC;exact fI rfl))
  (apply wlp;(exact jN rfl rfl);exact qI (b:=((m - 1 - i:Nat):Int)) (by rw [qN (by omega) (by omega)];omega))
  (repeat (apply wlp;apply qC;(first|exact fI rfl|exact fS rfl)))
  (apply wlp;exact yV rfl rfl (by decide);exact qI (b:=((i / 4:Nat):Int)) (vO 4 (by omega)))
  (repeat (apply wlp;((first|apply qC|(apply qJ;exact rfl)|(apply qR;exact rfl))<;>(first|exact rfl|assumption|exact hp.old0 (by assumption)));(first|exact fI rfl|exact fP rfl)))
  (apply wlp;exact yU rfl rfl (by decide);exact qI (b:=((i % 4:Nat):Int)) (yP i 4))
  (apply wlp;exact xU rfl rfl;exact qI (b:=((8 * (i % 4):Nat):Int)) (by rw [qN (by omega) (by omega)];omega))
  (apply wlp;exact xA rfl rfl (by show 8 * (i % 4)≤32;omega);exact fI rfl)
  (apply wlp;exact uG rfl rfl rfl;exact qI (b:=((x / 256 ^ i % 256:Nat):Int)) (by rw [hby]))
  (repeat (apply wlp;((apply qR;exact rfl)<;>(first|exact rfl|assumption));exact fP rfl))
  (apply zG;exact xO eB z (m - 1 - i) _ hp 0 rfl hv hkz rfl rfl (fun _=>rfl) rfl rfl (qQ rfl);rintro _ w4 ⟨rfl,hp⟩)
  (repeat (with_reducible first|apply qA|apply qE|apply qB|apply qZ))
  (apply wlp;exact qY rfl rfl;exact qI (qN (by omega) (by omega)))
  (repeat (first|(with_reducible first|apply qE|apply qB)|(apply wlp;apply qC;exact fI rfl)))
  refine ⟨i + 1,_,qG (Same.eq (by repeat (first|exact Same.hav|exact Same.refl|refine Same.put rfl ?_|refine Same.havs rfl ?_))) rfl,⟨by omega,?_,hzb.set (Nat.mod_lt _ (by decide)),?_,hv.set _ _,hp⟩,by omega⟩
  ·rw [List.length_set,hzl]
  ·rw [show m - (i + 1) = m - 1 - i from by omega,qJl hkz,qEk,List.reverse_append,← hval,show m - 1 - i + 1 = m - i from by omega]
   rfl
 ·obtain rfl:i = m:=by omega
  rw [Nat.sub_self,List.drop_zero] at hval
  have hzl':z.length≤9223372036854775807:=by omega
  (repeat (first|(with_reducible first|apply qF|apply qA|apply qB|apply qO|apply jB)|((with_reducible apply qP);exact rfl)|(apply wlp;(first|apply qC|apply zQ);exact fS rfl)))
  (apply wlp;exact qEg hp rfl rfl rfl hzl rfl hv;exact fT rfl)
  (apply wls;exact qH rfl qQt rfl (c65 z _ hzb hzl'))
  rintro _ w4 ⟨rfl,hk⟩
  have hp:=hp.call hk
  (repeat (first|(with_reducible first|apply qE|apply qB|apply qT)|(apply wlp;apply qD;exact fT rfl)))
  refine qU rfl rfl ⟨_,rfl,?_,hp.keeps⟩
  rw [qPf,← qCq hx8,hval]
  rfl
end Go.Proofs.YtbgldmoikimmpaaGreatDoor
namespace Go.Proofs.YtbgldmoikimmpaaGreatDoor
open Go.Eng Go.Dig
theorem qPt {x k:Nat} (h:x < 2 ^ k) (hk:k≤100000):(dN x).length≤100000:=
 Nat.le_trans (qRd (Nat.lt_of_lt_of_le h (Nat.pow_le_pow_left (by decide) k))) hk
theorem jCv {x k:Nat} (h:x < 2 ^ k) (hk:k≤100000):(jT 256 x).length≤100000:=
 Nat.le_trans (uS (by decide) (Nat.lt_of_lt_of_le h (Nat.pow_le_pow_left (by decide) k))) hk
def Fit (x:Nat):Prop:=∃ k,k≤4000∧x < 2 ^ k
theorem Fit.of {x k:Nat} (h:x < 2 ^ k) (hk:k≤4000):Fit x:=⟨k,hk,h⟩
theorem Fit.le {x y:Nat} (h:Fit y) (hk:x≤y):Fit x:=by
 obtain ⟨k,h1,h2⟩:=h
 exact ⟨k,h1,Nat.lt_of_le_of_lt hk h2⟩
theorem Fit.d32 {x:Nat} (h:Fit x):(dN x).length≤100000:=by
 obtain ⟨k,h1,h2⟩:=h
 exact qPt h2 (by omega)
theorem Fit.d8 {x:Nat} (h:Fit x):(jT 256 x).length≤100000:=by
 obtain ⟨k,h1,h2⟩:=h
 exact jCv h2 (by omega)
theorem Fit.add {x y:Nat} (hx:Fit x) (hy:Fit y):(dN (x + y)).length≤100000:=by
 obtain ⟨k,h1,h2⟩:=hx
 obtain ⟨q,h3,h4⟩:=hy
 refine qPt (k:=max k q + 1) ?_ (by omega)
 have h5:2 ^ k≤2 ^ max k q:=Nat.pow_le_pow_right (by decide) (by omega)
 have h6:2 ^ q≤2 ^ max k q:=Nat.pow_le_pow_right (by decide) (by omega)
 rw [Nat.pow_succ]
 omega
theorem Fit.mul {x y:Nat} (hx:Fit x) (hy:Fit y):(dN (x * y)).length≤100000:=by
 obtain ⟨k,h1,h2⟩:=hx
 obtain ⟨q,h3,h4⟩:=hy
 refine qPt (k:=k + q) ?_ (by omega)
 rw [Nat.pow_add]
 exact Nat.mul_lt_mul'' h2 h4
theorem Fit.small {x:Nat} (h:x < 18446744073709551616):Fit x:=Fit.of (k:=64) (by simpa using h) (by decide)
attribute [local irreducible] PV StepF wpl wpd WP Ret
attribute [local irreducible] Fit
theorem c13 (a:Int) (w:World) (h2:a≤9223372036854775807):Ret Tryz.prog 119 [.int .i64 a] w (fun v w'=>v = .string (ofN a.toNat)∧Keeps [] w w'):=by
 refine Ret.of_WP Tryz.func119 rfl Tryz.ntmps119 rfl ?_
 have hp:=Hp.start (M:=[]) (w:=w)
 (repeat (first|(with_reducible first|apply qF|apply qA|apply qE|apply qB)|(apply wlp;((first|apply qC|apply qD|apply jA)<;>exact rfl);(first|exact fI rfl|exact fB rfl|exact fT rfl))))
 refine qM rfl (fun h=>?_) (fun h=>?_)
 ·(repeat (first|(with_reducible first|apply qF|apply qA|apply qE|apply qB|apply jV|apply qT)|(apply wlp;apply qD;exact fT rfl)))
  refine qU rfl rfl ⟨_,rfl,?_,hp.keeps⟩
  rw [show a.toNat = 0 from by omega]
  rfl
 ·obtain ⟨x,rfl⟩:∃ x:Nat,a = x:=⟨a.toNat,by omega⟩
  have hx:x < 18446744073709551616:=by omega
  (repeat (with_reducible first|apply qF|apply qA|apply qB|apply qL))
  (apply wlp;apply qC;exact fI rfl)
  (apply wlp;exact zQ rfl rfl rfl;exact qI (b:=(x:Int)) (kS hx))
  (apply wls;exact qH rfl qI8 rfl (c39 x _ hx))
  rintro _ w1 ⟨s,c,rfl,hd,hk⟩
  have hp:=hp.call hk
  (apply wls;exact qH rfl qFr rfl (c38 x s c _ hd (Fit.small hx).d32))
  rintro _ w2 ⟨rfl,hk⟩
  have hp:=hp.call hk
  (repeat (first|(with_reducible first|apply qE|apply qB|apply qT)|(apply wlp;apply qD;exact fT rfl)))
  exact qU rfl rfl ⟨_,rfl,rfl,hp.keeps⟩
theorem NS.self {x:Nat} (h:Fit x):NS (ofN x) x:=NS.self' h.d8
theorem c18 (x y:Nat) (w:World) (hx:Fit x) (hy:Fit y):Ret Tryz.prog 115 [.string (ofN x),.string (ofN y)] w (fun v w'=>v = .string (ofN (x * y))∧Keeps [] w w'):=by
 refine Ret.of_WP Tryz.func115 rfl Tryz.ntmps115 rfl ?_
 have hp:=Hp.start (M:=[]) (w:=w)
 (repeat (first|(with_reducible first|apply qF|apply qA|apply qE|apply qB)|(apply wlp;(first|apply qC|apply qD);exact fT rfl)))
 (apply wls;exact qH rfl qDp rfl (c45 x _ hx.d8))
 rintro _ w1 ⟨s,c,rfl,hd,hk⟩
 have hp:=hp.call hk
 (repeat (apply wlp;apply qC;exact fT rfl))
 (apply wls;exact qH rfl qDp rfl (c45 y _ hy.d8))
 rintro _ w2 ⟨s2,c2,rfl,hd2,hk⟩
 have hp:=hp.call hk
 have hd:=hd.keep hk
 skip
 (apply wls;exact qH rfl qY0 rfl (c46 x y s s2 c c2 _ hd hd2 hx.d32 hy.d32))
 rintro _ w3 ⟨s3,c3,rfl,hd3,hk⟩
 have hp:=hp.call hk
 skip
 (apply wls;exact qH rfl qFr rfl (c38 (x * y) s3 c3 _ hd3 (hx.mul hy)))
 rintro _ w4 ⟨rfl,hk⟩
 have hp:=hp.call hk
 (repeat (first|(with_reducible first|apply qE|apply qB|apply qT)|(apply wlp;apply qD;exact fT rfl)))
 exact qU rfl rfl ⟨_,rfl,rfl,hp.keeps⟩
theorem jD7 (sx sy:ByteArray) (x y:Nat) (w:World) (hnx:NS sx x) (hny:NS sy y) (hx:Fit x) (_hy:Fit y):Ret Tryz.prog 118 [.string sx,.string sy] w (fun v w'=>v = .tuple #[.string (ofN (x - y)),.bool (decide (y≤x))]∧Keeps [] w w'):=by
 refine Ret.of_WP Tryz.func118 rfl Tryz.ntmps118 rfl ?_
 have hp:=Hp.start (M:=[]) (w:=w)
 (repeat (first|(with_reducible first|apply qF|apply qA|apply qE|apply qB)|(apply wlp;(first|apply qC|apply qD);(first|exact fB rfl|exact fT rfl))))
 (apply wls;exact qH rfl qDp rfl (qZ1 sx x _ hnx))
 rintro _ w1 ⟨s,c,rfl,hd,hk⟩
 have hp:=hp.call hk
 (repeat (apply wlp;apply qC;exact fT rfl))
 (apply wls;exact qH rfl qDp rfl (qZ1 sy y _ hny))
 rintro _ w2 ⟨s2,c2,rfl,hd2,hk⟩
 have hp:=hp.call hk
 have hd:=hd.keep hk
 (repeat (first|(with_reducible first|apply qF|apply qA|apply qE|apply qB)|(apply wlp;(first|apply qC|apply qD);exact fS rfl)))
 (apply wls;exact qH rfl qFq rfl (c71 x y s s2 c c2 _ hd hd2))
 rintro _ w3 ⟨rfl,hk⟩
 have hp:=hp.call hk
 have hd:=hd.keep hk
 have hd2:=hd2.keep hk
 (repeat (first|(with_reducible first|apply qE|apply qB)|(apply wlp;(apply jA<;>exact rfl);exact fB rfl)))
 refine qM rfl (fun h=>?_) (fun h=>?_)
 ·have hlt:x < y:=by
   split at h
   ·assumption
   ·split at h<;>omega
  (repeat (first|(with_reducible first|apply qF|apply qA|apply qE|apply qB|apply jV|apply qT)|(apply wlp;apply qD;(first|exact fB rfl|exact fT rfl))))
  refine zX rfl rfl rfl ⟨_,rfl,?_,hp.keeps⟩
  rw [show x - y = 0 from by omega,decide_eq_false (show ¬ y≤x by omega)]
  rfl
 ·have hle:y≤x:=by
   split at h
   ·omega
   ·omega
  (repeat (first|(with_reducible first|apply qF|apply qA|apply qB|apply qL)|(apply wlp;apply qC;exact fS rfl)))
  (apply wls;exact qH rfl qXx rfl (c72 x y s s2 c c2 _ hd hd2 hx.d32 hle))
  rintro _ w4 ⟨s3,c3,rfl,hd3,hk⟩
  have hp:=hp.call hk
  skip
  (apply wls;exact qH rfl qFr rfl (c38 (x - y) s3 c3 _ hd3 (hx.le (Nat.sub_le x y)).d32))
  rintro _ w5 ⟨rfl,hk⟩
  have hp:=hp.call hk
  (repeat (first|(with_reducible first|apply qE|apply qB|apply qT)|(apply wlp;apply qD;(first|exact fB rfl|exact fT rfl))))
  refine zX rfl rfl rfl ⟨_,rfl,?_,hp.keeps⟩
  rw [decide_eq_true hle]
  rfl
theorem c49 (x y:Nat) (w:World) (hx:Fit x) (hy:Fit y):Ret Tryz.prog 118 [.string (ofN x),.string (ofN y)] w (fun v w'=>v = .tuple #[.string (ofN (x - y)),.bool (decide (y≤x))]∧Keeps [] w w'):=jD7 _ _ x y w (NS.self hx) (NS.self hy) hx hy
end Go.Proofs.YtbgldmoikimmpaaGreatDoor
namespace Go.Proofs.YtbgldmoikimmpaaGreatDoor
open Go.Eng Go.Dig
theorem qOp {b x d j r:Nat} (hd:0 < d) (hr:r = x / b ^ (j + 1) % d):(r * b + x / b ^ j % b) / d + b * (x / b ^ (j + 1) / d) = x / b ^ j / d∧(r * b + x / b ^ j % b) % d = x / b ^ j % d:=by
 have h1:=uC b x j
 generalize x / b ^ (j + 1) = y at *
 generalize x / b ^ j % b = e at *
 have h2:x / b ^ j = (r * b + e) + d * (b * (y / d)):=by
  rw [h1,hr]
  have:=Nat.div_add_mod y d
  have h3:b * y = b * (d * (y / d) + y % d):=by rw [this]
  rw [h3,Nat.mul_add,Nat.mul_comm (y % d) b,← Nat.mul_assoc,← Nat.mul_assoc,Nat.mul_comm b d]
  omega
 rw [h2,Nat.add_mul_div_left _ _ hd,Nat.add_mul_mod_self_left]
 exact ⟨rfl,rfl⟩
theorem qT2 {r e d b:Nat} (hr:r < d) (he:e < b):(r * b + e) / d < b:=by
 rw [Nat.div_lt_iff_lt_mul (by omega)]
 have:(r + 1) * b≤d * b:=Nat.mul_le_mul_right b hr
 rw [Nat.add_mul,Nat.mul_comm d b] at this
 omega
theorem qOf {r q e:Nat} (hr:r < q) (hq:q < 4294967296) (he:e < 4294967296):r * 4294967296 + e < 18446744073709551616:=by omega
section
variable {n:Nat} {F:Fr} {w:World} {d:Option Tmp} {ty:TypeId} {pos:String} {aft:Array Edge} {g:Option (Nat × Bool)} {x y:Operand} {t t':Nat}
theorem qF9 {a b:Nat} (hx:ev n F x = .int .u64 (a:Int)) (hy:ev n F y = .int .u64 (b:Int)) (hb:0 < b) (ha:a < 18446744073709551616):PV Tryz.prog n w F ⟨d,.binOp .quo t x y t',ty,pos,aft,g⟩ (.int .u64 ((a / b:Nat):Int)):=by
 have h:=yV (P:=Tryz.prog) (w:=w) (d:=d) (ty:=ty) (pos:=pos) (aft:=aft) (g:=g) (t:=t) (t':=t') hx hy (by omega)
 rwa [Int.tdiv_eq_ediv_of_nonneg (by omega),← Int.natCast_ediv,kS (Nat.lt_of_le_of_lt (Nat.div_le_self a b) ha)] at h
theorem qF8 {a b:Nat} (hx:ev n F x = .int .u64 (a:Int)) (hy:ev n F y = .int .u64 (b:Int)) (hb:0 < b):PV Tryz.prog n w F ⟨d,.binOp .rem t x y t',ty,pos,aft,g⟩ (.int .u64 ((a % b:Nat):Int)):=by
 have h:=yU (P:=Tryz.prog) (w:=w) (d:=d) (ty:=ty) (pos:=pos) (aft:=aft) (g:=g) (t:=t) (t':=t') hx hy (by omega)
 rwa [yP] at h
end
attribute [local irreducible] PV StepF wpl wpd WP Ret
theorem c74 (x q:Nat) (s:Option Addr) (c:Nat) (w:World) (hx:DA w x s c) (hl:(dN x).length≤100000) (hq:0 < q) (hq2:q < 4294967296) :
  Ret Tryz.prog 249 [.slice s (dN x).length c,.int .u32 (q:Int)] w (fun v w'=>∃ s' c',v = .tuple #[.slice s' (dN (x / q)).length c',.int .u32 ((x % q:Nat):Int)]∧DA w' (x / q) s' c'∧Keeps [] w w'):=by
 refine Ret.of_WP Tryz.func249 rfl Tryz.ntmps249 rfl ?_
 have hp:=Hp.start (M:=[]) (w:=w)
 (repeat (first|(with_reducible first|apply qF|apply qA|apply qE|apply qB)|(apply wlp;((first|apply qC|apply qD|(apply jC;exact rfl))<;>exact rfl);(first|exact fI rfl|exact fS rfl))))
 (apply wls;exact vL eW 0 hp rfl rfl rfl rfl rfl rfl rfl (by omega) rfl;rintro _ w2 ⟨g,rfl,hv,hp⟩)
 (repeat (first|(with_reducible first|apply qF|apply qA|apply qE|apply qB)|(apply wlp;((first|apply qC|apply qD|(apply jC;exact rfl))<;>exact rfl);(first|exact fI rfl|exact fS rfl))))
 (apply wlp;exact jN rfl rfl;exact qI (qN (by omega) (by omega)))
 (repeat (first|(with_reducible first|apply qK|apply qE|apply qB)|(apply wlp;apply qD;exact fI rfl)))
 refine zW [7,8,15,16,17,18,19,20,21,22,23,24,25,26,27,28,29,30,31,32,33,34,35,36,37,38] (fun (k r:Nat) (_z:List Nat) F=>(F.put 8 (.int .i64 ((k:Int) - 1))).put 7 (.int .u64 (r:Int)))
  (fun k r z w'=>k≤(dN x).length∧z.length = (dN x).length∧Bd 4294967296 z∧r = x / 4294967296 ^ k % q∧val 4294967296 (z.drop k) = x / 4294967296 ^ k / q∧SVL (some ⟨g,0,none⟩) (dN x).length z∧Hp w [] w' [qW eW 242 1 (some ⟨g,0,none⟩) (dN x).length z])
  (fun k _ _=>k) (dN x).length 0 (List.replicate (dN x).length 0) (qG (qG (Same.eq .refl) rfl) rfl) ⟨Nat.le_refl _,by simp,uV (by decide) _,?_,?_,hv,hp⟩ ?_
 ·rw [Nat.div_eq_of_lt (uK (Nat.le_refl _)),Nat.zero_mod]
 ·rw [Nat.div_eq_of_lt (uK (Nat.le_refl _)),Nat.zero_div,List.drop_of_length_le (by simp)]
  rfl
 clear hp hv
 rintro u k r z w3 ⟨hi,hzl,hzb,hr,hval,hv,hp⟩
 (repeat (first|(with_reducible first|apply qF|apply qA|apply qE|apply qB)|(apply wlp;((first|apply qC|apply xF)<;>exact rfl);(first|exact fI rfl|exact fB rfl))))
 refine qM rfl (fun h2=>?_) (fun h2=>?_)
 ·obtain ⟨j,rfl⟩:∃ j,k = j + 1:=⟨k - 1,by omega⟩
  have hlt:j < (dN x).length:=by omega
  have hiz:j < z.length:=by omega
  have hrq:r < q:=by rw [hr];exact Nat.mod_lt _ hq
  obtain ⟨b0,o0,hs0,hc0⟩:=hx.at_.base (by omega)
  have hci:=hc0 j _ (List.getElem?_eq_getElem hlt) 0 _ rfl
  have hbd:=(qFv x).get hlt
  have hg:=uJ hlt
  generalize (dN x)[j] = dx at hci hbd hg
  obtain ⟨hs1,hs2⟩:=qOp hq hr
  rw [← hg] at hs1 hs2
  have hqf:=qT2 hrq hbd
  have hsh:r * 2 ^ 32 < 18446744073709551616:=by
   have h:=qOf (e:=0) hrq hq2 (by decide)
   rw [Nat.add_zero] at h
   rw [show (2:Nat) ^ 32 = 4294967296 from by decide]
   exact h
  have ht64:r * 4294967296 + dx < 18446744073709551616:=qOf hrq hq2 hbd
  have hdx64:dx < 18446744073709551616:=by omega
  have ej:((j + 1:Nat):Int) - 1 = (j:Int):=by omega
  rw [ej]
  (repeat (first|(with_reducible first|apply qF|apply qK|apply qA|apply qB|apply qL)|(apply wlp;apply qC;exact fI rfl)))
  (apply wlp;exact kZ (b:=32) rfl rfl (by decide) hsh;exact fI rfl)
  (repeat (apply wlp;((first|apply qC|(apply qJ;exact rfl)|(apply qR;exact rfl)|exact zN rfl rfl rfl (by assumption))<;>(first|exact rfl|assumption|exact hp.old0 (by assumption)));(first|exact fI rfl|exact fP rfl|exact fS rfl)))
  (apply wlp;exact qAn rfl rfl hsh hdx64;exact qI (b:=((r * 4294967296 + dx:Nat):Int)) (by rw [Nat.or_comm,qCc (k:=32) hbd,Nat.add_comm]))
  (repeat (first|(with_reducible first|apply qF|apply qA|apply qE|apply qB)|(apply wlp;(first|apply qC|apply qD|exact zN rfl rfl rfl (by assumption));(first|exact fI rfl|exact fS rfl))))
  (apply wlp;exact qF9 rfl rfl hq ht64;exact fI rfl)
  (apply wlp;exact xM rfl rfl rfl;exact qI (b:=(((r * 4294967296 + dx) / q:Nat):Int)) (by rw [Nat.mod_eq_of_lt hqf]))
  (repeat (apply wlp;((apply qR;exact rfl)<;>(first|exact rfl|assumption));exact fP rfl))
  (apply zG;exact xO eW z j _ hp 0 rfl hv hiz rfl rfl (fun _=>rfl) rfl rfl (qQ rfl);rintro _ w4 ⟨rfl,hp⟩)
  (repeat (first|(with_reducible first|apply qA|apply qE|apply qB)|(apply wlp;(first|apply qC|exact zN rfl rfl rfl (by assumption));exact fI rfl)))
  (apply wlp;exact qF8 rfl rfl hq;exact fI rfl)
  (repeat (first|(with_reducible first|apply qA|apply qE|apply qB|apply qZ)|(apply wlp;(first|apply qC|apply qD);exact fI rfl)))
  (apply wlp;exact jN rfl rfl;exact qI (qN (by omega) (by omega)))
  (repeat (first|(with_reducible first|apply qE|apply qB)|(apply wlp;apply qD;exact fI rfl)))
  refine ⟨j,_,_,qG (qG (Same.eq (by repeat (first|exact Same.hav|exact Same.refl|refine Same.put rfl ?_|refine Same.havs rfl ?_))) rfl) rfl,⟨by omega,?_,hzb.set hqf,hs2,?_,hv.set _ _,hp⟩,by omega⟩
  ·rw [List.length_set,hzl]
  ·rw [qJl hiz,val,hval]
   exact hs1
 ·obtain rfl:k = 0:=by omega
  rw [Nat.pow_zero,Nat.div_one] at hr hval
  rw [List.drop_zero] at hval
  have hrq:r < q:=by rw [hr];exact Nat.mod_lt _ hq
  (repeat (first|(with_reducible first|apply qF|apply qA|apply qB|apply qO|apply jB)|((with_reducible apply qP);exact rfl)|(apply wlp;apply qC;exact fS rfl)))
  (apply wls;exact qH rfl qCg (by rw [hzl];rfl) (qNq hp hv (by unfold maxLen;omega) hzb hval);rintro _ w2 ⟨s',c',rfl,hd,hk⟩)
  (repeat (first|(with_reducible first|apply qE|apply qB|apply qT)|(apply wlp;(first|apply qC|apply qD|exact xM rfl rfl rfl);(first|exact fI rfl|exact fS rfl))))
  refine zX (v:=.slice s' (dN (x / q)).length c') (v':=.int .u32 ((r % 4294967296:Nat):Int)) rfl rfl rfl ⟨_,rfl,s',c',?_,hd,hk⟩
  rw [← hr,Nat.mod_eq_of_lt (show r < 4294967296 by omega)]
end Go.Proofs.YtbgldmoikimmpaaGreatDoor
namespace Go.Proofs.YtbgldmoikimmpaaGreatDoor
open Go.Eng Go.Dig
def lenT:ByteArray:=⟨#[0,1,2,2,3,3,3,3,4,4,4,4,4,4,4,4,5,5,5,5,5,5,5,5,5,5,5,5,5,5,5,5,6,6,6,6,6,6,6,6,6,6,6,6,6,6,6,6,6,6,6,6,6,6,6,6,6,6,6,6,6,6,6,6,7,7,7,7,7,7,7,7,7,7,7,7,7,7,7,7,7,7,7,7,7,7,7,7,7,7,7,7,7,7,7,7,7,7,7,7,7,7,7,7,7,7,7,7,7,7,7,7,7,7,7,7,7,7,7,7,7,7,7,7,7,7,7,7,8,8,8,8,8,8,8,8,8,8,8,8,8,8,8,8,8,8,8,8,8,8,8,8,8,8,8,8,8,8,8,8,8,8,8,8,8,8,8,8,8,8,8,8,8,8,8,8,8,8,8,8,8,8,8,8,8,8,8,8,8,8,8,8,8,8,8,8,8,8,8,8,8,8,8,8,8,8,8,8,8,8,8,8,8,8,8,8,8,8,8,8,8,8,8,8,8,8,8,8,8,8,8,8,8,8,8,8,8,8,8,8,8,8,8,8,8,8,8,8,8,8,8,8,8,8,8,8]⟩
theorem qTu:∀ i:Fin 256,i.val ≠ 0→∃ t:Fin 9,bAt lenT i.val = (t.val:Int)∧0 < t.val∧2 ^ (t.val - 1)≤i.val∧i.val < 2 ^ t.val:=by decide +kernel
theorem qTv {i:Nat} (h:i < 256) (h0:i ≠ 0):∃ t:Nat,bAt lenT i = (t:Int)∧0 < t∧t≤8∧2 ^ (t - 1)≤i∧i < 2 ^ t:=by
 obtain ⟨t,h1,h2,h3,h4⟩:=qTu ⟨i,h⟩ h0
 exact ⟨t.val,h1,h2,by omega,h3,h4⟩
theorem qGu:lenT.size = 256:=by decide +kernel
attribute [local irreducible] PV StepF wpl wpd WP Ret
theorem qNd {x x' n t:Nat} (h:x' = x / 2 ^ n) (h1:2 ^ (t - 1)≤x') (h2:x' < 2 ^ t) (ht:0 < t):2 ^ (n + t - 1)≤x∧x < 2 ^ (n + t):=by
 have hp:0 < 2 ^ n:=Nat.pow_pos (by decide)
 subst h
 constructor
 ·have:=(Nat.le_div_iff_mul_le hp).1 h1
  rwa [← Nat.pow_add,show t - 1 + n = n + t - 1 from by omega] at this
 ·have:=(Nat.div_lt_iff_lt_mul hp).1 h2
  rwa [← Nat.pow_add,Nat.add_comm t n] at this
theorem c90 (x:Nat) (w:World) (h0:0 < x) (hx:x < 4294967296) :
  Ret Tryz.prog 311 [.int .u32 (x:Int)] w (fun v w'=>∃ t:Nat,v = .int .i64 (t:Int)∧0 < t∧t≤32∧2 ^ (t - 1)≤x∧x < 2 ^ t∧Keeps [] w w'):=by
 refine Ret.of_WP Tryz.func311 rfl Tryz.ntmps311 rfl ?_
 have hp:=Hp.start (M:=[]) (w:=w)
 (repeat (first|(with_reducible first|apply qF|apply qA|apply qE|apply qB)|(apply wlp;((first|apply qC|apply qD|apply xF)<;>exact rfl);(first|exact fI rfl|exact fB rfl))))
 refine qCm (fun F w1=>∃ x' n:Nat,x' = x / 2 ^ n∧0 < x'∧x' < 65536∧n≤16∧Hp w [] w1 []∧qAt F [(0,.int .u32 (x':Int)),(2,.int .i64 (n:Int))]) ?_ ?_
 ·refine qM rfl (fun h=>?_) (fun h=>?_)
  ·(repeat (first|(with_reducible first|apply qF|apply qA)|(apply wlp;apply qC;exact fI rfl)))
   (apply wlp;exact xA (b:=16) rfl rfl (by decide);exact qI (b:=((x / 65536:Nat):Int)) rfl)
   (repeat (first|(with_reducible first|apply qA|apply qE|apply qB)|(apply wlp;apply qD;exact fI rfl)))
   exact ⟨x / 65536,16,rfl,by omega,by omega,by omega,hp,rfl,rfl,trivial⟩
  ·(repeat (with_reducible first|apply qB|apply qL))
   exact ⟨x,0,by simp,h0,by omega,by omega,hp,rfl,rfl,trivial⟩
 clear hp
 rintro F w1 ⟨x1,n1,e1,h10,h11,hn1,hp,hF⟩
 refine wF _ hF ?_
 intro F0
 clear hF
 (repeat (first|(with_reducible first|apply qF|apply qA|apply qE|apply qB)|(apply wlp;((first|apply qC|apply xF)<;>exact rfl);(first|exact fI rfl|exact fB rfl))))
 refine qCm (fun F w1=>∃ x' n:Nat,x' = x / 2 ^ n∧0 < x'∧x' < 256∧n≤24∧Hp w [] w1 []∧qAt F [(0,.int .u32 (x':Int)),(2,.int .i64 (n:Int))]) ?_ ?_
 ·refine qM rfl (fun h=>?_) (fun h=>?_)
  ·(repeat (first|(with_reducible first|apply qF|apply qA)|(apply wlp;apply qC;exact fI rfl)))
   (apply wlp;exact xA (b:=8) rfl rfl (by decide);exact qI (b:=((x1 / 256:Nat):Int)) rfl)
   (repeat (first|(with_reducible first|apply qA|apply qE|apply qB)|(apply wlp;(first|apply qC|apply qD);exact fI rfl)))
   (apply wlp;(exact qY rfl rfl);exact qI (b:=((n1 + 8:Nat):Int)) (by rw [qN (by omega) (by omega)];omega))
   (repeat (first|(with_reducible first|apply qE|apply qB)|(apply wlp;apply qD;exact fI rfl)))
   refine ⟨x1 / 256,n1 + 8,?_,by omega,by omega,by omega,hp,rfl,rfl,trivial⟩
   rw [e1,Nat.pow_add,← Nat.div_div_eq_div_mul]
  ·(repeat (with_reducible first|apply qB|apply qL))
   exact ⟨x1,n1,e1,h10,by omega,by omega,hp,rfl,rfl,trivial⟩
 clear hp e1 h10 h11 hn1 x1 n1
 rintro F w1 ⟨x1,n1,e1,h10,h11,hn1,hp,hF⟩
 refine wF _ hF ?_
 intro F0
 clear hF
 obtain ⟨t,ht,ht0,ht8,hl,hu⟩:=qTv h11 (by omega)
 (repeat (with_reducible first|apply qF|apply qA))
 (apply wlp;apply qC;exact fI rfl)
 (apply wlp;apply qC;exact fI rfl)
 (apply wlp;exact uG rfl rfl rfl;exact qI (b:=(x1:Int)) (by omega))
 (apply wlp;exact zY (s:=lenT) rfl rfl rfl (by rw [qGu];exact h11);exact qI (b:=(t:Int)) ht)
 (apply wlp;exact zQ rfl rfl rfl;exact qI (b:=(t:Int)) (qN (by omega) (by omega)))
 (apply wlp;(exact qY rfl rfl);exact qI (b:=((n1 + t:Nat):Int)) (by rw [qN (by omega) (by omega)];omega))
 (repeat (first|(with_reducible first|apply qE|apply qB|apply qT)|(apply wlp;apply qD;exact fI rfl)))
 obtain ⟨q1,q2⟩:=qNd e1 hl hu ht0
 exact qU rfl rfl ⟨_,rfl,n1 + t,rfl,by omega,by omega,q1,q2,hp.keeps⟩
theorem c75 (x:Nat) (w:World) (h0:0 < x) (hx:x < 4294967296) :
  Ret Tryz.prog 250 [.int .u32 (x:Int)] w (fun v w'=>∃ s:Nat,v = .int .i64 (s:Int)∧s≤31∧2147483648≤x * 2 ^ s∧x * 2 ^ s < 4294967296∧Keeps [] w w'):=by
 refine Ret.of_WP Tryz.func250 rfl Tryz.ntmps250 rfl ?_
 have hp:=Hp.start (M:=[]) (w:=w)
 (repeat (first|(with_reducible first|apply qF|apply qA|apply qE|apply qB)|(apply wlp;(first|apply qC|apply qD);exact fI rfl)))
 (apply wls;exact qH rfl qX3 rfl (c90 x _ h0 hx))
 rintro _ w1 ⟨t,rfl,ht0,ht,hl,hu,hk⟩
 have hp:=hp.call hk
 (apply wlp;(exact jN rfl rfl);exact qI (b:=((32 - t:Nat):Int)) (by rw [qN (by omega) (by omega)];omega))
 (repeat (first|(with_reducible first|apply qE|apply qB|apply qT)|(apply wlp;apply qD;exact fI rfl)))
 refine qU rfl rfl ⟨_,rfl,32 - t,rfl,by omega,?_,?_,hp.keeps⟩
 ·have:=Nat.mul_le_mul_right (2 ^ (32 - t)) hl
  rwa [← Nat.pow_add,show t - 1 + (32 - t) = 31 from by omega] at this
 ·have:=(Nat.mul_lt_mul_right (Nat.pow_pos (n:=32 - t) (by decide:0 < 2))).2 hu
  rwa [← Nat.pow_add,show t + (32 - t) = 32 from by omega] at this
end Go.Proofs.YtbgldmoikimmpaaGreatDoor
namespace Go.Proofs.YtbgldmoikimmpaaGreatDoor
open Go.Eng Go.Dig
theorem qN3 {s e:Nat} (hs:s≤31):∃ q,e * 2 ^ s % 4294967296 = q * 2 ^ s∧q < 2 ^ (32 - s):=by
 refine ⟨e % 2 ^ (32 - s),?_,Nat.mod_lt _ (Nat.pow_pos (by decide))⟩
 have e1:4294967296 = 2 ^ (32 - s) * 2 ^ s:=by rw [← Nat.pow_add,show 32 - s + s = 32 from by omega]
 rw [e1,Nat.mul_mod_mul_right]
theorem qSp {s e:Nat} (hs:s≤31) (he:e < 4294967296):e * 2 ^ s < 9223372036854775808:=by
 have h1:2 ^ s≤2 ^ 31:=Nat.pow_le_pow_right (by decide) hs
 have h2:e * 2 ^ s≤4294967295 * 2 ^ 31:=Nat.mul_le_mul (by omega) h1
 have h3:4294967295 * 2 ^ 31 < 9223372036854775808:=by decide
 omega
theorem qSo {s q old:Nat} (hs:s≤31) (hq:q < 2 ^ (32 - s)) (ho:old < 2 ^ s):old + q * 2 ^ s < 4294967296:=by
 have h1:(q + 1) * 2 ^ s≤2 ^ (32 - s) * 2 ^ s:=Nat.mul_le_mul_right _ hq
 rw [← Nat.pow_add,show 32 - s + s = 32 from by omega,Nat.add_mul] at h1
 have:(2:Nat) ^ 32 = 4294967296:=by decide
 omega
theorem qOe {b V V1 V2 x s i old q T:Nat} (h:V = x % b ^ i * 2 ^ s) (hT:q + b * (T / b) = T) (hx:T = x / b ^ i % b * 2 ^ s) (h1:V1 + b ^ i * old = V + b ^ i * (old + q)) (h2:V2 + b ^ (i + 1) * 0 = V1 + b ^ (i + 1) * (T / b)):V2 = x % b ^ (i + 1) * 2 ^ s:=by
 rw [xX,Nat.add_mul]
 have e1:b ^ i * (x / b ^ i % b) * 2 ^ s = b ^ i * T:=by rw [hx,Nat.mul_assoc]
 have e2:b ^ (i + 1) * (T / b) = b ^ i * (b * (T / b)):=by rw [Nat.pow_succ,Nat.mul_assoc]
 have e3:=congrArg (b ^ i * ·) hT
 simp only [Nat.mul_add] at e3
 rw [Nat.mul_add] at h1
 rw [e1,← h]
 omega
attribute [local irreducible] PV StepF wpl wpd WP Ret
theorem c76 (x k:Nat) (s:Option Addr) (c:Nat) (w:World) (hx:DA w x s c) (hl:(dN x).length≤100000) (hk:k≤31) :
  Ret Tryz.prog 251 [.slice s (dN x).length c,.int .i64 (k:Int)] w (fun v w'=>∃ g,v = .slice (some ⟨g,0,none⟩) ((dN x).length + 1) ((dN x).length + 1)∧SVL (some ⟨g,0,none⟩) ((dN x).length + 1) (dg 4294967296 (x * 2 ^ k) ((dN x).length + 1))∧Hp w [] w' [qW eW 242 1 (some ⟨g,0,none⟩) ((dN x).length + 1) (dg 4294967296 (x * 2 ^ k) ((dN x).length + 1))]):=by
 have hl1:(dN x).length < (dN x).length + 1:=by omega
 refine Ret.of_WP Tryz.func251 rfl Tryz.ntmps251 rfl ?_
 have hp:=Hp.start (M:=[]) (w:=w)
 (repeat (first|(with_reducible first|apply qF|apply qA|apply qE|apply qB)|(apply wlp;((first|apply qC|apply qD|(apply jC;exact rfl))<;>exact rfl);(first|exact fI rfl|exact fS rfl))))
 (apply wlp;(exact qY rfl rfl);exact qI (b:=(((dN x).length + 1:Nat):Int)) (by rw [qN (by omega) (by omega)];omega))
 (apply wls;exact vL eW 0 hp rfl rfl rfl rfl rfl rfl rfl (by omega) rfl;rintro _ w2 ⟨g,rfl,hv,hp⟩)
 (repeat (first|(with_reducible first|apply qF|apply qK|apply qA|apply qE|apply qB)|(apply wlp;((first|apply qC|apply qD|(apply jC;exact rfl))<;>exact rfl);(first|exact fI rfl|exact fS rfl))))
 refine uF [6,7,8,15,16,17,18,19,20,21,22,23,24,25,26,27,28,29,30,31,32,33,34,35,36,37,38,39] (fun (i:Nat) (_z:List Nat) F=>F.put 15 (.int .i64 i))
  (fun i z w'=>i≤(dN x).length∧z.length = (dN x).length + 1∧Bd 4294967296 z∧val 4294967296 z = x % 4294967296 ^ i * 2 ^ k∧SVL (some ⟨g,0,none⟩) ((dN x).length + 1) z∧Hp w [] w' [qW eW 242 1 (some ⟨g,0,none⟩) ((dN x).length + 1) z])
  (fun i _=>(dN x).length - i) 0 (List.replicate ((dN x).length + 1) 0) (qG (Same.eq .refl) rfl) ⟨Nat.zero_le _,by simp,uV (by decide) _,by simp [qBj,Nat.mod_one],hv,hp⟩ ?_
 clear hp hv
 rintro u i z w3 ⟨hi,hzl,hzb,hval,hv,hp⟩
 (repeat (first|(with_reducible first|apply qF|apply qA|apply qE|apply qB)|(apply wlp;(apply jA<;>exact rfl);exact fB rfl)))
 refine qM rfl (fun h2=>?_) (fun h2=>?_)
 ·have hlt:i < (dN x).length:=by omega
  have hlt1:i < (dN x).length + 1:=by omega
  have hlt2:i + 1 < (dN x).length + 1:=by omega
  have hiz:i < z.length:=by omega
  have hiz2:i + 1 < z.length:=by omega
  have hvlt:val 4294967296 z < 4294967296 ^ i * 2 ^ k:=by
   rw [hval]
   exact (Nat.mul_lt_mul_right (Nat.pow_pos (by decide))).2 (Nat.mod_lt _ (Nat.pow_pos (by decide)))
  have hold:z[i] < 2 ^ k:=Nat.lt_of_mul_lt_mul_left (Nat.lt_of_le_of_lt (qO3 (b:=4294967296) hiz) hvlt)
  have hnext:z[i + 1] = 0:=by
   refine qIr (b:=4294967296) (by decide) (k:=i + 1) (Nat.lt_of_lt_of_le hvlt ?_) hiz2 (Nat.le_refl _)
   rw [Nat.pow_succ]
   exact Nat.mul_le_mul_left _ (Nat.le_trans (Nat.pow_le_pow_right (by decide) hk) (by decide))
  obtain ⟨b0,o0,hs0,hc0⟩:=hx.at_.base (by omega)
  have hci:=hc0 i _ (List.getElem?_eq_getElem hlt) 0 _ rfl
  have hbd:=(qFv x).get hlt
  have hg:=uJ hlt
  generalize (dN x)[i] = dx at hci hbd hg
  have hcz:=xK hp 0 rfl hv (fun _=>rfl) (List.getElem?_eq_getElem hiz) 0 _ rfl
  have hzo:=hzb.get hiz
  have hset:=fun d=>qBk 4294967296 z i d hiz
  generalize z[i] = old at hcz hzo hset hold
  obtain ⟨q,hq,hq2⟩:=qN3 (e:=dx) hk
  have hT:=qSp hk hbd
  have hsum:=qSo hk hq2 hold
  have hsh:dx * 2 ^ k < 18446744073709551616:=Nat.lt_trans hT (by decide)
  have hqb:q * 2 ^ k < 4294967296:=Nat.lt_of_le_of_lt (Nat.le_add_left _ old) hsum
  have hTb:dx * 2 ^ k / 4294967296 < 4294967296:=by
   generalize dx * 2 ^ k = T at hT
   omega
  (repeat (first|(with_reducible first|apply qF|apply qK|apply qA|apply qE|apply qB|apply qL)|(apply wlp;((first|apply qC|apply qD|(apply qJ;exact rfl)|(apply qR;exact rfl)|exact zN rfl rfl rfl (by assumption))<;>(first|exact rfl|assumption|exact hp.old0 (by assumption)));(first|exact fI rfl|exact fP rfl))))
  (apply wlp;exact kZ rfl rfl (by omega) hsh;exact fI rfl)
  (repeat (first|(with_reducible first|apply qF|apply qA|apply qE|apply qB)|(apply wlp;((first|apply qC|apply qD|(apply qJ;exact rfl)|(apply qR;exact rfl)|exact xM rfl rfl rfl)<;>(first|exact rfl|assumption));(first|exact fI rfl|exact fP rfl|exact fS rfl))))
  (apply wlp;exact qHn rfl rfl hzo (Nat.mod_lt _ (by decide));exact qI (b:=((old + q * 2 ^ k:Nat):Int)) (by rw [hq,qCc hold]))
  (repeat (apply wlp;((apply qR;exact rfl)<;>(first|exact rfl|assumption));exact fP rfl))
  (apply zG;exact xO eW z i _ hp 0 rfl hv hiz rfl rfl (fun _=>rfl) rfl rfl (qQ rfl);rintro _ w4 ⟨rfl,hp⟩)
  have hv:=hv.set i (old + q * 2 ^ k)
  have hzl2:(z.set i (old + q * 2 ^ k)).length = (dN x).length + 1:=by rw [List.length_set,hzl]
  have hiz3:i + 1 < (z.set i (old + q * 2 ^ k)).length:=by omega
  have hset2:=fun d=>qBk 4294967296 (z.set i (old + q * 2 ^ k)) (i + 1) d hiz3
  have hn2:(z.set i (old + q * 2 ^ k))[i + 1] = 0:=by
   rw [List.getElem_set_ne (by omega)]
   exact hnext
  rw [hn2] at hset2
  (repeat (first|(with_reducible first|apply qA|apply qE|apply qB)|(apply wlp;apply qC;(first|exact fI rfl|exact fS rfl))))
  (apply wlp;(exact qY rfl rfl);exact qI (b:=((i + 1:Nat):Int)) (by rw [qN (by omega) (by omega)];omega))
  (repeat (apply wlp;apply qC;exact fI rfl))
  (apply wlp;exact xA (b:=32) rfl rfl (by decide);exact qI (b:=((dx * 2 ^ k / 4294967296:Nat):Int)) rfl)
  (apply wlp;exact xM rfl rfl rfl;exact qI (b:=((dx * 2 ^ k / 4294967296:Nat):Int)) (by rw [Nat.mod_eq_of_lt hTb]))
  (repeat (apply wlp;((apply qR;exact rfl)<;>(first|exact rfl|assumption));exact fP rfl))
  (apply zG;exact xO eW _ (i + 1) _ hp 0 rfl hv hiz3 rfl rfl (fun _=>rfl) rfl rfl (qQ rfl);rintro _ w5 ⟨rfl,hp⟩)
  (repeat (with_reducible first|apply qA|apply qE|apply qB|apply qZ))
  (apply wlp;exact qY rfl rfl;exact qI (qN (by omega) (by omega)))
  (repeat (first|(with_reducible first|apply qE|apply qB)|(apply wlp;apply qC;exact fI rfl)))
  refine ⟨i + 1,_,qG (Same.eq (by repeat (first|exact Same.hav|exact Same.refl|refine Same.put rfl ?_|refine Same.havs rfl ?_))) rfl,⟨by omega,?_,(hzb.set hsum).set hTb,?_,hv.set _ _,hp⟩,by omega⟩
  ·rw [List.length_set,hzl2]
  ·refine qOe hval (T:=dx * 2 ^ k) (q:=q * 2 ^ k) ?_ (by rw [hg]) (hset _) (hset2 _)
   rw [← hq]
   exact Nat.mod_add_div _ _
 ·obtain rfl:i = (dN x).length:=by omega
  rw [Nat.mod_eq_of_lt (uK (Nat.le_refl _))] at hval
  have hz:z = dg 4294967296 (x * 2 ^ k) ((dN x).length + 1):=by rw [← hval,← hzl];exact uU hzb
  subst hz
  (repeat (first|(with_reducible first|apply qF|apply qA|apply qE|apply qB|apply qO|apply qT|apply jB)|((with_reducible apply qP);exact rfl)|(apply wlp;(first|apply qC|apply qD);exact fS rfl)))
  exact qU rfl rfl ⟨_,rfl,g,rfl,hv,hp⟩
end Go.Proofs.YtbgldmoikimmpaaGreatDoor
namespace Go.Proofs.YtbgldmoikimmpaaGreatDoor
open Go.Eng Go.Dig
theorem qD0 {b:Nat} {l:List Nat} (h:Bd b l) {i:Nat} (hi:i < l.length):l[i] = val b l / b ^ i % b:=by
 have h1:=qDr b l.length (val b l) i hi
 rw [← uU h,List.getElem?_eq_getElem hi] at h1
 simpa using h1
theorem qN2 {V i k:Nat} (hk:k≤31):(V / 4294967296 ^ i % 4294967296 + V / 4294967296 ^ (i + 1) % 4294967296 * 2 ^ 32) / 2 ^ k % 4294967296 = V / 2 ^ k / 4294967296 ^ i % 4294967296:=by
 have h1:V / 4294967296 ^ i % 4294967296 + V / 4294967296 ^ (i + 1) % 4294967296 * 2 ^ 32 = V / 4294967296 ^ i % (4294967296 * 4294967296):=by
  rw [Nat.mod_mul,Nat.pow_succ,← Nat.div_div_eq_div_mul,Nat.mul_comm (_ % _) (2 ^ 32)]
 have e:4294967296 * 4294967296 = 2 ^ k * (2 ^ (32 - k) * 4294967296):=by
  rw [← Nat.mul_assoc,← Nat.pow_add,show k + (32 - k) = 32 from by omega]
 rw [h1,e,Nat.mod_mul_right_div_self,Nat.mod_mul_left_mod,Nat.div_div_eq_div_mul,Nat.div_div_eq_div_mul,Nat.mul_comm]
theorem qMg {b n i:Nat} (z:List Nat) (h:z.take i = dg b n i) (hi:i < z.length):(z.set i (n / b ^ i % b)).take (i + 1) = dg b n (i + 1):=by
 rw [take_set hi,h,qEk]
attribute [local irreducible] PV StepF wpl wpd WP Ret
theorem c80 (l:List Nat) (k:Nat) (s:Option Addr) (c:Nat) (w:World) (hs:SlAt w 1 eW s l) (hb:Bd 4294967296 l) (hl:l.length≤100000) (hk:k≤31) :
  Ret Tryz.prog 255 [.slice s l.length c,.int .i64 (k:Int)] w (fun v w'=>∃ g,v = .slice (some ⟨g,0,none⟩) l.length l.length∧SVL (some ⟨g,0,none⟩) l.length (dg 4294967296 (val 4294967296 l / 2 ^ k) l.length)∧Hp w [] w' [qW eW 242 1 (some ⟨g,0,none⟩) l.length (dg 4294967296 (val 4294967296 l / 2 ^ k) l.length)]):=by
 refine Ret.of_WP Tryz.func255 rfl Tryz.ntmps255 rfl ?_
 have hp:=Hp.start (M:=[]) (w:=w)
 (repeat (first|(with_reducible first|apply qF|apply qA|apply qE|apply qB)|(apply wlp;((first|apply qC|apply qD|(apply jC;exact rfl))<;>exact rfl);(first|exact fI rfl|exact fS rfl))))
 (apply wls;exact vL eW 0 hp rfl rfl rfl rfl rfl rfl rfl (by omega) rfl;rintro _ w2 ⟨g,rfl,hv,hp⟩)
 (repeat (first|(with_reducible first|apply qF|apply qK|apply qA|apply qE|apply qB)|(apply wlp;((first|apply qC|apply qD|(apply jC;exact rfl))<;>exact rfl);(first|exact fI rfl|exact fS rfl))))
 refine uF [6,7,13,14,15,16,17,18,19,20,21,22,23,24,25,26,27,28,29,30,31,32,33,34,35,36,37,38,39,40,41,42] (fun (i:Nat) (_z:List Nat) F=>F.put 13 (.int .i64 i))
  (fun i z w'=>i≤l.length∧z.length = l.length∧z.take i = dg 4294967296 (val 4294967296 l / 2 ^ k) i∧SVL (some ⟨g,0,none⟩) l.length z∧Hp w [] w' [qW eW 242 1 (some ⟨g,0,none⟩) l.length z])
  (fun i _=>l.length - i) 0 (List.replicate l.length 0) (qG (Same.eq .refl) rfl) ⟨Nat.zero_le _,by simp,rfl,hv,hp⟩ ?_
 clear hp hv
 rintro u i z w3 ⟨hi,hzl,hval,hv,hp⟩
 (repeat (first|(with_reducible first|apply qF|apply qA|apply qE|apply qB)|(apply wlp;(apply jA<;>exact rfl);exact fB rfl)))
 refine qM rfl (fun h2=>?_) (fun h2=>?_)
 ·have hlt:i < l.length:=by omega
  have hiz:i < z.length:=by omega
  obtain ⟨b0,o0,hs0,hc0⟩:=hs.base (by omega)
  have hci:=hc0 i _ (List.getElem?_eq_getElem hlt) 0 _ rfl
  have hbd:=hb.get hlt
  have hg:=qD0 hb hlt
  generalize l[i] = dx at hci hbd hg
  have hdig:=qN2 (V:=val 4294967296 l) (i:=i) hk
  rw [← hg] at hdig
  have hdx:dx < 2 ^ 32:=hbd
  have hdx64:dx < 18446744073709551616:=by omega
  (repeat (first|(with_reducible first|apply qF|apply qK|apply qA|apply qE|apply qB|apply qL)|(apply wlp;((first|apply qC|apply qD|(apply qJ;exact rfl)|(apply qR;exact rfl)|exact zN rfl rfl rfl (by assumption))<;>(first|exact rfl|assumption|exact hp.old0 (by assumption)));(first|exact fI rfl|exact fP rfl|exact fS rfl))))
  (apply wlp;(exact qY rfl rfl);exact qI (b:=((i + 1:Nat):Int)) (by rw [qN (by omega) (by omega)];omega))
  (repeat (first|(with_reducible first|apply qE|apply qB)|(apply wlp;((first|apply qC|(apply jC;exact rfl)|apply jA)<;>exact rfl);(first|exact fI rfl|exact fB rfl|exact fS rfl))))
  refine qM rfl (fun h3=>?_) (fun h3=>?_)
  ·have hlt2:i + 1 < l.length:=by omega
   have hcj:=hc0 (i + 1) _ (List.getElem?_eq_getElem hlt2) 0 _ rfl
   have hbd2:=hb.get hlt2
   have hg2:=qD0 hb hlt2
   generalize l[i + 1] = dy at hcj hbd2 hg2
   rw [← hg2] at hdig
   have hsh:dy * 2 ^ 32 < 18446744073709551616:=by
    rw [show (2:Nat) ^ 32 = 4294967296 from by decide]
    omega
   (repeat (first|with_reducible apply qA|(apply wlp;apply qC;(first|exact fI rfl|exact fS rfl))))
   (apply wlp;(exact qY rfl rfl);exact qI (b:=((i + 1:Nat):Int)) (by rw [qN (by omega) (by omega)];omega))
   (repeat (apply wlp;((first|(apply qJ;exact rfl)|(apply qR;exact rfl)|exact zN rfl rfl rfl (by assumption))<;>(first|exact rfl|assumption|exact hp.old0 (by assumption)));(first|exact fI rfl|exact fP rfl)))
   (apply wlp;exact kZ (b:=32) rfl rfl (by decide) hsh;exact fI rfl)
   (apply wlp;exact qAn rfl rfl hdx64 hsh;exact qI (b:=((dx + dy * 2 ^ 32:Nat):Int)) (by rw [qCc hdx]))
   (repeat (first|(with_reducible first|apply qA|apply qE|apply qB)|(apply wlp;(first|apply qC|apply qD);(first|exact fI rfl|exact fS rfl))))
   (apply wlp;exact xA rfl rfl (by show k≤64;omega);exact fI rfl)
   (apply wlp;exact xM rfl rfl rfl;exact qI (b:=((val 4294967296 l / 2 ^ k / 4294967296 ^ i % 4294967296:Nat):Int)) (by rw [hdig]))
   (repeat (apply wlp;((apply qR;exact rfl)<;>(first|exact rfl|assumption));exact fP rfl))
   (apply zG;exact xO eW z i _ hp 0 rfl hv hiz rfl rfl (fun _=>rfl) rfl rfl (qQ rfl);rintro _ w4 ⟨rfl,hp⟩)
   (repeat (with_reducible first|apply qA|apply qE|apply qB|apply qZ))
   (apply wlp;exact qY rfl rfl;exact qI (qN (by omega) (by omega)))
   (repeat (first|(with_reducible first|apply qE|apply qB)|(apply wlp;apply qC;exact fI rfl)))
   exact ⟨i + 1,_,qG (Same.eq (by repeat (first|exact Same.hav|exact Same.refl|refine Same.put rfl ?_|refine Same.havs rfl ?_))) rfl,⟨by omega,by rw [List.length_set,hzl],qMg z hval hiz,hv.set _ _,hp⟩,by omega⟩
  ·have hz0:val 4294967296 l / 4294967296 ^ (i + 1) % 4294967296 = 0:=by
    have h4:=yL hb
    rw [show l.length = i + 1 from by omega] at h4
    rw [Nat.div_eq_of_lt h4,Nat.zero_mod]
   rw [hz0,Nat.zero_mul,Nat.add_zero] at hdig
   (repeat (first|(with_reducible first|apply qA|apply qB|apply qL)|(apply wlp;apply qC;(first|exact fI rfl|exact fS rfl))))
   (apply wlp;exact xA rfl rfl (by show k≤64;omega);exact fI rfl)
   (apply wlp;exact xM rfl rfl rfl;exact qI (b:=((val 4294967296 l / 2 ^ k / 4294967296 ^ i % 4294967296:Nat):Int)) (by rw [hdig]))
   (repeat (apply wlp;((apply qR;exact rfl)<;>(first|exact rfl|assumption));exact fP rfl))
   (apply zG;exact xO eW z i _ hp 0 rfl hv hiz rfl rfl (fun _=>rfl) rfl rfl (qQ rfl);rintro _ w4 ⟨rfl,hp⟩)
   (repeat (with_reducible first|apply qA|apply qE|apply qB|apply qZ))
   (apply wlp;exact qY rfl rfl;exact qI (qN (by omega) (by omega)))
   (repeat (first|(with_reducible first|apply qE|apply qB)|(apply wlp;apply qC;exact fI rfl)))
   exact ⟨i + 1,_,qG (Same.eq (by repeat (first|exact Same.hav|exact Same.refl|refine Same.put rfl ?_|refine Same.havs rfl ?_))) rfl,⟨by omega,by rw [List.length_set,hzl],qMg z hval hiz,hv.set _ _,hp⟩,by omega⟩
 ·obtain rfl:i = l.length:=by omega
  have hz:z = dg 4294967296 (val 4294967296 l / 2 ^ k) l.length:=by rw [← hval,List.take_of_length_le (by omega)]
  subst hz
  (repeat (first|(with_reducible first|apply qF|apply qA|apply qE|apply qB|apply qO|apply qT|apply jB)|((with_reducible apply qP);exact rfl)|(apply wlp;(first|apply qC|apply qD);exact fS rfl)))
  exact qU rfl rfl ⟨_,rfl,g,rfl,hv,hp⟩
end Go.Proofs.YtbgldmoikimmpaaGreatDoor
namespace Go.Proofs.YtbgldmoikimmpaaGreatDoor
open Go.Eng Go.Dig
theorem qBl {A m C:List Nat} {i d:Nat} (hi:i < m.length):(A ++ m ++ C).set (A.length + i) d = A ++ m.set i d ++ C:=by
 rw [List.append_assoc,List.set_append_right _ _ (by omega),show A.length + i - A.length = i from by omega,List.set_append_left _ _ hi,List.append_assoc]
theorem qD5 {A m C:List Nat} {i:Nat} (hi:i < m.length):(A ++ m ++ C)[A.length + i]? = some m[i]:=by
 rw [List.append_assoc,List.getElem?_append_right (by omega),show A.length + i - A.length = i from by omega,List.getElem?_append_left hi,List.getElem?_eq_getElem hi]
def Tl (m m0:List Nat) (i:Nat):Prop:=m.drop i = m0.drop i
theorem Tl.get {m m0:List Nat} {i:Nat} (h:Tl m m0 i) (hi:i < m.length) (hi0:i < m0.length):m[i] = m0[i]:=by
 unfold Tl at h
 rw [List.drop_eq_getElem_cons hi,List.drop_eq_getElem_cons hi0] at h
 exact (List.cons.inj h).1
theorem Tl.set {m m0:List Nat} {i d:Nat} (h:Tl m m0 i) (hi:i < m.length) (hi0:i < m0.length):Tl (m.set i d) m0 (i + 1):=by
 unfold Tl at *
 rw [List.drop_eq_getElem_cons hi,List.drop_eq_getElem_cons hi0] at h
 rw [List.drop_set_of_lt (by omega)]
 exact (List.cons.inj h).2
theorem qMx {b V u v G i cy bo z cy' bo' lo T:Nat} (h:V + G * (v % b ^ i) = u % b ^ i + (cy + bo) * b ^ i) (hT:T = cy + G * (v / b ^ i % b)) (hlo:lo + b * cy' = T) (hz:z + lo + bo = u / b ^ i % b + b * bo') :
  (V + b ^ i * z) + G * (v % b ^ (i + 1)) = u % b ^ (i + 1) + (cy' + bo') * b ^ (i + 1):=by
 rw [xX,xX,Nat.pow_succ]
 have e1:G * (v % b ^ i + b ^ i * (v / b ^ i % b)) = G * (v % b ^ i) + b ^ i * (G * (v / b ^ i % b)):=by
  rw [Nat.mul_add]
  congr 1
  ac_rfl
 have e2:(cy' + bo') * (b ^ i * b) = b ^ i * (b * cy') + b ^ i * (b * bo'):=by
  rw [Nat.add_mul]
  congr 1<;>ac_rfl
 have e3:(cy + bo) * b ^ i = b ^ i * cy + b ^ i * bo:=by rw [Nat.add_mul,Nat.mul_comm cy,Nat.mul_comm bo]
 have h1:=congrArg (b ^ i * ·) hz
 have h2:=congrArg (b ^ i * ·) (hlo.trans hT)
 simp only [Nat.mul_add] at h1 h2
 rw [e1,e2]
 rw [e3] at h
 omega
end Go.Proofs.YtbgldmoikimmpaaGreatDoor
namespace Go.Proofs.YtbgldmoikimmpaaGreatDoor
open Go.Eng Go.Dig
theorem qS0 {P:Program} {n:Nat} {Q:Exit→Fr→World→Prop} {F:Fr} {w:World} {c:Code} {X Y Z T:Type} (S:List Nat) (H:X→Y→Z→T→Fr→Fr) (I:X→Y→Z→T→World→Prop) (μ:X→Y→Z→T→Nat) (x0:X) (y0:Y) (z0:Z) (t0:T) (h0:F = H x0 y0 z0 t0 (Fr.hav S F F)) (hi:I x0 y0 z0 t0 w)
  (round:∀ (u:Fr) (x:X) (y:Y) (z:Z) (t:T) (w:World),I x y z t w→WP P n c (wL (fun F' w'=>∃ x' y' z' t',F' = H x' y' z' t' (Fr.hav S F' F)∧I x' y' z' t' w'∧μ x' y' z' t' < μ x y z t) Q) (H x y z t (Fr.hav S u F)) w):WP P n (.loop c) Q F w:=by
 refine jE S (fun (x:X × Y × Z × T)=>H x.1 x.2.1 x.2.2.1 x.2.2.2) (fun x=>I x.1 x.2.1 x.2.2.1 x.2.2.2) (fun x=>μ x.1 x.2.1 x.2.2.1 x.2.2.2) (x0,y0,z0,t0) h0 hi ?_
 intro u x w hI
 refine qDg (round u x.1 x.2.1 x.2.2.1 x.2.2.2 w hI) ?_
 intro e F w h
 cases e with
 | normal=>
  obtain ⟨x',y',z',t',h1,h2,h3⟩:=h
  exact ⟨(x',y',z',t'),h1,h2,h3⟩
 | _=>exact h
section
variable {P:Program} {n:Nat} {w0 w:World} {M:List Nat} {L:List Ent} {F:Fr} {d:Option Tmp} {ty:TypeId} {pos:String} {aft:Array Edge} {g:Option (Nat × Bool)} {x y:Operand}
theorem qCr {α:Type} (enc:α→List Value) (l:List α) (i:Nat) (xv:α) {t e gb c off:Nat} {v:Value} (hp:Hp w0 M w L) (j:Nat) (hj:L[j]? = some (qW enc e 1 (some ⟨gb,0,none⟩) c l)) (hvl:SVL (some ⟨gb,0,none⟩) c l) (hi:i < l.length)
  (hx:ev n F x = .pointer (some ⟨gb,off,none⟩)) (hoff:off = i) (hy:ev n F y = v) (hk:∀ x,(enc x).length = 1) (hv:enc xv = [v]) (h1:wK v = true) (hz:TSize P t 1) :
  StepF P n ⟨d,.store t x y,ty,pos,aft,g⟩ F w (fun u w'=>u = undef∧Hp w0 M w' (L.set j (qW enc e 1 (some ⟨gb,0,none⟩) c (l.set i xv)))):=
 xO enc l i xv hp j hj hvl hi (by rw [hx,hoff,Nat.zero_add,Nat.mul_one]) hy hk hv h1 hz
theorem qFa {a b k t t':Nat} (hx:ev n F x = .int .u64 (a:Int)) (hy:ev n F y = .int .u64 (b:Int)) (ha:a < 18446744073709551616) (hb:b = 2 ^ k - 1) (hk:k≤64):PV P n w F ⟨d,.binOp .and t x y t',ty,pos,aft,g⟩ (.int .u64 ((a % 2 ^ k:Nat):Int)):=by
 have hb2:b < 18446744073709551616:=by
  have h2:2 ^ k≤2 ^ 64:=Nat.pow_le_pow_right (by decide) hk
  have h3:0 < 2 ^ k:=Nat.pow_pos (by decide)
  have h4:(2:Nat) ^ 64 = 18446744073709551616:=by decide
  omega
 have h1:(BitVec.ofInt 64 (a:Int) &&& BitVec.ofInt 64 (b:Int)).toNat = a % 2 ^ k:=by
  rw [BitVec.toNat_and,yX 64 a ha,yX 64 b hb2,hb,Nat.and_two_pow_sub_one_eq_mod]
 have h3:=kS (Nat.lt_of_le_of_lt (Nat.mod_le a (2 ^ k)) ha)
 simp only [PV,execOp,hx,hy,eqGuard,binOp,Op.intBits]
 show Sem.run P (pure (Next.value (Value.int IntKind.u64 (IntKind.u64.wrap ((BitVec.ofInt 64 (a:Int) &&& BitVec.ofInt 64 (b:Int)).toNat:Int))))) w = _
 rw [h1,h3]
 rfl
end
theorem qO6 {cy G d:Nat} (hc:cy < 4294967296) (hG:G≤4294967296) (hd:d < 4294967296):cy + G * d < 18446744073709551616:=by
 have:G * d≤4294967296 * 4294967295:=Nat.mul_le_mul hG (by omega)
 omega
theorem qO7 {b V u v G n cy bo zn B:Nat} (h:V + G * (v % b ^ n) = u % b ^ n + (cy + bo) * b ^ n) (hv:v < b ^ n) (hu:u < b ^ (n + 1)) (hz:zn + cy + bo = u / b ^ n % b + b * B):(V + b ^ n * zn) + G * v = u + B * b ^ (n + 1):=by
 have h1:=xX b u n
 rw [Nat.mod_eq_of_lt hu] at h1
 rw [Nat.mod_eq_of_lt hv] at h
 have h2:=congrArg (b ^ n * ·) hz
 simp only [Nat.mul_add] at h2
 have e1:B * b ^ (n + 1) = b ^ n * (b * B):=by rw [Nat.pow_succ,Nat.mul_comm,Nat.mul_assoc]
 have e2:(cy + bo) * b ^ n = b ^ n * cy + b ^ n * bo:=by rw [Nat.add_mul,Nat.mul_comm cy,Nat.mul_comm bo]
 rw [e1]
 rw [e2] at h
 omega
theorem qT8 {b V m v n cy:Nat} (hb:0 < b) (h:V + cy * b ^ n = m % b ^ n + v % b ^ n) (hV:V < b ^ n) (hv:v < b ^ n) (hm:m < b ^ (n + 1)):V + b ^ n * ((m / b ^ n % b + cy) % b) = (m + v) % b ^ (n + 1):=by
 have h1:=xX b m n
 rw [Nat.mod_eq_of_lt hm] at h1
 rw [Nat.mod_eq_of_lt hv] at h
 have e:m + v = V + b ^ n * (m / b ^ n % b + cy):=by
  rw [Nat.mul_add,Nat.mul_comm (b ^ n) cy]
  omega
 have hp:0 < b ^ n:=Nat.pow_pos hb
 rw [e,xX b _ n,Nat.add_mul_mod_self_left,Nat.mod_eq_of_lt hV,Nat.add_mul_div_left _ _ hp,Nat.div_eq_of_lt hV,Nat.zero_add]
attribute [local irreducible] PV StepF wpl wpd WP Ret
theorem c78 (A m C vl:List Nat) (G g c cu cv:Nat) (sv:Option Addr) (w:World) (o:Obj) (ho:w.heap[g]? = some o) (hou:(qW eW 242 1 (some ⟨g,0,none⟩) c (A ++ m ++ C)).2 o) (hvl:SVL (some ⟨g,0,none⟩) c (A ++ m ++ C))
  (hs:SlAt w 1 eW sv vl) (hne:∀ b o,sv = some ⟨b,o,none⟩→b ≠ g) (hbm:Bd 4294967296 m) (hbv:Bd 4294967296 vl) (hml:m.length = vl.length + 1) (hG:G≤4294967296) (hl:vl.length≤100000) :
  Ret Tryz.prog 253 [.slice (some ⟨g,0 + A.length * 1,none⟩) (vl.length + 1) cu,.slice sv vl.length cv,.int .u64 (G:Int)] w (fun v w'=>∃ z B,v = .bool (decide (((B:Nat):Int) = 1))∧B≤1∧z.length = m.length∧Bd 4294967296 z∧val 4294967296 z + G * val 4294967296 vl = val 4294967296 m + B * 4294967296 ^ (vl.length + 1)∧Keeps [g] w w'∧∃ o,w'.heap[g]? = some o∧(qW eW 242 1 (some ⟨g,0,none⟩) c (A ++ z ++ C)).2 o):=by
 have hvv:=yL hbv
 have hmm:=yL hbm
 rw [hml] at hmm
 refine Ret.of_WP Tryz.func253 rfl Tryz.ntmps253 rfl ?_
 have hp:Hp w [g] w [qW eW 242 1 (some ⟨g,0,none⟩) c (A ++ m ++ C)]:=Hp.adopt Hp.start (by simp) ho hou (by simp)
 (repeat (first|(with_reducible first|apply qF|apply qK|apply qA|apply qE|apply qB)|(apply wlp;((first|apply qC|apply qD|(apply jC;exact rfl))<;>exact rfl);(first|exact fI rfl|exact fB rfl|exact fS rfl))))
 refine qS0 [7,8,9,10,11,15,16,17,18,19,20,21,22,23,24,25,26,27,28,29,30,31,32,33,34,35,36,37,38,39,40,41,42,43,44,45] (fun (i cy bo:Nat) (_z:List Nat) F=>((F.put 15 (.int .i64 i)).put 7 (.int .u64 (cy:Int))).put 8 (.int .u64 (bo:Int)))
  (fun i cy bo z w'=>i≤vl.length∧z.length = vl.length + 1∧Bd 4294967296 z∧Tl z m i∧cy < 4294967296∧bo < 2∧val 4294967296 (z.take i) + G * (val 4294967296 vl % 4294967296 ^ i) = val 4294967296 m % 4294967296 ^ i + (cy + bo) * 4294967296 ^ i∧SVL (some ⟨g,0,none⟩) c (A ++ z ++ C)∧Hp w [g] w' [qW eW 242 1 (some ⟨g,0,none⟩) c (A ++ z ++ C)])
  (fun i _ _ _=>vl.length - i) 0 0 0 m (qG (qG (qG (Same.eq .refl) rfl) rfl) rfl) ⟨Nat.zero_le _,hml,hbm,rfl,by decide,by decide,by simp [val,Nat.mod_one],hvl,hp⟩ ?_
 clear hp hvl ho hou
 rintro u i cy bo z w3 ⟨hi,hzl,hzb,htl,hcy,hbo,hval,hv,hp⟩
 (repeat (first|(with_reducible first|apply qF|apply qA|apply qE|apply qB)|(apply wlp;(apply jA<;>exact rfl);exact fB rfl)))
 refine qM rfl (fun h2=>?_) (fun h2=>?_)
 ·have hlt:i < vl.length:=by omega
  have hlt1:i < vl.length + 1:=by omega
  have hiz:i < z.length:=by omega
  have him:i < m.length:=by omega
  obtain ⟨b0,o0,hs0,hc0⟩:=hs.base (by omega)
  have hnb:=hne b0 o0 hs0
  have hci:=hp.old (hc0 i _ (List.getElem?_eq_getElem hlt) 0 _ rfl) (by simpa using hnb)
  have hbd:=hbv.get hlt
  have hg:=qD0 hbv hlt
  generalize vl[i] = dv at hci hbd hg
  have hcz:=xK hp 0 rfl hv (fun _=>rfl) (qD5 (A:=A) (C:=C) hiz) 0 _ rfl
  have hdu:=htl.get hiz him
  have hgm:=qD0 hbm him
  have hzo:=hzb.get hiz
  rw [← hdu] at hgm
  generalize z[i] = du at hcz hgm hzo
  have hcz:w3.cell? ⟨g,0 + A.length * 1 + i * 1,none⟩ = some (.int .u32 (du:Int)):=by
   rw [show 0 + A.length * 1 + i * 1 = 0 + (A.length + i) * 1 + 0 from by omega]
   exact hcz
  have hT:=qO6 hcy hG hbd
  have hGd:G * dv < 18446744073709551616:=Nat.lt_of_le_of_lt (Nat.le_add_left _ cy) hT
  have hT2:∃ T,T = cy + G * dv:=⟨_,rfl⟩
  obtain ⟨T,hTe⟩:=hT2
  (repeat (first|(with_reducible first|apply qF|apply qK|apply qA|apply qE|apply qB|apply qL)|(apply wlp;((first|apply qC|apply qD|(apply qJ;exact rfl)|(apply qR;exact rfl)|exact zN rfl rfl rfl (by assumption))<;>(first|exact rfl|assumption));(first|exact fI rfl|exact fP rfl))))
  (apply wlp;exact qB4 rfl rfl hGd;exact fI rfl)
  (apply wlp;exact uA rfl rfl hT;exact qI (b:=(T:Int)) (by rw [hTe]))
  rw [← hTe] at hT
  (repeat (first|(with_reducible first|apply qF|apply qA|apply qE|apply qB)|(apply wlp;((first|apply qC|apply qD|(apply qJ;exact rfl)|(apply qR;exact rfl)|exact zN rfl rfl rfl (by assumption))<;>(first|exact rfl|assumption));(first|exact fI rfl|exact fP rfl|exact fS rfl))))
  (apply wlp;exact qFa (k:=32) rfl rfl hT rfl (by decide);exact qI (b:=((T % 4294967296:Nat):Int)) rfl)
  (apply wlp;exact kK rfl rfl (by omega);exact fI rfl)
  (repeat (apply wlp;apply qC;exact fI rfl))
  (apply wlp;exact kK rfl rfl (by omega);exact fI rfl)
  have hD:∃ D z0,D = qBr (qBr du (T % 4294967296)) bo∧z0 = D % 4294967296:=⟨_,_,rfl,rfl⟩
  obtain ⟨D,z0,hDe,hz0⟩:=hD
  rw [← hDe]
  unfold qBr at hDe
  (repeat (first|(with_reducible first|apply qF|apply qA|apply qE|apply qB)|(apply wlp;((first|apply qC|apply qD|(apply qR;exact rfl)|exact xM rfl rfl rfl)<;>(first|exact rfl|assumption));(first|exact fI rfl|exact fP rfl|exact fS rfl))))
  (apply zG;exact qCr eW _ (A.length + i) (D % 4294967296) hp 0 rfl hv (by simp;omega) rfl (by omega) rfl (fun _=>rfl) rfl rfl (qQ rfl);rintro _ w4 ⟨rfl,hp⟩)
  have hv:=hv.set (A.length + i) (D % 4294967296)
  rw [qBl hiz] at hv
  simp only [List.set_cons_zero] at hp
  rw [qBl hiz,← hz0] at hp
  rw [← hz0] at hv
  (repeat (first|(with_reducible first|apply qF|apply qA|apply qE|apply qB)|(apply wlp;apply qC;exact fI rfl)))
  (apply wlp;exact xA (b:=63) rfl rfl (by decide);exact qI (b:=((D / 9223372036854775808:Nat):Int)) rfl)
  (repeat (first|(with_reducible first|apply qA|apply qE|apply qB)|(apply wlp;(first|apply qC|apply qD);exact fI rfl)))
  (apply wlp;exact xA (b:=32) rfl rfl (by decide);exact qI (b:=((T / 4294967296:Nat):Int)) rfl)
  (repeat (first|(with_reducible first|apply qA|apply qE|apply qB|apply qZ)|(apply wlp;apply qD;exact fI rfl)))
  (apply wlp;exact qY rfl rfl;exact qI (qN (by omega) (by omega)))
  (repeat (first|(with_reducible first|apply qE|apply qB)|(apply wlp;apply qC;exact fI rfl)))
  refine ⟨i + 1,T / 4294967296,D / 9223372036854775808,z.set i z0,qG (qG (qG (Same.eq (by repeat (first|exact Same.hav|exact Same.refl|refine Same.put rfl ?_|refine Same.havs rfl ?_))) rfl) rfl) rfl,⟨by omega,?_,hzb.set (by omega),htl.set hiz him,by omega,by omega,?_,hv,hp⟩,by omega⟩
  ·rw [List.length_set,hzl]
  ·rw [vI hiz]
   refine qMx hval (T:=T) (lo:=T % 4294967296) (by rw [hTe,hg]) (by omega) ?_
   rw [← hgm]
   omega
 ·obtain rfl:i = vl.length:=by omega
  have hlt1:vl.length < vl.length + 1:=by omega
  have hiz:vl.length < z.length:=by omega
  have him:vl.length < m.length:=by omega
  have hcz:=xK hp 0 rfl hv (fun _=>rfl) (qD5 (A:=A) (C:=C) hiz) 0 _ rfl
  have hdu:=htl.get hiz him
  have hgm:=qD0 hbm him
  have hzo:=hzb.get hiz
  rw [← hdu] at hgm
  generalize z[vl.length] = du at hcz hgm hzo
  have hcz:w3.cell? ⟨g,0 + A.length * 1 + vl.length * 1,none⟩ = some (.int .u32 (du:Int)):=by
   rw [show 0 + A.length * 1 + vl.length * 1 = 0 + (A.length + vl.length) * 1 + 0 from by omega]
   exact hcz
  (repeat (first|(with_reducible first|apply qF|apply qA|apply qB|apply qO|apply jB)|((with_reducible apply qP);exact rfl)|(apply wlp;((first|apply qC|(apply qJ;exact rfl)|(apply jC;exact rfl)|(apply qR;exact rfl)|exact zN rfl rfl rfl (by assumption))<;>(first|exact rfl|assumption));(first|exact fI rfl|exact fP rfl|exact fS rfl))))
  (apply wlp;exact kK rfl rfl (by omega);exact fI rfl)
  (repeat (apply wlp;apply qC;exact fI rfl))
  (apply wlp;exact kK rfl rfl (by omega);exact fI rfl)
  have hD:∃ D z0,D = qBr (qBr du cy) bo∧z0 = D % 4294967296:=⟨_,_,rfl,rfl⟩
  obtain ⟨D,z0,hDe,hz0⟩:=hD
  rw [← hDe]
  unfold qBr at hDe
  (repeat (first|(with_reducible first|apply qF|apply qA|apply qE|apply qB)|(apply wlp;((first|apply qC|apply qD|(apply jC;exact rfl)|(apply qR;exact rfl)|exact xM rfl rfl rfl)<;>(first|exact rfl|assumption));(first|exact fI rfl|exact fP rfl|exact fS rfl))))
  (apply zG;exact qCr eW _ (A.length + vl.length) (D % 4294967296) hp 0 rfl hv (by simp;omega) rfl (by omega) rfl (fun _=>rfl) rfl rfl (qQ rfl);rintro _ w4 ⟨rfl,hp⟩)
  simp only [List.set_cons_zero] at hp
  rw [qBl hiz,← hz0] at hp
  (repeat (first|(with_reducible first|apply qF|apply qA|apply qE|apply qB)|(apply wlp;apply qC;exact fI rfl)))
  (apply wlp;exact xA (b:=63) rfl rfl (by decide);exact qI (b:=((D / 9223372036854775808:Nat):Int)) rfl)
  (repeat (first|(with_reducible first|apply qE|apply qB|apply qT)|(apply wlp;((first|apply qD|(apply zF;(first|exact rfl|exact jR rfl (by assumption))))<;>exact rfl);exact fB rfl)))
  refine qU rfl rfl ⟨_,rfl,z.set vl.length z0,D / 9223372036854775808,rfl,by omega,?_,hzb.set (by omega),?_,hp.keeps,hp.has 0 _ rfl g rfl⟩
  ·rw [List.length_set,hzl,hml]
  ·have h1:=vI (b:=4294967296) (d:=z0) hiz
   rw [List.take_of_length_le (by simp;omega)] at h1
   rw [h1]
   refine qO7 hval hvv hmm ?_
   rw [← hgm]
   omega
theorem c79 (A m C vl:List Nat) (g c cu cv:Nat) (sv:Option Addr) (w:World) (o:Obj) (ho:w.heap[g]? = some o) (hou:(qW eW 242 1 (some ⟨g,0,none⟩) c (A ++ m ++ C)).2 o) (hvl:SVL (some ⟨g,0,none⟩) c (A ++ m ++ C))
  (hs:SlAt w 1 eW sv vl) (hne:∀ b o,sv = some ⟨b,o,none⟩→b ≠ g) (hbm:Bd 4294967296 m) (hbv:Bd 4294967296 vl) (hml:m.length = vl.length + 1) (hl:vl.length≤100000) :
  Ret Tryz.prog 254 [.slice (some ⟨g,0 + A.length * 1,none⟩) (vl.length + 1) cu,.slice sv vl.length cv] w (fun _ w'=>∃ z,z.length = m.length∧Bd 4294967296 z∧val 4294967296 z = (val 4294967296 m + val 4294967296 vl) % 4294967296 ^ (vl.length + 1)∧Keeps [g] w w'∧∃ o,w'.heap[g]? = some o∧(qW eW 242 1 (some ⟨g,0,none⟩) c (A ++ z ++ C)).2 o):=by
 have hvv:=yL hbv
 have hmm:=yL hbm
 rw [hml] at hmm
 refine Ret.of_WP Tryz.func254 rfl Tryz.ntmps254 rfl ?_
 have hp:Hp w [g] w [qW eW 242 1 (some ⟨g,0,none⟩) c (A ++ m ++ C)]:=Hp.adopt Hp.start (by simp) ho hou (by simp)
 (repeat (first|(with_reducible first|apply qF|apply qK|apply qA|apply qE|apply qB)|(apply wlp;((first|apply qC|apply qD|(apply jC;exact rfl))<;>exact rfl);(first|exact fI rfl|exact fS rfl))))
 refine zW [4,5,6,9,10,11,12,13,14,15,16,17,18,19,20,21,22,23,24,25,26,27,28,29,30,31] (fun (i cy:Nat) (_z:List Nat) F=>(F.put 9 (.int .i64 i)).put 4 (.int .u64 (cy:Int)))
  (fun i cy z w'=>i≤vl.length∧z.length = vl.length + 1∧Bd 4294967296 z∧Tl z m i∧cy < 2∧val 4294967296 (z.take i) + cy * 4294967296 ^ i = val 4294967296 m % 4294967296 ^ i + val 4294967296 vl % 4294967296 ^ i∧SVL (some ⟨g,0,none⟩) c (A ++ z ++ C)∧Hp w [g] w' [qW eW 242 1 (some ⟨g,0,none⟩) c (A ++ z ++ C)])
  (fun i _ _=>vl.length - i) 0 0 m (qG (qG (Same.eq .refl) rfl) rfl) ⟨Nat.zero_le _,hml,hbm,rfl,by decide,by simp [val,Nat.mod_one],hvl,hp⟩ ?_
 clear hp hvl ho hou
 rintro u i cy z w3 ⟨hi,hzl,hzb,htl,hcy,hval,hv,hp⟩
 (repeat (first|(with_reducible first|apply qF|apply qA|apply qE|apply qB)|(apply wlp;(apply jA<;>exact rfl);exact fB rfl)))
 refine qM rfl (fun h2=>?_) (fun h2=>?_)
 ·have hlt:i < vl.length:=by omega
  have hlt1:i < vl.length + 1:=by omega
  have hiz:i < z.length:=by omega
  have him:i < m.length:=by omega
  obtain ⟨b0,o0,hs0,hc0⟩:=hs.base (by omega)
  have hnb:=hne b0 o0 hs0
  have hci:=hp.old (hc0 i _ (List.getElem?_eq_getElem hlt) 0 _ rfl) (by simpa using hnb)
  have hbd:=hbv.get hlt
  have hg:=qD0 hbv hlt
  generalize vl[i] = dv at hci hbd hg
  have hcz:=xK hp 0 rfl hv (fun _=>rfl) (qD5 (A:=A) (C:=C) hiz) 0 _ rfl
  have hdu:=htl.get hiz him
  have hgm:=qD0 hbm him
  have hzo:=hzb.get hiz
  rw [← hdu] at hgm
  generalize z[i] = du at hcz hgm hzo
  have hcz:w3.cell? ⟨g,0 + A.length * 1 + i * 1,none⟩ = some (.int .u32 (du:Int)):=by
   rw [show 0 + A.length * 1 + i * 1 = 0 + (A.length + i) * 1 + 0 from by omega]
   exact hcz
  (repeat (first|(with_reducible first|apply qF|apply qK|apply qA|apply qE|apply qB|apply qL)|(apply wlp;((first|apply qC|apply qD|(apply qJ;exact rfl)|(apply qR;exact rfl)|exact zN rfl rfl rfl (by assumption))<;>(first|exact rfl|assumption));(first|exact fI rfl|exact fP rfl|exact fS rfl))))
  (apply wlp;exact uA rfl rfl (by omega);exact fI rfl)
  (apply wlp;exact uA rfl rfl (by omega);exact fI rfl)
  (repeat (first|(with_reducible first|apply qF|apply qA|apply qE|apply qB)|(apply wlp;((first|apply qC|apply qD|(apply qR;exact rfl)|exact xM rfl rfl rfl)<;>(first|exact rfl|assumption));(first|exact fI rfl|exact fP rfl|exact fS rfl))))
  (apply zG;exact qCr eW _ (A.length + i) ((cy + (du + dv)) % 4294967296) hp 0 rfl hv (by simp;omega) rfl (by omega) rfl (fun _=>rfl) rfl rfl (qQ rfl);rintro _ w4 ⟨rfl,hp⟩)
  have hv:=hv.set (A.length + i) ((cy + (du + dv)) % 4294967296)
  rw [qBl hiz] at hv
  simp only [List.set_cons_zero] at hp
  rw [qBl hiz] at hp
  (repeat (first|(with_reducible first|apply qA|apply qE|apply qB)|(apply wlp;apply qC;exact fI rfl)))
  (apply wlp;exact xA (b:=32) rfl rfl (by decide);exact fI rfl)
  (repeat (first|(with_reducible first|apply qA|apply qE|apply qB|apply qZ)|(apply wlp;apply qD;exact fI rfl)))
  (apply wlp;exact qY rfl rfl;exact qI (qN (by omega) (by omega)))
  (repeat (first|(with_reducible first|apply qE|apply qB)|(apply wlp;apply qC;exact fI rfl)))
  refine ⟨i + 1,_,z.set i ((cy + (du + dv)) % 4294967296),qG (qG (Same.eq (by repeat (first|exact Same.hav|exact Same.refl|refine Same.put rfl ?_|refine Same.havs rfl ?_))) rfl) rfl,⟨by omega,?_,hzb.set (by omega),htl.set hiz him,by omega,?_,hv,hp⟩,by omega⟩
  ·rw [List.length_set,hzl]
  ·rw [vI hiz]
   refine qRy hval ?_
   rw [← hgm,← hg]
   omega
 ·obtain rfl:i = vl.length:=by omega
  have hlt1:vl.length < vl.length + 1:=by omega
  have hiz:vl.length < z.length:=by omega
  have him:vl.length < m.length:=by omega
  have hcz:=xK hp 0 rfl hv (fun _=>rfl) (qD5 (A:=A) (C:=C) hiz) 0 _ rfl
  have hdu:=htl.get hiz him
  have hgm:=qD0 hbm him
  have hzo:=hzb.get hiz
  rw [← hdu] at hgm
  generalize z[vl.length] = du at hcz hgm hzo
  have hcz:w3.cell? ⟨g,0 + A.length * 1 + vl.length * 1,none⟩ = some (.int .u32 (du:Int)):=by
   rw [show 0 + A.length * 1 + vl.length * 1 = 0 + (A.length + vl.length) * 1 + 0 from by omega]
   exact hcz
  (repeat (first|(with_reducible first|apply qA|apply qB|apply qO|apply jB)|((with_reducible apply qP);exact rfl)|(apply wlp;((first|apply qC|(apply qJ;exact rfl)|(apply jC;exact rfl)|(apply qR;exact rfl)|exact xM rfl rfl rfl)<;>(first|exact rfl|assumption));(first|exact fI rfl|exact fP rfl|exact fS rfl))))
  (apply wlp;exact zH rfl rfl;exact qI (b:=(((du + cy) % 4294967296:Nat):Int)) (by rw [Nat.mod_eq_of_lt (show cy < 4294967296 by omega)]))
  (repeat (apply wlp;((apply qR;exact rfl)<;>(first|exact rfl|assumption));exact fP rfl))
  (apply zG;exact qCr eW _ (A.length + vl.length) ((du + cy) % 4294967296) hp 0 rfl hv (by simp;omega) rfl (by omega) rfl (fun _=>rfl) rfl rfl (qQ rfl);rintro _ w4 ⟨rfl,hp⟩)
  simp only [List.set_cons_zero] at hp
  rw [qBl hiz] at hp
  (repeat with_reducible apply qE)
  refine qF1 rfl ⟨_,rfl,z.set vl.length ((du + cy) % 4294967296),?_,hzb.set (by omega),?_,hp.keeps,hp.has 0 _ rfl g rfl⟩
  ·rw [List.length_set,hzl,hml]
  ·have h1:=vI (b:=4294967296) (d:=(du + cy) % 4294967296) hiz
   rw [List.take_of_length_le (by simp;omega)] at h1
   have hV:val 4294967296 (z.take vl.length) < 4294967296 ^ vl.length:=by
    have:=yL (hzb.take vl.length)
    rwa [List.length_take,Nat.min_eq_left (by omega)] at this
   rw [h1,hgm]
   exact qT8 (by decide) hval hV hvv hmm
end Go.Proofs.YtbgldmoikimmpaaGreatDoor
namespace Go.Proofs.YtbgldmoikimmpaaGreatDoor
open Go.Eng Go.Dig
theorem qJk {_b P u v u3 v2 G q:Nat} (hq:q = u / v) (hu:u < (u3 + 1) * P) (hv:v2 * P≤v) (h:u3 < G * v2):q + 1≤G:=by
 subst hq
 have h1:(u3 + 1) * P≤G * v2 * P:=Nat.mul_le_mul_right P h
 have h2:G * v2 * P≤G * v:=by rw [Nat.mul_assoc];exact Nat.mul_le_mul_left G hv
 have h3:u < G * v:=by omega
 exact (Nat.div_lt_iff_lt_mul (by
  rcases Nat.eq_zero_or_pos v with h0|h0
  ·subst h0;simp at h3
  ·exact h0)).2 h3
theorem qQ4 {P u v u3 v2 G q:Nat} (hq:q = u / v) (hv0:0 < v) (hu:u3 * P≤u) (hv:v≤(v2 + 1) * P) (h:(G - 1) * (v2 + 1)≤u3):G≤q + 1:=by
 subst hq
 have h1:(G - 1) * v≤(G - 1) * ((v2 + 1) * P):=Nat.mul_le_mul_left _ hv
 have h2:(G - 1) * (v2 + 1) * P≤u3 * P:=Nat.mul_le_mul_right P h
 rw [Nat.mul_assoc] at h2
 have h3:G - 1≤u / v:=(Nat.le_div_iff_mul_le hv0).2 (by omega)
 omega
theorem jA0 {b G v1 v2 rest u2 T:Nat} (hT:G * v1 + rest = T) (hG:G≤b) (hv1:0 < v1) (h:G * v2≤rest * b + u2):(G - 1) * (v1 * b + v2 + 1)≤T * b + u2:=by
 have e1:(G - 1) * (v1 * b + v2 + 1)≤G * (v1 * b + v2):=by
  rcases Nat.eq_zero_or_pos G with h0|h0
  ·subst h0;simp
  ·obtain ⟨k,rfl⟩:∃ k,G = k + 1:=⟨G - 1,by omega⟩
   simp only [Nat.add_sub_cancel]
   rw [Nat.mul_add,Nat.add_mul,Nat.mul_one,Nat.one_mul]
   have h1:1 * b≤v1 * b:=Nat.mul_le_mul_right b hv1
   omega
 have e2:G * (v1 * b + v2) = G * v1 * b + G * v2:=by rw [Nat.mul_add,Nat.mul_assoc]
 rw [← hT,Nat.add_mul]
 omega
theorem qZz {b G v1 v2 rest u2 T:Nat} (hT:G * v1 + rest = T) (hG:G≤b + 1) (hv2:v2 < b) (h:b≤rest):(G - 1) * (v1 * b + v2 + 1)≤T * b + u2:=by
 have h1:(G - 1) * (v1 * b + v2 + 1)≤(G - 1) * (v1 * b + b):=Nat.mul_le_mul_left _ (by omega)
 have h2:(G - 1) * (v1 * b + b) = (G - 1) * v1 * b + (G - 1) * b:=by rw [Nat.mul_add,Nat.mul_assoc]
 have h3:(G - 1) * v1 * b≤G * v1 * b:=Nat.mul_le_mul_right _ (Nat.mul_le_mul_right _ (by omega))
 have h4:(G - 1) * b≤rest * b:=Nat.mul_le_mul_right _ (by omega)
 rw [← hT,Nat.add_mul]
 omega
theorem qQ6 {P U Ua X:Nat} (hU:U = Ua + X * P) (hUa:Ua < P):U < (X + 1) * P∧X * P≤U:=by
 rw [Nat.add_mul,Nat.one_mul]
 omega
theorem qWx {b P U V X Y:Nat} (h1:X * P≤U) (h2:V≤Y * P) (h3:U < V * b):X < Y * b:=by
 have h4:V * b≤Y * P * b:=Nat.mul_le_mul_right b h2
 rw [Nat.mul_right_comm] at h4
 exact Nat.lt_of_mul_lt_mul_right (Nat.lt_of_le_of_lt h1 (Nat.lt_of_lt_of_le h3 h4))
theorem qQ5 {G v1 r T q B:Nat} (hGT:G * v1 + r = T) (hd:q + 1≤G) (hB:G≤B):q≤G - 1∧G - 1≤B∧(G - 1) * v1 + (r + v1) = T:=by
 obtain ⟨j,rfl⟩:∃ j,G = j + 1:=⟨G - 1,by omega⟩
 rw [Nat.add_mul,Nat.one_mul] at hGT
 simp only [Nat.add_sub_cancel]
 omega
theorem qZy {b G v1 v2 r T u X Y:Nat} (hGT:G * v1 + r = T) (hX:X = G * v2) (hY:Y = r * b + u) (h:Y < X):T * b + u < G * (v1 * b + v2):=by
 rw [Nat.mul_add,← Nat.mul_assoc,← hX,← hGT,Nat.add_mul]
 omega
theorem qZc {r:Nat} (hr:r≤4294967295):r * 2 ^ 32 < 18446744073709551616:=by
 rw [show (2:Nat) ^ 32 = 4294967296 from by decide]
 omega
theorem qZr {G v:Nat} (hG:G≤4294967295) (hv:v < 4294967296):G * v < 18446744073709551616:=by
 have:G * v≤4294967295 * 4294967295:=Nat.mul_le_mul hG (by omega)
 omega
theorem qNj {T v1 un u1:Nat} (hT:T = un * 4294967296 + u1) (hu1:u1 < 4294967296) (hun:un≤v1) (hv1:2147483648≤v1) (hv:v1 < 4294967296):T / v1≤4294967297:=by
 have:T / v1 < 4294967298:=by
  rw [Nat.div_lt_iff_lt_mul (by omega)]
  omega
 omega
theorem qTy {P u v u3 v1 v2 T u2 q:Nat} (hq:q = u / v) (hu:u < (u3 + 1) * P) (hu3:u3 = T * 4294967296 + u2) (hu2:u2 < 4294967296) (hv:(v1 * 4294967296 + v2) * P≤v) (hv1:0 < v1):q≤T / v1:=by
 have h1:T < v1 * (T / v1 + 1):=Nat.lt_mul_div_succ T hv1
 have h2:u3 < (T / v1 + 1) * (v1 * 4294967296 + v2):=by
  rw [Nat.mul_add,← Nat.mul_assoc,Nat.mul_comm (T / v1 + 1) v1]
  generalize v1 * (T / v1 + 1) = X at h1
  have:=Nat.zero_le ((T / v1 + 1) * v2)
  omega
 have:=qJk (_b:=0) (G:=T / v1 + 1) hq hu hv h2
 omega
theorem qVu {l:List Nat} {k:Nat} (hb:Bd 4294967296 l) (hl:l.length = k + 3) (h1:k < l.length) (h2:k + 1 < l.length) (h3:k + 2 < l.length):val 4294967296 l = val 4294967296 (l.take k) + 4294967296 ^ k * (l[k] + 4294967296 * (l[k + 1] + 4294967296 * l[k + 2]))∧val 4294967296 (l.take k) < 4294967296 ^ k:=by
 have e:=kV 4294967296 l k (by omega)
 rw [List.drop_eq_getElem_cons h1,List.drop_eq_getElem_cons h2,List.drop_eq_getElem_cons h3,List.drop_of_length_le (by omega)] at e
 have hlt:=yL (hb.take k)
 rw [List.length_take,Nat.min_eq_left (by omega)] at hlt
 refine ⟨?_,hlt⟩
 rw [e]
 simp [val]
theorem qVv {l:List Nat} {k:Nat} (hb:Bd 4294967296 l) (h1:k < l.length) (h2:k + 1 < l.length):val 4294967296 (l.take (k + 2)) = val 4294967296 (l.take k) + 4294967296 ^ k * (l[k] + 4294967296 * l[k + 1])∧val 4294967296 (l.take k) < 4294967296 ^ k:=by
 have e1:=qBv 4294967296 l k h1
 have e2:=qBv 4294967296 l (k + 1) h2
 have hlt:=yL (hb.take k)
 rw [List.length_take,Nat.min_eq_left (by omega)] at hlt
 refine ⟨?_,hlt⟩
 rw [e2,e1,Nat.pow_succ,Nat.mul_add,Nat.mul_assoc]
 omega
attribute [local irreducible] PV StepF wpl wpd WP Ret
theorem c77 (m vl:List Nat) (k cu cv:Nat) (su sv:Option Addr) (w:World) (hm:SlAt w 1 eW su m) (hs:SlAt w 1 eW sv vl) (hbm:Bd 4294967296 m) (hbv:Bd 4294967296 vl) (hml:m.length = k + 3) (hvl:vl.length = k + 3) (hk:k≤100000)
  (hlt:val 4294967296 m < val 4294967296 (vl.take (k + 2)) * 4294967296) (htop:∀ h:k + 1 < vl.length,2147483648≤vl[k + 1]) :
  Ret Tryz.prog 252 [.slice su (k + 3) cu,.slice sv (k + 3) cv] w (fun v w'=>∃ G,v = .int .u64 ((G:Nat):Int)∧val 4294967296 m / val 4294967296 (vl.take (k + 2))≤G∧G≤val 4294967296 m / val 4294967296 (vl.take (k + 2)) + 1∧Keeps [] w w'):=by
 have k0:k < k + 3:=by omega
 have k1:k + 1 < k + 3:=by omega
 have k2:k + 2 < k + 3:=by omega
 have um:=qVu hbm hml (by omega) (by omega) (by omega)
 have vm:=qVv hbv (k:=k) (by omega) (by omega)
 have htop:=htop (by omega)
 obtain ⟨b0,o0,hs0,hc0⟩:=hm.base (by omega)
 have cu0:=hc0 k _ (List.getElem?_eq_getElem (by omega)) 0 _ rfl
 have cu1:=hc0 (k + 1) _ (List.getElem?_eq_getElem (by omega)) 0 _ rfl
 have cu2:=hc0 (k + 2) _ (List.getElem?_eq_getElem (by omega)) 0 _ rfl
 have bu0:=hbm.get (i:=k) (by omega)
 have bu1:=hbm.get (i:=k + 1) (by omega)
 have bu2:=hbm.get (i:=k + 2) (by omega)
 obtain ⟨b1,o1,hs1,hc1⟩:=hs.base (by omega)
 have cv0:=hc1 k _ (List.getElem?_eq_getElem (by omega)) 0 _ rfl
 have cv1:=hc1 (k + 1) _ (List.getElem?_eq_getElem (by omega)) 0 _ rfl
 have bv0:=hbv.get (i:=k) (by omega)
 have bv1:=hbv.get (i:=k + 1) (by omega)
 generalize m[k]'_ = u0 at um cu0 bu0
 generalize m[k + 1]'_ = u1 at um cu1 bu1
 generalize m[k + 2]'_ = u2 at um cu2 bu2
 generalize vl[k]'_ = v0 at vm cv0 bv0
 generalize vl[k + 1]'_ = v1 at vm cv1 bv1 htop
 generalize val 4294967296 m = U at *
 generalize val 4294967296 (vl.take (k + 2)) = V at *
 generalize val 4294967296 (m.take k) = Ua at *
 generalize val 4294967296 (vl.take k) = Va at *
 have hP:∃ P,P = 4294967296 ^ k:=⟨_,rfl⟩
 obtain ⟨P,hPe⟩:=hP
 have hP0:0 < P:=by rw [hPe];exact Nat.pow_pos (by decide)
 rw [← hPe] at um vm
 obtain ⟨hU,hUa⟩:=um
 obtain ⟨hV,hVa⟩:=vm
 obtain ⟨T,hT⟩:∃ T,T = u2 * 4294967296 + u1:=⟨_,rfl⟩
 have e3:u0 + 4294967296 * (u1 + 4294967296 * u2) = T * 4294967296 + u0:=by omega
 have e2:v0 + 4294967296 * v1 = v1 * 4294967296 + v0:=by omega
 rw [e3,Nat.mul_comm] at hU
 rw [e2,Nat.mul_comm] at hV
 obtain ⟨hUlt,hUge⟩:=qQ6 hU hUa
 obtain ⟨hVlt,hVge⟩:=qQ6 hV hVa
 have hVle:=Nat.le_of_lt hVlt
 have hV0:0 < V:=Nat.lt_of_lt_of_le (Nat.mul_pos (by omega) hP0) hVge
 have hun:u2≤v1:=by
  have h1:=qWx hUge hVle hlt
  omega
 have hq1:U / V < 4294967296:=(Nat.div_lt_iff_lt_mul hV0).2 (by rw [Nat.mul_comm];exact hlt)
 obtain ⟨q,hq⟩:∃ q,q = U / V:=⟨_,rfl⟩
 rw [← hq] at hq1 ⊢
 have hfirst:=qNj hT bu1 hun htop bv1
 have hlow:=qTy hq hUlt rfl bu0 hVge (by omega)
 have hT64:T < 18446744073709551616:=by omega
 have hv1p:0 < v1:=by omega
 have hsh:u2 * 2 ^ 32 < 18446744073709551616:=by
  rw [show (2:Nat) ^ 32 = 4294967296 from by decide]
  omega
 refine Ret.of_WP Tryz.func252 rfl Tryz.ntmps252 rfl ?_
 have hp:=Hp.start (M:=[]) (w:=w)
 (repeat (first|(with_reducible first|apply qF|apply qA|apply qE|apply qB|apply qRz)|(apply wlp;((first|apply qC|apply qD|(apply jC;exact rfl))<;>exact rfl);(first|exact fI rfl|exact fS rfl))))
 (apply wlp;(exact jN rfl rfl);exact qI (b:=((k + 2:Nat):Int)) (by rw [qN (by omega) (by omega)];omega))
 (repeat (first|(with_reducible first|apply qF|apply qE|apply qB)|(apply wlp;apply qD;exact fI rfl)))
 refine jX jW (by kernel_rfl) (fun w'=>Hp _ _ w' _) hp.drew ?_
 have hp:=hp.drew
 (repeat ((apply wdp;exact rfl);(intro w hp;intros;((first|apply qC|(apply qJ;exact rfl)|(apply qR;exact rfl)|exact zN rfl rfl rfl (by assumption))<;>(first|exact rfl|assumption|exact hp.old0 (by assumption))));(intros;(first|exact fI rfl|exact fP rfl|exact fS rfl))))
 (apply wdp;exact rfl;(intro w hp;exact kZ (b:=32) rfl rfl (by decide) hsh);exact fI rfl)
 (repeat ((apply wdp;exact rfl);(intro w hp;intros;apply qC);(intros;(first|exact fI rfl|exact fS rfl))))
 (apply wdp;exact rfl;(intro w hp;exact jN rfl rfl);exact qI (b:=((k + 1:Nat):Int)) (by rw [qN (by omega) (by omega)];omega))
 (repeat ((apply wdp;exact rfl);(intro w hp;intros;((first|(apply qJ;exact rfl)|(apply qR;exact rfl)|exact zN rfl rfl rfl (by assumption))<;>(first|exact rfl|assumption|exact hp.old0 (by assumption))));(intros;(first|exact fI rfl|exact fP rfl))))
 (apply wdp;exact rfl;(intro w hp;exact qAn rfl rfl hsh (by omega));exact qI (b:=(T:Int)) (by rw [Nat.or_comm,qCc (k:=32) bu1,hT,Nat.add_comm]))
 (repeat ((apply wdp;exact rfl);(intro w hp;intros;apply qD);(intros;exact fI rfl)))
 refine jL ?_
 (repeat (with_reducible first|apply qF|apply qB))
 refine jX jW (by kernel_rfl) (fun w'=>Hp _ _ w' _) hp.drew ?_
 have hp:=hp.drew
 (repeat ((apply wdp;exact rfl);(intro w hp;intros;apply qC);(intros;(first|exact fI rfl|exact fS rfl))))
 (apply wdp;exact rfl;(intro w hp;exact jN rfl rfl);exact qI (b:=((k + 1:Nat):Int)) (by rw [qN (by omega) (by omega)];omega))
 (repeat ((apply wdp;exact rfl);(intro w hp;intros;((first|(apply qJ;exact rfl)|(apply qR;exact rfl)|exact zN rfl rfl rfl (by assumption))<;>(first|exact rfl|assumption|exact hp.old0 (by assumption))));(intros;(first|exact fI rfl|exact fP rfl))))
 (apply wdp;exact rfl;(intro w hp;exact qF9 rfl rfl hv1p hT64);exact fI rfl)
 (repeat ((apply wdp;exact rfl);(intro w hp;intros;apply qC);(intros;(first|exact fI rfl|exact fS rfl))))
 (apply wdp;exact rfl;(intro w hp;exact jN rfl rfl);exact qI (b:=((k + 1:Nat):Int)) (by rw [qN (by omega) (by omega)];omega))
 (repeat ((apply wdp;exact rfl);(intro w hp;intros;((first|(apply qJ;exact rfl)|(apply qR;exact rfl)|exact zN rfl rfl rfl (by assumption))<;>(first|exact rfl|assumption|exact hp.old0 (by assumption))));(intros;(first|exact fI rfl|exact fP rfl))))
 (apply wdp;exact rfl;(intro w hp;exact qF8 rfl rfl hv1p);exact fI rfl)
 (repeat ((apply wdp;exact rfl);(intro w hp;intros;apply qD);(intros;exact fI rfl)))
 refine jL ?_
 (repeat (with_reducible first|apply qF|apply qK|apply qB|apply qS1))
 refine uF [7,8,41,42,43,44,45,46,47,48,49,50,51,52,53,54,55,56,57,58,59,60,61,62,63,64,65,66,67,68,69,70,71,72,73,74] (fun (G r:Nat) F=>(F.put 7 (.int .u64 (G:Int))).put 8 (.int .u64 (r:Int)))
  (fun G r w'=>q≤G∧G≤4294967297∧G * v1 + r = T∧Hp w [] w' []) (fun G _=>G) (T / v1) (T % v1) (qG (qG (Same.eq .refl) rfl) rfl) ⟨hlow,hfirst,by rw [Nat.mul_comm];exact Nat.div_add_mod T v1,hp⟩ ?_
 clear hp
 rintro u G r w1 ⟨hG1,hG2,hGT,hp⟩
 (repeat (first|(with_reducible first|apply qF|apply qA|apply qE|apply qB)|(apply wlp;((first|apply qC|apply kB)<;>exact rfl);(first|exact fI rfl|exact fB rfl))))
 refine qM rfl (fun h=>?_) (fun h=>?_)
 ·have hr:r≤4294967295:=by omega
  have down:=fun hd=>qQ5 (q:=q) (B:=4294967297) hGT hd hG2
  have hshr:=qZc hr
  (repeat (with_reducible first|apply qF|apply qK|apply qB|apply qL))
  refine jX jW (by kernel_rfl) (fun w'=>Hp _ _ w' _) hp.drew ?_
  have hp:=hp.drew
  by_cases hgb:G≤4294967295
  ·have hmul:=qZr hgb bv0
   obtain ⟨X,hX⟩:∃ X,X = G * v0:=⟨_,rfl⟩
   rw [← hX] at hmul
   obtain ⟨Y,hY⟩:∃ Y,Y = r * 4294967296 + u0:=⟨_,rfl⟩
   (apply wdp;exact rfl;(intro w hp;exact qC);exact fI rfl)
   (apply wdp;exact rfl;(intro w hp;exact kB rfl rfl);exact jF (b:=true) (decide_eq_true (by omega)))
   (repeat (first|((apply wdp;exact rfl);(intro w hp;intros;apply qC);(intros;(first|exact fI rfl|exact fB rfl|exact fS rfl)))|((apply vD;exact rfl;exact rfl;exact rfl);(intro w hp;apply qC);(intros;(first|exact fI rfl|exact fB rfl|exact fS rfl)))|(apply uN;exact rfl;exact rfl;exact rfl;exact rfl)|(apply uM;exact rfl;exact rfl;exact rfl)))
   (apply vD;exact rfl;exact rfl;exact rfl;(intro w hp;exact jN rfl rfl);exact qI (b:=((k:Nat):Int)) (by rw [qN (by omega) (by omega)];omega))
   (repeat (first|((apply vD;exact rfl;exact rfl;exact rfl);(intro w hp;((first|(apply qJ;exact rfl)|(apply qR;exact rfl)|exact zN rfl rfl rfl (by assumption))<;>(first|exact rfl|assumption|exact hp.old0 (by assumption))));(intros;(first|exact fI rfl|exact fP rfl)))|(apply uN;exact rfl;exact rfl;exact rfl;exact rfl)|(apply uM;exact rfl;exact rfl;exact rfl)))
   (apply vD;exact rfl;exact rfl;exact rfl;(intro w hp;exact qB4 rfl rfl (by rw [← hX];exact hmul));exact qI (b:=(X:Int)) (by rw [hX]))
   (repeat (first|((apply vD;exact rfl;exact rfl;exact rfl);(intro w hp;apply qC);(intros;exact fI rfl))|(apply uN;exact rfl;exact rfl;exact rfl;exact rfl)|(apply uM;exact rfl;exact rfl;exact rfl)))
   (apply vD;exact rfl;exact rfl;exact rfl;(intro w hp;exact kZ (b:=32) rfl rfl (by decide) hshr);exact fI rfl)
   (repeat (first|((apply vD;exact rfl;exact rfl;exact rfl);(intro w hp;apply qC);(intros;(first|exact fI rfl|exact fS rfl)))|(apply uN;exact rfl;exact rfl;exact rfl;exact rfl)|(apply uM;exact rfl;exact rfl;exact rfl)))
   (apply vD;exact rfl;exact rfl;exact rfl;(intro w hp;exact jN rfl rfl);exact qI (b:=((k:Nat):Int)) (by rw [qN (by omega) (by omega)];omega))
   (repeat (first|((apply vD;exact rfl;exact rfl;exact rfl);(intro w hp;((first|(apply qJ;exact rfl)|(apply qR;exact rfl)|exact zN rfl rfl rfl (by assumption))<;>(first|exact rfl|assumption|exact hp.old0 (by assumption))));(intros;(first|exact fI rfl|exact fP rfl)))|(apply uN;exact rfl;exact rfl;exact rfl;exact rfl)|(apply uM;exact rfl;exact rfl;exact rfl)))
   (apply vD;exact rfl;exact rfl;exact rfl;(intro w hp;exact qAn rfl rfl hshr (by omega));exact qI (b:=(Y:Int)) (by rw [Nat.or_comm,qCc (k:=32) bu0,hY,Nat.add_comm]))
   (repeat (first|((apply wdp;exact rfl);(intro w hp;intros;((first|exact zM rfl rfl|apply kB)<;>exact rfl));(intros;exact fB rfl))|((apply vD;exact rfl;exact rfl;exact rfl);(intro w hp;((first|exact zM rfl rfl|apply kB)<;>exact rfl));(intros;exact fB rfl))|(apply uN;exact rfl;exact rfl;exact rfl;exact rfl)|(apply uM;exact rfl;exact rfl;exact rfl)))
   refine jL ?_
   (repeat with_reducible apply qB)
   refine qM rfl (fun h3=>?_) (fun h3=>?_)
   ·have hup:=qQ4 hq hV0 hUge hVle (jA0 (b:=4294967296) (v2:=v0) (u2:=u0) hGT (by omega) hv1p (by rw [← hX,← hY];omega))
    (repeat (first|(with_reducible first|apply qF|apply qA|apply qE|apply qB|apply qO|apply qT|apply jB|apply qM2)|((with_reducible apply qP);exact rfl)|((with_reducible apply qJg);exact rfl)|(apply wlp;(first|apply qC|apply qD);exact fI rfl)))
    exact qU rfl rfl ⟨_,rfl,G,rfl,hG1,hup,hp.keeps⟩
   ·have hdn:q + 1≤G:=by
     exact qJk (_b:=0) hq hUlt hVge (qZy (b:=4294967296) hGT hX hY (by omega))
    obtain ⟨hd1,hd2,hd3⟩:=down hdn
    (repeat (first|(with_reducible first|apply qF|apply qA|apply qB|apply qL)|(apply wlp;apply qC;exact fI rfl)))
    (apply wlp;exact kK (b:=1) rfl rfl (by decide);exact qI (b:=((G - 1:Nat):Int)) (by unfold qBr;omega))
    (repeat (first|(with_reducible first|apply qA|apply qE|apply qB)|(apply wlp;(first|apply qC|apply qD);(first|exact fI rfl|exact fS rfl))))
    (apply wlp;(exact jN rfl rfl);exact qI (b:=((k + 1:Nat):Int)) (by rw [qN (by omega) (by omega)];omega))
    (repeat (apply wlp;((first|(apply qJ;exact rfl)|(apply qR;exact rfl)|exact zN rfl rfl rfl (by assumption))<;>(first|exact rfl|assumption|exact hp.old0 (by assumption)));(first|exact fI rfl|exact fP rfl)))
    (apply wlp;exact uA rfl rfl (by omega);exact fI rfl)
    (repeat (first|(with_reducible first|apply qE|apply qB|apply qZ)|(apply wlp;apply qD;exact fI rfl)))
    exact ⟨G - 1,r + v1,qG (qG (Same.eq (by repeat (first|exact Same.hav|exact Same.refl|refine Same.put rfl ?_|refine Same.havs rfl ?_))) rfl) rfl,⟨hd1,hd2,hd3,hp⟩,by omega⟩
  ·obtain ⟨hd1,hd2,hd3⟩:=down (by omega)
   (apply wdp;exact rfl;(intro w hp;exact qC);exact fI rfl)
   (apply wdp;exact rfl;(intro w hp;exact kB rfl rfl);exact jF (b:=false) (decide_eq_false (by omega)))
   (repeat (first|((apply wdp;exact rfl);(intro w hp;intros;(first|apply qC|exact vX rfl));(intros;exact fB rfl))|(apply uN;exact rfl;exact rfl;exact rfl;exact rfl)|(apply uM;exact rfl;exact rfl;exact rfl)))
   refine jL ?_
   (repeat with_reducible apply qB)
   refine jI rfl ?_
   ·(repeat (first|(with_reducible first|apply qF|apply qA|apply qB|apply qL)|(apply wlp;apply qC;exact fI rfl)))
    (apply wlp;exact kK (b:=1) rfl rfl (by decide);exact qI (b:=((G - 1:Nat):Int)) (by unfold qBr;omega))
    (repeat (first|(with_reducible first|apply qA|apply qE|apply qB)|(apply wlp;(first|apply qC|apply qD);(first|exact fI rfl|exact fS rfl))))
    (apply wlp;(exact jN rfl rfl);exact qI (b:=((k + 1:Nat):Int)) (by rw [qN (by omega) (by omega)];omega))
    (repeat (apply wlp;((first|(apply qJ;exact rfl)|(apply qR;exact rfl)|exact zN rfl rfl rfl (by assumption))<;>(first|exact rfl|assumption|exact hp.old0 (by assumption)));(first|exact fI rfl|exact fP rfl)))
    (apply wlp;exact uA rfl rfl (by omega);exact fI rfl)
    (repeat (first|(with_reducible first|apply qE|apply qB|apply qZ)|(apply wlp;apply qD;exact fI rfl)))
    exact ⟨G - 1,r + v1,qG (qG (Same.eq (by repeat (first|exact Same.hav|exact Same.refl|refine Same.put rfl ?_|refine Same.havs rfl ?_))) rfl) rfl,⟨hd1,hd2,hd3,hp⟩,by omega⟩
 ·have hup:=qQ4 hq hV0 hUge hVle (qZz (b:=4294967296) (u2:=u0) hGT hG2 bv0 (by omega))
  (repeat (first|(with_reducible first|apply qF|apply qA|apply qE|apply qB|apply qO|apply qT|apply jB|apply qM2)|((with_reducible apply qP);exact rfl)|(apply wlp;(first|apply qC|apply qD);exact fI rfl)))
  exact qU rfl rfl ⟨_,rfl,G,rfl,hG1,hup,hp.keeps⟩
end Go.Proofs.YtbgldmoikimmpaaGreatDoor
namespace Go.Proofs.YtbgldmoikimmpaaGreatDoor
open Go.Eng Go.Dig
theorem qWc {y n t s:Nat} (ht:y / 4294967296 ^ n % 4294967296 = t) (hy:y < 4294967296 ^ (n + 1)) (hs:s≤31) (h1:2147483648≤t * 2 ^ s) (h2:t * 2 ^ s < 4294967296):2147483648≤y * 2 ^ s / 4294967296 ^ n∧y * 2 ^ s < 4294967296 ^ (n + 1):=by
 have hp:0 < 4294967296 ^ n:=Nat.pow_pos (by decide)
 have hlt:y / 4294967296 ^ n < 4294967296:=by
  rw [Nat.div_lt_iff_lt_mul hp,Nat.mul_comm,← Nat.pow_succ]
  exact hy
 rw [Nat.mod_eq_of_lt hlt] at ht
 rw [Nat.pow_succ]
 generalize 4294967296 ^ n = P at *
 have h3:t * P≤y:=by rw [← ht];exact Nat.div_mul_le_self y P
 have h4:y < P * (t + 1):=by rw [← ht];exact Nat.lt_mul_div_succ y hp
 constructor
 ·refine Nat.le_trans h1 ?_
  rw [Nat.le_div_iff_mul_le hp,Nat.mul_right_comm]
  exact Nat.mul_le_mul_right _ h3
 ·have e:(4294967296:Nat) = 2 ^ (32 - s) * 2 ^ s:=by rw [← Nat.pow_add,show 32 - s + s = 32 from by omega]
  have h5:t < 2 ^ (32 - s):=by
   rw [e] at h2
   exact Nat.lt_of_mul_lt_mul_right h2
  rw [e,← Nat.mul_assoc]
  refine (Nat.mul_lt_mul_right (Nat.pow_pos (by decide))).2 (Nat.lt_of_lt_of_le h4 ?_)
  exact Nat.mul_le_mul_left _ h5
theorem qVx {U:List Nat} {j n:Nat} (h:j + n≤U.length):∃ A m C,U = A ++ m ++ C∧A.length = j∧m.length = n:=by
 refine ⟨U.take j,(U.drop j).take n,(U.drop j).drop n,?_,by simp;omega,by simp;omega⟩
 rw [List.append_assoc,List.take_append_drop,List.take_append_drop]
theorem qLo {b:Nat} {A m C:List Nat}:val b (A ++ m ++ C) = val b A + b ^ A.length * val b m + b ^ A.length * b ^ m.length * val b C:=by
 rw [yM,yM,List.length_append,Nat.pow_add]
theorem qU2 {b:Nat} {A m C:List Nat} {v n:Nat} (hb:0 < b) (hm:m.length = n + 1) (hv:v < b ^ n) (h:val b (A ++ m ++ C) < v * b ^ (A.length + 1)):val b C = 0∧val b m < v * b∧val b (A ++ m ++ C) = val b A + b ^ A.length * val b m:=by
 have e:=qLo (b:=b) (A:=A) (m:=m) (C:=C)
 rw [hm] at e
 have hp:0 < b ^ A.length:=Nat.pow_pos hb
 have hC:val b C = 0:=by
  rcases Nat.eq_zero_or_pos (val b C) with h0|h0
  ·exact h0
  ·have h1:b ^ A.length * b ^ (n + 1) * 1≤b ^ A.length * b ^ (n + 1) * val b C:=Nat.mul_le_mul_left _ h0
   have h2:v * b ^ (A.length + 1)≤b ^ A.length * b ^ (n + 1):=by
    rw [Nat.pow_succ,Nat.pow_succ,← Nat.mul_assoc,← Nat.mul_assoc,Nat.mul_comm v]
    exact Nat.mul_le_mul_right _ (Nat.mul_le_mul_left _ (Nat.le_of_lt hv))
   omega
 rw [hC,Nat.mul_zero,Nat.add_zero] at e
 refine ⟨hC,?_,e⟩
 rw [e,Nat.pow_succ,← Nat.mul_assoc,Nat.mul_right_comm] at h
 have h3:val b m * b ^ A.length < v * b * b ^ A.length:=by
  have:b ^ A.length * val b m = val b m * b ^ A.length:=Nat.mul_comm _ _
  omega
 exact Nat.lt_of_mul_lt_mul_right h3
theorem qR5 {b:Nat} {A:List Nat} {v M Z q:Nat} (hA:Bd b A) (hv:0 < v) (hz:Z = M % v) (hq:q = M / v):val b A + b ^ A.length * Z + v * (b ^ A.length * q) = val b A + b ^ A.length * M∧val b A + b ^ A.length * Z < v * b ^ A.length:=by
 have h1:=yL hA
 have h2:=Nat.div_add_mod M v
 rw [← hz,← hq] at h2
 have h3:Z < v:=by rw [hz];exact Nat.mod_lt _ hv
 generalize b ^ A.length = P at *
 constructor
 ·rw [← h2,Nat.mul_add,Nat.mul_left_comm]
  omega
 ·have h4:P * (Z + 1)≤P * v:=Nat.mul_le_mul_left P h3
  rw [Nat.mul_add,Nat.mul_comm P v] at h4
  omega
theorem jCx {Z G v M q:Nat} (hv:0 < v) (hq:q = M / v) (h1:q≤G) (h:Z + G * v = M):G = q∧Z = M % v:=by
 have h2:G≤M / v:=(Nat.le_div_iff_mul_le hv).2 (by omega)
 have h3:G = q:=by omega
 refine ⟨h3,?_⟩
 have h4:=Nat.div_add_mod M v
 rw [← hq,← h3,Nat.mul_comm] at h4
 omega
theorem jCw {Z G v M q P:Nat} (hv:0 < v) (hq:q = M / v) (h1:G≤q + 1) (hZ:Z < P) (hvP:v≤P) (h:Z + G * v = M + P):G = q + 1∧(Z + v) % P = M % v:=by
 have h2:M < G * v:=by omega
 have h3:M / v < G:=(Nat.div_lt_iff_lt_mul hv).2 h2
 have h4:G = q + 1:=by omega
 refine ⟨h4,?_⟩
 have h5:=Nat.div_add_mod M v
 rw [← hq,Nat.mul_comm] at h5
 rw [h4,Nat.add_mul,Nat.one_mul] at h
 have h6:Z + v = P + M % v:=by omega
 have h7:=Nat.mod_lt M hv
 rw [h6,Nat.add_mod_left,Nat.mod_eq_of_lt (by omega)]
theorem qU3 {x y t R Q:Nat} (hy:0 < y) (h:R + y * 2 ^ t * Q = x * 2 ^ t) (hR:R < y * 2 ^ t):Q = x / y∧R / 2 ^ t = x % y:=by
 have hp:0 < 2 ^ t:=Nat.pow_pos (by decide)
 have hyp:0 < y * 2 ^ t:=Nat.mul_pos hy hp
 have h1:(R + y * 2 ^ t * Q) / (y * 2 ^ t) = Q:=by rw [Nat.add_mul_div_left _ _ hyp,Nat.div_eq_of_lt hR,Nat.zero_add]
 rw [h,Nat.mul_div_mul_right _ _ hp] at h1
 have h2:(R + y * 2 ^ t * Q) % (y * 2 ^ t) = R:=by rw [Nat.add_mul_mod_self_left,Nat.mod_eq_of_lt hR]
 rw [h,Nat.mul_mod_mul_right] at h2
 refine ⟨h1.symm,?_⟩
 rw [← h2,Nat.mul_div_cancel _ hp]
theorem Hp.callL {w0 w w':World} {M:List Nat} {L:List Ent} (h:Hp w0 M w L) (i:Nat) {g c:Nat} {l l':List Nat} (hi:L[i]? = some (qW eW 242 1 (some ⟨g,0,none⟩) c l)) (hk:Keeps [g] w w')
  (ho:∃ o,w'.heap[g]? = some o∧(qW eW 242 1 (some ⟨g,0,none⟩) c l').2 o):Hp w0 M w' (L.set i (qW eW 242 1 (some ⟨g,0,none⟩) c l')):=
 h.upd hi hk (by
  intro q hq
  have:q = g:=by
   have h2:(some g:Option Nat) = some q:=hq
   simpa [eq_comm] using h2
  subst this
  exact ⟨.inl rfl,ho⟩)
theorem qS6 {w:World} {g:Nat} {A m C:List Nat} (h:SlAt w 1 eW (some ⟨g,0,none⟩) (A ++ m ++ C)):SlAt w 1 eW (some ⟨g,0 + A.length * 1,none⟩) m:=by
 intro i x hx
 have hlt:=(List.getElem?_eq_some_iff.1 hx).1
 have hg:=qD5 (A:=A) (C:=C) hlt
 rw [← List.getElem?_eq_getElem hlt,hx] at hg
 obtain ⟨b,o,hs,hc⟩:=h (A.length + i) x hg
 cases hs
 refine ⟨g,_,rfl,fun j v hv=>?_⟩
 have:=hc j v hv
 rwa [show 0 + (A.length + i) * 1 + j = 0 + A.length * 1 + i * 1 + j from by omega] at this
attribute [local irreducible] PV StepF wpl wpd WP Ret
theorem jD5 (x y:Nat) (s s2:Option Addr) (c c2:Nat) (w:World) (hx:DA w x s c) (hy:DA w y s2 c2) (hlt:x < y) :
  Ret Tryz.prog 169 [.slice s (dN x).length c,.slice s2 (dN y).length c2] w (fun v w'=>∃ s' c' s3 c3,v = .tuple #[.slice s' (dN (x / y)).length c',.slice s3 (dN (x % y)).length c3]∧DA w' (x / y) s' c'∧DA w' (x % y) s3 c3∧Keeps [] w w'):=by
 rw [Nat.div_eq_of_lt hlt,Nat.mod_eq_of_lt hlt]
 refine Ret.of_WP Tryz.func169 rfl Tryz.ntmps169 rfl ?_
 have hp:=Hp.start (M:=[]) (w:=w)
 (repeat (first|(with_reducible first|apply qF|apply qA|apply qE|apply qB)|(apply wlp;(first|apply qC|apply qD);exact fS rfl)))
 (apply wls;exact qH rfl qFq rfl (c71 x y s s2 c c2 _ hx hy))
 rintro _ w1 ⟨rfl,hk⟩
 have hp:=hp.call hk
 rw [if_pos hlt]
 (repeat (first|(with_reducible first|apply qE|apply qB)|(apply wlp;(apply jA<;>exact rfl);exact fB rfl)))
 refine yI rfl ?_
 (repeat (first|(with_reducible first|apply qF|apply qA|apply qE|apply qB|apply jV|apply qT)|(apply wlp;(first|apply qC|apply qD);exact fS rfl)))
 exact zX rfl rfl rfl ⟨_,rfl,none,0,s,c,rfl,DA.zero _,hx.keep hp.keeps,hp.keeps⟩
theorem jD4 (x y:Nat) (s s2:Option Addr) (c c2:Nat) (w:World) (hx:DA w x s c) (hy:DA w y s2 c2) (hy0:0 < y) (hle:y≤x) (hl:(dN x).length≤2) :
  Ret Tryz.prog 169 [.slice s (dN x).length c,.slice s2 (dN y).length c2] w (fun v w'=>∃ s' c' s3 c3,v = .tuple #[.slice s' (dN (x / y)).length c',.slice s3 (dN (x % y)).length c3]∧DA w' (x / y) s' c'∧DA w' (x % y) s3 c3∧Keeps [] w w'):=by
 have hx64:x < 18446744073709551616:=uK hl
 have hy64:y < 18446744073709551616:=by omega
 refine Ret.of_WP Tryz.func169 rfl Tryz.ntmps169 rfl ?_
 have hp:=Hp.start (M:=[]) (w:=w)
 (repeat (first|(with_reducible first|apply qF|apply qA|apply qE|apply qB)|(apply wlp;(first|apply qC|apply qD);exact fS rfl)))
 (apply wls;exact qH rfl qFq rfl (c71 x y s s2 c c2 _ hx hy))
 rintro _ w1 ⟨rfl,hk⟩
 have hp:=hp.call hk
 (apply wlp;exact jA rfl rfl;exact jF (b:=false) (decide_eq_false (by rw [if_neg (by omega)];split<;>omega)))
 (repeat (with_reducible first|apply qE|apply qB))
 refine jI rfl ?_
 (repeat (first|(with_reducible first|apply qF|apply qA|apply qE|apply qB|apply qL)|(apply wlp;((first|apply qC|(apply jC;exact rfl)|apply kB)<;>exact rfl);(first|exact fI rfl|exact fB rfl|exact fS rfl))))
 refine qM rfl (fun _=>?_) (fun h=>absurd hl (by omega))
 (repeat (first|(with_reducible first|apply qF|apply qA)|(apply wlp;apply qC;exact fS rfl)))
 (apply wls;exact qH rfl qQk rfl (c58 x s c _ hx64 (hx.keep hp.keeps)))
 rintro _ w2 ⟨rfl,hk⟩
 have hp:=hp.call hk
 (repeat (apply wlp;apply qC;exact fS rfl))
 (apply wls;exact qH rfl qQk rfl (c58 y s2 c2 _ hy64 (hy.keep hp.keeps)))
 rintro _ w3 ⟨rfl,hk⟩
 have hp:=hp.call hk
 (repeat (first|(with_reducible first|apply qF|apply qE|apply qB)|(apply wlp;apply qD;exact fI rfl)))
 refine jX jW (by kernel_rfl) (fun w'=>Hp _ _ w' _) hp.drew ?_
 have hp:=hp.drew
 (repeat ((apply wdp;exact rfl);(intro w hp;intros;apply qC);(intros;exact fI rfl)))
 (apply wdp;exact rfl;(intro w hp;exact qF9 rfl rfl hy0 hx64);exact fI rfl)
 skip
 (apply wds;exact rfl;exact qH rfl qI8 rfl (c39 (x / y) _ (Nat.lt_of_le_of_lt (Nat.div_le_self x y) hx64));rintro _ w4 ⟨s3,c3,rfl,hd3,hk⟩;have hp:=hp.call hk;refine ⟨hp,?_⟩)
 (repeat ((apply wdp;exact rfl);(intro w hp;intros;apply qC);(intros;exact fI rfl)))
 (apply wdp;exact rfl;(intro w hp;exact qF8 rfl rfl hy0);exact fI rfl)
 skip
 (apply wds;exact rfl;exact qH rfl qI8 rfl (c39 (x % y) _ (Nat.lt_of_le_of_lt (Nat.mod_le x y) hx64));rintro _ w5 ⟨s4,c4,rfl,hd4,hk⟩;have hp:=hp.call hk;have hd3:=hd3.keep hk;refine ⟨hp,?_⟩)
 (repeat ((apply wdp;exact rfl);(intro w hp;intros;apply qD);(intros;exact fS rfl)))
 refine jL ?_
 (repeat (with_reducible first|apply qB|apply jV|apply qT))
 exact zX rfl rfl rfl ⟨_,rfl,s3,c3,s4,c4,rfl,hd3,hd4,hp.keeps⟩
theorem jD3 (x y:Nat) (s s2:Option Addr) (c c2:Nat) (w:World) (hx:DA w x s c) (hy:DA w y s2 c2) (hle:y≤x) (hl:2 < (dN x).length) (hlx:(dN x).length≤100000) (hly:(dN y).length = 1) :
  Ret Tryz.prog 169 [.slice s (dN x).length c,.slice s2 (dN y).length c2] w (fun v w'=>∃ s' c' s3 c3,v = .tuple #[.slice s' (dN (x / y)).length c',.slice s3 (dN (x % y)).length c3]∧DA w' (x / y) s' c'∧DA w' (x % y) s3 c3∧Keeps [] w w'):=by
 have hyb:y < 4294967296:=uK (i:=1) (by omega)
 have hy0:0 < y:=by
  rcases Nat.eq_zero_or_pos y with h|h
  ·subst h;simp [qEl] at hly
  ·exact h
 have hm:x % y < y:=Nat.mod_lt _ hy0
 have hmb:x % y < 4294967296:=by omega
 have h0y:0 < (dN y).length:=by omega
 obtain ⟨b0,o0,hs0,hc0⟩:=hy.at_.base h0y
 have hci:=hc0 0 _ (List.getElem?_eq_getElem h0y) 0 _ rfl
 have hg:=uJ h0y
 rw [Nat.pow_zero,Nat.div_one,Nat.mod_eq_of_lt hyb] at hg
 rw [hg] at hci
 have hci:w.cell? ⟨b0,o0 + 0 * 1,none⟩ = some (.int .u32 (y:Int)):=hci
 refine Ret.of_WP Tryz.func169 rfl Tryz.ntmps169 rfl ?_
 have hp:=Hp.start (M:=[]) (w:=w)
 (repeat (first|(with_reducible first|apply qF|apply qA|apply qE|apply qB)|(apply wlp;(first|apply qC|apply qD);exact fS rfl)))
 (apply wls;exact qH rfl qFq rfl (c71 x y s s2 c c2 _ hx hy))
 rintro _ w1 ⟨rfl,hk⟩
 have hp:=hp.call hk
 (apply wlp;exact jA rfl rfl;exact jF (b:=false) (decide_eq_false (by rw [if_neg (by omega)];split<;>omega)))
 (repeat (with_reducible first|apply qE|apply qB))
 refine jI rfl ?_
 (repeat (first|(with_reducible first|apply qF|apply qA|apply qE|apply qB|apply qL)|(apply wlp;((first|apply qC|(apply jC;exact rfl)|apply kB)<;>exact rfl);(first|exact fI rfl|exact fB rfl|exact fS rfl))))
 refine qM rfl (fun h=>absurd hl (by omega)) (fun _=>?_)
 (repeat (first|(with_reducible first|apply qF|apply qA|apply qE|apply qB|apply qL)|(apply wlp;((first|apply qC|(apply jC;exact rfl)|(apply zF;(first|exact rfl|exact jR rfl (by assumption))))<;>exact rfl);(first|exact fI rfl|exact fB rfl|exact fS rfl))))
 refine qM rfl (fun _=>?_) (fun h=>absurd hly (by omega))
 (repeat (with_reducible first|apply qF|apply qA))
 (apply wlp;apply qC;exact fS rfl)
 (apply wlp;apply qC;exact fS rfl)
 (apply wlp;exact qR (i:=0) rfl rfl rfl hs0 h0y;exact fP rfl)
 (repeat (apply wlp;((apply qJ;exact rfl)<;>(first|exact rfl|exact hp.old0 (by assumption)));exact fI rfl))
 (apply wls;exact qH rfl qXi rfl (c74 x y s c _ (hx.keep hp.keeps) hlx hy0 hyb))
 rintro _ w2 ⟨s3,c3,rfl,hd3,hk⟩
 have hp:=hp.call hk
 (repeat (first|(with_reducible first|apply qF|apply qA|apply qE|apply qB)|(apply wlp;((first|apply qC|apply qD|apply jK|exact zN rfl rfl rfl (by assumption))<;>exact rfl);(first|exact fI rfl|exact fS rfl|exact fU rfl))))
 (apply wls;exact qH rfl qI8 rfl (c39 (x % y) _ (by omega)))
 rintro _ w5 ⟨s4,c4,rfl,hd4,hk⟩
 have hp:=hp.call hk
 have hd3:=hd3.keep hk
 (repeat (first|(with_reducible first|apply qE|apply qB|apply jV|apply qT)|(apply wlp;apply qD;exact fS rfl)))
 exact zX rfl rfl rfl ⟨_,rfl,s3,c3,s4,c4,rfl,hd3,hd4,hp.keeps⟩
end Go.Proofs.YtbgldmoikimmpaaGreatDoor
namespace Go.Proofs.YtbgldmoikimmpaaGreatDoor
open Go.Eng Go.Dig
theorem qIq {b:Nat} {l:List Nat} {j d:Nat} (hj:j < l.length) (h0:l[j] = 0):val b (l.set j d) = val b l + b ^ j * d:=by
 have:=qBk b l j d hj
 rw [h0] at this
 omega
theorem qBx {l:List Nat} {j d:Nat} (h:l.take (j + 1) = List.replicate (j + 1) 0):(l.set j d).take j = List.replicate j 0:=by
 rw [List.take_set,List.set_eq_of_length_le (by simp;omega)]
 have:=congrArg (List.take j) h
 rw [List.take_take,Nat.min_eq_left (by omega),List.take_replicate,Nat.min_eq_left (by omega)] at this
 exact this
theorem qS9 {l:List Nat} {j:Nat} (h:l.take (j + 1) = List.replicate (j + 1) 0) (hj:j < l.length):l[j] = 0:=by
 have h1:(l.take (j + 1))[j]? = some l[j]:=by rw [List.getElem?_take,if_pos (by omega),List.getElem?_eq_getElem hj]
 rw [h,List.getElem?_replicate,if_pos (by omega)] at h1
 simpa using h1.symm
theorem qR8 (b v n:Nat):(dg b v (n + 1)).take n = dg b v n:=by
 rw [qEk,List.take_left' (uI b n v)]
theorem qHa {b:Nat} {l:List Nat} {n:Nat} (_hb:0 < b) (hl:n≤l.length) (h:val b l < b ^ n):val b (l.take n) = val b l:=by
 have e:=kV b l n hl
 rcases Nat.eq_zero_or_pos (val b (l.drop n)) with h0|h0
 ·rw [e,h0];simp
 ·have:b ^ n * 1≤b ^ n * val b (l.drop n):=Nat.mul_le_mul_left _ h0
  omega
theorem qN1:Tryz.prog.underlying 230 = some (.slice 242)∧TSize Tryz.prog 242 1:=xT rfl
attribute [local irreducible] PV StepF wpl wpd WP Ret
theorem jD2 (x y k e:Nat) (s s2:Option Addr) (c c2:Nat) (w:World) (hx:DA w x s c) (hy:DA w y s2 c2) (hle:y≤x) (hlx:(dN x).length = k + 2 + e) (hly:(dN y).length = k + 2) (hl:2 < k + 2 + e) (hmx:k + 2 + e≤100000) :
  Ret Tryz.prog 169 [.slice s (k + 2 + e) c,.slice s2 (k + 2) c2] w (fun v w'=>∃ s' c' s3 c3,v = .tuple #[.slice s' (dN (x / y)).length c',.slice s3 (dN (x % y)).length c3]∧DA w' (x / y) s' c'∧DA w' (x % y) s3 c3∧Keeps [] w w'):=by
 have hy0:0 < y:=by
  rcases Nat.eq_zero_or_pos y with h|h
  ·subst h;simp [qEl] at hly
  ·exact h
 have k1y:k + 1 < k + 2:=by omega
 have hky:k + 1 < (dN y).length:=by omega
 have h71:=c71 x y s s2 c c2 w hx hy
 rw [hlx,hly] at h71
 obtain ⟨b0,o0,hs0,hc0⟩:=hy.at_.base (by omega)
 have hci:=hc0 (k + 1) _ (List.getElem?_eq_getElem hky) 0 _ rfl
 have hg:=uJ hky
 have hgb:=(qFv y).get hky
 have hg0:0 < (dN y)[k + 1]:=by
  have hlast:=qDq (b:=4294967296) (by decide) y ((dN y).take (k + 1)) (dN y)[k + 1] (by
   show dN y = _
   rw [← List.take_succ_eq_append_getElem hky,List.take_of_length_le (by omega)])
  omega
 generalize (dN y)[k + 1] = t at hci hg hgb hg0
 have hylt:y < 4294967296 ^ (k + 1 + 1):=uK (by omega)
 refine Ret.of_WP Tryz.func169 rfl Tryz.ntmps169 rfl ?_
 have hp:=Hp.start (M:=[]) (w:=w)
 (repeat (first|(with_reducible first|apply qF|apply qA|apply qE|apply qB)|(apply wlp;(first|apply qC|apply qD);exact fS rfl)))
 (apply wls;exact qH rfl qFq rfl h71)
 rintro _ w1 ⟨rfl,hk⟩
 have hp:=hp.call hk
 (apply wlp;exact jA rfl rfl;exact jF (b:=false) (decide_eq_false (by rw [if_neg (by omega)];split<;>omega)))
 (repeat (with_reducible first|apply qE|apply qB))
 refine jI rfl ?_
 (repeat (first|(with_reducible first|apply qF|apply qA|apply qE|apply qB|apply qL)|(apply wlp;((first|apply qC|(apply jC;exact rfl)|apply kB)<;>exact rfl);(first|exact fI rfl|exact fB rfl|exact fS rfl))))
 refine qM rfl (fun h=>absurd hl (by omega)) (fun _=>?_)
 (repeat (first|(with_reducible first|apply qF|apply qA|apply qE|apply qB|apply qL)|(apply wlp;((first|apply qC|(apply jC;exact rfl)|(apply zF;(first|exact rfl|exact jR rfl (by assumption))))<;>exact rfl);(first|exact fI rfl|exact fB rfl|exact fS rfl))))
 refine qM rfl (fun h=>absurd h (by omega)) (fun _=>?_)
 (repeat (first|(with_reducible first|apply qF|apply qA|apply qE|apply qB|apply qL)|(apply wlp;((first|apply qC|apply qD|(apply jC;exact rfl))<;>exact rfl);(first|exact fI rfl|exact fS rfl))))
 (apply wlp;(exact jN rfl rfl);exact qI (b:=((k + 1:Nat):Int)) (by rw [qN (by omega) (by omega)];omega))
 (repeat (apply wlp;((first|(apply qJ;exact rfl)|(apply qR;exact rfl))<;>(first|exact rfl|assumption|exact hp.old0 (by assumption)));(first|exact fI rfl|exact fP rfl)))
 (apply wls;exact qH rfl qXh rfl (c75 t _ hg0 hgb))
 rintro _ w2 ⟨sh,rfl,hsh,ht1,ht2,hk⟩
 have hp:=hp.call hk
 obtain ⟨hn1,hn2⟩:=qWc hg.symm hylt hsh ht1 ht2
 have h76x:=c76 x sh s c w2 (hx.keep hp.keeps) (by omega) hsh
 rw [hlx] at h76x
 (repeat (first|(with_reducible first|apply qF|apply qA|apply qE|apply qB)|(apply wlp;(first|apply qC|apply qD);(first|exact fI rfl|exact fS rfl))))
 (apply wls;exact qH rfl qQi rfl h76x)
 rintro _ w3 ⟨gu,rfl,hvu,hpu⟩
 have hp:=hp.join hpu
 have h76y:=c76 y sh s2 c2 w3 (hy.keep hp.keeps) (by omega) hsh
 rw [hly] at h76y
 (repeat (apply wlp;apply qC;(first|exact fI rfl|exact fS rfl)))
 (apply wls;exact qH rfl qQi rfl h76y)
 rintro _ w4 ⟨gv,rfl,hvv,hpv⟩
 have hp:=hp.join hpv
 clear h71 h76x h76y hpu hpv
 obtain ⟨v,hvdef⟩:∃ v,v = y * 2 ^ sh:=⟨_,rfl⟩
 rw [← hvdef] at hn1 hn2 hvv hp
 have hv0:0 < v:=by rw [hvdef];exact Nat.mul_pos hy0 (Nat.pow_pos (by decide))
 obtain ⟨VL,hVL⟩:∃ VL,VL = dg 4294967296 v (k + 2 + 1):=⟨_,rfl⟩
 obtain ⟨vl,hvl⟩:∃ vl,vl = VL.take (k + 2):=⟨_,rfl⟩
 have hvl2:vl = dg 4294967296 v (k + 2):=by rw [hvl,hVL,qR8]
 have hVLl:VL.length = k + 3:=by rw [hVL,uI]
 have hvll:vl.length = k + 2:=by rw [hvl2,uI]
 have hVLb:Bd 4294967296 VL:=by rw [hVL];exact qFu (by decide) _ _
 have hvlb:Bd 4294967296 vl:=by rw [hvl2];exact qFu (by decide) _ _
 have hvlv:val 4294967296 vl = v:=by rw [hvl2,qIc,Nat.mod_eq_of_lt hn2]
 have htop:∀ h:k + 1 < VL.length,2147483648≤VL[k + 1]:=by
  intro h
  have h1:=qDr 4294967296 (k + 2 + 1) v (k + 1) (by omega)
  rw [← hVL,List.getElem?_eq_getElem h] at h1
  have h2:VL[k + 1] = v / 4294967296 ^ (k + 1) % 4294967296:=by simpa using h1
  have h3:v / 4294967296 ^ (k + 1) < 4294967296:=by
   rw [Nat.div_lt_iff_lt_mul (Nat.pow_pos (by decide)),Nat.mul_comm,← Nat.pow_succ]
   exact hn2
  rw [h2,Nat.mod_eq_of_lt h3]
  exact hn1
 rw [← hVL] at hvv hp
 obtain ⟨U0,hU0⟩:∃ U0,U0 = dg 4294967296 (x * 2 ^ sh) (k + 2 + e + 1):=⟨_,rfl⟩
 have hU0l:U0.length = k + 2 + e + 1:=by rw [hU0,uI]
 have hU0b:Bd 4294967296 U0:=by rw [hU0];exact qFu (by decide) _ _
 have hxlt:x < 4294967296 ^ (k + 2 + e):=uK (by omega)
 have hU0v:val 4294967296 U0 = x * 2 ^ sh:=by
  rw [hU0,qIc,Nat.mod_eq_of_lt]
  rw [Nat.pow_succ]
  exact Nat.mul_lt_mul'' hxlt (Nat.lt_of_le_of_lt (Nat.pow_le_pow_right (by decide) hsh) (by decide))
 have hU0lt:val 4294967296 U0 < v * 4294967296 ^ (e + 1):=by
  have h1:=yL hU0b
  rw [hU0v] at h1 ⊢
  have h2:4294967296 ^ (k + 1)≤y:=by
   have:=Nat.div_mul_le_self y (4294967296 ^ (k + 1))
   have h3:1≤y / 4294967296 ^ (k + 1):=by
    rcases Nat.eq_zero_or_pos (y / 4294967296 ^ (k + 1)) with h0|h0
    ·rw [h0,Nat.zero_mod] at hg;omega
    ·exact h0
   have h4:1 * 4294967296 ^ (k + 1)≤y / 4294967296 ^ (k + 1) * 4294967296 ^ (k + 1):=Nat.mul_le_mul_right _ h3
   omega
  rw [hvdef,Nat.mul_right_comm]
  refine (Nat.mul_lt_mul_right (Nat.pow_pos (by decide))).2 (Nat.lt_of_lt_of_le hxlt ?_)
  rw [show k + 2 + e = (k + 1) + (e + 1) from by omega,Nat.pow_add]
  exact Nat.mul_le_mul_right _ h2
 rw [← hU0] at hvu hp
 clear hU0 hg hgb hg0 hci hs0 hc0 hylt hxlt ht1 ht2
 (repeat (first|(with_reducible first|apply qF|apply qA|apply qE|apply qB)|(apply wlp;((first|apply qC|apply qD|(apply jC;exact rfl))<;>exact rfl);(first|exact fI rfl|exact fS rfl))))
 (apply wlp;(exact jN rfl rfl);exact qI (b:=((e:Nat):Int)) (by rw [qN (by omega) (by omega)];omega))
 (apply wlp;(exact qY rfl rfl);exact qI (b:=((e + 1:Nat):Int)) (by rw [qN (by omega) (by omega)];omega))
 (apply wls;exact vL eW 0 hp rfl rfl rfl rfl rfl rfl rfl (by omega) rfl;rintro _ w5 ⟨gq,rfl,hvq,hp⟩)
 have hp:Hp w [] w5 [qW eW 242 1 (some ⟨gq,0,none⟩) (e + 1) (List.replicate (e + 1) 0),qW eW 242 1 (some ⟨gv,0,none⟩) (k + 2 + 1) VL,qW eW 242 1 (some ⟨gu,0,none⟩) (k + 2 + e + 1) U0]:=hp
 (repeat (first|(with_reducible first|apply qF|apply qA|apply qE|apply qB)|(apply wlp;((first|apply qC|apply qD|(apply jC;exact rfl))<;>exact rfl);(first|exact fI rfl|exact fS rfl))))
 (apply wlp;(exact jN rfl rfl);exact qI (b:=((e:Nat):Int)) (by rw [qN (by omega) (by omega)];omega))
 (repeat (first|(with_reducible first|apply qK|apply qE|apply qB)|(apply wlp;apply qD;exact fI rfl)))
 refine zW [14,15,75,76,77,78,79,80,81,82,83,84,85,86,87,88,89,90,91,92,93,94,95,96,97,98,99,100,101,102,103,104,105,106,107,108,109,110,111,112,113,114,115,116,117] (fun (j:Nat) (_U _z:List Nat) F=>F.put 14 (.int .i64 ((j:Int) - 1)))
  (fun j U z w'=>j≤e + 1∧U.length = k + 2 + e + 1∧Bd 4294967296 U∧z.length = e + 1∧Bd 4294967296 z∧z.take j = List.replicate j 0∧val 4294967296 U + v * val 4294967296 z = x * 2 ^ sh∧val 4294967296 U < v * 4294967296 ^ j∧SVL (some ⟨gu,0,none⟩) (k + 2 + e + 1) U∧SVL (some ⟨gq,0,none⟩) (e + 1) z∧Hp w [] w' [qW eW 242 1 (some ⟨gq,0,none⟩) (e + 1) z,qW eW 242 1 (some ⟨gv,0,none⟩) (k + 2 + 1) VL,qW eW 242 1 (some ⟨gu,0,none⟩) (k + 2 + e + 1) U])
  (fun j _ _=>j) (e + 1) U0 (List.replicate (e + 1) 0) (qG (Same.eq .refl) (qI (by omega))) ⟨Nat.le_refl _,hU0l,hU0b,by simp,uV (by decide) _,by simp,by rw [qBj,hU0v];simp,hU0lt,hvu,hvq,hp⟩ ?_
 clear hp hvu hvq hU0l hU0b hU0v hU0lt
 rintro u j U z w6 ⟨hj,hUl,hUb,hzl,hzb,hz0,hsum,hUlt,hvu,hvq,hp⟩
 (repeat (first|(with_reducible first|apply qF|apply qA|apply qE|apply qB)|(apply wlp;((first|apply qC|apply xF)<;>exact rfl);(first|exact fI rfl|exact fB rfl))))
 refine qM rfl (fun h2=>?_) (fun h2=>?_)
 ·obtain ⟨j,rfl⟩:∃ j',j = j' + 1:=⟨j - 1,by omega⟩
  obtain ⟨A,m,C,rfl,hA,hml⟩:=qVx (U:=U) (j:=j) (n:=k + 3) (by omega)
  subst hA
  have ej:((A.length + 1:Nat):Int) - 1 = (A.length:Int):=by omega
  rw [ej]
  have hmb:Bd 4294967296 m:=hUb.left.right
  have hAb:Bd 4294967296 A:=hUb.left.left
  have hCb:Bd 4294967296 C:=hUb.right
  obtain ⟨hC0,hmv,hUe⟩:=qU2 (by decide) hml hn2 hUlt
  have hjq:A.length < e + 1:=by omega
  have hjz:A.length < z.length:=by omega
  have hz00:=qS9 hz0 hjz
  have hSV:SlAt w6 1 eW (some ⟨gv,0,none⟩) VL:=jS hp 1 rfl hvv (fun _=>rfl)
  have hSU:SlAt w6 1 eW (some ⟨gu,0,none⟩) (A ++ m ++ C):=jS hp 2 rfl hvu (fun _=>rfl)
  have h77:=c77 m VL k (k + 2 + e + 1 - A.length) (k + 2 + 1) _ _ w6 (qS6 hSU) hSV hmb hVLb hml hVLl (by omega) (by rw [← hvl,hvlv];exact hmv) htop
  rw [← hvl,hvlv] at h77
  obtain ⟨M,hM⟩:∃ M,M = val 4294967296 m:=⟨_,rfl⟩
  obtain ⟨q,hq⟩:∃ q,q = M / v:=⟨_,rfl⟩
  rw [← hM] at h77 hmv hUe
  rw [← hq] at h77
  have hqb:q < 4294967296:=by rw [hq];exact (Nat.div_lt_iff_lt_mul hv0).2 (by rw [Nat.mul_comm];exact hmv)
  (repeat (first|(with_reducible first|apply qF|apply qK|apply qA|apply qB|apply qL)|(apply wlp;apply qC;(first|exact fI rfl|exact fS rfl))))
  (apply wlp;(exact qY rfl rfl);exact qI (b:=((A.length + (k + 2):Nat):Int)) (by rw [qN (by omega) (by omega)];omega))
  (apply wlp;(exact qY rfl rfl);exact qI (b:=((A.length + (k + 2) + 1:Nat):Int)) (by rw [qN (by omega) (by omega)];omega))
  (apply wlp;exact qCa qN1.1 qN1.2 rfl rfl rfl (by omega) (by omega) (by omega);exact qDz (m':=k + 3) (by omega))
  (repeat (apply wlp;apply qC;exact fS rfl))
  (apply wls;exact qH rfl qXg rfl h77)
  rintro _ w7 ⟨G,rfl,hG1,hG2,hk⟩
  have hp:=hp.call hk
  (repeat (first|(with_reducible first|apply qF|apply qE|apply qB)|(apply wlp;apply qD;exact fI rfl)))
  refine jX jW (by kernel_rfl) (fun _=>True) trivial ?_
  have hp:=hp.drew
  have hSV:SlAt w7.drew 1 eW (some ⟨gv,0,none⟩) VL:=jS hp 1 rfl hvv (fun _=>rfl)
  have hSv:SlAt w7.drew 1 eW (some ⟨gv,0,none⟩) vl:=by rw [hvl];exact qDv hSV _
  have hgne:gv ≠ gu:=fun h=>hp.dis 1 2 _ _ rfl rfl (by decide) gv rfl (by rw [h];rfl)
  have hne:∀ b o,(some ⟨gv,0,none⟩:Option Addr) = some ⟨b,o,none⟩→b ≠ gu:=by
   rintro b o h
   cases h
   exact hgne
  obtain ⟨o1,ho1,hoo1⟩:=hp.has 2 _ rfl gu rfl
  have h78:=c78 A m C vl G gu (k + 2 + e + 1) (k + 2 + e + 1 - A.length) (k + 2 + 1) _ w7.drew o1 ho1 hoo1 hvu hSv hne hmb hvlb (by omega) (by omega) (by omega)
  rw [hvll] at h78
  (repeat ((apply wdp;exact rfl);(intro w hp;intros;apply qC);(intros;(first|exact fI rfl|exact fS rfl))))
  (apply wdp;exact rfl;(intro w hp;exact qY rfl rfl);exact qI (b:=((A.length + (k + 2):Nat):Int)) (by rw [qN (by omega) (by omega)];omega))
  (apply wdp;exact rfl;(intro w hp;exact qY rfl rfl);exact qI (b:=((A.length + (k + 2) + 1:Nat):Int)) (by rw [qN (by omega) (by omega)];omega))
  (apply wdp;exact rfl;(intro w hp;exact qCa qN1.1 qN1.2 rfl rfl rfl (by omega) (by omega) (by omega));exact qDz (m':=k + 2 + 1) (by omega))
  (repeat ((apply wdp;exact rfl);(intro w hp;intros;apply qC);(intros;(first|exact fI rfl|exact fS rfl))))
  (apply wdp;exact rfl;(intro w hp;exact uZ rfl rfl rfl (by omega));exact fS rfl)
  (repeat ((apply wdp;exact rfl);(intro w hp;intros;apply qC);(intros;exact fI rfl)))
  (apply wds;exact rfl;exact qH rfl qXf rfl h78)
  rintro _ w8 ⟨zz,B,rfl,hB,hzzl,hzzb,hzzv,hk,ho⟩
  have hp:=Hp.callL hp 2 rfl hk ho
  refine ⟨trivial,?_⟩
  skip
  refine jL ?_
  have hzzlt:=yL hzzb
  rw [hzzl,hml] at hzzlt
  rw [hvlv,← hM] at hzzv
  have key:∀ z2:List Nat,z2.length = k + 3→Bd 4294967296 z2→val 4294967296 z2 = M % v→Bd 4294967296 (A ++ z2 ++ C)∧val 4294967296 (A ++ z2 ++ C) = val 4294967296 A + 4294967296 ^ A.length * (M % v):=by
   intro z2 h1 h2 h3
   refine ⟨(hAb.app h2).app hCb,?_⟩
   rw [qLo,hC0,h3]
   simp
  obtain ⟨hn3,hn4⟩:=qR5 (A:=A) (M:=M) hAb hv0 rfl hq
  refine qM rfl (fun hB1=>?_) (fun hB0=>?_)
  ·obtain rfl:B = 1:=by omega
   rw [Nat.one_mul] at hzzv
   obtain ⟨rfl,hzf⟩:=jCw hv0 hq hG2 hzzlt (Nat.le_of_lt (Nat.lt_of_lt_of_le hn2 (Nat.pow_le_pow_right (by decide) (by omega)))) hzzv
   (repeat (first|(with_reducible first|apply qF|apply qA)|(apply wlp;apply qC;exact fI rfl)))
   (apply wlp;exact kK (b:=1) rfl rfl (by decide);exact qI (b:=(q:Int)) (by unfold qBr;omega))
   (repeat (first|(with_reducible first|apply qE|apply qB)|(apply wlp;apply qD;exact fI rfl)))
   refine jX jW (by kernel_rfl) (fun _=>True) trivial ?_
   have hp:=hp.drew
   have hSV:SlAt w8.drew 1 eW (some ⟨gv,0,none⟩) VL:=jS hp 1 rfl hvv (fun _=>rfl)
   have hSv:SlAt w8.drew 1 eW (some ⟨gv,0,none⟩) vl:=by rw [hvl];exact qDv hSV _
   obtain ⟨o2,ho2,hoo2⟩:=hp.has 2 _ rfl gu rfl
   have hvu2:SVL (some ⟨gu,0,none⟩) (k + 2 + e + 1) (A ++ zz ++ C):=by
    unfold SVL at *
    rwa [show (A ++ zz ++ C).length = (A ++ m ++ C).length from by simp only [List.length_append];omega]
   have h79:=c79 A zz C vl gu (k + 2 + e + 1) (k + 2 + e + 1 - A.length) (k + 2 + 1) _ w8.drew o2 ho2 hoo2 hvu2 hSv hne hzzb hvlb (by omega) (by omega)
   rw [hvll,hvlv,hzf] at h79
   (repeat ((apply wdp;exact rfl);(intro w hp;intros;apply qC);(intros;(first|exact fI rfl|exact fS rfl))))
   (apply wdp;exact rfl;(intro w hp;exact qY rfl rfl);exact qI (b:=((A.length + (k + 2):Nat):Int)) (by rw [qN (by omega) (by omega)];omega))
   (apply wdp;exact rfl;(intro w hp;exact qY rfl rfl);exact qI (b:=((A.length + (k + 2) + 1:Nat):Int)) (by rw [qN (by omega) (by omega)];omega))
   (apply wdp;exact rfl;(intro w hp;exact qCa qN1.1 qN1.2 rfl rfl rfl (by omega) (by omega) (by omega));exact qDz (m':=k + 2 + 1) (by omega))
   (repeat ((apply wdp;exact rfl);(intro w hp;intros;apply qC);(intros;(first|exact fI rfl|exact fS rfl))))
   (apply wdp;exact rfl;(intro w hp;exact uZ rfl rfl rfl (by omega));exact fS rfl)
   skip
   (apply wds;exact rfl;exact qH rfl qXe rfl h79)
   rintro _ w9 ⟨z2,hz2l,hz2b,hz2v,hk,ho⟩
   have hp:=Hp.callL hp 2 rfl hk ho
   refine ⟨trivial,?_⟩
   skip
   refine jL ?_
   obtain ⟨hbU2,hU2⟩:=key z2 (by omega) hz2b hz2v
   (repeat (first|(with_reducible first|apply qA|apply qB)|(apply wlp;((first|apply qC|(apply qR;exact rfl)|exact xM rfl rfl rfl)<;>(first|exact rfl|assumption));(first|exact fI rfl|exact fP rfl|exact fS rfl))))
   (apply zG;exact xO eW z A.length (q % 4294967296) hp 0 rfl hvq hjz rfl rfl (fun _=>rfl) rfl rfl (qQ rfl);rintro _ w10 ⟨rfl,hp⟩)
   rw [Nat.mod_eq_of_lt hqb] at hp
   (repeat (first|(with_reducible first|apply qA|apply qE|apply qB|apply qZ)|(apply wlp;apply qC;exact fI rfl)))
   (apply wlp;exact jN rfl rfl;exact qI (qN (by omega) (by omega)))
   (repeat (first|(with_reducible first|apply qE|apply qB)|(apply wlp;apply qD;exact fI rfl)))
   refine ⟨A.length,A ++ z2 ++ C,z.set A.length q,qG (Same.eq (by repeat (first|exact Same.hav|exact Same.refl|refine Same.put rfl ?_|refine Same.havs rfl ?_))) rfl,⟨by omega,?_,hbU2,by rw [List.length_set,hzl],hzb.set hqb,qBx hz0,?_,?_,?_,hvq.set _ _,hp⟩,by omega⟩
   ·simp only [List.length_append] at hUl ⊢
    omega
   ·rw [qIq hjz hz00,hU2,Nat.mul_add]
    omega
   ·rw [hU2]
    exact hn4
   ·unfold SVL at *
    rwa [show (A ++ z2 ++ C).length = (A ++ m ++ C).length from by simp only [List.length_append];omega]
  ·obtain rfl:B = 0:=by omega
   rw [Nat.zero_mul,Nat.add_zero] at hzzv
   obtain ⟨rfl,hzf⟩:=jCx hv0 hq hG1 hzzv
   have hz2:∃ z2,z2 = zz:=⟨_,rfl⟩
   obtain ⟨z2,hz2e⟩:=hz2
   rw [← hz2e] at hp hzf hzzl hzzb
   obtain ⟨hbU2,hU2⟩:=key z2 (by omega) hzzb hzf
   (repeat (first|(with_reducible first|apply qA|apply qB|apply qL)|(apply wlp;((first|apply qC|(apply qR;exact rfl)|exact xM rfl rfl rfl)<;>(first|exact rfl|assumption));(first|exact fI rfl|exact fP rfl|exact fS rfl))))
   (apply zG;exact xO eW z A.length (G % 4294967296) hp 0 rfl hvq hjz rfl rfl (fun _=>rfl) rfl rfl (qQ rfl);rintro _ w10 ⟨rfl,hp⟩)
   rw [Nat.mod_eq_of_lt hqb] at hp
   (repeat (first|(with_reducible first|apply qA|apply qE|apply qB|apply qZ)|(apply wlp;apply qC;exact fI rfl)))
   (apply wlp;exact jN rfl rfl;exact qI (qN (by omega) (by omega)))
   (repeat (first|(with_reducible first|apply qE|apply qB)|(apply wlp;apply qD;exact fI rfl)))
   refine ⟨A.length,A ++ z2 ++ C,z.set A.length G,qG (Same.eq (by repeat (first|exact Same.hav|exact Same.refl|refine Same.put rfl ?_|refine Same.havs rfl ?_))) rfl,⟨by omega,?_,hbU2,by rw [List.length_set,hzl],hzb.set hqb,qBx hz0,?_,?_,?_,hvq.set _ _,hp⟩,by omega⟩
   ·simp only [List.length_append] at hUl ⊢
    omega
   ·rw [qIq hjz hz00,hU2,Nat.mul_add]
    omega
   ·rw [hU2]
    exact hn4
   ·unfold SVL at *
    rwa [show (A ++ z2 ++ C).length = (A ++ m ++ C).length from by simp only [List.length_append];omega]
 ·obtain rfl:j = 0:=by omega
  rw [Nat.pow_zero,Nat.mul_one] at hUlt
  rw [hvdef] at hsum
  obtain ⟨hQ,hR⟩:=qU3 hy0 hsum (by rw [← hvdef];exact hUlt)
  have hUt:=qHa (n:=k + 2) (by decide) (by omega) (Nat.lt_trans hUlt hn2)
  obtain ⟨V,hV⟩:∃ V,V = U.take (k + 2):=⟨_,rfl⟩
  have hVl:V.length = k + 2:=by rw [hV,List.length_take,Nat.min_eq_left (by omega)]
  have hVb:Bd 4294967296 V:=by rw [hV];exact hUb.take _
  rw [← hV] at hUt
  rw [← hUt] at hR
  have htz:yZ z = dN (x / y):=by rw [qLi hzb,hQ]
  (repeat (first|(with_reducible first|apply qF|apply qB|apply qO|apply jB)|((with_reducible apply qP);exact rfl)))
  refine jX jW (by kernel_rfl) (fun w'=>Hp _ _ w' _) hp.drew ?_
  have hp:=hp.drew
  have hSq:SlAt w6.drew 1 eW (some ⟨gq,0,none⟩) z:=jS hp 0 rfl hvq (fun _=>rfl)
  have h66:=c66 z _ (e + 1) _ (by omega) (by unfold maxLen;omega) hSq
  rw [hzl,htz] at h66
  (repeat ((apply wdp;exact rfl);(intro w hp;intros;apply qC);(intros;exact fS rfl)))
  (apply wds;exact rfl;exact qH rfl qCg rfl h66;rintro _ w7 ⟨rfl,hk⟩;have hp:=hp.call hk;refine ⟨hp,?_⟩)
  have hd1:DA w7 (x / y) (some ⟨gq,0,none⟩) (e + 1):=⟨by rw [← htz,← hzl];exact (vJ z).length_le,by unfold maxLen;omega,by rw [← htz];exact (hSq.keep0 hk).pre (vJ z)⟩
  have hSU:SlAt w7 1 eW (some ⟨gu,0,none⟩) V:=by rw [hV];exact qDv (jS hp 2 rfl hvu (fun _=>rfl)) _
  have h80:=c80 V sh _ (k + 2 + e + 1) _ hSU hVb (by omega) hsh
  rw [hVl,hR] at h80
  (repeat ((apply wdp;exact rfl);(intro w hp;intros;apply qC);(intros;(first|exact fI rfl|exact fS rfl))))
  (apply wdp;exact rfl;(intro w hp;exact uZ rfl rfl rfl (by omega));exact fS rfl)
  (repeat ((apply wdp;exact rfl);(intro w hp;intros;apply qC);(intros;exact fI rfl)))
  (apply wds;exact rfl;exact qH rfl qXd rfl h80;rintro _ w8 ⟨gr,rfl,hvr,hpr⟩;refine ⟨hp.call hpr.keeps,?_⟩)
  have h66d:=qNq hpr hvr (by unfold maxLen;omega) (qFu (by decide) _ _) (x:=x % y) (by rw [qIc,Nat.mod_eq_of_lt];exact Nat.lt_trans (Nat.mod_lt _ hy0) (uK (by omega)))
  rw [uI] at h66d
  (apply wds;exact rfl;exact qH rfl qCg rfl h66d;rintro _ w9 ⟨s',c',rfl,hd2,hk2⟩;have hp:=hp.call hk2;have hd1:=hd1.keep hk2;refine ⟨hp,?_⟩)
  (repeat ((apply wdp;exact rfl);(intro w hp;intros;apply qD);(intros;exact fS rfl)))
  refine jL ?_
  (repeat (with_reducible first|apply qB|apply qT))
  exact zX rfl rfl rfl ⟨_,rfl,_,_,_,_,rfl,hd1,hd2,hp.keeps⟩
theorem c54 (x y:Nat) (s s2:Option Addr) (c c2:Nat) (w:World) (hx:DA w x s c) (hy:DA w y s2 c2) (hy0:0 < y) (hlx:(dN x).length≤100000) :
  Ret Tryz.prog 169 [.slice s (dN x).length c,.slice s2 (dN y).length c2] w (fun v w'=>∃ s' c' s3 c3,v = .tuple #[.slice s' (dN (x / y)).length c',.slice s3 (dN (x % y)).length c3]∧DA w' (x / y) s' c'∧DA w' (x % y) s3 c3∧Keeps [] w w'):=by
 by_cases h1:x < y
 ·exact jD5 x y s s2 c c2 w hx hy h1
 by_cases h2:(dN x).length≤2
 ·exact jD4 x y s s2 c c2 w hx hy hy0 (by omega) h2
 have hly0:(dN y).length ≠ 0:=by
  intro h
  have:=qRc.1 (List.eq_nil_of_length_eq_zero h)
  omega
 by_cases h3:(dN y).length = 1
 ·exact jD3 x y s s2 c c2 w hx hy (by omega) (by omega) hlx h3
 have hle:(dN y).length≤(dN x).length:=by
  rcases Nat.lt_or_ge (dN x).length (dN y).length with h|h
  ·exact absurd (vF (b:=4294967296) (by decide) (show (jT 4294967296 x).length < (jT 4294967296 y).length from h)) h1
  ·exact h
 obtain ⟨k,hk⟩:∃ k,(dN y).length = k + 2:=⟨(dN y).length - 2,by omega⟩
 obtain ⟨e,he⟩:∃ e,(dN x).length = k + 2 + e:=⟨(dN x).length - (k + 2),by omega⟩
 have:=jD2 x y k e s s2 c c2 w hx hy (by omega) he hk (by omega) (by omega)
 rwa [← he,← hk] at this
end Go.Proofs.YtbgldmoikimmpaaGreatDoor
namespace Go.Proofs.YtbgldmoikimmpaaGreatDoor
open Go.Eng Go.Dig
theorem qHm {P:Program} {fn:Func} {t u v:Nat} (h:fn.results = #[.tmp t,.tmp u,.tmp v]) (tmps:Array Value) (w:World):(results fn tmps).run P w = .ok (.tuple #[tmps.getD t undef,tmps.getD u undef,tmps.getD v undef]) w:=by
 simp [results,h]
theorem qB1 {P:Program} {n:Nat} {F:Fr} {w:World} {fn:Func} {R:Ending→World→Prop} {t u x:Nat} {v v' v2:Value} (h:fn.results = #[.tmp t,.tmp u,.tmp x]) (hv:ev n F (.tmp t) = v) (hv':ev n F (.tmp u) = v') (hv2:ev n F (.tmp x) = v2) (hr:R (.returned (.tuple #[v,v',v2])) w):qIw P n fn R .ret F w:=by
 refine ⟨.tuple #[v,v',v2],?_,hr⟩
 rw [qHm h]
 rw [← hv,← hv',← hv2,← zZ]
 rfl
theorem qPx (x y:Nat):Nat.gcd x y = Nat.gcd y (x % y):=by
 rw [Nat.gcd_comm x y,Nat.gcd_rec y x,Nat.gcd_comm]
theorem qU6 {y:Nat}:(dN y).length = 0 ↔ y = 0:=by
 rw [List.length_eq_zero_iff]
 exact qRc
theorem Fit.div {x y:Nat} (h:Fit x):Fit (x / y):=h.le (Nat.div_le_self x y)
theorem Fit.mod {x y:Nat} (h:Fit x):Fit (x % y):=h.le (Nat.mod_le x y)
attribute [local irreducible] PV StepF wpl wpd WP Ret
attribute [local irreducible] Fit
theorem c24 (x y:Nat) (w:World) (hx:Fit x) (hy:Fit y) (hy0:0 < y):Ret Tryz.prog 113 [.string (ofN x),.string (ofN y)] w (fun v w'=>v = .tuple #[.string (ofN (x / y)),.string (ofN (x % y)),.bool true]∧Keeps [] w w'):=by
 have hl0:¬ (dN y).length = 0:=by rw [qU6];omega
 refine Ret.of_WP Tryz.func113 rfl Tryz.ntmps113 rfl ?_
 have hp:=Hp.start (M:=[]) (w:=w)
 (repeat (first|(with_reducible first|apply qF|apply qA|apply qE|apply qB)|(apply wlp;(first|apply qC|apply qD);(first|exact fB rfl|exact fT rfl))))
 (apply wls;exact qH rfl qDp rfl (c45 y _ hy.d8))
 rintro _ w1 ⟨s,c,rfl,hd,hk⟩
 have hp:=hp.call hk
 (repeat (first|(with_reducible first|apply qF|apply qA|apply qE|apply qB)|(apply wlp;((first|apply qC|apply qD|(apply jC;exact rfl)|(apply zF;(first|exact rfl|exact jR rfl (by assumption))))<;>exact rfl);(first|exact fI rfl|exact fB rfl|exact fS rfl))))
 refine qM rfl (fun h=>absurd h (by omega)) (fun _=>?_)
 (repeat (first|(with_reducible first|apply qF|apply qA|apply qB|apply qL)|(apply wlp;apply qC;exact fT rfl)))
 (apply wls;exact qH rfl qDp rfl (c45 x _ hx.d8))
 rintro _ w2 ⟨s2,c2,rfl,hd2,hk⟩
 have hp:=hp.call hk
 have hd:=hd.keep hk
 (repeat (apply wlp;apply qC;exact fS rfl))
 (apply wls;exact qH rfl qY1 rfl (c54 x y s2 s c2 c _ hd2 hd hy0 hx.d32))
 rintro _ w3 ⟨s3,c3,s4,c4,rfl,hd3,hd4,hk⟩
 have hp:=hp.call hk
 (repeat (first|(with_reducible first|apply qF|apply qA|apply qE|apply qB)|(apply wlp;((first|apply qC|apply qD|apply jK)<;>exact rfl);(first|exact fS rfl|exact fU rfl))))
 (apply wls;exact qH rfl qFr rfl (c38 (x / y) s3 c3 _ hd3 hx.div.d32))
 rintro _ w4 ⟨rfl,hk⟩
 have hp:=hp.call hk
 have hd4:=hd4.keep hk
 (repeat (apply wlp;apply qC;exact fS rfl))
 (apply wls;exact qH rfl qFr rfl (c38 (x % y) s4 c4 _ hd4 hx.mod.d32))
 rintro _ w5 ⟨rfl,hk⟩
 have hp:=hp.call hk
 (repeat (first|(with_reducible first|apply qE|apply qB|apply qT)|(apply wlp;apply qD;(first|exact fB rfl|exact fT rfl))))
 exact qB1 rfl rfl rfl rfl ⟨_,rfl,rfl,hp.keeps⟩
end Go.Proofs.YtbgldmoikimmpaaGreatDoor
namespace Go.Proofs.YtbgldmoikimmpaaGreatDoor
open Go.Eng Go.Dig
def RV (n d:Nat):Value:=.agg #[.bool false,.string (ofN n),.string (ofN d)]
theorem qKq (m n:Nat):decide (ofN m = ofN n) = decide (m = n):=by
 by_cases h:m = n
 ·subst h;simp
 ·rw [decide_eq_false h,decide_eq_false (fun e=>h (qTg e))]
theorem qM1 {n:Nat} (h:n ≠ 0):0 < (ofN n).size∧bAt (ofN n) 0 ≠ 0:=by
 rcases qC7 (jT 256 n) with h0|⟨m,d,h1⟩
 ·exact absurd ((yK (by decide)).1 h0) h
 ·have h2:=qDq (by decide) n m d h1
  have h3:d < 256:=vC (by decide) n d (by rw [h1];simp)
  refine ⟨by rw [wD,h1];simp,?_⟩
  unfold bAt ofN
  rw [h1]
  simp
  omega
theorem qHl {n:Nat} {F:Fr} {w:World} {fn:Func} {p ty b o k t:Nat} {vs:List Value} {v2:Value} (h:fn.results = #[.cell p ty,.tmp t]) (h1:qB6 ty = some k) (hz:qAy ty = some k) (hx:ev n F (.tmp p) = .pointer (some ⟨b,o,none⟩)) (hv2:ev n F (.tmp t) = v2) (hl:vs.length = k)
  (hc:∀ (j:Nat) (v:Value),vs[j]? = some v→w.cell? ⟨b,o + j,none⟩ = some v):(results fn (act n F).tmps).run Tryz.prog w = .ok (.tuple #[.agg vs.toArray,v2]) w:=by
 obtain ⟨q,hq,hq1⟩:=qDm h1
 have hk:=qQ hz
 subst hl
 have:=kJ (P:=Tryz.prog) (w:=w) b o vs 0 #[] (fun j v hv=>by simpa using hc j v hv)
 have hx':(act n F).tmps.getD p undef = .pointer (some ⟨b,o,none⟩):=by
  rw [← hx,← zZ]
  rfl
 have hx2:(act n F).tmps[p]?.getD undef = .pointer (some ⟨b,o,none⟩):=by simpa using hx'
 have hy':(act n F).tmps.getD t undef = v2:=by
  rw [← hv2,← zZ]
  rfl
 have hy2:(act n F).tmps[t]?.getD undef = v2:=by simpa using hy'
 simp [results,h,hx2,hy2,asAddr,loadVar,qEz hq hq1,loadCells,hk.run,this]
theorem kE {n:Nat} {F:Fr} {w:World} {fn:Func} {R:Ending→World→Prop} {p ty b o k t:Nat} {v2:Value} {f:Fr} (h:fn.results = #[.cell p ty,.tmp t]) (h1:qB6 ty = some k) (hz:qAy ty = some k) (hx:ev n F (.tmp p) = .pointer (some ⟨b,o,none⟩)) (hv2:ev n F (.tmp t) = v2)
  (hc:∀ (j:Nat) (v:Value),((List.range k).map fun j=>f (o + j))[j]? = some v→w.cell? ⟨b,o + j,none⟩ = some v) (hr:R (.returned (.tuple #[.agg ((List.range k).map fun j=>f (o + j)).toArray,v2])) w):qIw Tryz.prog n fn R .ret F w:=
 ⟨_,qHl h h1 hz hx hv2 (by simp) hc,hr⟩
attribute [local irreducible] PV StepF wpl wpd WP Ret
attribute [local irreducible] Fit
end Go.Proofs.YtbgldmoikimmpaaGreatDoor
