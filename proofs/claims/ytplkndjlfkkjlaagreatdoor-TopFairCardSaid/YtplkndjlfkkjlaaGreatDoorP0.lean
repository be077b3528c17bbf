/- Merged texts of ours; conditions are the hypotheses of each law. -/
import Derived.KernelRfl
import Derived.WalkKit
import Derived.Orders
import Derived.TacticsIn
import Derived.Sort.LoopGhostIn
import Derived.Maps.RangeRun
import Derived.Laws.BytesString
import Derived.Laws.MakeOwn
import Derived.Scope
import Derived.RangeFuncLeaves
import Derived.RangeFuncSeq
import Derived.Test.YtplkndjlfkkjlaaGreatDoorProg
namespace Go
open List (range range' replicate)
section
variable{p:Prop}
theorem O{α:Sort _}{a:α}:a=a:=rfl
theorem O1(h:p:=by omega):p:=h
theorem O2(h:p:=by decide):p:=h
theorem O3(h:p:=by kernel_rfl):p:=h
theorem O4(h:p:=by simp):p:=h
theorem mA0(h:p:=by refine tV ?_;exact⟨_,O,O,hp.C⟩):p:=h
theorem mA1(h:p:=by refine xO O O3 ?_ O;refine tK (r24 _ (xg k hl) x0 O1) ?_;rintro _ w6 ⟨rfl,hk⟩;have hp:=hp.call hk;refine⟨hp.H,?_⟩;refine gAd ?_;refine xO O O3 ?_ O;apply qDu;exact O;exact qW hp 0 O O O O (qD O) O;rintro _ w9 ⟨rfl,hp⟩;refine⟨hp.H,?_⟩;have hp:=hp.norm 0 (eQ wd) O (by rw[oc];rfl);refine gAg ?_;exact⟨b3,qB O5 O,hp⟩):p:=h
theorem mA2(h:p:=by exact zJ O O O O (hp.j4 0 O O) ⟨_,O,O,hp.C⟩):p:=h
theorem mA3(h:p:=by have hA:(D 0&&(D 1&&(D 0&&(D 1&&(true&&(true&&(true&&(D 5&&(D 6&&(D 7&&(D 8&&(D 9&&(true&&(true&&(true&&(D 13&&true))))))))))))))))=_:=hA;simp[aF,eX,rZ] at hA;exact zI (zA O (hD.slot 0 hA.1 O O) (hD.slot 1 hA.2.1 O O) O O1) O (nxt 14 O2 O2)):p:=h
theorem mA4(h:p:=by have e:(#[.func (.yield (w.heap.size+1)) #[] #[]]++lb.toArray)=(.func (.yield (w.heap.size+1)) #[] #[]::lb).toArray:=O4;rw[e];refine pS.2 (sAs hc ?_);rintro e W2 ⟨v,rfl,hi,hl,hk⟩;exact⟨none,_,by have:=run_endLoop (P:=P) hl (by grind);rw[oz] at this;omega,pa _ _ O1 (hI _ _ _ hi (Priv.put _ _ O1)) ((World.putObj_heap_other O1).trans hk)⟩):p:=h
theorem mA5(h:p:=by refine xO O O3 ?_ O;refine tK (qKa _ BQone xz O1) ?_;rintro _ w5 ⟨rfl,hk⟩;have hp:=hp.call hk;refine⟨hp.H,?_⟩;refine gAd ?_;refine xO O O3 ?_ O;apply qDu;exact O;exact qW hp 0 O O O O (qD O) O;rintro _ w9 ⟨rfl,hp⟩;refine⟨hp.H,?_⟩;have hp:=hp.norm 0 (eQ (1-sm s.K fun k=>X (k+1))) O O;refine gAg ?_;exact⟨b3,qB O5 O,hp⟩):p:=h
theorem mA6(h:p:=by rintro v w1 ⟨hk,jp⟩;refine qA (qQ [6,7,8,9,28,29,30,31,32,33,34,35,36,37,38,39,40,41,42,43,44,45,46,47,48,49,50,51,52,53,54,55,56,57,58,59,60,61,62] (fun _ F=>F.put 6 (.int _ 20)) (fun _ w'=>w'=w1) (fun _=>0) () (qB (Same.eq .refl) O) O ?_);rintro u2 ⟨⟩ _ rfl;refine qA ?_;refine qH O O1 (fun _=>qA ?_);exact xK O ⟨_,O,hk,jp⟩):p:=h
theorem mA7(h:p:=by intro i hQ _;have eb:Nat.beq 15 i=false:=jJ O1;have ea:Nat.beq 17 i=false:=jJ O1;rw[eb,ea,dI,dI];refine⟨(hD.put (i:=i) O1).congr (fun j hj=>by rw[nbp hj hQ]),fun h=>⟨by grind,by grind⟩,hE,mw,ed,lj⟩):p:=h
theorem mA8(h:p:=by exact⟨_,qB O5 O,⟨O1,hp⟩,O1⟩):p:=h
theorem mA9(h:p:=by exact⟨k+1,qB O5 O,⟨O1,hp⟩,O1⟩):p:=h
theorem mAa(h:p:=by rintro _ w' ⟨rfl,hp'⟩;exact⟨hD.congr (fun j hj=>by show(D _||Nat.beq _ 15)=_;rw[nf j hj,dI]),fun _=>⟨by simp[h9],by grind⟩,fun h=>O4,fun h=>by simp at h,fun _ _=>hp',fun h=>absurd (hE (by simpa using h)) (by grind)⟩):p:=h
theorem mAb(h:p:=by exact qM O O ⟨_,O,O,hp.C⟩):p:=h
theorem mAc(h:p:=by rintro⟨h1,h2,h3⟩;refine⟨h1,h2,?_⟩;rw[aP h1] at h3;simp only[eC,iH] at h3;rw[cZ] at h3;intro e he hb;have:=h3 e (by simpa[jA,h1] using he);grind):p:=h
theorem mAd(h:p:=by exact⟨i+1,qB O5 O,⟨O1,hp⟩,O1⟩):p:=h
theorem mAe(h:p:=by rintro _ w' ⟨rfl,hp'⟩;exact⟨hD.congr (fun j hj=>by show(D _||Nat.beq _ 17)=_;rw[na j hj,dI]),fun _=>⟨by simp[hA],by simp[hA]⟩,fun _=>by grind,fun h=>by grind,fun _ h=>by simp at h,fun _=>hp'⟩):p:=h
theorem mAf(h:p:=by apply qDu;exact O;exact qW hp 0 O O O O (qD O) O;rintro _ w7 ⟨rfl,hp⟩;refine⟨hp.H,?_⟩;refine zP (yZ ?_);exact⟨b3,qB O5 O,hp⟩):p:=h
theorem mAg(h:p:=by have hA:(D 10&&(D 11&&true))=_:=hA;simp[aF,eX] at hA;exact zI (zA O (hD.slot 10 hA.1 O O) (hD.slot 11 hA.2 O O) O O1) O (nxt 12 O2 O2)):p:=h
theorem mAh(h:p:=by have hA:(D 3&&(true&&true))=_:=hA;simp[aF,eX] at hA;exact zI (jN (hD.slot 3 hA O O) O) (qF (by rw[qK O1 O1];omega)) (nxt 4 O2 O2)):p:=h
theorem mAi(h:p:=by have hA:(D 5&&(D 7&&true))=_:=hA;simp[aF,eX] at hA;exact zI (zA O (hD.slot 5 hA.1 O O) (hD.slot 7 hA.2 O O) O O1) O (nxt 8 O2 O2)):p:=h
theorem mAj(h:p:=by refine qA ?_;refine wlp (qO O O) (qF (b:=q) (by rw[qK O1 O1];omega)) (qA ?_);refine tF (jC hp O O O O O O O) fun w3 nb hp=>tFb (jV eD z q hp 1 0 O O O O O O (fun _=>O) O O O hv O O O1) fun w4 s' c'⟨hm,hp⟩=>?_;have hp:=hp.H;refine gA0 ?_;refine⟨i+1,1,_,s',c',qB O5 O,⟨O1,by grind,x1.aA1 (.cons O1 .nil),O1,?_,hm,hp⟩,O1⟩;rw[qD9,x2];refine qDd x0 ?_;omega):p:=h
theorem mAk(h:p:=by rintro D F w4 hD ⟨hh,_,_,_,_,lj⟩;have hp:=lj (hD 17 O2);rw[qb] at hp;have hF:=hh.same.eq;rw[hF];subst hq;refine tM q ?_;refine qA ?_;refine⟨q,qB O5 O,⟨O1,?_,hp⟩,O1⟩;grind):p:=h
theorem mAl(h:p:=by have hA:(D 6&&true)=_:=hA;simp[aF,eX] at hA;exact zI (jN (hD.slot 6 hA O O) O) (qF (by rw[qK O1 O1];omega)) (nxt 7 O2 O2)):p:=h
theorem mAm(h:p:=by refine gA0 ?_;exact⟨k+1,qB O5 O,⟨O1,hp.H⟩,O1⟩):p:=h
theorem mAn(h:p:=by rw[←o1];have:=World.alloc_heap_new (w.alloc (.deferred (some []))) (.loop (rec .ready none));rwa[rO] at this):p:=h
theorem mAo(h:p:=by apply wbs;exact O;exact zE (cs:=i8L (replicate 14 0)) (m:=14) (Hp.start (M:=[])) (qJ O) O O;rintro _ gg ⟨b5,rfl,hpo⟩;have hm:=hm.j5 hpo.C;have hp:Hp W [] _ [blk b5 14 _ 293,_,_,_]:=hp.join hpo;refine⟨hp.C,?_⟩;exact leaf _ _ ⟨a,pa,_,ot,b4,b5,hm,⟨O,O,O,O,O,O,trivial⟩,(hp.k5 [0,1,3] [_,_,_] O2 O)⟩):p:=h
theorem mAp(h:p:=by rw[←hq];refine qA ?_;refine tF (jC hp O O O O O O O) fun w3 nb hp=>tFb (jV eD z q hp 1 0 O O O O O O (fun _=>O) O O O hv O O O1) fun w4 s' c'⟨hm,hp⟩=>?_;have hp:=hp.H;refine gA0 ?_;refine⟨i+1,0,_,s',c',qB O5 O,⟨O1,by grind,x1.aA1 (.cons O1 .nil),O1,?_,hm,hp⟩,O1⟩;rw[qD9,x2];refine qDd x0 ?_;omega):p:=h
theorem mAq(h:p:=by rw[jUo];have h1:=aQ Act.tmps (zN ⟨sz,ds,none⟩ F (some p) (enc x));have h2:=aQ Act.tmps (zN ⟨sz,ds,none⟩ (F.put p (enc x)) (some q) (ow x));have h3:(act ⟨sz,ds,none⟩ F).tmps.setIfInBounds p (enc x)=(act ⟨sz,ds,none⟩ (F.put p (enc x))).tmps:=h1;rw[h3];exact h2):p:=h
theorem mAr(h:p:=by apply wbs;exact O;exact zT (Hp.start (M:=[])) (qJ O) O;rintro _ ur ⟨b4,rfl,hpo⟩;have hm:=hm.j5 hpo.C;have hp:Hp W [] _ [blk b4 1 _ 289,_,_,_]:=hp.join hpo;refine⟨hp.C,?_⟩;exact leaf _ _ ⟨a,pa,_,ot,b4,b5,hm,⟨O,O,O,O,O,O,trivial⟩,(hp.k5 [1,0,3] [_,_,_] O2 O)⟩):p:=h
theorem mAs(h:p:=by exact zI (zA O (hD.slot 2 hA.1 O O) (hD.slot 4 hA.2.1 O O) O O1) O ⟨(hD.put (i:=15) O2).congr (fun j hj=>ng j hj),fun _=>⟨by simp[hA],by simp[hA]⟩,fun _=>by grind,fun h=>by grind,fun _ h=>ed h4 (by grind),fun h=>lj (by rcases fQ _ _▸h with h|h;exact h;cases h)⟩):p:=h
theorem mAt(h:p:=by refine xO O O3 ?_ O;refine tK (qKa _ xc y0 O1) ?_;rintro _ w5 ⟨rfl,hk⟩;have hp:=hp.call hk;refine⟨hp.H,?_⟩;refine zP ?_;exact mA1):p:=h
theorem mAu(h:p:=by refine gAh ?_;have e:=skip O1;exact⟨(k+1,s5,c5),qB (qB O5 (by rw[e];rfl)) O,⟨by show k+1≤_;omega,by show SVL s5 c5 (kR s κ (k+1));rw[e];exact hD,by show Hp W [] _ [qG _ 255 2 s5 c5 (kR s κ (k+1))];rw[e];exact hp⟩,by show s.nc-(k+1)<s.nc-k;omega⟩):p:=h
theorem mAv(h:p:=by exact zI (zA O (hD.slot 2 hA.1 O O) (hD.slot 4 hA.2.1 O O) O O1) O ⟨(hD.put (i:=15) O2).congr O1,fun _=>⟨by simp[hA],by simp[hA]⟩,fun _=>by grind,fun h=>by grind,fun _ h=>ed h4 (by grind),fun h=>lj (by rcases fQ _ _▸h with h|h;exact h;cases h)⟩):p:=h
theorem mAw(h:p:=by refine tR (xP O O (by show k≤64;omega)) (wlp (vB O O O) (qF (by rw[zw])) ?_);refine qA (tO (zL eW z i _ hp 0 O hv xz O O (fun _=>O) O O (qD O)) fun w4 hp=>?_);refine gA0 ?_;exact⟨i+1,_,qB O5 O,⟨O1,by grind,qZa z x0 xz,hv.set _ _,hp⟩,O1⟩):p:=h
theorem mAx(h:p:=by have:=eg (#[.func (.yield (w.heap.size+1)) #[] #[]]++lb.toArray) W1;simp[invoke];grind):p:=h
theorem mAy(h:p:=by rintro pre W W' ⟨hi,hl,hk⟩ hp;exact⟨hI _ _ _ hi (hp.mono O1),(hp.block _ O1).trans hl,(hp.block _ O1).trans hk⟩):p:=h
theorem mAz(h:p:=by have s1:Keeps (_::M) w1 W2:=⟨o3.os,o3.tape,o3.output,o3.size,fun k hk hm=>o3.block k hk (by simp at hm⊢;exact hm.1)⟩;have s2:=s1.trans ox (fun k hk=>.inr (by simp[hk]));exact s2.trans (yR W3 _ _) (fun k hk=>.inr (by grind))):p:=h
theorem mB0(h:p:=by exact⟨_,O,O,hp.C⟩):p:=h
theorem mB1(h:p:=by have hY:=xn j hb;rw[aJ] at hY hS;rw[aP (show j<listed.size by omega)] at hY hS;simp at hY hS;rw[hY] at hS;cases hS):p:=h
theorem mB2(h:p:=by rintro _ w5 ⟨rfl,uq⟩;have hp:=hp.call uq;refine⟨hp,?_⟩;rw[←hn];apply xH;exact O;exact O;exact zH (cs:=sv _) hp 0 O O O O (qD O) O O;rintro _ w6 ⟨rfl,hp⟩;refine qU (tM (64*(k+1)) ?_);refine qA ?_;exact mA8):p:=h
theorem mB3(h:p:=by refine hP e.on O1 ?_ j hV;rw[aJ] at hl⊢;rw[aP (show e.on<listed.size by omega)] at hl⊢;simpa using hl):p:=h
theorem mB4(h:p:=by rintro u w' ⟨hu,hp'⟩;refine⟨hu,?_⟩;rw[qG0,vF] at hp';exact hp'):p:=h
theorem mB5(h:p:=by exact⟨fun _=>(h v w' hr).1,(h v w' hr).2⟩):p:=h
theorem mB6(h:p:=by have uu:=hz.run (w:=w);simp only[execOp,Instr.storeAt,hx,hy,Instr.sureAddr,storeVar,bJ,dV,aK,uu,nz,hP];simp only[storeCells,yC];simp only[iF] at hr⊢;rw[if_neg O4];simp only[bJ,hr,aK];rfl):p:=h
theorem mB7(h:p:=by intro listed a w ht hQ _ _ h;have hl:left ops listed=[]:=aZ O1;refine⟨?_,done _ _ _ hl h⟩;rw[gU];intro i hi;have:=(hZ _ i).1 hi;have hm:=zZ.2 ⟨this.1,this.2.1⟩;grind):p:=h
theorem mB8(h:p:=by have h:=jX3 (sgn a) (sgn b) (ofN a.num.natAbs) (ofN b.num.natAbs) (ofN a.den) (ofN b.den) w;rw[jD8] at h;unfold PV;unfold QV RVs at hx hy;simp[execOp,hx,hy,eqGuard,binOp,h]):p:=h
theorem mB9(h:p:=by refine gA0 ?_;exact mA9):p:=h
theorem mBa(h:p:=by rw[←o1];exact(lB _ _ _ O4).trans (World.alloc_heap_new w _)):p:=h
theorem mBb(h:p:=by simp only[execOp,resolve,bJ,hx,Deferred.ofValue,dV,aK,invoke];rw[ha];simpa using pu):p:=h
theorem mBc(h:p:=by refine wlp (qA6 (b:=1) O O O2) (qF (b:=(G-1:Nat)) (by unfold qGq;omega)) (tM (k+1) ?_);refine gAb ?_;refine qA ?_;exact⟨_,_,qB O5 O,⟨te,yu,yv,hp⟩,O1⟩):p:=h
theorem mBd(h:p:=by refine tV ?_;exact⟨_,O,qF O1,hp.C⟩):p:=h
theorem mBe(h:p:=by refine qA ?_;refine tFb (qC O qFm (by rw[x2];rfl) (qWu hp hv (by unfold maxLen;omega) x1 x0)) fun w2 s' c'⟨hd,hk⟩=>tV ?_;exact⟨_,O,s',c',O,hd,hk⟩):p:=h
theorem mBf(h:p:=by have hA:(D 12&&true)=_:=hA;simp[aF,eX] at hA;exact zI (qS O (hD.slot 12 hA O O) (zS (mw (h15 (by grind))) 0 O gq (fun _=>O) h7 0 _ O)) O (nxt 13 O2 O2)):p:=h
theorem mBg(h:p:=by rw[aJ] at hX⊢;rw[aP (show e.on<listed.size by omega)] at hX⊢;simpa using hX):p:=h
theorem mBh(h:p:=by have hA:(D 8&&true)=_:=hA;simp[aF,eX] at hA;exact zI (qS O (hD.slot 8 hA O O) (zS (mw (h15 (by grind))) 0 O gq (fun _=>O) zt 0 _ O)) O (nxt 9 O2 O2)):p:=h
theorem mBi(h:p:=by rw[xy];exact⟨g2,zt,⟨O,O,O,O,trivial⟩,hp.H.H⟩):p:=h
theorem mBj(h:p:=by obtain⟨o,ho,hr⟩:=h;exact(Hp.start).q8 O4 ho hr (fun i p hi=>by grind)):p:=h
theorem mBk(h:p:=by simp[Q.best,Q.o7,if_pos h0];refine⟨O4,fun _=>h.td.fin h0,fun _=>O,fun _ T' hg=>?_⟩;have:=hg.len;rw[h0] at this;rw[aZ this];exact bM _):p:=h
theorem mBl(h:p:=by refine qU (tB ?_);refine qA ?_;exact mAd):p:=h
theorem mBm(h:p:=by refine gA0 ?_;refine⟨k+1,qB O5 O,⟨O1,fun i hi=>?_,hp⟩,O1⟩;grind):p:=h
theorem mBn(h:p:=by simp only[PV,execOp,hx,hy,asBool,uW];cases c<;>rfl):p:=h
theorem mBo(h:p:=by refine xO O O3 ?_ O;refine tK (za _ hp.C) ?_;rintro _ w4 ⟨rfl,hk⟩;have hp:=hp.call hk;refine⟨hp.H,?_⟩;refine zP ?_;exact mA5):p:=h
theorem mBp(h:p:=by have h2:Nat.beq s (b+i)=_:=jJ O1;simp[Fr.put,h2,nZ];exact h.out s hs):p:=h
theorem mBq(h:p:=by rw[←o1,oz];exact run_enterLoop_outer _ _ _ _ _):p:=h
theorem mBr(h:p:=by refine xO O O3 ?_ O;refine tK (zc _) ?_;rintro _ w4 ⟨rfl,hk⟩;have hp:=hp.call hk;refine⟨hp.H,?_⟩;refine zP ?_;exact mAt):p:=h
theorem mBs(h:p:=by refine gA5 ?_;exact mA8):p:=h
theorem mBt(h:p:=by have:=hK h5;rcases h with h|h<;>simp[h] at this):p:=h
theorem mBu(h:p:=by refine tV ?_;exact⟨_,O,⟨_,O,.inr ⟨k,O,by grind⟩⟩,hp.C⟩):p:=h
theorem mBv(h:p:=by rw[hD];have:((ba*m:Nat):Int)≤281474976710656:=O1;rwa[bU] at this):p:=h
theorem mBw(h:p:=by rintro _ w1 ⟨⟨r,rfl,hr⟩,hk⟩;have hp:=hp.call hk;refine wlp (vE O O) (qV ((qW8 r).trans (jEq hr))) (tV ?_);exact mB0):p:=h
theorem mBx(h:p:=by unfold TSize at hs;simpa[hh] using hs):p:=h
theorem mBy(h:p:=by simpa using h3 e (by simpa[jA,h1] using he) hb):p:=h
theorem mBz(h:p:=by simp only[execOp,resolve,bJ,dV,aK,invoke,builtin];simp[hx,hy,pu]):p:=h
theorem mC0(h:p:=by simp[PV,execOp,hx,hy,eqGuard,binOp,Op.intCmp]):p:=h
theorem mC1(h:p:=by rw[zF];simp only[resolve,hg];simp[go_sem];rfl):p:=h
theorem mC2(h:p:=by rw[World.putObj_heap_same (aT.1 o9).1,oz];rfl):p:=h
theorem mC3(h:p:=by have:(some gb:Option Nat)=some b1:=jm;simpa[eq_comm] using this):p:=h
theorem mC4(h:p:=by rintro v w1 ⟨hk,jp⟩;refine qA ?_;exact xK O ⟨_,O,hk,jp⟩):p:=h
theorem mC5(h:p:=by refine jL ?_;refine jB O ?_;refine qA ?_;exact qM (v:=.bool false) O O ⟨_,O,⟨false,O,fun h=>by cases h⟩,hp.C⟩):p:=h
theorem mC6(h:p:=by unfold hdA;rw[lm_succ,rn.1,rn.2,jH (f:=fun i=>(rg i,s.K+1,rc i)) (g:=fun i=>(ra i,s.K+1,rb i)) (fun i hi=>by grind)]):p:=h
theorem mC7(h:p:=by refine xA (qU ?_);refine gA6 ?_;refine⟨_,_,qB O5 O,⟨.inl O1,?_,hp⟩,O1⟩;rw[e8,hH,xy bA,←hS];unfold mvG;simp):p:=h
theorem mC8(h:p:=by have h1:=jJ xd;rw[h1,dI] at hD;have h2:Nat.beq (b+j) (b+i)=_:=jJ O1;simp[Fr.put,h2,nZ];rw[h.at_ j hj hD,hV j hj xd]):p:=h
theorem mC9(h:p:=by cases s<;>simp[Builtin.append_,jQ ht,hs.run,Builtin.lenOf,Builtin.firstCells,loadCells,loadCellsFrom,h2,storeCells]):p:=h
theorem mCa(h:p:=by refine xA (qU ?_);refine gA6 ?_;refine⟨_,_,qB O5 O,⟨.inl O1,?_,hp⟩,O1⟩;rw[e8,hH,xy bA,←hS];unfold mv;simp):p:=h
theorem mCb(h:p:=by refine xA (qU ?_);refine gA6 ?_;refine⟨_,_,qB O5 O,⟨.inl O1,?_,hp⟩,O1⟩;rw[e8,hH,←hS];unfold mvG;simp[qD3]):p:=h
theorem mCc(h:p:=by refine xA (qU ?_);refine gA6 ?_;refine⟨_,_,qB O5 O,⟨.inl O1,?_,hp⟩,O1⟩;rw[e8,hH,←hS];unfold mv;simp[qD2]):p:=h
theorem mCd(h:p:=by exact⟨(),Same.eq (by repeat(first|exact Same.l7|exact Same.refl|refine Same.put O ?_|refine Same.x9 O ?_)),hp⟩):p:=h
theorem mCe(h:p:=by simpa using this):p:=h
theorem mCf(h:p:=by refine gA0 ?_;exact mAd):p:=h
theorem mCg(h:p:=by have h:=qCz (P:=Tryz.prog) (w:=w) (d:=d) (ty:=ty) (pos:=pos) (aft:=aft) (g:=g) (t:=t) (t':=t') hx hy O1;grind):p:=h
theorem mCh(h:p:=by rw[←o1];exact(vP w _).trans (vP _ _) O4):p:=h
theorem mCi(h:p:=by refine xO O O3 ?_ O;refine tG (qQe _ hU hg ix O2) fun w5 hp=>?_;refine zP ?_;refine xO O O3 ?_ O;exact mAf):p:=h
theorem mCj(h:p:=by refine tK hg ?_;rintro _ w5 ⟨rfl,gl,_⟩;refine qA ?_;refine qM O O ⟨_,O,O,hp.C.trans gl ?_⟩;grind):p:=h
theorem mCk(h:p:=by have hp:=hp.H.H;rw[hV] at hg⊢;refine gA0 ?_;refine⟨(q+1,s',c'),qB O5 O,⟨O1,hg,?_⟩,O1⟩;grind):p:=h
theorem mCl(h:p:=by obtain⟨e,he,h1⟩:=List.any_eq_true.1 hk;have h2:=cU.1 h e he;rw[aF] at h1;have h3:=bF h1.2;grind):p:=h
theorem mCm(h:p:=by cases e;refine⟨_,_,O,fun j v hj=>?_⟩;have:=hc j v hj;rwa[show 0+1*3+k*3+j=0+(k+1)*3+j by omega]):p:=h
theorem mCn(h:p:=by apply eF;intro i;simp only[dF,List.getElem?_modify];by_cases hi:k=i<;>simp[hi]<;>cases l[i]?<;>rfl):p:=h
theorem mCo(h:p:=by refine xA (qU ?_);refine jB O ?_;refine gA0 ?_;refine⟨k+1,?_,⟨O1,hp.H⟩,O1⟩;rw[xy];exact O5):p:=h
theorem mCp(h:p:=by exact⟨(k+1,cs),qB O5 O,⟨O1,hj,hb,hx,hp.H⟩,O1⟩):p:=h
theorem mCq(h:p:=by refine qA ?_;refine xD O (fun h=>absurd h (by grind)) (fun h=>tM (i+1) ?_);refine qA ?_;exact mA8):p:=h
theorem mCr(h:p:=by rintro _ w6 ⟨rfl,bu⟩;have hp:=hp.call bu;refine gA9 ?_;exact⟨_,qB O5 O,⟨O1,hp.C⟩,O1⟩):p:=h
theorem mCs(h:p:=by exact zI qP ((hD.old 0 O O).trans hn) (nxt 10 O2 O2)):p:=h
theorem mCt(h:p:=by exact zI qP ((hD.old 9 O O).trans ht) (nxt 11 O2 O2)):p:=h
theorem mCu(h:p:=by unfold TZero at hz;simpa[hh] using hz):p:=h
theorem mCv(h:p:=by rw[e1,jJ (show j≠16 by omega),jJ h]):p:=h
theorem mCw(h:p:=by exact leaf _ _ ⟨a,pa,_,ot,b4,b5,hm,⟨O,O,O,O,O,O,trivial⟩,(hp.k5 [0,2,3] [_,_,_] O2 O)⟩):p:=h
theorem mCx(h:p:=by exact leaf _ _ ⟨a,pa,_,ot,b4,b5,hm,⟨O,O,O,O,O,O,trivial⟩,(hp.k5 [2,0,3] [_,_,_] O2 O)⟩):p:=h
theorem mCy(h:p:=by exact zI qP ((hD.old 0 O O).trans hn) (nxt 0 O2 O2)):p:=h
theorem mCz(h:p:=by exact zI qP ((hD.old 9 O O).trans ht) (nxt 1 O2 O2)):p:=h
theorem mD0(h:p:=by exact zI qP ((hD.old 0 O O).trans hn) (nxt 2 O2 O2)):p:=h
theorem mD1(h:p:=by exact zI qP ((hD.old 9 O O).trans ht) (nxt 3 O2 O2)):p:=h
theorem mD2(h:p:=by exact zI qP ((hD.old 0 O O).trans hn) (nxt 5 O2 O2)):p:=h
theorem mD3(h:p:=by exact zI qP ((hD.old 9 O O).trans ht) (nxt 6 O2 O2)):p:=h
theorem mD4(h:p:=by refine qA ?_;exact xK O ⟨_,O,qo⟩):p:=h
theorem mD5(h:p:=by have ox:=hk.trans uq (fun _ h=>.inr h);refine gA9 ?_;exact⟨_,qB O5 O,⟨O1,ox,qx⟩,O1⟩):p:=h
theorem mD6(h:p:=by refine qA ?_;exact mA2):p:=h
theorem mD7(h:p:=by exact yP O O O O O (hp.j4 0 O O) ⟨_,O,O,hp.C⟩):p:=h
theorem mD8(h:p:=by obtain⟨u,w',_,hr⟩:=(h0.1 hwp).out;obtain⟨v,hv,_⟩:=key p O4 _ _ hr;exact⟨v,hv⟩):p:=h
theorem mD9(h:p:=by refine⟨s',c',by rw[e1],by unfold SVL;rw[e1];exact h2,?_⟩;unfold qG;rw[e1,e2];exact h3):p:=h
theorem mDa(h:p:=by intro listed a w hl h;rw[hl] at h;exact hK _ _ h):p:=h
theorem mDb(h:p:=by simp[PV,execOp,hx,hy,eqGuard,binOp,Op.intArith]):p:=h
theorem mDc(h:p:=by exact zJ O O O O (hp.j4 1 O O) ⟨_,O,O,hp.C⟩):p:=h
theorem mDd(h:p:=by refine⟨w2,?_,k1.trans k2 (fun k hk=>.inr hk),b2⟩;simp[storeCells,yC,bJ,r1,aK,r2]):p:=h
theorem mDe(h:p:=by rw[show 0+A.length*1+vl.length*1=0+(A.length+vl.length)*1+0 from by omega];exact yc):p:=h
theorem mDf(h:p:=by refine qFu O O (qSc ?_);have hp:=q1;refine qA ?_;exact qT1 O O O q7 ⟨_,O,O,aa⟩):p:=h
theorem mDg(h:p:=by have:=(FrR.of (Y:=[]) (by rw[bH];exact hp.sub (bZ _ _)) ok).h20;rwa[yg,ye] at this):p:=h
theorem mDh(h:p:=by refine gA3 ?_;exact mAb):p:=h
theorem mDi(h:p:=by rintro u w' ⟨rfl,rfl⟩;exact xc _ _ xj hh):p:=h
theorem mDj(h:p:=by refine gAh ?_;exact⟨k+1,qB (qB O5 (by rw[e];rfl)) O,⟨O1,g',h6,hp.H⟩,O1⟩):p:=h
theorem mDk(h:p:=by have:=uK hF.srt (fun i _=>bN i) hF.lt;omega):p:=h
theorem mDl(h:p:=by exact xU O O O ⟨_,O,O,hp.C⟩):p:=h
theorem mDm(h:p:=by rw[bF hn] at h;exact h):p:=h
theorem mDn(h:p:=by simp[PV,execOp,resolve,invoke,builtin,Builtin.max_,Builtin.max2,hx,hy,this]):p:=h
theorem mDo(h:p:=by rw[←bU,←dD,show(gQ-2).succ=gQ-1 from by decide];exact cgN (hf.trans O2)):p:=h
theorem mDp(h:p:=by rw[jUp];have:=zN ⟨sz,ds,none⟩ F (some p) (enc x);exact aQ Act.tmps this):p:=h
theorem mDq(h:p:=by simp[Region.wanted] at hw):p:=h
theorem mDr(h:p:=by rw[if_neg xf] at hU;exact hP k hk hU j hb):p:=h
theorem mDs(h:p:=by refine qU (tB ?_);refine qA ?_;exact mA9):p:=h
theorem mDt(h:p:=by exact((hh.1 (by rw[qa.wi];exact hw)).congr (qa.ei a vp).symm).mono key):p:=h
theorem mDu(h:p:=by exact .inl ((xb.1 hw).wp fun v w' ⟨hg,hh⟩=>xc _ _ (hE h4 _ hg) hh)):p:=h
theorem mDv(h:p:=by rw[if_neg (fun e=>hx e.symm),if_neg hx]):p:=h
theorem mDw(h:p:=by refine qA ?_;obtain rfl:i=l.length:=O1;exact qM O O ⟨_,O,O,hk,hJ⟩):p:=h
theorem mDx(h:p:=by refine qA ?_;refine⟨_,_,?_,O1,O1,hp,O,O,trivial⟩;rw[e1,dW,←dM]):p:=h
theorem mDy(h:p:=by rw[show 0+A.length*1+i*1=0+(A.length+i)*1+0 from by omega];exact yc):p:=h
theorem mDz(h:p:=by have:=(bO.1 hs).1 _ e1;omega):p:=h
theorem mE0(h:p:=by simp[PV,execOp,resolve,invoke,builtin,Builtin.len_,hx,jQ hq,goInt]):p:=h
theorem mE1(h:p:=by rw[results_tmp h];rw[←hv,←zF];rfl):p:=h
theorem mE2(h:p:=by obtain⟨k,hk⟩:=h;obtain⟨q,hq⟩:=h2;exact⟨k+q,by grind⟩):p:=h
theorem mE3(h:p:=by rw[qa.wq] at hw;exact(((h x hx).1 hw).congr (qa.ep a v)).mono hF):p:=h
theorem mE4(h:p:=by refine qA ?_;exact xU O (fT O) (fI O) ⟨_,O,O,ac.trans hk O4⟩):p:=h
theorem mE5(h:p:=by subst hi;rw[bR O1,nP O1,bH]):p:=h
theorem mE6(h:p:=by refine jL ?_;exact mAb):p:=h
theorem mE7(h:p:=by refine qA ?_;exact xU O O O ⟨_,O,s3,c3,s4,c4,O,yv,uh,hp.C⟩):p:=h
theorem mE8(h:p:=by refine qA ?_;exact yP O O O O O (hp.j4 1 O O) ⟨_,O,O,hp.C⟩):p:=h
theorem mE9(h:p:=by rw[mf];exact⟨ok.C,ok.P,ok.S,ok.K,ok.D,ok.X,ok.L,ok.k,ok.l⟩):p:=h
theorem mEa(h:p:=by rintro a w ⟨F',rfl,hw⟩;exact hw):p:=h
theorem mEb(h:p:=by subst uu;refine qA ?_;exact xK O ⟨_,O,hp.C,Hp.y8 hp 0 O⟩):p:=h
theorem mEc(h:p:=by subst uu;refine qA ?_;exact xK O ⟨_,O,hp.C,Hp.q3 hp 0 O⟩):p:=h
theorem mEd(h:p:=by refine⟨j+1,qB (qB O5 ?_) O,⟨O1,hp⟩,O1⟩;rw[xy,hb];rfl):p:=h
theorem mEe(h:p:=by have hp:=hp.norm 1 (eQ (yK y _)) O (by rw[e];rfl);exact mAm):p:=h
theorem mEf(h:p:=by unfold isAgg;simp[bJ,jQ h,aK];cases d<;>first|rfl|cases h1):p:=h
theorem mEg(h:p:=by rw[←qGi];simp[PV,execOp,hx,hy,eqGuard,binOp,Op.stringOp]):p:=h
theorem mEh(h:p:=by refine jL ?_;exact qM (v:=.bool true) O O ⟨_,O,O,hp.C⟩):p:=h
theorem mEi(h:p:=by have h1:=hW.len;have:2^(l.length-0)≤2^12:=aR O2 O1;omega):p:=h
theorem mEj(h:p:=by have:=hp.own 1 _ O mb O;exact mCe):p:=h
theorem mEk(h:p:=by cases v<;>first|(cases h1;done)|simp[store,Sem.run,hc,hf]):p:=h
theorem mEl(h:p:=by intro u hu;have:=h1 u hu;cases u<;>first|rfl|(cases this)):p:=h
theorem mEm(h:p:=by refine qR ?_;exact⟨O,no (by simp only[ltL,dL];grind)⟩):p:=h
theorem mEn(h:p:=by refine gA2 ?_;exact⟨k+1,qB O5 O,⟨O1,by grind⟩,O1⟩):p:=h
theorem mEo(h:p:=by unfold qAm;rw[if_neg (by grind),if_neg (by grind)];decide):p:=h
theorem mEp(h:p:=by intro y hy;rw[hP] at hy;exact gF ((wK lt _).mem_iff.1 hy)):p:=h
theorem mEq(h:p:=by exact qM (v:=.bool true) O O ⟨_,O,O,hH.trans hp.C O4⟩):p:=h
theorem mEr(h:p:=by exact(show Tryz.prog.wantsStandIn 22=false by kernel_rfl)):p:=h
theorem mEs(h:p:=by have:(i+1)*k≤c*k:=aL k O1;rw[fE,lR] at this;exact this):p:=h
theorem mEt(h:p:=by have:=aZ (by simpa using hr);subst this;simp[Instr.fill]):p:=h
theorem mEu(h:p:=by unfold Instr.checkKey;simp[jQ h]):p:=h
theorem mEv(h:p:=by refine tV ?_;exact⟨_,O,O,hp⟩):p:=h
theorem mEw(h:p:=by rw[if_neg O1] at this;exact this):p:=h
theorem mEx(h:p:=by refine wlp (zX O O O) (qF (qK O1 O1)) (tV ?_);exact mB0):p:=h
theorem mEy(h:p:=by refine gAa ?_;exact qM O O ⟨_,O,O,KB.of hp.C,hX hp⟩):p:=h
theorem mEz(h:p:=by unfold WP;rw[FrK.k8 hr];exact pH.2 (qPm hm hn G hG h)):p:=h
theorem mF0(h:p:=by rw[hw] at this;rw[zN];exact⟨fun _=>this.1,this.2⟩):p:=h
theorem mF1(h:p:=by refine qA ?_;exact⟨x1,n1,e1,O1,O1,hp,O,O,trivial⟩):p:=h
theorem mF2(h:p:=by refine gA2 ?_;exact⟨k+1,qB O5 O,⟨O1,hp.H⟩,O1⟩):p:=h
theorem mF3(h:p:=by refine gA7 ?_;exact mA8):p:=h
theorem mF4(h:p:=by rw[←hf,iX,iX];apply mR;intro y _;rw[Bool.and_comm]):p:=h
theorem mF5(h:p:=by exact hh (blk b 1 (qE [.int _ (oI (pk _ []))]) 3) dO):p:=h
theorem mF6(h:p:=by rintro _ w2 ⟨x,rfl,hx,hk⟩;exact⟨O,x,O,hx,hk⟩):p:=h
end
abbrev Ad(b:Nat):Option Addr:=some ⟨b,0,none⟩
abbrev Iv(z:Int):Value:=.int .i64 z
abbrev Zs:Value:=.slice none 0 0
abbrev aA:=@List.getElem?_eq_getElem
abbrev aB:=@decide_eq_false
abbrev aC:=@List.getD_eq_getElem?_getD
abbrev aD:=@decide_eq_true
abbrev aF:=@Bool.and_eq_true
abbrev aG:=@List.take_succ_eq_append_getElem
abbrev aH:=@List.getElem?_eq_some_iff
abbrev aI:=@List.mem_of_getElem?
abbrev aJ:=@Array.getD_eq_getD_getElem?
abbrev aK:=@Go.Result.andThen_ok
abbrev aL:=@Nat.mul_le_mul_right
abbrev aM:=@List.length_map
abbrev aN:=@Nat.mod_eq_of_lt
abbrev aO:=@List.mem_range
abbrev aP:=@Array.getElem?_eq_getElem
abbrev aQ:=@congrArg
abbrev aR:=@Nat.pow_le_pow_right
abbrev aT:=@Array.getElem?_eq_some_iff
abbrev aU:=@List.mem_append_right
abbrev aX:=@List.drop_eq_getElem_cons
abbrev aY:=@List.length_append
abbrev aZ:=@List.eq_nil_of_length_eq_zero
abbrev bD:=@List.mem_map
abbrev bE:=@List.mem_cons
abbrev bF:=@Nat.eq_of_beq_eq_true
abbrev bG:=@Classical.byContradiction
abbrev bH:=@List.append_nil
abbrev bJ:=@Go.Sem.run_bind
abbrev bL:=@Nat.le_trans
abbrev bM:=@Nat.le_refl
abbrev bN:=@Nat.zero_le
abbrev bO:=@List.pairwise_cons
abbrev bQ:=@List.append_assoc
abbrev bR:=@List.take_of_length_le
abbrev bT:=@List.length_cons
abbrev bU:=@Int.natCast_mul
abbrev bV:=@List.length_take
abbrev bW:=@Nat.mul_comm
abbrev bX:=@List.getElem_mem
abbrev bY:=@Nat.lt_of_le_of_lt
abbrev bZ:=@List.sublist_append_right
abbrev cF:=@Nat.mul_le_mul
abbrev cJ:=@Nat.lt_of_lt_of_le
abbrev cU:=@List.all_eq_true
abbrev cZ:=@Array.all_eq_true_iff_forall_mem
abbrev dA:=@List.length_range
abbrev dB:=@List.mem_append_left
abbrev dD:=@Nat.pow_succ
abbrev dE:=@List.take_length
abbrev dF:=@List.getElem?_map
abbrev dG:=@Nat.mod_lt
abbrev dH:=@Nat.eq_zero_or_pos
abbrev dI:=@Bool.or_false
abbrev dJ:=@Nat.lt_succ_iff_lt_or_eq
abbrev dK:=@Nat.mul_le_mul_left
abbrev dL:=@decide_eq_true_eq
abbrev dM:=@Nat.div_div_eq_div_mul
abbrev dO:=@List.mem_cons_self
abbrev dP:=@List.pairwise_iff_getElem
abbrev dQ:=@Rat.mul_le_mul_of_nonneg_left
abbrev dR:=@List.map_append
abbrev dT:=@List.sublist_append_left
abbrev dU:=@Nat.div_lt_iff_lt_mul
abbrev dV:=@Go.Sem.run_pure
abbrev dW:=@Nat.pow_add
abbrev dX:=@List.mem_cons_of_mem
abbrev dY:=@List.map_cons
abbrev dZ:=@List.nodup_iff_pairwise_ne
abbrev eC:=@Option.map_some
abbrev eE:=@Bool.false_eq_true
abbrev eF:=@List.ext_getElem?
abbrev eJ:=@Nat.div_eq_of_lt
abbrev eK:=@Nat.le_of_ble_eq_true
abbrev eM:=@Nat.min_eq_left
abbrev eO:=@List.take_append_drop
abbrev eP:=@List.perm_append_comm
abbrev eX:=@and_true
abbrev eY:=@List.pairwise_append
abbrev fA:=@decide_eq_false_iff_not
abbrev fD:=@List.getElem?_eq_none
abbrev fE:=@Nat.add_mul
abbrev fG:=@List.getElem?_of_mem
abbrev fH:=@Nat.zero_add
abbrev fJ:=@List.length_drop
abbrev fK:=@Nat.mul_assoc
abbrev fN:=@List.mem_filter
abbrev fO:=@List.mem_append
abbrev fQ:=@Bool.or_eq_true
abbrev fR:=@Nat.div_le_self
abbrev fV:=@Nat.div_add_mod
abbrev fW:=@List.range_succ
abbrev fX:=@List.length_reverse
abbrev fY:=@Array.getElem?_setIfInBounds
abbrev fZ:=@List.length_set
abbrev gE:=@Rat.mkRat_eq_div
abbrev gF:=@List.mem_of_mem_take
abbrev gI:=@Int.emod_lt_of_pos
abbrev gJ:=@Nat.pow_pos
abbrev gK:=@Int.emod_nonneg
abbrev gM:=@Option.some.inj
abbrev gT:=@Nat.not_lt_zero
abbrev gU:=@List.eq_nil_iff_forall_not_mem
abbrev gZ:=@List.getElem?_append_right
abbrev iA:=@Rat.mul_nonneg
abbrev iB:=@List.getElem?_set
abbrev iC:=@Nat.mul_add
abbrev iD:=@Nat.pow_lt_pow_right
abbrev iE:=@Nat.add_mul_mod_self_left
abbrev iF:=@Nat.add_zero
abbrev iG:=@Bool.eq_iff_iff
abbrev iH:=@Option.getD_some
abbrev iI:=@Int.natCast_emod
abbrev iJ:=@Nat.pow_mul
abbrev iK:=@Rat.intCast_natCast
abbrev iL:=@Nat.lt_or_ge
abbrev iM:=@List.Perm.swap
abbrev iN:=@List.mem_singleton
abbrev iO:=@List.foldl_cons
abbrev iP:=@List.map_map
abbrev iQ:=@List.drop_length
abbrev iR:=@List.countP_cons
abbrev iS:=@List.flatMap_append
abbrev iT:=@of_decide_eq_true
abbrev iU:=@Nat.mul_pos
abbrev iV:=@List.eq_nil_or_concat
abbrev iW:=@if_false
abbrev iX:=@List.filter_filter
abbrev iY:=@List.reverse_reverse
abbrev iZ:=@Go.World.block_lt_of_cell?
abbrev lA:=@Bool.not_eq_true'
abbrev lB:=@Go.RowKit.Below.heap_alloc
abbrev lC:=@Go.wpIn_mono
abbrev lD:=@List.reverse_append
abbrev lF:=@List.mem_take_iff_getElem
abbrev lG:=@List.length_replicate
abbrev lI:=@Array.getElem?_modify
abbrev lJ:=@List.countP_le_length
abbrev lK:=@Int.natAbs_natCast
abbrev lL:=@List.countP_append
abbrev lM:=@Nat.le_of_dvd
abbrev lO:=@Nat.succ_mul
abbrev lP:=@Nat.gcd_pos_of_pos_right
abbrev lR:=@Nat.one_mul
abbrev lS:=@List.nodup_cons
abbrev lT:=@List.nil_append
abbrev lU:=@List.filter_eq_self
abbrev lV:=@List.map_congr_left
abbrev lW:=@Nat.sub_self
abbrev lZ:=@List.getElem_cons_drop
abbrev mC:=@Nat.mod_one
abbrev mD:=@List.filter_cons
abbrev mE:=@List.mem_nil_iff
abbrev mF:=@List.getElem_map
abbrev mG:=@List.cons_append
abbrev mH:=@Nat.lt_of_mul_lt_mul_right
abbrev mI:=@Array.toList_setIfInBounds
abbrev mJ:=@List.length_eraseIdx_of_lt
abbrev mL:=@Nat.le_div_iff_mul_le
abbrev mM:=@List.concat_eq_append
abbrev mN:=@Int.natCast_add
abbrev mO:=@List.length_nil
abbrev mQ:=@Rat.natCast_mul
abbrev mR:=@List.filter_congr
abbrev mS:=@Nat.add_mul_div_left
abbrev mU:=@Nat.gcd_dvd_right
abbrev mV:=@List.flatMap_cons
abbrev mX:=@Rat.le_refl
abbrev mY:=@List.set_eq_of_length_le
abbrev mZ:=@List.eraseIdx_eq_take_drop_succ
abbrev nA:=@List.length_pos_iff
abbrev nC:=@Nat.pow_le_pow_left
abbrev nD:=@List.getElem?_range
abbrev nE:=@List.getElem?_replicate
abbrev nF:=@List.Nodup.length_le_of_subset
abbrev nG:=@Array.foldl_toList
abbrev nH:=@List.pairwise_lt_range
abbrev nI:=@Array.getElem_ofFn
abbrev nJ:=@List.drop_of_length_le
abbrev nK:=@Nat.pow_zero
abbrev nL:=@List.getElem?_take
abbrev nM:=@List.getElem?_drop
abbrev nN:=@Rat.sub_eq_add_neg
abbrev nO:=@List.filter_append
abbrev nP:=@List.drop_eq_nil_of_le
abbrev nQ:=@Rat.intCast_mul
abbrev nR:=@Nat.two_pow_pos
abbrev nS:=@Nat.ble_eq_true_of_le
abbrev nT:=@Int.toNat_natCast
abbrev nU:=@List.pairwise_map
abbrev nV:=@List.Sublist.refl
abbrev nX:=@List.take_add_one
abbrev nY:=@List.length_filter_lt_length_iff_exists
abbrev nZ:=@cond_false
abbrev oA:=@Nat.mul_lt_mul_right
abbrev oB:=@Nat.mul_one
abbrev oD:=@List.erase_cons_tail
abbrev oE:=@Int.natAbs_mul
abbrev oF:=@List.perm_ext_iff_of_nodup
abbrev oG:=@List.eraseIdx_of_length_le
abbrev oH:=@Rat.mul_pos
abbrev oJ:=@Std.Legacy.Range.forIn_eq_forIn_range'
abbrev oL:=@Nat.zero_mod
abbrev oM:=@Nat.add_comm
abbrev oN:=@Nat.le_of_lt
abbrev oO:=@Go.IntKind.wrap_u64
abbrev oQ:=@Bool.or_true
abbrev oR:=@List.flatMap_map
abbrev oT:=@Nat.lt_succ_self
abbrev oU:=@List.getElem_inj
abbrev oV:=@Nat.le_add_right
abbrev oW:=@List.drop_set_of_lt
abbrev oY:=@Nat.div_mul_le_self
abbrev oZ:=@Bool.false_or
abbrev pA:=@List.map_take
abbrev pB:=@List.all_cons
abbrev pC:=@Nat.div_lt_self
abbrev pD:=@Nat.mod_mod_of_dvd
abbrev pE:=@Nat.add_sub_cancel
abbrev pG:=@Nat.mul_right_comm
abbrev pH:=@Go.wpIn_wide
abbrev pI:=@Nat.mul_mod
abbrev pJ:=@Nat.mod_mod
abbrev pK:=@Nat.pow_mod
abbrev pL:=@Rat.inv_pos
abbrev pM:=@Rat.natCast_eq_zero_iff
abbrev pN:=@Nat.add_sub_cancel_left
abbrev pP:=@List.eraseIdx_append_of_length_le
abbrev pQ:=@List.set_eq_take_append_cons_drop
abbrev pR:=@bne_self_eq_false
abbrev pS:=@Go.callsIn_wide
abbrev pT:=@Nat.gcd_comm
abbrev pU:=@Nat.mod_eq_zero_of_dvd
abbrev pV:=@List.length_eq_one_iff
abbrev pW:=@Int.mul_comm
abbrev pX:=@List.getElem_cons_succ
abbrev pY:=@List.nodup_append
abbrev pZ:=@Rat.le_trans
abbrev rA:=@List.map_nil
abbrev rB:=@Rat.mkRat_self
abbrev rC:=@List.reverse_perm
abbrev rD:=@Nat.Coprime.dvd_of_dvd_mul_left
abbrev rE:=@List.length_filter_le
abbrev rF:=@List.set_append_right
abbrev rG:=@List.Perm.append_left
abbrev rH:=@Classical.choose_spec
abbrev rJ:=@Array.ext
abbrev rK:=@Nat.mul_lt_mul''
abbrev rL:=@BitVec.toNat_and
abbrev rM:=@Nat.and_two_pow_sub_one_eq_mod
abbrev rN:=@Nat.mod_le
abbrev rO:=@Go.World.size_alloc
abbrev rP:=@beq_self_eq_true
abbrev rQ:=@Array.toList_map
abbrev rS:=@List.take_set
abbrev rT:=@Int.mul_assoc
abbrev rU:=@List.sum_cons
abbrev rV:=@Nat.or_comm
abbrev rW:=@List.replicate_succ'
abbrev rX:=@List.range'_append_1
abbrev rY:=@List.mem_of_getLast?
abbrev rZ:=@true_and
abbrev sH:=@List.cons.injEq
abbrev sJ:=@Rat.natCast_add
abbrev sU:=@Nat.lt_mul_div_succ
abbrev sZ:=@List.replicate_succ
abbrev xB:=@Array.length_toList
abbrev xS:=@Array.toList_zipIdx
abbrev sAa:=@List.getElem_of_mem
abbrev sAb:=@Array.getElem_setIfInBounds
abbrev sAc:=@Nat.sub_zero
abbrev sAd:=@Int.pow_succ
abbrev sAe:=@List.idxOf_lt_length_of_mem
abbrev sAf:=@Nat.succ_pos
abbrev sAg:=@Rat.le_of_lt
abbrev sAh:=@Nat.two_pow_add_eq_or_of_lt
abbrev sAi:=@Go.wpIn_block
abbrev sAj:=@of_decide_eq_false
abbrev sAk:=@Array.getElem_append_right
abbrev sAl:=@Int.tdiv_eq_ediv_of_nonneg
abbrev sAm:=@Nat.mod_mul_right_div_self
abbrev sAn:=@List.drop_zero
abbrev sAo:=@List.set_cons_zero
abbrev sAp:=@Nat.gcd_zero_right
abbrev sAq:=@Nat.eq_of_mul_eq_mul_right
abbrev sAr:=@UInt8.toNat_ofNat'
abbrev sAs:=@Go.Calls.mono
abbrev sAt:=@or_false
abbrev sAu:=@Nat.lt_or_gt_of_ne
abbrev sAv:=@Go.size_madeCells
abbrev sAw:=@List.drop_drop
abbrev sAx:=@Nat.lt_of_mul_lt_mul_left
abbrev sAy:=@List.mem_or_eq_of_mem_set
abbrev sAz:=@List.getElem?_append_left
abbrev sA0:=@Nat.div_one
abbrev sA1:=@Option.some.injEq
abbrev sA2:=@Int.mul_sub
abbrev sA3:=@Int.one_mul
abbrev sA4:=@List.take_sublist
abbrev sA5:=@List.countP_congr
abbrev sA6:=@Go.wp_region_any
abbrev sA7:=@Go.Oper.semAt_eq
abbrev sA8:=@Nat.dvd_trans
abbrev sA9:=@List.Nodup.not_mem_erase
abbrev sBa:=@List.Perm.eq_of_pairwise
abbrev sBb:=@Int.mul_ediv_cancel_left
abbrev sBc:=@List.ext_getElem
abbrev sBd:=@Nat.gcd_dvd_left
abbrev sBe:=@List.nodup_range
abbrev sBf:=@List.range'_succ
abbrev sBg:=@List.mem_flatMap
abbrev sBh:=@Nat.mul_zero
abbrev sBi:=@Nat.lt_trans
abbrev sBj:=@Nat.sub_le
abbrev sBk:=@decide_false
abbrev sBl:=@Rat.not_lt
abbrev sBm:=@List.take_left'
abbrev sBn:=@Nat.mul_mod_mod
abbrev sBo:=@List.find?_cons
abbrev sBp:=@List.countP_nil
abbrev sBq:=@List.countP_map
abbrev sBr:=@BitVec.toNat_or
abbrev sBs:=@List.map_id
abbrev sBt:=@List.nodup_nil
abbrev sBu:=@Int.le_refl
abbrev sBv:=@cond_true
abbrev sBw:=@Array.ext'
end Go
namespace Go.Eng
open List (range range' replicate)
section
variable{P:Program}{ops:Array Oper}{o:Oper}{i:Nat}{a:Act}{w:World}{v:Value}{j:Nat}{nd:Oper→Bool}{R:Value→World→Prop}{a':Act}{G:World→Prop}{wG:World}{listed:Array Bool}
def zC:Op→Bool
 | .move _|.assign _|.pick ..|.fieldAddr ..|.field ..|.load ..|.nilCheck _|.binOp ..|.unOp ..|.convert ..|.makeInterface ..
 | .makeFunc ..|.slice ..|.indexAddr ..|.index ..|.extract ..|.lookup ..|.build ..=>false
 | .call c=>match c.callee with|.builtin .len|.builtin .min|.builtin .max|.builtin .cap=>false|_=>true
 |_=>true
def qM8:Op→Bool
 | .select ..=>false
 |_=>true
def Step(P:Program)(o:Oper)(a:Act)(w:World)(R:Value→World→Prop):Prop:=
 (∃v w',(execOp a.eval o).run P w= .ok (.value v) w'∧R v w')∨
 (∃w',(execOp a.eval o).run P w= .ok .skip w'∧R undef w')∨
 (∃f args w1,(execOp a.eval o).run P w= .ok (.enter f args) w1∧Calls P f args w1 (fun e w'=>∃v,e= .returned v∧R v w'))
theorem Step.mono{P:Program}{o:Oper}{a:Act}{w:World}{R R':Value→World→Prop}(h:Step P o a w R)(hr:∀v w',R v w'→R' v w'):Step P o a w R':=by
 rcases h with⟨v,w',h1,h2⟩|⟨w',h1,h2⟩|⟨f,args,w1,h1,h2⟩
 ·exact .inl ⟨v,w',h1,hr _ _ h2⟩
 ·exact .inr (.inl ⟨w',h1,hr _ _ h2⟩)
 exact .inr (.inr ⟨f,args,w1,h1,h2.mono fun e w' ⟨v,he,hv⟩=>⟨v,he,hr _ _ hv⟩⟩)
theorem Step.out(h:Step P o a w R):∃v w',R v w':=by
 rcases h with⟨v,w',_,h2⟩|⟨w',_,h2⟩|⟨f,args,w1,_,h2⟩
 ·exact⟨v,w',h2⟩
 ·exact⟨_,w',h2⟩
 obtain⟨e,w',fr,⟨v,_,hv⟩,_⟩:=h2 [];exact⟨v,w',hv⟩
theorem Step.congr(he:execOp a'.eval o=execOp a.eval o)(h:Step P o a w R):Step P o a' w R:=by
 unfold Step at*
 rw[he];exact h
theorem Step.wp{P:Program}{o:Oper}{a:Act}{w:World}{R:Value→World→Prop}{K:Act→World→Prop}{Q:Exit→Act→World→Prop}(h:Step P o a w R)
  (hk:∀v w',R v w'→K (a.put o.dst v) w'):o.wp P a w K Q:=by
 unfold Oper.wp;rcases h with⟨v,w',h1,h2⟩|⟨w',h1,h2⟩|⟨f,args,w1,h1,h2⟩
 ·rw[h1];exact hk _ _ h2
 ·rw[h1];exact hk _ _ h2
 rw[h1];exact h2.mono fun e w' ⟨v,he,hv⟩=>by subst he;exact hk _ _ hv
def YV(P:Program)(ops:Array Oper)(G:World→Prop)(o:Oper)(a:Act)(v:Value):Prop:=
 (Region.wanted o (yielded ops a.tmps)=true∧∀w,G w→(execOp a.eval o).run P w= .ok (.value v) w)∨
 (Region.wanted o (yielded ops a.tmps)=false∧v=undef)
theorem YV.congr(he:execOp a'.eval o=execOp a.eval o)
  (hw:Region.wanted o (yielded ops a'.tmps)=Region.wanted o (yielded ops a.tmps)) (h:YV P ops G o a v):YV P ops G o a' v:=by
 unfold YV at*
 rw[he,hw];exact h
theorem YV.aB4{v':Value}(hw:G w)(h:YV P ops G o a v)(h':YV P ops G o a v'):v=v':=by
 rcases h with⟨h1,h2⟩|⟨h1,h2⟩<;>rcases h' with⟨h3,h4⟩|⟨h3,h4⟩
 ·have e1:=h2 w hw;have e2:=h4 w hw;rw[e1] at e2;simpa using e2
 ·rw[h1] at h3;cases h3
 ·rw[h1] at h3;cases h3
 rw[h2,h4]
def EffStep(P:Program)(ops:Array Oper)(o:Oper)(a:Act)(w:World)(K:Act→World→Prop):Prop:=
 (Region.wanted o (yielded ops a.tmps)=true→Step P o a w (fun v w'=>K (a.put o.dst v) w'))∧
 (Region.wanted o (yielded ops a.tmps)=false→K (a.put o.dst undef) w)
theorem EffStep.mono{P:Program}{ops:Array Oper}{o:Oper}{a:Act}{w:World}{K K':Act→World→Prop}(h:EffStep P ops o a w K)(hk:∀a w,K a w→K' a w):EffStep P ops o a w K':=
 ⟨fun hw=>(h.1 hw).mono fun _ _=>hk _ _,fun hw=>hk _ _ (h.2 hw)⟩
def wl(P:Program):Op→Bool
 | .move _|.assign _=>true
 | .fieldAddr s _ i=>match P.underlying s with
  |some (.struct fs)=>match fs[i]? with
   |some f=>match (P.info? f.type).map (·.size) with
    |some (_+1)=>true
    |_=>false
   |none=>false
  |_=>false
 | .indexAddr t _ _=>match P.underlying t with
  |some (.slice e)=>(P.info? e).isSome
  |_=>false
 |_=>false
theorem qPo{ρ:Operand→Value}{w':World}(h:wl P o.op=true)(hr:(execOp ρ o).run P w= .ok (.value v) w):(execOp ρ o).run P w'= .ok (.value v) w':=by
 cases o with
 |mk dst op ty pos aft g=>
  cases op<;>first|(cases h;done)|skip
  ·simpa[execOp] using hr
  ·simpa[execOp] using hr
  ·rename_i s x i
   simp only[wl] at h;split at h
   ·rename_i fs hfs
    split at h
    ·rename_i f hf
     split at h
     ·rename_i k hk
      have hg:∀w,(sizeOf f.type).run P w= .ok (k+1) w:=by
       intro w;cases hi:P.info? f.type with
       |none=>simp[hi] at hk
       |some inf=>simp[hi] at hk;simp[sizeOf,typeInfo,hi,hk]
      have hu:∀w,(underlying s).run P w= .ok (.struct fs) w:=fun w=>by simp[underlying,hfs]
      simp only[execOp,Instr.fieldAt,bJ,hu,aK,hf] at hr⊢;cases hx:ρ x with
      |pointer a=>
       cases a with
       |none=>simp[hx,Instr.sureAddr] at hr
       |some a=>
        simp[hx,Instr.sureAddr,fieldPlace,hg] at hr⊢;exact hr
      |_=>simp[hx,Instr.sureAddr] at hr
     cases h
    cases h
   cases h
  rename_i t x y
  simp only[wl] at h;split at h
  ·rename_i e he
   obtain⟨inf,hh⟩:=Option.isSome_iff_exists.1 h;have hg:∀w,(sizeOf e).run P w= .ok inf.size w:=fun w=>by simp[sizeOf,typeInfo,hh]
   have hu:∀w,(underlying t).run P w= .ok (.slice e) w:=fun w=>by simp[underlying,he]
   simp only[execOp,Instr.indexAt,bJ] at hr⊢;cases hy:ρ y with
   |int k i=>
    cases hx:ρ x with
    |slice b m c=>
     cases b with
     |none=>
      simp[hy,hx,asIntOf,hu,boundsPanic,runtimePanic] at hr;split at hr<;>(try split at hr)<;>cases hr
     |some a=>
      by_cases hb:0≤i∧i<m
      ·simp[hy,hx,asIntOf,hu,hg,hb] at hr⊢;exact hr
      simp[hy,hx,asIntOf,hu,hb,boundsPanic,runtimePanic] at hr;split at hr<;>(try split at hr)<;>cases hr
    |_=>simp[hy,hx,asIntOf,hu] at hr
   |pointer p=>cases p<;>simp[hy,asIntOf] at hr
   |_=>simp[hy,asIntOf] at hr
  cases h
def wpD(P:Program)(ops:Array Oper)(nd:Oper→Bool)(G:World→Prop)(K:Act→World→Prop):List Oper→Act→World→Prop
 |[],a,w=>K a w
 |o::rest,a,w=>
  if zC o.op then EffStep P ops o a w (fun a' w'=>(nd o=true→G w')∧wpD P ops nd G K rest a' w')
  else∃v,YV P ops G o a v∧wpD P ops nd G K rest (a.put o.dst v) w
def jA(ops:Array Oper)(i:Nat):Oper:=ops.getD i default
def qC8(ops:Array Oper)(p i:Oper):Bool:=p.apart ops i&& !(zC p.op&&zC i.op)&&qM8 p.op&&qM8 i.op
section
variable {P:Program}{ops:Array Oper}{nd:Oper→Bool}{G:World→Prop}{K:Act→World→Prop}
theorem qQ4(h:qM8 o.op=true):∀cs b,o.op≠.select cs b:=by
 intro cs b e;rw[e] at h;cases h
theorem jW9(h8:G wG)(i:Nat):∀(l:List Nat) (a:Act) (w:World),wpD P ops nd G K (l.map (jA ops)) a w→i∈l→l.Pairwise (·<·)→
  (∀j∈l,j<i→qC8 ops (jA ops j) (jA ops i)=true)→
  if zC (jA ops i).op then EffStep P ops (jA ops i) a w (fun a' w'=>(nd (jA ops i)=true→G w')∧wpD P ops nd G K ((l.filter (· !=i)).map (jA ops)) a' w')
  else∃v,YV P ops G (jA ops i) a v∧wpD P ops nd G K ((l.filter (· !=i)).map (jA ops)) (a.put (jA ops i).dst v) w:=by
 intro l;induction l with
 |nil=>intro a w _ h;cases h
 |cons p rest ih=>
  intro a w h hi hs hn;obtain⟨hq,h5⟩:=bO.1 hs;by_cases hp:p=i
  ·subst hp;have hf:(p::rest).filter (· !=p)=rest:=by
    rw[mD];simp only[pR,eE,iW];rw[lU];intro x hx;have:=hq x hx;simp;omega
   rw[hf];simpa[wpD] using h
  have hy:i∈rest:=by
   rcases bE.1 hi with e|e
   ·exact absurd e.symm hp
   exact e
  have hl:p<i:=hq i hy;have h9:=hn p O4 hl;have hK:∀j∈rest,j<i→qC8 ops (jA ops j) (jA ops i)=true:=fun j hj=>hn j (by simp[hj])
  have hf:(p::rest).filter (· !=i)=p::rest.filter (· !=i):=by
   rw[mD,if_pos (by simpa using hp)]
  rw[hf,dY];simp only[qC8,aF,lA,Bool.and_eq_false_iff] at h9;obtain⟨⟨⟨hL,hE⟩,h7⟩,hH⟩:=h9;obtain⟨h1,h2,h3⟩:=Oper.apart_spec hL;have ei:∀(a:Act) (v:Value),execOp (a.put (jA ops p).dst v).eval (jA ops i)=execOp a.eval (jA ops i):=fun a v=>execOp_put _ (qQ4 hH) a _ v h1
  have ep:∀(a:Act) (v:Value),execOp (a.put (jA ops i).dst v).eval (jA ops p)=execOp a.eval (jA ops p):=fun a v=>execOp_put _ (qQ4 h7) a _ v h3
  have wi:∀(a:Act) (v:Value),Region.wanted (jA ops i) (yielded ops (a.put (jA ops p).dst v).tmps)=Region.wanted (jA ops i) (yielded ops a.tmps):=fun a v=>wanted_put _ a _ v h1
  have wq:∀(a:Act) (v:Value),Region.wanted (jA ops p) (yielded ops (a.put (jA ops i).dst v).tmps)=Region.wanted (jA ops p) (yielded ops a.tmps):=fun a v=>wanted_put _ a _ v h3
  have hc:∀(a:Act) (v u:Value),(a.put (jA ops p).dst v).put (jA ops i).dst u=(a.put (jA ops i).dst u).put (jA ops p).dst v:=fun a v u=>Act.put_comm a v u h2
  rw[dY] at h;by_cases h4:zC (jA ops p).op=true
  ·
   have ht:zC (jA ops i).op=false:=by
    rcases hE with e|e
    ·rw[h4] at e;cases e
    exact e
   rw[if_neg (by rw[ht];simp)];simp only[wpD,h4,if_true] at h;have key:∀u w',wpD P ops nd G K (rest.map (jA ops)) (a.put (jA ops p).dst u) w'→∃v,YV P ops G (jA ops i) a v∧wpD P ops nd G K ((rest.filter (· !=i)).map (jA ops)) ((a.put (jA ops p).dst u).put (jA ops i).dst v) w':=by
    intro u w' hr;have:=ih _ _ hr hy h5 hK;rw[if_neg (by rw[ht];simp)] at this;obtain⟨v,hv,hz⟩:=this;exact⟨v,hv.congr (ei a u).symm (wi a u).symm,hz⟩
   have hex:∃v,YV P ops G (jA ops i) a v:=by
    cases hwp:Region.wanted (jA ops p) (yielded ops a.tmps)
    ·obtain⟨_,hr⟩:=h.2 hwp;obtain⟨v,hv,_⟩:=key _ _ hr;exact⟨v,hv⟩
    obtain⟨u,w',_,hr⟩:=(h.1 hwp).out;obtain⟨v,hv,_⟩:=key _ _ hr;exact⟨v,hv⟩
   obtain⟨v,hv⟩:=hex;refine⟨v,hv,?_⟩;simp only[wpD,h4,if_true];have hF:∀u w',((nd (jA ops p)=true→G w')∧wpD P ops nd G K (rest.map (jA ops)) (a.put (jA ops p).dst u) w')→
     (nd (jA ops p)=true→G w')∧wpD P ops nd G K ((rest.filter (· !=i)).map (jA ops)) ((a.put (jA ops i).dst v).put (jA ops p).dst u) w':=by
    rintro u w' ⟨h6,hr⟩;obtain⟨v',hm,hz⟩:=key _ _ hr;have:=hv.aB4 h8 hm;subst this;rw[hc] at hz;exact⟨h6,hz⟩
   refine⟨fun hw=>?_,fun hw=>?_⟩
   ·rw[wq] at hw;exact((h.1 hw).congr (ep a v)).mono fun u w' hh=>hF u w' hh
   rw[wq] at hw;exact hF _ _ (h.2 hw)
  have hJ:zC (jA ops p).op=false:=by simpa using h4
  simp only[wpD,hJ,eE,iW] at h;obtain⟨vp,hD,hr⟩:=h;have hh:=ih _ _ hr hy h5 hK;by_cases ht:zC (jA ops i).op=true
  ·rw[if_pos ht] at hh⊢;have key:∀u w',((nd (jA ops i)=true→G w')∧wpD P ops nd G K ((rest.filter (· !=i)).map (jA ops)) ((a.put (jA ops p).dst vp).put (jA ops i).dst u) w')→
     (nd (jA ops i)=true→G w')∧wpD P ops nd G K (jA ops p::(rest.filter (· !=i)).map (jA ops)) (a.put (jA ops i).dst u) w':=by
    rintro u w' ⟨h6,hz⟩;refine⟨h6,?_⟩;simp only[wpD,hJ,eE,iW];rw[hc] at hz;exact⟨vp,hD.congr (ep a u) (wq a u),hz⟩
   refine⟨fun hw=>?_,fun hw=>?_⟩
   ·exact((hh.1 (by rw[wi];exact hw)).congr (ei a vp).symm).mono fun u w' hx=>key u w' hx
   exact key _ _ (hh.2 (by rw[wi];exact hw))
  rw[if_neg ht] at hh⊢;obtain⟨v,hv,hz⟩:=hh;refine⟨v,hv.congr (ei a vp).symm (wi a vp).symm,?_⟩;simp only[wpD,hJ,eE,iW];rw[hc] at hz;exact⟨vp,hD.congr (ep a v) (wq a v),hz⟩
def qAv(P:Program)(ops:Array Oper)(nd:Oper→Bool):Bool:=
 (range ops.size).all fun i=>(jA ops i).after.all (fun e=>!Region.binds .any e||decide (e.on<i))&&
  (!zC (jA ops i).op||nd (jA ops i)||(range ops.size).all fun j=>zC (jA ops j).op||wl P (jA ops j).op||((Region.before ops).getD i 0).testBit j)&&
  (range i).all fun j=>((Region.before ops).getD i 0).testBit j||qC8 ops (jA ops j) (jA ops i)
def wD(acc:Array Nat)(o:Oper):Array Nat:=acc.push (o.after.foldl (fun s e=>if Region.binds .any e then s|||2^e.on|||acc.getD e.on 0 else s) 0)
theorem qPe(acc:Array Nat)(j:Nat):∀(l:List Edge) (s:Nat),(l.foldl (fun s e=>if Region.binds .any e then s|||2^e.on|||acc.getD e.on 0 else s) s).testBit j=true→
  s.testBit j=true∨∃e∈l,Region.binds .any e=true∧(e.on=j∨(acc.getD e.on 0).testBit j=true)
 |[],s,h=>.inl h
 |e::l,s,h=>by
  simp only[iO] at h;rcases qPe acc j l _ h with h'|⟨e',hj,hb,hh⟩
  ·by_cases hb:Region.binds .any e=true
   ·rw[if_pos hb] at h';simp only[Nat.testBit_or,fQ] at h';rcases h' with(h'|h')|h'
    ·exact .inl h'
    ·refine .inr ⟨e,O4,hb,.inl ?_⟩;rw[Nat.testBit_two_pow] at h';simpa using h'
    exact .inr ⟨e,O4,hb,.inr h'⟩
   rw[if_neg hb] at h';exact .inl h'
  exact .inr ⟨e',by simp[hj],hb,hh⟩
theorem qS3:∀(l:List Oper) (acc:Array Nat) (k:Nat),k<acc.size→(l.foldl wD acc).getD k 0=acc.getD k 0
 |[],_,_,_=>rfl
 |o::l,acc,k,hk=>by
  rw[iO,qS3 l _ k (by simp[wD];omega)];simp only[wD,aJ,Array.getElem?_push];rw[if_neg O1]
theorem qZv:∀(l:List Oper) (acc:Array Nat) (k:Nat) (o:Oper) (j:Nat),l[k]? =some o→((l.foldl wD acc).getD (acc.size+k) 0).testBit j=true→
  ∃e∈o.after.toList,Region.binds .any e=true∧(e.on=j∨((l.foldl wD acc).getD e.on 0).testBit j=true)
 |[],_,_,_,_,h,_=>by simp at h
 |x::l,acc,0,o,j,h,hb=>by
  have hx:x=o:=by simpa using h
  subst hx;have h0:((x::l).foldl wD acc).getD (acc.size+0) 0=x.after.foldl (fun s e=>if Region.binds .any e then s|||2^e.on|||acc.getD e.on 0 else s) 0:=by
   rw[iO,qS3 l _ _ (by simp[wD])];simp[wD,aJ]
  rw[h0,←nG] at hb;rcases qPe acc j _ _ hb with h'|⟨e,he,h3,hh⟩
  ·simp at h'
  refine⟨e,he,h3,hh.imp id fun hh=>?_⟩;by_cases hl:e.on<acc.size
  ·rw[qS3 (x::l) acc e.on hl];exact hh
  rw[aJ,Array.getElem?_eq_none O1] at hh;simp at hh
 |x::l,acc,k+1,o,j,h,hb=>by
  rw[iO] at hb⊢;have hg:(wD acc x).size=acc.size+1:=by simp[wD]
  have:=qZv l (wD acc x) k o j (by simpa using h) (by rw[hg];rw[show acc.size+1+k=acc.size+(k+1) from by omega];exact hb);exact this
theorem jBq(ops:Array Oper):Region.before ops=ops.toList.foldl wD #[]:=by
 unfold Region.before;rw[←nG];rfl
theorem vR(hi:i<ops.size)(h:((Region.before ops).getD i 0).testBit j=true):
  ∃e∈(jA ops i).after.toList,Region.binds .any e=true∧(e.on=j∨((Region.before ops).getD e.on 0).testBit j=true):=by
 rw[jBq] at h⊢;have ho:ops.toList[i]? =some (jA ops i):=by
  simp[jA,aP hi]
 have:=qZv ops.toList #[] i (jA ops i) j ho (by simpa using h);exact this
theorem kJ(h:qAv P ops nd=true)(hi:i<ops.size):∀e∈(jA ops i).after.toList,Region.binds .any e=true→e.on<i:=by
 intro e he hb;simp only[qAv,cU,aF] at h;have h1:=(h i (by simpa using hi)).1.1;rw[cZ] at h1;have:=h1 e (by simpa using he);rw[hb] at this;simpa using this
theorem qK3(h:qAv P ops nd=true)(hi:i<ops.size)(hj:j<i):((Region.before ops).getD i 0).testBit j=true∨qC8 ops (jA ops j) (jA ops i)=true:=by
 simp only[qAv,cU,aF] at h;have h1:=(h i (by simpa using hi)).2 j (by simpa using hj);simpa using h1
theorem qK4(h:qAv P ops nd=true)(hi:i<ops.size)(hj:j<ops.size)(he:zC (jA ops i).op=true)(hp:zC (jA ops j).op=false)(hx:wl P (jA ops j).op=false):
  nd (jA ops i)=true∨((Region.before ops).getD i 0).testBit j=true:=by
 simp only[qAv,cU,aF] at h;have h1:=(h i (by simpa using hi)).1.2;rw[he] at h1;simp only[Bool.not_true,oZ,fQ,cU] at h1;rcases h1 with h1|h1
 ·exact .inl h1
 have:=h1 j (by simpa using hj);rw[hp,hx] at this;exact .inr (by simpa using this)
def left(ops:Array Oper)(listed:Array Bool):List Nat:=(range ops.size).filter fun i=>!listed.getD i true
theorem yN(ops:Array Oper)(listed:Array Bool):(left ops listed).Pairwise (·<·):=List.Pairwise.filter _ nH
theorem zZ:i∈left ops listed↔i<ops.size∧listed.getD i true=false:=by
 simp[left]
theorem uV(hi:i<ops.size)(hg:listed.size=ops.size):left ops (listed.setIfInBounds i true)=(left ops listed).filter (· !=i):=by
 unfold left;rw[iX];apply mR;intro x hx;by_cases hM:x=i
 ·subst hM;simp[aJ,hg,hi]
 have:(listed.setIfInBounds i true).getD x true=listed.getD x true:=by
  simp only[aJ,fY];rw[if_neg O1]
 rw[this];simp[hM]
variable {Q:Exit→Act→World→Prop}
theorem qWz(h8:G wG)(hy:qAv P ops nd=true)(hK:∀a w,K a w→Q .normal a w):∀(fuel:Nat) (listed:Array Bool) (a:Act) (w:World),listed.size=ops.size→(left ops listed).length≤fuel→
  (∀i,i<ops.size→listed.getD i true=true→∀j,((Region.before ops).getD i 0).testBit j=true→listed.getD j false=true)→
  (∀j∈left ops listed,zC (jA ops j).op=false→wl P (jA ops j).op=false→G w)→wpD P ops nd G K ((left ops listed).map (jA ops)) a w→wpAny P .any ops Q fuel listed a w:=by
 intro fuel;have done:∀(listed:Array Bool) (a:Act) (w:World),left ops listed=[]→wpD P ops nd G K ((left ops listed).map (jA ops)) a w→Q .normal a w:=by
  intro listed a w hl h;rw[hl] at h;exact hK _ _ h
 have hZ:∀(listed:Array Bool) i,i∈Region.ready .any ops listed↔i<ops.size∧listed.getD i true=false∧∀e∈(jA ops i).after.toList,Region.binds .any e=true→listed.getD e.on false=true:=by
  intro listed i;simp only[Region.ready,fN,aO,aF,lA];constructor
  ·rintro⟨h1,h2,h3⟩;refine⟨h1,h2,?_⟩;rw[aP h1] at h3;simp only[eC,iH] at h3;rw[cZ] at h3;intro e he hb;have:=h3 e (by simpa[jA,h1] using he);rw[hb] at this;simpa using this
  rintro⟨h1,h2,h3⟩;refine⟨h1,h2,?_⟩;rw[aP h1];simp only[eC,iH];rw[cZ];intro e he;cases hb:Region.binds .any e
  ·rfl
  simpa using h3 e (by simpa[jA,h1] using he) hb
 induction fuel with
 |zero=>
  intro listed a w ht hQ _ _ h;have hl:left ops listed=[]:=aZ O1;refine⟨?_,done _ _ _ hl h⟩;rw[gU];intro i hi;have:=(hZ listed i).1 hi;have hm:i∈left ops listed:=zZ.2 ⟨this.1,this.2.1⟩;rw[hl] at hm;cases hm
 |succ fuel ih=>
  intro listed a w ht hQ hP hG h;refine⟨fun xp=>?_,fun i hi=>?_⟩
  ·cases hl:left ops listed with
   |nil=>exact done _ _ _ hl h
   |cons i0 rest=>
    exfalso;have hm:i0∈left ops listed:=by rw[hl];simp
    obtain⟨h1,h2⟩:=zZ.1 hm;have:i0∈Region.ready .any ops listed:=by
     refine(hZ listed i0).2 ⟨h1,h2,fun e he hb=>?_⟩;have hq:=kJ hy h1 e he hb;have hs:=yN ops listed;rw[hl] at hs;by_cases hx:listed.getD e.on true=false
     ·have xe:e.on∈left ops listed:=zZ.2 ⟨O1,hx⟩;rw[hl] at xe;rcases bE.1 xe with e1|e1
      ·omega
      have:=(bO.1 hs).1 _ e1;omega
     have hX:listed.getD e.on true=true:=by simpa using hx
     rw[aJ] at hX⊢;rw[aP (show e.on<listed.size by omega)] at hX⊢;simpa using hX
    rw[xp] at this;cases this
  obtain⟨h1,h2,h3⟩:=(hZ listed i).1 hi;have hm:i∈left ops listed:=zZ.2 ⟨h1,h2⟩;have xn:∀j,((Region.before ops).getD i 0).testBit j=true→listed.getD j false=true:=by
   intro j hb;obtain⟨e,he,hz,hV⟩:=vR h1 hb;have hl:=h3 e he hz;rcases hV with rfl|hV
   ·exact hl
   have hq:=kJ hy h1 e he hz;refine hP e.on O1 ?_ j hV;rw[aJ] at hl⊢;rw[aP (show e.on<listed.size by omega)] at hl⊢;simpa using hl
  have xb:=jW9 (P:=P) (G:=G) (K:=K) h8 i (left ops listed) a w h hm (yN _ _) (by
   intro j hj xd;rcases qK3 hy h1 xd with hb|hb
   ·exfalso;obtain⟨xa,hS⟩:=zZ.1 hj;obtain⟨e,he,hz,hV⟩:=vR h1 hb;have hl:=h3 e he hz;have hY:listed.getD j false=true:=by
     rcases hV with rfl|hV
     ·exact hl
     have hq:=kJ hy h1 e he hz;refine hP e.on O1 ?_ j hV;rw[aJ] at hl⊢;rw[aP (show e.on<listed.size by omega)] at hl⊢;simpa using hl
    rw[aJ] at hY hS;rw[aP (show j<listed.size by omega)] at hY hS;simp at hY hS;rw[hY] at hS;cases hS
   exact hb)
  have xg:(left ops (listed.setIfInBounds i true)).length≤fuel:=by
   rw[uV h1 ht];have:((left ops listed).filter (· !=i)).length<(left ops listed).length:=by
    rw[nY];exact⟨i,hm,O4⟩
   omega
  have xo:∀k,k<ops.size→(listed.setIfInBounds i true).getD k true=true→∀j,((Region.before ops).getD k 0).testBit j=true→(listed.setIfInBounds i true).getD j false=true:=by
   intro k hk hU j hb;have hT:∀(d:Bool) x,(listed.setIfInBounds i true).getD x d=if x=i then true else listed.getD x d:=by
    intro d x;simp only[aJ,fY];by_cases hx:x=i
    ·subst hx;simp[ht,h1]
    rw[if_neg (fun e=>hx e.symm),if_neg hx]
   rw[hT] at hU⊢;split
   ·rfl
   by_cases xf:k=i
   ·subst xf;obtain⟨e,he,hz,hV⟩:=vR h1 hb;have hl:=h3 e he hz;rcases hV with rfl|hV
    ·exact hl
    have hq:=kJ hy h1 e he hz;refine hP e.on O1 ?_ j hV;rw[aJ] at hl⊢;rw[aP (show e.on<listed.size by omega)] at hl⊢;simpa using hl
   rw[if_neg xf] at hU;exact hP k hk hU j hb
  have xc:∀a' w',(∀j∈left ops (listed.setIfInBounds i true),zC (jA ops j).op=false→wl P (jA ops j).op=false→G w')→wpD P ops nd G K (((left ops listed).filter (· !=i)).map (jA ops)) a' w'→wpAny P .any ops Q fuel (listed.setIfInBounds i true) a' w':=by
   intro a' w' hg hh;rw[←uV h1 ht] at hh;exact ih _ a' w' (by simpa using ht) xg xo hg hh
  have xh:∀j∈left ops (listed.setIfInBounds i true),j∈left ops listed∧j≠i:=by
   intro j hj;rw[uV h1 ht] at hj;simpa using hj
  have xj:∀j∈left ops (listed.setIfInBounds i true),zC (jA ops j).op=false→wl P (jA ops j).op=false→G w:=fun j hj=>hG j (xh j hj).1
  have hE:zC (jA ops i).op=true→∀w',(nd (jA ops i)=true→G w')→∀j∈left ops (listed.setIfInBounds i true),zC (jA ops j).op=false→wl P (jA ops j).op=false→G w':=by
   intro h4 w' hg j hj xl xk;obtain⟨xa,hS⟩:=zZ.1 (xh j hj).1;rcases qK4 hy h1 xa h4 xl xk with hn|hb
   ·exact hg hn
   exfalso;have hY:=xn j hb;rw[aJ] at hY hS;rw[aP (show j<listed.size by omega)] at hY hS;simp at hY hS;rw[hY] at hS;cases hS
  have xi:ops[i]? =some (jA ops i):=by simp[jA,aP h1]
  unfold wpOp;simp only[xi];by_cases h4:zC (jA ops i).op=true
  ·rw[if_pos h4] at xb;cases hw:Region.wanted (jA ops i) (yielded ops a.tmps)
   ·simp only[eE,iW];obtain⟨hg,hh⟩:=xb.2 hw;exact xc _ _ (hE h4 _ hg) hh
   simp only[if_true];exact .inl ((xb.1 hw).wp fun v w' ⟨hg,hh⟩=>xc _ _ (hE h4 _ hg) hh)
  rw[if_neg h4] at xb;obtain⟨v,hv,hh⟩:=xb;rcases hv with⟨hw,hr⟩|⟨hw,rfl⟩
  ·simp only[hw,if_true];refine .inl (Step.wp (R:=fun u w'=>u=v∧w'=w) (.inl ⟨v,w,?_,O,O⟩) ?_)
   ·cases hwl:wl P (jA ops i).op
    ·exact hr w (hG i hm (by simpa using h4) hwl)
    exact qPo hwl (hr wG h8)
   rintro u w' ⟨rfl,rfl⟩;exact xc _ _ xj hh
  simp only[hw,eE,iW];exact xc _ _ xj hh
theorem qPm{id:Nat}(hm:P.follows .mixedOrders=true)(hn:qAv P ops nd=true)(G:World→Prop)(hG:G w.drew)
  (h:wpD P ops nd G (fun a w=>Q .normal a w) ops.toList a w.drew):(Code.region id ops true).wp P Q a w:=by
 refine sA6 hm ?_;refine qWz (G:=G) (K:=fun a w=>Q .normal a w) hG hn (fun _ _ h=>h) ops.size _ a _ O4 ?_ ?_ (fun _ _ _ _=>hG) ?_
 ·unfold left;exact bL (rE _ _) O4
 ·intro i hi hl;simp[aJ,hi] at hl
 have e1:left ops (Array.replicate ops.size false)=range ops.size:=by
  unfold left;rw[lU];intro i hi;have:i<ops.size:=by simpa using hi
  simp[aJ,this]
 have e2:(range ops.size).map (jA ops)=ops.toList:=by
  apply sBc
  ·simp
  intro i h1 h2;have:i<ops.size:=by simpa using h2
  simp[jA,aJ,this]
 rw[e1,e2];exact h
end
end
section
variable{v:Value}{d id:Nat}{w:World}{c:Code}{j:Nat}{want:Bool}{x y:Code}{r:Value}{R:Ending→World→Prop}{fn:Func}{i:Nat}{b:Bool}{X:Type}{a:Nat}{S:List Nat}{l:List Oper}{p:Prop}{Y:Type}{t:Nat}
theorem jJ(h:i≠d):Nat.beq i d=false:=by
 cases hb:Nat.beq i d
 ·rfl
 exact absurd (bF hb) h
theorem yQ{b:Nat}(h:a<b):Nat.blt a b=true:=nS h
theorem qM9{b:Nat}(h:¬a<b):Nat.blt a b=false:=by
 cases hb:Nat.blt a b
 ·rfl
 exact absurd (eK hb) h
theorem qCd{b:Nat}(h:Nat.blt a b=true):a<b:=eK h
abbrev Fr:=Nat→Value
variable{F:Fr}{Q:Exit→Fr→World→Prop}{K:Fr→World→Prop}{F':Fr}
def Fr.put(F:Fr)(d:Nat)(v:Value):Fr:=fun i=>bif Nat.beq i d then v else F i
def Fr.q5(F:Fr)(d:Option Nat)(v:Value):Fr:=match d with
 |none=>F
 |some d=>F.put d v
def qE:List Value→Fr
 |[],_=>undef
 |v::_,0=>v
 |_::l,i+1=>qE l i
def inS:List Nat→Nat→Bool
 |[],_=>false
 |d::S,i=>bif Nat.beq i d then true else inS S i
def Fr.l7(S:List Nat)(u F:Fr):Fr:=fun i=>bif inS S i then u i else F i
structure FrK where
 sz:Nat
 ds:List Deferred
 ro:Option Nat
@[reducible] def FrK.of (n:Nat):FrK:=⟨n,[],none⟩
instance:Coe Nat FrK:=⟨FrK.of⟩
def FrK.n7(n:FrK):Fence:={Fence.wide with round:=n.ro}
theorem FrK.k8{n:FrK}(h:n.ro=none):n.n7=Fence.wide:=by
 unfold FrK.n7;rw[h];rfl
def ev(n:FrK)(F:Fr)(x:Operand):Value:=match x with
 | .tmp t=>bif Nat.blt t n.sz then F t else undef
 | .const v=>v
 | .global g=>.pointer (Ad g)
 | .func f=>.func (.func f) #[] #[]
def act(n:FrK)(F:Fr):Act:={tmps:=Array.ofFn (n:=n.sz) fun i=>F i,defers:=n.ds}
theorem zN(n:FrK)(F:Fr)(d:Option Nat)(v:Value):(act n F).put d v=act n (F.q5 d v):=by
 cases d with
 |none=>rfl
 |some d=>
  simp only[Act.put,act,Fr.q5];congr 1;apply rJ
  ·simp
  intro i h1 h2;have h3:=by simpa using h2
  rw[sAb (by grind)];simp only[nI,Fr.put];by_cases h:d=i
  ·subst h;simp
  rw[if_neg h,jJ O1];rfl
theorem zF(n:FrK)(F:Fr):(act n F).eval=ev n F:=by
 funext x;cases x with
 |tmp t=>
  simp[Act.eval,act,ev,aJ];by_cases h:t<n.sz
  ·simp[h,yQ]
  simp[h,qM9]
 |const v=>rfl
 |global g=>rfl
 |func f=>rfl
def up(n:FrK)(Q:Exit→Fr→World→Prop):Exit→Act→World→Prop:=fun e a w=>∃F,a=act n F∧Q e F w
def WP(P:Program)(n:FrK)(c:Code)(Q:Exit→Fr→World→Prop)(F:Fr)(w:World):Prop:=c.wpIn n.n7 0 P (up n Q) (act n F) w
def qB5(K:Fr→World→Prop)(Q:Exit→Fr→World→Prop):Exit→Fr→World→Prop:=fun e F w=>match e with
 | .normal=>K F w
 |e=>Q e F w
def qFi(id:Nat)(Q:Exit→Fr→World→Prop):Exit→Fr→World→Prop:=fun e F w=>match e with
 | .exit id'=>match Nat.beq id' id with
  |true=>Q .normal F w
  |false=>Q (.exit id') F w
 |e=>Q e F w
theorem qDx(h:K F w):qB5 K Q .normal F w:=h
theorem qBl(h:Q .ret F w):qB5 K Q .ret F w:=h
theorem qAj(h:Q (.exit i) F w):qB5 K Q (.exit i) F w:=h
theorem qG9(h:Q .normal F w):qFi id Q .normal F w:=h
theorem qBn(h:Q .ret F w):qFi id Q .ret F w:=h
theorem qAu(hi:Nat.beq i id=true)(h:Q .normal F w):qFi id Q (.exit i) F w:=by
 simp[qFi,hi];exact h
theorem wN(hi:Nat.beq i id=false)(h:Q (.exit i) F w):qFi id Q (.exit i) F w:=by
 simp[qFi,hi];exact h
section
variable {P:Program}{n:FrK}{Q:Exit→Fr→World→Prop}{F:Fr}{w:World}
theorem qEk{Q':Exit→Fr→World→Prop}(h:WP P n c Q F w)(hq:∀e F w,Q e F w→Q' e F w):WP P n c Q' F w:=
 lC h fun _ _ _ ⟨F,h1,h2⟩=>⟨F,h1,hq _ _ _ h2⟩
theorem qEj(h:WP P n x (qB5 (fun F w=>WP P n y Q F w) Q) F w):WP P n (.seq x y) Q F w:=by
 refine wpIn_seq (lC h ?_);rintro e a w ⟨F,rfl,h2⟩;cases e<;>first|exact h2|exact⟨F,O,h2⟩
theorem qCn(h:WP P n c (qFi id Q) F w):WP P n (.block id c) Q F w:=by
 refine sAi (lC h ?_);rintro e a w ⟨F,rfl,h2⟩;cases e with
 |exit id'=>
  simp[Exit.inBlock];by_cases hid:id'=id
  ·subst hid;simp[if_true];simp[qFi] at h2;exact⟨F,O,h2⟩
  rw[if_neg hid];have hb:=jJ hid;simp[qFi,hb] at h2;exact⟨F,O,h2⟩
 |_=>exact⟨F,O,h2⟩
theorem xD{c:Operand}{t:Bool}(hc:ev n F c= .bool t)(ht:t=true→WP P n x Q F w)(hf:t=false→WP P n y Q F w):WP P n (.cond c x y) Q F w:=
 wpIn_cond_split (by rw[zF];exact hc) ht hf
theorem qH{c:Operand}{p:Prop}[Decidable p](hc:ev n F c= .bool (decide p))(ht:p→WP P n x Q F w)(hf:¬p→WP P n y Q F w):WP P n (.cond c x y) Q F w:=
 xD hc (fun h=>ht (iT h)) (fun h=>hf (sAj h))
theorem xI{c:Operand}{p:Prop}[Decidable p](hc:ev n F c= .bool (!decide p))(ht:¬p→WP P n x Q F w)(hf:p→WP P n y Q F w):WP P n (.cond c x y) Q F w:=
 xD hc (fun h=>ht (sAj (by grind))) (fun h=>hf (iT (by grind)))
theorem jB{c:Operand}(hc:ev n F c= .bool true)(h:WP P n x Q F w):WP P n (.cond c x y) Q F w:=xD hc (fun _=>h) (fun e=>by cases e)
theorem qN{c:Operand}(hc:ev n F c= .bool false)(h:WP P n y Q F w):WP P n (.cond c x y) Q F w:=xD hc (fun e=>by cases e) (fun _=>h)
theorem qEi(h:Q .normal F w):WP P n .skip Q F w:=wpIn_skip ⟨F,O,h⟩
theorem qDs{l:Nat}(h:Q .normal F w):WP P n (.label l) Q F w:=wpIn_label ⟨F,O,h⟩
theorem qGn(h:Q (.exit id) F w):WP P n (.exit id) Q F w:=wpIn_exit ⟨F,O,h⟩
theorem qJo(h:Q .ret F w):WP P n .ret Q F w:=wpIn_ret ⟨F,O,h⟩
theorem qYh{a:Act}{QA:Exit→Act→World→Prop}(I:Nat→Act→World→Prop)(m0:Nat)(h0:I m0 a w)
  (round:∀m a w,I m a w→c.wpIn n.n7 0 P (Exit.then (fun a' w'=>∃m',m'<m∧I m' a' w') QA) a w):(Code.loop c).wpIn n.n7 0 P QA a w:=
 wpIn_loop_ghost I m0 h0 round
theorem jLx(G:Fr→X→Fr)(I:X→World→Prop)(μ:X→Nat)(u0:Fr)(x0:X)(h0:F=G u0 x0)(hi:I x0 w)
  (round:∀(u:Fr) (x:X) (w:World),I x w→WP P n c (qB5 (fun F' w'=>∃x',F'=G F' x'∧I x' w'∧μ x'<μ x) Q) (G u x) w):WP P n (.loop c) Q F w:=by
 refine qYh (fun m a w=>∃u x,a=act n (G u x)∧I x w∧μ x=m) _ ⟨u0,x0,by rw[h0],hi,O⟩ ?_;rintro m a w ⟨u,x,rfl,hI,rfl⟩;refine lC (round u x w hI) ?_;rintro e a w' ⟨F',rfl,h2⟩;cases e with
 |normal=>
  obtain⟨x',hF,xq,hl⟩:=h2;exact⟨_,hl,F',x',by grind,xq,O⟩
 |_=>exact⟨F',O,h2⟩
def Same(S:List Nat)(F F':Fr):Prop:=∀i,inS S i=false→F i=F' i
theorem Same.refl:Same S F F:=fun _ _=>O
theorem Same.put{S:List Nat}{d:Nat}{v:Value}{F F':Fr}(h1:inS S d=true)(h:Same S F F'):Same S (F.put d v) F':=by
 intro i xt;have xr:Nat.beq i d=false:=by
  refine jJ ?_;rintro rfl;rw[h1] at xt;cases xt
 simp[Fr.put,xr,nZ];exact h i xt
theorem Same.l7{S:List Nat}{u F:Fr}:Same S (Fr.l7 S u F) F:=by
 intro i xt;simp[Fr.l7,xt,nZ]
theorem qYq:∀(S:List Nat) (i:Nat),inS S i=true→i∈S
 |[],_,h=>by cases h
 |d::S,i,h=>by
  simp only[inS] at h;cases hb:Nat.beq i d
  ·rw[hb] at h;exact dX _ (qYq S i h)
  rw[bF hb];simp
theorem Same.x9{S':List Nat}{u:Fr}(h:S'.all (inS S)=true)(h2:Same S F F'):Same S (Fr.l7 S' u F) F':=by
 intro i xt;have hn:inS S' i=false:=by
  cases hb:inS S' i
  ·rfl
  have:=cU.1 h i (qYq S' i hb);rw[xt] at this;cases this
 simp[Fr.l7,hn,nZ];exact h2 i xt
theorem Same.eq(h:Same S F' F):F'=Fr.l7 S F' F:=by
 funext i;simp[Fr.l7];cases hb:inS S i
 ·exact h i hb
 rfl
theorem qQ(S:List Nat)(H:X→Fr→Fr)(I:X→World→Prop)(μ:X→Nat)(x0:X)(h0:F=H x0 (Fr.l7 S F F))(hi:I x0 w)
  (round:∀(u:Fr) (x:X) (w:World),I x w→WP P n c (qB5 (fun F' w'=>∃x',F'=H x' (Fr.l7 S F' F)∧I x' w'∧μ x'<μ x) Q) (H x (Fr.l7 S u F)) w):WP P n (.loop c) Q F w:=
 jLx _ I μ F x0 h0 hi round
theorem kT(S:List Nat)(H:X→Y→Fr→Fr)(I:X→Y→World→Prop)(μ:X→Y→Nat)(x0:X)(y0:Y)(h0:F=H x0 y0 (Fr.l7 S F F))(hi:I x0 y0 w)
  (round:∀(u:Fr) (x:X) (y:Y) (w:World),I x y w→WP P n c (qB5 (fun F' w'=>∃x' y',F'=H x' y' (Fr.l7 S F' F)∧I x' y' w'∧μ x' y'<μ x y) Q) (H x y (Fr.l7 S u F)) w):WP P n (.loop c) Q F w:=by
 refine qQ S (fun x=>H x.1 x.2) (fun x=>I x.1 x.2) (fun x=>μ x.1 x.2) (x0,y0) h0 hi ?_;intro u x w hI;refine qEk (round u _ _ w hI) ?_;simp
theorem kS{Z:Type}(S:List Nat)(H:X→Y→Z→Fr→Fr)(I:X→Y→Z→World→Prop)(μ:X→Y→Z→Nat)(x0:X)(y0:Y)(z0:Z)(h0:F=H x0 y0 z0 (Fr.l7 S F F))(hi:I x0 y0 z0 w)
  (round:∀(u:Fr) (x:X) (y:Y) (z:Z) (w:World),I x y z w→WP P n c (qB5 (fun F' w'=>∃x' y' z',F'=H x' y' z' (Fr.l7 S F' F)∧I x' y' z' w'∧μ x' y' z'<μ x y z) Q) (H x y z (Fr.l7 S u F)) w):WP P n (.loop c) Q F w:=by
 refine qQ S (fun x=>H x.1 x.2.1 x.2.2) (fun x=>I x.1 x.2.1 x.2.2) (fun x=>μ x.1 x.2.1 x.2.2) (x0,y0,z0) h0 hi ?_;intro u x w hI;refine qEk (round u _ _ _ w hI) ?_;simp
theorem qB{H:Fr}(h:F=H)(hv:F d=v):F=H.put d v:=by
 subst h;funext i;simp[Fr.put];cases hb:Nat.beq i d
 ·rfl
 have:=bF hb;grind
end
def PV(P:Program)(n:FrK)(w:World)(F:Fr)(o:Oper)(v:Value):Prop:=(execOp (ev n F) o).run P w= .ok (.value v) w
def StepF(P:Program)(n:FrK)(o:Oper)(F:Fr)(w:World)(R:Value→World→Prop):Prop:=Step P o (act n F) w R
def wpl(P:Program)(n:FrK)(ops:Array Oper)(l:List Oper)(Q:Exit→Fr→World→Prop)(F:Fr)(w:World):Prop:=wpListIn n.n7 0 P ops (up n Q) l (act n F) w
def qEv(st:Bool)(o:Oper):Bool:=st||match o.op with
 | .store ..=>false
 | .mapUpdate ..=>false
 | .call c=>match c.callee with
  | .builtin .append=>false
  |_=>true
 |_=>true
def wpd(P:Program)(n:FrK)(ops:Array Oper)(st:Bool)(G:World→Prop)(l:List Oper)(Q:Exit→Fr→World→Prop)(F:Fr)(w:World):Prop:=
 wpD P ops (qEv st) G (fun a w=>up n Q .normal a w) l (act n F) w
theorem Step.aB7{P:Program}{o:Oper}{a:Act}{R:Value→World→Prop}(h:Step P o a w R):∀c,o.op≠.defer c:=by
 intro c hc;have key:∀x w',(execOp a.eval o).run P w= .ok x w'→∃d,x= .defer d:=by
  intro x w' hx;simp only[execOp,hc,bJ] at hx;cases hr:(resolve a.eval c o.type).run P w with
  |ok d w1=>
   rw[hr] at hx;simp only[aK,dV] at hx;grind
  |halt r w1=>
   rw[hr] at hx;cases hx
 rcases h with⟨v,w',h1,h2⟩|⟨w',h1,h2⟩|⟨f,args,w1,h1,h2⟩
 ·grind
 ·grind
 grind
theorem Step.wpIn{P:Program}{n:FrK}{o:Oper}{a:Act}{w:World}{R:Value→World→Prop}{K:Act→World→Prop}{Q:Exit→Act→World→Prop}(h:Step P o a w R)
  (hk:∀v w',R v w'→K (a.put o.dst v) w'):o.wpIn n.n7 0 P a w K Q:=by
 refine⟨fun _ _=>trivial,?_⟩;rw[sA7 _ _ _ h.aB7];rcases h with⟨v,w',h1,h2⟩|⟨w',h1,h2⟩|⟨f,args,w1,h1,h2⟩
 ·rw[h1];exact hk _ _ h2
 ·rw[h1];exact hk _ _ h2
 rw[h1];refine⟨fun h=>(by cases h),(pS).2 (h2.mono fun e w' ⟨v,he,hv⟩=>?_)⟩;grind
def Sel(b:Bool)(v:Value):Value:=if b then v else undef
section
variable {P:Program}{n:FrK}{Q:Exit→Fr→World→Prop}{F:Fr}{w:World}{ops:Array Oper}{o:Oper}{rest:List Oper}{st:Bool}{G:World→Prop}
theorem qBq(h:wpl P n l.toArray l Q F w):WP P n (.region id l.toArray false) Q F w:=wpIn_region_lit h
theorem jW(hm:P.follows .mixedOrders=true)(hn:qAv P l.toArray (qEv true)=true)(G:World→Prop)(hG:G w.drew)
  (h:wpd P n l.toArray true G l Q F w.drew) (hr:n.ro=none:=by rfl):WP P n (.region id l.toArray true) Q F w:=by
 exact mEz
theorem jU(hm:P.follows .mixedOrders=true)(hn:qAv P l.toArray (qEv false)=true)(G:World→Prop)(hG:G w.drew)
  (h:wpd P n l.toArray false G l Q F w.drew) (hr:n.ro=none:=by rfl):WP P n (.region id l.toArray true) Q F w:=by
 exact mEz
theorem qFv(h:Q .normal F w):wpl P n ops [] Q F w:=wpListIn_nil ⟨F,O,h⟩
theorem qU(h:Q .normal F w):wpd P n ops st G [] Q F w:=⟨F,O,h⟩
theorem qL4{R:Value→World→Prop}(hg:o.guard=none)(hs:StepF P n o F w R)(h:∀v w',R v w'→wpl P n ops rest Q (F.q5 o.dst v) w'):wpl P n ops (o::rest) Q F w:=by
 refine wpListIn_plain hg fun K hK=>Step.wpIn hs fun v w' hr=>hK _ _ ?_
 rw[zN];exact h v w' hr
theorem jC0(hg:o.guard=none)(hp:PV P n w F o r)(hv:r=v)(h:wpl P n ops rest Q (F.q5 o.dst v) w):wpl P n ops (o::rest) Q F w:=by
 subst hv;refine qL4 (R:=fun u w'=>u=r∧w'=w) hg (.inl ⟨r,w,?_,O,O⟩) ?_
 ·rw[zF];exact hp
 rintro u w' ⟨rfl,rfl⟩;exact h
def yW(ops:Array Oper)(j:Nat):Option Nat:=(ops[j]?).bind (·.dst)
theorem vS{c:Bool}(hg:o.guard=some (j,want))(hj:yW ops j=some d)(hc:ev n F (.tmp d)= .bool c):
  Region.wanted o (yielded ops (act n F).tmps)=(c==want):=by
 simp[Region.wanted,hg,yielded];unfold yW at hj;rw[hj];have hl:d<n.sz:=by
  by_cases h:d<n.sz
  ·exact h
  simp[ev,qM9 h,undef] at hc
 have hb:=yQ hl;simp[ev,hb,sBv] at hc;simp[act,hl,hc]
theorem jNg{c:Bool}(hg:o.guard=some (j,want))(hj:yW ops j=some d)(hc:ev n F (.tmp d)= .bool c)
  (hp:(c==want)=true→PV P n w F o r) (hv:(c==want)=true→r=v) (h:wpl P n ops rest Q (F.q5 o.dst (Sel (c==want) v)) w):wpl P n ops (o::rest) Q F w:=by
 unfold wpl wpListIn;rw[vS hg hj hc];cases hcw:(c==want)
 ·rw[hcw] at h;rw[zN];exact⟨fun _ _=>trivial,h⟩
 rw[hcw] at h;refine Step.wpIn (R:=fun u w'=>u=v∧w'=w) (.inl ⟨v,w,?_,O,O⟩) ?_
 ·rw[zF,←hv hcw];exact hp hcw
 rintro u w' ⟨rfl,rfl⟩;rw[zN];exact h
theorem qEx{c:Bool}(hg:o.guard=some (j,want))(hj:yW ops j=some d)(hc:ev n F (.tmp d)=Sel b (.bool c)):
  Region.wanted o (yielded ops (act n F).tmps)=(b&&(c==want)):=by
 cases b
 ·simp only[Region.wanted,hg,yielded];unfold yW at hj;rw[hj];have hv:(act n F).tmps[d]? =none∨(act n F).tmps[d]? =some undef:=by
   by_cases h:d<n.sz
   ·have hb:=yQ h;simp only[ev,hb,sBv,Sel] at hc;simp[act,h,hc]
   left;simp[act,h]
  rcases hv with hv|hv<;>simp[hv,undef]
 exact(vS hg hj hc).trans O4
theorem jIm{c:Bool}(hg:o.guard=some (j,want))(hj:yW ops j=some d)(hc:ev n F (.tmp d)=Sel b (.bool c))
  (hp:b=true→(b&&(c==want))=true→PV P n w F o r) (hv:b=true→(b&&(c==want))=true→r=v) (h:wpl P n ops rest Q (F.q5 o.dst (Sel (b&&(c==want)) v)) w):wpl P n ops (o::rest) Q F w:=by
 unfold wpl wpListIn;rw[qEx hg hj hc];cases hcw:(b&&(c==want))
 ·rw[hcw] at h;rw[zN];exact⟨fun _ _=>trivial,h⟩
 rw[hcw] at h;have hb:=by simp at hcw;exact hcw.1
 refine Step.wpIn (R:=fun u w'=>u=v∧w'=w) (.inl ⟨v,w,?_,O,O⟩) ?_
 ·rw[zF,←hv hb hcw];exact hp hb hcw
 rintro u w' ⟨rfl,rfl⟩;rw[zN];exact h
theorem jIn{c:Bool}(he:zC o.op=false)(hg:o.guard=some (j,want))(hj:yW ops j=some d)(hc:ev n F (.tmp d)=Sel b (.bool c))
  (hp:b=true→(b&&(c==want))=true→∀w,G w→PV P n w F o r) (hv:b=true→(b&&(c==want))=true→r=v) (h:wpd P n ops st G rest Q (F.q5 o.dst (Sel (b&&(c==want)) v)) w):wpd P n ops st G (o::rest) Q F w:=by
 unfold wpd wpD;rw[if_neg (by grind)];refine⟨_,?_,by rw[zN];exact h⟩;unfold YV;rw[qEx hg hj hc];cases hcw:(b&&(c==want))
 ·exact .inr ⟨O,O⟩
 have hb:=by simp at hcw;exact hcw.1
 refine .inl ⟨O,fun w hw=>?_⟩;rw[zF];have:=hp hb hcw w hw;rw[hv hb hcw] at this;exact this
theorem jC2(he:zC o.op=false)(hg:o.guard=none)(hp:∀w,G w→PV P n w F o r)(hv:r=v)(h:wpd P n ops st G rest Q (F.q5 o.dst v) w):wpd P n ops st G (o::rest) Q F w:=by
 subst hv;unfold wpd wpD;rw[if_neg (by grind)];refine⟨r,.inl ⟨by simp[Region.wanted,hg],fun w hw=>?_⟩,?_⟩
 ·rw[zF];exact hp w hw
 rw[zN];exact h
theorem jNh{c:Bool}(he:zC o.op=false)(hg:o.guard=some (j,want))(hj:yW ops j=some d)(hc:ev n F (.tmp d)= .bool c)
  (hp:(c==want)=true→∀w,G w→PV P n w F o r) (hv:(c==want)=true→r=v) (h:wpd P n ops st G rest Q (F.q5 o.dst (Sel (c==want) v)) w):wpd P n ops st G (o::rest) Q F w:=by
 unfold wpd wpD;rw[if_neg (by grind)];refine⟨_,?_,by rw[zN];exact h⟩;unfold YV;rw[vS hg hj hc];cases hcw:(c==want)
 ·exact .inr ⟨O,O⟩
 refine .inl ⟨O,fun w hw=>?_⟩;rw[zF];have:=hp hcw w hw;rw[hv hcw] at this;exact this
theorem qSj{R:Value→World→Prop}(he:zC o.op=true)(hg:o.guard=none)(hs:StepF P n o F w R)(h:∀v w',R v w'→G w'∧wpd P n ops st G rest Q (F.q5 o.dst v) w'):
  wpd P n ops st G (o::rest) Q F w:=by
 unfold wpd wpD;rw[if_pos he];refine⟨fun _=>hs.mono fun v w' hr=>?_,fun hw=>?_⟩
 ·rw[zN];exact mB5
 simp[Region.wanted,hg] at hw
theorem qO5{R:Value→World→Prop}(he:zC o.op=true)(hn:qEv false o=false)(hg:o.guard=none)(hs:StepF P n o F w R)(h:∀v w',R v w'→wpd P n ops false G rest Q (F.q5 o.dst v) w'):
  wpd P n ops false G (o::rest) Q F w:=by
 unfold wpd wpD;rw[if_pos he];refine⟨fun _=>hs.mono fun v w' hr=>?_,fun hw=>?_⟩
 ·rw[zN];exact⟨fun hh=>(by grind),h v w' hr⟩
 simp[Region.wanted,hg] at hw
theorem jA6{c:Bool}(he:zC o.op=true)(hg:o.guard=some (j,want))(hj:yW ops j=some d)(hc:ev n F (.tmp d)= .bool c)
  (C:World→Prop) (hC:C w) (hs:(c==want)=true→StepF P n o F w (fun u w'=>u=v∧C w'))
  (h:∀w',C w'→G w'∧wpd P n ops st G rest Q (F.q5 o.dst (Sel (c==want) v)) w'):wpd P n ops st G (o::rest) Q F w:=by
 unfold wpd wpD;rw[if_pos he];unfold EffStep;rw[vS hg hj hc];refine⟨fun hw=>(hs hw).mono ?_,fun hw=>?_⟩
 ·rintro u w' ⟨rfl,hr⟩;have:=h w' hr;exact mF0
 have:=h w hC;exact mF0
theorem jP{x:Operand}(h:ev n F x=Sel b v)(hb:b=true):ev n F x=v:=by
 rw[h,hb];rfl
def qNs(P:Program)(n:FrK)(fn:Func)(R:Ending→World→Prop):Exit→Fr→World→Prop:=fun e F w=>match e with
 | .normal|.ret=>∃v,(results fn (act n F).tmps).run P w= .ok v w∧R (.returned v) w
 |_=>False
theorem qUn{f:FuncId}{args:List Value}(hf:P.funcs[f]? =some fn)(hb:fn.body=some c){m:Nat}(hn:fn.ntmps=m)(hg:args.length≤m)
  (h:WP P (FrK.of m) c (qNs P (FrK.of m) fn R) (qE args) w):Calls P f args.toArray w R:=by
 refine calls_of_wp hf hb ?_;have ha:({tmps:=args.toArray++Array.replicate (fn.ntmps-args.toArray.size) undef,defers:=[]})=act (FrK.of m) (qE args):=by
  simp only[act];congr 1;apply rJ
  ·simp[hn];omega
  intro i h1 h2;simp only[nI];have xu:∀(l:List Value) (i:Nat),qE l i=l.getD i undef:=by
   intro l;induction l with
   |nil=>simp[qE]
   |cons x l ih=>intro i;cases i<;>simp[qE,ih]
  rw[xu];by_cases hi:i<args.length
  ·grind
  rw[sAk (by grind)];simp[aC,hi]
 rw[ha];refine pH.1 (lC h ?_);rintro e a w ⟨F,rfl,h2⟩;cases e<;>first|exact⟨O,h2⟩|exact h2.elim
theorem qM(h:fn.results= #[.tmp t])(hv:ev n F (.tmp t)=v)(hr:R (.returned v) w):qNs P n fn R .ret F w:=by
 refine⟨v,?_,hr⟩;exact mE1
theorem xU{u:Nat}{v':Value}(h:fn.results= #[.tmp t,.tmp u])(hv:ev n F (.tmp t)=v)(hm:ev n F (.tmp u)=v')(hr:R (.returned (.tuple #[v,v'])) w):qNs P n fn R .ret F w:=by
 refine⟨_,?_,hr⟩;rw[results_tmp2 h];rw[←hv,←hm,←zF];rfl
theorem xK(h:fn.results= #[])(hr:R (.returned (.tuple #[])) w):qNs P n fn R .normal F w:=⟨_,results_none h _ _ _,hr⟩
theorem qG1(h:fn.results= #[])(hr:R (.returned (.tuple #[])) w):qNs P n fn R .ret F w:=⟨_,results_none h _ _ _,hr⟩
end
end
section
variable{i t:Nat}{c b:Bool}{k o:Nat}{c':Bool}{m:Nat}{d:TypeDesc}{v:Value}{e:Bool}{z:Int}{q:Nat}{p:TypeId}{s:Option Addr}{fs:Array Field}
def TSize(P:Program)(t k:Nat):Prop:=(P.info? t).map (·.size)=some k
def TZero(P:Program)(t:Nat)(z:Value):Prop:=(P.info? t).map (·.zero)=some (some z)
def TBytes(P:Program)(t k:Nat):Prop:=(P.info? t).map (·.bytes)=some k
def jF5:TypeDesc→Bool
 | .struct _=>false
 | .array _ _=>false
 |_=>true
def qW6:TypeDesc→Bool
 | .struct _=>true
 | .array _ _=>true
 |_=>false
section
variable {P:Program}{w:World}
theorem TSize.run{t k:Nat}(h:TSize P t k):(sizeOf t).run P w= .ok k w:=by
 unfold TSize at h;cases hi:P.info? t with
 |none=>grind
 |some i=>simp[hi] at h;simp[sizeOf,typeInfo,hi,h]
theorem TZero.run{t:Nat}{z:Value}(h:TZero P t z):(zeroValue t).run P w= .ok z w:=by
 unfold TZero at h;cases hi:P.info? t with
 |none=>grind
 |some i=>simp[hi] at h;simp[zeroValue,typeInfo,hi,h]
theorem TBytes.ex(h:TBytes P t k):∃i,P.info? t=some i∧i.bytes=k:=by
 unfold TBytes at h;cases hi:P.info? t with
 |none=>grind
 |some i=>grind
theorem jQ(h:P.underlying t=some d):(underlying t).run P w= .ok d w:=by simp[underlying,h]
theorem qQ6(h:P.underlying t=some d)(h1:jF5 d=true):(isAgg t).run P w= .ok false w:=by
 exact mEf
theorem qF5(h:P.underlying t=some d)(h1:qW6 d=true):(isAgg t).run P w= .ok true w:=by
 exact mEf
end
section
variable {P:Program}{n:FrK}{w:World}{F:Fr}{d:Option Tmp}{ty:TypeId}{pos:String}{aft:Array Edge}{g:Option (Nat×Bool)}{x y:Operand}
theorem qP:PV P n w F ⟨d,.move x,ty,pos,aft,g⟩ (ev n F x):=by simp[PV,execOp]
theorem qY:PV P n w F ⟨d,.assign x,ty,pos,aft,g⟩ (ev n F x):=by simp[PV,execOp]
theorem uW(v:Value):ev n F (.const v)=v:=O
theorem qC6(hx:ev n F x= .bool c)(hy:ev n F y=Sel (c'==true) (.bool b))(hc:c=c'):
  PV P n w F ⟨d,.pick x y (.const (.bool false)),ty,pos,aft,g⟩ (.bool (c&&b)):=by
 subst hc;exact mBn
theorem qF7(hx:ev n F x= .bool c)(hy:ev n F y=Sel (c'==false) (.bool b))(hc:c=c'):
  PV P n w F ⟨d,.pick x (.const (.bool true)) y,ty,pos,aft,g⟩ (.bool (c||b)):=by
 subst hc;exact mBn
theorem qA5(hx:ev n F x= .bool c)(hy:ev n F y= .bool b):PV P n w F ⟨d,.pick x y (.const (.bool false)),ty,pos,aft,g⟩ (.bool (c&&b)):=by
 simp only[PV,execOp,hx,hy,asBool,uW];simp
theorem qC4(hx:ev n F x= .bool c)(hy:ev n F y= .bool b):PV P n w F ⟨d,.pick x (.const (.bool true)) y,ty,pos,aft,g⟩ (.bool (c||b)):=by
 simp only[PV,execOp,hx,hy,asBool,uW];simp
theorem qA4(hx:ev n F x= .bool c)(hy:ev n F y=Sel (b&&(c'==true)) (.bool e))(hb:b=true)(hc:c=c'):PV P n w F ⟨d,.pick x y (.const (.bool false)),ty,pos,aft,g⟩ (.bool (c&&e)):=by
 subst hc hb;exact mBn
theorem qC3(hx:ev n F x= .bool c)(hy:ev n F y=Sel (b&&(c'==false)) (.bool e))(hb:b=true)(hc:c=c'):PV P n w F ⟨d,.pick x (.const (.bool true)) y,ty,pos,aft,g⟩ (.bool (c||e)):=by
 subst hc hb;exact mBn
theorem qC5(hx:ev n F x= .bool c):PV P n w F ⟨d,.unOp .not t x,ty,pos,aft,g⟩ (.bool (!c)):=by
 simp[PV,execOp,hx,Op.unary]
theorem kA{a:Addr}(hx:ev n F x= .pointer (some a)):PV P n w F ⟨d,.nilCheck x,ty,pos,aft,g⟩ (.pointer (some a)):=by
 simp[PV,execOp,hx]
theorem yU{vs:Array Value}(hx:ev n F x= .tuple vs)(hv:vs[i]? =some v):PV P n w F ⟨d,.extract x i,ty,pos,aft,g⟩ v:=by
 simp[PV,execOp,hx,Instr.extract,hv]
theorem kY{fn:Fn}{a b:Array Operand}:PV P n w F ⟨d,.makeFunc fn a b,ty,pos,aft,g⟩ (.func fn (a.toList.map (ev n F)).toArray (b.toList.map (ev n F)).toArray):=by
 have h:∀a:Array _,a.map (ev n F)=(a.toList.map (ev n F)).toArray:=fun a=>by grind
 simp[PV,execOp,Instr.makeFunc,h]
section
variable {t t':Nat}{k:IntKind}{a b:Int}
theorem qO(hx:ev n F x= .int k a)(hy:ev n F y= .int k b):PV P n w F ⟨d,.binOp .add t x y t',ty,pos,aft,g⟩ (.int k (k.wrap (a+b))):=by
 exact mDb
theorem jN(hx:ev n F x= .int k a)(hy:ev n F y= .int k b):PV P n w F ⟨d,.binOp .sub t x y t',ty,pos,aft,g⟩ (.int k (k.wrap (a-b))):=by
 exact mDb
theorem vD(hx:ev n F x= .int k a)(hy:ev n F y= .int k b):PV P n w F ⟨d,.binOp .mul t x y t',ty,pos,aft,g⟩ (.int k (k.wrap (a*b))):=by
 exact mDb
theorem qC1(hx:ev n F x= .int k a)(hy:ev n F y= .int k b)(hb:b≠0):PV P n w F ⟨d,.binOp .quo t x y t',ty,pos,aft,g⟩ (.int k (k.wrap (a.tdiv b))):=by
 simp[PV,execOp,hx,hy,eqGuard,binOp,Op.intDiv,hb]
theorem qCz(hx:ev n F x= .int k a)(hy:ev n F y= .int k b)(hb:b≠0):PV P n w F ⟨d,.binOp .rem t x y t',ty,pos,aft,g⟩ (.int k (a.tmod b)):=by
 simp[PV,execOp,hx,hy,eqGuard,binOp,Op.intDiv,hb]
theorem zQ(hx:ev n F x= .int k a)(hy:ev n F y= .int k b):PV P n w F ⟨d,.binOp .lss t x y t',ty,pos,aft,g⟩ (.bool (decide (a<b))):=by
 exact mC0
theorem uG(hx:ev n F x= .int k a)(hy:ev n F y= .int k b):PV P n w F ⟨d,.binOp .leq t x y t',ty,pos,aft,g⟩ (.bool (decide (a≤b))):=by
 exact mC0
theorem xJ(hx:ev n F x= .int k a)(hy:ev n F y= .int k b):PV P n w F ⟨d,.binOp .gtr t x y t',ty,pos,aft,g⟩ (.bool (decide (b<a))):=by
 exact mC0
theorem vE(hx:ev n F x= .int k a)(hy:ev n F y= .int k b):PV P n w F ⟨d,.binOp .geq t x y t',ty,pos,aft,g⟩ (.bool (decide (b≤a))):=by
 exact mC0
theorem zW(hx:ev n F x= .int k a)(hy:ev n F y= .int k b):PV P n w F ⟨d,.binOp .eql t x y t',ty,pos,aft,g⟩ (.bool (decide (a=b))):=by
 simp[PV,execOp,hx,hy,eqGuard,binOp,Op.intCmp];rfl
theorem kB(hx:ev n F x= .int k a)(hy:ev n F y= .int k b):PV P n w F ⟨d,.binOp .neq t x y t',ty,pos,aft,g⟩ (.bool (!decide (a=b))):=by
 simp[PV,execOp,hx,hy,eqGuard,binOp,Op.intCmp,bne];rfl
theorem qXw{k':IntKind}(hd:P.underlying t'=some (.int k'))(hs:∃q,P.underlying t=some q)(hx:ev n F x= .int k a):
  PV P n w F ⟨d,.convert t t' x,ty,pos,aft,g⟩ (.int k' (k'.wrap a)):=by
 obtain⟨q,hq⟩:=hs;simp[PV,execOp,hx,convert,jQ hq,jQ hd,Conv.intToInt]
theorem qAp{ts:Array TypeId}(hx:ev n F x= .int k a)(hy:ev n F y= .int k b):PV P n w F ⟨d,.call ⟨.builtin .min,#[x,y],ts⟩,ty,pos,aft,g⟩ (.int k (min a b)):=by
 have:(if b<a then b else a)=min a b:=by rw[Int.min_def];split<;>split<;>omega
 simp[PV,execOp,resolve,invoke,builtin,Builtin.min_,Builtin.min2,hx,hy,this]
end
theorem qK(h1:-9223372036854775808≤z)(h2:z≤9223372036854775807):IntKind.i64.wrap z=z:=by
 rw[IntKind.wrap_i64];omega
theorem jM6(h1:0≤z)(h2:z≤255):IntKind.u8.wrap z=z:=by
 rw[IntKind.wrap_u8];omega
theorem qF{k:IntKind}{a b:Int}(h:a=b):Value.int k a= .int k b:=by rw[h]
theorem qV{a:Bool}(h:a=b):Value.bool a= .bool b:=by rw[h]
section
variable {t t':Nat}{a b:ByteArray}
theorem qGi(a b:ByteArray):(a.toList==b.toList)=decide (a=b):=by
 rw[iG];simp only[beq_iff_eq,dL,ByteArray.toList_eq];constructor
 ·intro h;cases a;congr 1;exact Array.toList_inj.1 h
 grind
theorem xV(hx:ev n F x= .string a)(hy:ev n F y= .string b):PV P n w F ⟨d,.binOp .eql t x y t',ty,pos,aft,g⟩ (.bool (decide (a=b))):=by
 exact mEg
theorem qA2(hx:ev n F x= .string a)(hy:ev n F y= .string b):PV P n w F ⟨d,.binOp .neq t x y t',ty,pos,aft,g⟩ (.bool (!decide (a=b))):=by
 exact mEg
theorem qCq(hx:ev n F x= .string a)(hy:ev n F y= .string b)(hl:a.size+b.size≤9223372036854775807):PV P n w F ⟨d,.binOp .add t x y t',ty,pos,aft,g⟩ (.string (a++b)):=by
 simp[PV,execOp,hx,hy,eqGuard,binOp,Op.stringOp];omega
theorem jJm(hq:P.underlying p=some .string)(hx:ev n F x= .string a):PV P n w F ⟨d,.call ⟨.builtin .len,#[x],#[p]⟩,q,pos,aft,g⟩ (Iv a.size):=by
 exact mE0
theorem jOm{e:TypeId}{c:Nat}(hq:P.underlying p=some (.slice e))(hx:ev n F x= .slice s m c):PV P n w F ⟨d,.call ⟨.builtin .len,#[x],#[p]⟩,q,pos,aft,g⟩ (Iv m):=by
 exact mE0
def bAt(s:ByteArray)(i:Nat):Int:=((s.data.toList[i]?).getD 0).toNat
theorem jTw(s:ByteArray)(hi:i<s.size):bAt s i=(s[i]'hi).toNat:=by
 have:i<s.data.toList.length:=by simpa using hi
 unfold bAt;rw[aA this];rfl
theorem qVi{k:IntKind}(hq:P.underlying t=some .string)(hx:ev n F x= .string a)(hy:ev n F y= .int k i)(hi:i<a.size):
  PV P n w F ⟨d,.index t x y,ty,pos,aft,g⟩ (.int .u8 (bAt a i)):=by
 have:a[i]? =some (a[i]'hi):=by simp[hi]
 simp[PV,execOp,Instr.index,hx,hy,asIntOf,jQ hq,this,jTw a hi]
end
theorem yC(b o k:Nat):(⟨b,o,none⟩:Addr).add k=⟨b,o+k,none⟩:=by
 unfold Addr.add;simp
theorem jDm{s:TypeId}{f:Field}{b:Nat}(hs:P.underlying s=some (.struct fs))(hf:fs[i]? =some f)(hk:TSize P f.type (k+1))(hx:ev n F x= .pointer (some ⟨b,o,none⟩)):
  PV P n w F ⟨d,.fieldAddr s x i,ty,pos,aft,g⟩ (.pointer (some ⟨b,o+f.offset,none⟩)):=by
 simp[PV,execOp,Instr.fieldAt,hx,jQ hs,hf,Instr.sureAddr,fieldPlace,hk.run,yC]
def qGo(P:Program)(s i off k:Nat):Prop:=(match P.underlying s with
 |some (.struct fs)=>(fs[i]?).map (fun f=>(f.offset,(P.info? f.type).map (·.size)))
 |_=>none)=some (off,some (k+1))
theorem qVk{s b off:Nat}(h:qGo P s i off k)(hx:ev n F x= .pointer (some ⟨b,o,none⟩)):
  PV P n w F ⟨d,.fieldAddr s x i,ty,pos,aft,g⟩ (.pointer (some ⟨b,o+off,none⟩)):=by
 unfold qGo at h;split at h
 ·rename_i fs hs
  cases hf:fs[i]? with
  |none=>simp[hf] at h
  |some f=>
   simp[hf] at h;obtain⟨rfl,h2⟩:=h;refine jDm (k:=k) hs hf ?_ hx;unfold TSize;grind
 cases h
theorem jDl{e c b:Nat}{q:IntKind}(ht:P.underlying t=some (.slice e))(hk:TSize P e k)(hx:ev n F x= .slice s m c)(hy:ev n F y= .int q i)(hs:s=some ⟨b,o,none⟩)(hi:i<m):
  PV P n w F ⟨d,.indexAddr t x y,ty,pos,aft,g⟩ (.pointer (some ⟨b,o+i*k,none⟩)):=by
 subst hs;simp[PV,execOp,Instr.indexAt,hx,hy,asIntOf,jQ ht,hi,hk.run,yC]
theorem qVj{e b:Nat}{q:IntKind}(ht:P.underlying t=some (.array m e))(hk:TSize P e k)(hx:ev n F x= .pointer (some ⟨b,o,none⟩))(hy:ev n F y= .int q i)(hi:i<m):
  PV P n w F ⟨d,.indexAddr t x y,ty,pos,aft,g⟩ (.pointer (some ⟨b,o+i*k,none⟩)):=by
 simp[PV,execOp,Instr.indexAt,Instr.sureAddr,hx,hy,asIntOf,jQ ht,hi,hk.run,yC]
theorem vN(b o:Nat):∀(vs:List Value) (i:Nat) (acc:Array Value),(∀j v,vs[j]? =some v→w.cell? ⟨b,o+i+j,none⟩=some v)→
  (loadCellsFrom ⟨b,o,none⟩ i vs.length acc).run P w= .ok (acc++vs.toArray) w
 |[],i,acc,_=>by simp[loadCellsFrom]
 |v::vs,i,acc,h=>by
  have h0:=h 0 v O;have hr:=vN b o vs _ (acc.push v) (fun j u hu=>by have:=h (j+1) u (by grind);rw[show o+(i+1)+j=o+i+(j+1) from by omega];exact this);simp only[bT,loadCellsFrom,bJ,yC];have hl:(load ⟨b,o+i,none⟩).run P w= .ok v w:=by
   simp only[load,Sem.run];rw[show o+i=o+i+0 from O,h0]
  rw[hl];simp[aK];rw[hr];simp
theorem qKj{t:TypeId}{q:TypeDesc}{b:Nat}(hq:P.underlying t=some q)(h1:jF5 q=true)(hx:ev n F x= .pointer (some ⟨b,o,none⟩))(hc:w.cell? ⟨b,o,none⟩=some v):
  PV P n w F ⟨d,.load t x,ty,pos,aft,g⟩ v:=by
 simp[PV,execOp,Instr.loadAt,hx,Instr.sureAddr,loadVar,qQ6 hq h1,Sem.run,hc]
theorem jDk{t:TypeId}{q:TypeDesc}{b:Nat}{vs:List Value}(hq:P.underlying t=some q)(h1:qW6 q=true)(hk:TSize P t k)(hx:ev n F x= .pointer (some ⟨b,o,none⟩))
  (hl:vs.length=k) (hc:∀j v,vs[j]? =some v→w.cell? ⟨b,o+j,none⟩=some v):
  PV P n w F ⟨d,.load t x,ty,pos,aft,g⟩ (.agg vs.toArray):=by
 subst hl;have:=vN (P:=P) b o vs 0 #[] (fun j v hv=>by simpa using hc j v hv);simp[PV,execOp,Instr.loadAt,hx,Instr.sureAddr,loadVar,qF5 hq h1,loadCells,hk.run,this]
theorem yO{k:IntKind}{c:BoundsCode}(hv:v= .int k i)(h:i≤m):(Instr.sliceBound v m c).run P w= .ok i w:=by
 simp[Instr.sliceBound,hv,asIntOf,h]
theorem qB6{t:TypeId}{ps:Array (Nat×Operand)}{zs cs:Array Value}{pl:Array (Nat×Nat)}{z:Value}(ht:P.underlying t=some (.struct fs))(hz:TZero P t z)(xw:z.cells=zs)
  (xv:∀w,(fs.mapM (fun f=>do pure (f.offset,←sizeOf f.type):Field→Sem (Nat×Nat))).run P w= .ok pl w) (hf:Instr.fill (pl[·]?) zs (ps.map fun(i,x)=>(i,ev n F x)).toList=some cs):
  PV P n w F ⟨d,.build t ps,ty,pos,aft,g⟩ (.agg cs):=by
 subst xw;simp only[PV,execOp,Instr.build,bJ,hz.run,aK,jQ ht,xv,hf];rfl
end
end
section
open Go.RowKit (Below)
variable{m b:Nat}{t:TypeId}{w:World}{v:Value}{o:Nat}{f:Fr}{w':World}{R:Value→World→Prop}{a:Addr}{i:Nat}{cs:List Value}{M:List Nat}{w0:World}{args:List Value}
structure Keeps(M:List Nat)(w w':World):Prop where
 os:w'.os=w.os
 tape:w'.tape=w.tape
 output:w'.output=w.output
 size:w.heap.size≤w'.heap.size
 block:∀k,k<w.heap.size→k∉M→w'.heap[k]? =w.heap[k]?
theorem Keeps.refl:Keeps M w w:=⟨O,O,O,O1,fun _ _ _=>O⟩
theorem Keeps.below(h:Keeps [] w w'):Below w.heap.size w w':=⟨h.os,h.tape,h.output,h.size,fun k hk=>h.block k hk O4⟩
theorem Keeps.y6(h:Below w.heap.size w w'):Keeps [] w w':=⟨h.os,h.tape,h.output,h.size,fun k hk _=>h.block k hk⟩
theorem Keeps.trans{M N:List Nat}{a b c:World}(h:Keeps M a b)(h2:Keeps N b c)(hN:∀k∈N,a.heap.size≤k∨k∈M):Keeps M a c:=
 ⟨h2.os.trans h.os,h2.tape.trans h.tape,h2.output.trans h.output,bL h.size h2.size,fun k hk hm=>(h2.block k (cJ hk h.size) (fun hn=>by grind)).trans (h.block k hk hm)⟩
theorem Keeps.drew{M:List Nat}{w w':World}(h:Keeps M w w'):Keeps M w w'.drew:=⟨h.os,h.tape,h.output,h.size,h.block⟩
theorem Keeps.cell(h:Keeps M w w')(hc:w.cell? a=some v)(hm:a.block∉M):w'.cell? a=some v:=
 (World.cell?_of_block (h.block _ (iZ w a hc) hm)).trans hc
theorem vP(w:World)(o:Obj):Keeps [] w (w.alloc o):=⟨O,O,O,O4,fun k hk _=>lB w o k hk⟩
abbrev Ent:=Option Nat×(Obj→Prop)
variable{p q:Ent}
structure Hp(w0:World)(M:List Nat)(w:World)(L:List Ent):Prop where
 keeps:Keeps M w0 w
 own:∀(i:Nat) (p:Ent),L[i]? =some p→∀b,p.1=some b→w0.heap.size≤b∨b∈M
 has:∀(i:Nat) (p:Ent),L[i]? =some p→∀b,p.1=some b→∃o,w.heap[b]? =some o∧p.2 o
 dis:∀(i j:Nat) (p q:Ent),L[i]? =some p→L[j]? =some q→i≠j→∀b,p.1=some b→q.1≠some b
abbrev Hp.C:=@Hp.keeps
section
variable {w0 w w':World}{M:List Nat}{L:List Ent}
theorem Hp.start:Hp w M w []:=⟨.refl,O4,O4,O4⟩
theorem Hp.r5(h:Keeps M w0 w):Hp w0 M w []:=⟨h,O4,O4,O4⟩
theorem Hp.drew(h:Hp w0 M w L):Hp w0 M w.drew L:=⟨h.keeps.drew,h.own,h.has,h.dis⟩
abbrev Hp.N:=@Hp.drew
theorem Hp.lt(h:Hp w0 M w L)(hi:L[i]? =some p)(hb:p.1=some b):b<w.heap.size:=by
 obtain⟨o,ho,_⟩:=h.has i p hi b hb;grind
theorem Hp.call(h:Hp w0 M w L)(hk:Keeps [] w w'):Hp w0 M w' L:=by
 refine⟨h.keeps.trans hk O4,h.own,fun i p hi b hb=>?_,h.dis⟩;obtain⟨o,ho,hp⟩:=h.has i p hi b hb;exact⟨o,by rw[hk.block b (h.lt hi hb) O4];exact ho,hp⟩
theorem Hp.add(h:Hp w0 M w L)(hk:Keeps [] w w')(hq:∀b,q.1=some b→w.heap.size≤b∧∃o,w'.heap[b]? =some o∧q.2 o):Hp w0 M w' (q::L):=by
 have h':=h.call hk;refine⟨h'.keeps,fun i p hi b hb=>?_,fun i p hi b hb=>?_,fun i j p r hi hj xr b hb=>?_⟩
 ·cases i with
  |zero=>simp at hi;subst hi;exact .inl (bL h.keeps.size (hq b hb).1)
  |succ i=>exact h.own i p (by grind) b hb
 ·cases i with
  |zero=>grind
  |succ i=>exact h'.has i p (by grind) b hb
 cases i with
 |zero=>
  simp at hi;subst hi;cases j with
  |zero=>omega
  |succ j=>
   intro e;have h1:=(hq b hb).1;have h2:=h.lt (by simpa using hj) e;omega
 |succ i=>
  cases j with
  |zero=>
   simp at hj;subst hj;intro e;have h1:=(hq b e).1;have h2:=h.lt (by simpa using hi) hb;omega
  |succ j=>exact h.dis i j p r (by grind) (by grind) O1 b hb
theorem Hp.alloc(h:Hp w0 M w L)(o:Obj){φ:Obj→Prop}(hφ:φ o):Hp w0 M (w.alloc o) ((some w.heap.size,φ)::L):=
 h.add (vP w o) (by
  intro b hb;simp at hb;subst hb
  exact⟨O1,o,heap_alloc_new w o,hφ⟩)
theorem Hp.tail(h:Hp w0 M w (q::L)):Hp w0 M w L:=
 ⟨h.keeps,fun i p hi=>h.own (i+1) p (by grind),fun i p hi=>h.has (i+1) p (by grind),fun i j p r hi hj xr=>h.dis (i+1) (j+1) p r (by grind) (by grind) O1⟩
abbrev Hp.H:=@Hp.tail
theorem Hp.q8(h:Hp w0 M w L){q:Obj→Prop}{o:Obj}(hb:b∈M)(ho:w.heap[b]? =some o)(hq:q o)(xr:∀(i:Nat) (p:Ent),L[i]? =some p→p.1≠some b):Hp w0 M w ((some b,q)::L):=by
 refine⟨h.keeps,fun i p hi c hc=>?_,fun i p hi c hc=>?_,fun i j p r hi hj nu c hc=>?_⟩
 ·cases i with
  |zero=>grind
  |succ i=>exact h.own i p (by grind) c hc
 ·cases i with
  |zero=>simp at hi;subst hi;grind
  |succ i=>exact h.has i p (by grind) c hc
 cases i with
 |zero=>
  grind
 |succ i=>
  cases j with
  |zero=>
   grind
  |succ j=>exact h.dis i j p r (by grind) (by grind) O1 c hc
theorem Hp.o8(h:Hp w0 M w L)(hi:L[i]? =some p)(hk:Keeps p.1.toList w w')(hq:∀b,q.1=some b→(p.1=some b∨w.heap.size≤b)∧∃o,w'.heap[b]? =some o∧q.2 o):
  Hp w0 M w' (L.set i q):=by
 have hQ:=(aH.1 hi).1;refine⟨?_,fun k r hr b hb=>?_,fun k r hr b hb=>?_,fun k j r s hr hs xr b hb=>?_⟩
 ·refine h.keeps.trans hk ?_;intro k nv;have:=by simpa[Option.mem_toList,eq_comm] using nv
  exact h.own i p hi k this
 ·rw[iB] at hr;by_cases nw:i=k
  ·subst nw;simp[hQ] at hr;subst hr;rcases(hq b hb).1 with h1|h1
   ·exact h.own i p hi b h1
   exact .inl (bL h.keeps.size h1)
  rw[if_neg nw] at hr;exact h.own k r hr b hb
 ·rw[iB] at hr;by_cases nw:i=k
  ·grind
  rw[if_neg nw] at hr;obtain⟨o,ho,ny⟩:=h.has k r hr b hb;refine⟨o,?_,ny⟩;rw[hk.block b (h.lt hr hb) ?_]
  ·exact ho
  intro hm;have:=by simpa[Option.mem_toList,eq_comm] using hm
  exact h.dis k i r p hr hi O1 b hb this
 rw[iB] at hr hs;by_cases nw:i=k
 ·subst nw;rw[if_neg xr] at hs;simp[hQ] at hr;subst hr;intro e;rcases(hq b hb).1 with h1|h1
  ·exact h.dis i j p s hi hs xr b h1 e
  have:=h.lt hs e;omega
 rw[if_neg nw] at hr;by_cases nu:i=j
 ·subst nu;simp[hQ] at hs;subst hs;intro e;rcases(hq b e).1 with h1|h1
  ·exact h.dis k i r p hr hi xr b hb h1
  have:=h.lt hr hb;omega
 rw[if_neg nu] at hs;exact h.dis k j r s hr hs xr b hb
theorem Hp.y5(h:Hp w0 M w L){φ:Obj→Prop}(hi:L[i]? =some p)(hφ:∀o,p.2 o→φ o):Hp w0 M w (L.set i (p.1,φ)):=by
 refine h.o8 hi .refl ?_;intro b hb;obtain⟨o,ho,hp⟩:=h.has i p hi b hb;grind
theorem Hp.j7{L:List Ent}(h:Hp w0 [] w L)(hc:w0.cell? a=some v):w.cell? a=some v:=h.keeps.cell hc O4
theorem Hp.old(h:Hp w0 M w L)(hc:w0.cell? a=some v)(hm:a.block∉M):w.cell? a=some v:=h.keeps.cell hc hm
end
def qN7(m:Nat)(f:Fr)(t:TypeId):Obj→Prop:=fun o=>o= .cells (Array.ofFn (n:=m) fun i=>f i) t (0,0)
def blk(b m:Nat)(f:Fr)(t:TypeId):Ent:=(some b,qN7 m f t)
section
variable {w0 w w':World}{M:List Nat}{L:List Ent}
theorem qUm(hb:w.heap[b]? =some (.cells (Array.ofFn (n:=m) fun i=>f i) t (0,0)))(ho:o<m):w.cell? ⟨b,o,none⟩=some (f o):=by
 simp[World.cell?,hb,ho]
theorem Hp.cell(h:Hp w0 M w L)(i:Nat)(hi:L[i]? =some (blk b m f t))(ho:Nat.blt o m=true):w.cell? ⟨b,o,none⟩=some (f o):=by
 obtain⟨ob,h1,h2⟩:=h.has i _ hi b O;have h3:ob=_:=h2;subst h3;exact qUm h1 (qCd ho)
theorem Hp.cells(h:Hp w0 M w L)(i:Nat)(vs:List Value)(hi:L[i]? =some (blk b m f t))(ho:Nat.ble (o+vs.length) m=true)
  (hv:∀j v,vs[j]? =some v→f (o+j)=v):∀j v,vs[j]? =some v→w.cell? ⟨b,o+j,none⟩=some v:=by
 intro j v hj;have hl:=(aH.1 hj).1;rw[h.cell i hi (yQ (by have:=eK ho;omega)),hv j v hj]
theorem Hp.j4(h:Hp w0 M w L)(i:Nat){k:Nat}(hi:L[i]? =some (blk b m f t))(ho:Nat.ble (o+k) m=true):
  ∀(j:Nat) (v:Value),((range k).map fun j=>f (o+j))[j]? =some v→w.cell? ⟨b,o+j,none⟩=some v:=by
 intro j v hj;rw[dF] at hj;by_cases hl:j<k
 ·rw[nD hl] at hj;simp at hj;rw[h.cell i hi (yQ (by have:=eK ho;omega)),hj]
 grind
def uT(f:Fr)(o:Nat):List Value→Fr
 |[]=>f
 |v::vs=>uT (f.put o v) (o+1) vs
def kM:Value→Bool
 | .agg _=>false
 | .tuple _=>false
 |_=>true
theorem qVe{P:Program}(hb:w.heap[b]? =some (.cells (Array.ofFn (n:=m) fun i=>f i) t (0,0)))(ho:o<m)(h1:kM v=true):
  ∃w',(store ⟨b,o,none⟩ v).run P w= .ok () w'∧Keeps [b] w w'∧w'.heap[b]? =some (.cells (Array.ofFn (n:=m) fun i=>(f.put o v) i) t (0,0)):=by
 have hc:=qUm hb ho;have hf:w.frozen? ⟨b,o,none⟩=false:=by simp[World.frozen?,hb]
 refine⟨w.setCell ⟨b,o,none⟩ v,?_,⟨O,O,O,O4,fun k _ hm=>?_⟩,?_⟩
 ·exact mEk
 ·simp only[World.setCell,lI];grind
 simp only[World.setCell,lI,if_true,hb,eC];congr 2;apply rJ
 ·simp
 intro i h1 h2;have hi:=by simpa using h2
 simp only[Option.isSome_none,eE,iW];rw[sAb (by grind)];simp only[nI,Fr.put];by_cases h:o=i
 ·subst h;simp
 rw[if_neg h,jJ O1];rfl
theorem qLj{P:Program}{b m:Nat}{t:TypeId}:∀(vs:List Value) (w:World) (f:Fr) (o i:Nat),w.heap[b]? =some (.cells (Array.ofFn (n:=m) fun i=>f i) t (0,0))→o+i+vs.length≤m→vs.all kM=true→
  ∃w',(storeCells ⟨b,o,none⟩ vs i).run P w= .ok () w'∧Keeps [b] w w'∧w'.heap[b]? =some (.cells (Array.ofFn (n:=m) fun j=>(uT f (o+i) vs) j) t (0,0))
 |[],w,f,o,i,hb,_,_=>⟨w,by simp[storeCells],.refl,hb⟩
 |v::vs,w,f,o,i,hb,hl,h1=>by
  simp only[pB,aF] at h1;simp[bT] at hl;obtain⟨w1,r1,k1,b1⟩:=qVe (P:=P) (o:=o+i) hb O1 h1.1;obtain⟨w2,r2,k2,b2⟩:=qLj (P:=P) vs w1 _ o (i+1) b1 O1 h1.2;exact mDd
end
section
variable {P:Program}{n:FrK}{w0 w:World}{M:List Nat}{L:List Ent}{F:Fr}{d:Option Tmp}{ty:TypeId}{pos:String}{aft:Array Edge}{g:Option (Nat×Bool)}{x y:Operand}
theorem xN{o:Oper}(h:(execOp (ev n F) o).run P w= .ok (.value v) w')(hr:R v w'):StepF P n o F w R:=.inl ⟨v,w',by rw[zF];exact h,hr⟩
theorem wE{o:Oper}(h:(execOp (ev n F) o).run P w= .ok .skip w')(hr:R undef w'):StepF P n o F w R:=.inr (.inl ⟨w',by rw[zF];exact h,hr⟩)
theorem uA:∀(l:List Value) (i:Nat),qE l i=l.getD i undef:=by
 intro l;induction l with
 |nil=>simp[qE]
 |cons x l ih=>intro i;cases i<;>simp[qE,ih]
theorem qMq(l:List Value):(Array.ofFn (n:=l.length) fun i=>qE l i)=l.toArray:=by
 apply rJ
 ·simp
 simp[uA]
theorem kW(hp:Hp w0 M w L)(hx:ev n F x=v)(nz:v.cells.toList=cs)(hm:cs.length=m):
  StepF P n ⟨d,.box t x,ty,pos,aft,g⟩ F w (fun u w'=>∃b,u= .pointer (Ad b)∧Hp w0 M w' (blk b m (qE cs) t::L)):=by
 subst hm;have xu:=qMq;refine xN (w':=w.alloc (.cells v.cells t)) ?_ ⟨_,O,hp.alloc _ ?_⟩
 ·simp[execOp,Instr.box,newVar,newRow,hx,Sem.run]
 show _=_
 rw[xu,←nz]
theorem zE{z:Value}(hp:Hp w0 M w L)(hz:TZero P t z)(nz:z.cells.toList=cs)(hm:cs.length=m):
  StepF P n ⟨d,.alloc t,ty,pos,aft,g⟩ F w (fun u w'=>∃b,u= .pointer (Ad b)∧Hp w0 M w' (blk b m (qE cs) t::L)):=by
 have xu:=qMq;subst hm;refine xN (w':=w.alloc (.cells z.cells t)) ?_ ⟨_,O,hp.alloc _ ?_⟩
 ·simp only[execOp,Instr.alloc,bJ,hz.run,aK];simp[newVar,newRow,Sem.run]
 show _=_
 rw[xu,←nz]
theorem zH{tb:TypeId}(hp:Hp w0 M w L)(i:Nat)(hx:ev n F x= .pointer (some ⟨b,o,none⟩))(hy:ev n F y=v)(hi:L[i]? =some (blk b m f tb))
  (nz:v.cells.toList=cs) (hk:TSize P t cs.length) (ho:Nat.ble (o+cs.length) m=true) (h1:cs.all kM=true):
  StepF P n ⟨d,.store t x y,ty,pos,aft,g⟩ F w (fun u w'=>u=undef∧Hp w0 M w' (L.set i (blk b m (uT f o cs) tb))):=by
 obtain⟨ob,jm,sd⟩:=hp.has i _ hi b O;have jq:ob=_:=sd;subst jq;obtain⟨w',hr,nv,jn⟩:=qLj (P:=P) cs w f o 0 jm (by have:=eK ho;omega) h1;refine wE ?_ ⟨O,hp.o8 hi (by simpa[blk] using nv) ?_⟩
 ·have hg:v.cells.size=cs.length:=by rw[←nz];simp
  have uq:=hk.run (w:=w);simp only[execOp,Instr.storeAt,hx,hy,Instr.sureAddr,storeVar,bJ,dV,aK,uq,hg,nz];simp[hr]
 intro b' n1;have:b'=b:=by simpa[blk,eq_comm] using n1
 subst this;exact⟨.inl O,_,jn,O⟩
def Ret(P:Program)(f:FuncId)(args:List Value)(w:World)(R:Value→World→Prop):Prop:=Calls P f args.toArray w (fun e w'=>∃v,e= .returned v∧R v w')
theorem Ret.mono{f:FuncId}{R':Value→World→Prop}(h:Ret P f args w R)(hr:∀v w',R v w'→R' v w'):Ret P f args w R':=
 sAs h fun _ _ ⟨v,he,hv⟩=>⟨v,he,hr _ _ hv⟩
def qI(P:Program)(f:FuncId):Prop:=∀(args:Array Value) (w:World),(callFunc f args).run P w= .ok (.enter f args) w
theorem qC{ts:Array TypeId}{args:Array Operand}{f:FuncId}{first dy:Array Value}{vs:List Value}(hx:ev n F x= .func (.func f) first dy)(he:qI P f)
  (n2:first.toList++args.toList.map (ev n F)++dy.toList=vs) (hc:Ret P f vs w R):
  StepF P n ⟨d,.call ⟨.value x,args,ts⟩,ty,pos,aft,g⟩ F w R:=by
 refine .inr (.inr ⟨f,_,w,?_,hc⟩);rw[zF];have ha:first++args.map (ev n F)++dy=vs.toArray:=by
  rw[←n2];simp
 simp only[execOp,resolve,bJ,hx,Deferred.ofValue,dV,aK,invoke];rw[ha];exact he _ _
theorem Ret.j9{f:FuncId}{fn:Func}{c:Code}(hf:P.funcs[f]? =some fn)(hb:fn.body=some c)(hn:fn.ntmps=m)(hg:Nat.ble args.length m=true)
  (h:WP P (FrK.of m) c (qNs P (FrK.of m) fn (fun e w'=>∃v,e= .returned v∧R v w')) (qE args) w):Ret P f args w R:=
 qUn hf hb hn (eK hg) h
end
end
section
variable{c0 r c1 c2 c3 c4 v:Value}{b o m:Nat}{c5:Value}{f:Fr}{R:Value→World→Prop}{j:Nat}{want c:Bool}{e:Nat}{c6 c7 c8 c9 n4 n3 c12 a:Value}
section
variable {P:Program}{n:FrK}{Q:Exit→Fr→World→Prop}{F:Fr}{w:World}{ops:Array Oper}{rest:List Oper}{st:Bool}{G:World→Prop}
variable {d:Nat}{op:Op}{ty:TypeId}{pos:String}{aft:Array Edge}
theorem wlp(hp:PV P n w F ⟨some d,op,ty,pos,aft,none⟩ r)(hv:r=v)(h:wpl P n ops rest Q (F.put d v) w):wpl P n ops (⟨some d,op,ty,pos,aft,none⟩::rest) Q F w:=jC0 O hp hv h
theorem wlg(hj:yW ops j=some e)(hc:ev n F (.tmp e)= .bool c)
  (hp:(c==want)=true→PV P n w F ⟨some d,op,ty,pos,aft,some (j,want)⟩ r) (hv:(c==want)=true→r=v) (h:wpl P n ops rest Q (F.put d (Sel (c==want) v)) w):wpl P n ops (⟨some d,op,ty,pos,aft,some (j,want)⟩::rest) Q F w:=jNg O hj hc hp hv h
theorem jIp{b:Bool}(hj:yW ops j=some e)(hc:ev n F (.tmp e)=Sel b (.bool c))
  (hp:b=true→(b&&(c==want))=true→PV P n w F ⟨some d,op,ty,pos,aft,some (j,want)⟩ r) (hv:b=true→(b&&(c==want))=true→r=v) (h:wpl P n ops rest Q (F.put d (Sel (b&&(c==want)) v)) w):wpl P n ops (⟨some d,op,ty,pos,aft,some (j,want)⟩::rest) Q F w:=jIm O hj hc hp hv h
theorem jUy{b:Bool}(he:zC op=false)(hj:yW ops j=some e)(hc:ev n F (.tmp e)=Sel b (.bool c))
  (hp:∀w,G w→b=true→(b&&(c==want))=true→PV P n w F ⟨some d,op,ty,pos,aft,some (j,want)⟩ r) (hv:b=true→(b&&(c==want))=true→r=v) (h:wpd P n ops st G rest Q (F.put d (Sel (b&&(c==want)) v)) w):wpd P n ops st G (⟨some d,op,ty,pos,aft,some (j,want)⟩::rest) Q F w:=jIn he O hj hc (fun a b c d=>hp c d a b) hv h
theorem wls(hs:StepF P n ⟨some d,op,ty,pos,aft,none⟩ F w R)(h:∀v w',R v w'→wpl P n ops rest Q (F.put d v) w'):wpl P n ops (⟨some d,op,ty,pos,aft,none⟩::rest) Q F w:=qL4 O hs h
theorem jI(hs:StepF P n ⟨none,op,ty,pos,aft,none⟩ F w R)(h:∀v w',R v w'→wpl P n ops rest Q F w'):wpl P n ops (⟨none,op,ty,pos,aft,none⟩::rest) Q F w:=qL4 O hs h
theorem wdp(he:zC op=false)(hp:∀w,G w→PV P n w F ⟨some d,op,ty,pos,aft,none⟩ r)(hv:r=v)(h:wpd P n ops st G rest Q (F.put d v) w):wpd P n ops st G (⟨some d,op,ty,pos,aft,none⟩::rest) Q F w:=jC2 he O hp hv h
theorem wdg(he:zC op=false)(hj:yW ops j=some e)(hc:ev n F (.tmp e)= .bool c)
  (hp:∀w,G w→(c==want)=true→PV P n w F ⟨some d,op,ty,pos,aft,some (j,want)⟩ r) (hv:(c==want)=true→r=v) (h:wpd P n ops st G rest Q (F.put d (Sel (c==want) v)) w):wpd P n ops st G (⟨some d,op,ty,pos,aft,some (j,want)⟩::rest) Q F w:=jNh he O hj hc (fun a b c=>hp b c a) hv h
theorem wds(he:zC op=true)(hs:StepF P n ⟨some d,op,ty,pos,aft,none⟩ F w R)(h:∀v w',R v w'→G w'∧wpd P n ops st G rest Q (F.put d v) w'):wpd P n ops st G (⟨some d,op,ty,pos,aft,none⟩::rest) Q F w:=qSj he O hs h
theorem qSl(he:zC op=true)(hs:StepF P n ⟨none,op,ty,pos,aft,none⟩ F w R)(h:∀v w',R v w'→G w'∧wpd P n ops st G rest Q F w'):wpd P n ops st G (⟨none,op,ty,pos,aft,none⟩::rest) Q F w:=qSj he O hs h
theorem xH(he:zC op=true)(hn:qEv false ⟨none,op,ty,pos,aft,none⟩=false)(hs:StepF P n ⟨none,op,ty,pos,aft,none⟩ F w R)(h:∀v w',R v w'→wpd P n ops false G rest Q F w'):wpd P n ops false G (⟨none,op,ty,pos,aft,none⟩::rest) Q F w:=qO5 he hn O hs h
theorem jNl(he:zC op=true)(hn:qEv false ⟨some d,op,ty,pos,aft,none⟩=false)(hs:StepF P n ⟨some d,op,ty,pos,aft,none⟩ F w R)(h:∀v w',R v w'→wpd P n ops false G rest Q (F.put d v) w'):wpd P n ops false G (⟨some d,op,ty,pos,aft,none⟩::rest) Q F w:=qO5 he hn O hs h
theorem jUx(he:zC op=true)(hj:yW ops j=some e)(hc:ev n F (.tmp e)= .bool c)(C:World→Prop)(hC:C w)
  (hs:(c==want)=true→StepF P n ⟨some d,op,ty,pos,aft,some (j,want)⟩ F w (fun u w'=>u=v∧C w')) (h:∀w',C w'→G w'∧wpd P n ops st G rest Q (F.put d (Sel (c==want) v)) w'):
  wpd P n ops st G (⟨some d,op,ty,pos,aft,some (j,want)⟩::rest) Q F w:=jA6 he O hj hc C hC hs h
end
section
variable {P:Program}{n:FrK}{w0 w:World}{M:List Nat}{L:List Ent}{F:Fr}{d:Option Tmp}{ty:TypeId}{pos:String}{aft:Array Edge}{g:Option (Nat×Bool)}{x y:Operand}{t tb:TypeId}
theorem uS(hp:Hp w0 M w L)(hx:ev n F x=c0)(h1:kM c0=true):StepF P n ⟨d,.box t x,ty,pos,aft,g⟩ F w (fun u w'=>∃b,u= .pointer (Ad b)∧Hp w0 M w' (blk b 1 (qE [c0]) t::L)):=kW hp hx (by cases c0<;>first|rfl|cases h1) O
theorem zT(hp:Hp w0 M w L)(hz:TZero P t c0)(h1:kM c0=true):StepF P n ⟨d,.alloc t,ty,pos,aft,g⟩ F w (fun u w'=>∃b,u= .pointer (Ad b)∧Hp w0 M w' (blk b 1 (qE [c0]) t::L)):=zE hp hz (by cases c0<;>first|rfl|cases h1) O
theorem jD(hp:Hp w0 M w L)(i:Nat)(hx:ev n F x= .pointer (some ⟨b,o,none⟩))(hy:ev n F y=c0)(h1:kM c0=true)(hi:L[i]? =some (blk b m f tb))(hk:TSize P t 1)(ho:Nat.ble (o+1) m=true):
  StepF P n ⟨d,.store t x y,ty,pos,aft,g⟩ F w (fun u w'=>u=undef∧Hp w0 M w' (L.set i (blk b m (uT f o [c0]) tb))):=zH hp i hx hy hi (by cases c0<;>first|rfl|cases h1) hk ho (by simp[h1])
theorem wY(hp:Hp w0 M w L)(hx:ev n F x=(.agg #[c0,c1])):StepF P n ⟨d,.box t x,ty,pos,aft,g⟩ F w (fun u w'=>∃b,u= .pointer (Ad b)∧Hp w0 M w' (blk b 2 (qE [c0,c1]) t::L)):=kW hp hx O O
theorem wZ(hp:Hp w0 M w L)(hz:TZero P t (.agg #[c0,c1])):StepF P n ⟨d,.alloc t,ty,pos,aft,g⟩ F w (fun u w'=>∃b,u= .pointer (Ad b)∧Hp w0 M w' (blk b 2 (qE [c0,c1]) t::L)):=zE hp hz O O
theorem xM(hp:Hp w0 M w L)(i:Nat)(hx:ev n F x= .pointer (some ⟨b,o,none⟩))(hy:ev n F y=(.agg #[c0,c1]))(h1:[c0,c1].all kM=true)(hi:L[i]? =some (blk b m f tb))(hk:TSize P t 2)(ho:Nat.ble (o+2) m=true):
  StepF P n ⟨d,.store t x y,ty,pos,aft,g⟩ F w (fun u w'=>u=undef∧Hp w0 M w' (L.set i (blk b m (uT f o [c0,c1]) tb))):=zH hp i hx hy hi O hk ho h1
theorem qBw(hp:Hp w0 M w L)(hx:ev n F x=(.agg #[c0,c1,c2])):StepF P n ⟨d,.box t x,ty,pos,aft,g⟩ F w (fun u w'=>∃b,u= .pointer (Ad b)∧Hp w0 M w' (blk b 3 (qE [c0,c1,c2]) t::L)):=kW hp hx O O
theorem jK(hp:Hp w0 M w L)(hz:TZero P t (.agg #[c0,c1,c2])):StepF P n ⟨d,.alloc t,ty,pos,aft,g⟩ F w (fun u w'=>∃b,u= .pointer (Ad b)∧Hp w0 M w' (blk b 3 (qE [c0,c1,c2]) t::L)):=zE hp hz O O
theorem qW(hp:Hp w0 M w L)(i:Nat)(hx:ev n F x= .pointer (some ⟨b,o,none⟩))(hy:ev n F y=(.agg #[c0,c1,c2]))(h1:[c0,c1,c2].all kM=true)(hi:L[i]? =some (blk b m f tb))(hk:TSize P t 3)(ho:Nat.ble (o+3) m=true):
  StepF P n ⟨d,.store t x y,ty,pos,aft,g⟩ F w (fun u w'=>u=undef∧Hp w0 M w' (L.set i (blk b m (uT f o [c0,c1,c2]) tb))):=zH hp i hx hy hi O hk ho h1
theorem jMa(hp:Hp w0 M w L)(hx:ev n F x=(.agg #[c0,c1,c2,c3])):StepF P n ⟨d,.box t x,ty,pos,aft,g⟩ F w (fun u w'=>∃b,u= .pointer (Ad b)∧Hp w0 M w' (blk b 4 (qE [c0,c1,c2,c3]) t::L)):=kW hp hx O O
theorem qKi(hp:Hp w0 M w L)(hz:TZero P t (.agg #[c0,c1,c2,c3])):StepF P n ⟨d,.alloc t,ty,pos,aft,g⟩ F w (fun u w'=>∃b,u= .pointer (Ad b)∧Hp w0 M w' (blk b 4 (qE [c0,c1,c2,c3]) t::L)):=zE hp hz O O
theorem qKg(hp:Hp w0 M w L)(i:Nat)(hx:ev n F x= .pointer (some ⟨b,o,none⟩))(hy:ev n F y=(.agg #[c0,c1,c2,c3]))(h1:[c0,c1,c2,c3].all kM=true)(hi:L[i]? =some (blk b m f tb))(hk:TSize P t 4)(ho:Nat.ble (o+4) m=true):
  StepF P n ⟨d,.store t x y,ty,pos,aft,g⟩ F w (fun u w'=>u=undef∧Hp w0 M w' (L.set i (blk b m (uT f o [c0,c1,c2,c3]) tb))):=zH hp i hx hy hi O hk ho h1
theorem jVc(hp:Hp w0 M w L)(hx:ev n F x=(.agg #[c0,c1,c2,c3,c4])):StepF P n ⟨d,.box t x,ty,pos,aft,g⟩ F w (fun u w'=>∃b,u= .pointer (Ad b)∧Hp w0 M w' (blk b 5 (qE [c0,c1,c2,c3,c4]) t::L)):=kW hp hx O O
theorem qXo(hp:Hp w0 M w L)(hz:TZero P t (.agg #[c0,c1,c2,c3,c4])):StepF P n ⟨d,.alloc t,ty,pos,aft,g⟩ F w (fun u w'=>∃b,u= .pointer (Ad b)∧Hp w0 M w' (blk b 5 (qE [c0,c1,c2,c3,c4]) t::L)):=zE hp hz O O
theorem jJ3(hp:Hp w0 M w L)(i:Nat)(hx:ev n F x= .pointer (some ⟨b,o,none⟩))(hy:ev n F y=(.agg #[c0,c1,c2,c3,c4]))(h1:[c0,c1,c2,c3,c4].all kM=true)(hi:L[i]? =some (blk b m f tb))(hk:TSize P t 5)(ho:Nat.ble (o+5) m=true):
  StepF P n ⟨d,.store t x y,ty,pos,aft,g⟩ F w (fun u w'=>u=undef∧Hp w0 M w' (L.set i (blk b m (uT f o [c0,c1,c2,c3,c4]) tb))):=zH hp i hx hy hi O hk ho h1
theorem qDh(hp:Hp w0 M w L)(hx:ev n F x=(.agg #[c0,c1,c2,c3,c4,c5])):StepF P n ⟨d,.box t x,ty,pos,aft,g⟩ F w (fun u w'=>∃b,u= .pointer (Ad b)∧Hp w0 M w' (blk b 6 (qE [c0,c1,c2,c3,c4,c5]) t::L)):=kW hp hx O O
theorem vA(hp:Hp w0 M w L)(hz:TZero P t (.agg #[c0,c1,c2,c3,c4,c5])):StepF P n ⟨d,.alloc t,ty,pos,aft,g⟩ F w (fun u w'=>∃b,u= .pointer (Ad b)∧Hp w0 M w' (blk b 6 (qE [c0,c1,c2,c3,c4,c5]) t::L)):=zE hp hz O O
theorem zU(hp:Hp w0 M w L)(i:Nat)(hx:ev n F x= .pointer (some ⟨b,o,none⟩))(hy:ev n F y=(.agg #[c0,c1,c2,c3,c4,c5]))(h1:[c0,c1,c2,c3,c4,c5].all kM=true)(hi:L[i]? =some (blk b m f tb))(hk:TSize P t 6)(ho:Nat.ble (o+6) m=true):
  StepF P n ⟨d,.store t x y,ty,pos,aft,g⟩ F w (fun u w'=>u=undef∧Hp w0 M w' (L.set i (blk b m (uT f o [c0,c1,c2,c3,c4,c5]) tb))):=zH hp i hx hy hi O hk ho h1
theorem zO(hp:Hp w0 M w L)(hx:ev n F x=(.agg #[c0,c1,c2,c3,c4,c5,c6,c7,c8,c9,n4,n3,c12])):StepF P n ⟨d,.box t x,ty,pos,aft,g⟩ F w (fun u w'=>∃b,u= .pointer (Ad b)∧Hp w0 M w' (blk b 13 (qE [c0,c1,c2,c3,c4,c5,c6,c7,c8,c9,n4,n3,c12]) t::L)):=kW hp hx O O
theorem kP(hp:Hp w0 M w L)(hz:TZero P t (.agg #[c0,c1,c2,c3,c4,c5,c6,c7,c8,c9,n4,n3,c12])):StepF P n ⟨d,.alloc t,ty,pos,aft,g⟩ F w (fun u w'=>∃b,u= .pointer (Ad b)∧Hp w0 M w' (blk b 13 (qE [c0,c1,c2,c3,c4,c5,c6,c7,c8,c9,n4,n3,c12]) t::L)):=zE hp hz O O
theorem xC(hp:Hp w0 M w L)(i:Nat)(hx:ev n F x= .pointer (some ⟨b,o,none⟩))(hy:ev n F y=(.agg #[c0,c1,c2,c3,c4,c5,c6,c7,c8,c9,n4,n3,c12]))(h1:[c0,c1,c2,c3,c4,c5,c6,c7,c8,c9,n4,n3,c12].all kM=true)(hi:L[i]? =some (blk b m f tb))(hk:TSize P t 13)(ho:Nat.ble (o+13) m=true):
  StepF P n ⟨d,.store t x y,ty,pos,aft,g⟩ F w (fun u w'=>u=undef∧Hp w0 M w' (L.set i (blk b m (uT f o [c0,c1,c2,c3,c4,c5,c6,c7,c8,c9,n4,n3,c12]) tb))):=zH hp i hx hy hi O hk ho h1
end
theorem fI{k:IntKind}{a:Int}(h:r= .int k a):r= .int k a:=h
theorem fB{a:Bool}(h:r= .bool a):r= .bool a:=h
theorem fP(h:r= .pointer (some ⟨b,o,none⟩)):r= .pointer (some ⟨b,o,none⟩):=h
theorem fS{s:Option Addr}{c:Nat}(h:r= .slice s m c):r= .slice s m c:=h
theorem fT{s:ByteArray}(h:r= .string s):r= .string s:=h
theorem fF{f:Fn}{a b:Array Value}(h:r= .func f a b):r= .func f a b:=h
theorem fF0{f:Fn}(h:r= .func f #[] #[]):r= .func f #[] #[]:=h
theorem fF1{f:Fn}(h:r= .func f #[] #[a]):r= .func f #[] #[a]:=h
theorem fF2{f:Fn}{b:Value}(h:r= .func f #[] #[a,b]):r= .func f #[] #[a,b]:=h
theorem fF3{f:Fn}{b c:Value}(h:r= .func f #[] #[a,b,c]):r= .func f #[] #[a,b,c]:=h
theorem fM{s:Option Nat}(h:r= .map s):r= .map s:=h
theorem fU{vs:Array Value}(h:r= .tuple vs):r= .tuple vs:=h
theorem fL{b:Bool}(h:r=Sel b v):r=Sel b v:=h
theorem fA2(h:r= .agg #[c0,c1]):r= .agg #[c0,c1]:=h
theorem fA3(h:r= .agg #[c0,c1,c2]):r= .agg #[c0,c1,c2]:=h
theorem fA4(h:r= .agg #[c0,c1,c2,c3]):r= .agg #[c0,c1,c2,c3]:=h
theorem fA6(h:r= .agg #[c0,c1,c2,c3,c4,c5]):r= .agg #[c0,c1,c2,c3,c4,c5]:=h
theorem qJd(h:r= .agg #[c0,c1,c2,c3,c4,c5,c6,c7,c8,c9,n4,n3,c12]):r= .agg #[c0,c1,c2,c3,c4,c5,c6,c7,c8,c9,n4,n3,c12]:=h
end
section
variable{mt kt et:TypeId}{b:Nat}{o:Obj}{clock:Nat}{v z zv:Value}
structure KeyEnc(α:Type)[DecidableEq α] where
 kd:TypeDesc
 enc:α→Value
 same:∀a b,Instr.sameNow kd (enc a) (enc b)=some (decide (a=b))
 bits:∀a,Instr.sameBits 10000 (enc a) (enc a)=true
 plain:∀(P:Program) (w:World) (e:Bool) (t:TypeId) (a:α),P.underlying t=some kd→(Instr.checkKey e 10000 t (enc a)).run P w= .ok () w
def kInt:KeyEnc Int where
 kd:=.int .i64
 enc a:=Iv a
 same a b:=by rfl
 bits a:=by simp[Instr.sameBits]
 plain P w e t a h:=by
  exact mEu
theorem qGj(a b:ByteArray):(a==b)=decide (a=b):=by
 rw[beq_toListBytes,qGi]
def kStr:KeyEnc ByteArray where
 kd:=.string
 enc a:=.string a
 same a b:=by simp[Instr.sameNow,qGj]
 bits a:=by simp[Instr.sameBits,qGj]
 plain P w e t a h:=by
  exact mEu
section
variable {α:Type}[DecidableEq α](K:KeyEnc α)
def kQ(x:α×Value×Nat):MapEntry:={key:=K.enc x.1,val:=x.2.1,born:=x.2.2}
def lk(l:List (α×Value×Nat))(a:α):Option Value:=(l.find? (fun x=>decide (x.1=a))).map (·.2.1)
structure MOk(l:List (α×Value×Nat))(clock:Nat):Prop where
 born:∀x∈l,x.2.2<clock
 nd:(l.map (·.2.2)).Nodup
 keys:(l.map (·.1)).Nodup
def qR2(f:α→Option Value):Obj→Prop:=fun o=>∃(l:List (α×Value×Nat)) (clock:Nat),o= .map (l.map (kQ K)).toArray clock∧(∀a,lk l a=f a)∧MOk l clock
omit [DecidableEq α] in
theorem MOk.o8{l:List (α×Value×Nat)}(h:MOk l clock)(k:Nat)(v:Value):MOk (l.modify k fun x=>(x.1,v,x.2.2)) clock:=by
 have e1:(l.modify k fun x=>(x.1,v,x.2.2)).map (·.2.2)=l.map (·.2.2):=by
  exact mCn
 have e2:(l.modify k fun x=>(x.1,v,x.2.2)).map (·.1)=l.map (·.1):=by
  exact mCn
 refine⟨fun x hx=>?_,by rw[e1];exact h.nd,by rw[e2];exact h.keys⟩;have:x.2.2∈l.map (·.2.2):=by rw[←e1];exact List.mem_map_of_mem hx
 obtain⟨y,hy,e⟩:=bD.1 this;rw[←e];exact h.born y hy
theorem MOk.push{l:List (α×Value×Nat)}(h:MOk l clock){a:α}(hn:lk l a=none):MOk (l++[(a,v,clock)]) (clock+1):=by
 refine⟨fun x hx=>?_,?_,?_⟩
 ·rcases fO.1 hx with hx|hx
  ·exact Nat.lt_succ_of_lt (h.born x hx)
  grind
 ·rw[dR,pY];refine⟨h.nd,O4,?_⟩;intro x hx y hy e;obtain⟨z,hz,rfl⟩:=bD.1 hx;have:=by simpa using hy
  have:=h.born z hz;omega
 rw[dR,pY];refine⟨h.keys,O4,?_⟩;unfold lk at hn;rw[Option.map_eq_none_iff,List.find?_eq_none] at hn;grind
def fnd(a:α):List (α×Value×Nat)→Nat→Option (Nat×Value)
 |[],_=>none
 |x::l,i=>if a=x.1 then some (i,x.2.1) else fnd a l (i+1)
theorem qMr(a:α):∀(l:List (α×Value×Nat)) (i:Nat),Instr.findNow K.kd (K.enc a) (l.map (kQ K)) i=some (fnd a l i)
 |[],i=>rfl
 |x::l,i=>by
  simp[dY,Instr.findNow,kQ,K.same,fnd];by_cases h:a=x.1
  ·simp[h]
  simp[h,sBk,iW];exact qMr a l _
theorem qEd(a:α):∀(l:List (α×Value×Nat)) (i:Nat),(fnd a l i).map (·.2)=lk l a
 |[],i=>rfl
 |x::l,i=>by
  simp[fnd,lk,sBo];by_cases h:a=x.1
  ·simp[h]
  have h':¬x.1=a:=fun e=>h e.symm
  simp[h,h',iW,sBk];exact qEd a l _
theorem qR8(a:α)(v:Value):∀(l:List (α×Value×Nat)) (i:Nat) (j:Nat) (u:Value),fnd a l i=some (j,u)→
  ∃k,j=i+k∧k<l.length∧(∃x,l[k]? =some x∧x.1=a)∧∀b,lk (l.modify k fun x=>(x.1,v,x.2.2)) b=if b=a then some v else lk l b
 |[],i,j,u,h=>by cases h
 |x::l,i,j,u,h=>by
  simp[fnd] at h;by_cases hx:a=x.1
  ·rw[if_pos hx] at h;cases h;simp[List.modify_zero_cons,lk,sBo];grind
  rw[if_neg hx] at h;obtain⟨k,hj,hk,⟨y,hy,hg⟩,hb⟩:=qR8 a v l _ j u h;refine⟨k+1,O1,by grind,⟨y,by grind,hg⟩,fun b=>?_⟩;have:=hb b;simp[lk,List.modify_succ_cons,sBo] at this⊢;grind
theorem qYi(a:α)(v:Value)(c:Nat)(l:List (α×Value×Nat))(h:lk l a=none)(b:α):lk (l++[(a,v,c)]) b=if b=a then some v else lk l b:=by
 unfold lk at*
 grind
variable {P:Program}{w0 w:World}{M:List Nat}{L:List Ent}
theorem qCp{t:TypeId}(ht:P.underlying t=some K.kd)(a:α)(l:List (α×Value×Nat)):(Instr.findKey t (K.enc a) (l.map (kQ K))).run P w= .ok (fnd a l 0) w:=by
 simp only[Instr.findKey,bJ,jQ ht,aK,qMr];rfl
theorem jDc{f:α→Option Value}(hm:P.underlying mt=some (.map kt et))(hk:P.underlying kt=some K.kd)(hz:TZero P et z)(hb:w.heap[b]? =some o)(ho:qR2 K f o)(a:α):
  (Instr.lookup mt (.map (some b)) (K.enc a) false).run P w= .ok ((f a).getD z) w:=by
 obtain⟨l,clock,rfl,hl,hn⟩:=ho;have hg:(getObj b).run P w= .ok (.map (l.map (kQ K)).toArray clock) w:=by simp[getObj,Sem.run,hb]
 simp only[Instr.lookup,bJ,jQ hm,aK,hg,K.plain P w _ kt a hk,dV,qCp K hk];rw[←hl,←qEd a l 0];cases hf:fnd a l 0 with
 |none=>simp[hz.run]
 |some y=>simp
theorem qSz{f:α→Option Value}(hm:P.underlying mt=some (.map kt et))(hk:P.underlying kt=some K.kd)(hz:TZero P et z)(hb:w.heap[b]? =some o)(ho:qR2 K f o)(a:α):
  (Instr.lookup mt (.map (some b)) (K.enc a) true).run P w= .ok (.tuple #[(f a).getD z,.bool (f a).isSome]) w:=by
 obtain⟨l,clock,rfl,hl,hn⟩:=ho;have hg:(getObj b).run P w= .ok (.map (l.map (kQ K)).toArray clock) w:=by simp[getObj,Sem.run,hb]
 simp only[Instr.lookup,bJ,jQ hm,aK,hg,K.plain P w _ kt a hk,dV,qCp K hk];rw[←hl,←qEd a l 0];cases hf:fnd a l 0 with
 |none=>simp[hz.run]
 |some y=>simp
theorem jJd{f:α→Option Value}(hm:P.underlying mt=some (.map kt et))(hk:P.underlying kt=some K.kd)(hb:w.heap[b]? =some o)(ho:qR2 K f o)(a:α)(v:Value):
  ∃w' o',(Instr.mapUpdate mt (.map (some b)) (K.enc a) v).run P w= .ok () w'∧Keeps [b] w w'∧w'.heap[b]? =some o'∧qR2 K (fun x=>if x=a then some v else f x) o':=by
 obtain⟨l,clock,rfl,hl,hn⟩:=ho;have hg:(getObj b).run P w= .ok (.map (l.map (kQ K)).toArray clock) w:=by simp[getObj,Sem.run,hb]
 have hh:=(aT.1 hb).1;have hT:∀o',(setObj b o').run P w= .ok () {w with heap:=w.heap.setIfInBounds b o'}:=by
  intro o';simp[setObj,Sem.run,hb]
 have h3:∀o',Keeps [b] w {w with heap:=w.heap.setIfInBounds b o'}:=fun o'=>⟨O,O,O,O4,fun k _ nv=>by
  grind⟩
 have hq:∀o',(w.heap.setIfInBounds b o')[b]? =some o':=fun o'=>by grind
 cases hf:fnd a l 0 with
 |none=>
  refine⟨_,_,?_,h3 _,hq _,l++[(a,v,clock)],_,O,fun x=>?_,hn.push (by rw[←qEd,hf];rfl)⟩
  ·simp only[Instr.mapUpdate,bJ,jQ hm,aK,hg,K.plain P w _ kt a hk,qCp K hk,hf,hT];simp[kQ]
  rw[qYi a v _ l (by rw[←qEd,hf];rfl),hl]
 |some y=>
  obtain⟨j,u⟩:=y;obtain⟨k,hj,nv,⟨x,hx,l1⟩,hy⟩:=qR8 a v l 0 j u hf;have ht:j=k:=O1;subst ht;refine⟨_,_,?_,h3 _,hq _,l.modify j fun x=>(x.1,v,x.2.2),_,O,fun x=>?_,hn.o8 _ _⟩
  ·have hz:(((l.map (kQ K)).toArray[j]?).map (·.key)).getD (K.enc a)=K.enc a:=by
    simp[hx,kQ,l1]
   simp only[Instr.mapUpdate,bJ,jQ hm,aK,hg,K.plain P w _ kt a hk,qCp K hk,hf,hz,Instr.keyThatStays,K.bits,if_true,dV,hT];congr 3;congr 1;apply Array.ext_getElem?;intro i;by_cases nu:j=i
   ·subst nu;simp[hx,kQ,l1]
   grind
  grind
end
section
variable {α:Type}[DecidableEq α]{K:KeyEnc α}{P:Program}{n:FrK}{w0 w:World}{M:List Nat}{L:List Ent}{F:Fr}{d:Option Tmp}{ty:TypeId}{pos:String}{aft:Array Edge}{g:Option (Nat×Bool)}{x y z:Operand}
def yA(K:KeyEnc α)(b:Nat)(f:α→Option Value):Ent:=(some b,qR2 K f)
theorem qAq{f:α→Option Value}{a:α}(hp:Hp w0 M w L)(i:Nat)(hi:L[i]? =some (yA K b f))(hx:ev n F x= .map (some b))(hy:ev n F y=K.enc a)
  (hm:P.underlying mt=some (.map kt et)) (hk:P.underlying kt=some K.kd) (hz:TZero P et zv):PV P n w F ⟨d,.lookup mt x y false,ty,pos,aft,g⟩ ((f a).getD zv):=by
 obtain⟨o,ho,hf⟩:=hp.has i _ hi b O;simp[PV,execOp,hx,hy,jDc K hm hk hz ho hf a]
theorem qHz{f:α→Option Value}{a:α}(hp:Hp w0 M w L)(i:Nat)(hi:L[i]? =some (yA K b f))(hx:ev n F x= .map (some b))(hy:ev n F y=K.enc a)
  (hm:P.underlying mt=some (.map kt et)) (hk:P.underlying kt=some K.kd) (hz:TZero P et zv):PV P n w F ⟨d,.lookup mt x y true,ty,pos,aft,g⟩ (.tuple #[(f a).getD zv,.bool (f a).isSome]):=by
 obtain⟨o,ho,hf⟩:=hp.has i _ hi b O;simp[PV,execOp,hx,hy,qSz K hm hk hz ho hf a]
theorem qIy{f:α→Option Value}{a:α}(hp:Hp w0 M w L)(i:Nat)(hi:L[i]? =some (yA K b f))(hx:ev n F x= .map (some b))(hy:ev n F y=K.enc a)(hv:ev n F z=v)
  (hm:P.underlying mt=some (.map kt et)) (hk:P.underlying kt=some K.kd):
  StepF P n ⟨d,.mapUpdate mt x y z,ty,pos,aft,g⟩ F w (fun u w'=>u=undef∧Hp w0 M w' (L.set i (yA K b (fun x=>if x=a then some v else f x)))):=by
 obtain⟨o,ho,hf⟩:=hp.has i _ hi b O;obtain⟨w',o',hr,nv,jn,hg⟩:=jJd K hm hk ho hf a v;refine wE ?_ ⟨O,hp.o8 hi (by simpa[yA] using nv) ?_⟩
 ·simp[execOp,hx,hy,hv,hr]
 intro b1 jm;have:b1=b:=by simpa[yA,eq_comm] using jm
 subst this;exact⟨.inl O,o',jn,hg⟩
theorem yS(K:KeyEnc α)(hp:Hp w0 M w L):
  StepF P n ⟨d,.makeMap mt none,ty,pos,aft,g⟩ F w (fun u w'=>∃b,u= .map (some b)∧Hp w0 M w' (yA K b (fun _=>none)::L)):=by
 refine xN (w':=w.alloc (.map #[] 0)) ?_ ⟨_,O,hp.alloc _ ?_⟩
 ·simp[execOp,Instr.makeMap,Sem.run]
 exact⟨[],0,O,fun a=>O,O4,O4,O4⟩
def uE(S:α→Bool):α→Option Value:=fun a=>if S a=true then some (.bool true) else none
omit [DecidableEq α] in
theorem qBv(S:α→Bool)(a:α):(uE S a).getD (.bool false)= .bool (S a):=by
 unfold uE;grind
omit [DecidableEq α] in
theorem qBm(S:α→Bool)(h:∀a,S a=false):uE S=fun _=>none:=by
 funext a;simp[uE,h]
theorem jD5(S:α→Bool)(a:α):(fun x=>if x=a then some (.bool true) else uE S x)=uE (fun x=>decide (x=a)||S x):=by
 unfold uE;grind
theorem qAk{S:α→Bool}{a:α}(hp:Hp w0 M w L)(i:Nat)(hi:L[i]? =some (yA K b (uE S)))(hx:ev n F x= .map (some b))(hy:ev n F y=K.enc a)(hv:ev n F z= .bool true)
  (hm:P.underlying mt=some (.map kt et)) (hk:P.underlying kt=some K.kd):
  StepF P n ⟨d,.mapUpdate mt x y z,ty,pos,aft,g⟩ F w (fun u w'=>u=undef∧Hp w0 M w' (L.set i (yA K b (uE (fun x=>decide (x=a)||S x))))):=by
 rw[←jD5];exact qIy hp i hi hx hy hv hm hk
end
section
variable {α:Type}[DecidableEq α]{K:KeyEnc α}{P:Program}{n:FrK}{w0 w:World}{M:List Nat}{L:List Ent}{F:Fr}{d:Option Tmp}{ty:TypeId}{pos:String}{aft:Array Edge}{g:Option (Nat×Bool)}{x y z:Operand}
end
end
section
variable{t:TypeId}{k:Nat}{ps:Array (Nat×Operand)}{e:TypeId}{zs:List Value}{sz:Nat}{z v:Value}{i:Nat}
def qNq(cs:List Value)(o:Nat):List Value→List Value
 |[]=>cs
 |v::vs=>qNq (cs.set o v) (o+1) vs
theorem qJw:∀(vs cs:List Value) (o:Nat),(qNq cs o vs).length=cs.length
 |[],_,_=>rfl
 |v::vs,cs,o=>by simp[qNq,qJw]
theorem qDt:∀(vs cs:List Value) (o k:Nat),(vs.zipIdx k).foldl (fun(a:Array Value) (x:Value×Nat)=>a.setIfInBounds (o+x.2) x.1) cs.toArray=(qNq cs (o+k) vs).toArray
 |[],_,_,_=>rfl
 |v::vs,cs,o,k=>by
  simp only[List.zipIdx_cons,iO,qNq];have h:(cs.toArray).setIfInBounds (o+k) v=(cs.set (o+k) v).toArray:=O4;rw[h,qDt];rfl
def qIk(sz:Nat)(cs:List Value):List (Nat×Value)→List Value
 |[]=>cs
 |(i,v)::ps=>qIk sz (qNq cs (i*sz) v.cells.toList) ps
theorem qKw(place:Nat→Option (Nat×Nat))(sz k:Nat)(xv:∀i,i<k→place i=some (i*sz,sz)):∀(ps:List (Nat×Value)) (cs:List Value),cs.length=k*sz→
  (ps.all fun p=>Nat.blt p.1 k&&Nat.beq p.2.cells.size sz)=true→Instr.fill place cs.toArray ps=some (qIk sz cs ps).toArray
 |[],cs,_,_=>rfl
 |(i,v)::ps,cs,hl,h=>by
  simp only[pB,aF] at h;obtain⟨⟨h1,h2⟩,h3⟩:=h;have hi:=qCd h1;have hs:=bF h2;have yw:i*sz+sz≤k*sz:=by
   rw[←lO];exact aL sz hi
  have hz:v.cells.zipIdx.foldl (fun cs x=>cs.setIfInBounds (i*sz+x.2) x.1) cs.toArray=(qNq cs (i*sz) v.cells.toList).toArray:=by
   rw[←nG,xS];have:=qDt v.cells.toList cs (i*sz) 0;exact mCe
  simp only[Instr.fill,xv i hi];rw[if_neg (by grind)];rw[hz];exact qKw _ sz k xv ps _ (by rw[qJw];exact hl) h3
def jId(P:Program)(t k:Nat):Prop:=∃fs,P.underlying t=some (.struct fs)∧∀w,∃pl:Array (Nat×Nat),(fs.mapM (fun f=>do pure (f.offset,←sizeOf f.type):Field→Sem (Nat×Nat))).run P w= .ok pl w∧∀i,i<k→pl[i]? =some (i*1,1)
section
variable {P:Program}{n:FrK}{w0 w:World}{M:List Nat}{L:List Ent}{F:Fr}{d:Option Tmp}{ty:TypeId}{pos:String}{aft:Array Edge}{g:Option (Nat×Bool)}{x y:Operand}
theorem vH(n:FrK)(F:Fr)(ps:Array (Nat×Operand)):(ps.map fun(i,x)=>(i,ev n F x)).toList=ps.toList.map fun p=>(p.1,ev n F p.2):=by
 simp
theorem qVl(hf:jId P t k)(hz:TZero P t (.agg zs.toArray))(hl:zs.length=k)
  (hg:((ps.toList.map fun p=>(p.1,ev n F p.2)).all fun p=>Nat.blt p.1 k&&Nat.beq p.2.cells.size 1)=true):
  PV P n w F ⟨d,.build t ps,ty,pos,aft,g⟩ (.agg (qIk 1 zs (ps.toList.map fun p=>(p.1,ev n F p.2))).toArray):=by
 obtain⟨fs,ht,hw⟩:=hf;obtain⟨pl,xv,hp⟩:=hw w;have hh:=qKw (pl[·]?) 1 k hp _ zs O1 hg;simp only[PV,execOp,Instr.build,bJ,hz.run,aK,jQ ht,xv,Value.cells,vH,hh];rfl
theorem qVn(ht:P.underlying t=some (.array k e))(hs:TSize P e sz)(hz:TZero P t (.agg zs.toArray))(hl:zs.length=k*sz)
  (fs:((ps.toList.map fun p=>(p.1,ev n F p.2)).all fun p=>Nat.blt p.1 k&&Nat.beq p.2.cells.size sz)=true):
  PV P n w F ⟨d,.build t ps,ty,pos,aft,g⟩ (.agg (qIk sz zs (ps.toList.map fun p=>(p.1,ev n F p.2))).toArray):=by
 have hh:=qKw _ sz k (fun _ _=>O) _ zs hl fs;simp only[PV,execOp,Instr.build,bJ,hz.run,aK,jQ ht,hs.run,Value.cells,vH,hh];rfl
theorem qHw:∀(vs pre rest:List Value),vs.length≤rest.length→qNq (pre++rest) pre.length vs=pre++vs++rest.drop vs.length
 |[],pre,rest,_=>by simp[qNq]
 |v::vs,pre,[],h=>by grind
 |v::vs,pre,r::rest,h=>by
  simp only[qNq];have:=qHw vs (pre++[v]) _ (by simpa using h);grind
def qCr(sz:Nat):Nat→List (Nat×Value)→Bool
 |_,[]=>true
 |i,(j,v)::ps=>Nat.beq j i&&Nat.beq v.cells.size sz&&qCr sz (i+1) ps
theorem qJb(sz:Nat):∀(ps:List (Nat×Value)) (i:Nat) (pre rest:List Value),qCr sz i ps=true→pre.length=i*sz→rest.length=ps.length*sz→
  qIk sz (pre++rest) ps=pre++ps.flatMap (fun p=>p.2.cells.toList)
 |[],i,pre,rest,_,_,h=>by
  have:=aZ (by simpa using h);simp[qIk,this]
 |(j,v)::ps,i,pre,rest,ho,hp,hr=>by
  simp only[qCr,aF] at ho;obtain⟨⟨h1,h2⟩,h3⟩:=ho;have hj:=bF h1;have hs:=bF h2;subst hj;have hQ:v.cells.toList.length=sz:=by simpa using hs
  have hz:rest.length=ps.length*sz+sz:=by rw[hr,bT,lO]
  simp only[qIk];rw[←hp,qHw _ _ _ O1];rw[qJb sz ps _ _ _ h3 (by grind) (by grind)];simp
theorem qFc(sz k:Nat):∀(ps:List (Nat×Value)) (i:Nat),qCr sz i ps=true→i+ps.length≤k→(ps.all fun p=>Nat.blt p.1 k&&Nat.beq p.2.cells.size sz)=true
 |[],_,_,_=>rfl
 |(j,v)::ps,i,ho,hl=>by
  simp only[qCr,aF] at ho;obtain⟨⟨h1,h2⟩,h3⟩:=ho;have hj:=bF h1;simp[bT] at hl;simp only[pB,aF];exact⟨⟨yQ O1,h2⟩,qFc sz k ps _ h3 O1⟩
theorem qNp{vs:List (Nat×Value)}{cs:List Value}(hp:Hp w0 M w L)(ht:P.underlying t=some (.slice e))(hs:TSize P e sz)(hz:TZero P e z)
  (hg:(ps.toList.map fun p=>(p.1,ev n F p.2))=vs) (ho:qCr sz 0 vs=true) (hk:vs.length=k) (nz:vs.flatMap (fun p=>p.2.cells.toList)=cs) (nk:k*sz≤16777216):
  StepF P n ⟨d,.buildSlice t k ps,ty,pos,aft,g⟩ F w (fun u w'=>∃b,u= .slice (Ad b) k k∧Hp w0 M w' (blk b cs.length (qE cs) e::L)):=by
 subst hg;obtain⟨zs,xw⟩:∃zs:List _,zs=(Array.range (k*sz)).toList.map (z.cells[·%z.cells.size]!):=⟨_,O⟩;have x2:zs.length=k*sz:=by rw[xw];simp
 have hh:=qKw _ sz k (fun _ _=>O) _ zs x2 (qFc sz k _ 0 ho O1);have hm:=qJb sz _ 0 [] zs ho O4 (by grind);simp[lT] at hm;rw[hm,nz] at hh;refine xN (w':=w.alloc (.cells cs.toArray e)) ?_ ⟨_,O,hp.alloc _ ?_⟩
 ·have hl:¬k*sz>2^24:=by
   have:(2:Nat)^24=16777216:=O;omega
  by_cases h0:k*sz=0
  ·have hq:zs=[]:=aZ O1;rw[hq] at hh;have hn:Array.map (fun x=>(#[]:Array Value)[x%(#[]:Array Value).size]!) (Array.range (k*sz))=(#[]):=by rw[h0];simp
   simp only[execOp,Instr.buildSlice,bJ,jQ ht,aK,hs.run,if_neg hl,if_pos h0,dV,vH];rw[hn];simp[newRow,Sem.run,hh]
  have hj:Array.map (fun x=>z.cells[x%z.cells.size]!) (Array.range (k*sz))=zs.toArray:=by
   rw[xw];apply sBw;simp
  simp only[execOp,Instr.buildSlice,bJ,jQ ht,aK,hs.run,if_neg hl,if_neg h0,hz.run,dV,vH];rw[hj];simp[newRow,Sem.run,hh]
 show _=_
 rw[qMq]
end
def qLm(e size cap n:Nat)(xs:List Value):Obj→Prop:=fun o=>∃ca,o= .cells ca e (0,0)∧ca.size=cap*size∧ca.toList.take (n*size)=xs
def jAm:Value→Nat
 | .slice _ _ c=>c
 |_=>0
def qKb(v:Value)(e size n:Nat)(xs:List Value):Ent:=(v.ownBlock,qLm e size (jAm v) n xs)
def SV(v:Value)(n:Nat):Prop:=(v=Zs∧n=0)∨∃g cap,v= .slice (Ad g) n cap∧n≤cap∧cap≤maxLen
theorem SV.nil:SV (Zs) 0:=.inl ⟨O,O⟩
theorem SV.ex{n:Nat}(h:SV v n):∃s c,v= .slice s n c:=by
 rcases h with⟨rfl,rfl⟩|⟨g,cap,rfl,_⟩
 ·simp
 simp
section
variable {w0 w w':World}{M:List Nat}{L:List Ent}{v:Value}{e size n:Nat}{xs:List Value}
theorem Hp.aD0(h:Hp w0 M w L)(φ:Obj→Prop):Hp w0 M w ((none,φ)::L):=h.add .refl O4
theorem Hp.owns(h:Hp w0 M w L)(hi:L[i]? =some (qKb v e size n xs))(hv:SV v n)(hl:xs.length=n*size):w.ownsRow 0 e size v n xs:=by
 refine⟨hl,?_⟩;rcases hv with⟨rfl,rfl⟩|⟨g,cap,rfl,h1,h2⟩
 ·simp
 obtain⟨o,ho,ca,rfl,hg,eV⟩:=h.has i _ hi g O;exact .inr ⟨g,_,_,O,O1,ho,h1,h2,hg,eV⟩
theorem Hp.aB1(h:Hp w0 M w L){g cap j:Nat}{u:Value}(hi:L[i]? =some (qKb (.slice (Ad g) n cap) e size n xs))(hj:xs[j]? =some u):w.cell? ⟨g,0+j,none⟩=some u:=by
 obtain⟨o,ho,ca,rfl,_,eV⟩:=h.has i _ hi g O;rw[←eV,nL] at hj;split at hj
 ·simpa[World.cell?,ho] using hj
 cases hj
end
section
variable {P:Program}{n:FrK}{w0 w:World}{M:List Nat}{L:List Ent}{F:Fr}{d:Option Tmp}{ty:TypeId}{pos:String}{aft:Array Edge}{g:Option (Nat×Bool)}{x y:Operand}
theorem jAf{size ba:Nat}{m c:Nat}{xs news:List Value}{s:Option Addr}(hp:Hp w0 M w L)(i:Nat)(ht:P.underlying t=some (.slice e))(hs:TSize P e size)(x3:TBytes P e ba)(hz:TZero P e z)
  (xw:z.cells.size=size) (xx:0<size) (hx:ev n F x=v) (hy:ev n F y= .slice s k c) (hi:L[i]? =some (qKb v e size m xs)) (hv:SV v m) (hl:xs.length=m*size) (hn:news.length=k*size)
  (hg:∀(j:Nat) (u:Value),news[j]? =some u→∃b o,s=some ⟨b,o,none⟩∧w.cell? ⟨b,o+j,none⟩=some u) (h1:∀u∈news,kM u=true)
  (jm:m+k≤maxLen) (sd:(m+k)*ba≤140737488355328):
  StepF P n ⟨d,.call ⟨.builtin .append,#[x,y],#[t,t]⟩,ty,pos,aft,g⟩ F w (fun u w'=>SV u (m+k)∧Hp w0 M w' (L.set i (qKb u e size (m+k) (xs++news)))):=by
 obtain⟨inf,hh,hD⟩:=x3.ex;have p2:=by
  exact mBx
 have xz:=by
  exact mCu
 have ma:∀u∈news,u.oneCell'=true:=by
  exact mEl
 have hQ:=hp.owns hi hv hl;by_cases hk:k=0
 ·subst hk;have q2:=aZ (by simpa using hn);subst q2;have pu:(Builtin.append_ #[t,t] ty #[v,.slice s 0 c]).run P w= .ok v w:=by
   rcases hv with⟨rfl,rfl⟩|⟨gb,cap,rfl,h2,h3⟩
   ·cases s<;>simp[Builtin.append_,jQ ht,hs.run,Builtin.lenOf,Builtin.firstCells,loadCells,loadCellsFrom]
   exact mC9
  refine xN (w':=w) ?_ ⟨O1,?_⟩
  ·exact mBz
  have:L.set i (qKb v e size (m+0) (xs++[]))=L:=by
   simp only[iF,bH];apply eF;intro j;rw[iB];by_cases nu:i=j
   ·grind
   rw[if_neg nu]
  grind
 have hM:0<news.length:=by rw[hn];exact iU O1 xx
 obtain⟨b,o,hH,_⟩:=hg 0 news[0] (aA hM);subst hH;have hE:∀(j:Nat) (u:Value),news[j]? =some u→w.cell? ((⟨b,o,none⟩:Addr).add j)=some u:=by
  intro j u hu;obtain⟨b',o',e1,e2⟩:=hg j u hu;cases e1;rw[yC];exact e2
 obtain⟨v',w',pu,hP,hJ,_⟩:=run_append_own w 0 t ty e inf z size ba ht hh xz p2 hD xw xx v m xs hQ _ k c _ hn hE ma jm sd (bN _);refine xN (v:=v') (w':=w') ?_ ⟨?_,hp.o8 hi ?_ ?_⟩
 ·exact mBz
 ·rcases hP.2 with⟨h2,h3⟩|⟨g2,cap,cur,h2,_,_,h4,h5,_⟩
  ·omega
  exact .inr ⟨g2,_,h2,h4,h5⟩
 ·refine⟨hJ.os,hJ.tape,hJ.output,hJ.size,fun q hq hm=>hJ.block q hq ?_⟩;intro e1;apply hm;simp only[qKb];grind
 intro q hq;rcases hP.2 with⟨h2,h3⟩|⟨g2,cap,cur,h2,_,h6,h4,h5,h7,h8⟩
 ·omega
 subst h2;have hj:=by simpa[qKb,Value.ownBlock,eq_comm] using hq
 subst hj;refine⟨?_,_,h6,_,O,h7,h8⟩;rcases hv with⟨rfl,rfl⟩|⟨gb,cap0,rfl,hc1,hc2⟩
 ·obtain⟨v2,w2,hS,hU,_,_⟩:=run_append_own w w.heap.size t ty e inf z size ba ht hh xz p2 hD xw xx (Zs) 0 [] (World.ownsRow_nil _ _ _ _) _ k c _ hn hE ma jm sd (bM _);rw[pu] at hS;cases hS;rcases hU.2 with⟨h9,_⟩|⟨g3,_,_,h9,h10,_⟩
  ·cases h9
  grind
 obtain⟨o9,hF,ca,rfl,hL,hT⟩:=hp.has i _ hi gb O;have hV:_=cap0*_:=hL;by_cases hK:m+k≤cap0
 ·have yi:m*inf.size+news.length≤ca.size:=by
   rw[hn,p2,hV,←fE];exact aL _ hK
  have hr:=run_append_room w t ty e _ ht hh gb m _ _ hF _ k c _ (by grind) hE ma hK yi;rw[pu] at hr;cases hr;exact .inl O
 have holds:=hQ.cells (g:=gb) O;have hr:=run_append_grow w t ty e _ z ht hh xz _ m cap0 xs (by grind) holds _ k c _ (by grind) hE O1 (by unfold maxLen at jm;omega) (growslice_fits O1 (by grind));grind
end
end
section
variable{α:Type}{w:World}{k:Nat}{enc:α→List Value}{s:Option Addr}{l:List α}{M:List Nat}{w' w0:World}{L:List Ent}
section
variable {P:Program}{n:FrK}{w0 w:World}{M:List Nat}{L:List Ent}{F:Fr}{d:Option Tmp}{ty:TypeId}{pos:String}{aft:Array Edge}{g:Option (Nat×Bool)}{x y:Operand}{ts:Array TypeId}{f:FuncId}
theorem StepF.mono{o:Oper}{R R':Value→World→Prop}(h:StepF P n o F w R)(hr:∀v w',R v w'→R' v w'):StepF P n o F w R':=Step.mono h hr
end
def SlAt(w:World)(k:Nat)(enc:α→List Value)(s:Option Addr)(l:List α):Prop:=
 ∀(i:Nat) (x:α),l[i]? =some x→∃b o,s=some ⟨b,o,none⟩∧∀(j:Nat) (v:Value),(enc x)[j]? =some v→w.cell? ⟨b,o+i*k+j,none⟩=some v
theorem SlAt.j5(h:SlAt w k enc s l)(hk:Keeps M w w')(hM:l≠[]→∀b o,s=some ⟨b,o,none⟩→b∉M):SlAt w' k enc s l:=by
 intro i x hx;obtain⟨b,o,hs,hc⟩:=h i x hx;exact⟨b,o,hs,fun j v hv=>hk.cell (hc j v hv) (hM (by grind) b o hs)⟩
theorem SlAt.j6(h:SlAt w k enc s l)(hk:Keeps [] w w'):SlAt w' k enc s l:=h.j5 hk O4
theorem SlAt.base(h:SlAt w k enc s l)(hl:0<l.length):
  ∃b o,s=some ⟨b,o,none⟩∧∀(i:Nat) (x:α),l[i]? =some x→∀(j:Nat) (v:Value),(enc x)[j]? =some v→w.cell? ⟨b,o+i*k+j,none⟩=some v:=by
 obtain⟨b,o,hs,_⟩:=h 0 _ (aA hl);refine⟨b,o,hs,fun i x hx=>?_⟩;obtain⟨b',o',hj,hc⟩:=h i x hx;grind
def eI(x:Int):List Value:=[Iv x]
def eS(x:ByteArray):List Value:=[.string x]
theorem qCu{α β:Type}(enc:α→List β)(k:Nat)(hk:∀x,(enc x).length=k):∀(l:List α) (j q:Nat) (x:α) (v:β),l[j]? =some x→(enc x)[q]? =some v→(l.flatMap enc)[j*k+q]? =some v
 |[],j,q,x,v,h,_=>by grind
 |y::l,0,q,x,v,h,hv=>by
  grind
 |y::l,j+1,q,x,v,h,hv=>by
  simp[mV];rw[gZ (by grind),hk];rw[show(j+1)*k+q-k=j*k+q from by grind];exact qCu _ k hk l j q x v (by grind) hv
theorem zR{α β:Type}(enc:α→List β)(k:Nat)(hk:∀x,(enc x).length=k):∀(l:List α),(l.flatMap enc).length=l.length*k
 |[]=>O4
 |y::l=>by simp[hk,zR,lO];omega
theorem jE2{i e:Nat}{c:Nat}(hp:Hp w0 M w L)(hi:L[i]? =some (qKb (.slice s l.length c) e k l.length (l.flatMap enc)))(hv:SV (.slice s l.length c) l.length)
  (hk:∀x,(enc x).length=k):SlAt w k enc s l:=by
 intro j x hx;rcases hv with⟨h1,h2⟩|⟨g,cap,h1,_⟩
 ·grind
 cases h1;refine⟨g,0,O,fun q v hv=>?_⟩;have hg:=qCu _ k hk l j q x v hx hv;have:=hp.aB1 hi hg;grind
theorem SlAt.src(h:SlAt w k enc s l)(hk:∀x,(enc x).length=k):
  ∀(j:Nat) (u:Value),(l.flatMap enc)[j]? =some u→∃b o,s=some ⟨b,o,none⟩∧w.cell? ⟨b,o+j,none⟩=some u:=by
 intro j u hu;have hQ:=(aH.1 hu).1;rw[zR _ k hk] at hQ;have my:0<k:=by
  rcases dH k with h0|h0
  ·subst h0;simp at hQ
  exact h0
 have dr:0<l.length:=by
  rcases dH l.length with h0|h0
  ·grind
  exact h0
 obtain⟨b,o,hs,hc⟩:=h.base dr;have hq:=(dU my).2 hQ;have hx:=aA hq;have hm:j%k<(enc l[j/k]).length:=by rw[hk];exact dG _ my
 have hv:=aA hm;have h1:=qCu _ k hk l _ _ _ _ hx hv;have ht:j/k*k+j%k=j:=by rw[bW];exact fV j k
 grind
theorem qZs{b t:Nat}{cs:List Value}(hp:Hp w0 M w L)(i:Nat)(hi:L[i]? =some (blk b cs.length (qE cs) t)):
  ∀(j:Nat) (u:Value),cs[j]? =some u→∃b' o,(Ad b:Option Addr)=some ⟨b',o,none⟩∧w.cell? ⟨b',o+j,none⟩=some u:=by
 intro j u hu;have hl:=(aH.1 hu).1;refine⟨b,0,O,?_⟩;rw[fH,hp.cell i hi (yQ hl),uA];grind
end
section
variable{α:Type}{w:World}{e:Nat}{w0:World}{M:List Nat}{L:List Ent}{b k t:Nat}{enc:α→List Value}{a:Bool}{s:Option Addr}{l:List α}{i j:Nat}{want:Bool}{cs:List Value}
section
variable {P:Program}{n:FrK}{Q:Exit→Fr→World→Prop}{F:Fr}{w:World}{ops:Array Oper}{rest:List Oper}{G:World→Prop}
variable {d:Nat}{op:Op}{ty:TypeId}{pos:String}{aft:Array Edge}
theorem uR{R:Value→World→Prop}(hj:yW ops j=some e)(hc:ev n F (.tmp e)= .bool want)
  (hs:StepF P n ⟨some d,op,ty,pos,aft,some (j,want)⟩ F w R) (h:∀v w',R v w'→wpl P n ops rest Q (F.put d v) w'):
  wpl P n ops (⟨some d,op,ty,pos,aft,some (j,want)⟩::rest) Q F w:=by
 unfold wpl wpListIn;rw[vS O hj hc];simp[rP,if_true];refine Step.wpIn hs ?_;intro u w' hr;rw[zN];exact h u w' hr
theorem vX{r v:Value}(hj:yW ops j=some e)(hc:ev n F (.tmp e)= .bool want)
  (hp:PV P n w F ⟨some d,op,ty,pos,aft,some (j,want)⟩ r) (hv:r=v) (h:wpl P n ops rest Q (F.put d v) w):wpl P n ops (⟨some d,op,ty,pos,aft,some (j,want)⟩::rest) Q F w:=by
 subst hv;refine uR (R:=fun u w'=>u=r∧w'=w) hj hc (.inl ⟨r,w,?_,O,O⟩) ?_
 ·rw[zF];exact hp
 rintro u w' ⟨rfl,rfl⟩;exact h
end
theorem qAa(l:List α)(hp:Hp w0 M w L)(i:Nat)(hi:L[i]? =some (blk b (l.flatMap enc).length (qE (l.flatMap enc)) t))
  (hk:∀x,(enc x).length=k):SlAt w k enc (Ad b) l:=by
 intro j x hx;refine⟨b,0,O,fun q v hv=>?_⟩;have hg:=qCu _ k hk l j q x v hx hv;obtain⟨b',o',e1,e2⟩:=qZs hp i hi _ _ hg;grind
theorem jBo{size n:Nat}{o:Obj}(hl:cs.length=n*size)(h:qN7 cs.length (qE cs) e o):qLm e size n n cs o:=by
 refine⟨_,h,by simp[hl],?_⟩;rw[bR (by simp[hl])];apply sBc
 ·simp
 simp[uA]
theorem Hp.rowOf(hp:Hp w0 M w L)(i size n:Nat)(hi:L[i]? =some (blk b cs.length (qE cs) e))(hl:cs.length=n*size):
  Hp w0 M w (L.set i (qKb (.slice (Ad b) n n) e size n cs)):=hp.y5 hi fun _ h=>jBo hl h
section
variable {P:Program}{n:FrK}{F:Fr}{w:World}{d:Option Tmp}{ty:TypeId}{pos:String}{aft:Array Edge}{g:Option (Nat×Bool)}{x y:Operand}
theorem qPh(a:Addr):a.add 0=a:=O
theorem qP5{b:Bool}(ht:P.underlying t=some .bool)(k:Nat):(Op.equalIn (k+1) t (.bool a) (.bool b)).run P w= .ok (a==b) w:=by
 unfold Op.equalIn;simp[jQ ht]
theorem qRe{b:Bool}(ht:P.underlying t=some .bool):(Op.equal t (.bool a) (.bool b)).run P w= .ok (a==b) w:=qP5 ht 9999
theorem qQj{t':Nat}{b:Bool}(ht:P.underlying t=some .bool)(hx:ev n F x= .bool a)(hy:ev n F y= .bool b):PV P n w F ⟨d,.binOp .neq t x y t',ty,pos,aft,g⟩ (.bool (a !=b)):=by
 have h:=qRe (w:=w) (a:=a) (b:=b) ht;simp[PV,execOp,hx,hy,eqGuard,binOp,h];grind
end
theorem qJp(h:SlAt w k enc s l)(n:Nat):SlAt w k enc s (l.take n):=by
 intro i x hx;rw[nL] at hx;split at hx
 ·exact h i x hx
 cases hx
section
variable {w0 w w':World}{M:List Nat}{L:List Ent}
theorem Hp.norm(hp:Hp w0 M w L)(i:Nat){m:Nat}{f:Fr}{t:TypeId}(cs:List Value)(hi:L[i]? =some (blk b m f t))(h:(range m).map f=cs):Hp w0 M w (L.set i (blk b m (qE cs) t)):=by
 refine hp.y5 hi fun o ho=>?_
 subst ho;subst h;congr 1;apply rJ
 ·simp
 simp[uA]
end
section
variable {w0 w w':World}{M:List Nat}{L:List Ent}
theorem Hp.pick(h:Hp w0 M w L)(i:Nat){p:Ent}(hi:L[i]? =some p):Hp w0 M w [p]:=by
 refine⟨h.keeps,fun k q hk b hb=>?_,fun k q hk b hb=>?_,fun k j q r hk hj xr=>?_⟩
 ·cases k with
  |zero=>simp at hk;subst hk;exact h.own i p hi b hb
  |succ k=>grind
 ·cases k with
  |zero=>simp at hk;subst hk;exact h.has i p hi b hb
  |succ k=>grind
 grind
theorem qSx{L:List α}{p:α}(hi:L[i]? =some p):L.set i p=L:=by
 apply eF;grind
theorem Hp.callE(h:Hp w0 M w L)(i:Nat){φ:Obj→Prop}(hi:L[i]? =some (some b,φ))(hk:Keeps [b] w w')(ho:∃o,w'.heap[b]? =some o∧φ o):Hp w0 M w' L:=by
 have:=h.o8 (q:=(some b,φ)) hi hk (by
  grind)
 rwa[qSx hi] at this
end
theorem Hp.join{w':World}{L':List Ent}(h:Hp w0 M w L)(h':Hp w [] w' L'):Hp w0 M w' (L'++L):=by
 have hc:=h.call h'.keeps;have key:∀(i:Nat) (p:Ent),(L'++L)[i]? =some p→(i<L'.length∧L'[i]? =some p)∨(L'.length≤i∧L[i-L'.length]? =some p):=by
  intro i p hi;rw[List.getElem?_append] at hi;split at hi
  ·grind
  rename_i hlt
  exact .inr ⟨O1,hi⟩
 have ya:∀(i:Nat) (p:Ent),L'[i]? =some p→∀b,p.1=some b→w.heap.size≤b:=by
  intro i p hi b hb;rcases h'.own i p hi b hb with h1|h1
  ·exact h1
  cases h1
 refine⟨hc.keeps,fun i p hi b hb=>?_,fun i p hi b hb=>?_,fun i j p q hi hj xr b hb=>?_⟩
 ·rcases key i p hi with⟨_,h1⟩|⟨_,h1⟩
  ·exact .inl (bL h.keeps.size (ya i p h1 b hb))
  exact h.own _ p h1 b hb
 ·rcases key i p hi with⟨_,h1⟩|⟨_,h1⟩
  ·exact h'.has _ p h1 b hb
  exact hc.has _ p h1 b hb
 rcases key i p hi with⟨_,h1⟩|⟨h0,h1⟩<;>rcases key j q hj with⟨_,h2⟩|⟨h3,h2⟩
 ·exact h'.dis i j p q h1 h2 xr b hb
 ·intro e;have:=ya i p h1 b hb;have:=h.lt h2 e;omega
 ·intro e;have:=ya j q h2 b e;have:=h.lt h1 hb;omega
 exact h.dis _ _ p q h1 h2 O1 b hb
theorem qAy{P:Program}{n:FrK}{x:Code}{K:Fr→World→Prop}{Q:Exit→Fr→World→Prop}{F:Fr}(R:Fr→World→Prop)(h:WP P n x (qB5 R Q) F w)(h2:∀F w,R F w→K F w):WP P n x (qB5 K Q) F w:=by
 refine qEk h ?_;intro e F w h;cases e<;>first|exact h2 _ _ h|exact h
def qG(enc:α→List Value)(e k:Nat)(s:Option Addr)(c:Nat)(l:List α):Ent:=qKb (.slice s l.length c) e k l.length (l.flatMap enc)
def SVL(s:Option Addr)(c:Nat)(l:List α):Prop:=SV (.slice s l.length c) l.length
theorem SVL.nil:SVL (α:=α) none 0 []:=.inl ⟨O,O⟩
theorem SVL.cap{α:Type}{s:Option Addr}{c:Nat}{l:List α}(h:SVL s c l):l.length≤c:=by
 rcases h with⟨h,_⟩|⟨g,cap,h,h2,_⟩
 ·omega
 grind
theorem Hp.k4(h:Hp w0 M w L)(enc:α→List Value)(e k:Nat):Hp w0 M w (qG enc e k none 0 []::L):=h.aD0 _
theorem qZ{c:Nat}(hp:Hp w0 M w L)(i:Nat)(hi:L[i]? =some (qG enc e k s c l))(hv:SVL s c l)
  (hk:∀x,(enc x).length=k):SlAt w k enc s l:=jE2 hp hi hv hk
theorem SlAt.lt(h:SlAt w k enc s l)(hk:∀x,(enc x).length=k)(my:0<k)(hl:l≠[]){o:Nat}(hs:s=some ⟨b,o,none⟩):b<w.heap.size:=by
 obtain⟨x,l',rfl⟩:∃x l',l=x::l':=by cases l with|nil=>grind|cons x l'=>simp
 obtain⟨b',o',hj,hc⟩:=h 0 x O;rw[hs] at hj;cases hj;have:=hc 0 _ (aA (by grind));exact iZ w _ this
theorem qJa{l:List Nat}(h:i∉l):l.filter (· !=i)=l:=by
 rw[lU];grind
theorem qCg{l:List Nat}(hs:l.Nodup)(h:i∈l):(l.filter (· !=i)).length+1=l.length:=by
 induction l with
 |nil=>cases h
 |cons p rest ih=>
  obtain⟨h1,h2⟩:=lS.1 hs;by_cases hp:p=i
  ·subst hp;rw[mD];simp only[pR,eE,iW];rw[qJa h1];rfl
  grind
theorem qDz{l:List Nat}(h:l.Pairwise (·<·)):l.Nodup:=h.imp Nat.ne_of_lt
end
section
def kN(ns:List Int):ByteArray:=ns.foldl (fun r n=>r.push (UInt8.ofNat n.toNat)) ByteArray.empty
section
variable {P:Program}{n:FrK}{w:World}{F:Fr}{d:Option Tmp}{ty:TypeId}{pos:String}{aft:Array Edge}{g:Option (Nat×Bool)}{x y:Operand}
theorem jAo{b o len:Nat}{vs:List Value}(hl:vs.length=len)(hc:∀(j:Nat) (v:Value),vs[j]? =some v→w.cell? ⟨b,o+j,none⟩=some v):(loadCells ⟨b,o,none⟩ len).run P w= .ok vs.toArray w:=by
 subst hl;have:=vN (P:=P) b o vs 0 #[] (fun j v hv=>by simpa using hc j v hv);simp[loadCells,this]
theorem qVo{t t' e b o len cap:Nat}{ns:List Int}(ht:P.underlying t=some (.slice e))(he:P.underlying e=some (.int .u8))(yo:P.underlying t'=some .string)(hx:ev n F x= .slice (some ⟨b,o,none⟩) len cap)(hl:ns.length=len)
  (hc:∀(j:Nat) (v:Value),(ns.map (Value.int .u8))[j]? =some v→w.cell? ⟨b,o+j,none⟩=some v):PV P n w F ⟨d,.convert t t' x,ty,pos,aft,g⟩ (.string (kN ns)):=by
 have h1:=jAo (P:=P) (by simpa using hl) hc;have h2:=run_bytesToString w _ _ cap ns h1;simp only[PV,execOp,convert,hx,bJ,jQ ht,jQ yo,aK,jQ he,h2];rfl
end
end
section
variable{e:Nat}{α:Type}{c:Nat}{l:List α}{w:World}{v:Value}{p:Ent}{k:Nat}{enc:α→List Value}{s:Option Addr}{P:Program}{j:Nat}{want:Bool}
section
variable {w0 w w':World}{M:List Nat}{L L':List Ent}
def jNe(p q:Ent):Prop:=∀b,p.1=some b→q.1≠some b
theorem Hp.x8(h:Hp w0 M w L):L.Pairwise jNe:=by
 rw[dP];intro i j hi hj nu;exact h.dis i j _ _ (aA hi) (aA hj) O1
theorem Hp.q6(h:Hp w0 M w L)(hp:p∈L):∀b,p.1=some b→w0.heap.size≤b∨b∈M:=by
 obtain⟨i,hi⟩:=fG hp;exact h.own i p hi
theorem Hp.v7(h:Hp w0 M w L)(hp:p∈L):∀b,p.1=some b→∃o,w.heap[b]? =some o∧p.2 o:=by
 obtain⟨i,hi⟩:=fG hp;exact h.has i p hi
theorem Hp.aB2(hk:Keeps M w0 w)(ho:∀p∈L,∀b,p.1=some b→w0.heap.size≤b∨b∈M)(hh:∀p∈L,∀b,p.1=some b→∃o,w.heap[b]? =some o∧p.2 o)(hd:L.Pairwise jNe):Hp w0 M w L:=by
 rw[dP] at hd;refine⟨hk,fun i p hi=>ho p (aI hi),fun i p hi=>hh p (aI hi),fun i j p q hi hj xr b hb hq=>?_⟩;obtain⟨xt,rfl⟩:=aH.1 hi;obtain⟨hP,rfl⟩:=aH.1 hj;rcases sAu xr with h|h
 ·exact hd i j _ _ h b hb hq
 exact hd j i _ _ h b hq hb
theorem Hp.perm(h:Hp w0 M w L)(hp:L.Perm L'):Hp w0 M w L':=
 .aB2 h.keeps (fun _ hm=>h.q6 (hp.mem_iff.2 hm)) (fun _ hm=>h.v7 (hp.mem_iff.2 hm)) ((hp.pairwise_iff (fun ft b hb hq=>ft b hq hb)).1 h.x8)
theorem Hp.sub(h:Hp w0 M w L)(hs:L'.Sublist L):Hp w0 M w L':=
 .aB2 h.keeps (fun _ hm=>h.q6 (hs.subset hm)) (fun _ hm=>h.v7 (hs.subset hm)) (h.x8.sublist hs)
theorem Hp.x7(h:Hp w0 M w L)(i:Nat):Hp w0 M w (L.eraseIdx i):=h.sub (List.eraseIdx_sublist L i)
theorem Hp.k5(h:Hp w0 M w L)(is:List Nat)(ps:List Ent)(hn:decide is.Nodup=true)(he:is.map (fun i=>L[i]?)=ps.map some):Hp w0 M w ps:=by
 have ln:=iT hn;have key:∀(k:Nat) (p:Ent),ps[k]? =some p→∃i,is[k]? =some i∧L[i]? =some p:=by
  intro k p hk;have h1:=aQ (fun l=>l[k]?) he;simp only[dF,hk,eC] at h1;cases h2:is[k]? with
  |none=>grind
  |some i=>grind
 refine⟨h.keeps,fun k p hk=>?_,fun k p hk=>?_,fun k m p q hk hm xb=>?_⟩
 ·obtain⟨i,_,hi⟩:=key k p hk;exact h.own i p hi
 ·obtain⟨i,_,hi⟩:=key k p hk;exact h.has i p hi
 obtain⟨i,hg,hi⟩:=key k p hk;obtain⟨j,xa,hj⟩:=key m q hm;refine h.dis i j p q hi hj ?_;rintro rfl;apply xb;obtain⟨e7,e1⟩:=aH.1 hg;obtain⟨hh,e2⟩:=aH.1 xa;exact(oU ln).1 O1
theorem qB8(hp:Hp w0 M w L)(hm:qG enc e k s c l∈L)(hv:SVL s c l)(hk:∀x,(enc x).length=k):SlAt w k enc s l:=by
 obtain⟨i,hi⟩:=fG hm;exact qZ hp i hi hv hk
theorem SVL.addr(h:SVL s c l)(hl:l≠[]):∃g,s=Ad g:=by
 rcases h with⟨h,h2⟩|⟨g,cap,h,_⟩
 ·grind
 grind
theorem SVL.set{α:Type}{s:Option Addr}{c:Nat}{l:List α}(h:SVL s c l)(i:Nat)(x:α):SVL s c (l.set i x):=by
 unfold SVL at*
 grind
end
theorem qE2{b o:Nat}{ca:Array Value}{t:TypeId}(hb:w.heap[b]? =some (.cells ca t (0,0)))(ho:o<ca.size)(h1:kM v=true):
  ∃w',(store ⟨b,o,none⟩ v).run P w= .ok () w'∧Keeps [b] w w'∧w'.heap[b]? =some (.cells (ca.setIfInBounds o v) t (0,0)):=by
 have hc:w.cell? ⟨b,o,none⟩=some ca[o]:=by simp[World.cell?,hb,ho]
 have hf:w.frozen? ⟨b,o,none⟩=false:=by simp[World.frozen?,hb]
 refine⟨w.setCell ⟨b,o,none⟩ v,?_,⟨O,O,O,O4,fun k _ hm=>?_⟩,?_⟩
 ·exact mEk
 ·simp only[World.setCell,lI];grind
 simp only[World.setCell,lI,if_true,hb,eC];simp
theorem qK1{α:Type}(enc:α→List Value)(v:Value)(xv:α)(hk:∀x,(enc x).length=1)(hv:enc xv=[v]):∀(l:List α) (i:Nat),(l.set i xv).flatMap enc=(l.flatMap enc).set i v
 |[],i=>O4
 |y::l,0=>by
  obtain⟨u,hu⟩:∃u,enc y=[u]:=pV.1 (hk y);grind
 |y::l,i+1=>by
  obtain⟨u,hu⟩:∃u,enc y=[u]:=pV.1 (hk y);simp only[List.set_cons_succ,mV,hu,mG,lT];rw[qK1 _ v xv hk hv l i]
section
variable {P:Program}{n:FrK}{w0 w:World}{M:List Nat}{L:List Ent}{F:Fr}{d:Option Tmp}{ty:TypeId}{pos:String}{aft:Array Edge}{g:Option (Nat×Bool)}{x y:Operand}
theorem zL(enc:α→List Value)(l:List α)(i:Nat)(xv:α){t gb:Nat}(hp:Hp w0 M w L)(j:Nat)(hj:L[j]? =some (qG enc e 1 (Ad gb) c l))(sa:SVL (Ad gb) c l)(hi:i<l.length)
  (hx:ev n F x= .pointer (some ⟨gb,0+i*1,none⟩)) (hy:ev n F y=v) (hk:∀x,(enc x).length=1) (hv:enc xv=[v]) (h1:kM v=true) (hz:TSize P t 1):
  StepF P n ⟨d,.store t x y,ty,pos,aft,g⟩ F w (fun u w'=>u=undef∧Hp w0 M w' (L.set j (qG enc e 1 (Ad gb) c (l.set i xv)))):=by
 obtain⟨o,ho,ca,rfl,hg,eV⟩:=hp.has j _ hj gb O;have hg:_=c*1:=hg;have el:=sa.cap;obtain⟨w',hr,nv,jn⟩:=qE2 (P:=P) (o:=0+i*1) ho O1 h1;refine wE ?_ ⟨O,hp.o8 hj nv ?_⟩
 ·have nz:v.cells.size=1:=by cases v<;>first|rfl|cases h1
  have hP:v.cells.toList=[v]:=by cases v<;>first|rfl|cases h1
  exact mB6
 intro b1 jm;have jm:b1=gb:=by
  exact mC3
 subst jm;refine⟨.inl O,_,jn,_,O,?_,?_⟩
 ·grind
 rw[qK1 _ v xv hk hv,fZ,←eV];simp only[mI];rw[rS];simp
end
def qUp(a b:Int):Int:=IntKind.i64.wrap ((BitVec.ofInt 64 a&&&BitVec.ofInt 64 b).toNat)
section
variable {P:Program}{n:FrK}{w:World}{F:Fr}{d:Option Tmp}{ty:TypeId}{pos:String}{aft:Array Edge}{g:Option (Nat×Bool)}{x y:Operand}{t t':Nat}{k q:IntKind}{a b:Int}
theorem jOi(hx:ev n F x= .int k a)(hy:ev n F y= .int q b)(hb:0≤b):PV P n w F ⟨d,.binOp .shr t x y t',ty,pos,aft,g⟩ (.int k (a.fdiv (2^min b.toNat k.bits))):=by
 simp[PV,execOp,hx,hy,eqGuard,binOp,Op.shift];omega
theorem qXx(hx:ev n F x=Iv a)(hy:ev n F y=Iv b):PV P n w F ⟨d,.binOp .and t x y t',ty,pos,aft,g⟩ (Iv (qUp a b)):=by
 simp only[PV,execOp,hx,hy,eqGuard,binOp,Op.intBits,qUp];rfl
end
def Fr.x5(F:Fr):List (Nat×Value)→Fr
 |[]=>F
 |p::S=>(Fr.x5 F S).put p.1 p.2
def qAb(F:Fr):List (Nat×Value)→Prop
 |[]=>True
 |p::S=>F p.1=p.2∧qAb F S
theorem qG3{F:Fr}:∀{S:List (Nat×Value)},qAb F S→F=F.x5 S
 |[],_=>rfl
 |_::_,h=>qB (qG3 h.2) h.1
theorem yL{n:FrK}{c:Code}{Q:Exit→Fr→World→Prop}{F:Fr}(S:List (Nat×Value))(hS:qAb F S)(h:∀F0:Fr,WP P n c Q (F0.x5 S) w):WP P n c Q F w:=by
 rw[qG3 hS];exact h F
section
variable {P:Program}{n:FrK}{Q:Exit→Fr→World→Prop}{F:Fr}{w:World}{ops:Array Oper}{rest:List Oper}{st:Bool}{G:World→Prop}
variable {d:Nat}{op:Op}{ty:TypeId}{pos:String}{aft:Array Edge}
theorem qHt{R:Value→World→Prop}(he:zC op=true)(hj:yW ops j=some e)(hc:ev n F (.tmp e)= .bool want)
  (hs:StepF P n ⟨some d,op,ty,pos,aft,some (j,want)⟩ F w R) (h:∀v w',R v w'→G w'∧wpd P n ops st G rest Q (F.put d v) w'):
  wpd P n ops st G (⟨some d,op,ty,pos,aft,some (j,want)⟩::rest) Q F w:=by
 unfold wpd wpD;rw[if_pos he];unfold EffStep;rw[vS O hj hc];refine⟨fun _=>Step.mono hs fun v w' hr=>?_,fun hw=>?_⟩
 ·rw[zN];exact mB5
 grind
theorem yG{r:Value}(he:zC op=false)(hj:yW ops j=some e)(hc:ev n F (.tmp e)= .bool want)
  (hp:∀w,G w→PV P n w F ⟨some d,op,ty,pos,aft,some (j,want)⟩ r) (hv:r=v) (h:wpd P n ops st G rest Q (F.put d v) w):wpd P n ops st G (⟨some d,op,ty,pos,aft,some (j,want)⟩::rest) Q F w:=by
 subst hv;unfold wpd wpD;rw[if_neg (by simp[he])];refine⟨r,.inl ⟨?_,fun w hw=>?_⟩,?_⟩
 ·rw[vS O hj hc];simp
 ·rw[zF];exact hp w hw
 rw[zN];exact h
end
theorem zS{w0:World}{M:List Nat}{L:List Ent}{g q:Nat}{x:α}(hp:Hp w0 M w L)(i:Nat)(hi:L[i]? =some (qG enc e k (Ad g) c l))(hv:SVL (Ad g) c l)(hk:∀x,(enc x).length=k)(hx:l[q]? =some x):
  ∀(j:Nat) (v:Value),(enc x)[j]? =some v→w.cell? ⟨g,0+q*k+j,none⟩=some v:=by
 obtain⟨b,o,hs,hc⟩:=qZ hp i hi hv hk q x hx;grind
section
variable {P:Program}{n:FrK}{w0 w:World}{M:List Nat}{L:List Ent}{F:Fr}{d:Option Tmp}{ty:TypeId}{pos:String}{aft:Array Edge}{g:Option (Nat×Bool)}{x y:Operand}
end
end
section
variable{b a e m:Nat}{q:IntKind}{t j:Nat}{want:Bool}{k c:Nat}{s:Option Addr}{α:Type}{l h:Nat}{p:Prop}
section
variable {P:Program}{n:FrK}{w0 w:World}{M:List Nat}{L:List Ent}{F:Fr}{d:Option Tmp}{ty:TypeId}{pos:String}{aft:Array Edge}{g:Option (Nat×Bool)}{x y:Operand}
theorem qNz(z:Value)(m:Nat):madeCells #[z] m=(replicate m z).toArray:=by
 apply rJ
 ·simp[madeCells]
 simp[madeCells,mC]
theorem jCo(enc:α→List Value)(x0:α){ba:Nat}{kl kc:IntKind}{z:Value}(hp:Hp w0 M w L)(ht:P.underlying t=some (.slice e))(hs:TSize P e 1)(hz:TZero P e z)(x3:TBytes P e ba)
  (hx:ev n F x= .int kl m) (hy:ev n F y= .int kc m) (hj:enc x0=[z]) (h1:kM z=true) (hm:(ba+1)*m<281000000000000) (_hb:Nat.ble ba 1000=true):
  StepF P n ⟨d,.makeSlice t x y,ty,pos,aft,g⟩ F w (fun u w'=>∃b,u= .slice (Ad b) m m∧SVL (Ad b) m (replicate m x0)∧Hp w0 M w' (qG enc e 1 (Ad b) m (replicate m x0)::L)):=by
 obtain⟨inf,hh,hD⟩:=x3.ex;have p2:=by
  exact mBx
 have xz:=by
  exact mCu
 rw[fE,lR] at hm;have sf:ba*m≤281000000000000:=O1;have hg:inf.bytes*(m:Int)≤281474976710656:=by
  exact mBv
 have hr:=run_make w t e _ z ht hh xz kl kc m m O1 O1 hg O1;have hl:z.cells= #[z]:=by cases z<;>first|rfl|cases h1
 have hQ:(replicate m x0).length=m:=O4;have hn:(replicate m x0).flatMap enc=replicate m z:=by
  clear hr sf hg hm hQ hx hy;induction m with
  |zero=>rfl
  |succ m ih=>grind
 refine xN (w':=w.alloc (.cells (replicate m z).toArray e)) ?_ ⟨w.heap.size,O,?_,?_⟩
 ·rw[p2,hl,oB,qNz] at hr;simp[execOp,hx,hy,hr]
 ·exact .inr ⟨_,m,O,O1,by unfold maxLen;omega⟩
 unfold qG;rw[hn,hQ];exact hp.alloc _ ⟨_,O,by simp[jAm],O4⟩
theorem qAo{o:Nat}{q':IntKind}{lo hi:Operand}(ht:P.underlying t=some (.slice e))(hk:TSize P e k)(hx:ev n F x= .slice (some ⟨b,o,none⟩) m c)(hl:ev n F lo= .int q l)(hh:ev n F hi= .int q' h)(h1:l≤h)(h2:h≤c)(h3:l<c):
  PV P n w F ⟨d,.slice t x (some lo) (some hi) none,ty,pos,aft,g⟩ (.slice (some ⟨b,o+l*k,none⟩) (h-l) (c-l)):=by
 have jm:=yO (P:=P) (w:=w) (c:=.sliceAcap) hh h2;have sd:=yO (P:=P) (w:=w) (c:=.sliceB) hl h1;have xr:¬c=l:=O1;simp[PV,execOp,Instr.sliceAt,Instr.slice,hx,jQ ht,Instr.sliceBounds,jm,sd,hk.run,xr,yC]
theorem qC0(ht:P.underlying t=some (.slice e))(hk:TSize P e k)(hx:ev n F x= .slice s m c)(hy:ev n F y= .int q h)(hh:h≤c):
  PV P n w F ⟨d,.slice t x none (some y) none,ty,pos,aft,g⟩ (.slice s h c):=by
 have hb:=yO (P:=P) (w:=w) (c:=.sliceAcap) hy hh;have e1:(if c=0 then s else s.map (·.add (0*k)))=s:=by
  split
  ·rfl
  cases s<;>simp[qPh]
 simp only[PV,execOp,Instr.sliceAt,Instr.slice,hx,bJ,jQ ht,aK,Instr.sliceBounds,dV,Option.map_none,eC,hb,hk.run,if_true,sAc,e1]
theorem qT4{s:ByteArray}(ht:P.underlying t=some .string)(hx:ev n F x= .string s)(hy:ev n F y= .int q l)(hl:l≤s.size):
  PV P n w F ⟨d,.slice t x (some y) none none,ty,pos,aft,g⟩ (.string (s.extract l s.size)):=by
 have hb:=yO (P:=P) (w:=w) (c:=.sliceB) hy hl;simp[PV,execOp,Instr.sliceAt,Instr.slice,hx,jQ ht,Instr.sliceBounds,hb]
end
theorem qPt(m:Nat):IntKind.u32.wrap (m:Int)=((m%4294967296:Nat):Int):=by
 rw[IntKind.wrap_u32];omega
theorem qPu(h:m<4294967296):IntKind.u32.wrap (m:Int)=(m:Int):=by
 rw[IntKind.wrap_u32];omega
theorem wU(h:m<18446744073709551616):IntKind.u64.wrap (m:Int)=(m:Int):=by
 rw[oO];omega
theorem jNo(m:Nat):IntKind.u8.wrap (m:Int)=((m%256:Nat):Int):=by
 rw[IntKind.wrap_u8];omega
theorem kG(k:Nat)(m:Nat)(h:m<2^k):(BitVec.ofInt k (m:Int)).toNat=m:=by
 grind
section
variable {P:Program}{n:FrK}{w:World}{F:Fr}{d:Option Tmp}{ty:TypeId}{pos:String}{aft:Array Edge}{g:Option (Nat×Bool)}{x y:Operand}{t t':Nat}
theorem qJ1{k:IntKind}{a b:Int}(hx:ev n F x= .int k a)(hy:ev n F y= .int q b)(hb:0≤b):PV P n w F ⟨d,.binOp .shl t x y t',ty,pos,aft,g⟩ (.int k (k.wrap (a*2^min b.toNat k.bits))):=by
 simp[PV,execOp,hx,hy,eqGuard,binOp,Op.shift];omega
theorem qQh(hx:ev n F x= .int .u32 a)(hy:ev n F y= .int .u32 b)(ha:a<4294967296)(hb:b<4294967296):PV P n w F ⟨d,.binOp .or t x y t',ty,pos,aft,g⟩ (.int .u32 ((a|||b:Nat):Int)):=by
 have h1:(BitVec.ofInt 32 a|||BitVec.ofInt 32 b).toNat=a|||b:=by
  rw[sBr,kG 32 a ha,kG 32 b hb]
 have h2:a|||b<2^32:=O1;have h3:=qPu h2;simp only[PV,execOp,hx,hy,eqGuard,binOp,Op.intBits];show Sem.run P (pure (Next.value (Value.int _ (IntKind.u32.wrap ((BitVec.ofInt 32 a|||BitVec.ofInt 32 b).toNat))))) w=_
 rw[h1,h3];rfl
theorem qG2(hx:ev n F x= .int .u64 a)(hy:ev n F y= .int .u64 b)(ha:a<18446744073709551616)(hb:b<18446744073709551616):PV P n w F ⟨d,.binOp .or t x y t',ty,pos,aft,g⟩ (.int .u64 ((a|||b:Nat):Int)):=by
 have h1:(BitVec.ofInt 64 a|||BitVec.ofInt 64 b).toNat=a|||b:=by
  rw[sBr,kG 64 a ha,kG 64 b hb]
 have h2:a|||b<2^64:=O1;have h3:=wU h2;simp only[PV,execOp,hx,hy,eqGuard,binOp,Op.intBits];show Sem.run P (pure (Next.value (Value.int _ (IntKind.u64.wrap ((BitVec.ofInt 64 a|||BitVec.ofInt 64 b).toNat))))) w=_
 rw[h1,h3];rfl
end
section
variable {P:Program}{n:FrK}{Q:Exit→Fr→World→Prop}{F:Fr}{w:World}{ops:Array Oper}{rest:List Oper}{st:Bool}{G:World→Prop}
variable {d:Nat}{op:Op}{ty:TypeId}{pos:String}{aft:Array Edge}
theorem jZ8{c:Bool}(hj:yW ops j=some e)(hc:ev n F (.tmp e)= .bool c)(hw:(c==want)=false)(h:wpl P n ops rest Q (F.put d undef) w):wpl P n ops (⟨some d,op,ty,pos,aft,some (j,want)⟩::rest) Q F w:=by
 refine wlg (v:=undef) hj hc (fun e=>by rw[hw] at e;cases e) (fun _=>O) ?_;rw[hw];exact h
theorem jZ7(hj:yW ops j=some e)(hc:ev n F (.tmp e)=undef)(h:wpl P n ops rest Q (F.put d undef) w):wpl P n ops (⟨some d,op,ty,pos,aft,some (j,want)⟩::rest) Q F w:=by
 exact jIp (v:=undef) (b:=false) (c:=false) hj hc (fun e=>by cases e) (fun _ _=>O) h
theorem jZe{c:Bool}(he:zC op=false)(hj:yW ops j=some e)(hc:ev n F (.tmp e)= .bool c)(hw:(c==want)=false)(h:wpd P n ops st G rest Q (F.put d undef) w):wpd P n ops st G (⟨some d,op,ty,pos,aft,some (j,want)⟩::rest) Q F w:=by
 refine wdg (v:=undef) he hj hc (fun _ _ e=>by rw[hw] at e;cases e) (fun _=>O) ?_;rw[hw];exact h
theorem jZd(he:zC op=false)(hj:yW ops j=some e)(hc:ev n F (.tmp e)=undef)(h:wpd P n ops st G rest Q (F.put d undef) w):wpd P n ops st G (⟨some d,op,ty,pos,aft,some (j,want)⟩::rest) Q F w:=by
 exact jUy (v:=undef) (b:=false) (c:=false) he hj hc (fun _ _ e=>by cases e) (fun _ _=>O) h
end
section
variable {P:Program}{n:FrK}{w:World}{F:Fr}{d:Option Tmp}{ty:TypeId}{pos:String}{aft:Array Edge}{g:Option (Nat×Bool)}{x y:Operand}{t t':Nat}
theorem qA3(hx:ev n F x= .bool false):PV P n w F ⟨d,.pick x y (.const (.bool false)),ty,pos,aft,g⟩ (.bool false):=by
 simp only[PV,execOp,hx,asBool,uW];rfl
theorem qC2(hx:ev n F x= .bool true):PV P n w F ⟨d,.pick x (.const (.bool true)) y,ty,pos,aft,g⟩ (.bool true):=by
 simp only[PV,execOp,hx,asBool,uW];rfl
theorem kL{b:Bool}(hx:ev n F x= .bool true)(hy:ev n F y= .bool b):PV P n w F ⟨d,.pick x y (.const (.bool false)),ty,pos,aft,g⟩ (.bool b):=by
 simp only[PV,execOp,hx,hy,asBool,uW];rfl
theorem yT{b:Bool}(hx:ev n F x= .bool false)(hy:ev n F y= .bool b):PV P n w F ⟨d,.pick x (.const (.bool true)) y,ty,pos,aft,g⟩ (.bool b):=by
 simp only[PV,execOp,hx,hy,asBool,uW];rfl
theorem uU(hx:ev n F x= .int .u64 (a:Int))(hy:ev n F y= .int .u64 (b:Int))(h:a+b<18446744073709551616):PV P n w F ⟨d,.binOp .add t x y t',ty,pos,aft,g⟩ (.int .u64 ((a+b:Nat):Int)):=by
 have:=qO (P:=P) (w:=w) (d:=d) (ty:=ty) (pos:=pos) (aft:=aft) (g:=g) (t:=t) (t':=t') hx hy;rwa[←mN,wU h] at this
theorem qI0(hx:ev n F x= .int .u64 (a:Int))(hy:ev n F y= .int .u64 (b:Int))(h:a*b<18446744073709551616):PV P n w F ⟨d,.binOp .mul t x y t',ty,pos,aft,g⟩ (.int .u64 ((a*b:Nat):Int)):=by
 have:=vD (P:=P) (w:=w) (d:=d) (ty:=ty) (pos:=pos) (aft:=aft) (g:=g) (t:=t) (t':=t') hx hy;rwa[←bU,wU h] at this
def qGq(a b:Nat):Nat:=(a+18446744073709551616-b)%18446744073709551616
theorem qA6(hx:ev n F x= .int .u64 (a:Int))(hy:ev n F y= .int .u64 (b:Int))(h:b≤18446744073709551616):PV P n w F ⟨d,.binOp .sub t x y t',ty,pos,aft,g⟩ (.int .u64 (qGq a b:Int)):=by
 have h2:=jN (P:=P) (w:=w) (d:=d) (ty:=ty) (pos:=pos) (aft:=aft) (g:=g) (t:=t) (t':=t') hx hy;have:IntKind.u64.wrap (a-b)=(qGq a b):=by
  rw[oO];unfold qGq;omega
 grind
theorem xW(hx:ev n F x= .int .u32 (a:Int))(hy:ev n F y= .int .u32 (b:Int)):PV P n w F ⟨d,.binOp .add t x y t',ty,pos,aft,g⟩ (.int .u32 (((a+b)%4294967296:Nat):Int)):=by
 have:=qO (P:=P) (w:=w) (d:=d) (ty:=ty) (pos:=pos) (aft:=aft) (g:=g) (t:=t) (t':=t') hx hy;rwa[←mN,qPt] at this
theorem xP{k:IntKind}(hx:ev n F x= .int k (a:Int))(hy:ev n F y= .int q (b:Int))(hb:b≤k.bits):PV P n w F ⟨d,.binOp .shr t x y t',ty,pos,aft,g⟩ (.int k ((a/2^b:Nat):Int)):=by
 have h2:=jOi (P:=P) (w:=w) (d:=d) (ty:=ty) (pos:=pos) (aft:=aft) (g:=g) (t:=t) (t':=t') hx hy O1;grind
theorem qB7(hx:ev n F x= .int .u64 (a:Int))(hy:ev n F y= .int q (b:Int))(hb:b≤64)(h:a*2^b<18446744073709551616):PV P n w F ⟨d,.binOp .shl t x y t',ty,pos,aft,g⟩ (.int .u64 ((a*2^b:Nat):Int)):=by
 have h2:=qJ1 (P:=P) (w:=w) (d:=d) (ty:=ty) (pos:=pos) (aft:=aft) (g:=g) (t:=t) (t':=t') hx hy O1;have e:(a:Int)*2^min (b:Int).toNat IntKind.u64.bits=(a*2^b:Nat):=by
  rw[nT,show IntKind.u64.bits=64 from O,eM hb];simp
 rwa[e,wU h] at h2
theorem qLv(hx:ev n F x= .int .u32 (a:Int))(hy:ev n F y= .int q (b:Int))(hb:b≤32):PV P n w F ⟨d,.binOp .shl t x y t',ty,pos,aft,g⟩ (.int .u32 ((a*2^b%4294967296:Nat):Int)):=by
 have h2:=qJ1 (P:=P) (w:=w) (d:=d) (ty:=ty) (pos:=pos) (aft:=aft) (g:=g) (t:=t) (t':=t') hx hy O1;have e:(a:Int)*2^min (b:Int).toNat IntKind.u32.bits=(a*2^b:Nat):=by
  rw[nT,show IntKind.u32.bits=32 from O,eM hb];simp
 rwa[e,qPt] at h2
end
theorem qGz{m':Nat}(h:m=m'):Value.slice s m c= .slice s m' c:=by rw[h]
theorem ndt{p:Prop}[Decidable p](h:¬p):(!decide p)=true:=by simp[h]
theorem ndf{p:Prop}[Decidable p](h:p):(!decide p)=false:=by simp[h]
theorem SlAt.pre{w:World}{enc:α→List Value}{l l':List α}(h:SlAt w k enc s l)(hp:l'<+:l):SlAt w k enc s l':=by
 intro i x hx;refine h i x ?_;obtain⟨t,rfl⟩:=hp;grind
def ngQ(Q:Exit→Fr→World→Prop):Exit→Fr→World→Prop:=fun e F w=>match e with
 | .goto _=>False
 |e=>Q e F w
section
variable {P:Program}{n:FrK}{Q:Exit→Fr→World→Prop}{F:Fr}{w:World}
theorem qDr{ds:List Deferred}{c:Code}(h:WP P ⟨m,ds,none⟩ c (ngQ Q) F w):WP P ⟨m,ds,none⟩ (.scope c) Q F w:=by
 refine pH.2 (wp_scope_straight (wp_mono (pH.1 h) ?_));rintro e a w ⟨F,rfl,h2⟩;cases e<;>first|exact h2.elim|exact⟨F,O,h2⟩
theorem kQ9(h:Q .normal F w):ngQ Q .normal F w:=h
theorem qG6(h:Q .ret F w):ngQ Q .ret F w:=h
end
end
variable{B:Nat}{W W':World}{l:Nat}{α:Type}{x y c:Code}{fn:Func}{m:Nat}{R:Ending→World→Prop}
structure Priv(B:Nat)(W W':World):Prop where
 os:W'.os=W.os
 tape:W'.tape=W.tape
 output:W'.output=W.output
 size:W.heap.size≤W'.heap.size
 block:∀k,k<B→W'.heap[k]? =W.heap[k]?
theorem Priv.mono{B':Nat}(h:Priv B W W')(hb:B'≤B):Priv B' W W':=⟨h.os,h.tape,h.output,h.size,fun k hk=>h.block k O1⟩
theorem Priv.put(W:World)(o:Obj)(h:B≤l):Priv B W (W.putObj l o):=
 ⟨O,O,O,O4,fun k hk=>World.putObj_heap_other O1⟩
theorem yR(W:World)(l:Nat)(o:Obj):Keeps [l] W (W.putObj l o):=
 ⟨O,O,O,O4,fun k _ hk=>World.putObj_heap_other (by grind)⟩
theorem Hp.v6{w0:World}{M:List Nat}{L:List Ent}(h:Hp w0 M W L)(hp:Priv B W W')(h0:w0.heap.size≤B)(hL:∀p∈L,∀b,p.1=some b→b<B):Hp w0 M W' L:=by
 refine⟨⟨hp.os.trans h.keeps.os,hp.tape.trans h.keeps.tape,hp.output.trans h.keeps.output,bL h.keeps.size hp.size,fun k hk hm=>(hp.block k O1).trans (h.keeps.block k hk hm)⟩,h.own,fun i p hi b hb=>?_,h.dis⟩;obtain⟨o,ho,hpo⟩:=h.has i p hi b hb;exact⟨o,by rw[hp.block b (hL p (aI hi) b hb)];exact ho,hpo⟩
def It(P:Program)(g:FuncId)(lb:List Value)(enc:α→Value)(xs:List α)(M:List Nat)(w:World):Prop:=
 ∀(l:Nat) (J:List α→World→Prop),l<w.heap.size→(∀(a:Addr) (v:Value),w.cell? a=some v→a.block≠l)→
  (∀pre x W1,J pre W1→(∃ou,xs=pre++x::ou)→YieldAt Fence.wide 0 P l #[enc x] W1 fun e W'=>e= .returned (.bool true)∧J (pre++[x]) W'∧Keeps (l::M) W1 W')→
  (∀pre W W',J pre W→Priv w.heap.size W W'→J pre W')→J [] w→
  Ret P g (.func (.yield l) #[] #[]::lb) w (fun _ W'=>J xs W')
def WPA(P:Program)(n:FrK)(c:Code)(QA:Exit→Act→World→Prop)(F:Fr)(w:World):Prop:=c.wpIn n.n7 0 P QA (act n F) w
section
variable {P:Program}{n:FrK}{Q:Exit→Fr→World→Prop}{QA:Exit→Act→World→Prop}{F:Fr}{w:World}
theorem qB2(h:WP P n x (qB5 (fun F w=>WPA P n y QA F w) (fun e F w=>QA e (act n F) w)) F w):WPA P n (.seq x y) QA F w:=by
 refine wpIn_seq (lC h ?_);rintro e a w ⟨F,rfl,h2⟩;cases e<;>exact h2
theorem qFt{b:Code}(h:WP P n x (qB5 (fun F w=>WPA P n b (Exit.then (fun a w=>y.wpIn n.n7 0 P QA a w) QA) F w) (fun e F w=>QA e (act n F) w)) F w):WPA P n (.seq (.seq x b) y) QA F w:=by
 refine wpIn_seq (wpIn_seq (lC h ?_));rintro e a w ⟨F,rfl,h2⟩;cases e<;>exact h2
theorem qSc(h:WP P n c (fun e F w=>QA e (act n F) w) F w):WPA P n c QA F w:=
 lC h (by rintro e a w ⟨F,rfl,h2⟩;exact h2)
theorem jUp(t:Array Value)(p:Nat)(v:Value):((#[p]:Array Nat).zip #[v]).foldl (fun tmps (t,a)=>tmps.setIfInBounds t a) t=t.setIfInBounds p v:=by
 simp
theorem jBs{id p sz:Nat}{ds:List Deferred}{assign body:Code}{oS:Operand}{gf:FuncId}{lb:List Value}
  (hg:ev ⟨sz,ds,none⟩ F oS= .func (.func gf) #[] lb.toArray) (eg:qI P gf)
  (enc:α→Value) (xs:List α) (M:List Nat) (hM:∀k∈M,k<w.heap.size)
  (I:List α→World→Prop) (hI:∀pre W W',I pre W→Priv w.heap.size W W'→I pre W') (h0:I [] w)
  (ph:∀W1,Keeps [] w W1→W1.heap.size=w.heap.size+2→It P gf lb enc xs M W1) (F1:α→Fr)
  (pf:∀(l:Nat) (x:α) (W:World),WP P ⟨sz,[],some l⟩ assign (fun e F' W'=>e= .normal∧F'=F1 x∧W'=W) (F.put p (enc x)) W)
  (pj:∀(l:Nat) (pre:List α) (x:α) (W:World),(∃ou,xs=pre++x::ou)→I pre W→WP P ⟨sz,[],some l⟩ body (fun e _ W'=>e= .normal∧I (pre++[x]) W'∧Keeps M W W') (F1 x) W)
  (pa:∀(D:Nat) (W:World),w.heap.size≤D→I xs W→W.heap[D]? =some (.deferred (some []))→QA .normal (act ⟨sz,{target:=.collected D,args:=#[]}::ds,none⟩ F) W):
  WPA P ⟨sz,ds,none⟩ (.block id (.rangeFunc oS #[p] assign body)) QA F w:=by
 unfold WPA;rw[FrK.k8 O];refine sAi (wpIn_rangeFunc ?_);intro fn oC;obtain⟨rec,oz⟩:∃rec:LoopState→Option _→Loop,rec=fun st pe=>{state:=st,pending:=pe,fn,tmps:=(act ⟨sz,ds,none⟩ F).tmps,params:=#[p],assign,body,defers:=w.heap.size}:=⟨_,O⟩
 obtain⟨W1,o1⟩:∃W1,(w.alloc (.deferred (some []))).alloc (.loop (rec .ready none))=W1:=⟨_,O⟩;have oP:W1.heap[w.heap.size+1]? =some (.loop (rec .ready none)):=by
  exact mAn
 have pc:W1.heap[w.heap.size]? =some (.deferred (some [])):=by
  exact mBa
 have o0:Keeps [] w W1:=by
  exact mCh
 have hj:W1.heap.size=w.heap.size+2:=by rw[←o1];simp
 have pd:Priv _ w W1:=⟨o0.os,o0.tape,o0.output,o0.size,fun k hk=>o0.block k hk O4⟩
 refine⟨w.heap.size+1,[{target:=.collected w.heap.size,args:=#[]}],W1,{target:=.fn (.func gf) lb.toArray,args:=#[.func (.yield (w.heap.size+1)) #[] #[]]},W1,gf,
  #[.func (.yield (w.heap.size+1)) #[] #[]]++lb.toArray,W1,?_,?_,fun _ _=>trivial,?_,fun h=>(by cases h),?_⟩
 ·exact mBq
 ·exact mC1
 ·exact mAx
 have hc:=ph W1 o0 hj (w.heap.size+1) (fun pre W=>I pre W∧W.heap[w.heap.size+1]? =some _∧W.heap[w.heap.size]? =some _) O1 (fun a v hc e=>by simp[World.cell?,e,oP] at hc) ?_ ?_ ⟨hI _ _ _ h0 pd,oP,pc⟩
 ·exact mA4
 ·rintro pre x W ⟨hi,hl,hk⟩ o5;have hh:=(aT.1 hl).1;have hy:=run_yield (P:=P) (args:=#[enc x]) hl (by grind);rw[oz] at hy;rw[←oz] at hy;have pg:((#[p]).zip #[enc x]).foldl (fun tmps (t,a)=>tmps.setIfInBounds t a) (act ⟨sz,ds,none⟩ F).tmps=(act ⟨sz,[],some (w.heap.size+1)⟩ (F.put p (enc x))).tmps:=by
   exact mDp
  refine⟨fn,_,assign,body,by rw[oz] at hy;exact hy,?_⟩;rw[pg];refine roundIn_of_wpIn oC (lC (pf _ x W) ?_);rintro e a1 w1 ⟨F',rfl,rfl,rfl,rfl⟩;refine⟨_,run_beginRound hl (by rw[oz]),?_⟩;obtain⟨W2,o2⟩:∃W2,W2=w1.putObj (w.heap.size+1) (.loop {rec .ready none with state:=.busy}):=⟨_,O⟩;have oy:W2.heap[w.heap.size+1]? =some (.loop {rec .ready none with state:=.busy}):=by rw[o2];exact World.putObj_heap_same hh
  have uq:W2.heap[w.heap.size]? =some (.deferred (some [])):=by rw[o2];exact(World.putObj_heap_other O1).trans hk
  have oK:I pre W2:=by rw[o2];exact hI _ _ _ hi (Priv.put _ _ O1)
  have o3:Keeps [w.heap.size+1] w1 W2:=by rw[o2];exact yR _ _ _
  rw[←o2];refine lC (pj _ _ x W2 o5 oK) ?_;rintro e a3 W3 ⟨F3,rfl,rfl,oX,ox⟩;have zj:=(aT.1 oy).1;have o9:=(ox.block _ zj (fun hm=>by grind)).trans oy;have yv:=(ox.block _ O1 (fun hm=>by grind)).trans uq;have hr:=run_endRound (P:=P) none o9;refine⟨_,_,hr,O,⟨hI _ _ _ oX (Priv.put _ _ O1),?_,(World.putObj_heap_other O1).trans yv⟩,?_⟩
  ·exact mC2
  exact mAz
 exact mAy
theorem Ret.q9{f:FuncId}{args:List Value}{R:Value→World→Prop}(hf:P.funcs[f]? =some fn)(hb:fn.body=some c)(hn:fn.ntmps=m)(hg:Nat.ble args.length m=true)
  (h:WPA P (FrK.of m) c (bodyPostM Fence.wide 0 P fn (fun e w'=>∃v,e= .returned v∧R v w')) (qE args) w):Ret P f args w R:=by
 refine pS.1 (callsIn_of_wp_marks (n:=0) hf hb trivial ?_);have hg:=eK hg;have ha:({tmps:=args.toArray++Array.replicate (fn.ntmps-args.toArray.size) undef,defers:=[]})=act (FrK.of m) (qE args):=by
  simp only[act];congr 1;apply rJ
  ·simp[hn];omega
  intro i h1 h2;simp only[nI];rw[uA];by_cases hi:i<args.length
  ·grind
  rw[sAk (by grind)];simp[aC,hi]
 rw[ha];exact h
theorem qT1{t D:Nat}{v:Value}(h:fn.results= #[.tmp t])(hv:ev n F (.tmp t)=v)(pn:n.ds=[{target:=.collected D,args:=#[]}])(hD:w.heap[D]? =some (.deferred (some [])))(hr:R (.returned v) (w.putObj D (.deferred none))):
  bodyPostM Fence.wide 0 P fn R .ret (act n F) w:=by
 show LeavesInM _ 0 P fn _ R n.ds _ w
 rw[pn];refine⟨O4,.inl ⟨D,_,O,run_takeDeferred hD,v,?_,hr⟩⟩;exact mE1
theorem wlY{ops:Array Oper}{rest:List Oper}{d:Nat}{x:Operand}{ty:TypeId}{pos:String}{aft:Array Edge}{args:Array Operand}{ts:Array TypeId}{vs:List Value}
  (hx:ev (FrK.of m) F x= .func (.yield l) #[] #[]) (n2:args.toList.map (ev (FrK.of m) F)=vs) (hy:YieldAt Fence.wide 0 P l vs.toArray w R)
  (h:∀e w',R e w'→∃v,e= .returned v∧wpl P (FrK.of m) ops rest Q (F.put d v) w'):
  wpl P (FrK.of m) ops (⟨some d,.call ⟨.value x,args,ts⟩,ty,pos,aft,none⟩::rest) Q F w:=by
 obtain⟨fn,tmps,assign,body,pu,pw⟩:=hy;refine wpListIn_plain O fun K hK=>⟨fun _ _=>trivial,?_⟩
 have ha:args.map (ev (FrK.of m) F)=vs.toArray:=by
  rw[←n2];apply sBw;rw[rQ]
 have hex:(execOp (ev (FrK.of m) F) ⟨some d,.call ⟨.value x,args,ts⟩,ty,pos,aft,none⟩).run P w= .ok (.round l fn tmps assign body) w:=by
  exact mBb
 rw[sA7 _ _ _ O4,zF,hex];refine⟨fun h=>(by cases h),RoundIn.mono pw ?_⟩;intro e w' hr;obtain⟨v,rfl,h2⟩:=h e w' hr;refine hK _ _ ?_;rw[zN];exact h2
end
end Go.Eng
namespace Go.Proofs.YtplkndjlfkkjlaaGreatDoor
open List (range range' replicate)
open Go.Eng
variable{t k e b o:Nat}{z:Value}{s:Option Addr}{c m i:Nat}{α:Type}{q:IntKind}{p:Nat}{ps:Array (Nat×Operand)}{ba off:Nat}{zs:List Value}{sz:Nat}{v:Value}{vs:List Value}{f:Fr}{t' n:Nat}{F:Fr}{w:World}{fn:Func}{ty:Nat}
theorem jI2{o:Option α}{p:α→Bool}(h:o.any p=true):∃q,o=some q∧p q=true:=by
 cases o with
 |none=>cases h
 |some q=>exact⟨q,O,h⟩
def qM5:Nat→Bool
 |2|3|4|5|9|21|22|24|25|26|29|34|35|36|37|40|43|62|65|86|90|110|125|134|137|139|150|153|156|162|163|170|174|177|190|192|194|200|208|209|216|229|231|252|262|268|289|290|296|297|301|304|314|315|319|344|375|379|382|409|420|434|438|448=>true
 |_=>false
theorem qM4(h:qM5 t=true):∃q,Tryz.prog.underlying t=some q∧jF5 q=true:=by
 unfold qM5 at h;split at h<;>cases h<;>(exact jI2 O3)
def qCc:Nat→Option Nat
 |28=>some 13
 |33|45|49|146|202|233|248|317|384=>some 3
 |39|94=>some 6
 |57|76|80|85|88|92|127|130|236|255|442=>some 2
 |82|135|152|204=>some 4
 |108|132|414=>some 20
 |179=>some 22
 |244|308=>some 5
 |264=>some 15
 |283|284|443=>some 32
 |291=>some 12
 |293=>some 14
 |339|340|440=>some 256
 |359|412=>some 8
 |410|447=>some 64
 |415=>some 65
 |_=>none
theorem qDm(h:qCc t=some k):∃q,Tryz.prog.underlying t=some q∧qW6 q=true:=by
 unfold qCc at h;split at h<;>cases h<;>(exact jI2 O3)
def qBu:Nat→Option Nat
 |2|3|4|5|9|21|22|24|25|26|29|34|35|36|37|40|43|62|65|86|90|110|125|134|137|139|150|153|156|162|163|170|174|177|190|192|194|200|208|209|216|229|231|252|262|268|289|290|296|297|301|304|314|315|319|344|375|379|382|409|420|434|438|448=>some 1
 |28=>some 13
 |33|45|49|146|202|233|248|317|384=>some 3
 |39|94=>some 6
 |57|76|80|85|88|92|127|130|236|255|442=>some 2
 |82|135|152|204=>some 4
 |108|132|414=>some 20
 |179=>some 22
 |244|308=>some 5
 |264=>some 15
 |283|284|443=>some 32
 |291=>some 12
 |293=>some 14
 |339|340|440=>some 256
 |359|412=>some 8
 |410|447=>some 64
 |415=>some 65
 |_=>none
theorem qD(h:qBu t=some k):TSize Tryz.prog t k:=by
 unfold qBu at h;split at h<;>cases h<;>(unfold TSize;kernel_rfl)
def qDg:Nat→Option (Nat×Nat)
 |22=>some (3,1)
 |24=>some (88,2)
 |25=>some (130,2)
 |26=>some (33,3)
 |29=>some (94,6)
 |35=>some (22,1)
 |36=>some (34,1)
 |37=>some (204,4)
 |43=>some (49,3)
 |62=>some (9,1)
 |65=>some (146,3)
 |86=>some (82,4)
 |110=>some (43,1)
 |137=>some (208,1)
 |163=>some (85,2)
 |170=>some (236,2)
 |177=>some (4,1)
 |190=>some (5,1)
 |229=>some (233,3)
 |252=>some (255,2)
 |382=>some (177,1)
 |_=>none
theorem zK(h:qDg t=some (e,k)):Tryz.prog.underlying t=some (.slice e)∧TSize Tryz.prog e k:=by
 unfold qDg at h;split at h<;>cases h<;>(exact⟨O3,qD O⟩)
def qNd:Nat→Option (Nat×Nat×Nat)
 |57=>some (2,22,1)
 |135=>some (4,134,1)
 |152=>some (4,150,1)
 |283|284=>some (32,5,1)
 |291=>some (12,290,1)
 |339|340=>some (256,4,1)
 |359=>some (8,208,1)
 |410=>some (64,208,1)
 |412=>some (8,5,1)
 |414=>some (20,139,1)
 |415=>some (65,5,1)
 |440=>some (256,5,1)
 |443=>some (16,442,2)
 |447=>some (64,5,1)
 |_=>none
theorem qBc(h:qNd t=some (m,e,k)):Tryz.prog.underlying t=some (.array m e)∧TSize Tryz.prog e k:=by
 unfold qNd at h;split at h<;>cases h<;>(exact⟨O3,qD O⟩)
def qGy:Nat→Bool
 |9|34=>true
 |_=>false
theorem wV(h:qGy t=true):Tryz.prog.underlying t=some .string:=by
 unfold qGy at h;split at h<;>cases h<;>first|with_reducible exact Tryz.underlying9|with_reducible exact Tryz.underlying34
def qFh:Nat→Option IntKind
 |2|3|40|420=>some .i64
 |5=>some .u8
 |21=>some .i32
 |139|156|434=>some .u64
 |208=>some .u32
 |290=>some .i8
 |_=>none
theorem qFg{k:IntKind}(h:qFh t=some k):Tryz.prog.underlying t=some (.int k):=by
 unfold qFh at h;split at h<;>cases h<;>first|with_reducible exact Tryz.underlying2|with_reducible exact Tryz.underlying3|with_reducible exact Tryz.underlying5|with_reducible exact Tryz.underlying21|with_reducible exact Tryz.underlying40|with_reducible exact Tryz.underlying139|with_reducible exact Tryz.underlying156|with_reducible exact Tryz.underlying208|with_reducible exact Tryz.underlying290|with_reducible exact Tryz.underlying420|with_reducible exact Tryz.underlying434
def lk:List (Nat×Nat)→Nat→Option Nat
 |[],_=>none
 |p::l,i=>bif Nat.beq p.1 i then some p.2 else lk l i
def zD9(P:Program)(s i:Nat):Option (Nat×Option Nat):=match P.underlying s with
 |some (.struct fs)=>(fs[i]?).map (fun f=>(f.offset,(P.info? f.type).map (·.size)))
 |_=>none
def jQ4(P:Program)(s i off:Nat):Bool:=match zD9 P s i with
 |some (o,some (_+1))=>Nat.beq o off
 |_=>false
theorem jKz{P:Program}{s:Nat}(h:jQ4 P s i off=true):∃k,qGo P s i off k:=by
 unfold jQ4 at h;split at h
 next o k e=>exact⟨k,by unfold qGo;rw[←bF h];exact e⟩
 ·cases h
theorem jMs{P:Program}{s i off:Nat}:∀L:List (Nat×Nat),L.all (fun p=>jQ4 P s p.1 p.2)=true→lk L i=some off→∃k,qGo P s i off k
 |[],_,h=>by cases h
 |p::L,hL,h=>by
  rw[pB,aF] at hL;unfold lk at h;cases hb:Nat.beq p.1 i
  ·rw[hb] at h;exact jMs L hL.2 h
  rw[hb] at h;cases h;cases bF hb;exact jKz hL.1
def qRa(s i:Nat):Option Nat:=lk (match s with
 |28=>[(0,0),(1,1),(2,2),(3,3),(4,4),(5,5),(6,6),(7,7),(8,8),(9,9),(10,10),(11,11),(12,12)]
 |33=>[(0,0),(1,1),(2,2)]
 |39=>[(0,0),(1,1),(2,2),(3,3),(4,4),(5,5)]
 |45=>[(0,0),(1,1),(2,2)]
 |49=>[(0,0),(1,1),(2,2)]
 |76=>[(0,0),(1,1)]
 |80=>[(0,0),(1,1)]
 |82=>[(0,0),(1,1),(2,2)]
 |85=>[(0,0),(1,1)]
 |88=>[(0,0),(1,1)]
 |92=>[(0,0),(1,1)]
 |94=>[(0,0),(1,1),(2,2),(3,3),(4,4),(5,5)]
 |108=>[(0,0),(1,6),(2,19)]
 |127=>[(0,0),(1,1)]
 |130=>[(0,0),(1,1)]
 |132=>[(0,0),(1,13),(2,14)]
 |146=>[(0,0),(1,1),(2,2)]
 |179=>[(0,0),(1,13),(2,14),(3,15),(4,16),(5,17),(6,18),(7,19),(8,20),(9,21)]
 |202=>[(0,0),(1,1),(2,2)]
 |204=>[(0,0),(1,3)]
 |233=>[(0,0),(1,1),(2,2)]
 |236=>[(0,0),(1,1)]
 |244=>[(0,0),(1,1),(2,2)]
 |248=>[(0,0),(1,1),(2,2)]
 |255=>[(0,0),(1,1)]
 |264=>[(0,0),(1,13),(2,14)]
 |293=>[(0,0),(1,1),(2,2)]
 |308=>[(0,0),(1,1),(2,2),(3,3),(4,4)]
 |317=>[(0,0),(1,1),(2,2)]
 |384=>[(0,0),(1,1),(2,2)]
 |442=>[(0,0),(1,1)]
 |_=>[]) i
theorem qWc{s:Nat}(h:qRa s i=some off):∃k,qGo Tryz.prog s i off k:=by
 unfold qRa at h;split at h<;>exact jMs _ O3 h
section
variable {n:FrK}{w:World}{F:Fr}{d:Option Tmp}{ty:TypeId}{pos:String}{aft:Array Edge}{g:Option (Nat×Bool)}{x y:Operand}
theorem xF{s:Nat}(h:qRa s i=some off)(hx:ev n F x= .pointer (some ⟨b,o,none⟩)):PV Tryz.prog n w F ⟨d,.fieldAddr s x i,ty,pos,aft,g⟩ (.pointer (some ⟨b,o+off,none⟩)):=by
 obtain⟨k,hk⟩:=qWc h;exact qVk hk hx
theorem qS(h:qM5 t=true)(hx:ev n F x= .pointer (some ⟨b,o,none⟩))(hc:w.cell? ⟨b,o,none⟩=some v):PV Tryz.prog n w F ⟨d,.load t x,ty,pos,aft,g⟩ v:=by
 obtain⟨q,h1,h2⟩:=qM4 h;exact qKj h1 h2 hx hc
theorem qL(h:qCc t=some k)(hz:qBu t=some k)(hx:ev n F x= .pointer (some ⟨b,o,none⟩))(hl:vs.length=k)(hc:∀(j:Nat) (v:Value),vs[j]? =some v→w.cell? ⟨b,o+j,none⟩=some v):
  PV Tryz.prog n w F ⟨d,.load t x,ty,pos,aft,g⟩ (.agg vs.toArray):=by
 obtain⟨q,h1,h2⟩:=qDm h;exact jDk h1 h2 (qD hz) hx hl hc
theorem vO(h:qCc t=some k)(hz:qBu t=some k)(hx:ev n F x= .pointer (some ⟨b,o,none⟩))(hc:∀(j:Nat) (v:Value),((range k).map fun j=>f (o+j))[j]? =some v→w.cell? ⟨b,o+j,none⟩=some v):
  PV Tryz.prog n w F ⟨d,.load t x,ty,pos,aft,g⟩ (.agg ((range k).map fun j=>f (o+j)).toArray):=qL h hz hx O4 hc
theorem zA(h:qDg t=some (e,k))(hx:ev n F x= .slice s m c)(hy:ev n F y= .int q i)(hs:s=some ⟨b,o,none⟩)(hi:i<m):
  PV Tryz.prog n w F ⟨d,.indexAddr t x y,ty,pos,aft,g⟩ (.pointer (some ⟨b,o+i*k,none⟩)):=jDl (zK h).1 (zK h).2 hx hy hs hi
theorem jS(h:qNd t=some (m,e,k))(hx:ev n F x= .pointer (some ⟨b,o,none⟩))(hy:ev n F y= .int q i)(hi:i<m):
  PV Tryz.prog n w F ⟨d,.indexAddr t x y,ty,pos,aft,g⟩ (.pointer (some ⟨b,o+i*k,none⟩)):=qVj (qBc h).1 (qBc h).2 hx hy hi
theorem qC7{q:Nat}(h:qDg p=some (e,k))(hx:ev n F x= .slice s m c):PV Tryz.prog n w F ⟨d,.call ⟨.builtin .len,#[x],#[p]⟩,q,pos,aft,g⟩ (Iv m):=jOm (zK h).1 hx
theorem uZ{q:Nat}{s:ByteArray}(h:qGy p=true)(hx:ev n F x= .string s):PV Tryz.prog n w F ⟨d,.call ⟨.builtin .len,#[x],#[p]⟩,q,pos,aft,g⟩ (Iv s.size):=jJm (wV h) hx
theorem zY{s:ByteArray}{k:IntKind}(h:qGy t=true)(hx:ev n F x= .string s)(hy:ev n F y= .int k i)(hi:i<s.size):PV Tryz.prog n w F ⟨d,.index t x y,ty,pos,aft,g⟩ (.int .u8 (bAt s i)):=
 qVi (wV h) hx hy hi
theorem zX{k k':IntKind}{a:Int}(h:qFh t=some q)(h':qFh t'=some k')(hx:ev n F x= .int k a):PV Tryz.prog n w F ⟨d,.convert t t' x,ty,pos,aft,g⟩ (.int k' (k'.wrap a)):=
 qXw (qFg h') ⟨_,qFg h⟩ hx
end
def wT:Nat→Option Value
 |2|3|40|420=>some (Iv 0)
 |4=>some (.bool false)
 |5=>some (.int .u8 0)
 |9|34=>some (.string ⟨#[]⟩)
 |21=>some (.int .i32 0)
 |22|24|25|26|29|35|36|37|43|62|65|86|110|137|163|170|177|190|229|252|382=>some (Zs)
 |28=>some (.agg #[.string ⟨#[]⟩,Iv 0,Iv 0,Iv 0,Iv 0,Iv 0,Zs,.bool false,Zs,Iv 0,Iv 0,Zs,Zs])
 |33=>some (.agg #[.string ⟨#[]⟩,Iv 0,Iv 0])
 |39=>some (.agg #[Iv 0,.string ⟨#[]⟩,Iv 0,Zs,Zs,Zs])
 |45|248|384=>some (.agg #[Zs,Zs,Zs])
 |49|202=>some (.agg #[.bool false,.string ⟨#[]⟩,.string ⟨#[]⟩])
 |57|76=>some (.agg #[Zs,Zs])
 |80|85|88|236|255=>some (.agg #[Iv 0,Iv 0])
 |82=>some (.agg #[Iv 0,Iv 0,Iv 0,Iv 0])
 |90|125|174|262|289|304|344|409|438|448=>some (.pointer none)
 |92|127=>some (.agg #[Zs,Iv 0])
 |94=>some (.agg #[Iv 0,Iv 0,Iv 0,Zs,Zs,Zs])
 |108=>some (.agg #[Iv 0,.string ⟨#[]⟩,Iv 0,Zs,Zs,Zs,.string ⟨#[]⟩,Iv 0,Iv 0,Iv 0,Iv 0,Iv 0,Zs,.bool false,Zs,Iv 0,Iv 0,Zs,Zs,Zs])
 |130=>some (.agg #[.string ⟨#[]⟩,Iv 0])
 |132=>some (.agg #[.string ⟨#[]⟩,Iv 0,Iv 0,Iv 0,Iv 0,Iv 0,Zs,.bool false,Zs,Iv 0,Iv 0,Zs,Zs,Zs,Iv 0,.string ⟨#[]⟩,Iv 0,Zs,Zs,Zs])
 |134|150|194|209|231|268|297|301|315|319|375|379=>some (.nilFunc)
 |135|152=>some (.agg #[.nilFunc,.nilFunc,.nilFunc,.nilFunc])
 |139|156|434=>some (.int .u64 0)
 |146=>some (.agg #[Iv 0,.string ⟨#[]⟩,.string ⟨#[]⟩])
 |153|162|192|200|216|296|314=>some (.map none)
 |179=>some (.agg #[.string ⟨#[]⟩,Iv 0,Iv 0,Iv 0,Iv 0,Iv 0,Zs,.bool false,Zs,Iv 0,Iv 0,Zs,Zs,Zs,Zs,Zs,Zs,Zs,Zs,Zs,Zs,Zs])
 |204=>some (.agg #[.bool false,.string ⟨#[]⟩,.string ⟨#[]⟩,Zs])
 |208=>some (.int .u32 0)
 |233=>some (.agg #[.string ⟨#[]⟩,Iv 0,.nilFunc])
 |244=>some (.agg #[Zs,Zs,.bool false,.string ⟨#[]⟩,.string ⟨#[]⟩])
 |264=>some (.agg #[.string ⟨#[]⟩,Iv 0,Iv 0,Iv 0,Iv 0,Iv 0,Zs,.bool false,Zs,Iv 0,Iv 0,Zs,Zs,Zs,Zs])
 |283|284|443=>some (.agg #[.int .u8 0,.int .u8 0,.int .u8 0,.int .u8 0,.int .u8 0,.int .u8 0,.int .u8 0,.int .u8 0,.int .u8 0,.int .u8 0,.int .u8 0,.int .u8 0,.int .u8 0,.int .u8 0,.int .u8 0,.int .u8 0,.int .u8 0,.int .u8 0,.int .u8 0,.int .u8 0,.int .u8 0,.int .u8 0,.int .u8 0,.int .u8 0,.int .u8 0,.int .u8 0,.int .u8 0,.int .u8 0,.int .u8 0,.int .u8 0,.int .u8 0,.int .u8 0])
 |290=>some (.int .i8 0)
 |291=>some (.agg #[.int .i8 0,.int .i8 0,.int .i8 0,.int .i8 0,.int .i8 0,.int .i8 0,.int .i8 0,.int .i8 0,.int .i8 0,.int .i8 0,.int .i8 0,.int .i8 0])
 |293=>some (.agg #[.int .i8 0,.int .i8 0,.int .i8 0,.int .i8 0,.int .i8 0,.int .i8 0,.int .i8 0,.int .i8 0,.int .i8 0,.int .i8 0,.int .i8 0,.int .i8 0,.int .i8 0,.int .i8 0])
 |308=>some (.agg #[Zs,Zs,Zs,Zs,Zs])
 |317=>some (.agg #[.string ⟨#[]⟩,.bool false,.bool false])
 |359=>some (.agg #[.int .u32 0,.int .u32 0,.int .u32 0,.int .u32 0,.int .u32 0,.int .u32 0,.int .u32 0,.int .u32 0])
 |410=>some (.agg #[.int .u32 0,.int .u32 0,.int .u32 0,.int .u32 0,.int .u32 0,.int .u32 0,.int .u32 0,.int .u32 0,.int .u32 0,.int .u32 0,.int .u32 0,.int .u32 0,.int .u32 0,.int .u32 0,.int .u32 0,.int .u32 0,.int .u32 0,.int .u32 0,.int .u32 0,.int .u32 0,.int .u32 0,.int .u32 0,.int .u32 0,.int .u32 0,.int .u32 0,.int .u32 0,.int .u32 0,.int .u32 0,.int .u32 0,.int .u32 0,.int .u32 0,.int .u32 0,.int .u32 0,.int .u32 0,.int .u32 0,.int .u32 0,.int .u32 0,.int .u32 0,.int .u32 0,.int .u32 0,.int .u32 0,.int .u32 0,.int .u32 0,.int .u32 0,.int .u32 0,.int .u32 0,.int .u32 0,.int .u32 0,.int .u32 0,.int .u32 0,.int .u32 0,.int .u32 0,.int .u32 0,.int .u32 0,.int .u32 0,.int .u32 0,.int .u32 0,.int .u32 0,.int .u32 0,.int .u32 0,.int .u32 0,.int .u32 0,.int .u32 0,.int .u32 0])
 |412=>some (.agg #[.int .u8 0,.int .u8 0,.int .u8 0,.int .u8 0,.int .u8 0,.int .u8 0,.int .u8 0,.int .u8 0])
 |414=>some (.agg #[.int .u64 0,.int .u64 0,.int .u64 0,.int .u64 0,.int .u64 0,.int .u64 0,.int .u64 0,.int .u64 0,.int .u64 0,.int .u64 0,.int .u64 0,.int .u64 0,.int .u64 0,.int .u64 0,.int .u64 0,.int .u64 0,.int .u64 0,.int .u64 0,.int .u64 0,.int .u64 0])
 |442=>some (.agg #[.int .u8 0,.int .u8 0])
 |447=>some (.agg #[.int .u8 0,.int .u8 0,.int .u8 0,.int .u8 0,.int .u8 0,.int .u8 0,.int .u8 0,.int .u8 0,.int .u8 0,.int .u8 0,.int .u8 0,.int .u8 0,.int .u8 0,.int .u8 0,.int .u8 0,.int .u8 0,.int .u8 0,.int .u8 0,.int .u8 0,.int .u8 0,.int .u8 0,.int .u8 0,.int .u8 0,.int .u8 0,.int .u8 0,.int .u8 0,.int .u8 0,.int .u8 0,.int .u8 0,.int .u8 0,.int .u8 0,.int .u8 0,.int .u8 0,.int .u8 0,.int .u8 0,.int .u8 0,.int .u8 0,.int .u8 0,.int .u8 0,.int .u8 0,.int .u8 0,.int .u8 0,.int .u8 0,.int .u8 0,.int .u8 0,.int .u8 0,.int .u8 0,.int .u8 0,.int .u8 0,.int .u8 0,.int .u8 0,.int .u8 0,.int .u8 0,.int .u8 0,.int .u8 0,.int .u8 0,.int .u8 0,.int .u8 0,.int .u8 0,.int .u8 0,.int .u8 0,.int .u8 0,.int .u8 0,.int .u8 0])
 |_=>none
theorem qJ(h:wT t=some z):TZero Tryz.prog t z:=by
 unfold wT at h;split at h<;>cases h<;>(unfold TZero;kernel_rfl)
def qEh:Nat→Option Nat
 |2|3|40|90|125|134|139|150|153|156|162|174|192|194|200|209|216|231|262|268|289|296|297|301|304|314|315|319|344|375|379|409|412|420|434|438|448=>some 8
 |4|5|290=>some 1
 |9|34|80|85|88|236|255=>some 16
 |21|208=>some 4
 |22|24|25|26|29|35|36|37|43|62|65|86|110|130|137|163|170|177|190|229|252|317|382=>some 24
 |28=>some 176
 |33|82|92|127|135|152|233|283|284|359|443=>some 32
 |39=>some 104
 |45|248|384=>some 72
 |49|146|202=>some 40
 |57|76=>some 48
 |94=>some 96
 |108|132=>some 304
 |179=>some 392
 |204|447=>some 64
 |244=>some 88
 |264=>some 224
 |291=>some 12
 |293=>some 14
 |308=>some 120
 |339|340|410|440=>some 256
 |414=>some 160
 |415=>some 65
 |442=>some 2
 |_=>none
theorem qBp(h:qEh t=some k):TBytes Tryz.prog t k:=by
 unfold qEh at h;split at h<;>cases h<;>(unfold TBytes;kernel_rfl)
def jEu:Nat→Option (Nat×Nat×Value)
 |162=>some (3,4,.bool false)
 |_=>none
theorem xG(h:jEu t=some (k,e,z)):Tryz.prog.underlying t=some (.map k e)∧Tryz.prog.underlying k=some kInt.kd∧TZero Tryz.prog e z:=by
 unfold jEu at h;split at h<;>cases h<;>(exact⟨O3,O3,qJ O⟩)
def jEt:Nat→Option (Nat×Nat×Value)
 |153=>some (9,4,.bool false)
 |192=>some (9,3,Iv 0)
 |_=>none
theorem kV(h:jEt t=some (k,e,z)):Tryz.prog.underlying t=some (.map k e)∧Tryz.prog.underlying k=some kStr.kd∧TZero Tryz.prog e z:=by
 unfold jEt at h;split at h<;>cases h<;>(exact⟨O3,O3,qJ O⟩)
def qWb:Nat→Option Nat
 |28=>some 13
 |33=>some 3
 |39=>some 6
 |45=>some 3
 |49=>some 3
 |76=>some 2
 |80=>some 2
 |85=>some 2
 |88=>some 2
 |92=>some 2
 |94=>some 6
 |127=>some 2
 |130=>some 2
 |146=>some 3
 |202=>some 3
 |233=>some 3
 |236=>some 2
 |248=>some 3
 |255=>some 2
 |308=>some 5
 |317=>some 3
 |384=>some 3
 |442=>some 2
 |_=>none
theorem jBc(h:qWb t=some k):jId Tryz.prog t k:=by
 unfold qWb at h;split at h
 ·cases h;exact⟨_,Tryz.underlying28,fun w=>⟨#[(0,1),(1,1),(2,1),(3,1),(4,1),(5,1),(6,1),(7,1),(8,1),(9,1),(10,1),(11,1),(12,1)],O3,O2⟩⟩
 ·cases h;exact⟨_,Tryz.underlying33,fun w=>⟨#[(0,1),(1,1),(2,1)],O3,O2⟩⟩
 ·cases h;exact⟨_,Tryz.underlying39,fun w=>⟨#[(0,1),(1,1),(2,1),(3,1),(4,1),(5,1)],O3,O2⟩⟩
 ·cases h;exact⟨_,Tryz.underlying45,fun w=>⟨#[(0,1),(1,1),(2,1)],O3,O2⟩⟩
 ·cases h;exact⟨_,Tryz.underlying49,fun w=>⟨#[(0,1),(1,1),(2,1)],O3,O2⟩⟩
 ·cases h;exact⟨_,Tryz.underlying76,fun w=>⟨#[(0,1),(1,1)],O3,O2⟩⟩
 ·cases h;exact⟨_,Tryz.underlying80,fun w=>⟨#[(0,1),(1,1)],O3,O2⟩⟩
 ·cases h;exact⟨_,Tryz.underlying85,fun w=>⟨#[(0,1),(1,1)],O3,O2⟩⟩
 ·cases h;exact⟨_,Tryz.underlying88,fun w=>⟨#[(0,1),(1,1)],O3,O2⟩⟩
 ·cases h;exact⟨_,Tryz.underlying92,fun w=>⟨#[(0,1),(1,1)],O3,O2⟩⟩
 ·cases h;exact⟨_,Tryz.underlying94,fun w=>⟨#[(0,1),(1,1),(2,1),(3,1),(4,1),(5,1)],O3,O2⟩⟩
 ·cases h;exact⟨_,Tryz.underlying127,fun w=>⟨#[(0,1),(1,1)],O3,O2⟩⟩
 ·cases h;exact⟨_,Tryz.underlying130,fun w=>⟨#[(0,1),(1,1)],O3,O2⟩⟩
 ·cases h;exact⟨_,Tryz.underlying146,fun w=>⟨#[(0,1),(1,1),(2,1)],O3,O2⟩⟩
 ·cases h;exact⟨_,Tryz.underlying202,fun w=>⟨#[(0,1),(1,1),(2,1)],O3,O2⟩⟩
 ·cases h;exact⟨_,Tryz.underlying233,fun w=>⟨#[(0,1),(1,1),(2,1)],O3,O2⟩⟩
 ·cases h;exact⟨_,Tryz.underlying236,fun w=>⟨#[(0,1),(1,1)],O3,O2⟩⟩
 ·cases h;exact⟨_,Tryz.underlying248,fun w=>⟨#[(0,1),(1,1),(2,1)],O3,O2⟩⟩
 ·cases h;exact⟨_,Tryz.underlying255,fun w=>⟨#[(0,1),(1,1)],O3,O2⟩⟩
 ·cases h;exact⟨_,Tryz.underlying308,fun w=>⟨#[(0,1),(1,1),(2,1),(3,1),(4,1)],O3,O2⟩⟩
 ·cases h;exact⟨_,Tryz.underlying317,fun w=>⟨#[(0,1),(1,1),(2,1)],O3,O2⟩⟩
 ·cases h;exact⟨_,Tryz.underlying384,fun w=>⟨#[(0,1),(1,1),(2,1)],O3,O2⟩⟩
 ·cases h;exact⟨_,Tryz.underlying442,fun w=>⟨#[(0,1),(1,1)],O3,O2⟩⟩
 cases h
section
variable {n:FrK}{w w0:World}{M:List Nat}{L:List Ent}{F:Fr}{d:Option Tmp}{ty:TypeId}{pos:String}{aft:Array Edge}{g:Option (Nat×Bool)}{x y:Operand}
theorem uI(hf:qWb t=some k)(hz:wT t=some (.agg zs.toArray))(hl:zs.length=k)
  (fs:((ps.toList.map fun p=>(p.1,ev n F p.2)).all fun p=>Nat.blt p.1 k&&Nat.beq p.2.cells.size 1)=true):
  PV Tryz.prog n w F ⟨d,.build t ps,ty,pos,aft,g⟩ (.agg (qIk 1 zs (ps.toList.map fun p=>(p.1,ev n F p.2))).toArray):=qVl (jBc hf) (qJ hz) hl fs
theorem yH(ht:qNd t=some (k,e,sz))(hz:wT t=some (.agg zs.toArray))(hl:zs.length=k*sz)
  (fs:((ps.toList.map fun p=>(p.1,ev n F p.2)).all fun p=>Nat.blt p.1 k&&Nat.beq p.2.cells.size sz)=true):
  PV Tryz.prog n w F ⟨d,.build t ps,ty,pos,aft,g⟩ (.agg (qIk sz zs (ps.toList.map fun p=>(p.1,ev n F p.2))).toArray):=qVn (qBc ht).1 (qBc ht).2 (qJ hz) hl fs
theorem jC{vs:List (Nat×Value)}{cs:List Value}(hp:Hp w0 M w L)(ht:qDg t=some (e,sz))(hz:wT e=some z)
  (hg:(ps.toList.map fun p=>(p.1,ev n F p.2))=vs) (ho:qCr sz 0 vs=true) (hk:vs.length=k) (nz:vs.flatMap (fun p=>p.2.cells.toList)=cs) (nk:Nat.ble (k*sz) 16777216=true):
  StepF Tryz.prog n ⟨d,.buildSlice t k ps,ty,pos,aft,g⟩ F w (fun u w'=>∃b,u= .slice (Ad b) k k∧Hp w0 M w' (blk b cs.length (qE cs) e::L)):=
 qNp hp (zK ht).1 (zK ht).2 (qJ hz) hg ho hk nz (eK nk)
theorem qOb{size:Nat}{xs news:List Value}(hp:Hp w0 M w L)(i:Nat)(ht:qDg t=some (e,size))(x3:qEh e=some ba)(hz:wT e=some z)
  (xw:z.cells.size=size) (xx:Nat.blt 0 size=true) (hx:ev n F x=v) (hy:ev n F y= .slice s k c) (hi:L[i]? =some (qKb v e size m xs)) (hv:SV v m) (hl:xs.length=m*size) (hn:news.length=k*size)
  (hg:∀(j:Nat) (u:Value),news[j]? =some u→∃b o,s=some ⟨b,o,none⟩∧w.cell? ⟨b,o+j,none⟩=some u) (h1:∀u∈news,kM u=true)
  (jm:m+k≤maxLen) (sd:(m+k)*ba≤140737488355328):
  StepF Tryz.prog n ⟨d,.call ⟨.builtin .append,#[x,y],#[t,t]⟩,ty,pos,aft,g⟩ F w (fun u w'=>SV u (m+k)∧Hp w0 M w' (L.set i (qKb u e size (m+k) (xs++news)))):=
 jAf hp i (zK ht).1 (zK ht).2 (qBp x3) (qJ hz) xw (qCd xx) hx hy hi hv hl hn hg h1 jm sd
end
theorem qT0(h:fn.results= #[.cell p ty])(h1:qCc ty=some k)(hz:qBu ty=some k)(hx:ev n F (.tmp p)= .pointer (some ⟨b,o,none⟩))(hl:vs.length=k)
  (hc:∀(j:Nat) (v:Value),vs[j]? =some v→w.cell? ⟨b,o+j,none⟩=some v):(results fn (act n F).tmps).run Tryz.prog w= .ok (.agg vs.toArray) w:=by
 obtain⟨q,hq,tc⟩:=qDm h1;have hk:=qD hz;subst hl;have:=vN (P:=Tryz.prog) (w:=w) b o vs 0 #[] (fun j v hv=>by simpa using hc j v hv);have hX:(act n F).tmps.getD p undef= .pointer (some ⟨b,o,none⟩):=by
  rw[←hx,←zF];rfl
 have en:(act n F).tmps[p]?.getD undef= .pointer (some ⟨b,o,none⟩):=by simpa using hX
 simp[results,h,en,asAddr,loadVar,qF5 hq tc,loadCells,hk.run,this]
theorem zJ{R:Ending→World→Prop}(h:fn.results= #[.cell p ty])(h1:qCc ty=some k)(hz:qBu ty=some k)(hx:ev n F (.tmp p)= .pointer (some ⟨b,o,none⟩))
  (hc:∀(j:Nat) (v:Value),((range k).map fun j=>f (o+j))[j]? =some v→w.cell? ⟨b,o+j,none⟩=some v) (hr:R (.returned (.agg ((range k).map fun j=>f (o+j)).toArray)) w):qNs Tryz.prog n fn R .ret F w:=
 ⟨_,qT0 h h1 hz hx O4 hc,hr⟩
section
variable {n:FrK}{F:Fr}{w:World}{d:Option Tmp}{ty:TypeId}{pos:String}{aft:Array Edge}{g:Option (Nat×Bool)}{x y:Operand}
theorem qBy{h:Nat}(ht:qDg t=some (e,k))(hx:ev n F x= .slice s m c)(hy:ev n F y= .int q h)(hh:h≤c):
  PV Tryz.prog n w F ⟨d,.slice t x none (some y) none,ty,pos,aft,g⟩ (.slice s h c):=by
 have hb:=yO (P:=Tryz.prog) (w:=w) (c:=.sliceAcap) hy hh;have e1:(if c=0 then s else s.map (·.add (0*k)))=s:=by
  split
  ·rfl
  cases s<;>simp[qPh]
 simp only[PV,execOp,Instr.sliceAt,Instr.slice,hx,bJ,jQ (zK ht).1,aK,Instr.sliceBounds,dV,Option.map_none,eC,hb,(zK ht).2.run,if_true,sAc,e1]
theorem qQt{vs:List (Nat×Value)}(ht:qNd t=some (k,e,sz))(hz:wT t=some (.agg zs.toArray))(hl:zs.length=k*sz)
  (hg:(ps.toList.map fun p=>(p.1,ev n F p.2))=vs) (ho:qCr sz 0 vs=true) (hk:vs.length=k):
  PV Tryz.prog n w F ⟨d,.build t ps,ty,pos,aft,g⟩ (.agg (vs.flatMap fun p=>p.2.cells.toList).toArray):=by
 have h1:=yH (w:=w) (d:=d) (ty:=ty) (pos:=pos) (aft:=aft) (g:=g) (n:=n) (F:=F) (ps:=ps) ht hz hl (by rw[hg];exact qFc sz k vs 0 ho O1);have h2:=qJb sz vs 0 [] zs ho O4 (by rw[hl,hk]);rw[hg] at h1;rw[lT,lT] at h2;rw[h2] at h1;exact h1
end
section
variable {n:FrK}{w w0:World}{M:List Nat}{L:List Ent}{F:Fr}{d:Option Tmp}{ty:TypeId}{pos:String}{aft:Array Edge}{g:Option (Nat×Bool)}{x y:Operand}
theorem jV(enc:α→List Value)(l:List α)(xv:α)(hp:Hp w0 M w L)(i j:Nat)(ht:qDg t=some (e,k))(x3:qEh e=some ba)(hz:wT e=some z)
  (xw:z.cells.size=k) (xx:Nat.blt 0 k=true) (hb:Nat.ble ba 1000=true) (hk:∀x,(enc x).length=k) (hx:ev n F x= .slice s l.length c) (hy:ev n F y= .slice (Ad b) 1 1)
  (hi:L[i]? =some (qG enc e k s c l)) (hv:SVL s c l) (hj:L[j]? =some (blk b (enc xv).length (qE (enc xv)) e)) (h1:(enc xv).all kM=true) (hQ:l.length<1000000):
  StepF Tryz.prog n ⟨d,.call ⟨.builtin .append,#[x,y],#[t,t]⟩,ty,pos,aft,g⟩ F w
   (fun u w'=>∃s' c',u= .slice s' (l++[xv]).length c'∧SVL s' c' (l++[xv])∧Hp w0 M w' (L.set i (qG enc e k s' c' (l++[xv])))):=by
 have jn:=eK hb;have sd:(l.length+1)*ba≤1000000*1000:=cF O1 jn;refine(qOb hp i ht x3 hz xw xx hx hy hi hv (zR enc k hk l) (by rw[hk];omega) (qZs hp j hj) (by simpa[cU] using h1) (by unfold maxLen;omega) O1).mono ?_;rintro u w' ⟨h2,h3⟩;obtain⟨s',c',rfl⟩:=h2.ex;have e1:(l++[xv]).length=l.length+1:=O4;have e2:(l++[xv]).flatMap enc=l.flatMap enc++enc xv:=O4;exact mD9
end
section
variable {n:FrK}{w w0:World}{M:List Nat}{L:List Ent}{F:Fr}{d:Option Tmp}{ty:TypeId}{pos:String}{aft:Array Edge}{g:Option (Nat×Bool)}{x y:Operand}
theorem qV8(enc:α→List Value)(l l2:List α){c2:Nat}{s2:Option Addr}(hp:Hp w0 M w L)(i:Nat)(ht:qDg t=some (e,k))(x3:qEh e=some ba)(hz:wT e=some z)
  (xw:z.cells.size=k) (xx:Nat.blt 0 k=true) (hb:Nat.ble ba 1000=true) (hk:∀x,(enc x).length=k) (hx:ev n F x= .slice s l.length c) (hy:ev n F y= .slice s2 l2.length c2)
  (hi:L[i]? =some (qG enc e k s c l)) (hv:SVL s c l) (hs:SlAt w k enc s2 l2) (h1:∀x,(enc x).all kM=true) (hQ:l.length+l2.length<1000000):
  StepF Tryz.prog n ⟨d,.call ⟨.builtin .append,#[x,y],#[t,t]⟩,ty,pos,aft,g⟩ F w
   (fun u w'=>∃s' c',u= .slice s' (l++l2).length c'∧SVL s' c' (l++l2)∧Hp w0 M w' (L.set i (qG enc e k s' c' (l++l2)))):=by
 have jn:=eK hb;have sd:(l.length+l2.length)*ba≤1000000*1000:=cF O1 jn;refine(qOb hp i ht x3 hz xw xx hx hy hi hv (zR enc k hk l) (zR enc k hk l2) (hs.src hk) ?_ (by unfold maxLen;omega) O1).mono ?_
 ·intro u hu;rw[sBg] at hu;obtain⟨a,_,ha⟩:=hu;exact cU.1 (h1 a) u ha
 rintro u w' ⟨h2,h3⟩;obtain⟨s',c',rfl⟩:=h2.ex;have e1:(l++l2).length=l.length+l2.length:=O4;have e2:(l++l2).flatMap enc=l.flatMap enc++l2.flatMap enc:=O4;exact mD9
theorem qF4(enc:α→List Value)(l:List α)(hp:Hp w0 M w L)(i:Nat)(ht:qDg t=some (e,k))(x3:qEh e=some ba)(hz:wT e=some z)
  (xw:z.cells.size=k) (xx:Nat.blt 0 k=true) (hb:Nat.ble ba 1000=true) (hk:∀x,(enc x).length=k) (hx:ev n F x= .slice (Ad b) 0 0) (hy:ev n F y= .slice s l.length c)
  (hi:L[i]? =some (blk b 0 (qE []) e)) (hs:SlAt w k enc s l) (h1:∀x,(enc x).all kM=true) (hQ:l.length<1000000):
  StepF Tryz.prog n ⟨d,.call ⟨.builtin .append,#[x,y],#[t,t]⟩,ty,pos,aft,g⟩ F w
   (fun u w'=>∃s' c',u= .slice s' l.length c'∧SVL s' c' l∧Hp w0 M w' (L.set i (qG enc e k s' c' l))):=by
 have hr:=hp.rowOf (cs:=[]) i k 0 hi O4;have hl:=(aH.1 hi).1;refine(qV8 enc ([]:List α) l (s:=Ad b) (c:=0) hr i ht x3 hz xw xx hb hk hx hy (by rw[iB,if_pos O,if_pos hl];rfl) (.inr ⟨b,0,O,O4,by unfold maxLen;omega⟩) hs h1 (by simpa using hQ)).mono ?_;rintro u w' ⟨s',c',h2,h3,h4⟩;rw[List.set_set] at h4;exact⟨s',c',h2,h3,h4⟩
theorem jOy{len cap:Nat}{ns:List Int}(ht:qDg t=some (e,1))(he:qFh e=some .u8)(yo:qGy t'=true)(hx:ev n F x= .slice (some ⟨b,o,none⟩) len cap)(hl:ns.length=len)
  (hc:∀(j:Nat) (v:Value),(ns.map (Value.int .u8))[j]? =some v→w.cell? ⟨b,o+j,none⟩=some v):PV Tryz.prog n w F ⟨d,.convert t t' x,ty,pos,aft,g⟩ (.string (kN ns)):=qVo (zK ht).1 (qFg he) (wV yo) hx hl hc
end
theorem jG:Tryz.prog.follows .mixedOrders=true:=O3
theorem jXy:qI Tryz.prog 12:=fun _ _=>O3
theorem qCw:qI Tryz.prog 24:=fun _ _=>O3
theorem qDq:qI Tryz.prog 30:=fun _ _=>O3
theorem qU8:qI Tryz.prog 39:=fun _ _=>O3
theorem qIl:qI Tryz.prog 53:=fun _ _=>O3
theorem qH5:qI Tryz.prog 83:=fun _ _=>O3
theorem jXe:qI Tryz.prog 89:=fun _ _=>O3
theorem qMx:qI Tryz.prog 103:=fun _ _=>O3
theorem jSz:qI Tryz.prog 126:=fun _ _=>O3
theorem qFm:qI Tryz.prog 132:=fun _ _=>O3
theorem jSs:qI Tryz.prog 151:=fun _ _=>O3
theorem qWn:qI Tryz.prog 153:=fun _ _=>O3
theorem jGy:qI Tryz.prog 155:=fun _ _=>O3
theorem qMw:qI Tryz.prog 159:=fun _ _=>O3
theorem qWm:qI Tryz.prog 167:=fun _ _=>O3
theorem jSj:qI Tryz.prog 174:=fun _ _=>O3
theorem jSi:qI Tryz.prog 175:=fun _ _=>O3
theorem jGq:qI Tryz.prog 179:=fun _ _=>O3
theorem jSb:qI Tryz.prog 195:=fun _ _=>O3
theorem jS5:qI Tryz.prog 202:=fun _ _=>O3
theorem jGn:qI Tryz.prog 206:=fun _ _=>O3
theorem jGm:qI Tryz.prog 207:=fun _ _=>O3
theorem jGl:qI Tryz.prog 208:=fun _ _=>O3
theorem jGk:qI Tryz.prog 210:=fun _ _=>O3
theorem jGj:qI Tryz.prog 211:=fun _ _=>O3
theorem jS2:qI Tryz.prog 212:=fun _ _=>O3
theorem jS1:qI Tryz.prog 213:=fun _ _=>O3
theorem jS0:qI Tryz.prog 214:=fun _ _=>O3
theorem jRz:qI Tryz.prog 217:=fun _ _=>O3
theorem jRy:qI Tryz.prog 218:=fun _ _=>O3
theorem jRw:qI Tryz.prog 222:=fun _ _=>O3
theorem qWi:qI Tryz.prog 227:=fun _ _=>O3
theorem jRs:qI Tryz.prog 231:=fun _ _=>O3
theorem jRr:qI Tryz.prog 232:=fun _ _=>O3
theorem jGi:qI Tryz.prog 233:=fun _ _=>O3
theorem jRq:qI Tryz.prog 235:=fun _ _=>O3
theorem jGf:qI Tryz.prog 243:=fun _ _=>O3
theorem jRj:qI Tryz.prog 247:=fun _ _=>O3
theorem jR7:qI Tryz.prog 280:=fun _ _=>O3
theorem jR6:qI Tryz.prog 281:=fun _ _=>O3
theorem jR4:qI Tryz.prog 283:=fun _ _=>O3
theorem jG6:qI Tryz.prog 284:=fun _ _=>O3
theorem qRh:qI Tryz.prog 290:=fun _ _=>O3
theorem jG3:qI Tryz.prog 293:=fun _ _=>O3
theorem jR2:qI Tryz.prog 294:=fun _ _=>O3
theorem qWg:qI Tryz.prog 302:=fun _ _=>O3
theorem jQz:qI Tryz.prog 303:=fun _ _=>O3
theorem jQy:qI Tryz.prog 304:=fun _ _=>O3
theorem jG0:qI Tryz.prog 313:=fun _ _=>O3
theorem jQp:qI Tryz.prog 324:=fun _ _=>O3
theorem jQg:qI Tryz.prog 349:=fun _ _=>O3
theorem jQf:qI Tryz.prog 351:=fun _ _=>O3
theorem jQe:qI Tryz.prog 353:=fun _ _=>O3
theorem jQd:qI Tryz.prog 354:=fun _ _=>O3
theorem jQc:qI Tryz.prog 355:=fun _ _=>O3
end Go.Proofs.YtplkndjlfkkjlaaGreatDoor
