/- Merged texts of ours; conditions are the hypotheses of each law. -/
import Derived.KernelRfl
import Derived.WalkKit
import Derived.Orders
import Derived.TacticsIn
import Derived.Sort.LoopGhostIn
import Derived.Maps.RangeRun
import Derived.Laws.BytesString
import Derived.Laws.MakeOwn
import Derived.Scope
import Derived.RangeFuncLeaves
import Derived.RangeFuncSeq
import Derived.Test.YtplkndjlfkkjlaaGreatDoorProg
namespace Go
variable{p:Prop}
section
open List (range range' replicate)
theorem O{α:Sort _}{a:α}:a=a:=rfl
theorem O1(h:p:=by omega):p:=h
theorem O2(h:p:=by decide):p:=h
theorem O3(h:p:=by kernel_rfl):p:=h
theorem O4(h:p:=by simp):p:=h
theorem O6(h:p:=by grind):p:=h
theorem O7(h:p:=by assumption):p:=h
theorem nj(h:p:=by refine tV ?_;exact⟨_,O,O,hp.Z⟩):p:=h
theorem mA1(h:p:=by refine xO O O3 ?_ O;refine tK (Fh _ (xh k hl) xj O1) ?_;rintro _ w6 ⟨rfl,hk⟩;have hp:=hp.V hk;refine⟨hp.E,?_⟩;refine KU ?_;refine xO O O3 ?_ O;apply FH;exact O;exact qW hp 0 O O O O (qD O) O;rintro _ w9 ⟨rfl,hp⟩;refine⟨hp.E,?_⟩;have hp:=hp.I 0 (eQ wd) O (by rw[qe];rfl);refine Qq ?_;exact⟨b3,qB O5 O,hp⟩):p:=h
theorem Ig(h:p:=by exact⟨_,qB O5 O,⟨O1,hp⟩,O1⟩):p:=h
theorem Ee(h:p:=by exact zJ O O O O (hp.j2 0 O O) ⟨_,O,O,hp.Z⟩):p:=h
theorem UW(h:p:=by have e:(#[.func (.yield (w.heap.size+1)) #[] #[]]++lb.toArray)=(.func (.yield (w.heap.size+1)) #[] #[]::lb).toArray:=O4;rw[e];refine pV.2 (Ns hc ?_);rintro e W2 ⟨v,rfl,hi,hl,hk⟩;exact⟨none,_,by have:=run_endLoop (P:=P) hl O6;rw[qs] at this;omega,q1 _ _ O1 (hI _ _ _ hi (mw.put _ _ O1)) ((World.putObj_heap_other O1).trans hk)⟩):p:=h
theorem mA5(h:p:=by refine xO O O3 ?_ O;refine tK (HJ _ BQone yf O1) ?_;rintro _ w5 ⟨rfl,hk⟩;have hp:=hp.V hk;refine⟨hp.E,?_⟩;refine KU ?_;refine xO O O3 ?_ O;apply FH;exact O;exact qW hp 0 O O O O (qD O) O;rintro _ w9 ⟨rfl,hp⟩;refine⟨hp.E,?_⟩;have hp:=hp.I 0 (eQ (1-wr s.K fun k=>X (k+1))) O O;refine Qq ?_;exact⟨b3,qB O5 O,hp⟩):p:=h
theorem Fq(h:p:=by exact qM O O ⟨_,O,O,hp.Z⟩):p:=h
theorem KM(h:p:=by exact⟨(),ka.eq (by repeat(first|exact ka.k7|exact ka.refl|refine ka.put O ?_|refine ka.q6 O ?_)),hp⟩):p:=h
theorem UV(h:p:=by have hg:=xy i _ _ hJ hp.Z;apply Ax;exact qC O he O (hP i _ _ hx hg);rintro _ w' ⟨rfl,pw,ao⟩;have zw:=(ax.refl.trans hp.Z O4).trans pw (fun _ h=>.inr h);have zx:=hk.trans zw (fun _ h=>.inr h);refine Mz ?_;exact⟨_,qB O5 O,⟨O1,zx,ao⟩,O1⟩):p:=h
theorem Fp(h:p:=by refine Ae ?_;exact⟨k+1,qB O5 O,⟨O1,hp⟩,O1⟩):p:=h
theorem UU(h:p:=by have hA:(D 0&&(D 1&&(D 0&&(D 1&&(true&&(true&&(true&&(D 5&&(D 6&&(D 7&&(D 8&&(D 9&&(true&&(true&&(true&&(D 13&&true))))))))))))))))=_:=hA;simp[aJ,fJ,Lp] at hA;exact zI (zA O (hD.slot 0 hA.1 O O) (hD.slot 1 hA.2.1 O O) O O1) O (na 14 O2 O2)):p:=h
theorem P9(h:p:=by exact⟨i+1,qB O5 O,⟨O1,hp⟩,O1⟩):p:=h
theorem UT(h:p:=by apply FH;exact O;exact qW hp 0 O O O O (qD O) O;rintro _ w7 ⟨rfl,hp⟩;refine⟨hp.E,?_⟩;refine zP (yZ ?_);exact⟨b3,qB O5 O,hp⟩):p:=h
theorem Mr(h:p:=by refine tK hF ?_;rintro _ w5 ⟨rfl,vw,_⟩;refine qA ?_;refine qM O O ⟨_,O,O,hp.Z.trans vw ?_⟩;grind):p:=h
theorem US(h:p:=by intro i hV _;have eb:Nat.beq 15 i=false:=jJ O1;have ec:Nat.beq 17 i=false:=jJ O1;rw[eb,ec,dL,dL];refine⟨(hD.put (i:=i) O1).congr (fun j hj=>by rw[nbp hj hV]),fun h=>⟨O6,O6⟩,hK,oS,ng,zo⟩):p:=h
theorem mAf(h:p:=by refine qA (tR (qS O O (hp.H zw yq)) ?_);refine qA (ke (Dw hp 1 O O O (kV O).1 (kV (t:=153) O).2.1 (kV (t:=153) O).2.2) ((FK _ _).trans (aK _ hS)) ?_);refine qA ?_;refine tJ (tR (qS O O (hp.H zw yq)) ?_);refine qA (tO (G0 hp 1 O O O O (kV O).1 (kV (t:=153) O).2.1) fun w3 hp=>?_);refine tV ?_;exact⟨_,O,O,hp.Z,hp.H zy fc,hp.H zw yq,hp.N 1 _ O mb O⟩):p:=h
theorem mAg(h:p:=by have hl:i<l.length:=O1;have hx:=aA hl;have hq:=hs.j1 hk hM;obtain⟨b0,o0,ra,yk⟩:=hq i _ hx;have hc:=yk 0 _ O;refine qA ?_;have hg:=xy i _ _ hJ hp.Z;apply Ax;exact qC O he O (hP i _ _ hx hg);rintro _ w' ⟨rfl,pw,ao⟩;have zw:ax M w1 w':=O1;have zx:=hk.trans zw (fun _ h=>.inr h);refine Mz ?_;exact⟨_,qB O5 O,⟨O1,zx,ao⟩,O1⟩):p:=h
theorem mAh(h:p:=by rintro v w1 ⟨hk,oe⟩;refine qA (qQ [6,7,8,9,28,29,30,31,32,33,34,35,36,37,38,39,40,41,42,43,44,45,46,47,48,49,50,51,52,53,54,55,56,57,58,59,60,61,62] (fun _ F=>F.put 6 (.int _ 20)) (fun _ w'=>w'=w1) (fun _=>0) () (qB (ka.eq .refl) O) O ?_);rintro u2 ⟨⟩ _ rfl;refine qA ?_;refine qH O O1 (fun _=>qA ?_);exact xK O ⟨_,O,hk,oe⟩):p:=h
theorem Jn(h:p:=by refine Ae ?_;exact⟨k+1,qB O5 O,⟨O1,hp.E⟩,O1⟩):p:=h
theorem P8(h:p:=by rw[←va];have:=World.alloc_heap_new (w.alloc (.deferred (some []))) (.loop (rec .ready none));rwa[rO] at this):p:=h
theorem mAk(h:p:=by apply Au;exact O;exact zE (cs:=kj (replicate 14 0)) (m:=14) (Hp.start (M:=[])) (qJ O) O O;rintro _ uz ⟨b5,rfl,hpo⟩;have ha:=ha.j1 hpo.Z;have hp:Hp W [] _ [bu b5 14 _ 293,_,_,_]:=hp.C hpo;refine⟨hp.Z,?_⟩;exact leaf _ _ ⟨a,pa,_,ot,b4,b5,ha,⟨O,O,O,O,O,O,trivial⟩,(hp.j4 [0,1,3] [_,_,_] O2 O)⟩):p:=h
theorem UR(h:p:=by rintro⟨h1,h2,h3⟩;refine⟨h1,h2,?_⟩;rw[bD h1] at h3;simp only[fD,iY] at h3;rw[dQ] at h3;intro e he hb;have:=h3 e (by simpa[jA,h1] using he);grind):p:=h
theorem mAm(h:p:=by rw[jUo];have h1:=aK Act.tmps (zN ⟨sz,ds,none⟩ F (some p) (enc x));have h2:=aK Act.tmps (zN ⟨sz,ds,none⟩ (F.put p (enc x)) (some q) (qp x));have h3:(act ⟨sz,ds,none⟩ F).tmps.setIfInBounds p (enc x)=(act ⟨sz,ds,none⟩ (F.put p (enc x))).tmps:=h1;rw[h3];exact h2):p:=h
theorem mAn(h:p:=by apply Au;exact O;exact zT (Hp.start (M:=[])) (qJ O) O;rintro _ uy ⟨b4,rfl,hpo⟩;have ha:=ha.j1 hpo.Z;have hp:Hp W [] _ [bu b4 1 _ 289,_,_,_]:=hp.C hpo;refine⟨hp.Z,?_⟩;exact leaf _ _ ⟨a,pa,_,ot,b4,b5,ha,⟨O,O,O,O,O,O,trivial⟩,(hp.j4 [1,0,3] [_,_,_] O2 O)⟩):p:=h
theorem mAo(h:p:=by refine jL ?_;refine EH ?_;have e:=skip O1;exact⟨(k+1,s5,c5),qB (qB O5 (by rw[e];rfl)) O,⟨by show k+1≤_;omega,by show kg s5 c5 (kR s κ (k+1));rw[e];exact hD,by show Hp W [] _ [qG _ 255 2 s5 c5 (kR s κ (k+1))];rw[e];exact hp⟩,by show s.nc-(k+1)<s.nc-k;omega⟩):p:=h
theorem mAp(h:p:=by refine xO O O3 ?_ O;refine tK (HJ _ hZ yw O1) ?_;rintro _ w5 ⟨rfl,hk⟩;have hp:=hp.V hk;refine⟨hp.E,?_⟩;refine zP ?_;exact mA1):p:=h
theorem UQ(h:p:=by have hA:(D 10&&(D 11&&true))=_:=hA;simp[aJ,fJ] at hA;exact zI (zA O (hD.slot 10 hA.1 O O) (hD.slot 11 hA.2 O O) O O1) O (na 12 O2 O2)):p:=h
theorem Mq(h:p:=by refine qA ?_;obtain rfl:i=l.length:=O1;exact qM O O ⟨_,O,O,hk,hJ⟩):p:=h
theorem UP(h:p:=by have hA:(D 3&&(true&&true))=_:=hA;simp[aJ,fJ] at hA;exact zI (jN (hD.slot 3 hA O O) O) (qF (by rw[qK O1 O1];omega)) (na 4 O2 O2)):p:=h
theorem UO(h:p:=by have hA:(D 5&&(D 7&&true))=_:=hA;simp[aJ,fJ] at hA;exact zI (zA O (hD.slot 5 hA.1 O O) (hD.slot 7 hA.2 O O) O O1) O (na 8 O2 O2)):p:=h
theorem P7(h:p:=by have:=eg (#[.func (.yield (w.heap.size+1)) #[] #[]]++lb.toArray) W1;simp[invoke];grind):p:=h
theorem mAv(h:p:=by refine tR (xP O O (by show k≤64;omega)) (ke (vB O O O) (qF (by rw[ej])) ?_);refine qA (tO (zL eW z i _ hp 0 O hv xz O O (fun _=>O) O O (qD O)) fun w4 hp=>?_);refine Ae ?_;exact⟨i+1,_,qB O5 O,⟨O1,O6,qZa z x0 xz,hv.set _ _,hp⟩,O1⟩):p:=h
theorem mAw(h:p:=by exact zI (zA O (hD.slot 2 hA.1 O O) (hD.slot 4 hA.2.1 O O) O O1) O ⟨(hD.put (i:=15) O2).congr O1,fun _=>⟨by simp[hA],by simp[hA]⟩,fun _=>O6,fun h=>O6,fun _ h=>ng h8 O6,fun h=>zo (by rcases gJ _ _▸h with h|h;exact h;cases h)⟩):p:=h
theorem UN(h:p:=by have hA:(D 6&&true)=_:=hA;simp[aJ,fJ] at hA;exact zI (jN (hD.slot 6 hA O O) O) (qF (by rw[qK O1 O1];omega)) (na 7 O2 O2)):p:=h
theorem UM(h:p:=by rintro pre W W' ⟨hi,hl,hk⟩ hp;exact⟨hI _ _ _ hi (hp.mono O1),(hp.block _ O1).trans hl,(hp.block _ O1).trans hk⟩):p:=h
theorem mAz(h:p:=by have s1:ax (_::M) w1 W2:=⟨qv.os,qv.tape,qv.output,qv.size,fun k hk hm=>qv.block k hk (by simp at hm⊢;exact hm.1)⟩;have s2:=s1.trans zx (fun k hk=>.inr (by simp[hk]));exact s2.trans (yR W3 _ _) (fun k hk=>.inr O6)):p:=h
theorem mB0(h:p:=by rintro _ w5 ⟨rfl,zw⟩;have hp:=hp.V zw;refine⟨hp,?_⟩;rw[←hn];apply xH;exact O;exact O;exact zH (cs:=sv _) hp 0 O O O O (qD O) O O;rintro _ w6 ⟨rfl,hp⟩;refine qU (tM (64*(k+1)) ?_);refine qA ?_;exact Ig):p:=h
theorem mB1(h:p:=by rintro _ w' ⟨rfl,hp'⟩;exact⟨hD.congr (fun j hj=>by show(D _||Nat.beq _ 15)=_;rw[nh j hj,dL]),fun _=>⟨by simp[h9],O6⟩,fun h=>O4,fun h=>by simp at h,fun _ _=>hp',fun h=>absurd (hK (by simpa using h)) O6⟩):p:=h
theorem mB2(h:p:=by refine qA ?_;refine jW jG O3 (fun w'=>Hp w _ w' _) hp.U ?_;have hp:=hp.U;refine xA ?_;refine qU (tJ ?_);refine qH O (fun _=>?_) O1;refine tV ?_;exact⟨_,O,by rw[hn];rfl,hp.Z,by rw[hn];exact Hp.o7 hp 0 O⟩):p:=h
theorem mB3(h:p:=by rintro _ w9 ⟨rfl,ht⟩;refine⟨hp.V ht,?_⟩;have hp:=hp.V ht;refine qX (qU ?_);exact⟨(),qB O5 O,hp⟩):p:=h
theorem UL(h:p:=by refine tT fun w hp=>?_;refine qA ?_;exact zJ O O O O (hp.j2 4 O O) ⟨_,O,d,_,_,xs,O,hG,hD hp,hp.Z⟩):p:=h
theorem P6(h:p:=by rintro u w' ⟨hu,hp'⟩;refine⟨hu,?_⟩;rw[TD,vF] at hp';exact hp'):p:=h
theorem mB6(h:p:=by rintro _ w' ⟨rfl,hp'⟩;exact⟨hD.congr (fun j hj=>by show(D _||Nat.beq _ 17)=_;rw[nf j hj,dL]),fun _=>⟨by simp[hA],by simp[hA]⟩,fun _=>O6,fun h=>O6,fun _ h=>by simp at h,fun _=>hp'⟩):p:=h
theorem mB7(h:p:=by rintro D F w4 hD ⟨hm,_,_,_,_,zo⟩;have hp:=zo (hD 17 O2);rw[az] at hp;have hF:=hm.same.eq;rw[hF];subst ht;refine tM q ?_;refine qA ?_;refine⟨q,qB O5 O,⟨O1,?_,hp⟩,O1⟩;grind):p:=h
theorem Mp(h:p:=by refine Ck ?_;exact⟨_,qB O5 O,⟨O1,hp.E⟩,O1⟩):p:=h
theorem UK(h:p:=by rintro _ uy ⟨rfl,h8⟩;refine⟨hp.V h8,?_⟩;have hp:=hp.V h8;refine qX (qU ?_);exact nj):p:=h
theorem mBa(h:p:=by intro listed a w hq hQ _ _ h;have hl:left ops listed=[]:=aX O1;refine⟨?_,done _ _ _ hl h⟩;rw[lQ];intro i hi;have:=(xf _ i).1 hi;have hm:=zZ.2 ⟨this.1,this.2.1⟩;grind):p:=h
theorem mBb(h:p:=by have h:=jX3 (Ac a) (Ac b) (ki a.num.natAbs) (ki b.num.natAbs) (ki a.den) (ki b.den) w;rw[jD8] at h;unfold PV;unfold QV K4 at hx hy;simp[execOp,hx,hy,eqGuard,binOp,h]):p:=h
theorem FM(h:p:=by exact⟨_,O,O,hp.Z⟩):p:=h
theorem P5(h:p:=by rw[←va];exact(iZ _ _ _ O4).trans (World.alloc_heap_new w _)):p:=h
theorem UJ(h:p:=by simp only[execOp,resolve,bT,hx,Deferred.ofValue,dZ,aN,invoke];rw[ha];simpa using ai):p:=h
theorem mBf(h:p:=by refine ke (H5 (b:=1) O O O2) (qF (b:=(G-1:Nat)) (by unfold D8;omega)) (tM (k+1) ?_);refine KV ?_;refine qA ?_;exact⟨_,_,qB O5 O,⟨fc,yq,yr,hp⟩,O1⟩):p:=h
theorem KL(h:p:=by refine tV ?_;exact⟨_,O,qF O1,hp.Z⟩):p:=h
theorem FL(h:p:=by refine KX ?_;exact Ig):p:=h
theorem mBi(h:p:=by refine qA ?_;refine AB (qC O Py (by rw[x1];rfl) (JN hp hv (by unfold maxLen;omega) x2 x0)) fun w2 s' c'⟨hd,hk⟩=>tV ?_;exact⟨_,O,s',c',O,hd,hk⟩):p:=h
theorem DT(h:p:=by simpa using this):p:=h
theorem mBk(h:p:=by have hA:(D 12&&true)=_:=hA;simp[aJ,fJ] at hA;exact zI (qS O (hD.slot 12 hA O O) (zS (oS (h15 O6)) 0 O hn (fun _=>O) hM 0 _ O)) O (na 13 O2 O2)):p:=h
theorem mBl(h:p:=by have hA:(D 8&&true)=_:=hA;simp[aJ,fJ] at hA;exact zI (qS O (hD.slot 8 hA O O) (zS (oS (h15 O6)) 0 O hn (fun _=>O) ee 0 _ O)) O (na 9 O2 O2)):p:=h
theorem P4(h:p:=by rw[xy];exact⟨g2,ee,⟨O,O,O,O,trivial⟩,hp.E.E⟩):p:=h
theorem mBn(h:p:=by simp[Q.best,Q.o6,if_pos h0];refine⟨O4,fun _=>h.td.fin h0,fun _=>O,fun _ T' hg=>?_⟩;have:=hg.len;rw[h0] at this;rw[aX this];exact aS _):p:=h
theorem mBo(h:p:=by obtain⟨N,hN⟩:∃N:Nat,d.po=N:=⟨d.po.toNat,O1⟩;obtain⟨K,hK⟩:∃K:Nat,d.pi=K:=⟨d.pi.toNat,O1⟩;rw[hN,hK,Gx O1];exact Rl O1):p:=h
theorem Mn(h:p:=by refine qU (tB ?_);refine qA ?_;exact P9):p:=h
theorem UI(h:p:=by refine Ae ?_;refine⟨k+1,qB O5 O,⟨O1,fun i hi=>?_,hp⟩,O1⟩;grind):p:=h
theorem P3(h:p:=by simp only[PV,execOp,hx,hy,asBool,uW];cases c<;>rfl):p:=h
theorem P2(h:p:=by refine qR ?_;refine tQ fun w1 b2 hp=>?_;exact nj):p:=h
theorem mBt(h:p:=by refine xO O O3 ?_ O;refine tK (yt _ hp.Z) ?_;rintro _ w4 ⟨rfl,hk⟩;have hp:=hp.V hk;refine⟨hp.E,?_⟩;refine zP ?_;exact mA5):p:=h
theorem mBu(h:p:=by have h2:Nat.beq s (b+i)=_:=jJ O1;simp[Fr.put,h2,oB];exact h.out s hs):p:=h
theorem UH(h:p:=by refine qU (tB ?_);refine qA ?_;exact⟨k+1,qB O5 O,⟨O1,hp⟩,O1⟩):p:=h
theorem P1(h:p:=by rw[←va,qs];exact run_enterLoop_outer _ _ _ _ _):p:=h
theorem UG(h:p:=by obtain⟨o,ho,hr⟩:=h;exact(Hp.start).k9 O4 ho hr (fun i p hi=>O6)):p:=h
theorem mBy(h:p:=by refine xO O O3 ?_ O;refine tK (yy _) ?_;rintro _ w4 ⟨rfl,hk⟩;have hp:=hp.V hk;refine⟨hp.E,?_⟩;refine zP ?_;exact mAp):p:=h
theorem UF(h:p:=by rw[hE];have:((ba*m:Nat):Int)≤281474976710656:=O1;rwa[dM] at this):p:=h
theorem Mm(h:p:=by unfold kz at hs;simpa[hg] using hs):p:=h
theorem mC1(h:p:=by rintro _ w1 ⟨⟨r,rfl,hr⟩,hk⟩;have hp:=hp.V hk;refine ke (vE O O) (qV ((Zu r).trans (jEq hr))) (tV ?_);exact FM):p:=h
theorem UE(h:p:=by simp only[execOp,resolve,bT,dZ,aN,invoke,builtin];simp[hx,hy,ai]):p:=h
theorem PZ(h:p:=by exact⟨fun _=>(h v w' hr).1,(h v w' hr).2⟩):p:=h
theorem PY(h:p:=by simp[PV,execOp,hx,hy,eqGuard,binOp,Op.intCmp]):p:=h
theorem PX(h:p:=by rw[zF];simp only[resolve,hg];simp[go_sem];rfl):p:=h
theorem PW(h:p:=by rw[World.putObj_heap_same (aM.1 qx).1,qs];rfl):p:=h
theorem Hb(h:p:=by refine jL ?_;exact Fq):p:=h
theorem mC8(h:p:=by have h1:=jJ hZ;rw[h1,dL] at hD;have h2:Nat.beq (b+j) (b+i)=_:=jJ O1;simp[Fr.put,h2,oB];rw[h.at_ j hj hD,hV j hj hZ]):p:=h
theorem mC9(h:p:=by cases s<;>simp[Builtin.append_,jQ ht,hs.run,Builtin.lenOf,Builtin.firstCells,loadCells,loadCellsFrom,h2,storeCells]):p:=h
theorem mCa(h:p:=by have hV:=xo j hb;rw[aO] at hV hU;rw[bD (show j<listed.size by omega)] at hV hU;simp at hV hU;rw[hV] at hU;cases hU):p:=h
theorem mCb(h:p:=by rintro _ w6 ⟨s',c',rfl,hs,vy⟩;have hp:=hp.V vy;refine qA ?_;rw[xy,qT];exact qM O O ⟨_,O,s',c',O,hs,hp.Z⟩):p:=h
theorem UD(h:p:=by refine tV ?_;exact⟨_,O,⟨_,O,.inr ⟨k,O,O6⟩⟩,hp.Z⟩):p:=h
theorem If(h:p:=by refine Ae ?_;exact P9):p:=h
theorem mCe(h:p:=by unfold EY;rw[kh,rn.1,rn.2,jH (f:=fun i=>(rg i,s.K+1,rc i)) (g:=fun i=>(ra i,s.K+1,rb i)) (fun i hi=>O6)]):p:=h
theorem mCf(h:p:=by have h:=GX (P:=prog) (w:=w) (d:=d) (ty:=ty) (pos:=pos) (aft:=aft) (g:=g) (t:=t) (t':=t') hx hy O1;grind):p:=h
theorem mCg(h:p:=by rw[←hq];refine qA ?_;refine ke (qO O O) (qF (b:=b0+1+(t+1:Nat)) (by rw[qK O1 O1];omega)) (qA ?_);exact Ig):p:=h
theorem PU(h:p:=by rw[←va];exact(vP w _).trans (vP _ _) O4):p:=h
theorem mCi(h:p:=by refine xO O O3 ?_ O;refine tG (HG _ zi ri oP O2) fun w5 hp=>?_;refine zP ?_;refine xO O O3 ?_ O;exact UT):p:=h
theorem mCj(h:p:=by rintro _ w3 ⟨⟨sA,cA,rfl⟩,hk⟩;have hp:=hp.V hk;refine qA ?_;refine qH O O1 (fun _=>tV ?_);exact FM):p:=h
theorem mCk(h:p:=by refine hP e.on O1 ?_ j hX;rw[aO] at hl⊢;rw[bD (show e.on<listed.size by omega)] at hl⊢;simpa using hl):p:=h
theorem Ml(h:p:=by have:=hp.own 1 _ O mb O;exact DT):p:=h
theorem mCm(h:p:=by refine qA ?_;refine⟨_,qB O5 O,⟨O1,?_⟩,O1⟩;grind):p:=h
theorem mCn(h:p:=by have hp:=hp.E.E;rw[h6] at hn⊢;refine Ae ?_;refine⟨(q+1,s',c'),qB O5 O,⟨O1,hn,?_⟩,O1⟩;grind):p:=h
theorem mCo(h:p:=by refine tD (Aw 0 _ O2) fun w1 hp=>?_;refine tD (Eh x 0 _ hx (Fit.small O2)) fun w2 hp=>?_;exact nj):p:=h
theorem mCp(h:p:=by cases e;refine⟨_,_,O,fun j v hj=>?_⟩;have:=hc j v hj;rwa[show 0+1*3+k*3+j=0+(k+1)*3+j by omega]):p:=h
theorem mCq(h:p:=by apply dI;intro i;simp only[bH,List.getElem?_modify];by_cases hi:k=i<;>simp[hi]<;>cases l[i]?<;>rfl):p:=h
theorem mCr(h:p:=by refine xA (qU ?_);refine jB O ?_;refine Ae ?_;refine⟨k+1,?_,⟨O1,hp.E⟩,O1⟩;rw[xy];exact O5):p:=h
theorem UC(h:p:=by exact⟨(k+1,cs),qB O5 O,⟨O1,hh,hb,hq,hp.E⟩,O1⟩):p:=h
theorem Jm(h:p:=by refine Ck ?_;exact Ig):p:=h
theorem PT(h:p:=by unfold kx at hz;simpa[hg] using hz):p:=h
theorem mCv(h:p:=by exact leaf _ _ ⟨a,pa,_,ot,b4,b5,ha,⟨O,O,O,O,O,O,trivial⟩,(hp.j4 [0,2,3] [_,_,_] O2 O)⟩):p:=h
theorem mCw(h:p:=by exact leaf _ _ ⟨a,pa,_,ot,b4,b5,ha,⟨O,O,O,O,O,O,trivial⟩,(hp.j4 [2,0,3] [_,_,_] O2 O)⟩):p:=h
theorem UB(h:p:=by refine qA ?_;exact xK O ⟨_,O,hp.Z,Hp.o7 hp 0 O⟩):p:=h
theorem mCy(h:p:=by unfold BC;rw[if_pos h];have:=Gx (n:=d.po.toNat) (k:=d.pi.toNat) O1;rwa[pH O1,pH O1] at this):p:=h
theorem mCz(h:p:=by refine Fv ?_;exact⟨_,qB (qB O5 (aK (fun t:Nat=>Value.int _ t) vu.symm)) O,⟨O1,O⟩,O1⟩):p:=h
theorem mD0(h:p:=by refine jL ?_;refine EH ?_;exact⟨k+1,qB (qB O5 (by rw[e];rfl)) O,⟨O1,g',h8,hp.E⟩,O1⟩):p:=h
theorem PS(h:p:=by refine qA ?_;exact xK O ⟨_,O,am⟩):p:=h
theorem Mk(h:p:=by refine jL (jB O ?_);exact nj):p:=h
theorem mD3(h:p:=by obtain rfl:i=S.length:=O1;refine tV ?_;exact⟨_,O,s1,c1,O,qZ hp 0 O hv (fun _=>O),hp.Z⟩):p:=h
theorem Jl(h:p:=by refine qA ?_;exact Ee):p:=h
theorem UA(h:p:=by exact yP O O O O O (hp.j2 0 O O) ⟨_,O,O,hp.Z⟩):p:=h
theorem mD6(h:p:=by refine⟨s',c',by rw[e1],by unfold kg;rw[e1];exact h2,?_⟩;unfold qG;rw[e1,e2];exact h3):p:=h
theorem Uz(h:p:=by simp[PV,execOp,hx,hy,eqGuard,binOp,Op.intArith]):p:=h
theorem Uy(h:p:=by exact zJ O O O O (hp.j2 1 O O) ⟨_,O,O,hp.Z⟩):p:=h
theorem Ux(h:p:=by have:=hU h5;rcases h with h|h<;>simp[h] at this):p:=h
theorem mDa(h:p:=by obtain⟨e,he,h1⟩:=rK.1 hk;have h2:=dO.1 h e he;rw[aJ] at h1;have h3:=bV h1.2;grind):p:=h
theorem mDb(h:p:=by refine⟨w2,?_,k1.trans k2 (fun k hk=>.inr hk),b2⟩;simp[storeCells,yC,bT,r1,aN,r2]):p:=h
theorem mDc(h:p:=by refine tY fun hp=>?_;refine tH (jVk _ _ _) fun w1 hp=>?_;refine qX (qU ?_);exact nj):p:=h
theorem Uw(h:p:=by simpa using h3 e (by simpa[jA,h1] using he) hb):p:=h
theorem mDe(h:p:=by rw[show 0+A.length*1+vl.length*1=0+(A.length+vl.length)*1+0 from by omega];exact x3):p:=h
theorem mDf(h:p:=by refine L0 O O (NN ?_);have hp:=ay;refine qA ?_;exact Z9 O O O a7 ⟨_,O,O,a6⟩):p:=h
theorem KK(h:p:=by refine AL ?_;exact Fq):p:=h
theorem mDh(h:p:=by refine qX ?_;refine tK (r61 a d s c N m lv X _ hK hf O1 (hP.tot O1)) ?_;exact mB3):p:=h
theorem mDi(h:p:=by refine tM (n+1) ?_;refine qA ?_;exact⟨_,qB (qB O5 (qF O1)) O,⟨O1,hp⟩,O1⟩):p:=h
theorem mDj(h:p:=by have:=(BE.of (Y:=[]) (by rw[bO];exact hp.x (dA _ _)) ok).h20;rwa[x4,x6] at this):p:=h
theorem mDk(h:p:=by refine qA ?_;exact xU O O O ⟨_,O,by rw[if_pos h];exact⟨s',c',O,hs⟩,hp.Z⟩):p:=h
theorem mDl(h:p:=by rw[aO] at hY⊢;rw[bD (show e.on<listed.size by omega)] at hY⊢;simpa using hY):p:=h
theorem mDm(h:p:=by refine kp O (fun w hp=>zW O O) (qV (aD O)) (qX ?_);refine qU (qA ?_);exact Fq):p:=h
theorem KJ(h:p:=by refine qA ?_;exact Ig):p:=h
theorem mDo(h:p:=by rw[jUp];have:=zN ⟨sz,ds,none⟩ F (some p) (enc x);exact aK Act.tmps this):p:=h
theorem mDp(h:p:=by obtain⟨o,ho,hr⟩:=h;exact⟨o,(hk.block b (aM.1 ho).1 hb).trans ho,hr⟩):p:=h
theorem mDq(h:p:=by refine tV ?_;exact⟨_,O,O,hp.Z,hp.H zy fc,hp.H zw yq,hp.N 0 _ O mb O⟩):p:=h
theorem mDr(h:p:=by refine tD (BY x x _ us us) fun w5 hp=>?_;rw[IF];refine qA ?_;exact Fq):p:=h
theorem Uv(h:p:=by exact⟨k+1,qB O5 O,⟨O1,hp.E⟩,O1⟩):p:=h
theorem mDt(h:p:=by refine qA ?_;refine⟨_,_,?_,O1,O1,hp,O,O,trivial⟩;rw[e1,eK,←fN]):p:=h
theorem mDu(h:p:=by exact⟨O,Hp.aD3 ay hp.Z (hp.N 0 _ O mb O) (hp.N 1 _ O gb O),hp.Z⟩):p:=h
theorem Uu(h:p:=by unfold DN at h;rw[bV hn] at h;exact h):p:=h
theorem mDw(h:p:=by rw[show 0+A.length*1+i*1=0+(A.length+i)*1+0 from by omega];exact x3):p:=h
theorem Ut(h:p:=by rw[results_tmp h];rw[←hv,←zF];rfl):p:=h
theorem Us(h:p:=by refine tV ?_;exact⟨_,O,g,O,hv,hp⟩):p:=h
theorem Ur(h:p:=by subst this;exact⟨.inl O,o',oc,ha⟩):p:=h
theorem T9(h:p:=by rw[e1,jJ (show j≠16 by omega),jJ h]):p:=h
theorem mE1(h:p:=by refine jL ?_;refine EH ?_;exact⟨k+1,qB O5 O,⟨O1,hp⟩,O1⟩):p:=h
theorem mE2(h:p:=by have:(some gb:Option Nat)=some b1:=oa;simpa[eq_comm] using this):p:=h
theorem mE3(h:p:=by rintro v w1 ⟨hk,oe⟩;refine qA ?_;exact xK O ⟨_,O,hk,oe⟩):p:=h
theorem mE4(h:p:=by rw[oy];exact⟨ok.C,ok.P,ok.S,ok.K,ok.D,ok.X,ok.L,ok.k,ok.l⟩):p:=h
theorem mE5(h:p:=by refine qA ?_;exact xU O O O ⟨_,O,by rw[if_neg h];rfl,hp.Z⟩):p:=h
theorem mE6(h:p:=by refine qA ?_;exact yP O O O O O (hp.j2 1 O O) ⟨_,O,O,hp.Z⟩):p:=h
theorem T8(h:p:=by rintro a w ⟨F',rfl,hw⟩;exact hw):p:=h
theorem mE8(h:p:=by refine tD (Ik X.length _ O1) fun w2 hp=>?_;rw[hz];exact nj):p:=h
theorem mE9(h:p:=by unfold isAgg;simp[bT,jQ h,aN];cases d<;>first|rfl|cases h1):p:=h
theorem mEa(h:p:=by rw[←qGi];simp[PV,execOp,hx,hy,eqGuard,binOp,Op.stringOp]):p:=h
theorem mEb(h:p:=by obtain⟨k,hk⟩:=h;obtain⟨q,hq⟩:=h2;exact⟨k+q,O6⟩):p:=h
theorem mEc(h:p:=by refine tD (Bz d.po _ _ O1) fun w2 hp=>?_;rw[hz];exact nj):p:=h
theorem mEd(h:p:=by have:=uK hF.srt (fun i _=>bL i) hF.lt;rw[aH] at this;omega):p:=h
theorem mEe(h:p:=by cases v<;>first|(cases h1;done)|simp[store,Sem.run,hc,hf]):p:=h
theorem mEf(h:p:=by intro u hu;have:=h1 u hu;cases u<;>first|rfl|(cases this)):p:=h
theorem mEg(h:p:=by refine qR ?_;exact⟨O,no (by simp only[AF,dV];grind)⟩):p:=h
theorem mEh(h:p:=by have:=aX (by simpa using hr);subst this;simp[Instr.fill]):p:=h
theorem mEi(h:p:=by have hp:=hp.I 1 (eQ (yK y _)) O (by rw[e];rfl);exact Jn):p:=h
theorem T7(h:p:=by unfold Instr.checkKey;simp[jQ h]):p:=h
theorem T6(h:p:=by rw[if_neg O1] at this;exact this):p:=h
theorem mEl(h:p:=by refine ke (zX O O O) (qF (qK O1 O1)) (tV ?_);exact FM):p:=h
theorem mEm(h:p:=by refine E0 ?_;exact qM O O ⟨_,O,O,KB.of hp.Z,xb hp⟩):p:=h
theorem mEn(h:p:=by unfold WP;rw[ky.k5 hr];exact rJ.2 (qPm hm ha G hG h)):p:=h
theorem mEo(h:p:=by rw[hw] at this;rw[zN];exact⟨fun _=>this.1,this.2⟩):p:=h
theorem mEp(h:p:=by refine qA ?_;exact⟨x1,n1,e1,O1,O1,hp,O,O,trivial⟩):p:=h
theorem mEq(h:p:=by refine xA (qU ?_);refine jB O (tM (j+1) ?_);exact mCm):p:=h
theorem mEr(h:p:=by refine KX ?_;exact⟨_,qB O5 O,⟨O1,hR,hp⟩,O1⟩):p:=h
theorem mEs(h:p:=by exact ha (bu b 1 (qE [.int _ (oI (pk _ []))]) 3) fX):p:=h
theorem mEt(h:p:=by rintro _ w2 ⟨x,rfl,hx,hk⟩;exact⟨O,x,O,hx,hk⟩):p:=h
end
section
open List (range range' replicate)
abbrev Ad(b:Nat):Option Addr:=some ⟨b,0,none⟩
abbrev Iv(z:Int):Value:=.int .i64 z
abbrev Zs:Value:=.slice none 0 0
end
open List (range range' replicate)
abbrev aA:=@List.getElem?_eq_getElem
abbrev aB:=@decide_eq_false
abbrev aC:=@List.getD_eq_getElem?_getD
abbrev aD:=@decide_eq_true
abbrev aF:=@List.take_succ_eq_append_getElem
abbrev aG:=@List.mem_of_getElem?
abbrev aH:=@List.length_map
abbrev aI:=@List.getElem?_eq_some_iff
abbrev aJ:=@Bool.and_eq_true
abbrev aK:=@congrArg
abbrev aL:=@Nat.mul_le_mul_right
abbrev aM:=@Array.getElem?_eq_some_iff
abbrev aN:=@Go.Result.andThen_ok
abbrev aO:=@Array.getD_eq_getD_getElem?
abbrev aP:=@List.mem_cons
abbrev aQ:=@List.mem_append_right
abbrev aR:=@List.mem_range
abbrev aS:=@Nat.le_refl
abbrev aT:=@List.drop_eq_getElem_cons
abbrev aX:=@List.eq_nil_of_length_eq_zero
abbrev aY:=@List.length_append
abbrev aZ:=@Nat.mod_eq_of_lt
abbrev bD:=@Array.getElem?_eq_getElem
abbrev bF:=@Nat.le_trans
abbrev bG:=@Nat.pow_le_pow_right
abbrev bH:=@List.getElem?_map
abbrev bJ:=@List.take_of_length_le
abbrev bL:=@Nat.zero_le
abbrev bM:=@List.mem_map
abbrev bO:=@List.append_nil
abbrev bQ:=@List.pairwise_cons
abbrev bT:=@Go.Sem.run_bind
abbrev bU:=@List.append_assoc
abbrev bV:=@Nat.eq_of_beq_eq_true
abbrev bW:=@Nat.lt_of_le_of_lt
abbrev bX:=@List.getElem_mem
abbrev bY:=@List.getElem?_eq_none
abbrev bZ:=@Classical.byContradiction
abbrev cF:=@List.length_cons
abbrev cJ:=@List.length_take
abbrev cZ:=@List.length_range
abbrev dA:=@List.sublist_append_right
abbrev dC:=@Nat.mul_comm
abbrev dD:=@List.mem_append_left
abbrev dE:=@Nat.mul_le_mul
abbrev dF:=@List.take_length
abbrev dG:=@Nat.eq_zero_or_pos
abbrev dH:=@Nat.lt_succ_iff_lt_or_eq
abbrev dI:=@List.ext_getElem?
abbrev dJ:=@Nat.mul_le_mul_left
abbrev dK:=@Nat.lt_of_lt_of_le
abbrev dL:=@Bool.or_false
abbrev dM:=@Int.natCast_mul
abbrev dO:=@List.all_eq_true
abbrev dP:=@List.take_append_drop
abbrev dQ:=@Array.all_eq_true_iff_forall_mem
abbrev dR:=@List.map_append
abbrev dT:=@Rat.mul_le_mul_of_nonneg_left
abbrev dU:=@Nat.pow_succ
abbrev dV:=@decide_eq_true_eq
abbrev dW:=@Int.toNat_natCast
abbrev dX:=@List.pairwise_iff_getElem
abbrev dY:=@Nat.mod_lt
abbrev dZ:=@Go.Sem.run_pure
abbrev eF:=@List.perm_append_comm
abbrev eJ:=@List.nodup_iff_pairwise_ne
abbrev eK:=@Nat.pow_add
abbrev eL:=@Nat.add_mul
abbrev eM:=@Nat.min_eq_left
abbrev eO:=@Nat.div_lt_iff_lt_mul
abbrev eX:=@List.range_succ
abbrev eY:=@List.sublist_append_left
abbrev fA:=@Bool.false_eq_true
abbrev fD:=@Option.map_some
abbrev fE:=@List.mem_cons_of_mem
abbrev fG:=@List.map_cons
abbrev fH:=@Nat.le_of_ble_eq_true
abbrev fJ:=@and_true
abbrev fK:=@List.mem_append
abbrev fN:=@Nat.div_div_eq_div_mul
abbrev fO:=@List.pairwise_append
abbrev fQ:=@List.getElem?_append_right
abbrev fR:=@List.length_drop
abbrev fV:=@decide_eq_false_iff_not
abbrev fW:=@List.length_set
abbrev fX:=@List.mem_cons_self
abbrev fY:=@Nat.add_zero
abbrev fZ:=@List.getElem?_of_mem
abbrev gE:=@List.mem_of_mem_take
abbrev gF:=@Nat.zero_add
abbrev gI:=@Rat.intCast_natCast
abbrev gJ:=@Bool.or_eq_true
abbrev gK:=@Nat.pow_lt_pow_right
abbrev gM:=@List.getElem?_set
abbrev gO:=@Nat.mul_assoc
abbrev gT:=@List.mem_singleton
abbrev gU:=@Nat.pow_pos
abbrev gZ:=@Nat.sub_self
abbrev iA:=@Bool.eq_iff_iff
abbrev iB:=@Nat.div_eq_of_lt
abbrev iC:=@Nat.add_sub_cancel_left
abbrev iD:=@Rat.mul_nonneg
abbrev iE:=@Int.emod_lt_of_pos
abbrev iF:=@List.foldl_cons
abbrev iG:=@List.mem_filter
abbrev iH:=@Nat.div_le_self
abbrev iI:=@Int.natCast_emod
abbrev iJ:=@Nat.mul_add
abbrev iK:=@List.countP_le_length
abbrev iL:=@Go.World.block_lt_of_cell?
abbrev iM:=@List.countP_append
abbrev iN:=@Int.emod_nonneg
abbrev iO:=@Rat.mkRat_eq_div
abbrev iP:=@Nat.mul_pos
abbrev iQ:=@List.eq_nil_or_concat
abbrev iR:=@List.Perm.swap
abbrev iS:=@Array.getElem?_setIfInBounds
abbrev iT:=@Nat.div_add_mod
abbrev iU:=@List.map_map
abbrev iV:=@Nat.succ_mul
abbrev iW:=@decide_eq_true_iff
abbrev iX:=@if_false
abbrev iY:=@Option.getD_some
abbrev iZ:=@Go.RowKit.Below.heap_alloc
abbrev kI:=@List.length_eraseIdx_of_lt
abbrev kZ:=@List.take_add_one
abbrev lA:=@Go.wpIn_mono
abbrev lB:=@List.length_pos_iff
abbrev lC:=@List.reverse_append
abbrev lD:=@List.flatMap_append
abbrev lF:=@List.map_congr_left
abbrev lG:=@Nat.pow_mul
abbrev lI:=@Option.some.inj
abbrev lJ:=@Rat.natCast_mul
abbrev lK:=@Nat.add_mul_mod_self_left
abbrev lL:=@List.mem_take_iff_getElem
abbrev lM:=@List.length_replicate
abbrev lO:=@Array.getElem?_modify
abbrev lP:=@List.set_append_right
abbrev lQ:=@List.eq_nil_iff_forall_not_mem
abbrev lR:=@Int.natAbs_natCast
abbrev lS:=@List.countP_cons
abbrev lT:=@List.drop_length
abbrev lU:=@Nat.lt_or_ge
abbrev lV:=@Bool.not_eq_true'
abbrev lW:=@List.countP_congr
abbrev lZ:=@Nat.gcd_dvd_right
abbrev mC:=@List.nil_append
abbrev mD:=@List.filter_eq_self
abbrev mE:=@List.getElem?_range
abbrev mG:=@List.drop_eq_nil_of_le
abbrev mH:=@Nat.one_mul
abbrev mI:=@List.getElem_map
abbrev mJ:=@List.mem_nil_iff
abbrev mL:=@List.cons_append
abbrev mM:=@List.filter_filter
abbrev mN:=@Nat.lt_of_mul_lt_mul_right
abbrev mO:=@List.filter_append
abbrev mQ:=@List.Perm.append_left
abbrev mR:=@List.concat_eq_append
abbrev mS:=@List.length_nil
abbrev mU:=@Nat.not_lt_zero
abbrev mV:=@of_decide_eq_true
abbrev mX:=@List.reverse_reverse
abbrev mY:=@Bool.or_true
abbrev mZ:=@List.set_eq_of_length_le
abbrev nC:=@Nat.gcd_pos_of_pos_right
abbrev nD:=@List.eraseIdx_eq_take_drop_succ
abbrev nE:=@List.replicate_succ
abbrev nF:=@List.getD_cons_succ
abbrev nG:=@List.getElem?_replicate
abbrev nH:=@Nat.le_add_right
abbrev nI:=@Nat.mod_one
abbrev nJ:=@Array.foldl_toList
abbrev nK:=@List.pairwise_lt_range
abbrev nM:=@Array.getElem_ofFn
abbrev nN:=@Nat.add_sub_cancel
abbrev nO:=@UInt8.toNat_ofNat'
abbrev nP:=@List.getElem?_drop
abbrev nQ:=@List.getElem_cons_drop
abbrev nR:=@Rat.sub_eq_add_neg
abbrev nS:=@Rat.intCast_mul
abbrev nT:=@Nat.two_pow_pos
abbrev nU:=@Nat.ble_eq_true_of_le
abbrev nV:=@Nat.le_div_iff_mul_le
abbrev nX:=@List.filter_congr
abbrev nY:=@List.flatMap_cons
abbrev nZ:=@List.Sublist.refl
abbrev oA:=@List.length_filter_lt_length_iff_exists
abbrev oB:=@cond_false
abbrev oD:=@Nat.add_mul_div_left
abbrev oF:=@Nat.mul_lt_mul_right
abbrev oG:=@List.perm_ext_iff_of_nodup
abbrev oH:=@Int.natAbs_mul
abbrev oJ:=@Array.toList_setIfInBounds
abbrev oL:=@List.perm_append_singleton
abbrev oM:=@Std.Legacy.Range.forIn_eq_forIn_range'
abbrev oN:=@List.filter_cons
abbrev oO:=@List.ext_getElem
abbrev oQ:=@Nat.mul_lt_mul''
abbrev oT:=@Nat.add_comm
abbrev oU:=@List.getElem_inj
abbrev oV:=@Nat.le_of_lt
abbrev oW:=@Go.IntKind.wrap_u64
abbrev oY:=@Nat.gcd_dvd_left
abbrev oZ:=@List.flatMap_map
abbrev pA:=@Nat.lt_succ_self
abbrev pB:=@List.mem_or_eq_of_mem_set
abbrev pC:=@List.drop_set_of_lt
abbrev pD:=@List.getElem_of_mem
abbrev pE:=@Nat.lt_mul_div_succ
abbrev pG:=@Nat.div_mul_le_self
abbrev pH:=@Int.toNat_of_nonneg
abbrev pI:=@List.map_take
abbrev pJ:=@List.all_cons
abbrev pK:=@Int.natCast_add
abbrev pL:=@List.nodup_cons
abbrev pM:=@Nat.div_lt_self
abbrev pN:=@List.getElem?_take
abbrev pP:=@Nat.mul_right_comm
abbrev pQ:=@Nat.mul_mod
abbrev pR:=@Rat.mul_pos
abbrev pS:=@Rat.le_refl
abbrev pT:=@Rat.natCast_eq_zero_iff
abbrev pU:=@List.findIdx?_eq_some_iff_getElem
abbrev pV:=@Go.callsIn_wide
abbrev pW:=@List.pairwise_map
abbrev pX:=@List.nodup_append
abbrev pY:=@List.take_sublist
abbrev pZ:=@List.drop_drop
abbrev rA:=@Nat.gcd_comm
abbrev rB:=@List.Sublist.cons
abbrev rC:=@Rat.le_trans
abbrev rD:=@Rat.mkRat_self
abbrev rE:=@List.reverse_perm
abbrev rF:=@List.length_filter_le
abbrev rG:=@Classical.choose_spec
abbrev rH:=@Array.ext
abbrev rJ:=@Go.wpIn_wide
abbrev rK:=@List.any_eq_true
abbrev rL:=@List.mem_flatMap
abbrev rM:=@BitVec.toNat_and
abbrev rN:=@Nat.and_two_pow_sub_one_eq_mod
abbrev rO:=@Go.World.size_alloc
abbrev rP:=@Array.toList_map
abbrev rQ:=@List.Nodup.length_le_of_subset
abbrev rS:=@List.take_set
abbrev rT:=@Nat.le_of_dvd
abbrev rU:=@Nat.or_comm
abbrev rV:=@List.getElem?_set_ne
abbrev rW:=@Nat.mul_one
abbrev rX:=@Nat.pow_mod
abbrev rY:=@List.range'_append_1
abbrev rZ:=@Rat.inv_pos
abbrev sH:=@List.mem_of_getLast?
abbrev sJ:=@List.countP_eq_length_filter
abbrev sO:=@List.cons.injEq
abbrev sU:=@Rat.natCast_add
abbrev sZ:=@List.length_reverse
abbrev uX:=@Nat.pow_le_pow_left
abbrev wC:=@Array.length_toList
abbrev xB:=@Array.toList_zipIdx
abbrev xS:=@Array.getElem_setIfInBounds
abbrev yY:=@Nat.zero_mod
abbrev Ln:=@Nat.lt_trans
abbrev Lm:=@Int.pow_succ
abbrev Ll:=@decide_false
abbrev XL:=@List.idxOf_lt_length_of_mem
abbrev Lk:=@Nat.succ_pos
abbrev XK:=@Nat.two_pow_add_eq_or_of_lt
abbrev JK:=@Go.wpIn_block
abbrev XJ:=@Array.getElem_append_right
abbrev XI:=@Int.tdiv_eq_ediv_of_nonneg
abbrev Ry:=@Int.natCast_nonneg
abbrev XH:=@Nat.mod_mul_right_div_self
abbrev JJ:=@Nat.mod_le
abbrev XG:=@Nat.eq_of_mul_eq_mul_right
abbrev Ns:=@Go.Calls.mono
abbrev HA:=@or_false
abbrev XF:=@Nat.le_of_mul_le_mul_right
abbrev Nr:=@Go.size_madeCells
abbrev Rx:=@Nat.pos_of_ne_zero
abbrev XE:=@Nat.lt_of_mul_lt_mul_left
abbrev XD:=@List.getElem?_append_left
abbrev Rw:=@bne_self_eq_false
abbrev Rv:=@Nat.lt_trichotomy
abbrev XC:=@Option.isSome_iff_exists
abbrev Nq:=@Go.Oper.semAt_eq
abbrev Np:=@Nat.add_assoc
abbrev No:=@List.sum_cons
abbrev XO:=@List.eq_of_mem_replicate
abbrev XN:=@Int.mul_ediv_cancel_left
abbrev XM:=@List.Perm.eq_of_pairwise
abbrev RA:=@beq_self_eq_true
abbrev Rz:=@List.range'_succ
abbrev Lp:=@true_and
abbrev Nw:=@Nat.pow_zero
abbrev Lo:=@Nat.sub_le
abbrev Nv:=@Nat.sub_zero
abbrev Nu:=@List.map_nil
abbrev Lj:=@Rat.not_lt
abbrev Nm:=@Rat.le_of_lt
abbrev Ru:=@List.take_left'
abbrev Rs:=@Nat.mul_mod_mod
abbrev Rr:=@List.find?_cons
abbrev Rq:=@BitVec.toNat_or
abbrev Rp:=@Nat.le_add_left
abbrev Ro:=@List.drop_zero
abbrev Nl:=@List.map_id
abbrev Nk:=@Nat.mod_mod
abbrev Nj:=@Int.one_mul
abbrev Li:=@cond_true
abbrev Ni:=@Array.ext'
end Go
namespace Go.Eng
open List (range range' replicate)
open Go.Proofs.Tryz
variable{G:World→Prop}{K:Act→World→Prop}{P:Program}{a:Act}{i j:Nat}{listed:Array Bool}{o:Oper}{ops:Array Oper}{w w' wG:World}
def zC:Op→Bool
 | .move _|.assign _|.pick ..|.fieldAddr ..|.field ..|.load ..|.nilCheck _|.binOp ..|.unOp ..|.convert ..|.makeInterface ..
 | .makeFunc ..|.slice ..|.indexAddr ..|.index ..|.extract ..|.lookup ..|.build ..=>false
 | .call c=>match c.callee with|.builtin .len|.builtin .min|.builtin .max|.builtin .cap=>false|_=>true
 |_=>true
def LC:Op→Bool
 | .select ..=>false
 |_=>true
def Step(P:Program)(o:Oper)(a:Act)(w:World)(R:Value→World→Prop):Prop:=
 (∃v w',(execOp a.eval o).run P w= .ok (.value v) w'∧R v w')∨
 (∃w',(execOp a.eval o).run P w= .ok .skip w'∧R undef w')∨
 (∃f args w1,(execOp a.eval o).run P w= .ok (.enter f args) w1∧Calls P f args w1 (fun e w'=>∃v,e= .returned v∧R v w'))
theorem Step.mono{P o a w R R'}(h:Step P o a w R)(hr:∀v w',R v w'→R' v w'):Step P o a w R':=by
 rcases h with⟨v,w',h1,h2⟩|⟨w',h1,h2⟩|⟨f,args,w1,h1,h2⟩
 ·exact .inl ⟨v,w',h1,hr _ _ h2⟩
 ·exact .inr (.inl ⟨w',h1,hr _ _ h2⟩)
 exact .inr (.inr ⟨f,args,w1,h1,h2.mono fun e w' ⟨v,he,hv⟩=>⟨v,he,hr _ _ hv⟩⟩)
theorem Step.out{R}(h:Step P o a w R):∃v w',R v w':=by
 rcases h with⟨v,w',_,h2⟩|⟨w',_,h2⟩|⟨f,args,w1,_,h2⟩
 ·exact⟨v,w',h2⟩
 ·exact⟨_,w',h2⟩
 have⟨e,w',fr,⟨v,_,hv⟩,_⟩:=h2 [];exact⟨v,w',hv⟩
theorem Step.congr{a' R}(he:execOp a'.eval o=execOp a.eval o)(h:Step P o a w R):Step P o a' w R:=by
 unfold Step at*
 rw[he];exact h
theorem Step.wp{P o a w R K Q}(h:Step P o a w R)
  (hk:∀v w',R v w'→K (a.put o.dst v) w'):o.wp P a w K Q:=by
 unfold Oper.wp;rcases h with⟨v,w',h1,h2⟩|⟨w',h1,h2⟩|⟨f,args,w1,h1,h2⟩
 ·rw[h1];exact hk _ _ h2
 ·rw[h1];exact hk _ _ h2
 rw[h1];exact h2.mono fun e w' ⟨v,he,hv⟩=>by subst he;exact hk _ _ hv
def YV(P:Program)(ops:Array Oper)(G:World→Prop)(o:Oper)(a:Act)(v:Value):Prop:=
 (Region.wanted o (yielded ops a.tmps)=true∧∀w,G w→(execOp a.eval o).run P w= .ok (.value v) w)∨
 (Region.wanted o (yielded ops a.tmps)=false∧v=undef)
theorem YV.congr{a' v}(he:execOp a'.eval o=execOp a.eval o)
  (hw:Region.wanted o (yielded ops a'.tmps)=Region.wanted o (yielded ops a.tmps)) (h:YV P ops G o a v):YV P ops G o a' v:=by
 unfold YV at*
 rw[he,hw];exact h
theorem YV.aD4{v v'}(hw:G w)(h:YV P ops G o a v)(h':YV P ops G o a v'):v=v':=by
 rcases h with⟨h1,h2⟩|⟨h1,h2⟩<;>rcases h' with⟨h3,h4⟩|⟨h3,h4⟩
 ·have e1:=h2 w hw;have e2:=h4 w hw;rw[e1] at e2;simpa using e2
 ·rw[h1] at h3;cases h3
 ·rw[h1] at h3;cases h3
 rw[h2,h4]
def qh(P:Program)(ops:Array Oper)(o:Oper)(a:Act)(w:World)(K:Act→World→Prop):Prop:=
 (Region.wanted o (yielded ops a.tmps)=true→Step P o a w (fun v w'=>K (a.put o.dst v) w'))∧
 (Region.wanted o (yielded ops a.tmps)=false→K (a.put o.dst undef) w)
theorem qh.mono{P ops o a w K K'}(h:qh P ops o a w K)(hk:∀a w,K a w→K' a w):qh P ops o a w K':=
 ⟨fun hw=>(h.1 hw).mono fun _ _=>hk _ _,fun hw=>hk _ _ (h.2 hw)⟩
def wl(P:Program):Op→Bool
 | .move _|.assign _=>true
 | .fieldAddr s _ i=>match P.underlying s with
  |some (.struct fs)=>match fs[i]? with
   |some f=>match (P.info? f.type).map (·.size) with
    |some (_+1)=>true
    |_=>false
   |none=>false
  |_=>false
 | .indexAddr t _ _=>match P.underlying t with
  |some (.slice e)=>(P.info? e).isSome
  |_=>false
 |_=>false
theorem SK{ρ v}(h:wl P o.op=true)(hr:(execOp ρ o).run P w= .ok (.value v) w):(execOp ρ o).run P w'= .ok (.value v) w':=by
 cases o with
 |mk dst op ty pos aft g=>
  cases op<;>first|(cases h;done)|skip
  ·simpa[execOp] using hr
  ·simpa[execOp] using hr
  ·rename_i s x i
   simp only[wl] at h;split at h
   ·rename_i fs hfs
    split at h
    ·rename_i f hf
     split at h
     ·rename_i k hk
      have ha:∀w,(sizeOf f.type).run P w= .ok (k+1) w:=by
       intro w;cases hi:P.info? f.type with
       |none=>simp[hi] at hk
       |some inf=>simp[hi] at hk;simp[sizeOf,typeInfo,hi,hk]
      have hu:∀w,(underlying s).run P w= .ok (.struct fs) w:=fun w=>by simp[underlying,hfs]
      simp only[execOp,Instr.fieldAt,bT,hu,aN,hf] at hr⊢;cases hx:ρ x with
      |pointer a=>
       cases a with
       |none=>simp[hx,Instr.sureAddr] at hr
       |some a=>
        simp[hx,Instr.sureAddr,fieldPlace,ha] at hr⊢;exact hr
      |_=>simp[hx,Instr.sureAddr] at hr
     cases h
    cases h
   cases h
  rename_i t x y
  simp only[wl] at h;split at h
  ·rename_i e he
   have⟨inf,hg⟩:=XC.1 h;have ha:∀w,(sizeOf e).run P w= .ok inf.size w:=fun w=>by simp[sizeOf,typeInfo,hg]
   have hu:∀w,(underlying t).run P w= .ok (.slice e) w:=fun w=>by simp[underlying,he]
   simp only[execOp,Instr.indexAt,bT] at hr⊢;cases hy:ρ y with
   |int k i=>
    cases hx:ρ x with
    |slice b m c=>
     cases b with
     |none=>
      simp[hy,hx,asIntOf,hu,boundsPanic,runtimePanic] at hr;split at hr<;>(try split at hr)<;>cases hr
     |some a=>
      by_cases hb:0≤i∧i<m
      ·simp[hy,hx,asIntOf,hu,ha,hb] at hr⊢;exact hr
      simp[hy,hx,asIntOf,hu,hb,boundsPanic,runtimePanic] at hr;split at hr<;>(try split at hr)<;>cases hr
    |_=>simp[hy,hx,asIntOf,hu] at hr
   |pointer p=>cases p<;>simp[hy,asIntOf] at hr
   |_=>simp[hy,asIntOf] at hr
  cases h
def AA(P:Program)(ops:Array Oper)(nd:Oper→Bool)(G:World→Prop)(K:Act→World→Prop):List Oper→Act→World→Prop
 |[],a,w=>K a w
 |o::rest,a,w=>
  if zC o.op then qh P ops o a w (fun a' w'=>(nd o=true→G w')∧AA P ops nd G K rest a' w')
  else∃v,YV P ops G o a v∧AA P ops nd G K rest (a.put o.dst v) w
def jA(ops:Array Oper)(i:Nat):Oper:=ops.getD i default
def Gq(ops:Array Oper)(p i:Oper):Bool:=p.apart ops i&& !(zC p.op&&zC i.op)&&LC p.op&&LC i.op
section
variable{nd:Oper→Bool}
theorem NT(h:LC o.op=true):∀cs b,o.op≠.select cs b:=by
 intro cs b e;rw[e] at h;cases h
theorem jW9(hD:G wG)(i:Nat):∀(l:List Nat) (a:Act) (w:World),AA P ops nd G K (l.map (jA ops)) a w→i∈l→l.Pairwise (·<·)→
  (∀j∈l,j<i→Gq ops (jA ops j) (jA ops i)=true)→
  if zC (jA ops i).op then qh P ops (jA ops i) a w (fun a' w'=>(nd (jA ops i)=true→G w')∧AA P ops nd G K ((l.filter (· !=i)).map (jA ops)) a' w')
  else∃v,YV P ops G (jA ops i) a v∧AA P ops nd G K ((l.filter (· !=i)).map (jA ops)) (a.put (jA ops i).dst v) w:=by
 intro l;induction l with
 |nil=>intro a w _ h;cases h
 |cons p rest ih=>
  intro a w h hi hs hm;have⟨hq,h4⟩:=bQ.1 hs;by_cases hp:p=i
  ·subst hp;have hf:(p::rest).filter (· !=p)=rest:=by
    rw[oN];simp only[Rw,fA,iX];rw[mD];intro x hx;have:=hq x hx;simp;omega
   rw[hf];simpa[AA] using h
  have ht:i∈rest:=by
   rcases aP.1 hi with e|e
   ·exact absurd e.symm hp
   exact e
  have hl:p<i:=hq i ht;have hy:=hm p O4 hl;have hK:∀j∈rest,j<i→Gq ops (jA ops j) (jA ops i)=true:=fun j hj=>hm j (by simp[hj])
  have hf:(p::rest).filter (· !=i)=p::rest.filter (· !=i):=by
   rw[oN,if_pos (by simpa using hp)]
  rw[hf,fG];simp only[Gq,aJ,lV,Bool.and_eq_false_iff] at hy;have⟨⟨⟨hL,hE⟩,h7⟩,hF⟩:=hy;have⟨h1,h2,h3⟩:=Oper.apart_spec hL;have ei:∀(a:Act) (v:Value),execOp (a.put (jA ops p).dst v).eval (jA ops i)=execOp a.eval (jA ops i):=fun a v=>execOp_put _ (NT hF) a _ v h1
  have ep:∀(a:Act) (v:Value),execOp (a.put (jA ops i).dst v).eval (jA ops p)=execOp a.eval (jA ops p):=fun a v=>execOp_put _ (NT h7) a _ v h3
  have wi:∀(a:Act) (v:Value),Region.wanted (jA ops i) (yielded ops (a.put (jA ops p).dst v).tmps)=Region.wanted (jA ops i) (yielded ops a.tmps):=fun a v=>wanted_put _ a _ v h1
  have wq:∀(a:Act) (v:Value),Region.wanted (jA ops p) (yielded ops (a.put (jA ops i).dst v).tmps)=Region.wanted (jA ops p) (yielded ops a.tmps):=fun a v=>wanted_put _ a _ v h3
  have hc:∀(a:Act) (v u:Value),(a.put (jA ops p).dst v).put (jA ops i).dst u=(a.put (jA ops i).dst u).put (jA ops p).dst v:=fun a v u=>Act.put_comm a v u h2
  rw[fG] at h;by_cases h6:zC (jA ops p).op=true
  ·
   have hz:zC (jA ops i).op=false:=by
    rcases hE with e|e
    ·rw[h6] at e;cases e
    exact e
   rw[if_neg (by rw[hz];simp)];simp only[AA,h6,if_true] at h;have key:∀u w',AA P ops nd G K (rest.map (jA ops)) (a.put (jA ops p).dst u) w'→∃v,YV P ops G (jA ops i) a v∧AA P ops nd G K ((rest.filter (· !=i)).map (jA ops)) ((a.put (jA ops p).dst u).put (jA ops i).dst v) w':=by
    intro u w' hr;have:=ih _ _ hr ht h4 hK;rw[if_neg (by rw[hz];simp)] at this;have⟨v,hv,h5⟩:=this;exact⟨v,hv.congr (ei a u).symm (wi a u).symm,h5⟩
   have hex:∃v,YV P ops G (jA ops i) a v:=by
    cases hwp:Region.wanted (jA ops p) (yielded ops a.tmps)
    ·have⟨_,hr⟩:=h.2 hwp;have⟨v,hv,_⟩:=key _ _ hr;exact⟨v,hv⟩
    have⟨u,w',_,hr⟩:=(h.1 hwp).out;have⟨v,hv,_⟩:=key _ _ hr;exact⟨v,hv⟩
   have⟨v,hv⟩:=hex;refine⟨v,hv,?_⟩;simp only[AA,h6,if_true];have hH:∀u w',((nd (jA ops p)=true→G w')∧AA P ops nd G K (rest.map (jA ops)) (a.put (jA ops p).dst u) w')→
     (nd (jA ops p)=true→G w')∧AA P ops nd G K ((rest.filter (· !=i)).map (jA ops)) ((a.put (jA ops i).dst v).put (jA ops p).dst u) w':=by
    rintro u w' ⟨h8,hr⟩;have⟨v',hn,h5⟩:=key _ _ hr;have:=hv.aD4 hD hn;subst this;rw[hc] at h5;exact⟨h8,h5⟩
   refine⟨fun hw=>?_,fun hw=>?_⟩
   ·rw[wq] at hw;exact((h.1 hw).congr (ep a v)).mono fun u w' hh=>hH u w' hh
   rw[wq] at hw;exact hH _ _ (h.2 hw)
  have hJ:zC (jA ops p).op=false:=by simpa using h6
  simp only[AA,hJ,fA,iX] at h;have⟨vp,h9,hr⟩:=h;have hh:=ih _ _ hr ht h4 hK;by_cases hz:zC (jA ops i).op=true
  ·rw[if_pos hz] at hh⊢;have key:∀u w',((nd (jA ops i)=true→G w')∧AA P ops nd G K ((rest.filter (· !=i)).map (jA ops)) ((a.put (jA ops p).dst vp).put (jA ops i).dst u) w')→
     (nd (jA ops i)=true→G w')∧AA P ops nd G K (jA ops p::(rest.filter (· !=i)).map (jA ops)) (a.put (jA ops i).dst u) w':=by
    rintro u w' ⟨h8,h5⟩;refine⟨h8,?_⟩;simp only[AA,hJ,fA,iX];rw[hc] at h5;exact⟨vp,h9.congr (ep a u) (wq a u),h5⟩
   refine⟨fun hw=>?_,fun hw=>?_⟩
   ·exact((hh.1 (by rw[wi];exact hw)).congr (ei a vp).symm).mono fun u w' hx=>key u w' hx
   exact key _ _ (hh.2 (by rw[wi];exact hw))
  rw[if_neg hz] at hh⊢;have⟨v,hv,h5⟩:=hh;refine⟨v,hv.congr (ei a vp).symm (wi a vp).symm,?_⟩;simp only[AA,hJ,fA,iX];rw[hc] at h5;exact⟨vp,h9.congr (ep a v) (wq a v),h5⟩
def EX(P:Program)(ops:Array Oper)(nd:Oper→Bool):Bool:=
 (range ops.size).all fun i=>(jA ops i).after.all (fun e=>!Region.binds .any e||decide (e.on<i))&&
  (!zC (jA ops i).op||nd (jA ops i)||(range ops.size).all fun j=>zC (jA ops j).op||wl P (jA ops j).op||((Region.before ops).getD i 0).testBit j)&&
  (range i).all fun j=>((Region.before ops).getD i 0).testBit j||Gq ops (jA ops j) (jA ops i)
def wD(acc:Array Nat)(o:Oper):Array Nat:=acc.push (o.after.foldl (fun s e=>if Region.binds .any e then s|||2^e.on|||acc.getD e.on 0 else s) 0)
theorem qPe(acc:Array Nat)(j:Nat):∀(l:List Edge) (s:Nat),(l.foldl (fun s e=>if Region.binds .any e then s|||2^e.on|||acc.getD e.on 0 else s) s).testBit j=true→
  s.testBit j=true∨∃e∈l,Region.binds .any e=true∧(e.on=j∨(acc.getD e.on 0).testBit j=true)
 |[],s,h=>.inl h
 |e::l,s,h=>by
  simp only[iF] at h;rcases qPe acc j l _ h with h'|⟨e',hj,hb,hh⟩
  ·by_cases hb:Region.binds .any e=true
   ·rw[if_pos hb] at h';simp only[Nat.testBit_or,gJ] at h';rcases h' with(h'|h')|h'
    ·exact .inl h'
    ·refine .inr ⟨e,O4,hb,.inl ?_⟩;rw[Nat.testBit_two_pow] at h';simpa using h'
    exact .inr ⟨e,O4,hb,.inr h'⟩
   rw[if_neg hb] at h';exact .inl h'
  exact .inr ⟨e',by simp[hj],hb,hh⟩
theorem R4:∀(l:List Oper) (acc:Array Nat) (k:Nat),k<acc.size→(l.foldl wD acc).getD k 0=acc.getD k 0
 |[],_,_,_=>rfl
 |o::l,acc,k,hk=>by
  rw[iF,R4 l _ k (by simp[wD];omega)];simp only[wD,aO,Array.getElem?_push];rw[if_neg O1]
theorem Yk:∀(l:List Oper) (acc:Array Nat) (k:Nat) (o:Oper) (j:Nat),l[k]? =some o→((l.foldl wD acc).getD (acc.size+k) 0).testBit j=true→
  ∃e∈o.after.toList,Region.binds .any e=true∧(e.on=j∨((l.foldl wD acc).getD e.on 0).testBit j=true)
 |[],_,_,_,_,h,_=>by simp at h
 |x::l,acc,0,o,j,h,hb=>by
  have hx:x=o:=by simpa using h
  subst hx;have h0:((x::l).foldl wD acc).getD (acc.size+0) 0=x.after.foldl (fun s e=>if Region.binds .any e then s|||2^e.on|||acc.getD e.on 0 else s) 0:=by
   rw[iF,R4 l _ _ (by simp[wD])];simp[wD,aO]
  rw[h0,←nJ] at hb;rcases qPe acc j _ _ hb with h'|⟨e,he,h3,hh⟩
  ·simp at h'
  refine⟨e,he,h3,hh.imp id fun hh=>?_⟩;by_cases hl:e.on<acc.size
  ·rw[R4 (x::l) acc e.on hl];exact hh
  rw[aO,Array.getElem?_eq_none O1] at hh;simp at hh
 |x::l,acc,k+1,o,j,h,hb=>by
  rw[iF] at hb⊢;have ha:(wD acc x).size=acc.size+1:=by simp[wD]
  have:=Yk l (wD acc x) k o j (by simpa using h) (by rw[ha];rw[show acc.size+1+k=acc.size+(k+1) from by omega];exact hb);exact this
theorem jBq(ops):Region.before ops=ops.toList.foldl wD #[]:=by
 unfold Region.before;rw[←nJ];rfl
theorem vR(hi:i<ops.size)(h:((Region.before ops).getD i 0).testBit j=true):
  ∃e∈(jA ops i).after.toList,Region.binds .any e=true∧(e.on=j∨((Region.before ops).getD e.on 0).testBit j=true):=by
 rw[jBq] at h⊢;have ho:ops.toList[i]? =some (jA ops i):=by
  simp[jA,bD hi]
 have:=Yk ops.toList #[] i (jA ops i) j ho (by simpa using h);exact this
theorem kJ{nd}(h:EX P ops nd=true){i}(hi:i<ops.size):∀e∈(jA ops i).after.toList,Region.binds .any e=true→e.on<i:=by
 intro e he hb;simp only[EX,dO,aJ] at h;have h1:=(h i (by simpa using hi)).1.1;rw[dQ] at h1;have:=h1 e (by simpa using he);rw[hb] at this;simpa using this
theorem qK3{nd}(h:EX P ops nd=true){i j}(hi:i<ops.size)(hj:j<i):((Region.before ops).getD i 0).testBit j=true∨Gq ops (jA ops j) (jA ops i)=true:=by
 simp only[EX,dO,aJ] at h;have h1:=(h i (by simpa using hi)).2 j (by simpa using hj);simpa using h1
theorem qK4{nd}(h:EX P ops nd=true){i j}(hi:i<ops.size)(hj:j<ops.size)(he:zC (jA ops i).op=true)(hp:zC (jA ops j).op=false)(hh:wl P (jA ops j).op=false):
  nd (jA ops i)=true∨((Region.before ops).getD i 0).testBit j=true:=by
 simp only[EX,dO,aJ] at h;have h1:=(h i (by simpa using hi)).1.2;rw[he] at h1;simp only[Bool.not_true,Bool.false_or,gJ,dO] at h1;rcases h1 with h1|h1
 ·exact .inl h1
 have:=h1 j (by simpa using hj);rw[hp,hh] at this;exact .inr (by simpa using this)
def left(ops:Array Oper)(listed:Array Bool):List Nat:=(range ops.size).filter fun i=>!listed.getD i true
theorem yN(ops listed):(left ops listed).Pairwise (·<·):=List.Pairwise.filter _ nK
theorem zZ:i∈left ops listed↔i<ops.size∧listed.getD i true=false:=by
 simp[left]
theorem uV(hi:i<ops.size)(ha:listed.size=ops.size):left ops (listed.setIfInBounds i true)=(left ops listed).filter (· !=i):=by
 unfold left;rw[mM];apply nX;intro x hx;by_cases hM:x=i
 ·subst hM;simp[aO,ha,hi]
 have:(listed.setIfInBounds i true).getD x true=listed.getD x true:=by
  simp only[aO,iS];rw[if_neg O1]
 rw[this];simp[hM]
variable{Q:Exit→Act→World→Prop}
theorem qWz(hD:G wG)(ht:EX P ops nd=true)(hK:∀a w,K a w→Q .normal a w):∀(fuel:Nat) (listed:Array Bool) (a:Act) (w:World),listed.size=ops.size→(left ops listed).length≤fuel→
  (∀i,i<ops.size→listed.getD i true=true→∀j,((Region.before ops).getD i 0).testBit j=true→listed.getD j false=true)→
  (∀j∈left ops listed,zC (jA ops j).op=false→wl P (jA ops j).op=false→G w)→AA P ops nd G K ((left ops listed).map (jA ops)) a w→wpAny P .any ops Q fuel listed a w:=by
 intro fuel;have done:∀(listed:Array Bool) (a:Act) (w:World),left ops listed=[]→AA P ops nd G K ((left ops listed).map (jA ops)) a w→Q .normal a w:=by
  intro listed a w hl h;rw[hl] at h;exact hK _ _ h
 have xf:∀(listed:Array Bool) i,i∈Region.ready .any ops listed↔i<ops.size∧listed.getD i true=false∧∀e∈(jA ops i).after.toList,Region.binds .any e=true→listed.getD e.on false=true:=by
  intro listed i;simp only[Region.ready,iG,aR,aJ,lV];constructor
  ·rintro⟨h1,h2,h3⟩;refine⟨h1,h2,?_⟩;rw[bD h1] at h3;simp only[fD,iY] at h3;rw[dQ] at h3;intro e he hb;have:=h3 e (by simpa[jA,h1] using he);rw[hb] at this;simpa using this
  rintro⟨h1,h2,h3⟩;refine⟨h1,h2,?_⟩;rw[bD h1];simp only[fD,iY];rw[dQ];intro e he;cases hb:Region.binds .any e
  ·rfl
  simpa using h3 e (by simpa[jA,h1] using he) hb
 induction fuel with
 |zero=>
  intro listed a w hq hQ _ _ h;have hl:left ops listed=[]:=aX O1;refine⟨?_,done _ _ _ hl h⟩;rw[lQ];intro i hi;have:=(xf listed i).1 hi;have hm:i∈left ops listed:=zZ.2 ⟨this.1,this.2.1⟩;rw[hl] at hm;cases hm
 |succ fuel ih=>
  intro listed a w hq hQ hP hG h;refine⟨fun xl=>?_,fun i hi=>?_⟩
  ·cases hl:left ops listed with
   |nil=>exact done _ _ _ hl h
   |cons i0 rest=>
    exfalso;have hm:i0∈left ops listed:=by rw[hl];simp
    have⟨h1,h2⟩:=zZ.1 hm;have:i0∈Region.ready .any ops listed:=by
     refine(xf listed i0).2 ⟨h1,h2,fun e he hb=>?_⟩;have ha:=kJ ht h1 e he hb;have hs:=yN ops listed;rw[hl] at hs;by_cases hx:listed.getD e.on true=false
     ·have xe:e.on∈left ops listed:=zZ.2 ⟨O1,hx⟩;rw[hl] at xe;rcases aP.1 xe with e1|e1
      ·omega
      have:=(bQ.1 hs).1 _ e1;omega
     have hY:listed.getD e.on true=true:=by simpa using hx
     rw[aO] at hY⊢;rw[bD (show e.on<listed.size by omega)] at hY⊢;simpa using hY
    rw[xl] at this;cases this
  have⟨h1,h2,h3⟩:=(xf listed i).1 hi;have hm:i∈left ops listed:=zZ.2 ⟨h1,h2⟩;have xo:∀j,((Region.before ops).getD i 0).testBit j=true→listed.getD j false=true:=by
   intro j hb;have⟨e,he,hy,hX⟩:=vR h1 hb;have hl:=h3 e he hy;rcases hX with rfl|hX
   ·exact hl
   have ha:=kJ ht h1 e he hy;refine hP e.on O1 ?_ j hX;rw[aO] at hl⊢;rw[bD (show e.on<listed.size by omega)] at hl⊢;simpa using hl
  have xd:=jW9 (P:=P) (G:=G) (K:=K) hD i (left ops listed) a w h hm (yN _ _) (by
   intro j hj hZ;rcases qK3 ht h1 hZ with hb|hb
   ·exfalso;have⟨xc,hU⟩:=zZ.1 hj;have⟨e,he,hy,hX⟩:=vR h1 hb;have hl:=h3 e he hy;have hV:listed.getD j false=true:=by
     rcases hX with rfl|hX
     ·exact hl
     have ha:=kJ ht h1 e he hy;refine hP e.on O1 ?_ j hX;rw[aO] at hl⊢;rw[bD (show e.on<listed.size by omega)] at hl⊢;simpa using hl
    rw[aO] at hV hU;rw[bD (show j<listed.size by omega)] at hV hU;simp at hV hU;rw[hV] at hU;cases hU
   exact hb)
  have xi:(left ops (listed.setIfInBounds i true)).length≤fuel:=by
   rw[uV h1 hq];have:((left ops listed).filter (· !=i)).length<(left ops listed).length:=by
    rw[oA];exact⟨i,hm,O4⟩
   omega
  have xn:∀k,k<ops.size→(listed.setIfInBounds i true).getD k true=true→∀j,((Region.before ops).getD k 0).testBit j=true→(listed.setIfInBounds i true).getD j false=true:=by
   intro k hk hS j hb;have hT:∀(d:Bool) x,(listed.setIfInBounds i true).getD x d=if x=i then true else listed.getD x d:=by
    intro d x;simp only[aO,iS];by_cases hx:x=i
    ·subst hx;simp[hq,h1]
    rw[if_neg (fun e=>hx e.symm),if_neg hx]
   rw[hT] at hS⊢;split
   ·rfl
   by_cases xh:k=i
   ·subst xh;have⟨e,he,hy,hX⟩:=vR h1 hb;have hl:=h3 e he hy;rcases hX with rfl|hX
    ·exact hl
    have ha:=kJ ht h1 e he hy;refine hP e.on O1 ?_ j hX;rw[aO] at hl⊢;rw[bD (show e.on<listed.size by omega)] at hl⊢;simpa using hl
   rw[if_neg xh] at hS;exact hP k hk hS j hb
  have xb:∀a' w',(∀j∈left ops (listed.setIfInBounds i true),zC (jA ops j).op=false→wl P (jA ops j).op=false→G w')→AA P ops nd G K (((left ops listed).filter (· !=i)).map (jA ops)) a' w'→wpAny P .any ops Q fuel (listed.setIfInBounds i true) a' w':=by
   intro a' w' hg hh;rw[←uV h1 hq] at hh;exact ih _ a' w' (by simpa using hq) xi xn hg hh
  have xg:∀j∈left ops (listed.setIfInBounds i true),j∈left ops listed∧j≠i:=by
   intro j hj;rw[uV h1 hq] at hj;simpa using hj
  have xk:∀j∈left ops (listed.setIfInBounds i true),zC (jA ops j).op=false→wl P (jA ops j).op=false→G w:=fun j hj=>hG j (xg j hj).1
  have hE:zC (jA ops i).op=true→∀w',(nd (jA ops i)=true→G w')→∀j∈left ops (listed.setIfInBounds i true),zC (jA ops j).op=false→wl P (jA ops j).op=false→G w':=by
   intro hz w' hg j hj xp xq;have⟨xc,hU⟩:=zZ.1 (xg j hj).1;rcases qK4 ht h1 xc hz xp xq with hn|hb
   ·exact hg hn
   exfalso;have hV:=xo j hb;rw[aO] at hV hU;rw[bD (show j<listed.size by omega)] at hV hU;simp at hV hU;rw[hV] at hU;cases hU
  have xj:ops[i]? =some (jA ops i):=by simp[jA,bD h1]
  unfold wpOp;simp only[xj];by_cases hz:zC (jA ops i).op=true
  ·rw[if_pos hz] at xd;cases hw:Region.wanted (jA ops i) (yielded ops a.tmps)
   ·simp only[fA,iX];have⟨hg,hh⟩:=xd.2 hw;exact xb _ _ (hE hz _ hg) hh
   simp only[if_true];exact .inl ((xd.1 hw).wp fun v w' ⟨hg,hh⟩=>xb _ _ (hE hz _ hg) hh)
  rw[if_neg hz] at xd;have⟨v,hv,hh⟩:=xd;rcases hv with⟨hw,hr⟩|⟨hw,rfl⟩
  ·simp only[hw,if_true];refine .inl (Step.wp (R:=fun u w'=>u=v∧w'=w) (.inl ⟨v,w,?_,O,O⟩) ?_)
   ·cases hwl:wl P (jA ops i).op
    ·exact hr w (hG i hm (by simpa using hz) hwl)
    exact SK hwl (hr wG hD)
   rintro u w' ⟨rfl,rfl⟩;exact xb _ _ xk hh
  simp only[hw,fA,iX];exact xb _ _ xk hh
theorem qPm{id}(hm:P.follows .mixedOrders=true)(ha:EX P ops nd=true)(G)(hG:G w.drew)
  (h:AA P ops nd G (fun a w=>Q .normal a w) ops.toList a w.drew):(Code.region id ops true).wp P Q a w:=by
 refine wp_region_any hm ?_;refine qWz (G:=G) (K:=fun a w=>Q .normal a w) hG ha (fun _ _ h=>h) ops.size _ a _ O4 ?_ ?_ (fun _ _ _ _=>hG) ?_
 ·unfold left;exact bF (rF _ _) O4
 ·intro i hi hl;simp[aO,hi] at hl
 have e1:left ops (Array.replicate ops.size false)=range ops.size:=by
  unfold left;rw[mD];intro i hi;have:i<ops.size:=by simpa using hi
  simp[aO,this]
 have e2:(range ops.size).map (jA ops)=ops.toList:=by
  apply oO
  ·simp
  intro i h1 h2;have:i<ops.size:=by simpa using h2
  simp[jA,aO,this]
 rw[e1,e2];exact h
end
variable{QA:Exit→Act→World→Prop}{R:Ending→World→Prop}{S:List Nat}{X Y:Type}{b c st want:Bool}{d t:Nat}{l:List Oper}{r:Value}{y:Code}
theorem jJ(h:i≠d):Nat.beq i d=false:=by
 cases hb:Nat.beq i d
 ·rfl
 exact absurd (bV hb) h
theorem yQ{a b}(h:a<b):Nat.blt a b=true:=nU h
theorem qM9{a b}(h:¬a<b):Nat.blt a b=false:=by
 cases hb:Nat.blt a b
 ·rfl
 exact absurd (fH hb) h
theorem Md{a b}(h:Nat.blt a b=true):a<b:=fH h
abbrev Fr:=Nat→Value
def Fr.put(F:Fr)(d:Nat)(v:Value):Fr:=fun i=>bif Nat.beq i d then v else F i
def Fr.q9(F:Fr)(d:Option Nat)(v:Value):Fr:=match d with
 |none=>F
 |some d=>F.put d v
def qE:List Value→Fr
 |[],_=>undef
 |v::_,0=>v
 |_::l,i+1=>qE l i
def Ft:List Nat→Nat→Bool
 |[],_=>false
 |d::S,i=>bif Nat.beq i d then true else Ft S i
def Fr.k7(S:List Nat)(u F:Fr):Fr:=fun i=>bif Ft S i then u i else F i
structure ky where
 sz:Nat
 ds:List Deferred
 ro:Option Nat
@[reducible] def ky.of (n:Nat):ky:=⟨n,[],none⟩
instance:Coe Nat ky:=⟨ky.of⟩
def ky.n6(n:ky):Fence:={Fence.wide with round:=n.ro}
theorem ky.k5{n:ky}(h:n.ro=none):n.n6=Fence.wide:=by
 unfold ky.n6;rw[h];rfl
def ev(n:ky)(F:Fr)(x:Operand):Value:=match x with
 | .tmp t=>bif Nat.blt t n.sz then F t else undef
 | .const v=>v
 | .global g=>.pointer (Ad g)
 | .func f=>.func (.func f) #[] #[]
def act(n:ky)(F:Fr):Act:={tmps:=Array.ofFn (n:=n.sz) fun i=>F i,defers:=n.ds}
theorem zN(n:ky)(F:Fr)(d:Option Nat)(v:Value):(act n F).put d v=act n (F.q9 d v):=by
 cases d with
 |none=>rfl
 |some d=>
  simp only[Act.put,act,Fr.q9];congr 1;apply rH
  ·simp
  intro i h1 h2;have h3:=by simpa using h2
  rw[xS O6];simp only[nM,Fr.put];by_cases h:d=i
  ·subst h;simp
  rw[if_neg h,jJ O1];rfl
theorem zF(n F):(act n F).eval=ev n F:=by
 funext x;cases x with
 |tmp t=>
  simp[Act.eval,act,ev,aO];by_cases h:t<n.sz
  ·simp[h,yQ]
  simp[h,qM9]
 |const v=>rfl
 |global g=>rfl
 |func f=>rfl
def up(n:ky)(Q:Exit→Fr→World→Prop):Exit→Act→World→Prop:=fun e a w=>∃F,a=act n F∧Q e F w
def WP(P:Program)(n:ky)(c:Code)(Q:Exit→Fr→World→Prop)(F:Fr)(w:World):Prop:=c.wpIn n.n6 0 P (up n Q) (act n F) w
def D9(K:Fr→World→Prop)(Q:Exit→Fr→World→Prop):Exit→Fr→World→Prop:=fun e F w=>match e with
 | .normal=>K F w
 |e=>Q e F w
def FD(id:Nat)(Q:Exit→Fr→World→Prop):Exit→Fr→World→Prop:=fun e F w=>match e with
 | .exit id'=>match Nat.beq id' id with
  |true=>Q .normal F w
  |false=>Q (.exit id') F w
 |e=>Q e F w
theorem I6{K Q F}(h:K F w):D9 K Q .normal F w:=h
theorem KC{K Q F}(h:Q .ret F w):D9 K Q .ret F w:=h
theorem KG{K Q F}(h:Q (.exit i) F w):D9 K Q (.exit i) F w:=h
theorem Kc{id Q F}(h:Q .normal F w):FD id Q .normal F w:=h
theorem KA{id Q F}(h:Q .ret F w):FD id Q .ret F w:=h
theorem KF{id Q F}(hi:Nat.beq i id=true)(h:Q .normal F w):FD id Q (.exit i) F w:=by
 simp[FD,hi];exact h
theorem wN{id Q F}(hi:Nat.beq i id=false)(h:Q (.exit i) F w):FD id Q (.exit i) F w:=by
 simp[FD,hi];exact h
section
variable{n:ky}{Q:Exit→Fr→World→Prop}{F:Fr}
theorem L8{c Q'}(h:WP P n c Q F w)(hq:∀e F w,Q e F w→Q' e F w):WP P n c Q' F w:=
 lA h fun _ _ _ ⟨F,h1,h2⟩=>⟨F,h1,hq _ _ _ h2⟩
theorem I4{x}(h:WP P n x (D9 (fun F w=>WP P n y Q F w) Q) F w):WP P n (.seq x y) Q F w:=by
 refine wpIn_seq (lA h ?_);rintro e a w ⟨F,rfl,h2⟩;cases e<;>first|exact h2|exact⟨F,O,h2⟩
theorem Kv{id c}(h:WP P n c (FD id Q) F w):WP P n (.block id c) Q F w:=by
 refine JK (lA h ?_);rintro e a w ⟨F,rfl,h2⟩;cases e with
 |exit id'=>
  simp[Exit.inBlock];by_cases hid:id'=id
  ·subst hid;simp[if_true];simp[FD] at h2;exact⟨F,O,h2⟩
  rw[if_neg hid];have hb:=jJ hid;simp[FD,hb] at h2;exact⟨F,O,h2⟩
 |_=>exact⟨F,O,h2⟩
theorem xD{c x t}(hc:ev n F c= .bool t)(ht:t=true→WP P n x Q F w)(hf:t=false→WP P n y Q F w):WP P n (.cond c x y) Q F w:=
 wpIn_cond_split (by rw[zF];exact hc) ht hf
theorem qH{c x}{p:Prop}[Decidable p](hc:ev n F c= .bool (decide p))(ht:p→WP P n x Q F w)(hf:¬p→WP P n y Q F w):WP P n (.cond c x y) Q F w:=
 xD hc (fun h=>ht (mV h)) (fun h=>hf (of_decide_eq_false h))
theorem xI{c x}{p:Prop}[Decidable p](hc:ev n F c= .bool (!decide p))(ht:¬p→WP P n x Q F w)(hf:p→WP P n y Q F w):WP P n (.cond c x y) Q F w:=
 xD hc (fun h=>ht (of_decide_eq_false O6)) (fun h=>hf (mV O6))
theorem jB{c x}(hc:ev n F c= .bool true)(h:WP P n x Q F w):WP P n (.cond c x y) Q F w:=xD hc (fun _=>h) (fun e=>by cases e)
theorem qN{c x}(hc:ev n F c= .bool false)(h:WP P n y Q F w):WP P n (.cond c x y) Q F w:=xD hc (fun e=>by cases e) (fun _=>h)
theorem Km(h:Q .normal F w):WP P n .skip Q F w:=wpIn_skip ⟨F,O,h⟩
theorem Kp{l}(h:Q .normal F w):WP P n (.label l) Q F w:=wpIn_label ⟨F,O,h⟩
theorem J6{id}(h:Q (.exit id) F w):WP P n (.exit id) Q F w:=wpIn_exit ⟨F,O,h⟩
theorem JZ(h:Q .ret F w):WP P n .ret Q F w:=wpIn_ret ⟨F,O,h⟩
theorem YO{c}(I:Nat→Act→World→Prop)(m0:Nat)(h0:I m0 a w)
  (round:∀m a w,I m a w→c.wpIn n.n6 0 P (Exit.then (fun a' w'=>∃m',m'<m∧I m' a' w') QA) a w):(Code.loop c).wpIn n.n6 0 P QA a w:=
 wpIn_loop_ghost I m0 h0 round
theorem jLx{c}(G:Fr→X→Fr)(I:X→World→Prop)(μ:X→Nat)(u0:Fr)(x0:X)(h0:F=G u0 x0)(hi:I x0 w)
  (round:∀(u:Fr) (x:X) (w:World),I x w→WP P n c (D9 (fun F' w'=>∃x',F'=G F' x'∧I x' w'∧μ x'<μ x) Q) (G u x) w):WP P n (.loop c) Q F w:=by
 refine YO (fun m a w=>∃u x,a=act n (G u x)∧I x w∧μ x=m) _ ⟨u0,x0,by rw[h0],hi,O⟩ ?_;rintro m a w ⟨u,x,rfl,hI,rfl⟩;refine lA (round u x w hI) ?_;rintro e a w' ⟨F',rfl,h2⟩;cases e with
 |normal=>
  have⟨x',hF,hx,hl⟩:=h2;exact⟨_,hl,F',x',O6,hx,O⟩
 |_=>exact⟨F',O,h2⟩
def ka(S:List Nat)(F F':Fr):Prop:=∀i,Ft S i=false→F i=F' i
theorem ka.refl{S F}:ka S F F:=fun _ _=>O
theorem ka.put{S d v F F'}(h1:Ft S d=true)(h:ka S F F'):ka S (F.put d v) F':=by
 intro i xt;have xr:Nat.beq i d=false:=by
  refine jJ ?_;rintro rfl;rw[h1] at xt;cases xt
 simp[Fr.put,xr,oB];exact h i xt
theorem ka.k7{S u F}:ka S (Fr.k7 S u F) F:=by
 intro i xt;simp[Fr.k7,xt,oB]
theorem YI:∀(S:List Nat) (i:Nat),Ft S i=true→i∈S
 |[],_,h=>by cases h
 |d::S,i,h=>by
  simp only[Ft] at h;cases hb:Nat.beq i d
  ·rw[hb] at h;exact fE _ (YI S i h)
  rw[bV hb];simp
theorem ka.q6{S' u F F'}(h:S'.all (Ft S)=true)(h2:ka S F F'):ka S (Fr.k7 S' u F) F':=by
 intro i xt;have hn:Ft S' i=false:=by
  cases hb:Ft S' i
  ·rfl
  have:=dO.1 h i (YI S' i hb);rw[xt] at this;cases this
 simp[Fr.k7,hn,oB];exact h2 i xt
theorem ka.eq{F F'}(h:ka S F' F):F'=Fr.k7 S F' F:=by
 funext i;simp[Fr.k7];cases hb:Ft S i
 ·exact h i hb
 rfl
theorem qQ{c}(S:List Nat)(H:X→Fr→Fr)(I:X→World→Prop)(μ:X→Nat)(x0:X)(h0:F=H x0 (Fr.k7 S F F))(hi:I x0 w)
  (round:∀(u:Fr) (x:X) (w:World),I x w→WP P n c (D9 (fun F' w'=>∃x',F'=H x' (Fr.k7 S F' F)∧I x' w'∧μ x'<μ x) Q) (H x (Fr.k7 S u F)) w):WP P n (.loop c) Q F w:=
 jLx _ I μ F x0 h0 hi round
theorem kT{c}(S)(H:X→Y→Fr→Fr)(I:X→Y→World→Prop)(μ:X→Y→Nat)(x0 y0)(h0:F=H x0 y0 (Fr.k7 S F F))(hi:I x0 y0 w)
  (round:∀(u:Fr) (x:X) (y:Y) (w:World),I x y w→WP P n c (D9 (fun F' w'=>∃x' y',F'=H x' y' (Fr.k7 S F' F)∧I x' y' w'∧μ x' y'<μ x y) Q) (H x y (Fr.k7 S u F)) w):WP P n (.loop c) Q F w:=by
 refine qQ S (fun x=>H x.1 x.2) (fun x=>I x.1 x.2) (fun x=>μ x.1 x.2) (x0,y0) h0 hi ?_;intro u x w hI;refine L8 (round u _ _ w hI) ?_;simp
theorem kS{c}{Z:Type}(S)(H:X→Y→Z→Fr→Fr)(I:X→Y→Z→World→Prop)(μ:X→Y→Z→Nat)(x0 y0 z0)(h0:F=H x0 y0 z0 (Fr.k7 S F F))(hi:I x0 y0 z0 w)
  (round:∀(u:Fr) (x:X) (y:Y) (z:Z) (w:World),I x y z w→WP P n c (D9 (fun F' w'=>∃x' y' z',F'=H x' y' z' (Fr.k7 S F' F)∧I x' y' z' w'∧μ x' y' z'<μ x y z) Q) (H x y z (Fr.k7 S u F)) w):WP P n (.loop c) Q F w:=by
 refine qQ S (fun x=>H x.1 x.2.1 x.2.2) (fun x=>I x.1 x.2.1 x.2.2) (fun x=>μ x.1 x.2.1 x.2.2) (x0,y0,z0) h0 hi ?_;intro u x w hI;refine L8 (round u _ _ _ w hI) ?_;simp
theorem qB{F H:Fr}{v:Value}(h:F=H)(hv:F d=v):F=H.put d v:=by
 subst h;funext i;simp[Fr.put];cases hb:Nat.beq i d
 ·rfl
 have:=bV hb;grind
end
def PV(P:Program)(n:ky)(w:World)(F:Fr)(o:Oper)(v:Value):Prop:=(execOp (ev n F) o).run P w= .ok (.value v) w
def gx(P:Program)(n:ky)(o:Oper)(F:Fr)(w:World)(R:Value→World→Prop):Prop:=Step P o (act n F) w R
def kq(P:Program)(n:ky)(ops:Array Oper)(l:List Oper)(Q:Exit→Fr→World→Prop)(F:Fr)(w:World):Prop:=wpListIn n.n6 0 P ops (up n Q) l (act n F) w
def ET(st:Bool)(o:Oper):Bool:=st||match o.op with
 | .store ..=>false
 | .mapUpdate ..=>false
 | .call c=>match c.callee with
  | .builtin .append=>false
  |_=>true
 |_=>true
def kn(P:Program)(n:ky)(ops:Array Oper)(st:Bool)(G:World→Prop)(l:List Oper)(Q:Exit→Fr→World→Prop)(F:Fr)(w:World):Prop:=
 AA P ops (ET st) G (fun a w=>up n Q .normal a w) l (act n F) w
theorem Step.aB5{R}(h:Step P o a w R):∀c,o.op≠.defer c:=by
 intro c hc;have key:∀x w',(execOp a.eval o).run P w= .ok x w'→∃d,x= .defer d:=by
  intro x w' hx;simp only[execOp,hc,bT] at hx;cases hr:(resolve a.eval c o.type).run P w with
  |ok d w1=>
   rw[hr] at hx;simp only[aN,dZ] at hx;grind
  |halt r w1=>
   rw[hr] at hx;cases hx
 rcases h with⟨v,w',h1,h2⟩|⟨w',h1,h2⟩|⟨f,args,w1,h1,h2⟩
 ·grind
 ·grind
 grind
theorem Step.wpIn{P:Program}{n:ky}{o:Oper}{a:Act}{w:World}{R:Value→World→Prop}{K:Act→World→Prop}{Q:Exit→Act→World→Prop}(h:Step P o a w R)
  (hk:∀v w',R v w'→K (a.put o.dst v) w'):o.wpIn n.n6 0 P a w K Q:=by
 refine⟨fun _ _=>trivial,?_⟩;rw[Nq _ _ _ h.aB5];rcases h with⟨v,w',h1,h2⟩|⟨w',h1,h2⟩|⟨f,args,w1,h1,h2⟩
 ·rw[h1];exact hk _ _ h2
 ·rw[h1];exact hk _ _ h2
 rw[h1];refine⟨fun h=>(by cases h),(pV).2 (h2.mono fun e w' ⟨v,he,hv⟩=>?_)⟩;grind
def BK(b:Bool)(v:Value):Value:=if b then v else undef
section
variable{n:ky}{Q:Exit→Fr→World→Prop}{F:Fr}{rest:List Oper}
theorem Ky{id}(h:kq P n l.toArray l Q F w):WP P n (.region id l.toArray false) Q F w:=wpIn_region_lit h
theorem jW{id:Nat}(hm:P.follows .mixedOrders=true)(ha:EX P l.toArray (ET true)=true)(G:World→Prop)(hG:G w.drew)
  (h:kn P n l.toArray true G l Q F w.drew) (hr:n.ro=none:=by rfl):WP P n (.region id l.toArray true) Q F w:=mEn
theorem jU{id:Nat}(hm:P.follows .mixedOrders=true)(ha:EX P l.toArray (ET false)=true)(G:World→Prop)(hG:G w.drew)
  (h:kn P n l.toArray false G l Q F w.drew) (hr:n.ro=none:=by rfl):WP P n (.region id l.toArray true) Q F w:=mEn
theorem I3(h:Q .normal F w):kq P n ops [] Q F w:=wpListIn_nil ⟨F,O,h⟩
theorem qU(h:Q .normal F w):kn P n ops st G [] Q F w:=⟨F,O,h⟩
theorem Tg{R:Value→World→Prop}(hg:o.guard=none)(hs:gx P n o F w R)(h:∀v w',R v w'→kq P n ops rest Q (F.q9 o.dst v) w'):kq P n ops (o::rest) Q F w:=by
 refine wpListIn_plain hg fun K hK=>Step.wpIn hs fun v w' hr=>hK _ _ ?_
 rw[zN];exact h v w' hr
theorem jC0{v}(hg:o.guard=none)(hp:PV P n w F o r)(hv:r=v)(h:kq P n ops rest Q (F.q9 o.dst v) w):kq P n ops (o::rest) Q F w:=by
 subst hv;refine Tg (R:=fun u w'=>u=r∧w'=w) hg (.inl ⟨r,w,?_,O,O⟩) ?_
 ·rw[zF];exact hp
 rintro u w' ⟨rfl,rfl⟩;exact h
def yW(ops:Array Oper)(j:Nat):Option Nat:=(ops[j]?).bind (·.dst)
theorem vS(hg:o.guard=some (j,want))(hj:yW ops j=some d)(hc:ev n F (.tmp d)= .bool c):
  Region.wanted o (yielded ops (act n F).tmps)=(c==want):=by
 simp[Region.wanted,hg,yielded];unfold yW at hj;rw[hj];have hl:d<n.sz:=by
  by_cases h:d<n.sz
  ·exact h
  simp[ev,qM9 h,undef] at hc
 have hb:=yQ hl;simp[ev,hb,Li] at hc;simp[act,hl,hc]
theorem jNg{v:Value}(hg:o.guard=some (j,want))(hj:yW ops j=some d)(hc:ev n F (.tmp d)= .bool c)
  (hp:(c==want)=true→PV P n w F o r) (hv:(c==want)=true→r=v) (h:kq P n ops rest Q (F.q9 o.dst (BK (c==want) v)) w):kq P n ops (o::rest) Q F w:=by
 unfold kq wpListIn;rw[vS hg hj hc];cases hcw:(c==want)
 ·rw[hcw] at h;rw[zN];exact⟨fun _ _=>trivial,h⟩
 rw[hcw] at h;refine Step.wpIn (R:=fun u w'=>u=v∧w'=w) (.inl ⟨v,w,?_,O,O⟩) ?_
 ·rw[zF,←hv hcw];exact hp hcw
 rintro u w' ⟨rfl,rfl⟩;rw[zN];exact h
theorem TK(hg:o.guard=some (j,want))(hj:yW ops j=some d)(hc:ev n F (.tmp d)=BK b (.bool c)):
  Region.wanted o (yielded ops (act n F).tmps)=(b&&(c==want)):=by
 cases b
 ·simp only[Region.wanted,hg,yielded];unfold yW at hj;rw[hj];have hv:(act n F).tmps[d]? =none∨(act n F).tmps[d]? =some undef:=by
   by_cases h:d<n.sz
   ·have hb:=yQ h;simp only[ev,hb,Li,BK] at hc;simp[act,h,hc]
   left;simp[act,h]
  rcases hv with hv|hv<;>simp[hv,undef]
 exact(vS hg hj hc).trans O4
theorem jIm{v:Value}(hg:o.guard=some (j,want))(hj:yW ops j=some d)(hc:ev n F (.tmp d)=BK b (.bool c))
  (hp:b=true→(b&&(c==want))=true→PV P n w F o r) (hv:b=true→(b&&(c==want))=true→r=v) (h:kq P n ops rest Q (F.q9 o.dst (BK (b&&(c==want)) v)) w):kq P n ops (o::rest) Q F w:=by
 unfold kq wpListIn;rw[TK hg hj hc];cases hcw:(b&&(c==want))
 ·rw[hcw] at h;rw[zN];exact⟨fun _ _=>trivial,h⟩
 rw[hcw] at h;have hb:=by simp at hcw;exact hcw.1
 refine Step.wpIn (R:=fun u w'=>u=v∧w'=w) (.inl ⟨v,w,?_,O,O⟩) ?_
 ·rw[zF,←hv hb hcw];exact hp hb hcw
 rintro u w' ⟨rfl,rfl⟩;rw[zN];exact h
theorem jIn{v}(he:zC o.op=false)(hg:o.guard=some (j,want))(hj:yW ops j=some d)(hc:ev n F (.tmp d)=BK b (.bool c))
  (hp:b=true→(b&&(c==want))=true→∀w,G w→PV P n w F o r) (hv:b=true→(b&&(c==want))=true→r=v) (h:kn P n ops st G rest Q (F.q9 o.dst (BK (b&&(c==want)) v)) w):kn P n ops st G (o::rest) Q F w:=by
 unfold kn AA;rw[if_neg O6];refine⟨_,?_,by rw[zN];exact h⟩;unfold YV;rw[TK hg hj hc];cases hcw:(b&&(c==want))
 ·exact .inr ⟨O,O⟩
 have hb:=by simp at hcw;exact hcw.1
 refine .inl ⟨O,fun w hw=>?_⟩;rw[zF];have:=hp hb hcw w hw;rw[hv hb hcw] at this;exact this
theorem jC2{v}(he:zC o.op=false)(hg:o.guard=none)(hp:∀w,G w→PV P n w F o r)(hv:r=v)(h:kn P n ops st G rest Q (F.q9 o.dst v) w):kn P n ops st G (o::rest) Q F w:=by
 subst hv;unfold kn AA;rw[if_neg O6];refine⟨r,.inl ⟨by simp[Region.wanted,hg],fun w hw=>?_⟩,?_⟩
 ·rw[zF];exact hp w hw
 rw[zN];exact h
theorem jNh{v}(he:zC o.op=false)(hg:o.guard=some (j,want))(hj:yW ops j=some d)(hc:ev n F (.tmp d)= .bool c)
  (hp:(c==want)=true→∀w,G w→PV P n w F o r) (hv:(c==want)=true→r=v) (h:kn P n ops st G rest Q (F.q9 o.dst (BK (c==want) v)) w):kn P n ops st G (o::rest) Q F w:=by
 unfold kn AA;rw[if_neg O6];refine⟨_,?_,by rw[zN];exact h⟩;unfold YV;rw[vS hg hj hc];cases hcw:(c==want)
 ·exact .inr ⟨O,O⟩
 refine .inl ⟨O,fun w hw=>?_⟩;rw[zF];have:=hp hcw w hw;rw[hv hcw] at this;exact this
theorem qSj{R}(he:zC o.op=true)(hg:o.guard=none)(hs:gx P n o F w R)(h:∀v w',R v w'→G w'∧kn P n ops st G rest Q (F.q9 o.dst v) w'):
  kn P n ops st G (o::rest) Q F w:=by
 unfold kn AA;rw[if_pos he];refine⟨fun _=>hs.mono fun v w' hr=>?_,fun hw=>?_⟩
 ·rw[zN];exact PZ
 simp[Region.wanted,hg] at hw
theorem qO5{R}(he:zC o.op=true)(hn:ET false o=false)(hg:o.guard=none)(hs:gx P n o F w R)(h:∀v w',R v w'→kn P n ops false G rest Q (F.q9 o.dst v) w'):
  kn P n ops false G (o::rest) Q F w:=by
 unfold kn AA;rw[if_pos he];refine⟨fun _=>hs.mono fun v w' hr=>?_,fun hw=>?_⟩
 ·rw[zN];exact⟨fun hh=>O6,h v w' hr⟩
 simp[Region.wanted,hg] at hw
theorem jA6{v}(he:zC o.op=true)(hg:o.guard=some (j,want))(hj:yW ops j=some d)(hc:ev n F (.tmp d)= .bool c)
  (C:World→Prop) (hC:C w) (hs:(c==want)=true→gx P n o F w (fun u w'=>u=v∧C w'))
  (h:∀w',C w'→G w'∧kn P n ops st G rest Q (F.q9 o.dst (BK (c==want) v)) w'):kn P n ops st G (o::rest) Q F w:=by
 unfold kn AA;rw[if_pos he];unfold qh;rw[vS hg hj hc];refine⟨fun hw=>(hs hw).mono ?_,fun hw=>?_⟩
 ·rintro u w' ⟨rfl,hr⟩;have:=h w' hr;exact mEo
 have:=h w hC;exact mEo
theorem jP{x v}(h:ev n F x=BK b v)(hb:b=true):ev n F x=v:=by
 rw[h,hb];rfl
def Gh(P:Program)(n:ky)(fn:Func)(R:Ending→World→Prop):Exit→Fr→World→Prop:=fun e F w=>match e with
 | .normal|.ret=>∃v,(results fn (act n F).tmps).run P w= .ok v w∧R (.returned v) w
 |_=>False
theorem qUn{f fn c args}(hf:P.funcs[f]? =some fn)(hb:fn.body=some c){m}(hn:fn.ntmps=m)(hg:args.length≤m)
  (h:WP P (ky.of m) c (Gh P (ky.of m) fn R) (qE args) w):Calls P f args.toArray w R:=by
 refine calls_of_wp hf hb ?_;have ha:({tmps:=args.toArray++Array.replicate (fn.ntmps-args.toArray.size) undef,defers:=[]})=act (ky.of m) (qE args):=by
  simp only[act];congr 1;apply rH
  ·simp[hn];omega
  intro i h1 h2;simp only[nM];have xu:∀(l:List Value) (i:Nat),qE l i=l.getD i undef:=by
   intro l;induction l with
   |nil=>simp[qE]
   |cons x l ih=>intro i;cases i<;>simp[qE,ih]
  rw[xu];by_cases hi:i<args.length
  ·grind
  rw[XJ O6];simp[aC,hi]
 rw[ha];refine rJ.1 (lA h ?_);rintro e a w ⟨F,rfl,h2⟩;cases e<;>first|exact⟨O,h2⟩|exact h2.elim
theorem qM{fn v}(h:fn.results= #[.tmp t])(hv:ev n F (.tmp t)=v)(hr:R (.returned v) w):Gh P n fn R .ret F w:=by
 refine⟨v,?_,hr⟩;exact Ut
theorem xU{fn u v v'}(h:fn.results= #[.tmp t,.tmp u])(hv:ev n F (.tmp t)=v)(hn:ev n F (.tmp u)=v')(hr:R (.returned (.tuple #[v,v'])) w):Gh P n fn R .ret F w:=by
 refine⟨_,?_,hr⟩;rw[results_tmp2 h];rw[←hv,←hn,←zF];rfl
theorem xK{fn}(h:fn.results= #[])(hr:R (.returned (.tuple #[])) w):Gh P n fn R .normal F w:=⟨_,results_none h _ _ _,hr⟩
theorem qG1{fn}(h:fn.results= #[])(hr:R (.returned (.tuple #[])) w):Gh P n fn R .ret F w:=⟨_,results_none h _ _ _,hr⟩
end
variable{F:Fr}{a:Int}{aft:Array Edge}{c':Bool}{d:Option Tmp}{fs:Array Field}{g:Option (Nat×Bool)}{k:IntKind}{m o off t':Nat}{n:ky}{q:TypeDesc}{ts:Array TypeId}{ty:TypeId}{y:Operand}{z:Value}
def kz(P:Program)(t k:Nat):Prop:=(P.info? t).map (·.size)=some k
def kx(P:Program)(t:Nat)(z:Value):Prop:=(P.info? t).map (·.zero)=some (some z)
def Az(P:Program)(t k:Nat):Prop:=(P.info? t).map (·.bytes)=some k
def Vt:TypeDesc→Bool
 | .struct _=>false
 | .array _ _=>false
 |_=>true
def RK:TypeDesc→Bool
 | .struct _=>true
 | .array _ _=>true
 |_=>false
theorem kz.run{t k}(h:kz P t k):(sizeOf t).run P w= .ok k w:=by
 unfold kz at h;cases hi:P.info? t with
 |none=>grind
 |some i=>simp[hi] at h;simp[sizeOf,typeInfo,hi,h]
theorem kx.run{t z}(h:kx P t z):(zeroValue t).run P w= .ok z w:=by
 unfold kx at h;cases hi:P.info? t with
 |none=>grind
 |some i=>simp[hi] at h;simp[zeroValue,typeInfo,hi,h]
theorem Az.ex{k}(h:Az P t k):∃i,P.info? t=some i∧i.bytes=k:=by
 unfold Az at h;cases hi:P.info? t with
 |none=>grind
 |some i=>grind
theorem jQ{d}(h:P.underlying t=some d):(underlying t).run P w= .ok d w:=by simp[underlying,h]
theorem SD{d}(h:P.underlying t=some d)(h1:Vt d=true):(isAgg t).run P w= .ok false w:=mE9
theorem L6{d}(h:P.underlying t=some d)(h1:RK d=true):(isAgg t).run P w= .ok true w:=mE9
section
variable{pos:String}{x:Operand}
theorem qP:PV P n w F ⟨d,.move x,ty,pos,aft,g⟩ (ev n F x):=by simp[PV,execOp]
theorem qY:PV P n w F ⟨d,.assign x,ty,pos,aft,g⟩ (ev n F x):=by simp[PV,execOp]
theorem uW(v):ev n F (.const v)=v:=O
theorem HV(hx:ev n F x= .bool c)(hy:ev n F y=BK (c'==true) (.bool b))(hc:c=c'):
  PV P n w F ⟨d,.pick x y (.const (.bool false)),ty,pos,aft,g⟩ (.bool (c&&b)):=by
 subst hc;exact P3
theorem HP(hx:ev n F x= .bool c)(hy:ev n F y=BK (c'==false) (.bool b))(hc:c=c'):
  PV P n w F ⟨d,.pick x (.const (.bool true)) y,ty,pos,aft,g⟩ (.bool (c||b)):=by
 subst hc;exact P3
theorem H6(hx:ev n F x= .bool c)(hy:ev n F y= .bool b):PV P n w F ⟨d,.pick x y (.const (.bool false)),ty,pos,aft,g⟩ (.bool (c&&b)):=by
 simp only[PV,execOp,hx,hy,asBool,uW];simp
theorem HX(hx:ev n F x= .bool c)(hy:ev n F y= .bool b):PV P n w F ⟨d,.pick x (.const (.bool true)) y,ty,pos,aft,g⟩ (.bool (c||b)):=by
 simp only[PV,execOp,hx,hy,asBool,uW];simp
theorem H7{e}(hx:ev n F x= .bool c)(hy:ev n F y=BK (b&&(c'==true)) (.bool e))(hb:b=true)(hc:c=c'):PV P n w F ⟨d,.pick x y (.const (.bool false)),ty,pos,aft,g⟩ (.bool (c&&e)):=by
 subst hc hb;exact P3
theorem HY{e}(hx:ev n F x= .bool c)(hy:ev n F y=BK (b&&(c'==false)) (.bool e))(hb:b=true)(hc:c=c'):PV P n w F ⟨d,.pick x (.const (.bool true)) y,ty,pos,aft,g⟩ (.bool (c||e)):=by
 subst hc hb;exact P3
theorem HW(hx:ev n F x= .bool c):PV P n w F ⟨d,.unOp .not t x,ty,pos,aft,g⟩ (.bool (!c)):=by
 simp[PV,execOp,hx,Op.unary]
theorem kA{a}(hx:ev n F x= .pointer (some a)):PV P n w F ⟨d,.nilCheck x,ty,pos,aft,g⟩ (.pointer (some a)):=by
 simp[PV,execOp,hx]
theorem yU{vs v}(hx:ev n F x= .tuple vs)(hv:vs[i]? =some v):PV P n w F ⟨d,.extract x i,ty,pos,aft,g⟩ v:=by
 simp[PV,execOp,hx,Instr.extract,hv]
theorem kY{fn a b}:PV P n w F ⟨d,.makeFunc fn a b,ty,pos,aft,g⟩ (.func fn (a.toList.map (ev n F)).toArray (b.toList.map (ev n F)).toArray):=by
 have h:∀a:Array _,a.map (ev n F)=(a.toList.map (ev n F)).toArray:=fun a=>O6
 simp[PV,execOp,Instr.makeFunc,h]
section
variable{b:Int}
theorem qO(hx:ev n F x= .int k a)(hy:ev n F y= .int k b):PV P n w F ⟨d,.binOp .add t x y t',ty,pos,aft,g⟩ (.int k (k.wrap (a+b))):=Uz
theorem jN(hx:ev n F x= .int k a)(hy:ev n F y= .int k b):PV P n w F ⟨d,.binOp .sub t x y t',ty,pos,aft,g⟩ (.int k (k.wrap (a-b))):=Uz
theorem vD(hx:ev n F x= .int k a)(hy:ev n F y= .int k b):PV P n w F ⟨d,.binOp .mul t x y t',ty,pos,aft,g⟩ (.int k (k.wrap (a*b))):=Uz
theorem Gr(hx:ev n F x= .int k a)(hy:ev n F y= .int k b)(hb:b≠0):PV P n w F ⟨d,.binOp .quo t x y t',ty,pos,aft,g⟩ (.int k (k.wrap (a.tdiv b))):=by
 simp[PV,execOp,hx,hy,eqGuard,binOp,Op.intDiv,hb]
theorem GX(hx:ev n F x= .int k a)(hy:ev n F y= .int k b)(hb:b≠0):PV P n w F ⟨d,.binOp .rem t x y t',ty,pos,aft,g⟩ (.int k (a.tmod b)):=by
 simp[PV,execOp,hx,hy,eqGuard,binOp,Op.intDiv,hb]
theorem zQ(hx:ev n F x= .int k a)(hy:ev n F y= .int k b):PV P n w F ⟨d,.binOp .lss t x y t',ty,pos,aft,g⟩ (.bool (decide (a<b))):=PY
theorem uG(hx:ev n F x= .int k a)(hy:ev n F y= .int k b):PV P n w F ⟨d,.binOp .leq t x y t',ty,pos,aft,g⟩ (.bool (decide (a≤b))):=PY
theorem xJ(hx:ev n F x= .int k a)(hy:ev n F y= .int k b):PV P n w F ⟨d,.binOp .gtr t x y t',ty,pos,aft,g⟩ (.bool (decide (b<a))):=PY
theorem vE(hx:ev n F x= .int k a)(hy:ev n F y= .int k b):PV P n w F ⟨d,.binOp .geq t x y t',ty,pos,aft,g⟩ (.bool (decide (b≤a))):=PY
theorem zW(hx:ev n F x= .int k a)(hy:ev n F y= .int k b):PV P n w F ⟨d,.binOp .eql t x y t',ty,pos,aft,g⟩ (.bool (decide (a=b))):=by
 simp[PV,execOp,hx,hy,eqGuard,binOp,Op.intCmp];rfl
theorem kB(hx:ev n F x= .int k a)(hy:ev n F y= .int k b):PV P n w F ⟨d,.binOp .neq t x y t',ty,pos,aft,g⟩ (.bool (!decide (a=b))):=by
 simp[PV,execOp,hx,hy,eqGuard,binOp,Op.intCmp,bne];rfl
theorem Y2{k'}(hd:P.underlying t'=some (.int k'))(hs:∃q,P.underlying t=some q)(hx:ev n F x= .int k a):
  PV P n w F ⟨d,.convert t t' x,ty,pos,aft,g⟩ (.int k' (k'.wrap a)):=by
 have⟨q,hq⟩:=hs;simp[PV,execOp,hx,convert,jQ hq,jQ hd,Conv.intToInt]
theorem Gt(hx:ev n F x= .int k a)(hy:ev n F y= .int k b):PV P n w F ⟨d,.call ⟨.builtin .min,#[x,y],ts⟩,ty,pos,aft,g⟩ (.int k (min a b)):=by
 have:(if b<a then b else a)=min a b:=by rw[Int.min_def];split<;>split<;>omega
 simp[PV,execOp,resolve,invoke,builtin,Builtin.min_,Builtin.min2,hx,hy,this]
end
theorem qK{z}(h1:-9223372036854775808≤z)(h2:z≤9223372036854775807):IntKind.i64.wrap z=z:=by
 rw[IntKind.wrap_i64];omega
theorem qF{b}(h:a=b):Value.int k a= .int k b:=by rw[h]
theorem qV{a}(h:a=b):Value.bool a= .bool b:=by rw[h]
section
variable{a b:ByteArray}
theorem qGi(a b:ByteArray):(a.toList==b.toList)=decide (a=b):=by
 rw[iA];simp only[beq_iff_eq,dV,ByteArray.toList_eq];constructor
 ·intro h;cases a;congr 1;exact Array.toList_inj.1 h
 grind
theorem xV(hx:ev n F x= .string a)(hy:ev n F y= .string b):PV P n w F ⟨d,.binOp .eql t x y t',ty,pos,aft,g⟩ (.bool (decide (a=b))):=mEa
theorem H9(hx:ev n F x= .string a)(hy:ev n F y= .string b):PV P n w F ⟨d,.binOp .neq t x y t',ty,pos,aft,g⟩ (.bool (!decide (a=b))):=mEa
theorem GY(hx:ev n F x= .string a)(hy:ev n F y= .string b)(hl:a.size+b.size≤9223372036854775807):PV P n w F ⟨d,.binOp .add t x y t',ty,pos,aft,g⟩ (.string (a++b)):=by
 simp[PV,execOp,hx,hy,eqGuard,binOp,Op.stringOp];omega
def CK(s:ByteArray)(i:Nat):Int:=((s.data.toList[i]?).getD 0).toNat
theorem jTw(s){i}(hi:i<s.size):CK s i=(s[i]'hi).toNat:=by
 have:i<s.data.toList.length:=by simpa using hi
 unfold CK;rw[aA this];rfl
theorem qVi(hq:P.underlying t=some .string)(hx:ev n F x= .string a)(hy:ev n F y= .int k i)(hi:i<a.size):
  PV P n w F ⟨d,.index t x y,ty,pos,aft,g⟩ (.int .u8 (CK a i)):=by
 have:a[i]? =some (a[i]'hi):=by simp[hi]
 simp[PV,execOp,Instr.index,hx,hy,asIntOf,jQ hq,this,jTw a hi]
end
theorem yC(b o k):(⟨b,o,none⟩:Addr).add k=⟨b,o+k,none⟩:=by
 unfold Addr.add;simp
theorem jDm{s f b k}(hs:P.underlying s=some (.struct fs))(hf:fs[i]? =some f)(hk:kz P f.type (k+1))(hx:ev n F x= .pointer (some ⟨b,o,none⟩)):
  PV P n w F ⟨d,.fieldAddr s x i,ty,pos,aft,g⟩ (.pointer (some ⟨b,o+f.offset,none⟩)):=by
 simp[PV,execOp,Instr.fieldAt,hx,jQ hs,hf,Instr.sureAddr,fieldPlace,hk.run,yC]
def J5(P:Program)(s i off k:Nat):Prop:=(match P.underlying s with
 |some (.struct fs)=>(fs[i]?).map (fun f=>(f.offset,(P.info? f.type).map (·.size)))
 |_=>none)=some (off,some (k+1))
theorem qVk{s b k}(h:J5 P s i off k)(hx:ev n F x= .pointer (some ⟨b,o,none⟩)):
  PV P n w F ⟨d,.fieldAddr s x i,ty,pos,aft,g⟩ (.pointer (some ⟨b,o+off,none⟩)):=by
 unfold J5 at h;split at h
 ·rename_i fs hs
  cases hf:fs[i]? with
  |none=>simp[hf] at h
  |some f=>
   simp[hf] at h;obtain⟨rfl,h2⟩:=h;refine jDm (k:=k) hs hf ?_ hx;unfold kz;grind
 cases h
theorem vN(b o):∀(vs:List Value) (i:Nat) (acc:Array Value),(∀j v,vs[j]? =some v→w.cell? ⟨b,o+i+j,none⟩=some v)→
  (loadCellsFrom ⟨b,o,none⟩ i vs.length acc).run P w= .ok (acc++vs.toArray) w
 |[],i,acc,_=>by simp[loadCellsFrom]
 |v::vs,i,acc,h=>by
  have h0:=h 0 v O;have hr:=vN b o vs _ (acc.push v) (fun j u hu=>by have:=h (j+1) u O6;rw[show o+(i+1)+j=o+i+(j+1) from by omega];exact this);simp only[cF,loadCellsFrom,bT,yC];have hl:(load ⟨b,o+i,none⟩).run P w= .ok v w:=by
   simp only[load,Sem.run];rw[show o+i=o+i+0 from O,h0]
  rw[hl];simp[aN];rw[hr];simp
theorem JX{t b v}(hq:P.underlying t=some q)(h1:Vt q=true)(hx:ev n F x= .pointer (some ⟨b,o,none⟩))(hc:w.cell? ⟨b,o,none⟩=some v):
  PV P n w F ⟨d,.load t x,ty,pos,aft,g⟩ v:=by
 simp[PV,execOp,Instr.loadAt,hx,Instr.sureAddr,loadVar,SD hq h1,Sem.run,hc]
theorem jDk{t:TypeId}{b k:Nat}{vs:List Value}(hq:P.underlying t=some q)(h1:RK q=true)(hk:kz P t k)(hx:ev n F x= .pointer (some ⟨b,o,none⟩))
  (hl:vs.length=k) (hc:∀j v,vs[j]? =some v→w.cell? ⟨b,o+j,none⟩=some v):
  PV P n w F ⟨d,.load t x,ty,pos,aft,g⟩ (.agg vs.toArray):=by
 subst hl;have:=vN (P:=P) b o vs 0 #[] (fun j v hv=>by simpa using hc j v hv);simp[PV,execOp,Instr.loadAt,hx,Instr.sureAddr,loadVar,L6 hq h1,loadCells,hk.run,this]
theorem yO{v c}(hv:v= .int k i)(h:i≤m):(Instr.sliceBound v m c).run P w= .ok i w:=by
 simp[Instr.sliceBound,hv,asIntOf,h]
theorem Jg{t ps zs cs pl}(ht:P.underlying t=some (.struct fs))(hz:kx P t z)(xw:z.cells=zs)
  (xv:∀w,(fs.mapM (fun f=>do pure (f.offset,←sizeOf f.type):Field→Sem (Nat×Nat))).run P w= .ok pl w) (hf:Instr.fill (pl[·]?) zs (ps.map fun(i,x)=>(i,ev n F x)).toList=some cs):
  PV P n w F ⟨d,.build t ps,ty,pos,aft,g⟩ (.agg cs):=by
 subst xw;simp only[PV,execOp,Instr.build,bT,hz.run,aN,jQ ht,xv,hf];rfl
end
variable{M:List Nat}{args:Array Operand}{b:Nat}{cs:List Value}{f:Fr}{t:TypeId}{w0:World}
section
open Go.RowKit (Below)
structure ax(M:List Nat)(w w':World):Prop where
 os:w'.os=w.os
 tape:w'.tape=w.tape
 output:w'.output=w.output
 size:w.heap.size≤w'.heap.size
 block:∀k,k<w.heap.size→k∉M→w'.heap[k]? =w.heap[k]?
theorem ax.refl{M w}:ax M w w:=⟨O,O,O,O1,fun _ _ _=>O⟩
theorem ax.below(h:ax [] w w'):Below w.heap.size w w':=⟨h.os,h.tape,h.output,h.size,fun k hk=>h.block k hk O4⟩
theorem ax.y9(h:Below w.heap.size w w'):ax [] w w':=⟨h.os,h.tape,h.output,h.size,fun k hk _=>h.block k hk⟩
theorem ax.trans{M N a b c}(h:ax M a b)(h2:ax N b c)(hN:∀k∈N,a.heap.size≤k∨k∈M):ax M a c:=
 ⟨h2.os.trans h.os,h2.tape.trans h.tape,h2.output.trans h.output,bF h.size h2.size,fun k hk hm=>(h2.block k (dK hk h.size) (fun hn=>O6)).trans (h.block k hk hm)⟩
theorem ax.drew{M w w'}(h:ax M w w'):ax M w w'.drew:=⟨h.os,h.tape,h.output,h.size,h.block⟩
theorem ax.cell{M w w'}(h:ax M w w'){a v}(hc:w.cell? a=some v)(hm:a.block∉M):w'.cell? a=some v:=
 (World.cell?_of_block (h.block _ (iL w a hc) hm)).trans hc
theorem vP(w o):ax [] w (w.alloc o):=⟨O,O,O,O4,fun k hk _=>iZ w o k hk⟩
abbrev kr:=Option Nat×(Obj→Prop)
structure Hp(w0:World)(M:List Nat)(w:World)(L:List kr):Prop where
 keeps:ax M w0 w
 own:∀(i:Nat) (p:kr),L[i]? =some p→∀b,p.1=some b→w0.heap.size≤b∨b∈M
 has:∀(i:Nat) (p:kr),L[i]? =some p→∀b,p.1=some b→∃o,w.heap[b]? =some o∧p.2 o
 dis:∀(i j:Nat) (p q:kr),L[i]? =some p→L[j]? =some q→i≠j→∀b,p.1=some b→q.1≠some b
abbrev Hp.N:=@Hp.has
abbrev Hp.Z:=@Hp.keeps
section
variable{L:List kr}
theorem Hp.start:Hp w M w []:=⟨.refl,O4,O4,O4⟩
theorem Hp.u7(h:ax M w0 w):Hp w0 M w []:=⟨h,O4,O4,O4⟩
theorem Hp.drew(h:Hp w0 M w L):Hp w0 M w.drew L:=⟨h.keeps.drew,h.own,h.has,h.dis⟩
abbrev Hp.U:=@Hp.drew
theorem Hp.lt(h:Hp w0 M w L){i:Nat}{p:kr}(hi:L[i]? =some p){b:Nat}(hb:p.1=some b):b<w.heap.size:=by
 have⟨o,ho,_⟩:=h.has i p hi b hb;grind
theorem Hp.call(h:Hp w0 M w L)(hk:ax [] w w'):Hp w0 M w' L:=by
 refine⟨h.keeps.trans hk O4,h.own,fun i p hi b hb=>?_,h.dis⟩;have⟨o,ho,hp⟩:=h.has i p hi b hb;exact⟨o,by rw[hk.block b (h.lt hi hb) O4];exact ho,hp⟩
abbrev Hp.V:=@Hp.call
theorem Hp.add(h:Hp w0 M w L)(hk:ax [] w w'){q:kr}(hq:∀b,q.1=some b→w.heap.size≤b∧∃o,w'.heap[b]? =some o∧q.2 o):Hp w0 M w' (q::L):=by
 have h':=h.call hk;refine⟨h'.keeps,fun i p hi b hb=>?_,fun i p hi b hb=>?_,fun i j p r hi hj xr b hb=>?_⟩
 ·cases i with
  |zero=>simp at hi;subst hi;exact .inl (bF h.keeps.size (hq b hb).1)
  |succ i=>exact h.own i p O6 b hb
 ·cases i with
  |zero=>grind
  |succ i=>exact h'.has i p O6 b hb
 cases i with
 |zero=>
  simp at hi;subst hi;cases j with
  |zero=>omega
  |succ j=>
   intro e;have h1:=(hq b hb).1;have h2:=h.lt (by simpa using hj) e;omega
 |succ i=>
  cases j with
  |zero=>
   simp at hj;subst hj;intro e;have h1:=(hq b e).1;have h2:=h.lt (by simpa using hi) hb;omega
  |succ j=>exact h.dis i j p r O6 O6 O1 b hb
theorem Hp.alloc(h:Hp w0 M w L)(o){φ:Obj→Prop}(hφ:φ o):Hp w0 M (w.alloc o) ((some w.heap.size,φ)::L):=
 h.add (vP w o) (by
  intro b hb;simp at hb;subst hb
  exact⟨O1,o,heap_alloc_new w o,hφ⟩)
theorem Hp.tail{q}(h:Hp w0 M w (q::L)):Hp w0 M w L:=
 ⟨h.keeps,fun i p hi=>h.own (i+1) p O6,fun i p hi=>h.has (i+1) p O6,fun i j p r hi hj xr=>h.dis (i+1) (j+1) p r O6 O6 O1⟩
abbrev Hp.E:=@Hp.tail
theorem Hp.k9(h:Hp w0 M w L){b}{q:Obj→Prop}{o}(hb:b∈M)(ho:w.heap[b]? =some o)(hq:q o)(xr:∀(i:Nat) (p:kr),L[i]? =some p→p.1≠some b):Hp w0 M w ((some b,q)::L):=by
 refine⟨h.keeps,fun i p hi c hc=>?_,fun i p hi c hc=>?_,fun i j p r hi hj zn c hc=>?_⟩
 ·cases i with
  |zero=>grind
  |succ i=>exact h.own i p O6 c hc
 ·cases i with
  |zero=>simp at hi;subst hi;grind
  |succ i=>exact h.has i p O6 c hc
 cases i with
 |zero=>
  grind
 |succ i=>
  cases j with
  |zero=>
   grind
  |succ j=>exact h.dis i j p r O6 O6 O1 c hc
theorem Hp.p3(h:Hp w0 M w L){i:Nat}{p q:kr}(hi:L[i]? =some p)(hk:ax p.1.toList w w')(hq:∀b,q.1=some b→(p.1=some b∨w.heap.size≤b)∧∃o,w'.heap[b]? =some o∧q.2 o):
  Hp w0 M w' (L.set i q):=by
 have hQ:=(aI.1 hi).1;refine⟨?_,fun k r hr b hb=>?_,fun k r hr b hb=>?_,fun k j r s hr hs xr b hb=>?_⟩
 ·refine h.keeps.trans hk ?_;intro k pw;have:=by simpa[Option.mem_toList,eq_comm] using pw
  exact h.own i p hi k this
 ·rw[gM] at hr;by_cases px:i=k
  ·subst px;simp[hQ] at hr;subst hr;rcases(hq b hb).1 with h1|h1
   ·exact h.own i p hi b h1
   exact .inl (bF h.keeps.size h1)
  rw[if_neg px] at hr;exact h.own k r hr b hb
 ·rw[gM] at hr;by_cases px:i=k
  ·grind
  rw[if_neg px] at hr;have⟨o,ho,py⟩:=h.has k r hr b hb;refine⟨o,?_,py⟩;rw[hk.block b (h.lt hr hb) ?_]
  ·exact ho
  intro hm;have:=by simpa[Option.mem_toList,eq_comm] using hm
  exact h.dis k i r p hr hi O1 b hb this
 rw[gM] at hr hs;by_cases px:i=k
 ·subst px;rw[if_neg xr] at hs;simp[hQ] at hr;subst hr;intro e;rcases(hq b hb).1 with h1|h1
  ·exact h.dis i j p s hi hs xr b h1 e
  have:=h.lt hs e;omega
 rw[if_neg px] at hr;by_cases zn:i=j
 ·subst zn;simp[hQ] at hs;subst hs;intro e;rcases(hq b e).1 with h1|h1
  ·exact h.dis k i r p hr hi xr b hb h1
  have:=h.lt hr hb;omega
 rw[if_neg zn] at hs;exact h.dis k j r s hr hs xr b hb
theorem Hp.y1(h:Hp w0 M w L){i p}{φ:Obj→Prop}(hi:L[i]? =some p)(hφ:∀o,p.2 o→φ o):Hp w0 M w (L.set i (p.1,φ)):=by
 refine h.p3 hi .refl ?_;intro b hb;have⟨o,ho,hp⟩:=h.has i p hi b hb;grind
theorem Hp.j3{L}(h:Hp w0 [] w L){a v}(hc:w0.cell? a=some v):w.cell? a=some v:=h.keeps.cell hc O4
theorem Hp.old(h:Hp w0 M w L){a v}(hc:w0.cell? a=some v)(hm:a.block∉M):w.cell? a=some v:=h.keeps.cell hc hm
abbrev Hp.H:=@Hp.old
end
def GS(m:Nat)(f:Fr)(t:TypeId):Obj→Prop:=fun o=>o= .cells (Array.ofFn (n:=m) fun i=>f i) t (0,0)
def bu(b m:Nat)(f:Fr)(t:TypeId):kr:=(some b,GS m f t)
section
variable{L:List kr}
theorem JO(hb:w.heap[b]? =some (.cells (Array.ofFn (n:=m) fun i=>f i) t (0,0)))(ho:o<m):w.cell? ⟨b,o,none⟩=some (f o):=by
 simp[World.cell?,hb,ho]
theorem Hp.cell(h:Hp w0 M w L)(i:Nat){b m o:Nat}{f:Fr}{t:TypeId}(hi:L[i]? =some (bu b m f t))(ho:Nat.blt o m=true):w.cell? ⟨b,o,none⟩=some (f o):=by
 have⟨ob,h1,h2⟩:=h.has i _ hi b O;have h3:ob=_:=h2;subst h3;exact JO h1 (Md ho)
abbrev Hp.J:=@Hp.cell
theorem Hp.cells(h:Hp w0 M w L)(i:Nat){b m o f t}(vs:List Value)(hi:L[i]? =some (bu b m f t))(ho:Nat.ble (o+vs.length) m=true)
  (hv:∀j v,vs[j]? =some v→f (o+j)=v):∀j v,vs[j]? =some v→w.cell? ⟨b,o+j,none⟩=some v:=by
 intro j v hj;have hl:=(aI.1 hj).1;rw[h.cell i hi (yQ (by have:=fH ho;omega)),hv j v hj]
theorem Hp.j2(h:Hp w0 M w L)(i:Nat){b m o k f t}(hi:L[i]? =some (bu b m f t))(ho:Nat.ble (o+k) m=true):
  ∀(j:Nat) (v:Value),((range k).map fun j=>f (o+j))[j]? =some v→w.cell? ⟨b,o+j,none⟩=some v:=by
 intro j v hj;rw[bH] at hj;by_cases hl:j<k
 ·rw[mE hl] at hj;simp at hj;rw[h.cell i hi (yQ (by have:=fH ho;omega)),hj]
 grind
def uT(f:Fr)(o:Nat):List Value→Fr
 |[]=>f
 |v::vs=>uT (f.put o v) (o+1) vs
def kM:Value→Bool
 | .agg _=>false
 | .tuple _=>false
 |_=>true
theorem qVe{v:Value}(hb:w.heap[b]? =some (.cells (Array.ofFn (n:=m) fun i=>f i) t (0,0)))(ho:o<m)(h1:kM v=true):
  ∃w',(store ⟨b,o,none⟩ v).run P w= .ok () w'∧ax [b] w w'∧w'.heap[b]? =some (.cells (Array.ofFn (n:=m) fun i=>(f.put o v) i) t (0,0)):=by
 have hc:=JO hb ho;have hf:w.frozen? ⟨b,o,none⟩=false:=by simp[World.frozen?,hb]
 refine⟨w.setCell ⟨b,o,none⟩ v,?_,⟨O,O,O,O4,fun k _ hm=>?_⟩,?_⟩
 ·exact mEe
 ·simp only[World.setCell,lO];grind
 simp only[World.setCell,lO,if_true,hb,fD];congr 2;apply rH
 ·simp
 intro i h1 h2;have hi:=by simpa using h2
 simp only[Option.isSome_none,fA,iX];rw[xS O6];simp only[nM,Fr.put];by_cases h:o=i
 ·subst h;simp
 rw[if_neg h,jJ O1];rfl
theorem qLj{P:Program}{b m:Nat}{t:TypeId}:∀(vs:List Value) (w:World) (f:Fr) (o i:Nat),w.heap[b]? =some (.cells (Array.ofFn (n:=m) fun i=>f i) t (0,0))→o+i+vs.length≤m→vs.all kM=true→
  ∃w',(storeCells ⟨b,o,none⟩ vs i).run P w= .ok () w'∧ax [b] w w'∧w'.heap[b]? =some (.cells (Array.ofFn (n:=m) fun j=>(uT f (o+i) vs) j) t (0,0))
 |[],w,f,o,i,hb,_,_=>⟨w,by simp[storeCells],.refl,hb⟩
 |v::vs,w,f,o,i,hb,hl,h1=>by
  simp only[pJ,aJ] at h1;simp[cF] at hl;have⟨w1,r1,k1,b1⟩:=qVe (P:=P) (o:=o+i) hb O1 h1.1;have⟨w2,r2,k2,b2⟩:=qLj (P:=P) vs w1 _ o (i+1) b1 O1 h1.2;exact mDb
end
section
variable{L:List kr}{pos:String}{x:Operand}
theorem xN{o v R}(h:(execOp (ev n F) o).run P w= .ok (.value v) w')(hr:R v w'):gx P n o F w R:=.inl ⟨v,w',by rw[zF];exact h,hr⟩
theorem wE{o R}(h:(execOp (ev n F) o).run P w= .ok .skip w')(hr:R undef w'):gx P n o F w R:=.inr (.inl ⟨w',by rw[zF];exact h,hr⟩)
theorem uA:∀(l:List Value) (i:Nat),qE l i=l.getD i undef:=by
 intro l;induction l with
 |nil=>simp[qE]
 |cons x l ih=>intro i;cases i<;>simp[qE,ih]
theorem SW(l):(Array.ofFn (n:=l.length) fun i=>qE l i)=l.toArray:=by
 apply rH
 ·simp
 simp[uA]
theorem kW{v}(hp:Hp w0 M w L)(hx:ev n F x=v)(u1:v.cells.toList=cs)(hm:cs.length=m):
  gx P n ⟨d,.box t x,ty,pos,aft,g⟩ F w (fun u w'=>∃b,u= .pointer (Ad b)∧Hp w0 M w' (bu b m (qE cs) t::L)):=by
 subst hm;have xu:=SW;refine xN (w':=w.alloc (.cells v.cells t)) ?_ ⟨_,O,hp.alloc _ ?_⟩
 ·simp[execOp,Instr.box,newVar,newRow,hx,Sem.run]
 show _=_
 rw[xu,←u1]
theorem zE(hp:Hp w0 M w L)(hz:kx P t z)(u1:z.cells.toList=cs)(hm:cs.length=m):
  gx P n ⟨d,.alloc t,ty,pos,aft,g⟩ F w (fun u w'=>∃b,u= .pointer (Ad b)∧Hp w0 M w' (bu b m (qE cs) t::L)):=by
 have xu:=SW;subst hm;refine xN (w':=w.alloc (.cells z.cells t)) ?_ ⟨_,O,hp.alloc _ ?_⟩
 ·simp only[execOp,Instr.alloc,bT,hz.run,aN];simp[newVar,newRow,Sem.run]
 show _=_
 rw[xu,←u1]
theorem zH{tb v}(hp:Hp w0 M w L)(i:Nat)(hx:ev n F x= .pointer (some ⟨b,o,none⟩))(hy:ev n F y=v)(hi:L[i]? =some (bu b m f tb))
  (u1:v.cells.toList=cs) (hk:kz P t cs.length) (ho:Nat.ble (o+cs.length) m=true) (h1:cs.all kM=true):
  gx P n ⟨d,.store t x y,ty,pos,aft,g⟩ F w (fun u w'=>u=undef∧Hp w0 M w' (L.set i (bu b m (uT f o cs) tb))):=by
 have⟨ob,oa,et⟩:=hp.N i _ hi b O;have og:ob=_:=et;subst og;have⟨w',hr,pw,oc⟩:=qLj (P:=P) cs w f o 0 oa (by have:=fH ho;omega) h1;refine wE ?_ ⟨O,hp.p3 hi (by simpa[bu] using pw) ?_⟩
 ·have ha:v.cells.size=cs.length:=by rw[←u1];simp
  have zw:=hk.run (w:=w);simp only[execOp,Instr.storeAt,hx,hy,Instr.sureAddr,storeVar,bT,dZ,aN,zw,ha,u1];simp[hr]
 intro b' pz;have:b'=b:=by simpa[bu,eq_comm] using pz
 subst this;exact⟨.inl O,_,oc,O⟩
def km(P:Program)(f:FuncId)(args:List Value)(w:World)(R:Value→World→Prop):Prop:=Calls P f args.toArray w (fun e w'=>∃v,e= .returned v∧R v w')
theorem km.mono{f args R R'}(h:km P f args w R)(hr:∀v w',R v w'→R' v w'):km P f args w R':=
 Ns h fun _ _ ⟨v,he,hv⟩=>⟨v,he,hr _ _ hv⟩
def qI(P:Program)(f:FuncId):Prop:=∀(args:Array Value) (w:World),(callFunc f args).run P w= .ok (.enter f args) w
theorem qC{f first my vs R}(hx:ev n F x= .func (.func f) first my)(he:qI P f)
  (di:first.toList++args.toList.map (ev n F)++my.toList=vs) (hc:km P f vs w R):
  gx P n ⟨d,.call ⟨.value x,args,ts⟩,ty,pos,aft,g⟩ F w R:=by
 refine .inr (.inr ⟨f,_,w,?_,hc⟩);rw[zF];have ha:first++args.map (ev n F)++my=vs.toArray:=by
  rw[←di];simp
 simp only[execOp,resolve,bT,hx,Deferred.ofValue,dZ,aN,invoke];rw[ha];exact he _ _
theorem km.j6{f fn c args R}(hf:P.funcs[f]? =some fn)(hb:fn.body=some c){m}(hn:fn.ntmps=m)(ha:Nat.ble args.length m=true)
  (h:WP P (ky.of m) c (Gh P (ky.of m) fn (fun e w'=>∃v,e= .returned v∧R v w')) (qE args) w):km P f args w R:=
 qUn hf hb hn (fH ha) h
end
end
variable{c0 c1 c2 c3 c4 c5 c6 c7 c8 c9 p0 p1:Value}{op:Op}{s:Option Addr}
section
variable{Q:Exit→Fr→World→Prop}{rest:List Oper}
variable{d:Nat}{pos:String}
theorem ke{v}(hp:PV P n w F ⟨some d,op,ty,pos,aft,none⟩ r)(hv:r=v)(h:kq P n ops rest Q (F.put d v) w):kq P n ops (⟨some d,op,ty,pos,aft,none⟩::rest) Q F w:=jC0 O hp hv h
theorem M9{v e}(hj:yW ops j=some e)(hc:ev n F (.tmp e)= .bool c)
  (hp:(c==want)=true→PV P n w F ⟨some d,op,ty,pos,aft,some (j,want)⟩ r) (hv:(c==want)=true→r=v) (h:kq P n ops rest Q (F.put d (BK (c==want) v)) w):kq P n ops (⟨some d,op,ty,pos,aft,some (j,want)⟩::rest) Q F w:=jNg O hj hc hp hv h
theorem Qn{v b e}(hj:yW ops j=some e)(hc:ev n F (.tmp e)=BK b (.bool c))
  (hp:b=true→(b&&(c==want))=true→PV P n w F ⟨some d,op,ty,pos,aft,some (j,want)⟩ r) (hv:b=true→(b&&(c==want))=true→r=v) (h:kq P n ops rest Q (F.put d (BK (b&&(c==want)) v)) w):kq P n ops (⟨some d,op,ty,pos,aft,some (j,want)⟩::rest) Q F w:=jIm O hj hc hp hv h
theorem jUy{v b e}(he:zC op=false)(hj:yW ops j=some e)(hc:ev n F (.tmp e)=BK b (.bool c))
  (hp:∀w,G w→b=true→(b&&(c==want))=true→PV P n w F ⟨some d,op,ty,pos,aft,some (j,want)⟩ r) (hv:b=true→(b&&(c==want))=true→r=v) (h:kn P n ops st G rest Q (F.put d (BK (b&&(c==want)) v)) w):kn P n ops st G (⟨some d,op,ty,pos,aft,some (j,want)⟩::rest) Q F w:=jIn he O hj hc (fun a b c d=>hp c d a b) hv h
theorem Ax{R}(hs:gx P n ⟨some d,op,ty,pos,aft,none⟩ F w R)(h:∀v w',R v w'→kq P n ops rest Q (F.put d v) w'):kq P n ops (⟨some d,op,ty,pos,aft,none⟩::rest) Q F w:=Tg O hs h
theorem jI{R}(hs:gx P n ⟨none,op,ty,pos,aft,none⟩ F w R)(h:∀v w',R v w'→kq P n ops rest Q F w'):kq P n ops (⟨none,op,ty,pos,aft,none⟩::rest) Q F w:=Tg O hs h
theorem kp{v}(he:zC op=false)(hp:∀w,G w→PV P n w F ⟨some d,op,ty,pos,aft,none⟩ r)(hv:r=v)(h:kn P n ops st G rest Q (F.put d v) w):kn P n ops st G (⟨some d,op,ty,pos,aft,none⟩::rest) Q F w:=jC2 he O hp hv h
theorem Lg{v e}(he:zC op=false)(hj:yW ops j=some e)(hc:ev n F (.tmp e)= .bool c)
  (hp:∀w,G w→(c==want)=true→PV P n w F ⟨some d,op,ty,pos,aft,some (j,want)⟩ r) (hv:(c==want)=true→r=v) (h:kn P n ops st G rest Q (F.put d (BK (c==want) v)) w):kn P n ops st G (⟨some d,op,ty,pos,aft,some (j,want)⟩::rest) Q F w:=jNh he O hj hc (fun a b c=>hp b c a) hv h
theorem Ag{R}(he:zC op=true)(hs:gx P n ⟨some d,op,ty,pos,aft,none⟩ F w R)(h:∀v w',R v w'→G w'∧kn P n ops st G rest Q (F.put d v) w'):kn P n ops st G (⟨some d,op,ty,pos,aft,none⟩::rest) Q F w:=qSj he O hs h
theorem GL{R}(he:zC op=true)(hs:gx P n ⟨none,op,ty,pos,aft,none⟩ F w R)(h:∀v w',R v w'→G w'∧kn P n ops st G rest Q F w'):kn P n ops st G (⟨none,op,ty,pos,aft,none⟩::rest) Q F w:=qSj he O hs h
theorem xH{R}(he:zC op=true)(hn:ET false ⟨none,op,ty,pos,aft,none⟩=false)(hs:gx P n ⟨none,op,ty,pos,aft,none⟩ F w R)(h:∀v w',R v w'→kn P n ops false G rest Q F w'):kn P n ops false G (⟨none,op,ty,pos,aft,none⟩::rest) Q F w:=qO5 he hn O hs h
theorem Qh{R}(he:zC op=true)(hn:ET false ⟨some d,op,ty,pos,aft,none⟩=false)(hs:gx P n ⟨some d,op,ty,pos,aft,none⟩ F w R)(h:∀v w',R v w'→kn P n ops false G rest Q (F.put d v) w'):kn P n ops false G (⟨some d,op,ty,pos,aft,none⟩::rest) Q F w:=qO5 he hn O hs h
theorem jUx{v e}(he:zC op=true)(hj:yW ops j=some e)(hc:ev n F (.tmp e)= .bool c)(C:World→Prop)(hC:C w)
  (hs:(c==want)=true→gx P n ⟨some d,op,ty,pos,aft,some (j,want)⟩ F w (fun u w'=>u=v∧C w')) (h:∀w',C w'→G w'∧kn P n ops st G rest Q (F.put d (BK (c==want) v)) w'):
  kn P n ops st G (⟨some d,op,ty,pos,aft,some (j,want)⟩::rest) Q F w:=jA6 he O hj hc C hC hs h
end
section
variable{L:List kr}{pos:String}{x:Operand}{tb:TypeId}
theorem uS(hp:Hp w0 M w L)(hx:ev n F x=c0)(h1:kM c0=true):gx P n ⟨d,.box t x,ty,pos,aft,g⟩ F w (fun u w'=>∃b,u= .pointer (Ad b)∧Hp w0 M w' (bu b 1 (qE [c0]) t::L)):=kW hp hx (by cases c0<;>first|rfl|cases h1) O
theorem zT(hp:Hp w0 M w L)(hz:kx P t c0)(h1:kM c0=true):gx P n ⟨d,.alloc t,ty,pos,aft,g⟩ F w (fun u w'=>∃b,u= .pointer (Ad b)∧Hp w0 M w' (bu b 1 (qE [c0]) t::L)):=zE hp hz (by cases c0<;>first|rfl|cases h1) O
theorem jD(hp:Hp w0 M w L)(i:Nat)(hx:ev n F x= .pointer (some ⟨b,o,none⟩))(hy:ev n F y=c0)(h1:kM c0=true)(hi:L[i]? =some (bu b m f tb))(hk:kz P t 1)(ho:Nat.ble (o+1) m=true):
  gx P n ⟨d,.store t x y,ty,pos,aft,g⟩ F w (fun u w'=>u=undef∧Hp w0 M w' (L.set i (bu b m (uT f o [c0]) tb))):=zH hp i hx hy hi (by cases c0<;>first|rfl|cases h1) hk ho (by simp[h1])
theorem wY(hp:Hp w0 M w L)(hx:ev n F x=(.agg #[c0,c1])):gx P n ⟨d,.box t x,ty,pos,aft,g⟩ F w (fun u w'=>∃b,u= .pointer (Ad b)∧Hp w0 M w' (bu b 2 (qE [c0,c1]) t::L)):=kW hp hx O O
theorem wZ(hp:Hp w0 M w L)(hz:kx P t (.agg #[c0,c1])):gx P n ⟨d,.alloc t,ty,pos,aft,g⟩ F w (fun u w'=>∃b,u= .pointer (Ad b)∧Hp w0 M w' (bu b 2 (qE [c0,c1]) t::L)):=zE hp hz O O
theorem xM(hp:Hp w0 M w L)(i:Nat)(hx:ev n F x= .pointer (some ⟨b,o,none⟩))(hy:ev n F y=(.agg #[c0,c1]))(h1:[c0,c1].all kM=true)(hi:L[i]? =some (bu b m f tb))(hk:kz P t 2)(ho:Nat.ble (o+2) m=true):
  gx P n ⟨d,.store t x y,ty,pos,aft,g⟩ F w (fun u w'=>u=undef∧Hp w0 M w' (L.set i (bu b m (uT f o [c0,c1]) tb))):=zH hp i hx hy hi O hk ho h1
theorem TR(hp:Hp w0 M w L)(hx:ev n F x=(.agg #[c0,c1,c2])):gx P n ⟨d,.box t x,ty,pos,aft,g⟩ F w (fun u w'=>∃b,u= .pointer (Ad b)∧Hp w0 M w' (bu b 3 (qE [c0,c1,c2]) t::L)):=kW hp hx O O
theorem jK(hp:Hp w0 M w L)(hz:kx P t (.agg #[c0,c1,c2])):gx P n ⟨d,.alloc t,ty,pos,aft,g⟩ F w (fun u w'=>∃b,u= .pointer (Ad b)∧Hp w0 M w' (bu b 3 (qE [c0,c1,c2]) t::L)):=zE hp hz O O
theorem qW(hp:Hp w0 M w L)(i:Nat)(hx:ev n F x= .pointer (some ⟨b,o,none⟩))(hy:ev n F y=(.agg #[c0,c1,c2]))(h1:[c0,c1,c2].all kM=true)(hi:L[i]? =some (bu b m f tb))(hk:kz P t 3)(ho:Nat.ble (o+3) m=true):
  gx P n ⟨d,.store t x y,ty,pos,aft,g⟩ F w (fun u w'=>u=undef∧Hp w0 M w' (L.set i (bu b m (uT f o [c0,c1,c2]) tb))):=zH hp i hx hy hi O hk ho h1
theorem jMa(hp:Hp w0 M w L)(hx:ev n F x=(.agg #[c0,c1,c2,c3])):gx P n ⟨d,.box t x,ty,pos,aft,g⟩ F w (fun u w'=>∃b,u= .pointer (Ad b)∧Hp w0 M w' (bu b 4 (qE [c0,c1,c2,c3]) t::L)):=kW hp hx O O
theorem OG(hp:Hp w0 M w L)(hz:kx P t (.agg #[c0,c1,c2,c3])):gx P n ⟨d,.alloc t,ty,pos,aft,g⟩ F w (fun u w'=>∃b,u= .pointer (Ad b)∧Hp w0 M w' (bu b 4 (qE [c0,c1,c2,c3]) t::L)):=zE hp hz O O
theorem OI(hp:Hp w0 M w L)(i:Nat)(hx:ev n F x= .pointer (some ⟨b,o,none⟩))(hy:ev n F y=(.agg #[c0,c1,c2,c3]))(h1:[c0,c1,c2,c3].all kM=true)(hi:L[i]? =some (bu b m f tb))(hk:kz P t 4)(ho:Nat.ble (o+4) m=true):
  gx P n ⟨d,.store t x y,ty,pos,aft,g⟩ F w (fun u w'=>u=undef∧Hp w0 M w' (L.set i (bu b m (uT f o [c0,c1,c2,c3]) tb))):=zH hp i hx hy hi O hk ho h1
theorem Y7(hp:Hp w0 M w L)(hz:kx P t (.agg #[c0,c1,c2,c3,c4])):gx P n ⟨d,.alloc t,ty,pos,aft,g⟩ F w (fun u w'=>∃b,u= .pointer (Ad b)∧Hp w0 M w' (bu b 5 (qE [c0,c1,c2,c3,c4]) t::L)):=zE hp hz O O
theorem qDh(hp:Hp w0 M w L)(hx:ev n F x=(.agg #[c0,c1,c2,c3,c4,c5])):gx P n ⟨d,.box t x,ty,pos,aft,g⟩ F w (fun u w'=>∃b,u= .pointer (Ad b)∧Hp w0 M w' (bu b 6 (qE [c0,c1,c2,c3,c4,c5]) t::L)):=kW hp hx O O
theorem vA(hp:Hp w0 M w L)(hz:kx P t (.agg #[c0,c1,c2,c3,c4,c5])):gx P n ⟨d,.alloc t,ty,pos,aft,g⟩ F w (fun u w'=>∃b,u= .pointer (Ad b)∧Hp w0 M w' (bu b 6 (qE [c0,c1,c2,c3,c4,c5]) t::L)):=zE hp hz O O
theorem zU(hp:Hp w0 M w L)(i:Nat)(hx:ev n F x= .pointer (some ⟨b,o,none⟩))(hy:ev n F y=(.agg #[c0,c1,c2,c3,c4,c5]))(h1:[c0,c1,c2,c3,c4,c5].all kM=true)(hi:L[i]? =some (bu b m f tb))(hk:kz P t 6)(ho:Nat.ble (o+6) m=true):
  gx P n ⟨d,.store t x y,ty,pos,aft,g⟩ F w (fun u w'=>u=undef∧Hp w0 M w' (L.set i (bu b m (uT f o [c0,c1,c2,c3,c4,c5]) tb))):=zH hp i hx hy hi O hk ho h1
theorem zO{Bz}(hp:Hp w0 M w L)(hx:ev n F x=(.agg #[c0,c1,c2,c3,c4,c5,c6,c7,c8,c9,p1,p0,Bz])):gx P n ⟨d,.box t x,ty,pos,aft,g⟩ F w (fun u w'=>∃b,u= .pointer (Ad b)∧Hp w0 M w' (bu b 13 (qE [c0,c1,c2,c3,c4,c5,c6,c7,c8,c9,p1,p0,Bz]) t::L)):=kW hp hx O O
theorem kP{Bz}(hp:Hp w0 M w L)(hz:kx P t (.agg #[c0,c1,c2,c3,c4,c5,c6,c7,c8,c9,p1,p0,Bz])):gx P n ⟨d,.alloc t,ty,pos,aft,g⟩ F w (fun u w'=>∃b,u= .pointer (Ad b)∧Hp w0 M w' (bu b 13 (qE [c0,c1,c2,c3,c4,c5,c6,c7,c8,c9,p1,p0,Bz]) t::L)):=zE hp hz O O
theorem xC{Bz}(hp:Hp w0 M w L)(i:Nat)(hx:ev n F x= .pointer (some ⟨b,o,none⟩))(hy:ev n F y=(.agg #[c0,c1,c2,c3,c4,c5,c6,c7,c8,c9,p1,p0,Bz]))(h1:[c0,c1,c2,c3,c4,c5,c6,c7,c8,c9,p1,p0,Bz].all kM=true)(hi:L[i]? =some (bu b m f tb))(hk:kz P t 13)(ho:Nat.ble (o+13) m=true):
  gx P n ⟨d,.store t x y,ty,pos,aft,g⟩ F w (fun u w'=>u=undef∧Hp w0 M w' (L.set i (bu b m (uT f o [c0,c1,c2,c3,c4,c5,c6,c7,c8,c9,p1,p0,Bz]) tb))):=zH hp i hx hy hi O hk ho h1
end
theorem fI(h:r= .int k a):r= .int k a:=h
theorem fB{a:Bool}(h:r= .bool a):r= .bool a:=h
theorem fP(h:r= .pointer (some ⟨b,o,none⟩)):r= .pointer (some ⟨b,o,none⟩):=h
theorem fS{c:Nat}(h:r= .slice s m c):r= .slice s m c:=h
theorem fT{s:ByteArray}(h:r= .string s):r= .string s:=h
theorem fF{f:Fn}{a b:Array Value}(h:r= .func f a b):r= .func f a b:=h
theorem Qv{f:Fn}(h:r= .func f #[] #[]):r= .func f #[] #[]:=h
theorem Qu{f:Fn}{a:Value}(h:r= .func f #[] #[a]):r= .func f #[] #[a]:=h
theorem Qt{f:Fn}{a b:Value}(h:r= .func f #[] #[a,b]):r= .func f #[] #[a,b]:=h
theorem Qs{f:Fn}{a b c:Value}(h:r= .func f #[] #[a,b,c]):r= .func f #[] #[a,b,c]:=h
theorem fM{s:Option Nat}(h:r= .map s):r= .map s:=h
theorem fU{vs:Array Value}(h:r= .tuple vs):r= .tuple vs:=h
theorem fL{v b}(h:r=BK b v):r=BK b v:=h
theorem Qx(h:r= .agg #[c0,c1]):r= .agg #[c0,c1]:=h
theorem DF(h:r= .agg #[c0,c1,c2]):r= .agg #[c0,c1,c2]:=h
theorem Qw(h:r= .agg #[c0,c1,c2,c3]):r= .agg #[c0,c1,c2,c3]:=h
theorem KY(h:r= .agg #[c0,c1,c2,c3,c4,c5]):r= .agg #[c0,c1,c2,c3,c4,c5]:=h
theorem ON{Bz:Value}(h:r= .agg #[c0,c1,c2,c3,c4,c5,c6,c7,c8,c9,p1,p0,Bz]):r= .agg #[c0,c1,c2,c3,c4,c5,c6,c7,c8,c9,p1,p0,Bz]:=h
section
attribute [local irreducible] PV gx kq kn WP km
variable{clock:Nat}{et kt:TypeId}{zv:Value}{α:Type}
structure Ar(α:Type)[DecidableEq α] where
 kd:TypeDesc
 enc:α→Value
 same:∀a b,Instr.sameNow kd (enc a) (enc b)=some (decide (a=b))
 bits:∀a,Instr.sameBits 10000 (enc a) (enc a)=true
 plain:∀(P:Program) (w:World) (e:Bool) (t:TypeId) (a:α),P.underlying t=some kd→(Instr.checkKey e 10000 t (enc a)).run P w= .ok () w
def AG:Ar Int where
 kd:=.int .i64
 enc a:=Iv a
 same a b:=by rfl
 bits a:=by simp[Instr.sameBits]
 plain P w e t a h:=by
  exact T7
theorem TB(a b:ByteArray):(a==b)=decide (a=b):=by
 rw[beq_toListBytes,qGi]
def nk:Ar ByteArray where
 kd:=.string
 enc a:=.string a
 same a b:=by simp[Instr.sameNow,TB]
 bits a:=by simp[Instr.sameBits,TB]
 plain P w e t a h:=by
  exact T7
section
variable[DecidableEq α](K:Ar α)
def kQ(x:α×Value×Nat):MapEntry:={key:=K.enc x.1,val:=x.2.1,born:=x.2.2}
def lk(l:List (α×Value×Nat))(a:α):Option Value:=(l.find? (fun x=>decide (x.1=a))).map (·.2.1)
structure Ip(l:List (α×Value×Nat))(clock:Nat):Prop where
 born:∀x∈l,x.2.2<clock
 nd:(l.map (·.2.2)).Nodup
 keys:(l.map (·.1)).Nodup
def Fi(f:α→Option Value):Obj→Prop:=fun o=>∃(l:List (α×Value×Nat)) (clock:Nat),o= .map (l.map (kQ K)).toArray clock∧(∀a,lk l a=f a)∧Ip l clock
omit [DecidableEq α] in
theorem Ip.p3{l:List (α×Value×Nat)}(h:Ip l clock)(k:Nat)(v:Value):Ip (l.modify k fun x=>(x.1,v,x.2.2)) clock:=by
 have e1:(l.modify k fun x=>(x.1,v,x.2.2)).map (·.2.2)=l.map (·.2.2):=by
  exact mCq
 have e2:(l.modify k fun x=>(x.1,v,x.2.2)).map (·.1)=l.map (·.1):=by
  exact mCq
 refine⟨fun x hx=>?_,by rw[e1];exact h.nd,by rw[e2];exact h.keys⟩;have:x.2.2∈l.map (·.2.2):=by rw[←e1];exact List.mem_map_of_mem hx
 have⟨y,hy,e⟩:=bM.1 this;rw[←e];exact h.born y hy
theorem Ip.push{l}(h:Ip l clock){a:α}{v}(hn:lk l a=none):Ip (l++[(a,v,clock)]) (clock+1):=by
 refine⟨fun x hx=>?_,?_,?_⟩
 ·rcases fK.1 hx with hx|hx
  ·exact Nat.lt_succ_of_lt (h.born x hx)
  grind
 ·rw[dR,pX];refine⟨h.nd,O4,?_⟩;intro x hx y hy e;obtain⟨z,hz,rfl⟩:=bM.1 hx;have:=by simpa using hy
  have:=h.born z hz;omega
 rw[dR,pX];refine⟨h.keys,O4,?_⟩;unfold lk at hn;rw[Option.map_eq_none_iff,List.find?_eq_none] at hn;grind
def DB(a:α):List (α×Value×Nat)→Nat→Option (Nat×Value)
 |[],_=>none
 |x::l,i=>if a=x.1 then some (i,x.2.1) else DB a l (i+1)
theorem qMr(a:α):∀(l:List (α×Value×Nat)) (i:Nat),Instr.findNow K.kd (K.enc a) (l.map (kQ K)) i=some (DB a l i)
 |[],i=>rfl
 |x::l,i=>by
  simp[fG,Instr.findNow,kQ,K.same,DB];by_cases h:a=x.1
  ·simp[h]
  simp[h,Ll,iX];exact qMr a l _
theorem HR(a:α):∀(l:List (α×Value×Nat)) (i:Nat),(DB a l i).map (·.2)=lk l a
 |[],i=>rfl
 |x::l,i=>by
  simp[DB,lk,Rr];by_cases h:a=x.1
  ·simp[h]
  have h':¬x.1=a:=fun e=>h e.symm
  simp[h,h',iX,Ll];exact HR a l _
theorem Si(a:α)(v):∀(l:List (α×Value×Nat)) (i:Nat) (j:Nat) (u:Value),DB a l i=some (j,u)→
  ∃k,j=i+k∧k<l.length∧(∃x,l[k]? =some x∧x.1=a)∧∀b,lk (l.modify k fun x=>(x.1,v,x.2.2)) b=if b=a then some v else lk l b
 |[],i,j,u,h=>by cases h
 |x::l,i,j,u,h=>by
  simp[DB] at h;by_cases hx:a=x.1
  ·rw[if_pos hx] at h;cases h;simp[List.modify_zero_cons,lk,Rr];grind
  rw[if_neg hx] at h;have⟨k,hj,hk,⟨y,hy,ha⟩,hb⟩:=Si a v l _ j u h;refine⟨k+1,O1,O6,⟨y,O6,ha⟩,fun b=>?_⟩;have:=hb b;simp[lk,List.modify_succ_cons,Rr] at this⊢;grind
theorem YN(a:α)(v c l)(h:lk l a=none)(b:α):lk (l++[(a,v,c)]) b=if b=a then some v else lk l b:=by
 unfold lk at*
 grind
variable{L:List kr}
theorem PJ(ht:P.underlying t=some K.kd)(a:α)(l):(Instr.findKey t (K.enc a) (l.map (kQ K))).run P w= .ok (DB a l 0) w:=by
 simp only[Instr.findKey,bT,jQ ht,aN,qMr];rfl
theorem jDc{mt}{f:α→Option Value}{o}(hm:P.underlying mt=some (.map kt et))(hk:P.underlying kt=some K.kd)(hz:kx P et z)(hb:w.heap[b]? =some o)(ho:Fi K f o)(a:α):
  (Instr.lookup mt (.map (some b)) (K.enc a) false).run P w= .ok ((f a).getD z) w:=by
 obtain⟨l,clock,rfl,hl,ha⟩:=ho;have hg:(getObj b).run P w= .ok (.map (l.map (kQ K)).toArray clock) w:=by simp[getObj,Sem.run,hb]
 simp only[Instr.lookup,bT,jQ hm,aN,hg,K.plain P w _ kt a hk,dZ,PJ K hk];rw[←hl,←HR a l 0];cases hf:DB a l 0 with
 |none=>simp[hz.run]
 |some y=>simp
theorem qSz{mt}{f:α→Option Value}{o}(hm:P.underlying mt=some (.map kt et))(hk:P.underlying kt=some K.kd)(hz:kx P et z)(hb:w.heap[b]? =some o)(ho:Fi K f o)(a:α):
  (Instr.lookup mt (.map (some b)) (K.enc a) true).run P w= .ok (.tuple #[(f a).getD z,.bool (f a).isSome]) w:=by
 obtain⟨l,clock,rfl,hl,ha⟩:=ho;have hg:(getObj b).run P w= .ok (.map (l.map (kQ K)).toArray clock) w:=by simp[getObj,Sem.run,hb]
 simp only[Instr.lookup,bT,jQ hm,aN,hg,K.plain P w _ kt a hk,dZ,PJ K hk];rw[←hl,←HR a l 0];cases hf:DB a l 0 with
 |none=>simp[hz.run]
 |some y=>simp
theorem jJd{mt:TypeId}{f:α→Option Value}{o:Obj}(hm:P.underlying mt=some (.map kt et))(hk:P.underlying kt=some K.kd)(hb:w.heap[b]? =some o)(ho:Fi K f o)(a:α)(v:Value):
  ∃w' o',(Instr.mapUpdate mt (.map (some b)) (K.enc a) v).run P w= .ok () w'∧ax [b] w w'∧w'.heap[b]? =some o'∧Fi K (fun x=>if x=a then some v else f x) o':=by
 obtain⟨l,clock,rfl,hl,hh⟩:=ho;have hg:(getObj b).run P w= .ok (.map (l.map (kQ K)).toArray clock) w:=by simp[getObj,Sem.run,hb]
 have ha:=(aM.1 hb).1;have hT:∀o',(setObj b o').run P w= .ok () {w with heap:=w.heap.setIfInBounds b o'}:=by
  intro o';simp[setObj,Sem.run,hb]
 have hz:∀o',ax [b] w {w with heap:=w.heap.setIfInBounds b o'}:=fun o'=>⟨O,O,O,O4,fun k _ pw=>by
  grind⟩
 have hn:∀o',(w.heap.setIfInBounds b o')[b]? =some o':=fun o'=>O6
 cases hf:DB a l 0 with
 |none=>
  refine⟨_,_,?_,hz _,hn _,l++[(a,v,clock)],_,O,fun x=>?_,hh.push (by rw[←HR,hf];rfl)⟩
  ·simp only[Instr.mapUpdate,bT,jQ hm,aN,hg,K.plain P w _ kt a hk,PJ K hk,hf,hT];simp[kQ]
  rw[YN a v _ l (by rw[←HR,hf];rfl),hl]
 |some y=>
  have⟨j,u⟩:=y;have⟨k,hj,pw,⟨x,hx,hy⟩,hq⟩:=Si a v l 0 j u hf;have vt:j=k:=O1;subst vt;refine⟨_,_,?_,hz _,hn _,l.modify j fun x=>(x.1,v,x.2.2),_,O,fun x=>?_,hh.p3 _ _⟩
  ·have ht:(((l.map (kQ K)).toArray[j]?).map (·.key)).getD (K.enc a)=K.enc a:=by
    simp[hx,kQ,hy]
   simp only[Instr.mapUpdate,bT,jQ hm,aN,hg,K.plain P w _ kt a hk,PJ K hk,hf,ht,Instr.keyThatStays,K.bits,if_true,dZ,hT];congr 3;congr 1;apply Array.ext_getElem?;intro i;by_cases zn:j=i
   ·subst zn;simp[hx,kQ,hy]
   grind
  grind
end
section
variable[DecidableEq α]{K:Ar α}{L:List kr}{pos:String}{x z:Operand}
def yA(K:Ar α)(b:Nat)(f:α→Option Value):kr:=(some b,Fi K f)
theorem Dw{mt}{f:α→Option Value}{a:α}(hp:Hp w0 M w L)(i:Nat)(hi:L[i]? =some (yA K b f))(hx:ev n F x= .map (some b))(hy:ev n F y=K.enc a)
  (hm:P.underlying mt=some (.map kt et)) (hk:P.underlying kt=some K.kd) (hz:kx P et zv):PV P n w F ⟨d,.lookup mt x y false,ty,pos,aft,g⟩ ((f a).getD zv):=by
 have⟨o,ho,hf⟩:=hp.N i _ hi b O;simp[PV,execOp,hx,hy,jDc K hm hk hz ho hf a]
theorem OX{mt}{f:α→Option Value}{a:α}(hp:Hp w0 M w L)(i:Nat)(hi:L[i]? =some (yA K b f))(hx:ev n F x= .map (some b))(hy:ev n F y=K.enc a)
  (hm:P.underlying mt=some (.map kt et)) (hk:P.underlying kt=some K.kd) (hz:kx P et zv):PV P n w F ⟨d,.lookup mt x y true,ty,pos,aft,g⟩ (.tuple #[(f a).getD zv,.bool (f a).isSome]):=by
 have⟨o,ho,hf⟩:=hp.N i _ hi b O;simp[PV,execOp,hx,hy,qSz K hm hk hz ho hf a]
theorem J4{mt}{f:α→Option Value}{a:α}{v}(hp:Hp w0 M w L)(i)(hi:L[i]? =some (yA K b f))(hx:ev n F x= .map (some b))(hy:ev n F y=K.enc a)(hv:ev n F z=v)
  (hm:P.underlying mt=some (.map kt et)) (hk:P.underlying kt=some K.kd):
  gx P n ⟨d,.mapUpdate mt x y z,ty,pos,aft,g⟩ F w (fun u w'=>u=undef∧Hp w0 M w' (L.set i (yA K b (fun x=>if x=a then some v else f x)))):=by
 have⟨o,ho,hf⟩:=hp.N i _ hi b O;have⟨w',o',hr,pw,oc,ha⟩:=jJd K hm hk ho hf a v;refine wE ?_ ⟨O,hp.p3 hi (by simpa[yA] using pw) ?_⟩
 ·simp[execOp,hx,hy,hv,hr]
 intro b1 oa;have:b1=b:=by simpa[yA,eq_comm] using oa
 exact Ur
theorem yS{mt}(K:Ar α)(hp:Hp w0 M w L):
  gx P n ⟨d,.makeMap mt none,ty,pos,aft,g⟩ F w (fun u w'=>∃b,u= .map (some b)∧Hp w0 M w' (yA K b (fun _=>none)::L)):=by
 refine xN (w':=w.alloc (.map #[] 0)) ?_ ⟨_,O,hp.alloc _ ?_⟩
 ·simp[execOp,Instr.makeMap,Sem.run]
 exact⟨[],0,O,fun a=>O,O4,O4,O4⟩
def uE(S:α→Bool):α→Option Value:=fun a=>if S a=true then some (.bool true) else none
omit [DecidableEq α] in
theorem FK(S:α→Bool)(a:α):(uE S a).getD (.bool false)= .bool (S a):=by
 unfold uE;grind
omit [DecidableEq α] in
theorem PL(S:α→Bool)(h:∀a,S a=false):uE S=fun _=>none:=by
 funext a;simp[uE,h]
theorem jD5(S:α→Bool)(a:α):(fun x=>if x=a then some (.bool true) else uE S x)=uE (fun x=>decide (x=a)||S x):=by
 unfold uE;grind
theorem G0{mt}{S:α→Bool}{a:α}(hp:Hp w0 M w L)(i)(hi:L[i]? =some (yA K b (uE S)))(hx:ev n F x= .map (some b))(hy:ev n F y=K.enc a)(hv:ev n F z= .bool true)
  (hm:P.underlying mt=some (.map kt et)) (hk:P.underlying kt=some K.kd):
  gx P n ⟨d,.mapUpdate mt x y z,ty,pos,aft,g⟩ F w (fun u w'=>u=undef∧Hp w0 M w' (L.set i (yA K b (uE (fun x=>decide (x=a)||S x))))):=by
 rw[←jD5];exact J4 hp i hi hx hy hv hm hk
end
section
variable[DecidableEq α]{K:Ar α}{L:List kr}{pos:String}{x z:Operand}
end
variable{ba c k size sz:Nat}{news xs:List Value}
def Gi(cs:List Value)(o:Nat):List Value→List Value
 |[]=>cs
 |v::vs=>Gi (cs.set o v) (o+1) vs
theorem qJw:∀(vs cs:List Value) (o:Nat),(Gi cs o vs).length=cs.length
 |[],_,_=>rfl
 |v::vs,cs,o=>by simp[Gi,qJw]
theorem PG:∀(vs cs:List Value) (o k:Nat),(vs.zipIdx k).foldl (fun(a:Array Value) (x:Value×Nat)=>a.setIfInBounds (o+x.2) x.1) cs.toArray=(Gi cs (o+k) vs).toArray
 |[],_,_,_=>rfl
 |v::vs,cs,o,k=>by
  simp only[List.zipIdx_cons,iF,Gi];have h:(cs.toArray).setIfInBounds (o+k) v=(cs.set (o+k) v).toArray:=O4;rw[h,PG];rfl
def IV(sz:Nat)(cs:List Value):List (Nat×Value)→List Value
 |[]=>cs
 |(i,v)::ps=>IV sz (Gi cs (i*sz) v.cells.toList) ps
theorem N5(place sz k)(xv:∀i,i<k→place i=some (i*sz,sz)):∀(ps:List (Nat×Value)) (cs:List Value),cs.length=k*sz→
  (ps.all fun p=>Nat.blt p.1 k&&Nat.beq p.2.cells.size sz)=true→Instr.fill place cs.toArray ps=some (IV sz cs ps).toArray
 |[],cs,_,_=>rfl
 |(i,v)::ps,cs,hl,h=>by
  simp only[pJ,aJ] at h;have⟨⟨h1,h2⟩,h3⟩:=h;have hi:=Md h1;have hs:=bV h2;have ys:i*sz+sz≤k*sz:=by
   rw[←iV];exact aL sz hi
  have hz:v.cells.zipIdx.foldl (fun cs x=>cs.setIfInBounds (i*sz+x.2) x.1) cs.toArray=(Gi cs (i*sz) v.cells.toList).toArray:=by
   rw[←nJ,xB];have:=PG v.cells.toList cs (i*sz) 0;exact DT
  simp only[Instr.fill,xv i hi];rw[if_neg O6];rw[hz];exact N5 _ sz k xv ps _ (by rw[qJw];exact hl) h3
def jId(P:Program)(t k:Nat):Prop:=∃fs,P.underlying t=some (.struct fs)∧∀w,∃pl:Array (Nat×Nat),(fs.mapM (fun f=>do pure (f.offset,←sizeOf f.type):Field→Sem (Nat×Nat))).run P w= .ok pl w∧∀i,i<k→pl[i]? =some (i*1,1)
section
variable{L:List kr}{pos:String}{x:Operand}
theorem vH(n:ky)(F:Fr)(ps:Array (Nat×Operand)):(ps.map fun(i,x)=>(i,ev n F x)).toList=ps.toList.map fun p=>(p.1,ev n F p.2):=by
 simp
theorem OY:∀(vs pre rest:List Value),vs.length≤rest.length→Gi (pre++rest) pre.length vs=pre++vs++rest.drop vs.length
 |[],pre,rest,_=>by simp[Gi]
 |v::vs,pre,[],h=>O6
 |v::vs,pre,r::rest,h=>by
  simp only[Gi];have:=OY vs (pre++[v]) _ (by simpa using h);grind
def HT(sz:Nat):Nat→List (Nat×Value)→Bool
 |_,[]=>true
 |i,(j,v)::ps=>Nat.beq j i&&Nat.beq v.cells.size sz&&HT sz (i+1) ps
theorem Tn(sz):∀(ps:List (Nat×Value)) (i:Nat) (pre rest:List Value),HT sz i ps=true→pre.length=i*sz→rest.length=ps.length*sz→
  IV sz (pre++rest) ps=pre++ps.flatMap (fun p=>p.2.cells.toList)
 |[],i,pre,rest,_,_,h=>by
  have:=aX (by simpa using h);simp[IV,this]
 |(j,v)::ps,i,pre,rest,ho,hp,hr=>by
  simp only[HT,aJ] at ho;have⟨⟨h1,h2⟩,h3⟩:=ho;have hj:=bV h1;have hs:=bV h2;subst hj;have hQ:v.cells.toList.length=sz:=by simpa using hs
  have h5:rest.length=ps.length*sz+sz:=by rw[hr,cF,iV]
  simp only[IV];rw[←hp,OY _ _ _ O1];rw[Tn sz ps _ _ _ h3 O6 O6];simp
theorem TG(sz k):∀(ps:List (Nat×Value)) (i:Nat),HT sz i ps=true→i+ps.length≤k→(ps.all fun p=>Nat.blt p.1 k&&Nat.beq p.2.cells.size sz)=true
 |[],_,_,_=>rfl
 |(j,v)::ps,i,ho,hl=>by
  simp only[HT,aJ] at ho;have⟨⟨h1,h2⟩,h3⟩:=ho;have hj:=bV h1;simp[cF] at hl;simp only[pJ,aJ];exact⟨⟨yQ O1,h2⟩,TG sz k ps _ h3 O1⟩
theorem qNp{e ps vs}(hp:Hp w0 M w L)(ht:P.underlying t=some (.slice e))(hs:kz P e sz)(hz:kx P e z)
  (dh:(ps.toList.map fun p=>(p.1,ev n F p.2))=vs) (ho:HT sz 0 vs=true) (hk:vs.length=k) (u1:vs.flatMap (fun p=>p.2.cells.toList)=cs) (pg:k*sz≤16777216):
  gx P n ⟨d,.buildSlice t k ps,ty,pos,aft,g⟩ F w (fun u w'=>∃b,u= .slice (Ad b) k k∧Hp w0 M w' (bu b cs.length (qE cs) e::L)):=by
 subst dh;obtain⟨zs,xw⟩:∃zs:List _,zs=(Array.range (k*sz)).toList.map (z.cells[·%z.cells.size]!):=⟨_,O⟩;have x1:zs.length=k*sz:=by rw[xw];simp
 have ha:=N5 _ sz k (fun _ _=>O) _ zs x1 (TG sz k _ 0 ho O1);have hl:=Tn sz _ 0 [] zs ho O4 O6;simp[mC] at hl;rw[hl,u1] at ha;refine xN (w':=w.alloc (.cells cs.toArray e)) ?_ ⟨_,O,hp.alloc _ ?_⟩
 ·have hj:¬k*sz>2^24:=by
   have:(2:Nat)^24=16777216:=O;omega
  by_cases h0:k*sz=0
  ·have hh:zs=[]:=aX O1;rw[hh] at ha;have hm:Array.map (fun x=>(#[]:Array Value)[x%(#[]:Array Value).size]!) (Array.range (k*sz))=(#[]):=by rw[h0];simp
   simp only[execOp,Instr.buildSlice,bT,jQ ht,aN,hs.run,if_neg hj,if_pos h0,dZ,vH];rw[hm];simp[newRow,Sem.run,ha]
  have hg:Array.map (fun x=>z.cells[x%z.cells.size]!) (Array.range (k*sz))=zs.toArray:=by
   rw[xw];apply Ni;simp
  simp only[execOp,Instr.buildSlice,bT,jQ ht,aN,hs.run,if_neg hj,if_neg h0,hz.run,dZ,vH];rw[hg];simp[newRow,Sem.run,ha]
 show _=_
 rw[SW]
end
def FB(e size cap n:Nat)(xs:List Value):Obj→Prop:=fun o=>∃cx,o= .cells cx e (0,0)∧cx.size=cap*size∧cx.toList.take (n*size)=xs
def Jq:Value→Nat
 | .slice _ _ c=>c
 |_=>0
def Fj(v:Value)(e size n:Nat)(xs:List Value):kr:=(v.ownBlock,FB e size (Jq v) n xs)
def SV(v:Value)(n:Nat):Prop:=(v=Zs∧n=0)∨∃g cap,v= .slice (Ad g) n cap∧n≤cap∧cap≤maxLen
theorem SV.nil:SV (Zs) 0:=.inl ⟨O,O⟩
theorem SV.ex{v n}(h:SV v n):∃s c,v= .slice s n c:=by
 rcases h with⟨rfl,rfl⟩|⟨g,cap,rfl,_⟩
 ·simp
 simp
section
variable{L:List kr}{v:Value}{e n:Nat}
theorem Hp.aD0(h:Hp w0 M w L)(φ:Obj→Prop):Hp w0 M w ((none,φ)::L):=h.add .refl O4
theorem Hp.owns(h:Hp w0 M w L){i:Nat}(hi:L[i]? =some (Fj v e size n xs))(hv:SV v n)(hl:xs.length=n*size):w.ownsRow 0 e size v n xs:=by
 refine⟨hl,?_⟩;rcases hv with⟨rfl,rfl⟩|⟨g,cap,rfl,h1,h2⟩
 ·simp
 obtain⟨o,ho,cx,rfl,ha,vu⟩:=h.has i _ hi g O;exact .inr ⟨g,_,_,O,O1,ho,h1,h2,ha,vu⟩
theorem Hp.r8(h:Hp w0 M w L){i g cap j:Nat}{u:Value}(hi:L[i]? =some (Fj (.slice (Ad g) n cap) e size n xs))(hj:xs[j]? =some u):w.cell? ⟨g,0+j,none⟩=some u:=by
 obtain⟨o,ho,cx,rfl,_,vu⟩:=h.has i _ hi g O;rw[←vu,pN] at hj;split at hj
 ·simpa[World.cell?,ho] using hj
 cases hj
end
section
variable{L:List kr}{pos:String}{x:Operand}
theorem jAf{e:TypeId}{v:Value}(hp:Hp w0 M w L)(i:Nat)(ht:P.underlying t=some (.slice e))(hs:kz P e size)(x5:Az P e ba)(hz:kx P e z)
  (xw:z.cells.size=size) (xx:0<size) (hx:ev n F x=v) (hy:ev n F y= .slice s k c) (hi:L[i]? =some (Fj v e size m xs)) (hv:SV v m) (hl:xs.length=m*size) (hn:news.length=k*size)
  (hj:∀(j:Nat) (u:Value),news[j]? =some u→∃b o,s=some ⟨b,o,none⟩∧w.cell? ⟨b,o+j,none⟩=some u) (h1:∀u∈news,kM u=true)
  (oa:m+k≤maxLen) (et:(m+k)*ba≤140737488355328):
  gx P n ⟨d,.call ⟨.builtin .append,#[x,y],#[t,t]⟩,ty,pos,aft,g⟩ F w (fun u w'=>SV u (m+k)∧Hp w0 M w' (L.set i (Fj u e size (m+k) (xs++news)))):=by
 have⟨inf,hg,hE⟩:=x5.ex;have hh:=by
  exact Mm
 have xz:=by
  exact PT
 have ha:∀u∈news,u.oneCell'=true:=by
  exact mEf
 have hS:=hp.owns hi hv hl;by_cases hk:k=0
 ·subst hk;have a1:=aX (by simpa using hn);subst a1;have ai:(Builtin.append_ #[t,t] ty #[v,.slice s 0 c]).run P w= .ok v w:=by
   rcases hv with⟨rfl,rfl⟩|⟨gb,cap,rfl,h2,h3⟩
   ·cases s<;>simp[Builtin.append_,jQ ht,hs.run,Builtin.lenOf,Builtin.firstCells,loadCells,loadCellsFrom]
   exact mC9
  refine xN (w':=w) ?_ ⟨O1,?_⟩
  ·exact UE
  have:L.set i (Fj v e size (m+0) (xs++[]))=L:=by
   simp only[fY,bO];apply dI;intro j;rw[gM];by_cases zn:i=j
   ·grind
   rw[if_neg zn]
  grind
 have hH:0<news.length:=by rw[hn];exact iP O1 xx
 have⟨b,o,cH,_⟩:=hj 0 news[0] (aA hH);subst cH;have hF:∀(j:Nat) (u:Value),news[j]? =some u→w.cell? ((⟨b,o,none⟩:Addr).add j)=some u:=by
  intro j u hu;have⟨b',o',e1,e2⟩:=hj j u hu;cases e1;rw[yC];exact e2
 have⟨v',w',ai,hT,hL,_⟩:=run_append_own w 0 t ty e inf z size ba ht hg xz hh hE xw xx v m xs hS _ k c _ hn hF ha oa et (bL _);refine xN (v:=v') (w':=w') ?_ ⟨?_,hp.p3 hi ?_ ?_⟩
 ·exact UE
 ·rcases hT.2 with⟨h2,h3⟩|⟨g2,cap,cur,h2,_,_,h4,h5,_⟩
  ·omega
  exact .inr ⟨g2,_,h2,h4,h5⟩
 ·refine⟨hL.os,hL.tape,hL.output,hL.size,fun q hq hm=>hL.block q hq ?_⟩;intro e1;apply hm;simp only[Fj];grind
 intro q hq;rcases hT.2 with⟨h2,h3⟩|⟨g2,cap,cur,h2,_,h6,h4,h5,h7,h8⟩
 ·omega
 subst h2;have hD:=by simpa[Fj,Value.ownBlock,eq_comm] using hq
 subst hD;refine⟨?_,_,h6,_,O,h7,h8⟩;rcases hv with⟨rfl,rfl⟩|⟨gb,cap0,rfl,hc1,hc2⟩
 ·have⟨v2,w2,hQ,hV,_,_⟩:=run_append_own w w.heap.size t ty e inf z size ba ht hg xz hh hE xw xx (Zs) 0 [] (World.ownsRow_nil _ _ _ _) _ k c _ hn hF ha oa et (aS _);rw[ai] at hQ;cases hQ;rcases hV.2 with⟨h9,_⟩|⟨g3,_,_,h9,h10,_⟩
  ·cases h9
  grind
 obtain⟨o9,hJ,ca,rfl,hM,hP⟩:=hp.N i _ hi gb O;have hU:_=cap0*_:=hM;by_cases hK:m+k≤cap0
 ·have yc:m*inf.size+news.length≤ca.size:=by
   rw[hn,hh,hU,←eL];exact aL _ hK
  have hr:=run_append_room w t ty e _ ht hg gb m _ _ hJ _ k c _ O6 hF ha hK yc;rw[ai] at hr;cases hr;exact .inl O
 have holds:=hS.cells (g:=gb) O;have hr:=run_append_grow w t ty e _ z ht hg xz _ m cap0 xs O6 holds _ k c _ O6 hF O1 (by unfold maxLen at oa;omega) (growslice_fits O1 O6);grind
end
end
variable{c k t:Nat}{α:Type}
section
variable{L:List kr}{pos:String}{x:Operand}{f:FuncId}
theorem gx.mono{o R R'}(h:gx P n o F w R)(hr:∀v w',R v w'→R' v w'):gx P n o F w R':=Step.mono h hr
theorem jCs{x1 x2 v1 v2 R}(hx:ev n F x= .func (.func f) #[] #[])(he:qI P f)(h1:ev n F x1=v1)(h2:ev n F x2=v2)(hc:km P f [v1,v2] w R):gx P n ⟨d,.call ⟨.value x,#[x1,x2],ts⟩,ty,pos,aft,g⟩ F w R:=
 qC hx he O6 hc
end
def ig{α:Type}(w:World)(k:Nat)(enc:α→List Value)(s:Option Addr)(l:List α):Prop:=
 ∀(i:Nat) (x:α),l[i]? =some x→∃b o,s=some ⟨b,o,none⟩∧∀(j:Nat) (v:Value),(enc x)[j]? =some v→w.cell? ⟨b,o+i*k+j,none⟩=some v
theorem ig.j1{enc:α→List Value}{l}(h:ig w k enc s l)(hk:ax M w w')(hM:l≠[]→∀b o,s=some ⟨b,o,none⟩→b∉M):ig w' k enc s l:=by
 intro i x hx;have⟨b,o,hs,hc⟩:=h i x hx;exact⟨b,o,hs,fun j v hv=>hk.cell (hc j v hv) (hM O6 b o hs)⟩
theorem ig.i7{enc:α→List Value}{l}(h:ig w k enc s l)(hk:ax [] w w'):ig w' k enc s l:=h.j1 hk O4
theorem ig.base{enc:α→List Value}{l}(h:ig w k enc s l)(hl:0<l.length):
  ∃b o,s=some ⟨b,o,none⟩∧∀(i:Nat) (x:α),l[i]? =some x→∀(j:Nat) (v:Value),(enc x)[j]? =some v→w.cell? ⟨b,o+i*k+j,none⟩=some v:=by
 have⟨b,o,hs,_⟩:=h 0 _ (aA hl);refine⟨b,o,hs,fun i x hx=>?_⟩;have⟨b',o',ra,hc⟩:=h i x hx;grind
def eI(x:Int):List Value:=[Iv x]
def eS(x:ByteArray):List Value:=[.string x]
theorem I7{α β:Type}(enc:α→List β)(k)(hk:∀x,(enc x).length=k):∀(l:List α) (j q:Nat) (x:α) (v:β),l[j]? =some x→(enc x)[q]? =some v→(l.flatMap enc)[j*k+q]? =some v
 |[],j,q,x,v,h,_=>O6
 |y::l,0,q,x,v,h,hv=>by
  grind
 |y::l,j+1,q,x,v,h,hv=>by
  simp[nY];rw[fQ O6,hk];rw[show(j+1)*k+q-k=j*k+q from by grind];exact I7 _ k hk l j q x v O6 hv
theorem zR{α β:Type}(enc:α→List β)(k)(hk:∀x,(enc x).length=k):∀(l:List α),(l.flatMap enc).length=l.length*k
 |[]=>O4
 |y::l=>by simp[hk,zR,iV];omega
theorem jE2{L}{e:Nat}{enc:α→List Value}{l:List α}(hp:Hp w0 M w L)(hi:L[i]? =some (Fj (.slice s l.length c) e k l.length (l.flatMap enc)))(hv:SV (.slice s l.length c) l.length)
  (hk:∀x,(enc x).length=k):ig w k enc s l:=by
 intro j x hx;rcases hv with⟨h1,h2⟩|⟨g,cap,h1,_⟩
 ·grind
 cases h1;refine⟨g,0,O,fun q v hv=>?_⟩;have ha:=I7 _ k hk l j q x v hx hv;have:=hp.r8 hi ha;grind
theorem ig.src{enc:α→List Value}{l}(h:ig w k enc s l)(hk:∀x,(enc x).length=k):
  ∀(j:Nat) (u:Value),(l.flatMap enc)[j]? =some u→∃b o,s=some ⟨b,o,none⟩∧w.cell? ⟨b,o+j,none⟩=some u:=by
 intro j u hu;have hQ:=(aI.1 hu).1;rw[zR _ k hk] at hQ;have rf:0<k:=by
  rcases dG k with h0|h0
  ·subst h0;simp at hQ
  exact h0
 have zg:0<l.length:=by
  rcases dG l.length with h0|h0
  ·grind
  exact h0
 have⟨b,o,hs,hc⟩:=h.base zg;have hq:=(eO rf).2 hQ;have hx:=aA hq;have hm:j%k<(enc l[j/k]).length:=by rw[hk];exact dY _ rf
 have hv:=aA hm;have h1:=I7 _ k hk l _ _ _ _ hx hv;have vt:j/k*k+j%k=j:=by rw[dC];exact iT j k
 grind
theorem Yn{L}(hp:Hp w0 M w L)(i:Nat)(hi:L[i]? =some (bu b cs.length (qE cs) t)):
  ∀(j:Nat) (u:Value),cs[j]? =some u→∃b' o,(Ad b:Option Addr)=some ⟨b',o,none⟩∧w.cell? ⟨b',o+j,none⟩=some u:=by
 intro j u hu;have hl:=(aI.1 hu).1;refine⟨b,0,O,?_⟩;rw[gF,hp.J i hi (yQ hl),uA];grind
variable{l:List Nat}{size:Nat}
section
variable{Q:Exit→Fr→World→Prop}{rest:List Oper}
variable{d:Nat}{pos:String}
theorem uR{R e}(hj:yW ops j=some e)(hc:ev n F (.tmp e)= .bool want)
  (hs:gx P n ⟨some d,op,ty,pos,aft,some (j,want)⟩ F w R) (h:∀v w',R v w'→kq P n ops rest Q (F.put d v) w'):
  kq P n ops (⟨some d,op,ty,pos,aft,some (j,want)⟩::rest) Q F w:=by
 unfold kq wpListIn;rw[vS O hj hc];simp[RA,if_true];refine Step.wpIn hs ?_;intro u w' hr;rw[zN];exact h u w' hr
theorem vX{v e}(hj:yW ops j=some e)(hc:ev n F (.tmp e)= .bool want)
  (hp:PV P n w F ⟨some d,op,ty,pos,aft,some (j,want)⟩ r) (hv:r=v) (h:kq P n ops rest Q (F.put d v) w):kq P n ops (⟨some d,op,ty,pos,aft,some (j,want)⟩::rest) Q F w:=by
 subst hv;refine uR (R:=fun u w'=>u=r∧w'=w) hj hc (.inl ⟨r,w,?_,O,O⟩) ?_
 ·rw[zF];exact hp
 rintro u w' ⟨rfl,rfl⟩;exact h
end
theorem G7{L}{enc:α→List Value}(l:List α)(hp:Hp w0 M w L)(i:Nat)(hi:L[i]? =some (bu b (l.flatMap enc).length (qE (l.flatMap enc)) t))
  (hk:∀x,(enc x).length=k):ig w k enc (Ad b) l:=by
 intro j x hx;refine⟨b,0,O,fun q v hv=>?_⟩;have ha:=I7 _ k hk l j q x v hx hv;have⟨b',o',e1,e2⟩:=Yn hp i hi _ _ ha;grind
theorem jBo{e n o}(hl:cs.length=n*size)(h:GS cs.length (qE cs) e o):FB e size n n cs o:=by
 refine⟨_,h,by simp[hl],?_⟩;rw[bJ (by simp[hl])];apply oO
 ·simp
 simp[uA]
theorem Hp.rowOf{L e}(hp:Hp w0 M w L)(i size n)(hi:L[i]? =some (bu b cs.length (qE cs) e))(hl:cs.length=n*size):
  Hp w0 M w (L.set i (Fj (.slice (Ad b) n n) e size n cs)):=hp.y1 hi fun _ h=>jBo hl h
theorem FO{enc:α→List Value}:ig w k enc s []:=by intro i x hx;grind
section
variable{pos:String}{x:Operand}
theorem qPh(a:Addr):a.add 0=a:=O
theorem qP5{a b}(ht:P.underlying t=some .bool)(k):(Op.equalIn (k+1) t (.bool a) (.bool b)).run P w= .ok (a==b) w:=by
 unfold Op.equalIn;simp[jQ ht]
theorem qRe{a b}(ht:P.underlying t=some .bool):(Op.equal t (.bool a) (.bool b)).run P w= .ok (a==b) w:=qP5 ht 9999
theorem GP{a b}(ht:P.underlying t=some .bool)(hx:ev n F x= .bool a)(hy:ev n F y= .bool b):PV P n w F ⟨d,.binOp .neq t x y t',ty,pos,aft,g⟩ (.bool (a !=b)):=by
 have h:=qRe (w:=w) (a:=a) (b:=b) ht;simp[PV,execOp,hx,hy,eqGuard,binOp,h];grind
end
theorem OK{enc:α→List Value}{l}(h:ig w k enc s l)(n):ig w k enc s (l.take n):=by
 intro i x hx;rw[pN] at hx;split at hx
 ·exact h i x hx
 cases hx
section
variable{L:List kr}
theorem Hp.norm(hp:Hp w0 M w L)(i){b m f t}(cs)(hi:L[i]? =some (bu b m f t))(h:(range m).map f=cs):Hp w0 M w (L.set i (bu b m (qE cs) t)):=by
 refine hp.y1 hi fun o ho=>?_
 subst ho;subst h;congr 1;apply rH
 ·simp
 simp[uA]
abbrev Hp.I:=@Hp.norm
end
section
variable{L:List kr}
theorem Hp.pick(h:Hp w0 M w L)(i:Nat){p}(hi:L[i]? =some p):Hp w0 M w [p]:=by
 refine⟨h.keeps,fun k q hk b hb=>?_,fun k q hk b hb=>?_,fun k j q r hk hj xr=>?_⟩
 ·cases k with
  |zero=>simp at hk;subst hk;exact h.own i p hi b hb
  |succ k=>grind
 ·cases k with
  |zero=>simp at hk;subst hk;exact h.has i p hi b hb
  |succ k=>grind
 grind
theorem qSx{L:List α}{p:α}(hi:L[i]? =some p):L.set i p=L:=by
 apply dI;grind
theorem Hp.aC1(h:Hp w0 M w L)(i:Nat){b:Nat}{φ:Obj→Prop}(hi:L[i]? =some (some b,φ))(hk:ax [b] w w')(ho:∃o,w'.heap[b]? =some o∧φ o):Hp w0 M w' L:=by
 have:=h.p3 (q:=(some b,φ)) hi hk (by
  grind)
 rwa[qSx hi] at this
end
theorem Hp.join{w0 w w' M L L'}(h:Hp w0 M w L)(h':Hp w [] w' L'):Hp w0 M w' (L'++L):=by
 have hc:=h.call h'.keeps;have key:∀(i:Nat) (p:kr),(L'++L)[i]? =some p→(i<L'.length∧L'[i]? =some p)∨(L'.length≤i∧L[i-L'.length]? =some p):=by
  intro i p hi;rw[List.getElem?_append] at hi;split at hi
  ·grind
  rename_i hlt
  exact .inr ⟨O1,hi⟩
 have x4:∀(i:Nat) (p:kr),L'[i]? =some p→∀b,p.1=some b→w.heap.size≤b:=by
  intro i p hi b hb;rcases h'.own i p hi b hb with h1|h1
  ·exact h1
  cases h1
 refine⟨hc.keeps,fun i p hi b hb=>?_,fun i p hi b hb=>?_,fun i j p q hi hj xr b hb=>?_⟩
 ·rcases key i p hi with⟨_,h1⟩|⟨_,h1⟩
  ·exact .inl (bF h.keeps.size (x4 i p h1 b hb))
  exact h.own _ p h1 b hb
 ·rcases key i p hi with⟨_,h1⟩|⟨_,h1⟩
  ·exact h'.has _ p h1 b hb
  exact hc.has _ p h1 b hb
 rcases key i p hi with⟨_,h1⟩|⟨h0,h1⟩<;>rcases key j q hj with⟨_,h2⟩|⟨h3,h2⟩
 ·exact h'.dis i j p q h1 h2 xr b hb
 ·intro e;have:=x4 i p h1 b hb;have:=h.lt h2 e;omega
 ·intro e;have:=x4 j q h2 b e;have:=h.lt h1 hb;omega
 exact h.dis _ _ p q h1 h2 O1 b hb
abbrev Hp.C:=@Hp.join
theorem EV{x K Q}(R)(h:WP P n x (D9 R Q) F w)(h2:∀F w,R F w→K F w):WP P n x (D9 K Q) F w:=by
 refine L8 h ?_;intro e F w h;cases e<;>first|exact h2 _ _ h|exact h
def qG{α:Type}(enc:α→List Value)(e k:Nat)(s:Option Addr)(c:Nat)(l:List α):kr:=Fj (.slice s l.length c) e k l.length (l.flatMap enc)
def kg{α:Type}(s:Option Addr)(c:Nat)(l:List α):Prop:=SV (.slice s l.length c) l.length
theorem kg.nil:kg (α:=α) none 0 []:=.inl ⟨O,O⟩
theorem kg.cap{α:Type}{s:Option Addr}{c:Nat}{l:List α}(h:kg s c l):l.length≤c:=by
 rcases h with⟨h,_⟩|⟨g,cap,h,h2,_⟩
 ·omega
 grind
theorem Hp.j7{L}(h:Hp w0 M w L)(enc:α→List Value)(e k):Hp w0 M w (qG enc e k none 0 []::L):=h.aD0 _
theorem qZ{L}{e:Nat}{enc:α→List Value}{l:List α}(hp:Hp w0 M w L)(i:Nat)(hi:L[i]? =some (qG enc e k s c l))(hv:kg s c l)
  (hk:∀x,(enc x).length=k):ig w k enc s l:=jE2 hp hi hv hk
theorem ig.lt{enc:α→List Value}{l}(h:ig w k enc s l)(hk:∀x,(enc x).length=k)(rf:0<k)(hl:l≠[]){b o}(hs:s=some ⟨b,o,none⟩):b<w.heap.size:=by
 obtain⟨x,l',rfl⟩:∃x l',l=x::l':=by cases l with|nil=>grind|cons x l'=>simp
 have⟨b',o',ra,hc⟩:=h 0 x O;rw[hs] at ra;cases ra;have:=hc 0 _ (aA O6);exact iL w _ this
theorem qJa(h:i∉l):l.filter (· !=i)=l:=by
 rw[mD];grind
theorem TP(hs:l.Nodup)(h:i∈l):(l.filter (· !=i)).length+1=l.length:=by
 induction l with
 |nil=>cases h
 |cons p rest ih=>
  have⟨h1,h2⟩:=pL.1 hs;by_cases hp:p=i
  ·subst hp;rw[oN];simp only[Rw,fA,iX];rw[qJa h1];rfl
  grind
theorem TL(h:l.Pairwise (·<·)):l.Nodup:=h.imp Nat.ne_of_lt
def kN(ns:List Int):ByteArray:=ns.foldl (fun r n=>r.push (UInt8.ofNat n.toNat)) ByteArray.empty
section
variable{pos:String}{x:Operand}
theorem jAo{len:Nat}{vs:List Value}(hl:vs.length=len)(hc:∀(j:Nat) (v:Value),vs[j]? =some v→w.cell? ⟨b,o+j,none⟩=some v):(loadCells ⟨b,o,none⟩ len).run P w= .ok vs.toArray w:=by
 subst hl;have:=vN (P:=P) b o vs 0 #[] (fun j v hv=>by simpa using hc j v hv);simp[loadCells,this]
theorem RO{e len cap:Nat}{ns:List Int}(ht:P.underlying t=some (.slice e))(he:P.underlying e=some (.int .u8))(yj:P.underlying t'=some .string)(hx:ev n F x= .slice (some ⟨b,o,none⟩) len cap)(hl:ns.length=len)
  (hc:∀(j:Nat) (v:Value),(ns.map (Value.int .u8))[j]? =some v→w.cell? ⟨b,o+j,none⟩=some v):PV P n w F ⟨d,.convert t t' x,ty,pos,aft,g⟩ (.string (kN ns)):=by
 have h1:=jAo (P:=P) (by simpa using hl) hc;have h2:=run_bytesToString w _ _ cap ns h1;simp only[PV,execOp,convert,hx,bT,jQ ht,jQ yj,aN,jQ he,h2];rfl
end
variable{L':List kr}{q:IntKind}
section
variable{L:List kr}
def jNe(p q:kr):Prop:=∀b,p.1=some b→q.1≠some b
theorem Hp.v8(h:Hp w0 M w L):L.Pairwise jNe:=by
 rw[dX];intro i j hi hj zn;exact h.dis i j _ _ (aA hi) (aA hj) O1
theorem Hp.q0(h:Hp w0 M w L){p}(hp:p∈L):∀b,p.1=some b→w0.heap.size≤b∨b∈M:=by
 have⟨i,hi⟩:=fZ hp;exact h.own i p hi
theorem Hp.r6(h:Hp w0 M w L){p}(hp:p∈L):∀b,p.1=some b→∃o,w.heap[b]? =some o∧p.2 o:=by
 have⟨i,hi⟩:=fZ hp;exact h.has i p hi
theorem Hp.aA4(hk:ax M w0 w)(ho:∀p∈L,∀b,p.1=some b→w0.heap.size≤b∨b∈M)(hh:∀p∈L,∀b,p.1=some b→∃o,w.heap[b]? =some o∧p.2 o)(hd:L.Pairwise jNe):Hp w0 M w L:=by
 rw[dX] at hd;refine⟨hk,fun i p hi=>ho p (aG hi),fun i p hi=>hh p (aG hi),fun i j p q hi hj xr b hb hq=>?_⟩;obtain⟨xt,rfl⟩:=aI.1 hi;obtain⟨zt,rfl⟩:=aI.1 hj;rcases Nat.lt_or_gt_of_ne xr with h|h
 ·exact hd i j _ _ h b hb hq
 exact hd j i _ _ h b hq hb
theorem Hp.perm(h:Hp w0 M w L)(hp:L.Perm L'):Hp w0 M w L':=
 .aA4 h.keeps (fun _ hm=>h.q0 (hp.mem_iff.2 hm)) (fun _ hm=>h.r6 (hp.mem_iff.2 hm)) ((hp.pairwise_iff (fun ha b hb hq=>ha b hq hb)).1 h.v8)
theorem Hp.sub(h:Hp w0 M w L)(hs:L'.Sublist L):Hp w0 M w L':=
 .aA4 h.keeps (fun _ hm=>h.q0 (hs.subset hm)) (fun _ hm=>h.r6 (hs.subset hm)) (h.v8.sublist hs)
abbrev Hp.x:=@Hp.sub
theorem Hp.z7(h:Hp w0 M w L)(i):Hp w0 M w (L.eraseIdx i):=h.sub (List.eraseIdx_sublist L i)
theorem Hp.j4(h:Hp w0 M w L)(is:List Nat)(ps:List kr)(hn:decide is.Nodup=true)(he:is.map (fun i=>L[i]?)=ps.map some):Hp w0 M w ps:=by
 have df:=mV hn;have key:∀(k:Nat) (p:kr),ps[k]? =some p→∃i,is[k]? =some i∧L[i]? =some p:=by
  intro k p hk;have h1:=aK (fun l=>l[k]?) he;simp only[bH,hk,fD] at h1;cases h2:is[k]? with
  |none=>grind
  |some i=>grind
 refine⟨h.keeps,fun k p hk=>?_,fun k p hk=>?_,fun k m p q hk hm hg=>?_⟩
 ·have⟨i,_,hi⟩:=key k p hk;exact h.own i p hi
 ·have⟨i,_,hi⟩:=key k p hk;exact h.has i p hi
 have⟨i,hh,hi⟩:=key k p hk;have⟨j,xc,hj⟩:=key m q hm;refine h.dis i j p q hi hj ?_;rintro rfl;apply hg;have⟨zy,e1⟩:=aI.1 hh;have⟨ha,e2⟩:=aI.1 xc;exact(oU df).1 O1
theorem Jf{e}{enc:α→List Value}{l}(hp:Hp w0 M w L)(hm:qG enc e k s c l∈L)(hv:kg s c l)(hk:∀x,(enc x).length=k):ig w k enc s l:=by
 have⟨i,hi⟩:=fZ hm;exact qZ hp i hi hv hk
theorem kg.addr{l:List α}(h:kg s c l)(hl:l≠[]):∃g,s=Ad g:=by
 rcases h with⟨h,h2⟩|⟨g,cap,h,_⟩
 ·grind
 grind
theorem kg.set{α:Type}{s c l}(h:kg s c l)(i)(x:α):kg s c (l.set i x):=by
 unfold kg at*
 grind
end
theorem qE2{cx t v}(hb:w.heap[b]? =some (.cells cx t (0,0)))(ho:o<cx.size)(h1:kM v=true):
  ∃w',(store ⟨b,o,none⟩ v).run P w= .ok () w'∧ax [b] w w'∧w'.heap[b]? =some (.cells (cx.setIfInBounds o v) t (0,0)):=by
 have hc:w.cell? ⟨b,o,none⟩=some cx[o]:=by simp[World.cell?,hb,ho]
 have hf:w.frozen? ⟨b,o,none⟩=false:=by simp[World.frozen?,hb]
 refine⟨w.setCell ⟨b,o,none⟩ v,?_,⟨O,O,O,O4,fun k _ hm=>?_⟩,?_⟩
 ·exact mEe
 ·simp only[World.setCell,lO];grind
 simp only[World.setCell,lO,if_true,hb,fD];simp
theorem qK1{α:Type}(enc:α→List Value)(v)(xv:α)(hk:∀x,(enc x).length=1)(hv:enc xv=[v]):∀(l:List α) (i:Nat),(l.set i xv).flatMap enc=(l.flatMap enc).set i v
 |[],i=>O4
 |y::l,0=>by
  obtain⟨u,hu⟩:∃u,enc y=[u]:=List.length_eq_one_iff.1 (hk y);grind
 |y::l,i+1=>by
  obtain⟨u,hu⟩:∃u,enc y=[u]:=List.length_eq_one_iff.1 (hk y);simp only[List.set_cons_succ,nY,hu,mL,mC];rw[qK1 _ v xv hk hv l i]
section
variable{L:List kr}{pos:String}{x:Operand}
theorem zL(enc:α→List Value)(l:List α)(i:Nat)(xv:α){t e gb c:Nat}{v:Value}(hp:Hp w0 M w L)(j:Nat)(hj:L[j]? =some (qG enc e 1 (Ad gb) c l))(eo:kg (Ad gb) c l)(hi:i<l.length)
  (hx:ev n F x= .pointer (some ⟨gb,0+i*1,none⟩)) (hy:ev n F y=v) (hk:∀x,(enc x).length=1) (hv:enc xv=[v]) (h1:kM v=true) (hz:kz P t 1):
  gx P n ⟨d,.store t x y,ty,pos,aft,g⟩ F w (fun u w'=>u=undef∧Hp w0 M w' (L.set j (qG enc e 1 (Ad gb) c (l.set i xv)))):=by
 obtain⟨o,ho,cx,rfl,ha,vu⟩:=hp.N j _ hj gb O;have ha:_=c*1:=ha;have tx:=eo.cap;have⟨w',hr,pw,oc⟩:=qE2 (P:=P) (o:=0+i*1) ho O1 h1;refine wE ?_ ⟨O,hp.p3 hj pw ?_⟩
 ·have u1:v.cells.size=1:=by cases v<;>first|rfl|cases h1
  have hP:v.cells.toList=[v]:=by cases v<;>first|rfl|cases h1
  have ik:=hz.run (w:=w);simp only[execOp,Instr.storeAt,hx,hy,Instr.sureAddr,storeVar,bT,dZ,aN,ik,u1,hP];simp only[storeCells,yC];simp only[fY] at hr⊢;rw[if_neg O4];simp only[bT,hr,aN];rfl
 intro b1 oa;have oa:b1=gb:=by
  exact mE2
 subst oa;refine⟨.inl O,_,oc,_,O,?_,?_⟩
 ·grind
 rw[qK1 _ v xv hk hv,fW,←vu];simp only[oJ];rw[rS];simp
end
def NK(a b:Int):Int:=IntKind.i64.wrap ((BitVec.ofInt 64 a&&&BitVec.ofInt 64 b).toNat)
section
variable{pos:String}{x:Operand}{k:IntKind}{b:Int}
theorem jOi(hx:ev n F x= .int k a)(hy:ev n F y= .int q b)(hb:0≤b):PV P n w F ⟨d,.binOp .shr t x y t',ty,pos,aft,g⟩ (.int k (a.fdiv (2^min b.toNat k.bits))):=by
 simp[PV,execOp,hx,hy,eqGuard,binOp,Op.shift];omega
theorem Y1(hx:ev n F x=Iv a)(hy:ev n F y=Iv b):PV P n w F ⟨d,.binOp .and t x y t',ty,pos,aft,g⟩ (Iv (NK a b)):=by
 simp only[PV,execOp,hx,hy,eqGuard,binOp,Op.intBits,NK];rfl
end
def Fr.v6(F:Fr):List (Nat×Value)→Fr
 |[]=>F
 |p::S=>(Fr.v6 F S).put p.1 p.2
def CH(F:Fr):List (Nat×Value)→Prop
 |[]=>True
 |p::S=>F p.1=p.2∧CH F S
theorem Px{F}:∀{S:List (Nat×Value)},CH F S→F=F.v6 S
 |[],_=>rfl
 |_::_,h=>qB (Px h.2) h.1
theorem yL{c Q}(S)(hS:CH F S)(h:∀F0:Fr,WP P n c Q (F0.v6 S) w):WP P n c Q F w:=by
 rw[Px hS];exact h F
section
variable{Q:Exit→Fr→World→Prop}{rest:List Oper}
variable{d:Nat}{pos:String}
theorem LX{R e}(he:zC op=true)(hj:yW ops j=some e)(hc:ev n F (.tmp e)= .bool want)
  (hs:gx P n ⟨some d,op,ty,pos,aft,some (j,want)⟩ F w R) (h:∀v w',R v w'→G w'∧kn P n ops st G rest Q (F.put d v) w'):
  kn P n ops st G (⟨some d,op,ty,pos,aft,some (j,want)⟩::rest) Q F w:=by
 unfold kn AA;rw[if_pos he];unfold qh;rw[vS O hj hc];refine⟨fun _=>Step.mono hs fun v w' hr=>?_,fun hw=>?_⟩
 ·rw[zN];exact PZ
 grind
theorem yG{v e}(he:zC op=false)(hj:yW ops j=some e)(hc:ev n F (.tmp e)= .bool want)
  (hp:∀w,G w→PV P n w F ⟨some d,op,ty,pos,aft,some (j,want)⟩ r) (hv:r=v) (h:kn P n ops st G rest Q (F.put d v) w):kn P n ops st G (⟨some d,op,ty,pos,aft,some (j,want)⟩::rest) Q F w:=by
 subst hv;unfold kn AA;rw[if_neg (by simp[he])];refine⟨r,.inl ⟨?_,fun w hw=>?_⟩,?_⟩
 ·rw[vS O hj hc];simp
 ·rw[zF];exact hp w hw
 rw[zN];exact h
end
theorem zS{L e g q}{enc:α→List Value}{l}{x:α}(hp:Hp w0 M w L)(i:Nat)(hi:L[i]? =some (qG enc e k (Ad g) c l))(hv:kg (Ad g) c l)(hk:∀x,(enc x).length=k)(hx:l[q]? =some x):
  ∀(j:Nat) (v:Value),(enc x)[j]? =some v→w.cell? ⟨g,0+q*k+j,none⟩=some v:=by
 have⟨b,o,hs,hc⟩:=qZ hp i hi hv hk q x hx;grind
section
variable{L:List kr}{pos:String}{x:Operand}
end
variable{a h:Nat}{ds:List Deferred}{q':IntKind}
section
variable{L:List kr}{pos:String}{x:Operand}
theorem qNz(z m):madeCells #[z] m=(replicate m z).toArray:=by
 apply rH
 ·simp[madeCells]
 simp[madeCells,nI]
theorem jCo(enc:α→List Value)(x0:α){t e ba m:Nat}{kl kc:IntKind}{z:Value}(hp:Hp w0 M w L)(ht:P.underlying t=some (.slice e))(hs:kz P e 1)(hz:kx P e z)(x5:Az P e ba)
  (hx:ev n F x= .int kl m) (hy:ev n F y= .int kc m) (ha:enc x0=[z]) (h1:kM z=true) (hm:(ba+1)*m<281000000000000) (_hb:Nat.ble ba 1000=true):
  gx P n ⟨d,.makeSlice t x y,ty,pos,aft,g⟩ F w (fun u w'=>∃b,u= .slice (Ad b) m m∧kg (Ad b) m (replicate m x0)∧Hp w0 M w' (qG enc e 1 (Ad b) m (replicate m x0)::L)):=by
 have⟨inf,hg,hE⟩:=x5.ex;have hh:=by
  exact Mm
 have xz:=by
  exact PT
 rw[eL,mH] at hm;have ez:ba*m≤281000000000000:=O1;have hj:inf.bytes*(m:Int)≤281474976710656:=by
  exact UF
 have hr:=run_make w t e _ z ht hg xz kl kc m m O1 O1 hj O1;have hn:z.cells= #[z]:=by cases z<;>first|rfl|cases h1
 have hQ:(replicate m x0).length=m:=O4;have hl:(replicate m x0).flatMap enc=replicate m z:=by
  clear hr ez hj hm hQ hx hy;induction m with
  |zero=>rfl
  |succ m ih=>grind
 refine xN (w':=w.alloc (.cells (replicate m z).toArray e)) ?_ ⟨w.heap.size,O,?_,?_⟩
 ·rw[hh,hn,rW,qNz] at hr;simp[execOp,hx,hy,hr]
 ·exact .inr ⟨_,m,O,O1,by unfold maxLen;omega⟩
 unfold qG;rw[hl,hQ];exact hp.alloc _ ⟨_,O,by simp[Jq],O4⟩
theorem Mi{e l:Nat}{lo hi}(ht:P.underlying t=some (.slice e))(hk:kz P e k)(hx:ev n F x= .slice (some ⟨b,o,none⟩) m c)(hl:ev n F lo= .int q l)(hh:ev n F hi= .int q' h)(h1:l≤h)(h2:h≤c)(h3:l<c):
  PV P n w F ⟨d,.slice t x (some lo) (some hi) none,ty,pos,aft,g⟩ (.slice (some ⟨b,o+l*k,none⟩) (h-l) (c-l)):=by
 have oa:=yO (P:=P) (w:=w) (c:=.sliceAcap) hh h2;have et:=yO (P:=P) (w:=w) (c:=.sliceB) hl h1;have xr:¬c=l:=O1;simp[PV,execOp,Instr.sliceAt,Instr.slice,hx,jQ ht,Instr.sliceBounds,oa,et,hk.run,xr,yC]
theorem Mf{e:Nat}(ht:P.underlying t=some (.slice e))(hk:kz P e k)(hx:ev n F x= .slice s m c)(hy:ev n F y= .int q h)(hh:h≤c):
  PV P n w F ⟨d,.slice t x none (some y) none,ty,pos,aft,g⟩ (.slice s h c):=by
 have hb:=yO (P:=P) (w:=w) (c:=.sliceAcap) hy hh;have e1:(if c=0 then s else s.map (·.add (0*k)))=s:=by
  split
  ·rfl
  cases s<;>simp[qPh]
 simp only[PV,execOp,Instr.sliceAt,Instr.slice,hx,bT,jQ ht,aN,Instr.sliceBounds,dZ,Option.map_none,fD,hb,hk.run,if_true,Nv,e1]
theorem Z7{l:Nat}{s:ByteArray}(ht:P.underlying t=some .string)(hx:ev n F x= .string s)(hy:ev n F y= .int q l)(hl:l≤s.size):
  PV P n w F ⟨d,.slice t x (some y) none none,ty,pos,aft,g⟩ (.string (s.extract l s.size)):=by
 have hb:=yO (P:=P) (w:=w) (c:=.sliceB) hy hl;simp[PV,execOp,Instr.sliceAt,Instr.slice,hx,jQ ht,Instr.sliceBounds,hb]
end
theorem SH(m:Nat):IntKind.u32.wrap (m:Int)=((m%4294967296:Nat):Int):=by
 rw[IntKind.wrap_u32];omega
theorem NW(h:m<4294967296):IntKind.u32.wrap (m:Int)=(m:Int):=by
 rw[IntKind.wrap_u32];omega
theorem wU(h:m<18446744073709551616):IntKind.u64.wrap (m:Int)=(m:Int):=by
 rw[oW];omega
theorem jNo(m:Nat):IntKind.u8.wrap (m:Int)=((m%256:Nat):Int):=by
 rw[IntKind.wrap_u8];omega
theorem kG(k:Nat)(m:Nat)(h:m<2^k):(BitVec.ofInt k (m:Int)).toNat=m:=by
 grind
section
variable{pos:String}{x:Operand}
theorem J3{k a b}(hx:ev n F x= .int k a)(hy:ev n F y= .int q b)(hb:0≤b):PV P n w F ⟨d,.binOp .shl t x y t',ty,pos,aft,g⟩ (.int k (k.wrap (a*2^min b.toNat k.bits))):=by
 simp[PV,execOp,hx,hy,eqGuard,binOp,Op.shift];omega
theorem SA(hx:ev n F x= .int .u32 a)(hy:ev n F y= .int .u32 b)(ha:a<4294967296)(hb:b<4294967296):PV P n w F ⟨d,.binOp .or t x y t',ty,pos,aft,g⟩ (.int .u32 ((a|||b:Nat):Int)):=by
 have h1:(BitVec.ofInt 32 a|||BitVec.ofInt 32 b).toNat=a|||b:=by
  rw[Rq,kG 32 a ha,kG 32 b hb]
 have h2:a|||b<2^32:=O1;have h3:=NW h2;simp only[PV,execOp,hx,hy,eqGuard,binOp,Op.intBits];show Sem.run P (pure (Next.value (Value.int _ (IntKind.u32.wrap ((BitVec.ofInt 32 a|||BitVec.ofInt 32 b).toNat))))) w=_
 rw[h1,h3];rfl
theorem Ke(hx:ev n F x= .int .u64 a)(hy:ev n F y= .int .u64 b)(ha:a<18446744073709551616)(hb:b<18446744073709551616):PV P n w F ⟨d,.binOp .or t x y t',ty,pos,aft,g⟩ (.int .u64 ((a|||b:Nat):Int)):=by
 have h1:(BitVec.ofInt 64 a|||BitVec.ofInt 64 b).toNat=a|||b:=by
  rw[Rq,kG 64 a ha,kG 64 b hb]
 have h2:a|||b<2^64:=O1;have h3:=wU h2;simp only[PV,execOp,hx,hy,eqGuard,binOp,Op.intBits];show Sem.run P (pure (Next.value (Value.int _ (IntKind.u64.wrap ((BitVec.ofInt 64 a|||BitVec.ofInt 64 b).toNat))))) w=_
 rw[h1,h3];rfl
end
section
variable{Q:Exit→Fr→World→Prop}{rest:List Oper}
variable{d:Nat}{pos:String}
theorem jZ8{c e}(hj:yW ops j=some e)(hc:ev n F (.tmp e)= .bool c)(hw:(c==want)=false)(h:kq P n ops rest Q (F.put d undef) w):kq P n ops (⟨some d,op,ty,pos,aft,some (j,want)⟩::rest) Q F w:=by
 refine M9 (v:=undef) hj hc (fun e=>by rw[hw] at e;cases e) (fun _=>O) ?_;rw[hw];exact h
theorem jZ7{e}(hj:yW ops j=some e)(hc:ev n F (.tmp e)=undef)(h:kq P n ops rest Q (F.put d undef) w):kq P n ops (⟨some d,op,ty,pos,aft,some (j,want)⟩::rest) Q F w:=Qn (v:=undef) (b:=false) (c:=false) hj hc (fun e=>by cases e) (fun _ _=>O) h
theorem jZe{c e}(he:zC op=false)(hj:yW ops j=some e)(hc:ev n F (.tmp e)= .bool c)(hw:(c==want)=false)(h:kn P n ops st G rest Q (F.put d undef) w):kn P n ops st G (⟨some d,op,ty,pos,aft,some (j,want)⟩::rest) Q F w:=by
 refine Lg (v:=undef) he hj hc (fun _ _ e=>by rw[hw] at e;cases e) (fun _=>O) ?_;rw[hw];exact h
theorem jZd{e}(he:zC op=false)(hj:yW ops j=some e)(hc:ev n F (.tmp e)=undef)(h:kn P n ops st G rest Q (F.put d undef) w):kn P n ops st G (⟨some d,op,ty,pos,aft,some (j,want)⟩::rest) Q F w:=jUy (v:=undef) (b:=false) (c:=false) he hj hc (fun _ _ e=>by cases e) (fun _ _=>O) h
end
section
variable{pos:String}{x:Operand}
theorem H8(hx:ev n F x= .bool false):PV P n w F ⟨d,.pick x y (.const (.bool false)),ty,pos,aft,g⟩ (.bool false):=by
 simp only[PV,execOp,hx,asBool,uW];rfl
theorem HZ(hx:ev n F x= .bool true):PV P n w F ⟨d,.pick x (.const (.bool true)) y,ty,pos,aft,g⟩ (.bool true):=by
 simp only[PV,execOp,hx,asBool,uW];rfl
theorem kL{b}(hx:ev n F x= .bool true)(hy:ev n F y= .bool b):PV P n w F ⟨d,.pick x y (.const (.bool false)),ty,pos,aft,g⟩ (.bool b):=by
 simp only[PV,execOp,hx,hy,asBool,uW];rfl
theorem yT{b}(hx:ev n F x= .bool false)(hy:ev n F y= .bool b):PV P n w F ⟨d,.pick x (.const (.bool true)) y,ty,pos,aft,g⟩ (.bool b):=by
 simp only[PV,execOp,hx,hy,asBool,uW];rfl
theorem uU(hx:ev n F x= .int .u64 (a:Int))(hy:ev n F y= .int .u64 (b:Int))(h:a+b<18446744073709551616):PV P n w F ⟨d,.binOp .add t x y t',ty,pos,aft,g⟩ (.int .u64 ((a+b:Nat):Int)):=by
 have:=qO (P:=P) (w:=w) (d:=d) (ty:=ty) (pos:=pos) (aft:=aft) (g:=g) (t:=t) (t':=t') hx hy;rwa[←pK,wU h] at this
theorem OW(hx:ev n F x= .int .u64 (a:Int))(hy:ev n F y= .int .u64 (b:Int))(h:a*b<18446744073709551616):PV P n w F ⟨d,.binOp .mul t x y t',ty,pos,aft,g⟩ (.int .u64 ((a*b:Nat):Int)):=by
 have:=vD (P:=P) (w:=w) (d:=d) (ty:=ty) (pos:=pos) (aft:=aft) (g:=g) (t:=t) (t':=t') hx hy;rwa[←dM,wU h] at this
def D8(a b:Nat):Nat:=(a+18446744073709551616-b)%18446744073709551616
theorem H5(hx:ev n F x= .int .u64 (a:Int))(hy:ev n F y= .int .u64 (b:Int))(h:b≤18446744073709551616):PV P n w F ⟨d,.binOp .sub t x y t',ty,pos,aft,g⟩ (.int .u64 (D8 a b:Int)):=by
 have h2:=jN (P:=P) (w:=w) (d:=d) (ty:=ty) (pos:=pos) (aft:=aft) (g:=g) (t:=t) (t':=t') hx hy;have:IntKind.u64.wrap (a-b)=(D8 a b):=by
  rw[oW];unfold D8;omega
 grind
theorem xW(hx:ev n F x= .int .u32 (a:Int))(hy:ev n F y= .int .u32 (b:Int)):PV P n w F ⟨d,.binOp .add t x y t',ty,pos,aft,g⟩ (.int .u32 (((a+b)%4294967296:Nat):Int)):=by
 have:=qO (P:=P) (w:=w) (d:=d) (ty:=ty) (pos:=pos) (aft:=aft) (g:=g) (t:=t) (t':=t') hx hy;rwa[←pK,SH] at this
theorem xP{k:IntKind}(hx:ev n F x= .int k (a:Int))(hy:ev n F y= .int q (b:Int))(hb:b≤k.bits):PV P n w F ⟨d,.binOp .shr t x y t',ty,pos,aft,g⟩ (.int k ((a/2^b:Nat):Int)):=by
 have h2:=jOi (P:=P) (w:=w) (d:=d) (ty:=ty) (pos:=pos) (aft:=aft) (g:=g) (t:=t) (t':=t') hx hy O1;grind
theorem H3(hx:ev n F x= .int .u64 (a:Int))(hy:ev n F y= .int q (b:Int))(hb:b≤64)(h:a*2^b<18446744073709551616):PV P n w F ⟨d,.binOp .shl t x y t',ty,pos,aft,g⟩ (.int .u64 ((a*2^b:Nat):Int)):=by
 have h2:=J3 (P:=P) (w:=w) (d:=d) (ty:=ty) (pos:=pos) (aft:=aft) (g:=g) (t:=t) (t':=t') hx hy O1;have e:(a:Int)*2^min (b:Int).toNat IntKind.u64.bits=(a*2^b:Nat):=by
  rw[dW,show IntKind.u64.bits=64 from O,eM hb];simp
 rwa[e,wU h] at h2
theorem S6(hx:ev n F x= .int .u32 (a:Int))(hy:ev n F y= .int q (b:Int))(hb:b≤32):PV P n w F ⟨d,.binOp .shl t x y t',ty,pos,aft,g⟩ (.int .u32 ((a*2^b%4294967296:Nat):Int)):=by
 have h2:=J3 (P:=P) (w:=w) (d:=d) (ty:=ty) (pos:=pos) (aft:=aft) (g:=g) (t:=t) (t':=t') hx hy O1;have e:(a:Int)*2^min (b:Int).toNat IntKind.u32.bits=(a*2^b:Nat):=by
  rw[dW,show IntKind.u32.bits=32 from O,eM hb];simp
 rwa[e,SH] at h2
end
theorem HO{m'}(h:m=m'):Value.slice s m c= .slice s m' c:=by rw[h]
theorem ndt{p:Prop}[Decidable p](h:¬p):(!decide p)=true:=by simp[h]
theorem ndf{p:Prop}[Decidable p](h:p):(!decide p)=false:=by simp[h]
theorem ig.pre{enc:α→List Value}{l l'}(h:ig w k enc s l)(hp:l'<+:l):ig w k enc s l':=by
 intro i x hx;refine h i x ?_;obtain⟨t,rfl⟩:=hp;grind
def TZ(Q:Exit→Fr→World→Prop):Exit→Fr→World→Prop:=fun e F w=>match e with
 | .goto _=>False
 |e=>Q e F w
section
variable{Q:Exit→Fr→World→Prop}
theorem Kq{c}(h:WP P ⟨m,ds,none⟩ c (TZ Q) F w):WP P ⟨m,ds,none⟩ (.scope c) Q F w:=by
 refine rJ.2 (wp_scope_straight (wp_mono (rJ.1 h) ?_));rintro e a w ⟨F,rfl,h2⟩;cases e<;>first|exact h2.elim|exact⟨F,O,h2⟩
theorem KP(h:Q .normal F w):TZ Q .normal F w:=h
theorem Kd(h:Q .ret F w):TZ Q .ret F w:=h
end
variable{W':World}{assign body:Code}{gf:FuncId}{lb:List Value}{qz:Operand}{sz:Nat}
structure mw(B:Nat)(W W':World):Prop where
 os:W'.os=W.os
 tape:W'.tape=W.tape
 output:W'.output=W.output
 size:W.heap.size≤W'.heap.size
 block:∀k,k<B→W'.heap[k]? =W.heap[k]?
theorem mw.mono{B B' W W'}(h:mw B W W')(hb:B'≤B):mw B' W W':=⟨h.os,h.tape,h.output,h.size,fun k hk=>h.block k O1⟩
theorem mw.put{B}(W){l}(o)(h:B≤l):mw B W (W.putObj l o):=
 ⟨O,O,O,O4,fun k hk=>World.putObj_heap_other O1⟩
theorem yR(W l o):ax [l] W (W.putObj l o):=
 ⟨O,O,O,O4,fun k _ hk=>World.putObj_heap_other O6⟩
theorem Hp.o8{W L B}(h:Hp w0 M W L)(hp:mw B W W')(h0:w0.heap.size≤B)(hL:∀p∈L,∀b,p.1=some b→b<B):Hp w0 M W' L:=by
 refine⟨⟨hp.os.trans h.keeps.os,hp.tape.trans h.keeps.tape,hp.output.trans h.keeps.output,bF h.keeps.size hp.size,fun k hk hm=>(hp.block k O1).trans (h.keeps.block k hk hm)⟩,h.own,fun i p hi b hb=>?_,h.dis⟩;have⟨o,ho,hpo⟩:=h.has i p hi b hb;exact⟨o,by rw[hp.block b (hL p (aG hi) b hb)];exact ho,hpo⟩
def It{α:Type}(P:Program)(g:FuncId)(lb:List Value)(enc:α→Value)(xs:List α)(M:List Nat)(w:World):Prop:=
 ∀(l:Nat) (J:List α→World→Prop),l<w.heap.size→(∀(a:Addr) (v:Value),w.cell? a=some v→a.block≠l)→
  (∀pre x W1,J pre W1→(∃qo,xs=pre++x::qo)→YieldAt Fence.wide 0 P l #[enc x] W1 fun e W'=>e= .returned (.bool true)∧J (pre++[x]) W'∧ax (l::M) W1 W')→
  (∀pre W W',J pre W→mw w.heap.size W W'→J pre W')→J [] w→
  km P g (.func (.yield l) #[] #[]::lb) w (fun _ W'=>J xs W')
def BZ(P:Program)(n:ky)(c:Code)(QA:Exit→Act→World→Prop)(F:Fr)(w:World):Prop:=c.wpIn n.n6 0 P QA (act n F) w
section
variable{Q:Exit→Fr→World→Prop}
theorem EU{x y}(h:WP P n x (D9 (fun F w=>BZ P n y QA F w) (fun e F w=>QA e (act n F) w)) F w):BZ P n (.seq x y) QA F w:=by
 refine wpIn_seq (lA h ?_);rintro e a w ⟨F,rfl,h2⟩;cases e<;>exact h2
theorem Ki{x b y}(h:WP P n x (D9 (fun F w=>BZ P n b (Exit.then (fun a w=>y.wpIn n.n6 0 P QA a w) QA) F w) (fun e F w=>QA e (act n F) w)) F w):BZ P n (.seq (.seq x b) y) QA F w:=by
 refine wpIn_seq (wpIn_seq (lA h ?_));rintro e a w ⟨F,rfl,h2⟩;cases e<;>exact h2
theorem NN{c}(h:WP P n c (fun e F w=>QA e (act n F) w) F w):BZ P n c QA F w:=
 lA h (by rintro e a w ⟨F,rfl,h2⟩;exact h2)
theorem jUp(t:Array Value)(p:Nat)(v:Value):((#[p]:Array Nat).zip #[v]).foldl (fun tmps (t,a)=>tmps.setIfInBounds t a) t=t.setIfInBounds p v:=by
 simp
theorem jBs{id p}
  (hg:ev ⟨sz,ds,none⟩ F qz= .func (.func gf) #[] lb.toArray) (eg:qI P gf)
  (enc:α→Value) (xs:List α) (M:List Nat) (hM:∀k∈M,k<w.heap.size)
  (I:List α→World→Prop) (hI:∀pre W W',I pre W→mw w.heap.size W W'→I pre W') (h0:I [] w)
  (Bk:∀W1,ax [] w W1→W1.heap.size=w.heap.size+2→It P gf lb enc xs M W1) (F1:α→Fr)
  (q7:∀(l:Nat) (x:α) (W:World),WP P ⟨sz,[],some l⟩ assign (fun e F' W'=>e= .normal∧F'=F1 x∧W'=W) (F.put p (enc x)) W)
  (q3:∀(l:Nat) (pre:List α) (x:α) (W:World),(∃qo,xs=pre++x::qo)→I pre W→WP P ⟨sz,[],some l⟩ body (fun e _ W'=>e= .normal∧I (pre++[x]) W'∧ax M W W') (F1 x) W)
  (q1:∀(D:Nat) (W:World),w.heap.size≤D→I xs W→W.heap[D]? =some (.deferred (some []))→QA .normal (act ⟨sz,{target:=.collected D,args:=#[]}::ds,none⟩ F) W):
  BZ P ⟨sz,ds,none⟩ (.block id (.rangeFunc qz #[p] assign body)) QA F w:=by
 unfold BZ;rw[ky.k5 O];refine JK (wpIn_rangeFunc ?_);intro fn rb;obtain⟨rec,qs⟩:∃rec:LoopState→Option _→Loop,rec=fun st pe=>{state:=st,pending:=pe,fn,tmps:=(act ⟨sz,ds,none⟩ F).tmps,params:=#[p],assign,body,defers:=w.heap.size}:=⟨_,O⟩
 obtain⟨W1,va⟩:∃W1,(w.alloc (.deferred (some []))).alloc (.loop (rec .ready none))=W1:=⟨_,O⟩;have qy:W1.heap[w.heap.size+1]? =some (.loop (rec .ready none)):=by
  exact P8
 have q2:W1.heap[w.heap.size]? =some (.deferred (some [])):=by
  exact P5
 have qt:ax [] w W1:=by
  exact PU
 have hh:W1.heap.size=w.heap.size+2:=by rw[←va];simp
 have ti:mw _ w W1:=⟨qt.os,qt.tape,qt.output,qt.size,fun k hk=>qt.block k hk O4⟩
 refine⟨w.heap.size+1,[{target:=.collected w.heap.size,args:=#[]}],W1,{target:=.fn (.func gf) lb.toArray,args:=#[.func (.yield (w.heap.size+1)) #[] #[]]},W1,gf,
  #[.func (.yield (w.heap.size+1)) #[] #[]]++lb.toArray,W1,?_,?_,fun _ _=>trivial,?_,fun h=>(by cases h),?_⟩
 ·exact P1
 ·exact PX
 ·exact P7
 have hc:=Bk W1 qt hh (w.heap.size+1) (fun pre W=>I pre W∧W.heap[w.heap.size+1]? =some _∧W.heap[w.heap.size]? =some _) O1 (fun a v hc e=>by simp[World.cell?,e,qy] at hc) ?_ ?_ ⟨hI _ _ _ h0 ti,qy,q2⟩
 ·exact UW
 ·rintro pre x W ⟨hi,hl,hk⟩ qw;have ha:=(aM.1 hl).1;have hy:=run_yield (P:=P) (args:=#[enc x]) hl O6;rw[qs] at hy;rw[←qs] at hy;have aa:((#[p]).zip #[enc x]).foldl (fun tmps (t,a)=>tmps.setIfInBounds t a) (act ⟨sz,ds,none⟩ F).tmps=(act ⟨sz,[],some (w.heap.size+1)⟩ (F.put p (enc x))).tmps:=by
   exact mDo
  refine⟨fn,_,assign,body,by rw[qs] at hy;exact hy,?_⟩;rw[aa];refine roundIn_of_wpIn rb (lA (q7 _ x W) ?_);rintro e a1 w1 ⟨F',rfl,rfl,rfl,rfl⟩;refine⟨_,run_beginRound hl (by rw[qs]),?_⟩;obtain⟨W2,qu⟩:∃W2,W2=w1.putObj (w.heap.size+1) (.loop {rec .ready none with state:=.busy}):=⟨_,O⟩;have qq:W2.heap[w.heap.size+1]? =some (.loop {rec .ready none with state:=.busy}):=by rw[qu];exact World.putObj_heap_same ha
  have zw:W2.heap[w.heap.size]? =some (.deferred (some [])):=by rw[qu];exact(World.putObj_heap_other O1).trans hk
  have ac:I pre W2:=by rw[qu];exact hI _ _ _ hi (mw.put _ _ O1)
  have qv:ax [w.heap.size+1] w1 W2:=by rw[qu];exact yR _ _ _
  rw[←qu];refine lA (q3 _ _ x W2 qw ac) ?_;rintro e a3 W3 ⟨F3,rfl,rfl,ab,zx⟩;have tv:=(aM.1 qq).1;have qx:=(zx.block _ tv (fun hm=>O6)).trans qq;have yr:=(zx.block _ O1 (fun hm=>O6)).trans zw;have hr:=run_endRound (P:=P) none qx;refine⟨_,_,hr,O,⟨hI _ _ _ ab (mw.put _ _ O1),?_,(World.putObj_heap_other O1).trans yr⟩,?_⟩
  ·exact PW
  exact mAz
 exact UM
theorem km.q5{f fn c args R}(hf:P.funcs[f]? =some fn)(hb:fn.body=some c){m}(hn:fn.ntmps=m)(hg:Nat.ble args.length m=true)
  (h:BZ P (ky.of m) c (bodyPostM Fence.wide 0 P fn (fun e w'=>∃v,e= .returned v∧R v w')) (qE args) w):km P f args w R:=by
 refine pV.1 (callsIn_of_wp_marks (n:=0) hf hb trivial ?_);have hg:=fH hg;have ha:({tmps:=args.toArray++Array.replicate (fn.ntmps-args.toArray.size) undef,defers:=[]})=act (ky.of m) (qE args):=by
  simp only[act];congr 1;apply rH
  ·simp[hn];omega
  intro i h1 h2;simp only[nM];rw[uA];by_cases hi:i<args.length
  ·grind
  rw[XJ O6];simp[aC,hi]
 rw[ha];exact h
theorem Z9{fn D v}(h:fn.results= #[.tmp t])(hv:ev n F (.tmp t)=v)(af:n.ds=[{target:=.collected D,args:=#[]}])(hD:w.heap[D]? =some (.deferred (some [])))(hr:R (.returned v) (w.putObj D (.deferred none))):
  bodyPostM Fence.wide 0 P fn R .ret (act n F) w:=by
 show LeavesInM _ 0 P fn _ R n.ds _ w
 rw[af];refine⟨O4,.inl ⟨D,_,O,run_takeDeferred hD,v,?_,hr⟩⟩;exact Ut
theorem Lf{rest d l x pos vs}
  (hx:ev (ky.of m) F x= .func (.yield l) #[] #[]) (di:args.toList.map (ev (ky.of m) F)=vs) (hy:YieldAt Fence.wide 0 P l vs.toArray w R)
  (h:∀e w',R e w'→∃v,e= .returned v∧kq P (ky.of m) ops rest Q (F.put d v) w'):
  kq P (ky.of m) ops (⟨some d,.call ⟨.value x,args,ts⟩,ty,pos,aft,none⟩::rest) Q F w:=by
 obtain⟨fn,tmps,assign,body,ai,aj⟩:=hy;refine wpListIn_plain O fun K hK=>⟨fun _ _=>trivial,?_⟩
 have ha:args.map (ev (ky.of m) F)=vs.toArray:=by
  rw[←di];apply Ni;rw[rP]
 have hex:(execOp (ev (ky.of m) F) ⟨some d,.call ⟨.value x,args,ts⟩,ty,pos,aft,none⟩).run P w= .ok (.round l fn tmps assign body) w:=by
  exact UJ
 rw[Nq _ _ _ O4,zF,hex];refine⟨fun h=>(by cases h),RoundIn.mono aj ?_⟩;intro e w' hr;obtain⟨v,rfl,h2⟩:=h e w' hr;refine hK _ _ ?_;rw[zN];exact h2
end
attribute [local irreducible] PV gx kq kn WP km
variable{ba:Nat}{news xs zs:List Value}
theorem jI2{o}{p:α→Bool}(h:o.any p=true):∃q,o=some q∧p q=true:=by
 cases o with
 |none=>cases h
 |some q=>exact⟨q,O,h⟩
def ED:Nat→Option Nat
 |2|3|4|5|9|21|22|24|25|26|29|34|35|36|37|40|43|62|65|86|90|110|125|134|137|139|150|153|156|162|163|170|174|177|190|192|194|200|208|209|216|229|231|252|262|268|289|290|296|297|301|304|314|315|319|344|375|379|382|409|420|434|438|448=>some 1
 |28=>some 13
 |33|45|49|146|202|233|248|317|384=>some 3
 |39|94=>some 6
 |57|76|80|85|88|92|127|130|236|255|442=>some 2
 |82|135|152|204=>some 4
 |108|132|414=>some 20
 |179=>some 22
 |244|308=>some 5
 |264=>some 15
 |283|284|443=>some 32
 |291=>some 12
 |293=>some 14
 |339|340|440=>some 256
 |359|412=>some 8
 |410|447=>some 64
 |415=>some 65
 |_=>none
def IS(t:Nat):Bool:=match ED t with
 |some 1=>true
 |_=>false
theorem S1(h:IS t=true):∃q,prog.underlying t=some q∧Vt q=true:=by
 unfold IS at h;split at h
 next e=>unfold ED at e;split at e<;>first|(cases e;done)|exact jI2 O3
 cases h
def FJ:Nat→Option Nat
 |28=>some 13
 |33|45|49|146|202|233|248|317|384=>some 3
 |39|94=>some 6
 |57|76|80|85|88|92|127|130|236|255|442=>some 2
 |82|135|152|204=>some 4
 |108|132|414=>some 20
 |179=>some 22
 |244|308=>some 5
 |264=>some 15
 |283|284|443=>some 32
 |291=>some 12
 |293=>some 14
 |339|340|440=>some 256
 |359|412=>some 8
 |410|447=>some 64
 |415=>some 65
 |_=>none
theorem Mc(h:FJ t=some k):∃q,prog.underlying t=some q∧RK q=true:=by
 unfold FJ at h;split at h<;>cases h<;>(exact jI2 O3)
theorem qD(h:ED t=some k):kz prog t k:=by
 unfold ED at h;split at h<;>cases h<;>(unfold kz;kernel_rfl)
def CQ:Nat→Option (Nat×Nat)
 |22=>some (3,1)
 |24=>some (88,2)
 |25=>some (130,2)
 |26=>some (33,3)
 |29=>some (94,6)
 |35=>some (22,1)
 |36=>some (34,1)
 |37=>some (204,4)
 |43=>some (49,3)
 |62=>some (9,1)
 |65=>some (146,3)
 |86=>some (82,4)
 |110=>some (43,1)
 |137=>some (208,1)
 |163=>some (85,2)
 |170=>some (236,2)
 |177=>some (4,1)
 |190=>some (5,1)
 |229=>some (233,3)
 |252=>some (255,2)
 |382=>some (177,1)
 |_=>none
theorem zK{e}(h:CQ t=some (e,k)):prog.underlying t=some (.slice e)∧kz prog e k:=by
 unfold CQ at h;split at h<;>cases h<;>(exact⟨O3,qD O⟩)
def JR:Nat→Option (Nat×Nat×Nat)
 |57=>some (2,22,1)
 |135=>some (4,134,1)
 |152=>some (4,150,1)
 |283|284=>some (32,5,1)
 |291=>some (12,290,1)
 |339|340=>some (256,4,1)
 |359=>some (8,208,1)
 |410=>some (64,208,1)
 |412=>some (8,5,1)
 |414=>some (20,139,1)
 |415=>some (65,5,1)
 |440=>some (256,5,1)
 |443=>some (16,442,2)
 |447=>some (64,5,1)
 |_=>none
theorem KD{e}(h:JR t=some (m,e,k)):prog.underlying t=some (.array m e)∧kz prog e k:=by
 unfold JR at h;split at h<;>cases h<;>(exact⟨O3,qD O⟩)
def GV:Nat→Bool
 |9|34=>true
 |_=>false
theorem wV(h:GV t=true):prog.underlying t=some .string:=by
 unfold GV at h;split at h<;>cases h<;>first|with_reducible exact underlying9|with_reducible exact underlying34
def FE:Nat→Option IntKind
 |2|3|40|420=>some .i64
 |5=>some .u8
 |21=>some .i32
 |139|156|434=>some .u64
 |208=>some .u32
 |290=>some .i8
 |_=>none
theorem Pz{k}(h:FE t=some k):prog.underlying t=some (.int k):=by
 unfold FE at h;split at h<;>cases h<;>first|with_reducible exact underlying2|with_reducible exact underlying3|with_reducible exact underlying5|with_reducible exact underlying21|with_reducible exact underlying40|with_reducible exact underlying139|with_reducible exact underlying156|with_reducible exact underlying208|with_reducible exact underlying290|with_reducible exact underlying420|with_reducible exact underlying434
def we:List (Nat×Nat)→Nat→Option Nat
 |[],_=>none
 |p::l,i=>bif Nat.beq p.1 i then some p.2 else we l i
def zD9(P:Program)(s i:Nat):Option (Nat×Option Nat):=match P.underlying s with
 |some (.struct fs)=>(fs[i]?).map (fun f=>(f.offset,(P.info? f.type).map (·.size)))
 |_=>none
def U1(P:Program)(s i off:Nat):Bool:=match zD9 P s i with
 |some (o,some (_+1))=>Nat.beq o off
 |_=>false
theorem jKz{s}(h:U1 P s i off=true):∃k,J5 P s i off k:=by
 unfold U1 at h;split at h
 next o k e=>exact⟨k,by unfold J5;rw[←bV h];exact e⟩
 ·cases h
theorem jMs{P s i off}:∀L:List (Nat×Nat),L.all (fun p=>U1 P s p.1 p.2)=true→we L i=some off→∃k,J5 P s i off k
 |[],_,h=>by cases h
 |p::L,hL,h=>by
  rw[pJ,aJ] at hL;unfold we at h;cases hb:Nat.beq p.1 i
  ·rw[hb] at h;exact jMs L hL.2 h
  rw[hb] at h;cases h;cases bV hb;exact jKz hL.1
def sq(n:Nat):List (Nat×Nat):=(range n).map fun i=>(i,i)
def Sh(s i:Nat):Option Nat:=we (match s with
 |108=>[(0,0),(1,6),(2,19)]
 |132=>[(0,0),(1,13),(2,14)]
 |179=>[(0,0),(1,13),(2,14),(3,15),(4,16),(5,17),(6,18),(7,19),(8,20),(9,21)]
 |204=>[(0,0),(1,3)]
 |264=>[(0,0),(1,13),(2,14)]
 |28=>sq 13
 |33|45|49|82|146|202|233|244|248|293|317|384=>sq 3
 |39|94=>sq 6
 |76|80|85|88|92|127|130|236|255|442=>sq 2
 |308=>sq 5
 |_=>[]) i
theorem qWc{s}(h:Sh s i=some off):∃k,J5 prog s i off k:=by
 unfold Sh at h;split at h<;>exact jMs _ O3 h
section
variable{pos:String}{x:Operand}
theorem xF{s}(h:Sh s i=some off)(hx:ev n F x= .pointer (some ⟨b,o,none⟩)):PV prog n w F ⟨d,.fieldAddr s x i,ty,pos,aft,g⟩ (.pointer (some ⟨b,o+off,none⟩)):=by
 have⟨k,hk⟩:=qWc h;exact qVk hk hx
theorem qS{v}(h:IS t=true)(hx:ev n F x= .pointer (some ⟨b,o,none⟩))(hc:w.cell? ⟨b,o,none⟩=some v):PV prog n w F ⟨d,.load t x,ty,pos,aft,g⟩ v:=by
 have⟨q,h1,h2⟩:=S1 h;exact JX h1 h2 hx hc
theorem qL{vs:List Value}(h:FJ t=some k)(hz:ED t=some k)(hx:ev n F x= .pointer (some ⟨b,o,none⟩))(hl:vs.length=k)(hc:∀(j:Nat) (v:Value),vs[j]? =some v→w.cell? ⟨b,o+j,none⟩=some v):
  PV prog n w F ⟨d,.load t x,ty,pos,aft,g⟩ (.agg vs.toArray):=by
 have⟨q,h1,h2⟩:=Mc h;exact jDk h1 h2 (qD hz) hx hl hc
theorem vO(h:FJ t=some k)(hz:ED t=some k)(hx:ev n F x= .pointer (some ⟨b,o,none⟩))(hc:∀(j:Nat) (v:Value),((range k).map fun j=>f (o+j))[j]? =some v→w.cell? ⟨b,o+j,none⟩=some v):
  PV prog n w F ⟨d,.load t x,ty,pos,aft,g⟩ (.agg ((range k).map fun j=>f (o+j)).toArray):=qL h hz hx O4 hc
theorem zA{e:Nat}(h:CQ t=some (e,k))(hx:ev n F x= .slice s m c)(hy:ev n F y= .int q i)(hs:s=some ⟨b,o,none⟩)(hi:i<m):
  PV prog n w F ⟨d,.indexAddr t x y,ty,pos,aft,g⟩ (.pointer (some ⟨b,o+i*k,none⟩)):=(by subst hs;simp[PV,execOp,Instr.indexAt,hx,hy,asIntOf,jQ (zK h).1,hi,(zK h).2.run,yC])
theorem jS{e:Nat}(h:JR t=some (m,e,k))(hx:ev n F x= .pointer (some ⟨b,o,none⟩))(hy:ev n F y= .int q i)(hi:i<m):
  PV prog n w F ⟨d,.indexAddr t x y,ty,pos,aft,g⟩ (.pointer (some ⟨b,o+i*k,none⟩)):=(by simp[PV,execOp,Instr.indexAt,Instr.sureAddr,hx,hy,asIntOf,jQ (KD h).1,hi,(KD h).2.run,yC])
theorem GZ{q p e}(h:CQ p=some (e,k))(hx:ev n F x= .slice s m c):PV prog n w F ⟨d,.call ⟨.builtin .len,#[x],#[p]⟩,q,pos,aft,g⟩ (Iv m):=(by simp[PV,execOp,resolve,invoke,builtin,Builtin.len_,hx,jQ (zK h).1,goInt])
theorem uZ{q p s}(h:GV p=true)(hx:ev n F x= .string s):PV prog n w F ⟨d,.call ⟨.builtin .len,#[x],#[p]⟩,q,pos,aft,g⟩ (Iv s.size):=(by simp[PV,execOp,resolve,invoke,builtin,Builtin.len_,hx,jQ (wV h),goInt])
theorem zY{s:ByteArray}{k:IntKind}(h:GV t=true)(hx:ev n F x= .string s)(hy:ev n F y= .int k i)(hi:i<s.size):PV prog n w F ⟨d,.index t x y,ty,pos,aft,g⟩ (.int .u8 (CK s i)):=
 qVi (wV h) hx hy hi
theorem zX{k k' a}(h:FE t=some q)(h':FE t'=some k')(hx:ev n F x= .int k a):PV prog n w F ⟨d,.convert t t' x,ty,pos,aft,g⟩ (.int k' (k'.wrap a)):=
 Y2 (Pz h') ⟨_,Pz h⟩ hx
end
def wT:Nat→Option Value
 |2|3|40|420=>some (Iv 0)
 |4=>some (.bool false)
 |5=>some (.int .u8 0)
 |9|34=>some (.string ⟨#[]⟩)
 |21=>some (.int .i32 0)
 |22|24|25|26|29|35|36|37|43|62|65|86|110|137|163|170|177|190|229|252|382=>some (Zs)
 |28=>some (.agg #[.string ⟨#[]⟩,Iv 0,Iv 0,Iv 0,Iv 0,Iv 0,Zs,.bool false,Zs,Iv 0,Iv 0,Zs,Zs])
 |33=>some (.agg #[.string ⟨#[]⟩,Iv 0,Iv 0])
 |39=>some (.agg #[Iv 0,.string ⟨#[]⟩,Iv 0,Zs,Zs,Zs])
 |45|248|384=>some (.agg #[Zs,Zs,Zs])
 |49|202=>some (.agg #[.bool false,.string ⟨#[]⟩,.string ⟨#[]⟩])
 |57|76=>some (.agg #[Zs,Zs])
 |80|85|88|236|255=>some (.agg #[Iv 0,Iv 0])
 |82=>some (.agg #[Iv 0,Iv 0,Iv 0,Iv 0])
 |90|125|174|262|289|304|344|409|438|448=>some (.pointer none)
 |92|127=>some (.agg #[Zs,Iv 0])
 |94=>some (.agg #[Iv 0,Iv 0,Iv 0,Zs,Zs,Zs])
 |108=>some (.agg #[Iv 0,.string ⟨#[]⟩,Iv 0,Zs,Zs,Zs,.string ⟨#[]⟩,Iv 0,Iv 0,Iv 0,Iv 0,Iv 0,Zs,.bool false,Zs,Iv 0,Iv 0,Zs,Zs,Zs])
 |130=>some (.agg #[.string ⟨#[]⟩,Iv 0])
 |132=>some (.agg #[.string ⟨#[]⟩,Iv 0,Iv 0,Iv 0,Iv 0,Iv 0,Zs,.bool false,Zs,Iv 0,Iv 0,Zs,Zs,Zs,Iv 0,.string ⟨#[]⟩,Iv 0,Zs,Zs,Zs])
 |134|150|194|209|231|268|297|301|315|319|375|379=>some (.nilFunc)
 |135|152=>some (.agg #[.nilFunc,.nilFunc,.nilFunc,.nilFunc])
 |139|156|434=>some (.int .u64 0)
 |146=>some (.agg #[Iv 0,.string ⟨#[]⟩,.string ⟨#[]⟩])
 |153|162|192|200|216|296|314=>some (.map none)
 |179=>some (.agg #[.string ⟨#[]⟩,Iv 0,Iv 0,Iv 0,Iv 0,Iv 0,Zs,.bool false,Zs,Iv 0,Iv 0,Zs,Zs,Zs,Zs,Zs,Zs,Zs,Zs,Zs,Zs,Zs])
 |204=>some (.agg #[.bool false,.string ⟨#[]⟩,.string ⟨#[]⟩,Zs])
 |208=>some (.int .u32 0)
 |233=>some (.agg #[.string ⟨#[]⟩,Iv 0,.nilFunc])
 |244=>some (.agg #[Zs,Zs,.bool false,.string ⟨#[]⟩,.string ⟨#[]⟩])
 |264=>some (.agg #[.string ⟨#[]⟩,Iv 0,Iv 0,Iv 0,Iv 0,Iv 0,Zs,.bool false,Zs,Iv 0,Iv 0,Zs,Zs,Zs,Zs])
 |283|284|443=>some (.agg (.replicate 32 (.int .u8 0)))
 |290=>some (.int .i8 0)
 |291=>some (.agg (.replicate 12 (.int .i8 0)))
 |293=>some (.agg (.replicate 14 (.int .i8 0)))
 |308=>some (.agg #[Zs,Zs,Zs,Zs,Zs])
 |317=>some (.agg #[.string ⟨#[]⟩,.bool false,.bool false])
 |359=>some (.agg (.replicate 8 (.int .u32 0)))
 |410=>some (.agg (.replicate 64 (.int .u32 0)))
 |412=>some (.agg (.replicate 8 (.int .u8 0)))
 |414=>some (.agg (.replicate 20 (.int .u64 0)))
 |442=>some (.agg #[.int .u8 0,.int .u8 0])
 |447=>some (.agg (.replicate 64 (.int .u8 0)))
 |_=>none
theorem qJ(h:wT t=some z):kx prog t z:=by
 unfold wT at h;split at h<;>cases h<;>(unfold kx;kernel_rfl)
def GW:Nat→Option Nat
 |2|3|40|90|125|134|139|150|153|156|162|174|192|194|200|209|216|231|262|268|289|296|297|301|304|314|315|319|344|375|379|409|412|420|434|438|448=>some 8
 |4|5|290=>some 1
 |9|34|80|85|88|236|255=>some 16
 |21|208=>some 4
 |22|24|25|26|29|35|36|37|43|62|65|86|110|130|137|163|170|177|190|229|252|317|382=>some 24
 |28=>some 176
 |33|82|92|127|135|152|233|283|284|359|443=>some 32
 |39=>some 104
 |45|248|384=>some 72
 |49|146|202=>some 40
 |57|76=>some 48
 |94=>some 96
 |108|132=>some 304
 |179=>some 392
 |204|447=>some 64
 |244=>some 88
 |264=>some 224
 |291=>some 12
 |293=>some 14
 |308=>some 120
 |339|340|410|440=>some 256
 |414=>some 160
 |415=>some 65
 |442=>some 2
 |_=>none
theorem Kz(h:GW t=some k):Az prog t k:=by
 unfold GW at h;split at h<;>cases h<;>(unfold Az;kernel_rfl)
def jEu:Nat→Option (Nat×Nat×Value)
 |162=>some (3,4,.bool false)
 |_=>none
theorem xG{e}(h:jEu t=some (k,e,z)):prog.underlying t=some (.map k e)∧prog.underlying k=some AG.kd∧kx prog e z:=by
 unfold jEu at h;split at h<;>cases h<;>(exact⟨O3,O3,qJ O⟩)
def jEt:Nat→Option (Nat×Nat×Value)
 |153=>some (9,4,.bool false)
 |192=>some (9,3,Iv 0)
 |_=>none
theorem kV{e}(h:jEt t=some (k,e,z)):prog.underlying t=some (.map k e)∧prog.underlying k=some nk.kd∧kx prog e z:=by
 unfold jEt at h;split at h<;>cases h<;>(exact⟨O3,O3,qJ O⟩)
def RJ(t:Nat):Option Nat:=match t with
 |28|33|39|45|49|76|80|85|88|92|94|127|130|146|202|233|236|248|255|308|317|384|442=>ED t
 |_=>none
theorem QI(h:P.underlying t=some (.struct fs))(h2:∀w,(fs.mapM (fun f=>do pure (f.offset,←sizeOf f.type):Field→Sem (Nat×Nat))).run P w= .ok ((range k).map fun i=>(i,1)).toArray w):jId P t k:=⟨fs,h,fun w=>⟨_,h2 w,fun i hi=>by simp[hi]⟩⟩
theorem jBc(h:RJ t=some k):jId prog t k:=by
 unfold RJ at h;split at h<;>cases h<;>exact QI (by first|with_reducible exact underlying28|with_reducible exact underlying33|with_reducible exact underlying39|with_reducible exact underlying45|with_reducible exact underlying49|with_reducible exact underlying76|with_reducible exact underlying80|with_reducible exact underlying85|with_reducible exact underlying88|with_reducible exact underlying92|with_reducible exact underlying94|with_reducible exact underlying127|with_reducible exact underlying130|with_reducible exact underlying146|with_reducible exact underlying202|with_reducible exact underlying233|with_reducible exact underlying236|with_reducible exact underlying248|with_reducible exact underlying255|with_reducible exact underlying308|with_reducible exact underlying317|with_reducible exact underlying384|with_reducible exact underlying442) fun w=>O3
section
variable{L:List kr}{pos:String}{x:Operand}
theorem uI{ps}(hf:RJ t=some k)(hz:wT t=some (.agg zs.toArray))(hl:zs.length=k)
  (zq:((ps.toList.map fun p=>(p.1,ev n F p.2)).all fun p=>Nat.blt p.1 k&&Nat.beq p.2.cells.size 1)=true):
  PV prog n w F ⟨d,.build t ps,ty,pos,aft,g⟩ (.agg (IV 1 zs (ps.toList.map fun p=>(p.1,ev n F p.2))).toArray):=(by have⟨fs,ht,hw⟩:=(jBc hf);have⟨pl,xv,hp⟩:=hw w;have ha:=N5 (pl[·]?) 1 k hp _ zs O1 zq;simp only[PV,execOp,Instr.build,bT,(qJ hz).run,aN,jQ ht,xv,Value.cells,vH,ha];rfl)
theorem yH{e ps}(ht:JR t=some (k,e,sz))(hz:wT t=some (.agg zs.toArray))(hl:zs.length=k*sz)
  (zq:((ps.toList.map fun p=>(p.1,ev n F p.2)).all fun p=>Nat.blt p.1 k&&Nat.beq p.2.cells.size sz)=true):
  PV prog n w F ⟨d,.build t ps,ty,pos,aft,g⟩ (.agg (IV sz zs (ps.toList.map fun p=>(p.1,ev n F p.2))).toArray):=(by have ha:=N5 _ sz k (fun _ _=>O) _ zs hl zq;simp only[PV,execOp,Instr.build,bT,(qJ hz).run,aN,jQ (KD ht).1,(KD ht).2.run,Value.cells,vH,ha];rfl)
theorem jC{e ps vs}(hp:Hp w0 M w L)(ht:CQ t=some (e,sz))(hz:wT e=some z)
  (dh:(ps.toList.map fun p=>(p.1,ev n F p.2))=vs) (ho:HT sz 0 vs=true) (hk:vs.length=k) (u1:vs.flatMap (fun p=>p.2.cells.toList)=cs) (pg:Nat.ble (k*sz) 16777216=true):
  gx prog n ⟨d,.buildSlice t k ps,ty,pos,aft,g⟩ F w (fun u w'=>∃b,u= .slice (Ad b) k k∧Hp w0 M w' (bu b cs.length (qE cs) e::L)):=
 qNp hp (zK ht).1 (zK ht).2 (qJ hz) dh ho hk u1 (fH pg)
theorem qOb{e v}(hp:Hp w0 M w L)(i:Nat)(ht:CQ t=some (e,size))(x5:GW e=some ba)(hz:wT e=some z)
  (xw:z.cells.size=size) (xx:Nat.blt 0 size=true) (hx:ev n F x=v) (hy:ev n F y= .slice s k c) (hi:L[i]? =some (Fj v e size m xs)) (hv:SV v m) (hl:xs.length=m*size) (hn:news.length=k*size)
  (hj:∀(j:Nat) (u:Value),news[j]? =some u→∃b o,s=some ⟨b,o,none⟩∧w.cell? ⟨b,o+j,none⟩=some u) (h1:∀u∈news,kM u=true)
  (oa:m+k≤maxLen) (et:(m+k)*ba≤140737488355328):
  gx prog n ⟨d,.call ⟨.builtin .append,#[x,y],#[t,t]⟩,ty,pos,aft,g⟩ F w (fun u w'=>SV u (m+k)∧Hp w0 M w' (L.set i (Fj u e size (m+k) (xs++news)))):=
 jAf hp i (zK ht).1 (zK ht).2 (Kz x5) (qJ hz) xw (Md xx) hx hy hi hv hl hn hj h1 oa et
end
theorem qT0{n:Nat}{fn:Func}{p ty:Nat}{vs:List Value}(h:fn.results= #[.cell p ty])(h1:FJ ty=some k)(hz:ED ty=some k)(hx:ev n F (.tmp p)= .pointer (some ⟨b,o,none⟩))(hl:vs.length=k)
  (hc:∀(j:Nat) (v:Value),vs[j]? =some v→w.cell? ⟨b,o+j,none⟩=some v):(results fn (act n F).tmps).run prog w= .ok (.agg vs.toArray) w:=by
 have⟨q,hq,uu⟩:=Mc h1;have hk:=qD hz;subst hl;have:=vN (P:=prog) (w:=w) b o vs 0 #[] (fun j v hv=>by simpa using hc j v hv);have hY:(act n F).tmps.getD p undef= .pointer (some ⟨b,o,none⟩):=by
  rw[←hx,←zF];rfl
 have nq:(act n F).tmps[p]?.getD undef= .pointer (some ⟨b,o,none⟩):=by simpa using hY
 simp[results,h,nq,asAddr,loadVar,L6 hq uu,loadCells,hk.run,this]
theorem zJ{n:Nat}{fn:Func}{p ty:Nat}(h:fn.results= #[.cell p ty])(h1:FJ ty=some k)(hz:ED ty=some k)(hx:ev n F (.tmp p)= .pointer (some ⟨b,o,none⟩))
  (hc:∀(j:Nat) (v:Value),((range k).map fun j=>f (o+j))[j]? =some v→w.cell? ⟨b,o+j,none⟩=some v) (hr:R (.returned (.agg ((range k).map fun j=>f (o+j)).toArray)) w):Gh prog n fn R .ret F w:=
 ⟨_,qT0 h h1 hz hx O4 hc,hr⟩
section
variable{pos:String}{x:Operand}
theorem TQ{e:Nat}(ht:CQ t=some (e,k))(hx:ev n F x= .slice s m c)(hy:ev n F y= .int q h)(hh:h≤c):
  PV prog n w F ⟨d,.slice t x none (some y) none,ty,pos,aft,g⟩ (.slice s h c):=by
 have hb:=yO (P:=prog) (w:=w) (c:=.sliceAcap) hy hh;have e1:(if c=0 then s else s.map (·.add (0*k)))=s:=by
  split
  ·rfl
  cases s<;>simp[qPh]
 simp only[PV,execOp,Instr.sliceAt,Instr.slice,hx,bT,jQ (zK ht).1,aN,Instr.sliceBounds,dZ,Option.map_none,fD,hb,(zK ht).2.run,if_true,Nv,e1]
theorem qQt{e:Nat}{ps:Array (Nat×Operand)}{vs:List (Nat×Value)}(ht:JR t=some (k,e,sz))(hz:wT t=some (.agg zs.toArray))(hl:zs.length=k*sz)
  (dh:(ps.toList.map fun p=>(p.1,ev n F p.2))=vs) (ho:HT sz 0 vs=true) (hk:vs.length=k):
  PV prog n w F ⟨d,.build t ps,ty,pos,aft,g⟩ (.agg (vs.flatMap fun p=>p.2.cells.toList).toArray):=by
 have h1:=yH (w:=w) (d:=d) (ty:=ty) (pos:=pos) (aft:=aft) (g:=g) (n:=n) (F:=F) (ps:=ps) ht hz hl (by rw[dh];exact TG sz k vs 0 ho O1);have h2:=Tn sz vs 0 [] zs ho O4 (by rw[hl,hk]);rw[dh] at h1;rw[mC,mC] at h2;rw[h2] at h1;exact h1
end
section
variable{L:List kr}{pos:String}{x:Operand}
theorem jV(enc:α→List Value)(l:List α)(xv:α){t e k ba b c z s}(hp:Hp w0 M w L)(i j:Nat)(ht:CQ t=some (e,k))(x5:GW e=some ba)(hz:wT e=some z)
  (xw:z.cells.size=k) (xx:Nat.blt 0 k=true) (hb:Nat.ble ba 1000=true) (hk:∀x,(enc x).length=k) (hx:ev n F x= .slice s l.length c) (hy:ev n F y= .slice (Ad b) 1 1)
  (hi:L[i]? =some (qG enc e k s c l)) (hv:kg s c l) (hj:L[j]? =some (bu b (enc xv).length (qE (enc xv)) e)) (h1:(enc xv).all kM=true) (hQ:l.length<1000000):
  gx prog n ⟨d,.call ⟨.builtin .append,#[x,y],#[t,t]⟩,ty,pos,aft,g⟩ F w
   (fun u w'=>∃s' c',u= .slice s' (l++[xv]).length c'∧kg s' c' (l++[xv])∧Hp w0 M w' (L.set i (qG enc e k s' c' (l++[xv])))):=by
 have oc:=fH hb;have et:(l.length+1)*ba≤1000000*1000:=dE O1 oc;refine(qOb hp i ht x5 hz xw xx hx hy hi hv (zR enc k hk l) (by rw[hk];omega) (Yn hp j hj) (by simpa[dO] using h1) (by unfold maxLen;omega) O1).mono ?_;rintro u w' ⟨h2,h3⟩;obtain⟨s',c',rfl⟩:=h2.ex;have e1:(l++[xv]).length=l.length+1:=O4;have e2:(l++[xv]).flatMap enc=l.flatMap enc++enc xv:=O4;exact mD6
end
section
variable{L:List kr}{pos:String}{x:Operand}
theorem qV8(enc:α→List Value)(l l2:List α){t e k ba c c2 z s s2}(hp:Hp w0 M w L)(i:Nat)(ht:CQ t=some (e,k))(x5:GW e=some ba)(hz:wT e=some z)
  (xw:z.cells.size=k) (xx:Nat.blt 0 k=true) (hb:Nat.ble ba 1000=true) (hk:∀x,(enc x).length=k) (hx:ev n F x= .slice s l.length c) (hy:ev n F y= .slice s2 l2.length c2)
  (hi:L[i]? =some (qG enc e k s c l)) (hv:kg s c l) (hs:ig w k enc s2 l2) (h1:∀x,(enc x).all kM=true) (hQ:l.length+l2.length<1000000):
  gx prog n ⟨d,.call ⟨.builtin .append,#[x,y],#[t,t]⟩,ty,pos,aft,g⟩ F w
   (fun u w'=>∃s' c',u= .slice s' (l++l2).length c'∧kg s' c' (l++l2)∧Hp w0 M w' (L.set i (qG enc e k s' c' (l++l2)))):=by
 have oc:=fH hb;have et:(l.length+l2.length)*ba≤1000000*1000:=dE O1 oc;refine(qOb hp i ht x5 hz xw xx hx hy hi hv (zR enc k hk l) (zR enc k hk l2) (hs.src hk) ?_ (by unfold maxLen;omega) O1).mono ?_
 ·intro u hu;rw[rL] at hu;have⟨a,_,ha⟩:=hu;exact dO.1 (h1 a) u ha
 rintro u w' ⟨h2,h3⟩;obtain⟨s',c',rfl⟩:=h2.ex;have e1:(l++l2).length=l.length+l2.length:=O4;have e2:(l++l2).flatMap enc=l.flatMap enc++l2.flatMap enc:=O4;exact mD6
theorem TI(enc:α→List Value)(l:List α){t e k ba b c z s}(hp:Hp w0 M w L)(i:Nat)(ht:CQ t=some (e,k))(x5:GW e=some ba)(hz:wT e=some z)
  (xw:z.cells.size=k) (xx:Nat.blt 0 k=true) (hb:Nat.ble ba 1000=true) (hk:∀x,(enc x).length=k) (hx:ev n F x= .slice (Ad b) 0 0) (hy:ev n F y= .slice s l.length c)
  (hi:L[i]? =some (bu b 0 (qE []) e)) (hs:ig w k enc s l) (h1:∀x,(enc x).all kM=true) (hQ:l.length<1000000):
  gx prog n ⟨d,.call ⟨.builtin .append,#[x,y],#[t,t]⟩,ty,pos,aft,g⟩ F w
   (fun u w'=>∃s' c',u= .slice s' l.length c'∧kg s' c' l∧Hp w0 M w' (L.set i (qG enc e k s' c' l))):=by
 have hr:=hp.rowOf (cs:=[]) i k 0 hi O4;have hl:=(aI.1 hi).1;refine(qV8 enc ([]:List α) l (s:=Ad b) (c:=0) hr i ht x5 hz xw xx hb hk hx hy (by rw[gM,if_pos O,if_pos hl];rfl) (.inr ⟨b,0,O,O4,by unfold maxLen;omega⟩) hs h1 (by simpa using hQ)).mono ?_;rintro u w' ⟨s',c',h2,h3,h4⟩;rw[List.set_set] at h4;exact⟨s',c',h2,h3,h4⟩
theorem jOy{e len cap ns}(ht:CQ t=some (e,1))(he:FE e=some .u8)(yj:GV t'=true)(hx:ev n F x= .slice (some ⟨b,o,none⟩) len cap)(hl:ns.length=len)
  (hc:∀(j:Nat) (v:Value),(ns.map (Value.int .u8))[j]? =some v→w.cell? ⟨b,o+j,none⟩=some v):PV prog n w F ⟨d,.convert t t' x,ty,pos,aft,g⟩ (.string (kN ns)):=RO (zK ht).1 (Pz he) (wV yj) hx hl hc
end
theorem jG:prog.follows .mixedOrders=true:=O3
theorem TO:qI prog 24:=fun _ _=>O3
theorem A6:qI prog 59:=fun _ _=>O3
theorem zHf:qI prog 71:=fun _ _=>O3
theorem qH5:qI prog 83:=fun _ _=>O3
theorem jXe:qI prog 89:=fun _ _=>O3
theorem qMx:qI prog 103:=fun _ _=>O3
theorem Py:qI prog 132:=fun _ _=>O3
theorem jSs:qI prog 151:=fun _ _=>O3
theorem RI:qI prog 153:=fun _ _=>O3
theorem jGy:qI prog 155:=fun _ _=>O3
theorem SU:qI prog 159:=fun _ _=>O3
theorem jSj:qI prog 174:=fun _ _=>O3
theorem jSi:qI prog 175:=fun _ _=>O3
theorem zFo:qI prog 183:=fun _ _=>O3
theorem jSb:qI prog 195:=fun _ _=>O3
theorem jS5:qI prog 202:=fun _ _=>O3
theorem qEf:qI prog 209:=fun _ _=>O3
theorem jRw:qI prog 222:=fun _ _=>O3
theorem jGi:qI prog 233:=fun _ _=>O3
theorem zFd:qI prog 264:=fun _ _=>O3
theorem jR7:qI prog 280:=fun _ _=>O3
theorem jR6:qI prog 281:=fun _ _=>O3
theorem jR4:qI prog 283:=fun _ _=>O3
theorem jG6:qI prog 284:=fun _ _=>O3
theorem qRh:qI prog 290:=fun _ _=>O3
theorem jG3:qI prog 293:=fun _ _=>O3
theorem jR2:qI prog 294:=fun _ _=>O3
theorem qWg:qI prog 302:=fun _ _=>O3
theorem jQz:qI prog 303:=fun _ _=>O3
theorem jQy:qI prog 304:=fun _ _=>O3
theorem zEq:qI prog 307:=fun _ _=>O3
theorem jQp:qI prog 324:=fun _ _=>O3
theorem zEa:qI prog 348:=fun _ _=>O3
theorem jQg:qI prog 349:=fun _ _=>O3
theorem zE9:qI prog 350:=fun _ _=>O3
theorem jQf:qI prog 351:=fun _ _=>O3
theorem jQe:qI prog 353:=fun _ _=>O3
theorem jQd:qI prog 354:=fun _ _=>O3
theorem jQc:qI prog 355:=fun _ _=>O3
variable{G p:Prop}{K:World→Prop}{d:Nat}{z:Int}
theorem Jk(h:p:=by first|exact O|exact jP O O7|assumption|exact hp.J 0 O O|exact hp.J 1 O O|exact hp.J 2 O O|exact hp.J 3 O O|exact hp.j2 0 O O|exact hp.j2 1 O O|exact hp.j2 2 O O|exact hp.j2 3 O O|exact hp.j3 O7|exact hp.J 4 O O|exact hp.J 5 O O|exact hp.J 6 O O|exact hp.J 7 O O|exact hp.j2 4 O O|exact hp.j2 5 O O|exact hp.j2 6 O O|exact hp.j2 7 O O):p:=h
theorem Jj(h:p:=by first|exact jD hp 0 O O O O (qD O) O|exact xM hp 0 O O O O (qD O) O|exact qW hp 0 O O O O (qD O) O|exact zU hp 0 O O O O (qD O) O|exact xC hp 0 O O O O (qD O) O|exact jD hp 1 O O O O (qD O) O|exact xM hp 1 O O O O (qD O) O|exact qW hp 1 O O O O (qD O) O|exact zU hp 1 O O O O (qD O) O|exact xC hp 1 O O O O (qD O) O):p:=h
theorem Ha(h:p:=by intros;(first|exact fI O|exact fB O|exact fP O|exact fS O|exact fT O|exact Qv O|exact Qu O|exact Qt O|exact Qs O|exact fF O|exact Qx O|exact DF O|exact KY O|exact ON O|exact fM O|exact fU O|exact jP O O7|exact fL O|exact O)):p:=h
theorem T5(h:p:=by intros;((first|apply qP|apply qY|apply xF|(apply qS;exact O)|(apply vO;exact O)|(apply GZ;exact O)|(apply uZ;exact O)|exact H8 O|exact HZ O|exact kL O O|exact yT O O|exact HV O O O|exact HP O O O|apply zQ|apply uG|apply xJ|apply vE|(apply zW;(first|exact O|exact jP O O7))|(apply kB;(first|exact O|exact jP O O7))|apply Gt|apply HW|apply yU|apply kY|apply kA|(apply zA;exact O)|apply zY|exact kD O O O O7|exact vB O O O|exact kC O O O|apply zX|(apply uI;exact O)|exact H7 (jP O O7) O O7 O|exact HY (jP O O7) O O7 O|exact H6 O O|exact HX O O|(apply xV;(first|exact O|exact jP O O7))|(apply H9;(first|exact O|exact jP O O7))|apply yH|(apply jS;exact O))<;>exact Jk)):p:=h
theorem Ji(h:p:=by first|exact uS hp O O|exact wY hp O|exact TR hp O|exact qDh hp O|exact zO hp O|exact zT hp (qJ O) O|exact wZ hp (qJ O)|exact jK hp (qJ O)|exact vA hp (qJ O)|exact kP hp (qJ O)):p:=h
structure Kx(K:Prop):Prop where
 x:K
theorem jM{K:Prop}(k:K)(h:Kx K→G:=by intro k;((first|apply ke|(apply M9;rfl;exact O)|(apply Qn;rfl;exact O));exact T5;exact Ha);exact k.x):G:=h ⟨k⟩
theorem qA{K:Prop}(k:K)(h:Kx K→G:=by intro k;(repeat(first|(with_reducible first|apply I4|apply Kv|apply Ky|apply I3|apply I6|apply Kc|apply KC|apply KA|apply KG|apply JZ|apply J6|apply Km|apply Kp|apply Kq|apply KP|apply Kd)|((with_reducible apply KF);exact O)|((with_reducible apply wN);exact O)|((first|apply ke|(apply M9;rfl;exact O)|(apply Qn;rfl;exact O));exact T5;exact Ha)));exact k.x):G:=h ⟨k⟩
theorem qR{K:Prop}(k:K)(h:Kx K→G:=by intro k;(repeat(first|(with_reducible first|apply I4|apply Kv|apply Ky|apply I3|apply I6|apply Kc|apply KC|apply KA|apply KG|apply JZ|apply J6|apply Km|apply Kp|apply Kq|apply KP|apply Kd)|((with_reducible apply KF);exact O)|((with_reducible apply wN);exact O)));exact k.x):G:=h ⟨k⟩
theorem qX{K:Prop}(k:K)(h:Kx K→G:=by intro k;(repeat((first|(apply kp;exact O)|(apply Lg;rfl;rfl;exact O)|(apply jUy;rfl;rfl;exact O));(intro w hp;intros;((first|apply qP|apply qY|apply xF|(apply qS;exact O)|(apply vO;exact O)|(apply GZ;exact O)|(apply uZ;exact O)|exact H8 O|exact HZ O|exact kL O O|exact yT O O|exact HV O O O|exact HP O O O|apply zQ|apply uG|apply xJ|apply vE|(apply zW;(first|exact O|exact jP O O7))|(apply kB;(first|exact O|exact jP O O7))|apply Gt|apply HW|apply yU|apply kY|apply kA|(apply zA;exact O)|apply zY|exact kD O O O O7|exact vB O O O|exact kC O O O|apply zX|(apply uI;exact O)|exact H7 (jP O O7) O O7 O|exact HY (jP O O7) O O7 O|exact H6 O O|exact HX O O|(apply xV;(first|exact O|exact jP O O7))|(apply H9;(first|exact O|exact jP O O7))|apply yH|(apply jS;exact O))<;>exact Jk));exact Ha));exact k.x):G:=h ⟨k⟩
theorem jL{K:Prop}(k:K)(h:Kx K→G:=by intro k;(repeat(first|(with_reducible first|apply I4|apply Kv|apply Ky|apply I3|apply I6|apply Kc|apply KC|apply KA|apply KG|apply JZ|apply J6|apply Km|apply Kp|apply Kq|apply KP|apply Kd)|((with_reducible apply KF);exact O)|((with_reducible apply wN);exact O)|(apply ke;exact T5;exact Ha)|((apply vX;rfl;exact O);(((first|apply qP|apply qY|apply xF|(apply qS;exact O)|(apply vO;exact O)|(apply GZ;exact O)|(apply uZ;exact O)|exact H8 O|exact HZ O|exact kL O O|exact yT O O|exact HV O O O|exact HP O O O|apply zQ|apply uG|apply xJ|apply vE|(apply zW;(first|exact O|exact jP O O7))|(apply kB;(first|exact O|exact jP O O7))|apply Gt|apply HW|apply yU|apply kY|apply kA|(apply zA;exact O)|apply zY|exact kD O O O O7|exact vB O O O|exact kC O O O|apply zX|(apply uI;exact O)|exact H7 (jP O O7) O O7 O|exact HY (jP O O7) O O7 O|exact H6 O O|exact HX O O|(apply xV;(first|exact O|exact jP O O7))|(apply H9;(first|exact O|exact jP O O7))|apply yH|(apply jS;exact O))<;>exact Jk));exact Ha)|(apply jZ8;rfl;rfl;exact O)|(apply jZ7;rfl;exact O)));exact k.x):G:=h ⟨k⟩
theorem xA{K:Prop}(k:K)(h:Kx K→G:=by intro k;(repeat(first|((apply kp;exact O);(intro w hp;intros;((first|apply qP|apply qY|apply xF|(apply qS;exact O)|(apply vO;exact O)|(apply GZ;exact O)|(apply uZ;exact O)|exact H8 O|exact HZ O|exact kL O O|exact yT O O|exact HV O O O|exact HP O O O|apply zQ|apply uG|apply xJ|apply vE|(apply zW;(first|exact O|exact jP O O7))|(apply kB;(first|exact O|exact jP O O7))|apply Gt|apply HW|apply yU|apply kY|apply kA|(apply zA;exact O)|apply zY|exact kD O O O O7|exact vB O O O|exact kC O O O|apply zX|(apply uI;exact O)|exact H7 (jP O O7) O O7 O|exact HY (jP O O7) O O7 O|exact H6 O O|exact HX O O|(apply xV;(first|exact O|exact jP O O7))|(apply H9;(first|exact O|exact jP O O7))|apply yH|(apply jS;exact O))<;>exact Jk));exact Ha)|((apply yG;rfl;rfl;exact O);(intro w hp;((first|apply qP|apply qY|apply xF|(apply qS;exact O)|(apply vO;exact O)|(apply GZ;exact O)|(apply uZ;exact O)|exact H8 O|exact HZ O|exact kL O O|exact yT O O|exact HV O O O|exact HP O O O|apply zQ|apply uG|apply xJ|apply vE|(apply zW;(first|exact O|exact jP O O7))|(apply kB;(first|exact O|exact jP O O7))|apply Gt|apply HW|apply yU|apply kY|apply kA|(apply zA;exact O)|apply zY|exact kD O O O O7|exact vB O O O|exact kC O O O|apply zX|(apply uI;exact O)|exact H7 (jP O O7) O O7 O|exact HY (jP O O7) O O7 O|exact H6 O O|exact HX O O|(apply xV;(first|exact O|exact jP O O7))|(apply H9;(first|exact O|exact jP O O7))|apply yH|(apply jS;exact O))<;>exact Jk));exact Ha)|(apply jZe;rfl;rfl;rfl;exact O)|(apply jZd;rfl;rfl;exact O)));exact k.x):G:=h ⟨k⟩
theorem jZb{K:Prop}(k:K)(h:Kx K→G:=by intro k;(repeat(first|(with_reducible first|apply I4|apply Kv|apply Ky|apply I3|apply I6|apply Kc|apply KC|apply KA|apply KG|apply JZ|apply J6|apply Km|apply Kp|apply Kq|apply KP|apply Kd)|((with_reducible apply KF);exact O)|((with_reducible apply wN);exact O)|(apply ke;(first|exact qY|exact qP);exact O)));exact k.x):G:=h ⟨k⟩
theorem zP{K:Prop}(k:K)(h:Kx K→G:=by intro k;(repeat((apply C8;rfl;exact O);(intro w hp;intros;((first|apply qP|apply qY|apply xF|(apply qS;exact O)|(apply vO;exact O)|(apply GZ;exact O)|(apply uZ;exact O)|exact H8 O|exact HZ O|exact kL O O|exact yT O O|exact HV O O O|exact HP O O O|apply zQ|apply uG|apply xJ|apply vE|(apply zW;(first|exact O|exact jP O O7))|(apply kB;(first|exact O|exact jP O O7))|apply Gt|apply HW|apply yU|apply kY|apply kA|(apply zA;exact O)|apply zY|exact kD O O O O7|exact vB O O O|exact kC O O O|apply zX|(apply uI;exact O)|exact H7 (jP O O7) O O7 O|exact HY (jP O O7) O O7 O|exact H6 O O|exact HX O O|(apply xV;(first|exact O|exact jP O O7))|(apply H9;(first|exact O|exact jP O O7))|apply yH|(apply jS;exact O))<;>exact Jk));exact Ha));exact k.x):G:=h ⟨k⟩
theorem BT{K:Prop}(k:K)(h:Kx K→G:=by intro k;((apply vX;rfl;exact O);(((first|apply qP|apply qY|apply xF|(apply qS;exact O)|(apply vO;exact O)|(apply GZ;exact O)|(apply uZ;exact O)|exact H8 O|exact HZ O|exact kL O O|exact yT O O|exact HV O O O|exact HP O O O|apply zQ|apply uG|apply xJ|apply vE|(apply zW;(first|exact O|exact jP O O7))|(apply kB;(first|exact O|exact jP O O7))|apply Gt|apply HW|apply yU|apply kY|apply kA|(apply zA;exact O)|apply zY|exact kD O O O O7|exact vB O O O|exact kC O O O|apply zX|(apply uI;exact O)|exact H7 (jP O O7) O O7 O|exact HY (jP O O7) O O7 O|exact H6 O O|exact HX O O|(apply xV;(first|exact O|exact jP O O7))|(apply H9;(first|exact O|exact jP O O7))|apply yH|(apply jS;exact O))<;>exact Jk));exact Ha);exact k.x):G:=h ⟨k⟩
theorem IW{K:Prop}(k:K)(h:Kx K→G:=by intro k;(first|(with_reducible first|apply I4|apply Kv|apply Ky|apply I3|apply I6|apply Kc|apply KC|apply KA|apply KG|apply JZ|apply J6|apply Km|apply Kp|apply Kq|apply KP|apply Kd)|((with_reducible apply KF);exact O)|((with_reducible apply wN);exact O));exact k.x):G:=h ⟨k⟩
theorem Cc{L}(k:∀w,Hp w0 M w L→K w)(h:Kx (∀w,Hp w0 M w L→K w)→G:=by intro k;(repeat first|refine IW ?_|refine jM ?_|(apply jI;exact Jj;rintro _ w ⟨rfl,hp⟩));exact k.x w hp):G:=h ⟨k⟩
theorem vK{L:Nat→List kr}{K:World→Nat→Prop}(k:∀w b,Hp w0 M w (L b)→K w b)(h:Kx (∀w b,Hp w0 M w (L b)→K w b)→G:=by intro k;(repeat first|refine IW ?_|refine jM ?_|(apply jI;exact Jj;rintro _ w ⟨rfl,hp⟩)|(apply Ax;exact Ji;rintro _ w ⟨b,rfl,hp⟩));exact k.x w b hp):G:=h ⟨k⟩
theorem GM{L:Nat→Nat→List kr}{K:World→Nat→Nat→Prop}(k:∀w b1 b,Hp w0 M w (L b1 b)→K w b1 b)(h:Kx (∀w b1 b,Hp w0 M w (L b1 b)→K w b1 b)→G:=by intro k;(repeat first|refine IW ?_|refine jM ?_|(apply jI;exact Jj;rintro _ w ⟨rfl,hp⟩));(apply Ax;exact Ji;rintro _ w ⟨b1,rfl,hp⟩);(repeat first|refine IW ?_|refine jM ?_|(apply jI;exact Jj;rintro _ w ⟨rfl,hp⟩)|(apply Ax;exact Ji;rintro _ w ⟨b,rfl,hp⟩));exact k.x w b1 b hp):G:=h ⟨k⟩
theorem Mv{L:Nat→Nat→Nat→List kr}{K:World→Nat→Nat→Nat→Prop}(k:∀w b1 b2 b,Hp w0 M w (L b1 b2 b)→K w b1 b2 b)(h:Kx (∀w b1 b2 b,Hp w0 M w (L b1 b2 b)→K w b1 b2 b)→G:=by intro k;(repeat first|refine IW ?_|refine jM ?_|(apply jI;exact Jj;rintro _ w ⟨rfl,hp⟩));(apply Ax;exact Ji;rintro _ w ⟨b1,rfl,hp⟩);(repeat first|refine IW ?_|refine jM ?_|(apply jI;exact Jj;rintro _ w ⟨rfl,hp⟩));(apply Ax;exact Ji;rintro _ w ⟨b2,rfl,hp⟩);(repeat first|refine IW ?_|refine jM ?_|(apply jI;exact Jj;rintro _ w ⟨rfl,hp⟩)|(apply Ax;exact Ji;rintro _ w ⟨b,rfl,hp⟩));exact k.x w b1 b2 b hp):G:=h ⟨k⟩
structure Kn(b:Nat):Prop where
 x:True
theorem Kn.e(_:Kn b)(h:z=(b:Int)):Iv z=Iv (b:Int):=by rw[h]
theorem tU{f}(h:qI P f:=by exact fun _ _=>O3):qI P f:=h
theorem tK{A K:Prop}(a:A)(k:K)(h:A→Kx K→G:=by intro a k;(first|apply Ax|(apply Ag;exact O)|(apply Au;exact O)|(apply uR;rfl;exact O)|(apply LX;rfl;rfl;exact O)|apply jI);exact qC O tU O a;exact k.x):G:=h a ⟨k⟩
theorem tL{A K:Prop}(a:A)(k:K)(h:A→Kx K→G:=by intro a k;refine qA ?_;apply Ax;exact qC O tU O a;exact k.x):G:=h a ⟨k⟩
theorem tC{A:Prop}{L}(a:A)(k:∀w,Hp w0 M w L→K w)(h:A→Kx (∀w,Hp w0 M w L→K w)→G:=by intro a k;refine tK a ?_;rintro _ w ⟨rfl,hk⟩;exact k.x w (hp.V hk)):G:=h a ⟨k⟩
theorem tD{A:Prop}{L}(a:A)(k:∀w,Hp w0 M w L→K w)(h:A→Kx (∀w,Hp w0 M w L→K w)→G:=by intro a k;refine qA ?_;refine tK a ?_;rintro _ w ⟨rfl,hk⟩;exact k.x w (hp.V hk)):G:=h a ⟨k⟩
theorem tE{A:Prop}{L}(a:A)(k:∀w,Hp w0 M w L→K w)(h:A→Kx (∀w,Hp w0 M w L→K w)→G:=by intro a k;refine jL ?_;refine tK a ?_;rintro _ w ⟨rfl,hk⟩;exact k.x w (hp.V hk)):G:=h a ⟨k⟩
theorem tG{A:Prop}{L}(a:A)(k:∀w,Hp w0 M w L→K w)(h:A→Kx (∀w,Hp w0 M w L→K w)→G:=by intro a k;refine tK a ?_;rintro _ w ⟨rfl,hk⟩;have hp:=hp.V hk;exact⟨by first|exact hp|exact hp.E|exact hp.Z,k.x w hp⟩):G:=h a ⟨k⟩
theorem tH{A:Prop}{L}(a:A)(k:∀w,Hp w0 M w L→K w)(h:A→Kx (∀w,Hp w0 M w L→K w)→G:=by intro a k;refine qX ?_;refine tG a k.x):G:=h a ⟨k⟩
theorem tA{K:Prop}(k:K)(h:Kx K→G:=by intro k;(first|apply ke|(apply kp;rfl;intro w hp)|(apply vX;rfl;exact O)|(apply yG;rfl;rfl;rfl;intro w hp));(first|exact qO O O|exact jN O O|exact vD O O);exact qF (qK O1 O1);exact k.x):G:=h ⟨k⟩
theorem tB{K:Prop}(k:K)(h:Kx K→G:=by intro k;refine qA ?_;refine tA k.x):G:=h ⟨k⟩
theorem tn{K:Prop}(n:Kn b)(k:Kx K)(h:Kn b→Kx K→G:=by intro n k;(first|apply ke|(apply kp;rfl;intro w hp)|(apply vX;rfl;exact O)|(apply yG;rfl;rfl;rfl;intro w hp));(first|exact qO O O|exact jN O O|exact vD O O);exact n.e (by rw[qK O1 O1];omega);exact k.x):G:=h n k
theorem tN{K:Prop}(b:Nat)(k:K)(h:Kn b→Kx K→G:=by intro n k;exact tn n k):G:=h ⟨trivial⟩ ⟨k⟩
theorem tM{K:Prop}(b:Nat)(k:K)(h:Kn b→Kx K→G:=by intro n k;refine qA ?_;exact tn n k):G:=h ⟨trivial⟩ ⟨k⟩
theorem tS{L}(k:∀w,Hp w0 M w L→K w)(h:Kx (∀w,Hp w0 M w L→K w)→G:=by intro k;(first|apply jI|(apply xH;rfl;exact O));(first|exact jD hp 0 O O O O (qD O) O|exact xM hp 0 O O O O (qD O) O|exact qW hp 0 O O O O (qD O) O|exact zU hp 0 O O O O (qD O) O|exact xC hp 0 O O O O (qD O) O|exact jD hp 1 O O O O (qD O) O|exact xM hp 1 O O O O (qD O) O|exact qW hp 1 O O O O (qD O) O|exact zU hp 1 O O O O (qD O) O|exact xC hp 1 O O O O (qD O) O|exact jD hp 2 O O O O (qD O) O|exact xM hp 2 O O O O (qD O) O|exact qW hp 2 O O O O (qD O) O|exact zU hp 2 O O O O (qD O) O|exact xC hp 2 O O O O (qD O) O|exact jD hp 3 O O O O (qD O) O|exact xM hp 3 O O O O (qD O) O|exact qW hp 3 O O O O (qD O) O|exact zU hp 3 O O O O (qD O) O|exact xC hp 3 O O O O (qD O) O|exact jD hp 4 O O O O (qD O) O|exact xM hp 4 O O O O (qD O) O|exact qW hp 4 O O O O (qD O) O|exact zU hp 4 O O O O (qD O) O|exact xC hp 4 O O O O (qD O) O|exact jD hp 5 O O O O (qD O) O|exact xM hp 5 O O O O (qD O) O|exact qW hp 5 O O O O (qD O) O|exact zU hp 5 O O O O (qD O) O|exact xC hp 5 O O O O (qD O) O);rintro _ w ⟨rfl,hp⟩;exact k.x w hp):G:=h ⟨k⟩
theorem tT{L}(k:∀w,Hp w0 M w L→K w)(h:Kx (∀w,Hp w0 M w L→K w)→G:=by intro k;refine qA ?_;refine tS k.x):G:=h ⟨k⟩
theorem tQ{L:Nat→List kr}{K:World→Nat→Prop}(k:∀w b,Hp w0 M w (L b)→K w b)(h:Kx (∀w b,Hp w0 M w (L b)→K w b)→G:=by intro k;apply Ax;exact Ji;rintro _ w ⟨b,rfl,hp⟩;exact k.x w b hp):G:=h ⟨k⟩
theorem tw0{P n c Q F w}(k:Hp w [] w []→WP P n c Q F w):WP P n c Q F w:=k Hp.start
theorem tW{A B H K:Prop}(a:A)(b:B)(k:H→K)(h:A→B→Kx (H→K)→G:=by intro a b k;refine km.j6 a O b O ?_;exact tw0 k.x):G:=h a b ⟨k⟩
theorem tI{q K1 K2:Prop}(a:p→K1)(b:q→K2)(h:Kx (p→K1)→Kx (q→K2)→G:=by intro a b;refine qA ?_;exact qH O a.x b.x):G:=h ⟨a⟩ ⟨b⟩
theorem tJ{K:Prop}(k:K)(h:Kx K→G:=by intro k;refine qN O ?_;refine qA ?_;exact k.x):G:=h ⟨k⟩
theorem tX{H K:Prop}(k:H→K)(h:Kx (H→K)→G:=by intro k;refine jW jG O3 (fun w'=>Hp _ _ w' _) hp.U ?_;exact k.x hp.U):G:=h ⟨k⟩
theorem tY{H K:Prop}(k:H→K)(h:Kx (H→K)→G:=by intro k;refine qA ?_;refine tX k.x):G:=h ⟨k⟩
theorem tZ{F'}(h:ka S F' F:=by repeat(first|exact ka.k7|exact ka.refl|refine ka.put O ?_|refine ka.q6 O ?_)):F'=Fr.k7 S F' F:=h.eq
theorem O5(h:p:=by first|exact tZ|exact qB tZ O|exact qB (qB tZ O) O|exact qB (qB (qB tZ O) O) O|exact qB (qB (qB (qB tZ O) O) O) O):p:=h
section
variable{Q:Exit→Fr→World→Prop}{rest:List Oper}{pos:String}{v:Value}
theorem tR(hp:PV P n w F ⟨some d,op,ty,pos,aft,none⟩ r)(h:kq P n ops rest Q (F.put d v) w)(hv:r=v:=by first|exact fI O|exact fB O|exact fP O|exact fS O|exact fT O|exact Qv O|exact Qu O|exact Qt O|exact Qs O|exact fF O|exact Qx O|exact DF O|exact KY O|exact ON O|exact fM O|exact fU O|exact O):kq P n ops (⟨some d,op,ty,pos,aft,none⟩::rest) Q F w:=ke hp hv h
theorem tP{G}(hp:∀w,G w→PV P n w F ⟨some d,op,ty,pos,aft,none⟩ r)(h:kn P n ops st G rest Q (F.put d v) w)(he:zC op=false:=by rfl)(hv:r=v:=by first|exact fI O|exact fB O|exact fP O|exact fS O|exact fT O|exact Qv O|exact Qu O|exact Qt O|exact Qs O|exact fF O|exact Qx O|exact DF O|exact KY O|exact ON O|exact fM O|exact fU O|exact O):kn P n ops st G (⟨some d,op,ty,pos,aft,none⟩::rest) Q F w:=kp he hp hv h
theorem tF{f:X→Value}{H:X→World→Prop}(hs:gx P n ⟨some d,op,ty,pos,aft,none⟩ F w (fun v w'=>∃b,v=f b∧H b w'))(h:∀w' b,H b w'→kq P n ops rest Q (F.put d (f b)) w'):kq P n ops (⟨some d,op,ty,pos,aft,none⟩::rest) Q F w:=Ax hs (by rintro _ w ⟨b,rfl,h'⟩;exact h w b h')
theorem AB{f:X→Y→Value}{H:X→Y→World→Prop}(hs:gx P n ⟨some d,op,ty,pos,aft,none⟩ F w (fun v w'=>∃b c,v=f b c∧H b c w'))(h:∀w' b c,H b c w'→kq P n ops rest Q (F.put d (f b c)) w'):kq P n ops (⟨some d,op,ty,pos,aft,none⟩::rest) Q F w:=Ax hs (by rintro _ w ⟨b,c,rfl,h'⟩;exact h w b c h')
theorem tO{V:Value}{H:World→Prop}(hs:gx P n ⟨none,op,ty,pos,aft,none⟩ F w (fun v w'=>v=V∧H w'))(h:∀w',H w'→kq P n ops rest Q F w'):kq P n ops (⟨none,op,ty,pos,aft,none⟩::rest) Q F w:=jI hs (by rintro _ w ⟨rfl,h'⟩;exact h w h')
end
theorem tV{K:Prop}(k:K)(h:Kx K→G:=by intro k;refine qA ?_;refine qM O O ?_;exact k.x):G:=h ⟨k⟩
abbrev Rt:=@km prog
abbrev Rk(f:FuncId)(l:List Value)(w:World)(V:Value):Prop:=km prog f l w (fun v w'=>v=V∧ax [] w w')
variable{K:Prop}
theorem Ae(k:K)(h:Kx K→G:=by intro zzk;refine tB ?_;refine qA ?_;exact zzk.x):G:=h ⟨k⟩
theorem AP(k:K)(h:Kx K→G:=by intro zzk;refine qR ?_;refine jM ?_;exact zzk.x):G:=h ⟨k⟩
theorem AL(k:K)(h:Kx K→G:=by intro zzk;refine qA ?_;refine tJ ?_;exact zzk.x):G:=h ⟨k⟩
theorem Ck(k:K)(h:Kx K→G:=by intro zzk;refine tM (i+1) ?_;refine qA ?_;exact zzk.x):G:=h ⟨k⟩
theorem EH(k:K)(h:Kx K→G:=by intro zzk;refine tJ ?_;refine tA ?_;refine qA ?_;exact zzk.x):G:=h ⟨k⟩
theorem Cj(k:K)(h:Kx K→G:=by intro zzk;refine AP ?_;refine jM ?_;exact zzk.x):G:=h ⟨k⟩
theorem KX(k:K)(h:Kx K→G:=by intro zzk;refine tM (k+1) ?_;refine qA ?_;exact zzk.x):G:=h ⟨k⟩
theorem Mz(k:K)(h:Kx K→G:=by intro zzk;refine AL ?_;refine tN (i+1) ?_;refine qA ?_;exact zzk.x):G:=h ⟨k⟩
theorem Fv(k:K)(h:Kx K→G:=by intro zzk;refine tM (j+1) ?_;refine qA ?_;exact zzk.x):G:=h ⟨k⟩
theorem KW(k:K)(h:Kx K→G:=by intro zzk;refine tJ ?_;refine tN (i+1+1) ?_;refine qA ?_;exact zzk.x):G:=h ⟨k⟩
theorem E0(k:K)(h:Kx K→G:=by intro zzk;refine jL ?_;refine tJ ?_;exact zzk.x):G:=h ⟨k⟩
theorem Hd(k:K)(h:Kx K→G:=by intro zzk;refine BT ?_;refine BT ?_;exact zzk.x):G:=h ⟨k⟩
theorem KV(k:K)(h:Kx K→G:=by intro zzk;refine qA ?_;refine tR (uU O O O1) ?_;exact zzk.x):G:=h ⟨k⟩
theorem Qr(k:K)(h:Kx K→G:=by intro zzk;refine qA ?_;refine tR (xP (b:=32) O O O2) ?_;refine Ae ?_;exact zzk.x):G:=h ⟨k⟩
theorem KU(k:K)(h:Kx K→G:=by intro zzk;refine zP ?_;refine zP ?_;exact zzk.x):G:=h ⟨k⟩
theorem Hc(k:K)(h:Kx K→G:=by intro zzk;refine Cj ?_;refine jM ?_;exact zzk.x):G:=h ⟨k⟩
theorem Qq(k:K)(h:Kx K→G:=by intro zzk;refine zP ?_;refine yZ ?_;exact zzk.x):G:=h ⟨k⟩
end Go.Eng
