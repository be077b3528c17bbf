/- Merged texts of ours; conditions are the hypotheses of each law. -/
import Derived.Test.YtplkndjlfkkjlaaGreatDoorP2
import Derived.Laws.Cover3
namespace Go.Eng
open List (range range' replicate)
open Go.Proofs.Tryz
set_option maxHeartbeats 4000000
variable{F:Fr}{P:Program}{a q:Rat}{aft:Array Edge}{b:Bool}{d:Option Tmp}{g:Option (Nat×Bool)}{j k n t t':Nat}{ty:TypeId}{w:World}{y:Operand}
section
def K4(s:Bool)(n d:Nat):Value:=.agg #[.bool s,.string (ki n),.string (ki d)]
def QV(q:Rat):Value:=K4 (Ac q) q.num.natAbs q.den
def eQ(q:Rat):List Value:=[.bool (Ac q),.string (ki q.num.natAbs),.string (ki q.den)]
theorem BQ.fn(h:BQ k q)(hk:k≤1000000000000):Fit q.num.natAbs:=Fit.of h.1 hk
theorem BQ.fd(h:BQ k q)(hk:k≤1000000000000):Fit q.den:=Fit.of h.2 hk
theorem wz(h:q.num.natAbs=0):Ac q=false:=by
 unfold Ac;grind
theorem jNc{s d}(hd:0<d):K4 (s&&decide (n/Nat.gcd n d≠0)) (n/Nat.gcd n d) (d/Nat.gcd n d)=QV (mkRat (sg s n) d):=by
 unfold QV;rw[jP6 hd,jEl hd,jEk hd]
theorem jMp(n):(!decide (ki n=⟨#[]⟩))=decide (n≠0):=by
 have h:=Kw n 0;rw[qI8] at h;grind
theorem Vr(n):decide (ki n=⟨#[]⟩)=decide (n=0):=by
 have h:=Kw n 0;exact h
attribute [local irreducible] PV gx kq kn WP km
attribute [local irreducible] Fit
theorem Nz(x w):Rk 40 [.string (ki x)] w (.bool true):=by
 have he:=Kw x 0;refine tW func40 ntmps40 fun hp=>?_;refine AP ?_;refine AP ?_;by_cases h0:x=0
 ·subst h0;exact Hb
 have⟨ha,hb⟩:=qKs h0;refine ke (xV O O) (qV (he.trans (aB h0))) (jM ?_);refine BT ?_;apply vX;rfl;rfl;exact zY (i:=0) O O O ha;exact fI O;apply vX;rfl;rfl;exact kB O O;exact qV (ndt hb);exact Hb
theorem zBg(s:Bool)(n d:Nat)(w:World)(hn:Fit n)(hd:Fit d)(sc:0<d)(hg:Nat.gcd n d=1)(hs:n=0→s=false):Rk 124 [K4 s n d] w (.bool true):=by
 have ha:=Kw n 0;refine tW func124 ntmps124 fun hp=>?_;refine vK fun w b hp=>?_
 refine tC (Nz n _) fun w1 hp=>?_;refine tE (Nz d _) fun w2 hp=>?_;refine jL ?_;refine qH O (fun h=>absurd (Ss (n:=0) h) O1) (fun _=>qR ?_);refine jM ?_;refine jM ?_;by_cases h0:n=0
 ·have ra:=hs h0;subst h0;subst ra;refine E0 ?_;refine tC (MC 0 d _ hn hd) fun w3 hp=>?_;rw[hg];exact nj
 refine ke (xV O O) (qV (ha.trans (aB h0))) (jL ?_);refine tJ ?_;refine tC (MC n d _ hn hd) fun w3 hp=>?_;rw[hg];exact nj
structure FQ(q:Rat):Prop where
 n:Fit q.num.natAbs
 d:Fit q.den
theorem BQ.fq(h:BQ k q)(hk:k≤1000000000000):FQ q:=⟨BQ.fn h hk,BQ.fd h hk⟩
theorem jMg(w:World)(h:FQ q):Rk 124 [QV q] w (.bool true):=zBg _ _ _ w h.n h.d q.den_pos q.reduced wz
theorem Ny(w)(h:FQ q):Rk 51 [QV q] w (.bool true):=by
 refine tW func51 ntmps51 fun hp=>?_;refine vK fun w b hp=>?_
 refine tC (jMg _ h) fun w1 hp=>?_;exact nj
theorem EO(w)(h:FQ q):Rk 80 [QV q] w (QV q):=by
 refine tW func80 ntmps80 fun hp=>?_;refine GM fun w _ b hp=>?_
 refine tC (jMg _ h) fun w1 hp=>?_;refine qA (qN O ?_);refine Cc fun w hp=>?_
 exact Ee
theorem JM(s n d w)(hn:Fit n)(hd:Fit d)(sc:0<d):Rk 41 [.bool s,.string (ki n),.string (ki d)] w (QV (mkRat (sg s n) d)):=by
 have il:=nC n sc;have ha:=hd.le (rT sc (lZ n d));rw[←jNc sc];refine tW func41 ntmps41 fun hp=>?_;refine vK fun w b hp=>?_
 refine tC (MC n d _ hn hd) fun w1 hp=>?_;refine tD (ME _ _ _ hn ha il) fun w2 hp=>?_;refine tD (ME _ _ _ hd ha il) fun w3 hp=>?_;cases s
 ·refine jL ?_;refine Cc fun w hp=>?_
  exact Ee
 refine Cc fun w hp=>?_
 exact zJ O O O O (hp.j2 0 O O) ⟨_,O,by rw[←jMp];rfl,hp.Z⟩
theorem jP5(q):K4 (!Ac q&&decide (q.num.natAbs≠0)) q.num.natAbs q.den=QV (-q):=by
 unfold QV;rw[jK2,YS,qYb]
theorem jVm(q w):Rk 242 [QV q] w (QV (-q)):=by
 rw[←jP5];unfold QV;generalize Ac q=s;generalize q.num.natAbs=n;generalize q.den=d;have hz:=jMp n;generalize decide (n≠0)=z at*
 refine tW func242 ntmps242 fun hp=>?_;cases s
 ·refine GM fun w _ b hp=>?_
  exact zJ O O O O (hp.j2 0 O O) ⟨_,O,by rw[←hz];rfl,hp.Z⟩
 refine GM fun w _ b hp=>?_
 refine jL ?_;refine Cc fun w hp=>?_
 exact Ee
theorem qQk{n pos x a}(ht:P.underlying t=some .bool)(hx:ev n F x= .bool a)(hy:ev n F y= .bool b):PV P n w F ⟨d,.binOp .eql t x y t',ty,pos,aft,g⟩ (.bool (a==b)):=by
 have h:=qRe (w:=w) (a:=a) (b:=b) ht;unfold PV;simp[execOp,hx,hy,eqGuard,binOp,h]
theorem R7(a b:Bool):(a==b)=decide (a=b):=O6
theorem jLk(a b:Bool):(a !=b)= !decide (a=b):=O6
theorem GO{a b}(h1:a<2^j)(h2:b<2^k)(hk:j+k≤1000000000000):Fit (a*b):=Fit.of (yD h1 h2) hk
theorem jW1{b}(w:World)(ha:BQ j a)(hb:BQ k b)(hk:j+k+1≤1000000000000):Rk 115 [QV a,QV b] w (QV (a+b)):=by
 have fa:=BQ.fq ha O1;have fb:=BQ.fq hb O1;have f1:=GO ha.1 hb.2 O1;have f2:=GO hb.1 ha.2 O1;have f3:=GO ha.2 hb.2 O1;have f4:=by
  have h1:=yD ha.1 hb.2;have h2:=yD hb.1 ha.2;rw[oT k j] at h2;exact Fit.of (PD h1 h2) O1
 have hd:=iP a.den_pos b.den_pos;have e1:=qK0 (a:=a) (b:=b);have e2:=TF (a:=a) (b:=b);have e3:=qIc (a:=a) (b:=b);unfold QV at*
 obtain⟨fg,fe⟩:=fa;obtain⟨ff,fc⟩:=fb;generalize hs:a+b=s at*
 generalize Ac a=sa at*
 generalize Ac b=sb at*
 generalize a.num.natAbs=na at*
 generalize b.num.natAbs=nb at*
 generalize a.den=da at*
 generalize b.den=db at*
 clear ha hb hs;refine tW func115 ntmps115 fun hp=>?_;refine Mv fun w _ _ b hp=>?_
 refine tX fun hp=>?_;refine tH (Bc na db _ fg fc) fun w1 hp=>?_;refine tH (Bc nb da _ ff fe) fun w2 hp=>?_;refine qX (qU ?_);refine tD (Bc da db _ fe fc) fun w3 hp=>?_;refine qA (ke (qQk underlying4 O O) (qV (R7 sa sb)) ?_);refine tI (fun h=>?_) fun h=>?_
 ·rw[e1 h];refine qA ?_;refine jU jG O3 (fun w'=>Hp _ _ w' _) hp.U ?_;have hp:=hp.U;refine tH (Eh _ _ _ f1 f2) fun w4 hp=>?_;refine tH (JM sa _ _ _ f4 f3 hd) fun w5 hp=>?_;refine tS fun w6 hp=>qU ?_;exact Jl
 refine tD (MD _ _ _ f1 f2) fun w4 hp=>?_;refine tI (fun h2=>?_) fun h2=>?_
 ·rw[e2 h h2];refine tD (JM sa (na*db-nb*da) _ _ (f1.le O1) f3 hd) fun w5 hp=>?_;refine Cc fun w hp=>?_
  exact Ee
 rw[e3 h O1];refine tD (MD _ _ _ f2 f1) fun w5 hp=>?_;refine tD (JM sb (nb*da-na*db) _ _ (f2.le O1) f3 hd) fun w6 hp=>?_;refine Cc fun w hp=>?_
 exact Ee
end
variable{p:Rat}
section
theorem jBe{a b}(ht:P.underlying t=some .string)(k):(Op.equalIn (k+1) t (.string a) (.string b)).run P w= .ok (decide (a=b)) w:=by
 unfold Op.equalIn;simp[jQ ht];exact TB a b
theorem OB(ha:(isAgg t).run prog w= .ok false w)(xs o v)(h:xs[o]? =some v):(part t xs o).run prog w= .ok v w:=by
 simp[part,ha,h]
theorem jX3(a a' b b' c c' w):(Op.equal 49 (.agg #[.bool a,.string b,.string c]) (.agg #[.bool a',.string b',.string c'])).run prog w= .ok ((a==a')&&(decide (b=b')&&decide (c=c'))) w:=by
 show(Op.equalIn (9998+1+1) 49 _ _).run _ w=_
 have h4:=fun(x y)=>qP5 (w:=w) (a:=x) (b:=y) underlying4 9998
 have ha:=fun(x y)=>jBe (w:=w) (a:=x) (b:=y) underlying34 9998
 have g4:(isAgg 4).run prog w= .ok false w:=O3;have g23:(isAgg 34).run prog w= .ok false w:=O3;have p0:=fun x (y z)=>OB g4 #[.bool x,.string y,.string z] 0 _ O
 have p1:=fun x (y z)=>OB g23 #[.bool x,.string y,.string z] 1 _ O
 have p2:=fun x (y z)=>OB g23 #[.bool x,.string y,.string z] 2 _ O
 rw[Op.equalIn];simp[p0,p1,p2,h4,ha];grind
theorem jD8(a b:Rat):((Ac a==Ac b)&&(decide (ki a.num.natAbs=ki b.num.natAbs)&&decide (ki a.den=ki b.den)))=decide (a=b):=by
 rw[Kw,Kw,R7];by_cases h:a=b
 ·grind
 rw[aB h];by_cases h1:Ac a=Ac b<;>by_cases h2:a.num.natAbs=b.num.natAbs<;>by_cases h3:a.den=b.den<;>simp[h1,h2,h3];refine h (Rat.ext ?_ h3);rw[Fm,Fm b,h1,h2]
theorem jOn{n pos x b}
  (hx:ev n F x=QV a) (hy:ev n F y=QV b):PV prog n w F ⟨d,.binOp .eql 49 x y t',ty,pos,aft,g⟩ (.bool (decide (a=b))):=by
 exact mBb
theorem RP{n pos x b}
  (hx:ev n F x=QV a) (hy:ev n F y=QV b):PV prog n w F ⟨d,.binOp .neq 49 x y t',ty,pos,aft,g⟩ (.bool (!decide (a=b))):=by
 exact mBb
attribute [local irreducible] PV gx kq kn WP km
attribute [local irreducible] Fit
theorem jVn(w)(h:FQ p):Rk 234 [QV p] w (QV (-p)):=by
 refine tW func234 ntmps234 fun hp=>?_;refine GM fun w _ b hp=>?_
 refine tC (EO _ h) fun w1 hp=>?_;refine tD (jVm p _) fun w2 hp=>?_;refine Cc fun w hp=>?_
 exact Ee
theorem Gb(w)(a6:BQ j p)(ha:BQ k q)(hk:j+k+1≤1000000000000):Rk 44 [QV p,QV q] w (QV (p+q)):=by
 refine tW func44 ntmps44 fun hp=>?_;refine Mv fun w _ _ b hp=>?_
 refine jU jG O3 (fun w'=>Hp _ _ w' _) hp.U ?_;have hp:=hp.U;refine tH (EO _ (BQ.fq a6 O1)) fun w1 hp=>?_;refine tH (EO _ (BQ.fq ha O1)) fun w2 hp=>?_;refine tH (jW1 _ a6 ha O1) fun w3 hp=>?_;refine tS fun w4 hp=>qU ?_;exact Jl
theorem HJ(w)(a6:BQ j p)(ha:BQ k q)(hk:j+k+1≤1000000000000):Rk 168 [QV p,QV q] w (QV (p-q)):=by
 rw[nR];refine tW func168 ntmps168 fun hp=>?_;refine Mv fun w _ _ b hp=>?_
 refine jU jG O3 (fun w'=>Hp _ _ w' _) hp.U ?_;have hp:=hp.U;refine tH (EO _ (BQ.fq a6 O1)) fun w1 hp=>?_;refine tH (EO _ (BQ.fq ha O1)) fun w2 hp=>?_;refine tH (jVm q _) fun w3 hp=>?_;refine tH (jW1 _ a6 ha.neg O1) fun w4 hp=>?_;refine tS fun w5 hp=>qU ?_;exact Jl
theorem Fh(w)(a6:BQ j p)(ha:BQ k q)(hk:j+k≤1000000000000):Rk 24 [QV p,QV q] w (QV (p*q)):=by
 have fa:=BQ.fq a6 O1;have fb:=BQ.fq ha O1;have f1:=GO a6.1 ha.1 hk;have f2:=GO a6.2 ha.2 hk;have hd:=iP p.den_pos q.den_pos;rw[jEj];refine tW func24 ntmps24 fun hp=>?_;refine Mv fun w _ _ b hp=>?_
 refine jU jG O3 (fun w'=>Hp _ _ w' _) hp.U ?_;have hp:=hp.U;refine tH (EO _ fa) fun w1 hp=>?_;refine tH (EO _ fb) fun w2 hp=>?_;refine tS fun w3 hp=>?_;refine tS fun w4 hp=>qU ?_;refine qA ?_;refine jU jG O3 (fun w'=>Hp _ _ w' _) hp.U ?_;have hp:=hp.U;refine qX (kp O (fun w hp=>GP underlying4 O O) O ?_);refine tH (Bc _ _ _ fa.n fb.n) fun w5 hp=>?_;refine tH (Bc _ _ _ fa.d fb.d) fun w6 hp=>?_;refine tH (JM _ _ _ _ f1 f2 hd) fun w7 hp=>?_;refine tS fun w8 hp=>qU ?_;exact Jl
end
section
theorem jOh(z:Int):QV (z:Rat)=K4 (decide (z<0)) z.natAbs 1:=O
theorem Sz{n pos x k a}(hx:ev n F x= .int k a):PV P n w F ⟨d,.unOp .neg t x,ty,pos,aft,g⟩ (.int k (k.wrap (-a))):=by
 unfold PV;simp[execOp,hx,Op.unary,Op.intArith]
theorem zCy(P Q:Prop)[Decidable P][Decidable Q]:IntKind.i64.wrap (-(if P then-1 else if Q then 0 else 1))= -(if P then-1 else if Q then 0 else 1):=by
 by_cases h:P
 ·simp only[h,if_true];rfl
 by_cases h2:Q<;>simp[h,h2,if_true]<;>rfl
attribute [local irreducible] PV gx kq kn WP km
attribute [local irreducible] Fit
theorem HG(w)(ha:BQ j p)(hq:BQ k q)(hh:q≠0)(hk:j+k≤1000000000000):Rk 237 [QV p,QV q] w (.tuple #[QV (p/q),.bool true]):=by
 have fa:=BQ.fq ha O1;have fb:=BQ.fq hq O1;have f1:=GO ha.1 hq.2 hk;have f2:=GO ha.2 hq.1 hk;have hn:=qSa hh;have hd:=iP p.den_pos hn;have he:=Vr q.num.natAbs;rw[jEh hh];refine tW func237 ntmps237 fun hp=>?_;refine Mv fun w _ _ b hp=>?_
 refine jU jG O3 (fun w'=>Hp _ _ w' _) hp.U ?_;have hp:=hp.U;refine tH (EO _ fa) fun w1 hp=>?_;refine tH (EO _ fb) fun w2 hp=>?_;refine tS fun w3 hp=>?_;refine tS fun w4 hp=>qU ?_;refine AP ?_;refine jM (ke (xV O O) (qV (he.trans (aB O1))) ?_);refine qR ?_;refine tJ ?_;refine jU jG O3 (fun w'=>Hp _ _ w' _) hp.U ?_;have hp:=hp.U;refine qX (kp O (fun w hp=>GP underlying4 O O) O ?_);refine tH (Bc _ _ _ fa.n fb.d) fun w5 hp=>?_;refine tH (Bc _ _ _ fa.d fb.n) fun w6 hp=>?_;refine tH (JM _ _ _ _ f1 f2 hd) fun w7 hp=>?_;refine tS fun w8 hp=>?_;(repeat(apply kp;exact O;(intro w hp;exact qY);exact O));refine qU (qA ?_);exact UA
theorem EA(w)(h:FQ q):Rk 52 [QV q] w (Iv (Bo q)):=by
 have he:=Vr q.num.natAbs;have hz:q=0↔q.num.natAbs=0:=by rw[←Rat.num_eq_zero];omega
 refine tW func52 ntmps52 fun hp=>?_;refine vK fun w b hp=>?_
 refine tC (EO _ h) fun w1 hp=>?_;refine tS fun w2 hp=>?_;refine AP ?_;refine jM (ke (xV O O) (qV he) ?_);refine tI (fun h0=>?_) fun h0=>?_
 ·rw[show Bo q=0 from if_pos (hz.2 h0)];exact nj
 have e0:¬q=0:=fun e=>h0 (hz.1 e)
 refine qA (xD O (fun h1=>?_) (fun h1=>?_))
 ·rw[show Bo q= -1 from(if_neg e0).trans (if_pos (RV.1 h1))];exact nj
 rw[show Bo q=1 from(if_neg e0).trans (if_neg (by have:=RU.1 h1;grind))];exact nj
theorem IM(w:World)(ha:BQ j p)(hq:BQ k q)(hk:j+k≤1000000000000):Rk 53 [QV p,QV q] w (Iv (wH p q)):=by
 have fa:=BQ.fq ha O1;have fb:=BQ.fq hq O1;have f1:=GO ha.1 hq.2 hk;have f2:=GO hq.1 ha.2 O1;have hd:=jHp (a:=p) (b:=q);have hs:=jHm (a:=p) (b:=q);refine tW func53 ntmps53 fun hp=>?_;refine GM fun w _ b hp=>?_
 refine jU jG O3 (fun w'=>Hp _ _ w' _) hp.U ?_;have hp:=hp.U;refine tH (EO _ fa) fun w1 hp=>?_;refine tH (EO _ fb) fun w2 hp=>?_;refine tS fun w3 hp=>?_;refine tS fun w4 hp=>qU ?_;have hp:=hp.I 0 (eQ q) O O;have hp:=hp.I 1 (eQ p) O O;refine qA (tR (jOn O O) ?_);refine tI (fun h=>?_) fun h=>?_
 ·rw[show wH p q=0 from(if_neg O6).trans (if_pos h)];exact nj
 refine qA (ke (GP underlying4 O O) (qV (jLk _ _)) ?_);refine qA (xI O (fun h1=>?_) (fun h1=>?_))
 ·rw[hd h1];refine qA (xD O (fun h2=>?_) (fun h2=>?_))
  ·rw[h2];exact nj
  rw[h2];exact nj
 rw[hs h1];refine tY fun hp=>?_;refine tH (Bc _ _ _ fa.n fb.d) fun w5 hp=>?_;refine tH (Bc _ _ _ fb.n fa.d) fun w6 hp=>?_;refine tH (BY _ _ _ f1 f2) fun w7 hp=>?_;refine qX (qU ?_);refine qA (xD O (fun h2=>?_) (fun h2=>?_))
 ·rw[h2];refine qA (ke (Sz O) (qF (zCy _ _)) ?_);exact nj
 rw[h2];exact nj
theorem zBh(w):Rk 120 [] w (QV 0):=by
 refine tW func120 ntmps120 fun hp=>?_;refine vK fun w b hp=>?_
 exact Ee
theorem GK(z w)(h1:-9223372036854775808<z)(h2:z≤9223372036854775807):Rk 25 [Iv z] w (QV (z:Rat)):=by
 rw[jOh];refine tW func25 ntmps25 fun hp=>?_;refine vK fun w b hp=>qH O (fun h=>?_) (fun h=>?_)
 ·have e1:(-(z+1)).toNat=z.natAbs-1:=O1;refine AP ?_;refine tA ?_;refine ke (Sz O) (qF (qK O1 O1)) (tC (Aw (-(z+1)) _ O1) fun w1 hp=>?_);rw[e1];refine tD (Eh (z.natAbs-1) 1 _ (Fit.small O1) (Fit.small O2)) fun w2 hp=>?_;rw[show z.natAbs-1+1=z.natAbs by omega,aD h];refine Cc fun w hp=>?_
  exact Ee
 have e1:z.toNat=z.natAbs:=O1;rw[aB h];refine tD (Aw z _ O1) fun w1 hp=>?_;rw[e1];refine Cc fun w hp=>?_
 exact Ee
theorem EP(n:Nat)(w:World)(h2:n≤9223372036854775807):Rk 25 [Iv (n:Int)] w (QV (n:Rat)):=GK n w O1 O1
theorem r9(s n d w)(hn:Fit n)(hd:Fit d)(sc:0<d):Rk 9 [.bool s,.string (ki n),.string (ki d)] w (.tuple #[QV (mkRat (sg s n) d),.bool true]):=by
 refine tW func9 ntmps9 fun hp=>?_;refine vK fun w b hp=>?_
 refine tC (Nz n _) fun w1 hp=>?_;refine tE (Nz d _) fun w2 hp=>?_;refine jL ?_;refine qH O (fun h=>absurd (Ss (n:=0) h) O1) (fun _=>tD (JM s n d _ hn hd sc) fun w3 hp=>?_);refine Cc fun w hp=>?_
 exact UA
end
variable{M:List Nat}{c i:Nat}{t:Tb}{w0:World}{α:Type}
def lm{α:Type}(n:Nat)(f:Nat→α):List α:=(range n).map f
section
variable{f g:Nat→α}
theorem qT:(lm n f).length=n:=by simp[lm]
theorem yI(h:i<n):(lm n f)[i]? =some (f i):=by simp[lm,h]
theorem jH(h:∀i,i<n→f i=g i):lm n f=lm n g:=lF fun i hi=>h i (aR.1 hi)
theorem vF(x:α):(lm n f).set i x=lm n (fun j=>if j=i then x else f j):=by
 apply dI;intro j;rw[gM,qT];by_cases zn:i=j
 ·subst zn;by_cases hi:i<n
  ·rw[if_pos O,if_pos hi,yI hi,if_pos O]
  rw[if_pos O,if_neg hi,bY (by rw[qT];omega)]
 rw[if_neg zn];by_cases hj:j<n
 ·rw[yI hj,yI hj,if_neg O1]
 rw[bY (by rw[qT];omega),bY (by rw[qT];omega)]
theorem kh:lm (n+1) f=lm n f++[f n]:=by simp[lm,eX]
end
structure TA where
 tb:Nat
 gB:Nat
 cB:Nat
 gN:Nat
 cN:Nat
 gC:Nat
 cC:Nat
 gR:Nat
 cR:Nat
 gG:Nat
 cG:Nat
 rg:Nat→Nat
 rc:Nat→Nat
def H4(p:Nat×Nat×Nat):List Value:=[.slice (some ⟨p.1,0,none⟩) p.2.1 p.2.2]
def Qm(a:TA)(t:Tb):List Value:=[.slice (some ⟨a.gB,0,none⟩) t.m a.cB,.slice (some ⟨a.gN,0,none⟩) t.n a.cN,.slice (some ⟨a.gC,0,none⟩) t.m a.cC,.slice (some ⟨a.gR,0,none⟩) t.m a.cR,.slice (some ⟨a.gG,0,none⟩) t.n a.cG]
def GU(a:TA)(t:Tb):List kr:=lm t.m (fun i=>qG eQ 49 3 (some ⟨a.rg i,0,none⟩) (a.rc i) (lm t.n (t.A i)))
def zB(a:TA)(t:Tb):List kr:=[bu a.tb 5 (qE (Qm a t)) 308,qG eI 3 1 (some ⟨a.gB,0,none⟩) a.cB (lm t.m t.B),qG eI 3 1 (some ⟨a.gN,0,none⟩) a.cN (lm t.n t.N),
 qG H4 43 1 (some ⟨a.gC,0,none⟩) a.cC (lm t.m fun i=>(a.rg i,t.n,a.rc i)),qG eQ 49 3 (some ⟨a.gR,0,none⟩) a.cR (lm t.m t.b),qG eQ 49 3 (some ⟨a.gG,0,none⟩) a.cG (lm t.n t.g)]++GU a t
structure qn(a:TA)(t:Tb):Prop where
 cB:t.m≤a.cB∧a.cB≤maxLen
 cN:t.n≤a.cN∧a.cN≤maxLen
 cC:t.m≤a.cC∧a.cC≤maxLen
 cR:t.m≤a.cR∧a.cR≤maxLen
 cG:t.n≤a.cG∧a.cG≤maxLen
 rc:∀i,i<t.m→t.n≤a.rc i∧a.rc i≤maxLen
theorem vZ{g:Nat}{f:Nat→α}(h:n≤c∧c≤maxLen):kg (Ad g) c (lm n f):=.inr ⟨g,c,by rw[qT],by rw[qT];omega,h.2⟩
theorem jT(q):(eQ q).length=3:=O
structure kw(a:TA)(t:Tb)(w:World):Prop where
 B:∀i,i<t.m→w.cell? ⟨a.gB,0+i*1,none⟩=some (Iv (t.B i))
 N:∀j,j<t.n→w.cell? ⟨a.gN,0+j*1,none⟩=some (Iv (t.N j))
 H:∀i,i<t.m→w.cell? ⟨a.gC,0+i*1,none⟩=some (.slice (some ⟨a.rg i,0,none⟩) t.n (a.rc i))
 b:∀i,i<t.m→∀k v,(eQ (t.b i))[k]? =some v→w.cell? ⟨a.gR,0+i*3+k,none⟩=some v
 g:∀j,j<t.n→∀k v,(eQ (t.g j))[k]? =some v→w.cell? ⟨a.gG,0+j*3+k,none⟩=some v
 A:∀i j,i<t.m→j<t.n→∀k v,(eQ (t.A i j))[k]? =some v→w.cell? ⟨a.rg i,0+j*3+k,none⟩=some v
section
variable{a:TA}
theorem J8{L}{enc:α→List Value}{e g:Nat}{f:Nat→α}(hp:Hp w0 M w L)(hm:qG enc e k (Ad g) c (lm n f)∈L)(hc:n≤c∧c≤maxLen)(hk:∀x,(enc x).length=k)(hi:i<n):
  ∀j v,(enc (f i))[j]? =some v→w.cell? ⟨g,0+i*k+j,none⟩=some v:=by
 have⟨b,o,hs,h⟩:=Jf hp hm (vZ hc) hk i (f i) (yI hi);grind
theorem kw.of(X)(hp:Hp w0 M w (X++zB a t))(ok:qn a t):kw a t w:=by
 have mem:∀{p:kr},p∈_→p∈X++zB a t:=aQ _
 refine⟨fun i hi=>?_,fun i hi=>?_,fun i hi=>?_,fun i hi=>?_,fun i hi=>?_,fun i j hi hj=>?_⟩
 ·exact J8 hp (mem (aG (i:=1) O)) ok.cB (fun _=>O) hi 0 _ O
 ·exact J8 hp (mem (aG (i:=2) O)) ok.cN (fun _=>O) hi 0 _ O
 ·exact J8 hp (mem (aG (i:=3) O)) ok.cC (fun _=>O) hi 0 _ O
 ·exact J8 hp (mem (aG (i:=4) O)) ok.cR jT hi
 ·exact J8 hp (mem (aG (i:=5) O)) ok.cG jT hi
 have hm:_∈zB a t:=aQ _ (bM.2 ⟨i,aR.2 hi,O⟩);exact J8 hp (mem hm) (ok.rc i hi) jT hj
end
def Tb.sA(t:Tb)(i j:Nat)(q:Rat):Tb:={t with A:=fun i' j'=>if i'=i then(if j'=j then q else t.A i' j') else t.A i' j'}
def Tb.sb(t:Tb)(i:Nat)(q:Rat):Tb:={t with b:=fun i'=>if i'=i then q else t.b i'}
def Tb.sg(t:Tb)(j:Nat)(q:Rat):Tb:={t with g:=fun j'=>if j'=j then q else t.g j'}
def Tb.sB(t:Tb)(i:Nat)(z:Int):Tb:={t with B:=fun i'=>if i'=i then z else t.B i'}
def Tb.sN(t:Tb)(j:Nat)(z:Int):Tb:={t with N:=fun j'=>if j'=j then z else t.N j'}
variable{a:TA}{n:ky}{z:Int}
section
variable{pos:String}{x:Operand}
theorem TD(X Y:List α)(k:Nat)(v:α):(X++Y).set (X.length+k) v=X++Y.set k v:=by
 simp
theorem Kb(X Y:List α)(k:Nat):(X++Y)[X.length+k]? =Y[k]?:=by
 grind
theorem Qk(X:List kr)(hp:Hp w0 M w (X++zB a t))(ok:qn a t)(hi:i<t.m)(hj:j<t.n)(hx:ev n F x= .pointer (some ⟨a.rg i,0+j*3,none⟩))(hy:ev n F y=QV q):
  gx prog n ⟨d,.store 49 x y,ty,pos,aft,g⟩ F w (fun u w'=>u=undef∧Hp w0 M w' (X++zB a (t.sA i j q))):=by
 have hL:(X++zB a t)[X.length+(i+6)]? =some (qG eQ 49 3 (some ⟨a.rg i,0,none⟩) (a.rc i) (lm t.n (t.A i))):=by
  rw[Kb];show(GU a t)[i]? =_
  exact yI hi
 refine gx.mono (vL eQ _ j q hp _ hL (vZ (ok.rc i hi)) (by rw[qT];exact hj) hx hy jT O O (qD O)) ?_;have e:(X++zB a t).set (X.length+(i+6)) (qG eQ 49 3 (some ⟨a.rg i,0,none⟩) (a.rc i) ((lm t.n (t.A i)).set j q))=X++zB a (t.sA i j q):=by
  rw[TD];congr 1;have e2:(GU a t).set i (qG eQ 49 3 (some ⟨a.rg i,0,none⟩) (a.rc i) ((lm t.n (t.A i)).set j q))=GU a (t.sA i j q):=?_
  ·show[_,_,_,_,_,_]++(GU a t).set i _=_
   rw[e2];rfl
  unfold GU;rw[vF];show lm t.m _=lm t.m _
  refine jH fun i' _=>?_
  simp only[Tb.sA];by_cases xt:i'=i
  ·rw[if_pos xt,vF,xt];simp
  simp[xt]
 grind
theorem jV4(X:List kr)(hp:Hp w0 M w (X++zB a t))(ok:qn a t)(hi:i<t.m)(hx:ev n F x= .pointer (some ⟨a.gR,0+i*3,none⟩))(hy:ev n F y=QV q):
  gx prog n ⟨d,.store 49 x y,ty,pos,aft,g⟩ F w (fun u w'=>u=undef∧Hp w0 M w' (X++zB a (t.sb i q))):=by
 have hL:(X++zB a t)[X.length+4]? =some (qG eQ 49 3 (some ⟨a.gR,0,none⟩) a.cR (lm t.m t.b)):=by
  rw[Kb];rfl
 refine gx.mono (vL eQ _ i q hp _ hL (vZ ok.cR) (by rw[qT];exact hi) hx hy jT O O (qD O)) ?_;exact P6
theorem Ql(X:List kr)(hp:Hp w0 M w (X++zB a t))(ok:qn a t)(hj:j<t.n)(hx:ev n F x= .pointer (some ⟨a.gG,0+j*3,none⟩))(hy:ev n F y=QV q):
  gx prog n ⟨d,.store 49 x y,ty,pos,aft,g⟩ F w (fun u w'=>u=undef∧Hp w0 M w' (X++zB a (t.sg j q))):=by
 have hL:(X++zB a t)[X.length+5]? =some (qG eQ 49 3 (some ⟨a.gG,0,none⟩) a.cG (lm t.n t.g)):=by
  rw[Kb];rfl
 refine gx.mono (vL eQ _ j q hp _ hL (vZ ok.cG) (by rw[qT];exact hj) hx hy jT O O (qD O)) ?_;exact P6
theorem jZh(X:List kr)(hp:Hp w0 M w (X++zB a t))(ok:qn a t)(hi:i<t.m)(hx:ev n F x= .pointer (some ⟨a.gB,0+i*1,none⟩))(hy:ev n F y=Iv z):
  gx prog n ⟨d,.store 3 x y,ty,pos,aft,g⟩ F w (fun u w'=>u=undef∧Hp w0 M w' (X++zB a (t.sB i z))):=by
 have hL:(X++zB a t)[X.length+1]? =some (qG eI 3 1 (some ⟨a.gB,0,none⟩) a.cB (lm t.m t.B)):=by
  rw[Kb];rfl
 refine gx.mono (zL eI _ i z hp _ hL (vZ ok.cB) (by rw[qT];exact hi) hx hy (fun _=>O) O O (qD O)) ?_;exact P6
theorem jZg(X:List kr)(hp:Hp w0 M w (X++zB a t))(ok:qn a t)(hj:j<t.n)(hx:ev n F x= .pointer (some ⟨a.gN,0+j*1,none⟩))(hy:ev n F y=Iv z):
  gx prog n ⟨d,.store 3 x y,ty,pos,aft,g⟩ F w (fun u w'=>u=undef∧Hp w0 M w' (X++zB a (t.sN j z))):=by
 have hL:(X++zB a t)[X.length+2]? =some (qG eI 3 1 (some ⟨a.gN,0,none⟩) a.cN (lm t.n t.N)):=by
  rw[Kb];rfl
 refine gx.mono (zL eI _ j z hp _ hL (vZ ok.cN) (by rw[qT];exact hj) hx hy (fun _=>O) O O (qD O)) ?_;exact P6
end
section
structure Im(t:Tb)(κ:Nat):Prop where
 b:∀i,i<t.m→BQ κ (t.b i)
 A:∀i j,i<t.m→j<t.n→BQ κ (t.A i j)
 g:∀j,j<t.n→BQ κ (t.g j)
theorem HL:Bo q=0↔q=0:=by
 unfold Bo;grind
attribute [local irreducible] PV gx kq kn WP km
attribute [local irreducible] Fit
theorem Qj{l r}(w)(ha:BQ j p)(hq:BQ k q)(hr:BQ l r)(hk:j+(k+l)+1≤1000000000000):Rk 321 [QV p,QV q,QV r] w (QV (p-q*r)):=by
 have fq:=BQ.fq hq O1;have fr:=BQ.fq hr O1;refine tW func321 ntmps321 fun hp=>?_;(repeat(first|(with_reducible first|apply I4|apply Kv|apply Ky|apply I3|apply I6|apply Kc|apply KC|apply KA|apply KG|apply JZ|apply J6|apply Km|apply Kp|apply Kq|apply KP|apply Kd)|((with_reducible apply KF);exact O)|((with_reducible apply wN);exact O)|((first|apply ke|(apply M9;rfl;exact O)|(apply Qn;rfl;exact O));(intros;((first|apply qP|apply qY|apply xF|(apply qS;exact O)|(apply vO;exact O)|(apply GZ;exact O)|(apply uZ;exact O)|exact H8 O|exact HZ O|exact kL O O|exact yT O O|exact HV O O O|exact HP O O O|apply zQ|apply uG|apply xJ|apply vE|(apply zW;(first|exact O|exact jP O O7))|(apply kB;(first|exact O|exact jP O O7))|apply Gt|apply HW|apply yU|apply kY|apply kA|(apply zA;exact O)|apply zY|exact kD O O O O7|exact vB O O O|exact kC O O O|apply zX|(apply uI;exact O)|exact H7 (jP O O7) O O7 O|exact HY (jP O O7) O O7 O|exact H6 O O|exact HX O O|(apply xV;(first|exact O|exact jP O O7))|(apply H9;(first|exact O|exact jP O O7))|apply yH|(apply jS;exact O))<;>(first|exact O|exact jP O O7|assumption|exact hp.J 0 O O|exact hp.J 1 O O|exact hp.J 2 O O|exact hp.J 3 O O|exact hp.j2 0 O O|exact hp.j2 1 O O|exact hp.j2 2 O O|exact hp.j2 3 O O|exact hp.j3 O7|exact hp.J 4 O O|exact hp.J 5 O O|exact hp.J 6 O O|exact hp.J 7 O O|exact hp.j2 4 O O|exact hp.j2 5 O O|exact hp.j2 6 O O|exact hp.j2 7 O O)));(intros;(first|exact fI O|exact fB O|exact fP O|exact fS O|exact fT O|exact Qv O|exact Qu O|exact Qt O|exact Qs O|exact fF O|exact Qx O|exact DF O|exact KY O|exact ON O|exact fM O|exact fU O|exact jP O O7|exact fL O|exact O)))|(apply Ax;(first|exact uS hp O O|exact wY hp O|exact TR hp O|exact qDh hp O|exact zO hp O|exact zT hp (qJ O) O|exact wZ hp (qJ O)|exact jK hp (qJ O)|exact vA hp (qJ O)|exact kP hp (qJ O));rintro _ w ⟨b,rfl,hp⟩)|(apply jI;(first|exact jD hp 0 O O O O (qD O) O|exact xM hp 0 O O O O (qD O) O|exact qW hp 0 O O O O (qD O) O|exact zU hp 0 O O O O (qD O) O|exact xC hp 0 O O O O (qD O) O|exact jD hp 1 O O O O (qD O) O|exact xM hp 1 O O O O (qD O) O|exact qW hp 1 O O O O (qD O) O|exact zU hp 1 O O O O (qD O) O|exact xC hp 1 O O O O (qD O) O);rintro _ w ⟨rfl,hp⟩)));refine tC (EA _ fq) fun w1 hp=>?_;refine qR ?_;by_cases h0:q=0
 ·refine ke (zW O O) (qV (aD (HL.2 h0))) (jL ?_);refine jB O ?_;rw[show p-q*r=p by grind];refine Cc fun w hp=>?_
  exact Ee
 refine ke (zW O O) (qV (aB (fun e=>h0 (HL.1 e)))) (tE (EA _ fr) fun w2 hp=>?_);by_cases h1:r=0
 ·apply vX;rfl;rfl;exact zW O O;exact qV (aD (HL.2 h1));refine jL (jB O ?_);rw[show p-q*r=p by grind];refine Cc fun w hp=>?_
  exact Ee
 apply vX;rfl;rfl;exact zW O O;exact qV (aB (fun e=>h1 (HL.1 e)));refine E0 ?_;refine jU jG O3 (fun w'=>Hp _ _ w' _) hp.U ?_;have hp:=hp.U;refine tH (Fh _ hq hr O1) fun w3 hp=>?_;refine tH (HJ _ ha (hq.mul hr) O1) fun w4 hp=>?_;refine tS fun w5 hp=>qU ?_;exact Jl
end
variable{r:Nat}
theorem qn.cast{t'}(h:qn a t)(hm:t'.m=t.m)(hn:t'.n=t.n):qn a t':=
 ⟨by rw[hm];exact h.cB,by rw[hn];exact h.cN,by rw[hm];exact h.cC,by rw[hm];exact h.cR,by rw[hn];exact h.cG,fun i hi=>by rw[hn];exact h.rc i O1⟩
theorem NH(w):Rk 25 [Iv 1] w (QV 1):=GK 1 w O2 O2
theorem wM(w):Rk 25 [Iv 0] w (QV 0):=GK 0 w O2 O2
theorem YT(q):(!decide (Bo q=0))= !decide (q=0):=by
 congr 1;exact decide_eq_decide.2 HL
theorem Yz(q):decide (Bo q=0)=decide (q=0):=decide_eq_decide.2 HL
def Ib(t:Tb)(r e j:Nat):Rat:=if j=e then 1 else t.A r j
def Jh(t:Tb)(e i j:Nat):Rat:=if j=e then 0 else t.A i j
def DS(t:Tb)(r e k:Nat):Tb:={t with A:=fun i j=>if i=r then(if j<k then t.row r e j else Ib t r e j) else t.A i j}
def AN(t:Tb)(r e k:Nat):Tb:={t with A:=fun i j=>if i=r then t.row r e j else if i<k then(t.pv r e).A i j else t.A i j,b:=fun i=>if i=r∨i<k then(t.pv r e).b i else t.b i}
def Dy(t:Tb)(r e i k:Nat):Tb:={AN t r e i with A:=fun i' j=>if i'=i then(if j<k then(t.pv r e).A i j else Jh t e i j) else(AN t r e i).A i' j}
def Cf(t:Tb)(r e k:Nat):Tb:={t with A:=(t.pv r e).A,b:=(t.pv r e).b,g:=fun j=>if j<k then(t.pv r e).g j else if j=e then 0 else t.g j}
section
variable{e:Nat}
theorem jW6:t.sA r e 1=DS t r e 0:=by
 unfold Tb.sA DS Ib;grind
theorem Zx:(DS t r e k).A r k=Ib t r e k:=by simp[DS]
theorem jDp:(DS t r e k).sA r k (t.row r e k)=DS t r e (k+1):=by
 unfold Tb.sA DS;grind
theorem jDq(h:Ib t r e k=0):DS t r e k=DS t r e (k+1):=by
 unfold DS;congr 1;funext i j;by_cases hi:i=r
 ·subst hi;by_cases hj:j=k
  ·subst hj;have:t.row i e j=0:=by
    have h':=h;unfold Ib at h';unfold Tb.row;rw[h'];grind
   grind
  grind
 simp[hi]
end
structure Br(t t':Tb):Prop where
 m:t.m=t'.m
 n:t.n=t'.n
 B:∀i,i<t.m→t.B i=t'.B i
 N:∀j,j<t.n→t.N j=t'.N j
 A:∀i j,i<t.m→j<t.n→t.A i j=t'.A i j
 b:∀i,i<t.m→t.b i=t'.b i
 g:∀j,j<t.n→t.g j=t'.g j
theorem uF{t'}(h:Br t t'):zB a t=zB a t':=by
 have⟨hm,hn,hB,hN,hA,hb,hg⟩:=h;have e1:=jH hB;have e2:=jH hN;have e3:=jH hb;have e4:=jH hg;have e5:GU a t=GU a t':=by
  unfold GU;rw[←hm,←hn];exact jH fun i hi=>by rw[jH (fun j hj=>hA i j hi hj)]
 unfold zB Qm;grind
section
variable{e:Nat}
theorem zGq:Br ((DS t r e t.n).sb r (t.b r*(1/t.A r e))) (AN t r e 0):=by
 refine⟨O,O,fun _ _=>O,fun _ _=>O,fun i j _ hj=>?_,fun i _=>?_,fun _ _=>O⟩
 ·have hj:j<t.n:=hj;simp only[Tb.sb,DS,AN];grind
 simp only[Tb.sb,DS,AN];by_cases hi:i=r
 ·simp only[Tb.pv];grind
 grind
theorem jA2(h:i=r∨t.A i e=0):Br (AN t r e i) (AN t r e (i+1)):=by
 have key:i≠r→t.A i e=0→(∀j,(t.pv r e).A i j=t.A i j)∧(t.pv r e).b i=t.b i:=by
  intro hi h0;refine⟨fun j=>?_,?_⟩
  ·simp[Tb.pv];grind
  simp only[Tb.pv];rw[if_neg hi,h0];grind
 refine⟨O,O,fun _ _=>O,fun _ _=>O,fun i' j _ _=>?_,fun i' _=>?_,fun _ _=>O⟩
 ·simp[AN];grind
 simp[AN];grind
theorem jMk(hi:i≠r)(j):(AN t r e i).A i j=t.A i j:=by simp[AN,hi]
theorem jW5(hi:i≠r):(AN t r e i).b i=t.b i:=by simp[AN,hi]
theorem jMj(j):(AN t r e i).A r j=t.row r e j:=by simp[AN]
theorem jOs:(AN t r e i).b r=t.b r*(1/t.A r e):=by simp[AN,Tb.pv]
theorem zGp(hi:i≠r):Br ((AN t r e i).sA i e 0) (Dy t r e i 0):=by
 refine⟨O,O,fun _ _=>O,fun _ _=>O,fun i' j _ _=>?_,fun _ _=>O,fun _ _=>O⟩;simp only[Tb.sA,Dy,Jh];by_cases he:i'=i
 ·subst he;rw[if_pos O,if_pos O,if_neg (by omega:¬j<0),jMk hi]
 grind
theorem jOr:(Dy t r e i k).A i k=Jh t e i k:=by simp[Dy]
theorem jW3(hi:i≠r)(j):(Dy t r e i k).A r j=t.row r e j:=by
 simp[Dy];rw[if_neg O1,jMj]
theorem jW4(hi:i≠r):(Dy t r e i k).b i=t.b i:=jW5 hi
theorem jOq:(Dy t r e i k).b r=t.b r*(1/t.A r e):=jOs
theorem jJo(hi:i≠r)(j):Jh t e i j-t.A i e*t.row r e j=(t.pv r e).A i j:=by
 simp only[Tb.pv,Jh];grind
theorem jJl(hi:i≠r):t.b i-t.A i e*(t.b r*(1/t.A r e))=(t.pv r e).b i:=by
 simp only[Tb.pv];grind
theorem LW(j):t.row r e j=(t.pv r e).A r j:=by simp[Tb.pv]
theorem jDo:(Dy t r e i k).sA i k ((t.pv r e).A i k)=Dy t r e i (k+1):=by
 unfold Tb.sA Dy;grind
theorem zGo(hi:i≠r):Br ((Dy t r e i t.n).sb i ((t.pv r e).b i)) (AN t r e (i+1)):=by
 refine⟨O,O,fun _ _=>O,fun _ _=>O,fun i' j _ hj=>?_,fun i' _=>?_,fun _ _=>O⟩
 ·have hU:j<t.n:=hj;simp[Tb.sb,Dy];by_cases he:i'=i
  ·simp only[AN];grind
  simp[AN];grind
 simp[Tb.sb,Dy,AN];grind
theorem zGn(hr:r<t.m):Br ((AN t r e t.m).sg e 0) (Cf t r e 0):=by
 refine⟨O,O,fun _ _=>O,fun _ _=>O,fun i' j hi _=>?_,fun i' hi=>?_,fun j _=>?_⟩
 ·have hi:i'<t.m:=hi;simp[Tb.sg,AN,Cf];by_cases he:i'=r
  ·rw[if_pos he,he,LW]
  grind
 ·have hi:i'<t.m:=hi;simp only[Tb.sg,AN,Cf];grind
 simp only[Tb.sg,AN,Cf];simp
theorem jDn:(Cf t r e k).sg k ((t.pv r e).g k)=Cf t r e (k+1):=by
 unfold Tb.sg Cf;grind
theorem jOp:(Cf t r e k).g k=if k=e then 0 else t.g k:=by simp[Cf]
theorem jJk(j):(if j=e then 0 else t.g j)-t.g e*t.row r e j=(t.pv r e).g j:=O
theorem zGm:Br (((Cf t r e t.n).sB r (t.N e)).sN e (t.B r)) (t.pv r e):=by
 refine⟨O,O,fun _ _=>O,fun _ _=>O,fun _ _ _ _=>O,fun _ _=>O,fun j hj=>?_⟩;have hj:j<t.n:=hj;simp only[Tb.sB,Tb.sN,Cf];grind
end
section
attribute [local irreducible] PV gx kq kn WP km
attribute [local irreducible] Fit
theorem U8(a t)(r:Nat)(e:Nat)(κ M W)(ok:qn a t)(hr:r<t.m)(he:e<t.n)(hA:t.A r e≠0)(hb:Im t κ)(oc:Im (t.pv r e) κ)(hκ:3*κ+1≤1000000000000)(hg:1≤κ)(hm:t.m≤1000000)(hn:t.n≤1000000)(hp:Hp W M W (zB a t)):
  Rt 316 [.pointer (some ⟨a.tb,0,none⟩),Iv (r:Int),Iv (e:Int)] W (fun v w'=>v= .tuple #[]∧Hp W M w' (zB a (t.pv r e))):=by
 have hinv:BQ κ (1/t.A r e):=by
  have:=oc.A r e hr he;rw[←LW] at this;unfold Tb.row at this;rw[if_pos O] at this;have e1:(1:Rat)*(1/t.A r e)=1/t.A r e:=O6
  rwa[e1] at this
 refine km.j6 func316 O ntmps316 O ?_;have ta:=kw.of [] hp ok;have h1:=ta.H r hr;refine tD (NH _) fun w1 hp=>?_;refine vK fun w b hp=>?_
 have hp:=hp.I 0 (eQ 1) O O;refine EV (fun F' w'=>∃ib ob:Nat,CH F' [(0,.pointer (some ⟨a.tb,0,none⟩)),(1,Iv r),(2,Iv e),(6,.slice (some ⟨a.rg r,0,none⟩) t.n (a.rc r)),(7,.pointer (Ad ob)),(8,.pointer (Ad ib))]∧Hp W M w' ([bu ib 3 (qE (eQ (1/t.A r e))) 49,bu ob 3 (qE (eQ 1)) 49]++zB a t)) ?_ ?_
 ·refine HU true (List.range' 0 12) jG O3 O (fun w'=>Hp W M w' ([bu b 3 _ 49]++zB a t)) hp.U ?_;have hp:=hp.U;refine zP ?_;apply C8;rfl;rfl;intro w hp;exact qL O O O O ((kw.of _ hp ok).A r e hr he);exact DF O;refine BP 9 O O3 O O ?eA ?eB
  case' eA=>
   refine tG (HG _ (BQ.one hg) (hb.A r e hr he) hA O1) fun w hp=>?_;refine zP (xO O O3 ?_ O);apply Au;rfl;exact jK hp (qJ O);rintro _ w ⟨ib,rfl,hp⟩;refine⟨hp.E,?_⟩
  case' eB=>
   apply Au;rfl;exact jK hp (qJ O);rintro _ w ⟨ib,rfl,hp⟩;refine⟨hp.E,xO O O3 (tG (HG _ (BQ.one hg) (hb.A r e hr he) hA O1) fun w hp=>?_) O⟩;refine zP ?_
  all_goals
   refine xO O O3 ?_ O;apply FH;rfl;exact qW hp 0 O O O O (qD O) O;rintro _ w ⟨rfl,hp⟩;refine⟨hp.E,?_⟩;refine zP (yZ ?_);exact⟨_,_,⟨O,O,O,O,O,O,trivial⟩,hp⟩
 clear hp h1 ta;rintro F1 w2 ⟨ib,ob,hF,hp⟩;refine yL _ hF ?_;intro F0;clear hF;refine qA (tO (Qk _ hp ok hr he O O) fun w3 hp=>?_);rw[jW6] at hp;refine qA (qQ ([10]++List.range' 40 19) (fun(k:Nat) F=>F.put 40 (.int _ k)) (fun k w'=>k≤t.n∧Hp W M w' ([_,_]++zB a (DS t r e k))) (fun k=>t.n-k) 0 (qB (ka.eq .refl) O) ⟨O1,hp⟩ ?_);clear hp;rintro u k w4 ⟨hh,hp⟩;refine tI (fun h=>?_) fun h=>?_
 ·have hl:k<t.n:=O1;have oe:qn a (DS t r e k):=ok.cast O O;have hc:=(kw.of _ hp oe).A r k hr hl;rw[Zx] at hc;have hx:BQ κ (Ib t r e k):=by
   unfold Ib;split
   ·exact BQ.one hg
   exact hb.A r k hr hl
  have cY:Ib t r e k*_=t.row r e k:=O;refine qA (tR (qL O O O O hc) ?_);refine tC (EA _ (BQ.fq hx O1)) fun w5 hp=>ke (kB O O) (qV (YT _)) ?_;refine qA (xI O (fun h0=>?_) (fun h0=>?_))
  ·refine jU jG O3 (fun w'=>Hp W M w' _) hp.U ?_;have hp:=hp.U;refine qX ?_;refine tP (fun w hp=>qL O O O O (by have:=(kw.of _ hp oe).A r k hr hl;rw[Zx] at this;omega)) (tH (Fh _ hx hinv O1) fun w6 hp=>?_);refine qX ?_;apply xH;rfl;rfl;exact Qk _ hp oe hr hl O O;rintro _ w7 ⟨rfl,hp⟩;rw[cY,jDp] at hp;exact UH
  rw[jDq h0] at hp;exact Fp
 obtain rfl:k=t.n:=O1;refine qA ?_;refine yL [(0,.pointer _),(1,.int _ _),(2,.int _ e),(6,.slice _ _ _),(8,.pointer _)] ⟨O,O,O,O,O,trivial⟩ ?_;intro F2;have oe:qn a (DS t r e t.n):=ok.cast O O;refine jU jG O3 (fun w'=>Hp W M w' _) hp.U ?_;have hp:=hp.U;refine qX (tP (fun w hp=>qL (vs:=eQ (t.b r)) O O O O ((kw.of _ hp oe).b r hr)) ?_);refine tH (Fh _ (hb.b r hr) hinv O1) fun w6 hp=>?_;refine qX ?_;apply xH;rfl;rfl;exact jV4 _ hp oe hr O O;rintro _ w7 ⟨rfl,hp⟩;rw[uF zGq] at hp;refine qU (qA ?_);refine qQ ([11,12,13,14]++List.range' 79 63) (fun(i:Nat) F=>F.put 79 (.int _ i)) (fun i w'=>i≤t.m∧Hp W M w' ([_,_]++zB a (AN t r e i))) (fun i=>t.m-i) 0 (qB (ka.eq .refl) O) ⟨O1,hp⟩ ?_;clear hp;rintro u i w8 ⟨x6,hp⟩;refine tI (fun h=>?_) fun h=>?_
 ·have hl:i<t.m:=by
   have em:(AN t r e 0).m=t.m:=O;omega
  have od:qn a (AN t r e i):=ok.cast O O;have hH:=(kw.of _ hp od).H i hl;have hy:=(kw.of _ hp od).A i e hl he;by_cases ht:i=r
  ·
   subst ht;refine qA (tR (qL O O O O hy) ?_);refine tQ fun w b hp=>?_;refine tS fun w hp=>?_;refine AP ?_;refine jM (ke (zW O O) (qV (aD O)) ?_);refine jL (jB O ?_);have hp:=hp.E;rw[uF (jA2 O1)] at hp;exact If
  rw[jMk ht] at hy;have h3:=hb.A i e hl he;refine qA (tR (qL O O O O hy) ?_);refine tQ fun w b hp=>?_;refine tS fun w hp=>?_;have hp:=hp.I 0 (eQ _) O O;refine Cj ?_;refine ke (zW O O) (qV (aB O1)) (tE (EA _ (BQ.fq h3 O1)) fun w9 hp=>?_);by_cases h0:t.A i e=0
  ·apply vX;rfl;rfl;exact zW O O;exact qV ((Yz _).trans (aD h0));refine jL (jB O ?_);have hp:=hp.E;rw[uF (jA2 (.inr h0))] at hp;exact If
  apply vX;rfl;rfl;exact zW O O;exact qV ((Yz _).trans (aB h0));refine E0 ?_;refine tC (wM _) fun uy hp=>?_;refine qA (tO (Qk [_,_,_] hp od hl he O O) fun uz hp=>?_);rw[uF (zGp ht)] at hp;refine qA (qQ ([14]++List.range' 102 17) (fun(k:Nat) F=>F.put 102 (.int _ k)) (fun k w'=>k≤t.n∧Hp W M w' ([bu _ 3 _ 49]++[_,_]++zB a (Dy t r e i k))) (fun k=>t.n-k) 0 (qB (ka.eq .refl) O) ⟨O1,hp⟩ ?_);clear hp;rintro u2 k u0 ⟨hh,hp⟩;refine tI (fun h2=>?_) fun h2=>?_
  ·have hq:k<t.n:=by
    have em:(AN t r e i).n=t.n:=O;omega
   have oa:qn a (Dy t r e i k):=ok.cast O O;have hz:BQ κ (Jh t e i k):=by
    unfold Jh;split
    ·exact BQ.zero hg
    exact hb.A i k hl hq
   have hj:BQ κ (t.row r e k):=by
    rw[LW];exact oc.A r k hr hq
   refine qA ?_;refine jU jG O3 (fun w'=>Hp W M w' _) hp.U ?_;have hp:=hp.U;refine qX ?_;refine tP (fun w hp=>qL O O O O (by have:=(kw.of _ hp oa).A i k hl hq;rw[jOr] at this;omega)) (qX ?_);refine tP (fun w hp=>qL O O O O (by have:=(kw.of _ hp oa).A r k hr hq;rw[jW3 ht] at this;omega)) (tH (Qj _ hz h3 hj O1) fun u5 hp=>?_);refine qX ?_;apply xH;rfl;rfl;exact Qk [_,_,_] hp oa hl hq O O;rintro _ ha ⟨rfl,hp⟩;rw[jJo ht,jDo] at hp;exact UH
  obtain rfl:k=t.n:=by
   have em:(AN t r e i).n=t.n:=O;omega
  have oa:qn a (Dy t r e i t.n):=ok.cast O O;have ye:=by
   have:=oc.b r hr;simp only[Tb.pv,if_true] at this;exact this
  refine qA ?_;refine jU jG O3 (fun w'=>Hp W M w' _) hp.U ?_;have hp:=hp.U;refine qX ?_;refine tP (fun w hp=>qL O O O O (by have:=(kw.of _ hp oa).b i hl;rw[jW4 ht] at this;omega)) (qX ?_);refine tP (fun w hp=>qL O O O O (by have:=(kw.of _ hp oa).b r hr;rw[jOq] at this;omega)) (tH (Qj _ (hb.b i hl) h3 ye O1) fun u5 hp=>?_);refine qX ?_;apply xH;rfl;rfl;exact jV4 [_,_,_] hp oa hl O O;rintro _ ha ⟨rfl,hp⟩;rw[jJl ht,uF (zGo ht)] at hp;have hp:Hp W M _ (_++_):=hp.E;exact Mn
 obtain rfl:i=t.m:=by
  have em:(AN t r e 0).m=t.m:=O;omega
 have od:qn a (AN t r e t.m):=ok.cast O O;have il:=(kw.of _ hp od).g e he;have h3:=hb.g e he;refine qA (tR (qL (vs:=eQ (t.g e)) O O O O il) ?_);refine vK fun w b hp=>?_
 have hp:=hp.I 0 (eQ _) O O;refine jU jG O3 (fun w'=>Hp W M w' ([bu _ 3 _ 49]++[_,_]++zB a _)) hp.U ?_;have hp:=hp.U;refine tH (wM _) fun w9 hp=>?_;refine qX ?_;apply xH;rfl;rfl;exact Ql [_,_,_] hp od he O O;rintro _ uy ⟨rfl,hp⟩;rw[uF (zGn hr)] at hp;refine qU (qA ?_);refine qQ ([16]++List.range' 161 23) (fun(k:Nat) F=>F.put 161 (Iv (k:Int))) (fun k w'=>k≤t.n∧Hp W M w' ([bu _ 3 (qE (eQ (t.g e))) 49]++[_,_]++zB a (Cf t r e k))) (fun k=>t.n-k) 0 (qB (ka.eq .refl) O) ⟨bL _,hp⟩ ?_;clear hp;rintro u2 k u0 ⟨hh,hp⟩;refine tI (fun h2=>?_) fun h2=>?_
 ·have hq:k<t.n:=by
   have em:(Cf t r e 0).n=t.n:=O;omega
  have og:qn a (Cf t r e k):=ok.cast O O;have hz:BQ κ (if k=e then 0 else t.g k):=by
   split
   ·exact BQ.zero hg
   exact hb.g k hq
  have hj:BQ κ (t.row r e k):=by
   rw[LW];exact oc.A r k hr hq
  refine qA ?_;refine jU jG O3 (fun w'=>Hp W M w' _) hp.U ?_;have hp:=hp.U;refine qX ?_;refine tP (fun w hp=>qL (vs:=eQ (if k=e then 0 else t.g k)) O O O O (by have:=(kw.of _ hp og).g k hq;rw[jOp] at this;omega)) ?_;refine qX ?_;refine tP (fun w hp=>qL (vs:=eQ (t.row r e k)) O O O O (by have:=(kw.of _ hp og).A r k hr hq;rw[show(Cf t r e k).A r k=t.row r e k from(LW k).symm] at this;omega)) ?_;refine tH (Qj _ hz h3 hj O1) fun u5 hp=>?_;refine qX ?_;apply xH;rfl;rfl;exact Ql [_,_,_] hp og hq O O;rintro _ ha ⟨rfl,hp⟩;rw[jJk,jDn] at hp;exact UH
 obtain rfl:k=t.n:=by
  have em:(Cf t r e 0).n=t.n:=O;omega
 have og:qn a (Cf t r e t.n):=ok.cast O O;have oh:qn a ((Cf t r e t.n).sB r (t.N e)):=ok.cast O O;refine qA ?_;refine jU jG O3 (fun w'=>Hp W M w' _) hp.U ?_;have hp:=hp.U;refine qX ?_;refine tP (fun w hp=>qS O O ((kw.of [_,_,_] hp og).N e he)) (qX ?_);refine tP (fun w hp=>qS O O ((kw.of [_,_,_] hp og).B r hr)) (qX ?_);apply xH;rfl;rfl;exact jZh [_,_,_] hp og hr O O;rintro _ ha ⟨rfl,hp⟩;refine qX ?_;apply xH;rfl;rfl;exact jZg _ hp oh he O O;rintro _ u4 ⟨rfl,hp⟩;rw[show zB a (((Cf t r e _).sB r ((Cf t r e _).N e)).sN e ((Cf t r e _).B r))=zB a _ from uF zGm] at hp;refine qU ?_;exact xK O ⟨_,O,O,hp.E.E.E⟩
end
section
attribute [local irreducible] PV gx kq kn WP km Fit
section
variable{P:Nat→Bool}
theorem O8(i):(range (i+1)).filter P=(range i).filter P++if P i=true then[i] else[]:=by
 rw[eX,mO];grind
theorem qMs{n}(h:i<n)(hp:P i=true):∃qo,(range n).filter P=(range i).filter P++i::qo:=by
 have⟨qo,e⟩:=TH h;grind
theorem ZP{n x pre qo}(h:(range n).filter P=pre++x::qo):pre=(range x).filter P∧x<n∧P x=true:=by
 have⟨l1,l2,e1,e2,e3⟩:=List.filter_eq_append_iff.1 h;have⟨l3,l4,e4,e5,e6,e7⟩:=List.filter_eq_cons_iff.1 e3;rw[e4,←bU] at e1;have⟨h1,h2⟩:=Tu e1;refine⟨?_,h2,e6⟩;rw[←h1,mO,e2,List.filter_eq_nil_iff.2 (fun a ha=>O6),bO]
end
def Ih(t:Tb)(j:Nat):Bool:=decide (0<t.g j)
def Gw(t:Tb)(e i:Nat):Bool:=decide (0<t.A i e)
theorem Sj(q):decide ((0:Int)<Bo q)=decide (0<q):=by
 unfold Bo;grind
theorem YM(q):decide (Bo q≤(0:Int))= !decide (0<q):=by
 rw[←Sj];grind
structure BJ(a:TA)(t:Tb)(w:World):Prop where
 at':kw a t w
 hB:w.cell? ⟨a.tb,0,none⟩=some (.slice (some ⟨a.gB,0,none⟩) t.m a.cB)
 hN:w.cell? ⟨a.tb,1,none⟩=some (.slice (some ⟨a.gN,0,none⟩) t.n a.cN)
 hC:w.cell? ⟨a.tb,2,none⟩=some (.slice (some ⟨a.gC,0,none⟩) t.m a.cC)
 hR:w.cell? ⟨a.tb,3,none⟩=some (.slice (some ⟨a.gR,0,none⟩) t.m a.cR)
 hG:w.cell? ⟨a.tb,4,none⟩=some (.slice (some ⟨a.gG,0,none⟩) t.n a.cG)
structure El(a:TA)(t:Tb)(M:List Nat):Prop where
 tb:a.tb∉M
 gC:a.gC∉M
 gR:a.gR∉M
 gG:a.gG∉M
 rg:∀i,i<t.m→a.rg i∉M
theorem jZw(a t xb κ M U)(h1:U.cell? ⟨xb,0,none⟩=some (.pointer (some ⟨a.tb,0,none⟩)))(hT:BJ a t U)(hm:El a t M)(hb:∀j,j<t.n→BQ κ (t.g j))(hκ:κ≤1000000000000)(hn:t.n≤1000000)
  (au:xb∉M) (av:∀k∈M,k<U.heap.size):
  It prog 354 [.pointer (Ad xb)] (fun i:Nat=>Iv (i:Int)) ((range t.n).filter (Ih t)) M U:=by
 intro ll J rh an hY hJ ap;have vx:xb∉ll::M:=by simp;exact⟨an _ _ h1,au⟩
 have u6:a.tb∉ll::M:=by simp;exact⟨an _ _ hT.hG,hm.tb⟩
 have ha:∀j,j<t.n→a.gG∉ll::M:=fun j hj=>by simp;exact⟨an _ _ (hT.at'.g j hj 0 _ O),hm.gG⟩
 have ar:∀{pre:List _} {W W':World},J _ W→_≤_→ax [] W W'→J pre W':=fun h hs hk=>hJ _ _ _ h (ax.o8 hk hs O4)
 have hG:=hT.hG;refine km.j6 func354 O ntmps354 O (qA ?_);refine qQ ([3,4]++range' 10 15) (fun(i:Nat) F=>F.put 10 (.int _ i))
  (fun i W=>i≤t.n∧J ((range i).filter (Ih t)) W∧ax (ll::M) U W) (fun i=>t.n-i) 0 (qB (ka.eq .refl) O) ⟨O1,ap,.refl⟩ ?_
 rintro u0 i W ⟨hi,am,hk⟩;refine tI (fun h=>?_) fun h=>?_
 ·have hl:i<t.n:=O1;have hg:=hT.at'.g i hl;have hg:=fun k v hv=>hk.cell (hg k v hv) (ha i hl)
  have hp:=Hp.start (M:=[]) (w:=W);refine qA (tR (qL O O O O hg) ?_);refine vK fun w b hp=>?_
  have hp:=hp.I 0 (eQ _) O O;refine Cc fun w hp=>?_
  refine tC (EA _ (BQ.fq (hb i hl) hκ)) fun W2 hp=>?_;have ao:=ar am hk.size hp.Z;have vz:=hk.trans hp.Z O4;by_cases xx:0<t.g i
  ·refine ke (xJ O O) (qV ((Sj _).trans (aD xx))) (jL ?_);apply jZa;rfl;rfl;rfl;rfl;exact hY _ i _ ao (qMs hl (aD xx));rintro _ W3 ⟨rfl,hh,zx⟩;refine⟨_,O,?_⟩;have vw:=vz.trans zx (fun k hk=>.inr hk);refine E0 ?_;refine tN (i+1) ?_;refine qA ?_;exact⟨_,qB O5 O,⟨O1,by rw[O8,if_pos (show Ih t i=true from aD xx)];omega,vw⟩,O1⟩
  refine ke (xJ O O) (qV ((Sj _).trans (aB xx))) (jL ?_);refine tJ ?_;refine tN (i+1) ?_;refine qA ?_;exact⟨_,qB O5 O,⟨O1,by rw[O8,if_neg (show¬Ih t i=true by simpa[Ih] using xx),bO];omega,vz⟩,O1⟩
 obtain rfl:i=t.n:=O1;exact PS
theorem zA6(tb U):Rt 322 [.pointer (Ad tb)] U (fun v w'=>∃xb,v= .func (.func 354) #[] #[.pointer (Ad xb)]∧Hp U [] w' [bu xb 1 (qE [.pointer (Ad tb)]) 304]):=by
 refine tW func322 ntmps322 fun hp=>?_;refine vK fun w b hp=>?_
 exact qM O O ⟨_,O,_,O,hp⟩
theorem zA5(tb)(e:Nat)(U):Rt 323 [.pointer (Ad tb),Iv (e:Int)] U (fun v w'=>∃xb eb,v= .func (.func 355) #[] #[.pointer (Ad xb),.pointer (Ad eb)]∧Hp U [] w' [bu eb 1 (qE [Iv (e:Int)]) 3,bu xb 1 (qE [.pointer (Ad tb)]) 304]):=by
 refine tW func323 ntmps323 fun hp=>?_;refine GM fun w _ b hp=>?_
 exact qM O O ⟨_,O,_,_,O,hp⟩
theorem jZv(a t xb eb)(e:Nat)(κ M U)(h1:U.cell? ⟨xb,0,none⟩=some (.pointer (some ⟨a.tb,0,none⟩)))(h2:U.cell? ⟨eb,0,none⟩=some (Iv (e:Int)))(hT:BJ a t U)(hm:El a t M)(hb:Im t κ)(hκ:κ+κ≤1000000000000)(hn:t.m≤1000000)(he:e<t.n)
  (au:xb∉M) (aq:eb∉M) (av:∀k∈M,k<U.heap.size):
  MK prog 355 [.pointer (Ad xb),.pointer (Ad eb)] (fun i:Nat=>Iv (i:Int)) (fun i:Nat=>QV (t.b i/t.A i e)) ((range t.m).filter (Gw t e)) M U:=by
 intro ll J rh an hY hJ ap;have vx:xb∉ll::M:=by simp;exact⟨an _ _ h1,au⟩
 have yk:eb∉ll::M:=by simp;exact⟨an _ _ h2,aq⟩
 have u6:a.tb∉ll::M:=by simp;exact⟨an _ _ hT.hG,hm.tb⟩
 have hg:∀j,j<t.m→a.gC∉ll::M:=fun j hj=>by simp;exact⟨an _ _ (hT.at'.H j hj),hm.gC⟩
 have hh:∀j,j<t.m→a.gR∉ll::M:=fun j hj=>by simp;exact⟨an _ _ (hT.at'.b j hj 0 _ O),hm.gR⟩
 have vi:∀j,j<t.m→a.rg j∉ll::M:=fun j hj=>by simp;exact⟨an _ _ (hT.at'.A j e hj he 0 _ O),hm.rg j hj⟩
 have ar:∀{pre:List _} {W W':World},J _ W→_≤_→ax [] W W'→J pre W':=fun h hs hk=>hJ _ _ _ h (ax.o8 hk hs O4)
 have hC:=hT.hC;refine km.j6 func355 O ntmps355 O (qA ?_);refine qQ ([4,5,6,7]++range' 13 32) (fun(i:Nat) F=>F.put 13 (.int _ i))
  (fun i W=>i≤t.m∧J ((range i).filter (Gw t e)) W∧ax (ll::M) U W) (fun i=>t.m-i) 0 (qB (ka.eq .refl) O) ⟨O1,ap,.refl⟩ ?_
 rintro u0 i W ⟨hi,am,hk⟩;refine tI (fun h=>?_) fun h=>?_
 ·have hl:i<t.m:=O1;have hH:=hk.cell (hT.at'.H i hl) (hg i hl);have hE:=hk.cell h2 yk;have hX:=hk.cell h1 vx;have hR:=hk.cell hT.hR u6;have hA:=fun k v hv=>hk.cell (hT.at'.A i e hl he k v hv) (vi i hl)
  have hB:=fun k v hv=>hk.cell (hT.at'.b i hl k v hv) (hh i hl)
  have hp:=Hp.start (M:=[]) (w:=W);refine qA (tR (qL O O O O hA) ?_);refine tC (EA _ (BQ.fq (hb.A i e hl he) O1)) fun W2 hp=>?_;have ao:=ar am hk.size hp.Z;have vz:=hk.trans hp.Z O4;by_cases xx:0<t.A i e
  ·refine ke (uG O O) (qV (b:=false) ((YM _).trans O6)) (jL ?_);refine qN O ?_;have xr:t.A i e≠0:=O6
   refine qR (uD ([6,7]++range' 24 15) (fun ob F=>F.put 6 (.pointer (Ad ob))) (fun ob w'=>Hp W [] w' [bu ob 3 (qE (eQ (t.b i/t.A i e))) 49]) ?_ ?_)
   ·refine HU true (List.range' 0 18) jG O3 O (fun w'=>Hp W [] w' []) hp.U ?_;have hp:=hp.U;refine zP ?_;apply C8;rfl;rfl;intro w hp;exact qL O O O O (fun k v hv=>hp.j3 (hB k v hv));exact DF O;refine zP ?_;apply C8;rfl;rfl;intro w hp;exact qL O O O O (fun k v hv=>hp.j3 (hA k v hv));exact DF O;refine BP 15 O O3 O O ?eA ?eB
    case' eA=>
     refine tK (HG _ (hb.b i hl) (hb.A i e hl he) xr O1) ?_;rintro _ w ⟨rfl,hk⟩;have hp:=hp.V hk;refine⟨hp,zP (xO O O3 ?_ O)⟩;apply Au;rfl;exact jK hp (qJ O);rintro _ w ⟨ob,rfl,hp⟩;refine⟨hp.E,?_⟩
    case' eB=>
     apply Au;rfl;exact jK hp (qJ O);rintro _ w ⟨ob,rfl,hp⟩;refine⟨hp.E,xO O O3 (tK (HG _ (hb.b i hl) (hb.A i e hl he) xr O1) ?_) O⟩;rintro _ w ⟨rfl,hk⟩;have hp:=hp.V hk;refine⟨hp.E,zP ?_⟩
    all_goals
     refine xO O O3 ?_ O;apply FH;rfl;exact qW hp 0 O O O O (qD O) O;rintro _ w ⟨rfl,hp⟩;refine⟨hp.E,?_⟩;refine zP (yZ ?_);exact⟨_,qB O5 O,hp⟩
   intro u1 ob W3 hp;have hq:=ar am hk.size hp.Z;have vw:=hk.trans hp.Z O4;refine qA ?_;apply Lf;rfl;rfl;exact hY _ i _ hq (qMs hl (aD xx));rintro _ W4 ⟨rfl,ht,vy⟩;refine⟨_,O,?_⟩;have ha:=vw.trans vy (fun k hk=>.inr hk);refine Mz ?_;exact⟨_,qB O5 O,⟨O1,by rw[O8,if_pos (show Gw t e i=true from aD xx)];omega,ha⟩,O1⟩
  refine ke (uG O O) (qV (b:=true) ((YM _).trans O6)) (jL ?_);refine jB O (tM (i+1) ?_);refine qA ?_;exact⟨_,qB O5 O,⟨O1,by rw[O8,if_neg (show¬Gw t e i=true by simpa[Gw] using xx),bO];omega,vz⟩,O1⟩
 obtain rfl:i=t.m:=O1;exact PS
variable{D:Nat}{Ds l:List Nat}{L' X:List kr}{w':World}
section
variable{L:List kr}
theorem Hp.aC6(h:Hp w0 M w L):∀p∈L,∀b,p.1=some b→b<w.heap.size:=fun p hp b hb=>by
 have⟨o,ho,_⟩:=h.r6 hp b hb;exact(aM.1 ho).1
theorem Hp.y8(h:Hp w0 M w L){i j a b:Nat}{φ ψ:Obj→Prop}(hi:L[i]? =some (some a,φ))(hj:L[j]? =some (some b,ψ))(zn:i≠j):a≠b:=
 fun e=>h.dis i j _ _ hi hj zn a O (aK _ e.symm)
theorem Hp.aB2{l}(h:Hp w0 M w L)(hk:ax [l] w w')(h0:w0.heap.size≤l)(hL:∀p∈L,p.1≠some l):Hp w0 M w' L:=by
 refine .aA4 (h.keeps.trans hk (fun k hk=>?_)) (fun p hp=>h.q0 hp) (fun p hp b hb=>?_) h.v8
 ·grind
 have⟨o,ho,hpo⟩:=h.r6 hp b hb;refine⟨o,?_,hpo⟩;rw[hk.block b (h.aC6 p hp b hb) O6];exact ho
theorem ax.mono{N}(h:ax M w w')(hN:∀k∈M,k∈N):ax N w w':=⟨h.os,h.tape,h.output,h.size,fun k hk hm=>h.block k hk (fun h1=>hm (hN k h1))⟩
theorem ax.after{w1}(h:ax [] w0 w1)(h2:ax M w1 w'):ax M w0 w':=(h.mono O4).trans h2 (fun _ hk=>.inr hk)
theorem Hp.aA1{T B}(h:Hp w0 M w (X++(T++Ds.map xR)))(h0:w0.heap.size≤B)(hL:∀p∈X++(T++Ds.map xR),∀b,p.1=some b→b<B)(hB:B≤D)(hD:w.heap[D]? =some (.deferred (some []))):Hp w0 M w (X++(T++(D::Ds).map xR)):=by
 refine(h.aC3 O1 hL hB hD).perm ?_;rw[←bU,←bU,fG];exact List.perm_middle.symm
theorem Hp.z6{T}(h:Hp w0 M w (X++(T++Ds.map xR))):Hp w0 M w (Ds.map xR++T):=(h.sub (dA _ _)).swap
theorem Hp.u9{A B}(hp:Hp w0 M w (A++B)){p}(hm:p∈A){b}(hb:p.1=some b):b∉zG B:=by
 have hd:=hp.v8;rw[fO] at hd;intro h;have⟨q,hq,ii⟩:=xX.1 h;exact hd.2.2 p hm q hq b hb ii
theorem Tr{L:List kr}{N:Nat}(h:L.map (·.1)=L'.map (·.1))(hl:∀p∈L,∀b,p.1=some b→b<N):∀p∈L',∀b,p.1=some b→b<N:=fun p hp b hb=>by
 have h1:p.1∈L'.map (·.1):=bM.2 ⟨p,hp,O⟩;rw[←h] at h1;have⟨q,hq,e⟩:=bM.1 h1;exact hl q hq b (e.trans hb)
theorem Hp.toEnd{T Y}(h:Hp w0 M w (X++(T++Y))):Hp w0 M w ((X++Y)++T):=h.perm (by
 rw[bU]
 exact(eF).append_left _)
theorem Hp.aB7{T Y}(h:Hp w0 M w ((X++Y)++T)):Hp w0 M w (X++(T++Y)):=h.perm (by
 rw[bU]
 exact(eF).append_left _)
end
def pk(lt:Nat→Nat→Bool)(l:List Nat):Option Nat:=l.foldl (fun c j=>match c with
 |none=>some j
 |some k=>if lt j k then some j else some k) none
section
variable{lt:Nat→Nat→Bool}
theorem LU(l x):pk lt (l++[x])=match pk lt l with
 |none=>some x
 |some k=>if lt x k then some x else some k:=by
 unfold pk;simp
theorem OF(h:pk lt l=none):l=[]:=by
 rcases iQ l with rfl|⟨l',x,rfl⟩
 ·rfl
 rw[mR,LU] at h;grind
theorem LV(hi:∀a,lt a a=false)(ht:∀a b c,lt a b=true→lt b c=true→lt a c=true):∀(n:Nat) (l:List Nat) {k:Nat},l.length=n→pk lt l=some k→k∈l∧∀j∈l,lt j k=false:=by
 intro n;induction n with
 |zero=>
  intro l k hn h;obtain rfl:=aX hn;cases h
 |succ n ih=>
  intro l k hn h;rcases iQ l with rfl|⟨l',x,rfl⟩
  ·grind
  rw[mR] at hn h⊢;rw[LU] at h;cases hc:pk lt l' with
  |none=>
   obtain rfl:=OF hc;grind
  |some q=>
   grind
end
variable{b:Nat}{p:kr}
def oI:Option Nat→Int
 |none=>-1
 |some k=>(k:Int)
section
variable{Y:List kr}
theorem BJ.of(hp:Hp w0 M w (X++(zB a t++Y)))(ok:qn a t):BJ a t w:=by
 have hp:Hp w0 M w ([]++zB a t):=hp.x ((eY _ _).trans (dA _ _));refine⟨kw.of [] hp ok,hp.J 0 O O,hp.J 0 O O,hp.J 0 O O,hp.J 0 O O,hp.J 0 O O⟩
theorem BJ.j1(h:BJ a t w)(hk:ax [] w w'):BJ a t w':=by
 have hc:∀{x:Addr} {v:Value},w.cell? x=some v→_=_:=fun h=>hk.cell h O4
 exact⟨⟨fun i hi=>hc (h.at'.B i hi),fun i hi=>hc (h.at'.N i hi),fun i hi=>hc (h.at'.H i hi),fun i hi k v hv=>hc (h.at'.b i hi k v hv),fun i hi k v hv=>hc (h.at'.g i hi k v hv),fun i j hi hj k v hv=>hc (h.at'.A i j hi hj k v hv)⟩,hc h.hB,hc h.hN,hc h.hC,hc h.hR,hc h.hG⟩
theorem L7:(∀p∈zB a t,p.1≠some b)→a.tb≠b∧a.gB≠b∧a.gN≠b∧a.gC≠b∧a.gR≠b∧a.gG≠b∧∀i,i<t.m→a.rg i≠b:=by
 intro h;have e:∀{c:Nat} {p:kr},p∈_→p.1=some c→c≠b:=fun hp h1 e=>h _ hp (by rw[h1,e])
 exact⟨e (aG (i:=0) O) O,e (aG (i:=1) O) O,e (aG (i:=2) O) O,e (aG (i:=3) O) O,e (aG (i:=4) O) O,e (aG (i:=5) O) O,
  fun i hi=>e (aQ _ (bM.2 ⟨i,aR.2 hi,O⟩)) O⟩
theorem El.of(h:∀b∈M,∀p∈zB a t,p.1≠some b):El a t M:=
 ⟨fun hb=>(L7 (h _ hb)).1 O,fun hb=>(L7 (h _ hb)).2.2.2.1 O,fun hb=>(L7 (h _ hb)).2.2.2.2.1 O,fun hb=>(L7 (h _ hb)).2.2.2.2.2.1 O,fun i hi hb=>(L7 (h _ hb)).2.2.2.2.2.2 i hi O⟩
theorem jAd(hp:Hp w0 M w (X++(zB a t++Y)))(hm:p∈X)(hb:p.1=some b):∀q∈zB a t,q.1≠some b:=by
 have hd:=hp.v8;rw[fO] at hd;exact fun q hq=>hd.2.2 p hm q (dD _ hq) b hb
end
variable{QA:Exit→Act→World→Prop}
theorem qPj{id c}(h:BZ P n c (Exit.inBlock id QA) F w):BZ P n (.block id c) QA F w:=JK h
theorem jF8{id G a}(h:G a w):(Exit.inBlock id (Exit.then G QA)) .normal a w:=h
def BW(t:Tb)(j k:Nat):Bool:=decide (t.N j<t.N k)
def AF(t:Tb)(e j k:Nat):Bool:=decide (t.b j/t.A j e<t.b k/t.A k e∨(t.b j/t.A j e=t.b k/t.A k e∧t.B j<t.B k))
def Jr(t:Tb):List Nat:=(range t.n).filter (Ih t)
def KO(t:Tb)(e:Nat):List Nat:=(range t.m).filter (Gw t e)
theorem Se:j∈Jr t↔j<t.n∧0<t.g j:=by simp[Jr,Ih]
theorem Sk{e}:i∈KO t e↔i<t.m∧0<t.A i e:=by simp[KO,Gw]
theorem pkN(h:pk (BW t) (Jr t)=some k):k<t.n∧0<t.g k∧∀j,j<t.n→0<t.g j→t.N k≤t.N j:=by
 have⟨h1,h2⟩:=LV (lt:=BW t) (fun a=>by simp[BW]) (fun a b c=>by simp[BW,dV];omega) _ _ O h;have⟨h3,h4⟩:=Se.1 h1;refine⟨h3,h4,fun j hj hg=>?_⟩;have:=h2 j (Se.2 ⟨hj,hg⟩);simp only[BW,fV] at this;omega
theorem pkL{e}(h:pk (AF t e) (KO t e)=some k):k<t.m∧0<t.A k e∧∀i,i<t.m→0<t.A i e→t.b k*t.A i e≤t.b i*t.A k e∧(t.b k*t.A i e=t.b i*t.A k e→t.B k≤t.B i):=by
 have⟨h1,h2⟩:=LV (lt:=AF t e) (fun a=>by simp only[AF,fV];grind) (fun a b c=>by simp[AF,dV];grind) _ _ O h;have⟨h3,h4⟩:=Sk.1 h1;refine⟨h3,h4,fun i hi hg=>?_⟩;have:=h2 i (Sk.2 ⟨hi,hg⟩);simp only[AF,fV] at this;rw[←qEq h4 hg,←qKc h4 hg];grind
theorem jDy{e}(h1:pk (BW t) (Jr t)=some e)(h2:pk (AF t e) (KO t e)=some r):Cz t r e:=by
 have⟨a1,a2,a3⟩:=pkN h1;have⟨b1,b2,b3⟩:=pkL h2;exact⟨a1,a2,a3,b1,b2,b3⟩
def Gn(t:Tb)(e:Nat):Option Nat→List Value
 |none=>[.bool false,.string ⟨#[]⟩,.string ⟨#[]⟩]
 |some k=>eQ (t.b k/t.A k e)
theorem jVo(a:TA)(t:Tb)(V:Int→Prop)(φ:(Int→Rat)→Rat)(c:Rat)(κ:Nat)(l:List Int)(M:List Nat)(W:World)(ok:qn a t)(hV:t.ok V)(hf:t.feas)(hv:t.val φ c)(hl:∀v,V v→v∈l)
  (hb:∀u k,An t u k→Im u κ) (hκ:4*κ+1≤1000000000000) (ht:1≤κ) (hm:t.m≤1000000) (hn:t.n≤1000000) (hp:Hp W M W (zB a t)):
  Rt 233 [.pointer (some ⟨a.tb,0,none⟩)] W (fun v w'=>∃b u k,v= .bool b∧An t u k∧(b=true→∀j,j<u.n→¬0<u.g j)∧(b=false→∃e,e<u.n∧0<u.g e∧∀i,i<u.m→¬0<u.A i e)∧Hp W M w' (zB a u)):=by
 refine km.q5 func233 O ntmps233 O (EU ?_);refine qR ?_;refine tQ fun w1 xb hp=>?_;refine qA (qPj ?_);refine jIa (X:={p:Tb×Nat//An t p.1 p.2}) (fun x ds F w=>∃Ds:List _,ds=Ds.map U2∧CH F [(1,.pointer _)]∧Hp W M w (bu xb 1 (qE [.pointer _]) 304::(zB a x.1.1++Ds.map xR))) (fun x=>2^l.length-x.1.2) ⟨(t,0),.refl⟩
  ⟨[],O,⟨O,trivial⟩,by rw[Nu,bO];exact hp⟩ ?_
 clear hp;rintro⟨⟨u,k⟩,hP⟩ ds F w ⟨Ds,rfl,hF,hp⟩;have hP:An t u k:=hP;have hp:Hp W M w (_::(zB a u++_)):=hp;have mz:=hP.mn;have h9:=hb u k hP;have oa:=ok.cast mz.1 mz.2;refine Jd _ hF ?_;intro F0;refine qPj (EU (vK fun w b hp=>?_))
 have hp:=hp.I 0 [.int _ (oI none)] O O;refine Ki (tL (zA6 _ _) ?_);rintro _ w2 ⟨ib,rfl,hpo⟩;have hp:=hp.C hpo;clear hpo;have hp:=hp.perm (iR _ _ _);have hp:Hp W M w2 (bu b 1 (qE [.int _ (oI (pk (BW u) []))]) 3::_):=hp;refine qA (Jd [(1,.pointer _),(3,.pointer _),(11,.func _ _ _)] ⟨O,O,O,trivial⟩ ?_);intro F1;have ha:=hp.aC6;have zr:=ha _ fX b O;have aa:=jAd (X:=[_,_,_]) hp fX O;have hE:=hp.y8 (i:=1) (j:=0) O O O2;have b4:=hp.y8 (i:=2) (j:=0) O O O2
 have tm:El a u [b]:=El.of (fun b' oc=>by
  grind)
 refine jBs (gf:=354) (lb:=[.pointer (Ad ib)]) O jQd (fun i:Nat=>Iv (i:Int)) (Jr u) [b] (fun k hk=>by
   grind)
  (fun pre W'=>Hp W M W' (bu b 1 (qE [Iv (oI (pk (BW u) pre))]) 3::bu ib 1 (qE [.pointer (some ⟨a.tb,0,none⟩)]) 304::bu xb 1 (qE [.pointer (some ⟨a.tb,0,none⟩)]) 304::(zB a u++Ds.map xR)))
  (fun pre W1 W2 h zp=>h.o8 zp hp.Z.size (fun p od=>by
   rcases aP.1 od with rfl|od
   ·exact mEs
   grind)) hp ?_
  (fun i=>((F1.v6 [(1,.pointer (Ad xb)),(3,.pointer (Ad b)),(11,.func (.func 354) #[] #[.pointer (Ad ib)])]).put 12 (Iv (i:Int))).put 4 (Iv (i:Int))) ?_ ?_ ?_
 ·intro W1 hk hh;have ng:=hp.V hk
  exact jZw a u ib κ _ W1 (ng.J 1 O O) (BJ.of (X:=[_,_,_]) ng oa) tm h9.g O1 O1 O6 (fun k pw=>by
   grind)
 ·intro ll i W1;refine qA ?_;simp
 ·rintro ll pre i W1 ⟨qo,qw⟩ ay;obtain⟨rfl,hi,p2⟩:=ZP qw;have hT:=BJ.of (X:=[_,_,_]) ay oa;have cN:=hT.hN;have ci:=hT.at'.N i hi;have c1:W1.cell? ⟨xb,0,_⟩=some (.pointer _):=ay.J 2 O O;have hx:∀q,pk (BW u) ((range i).filter (Ih u))=some q→q<i:=fun q hq=>by
   have:=(LV (fun a=>by simp[BW]) (fun a b c=>by simp[BW,dV];omega) _ _ O hq).1;grind
  generalize (List.range i).filter _=pre at ay hx⊢;have hs:=LU (lt:=BW u) pre i;have hp:=Hp.start (M:=[]) (w:=W1);refine qR ?_;have fin:∀(F2:Fr) (W2:World),F2 3= .pointer (some ⟨b,0,none⟩)→F2 4= .int .i64 i→Hp W1 [] W2 []→pk (BW u) (pre++[i])=some i→WP prog ⟨76,[],some ll⟩ (.region 5 #[⟨some 32,.move (.tmp 4),3, "linear.go:195",#[],none⟩,⟨none,.store 3 (.tmp 3) (.tmp 32),0, "linear.go:195",#[⟨0,.data⟩,⟨0,.phase⟩],none⟩] false) (FD 3 fun e _ W'=>e= .normal∧Hp W M W' (bu b 1 (qE [.int .i64 (oI (pk (BW u) (pre++[i])))]) 3::bu ib 1 (qE [.pointer (some ⟨a.tb,0,none⟩)]) 304::bu xb 1 (qE [.pointer (some ⟨a.tb,0,none⟩)]) 304::(zB a u++Ds.map xR))∧ax [b] W1 W') F2 W2:=by
   intro F2 W2 h3 h4 zo hy;have hJ:=ay.V zo.Z;have hp:=Hp.y6 (hJ.N 0 _ O b O);have hp:Hp W2 [b] W2 [bu b 1 (qE [Iv (oI (pk (BW u) pre))]) 3]:=hp;refine qR ?_;refine ke qP h4 ?_;refine tO (jD hp 0 h3 O O O (qD O) O) fun w4 hp=>?_;have hp:=hp.I 0 [Iv (i:Int)] O O;refine qA ?_;rw[hy]
   refine⟨O,hJ.p3 (i:=0) (q:=bu b 1 (qE [Iv (i:Int)]) 3) O hp.Z (fun b' oc=>by
    cases oc
    exact⟨.inl O,hp.N 0 _ O b O⟩),zo.Z.after hp.Z⟩
  cases hc:pk (BW u) pre with
  |none=>
   have c3:W1.cell? ⟨b,0,_⟩=some (.int _ _):=ay.J 0 O O;rw[hc] at c3 hs;refine kU false jG O3 (fun w'=>Hp W1 [] w' []) hp.U ?_;have hp:=hp.U;refine xA (qU ?_);refine jB O ?_;exact fin _ _ O O hp (by rw[hs])
  |some q=>
   have hZ:=hx q hc;have hK:q<u.n:=O1;have cq:=hT.at'.N q O1;have c3:W1.cell? ⟨b,0,_⟩=some (.int _ _):=ay.J 0 O O;rw[hc] at c3 hs;have c3:W1.cell? _=some (.int _ q):=c3;refine kU false jG O3 (fun w'=>Hp W1 [] w' []) hp.U ?_;have hp:=hp.U;refine tP (fun w hp=>qS O O (hp.j3 c3)) ?_;refine kp O (fun w hp=>zQ O O) (qV (aB O1)) (tP (fun w hp=>qP) ?_);refine xA (qU ?_);have hs:_=if BW u i q then some i else some q:=hs
   refine qH O (fun h=>?_) (fun h=>?_)
   ·exact fin _ _ O O hp (by rw[hs,if_pos (show BW u i q=true from aD h)])
   refine qA ?_;rw[hs,if_neg (show¬BW u i q=true by simpa[BW] using h),←hc];exact⟨O,ay.V hp.Z,hp.Z.mono O4⟩
 intro D W1 hD ay a7
 have hp:=Hp.aA1 (X:=[bu b 1 (qE [Iv (oI (pk (BW u) (Jr u)))]) 3,bu ib 1 (qE [.pointer (some ⟨a.tb,0,none⟩)]) 304,bu xb 1 (qE [.pointer (some ⟨a.tb,0,none⟩)]) 304]) (T:=zB a u) (Ds:=Ds) ay hp.Z.size (fun p od=>by
  rcases aP.1 od with rfl|od
  ·exact mEs
  exact ha p (fE _ od)) hD a7
 have hp:Hp W M W1 (_::_::_::(zB a u++_)):=hp;clear ay ha aa tm a7;refine L0 O O (EU ?_);cases hc:pk (BW u) (Jr u) with
 |none=>
  rw[hc] at hp;have hp:Hp W M W1 (bu b 1 (qE [.int _ (-1)]) 3::_):=hp;refine qR ?_;refine tR (qS O O (hp.J 0 O O)) ?_;refine ke (zQ O O) (qV (aD O1)) (qR ?_);refine jB O (qA ?_);exact qOe _ O O O (hp.z6 (X:=[_,_,_])) (fun w' hp'=>⟨_,O,_,u,k,O,hP,fun _ j hj hg=>(by have:=Se.2 ⟨hj,hg⟩;rw[OF hc] at this;grind),fun h=>(by cases h),hp'⟩)
 |some e=>
  have⟨he,x7,ys⟩:=pkN hc;rw[hc] at hp;have hp:Hp W M W1 (bu b 1 (qE [.int _ e]) 3::_):=hp;refine qR ?_;refine tR (qS O O (hp.J 0 O O)) ?_;refine ke (zQ O O) (qV (aB O1)) (qR ?_);refine tJ ?_;have hp:Hp W M W1 (_::_::_):=hp.z7 1;have hU:∀i,i<u.m→0<u.A i e→BQ _ _:=fun i hi hg=>(h9.b i hi).div (h9.A i e hi he) O6
  refine EU (qR ?_);refine tQ fun w3 lb hp=>?_;refine tS fun w4 hp=>?_;have hp:=hp.I 0 [.int _ (oI none)] O O;refine qA (EU ?_);refine qR ?_;refine tQ fun w5 bb hp=>?_;have hp:=hp.I 0 (Gn u e none) O O;have hp:=hp.swap (L:=[_,_]);refine qA (Ki ?_);refine tL (zA5 _ e _) ?_;rintro _ w6 ⟨xi,ei,rfl,hpo⟩;have hp:=hp.C hpo;clear hpo;have hp:Hp W M w6 ((_::_::_)++[bu bb 3 (qE (Gn u e (pk (AF u e) []))) 49,bu lb 1 (qE [.int _ (oI (pk (AF u e) []))]) 3]):=hp;refine qA (Jd [(1,.pointer _),(3,.pointer _),(5,.pointer _),(6,.pointer _),(37,.func _ _ _)] ⟨O,O,O,O,O,trivial⟩ ?_);intro F2;have ha:=hp.aC6;have aa:∀{q:kr} {b':Nat},q∈_→q.1=_→b'∉[bb,lb]:=fun hm oc=>hp.u9 hm oc
  have tm:=El.of (fun b' oc q hq e=>aa (aQ [_,_,_,_] (dD _ hq)) e oc);have aq:∀k∈[bb,lb],k<_:=fun k hk=>by
   have h1:=ha _ (aQ _ fX) bb O;have h2:=ha _ (aQ _ (fE _ fX)) lb O;simp at hk;rcases hk with rfl|rfl
   ·exact h1
   exact h2
  have hM:=aa (aG (i:=1) O) O;have hL:=aa (aG (i:=0) O) O;refine qUu (gf:=355) O jQc (fun i:Nat=>Iv (i:Int)) (fun i:Nat=>QV (u.b i/u.A i e)) (KO u e) [bb,lb] aq
   (fun pre W'=>Hp W M W' ((bu ei 1 (qE [Iv (e:Int)]) 3::bu xi 1 _ 304::bu b 1 (qE [Iv (e:Int)]) 3::bu xb 1 _ 304::(zB a u++(D::Ds).map xR))++[bu bb 3 (qE (Gn u e (pk (AF u e) pre))) 49,bu lb 1 (qE [Iv (oI (pk (AF u e) pre))]) 3]))
   (fun pre W1 W2 h zp=>h.o8 zp hp.Z.size (Tr (by simp only[dR,fG];rfl) ha)) hp ?_
   (fun ll pre i F' W'=>∃vb,vb≠ll∧F'=((((F2.v6 [(1,.pointer (Ad xb)),(3,.pointer (Ad b)),(5,.pointer (Ad lb)),(6,.pointer (Ad bb)),(37,.func (.func 355) #[] #[.pointer (Ad xi),.pointer (Ad ei)])]).put 38 (Iv (i:Int))).put 39 (QV (u.b i/u.A i e))).put 7 (Iv (i:Int))).put 8 (.pointer (Ad vb))∧Hp W M W' (bu vb 3 (qE (eQ (u.b i/u.A i e))) 49::((bu ei 1 (qE [Iv (e:Int)]) 3::bu xi 1 (qE [.pointer (some ⟨a.tb,0,none⟩)]) 304::bu b 1 (qE [Iv (e:Int)]) 3::bu xb 1 (qE [.pointer (some ⟨a.tb,0,none⟩)]) 304::(zB a u++(D::Ds).map xR))++[bu bb 3 (qE (Gn u e (pk (AF u e) pre))) 49,bu lb 1 (qE [Iv (oI (pk (AF u e) pre))]) 3]))) ?_ ?_ ?_ ?_
  ·intro W1 hk hh;have ng:=hp.V hk;exact jZv a u xi ei e κ _ W1 (ng.J 1 O O) (ng.J 0 O O) (BJ.of (X:=[_,_,_,_]) (ng.x (eY _ _)) oa) tm h9 O1 O1 he hM hL (fun k pw=>dK (aq k pw) hk.size)
  ·rintro ll pre i W1 ⟨qo,qw⟩ ay hY rh;have hp:=Hp.start (M:=[]) (w:=W1);refine qR ?_;refine tR qY (qR ?_);refine tQ fun w7 vb hp=>?_;refine tS fun w8 hp=>?_;refine qA ?_;have hH:=(hp.p6 (i:=0) O).1;exact⟨O,⟨vb,O1,O,ay.C hp⟩,hp.Z⟩
  ·rintro ll pre i F' W1 W2 hY ⟨vb,xr,rfl,vg⟩ hk;refine⟨vb,xr,O,vg.aB2 hk (bF hp.Z.size hY) (fun q hq hX=>?_)⟩;rcases aP.1 hq with rfl|hq
   ·exact xr (lI hX)
   have:=Tr (by simp only[dR,fG];rfl) ha q hq ll hX;omega
  ·rintro ll pre i F' W1 ⟨qo,qw⟩ ⟨vb,xr,rfl,ay⟩;obtain⟨rfl,hi,p2⟩:=ZP qw;have p2:=by simpa[Gw] using p2
   have hx:∀q,pk (AF u e) ((range i).filter (Gw u e))=some q→q<i∧0<u.A q e:=fun q hq=>by
    have:=(LV (lt:=AF u e) (fun a=>by simp only[AF,fV];grind) (fun a b c=>by simp[AF,dV];grind) _ _ O hq).1;simpa[Gw] using this
   generalize (List.range i).filter _=pre at ay hx⊢;have hs:=LU (lt:=AF u e) pre i;have hl:=Hp.k6 (A:=bu vb 3 _ 49::(bu ei 1 _ 3::bu xi 1 _ 304::bu b 1 _ 3::bu xb 1 _ 304::(zB a u++(D::Ds).map xR))) ay;have hT:=BJ.of (X:=[_,_,_,_,_]) (ay.sub (List.sublist_append_left _ _)) oa;have cB:=hT.hB;have ci:=hT.at'.B i hi;have c1:W1.cell? ⟨xb,0,_⟩=some (.pointer _):=ay.cell 4 O O;have cv:∀k v,(eQ _)[k]? =_→_=_:=ay.j2 0 (o:=0) (k:=3) O O;have c5:W1.cell? ⟨lb,0,_⟩=some (.int _ _):=hl.cell 1 O O;have hH:vb∉[bb,lb]:=ay.u9 List.mem_cons_self O;have hp:=Hp.start (M:=[]) (w:=W1);have fin:∀(F3:Fr) (W2:World),F3 5= .pointer (some ⟨lb,0,none⟩)→F3 6= .pointer (some ⟨bb,0,none⟩)→F3 7= .int .i64 (i:Int)→F3 8= .pointer (some ⟨vb,0,none⟩)→Hp W1 [] W2 []→pk (AF u e) (pre++[i])=some i→WP prog ⟨76,[],some ll⟩ (.region 17 #[⟨some 68,.move (.tmp 7),3, "linear.go:209",#[],none⟩,⟨some 69,.load 49 (.tmp 8),49, "linear.go:209",#[⟨2,.gcOnly .lateStores⟩],none⟩,⟨none,.store 3 (.tmp 5) (.tmp 68),0, "linear.go:209",#[⟨0,.data⟩,⟨0,.phase⟩,⟨1,.textOnly .lateStores⟩],none⟩,⟨none,.store 49 (.tmp 6) (.tmp 69),0, "linear.go:209",#[⟨1,.data⟩,⟨2,.chain⟩,⟨0,.phase⟩,⟨1,.phase⟩,⟨2,.phase⟩],none⟩] true) (FD 5 fun eb _ W'=>eb= .normal∧Hp W M W' ((bu ei 1 (qE [.int .i64 (e:Int)]) 3::bu xi 1 (qE [.pointer (some ⟨a.tb,0,none⟩)]) 304::bu b 1 (qE [.int .i64 (e:Int)]) 3::bu xb 1 (qE [.pointer (some ⟨a.tb,0,none⟩)]) 304::(zB a u++(D::Ds).map xR))++[bu bb 3 (qE (Gn u e (pk (AF u e) (pre++[i])))) 49,bu lb 1 (qE [.int .i64 (oI (pk (AF u e) (pre++[i])))]) 3])∧ax [bb,lb] W1 W') F3 W2:=by
    intro F3 W2 h5 h6 h7 h8 zo hy;have hJ:=ay.V zo.Z;have qq:=Hp.k6 (A:=bu vb 3 (qE (eQ (u.b i/u.A i e))) 49::(bu ei 1 (qE [Iv (e:Int)]) 3::bu xi 1 (qE [.pointer (some ⟨a.tb,0,none⟩)]) 304::bu b 1 (qE [Iv (e:Int)]) 3::bu xb 1 (qE [.pointer (some ⟨a.tb,0,none⟩)]) 304::(zB a u++(D::Ds).map xR))) (B:=[bu bb 3 (qE (Gn u e (pk (AF u e) pre))) 49,bu lb 1 (qE [Iv (oI (pk (AF u e) pre))]) 3]) hJ;have hp:Hp W2 [bb,lb] W2 [bu bb 3 (qE (Gn u e (pk (AF u e) pre))) 49,bu lb 1 (qE [Iv (oI (pk (AF u e) pre))]) 3]:=qq;refine kU true jG O3 (fun w'=>ax [bb,lb] W2 w') hp.U.Z ?_;have hp:=hp.U;apply kp;rfl;intro w hk;exact qP;exact h7;apply kp;rfl;intro w hk;exact qL (vs:=eQ (u.b i/u.A i e)) O O h8 O (fun k v hv=>hk.cell (zo.j3 (cv k v hv)) hH);exact DF O;apply GL;rfl;exact jD hp 1 h5 O O O (qD O) O;rintro _ w7 ⟨rfl,hp⟩;refine⟨hp.Z,?_⟩;apply GL;rfl;exact qW hp 0 h6 O O O (qD O) O;rintro _ w8 ⟨rfl,hp⟩;refine⟨hp.Z,?_⟩;have hp:=hp.I 0 (eQ (u.b i/u.A i e)) O O;have hp:=hp.I 1 [Iv (i:Int)] O O;refine qU ?_;refine qR ?_;rw[hy];have et:=(Hp.back (A:=bu vb 3 (qE (eQ (u.b i/u.A i e))) 49::(bu ei 1 (qE [Iv (e:Int)]) 3::bu xi 1 (qE [.pointer (some ⟨a.tb,0,none⟩)]) 304::bu b 1 (qE [Iv (e:Int)]) 3::bu xb 1 (qE [.pointer (some ⟨a.tb,0,none⟩)]) 304::(zB a u++(D::Ds).map xR))) (B:=[bu bb 3 (qE (Gn u e (pk (AF u e) pre))) 49,bu lb 1 (qE [Iv (oI (pk (AF u e) pre))]) 3]) hJ hp).tail;exact⟨O,et,zo.Z.after hp.Z⟩
   cases hc:pk (AF u e) pre with
   |none=>
    rw[hc] at c5 hs;have c5:W1.cell? _=some (.int _ (-1)):=c5;refine qR ?_;refine tR qY (qR ?_);refine tR (qS O O c5) ?_;refine ke (vE O O) (qV (aB O1)) (qR ?_);refine qN O (qR ?_);refine kU false jG O3 (fun w'=>Hp W1 [] w' []) hp.U ?_;have hp:=hp.U;refine xA (qU ?_);refine jB O ?_;exact fin _ _ O O O O hp (by rw[hs])
   |some q=>
    have⟨hZ,hz⟩:=hx q hc;have hS:q<u.m:=O1;have cq:=hT.at'.B q hS;have c6:∀k v,(Gn u e (pk (AF u e) pre))[k]? =some v→W1.cell? ⟨bb,0+k,none⟩=some v:=by
     rw[hc];rw[hc] at hl;exact hl.j2 0 (o:=0) (k:=3) O O
    rw[hc] at c5 c6 hs;have c5:W1.cell? _=some (.int _ q):=c5;have c6:∀k v,(eQ _)[k]? =_→_=_:=c6;have hs:_=if AF u e i q then some i else some q:=hs
    refine qR ?_;refine tR qY (qR ?_);refine tR (qS O O c5) ?_;refine ke (vE O O) (qV (aD O1)) (qR ?_);refine jB O (qR ?_);refine tR (qL (vs:=eQ (u.b i/u.A i e)) O O O O cv) (tR (qL (vs:=eQ (u.b q/u.A q e)) O O O O c6) ?_);refine tC (IM _ (hU i hi p2) (hU q hS hz) O1) fun W2 hp=>?_;have no:¬AF u e i q=true→Hp W M W2.drew ((bu ei 1 (qE [Iv (e:Int)]) 3::bu xi 1 (qE [.pointer (some ⟨a.tb,0,none⟩)]) 304::bu b 1 (qE [Iv (e:Int)]) 3::bu xb 1 (qE [.pointer (some ⟨a.tb,0,none⟩)]) 304::(zB a u++(D::Ds).map xR))++[bu bb 3 (qE (Gn u e (pk (AF u e) (pre++[i])))) 49,bu lb 1 (qE [Iv (oI (pk (AF u e) (pre++[i])))]) 3])∧ax [bb,lb] W1 W2.drew:=fun h=>by
     rw[hs,if_neg h,←hc];exact⟨(ay.V hp.U.Z).tail,hp.U.Z.mono O4⟩
    by_cases h1:u.b i/u.A i e<u.b q/u.A q e
    ·rw[show wH _ _= -1 from if_pos h1];refine tR qY (qR ?_);refine kU false jG O3 (fun w'=>Hp W1 [] w' []) hp.U ?_;have hp:=hp.U;refine xA (qU ?_);refine jB O ?_;exact fin _ _ O O O O hp (by rw[hs,if_pos (show AF u e i q=true from aD (.inl h1))])
    by_cases h2:u.b i/u.A i e=u.b q/u.A q e
    ·rw[show wH (u.b i/u.A i e) (u.b q/u.A q e)=0 by unfold wH;grind];refine tR qY (qR ?_);refine kU false jG O3 (fun w'=>Hp W1 [] w' []) hp.U ?_;have hp:=hp.U;refine tP (fun w hp=>qP) ?_;refine kp O (fun w hp=>zQ O O) (qV (b:=false) (aB O1)) (tP (fun w hp=>qP) ?_);apply yG;rfl;rfl;rfl;intro w hp;exact qP;exact fI O;apply yG;rfl;rfl;rfl;intro w hp;exact zW O O;exact qV (aD O1);refine xA (qU ?_);refine qR (qH O (fun h=>?_) (fun h=>?_))
     ·exact fin _ _ O O O O hp (by rw[hs,if_pos (show AF u e i q=true from aD (.inr ⟨h2,h⟩))])
     exact mEg
    rw[show wH (u.b i/u.A i e) (u.b q/u.A q e)=1 by unfold wH;grind];refine tR qY (qR ?_);refine kU false jG O3 (fun w'=>Hp W1 [] w' []) hp.U ?_;refine tP (fun w hp=>qP) ?_;refine kp O (fun w hp=>zQ O O) (qV (aB O1)) (tP (fun w hp=>qP) ?_);apply yG;rfl;rfl;rfl;intro w hp;exact qP;exact fI O;apply yG;rfl;rfl;rfl;intro w hp;exact zW O O;exact qV (aB O1);refine xA (qU ?_);refine qR (qN O ?_);exact mEg
  intro D2 W1 hD ay a7;have hp:=Hp.aA1 (X:=[_,_]++[_,_,_,_]) (T:=zB a u) (ay.swap) hp.Z.size (fun p od=>Tr (by simp only[dR,fG];rfl) ha p ((fK.1 (show p∈[_,_]++(bu ei 1 _ 3::bu xi 1 _ 304::bu b 1 _ 3::bu xb 1 _ 304::(zB a u++(D::Ds).map xR)) from od)).elim (aQ _) (dD _))) hD a7;clear ay ha aa tm a7;refine L0 O O (EU ?_);cases hc2:pk (AF u e) (KO u e) with
  |none=>
   rw[hc2] at hp;have hp:Hp W M W1 (_::bu lb 1 (qE [.int _ (-1)]) 3::(_::_::_::_::(zB a u++_))):=hp;refine qR ?_;refine tR (qS O O (hp.J 1 O O)) ?_;refine ke (zQ O O) (qV (aD O1)) (qR ?_);refine jB O (qA ?_);exact qOe (D2::D::Ds) O O O (hp.z6 (X:=[_,_,_,_,_,_])) (fun w' hp'=>⟨_,O,false,u,k,O,hP,fun h=>(by cases h),fun _=>⟨e,he,x7,fun i hi hA=>(by have:=Sk.2 ⟨hi,hA⟩;rw[OF hc2] at this;grind)⟩,hp'⟩)
  |some r=>
   have zr:=jDy hc hc2;rw[hc2] at hp;have hp:Hp W M W1 (_::bu lb 1 (qE [.int _ r]) 3::(_::_::_::_::(zB a u++_))):=hp;refine qR ?_;refine tR (qS O O (hp.J 1 O O)) ?_;refine ke (zQ O O) (qV (aB O1)) (qR ?_);refine qN O (qR ?_);refine NN (qA ?_);have hp':=Hp.toEnd (X:=[_,_,_,_,_,_]) (T:=zB a u) hp;refine tK (U8 a u r e κ _ _ oa zr.hr he zr.ne h9 (hb _ _ (hP.step zr)) O1 ht O1 O1 (Hp.k6 hp')) ?_;rintro _ w9 ⟨rfl,zo⟩;have hp:=Hp.aB7 (Hp.back hp' zo);have hQ:=hP.len hV hf hv l hl;refine qR ?_;refine jF8 ⟨⟨(u.pv r e,k+1),hP.step zr⟩,_,_,O,⟨D2::D::Ds,O,⟨O,trivial⟩,hp.x (dA [_,_,_,_,_] _)⟩,?_⟩;grind
end
variable{b ba h m o sz:Nat}{news xs:List Value}{p:kr}{s:Option Addr}{w':World}
theorem qOi:∀(vs:List Value) (cx:Array Value) (o n:Nat),n≤o→(HF cx o vs).toList.take n=cx.toList.take n
 |[],_,_,_,_=>rfl
 |v::vs,cx,o,n,h=>by
  show(HF _ _ vs).toList.take n=_
  rw[qOi vs _ _ _ O1,oJ,rS,mZ O6]
section
variable{L:List kr}
theorem OC{L}(hi:L[i]? =some p):List.Perm L (L.eraseIdx i++[p]):=by
 have he:=(aI.1 hi).2;have h1:L=L.take i++p::L.drop (i+1):=by rw[←he,nQ,dP]
 have h2:=nD L i;rw[h2]
 conv=>lhs;rw[h1]
 exact List.perm_middle.trans ((oL p _).symm)
theorem jD4{L:List kr}{q:kr}(hi:L[i]? =some p):List.Perm (L.eraseIdx i++[q]) (L.set i q):=by
 have hl:=(aI.1 hi).1;have h2:(L.set i q).eraseIdx i=L.eraseIdx i:=by
  rw[nD,nD,rS,mZ O6,pC O1]
 have h3:=OC (p:=q) (by rw[gM,if_pos O,if_pos hl]);rw[h2] at h3;exact h3.symm
theorem Hp.j8(h:Hp w0 M w L)(i:Nat){p:kr}(hi:L[i]? =some p):Hp w (zG [p]) w [p]:=Hp.k6 (h.perm (OC hi))
theorem Hp.j5(h:Hp w0 M w L)(i:Nat){p q:kr}(hi:L[i]? =some p)(h':Hp w (zG [p]) w' [q]):Hp w0 M w' (L.set i q):=(Hp.back (h.perm (OC hi)) h').perm (jD4 hi)
end
section
variable{L:List kr}{pos:String}{x:Operand}
theorem qOg{t e l q:Nat}{k1 k2 k3:IntKind}{lo hi mx}(ht:P.underlying t=some (.slice e))(hk:kz P e k)(hx:ev n F x= .slice (some ⟨b,o,none⟩) m c)(hl:ev n F lo= .int k1 l)(hh:ev n F hi= .int k2 h)(hm:ev n F mx= .int k3 q)(h1:l≤h)(h2:h≤q)(h3:q≤c)(h4:l<q):
  PV P n w F ⟨d,.slice t x (some lo) (some hi) (some mx),ty,pos,aft,g⟩ (.slice (some ⟨b,o+l*k,none⟩) (h-l) (q-l)):=by
 have oa:=yO (P:=P) (w:=w) (c:=.slice3Acap) hm h3;have et:=yO (P:=P) (w:=w) (c:=.slice3B) hh h2;have og:=yO (P:=P) (w:=w) (c:=.slice3C) hl h1;have xr:¬q=l:=O1;simp[PV,execOp,Instr.sliceAt,Instr.slice,hx,jQ ht,Instr.sliceBounds,oa,et,og,hk.run,xr,yC]
theorem H0{t e l:Nat}{q:IntKind}(ht:P.underlying t=some (.slice e))(hk:kz P e k)(hx:ev n F x= .slice (some ⟨b,o,none⟩) m c)(hl:ev n F y= .int q l)(h1:l≤m)(_h2:m≤c):
  PV P n w F ⟨d,.slice t x (some y) none none,ty,pos,aft,g⟩ (.slice (some ⟨b,if c=l then o else o+l*k,none⟩) (m-l) (c-l)):=by
 have og:=yO (P:=P) (w:=w) (c:=.sliceB) hl h1;by_cases xr:c=l
 ·simp[PV,execOp,Instr.sliceAt,Instr.slice,hx,jQ ht,Instr.sliceBounds,og,hk.run,xr]
 simp[PV,execOp,Instr.sliceAt,Instr.slice,hx,jQ ht,Instr.sliceBounds,og,hk.run,xr,yC]
theorem qJt{t e gb cap}(hp:Hp w0 M w L)(i)(ht:P.underlying t=some (.slice e))(hs:kz P e sz)(x5:Az P e ba)(ha:0<sz)
  (hx:ev n F x= .slice (Ad gb) m cap) (hy:ev n F y= .slice s k c) (hi:L[i]? =some (some gb,FB e sz cap m xs)) (hl:xs.length=m*sz) (hn:news.length=k*sz)
  (hz:∀(j:Nat) (u:Value),news[j]? =some u→∃b o,s=some ⟨b,o,none⟩∧w.cell? ⟨b,o+j,none⟩=some u) (h1:∀u∈news,kM u=true) (hK:m+k≤cap):
  gx P n ⟨d,.call ⟨.builtin .append,#[x,y],#[t,t]⟩,ty,pos,aft,g⟩ F w (fun u w'=>u= .slice (Ad gb) (m+k) cap∧Hp w0 M w' (L.set i (some gb,FB e sz cap (m+k) (xs++news)))):=by
 have⟨inf,hg,hE⟩:=x5.ex;have hj:=by
  exact Mm
 have hh:∀u∈news,u.oneCell'=true:=by
  exact mEf
 obtain⟨o9,hJ,ca,rfl,hM,hP⟩:=hp.N i _ hi gb O;have h3:m*sz+k*sz≤cap*sz:=by
  rw[←eL];exact aL _ hK
 by_cases hk:k=0
 ·subst hk;have a1:news=[]:=aX O1;subst a1;have ai:(Builtin.append_ #[t,t] ty #[.slice (Ad gb) m cap,.slice s 0 c]).run P w= .ok (.slice (Ad gb) m cap) w:=by
   have h2:m≤cap:=O1;exact mC9
  refine xN (v:=.slice _ m _) (w':=w) ?_ ⟨O,?_⟩
  ·exact UE
  simp[fY,bO];rw[qSx hi];exact hp
 have hH:0<news.length:=by
  rw[hn];exact iP O1 ha
 have⟨b,o,cH,_⟩:=hz 0 news[0] (aA hH);subst cH;have hF:∀(j:Nat) (u:Value),news[j]? =some u→w.cell? ((⟨b,o,none⟩:Addr).add j)=some u:=by
  intro j u hu;have⟨b',o',e1,e2⟩:=hz j u hu;cases e1;rw[yC];exact e2
 have yc:m*inf.size+news.length≤ca.size:=by rw[hj,hM];omega
 have hr:=run_append_room w t ty e _ ht hg gb m _ _ hJ _ k c _ O6 hF hh hK yc;have qj:=(aM.1 hJ).1;refine xN ?_ ⟨O,hp.p3 hi (w':=w.setRow gb (ca.toList.take (m*inf.size)++news++ca.toList.drop (m*inf.size+news.length)).toArray) ?_ ?_⟩
 ·simp only[execOp,resolve,bT,dZ,aN,invoke,builtin];simp[hx,hy,hr]
 ·refine⟨O,O,O,O4,fun q hq hm=>?_⟩;simp only[World.setRow,lO];grind
 intro q hq;have hD:q=gb:=by
  have:(some gb:Option Nat)=some q:=hq;simpa[eq_comm] using this
 subst hD;refine⟨.inl O,_,?_,(ca.toList.take (m*inf.size)++news++ca.toList.drop (m*inf.size+news.length)).toArray,O,?_,?_⟩
 ·simp[World.setRow,lO,if_true,hJ,fD]
 ·grind
 rw[hj];rw[hP,eL,List.take_append_of_le_length O6,bJ O6]
theorem qFx(enc:α→List Value){t e b c k cc sz z}(zc:List Value){l}(hp:Hp w0 M w L)(j:Nat)(hj:L[j]? =some (qG enc e sz (Ad b) c l))(ht:P.underlying t=some (.slice e))(hz:kx P e z)
  (hh:(Builtin.zeroCells z.cells 1).toList=zc) (x1:zc.length=sz) (h1:zc.all kM=true)
  (hx:ev n F x= .slice (some ⟨b,0+k*sz,none⟩) 1 cc) (hk:l.length≤k) (hg:k<c) (hl:∀x,(enc x).length=sz):
  gx P n ⟨d,.call ⟨.builtin .clear,#[x],#[t]⟩,ty,pos,aft,g⟩ F w (fun u w'=>u= .tuple #[]∧Hp w0 M w' L):=by
 obtain⟨o,ho,cx,rfl,ha,vu⟩:=hp.N j _ hj b O;have ha:_=c*sz:=ha;have hQ:=zR _ sz hl l;have h2:=by
  have:(k+1)*sz≤c*sz:=aL sz O1;rw[eL,mH] at this;exact this
 have h3:=aL sz hk;have⟨w',hr,pw,oc⟩:=PK (P:=P) zc w _ (0+k*sz) 0 ho O1 h1;refine xN ?_ ⟨O,hp.aC1 j hj pw ⟨_,oc,_,O,?_,?_⟩⟩
 ·simp only[execOp,resolve,bT,dZ,aN,invoke,builtin];simp[gF] at hr hx;simp[hx,Builtin.clear_,jQ ht,hz.run,hh,hr]
 ·show _=c*sz
  rw[Pv,ha]
 rw[←vu];exact qOi _ _ _ _ O1
end
theorem qWa{enc:α→List Value}(hk:∀x,(enc x).length=k)(l:List α)(i:Nat):(l.flatMap enc).take (i*k)=(l.take i).flatMap enc:=by
 by_cases hi:i≤l.length
 ·have h1:((l.take i).flatMap enc).length=i*k:=by rw[zR enc k hk,cJ,eM hi]
  conv=>lhs;rw[←dP i l,lD,←h1]
  simp
 rw[bJ (show l.length≤i by omega),bJ];rw[zR _ k hk];exact aL k O1
theorem ig.aA5{enc:α→List Value}{l}(h:ig w sz enc (some ⟨b,o,none⟩) l)(k):ig w sz enc (some ⟨b,o+k*sz,none⟩) (l.drop k):=by
 intro i x hx;rw[nP] at hx;have⟨b',o',e,hc⟩:=h _ x hx;grind
theorem qLl{enc:α→List Value}{e:Nat}{l:List α}{o:Obj}(hk:∀x,(enc x).length=k)(hi:i≤l.length)(h:FB e k c l.length (l.flatMap enc) o):FB e k c i ((l.take i).flatMap enc) o:=by
 have⟨cx,h1,h2,h3⟩:=h;refine⟨_,h1,h2,?_⟩;rw[←qWa hk,←h3,List.take_take,eM (aL k hi)]
section
theorem qK2(l:List α)(i:Nat):l.eraseIdx i=l.take i++l.drop (i+1):=O6
theorem SZ{n e:Nat}{f:Nat→α}(he:e<n):(lm n f).eraseIdx e=lm (n-1) (fun j=>f (skip e j)):=by
 apply dI;intro j;rw[List.getElem?_eraseIdx];by_cases hj:j<n-1
 ·rw[yI hj];by_cases h:j<e
  ·rw[if_pos h,yI O1,skip,if_pos h]
  rw[if_neg h,yI O1,skip,if_neg h]
 rw[bY (l:=lm (n-1) _) (by rw[qT];omega)];split
 ·omega
 exact bY (by rw[qT];omega)
attribute [local irreducible] PV gx kq kn WP km
attribute [local irreducible] Fit
theorem jW0(l s c z W)(hs:ig W 1 eI s l)(hl:l.length≤1000000):
  Rt 121 [.slice s l.length c,Iv z] W (fun v w'=>(∃r,v=Iv (oI r)∧((r=none∧∀i:Nat,l[i]?≠some z)∨∃i,r=some i∧l[i]? =some z))∧ax [] W w'):=by
 refine tW func121 ntmps121 fun hp=>?_;refine qA (qQ ([4,5]++range' 8 11) (fun(k:Nat) F=>F.put 8 (.int _ k)) (fun k w'=>k≤l.length∧(∀i,i<k→l[i]?≠some z)∧Hp W [] w' []) (fun k=>l.length-k) 0 (qB (ka.eq .refl) O) ⟨O1,fun i h=>O1,hp⟩ ?_);clear hp;rintro u k w1 ⟨hk,zq,hp⟩;refine tI (fun h=>?_) fun h=>?_
 ·have ha:k<l.length:=O1;obtain⟨b,o,rfl,hc⟩:=hs k l[k] (aA ha);have hc:=hc 0 _ O;refine tI (fun h2=>?_) fun h2=>?_
  ·exact UD
  exact UI
 obtain rfl:k=l.length:=O1;refine qA ?_
 exact qM O O ⟨_,O,⟨_,O,.inl ⟨O,fun i=>by
  grind⟩⟩,hp.Z⟩
theorem zA9(q)(h:FQ q)(W):Rk 318 [QV q] W (.bool (decide (q≠0))):=by
 refine tW func318 ntmps318 fun hp=>?_;refine vK fun w b hp=>?_
 refine tC (EA _ h) fun w1 hp=>?_;refine ke (kB O O) (qV (b:=decide (q≠0)) (by rw[YT];simp)) (tV ?_);exact FM
theorem zAa(l s c κ W)(hs:ig W 3 eQ s l)(hl:l.length≤1000000)(hb:∀q∈l,BQ κ q)(hκ:κ≤1000000000000):
  Rt 317 [.slice s l.length c,.func (.func 318) #[] #[]] W (fun v w'=>(∃r,v=Iv (oI r)∧((r=none∧∀q∈l,q=0)∨∃i q,r=some i∧l[i]? =some q∧q≠0))∧ax [] W w'):=by
 refine tW func317 ntmps317 fun hp=>?_;refine qA (qQ ([4,5]++range' 8 11) (fun(k:Nat) F=>F.put 8 (.int _ k)) (fun k w'=>k≤l.length∧(∀(i:Nat) (q:Rat),i<k→l[i]? =some q→q=0)∧Hp W [] w' []) (fun k=>l.length-k) 0 (qB (ka.eq .refl) O) ⟨O1,fun i q h=>O1,hp⟩ ?_);clear hp;rintro u k w1 ⟨hk,zq,hp⟩;refine tI (fun h=>?_) fun h=>?_
 ·have ha:k<l.length:=O1;obtain⟨b,o,rfl,hc⟩:=hs k l[k] (aA ha);refine qA (tR (qL O O O O (fun j v hv=>hp.j3 (hc j v hv))) ?_);refine tC (zA9 _ (BQ.fq (hb _ (bX _)) hκ) _) fun w2 hp=>?_;refine tI (fun h2=>?_) fun h2=>?_
  ·refine tV ?_;exact⟨_,O,⟨_,O,.inr ⟨k,_,O,aA _,h2⟩⟩,hp.Z⟩
  refine Ae ?_;refine⟨k+1,qB O5 O,⟨O1,fun i q hi hq=>?_,hp⟩,O1⟩;grind
 obtain rfl:k=l.length:=O1;refine qA ?_
 exact qM O O ⟨_,O,⟨_,O,.inl ⟨O,fun q hq=>by
  obtain⟨i,hi,rfl⟩:=pD hq
  exact zq i _ hi (aA hi)⟩⟩,hp.Z⟩
section
variable{pos:String}{x:Operand}
theorem S8{t e}(ht:prog.underlying t=some (.slice e))(hx:ev n F x= .slice s m c)(hy:ev n F y=Zs):PV prog n w F ⟨d,.binOp .eql t x y t',ty,pos,aft,g⟩ (.bool s.isNone):=by
 have h:=run_equal_slice_nil (w:=w) t e s m c ht;simp[PV,execOp,hx,hy,eqGuard,binOp,h]
end
theorem zAb(l b o c W)(hs:ig W 3 eQ (some ⟨b,o,none⟩) l)(hl:l.length≤100000):
  Rt 315 [.slice (some ⟨b,o,none⟩) l.length c] W (fun v w'=>∃s' c',v= .slice s' l.length c'∧kg s' c' l∧Hp W [] w' [qG eQ 49 3 s' c' l]):=by
 refine tW func315 ntmps315 fun hp=>?_;refine qA (tR (S8 (zK O).1 O O) ?_);refine AL ?_;refine tF (jC hp O O O O O O O) fun w1 b' hp=>?_;refine qA ?_;have hq:=hs.i7 hp.Z;refine AB (TI eQ l hp 0 O O O O O O jT O O O hq (fun _=>O) O1) fun w2 s' c'⟨hv,hp⟩=>tV ?_;exact⟨_,O,_,_,O,hv,hp⟩
theorem zBc(l:List Int)(b c i:Nat)(M:List Nat)(W:World)(hp:Hp W M W [qG eI 3 1 (Ad b) c l])(hv:kg (Ad b) c l)(hi:i<l.length)(ha:l.length≤1000000):
  Rt 135 [.slice (Ad b) l.length c,Iv (i:Int),Iv ((i:Int)+1)] W (fun v w'=>v= .slice (Ad b) (l.length-1) c∧Hp W M w' [qG eI 3 1 (Ad b) c (l.eraseIdx i)]):=by
 have hh:=kI hi;have hc:=hv.cap;have sl:=zK (t:=22) O;have hg:∀u∈(l.drop (i+1)).flatMap eI,kM u=true:=by
  intro u hu;rw[rL] at hu;have⟨x,_,hx⟩:=hu;exact dO.1 (show(eI x).all kM=true from O) u hx
 refine km.j6 func135 O ntmps135 O (qA ?_);refine tR (qOg sl.1 sl.2 O O O (h:=i+1) O O1 O1 hc hi) (qA ?_);refine qH O O1 (fun _=>qA ?_);refine jU jG O3 (fun w'=>Hp W M w' _) hp.U ?_;have hp:=hp.U;refine qX ?_;refine tP (fun w hp=>Mf sl.1 sl.2 O O O1) (qX ?_);refine tP (fun w hp=>H0 sl.1 sl.2 O (l:=i+1) O O1 hc) ?_;have bz:=qZ hp 0 O hv (fun _=>O);have hj:∀(j:Nat) (u:Value),((l.drop (i+1)).flatMap eI)[j]? =some u→∃b' o',(some ⟨b,if c=i+1 then 0 else 0+(i+1)*1,none⟩:Option Addr)=some ⟨b',o',none⟩∧(W.drew).cell? ⟨b',o'+j,none⟩=some u:=by
  intro j u hu;have h1:=(aI.1 hu).1;rw[zR eI 1 (fun _=>O),fR] at h1;rw[if_neg O1];exact(ig.aA5 bz (i+1)).src (fun _=>O) j u hu
 have hp:=hp.y1 (i:=0) (φ:=FB 3 1 c i _) O (fun o ho=>qLl (fun _=>O) O1 ho);have e1:i+(l.length-(i+1))=(l.eraseIdx i).length:=O1;apply Qh;rfl;rfl;exact qJt hp 0 sl.1 sl.2 (Kz O) O2 O O O (by rw[zR eI 1 (fun _=>O),cJ,eM O1]) (by rw[zR eI 1 (fun _=>O),fR]) hj hg O1;rintro _ w2 ⟨rfl,hp⟩;rw[e1] at hp;rw[←lD,←qK2] at hp;rw[e1];rw[←hh];refine qX (qU ?_);refine qA ?_;refine ke (Mi sl.1 sl.2 O O O O1 O1 O1) (HO (m':=1) O1) (tO (qFx eI [Iv 0] hp 0 O sl.1 (qJ O) (by simp[Builtin.zeroCells,Value.cells]) O O O O1 O1 (fun _=>O)) fun w3 hp=>?_);refine tV ?_;exact⟨_,O,O,hp⟩
theorem zA8(l:List Rat)(b c i:Nat)(M:List Nat)(W:World)(hp:Hp W M W [qG eQ 49 3 (Ad b) c l])(hv:kg (Ad b) c l)(hi:i<l.length)(ha:l.length≤1000000):
  Rt 319 [.slice (Ad b) l.length c,Iv (i:Int),Iv ((i:Int)+1)] W (fun v w'=>v= .slice (Ad b) (l.length-1) c∧Hp W M w' [qG eQ 49 3 (Ad b) c (l.eraseIdx i)]):=by
 have hh:=kI hi;have hc:=hv.cap;have sl:=zK (t:=43) O;have hg:∀u∈(l.drop (i+1)).flatMap eQ,kM u=true:=by
  intro u hu;rw[rL] at hu;have⟨x,_,hx⟩:=hu;exact dO.1 (show(eQ x).all kM=true from O) u hx
 refine km.j6 func319 O ntmps319 O (qA ?_);refine tR (qOg sl.1 sl.2 O O O (h:=i+1) O O1 O1 hc hi) (qA ?_);refine qH O O1 (fun _=>qA ?_);refine jU jG O3 (fun w'=>Hp W M w' _) hp.U ?_;have hp:=hp.U;refine qX ?_;refine tP (fun w hp=>Mf sl.1 sl.2 O O O1) (qX ?_);refine tP (fun w hp=>H0 sl.1 sl.2 O (l:=i+1) O O1 hc) ?_;have bz:=qZ hp 0 O hv jT;have hj:∀(j:Nat) (u:Value),((l.drop (i+1)).flatMap eQ)[j]? =some u→∃b' o',(some ⟨b,if c=i+1 then 0 else 0+(i+1)*3,none⟩:Option Addr)=some ⟨b',o',none⟩∧(W.drew).cell? ⟨b',o'+j,none⟩=some u:=by
  intro j u hu;have h1:=(aI.1 hu).1;rw[zR eQ 3 jT,fR] at h1;rw[if_neg O1];exact(ig.aA5 bz (i+1)).src jT j u hu
 have hp:=hp.y1 (i:=0) (φ:=FB 49 3 c i _) O (fun o ho=>qLl jT O1 ho);have e1:i+(l.length-(i+1))=(l.eraseIdx i).length:=O1;apply Qh;rfl;rfl;exact qJt hp 0 sl.1 sl.2 (Kz O) O2 O O O (by rw[zR eQ 3 jT,cJ,eM O1]) (by rw[zR eQ 3 jT,fR]) hj hg O1;rintro _ w2 ⟨rfl,hp⟩;rw[e1] at hp;rw[←lD,←qK2] at hp;rw[e1];rw[←hh];refine qX (qU ?_);refine qA ?_;refine ke (Mi sl.1 sl.2 O O O O1 O1 O1) (HO (m':=1) O1) (tO (qFx eQ [.bool false,.string ⟨#[]⟩,.string ⟨#[]⟩] hp 0 O sl.1 (qJ O) (by simp[Builtin.zeroCells,Value.cells,range,List.range.loop]) O O O O1 O1 jT) fun w3 hp=>?_);refine tV ?_;exact⟨_,O,O,hp⟩
end
variable{D κ:Nat}
theorem wQ{M a}(hD:0<D)(hg:D≤M)(hM:M<2^κ)(h:Ov D M a):BQ κ a:=by
 have⟨x,h1,h2⟩:=h;have ha:(D:Rat)≠0:=by
  intro e;have:D=0:=by exact_mod_cast e
  omega
 have e:a=mkRat x D:=by
  rw[iO];have:a=(x:Rat)/((D:Int):Rat):=by
   have h3:(((D:Int):Rat))=(D:Rat):=by first|rfl|exact gI D|norm_cast
   rw[h3,←h1];grind
  exact this
 rw[e];have hx:x=sg (decide (x<0)) x.natAbs:=by
  unfold sg;by_cases hn:x<0
  ·grind
  simp[hn];omega
 rw[hx];exact BQ.mk hD O1 O1
variable{c':Nat}{β:Type}{φ:(Int→Rat)→Rat}
theorem RY{V c s v0 M}(ht:t.ok V)(hv:t.val φ c)(hφ:∀x,φ x=s*x v0)(hs:s=1∨s= -1)(h0:V v0)(hb:t.q8 M)(hM:M<2^κ):Im t κ:=by
 have⟨D,hD,hg,h1,h2⟩:=hb.ex;exact⟨fun i hi=>wQ hD hg hM (h1 i hi),fun i j hi hj=>wQ hD hg hM (h2 i j hi hj),fun j hj=>wQ hD hg hM (YD ht hv hφ hs h0 hg h2 j hj)⟩
structure GA where
 tb:Nat
 sB:Option Addr
 cB:Nat
 sN:Option Addr
 cN:Nat
 sC:Option Addr
 cC:Nat
 sR:Option Addr
 cR:Nat
 sG:Option Addr
 cG:Nat
 rg:Nat→Option Addr
 rc:Nat→Nat
structure GD where
 m:Nat
 B:List Int
 N:List Int
 b:List Rat
 g:List Rat
 rw:Nat→List Rat
def jO(p:Option Addr×Nat×Nat):List Value:=[.slice p.1 p.2.1 p.2.2]
def gH(a:GA)(d:GD):List Value:=[.slice a.sB d.B.length a.cB,.slice a.sN d.N.length a.cN,.slice a.sC d.m a.cC,.slice a.sR d.b.length a.cR,.slice a.sG d.g.length a.cG]
def AH(a:GA)(d:GD):List (Option Addr×Nat×Nat):=lm d.m fun i=>(a.rg i,(d.rw i).length,a.rc i)
def CG(a:GA)(d:GD)(i:Nat):kr:=qG eQ 49 3 (a.rg i) (a.rc i) (d.rw i)
def gL(a:GA)(d:GD):List kr:=[bu a.tb 5 (qE (gH a d)) 308,qG eI 3 1 a.sB a.cB d.B,qG eI 3 1 a.sN a.cN d.N,
 qG jO 43 1 a.sC a.cC (AH a d),qG eQ 49 3 a.sR a.cR d.b,qG eQ 49 3 a.sG a.cG d.g]++lm d.m (CG a d)
structure Hq(a:GA)(d:GD):Prop where
 B:kg a.sB a.cB d.B
 N:kg a.sN a.cN d.N
 C:kg a.sC a.cC (AH a d)
 R:kg a.sR a.cR d.b
 G:kg a.sG a.cG d.g
 rw:∀i,i<d.m→kg (a.rg i) (a.rc i) (d.rw i)
def TA.ga(a:TA):GA:=⟨a.tb,some ⟨a.gB,0,none⟩,a.cB,some ⟨a.gN,0,none⟩,a.cN,some ⟨a.gC,0,none⟩,a.cC,some ⟨a.gR,0,none⟩,a.cR,some ⟨a.gG,0,none⟩,a.cG,fun i=>some ⟨a.rg i,0,none⟩,a.rc⟩
def xZ(t:Tb):GD:=⟨t.m,lm t.m t.B,lm t.n t.N,lm t.m t.b,lm t.n t.g,fun i=>lm t.n (t.A i)⟩
def GA.ta(a:GA):TA:=⟨a.tb,(a.sB.getD ⟨0,0,none⟩).block,a.cB,(a.sN.getD ⟨0,0,none⟩).block,a.cN,(a.sC.getD ⟨0,0,none⟩).block,a.cC,(a.sR.getD ⟨0,0,none⟩).block,a.cR,(a.sG.getD ⟨0,0,none⟩).block,a.cG,fun i=>((a.rg i).getD ⟨0,0,none⟩).block,a.rc⟩
theorem jBb(m f):(lm m f).flatMap H4=(lm m fun i=>((some (⟨(f i).1,0,none⟩:Addr):Option Addr),(f i).2.1,(f i).2.2)).flatMap jO:=by
 unfold lm;rw[oZ,oZ];rfl
theorem NA(a t):gL a.ga (xZ t)=zB a t:=by
 have e1:qG jO 43 1 (some ⟨a.gC,0,none⟩) a.cC (AH a.ga (xZ t))=qG H4 43 1 (some ⟨a.gC,0,none⟩) a.cC (lm t.m fun i=>(a.rg i,t.n,a.rc i)):=by
  unfold qG;rw[jBb,qT];unfold AH;rw[qT];have:(lm (xZ t).m fun i=>(a.ga.rg i,((xZ t).rw i).length,a.ga.rc i))=lm t.m fun i=>((some (⟨a.rg i,0,none⟩:Addr):Option Addr),t.n,a.rc i):=jH fun i _=>by
   show(_,(lm _ _).length,_)=_
   rw[qT];rfl
  rw[this];rfl
 unfold gL zB;rw[show gH _ _=Qm a t by simp[gH,Qm,xZ,TA.ga,qT]];show[_,_,_,qG jO 43 1 (some _) a.cC _,_,_]++_=_
 rw[e1];rfl
theorem J1{l:List α}(h:kg s c l)(hl:0<l.length):s=some ⟨(s.getD ⟨0,0,none⟩).block,0,none⟩∧l.length≤c∧c≤maxLen:=by
 rcases h with⟨h,h2⟩|⟨g,cap,h,h2,h3⟩
 ·omega
 grind
theorem jM7{a:GA}(ok:Hq a (xZ t))(hm:0<t.m)(hn:0<t.n):qn a.ta t∧gL a (xZ t)=zB a.ta t:=by
 have hB:=J1 ok.B (by show 0<(lm _ _).length;rw[qT];exact hm);have hN:=J1 ok.N (by show 0<(lm _ _).length;rw[qT];exact hn);have hC:=J1 ok.C (by unfold AH;rw[qT];exact hm);have hR:=J1 ok.R (by show 0<(lm _ _).length;rw[qT];exact hm);have hG:=J1 ok.G (by show 0<(lm _ _).length;rw[qT];exact hn);have hr:∀i,i<t.m→_∧_:=fun i hi=>by
  have:=J1 (ok.rw i hi) (by show 0<(lm _ _).length;rw[qT];exact hn);have e:((xZ t).rw i).length=t.n:=qT;rw[e] at this;exact this
 refine⟨⟨?_,?_,?_,?_,?_,fun i hi=>(hr i hi).2⟩,?_⟩
 ·have:=hB.2;rwa[show((xZ t).B).length=t.m from qT] at this
 ·have:=hN.2;rwa[show((xZ t).N).length=t.n from qT] at this
 ·have:=hC.2;unfold AH at this;rw[qT] at this;exact this
 ·have:=hR.2;rwa[show((xZ t).b).length=t.m from qT] at this
 ·have:=hG.2;rwa[show((xZ t).g).length=t.n from qT] at this
 rw[←NA];have e1:gH a (xZ t)=gH a.ta.ga (xZ t):=by
  unfold gH;rw[hB.1,hN.1,hC.1,hR.1,hG.1];rfl
 have e2:AH a _=AH a.ta.ga (xZ t):=jH fun i hi=>by
  rw[(hr i hi).1];rfl
 have e3:lm _ (CG a _)=lm (xZ t).m (CG a.ta.ga (xZ t)):=jH fun i hi=>by
  unfold CG;rw[(hr i hi).1];rfl
 have f1:qG eI 3 1 a.sB a.cB (xZ t).B=qG eI 3 1 a.ta.ga.sB a.ta.ga.cB (xZ t).B:=by rw[hB.1];rfl
 have f2:qG eI 3 1 a.sN a.cN (xZ t).N=qG eI 3 1 a.ta.ga.sN a.ta.ga.cN (xZ t).N:=by rw[hN.1];rfl
 have f3:qG jO 43 1 a.sC a.cC (AH a.ta.ga (xZ t))=qG jO 43 1 a.ta.ga.sC a.ta.ga.cC (AH a.ta.ga (xZ t)):=by rw[hC.1];rfl
 have f4:qG eQ 49 3 a.sR a.cR (xZ t).b=qG eQ 49 3 a.ta.ga.sR a.ta.ga.cR (xZ t).b:=by rw[hR.1];rfl
 have f5:qG eQ 49 3 a.sG a.cG (xZ t).g=qG eQ 49 3 a.ta.ga.sG a.ta.ga.cG (xZ t).g:=by rw[hG.1];rfl
 unfold gL;rw[e1,e2,e3,f1,f2,f3,f4,f5];rfl
theorem jWu(ok:qn a t):Hq a.ga (xZ t):=
 ⟨vZ ok.cB,vZ ok.cN,by
  exact vZ ok.cC,vZ ok.cR,vZ ok.cG,fun i hi=>vZ (ok.rc i hi)⟩
theorem jZ{l:List α}{l':List β}(h:kg s c l)(e:l.length=l'.length):kg s c l':=by
 unfold kg at*
 grind
theorem jFe{a d s' l'}(hk:k<d.m):
  ((gL a d).set (6+k) (qG eQ 49 3 s' c' l')).set 3 (qG jO 43 1 a.sC a.cC ((AH a d).set k (s',l'.length,c')))
   =gL {a with rg:=fun i=>if i=k then s' else a.rg i,rc:=fun i=>if i=k then c' else a.rc i} {d with rw:=fun i=>if i=k then l' else d.rw i}:=by
 have e1:(lm d.m (CG a d)).set k (qG eQ 49 3 s' c' l')=lm d.m (CG {a with rg:=fun i=>if i=k then s' else a.rg i,rc:=fun i=>if i=k then c' else a.rc i} {d with rw:=fun i=>if i=k then l' else d.rw i}):=by
  rw[vF];refine jH fun i _=>?_
  unfold CG;by_cases h:i=k<;>simp[h]
 have e2:(AH a d).set k (s',l'.length,c')=AH {a with rg:=fun i=>if i=k then s' else a.rg i,rc:=fun i=>if i=k then c' else a.rc i} {d with rw:=fun i=>if i=k then l' else d.rw i}:=by
  unfold AH;rw[vF];refine jH fun i _=>?_
  by_cases h:i=k<;>simp[h]
 unfold gL;rw[show 6+k=[_,_,_,_,_,_].length+k from O,TD,e1,e2];rfl
theorem jFf{a d}(hk:k<d.m):(gL a d)[6+k]? =some (CG a d k):=by
 unfold gL;rw[show 6+k=[_,_,_,_,_,_].length+k from O,Kb];exact yI hk
section
variable{L:List kr}
theorem _root_.Go.Eng.Hp.j9(hp:Hp w0 M w L){i j:Nat}{p q:kr}(hi:L[i]? =some p)(hj:L[j]? =some q)(zn:i≠j){b:Nat}(hb:q.1=some b):b∉zG [p]:=by
 intro h;have⟨r,hr,ha⟩:=xX.1 h;rw[gT.1 hr] at ha;exact hp.dis i j p q hi hj zn b ha hb
theorem jMu{a d g}(hp:Hp w0 M w (gL a d))(hC:a.sC=Ad g)(hv:kg a.sC a.cC (AH a d))(hk:k<d.m):w.cell? ⟨g,0+k*1,none⟩=some (.slice (a.rg k) (d.rw k).length (a.rc k)):=by
 have⟨b,o,e,h⟩:=qZ hp 3 O hv (fun _=>O) k _ (yI hk);rw[hC] at e;cases e;exact h 0 _ O
end
variable{G:World→Prop}{l:List Oper}{op:Op}{ops:Array Oper}{st want:Bool}
section
variable{Q:Exit→Fr→World→Prop}{rest:List Oper}{d:Nat}{pos:String}
theorem ER{c e}(he:zC op=true)(hj:yW ops j=some e)(hc:ev n F (.tmp e)= .bool c)(hw:(c==want)=false)(hG:G w)(h:kn P n ops st G rest Q (F.put d undef) w):
  kn P n ops st G (⟨some d,op,ty,pos,aft,some (j,want)⟩::rest) Q F w:=by
 refine jUx (v:=undef) he hj hc (fun w'=>w'=w) O (fun h=>by rw[hw] at h;cases h) ?_;rintro w' rfl;refine⟨hG,?_⟩;rw[hw];exact h
theorem jZc{e}(he:zC op=true)(hj:yW ops j=some e)(hc:ev n F (.tmp e)=undef)(hG:G w)(h:kn P n ops st G rest Q (F.put d undef) w):
  kn P n ops st G (⟨some d,op,ty,pos,aft,some (j,want)⟩::rest) Q F w:=by
 unfold kn AA;rw[if_pos he];unfold qh;rw[TK (b:=false) (c:=false) O hj hc];refine⟨fun hw=>by simp at hw,fun _=>?_⟩;rw[zN];exact⟨fun _=>hG,h⟩
end
def T4(o:Oper):Bool:=match o.op with
 | .store ..=>false
 |_=>true
theorem SL{P ops G K K1 o}:∀(init:List Oper) (a:Act) (w:World),AA P ops (ET true) G K1 init a w→(∀a w,K1 a w→AA P ops T4 G K [o] a w)→AA P ops T4 G K (init++[o]) a w
 |[],a,w,h,h2=>h2 a w h
 |p::rest,a,w,h,h2=>by
  rw[mL];unfold AA at h⊢;by_cases he:zC p.op=true
  ·rw[if_pos he] at h⊢;exact h.mono fun a w hk=>⟨fun _=>hk.1 O,SL _ _ _ hk.2 h2⟩
  rw[if_neg he] at h⊢;have⟨v,hy,hk⟩:=h;exact⟨v,hy,SL _ _ _ hk h2⟩
theorem xL{Q:Exit→Fr→World→Prop}{id:Nat}(k:Nat){t:TypeId}{x y}{ty:TypeId}{pos:String}{aft}(hl:l.drop k=[⟨none,.store t x y,ty,pos,aft,none⟩])(hm:P.follows .mixedOrders=true)(ha:EX P l.toArray T4=true)
  (G:World→Prop) (hG:G w.drew) (h:kn P n l.toArray true G (l.take k) (fun _ F' w'=>gx P n ⟨none,.store t x y,ty,pos,aft,none⟩ F' w' (fun _ w2=>Q .normal F' w2)) F w.drew) (hr:n.ro=none:=by rfl):WP P n (.region id l.toArray true) Q F w:=by
 unfold WP;rw[ky.k5 hr];refine rJ.2 (qPm hm ha G hG ?_);have e:l.toArray.toList=l.take k++[⟨none,.store t x y,ty,pos,aft,none⟩]:=by
  rw[←hl,dP]
 rw[e];refine SL _ _ _ h ?_;rintro a w' ⟨F',rfl,hs⟩;refine⟨fun _=>hs.mono fun v w2 hq=>?_,fun hw=>by simp[Region.wanted] at hw⟩;exact⟨fun hh=>(by cases hh),⟨_,O,hq⟩⟩
variable{a:GA}
def KI(t:Tb)(i:Nat):Bool:=decide (t.b i<0)
def FN(t:Tb)(i k:Nat):Bool:=decide (t.b i<t.b k)
def Fz(t:Tb)(k:Nat):Option Nat:=pk (FN t) ((range k).filter (KI t))
theorem jBy(h:¬t.b k<0):Fz t (k+1)=Fz t k:=by
 unfold Fz;rw[eX,mO];simp[KI,h]
theorem jBx(h:t.b k<0):Fz t (k+1)=match Fz t k with
 |none=>some k
 |some q=>if FN t k q then some k else some q:=by
 unfold Fz;rw[eX,mO,show([k].filter _)=[k] by simp[KI,h]];exact LU _ _
theorem qSh{q}(h:Fz t k=some q):q<k∧t.b q<0∧∀i,i<k→t.b q≤t.b i:=by
 have⟨h1,h2⟩:=LV (lt:=FN t) (fun a=>by simp only[FN,fV];grind) (fun a b c=>by simp[FN,dV];grind) _ _ O h;simp only[iG,aR,KI,dV] at h1 h2;refine⟨h1.1,h1.2,fun i hi=>?_⟩;by_cases hn:t.b i<0
 ·have:=h2 i ⟨hi,hn⟩;simp[FN,fV] at this;grind
 grind
theorem jBz(h:Fz t k=none):∀i,i<k→0≤t.b i:=fun i hi=>by
 refine bZ fun hn=>?_
 have:i∈(range k).filter (KI t):=by
  simp only[iG,aR,KI,dV];exact⟨hi,O6⟩
 rw[OF h] at this;cases this
def D4(t:Tb)(k i:Nat):List Rat:=if i<k then lm (t.n+1) (t.ext.A i) else lm t.n (t.A i)
def BX(t:Tb)(k:Nat):GD:=⟨t.m,lm t.m t.B,lm t.n t.N++[-1],lm t.m t.b,lm t.n t.g++[-1],D4 t k⟩
theorem RR:D4 t k k=lm t.n (t.A k):=if_neg O1
theorem zDc(t:Tb)(i:Nat):lm (t.n+1) (t.ext.A i)=lm t.n (t.A i)++[-1]:=by
 rw[kh];congr 1
 ·exact jH fun j hj=>by simp only[Tb.ext];grind
 simp[Tb.ext]
theorem jWy(t:Tb):lm (t.n+1) t.ext.N=lm t.n t.N++[-1]:=by
 rw[kh];congr 1
 ·exact jH fun j hj=>by simp only[Tb.ext];omega
 simp[Tb.ext]
theorem jWx(t:Tb):lm (t.n+1) t.ext.g=lm t.n t.g++[-1]:=by
 rw[kh];congr 1
 ·exact jH fun j hj=>by simp only[Tb.ext];grind
 simp[Tb.ext]
theorem jKs:gL a (BX t t.m)=gL a (xZ t.ext):=by
 have e1:lm (BX t t.m).m (CG a _)=lm (xZ t.ext).m (CG a (xZ _)):=jH fun i hi=>by
  unfold CG;have hi:i<t.m:=hi;have:(BX t t.m).rw i=(xZ t.ext).rw i:=by
   show D4 t t.m i=_
   unfold D4;rw[if_pos hi];rfl
  rw[this]
 have e2:AH a (BX t _)=AH a (xZ t.ext):=jH fun i hi=>by
  have hi:i<t.m:=hi;have:(BX t t.m).rw i=(xZ t.ext).rw i:=by
   show D4 t t.m i=_
   unfold D4;rw[if_pos hi];rfl
  rw[this]
 have e3:(BX t t.m).N=(xZ _).N:=(jWy t).symm;have e4:(BX t t.m).g=(xZ _).g:=(jWx t).symm;unfold gL gH;rw[e1,e2,e3,e4];rfl
theorem qSy:(fun i=>if i=k then lm t.n (t.A k)++[-1] else D4 t k i)=D4 t (k+1):=by
 funext i;unfold D4;by_cases h:i=k
 ·subst h;rw[if_pos O,if_pos O1,zDc]
 grind
def Ez(u:Tb)(e k i:Nat):List Rat:=if i<k then lm (u.n-1) ((u.del e).A i) else lm u.n (u.A i)
def Ci(u:Tb)(e k:Nat):GD:=⟨u.m,lm u.m u.B,(lm u.n u.N).eraseIdx e,lm u.m u.b,(lm u.n u.g).eraseIdx e,Ez u e k⟩
theorem RQ{u e}:Ez u e k k=lm u.n (u.A k):=if_neg O1
theorem jD7{u:Tb}{e:Nat}(he:e<u.n):(fun i=>if i=k then(lm u.n (u.A k)).eraseIdx e else Ez u e k i)=Ez u e (k+1):=by
 funext i;unfold Ez;by_cases h:i=k
 ·subst h;rw[if_pos O,if_pos O1,SZ he];rfl
 grind
theorem jKt{u e}(he:e<u.n):gL a (Ci u e u.m)=gL a (xZ (u.del e)):=by
 have e0:∀i,i<u.m→(Ci u e _).rw i=(xZ _).rw i:=fun i hi=>by
  show Ez u e _ i=_
  unfold Ez;rw[if_pos hi];rfl
 have e1:lm (Ci u e u.m).m (CG a _)=lm (xZ (u.del e)).m (CG a (xZ _)):=jH fun i hi=>by
  unfold CG;rw[e0 i hi]
 have e2:AH a (Ci u e _)=AH a (xZ (u.del e)):=jH fun i hi=>by
  rw[e0 i hi]
 have e3:(Ci u e u.m).N=(xZ (u.del e)).N:=SZ he;have e4:(Ci u e u.m).g=(xZ (u.del e)).g:=SZ he;unfold gL gH;rw[e1,e2,e3,e4];rfl
attribute [local irreducible] PV gx kq kn WP km Fit
theorem jVa(h:q<0):Bo q<0:=by
 unfold Bo;grind
theorem jVb(h:¬q<0):0≤Bo q:=by
 unfold Bo;grind
theorem jHn{p}(h:p<q):wH p q<0:=by
 unfold wH;grind
theorem jHo{p}(h:¬p<q):0≤wH p q:=by
 unfold wH;grind
theorem jWr:BX t 0=⟨t.m,lm t.m t.B,lm t.n t.N++[-1],lm t.m t.b,lm t.n t.g++[-1],fun i=>lm t.n (t.A i)⟩:=by
 congr 1
theorem jWs{u e}:Ci u e 0=⟨u.m,lm u.m u.B,(lm u.n u.N).eraseIdx e,lm u.m u.b,(lm u.n u.g).eraseIdx e,fun i=>lm u.n (u.A i)⟩:=by
 congr 1
theorem jFc:({BX t k with rw:=fun i=>if i=k then D4 t k k++[-1] else(BX t k).rw i}:GD)=BX t (k+1):=by
 rw[RR];unfold BX;rw[←qSy]
theorem jFd{u e}(he:e<u.n):({Ci u e k with rw:=fun i=>if i=k then(Ez u e k k).eraseIdx e else(Ci u e k).rw i}:GD)=Ci u e (k+1):=by
 rw[RQ];unfold Ci;rw[←jD7 he]
theorem jMf(w):Rk 25 [Iv (-1)] w (QV (-1)):=GK _ w O2 O2
def aE(a:TA)(sN:Option Addr)(cN:Nat)(sG:Option Addr)(cG:Nat)(rg:Nat→Option Addr)(rc:Nat→Nat):GA:=⟨a.tb,some ⟨a.gB,0,none⟩,a.cB,sN,cN,some ⟨a.gC,0,none⟩,a.cC,some ⟨a.gR,0,none⟩,a.cR,sG,cG,rg,rc⟩
theorem jMh(n f b c z W)(hs:ig W 1 eI (Ad b) (lm n f))(hl:n≤1000000):
  Rt 121 [.slice (Ad b) n c,Iv z] W (fun v w'=>(∃r,v=Iv (oI r)∧((r=none∧∀i,i<n→f i≠z)∨∃i,r=some i∧i<n∧f i=z))∧ax [] W w'):=by
 have h:=jW0 _ _ c z W hs (by rw[qT];exact hl);rw[qT] at h;refine h.mono ?_;rintro v w' ⟨⟨r,hv,hr⟩,hk⟩;refine⟨⟨r,hv,?_⟩,hk⟩;rcases hr with⟨h1,h2⟩|⟨i,h1,h2⟩
 ·exact .inl ⟨h1,fun i hi e=>h2 i (by rw[yI hi,e])⟩
 have hi:=by
  have:=(aI.1 h2).1;rwa[qT] at this
 rw[yI hi] at h2;grind
theorem jVh(n f b c κ W)(hs:ig W 3 eQ (Ad b) (lm n f))(hl:n≤1000000)(hb:∀j,j<n→BQ κ (f j))(hκ:κ≤1000000000000):
  Rt 317 [.slice (Ad b) n c,.func (.func 318) #[] #[]] W (fun v w'=>(∃r,v=Iv (oI r)∧((r=none∧∀i,i<n→f i=0)∨∃i,r=some i∧i<n∧f i≠0))∧ax [] W w'):=by
 have h:=zAa _ _ c κ W hs (by rw[qT];exact hl) (fun q hq=>by
  obtain⟨i,hi,rfl⟩:=bM.1 hq
  grind) hκ
 rw[qT] at h;refine h.mono ?_;rintro v w' ⟨⟨r,hv,hr⟩,hk⟩;refine⟨⟨r,hv,?_⟩,hk⟩;rcases hr with⟨h1,h2⟩|⟨i,q,h1,h2,h3⟩
 ·exact .inl ⟨h1,fun i hi=>h2 _ (bM.2 ⟨i,aR.2 hi,O⟩)⟩
 have hi:=by
  have:=(aI.1 h2).1;rwa[qT] at this
 rw[yI hi] at h2;grind
theorem jVy(l m b c)(i:Nat)(M W)(hm:l.length=m)(hp:Hp W M W [qG eI 3 1 (Ad b) c l])(hv:kg (Ad b) c l)(hi:i<m)(ha:m≤1000000):
  Rt 135 [.slice (Ad b) m c,Iv (i:Int),Iv ((i+1:Nat):Int)] W (fun v w'=>v= .slice (Ad b) (l.eraseIdx i).length c∧Hp W M w' [qG eI 3 1 (Ad b) c (l.eraseIdx i)]):=by
 subst hm;rw[kI hi];exact zBc l b c i M W hp hv hi ha
theorem jMd(l m b c)(i:Nat)(M W)(hm:l.length=m)(hp:Hp W M W [qG eQ 49 3 (Ad b) c l])(hv:kg (Ad b) c l)(hi:i<m)(ha:m≤1000000):
  Rt 319 [.slice (Ad b) m c,Iv (i:Int),Iv ((i+1:Nat):Int)] W (fun v w'=>v= .slice (Ad b) (l.eraseIdx i).length c∧Hp W M w' [qG eQ 49 3 (Ad b) c (l.eraseIdx i)]):=by
 subst hm;rw[kI hi];exact zA8 l b c i M W hp hv hi ha
theorem zAv(a:TA)(t:Tb)(V:Int→Prop)(κ M0:Nat)(l:List Int)(M:List Nat)(W:World)(ok:qn a t)(hV:t.ok V)(hX:¬V (-1))(hl:∀v,V v→v∈l)(hg:∀j,j<t.n→t.g j=0)(hx:∃x:Int→Rat,t.sat x∧∀v,V v→0≤x v)
  (hb:t.q8 M0) (xr:gr M0 t.m<2^κ) (hκ:4*κ+1≤1000000000000) (h7:1≤κ) (hm:t.m≤100000) (hn:t.n≤100000) (ux:0<t.n) (hp:Hp W M W (zB a t)):
  Rt 231 [.pointer (some ⟨a.tb,0,none⟩)] W (fun v w'=>v= .bool true∧∃a' u,qn a' u∧a'.tb=a.tb∧u.m=t.m∧u.n=t.n∧u.ok V∧u.feas∧(∀x,u.sat x↔t.sat x)∧Hp W M w' (zB a' u)):=by
 have rk:∀i,i<t.m→BQ κ (t.b i):=by
  have⟨D,hD,ht,h1,h2⟩:=hb.ex;exact fun i hi=>wQ hD ht (bW NB xr) (h1 i hi)
 have hE:=jQ5 hV hX;have xq:=jL1 hb;have xn:=jL0 hg;have tc:∀u,u.ok (fun v=>V v∨v= -1)→(∀x,u.sat x↔t.ext.sat x)→(∃c,u.val (fun x=>(-1)*x (-1)) c)→u.m=t.m→Im u κ:=by
  rintro u h1 h2 ⟨c,h3⟩ h4;exact RY h1 h3 (s:=-1) (v0:=-1) (fun x=>O) (.inr O) (.inr O) (jN7 h1 hE (fun x=>(h2 x).symm) xq) O6
 refine km.j6 func231 O ntmps231 O (qA ?_);refine qQ ([3,4,5]++List.range' 17 26) (fun k F=>(F.put 3 (.int _ (oI (Fz t k)))).put 17 (.int _ k)) (fun k w'=>k≤t.m∧Hp W M w' _) (fun k=>t.m-k) 0 (qB (qB (ka.eq .refl) O) O) ⟨O1,hp⟩ ?_;clear hp;rintro u k w1 ⟨xc,hp⟩;refine tI (fun h=>?_) fun h=>?_
 ·have ha:k<t.m:=O1;have hc:=(kw.of [] hp ok).b k ha;refine qA (tR (qL O O O O hc) ?_);refine vK fun w b hp=>?_
  have hp:=hp.I 0 (eQ _) O O;have hp:Hp W M _ ([bu b 3 _ 49]++zB a t):=hp;refine jU jG O3 (fun w'=>Hp W M w' _) hp.U ?_;have hp:=hp.U;refine qX ?_;refine tK (EA _ (BQ.fq (rk k ha) O1)) ?_;rintro _ w2 ⟨rfl,hk⟩;have hp:=hp.V hk;refine⟨hp,?_⟩;by_cases hX:t.b k<0
  ·have hs:=jVa hX;have xy:=jBx hX;refine kp O (fun w hp=>zQ O O) (qV (aD O1)) (tP (fun w hp=>qP) ?_);cases hc2:Fz t k with
   |none=>
    rw[hc2] at xy;apply yG;rfl;rfl;rfl;intro w hp;exact qP;exact(O:_=Value.int _ (-1));apply yG;rfl;rfl;rfl;intro w hp;exact zQ O O;exact qV (aD O1);refine xA ?_;apply ER;rfl;rfl;rfl;rfl;exact hp;exact mCr
   |some q=>
    rw[hc2] at xy;have⟨h9,_,_⟩:=qSh hc2;have xk:q<t.m:=O1;apply yG;rfl;rfl;rfl;intro w hp;exact qP;exact(O:_=Value.int _ q);apply yG;rfl;rfl;rfl;intro w hp;exact zQ O O;exact qV (aB O1);refine xA ?_;apply yG;rfl;rfl;rfl;intro w hp;exact qL O O O O ((kw.of _ hp ok).b q O1);exact DF O;refine tK (IM _ (rk k ha) (rk q O1) O1) ?_;rintro _ w3 ⟨rfl,hk⟩;have hp:=hp.V hk;refine⟨hp,?_⟩;by_cases h2:t.b k<t.b q
    ·have h6:=jHn h2;have xy:_=if FN t k q then some k else some q:=xy
     rw[if_pos (show FN t k q=true from aD h2)] at xy;apply yG;rfl;rfl;rfl;intro w hp;exact zQ O O;exact qV (aD O1);exact mCr
    have h6:=jHo h2;have xy:_=if FN t k q then some k else some q:=xy
    rw[if_neg (show¬FN t k q=true by simpa[FN] using h2)] at xy;apply yG;rfl;rfl;rfl;intro w hp;exact zQ O O;exact qV (aB O1);refine xA (qU ?_);refine EH ?_;refine⟨k+1,?_,⟨O1,hp.E⟩,O1⟩;rw[xy,←hc2];exact O5
  have hs:=jVb hX;have xy:=jBy hX;refine kp O (fun w hp=>zQ O O) (qV (aB O1)) ?_;refine xA ?_;apply jZc;rfl;rfl;rfl;exact hp;refine xA (qU ?_);refine EH ?_;refine⟨k+1,?_,⟨O1,hp.E⟩,O1⟩;rw[xy];exact O5
 obtain rfl:k=t.m:=O1;refine qR ?_;cases hw:Fz t t.m with
 |none=>
  have xt:=jBz hw;refine ke qP (O:_=Value.int _ (-1)) (ke (zQ O O) (qV (aD O1)) ?_);refine qR (jB O ?_);refine tV ?_;exact⟨_,O,O,a,t,ok,O,O,O,hV,xt,fun _=>.rfl,hp⟩
 |some r=>
  have⟨pf,xp,xo⟩:=qSh hw;refine ke qP (O:_=Value.int _ r) (ke (zQ O O) (qV (aB O1)) ?_);refine qR ?_;refine qN O ?_;have gb:=jWu ok;rw[←NA] at hp;have hp:=hp;refine yL [(0,.pointer _),(3,.int _ r)] ⟨O,O,trivial⟩ ?_;intro F1;refine qA ?_;refine tF (jC (cs:=[.int _ _]) hp O O O O O O O) fun w2 b1 hp=>AB (jV eI (lm _ _) _ hp 3 0 O O O O O O (fun _=>O) O O O gb.N O O (by rw[qT];omega)) fun w3 sN cN⟨xd,hp⟩=>tT fun w4 hp=>?_;have hp:=hp.I 1 (gH (aE a sN cN _ _ a.ga.rg a.rc) {xZ t with N:=lm _ _++[-1]}) O O;have hp:Hp W M w4 (gL (aE a sN cN _ _ _ _) _):=hp.E;refine qR ?_;have ay:=hp;have hq:(gL (aE a sN cN _ a.cG a.ga.rg a.rc) {xZ t with N:=lm t.n t.N++[-1]})[5]? =some (qG eQ 49 3 (some ⟨a.gG,0,none⟩) a.cG (lm _ _)):=O;have cH:w4.cell? ⟨a.tb,4,_⟩=some (.slice (some _) (lm _ _).length a.cG):=hp.J 0 O O;have aa:a.tb∉zG _:=hp.j9 hq (j:=0) O O1 O;have hp:=ay.j8 5 hq;refine xL 10 O jG O3 (fun w'=>ax _ w4 w') hp.U.Z ?_;have hp:=hp.U;refine qX ?_;apply kp;rfl;intro w hk;exact qS O O (hk.cell cH aa);exact fS O;refine tK (jMf _) ?_;rintro _ w5 ⟨rfl,hk⟩;have hp:=hp.V hk;refine⟨hp.Z,?_⟩;apply Ag;rfl;exact jC (cs:=eQ _) hp O O O O O O O;rintro _ w6 ⟨b2,rfl,hp⟩;refine⟨hp.Z,?_⟩;apply Ag;rfl;exact jV eQ _ _ hp 1 0 O O O O O O jT O O O gb.G O O (by rw[qT];omega);rintro _ w7 ⟨sG,cG,rfl,ub,hp⟩;refine⟨hp.Z,?_⟩;refine qX ?_;refine qU ?_;have hp:=ay.j5 5 hq hp.E;refine gx.mono (jD hp 0 O O O O (qD O) O) ?_;rintro _ w8 ⟨rfl,hp⟩;have hp:=hp.I 0 (gH (aE a sN cN sG cG a.ga.rg a.rc) (BX t 0)) O O;have hp:Hp W M w8 (gL (aE a sN cN sG cG a.ga.rg a.rc) (BX t 0)):=by
   rw[jWr];exact hp
  refine qA (qQ ([6]++List.range' 69 20) (fun(k:Nat) F=>F.put 69 (.int _ k)) (fun k w'=>k≤t.m∧∃rg rc,(∀i,i<t.m→kg (rg i) (rc i) (D4 t k i))∧Hp W M w' (gL (aE a sN cN sG cG rg rc) (BX t k))) (fun k=>t.m-k) 0 (qB (ka.eq .refl) O) ⟨O1,_,_,fun i hi=>(by exact gb.rw i hi),hp⟩ ?_);clear hp;rintro u2 k w9 ⟨xc,rg,rc,hv,hp⟩;refine tI (fun h=>?_) fun h=>?_
  ·have ha:k<t.m:=by
    have em:(BX t 0).m=t.m:=O;omega
   have ay:=hp;have cH:w9.cell? ⟨a.tb,2,_⟩=some (.slice (some _) t.m a.cC):=hp.J 0 O O;have hK:kg (some _) a.cC (AH (aE a sN cN sG cG rg rc) (BX t k)):=jZ gb.C (by unfold AH;rw[qT,qT];rfl);have cR:w9.cell? _=some (.slice (rg k) (D4 t k k).length (rc k)):=jMu hp O hK ha;have hq:=jFf (a:=aE a sN cN sG cG rg rc) (d:=BX t k) ha;have aa:a.tb∉zG _:=hp.j9 hq (j:=0) O O1 O;have ab:a.gC∉zG _:=hp.j9 hq (j:=3) O O1 O;have hp:=ay.j8 _ hq;refine qA ?_;refine xL 16 O jG O3 (fun w'=>ax _ w9 w') hp.U.Z ?_;have hp:=hp.U;refine qX ?_;apply kp;rfl;intro w hk;exact qS O O (hk.cell cH aa);exact fS O;refine qX ?_;apply kp;rfl;intro w hk;exact qS O O (hk.cell cH aa);exact fS O;refine qX ?_;apply kp;rfl;intro w hk;exact qS O O (hk.cell cR ab);exact fS O;refine tK (jMf _) ?_;rintro _ uy ⟨rfl,hk⟩;have hp:=hp.V hk;refine⟨hp.Z,?_⟩;apply Ag;rfl;exact jC (cs:=eQ _) hp O O O O O O O;rintro _ uz ⟨b3,rfl,hp⟩;refine⟨hp.Z,?_⟩;apply Ag;rfl;exact jV eQ _ _ hp 1 0 O O O O O O jT O O O (hv k ha) O O (by rw[RR,qT];omega);rintro _ u0 ⟨s',c',rfl,hh,hp⟩;refine⟨hp.Z,qX ?_⟩;have hp:=ay.j5 _ hq hp.E;refine qU ?_;refine gx.mono (zL jO (AH (aE a sN cN sG cG rg rc) (BX t k)) k (s',(D4 t k k++[-1]).length,c') hp 3 (by rw[rV O1];rfl) hK (by unfold AH;rw[qT];exact ha) O O (fun _=>O) O O (qD O)) ?_;rintro _ u5 ⟨rfl,hp⟩;have hp:Hp W M u5 (gL (aE a sN cN sG cG (fun i=>if i=k then s' else rg i) (fun i=>if i=k then c' else rc i)) (BX t (k+1))):=by
    rw[←jFc];exact Eq.mp (aK (Hp W M u5) (jFe (a:=aE a sN cN sG cG rg rc) (d:=BX t k) (s':=s') (c':=c') (l':=D4 t k k++[-1]) ha)) hp
   refine Ae ?_;refine⟨k+1,qB O5 O,⟨O1,_,_,fun i hi=>?_,hp⟩,O1⟩;rw[←qSy];by_cases px:i=k
   ·subst px;simp[if_true];rw[RR] at hh;omega
   grind
  obtain rfl:k=t.m:=by
   have em:(BX t 0).m=t.m:=O;omega
  rw[jKs] at hp;have gd:Hq (aE a sN cN sG cG rg rc) (xZ t.ext):=by
   refine⟨gb.B,?_,jZ gb.C (by unfold AH;rw[qT,qT];rfl),gb.R,?_,fun i hi=>?_⟩
   ·show kg sN cN (lm (t.n+1) _)
    rw[jWy];omega
   ·show kg sG cG (lm (t.n+1) _)
    rw[jWx];omega
   have:=hv i hi;unfold D4 at this;rw[if_pos (show i<t.m from hi)] at this;exact this
  have⟨oe,e1⟩:=jM7 gd (show 0<t.m by omega) (show 0<t.n+1 by omega);rw[e1] at hp;have zi:(aE a sN cN sG cG rg rc).ta.tb=a.tb:=O;generalize (aE a sN cN sG cG rg rc).ta=a1 at hp oe zi;clear gd e1 xd ub hv gb;have xl:t.ext.A r t.n≠0:=by
   have e:t.ext.A r t.n= -1:=by simp[Tb.ext]
   rw[e];decide
  have nv:t.n<t.ext.n:=pA _;have og:=NG hE pf nv;have sa:∀x,_↔t.ext.sat x:=fun x=>LI pf nv xl
  have va:=NR (t:=t.ext) pf nv xl xn;have fc:=jFm xp xo;have tg:=tc _ hE (fun _=>.rfl) ⟨_,xn⟩ O;have th:=tc _ og sa ⟨_,va⟩ O;have hp:=hp;rw[←zi];refine qA ?_;have em:t.ext.n=t.n+1:=O;refine tN (t.n) ?_;refine tK (U8 a1 _ r t.n κ _ _ oe pf nv xl tg th O1 h7 (show t.m≤_ by omega) O1 (Hp.k6 (A:=[]) hp)) ?_;rintro _ uy ⟨rfl,zo⟩;have hp:Hp W M _ (zB a1 _):=Hp.back (A:=[]) hp zo;have oc:qn a1 (t.ext.pv r t.n):=oe.cast O O;refine qA ?_
  (apply Ax;exact qC O jGi O (jVo a1 (t.ext.pv r t.n) (fun v=>V v∨v= -1) (fun x=>(-1)*x (-1)) _ κ (-1::l) _ _ oc og fc va (fun v hv=>by
    grind) (fun u k hc=>by
    have hf:=hc.fin og fc va
    exact tc u hf.ok (fun x=>(hf.sat x).trans (sa x)) hf.val hf.m) hκ h7 (show t.m≤_ by omega) (show t.n+1≤_ by omega) (Hp.k6 (A:=[]) hp));rintro _ uz ⟨bb,u,kk,rfl,hP,hT,hF,zo⟩)
  have hp:Hp W M _ (zB a1 u):=Hp.back (A:=[]) hp zo;have o0:=hP.fin og fc va;have hS:=fun x=>(o0.sat x).trans (sa x)
  have hQ:u.m=t.m:=o0.m;have eV:u.n=t.n+1:=o0.n;have⟨cu,xg⟩:=o0.val;have xf:∀j,j<u.n→u.g j≤0:=by
   cases bb with
   |true=>grind
   |false=>
    have⟨e,he,x7,xb⟩:=hF O;have⟨x,_,nq,hL⟩:=ZZ o0.ok o0.feas xg he x7 (fun i hi=>O6) 0;grind
  have fw:=first hV hX o0.ok o0.feas hS xg xf hx
  have te:=tc _ o0.ok hS ⟨cu,xg⟩ hQ;clear hT hF hP xf;have od:=oe.cast hQ eV;refine tL (jMh u.m u.B a1.gB _ (-1) _ (qZ hp 1 O (vZ od.cB) (fun _=>O)) O1) ?_;rintro _ u0 ⟨⟨rr,rfl,hZ⟩,hk⟩;have hp:=hp.V hk;refine qR ?_;refine tR qY (qR ?_);refine tR qP ?_
  (apply ke;exact vE O O;exact qV (b:=rr.isSome) (by cases rr with
   |none=>rfl
   |some k=>exact aD (by show(0:Int)≤k;omega)))
  refine qR (EV (fun F' w'=>∃u2 e,CH F' [(0,.pointer (some ⟨a1.tb,0,none⟩))]∧e<u2.n∧u2.N e= -1∧u2.ok (fun v=>V v∨v= -1)∧u2.feas∧(∀x,u2.sat x↔t.ext.sat x)∧u2.m=t.m∧u2.n=t.n+1∧Hp W M w' (zB a1 u2)) ?_ ?_)
  ·cases rr with
   |none=>
    refine qN O ?_;refine qR ?_;have h5:∀i,i<u.m→u.B i≠-1:=by
     rcases hZ with⟨_,h⟩|⟨i,h,_⟩
     ·exact h
     cases h
    rcases o0.ok.or (v:=-1) (.inr rfl) with⟨i,hi,h⟩|⟨e,he,h⟩
    ·grind
    exact⟨u,e,⟨O,trivial⟩,he,h,o0.ok,o0.feas,hS,hQ,eV,hp⟩
   |some r2=>
    obtain⟨hJ,xe⟩:r2<u.m∧u.B r2= -1:=by
     grind
    have⟨et,e0,xz,rm⟩:=fw r2 hJ xe;refine jB O (yL [(0,.pointer _),(7,.int _ r2)] ⟨O,O,trivial⟩ ?_);intro F2;have xi:=(kw.of [] hp od).b r2 hJ;refine qA (tR (qL (vs:=eQ (u.b r2)) O O O O xi) ?_);refine tK (EA _ (BQ.fq (te.b r2 hJ) O1)) ?_;rintro _ u5 ⟨rfl,hk⟩;have hp:=hp.V hk;refine ke (kB O O) (qV (b:=false) (by rw[et];rfl)) (qR ?_);refine qN O ?_;have xu:=(kw.of [] hp od).H r2 hJ;refine tL (jVh u.n (u.A r2) (a1.rg r2) (a1.rc r2) κ _ (Jf hp (aQ _ (bM.2 ⟨r2,aR.2 hJ,O⟩)) (vZ (od.rc r2 hJ)) jT) O1 (fun j hj=>te.A r2 j hJ hj) O1) ?_;rintro _ hy ⟨⟨re,rfl,hM⟩,hk⟩;have hp:=hp.V hk;obtain⟨e2,rfl,hY,ak⟩:∃e2,re=some e2∧e2<u.n∧u.A r2 e2≠0:=by
     grind
    refine ke qY (O:_=Value.int _ e2) (qR ?_);refine tR qP ?_;refine ke (zQ O O) (qV (b:=false) (aB O1)) (qR ?_);refine qN O ?_;have oh:=NG o0.ok hJ hY;have sc:=fun x=>(LI hJ hY ak).trans (hS x)
    have tf:=tc _ oh sc ⟨_,NR hJ hY ak xg⟩ hQ;refine tL (U8 a1 u r2 e2 κ _ _ od hJ hY ak te tf O1 h7 O1 O1 (Hp.k6 (A:=[]) hp)) ?_;rintro _ u4 ⟨rfl,zo⟩;have hp:Hp W M _ (zB a1 _):=Hp.back (A:=[]) hp zo;refine qA ?_;refine⟨u.pv r2 e2,e2,⟨O,trivial⟩,hY,?_,oh,?_,sc,hQ,eV,hp⟩
    ·show(if e2=e2 then u.B r2 else u.N e2)= -1
     omega
    intro i hi;have:=o0.feas i hi;simp only[Tb.pv,et];grind
  rintro F3 u5 ⟨u2,e5,hF,xx,xv,xh,h8,h6,zd,dq,hp⟩;refine yL _ hF ?_;intro F4;have oa:=oe.cast zd dq;refine tL (jMh u2.n u2.N a1.gN a1.cN (-1) _ (qZ hp 2 O (vZ oa.cN) (fun _=>O)) O1) ?_;rintro _ hy ⟨⟨re,rfl,hM⟩,hk⟩;have hp:=hp.V hk;obtain⟨e,rfl,he,xj⟩:∃e,re=some e∧e<u2.n∧u2.N e= -1:=by
   grind
  refine qR ?_;refine ke qY (O:_=Value.int _ e) ?_;rw[←NA] at hp;have hp:=hp;refine tM (e+1) ?_;refine tK (jVy (lm u2.n u2.N) _ a1.gN a1.cN e _ _ O (hp.j8 2 O) (vZ oa.cN) (by rw[qT];exact he) (by rw[qT];omega)) ?_;rintro _ u4 ⟨rfl,zo⟩;have hp:=hp.j5 2 O zo;refine tT fun hz hp=>?_;have hp:=hp.I 0 (gH _ {xZ u2 with N:=(lm _ _).eraseIdx e}) O O;have hp:Hp W M _ (gL a1.ga _):=hp;refine tM (e+1) ?_;refine tK (jMd (lm u2.n u2.g) _ a1.gG a1.cG e _ _ O (hp.j8 5 O) (vZ oa.cG) (by rw[qT];exact he) (by rw[qT];omega)) ?_;rintro _ vb ⟨rfl,zo⟩;have hp:=hp.j5 5 O zo;refine tT fun vd hp=>?_;have hp:=hp.I 0 (gH _ (Ci u2 e 0)) O O;have hp:Hp W M vd (gL a1.ga (Ci u2 e 0)):=by
   rw[jWs];exact hp
  refine qA (qQ ([10,11]++List.range' 162 17) (fun(k:Nat) F=>F.put 162 (Iv (k:Int))) (fun k w'=>k≤u2.m∧Hp W M w' (gL a1.ga (Ci u2 e k))) (fun k=>u2.m-k) 0 (qB (ka.eq .refl) O) ⟨bL _,hp⟩ ?_);clear hp;rintro u3 k vc ⟨xc,hp⟩;refine tI (fun h=>?_) fun h=>?_
  ·have ha:k<u2.m:=by
    have em:(Ci u2 e 0).m=u2.m:=O;omega
   have ay:=hp;have cH:vc.cell? ⟨a1.tb,2,_⟩=some (.slice (some _) u2.m a1.cC):=hp.J 0 O O;have hK:kg (some ⟨a1.gC,0,none⟩) a1.cC (AH a1.ga (Ci u2 e k)):=vZ oa.cC;have cR:vc.cell? _=some (.slice (some _) (Ez u2 e k k).length (a1.rc k)):=jMu hp O hK ha;have hq:=jFf (a:=a1.ga) (d:=Ci u2 e k) ha;have aa:a1.tb∉zG _:=hp.j9 hq (j:=0) O O1 O;have hU:kg (some ⟨a1.rg k,0,none⟩) (a1.rc k) (Ez u2 e k k):=by
    rw[RQ];exact vZ (oa.rc k ha)
   have xw:(Ez u2 e k k).length=u2.n:=by rw[RQ,qT]
   refine qA ?_;have hp:=ay.j8 _ hq;refine xL 11 O jG O3 (fun w'=>ax _ _ w') hp.U.Z ?_;have hp:=hp.U;refine qX ?_;apply kp;rfl;intro w hk;exact qS O O (hk.cell cH aa);exact fS O;refine qX ?_;refine tN (e+1) ?_;refine tK (jMd (Ez u2 e k k) _ (a1.rg k) (a1.rc k) e _ _ O (Hp.k6 (A:=[]) hp) hU O1 O1) ?_;rintro _ ve ⟨rfl,zo⟩;have hp:=Hp.back (A:=[]) hp zo;refine⟨hp.Z,qX (qU ?_)⟩;have hp:=ay.j5 _ hq hp;refine gx.mono (zL jO (AH a1.ga (Ci u2 e k)) k (some ⟨a1.rg k,0,none⟩,((Ez u2 e k k).eraseIdx e).length,a1.rc k) hp 3 (by rw[rV O1];rfl) hK (by unfold AH;rw[qT];exact ha) O O (fun _=>O) O O (qD O)) ?_;rintro _ hH ⟨rfl,hp⟩;have hp:Hp W M hH (gL a1.ga (Ci u2 e (k+1))):=by
    rw[←jFd he];have:=Eq.mp (aK (Hp W M hH) (jFe (a:=a1.ga) (d:=Ci u2 e k) (s':=some ⟨a1.rg k,0,none⟩) (c':=a1.rc k) (l':=(Ez u2 e k k).eraseIdx e) ha)) hp;have e1:({a1.ga with rg:=fun i=>if i=k then some ⟨a1.rg k,0,none⟩ else a1.ga.rg i,rc:=fun i=>if i=k then a1.rc k else a1.ga.rc i}:GA)=a1.ga:=by
     have f1:(fun i=>if i=k then some (⟨a1.rg k,0,none⟩:Addr) else a1.ga.rg i)=a1.ga.rg:=by
      funext i;by_cases h:i=k
      ·subst h;rw[if_pos O];rfl
      rw[if_neg h]
     have f2:(fun i=>if i=k then a1.rc k else a1.ga.rc i)=a1.ga.rc:=by
      funext i;by_cases h:i=k
      ·subst h;rw[if_pos O];rfl
      rw[if_neg h]
     rw[f1,f2]
    rw[e1] at this;exact this
   exact Fp
  obtain rfl:k=u2.m:=by
   have em:(Ci u2 e 0).m=u2.m:=O;omega
  rw[jKt he,NA] at hp;have⟨s1,s2,s3⟩:=jO4 hV hX xh h8 h6 he xj;refine qA ?_;refine qM O O ⟨_,O,O,a1,u2.del e,?_,O,zd,?_,s1,s2,s3,hp⟩
  ·exact⟨oa.cB,⟨bF (Lo _ _) oa.cN.1,oa.cN.2⟩,oa.cC,oa.cR,⟨bF (Lo _ _) oa.cG.1,oa.cG.2⟩,fun i hi=>⟨bF (Lo _ _) (oa.rc i hi).1,(oa.rc i hi).2⟩⟩
  show u2.n-1=t.n
  omega
def wm(v:Int):Rat:=if v=0 then 1 else 0
def ag(t:Tb)(j i:Nat):Rat:=wm (t.N j)-wr i (fun k=>wm (t.B k)*t.A k j)
theorem zGr:ag t j 0=wm (t.N j):=by
 unfold ag wr;grind
theorem jLq:ag t j i-wm (t.B i)*t.A i j=ag t j (i+1):=by
 simp[ag,wr];grind
def agV(t:Tb):Tb:={t with g:=fun j=>ag t j t.m}
section
variable{V:Int→Prop}
theorem jA1(ht:t.ok V){i0 i j}(h0:t.B i0=0)(hi:i0<i)(x6:i≤t.m)(hj:j<t.n):ag t j i= -t.A i0 j:=by
 have h1:wr i (fun k=>wm (t.B k)*t.A k j)=t.A i0 j:=by
  rw[wx (g:=fun k=>if k=i0 then t.A k j else 0),xY (fun k=>t.A k j) hi];intro k hk;by_cases h:k=i0
  ·simp only[wm,if_true];grind
  rw[if_neg h];have:t.B k≠0:=fun e=>h (ht.bb k i0 O1 O1 (by rw[e,h0]))
  simp only[wm,if_neg this];grind
 have h2:t.N j≠0:=fun e=>ht.bn i0 j O1 hj (by rw[e,h0])
 unfold ag;rw[h1];simp[wm,if_neg h2];grind
theorem jA3(h:∀k,k<i→t.B k≠0):ag t j i=wm (t.N j):=by
 unfold ag;rw[vM]
 ·grind
 intro k hk;simp only[wm,if_neg (h k hk)];grind
theorem jLo(ht:t.ok V)(h0:V 0):∃c,(agV t).val (fun x=>x 0) c:=by
 rcases ht.or h0 with⟨i0,hi,hB⟩|⟨j0,hj0,hN⟩
 ·refine⟨t.b i0,fun x hx=>?_⟩;have h1:=hx i0 hi;have h1:x (t.B i0)=t.b i0-wr t.n (fun j=>t.A i0 j*x (t.N j)):=h1;rw[hB] at h1;have h2:wr _ (fun j=>ag t j _*x (t.N j))=wr _ (fun j=>(-1)*(t.A i0 j*x (t.N j))):=wx fun j hj=>by
   rw[jA1 ht hB hi O1 hj];grind
  show x 0=t.b i0+wr t.n (fun j=>ag t j _*x (t.N j))
  rw[h2,ww,h1];grind
 refine⟨0,fun x hx=>?_⟩;have hh:∀k,k<t.m→t.B k≠0:=fun k hk e=>ht.bn k j0 hk hj0 (by rw[e,hN])
 show x 0=0+wr t.n (fun j=>ag t j _*x (t.N j))
 rw[wx,xY (fun j=>x (t.N j)) hj0,hN]
 ·grind
 intro j hj;rw[jA3 hh];by_cases h:j=j0
 ·simp only[wm,hN,if_true];grind
 have:t.N j≠0:=fun e=>h (ht.nn j j0 hj hj0 (by rw[e,hN]))
 simp only[wm,if_neg this];grind
def E5(t:Tb)(j i:Nat):Tb:={t with g:=fun k=>if k<j then ag t k t.m else if k=j then ag t j i else t.g k}
def Hj(t:Tb)(j:Nat):Tb:={t with g:=fun k=>if k<j then ag t k t.m else t.g k}
end
section
variable{V:Int→Prop}
theorem jLs:(Hj t j).sg j (wm (t.N j))=E5 t j 0:=by
 unfold Hj E5 Tb.sg;congr 1;funext k;by_cases h:k=j
 ·subst h;simp[zGr]
 simp[h]
theorem jU1:(E5 t j i).g j=ag t j i:=by simp[E5]
theorem jI5:(E5 t j i).sg j (ag t j (i+1))=E5 t j (i+1):=by
 unfold E5 Tb.sg;grind
theorem jLr:E5 t j t.m=Hj t (j+1):=by
 unfold E5 Hj;grind
theorem jLt:Br (Hj t t.n) (agV t):=by
 refine⟨O,O,fun _ _=>O,fun _ _=>O,fun _ _ _ _=>O,fun _ _=>O,fun j hj=>?_⟩;have hj:j<t.n:=hj;simp only[Hj,agV];grind
theorem jMm{v}(hκ:1≤κ):BQ κ (wm v):=by
 unfold wm;split
 ·exact BQ.one hκ
 exact BQ.zero hκ
theorem jYi(ht:t.ok V)(hA:∀i j,i<t.m→j<t.n→BQ κ (t.A i j))(hκ:1≤κ)(x6:i≤t.m)(hj:j<t.n):BQ κ (ag t j i):=by
 by_cases h:∃i0,i0<i∧t.B i0=0
 ·have⟨i0,h1,h2⟩:=h;rw[jA1 ht h2 h1 x6 hj];exact(hA i0 j O1 hj).neg
 rw[jA3 (fun k hk e=>h ⟨k,hk,e⟩)];exact jMm hκ
end
theorem zA7(n C xb gC cC v W)(hb:W.cell? ⟨xb,2,none⟩=some (.slice (Ad gC) n cC))(hC:ig W 3 eQ (Ad gC) (lm n C))(hv:0≤v)(hn:n≤1000000):
  Rt 320 [Iv v,.pointer (Ad xb)] W (fun u w'=>u=QV (if v<n then C v.toNat else 0)∧ax [] W w'):=by
 obtain⟨k,rfl⟩:∃k:Nat,v=k:=⟨v.toNat,O1⟩;refine tW func320 ntmps320 fun hp=>?_;refine vK fun w b hp=>qH O (fun h=>?_) (fun h=>?_)
 ·rw[if_pos h];have hk:k<n:=O1;have⟨b',o,e,hc⟩:=hC k _ (yI hk);cases e;refine qA (tR (qL O O O O (fun j v hv=>hp.j3 (hc j v hv))) ?_);refine Cc fun w hp=>?_
  exact Ee
 rw[if_neg h];refine tD (wM _) fun w1 hp=>?_;refine Cc fun w hp=>?_
 exact Ee
theorem ig.y7{g}{enc:α→List Value}{l}(h:ig w k enc (Ad g) l)(hk:ax M w w')(hM:g∉M):ig w' k enc (Ad g) l:=
 h.j1 hk (fun _ b o e=>O6)
theorem zAu(a:TA)(t:Tb)(V:Int→Prop)(κ n mA mB cA cB gC cC:Nat)(sA sB:Option Addr)(C:Nat→Rat)(M:List Nat)(W:World)(ok:qn a t)(hV:t.ok V)(xx:∀v,V v→0≤v)(zp:∀v,V v→(if v<n then C v.toNat else 0)=wm v)
  (hA:∀i j,i<t.m→j<t.n→BQ κ (t.A i j)) (hκ:3*κ+1≤1000000000000) (hg:1≤κ) (hm:t.m≤1000000) (hn:t.n≤1000000) (dq:n≤1000000) (hC:ig W 3 eQ (Ad gC) (lm n C)) (hx:gC∉M) (hp:Hp W M W (zB a t)):
  Rt 232 [.pointer (some ⟨a.tb,0,none⟩),.agg #[.slice sA mA cA,.slice sB mB cB,.slice (Ad gC) n cC]] W (fun v w'=>v= .tuple #[]∧Hp W M w' (zB a (agV t))):=by
 have hy:=fun i hi=>(hV.cov _).2 (.inl ⟨i,hi,O⟩)
 have hq:=fun j hj=>(hV.cov _).2 (.inr ⟨j,hj,O⟩)
 refine km.j6 func232 O ntmps232 O (vK fun w b hp=>?_)
 have hp:=hp.I 0 [.slice sA mA cA,.slice sB mB cB,.slice _ n cC] O O;have hp:Hp W M _ ([bu b 3 _ 248]++zB a t):=hp;have call320:∀(v:Int) (w:World) (T:Tb),V v→Hp W M w ([bu b 3 (qE [.slice sA mA cA,.slice sB mB cB,_]) 248]++zB a T)→km _ 320 _ w _:=fun v w T hv hp=>by
  have:=zA7 n C b gC cC v w (hp.J 0 O O) (ig.y7 hC hp.Z hx) (xx v hv) dq;rwa[zp v hv] at this
 refine qA (qQ ([5,6,7,8]++List.range' 15 53) (fun(j:Nat) F=>F.put 15 (.int _ j)) (fun j w'=>j≤t.n∧Hp W M w' ([_]++zB a (Hj t j))) (fun j=>t.n-j) 0 (qB (ka.eq .refl) O) ⟨O1,by exact hp⟩ ?_);clear hp;rintro u j w1 ⟨hz,hp⟩;refine tI (fun h=>?_) fun h=>?_
 ·have hl:j<t.n:=by
   have em:(Hj t 0).n=t.n:=O;omega
  have oc:qn a (Hj t j):=ok.cast O O;have ha:w1.cell? _=some (.int _ (t.N j)):=(kw.of _ hp oc).N j hl;refine qA ?_;refine jU jG O3 (fun w'=>Hp W M w' _) hp.U ?_;have hp:=hp.U;refine tH (call320 _ _ _ (hq j hl) hp) fun w2 hp=>?_;refine qX ?_;apply xH;rfl;rfl;exact Ql _ hp oc hl O O;rintro _ w3 ⟨rfl,hp⟩;rw[jLs] at hp;refine qU (qA ?_);refine qQ ([7,8]++List.range' 34 33) (fun(i:Nat) F=>F.put 34 (.int _ i)) (fun i w'=>i≤t.m∧Hp W M w' ([_]++zB a (E5 t j i))) (fun i=>t.m-i) 0 (qB (ka.eq .refl) O) ⟨O1,hp⟩ ?_;clear hp;rintro u2 i w4 ⟨x6,hp⟩;refine tI (fun h2=>?_) fun h2=>?_
  ·have hh:i<t.m:=by
    have em:(E5 t j 0).m=t.m:=O;omega
   have oa:qn a (E5 t j i):=ok.cast O O;have ht:w4.cell? _=some (.int _ (t.B i)):=(kw.of _ hp oa).B i hh;refine qA ?_;refine jU jG O3 (fun w'=>Hp W M w' _) hp.U ?_;have hp:=hp.U;refine qX ?_;refine tP (fun w hp=>qL O O O O (by have:=(kw.of _ hp oa).g j hl;rw[jU1] at this;omega)) (tH (call320 _ _ _ (hy i hh) hp) fun w5 hp=>?_);refine qX (tP (fun w hp=>qS O O ((kw.of _ hp oa).H i hh)) ?_);refine qX (tP (fun w hp=>qL (vs:=eQ (t.A i j)) O O O O ((kw.of _ hp oa).A i j hh hl)) ?_);refine tG (Qj _ (jYi hV hA hg O1 hl) (jMm hg) (hA i j hh hl) O1) fun w6 hp=>?_;refine qX ?_;apply xH;rfl;rfl;exact Ql _ hp oa hl O O;rintro _ w7 ⟨rfl,hp⟩;rw[jLq,jI5] at hp;exact Mn
  obtain rfl:i=t.m:=by
   have em:(E5 t j 0).m=t.m:=O;omega
  rw[jLr] at hp;refine Ae ?_;exact⟨j+1,qB O5 O,⟨O1,hp⟩,O1⟩
 obtain rfl:j=t.n:=by
  omega
 rw[uF jLt] at hp;refine qA ?_;exact xK O ⟨_,O,O,hp.E⟩
variable{n:Nat}
structure PA where
 gA:Nat
 cA:Nat
 gB:Nat
 cB:Nat
 gC:Nat
 cC:Nat
 rg:Nat→Nat
 rc:Nat→Nat
def Bp(p:PA)(m n:Nat):List Value:=[.slice (some ⟨p.gA,0,none⟩) m p.cA,.slice (some ⟨p.gB,0,none⟩) m p.cB,.slice (some ⟨p.gC,0,none⟩) n p.cC]
structure Ep(p:PA)(m n:Nat)(A:Nat→Nat→Rat)(B C:Nat→Rat)(w:World):Prop where
 hA:ig w 1 H4 (some ⟨p.gA,0,none⟩) (lm m fun i=>(p.rg i,n,p.rc i))
 hB:ig w 3 eQ (some ⟨p.gB,0,none⟩) (lm m B)
 hC:ig w 3 eQ (some ⟨p.gC,0,none⟩) (lm n C)
 hr:∀i,i<m→ig w 3 eQ (some ⟨p.rg i,0,none⟩) (lm n (A i))
theorem Ep.j1{p A B C}(h:Ep p m n A B C w)(hk:ax [] w w'):Ep p m n A B C w':=
 ⟨h.hA.i7 hk,h.hB.i7 hk,h.hC.i7 hk,fun i hi=>(h.hr i hi).i7 hk⟩
theorem zM{g}{enc:α→List Value}{f}(h:ig w k enc (Ad g) (lm n f)){i}(hi:i<n):∀j v,(enc (f i))[j]? =some v→w.cell? ⟨g,0+i*k+j,none⟩=some v:=by
 have⟨b,o,e,hc⟩:=h i _ (yI hi);grind
theorem U7(n g c κ f W)(hs:ig W 3 eQ (Ad g) (lm n f))(hl:n≤1000000)(hb:∀j,j<n→BQ κ (f j))(hκ:κ≤1000000000000):
  Rk 314 [.slice (Ad g) n c] W (.bool true):=by
 refine tW func314 ntmps314 fun hp=>?_;refine qA (qQ ([2,4]++range' 7 8) (fun(k:Nat) F=>F.put 7 (.int _ k)) (fun k w'=>k≤n∧Hp W [] w' []) (fun k=>n-k) 0 (qB (ka.eq .refl) O) ⟨O1,hp⟩ ?_);clear hp;rintro u k w1 ⟨hk,hp⟩;refine tI (fun h=>?_) fun h=>?_
 ·have ha:k<n:=O1;have hc:=zM hs ha;refine qA (tR (qL O O O O (fun j v hv=>hp.j3 (hc j v hv))) ?_);refine vK fun w b hp=>?_
  refine tC (Ny _ (BQ.fq (hb k ha) hκ)) fun w2 hp=>?_;refine AL ?_;refine tA ?_;refine qA ?_;exact Uv
 exact nj
theorem zAx(p m n κ A B C W)(hP:Ep p m n A B C W)(hm:m≤100)(hn:n≤5000)(hA:∀i j,i<m→j<n→BQ κ (A i j))(hB:∀i,i<m→BQ κ (B i))(hC:∀j,j<n→BQ κ (C j))(hκ:κ≤1000000000000):
  Rk 229 [.agg (Bp p m n).toArray] W (.bool true):=by
 refine tW func229 ntmps229 fun hp=>?_;refine vK fun w b hp=>?_
 have hp:=hp.I 0 (Bp p m n) O O;have d1:decide ((m:Int)>100)=_:=aB O1;have d2:decide ((n:Int)>5000)=_:=aB O1;refine jL ?_;rw[d1];refine jL ?_;rw[d2];refine jL ?_;have d3:(!decide (m=(m:Int)))=false:=O4;rw[d3];refine tE (U7 m _ _ κ B _ (hP.hB.i7 hp.Z) O1 hB hκ) fun w1 hp=>?_;refine tE (U7 n _ _ κ C _ (hP.hC.i7 hp.Z) O1 hC hκ) fun w2 hp=>?_;refine jL ?_;refine tJ (qQ ([2,4]++List.range' 39 16) (fun(k:Nat) F=>F.put 39 (.int _ k)) (fun k w'=>k≤m∧Hp W [] w' [bu b 3 _ 248]) (fun k=>m-k) 0 (qB (ka.eq .refl) O) ⟨O1,hp⟩ ?_);clear hp;rintro u k w3 ⟨hk,hp⟩;refine tI (fun h=>?_) fun h=>?_
 ·have hl:k<m:=O1;have hc:=zM hP.hA hl 0 _ O;refine jL ?_;have d4:(!decide (n=(n:Int)))=false:=O4;rw[d4];refine tE (U7 n _ _ κ _ _ ((hP.hr k hl).i7 hp.Z) O1 (fun j hj=>hA k j hl hj) hκ) fun w4 hp=>?_;exact mE1
 exact nj
section
variable{L:List kr}
theorem Hp.aA2(h:Hp w0 M w L)(i){p q R}(hi:L[i]? =some p)(h':Hp w (zG [p]) w' (q::R)):Hp w0 M w' (L.set i q++R):=by
 have h1:=Hp.back (h.perm (OC hi)) h';have h2:L.eraseIdx i++q::R=(L.eraseIdx i++[q])++R:=O4;rw[h2] at h1;exact h1.perm ((jD4 hi).append_right R)
end
theorem jMe(n b c f W)(hs:ig W 3 eQ (Ad b) (lm n f))(hl:n≤100000):
  Rt 315 [.slice (Ad b) n c] W (fun v w'=>∃s' c',v= .slice s' (lm n f).length c'∧kg s' c' (lm n f)∧Hp W [] w' [qG eQ 49 3 s' c' (lm n f)]):=by
 have:=zAb _ b 0 c W hs (by rw[qT];exact hl);have e:(lm n f).length=n:=qT;grind
def Nf(j:Nat):Int:=(j:Int)
def Gf(_:Nat):Rat:=0
def Bf(n i:Nat):Int:=(n:Int)+(i:Int)
def wh(tb:Nat)(sR:Option Addr)(cR:Nat)(sN:Option Addr)(cN:Nat)(sG:Option Addr)(cG:Nat):GA:=⟨tb,none,0,sN,cN,none,0,sR,cR,sG,cG,fun _=>none,fun _=>0⟩
def d0(m n:Nat)(A:Nat→Nat→Rat)(B:Nat→Rat)(N:List Int)(g:List Rat):GD:=⟨0,[],N,lm m B,g,fun i=>lm n (A i)⟩
def Gk(a:GA)(k:Nat)(sC:Option Addr)(cC:Nat)(s':Option Addr)(c':Nat):GA:={a with sC:=sC,cC:=cC,rg:=fun i=>if i=k then s' else a.rg i,rc:=fun i=>if i=k then c' else a.rc i}
theorem ZQ{d sC cC s'}:AH (Gk a d.m sC cC s' c') {d with m:=d.m+1}=AH a d++[(s',(d.rw d.m).length,c')]:=by
 unfold AH;rw[kh];congr 1
 ·refine jH fun i hi=>?_
  simp only[Gk];grind
 simp[Gk]
theorem jKu{d sC cC s'}:
  gL (Gk a d.m sC cC s' c') {d with m:=d.m+1}=[bu a.tb 5 (qE (gH (Gk a d.m sC cC s' c') {d with m:=d.m+1})) 308,qG eI 3 1 a.sB a.cB d.B,qG eI 3 1 a.sN a.cN d.N,
   qG jO 43 1 sC cC (AH a d++[(s',(d.rw d.m).length,c')]),qG eQ 49 3 a.sR a.cR d.b,qG eQ 49 3 a.sG a.cG d.g]++lm d.m (CG a d)++[qG eQ 49 3 s' c' (d.rw d.m)]:=by
 have e1:lm (d.m+1) (CG (Gk a d.m sC cC s' c') {d with m:=d.m+1})=lm d.m (CG a d)++[qG eQ 49 3 s' c' (d.rw d.m)]:=by
  rw[kh];congr 1
  ·refine jH fun i hi=>?_
   unfold CG;simp[Gk];grind
  simp[CG,Gk]
 unfold gL;rw[ZQ];rw[e1,bU];rfl
def g2(tb:Nat)(sR:Option Addr)(cR:Nat)(sN:Option Addr)(cN:Nat)(sG:Option Addr)(cG:Nat)(sB:Option Addr)(cB:Nat)(sC:Option Addr)(cC:Nat)(rg:Nat→Option Addr)(rc:Nat→Nat):GA:=⟨tb,sB,cB,sN,cN,sC,cC,sR,cR,sG,cG,rg,rc⟩
def d2(m n:Nat)(A:Nat→Nat→Rat)(B:Nat→Rat)(i:Nat)(Bl:List Int):GD:=⟨i,Bl,lm n Nf,lm m B,lm n Gf,fun i=>lm n (A i)⟩
theorem zAw(p m n A B C W)(hP:Ep p m n A B C W)(hm:m≤100)(hn:n≤5000)(oX:0<m)(ux:0<n):
  Rt 230 [.agg (Bp p m n).toArray] W (fun v w'=>∃a,v= .pointer (some ⟨a.tb,0,none⟩)∧qn a (T0 m n A B)∧Hp W [] w' (zB a (T0 m n A B))):=by
 refine tW func230 ntmps230 fun hp=>?_;refine qR ?_;refine tQ fun w1 pb hp=>?_;have hp:=hp.I 0 (Bp p m n) O O;have hp:Hp W [] w1 [bu pb 3 _ 248]:=hp;refine tL (jMe m _ _ B _ (hP.hB.i7 hp.Z) O1) ?_;rintro _ w2 ⟨sR,cR,rfl,hU,hpo⟩;have hp:=hp.C hpo;clear hpo;have hp:=((hp.j7 jO 43 1).j7 eI 3 1).j7 eI 3 1;refine qR ?_;refine jM (tF (kW hp O O O) fun w3 tb hp=>?_);have hp:=hp.I 0 (gH (wh tb sR cR _ 0 _ 0) (d0 m n A B [] [])) O O;have hp:=(hp.j7 eQ 49 3).perm (eF (l₁:=[_,_,_,_,_,_]));have hp:=hp.perm (List.Perm.cons _ (eF (l₁:=[_])));have hp:Hp W [] w3 ([_]++gL (wh tb sR cR _ 0 _ 0) _):=hp;refine qA (qQ ([4]++List.range' 15 24) (fun(k:Nat) F=>F.put 15 (Iv (k:Int))) (fun k w'=>k≤n∧∃sN cN sG cG,kg sN cN (lm k Nf)∧kg sG cG (lm k Gf)∧Hp W [] w' ([_]++gL (wh tb sR cR sN cN sG cG) (d0 m n A B (lm k Nf) (lm k Gf)))) (fun k=>n-k) 0 (qB (ka.eq .refl) O) ⟨O1,none,0,none,0,kg.nil,kg.nil,hp⟩ ?_);clear hp;rintro u k w4 ⟨hk,sN,cN,sG,cG,xd,ub,hp⟩;refine tI (fun h=>?_) fun h=>?_
 ·refine qA ?_;refine tF (jC (cs:=[.int _ k]) hp O O O O O O O) fun w5 b1 hp=>AB (jV eI (lm k Nf) k hp 4 0 O O O O O O (fun _=>O) O O O xd O O (by rw[qT];omega)) fun w6 sd ce⟨hq,hp⟩=>tT fun w7 hp=>?_;have hp:=hp.I 2 (gH (wh tb sR cR sd _ sG cG) (d0 m n A B (lm k Nf++[_]) _)) O O;have hp:Hp W [] w7 ([_]++gL (wh tb sR cR _ _ sG cG) _):=hp.E;have eN:lm k Nf++[(k:Int)]=_:=kh.symm;rw[eN] at hp hq;have ay:=hp;have ha:([bu pb 3 (qE (Bp p m n)) 248]++gL (wh tb sR cR sd ce sG cG) (d0 m n A B (lm (k+1) Nf) (lm k Gf)))[6]? =some (qG eQ 49 3 sG cG (lm k Gf)):=O;have cH:w7.cell? ⟨tb,4,_⟩=some (.slice sG (lm k Gf).length cG):=hp.J 1 O O;have aa:tb∉zG _:=hp.j9 ha (j:=1) O O1 O;have hp:=ay.j8 6 ha;refine qR ?_;refine xL 10 O jG O3 (fun w'=>ax _ w7 w') hp.U.Z ?_;have hp:=hp.U;refine qX ?_;apply kp;rfl;intro w hk;exact qS O O (hk.cell cH aa);exact fS O;refine tK (wM _) ?_;rintro _ w8 ⟨rfl,hk⟩;have hp:=hp.V hk;refine⟨hp.Z,?_⟩;apply Ag;rfl;exact jC (cs:=eQ 0) hp O O O O O O O;rintro _ w9 ⟨b2,rfl,hp⟩;refine⟨hp.Z,?_⟩;apply Ag;rfl;exact jV eQ _ 0 hp 1 0 O O O O O O jT O O O ub O O (by rw[qT];omega);rintro _ uy ⟨se,cf,rfl,ht,hp⟩;refine⟨hp.Z,qX (qU ?_)⟩;have hp:=ay.j5 6 ha hp.E;refine gx.mono (jD hp 1 O O O O (qD O) O) ?_;rintro _ uz ⟨rfl,hp⟩;have eG:lm k Gf++[0]=_:=kh.symm;rw[eG] at hp ht;refine Ae ?_;exact⟨k+1,qB O5 O,⟨O1,_,_,_,_,hq,ht,hp⟩,O1⟩
 obtain rfl:n=k:=O1;refine qA (qQ ([5,6]++range' 42 31) (fun(k:Nat) F=>F.put 42 (Iv (k:Int))) (fun k w'=>k≤m∧∃sB cB sC cC rg rc,kg sB cB (lm k (Bf n))∧kg sC cC (AH (g2 tb sR cR sN cN sG cG sB cB sC cC rg rc) (d2 m n A B k (lm k (Bf n))))∧(∀i,i<k→kg (rg i) (rc i) (lm n (A i)))∧Hp W [] w' ([_]++gL (g2 tb sR cR sN cN sG cG sB cB sC cC rg rc) (d2 m n A B k (lm k (Bf n))))) (fun k=>m-k) 0 (qB (ka.eq .refl) O) ⟨bL _,none,0,none,0,fun _=>none,fun _=>0,kg.nil,kg.nil,fun i hi=>O1,hp⟩ ?_);clear hp;rintro u2 k u0 ⟨zw,sB,cB,sC,cC,rg,rc,sf,hK,im,hp⟩;refine tI (fun h=>?_) fun h=>?_
 ·have hl:k<m:=O1;have hy:=zM hP.hA hl 0 _ O;refine qA ?_;have ay:=hp;have ha:([bu pb 3 (qE (Bp p m n)) 248]++gL (g2 tb sR cR sN cN sG cG sB cB sC cC rg rc) (d2 m n A B k (lm k (Bf n))))[2]? =some (qG eI 3 1 sB cB (lm k _)):=O;have cH:u0.cell? ⟨tb,0,_⟩=some (.slice sB (lm k _).length cB):=hp.J 1 O O;have cP:u0.cell? ⟨pb,2,_⟩=some (.slice _ n p.cC):=hp.J 0 O O;have aa:tb∉zG _:=hp.j9 ha (j:=1) O O1 O;have ab:=hp.j9 ha (j:=0) O O1 O;have hp:=ay.j8 2 ha;refine xL 14 O jG O3 (fun w'=>ax _ _ w') hp.U.Z ?_;have hp:=hp.U;refine qX ?_;apply kp;rfl;intro w hk;exact qS O O (hk.cell cH aa);exact fS O;refine qX ?_;apply kp;rfl;intro w hk;exact qS O O (hk.cell cP ab);exact fS O;refine qX ?_;refine tA ?_;apply Ag;rfl;exact jC (cs:=eI (Bf n k)) hp O O O O O O O;rintro _ u5 ⟨b1,rfl,hp⟩;refine⟨hp.Z,?_⟩;apply Ag;rfl;exact jV eI _ _ hp 1 0 O O O O O O (fun _=>O) O O O sf O O (by rw[qT];omega);rintro _ hg ⟨sa,ca,rfl,hh,hp⟩;refine⟨hp.Z,qX (qU ?_)⟩;have hp:=ay.j5 2 ha hp.E;refine gx.mono (jD hp 1 O O O O (qD O) O) ?_;rintro _ u4 ⟨rfl,hp⟩;have hp:=hp.I 1 (gH (g2 tb sR cR sN cN sG cG _ _ sC cC rg rc) (d2 m n A B k _)) O O;have hp:Hp W [] _ ([_]++gL (g2 tb sR cR sN cN sG cG _ _ sC cC rg rc) _):=hp;have eB:_=lm (k+1) (Bf n):=kh.symm;rw[eB] at hp hh;have ay:=hp;have ha:([bu pb 3 (qE (Bp p m n)) 248]++gL (g2 tb sR cR sN cN sG cG sa ca sC cC rg rc) (d2 m n A B k (lm (k+1) (Bf n))))[4]? =some (qG jO 43 1 sC cC _):=O;have cH:u4.cell? ⟨tb,2,_⟩=some (.slice sC k cC):=hp.J 1 O O;have aa:tb∉zG _:=hp.j9 ha (j:=1) O O1 O;have hQ:(AH (g2 tb sR cR sN cN sG cG sa ca sC cC rg rc) (d2 m n A B k (lm (k+1) (Bf n)))).length=k:=by
   unfold AH;rw[qT];rfl
  have hp:=ay.j8 4 ha;refine qR ?_;refine xL 11 O jG O3 (fun w'=>ax _ _ w') hp.U.Z ?_;have hp:=hp.U;refine qX ?_;apply kp;rfl;intro w hk;exact qS O O (hk.cell cH aa);exact fS O;refine qX ?_;refine tK (jMe n _ _ _ _ ((hP.hr k hl).i7 (ay.j5 4 ha hp).keeps) O1) ?_;rintro _ u3 ⟨s',c',rfl,hz,hpo⟩;have hp:=hp.C hpo;clear hpo;refine⟨hp.Z,?_⟩;apply Ag;rfl;exact jC (cs:=[.slice s' _ c']) hp O O O O O O O;rintro _ vb ⟨b2,rfl,hp⟩;refine⟨hp.Z,?_⟩;apply Ag;rfl;exact jV jO _ (s',(lm n _).length,c') hp 2 0 O O O O O O (fun _=>O) (by rw[hQ];rfl) O O (jZ hK (by rfl)) O O O1;rintro _ vd ⟨sc,cc,rfl,hx,hp⟩;refine⟨hp.Z,qX (qU ?_)⟩;have hp:=hp.E.perm (iR _ _ _);have hp:=ay.aA2 4 ha hp;have hj:(AH (g2 tb sR cR sN cN sG cG sa ca sC cC rg rc) (d2 m n A B k (lm (k+1) (Bf n)))++[(s',(lm n (A k)).length,c')]).length=k+1:=by
   rw[aY,hQ];rfl
  rw[hj];refine gx.mono (jD hp 1 O O O O (qD O) O) ?_;rintro _ vc ⟨rfl,hp⟩;have hp:=hp.I 1 (gH (Gk (g2 tb sR cR sN cN sG cG _ _ sC cC rg rc) k _ _ s' c') (d2 m n A B (k+1) _)) O O;have hp:Hp W [] vc ([bu pb 3 (qE (Bp p m n)) 248]++gL (Gk (g2 tb sR cR sN cN sG cG sa ca sC cC rg rc) k sc cc s' c') (d2 m n A B (k+1) (lm (k+1) (Bf n)))):=by
   have e:=jKu (a:=g2 tb sR cR sN cN sG cG sa ca sC cC rg rc) (d:=d2 m n A B k (lm (k+1) (Bf n))) (sC:=sc) (cC:=cc) (s':=s') (c':=c');exact Eq.mp (aK (fun L=>Hp W [] vc ([bu pb 3 (qE (Bp p m n)) 248]++L)) e.symm) hp
  refine Ae ?_;refine⟨k+1,qB O5 O,⟨O1,_,_,_,_,_,_,hh,?_,fun i hi=>?_,hp⟩,O1⟩
  ·have e:=ZQ (a:=g2 tb sR cR sN cN sG cG sa ca sC cC rg rc) (d:=d2 m n A B k (lm (k+1) (Bf n))) (sC:=sc) (cC:=cc) (s':=s') (c':=c');exact Eq.mp (aK _ e.symm) hx
  by_cases px:i=k
  ·grind
  simp[if_neg px];exact im i O1
 obtain rfl:m=k:=O1;have gb:Hq (g2 tb sR cR sN cN sG cG sB cB sC cC rg rc) (xZ (T0 m n A B)):=⟨sf,xd,hK,hU,ub,im⟩;have⟨ok,e⟩:=jM7 gb oX ux;have hp:Hp W [] u0 (_++gL _ (xZ (T0 m n A B))):=hp;rw[e] at hp;refine tV ?_;exact⟨_,O,_,O,ok,hp.E⟩
variable{R:Ending→World→Prop}{b2 p t:Nat}{us:List Value}
theorem qQ8{fn:Func}{ty o2:Nat}{vs:List Value}(h:fn.results= #[.cell p ty,.cell t ty])(h1:FJ ty=some k)(hz:ED ty=some k)
  (hx:ev n F (.tmp p)= .pointer (some ⟨b,o,none⟩)) (hy:ev n F (.tmp t)= .pointer (some ⟨b2,o2,none⟩)) (hl:vs.length=k) (qq:us.length=k) (hc:∀(j:Nat) (v:Value),vs[j]? =some v→w.cell? ⟨b,o+j,none⟩=some v) (u6:∀(j:Nat) (v:Value),us[j]? =some v→w.cell? ⟨b2,o2+j,none⟩=some v):
  (results fn (act n F).tmps).run prog w= .ok (.tuple #[.agg vs.toArray,.agg us.toArray]) w:=by
 have⟨q,hq,uu⟩:=Mc h1;have hk:=qD hz;have e1:=vN (P:=prog) b o vs 0 #[] (fun j v hv=>by simpa using hc j v hv);have e2:=vN (P:=prog) b2 o2 us 0 #[] (fun j v hv=>by simpa using u6 j v hv);rw[hl] at e1;rw[qq] at e2;have hY:(act n F).tmps.getD p undef= .pointer (some ⟨b,o,none⟩):=by
  rw[←hx,←zF];rfl
 have nq:=by simpa using hY
 have nt:(act n F).tmps.getD t undef= .pointer (some ⟨b2,o2,none⟩):=by
  rw[←hy,←zF];rfl
 have nr:=by simpa using nt
 simp[results,h,nq,nr,asAddr,loadVar,L6 hq uu,loadCells,hk.run,e1,e2]
theorem jAq{fn:Func}{ty o2:Nat}{vs:List Value}(h:fn.results= #[.cell p ty,.cell t ty])(h1:FJ ty=some k)(hz:ED ty=some k)
  (hx:ev n F (.tmp p)= .pointer (some ⟨b,o,none⟩)) (hy:ev n F (.tmp t)= .pointer (some ⟨b2,o2,none⟩)) (hl:vs.length=k) (qq:us.length=k) (hc:∀(j:Nat) (v:Value),vs[j]? =some v→w.cell? ⟨b,o+j,none⟩=some v) (u6:∀(j:Nat) (v:Value),us[j]? =some v→w.cell? ⟨b2,o2+j,none⟩=some v)
  (hr:R (.returned (.tuple #[.agg vs.toArray,.agg us.toArray])) w):Gh prog n fn R .ret F w:=
 ⟨_,qQ8 h h1 hz hx hy hl qq hc u6,hr⟩
theorem zAt(n κ:Nat)(a c:Nat→Rat)(my:Array Value)(W:World)(hf:∀k,k<n→∀w,ax [] W w→Rt 236 ([Iv (k:Int)]++my.toList) w (fun u w'=>u= .tuple #[QV (a k),QV (c k)]∧ax [] w w'))(hn:n≤1000000)
  (ha:∀k,k<n→BQ κ (a k)) (hc:∀k,k<n→BQ κ (c k)) (hs:∀k,k≤n→BQ κ (wr k fun j=>a j*c j)) (hκ:3*κ+1≤1000000000000):
  Rt 235 [Iv (n:Int),.func (.func 236) #[] my] W (fun u w'=>u=QV (wr n fun j=>a j*c j)∧ax [] W w'):=by
 refine tW func235 ntmps235 fun hp=>?_;refine vK fun w b hp=>?_
 refine tC (wM _) fun w1 hp=>?_;refine tQ fun w2 b5 hp=>?_;refine tS fun w3 hp=>?_;have hp:=hp.I 0 (eQ (wr 0 fun j=>a j*c j)) O O;have hp:=hp.I 1 [.bool _,.string _,.string _] O O;refine qA (qQ ([6,7,8]++List.range' 11 15) (fun(k:Nat) F=>F.put 11 (.int _ k)) (fun k w'=>k≤n∧Hp W [] w' [bu b5 3 (qE (eQ (wr k _))) 49,bu b 3 _ 49]) (fun k=>n-k) 0 (qB (ka.eq .refl) O) ⟨O1,hp⟩ ?_);clear hp;rintro u k w4 ⟨hk,hp⟩;refine tI (fun h=>?_) fun h=>?_
 ·have hl:k<n:=O1;refine tD (hf k hl _ hp.Z) fun w5 hp=>?_;refine qA ?_;refine tQ fun w6 b7 hp=>?_;refine tQ fun w7 b8 hp=>?_;refine tS fun w8 hp=>?_;refine tS fun w9 hp=>?_;refine qR ?_;refine jU jG O3 (fun w'=>Hp W [] w' _) hp.U ?_;have hp:=hp.U;refine tH (Fh _ (ha k hl) (hc k hl) O1) fun uy hp=>?_;refine tG (Gb _ (hs k O1) ((ha k hl).mul (hc k hl)) O1) fun uz hp=>?_;refine tS fun u0 hp=>?_;refine qU (tB ?_);refine qA ?_;exact⟨k+1,qB O5 O,⟨O1,hp.E.E⟩,O1⟩
 obtain rfl:n=k:=O1;refine Cc fun w hp=>?_
 exact Uy
theorem Ov.neg{M a}(h:Ov D M a):Ov D M (-a):=by
 have⟨x,h1,h2⟩:=h;refine⟨-x,?_,O1⟩;grind
theorem SF(X:Nat→Rat):∀k:Nat,wr k (fun j=>(if j=0 then 1 else 0)*X j)=if k=0 then 0 else X 0
 |0=>rfl
 |k+1=>by
  simp only[wr];rw[SF];grind
def Io(κ n:Nat)(X:Nat→Rat):Prop:=∃D M,0<D∧D≤M∧M<2^κ∧∀j,j<n→Ov D M (X j)
theorem Io.mono{κ κ' n X}(h:Io κ n X)(hk:κ≤κ'):Io κ' n X:=by
 have⟨D,M,h1,h2,h3,h4⟩:=h;exact⟨D,M,h1,h2,dK h3 (bG O2 hk),h4⟩
structure MG(m n:Nat)(A:Nat→Nat→Rat)(B:Nat→Rat)(X Y:Nat→Rat):Prop where
 feas:BL m n A B X
 pos:∀i,i<m→0≤Y i
 dual:∀j,j<n→(if j=0 then 1 else 0)≤wr m (fun i=>A i j*Y i)
 val:X 0=wr m (fun i=>B i*Y i)
def z5:List Value:=[Zs,Zs,.bool false,.string ⟨#[]⟩,.string ⟨#[]⟩]
def DQ(sX:Option Addr)(lX cX:Nat)(sY:Option Addr)(lY cY:Nat)(q:List Value):List Value:=[.slice sX lX cX,.slice sY lY cY]++q
def Cu(j:Nat):Rat:=if j=0 then 1 else 0
theorem jC9{v}(h:V0 m n v):v∈(range (n+m)).map (fun k:Nat=>(k:Int)):=by
 have⟨h1,h2⟩:=h;refine bM.2 ⟨v.toNat,aR.2 O1,O1⟩
theorem zB8(p:PA)(m n κ M0:Nat)(A:Nat→Nat→Rat)(B:Nat→Rat)(K:Rat)(W:World)(hP:Ep p m n A B Cu W)(hm:m≤100)(hn:n≤5000)(hE:0<m)(ux:0<n)
  (hb:(T0 m n A B).q8 M0) (hM:gr M0 m<2^κ) (hκ:4*κ+1≤1000000000000) (hy:1≤κ) (hx:∃x,BL m n A B x) (hK:∀x,BL m n A B x→x 0≤K):
  Rt 164 [.agg (Bp p m n).toArray] W (fun v w'=>∃X Y gX cX gY cY,v= .tuple #[.agg (DQ (Ad gX) n cX (Ad gY) m cY (eQ (X 0))).toArray,Iv 0]∧MG m n A B X Y∧Io κ n X∧(∀i,i<m→BQ κ (Y i))∧
   kg (Ad gX) cX (lm n X)∧kg (Ad gY) cY (lm m Y)∧Hp W [] w' [qG eQ 49 3 (Ad gX) cX (lm n X),qG eQ 49 3 (Ad gY) cY (lm m Y)]):=by
 have hT:=jNb (m:=m) (n:=n) (A:=A) (B:=B);have tc:∀u:Tb,u.ok _→(∀x,_↔_)→u.m=m→(∃M,_∧M<_):=fun u h1 h2 h3=>by
  have h4:=jN7 h1 hT (fun x=>(h2 x).symm) hb;rw[h3] at h4;exact⟨_,h4,hM⟩
 have bA:∀i j,i<m→j<n→BQ κ (A i j):=by
  obtain⟨D,hD,hh,h1,h2⟩:=hb.ex;exact fun i j hi hj=>wQ hD hh (bW NB hM) (h2 i j hi hj)
 have bB:∀i,i<m→BQ κ (B i):=by
  obtain⟨D,hD,hh,h1,h2⟩:=hb.ex;exact fun i hi=>wQ hD hh (bW NB hM) (h1 i hi)
 have bC:∀j,j<n→BQ κ (Cu j):=fun j _=>by
  unfold Cu;split
  ·exact BQ.one hy
  exact BQ.zero hy
 have xh:V0 m n 0:=by simp only[V0];omega
 have x5:=hP.hC.lt jT O2 (by
  intro e;have:(lm n Cu).length=0:=by rw[e];rfl
  rw[qT] at this
  omega) O
 refine tW func164 ntmps164 fun hp=>?_;refine qR ?_;refine tQ fun w1 pb hp=>?_;have hp:=hp.I 0 (Bp p m n) O O;refine tF (Y7 hp (qJ O)) fun w2 b2 hp=>?_;have hp:=hp.I 0 z5 O O;have hp:Hp W [] w2 [bu b2 5 _ 244,bu pb 3 _ 248]:=hp;refine qR ?_;refine tR qY (qR ?_);refine ke (qL (vs:=Bp p m n) O O O O (hp.j2 1 (o:=0) (k:=3) O O)) O (tK (zAx p m n κ A B Cu _ (hP.j1 hp.Z) hm hn bA bB bC O1) ?_);rintro _ w3 ⟨rfl,hk⟩;have hp:=hp.V hk;refine qA (qN O ?_);refine qR (ke (qL (vs:=Bp p m n) O O O O (hp.j2 1 (o:=0) (k:=3) O O)) O ?_);refine tK (zAw p m n A B Cu _ (hP.j1 hp.Z) hm hn hE ux) ?_;rintro _ w4 ⟨a,rfl,ok,hpo⟩;have hp:=(hp.C hpo).swap;clear hpo;have hp:=hp;refine qA ?_
 (apply Ax;exact qC O (fun _ _=>O3) O (zAv a _ _ κ M0 _ _ _ ok hT (by simp only[V0];omega) (fun v hv=>jC9 hv) (fun _ _=>O) (by
   obtain⟨x,hx⟩:=hx;obtain⟨y,h1,h2,_⟩:=jLy hx
   grind) hb hM hκ hy (show m≤_ by omega) (show n≤_ by omega) ux (Hp.k6 hp));rintro _ w5 ⟨rfl,a2,u,oc,zi,hQ,eV,hJ,x1,xt,hpo⟩;have hp:=Hp.back hp hpo;clear hpo)
 have hQ:u.m=m:=hQ;have eV:u.n=n:=eV;rw[←zi];refine qA (qN O ?_);refine qR ?_;have xk:p.gC∉zG _:=fun h=>by
  obtain⟨q,hq,ii⟩:=xX.1 h;rcases hp.q0 (aQ _ hq) _ ii with h1|h1
  ·omega
  cases h1
 obtain⟨M1,au,x3⟩:=tc u hJ xt hQ;refine tR qP (ke (qL (vs:=Bp p m n) O O O O (hp.j2 1 (o:=0) (k:=3) O O)) O ?_)
 (apply Ax;exact qC O (fun _ _=>O3) O (zAu a2 u _ κ n m m _ _ _ _ _ _ Cu _ _ oc hJ (fun v hv=>hv.1) (fun v hv=>by
   have⟨h1,h2⟩:=hv;unfold wm Cu;grind) (by
   have⟨D,hD,hh,h1,h2⟩:=au.ex
   exact fun i j hi hj=>wQ hD hh x3 (h2 i j hi hj)) O1 hy O1 O1 O1 (hP.hC.i7 hp.Z) xk (Hp.k6 hp));rintro _ w6 ⟨rfl,hpo⟩;have hp:=Hp.back hp hpo;clear hpo)
 have od:qn a2 (agV u):=oc.cast O O;have⟨c0,x0⟩:=jLo hJ xh;have xj:(agV u).ok _:=⟨hJ.bb,hJ.nn,hJ.bn,hJ.cov⟩;have dh:∀x,(agV u).sat x↔_:=xt;have xi:(agV u).feas:=x1;have hX:(agV u).m=m:=hQ;have xn:(agV u).n=n:=eV;generalize agV u=t1 at*
 have hz:∀x:Int→Rat,x 0=1*x 0:=fun x=>O6
 have tf:∀u' k',An t1 u' k'→Im u' κ:=fun u' k' hc=>by
  have hf:=hc.fin xj xi x0;have⟨c1,vx⟩:=hf.val;have⟨M2,aq,hL⟩:=tc u' hf.ok (fun x=>(hf.sat x).trans (dh x)) (hf.m.trans hX);exact RY hf.ok vx hz (.inl O) xh aq hL
 refine tL (jVo a2 t1 _ _ c0 κ _ _ _ od xj xi x0 (fun v hv=>jC9 hv) tf hκ hy O1 O1 (Hp.k6 hp)) ?_;rintro _ w7 ⟨bb,u1,kk,rfl,ha,xv,xu,hpo⟩;have hp:=Hp.back hp hpo;clear hpo;have o0:=ha.fin xj xi x0;have hS:=fun x=>(o0.sat x).trans (dh x)
 have xw:=o0.m.trans hX;have x4:=o0.n.trans xn;have⟨c1,vx⟩:=o0.val;cases bb with
 |false=>
  have⟨e,he,x7,xb⟩:=xu O;have⟨x,ht,nq,h7⟩:=ZZ o0.ok o0.feas vx he x7 (fun i hi=>O6) K;have:=hK _ (YC ((hS x).1 ht) nq);grind
 |true=>
 have xf:∀j,j<_→u1.g j≤0:=fun j hj=>by have:=xv O j hj;grind
 have oa:qn a2 u1:=oc.cast O1 O1;have hF:=o0.ok;have xx:=o0.feas;clear xv xu o0 tf x0 xj dh xi hX xn;refine qA (qN O ?_);refine qR (tF (Y7 hp (qJ O)) fun w8 sb hp=>?_);have hp:=hp.I 0 z5 O O;have hp:=(hp.j7 eQ 49 3).j7 eQ 49 3;have hp:Hp W [] w8 ([qG eQ 49 3 _ 0 (lm 0 Gf),_,bu sb 5 (qE (DQ _ (lm 0 Gf).length 0 _ 0 0 _)) 244,_,_]++_):=hp;refine qA (qQ (range' 30 9) (fun(k:Nat) F=>F.put 30 (Iv (k:Int))) (fun k w'=>k≤n∧∃sX cX,kg sX cX (lm k Gf)∧Hp W [] w' ([qG eQ 49 3 sX cX (lm k Gf),_,bu sb 5 (qE (DQ sX (lm k Gf).length cX none 0 0 _)) 244,_,_]++zB a2 u1)) (fun k=>n-k) 0 (qB (ka.eq .refl) O) ⟨O1,none,0,kg.nil,hp⟩ ?_);clear hp;rintro v k w9 ⟨hk,sX,cX,h8,hp⟩;refine tI (fun h=>?_) fun h=>?_
 ·have ay:=hp;have hg:([qG eQ 49 3 sX cX (lm k Gf),qG eQ 49 3 none 0 [],bu sb 5 (qE (DQ sX (lm k Gf).length cX none 0 0 [.bool false,.string ⟨#[]⟩,.string ⟨#[]⟩])) 244,bu b2 5 (qE z5) 244,bu pb 3 (qE (Bp p m n)) 248]++zB a2 u1)[0]? =some _:=O;have cH:w9.cell? ⟨sb,0,_⟩=some (.slice sX _ cX):=hp.J 2 O O;have aa:=hp.j9 hg (j:=2) O O1 O;have hp:=ay.j8 0 hg;refine qR ?_;refine xL 6 O jG O3 (fun w'=>ax _ w9 w') hp.U.Z ?_;have hp:=hp.U;refine qX ?_;apply kp;rfl;intro w hk;exact qS O O (hk.cell cH aa);exact fS O;refine tK (wM _) ?_;rintro _ uy ⟨rfl,hk⟩;have hp:=hp.V hk;refine⟨hp.Z,?_⟩;apply Ag;rfl;exact jC (cs:=eQ 0) hp O O O O O O O;rintro _ uz ⟨b3,rfl,hp⟩;refine⟨hp.Z,?_⟩;apply Ag;rfl;exact jV eQ _ 0 hp 1 0 O O O O O O jT O O O h8 O O (by rw[qT];omega);rintro _ u0 ⟨se,ce,rfl,xe,hp⟩;refine⟨hp.Z,qX (qU ?_)⟩;have hp:=ay.j5 0 hg hp.E;refine gx.mono (jD hp 2 O O O O (qD O) O) ?_;rintro _ u5 ⟨rfl,hp⟩;have eG:lm k Gf++[0]=_:=kh.symm;rw[eG] at hp xe;refine Ae ?_;exact⟨k+1,qB O5 O,⟨O1,_,_,xe,hp⟩,O1⟩
 obtain rfl:n=k:=O1
 obtain⟨gX,rfl⟩:=h8.addr (by
  intro e;have:(lm n Gf).length=0:=by rw[e];rfl
  rw[qT] at this
  omega)
 have hp:Hp W [] w9 ([qG eQ 49 3 (Ad gX) cX (lm n Gf),qG eQ 49 3 none 0 (lm 0 Gf),bu sb 5 (qE (DQ (Ad gX) n cX none (lm 0 Gf).length 0 [.bool false,.string ⟨#[]⟩,.string ⟨#[]⟩])) 244,bu b2 5 (qE z5) 244,bu pb 3 (qE (Bp p m n)) 248]++zB a2 u1):=by
  have:=hp;rw[show(lm n Gf).length=n from qT] at this;exact this
 refine qA (qQ (range' 42 9) (fun(k:Nat) F=>F.put 42 (Iv (k:Int))) (fun k w'=>k≤m∧∃sY cY,kg sY cY (lm k Gf)∧Hp W [] w' ([_,qG eQ 49 3 sY cY (lm k Gf),bu sb 5 (qE (DQ _ n cX sY (lm k Gf).length cY _)) 244,_,_]++zB a2 u1)) (fun k=>m-k) 0 (qB (ka.eq .refl) O) ⟨bL _,none,0,kg.nil,hp⟩ ?_);clear hp;rintro v2 k u2 ⟨hk,sY,cY,hZ,hp⟩;refine tI (fun h=>?_) fun h=>?_
 ·have ay:=hp;have hg:([qG eQ 49 3 (Ad gX) cX (lm n Gf),qG eQ 49 3 sY cY (lm k Gf),bu sb 5 (qE (DQ (Ad gX) n cX sY (lm k Gf).length cY [.bool false,.string ⟨#[]⟩,.string ⟨#[]⟩])) 244,bu b2 5 (qE z5) 244,bu pb 3 (qE (Bp p m n)) 248]++zB a2 u1)[1]? =some (qG eQ 49 3 sY cY (lm k Gf)):=O;have cH:u2.cell? ⟨sb,1,_⟩=some (.slice sY _ cY):=hp.J 2 O O;have aa:=hp.j9 hg (j:=2) O O1 O;have hp:=ay.j8 1 hg;refine qR ?_;refine xL 6 O jG O3 (fun w'=>ax _ _ w') hp.U.Z ?_;have hp:=hp.U;refine qX ?_;apply kp;rfl;intro w hk;exact qS O O (hk.cell cH aa);exact fS O;refine tK (wM _) ?_;rintro _ u4 ⟨rfl,hk⟩;have hp:=hp.V hk;refine⟨hp.Z,?_⟩;apply Ag;rfl;exact jC (cs:=eQ 0) hp O O O O O O O;rintro _ u3 ⟨b3,rfl,hp⟩;refine⟨hp.Z,?_⟩;apply Ag;rfl;exact jV eQ _ 0 hp 1 0 O O O O O O jT O O O hZ O O (by rw[qT];omega);rintro _ vb ⟨sd,ca,rfl,xr,hp⟩;refine⟨hp.Z,qX (qU ?_)⟩;have hp:=ay.j5 1 hg hp.E;refine gx.mono (jD hp 2 O O O O (qD O) O) ?_;rintro _ vd ⟨rfl,hp⟩;have eG:lm k Gf++[0]=_:=kh.symm;rw[eG] at xr;have hp:Hp W [] vd ([qG eQ 49 3 (Ad gX) cX (lm n Gf),qG eQ 49 3 sd ca (lm (k+1) Gf),bu sb 5 (qE (DQ (Ad gX) n cX sd (lm (k+1) Gf).length ca [.bool false,.string ⟨#[]⟩,.string ⟨#[]⟩])) 244,bu b2 5 (qE z5) 244,bu pb 3 (qE (Bp p m n)) 248]++zB a2 u1):=by
   rw[←eG];exact hp
  refine Ae ?_;exact⟨k+1,qB O5 O,⟨O1,_,_,xr,hp⟩,O1⟩
 obtain rfl:m=k:=O1
 obtain⟨gY,rfl⟩:=hZ.addr (by
  intro e;have:(lm m Gf).length=0:=by rw[e];rfl
  rw[qT] at this
  omega)
 have hp:Hp W [] u2 ([qG eQ 49 3 (Ad gX) cX (lm n fun j=>pick u1.B u1.b 0 (j:Int)),qG eQ 49 3 (Ad gY) cY (lm m Gf),bu sb 5 (qE (DQ (Ad gX) n cX (Ad gY) m cY [.bool false,.string ⟨#[]⟩,.string ⟨#[]⟩])) 244,bu b2 5 (qE z5) 244,bu pb 3 (qE (Bp p m n)) 248]++zB a2 u1):=by
  have:=hp;rw[show(lm m Gf).length=m from qT] at this;exact this
 have cc:=kg.cap h8;have te:Im u1 κ:=by
  have⟨M2,aq,hL⟩:=tc u1 hF hS xw;exact RY hF vx hz (.inl O) xh aq hL
 have sa:∀f:Nat→Rat,kg _ cX (lm n f):=fun f=>jZ h8 (by rw[qT,qT])
 have sc:∀f:Nat→Rat,kg _ cY (lm m f):=fun f=>jZ hZ (by rw[qT,qT])
 refine qA (qQ ([6,7]++range' 56 22) (fun(i:Nat) F=>F.put 56 (Iv (i:Int))) (fun i w'=>i≤u1.m∧Hp W [] w' ([qG eQ 49 3 _ cX (lm n fun j=>pick u1.B u1.b (i) (j:Int)),_,_,_,_]++zB a2 u1)) (fun i=>u1.m-i) 0 (qB (ka.eq .refl) O) ⟨bL _,hp⟩ ?_);clear hp;rintro v3 i ve ⟨hi,hp⟩;refine tI (fun h=>?_) fun h=>?_
 ·have hl:i<u1.m:=O1;have xq:=(kw.of _ hp oa).B i hl;obtain⟨kv,hU⟩:∃kv:Nat,u1.B i=(kv:Int):=⟨(u1.B i).toNat,by have h9:=(hF.cov _).2 (.inl ⟨i,hl,O⟩);have:=h9.1;omega⟩;rw[hU] at xq;refine tI (fun h2=>?_) fun h2=>?_
  ·have h5:kv<n:=O1;have e:(lm n fun j=>pick u1.B u1.b i (j:Int)).set kv (u1.b i)=lm n fun j=>pick u1.B u1.b (i+1) (j:Int):=by
    rw[vF];refine jH fun j _=>?_
    simp only[pick,hU];by_cases hj:j=kv
    ·grind
    rw[if_neg hj,if_neg O1]
   refine jU jG O3 (fun w'=>Hp W [] w' _) hp.U ?_;have hp:=hp.U;refine qX (tP (fun w hp=>qL (vs:=eQ (u1.b i)) O O O O ((kw.of [_,_,_,_,_] hp oa).b i hl)) ?_);refine qX ?_;apply xH;rfl;rfl;exact vL eQ _ kv _ hp 0 O (sa _) (by rw[qT];omega) O O jT O O (qD O);rintro _ hH ⟨rfl,hp⟩;have hp:Hp W [] hH ([qG eQ 49 3 (Ad gX) cX (lm n fun j=>pick u1.B u1.b (i+1) (j:Int)),qG eQ 49 3 (Ad gY) cY (lm m Gf),bu sb 5 (qE (DQ (Ad gX) n cX (Ad gY) m cY [.bool false,.string ⟨#[]⟩,.string ⟨#[]⟩])) 244,bu b2 5 (qE z5) 244,bu pb 3 (qE (Bp p m n)) 248]++zB a2 u1):=by
    rw[←e];exact hp
   exact Mn
  have e:_=lm n fun j=>pick u1.B u1.b (i+1) j:=jH fun j hj=>by
   simp only[pick,hU];rw[if_neg O1]
  rw[e] at hp;exact If
 obtain rfl:i=u1.m:=O1;have hp:Hp W [] ve ([_,qG eQ 49 3 _ cY (lm m fun i=>pick u1.N (fun j=>-u1.g j) (0) ((n:Int)+(i:Int))),_,_,_]++_):=hp;refine qA (qQ ([8,9]++range' 83 27) (fun(i:Nat) F=>F.put 83 (Iv (i:Int))) (fun i w'=>i≤u1.n∧Hp W [] w' ([_,qG eQ 49 3 _ cY (lm m fun i'=>pick u1.N (fun j=>-u1.g j) (i) ((n:Int)+(i':Int))),_,bu b2 5 (qE z5) 244,_]++zB a2 u1)) (fun i=>u1.n-i) 0 (qB (ka.eq .refl) O) ⟨bL _,hp⟩ ?_);clear hp;rintro v4 i xo ⟨hi,hp⟩;refine tI (fun h=>?_) fun h=>?_
 ·have hl:i<u1.n:=O1;have h6:=(kw.of _ hp oa).N i hl;have xd:=(hF.cov _).2 (.inr ⟨i,hl,O⟩);obtain⟨kv,hU⟩:∃kv:Nat,u1.N i=kv:=⟨(u1.N i).toNat,by have:=xd.1;omega⟩;have xc:=xd.2;rw[hU] at h6 xc;refine tI (fun h2=>?_) fun h2=>?_
  ·have x6:kv-n<m:=O1;have e:(lm m fun i'=>pick u1.N (fun j=>-u1.g j) i ((n:Int)+(i':Int))).set (kv-n) (-u1.g i)=lm m fun i'=>pick u1.N (fun j=>-u1.g j) (i+1) ((n:Int)+(i':Int)):=by
    rw[vF];refine jH fun j _=>?_
    simp only[pick,hU];by_cases hj:j=kv-n
    ·grind
    rw[if_neg hj,if_neg O1]
   refine qR ?_;refine jU jG O3 (fun w'=>Hp W [] w' _) hp.U ?_;have hp:=hp.U;refine qX ?_;refine tN (kv-n) ?_;refine qX (tP (fun w hp=>qL (vs:=eQ (u1.g i)) O O O O ((kw.of [_,_,_,_,_] hp oa).g i hl)) ?_);refine tK (jVn _ (BQ.fq (te.g i hl) O1)) ?_;rintro _ xl ⟨rfl,hk⟩;have hp:=hp.V hk;refine⟨hp,qX ?_⟩;apply xH;rfl;rfl;exact vL eQ _ _ _ hp 1 O (sc _) (by rw[qT];omega) O O jT O O (qD O);rintro _ hY ⟨rfl,hp⟩;have hp:Hp W [] hY ([qG eQ 49 3 (Ad gX) cX (lm n fun j=>pick u1.B u1.b u1.m (j:Int)),qG eQ 49 3 (Ad gY) cY (lm m fun i'=>pick u1.N (fun j=>-u1.g j) (i+1) ((n:Int)+(i':Int))),bu sb 5 (qE (DQ (Ad gX) n cX (Ad gY) m cY [.bool false,.string ⟨#[]⟩,.string ⟨#[]⟩])) 244,bu b2 5 (qE z5) 244,bu pb 3 (qE (Bp p m n)) 248]++zB a2 u1):=by
    rw[←e];exact hp
   exact Mn
  have e:_=lm m fun i'=>pick u1.N (fun j=>-u1.g j) (i+1) (n+i'):=jH fun j hj=>by
   simp only[pick,hU];rw[if_neg O1]
  rw[e] at hp;exact If
 obtain rfl:i=u1.n:=O1;obtain⟨X,xg⟩:∃X:Nat→Rat,X=fun v:Nat=>pick u1.B u1.b u1.m v:=⟨_,O⟩
 obtain⟨Y,xp⟩:∃Y:Nat→Rat,Y=fun i:Nat=>pick u1.N (fun j=>-u1.g j) u1.n (n+i):=⟨_,O⟩
 have⟨s1,s2,s3,s4⟩:=jNz ux hF xx hS vx xf X Y (fun v _=>by rw[xg]) (fun i _=>by rw[xp]);obtain⟨oX,bc,ba⟩:Io κ n X∧(∀j,BQ κ (X j))∧∀i,BQ κ (Y i):=by
  have⟨M2,aq,hL⟩:=tc u1 hF hS xw;have⟨D,hD,hh,e1,e2⟩:=aq.ex;exact⟨⟨D,M2,hD,hh,hL,fun j _=>by rw[xg];exact OE e1⟩,fun j=>by rw[xg];exact wQ hD hh hL (OE e1),fun i=>by rw[xp];exact wQ hD hh hL (OE fun j hj=>(YD hF vx hz (.inl O) xh hh e2 j hj).neg)⟩
 rw[←xg,←xp] at hp;have dt:(wr n fun j=>Cu j*X j)=X 0:=by
  have:=SF X n;exact T6
 refine qA ?_
 (apply Ax;exact qC O (fun _ _=>O3) O (zAt n κ Cu X #[.pointer (Ad pb),.pointer (Ad sb)] _ (fun k hk w hV=>by
   have hq:=hp.V hV;exact(by have p.cC:=zM (hP.hC.i7 hq.keeps) hk;have cX:=zM (qZ hq 0 O (sa _) jT) hk;refine tW func236 ntmps236 fun hp=>?_;refine qR ?_;refine tQ fun w1 b4 hp=>?_;refine tQ fun w2 b5 hp=>?_;refine qR (kU true jG O3 (fun w'=>ax [] w w') hp.U.Z ?_);have hp:=hp.U;refine qX ?_;apply kp;rfl;intro w hk;exact qS O O (hk.cell (hq.cell 4 O O) O4);exact fS O;refine qX ?_;apply kp;rfl;intro w hk;exact qL O O O O (fun j v hv=>hk.cell (p.cC j v hv) O4);exact DF O;refine qX ?_;apply kp;rfl;intro w hk;exact qS O O (hk.cell (hq.cell 2 O O) O4);exact fS O;refine qX ?_;apply kp;rfl;intro w hk;exact qL O O O O (fun j v hv=>hk.cell (cX j v hv) O4);exact DF O;apply GL;rfl;exact qW hp 1 O O O O (qD O) O;rintro _ w3 ⟨rfl,hp⟩;refine⟨hp.Z,?_⟩;apply GL;rfl;exact qW hp 0 O O O O (qD O) O;rintro _ w4 ⟨rfl,hp⟩;refine⟨hp.Z,?_⟩;refine qU (qA ?_);exact jAq O O O O O O O (hp.j2 1 (k:=3) O O) (hp.j2 0 (k:=3) O O) ⟨_,O,O,hp.Z⟩)) O1 bC (fun j _=>bc j) (fun k hk=>by
   have:=SF X k;rw[show(wr k fun j=>Cu j*X j)=_ from this];split
   ·exact BQ.zero hy
   grind) O1);rintro _ x2 ⟨rfl,hk⟩;have hp:=hp.V hk)
 rw[dt];refine tT fun xy hp=>?_;refine qR (ke (qL (vs:=DQ (Ad gX) n cX (Ad gY) m cY (eQ (X 0))) O O O O (hp.j2 2 (o:=0) (k:=5) O O)) (O:_=Value.agg (DQ (Ad gX) n cX (Ad gY) m cY (eQ (X 0))).toArray) ?_);refine tO (zH hp 3 O O O O (qD O) O O) fun xz hp=>?_;refine qA ?_;exact yP O O O O O (hp.j2 3 O O) ⟨_,O,X,Y,gX,cX,gY,cY,O,⟨s1,s2,s3,s4⟩,oX,fun i _=>ba i,sa _,sc _,hp.x (show List.Sublist _ ([_,_]++_) from eY _ _)⟩
variable{et kt:TypeId}{zv:Value}
structure E8(P:Program)(kt:TypeId)(α:Type)[DecidableEq α] where
 enc:α→Value
 fk:∀(a:α) (l:List (α×Value×Nat)) (w:World),(Instr.findKey kt (enc a) (l.map fun x=>({key:=enc x.1,val:=x.2.1,born:=x.2.2}:MapEntry))).run P w= .ok (DB a l 0) w
 bits:∀a,Instr.sameBits 10000 (enc a) (enc a)=true
 plain:∀(w:World) (e:Bool) (a:α),(Instr.checkKey e 10000 kt (enc a)).run P w= .ok () w
section
variable[DecidableEq α](K:E8 P kt α){L:List kr}
def HC(x:α×Value×Nat):MapEntry:={key:=K.enc x.1,val:=x.2.1,born:=x.2.2}
theorem E8.fk'(a:α)(l w):(Instr.findKey kt (K.enc a) (l.map (HC K))).run P w= .ok (DB a l 0) w:=K.fk a l w
def NL(f:α→Option Value):Obj→Prop:=fun o=>∃(l:List (α×Value×Nat)) (clock:Nat),o= .map (l.map (HC K)).toArray clock∧(∀a,lk l a=f a)∧Ip l clock
theorem qQ7{mt z}{f:α→Option Value}{o}(hm:P.underlying mt=some (.map kt et))(hz:kx P et z)(hb:w.heap[b]? =some o)(ho:NL K f o)(a:α):
  (Instr.lookup mt (.map (some b)) (K.enc a) true).run P w= .ok (.tuple #[(f a).getD z,.bool (f a).isSome]) w:=by
 obtain⟨l,clock,rfl,hl,ha⟩:=ho;have hg:(getObj b).run P w= .ok (.map (l.map (HC K)).toArray clock) w:=by simp[getObj,Sem.run,hb]
 simp only[Instr.lookup,bT,jQ hm,aN,hg,K.plain,dZ,K.fk'];rw[←hl,←HR a l 0];cases hf:DB a l 0 with
 |none=>simp[hz.run]
 |some y=>simp
theorem jD9{mt}{f:α→Option Value}{o}(hm:P.underlying mt=some (.map kt et))(hb:w.heap[b]? =some o)(ho:NL K f o)(a:α)(v):
  ∃w' o',(Instr.mapUpdate mt (.map (some b)) (K.enc a) v).run P w= .ok () w'∧ax [b] w w'∧w'.heap[b]? =some o'∧NL K (fun x=>if x=a then some v else f x) o':=by
 obtain⟨l,clock,rfl,hl,hh⟩:=ho;have hg:(getObj b).run P w= .ok (.map (l.map (HC K)).toArray clock) w:=by simp[getObj,Sem.run,hb]
 have ha:=(aM.1 hb).1;have hT:∀o',(setObj b o').run P w= .ok () {w with heap:=w.heap.setIfInBounds b o'}:=by
  intro o';simp[setObj,Sem.run,hb]
 have hz:∀o',ax [b] w {w with heap:=w.heap.setIfInBounds b o'}:=fun o'=>⟨O,O,O,O4,fun k _ pw=>by
  grind⟩
 have hn:∀o',(w.heap.setIfInBounds b o')[b]? =some o':=fun o'=>O6
 cases hf:DB a l 0 with
 |none=>
  refine⟨_,_,?_,hz _,hn _,l++[(a,v,clock)],_,O,fun x=>?_,hh.push (by rw[←HR,hf];rfl)⟩
  ·simp only[Instr.mapUpdate,bT,jQ hm,aN,hg,K.plain,K.fk',hf,hT];simp[HC]
  rw[YN a v _ l (by rw[←HR,hf];rfl),hl]
 |some y=>
  have⟨j,u⟩:=y;have⟨k,hj,pw,⟨x,hx,hy⟩,hq⟩:=Si a v l 0 j u hf;have vt:j=k:=O1;subst vt;refine⟨_,_,?_,hz _,hn _,l.modify j fun x=>(x.1,v,x.2.2),_,O,fun x=>?_,hh.p3 _ _⟩
  ·have ht:(((l.map (HC K)).toArray[j]?).map (·.key)).getD (K.enc a)=K.enc a:=by
    simp[hx,HC,hy]
   simp only[Instr.mapUpdate,bT,jQ hm,aN,hg,K.plain,K.fk',hf,ht,Instr.keyThatStays,K.bits,if_true,dZ,hT];congr 3;congr 1;apply Array.ext_getElem?;intro i;by_cases zn:j=i
   ·subst zn;simp[hx,HC,hy]
   grind
  grind
end
section
variable[DecidableEq α]{K:E8 P kt α}{n:ky}{L:List kr}{pos:String}{x z:Operand}
def zV(K:E8 P kt α)(b:Nat)(f:α→Option Value):kr:=(some b,NL K f)
theorem qH0{mt}{f:α→Option Value}{a:α}(hp:Hp w0 M w L)(i:Nat)(hi:L[i]? =some (zV K b f))(hx:ev n F x= .map (some b))(hy:ev n F y=K.enc a)
  (hm:P.underlying mt=some (.map kt et)) (hz:kx P et zv):PV P n w F ⟨d,.lookup mt x y true,ty,pos,aft,g⟩ (.tuple #[(f a).getD zv,.bool (f a).isSome]):=by
 have⟨o,ho,hf⟩:=hp.N i _ hi b O;simp[PV,execOp,hx,hy,qQ7 K hm hz ho hf a]
theorem qLc{mt}{f:α→Option Value}{a:α}{v}(hp:Hp w0 M w L)(i)(hi:L[i]? =some (zV K b f))(hx:ev n F x= .map (some b))(hy:ev n F y=K.enc a)(hv:ev n F z=v)
  (hm:P.underlying mt=some (.map kt et)):
  gx P n ⟨d,.mapUpdate mt x y z,ty,pos,aft,g⟩ F w (fun u w'=>u=undef∧Hp w0 M w' (L.set i (zV K b (fun x=>if x=a then some v else f x)))):=by
 have⟨o,ho,hf⟩:=hp.N i _ hi b O;have⟨w',o',hr,pw,oc,ha⟩:=jD9 K hm ho hf a v;refine wE ?_ ⟨O,hp.p3 hi (by simpa[zV] using pw) ?_⟩
 ·simp[execOp,hx,hy,hv,hr]
 intro b1 oa;have:b1=b:=by simpa[zV,eq_comm] using oa
 exact Ur
theorem qJs{mt}(K:E8 P kt α)(hp:Hp w0 M w L):
  gx P n ⟨d,.makeMap mt none,ty,pos,aft,g⟩ F w (fun u w'=>∃b,u= .map (some b)∧Hp w0 M w' (zV K b (fun _=>none)::L)):=by
 refine xN (w':=w.alloc (.map #[] 0)) ?_ ⟨_,O,hp.alloc _ ?_⟩
 ·simp[execOp,Instr.makeMap,Sem.run]
 exact⟨[],0,O,fun a=>O,O4,O4,O4⟩
end
variable{a:Int}
theorem Yy{b}(ht:P.underlying t=some (.int .i8))(k):(Op.equalIn (k+1) t (.int .i8 a) (.int .i8 b)).run P w= .ok (decide (a=b)) w:=by
 unfold Op.equalIn;simp[jQ ht];rfl
theorem GT(w:World)(xs:List Int)(i:Nat)(h:i<xs.length):(part 290 (xs.map (Value.int .i8)).toArray i).run prog w= .ok (.int .i8 xs[i]) w:=by
 have g:(isAgg 290).run prog w= .ok false w:=O3;exact OB g _ _ _ (by simp[h])
theorem eqL(k:Nat)(w:World)(xs ys:List Int):∀(m i:Nat),i+m≤xs.length→i+m≤ys.length→
 (forIn (m:=Sem) (range' i m) ((none:Option Bool),()) fun i _=>do
   let a←part 290 (xs.map (Value.int .i8)).toArray (i*1)
   let b←part 290 (ys.map (Value.int .i8)).toArray (i*1)
   let c←Op.equalIn (k+1) 290 a b
   if(!c)=true then pure (ForInStep.done (some false,())) else pure (ForInStep.yield ((none:Option Bool),()))).run prog w= .ok (if((xs.drop i).take m=(ys.drop i).take m) then(none,()) else(some false,())) w
 |0,i,_,_=>O4
 |m+1,i,h1,h2=>by
  have hu:prog.underlying 290=some (.int .i8):=O3;have ih:=eqL k w xs ys m (i+1) O1 O1;rw[Rz,List.forIn_cons];simp only[bT,rW,GT w xs i O1,GT w ys i O1,aN,Yy hu];have e1:(xs.drop i).take (m+1)=xs[i]::(xs.drop (i+1)).take m:=by
   rw[aT O1];rfl
  have e2:(ys.drop i).take (m+1)=ys[i]::(ys.drop (i+1)).take m:=by
   rw[aT O1];rfl
  rw[e1,e2];by_cases h:xs[i]=ys[i]
  ·simp only[h,decide_true,Bool.not_true,fA,iX,dZ,aN,sO,Lp];grind
  simp[h]
theorem jX5(k:Nat)(w:World)(xs ys:List Int)(h1:xs.length=12)(h2:ys.length=12):(Op.equalIn (k+2) 291 (.agg (xs.map (Value.int .i8)).toArray) (.agg (ys.map (Value.int .i8)).toArray)).run prog w= .ok (decide (xs=ys)) w:=by
 rw[Op.equalIn];have hu:prog.underlying 291=some (.array 12 290):=O3;have hs:(sizeOf 290).run prog w= .ok 1 w:=O3;have:=eqL k w xs ys 12 0 O1 O1;simp only[bT,jQ hu,aN,hs];rw[oM];rw[show range' _ ([:12]).size _=range' 0 12 from O];rw[this];simp only[Ro,bJ (show xs.length≤12 by omega),bJ (show ys.length≤12 by omega)];by_cases h:xs=ys<;>simp[h]
theorem jMv(l:List Int):((l.map (Value.int .i8)).toArray).extract 2 (2+12)=(((l.drop 2).take 12).map (Value.int .i8)).toArray:=by
 simp
theorem jX4(w:World)(l l':List Int)(h1:l.length=14)(h2:l'.length=14):(Op.equal 293 (.agg (l.map (Value.int .i8)).toArray) (.agg (l'.map (Value.int .i8)).toArray)).run prog w= .ok (decide (l=l')) w:=by
 show(Op.equalIn (9997+1+1+1) 293 _ _).run _ w=_
 have hs:(Program.stoodInHeld prog 293)=false:=O3;have hg:prog.underlying 290=some (.int .i8):=O3;have ha:(isAgg 291).run prog w= .ok true w:=O3;have hz:(sizeOf 291).run prog w= .ok 12 w:=O3;have p2:∀l:List _,(part 291 (l.map _).toArray 2).run prog w=_:=fun l=>by
  simp only[part,bT,ha,aN,if_true,hz,dZ];rw[jMv]
 have e0:=fun a b=>Yy (w:=w) (a:=a) (b:=b) hg 9998
 have e2:=jX5 9997 w ((l.drop 2).take 12) ((l'.drop 2).take 12) O6 O6;simp only[Nat.reduceAdd] at e0 e2;rw[Op.equalIn];simp only[bT,jQ underlying293,aN];simp[pI,List.map_drop] at e2;simp[hs,bT,GT w l 0 O1,GT w l' 0 O1,GT w l 1 O1,GT w l' 1 O1,p2,e0,e2];have s1:∀l:List Int,∀h:l.length=14,l=l[0]'O1::l[1]'O1::(l.drop 2).take 12:=fun l h=>by
  rw[bJ O6,nQ,nQ,Ro]
 have key:l=l'↔l[0]=l'[0]∧l[1]=l'[1]∧(l.drop 2).take 12=(l'.drop 2).take 12:=by
  constructor
  ·grind
  rintro⟨a,b,c⟩;rw[s1 l h1,s1 l' h2,a,b,c]
 by_cases a:l[0]=l'[0]<;>by_cases b:l[1]=l'[1]<;>by_cases c:(l.drop 2).take 12=(l'.drop 2).take 12<;>simp[key,a,b,c]
theorem jY4(e:Bool)(k:Nat)(w:World)(xs:List Int):∀(m i:Nat),i+m≤xs.length→
 (forIn (m:=Sem) (range' i m) PUnit.unit fun i _=>do
   let z←sizeOf 290
   let a←part 290 (xs.map (Value.int .i8)).toArray (i*z)
   Instr.checkKey e (k+1) 290 a
   pure (ForInStep.yield PUnit.unit)).run prog w= .ok PUnit.unit w
 |0,i,_=>O4
 |m+1,i,h1=>by
  have hu:prog.underlying 290=some (.int .i8):=O3;have hs:(sizeOf 290).run prog w= .ok 1 w:=O3;have ih:=jY4 e k w xs m (i+1) O1;have hk:(Instr.checkKey e (k+1) 290 (.int .i8 xs[i])).run prog w= .ok () w:=by
   unfold Instr.checkKey;simp[jQ hu]
  rw[Rz,List.forIn_cons];simp only[bT,hs,rW,GT w xs i O1,aN,hk,dZ];exact ih
theorem jPi(e:Bool)(k:Nat)(w:World)(xs:List Int)(h1:xs.length=12):(Instr.checkKey e (k+2) 291 (.agg (xs.map (Value.int .i8)).toArray)).run prog w= .ok () w:=by
 rw[Instr.checkKey];have hu:prog.underlying 291=some (.array 12 290):=O3;have:=jY4 e k w xs 12 0 O1;simp only[bT,jQ hu,aN];rw[oM];rw[show range' _ ([:12]).size _=range' 0 12 from O];rw[this];rfl
theorem zC5(l:List Int)(w:World):(part 291 (l.map (Value.int .i8)).toArray 2).run prog w= .ok (.agg (((l.drop 2).take 12).map (Value.int .i8)).toArray) w:=by
 have ha:(isAgg 291).run prog w= .ok true w:=O3;have hz:(sizeOf 291).run prog w= .ok 12 w:=O3;simp only[part,bT,ha,aN,if_true,hz,dZ];rw[jMv]
theorem jPh(w:World)(e:Bool)(l:List Int)(h1:l.length=14):(Instr.checkKey e 10000 293 (.agg (l.map (Value.int .i8)).toArray)).run prog w= .ok () w:=by
 have hg:prog.underlying 290=some (.int .i8):=O3;have hk:∀(a:Int),(Instr.checkKey e 9999 290 (.int .i8 a)).run prog w= .ok () w:=fun a=>by
  unfold Instr.checkKey;simp
 have e2:=jPi e 9997 w ((l.drop 2).take 12) O6;have p2:=zC5 l w;simp[pI,List.map_drop] at e2 p2;rw[Instr.checkKey];simp[GT w l 0 O1,GT w l 1 O1,p2,hk,e2]
theorem jN9(n):∀l:List Int,((l.map (Value.int .i8)).zip (l.map (Value.int .i8))).all (fun(x,y)=>Instr.sameBits n x y)=true
 |[]=>rfl
 |a::l=>by
  have:=jN9 n l;simp[fG,List.zip_cons_cons,pJ,this,Bool.and_true];cases n<;>simp[Instr.sameBits]
theorem jLl(l:List Int):Instr.sameBits 10000 (.agg (l.map (Value.int .i8)).toArray) (.agg (l.map (Value.int .i8)).toArray)=true:=by
 unfold Instr.sameBits;simp only[RA,Bool.true_and];exact jN9 9999 l
def EK:Type:={l:List Int//l.length=14}
instance:DecidableEq EK:=fun a b=>decidable_of_iff (a.1=b.1) ⟨Subtype.ext,fun h=>by rw[h]⟩
def Mt(a:EK):Value:=.agg (a.1.map (Value.int .i8)).toArray
theorem jI1(a:EK)(w:World):∀(l:List (EK×Value×Nat)) (i:Nat),(Instr.findAsking 293 (Mt a) (l.map fun x=>({key:=Mt x.1,val:=x.2.1,born:=x.2.2}:MapEntry)) i).run prog w= .ok (DB a l i) w
 |[],i=>rfl
 |x::l,i=>by
  simp only[fG,Instr.findAsking,bT];have h:=jX4 w _ _ a.2 x.1.2;unfold Mt;rw[h];simp only[aN,DB];by_cases hx:a=x.1
  ·simp[hx]
  have:¬a.1=_:=fun e=>hx (Subtype.ext e)
  simp[this,hx,Ll,fA,iX];exact jI1 a w l _
def Bx:E8 prog 293 EK where
 enc:=Mt
 fk a l w:=by
  cases l with
  |nil=>
   simp only[Instr.findKey,bT,jQ underlying293,aN,Nu,Instr.findNow];rfl
  |cons x l=>
   have:=jI1 a w (x::l) 0;simp[Instr.findKey,bT,jQ underlying293,aN,fG,Instr.findNow,Mt,Instr.sameNow] at this⊢;omega
 bits a:=jLl a.1
 plain w e a:=jPh w e a.1 a.2
variable{r:Option Nat}
def Ay(b:Bool):List Value:=[.bool b]
theorem Zu(r):decide (oI r≥0)=r.isSome:=by
 cases r with
 |none=>rfl
 |some k=>exact aD (by show(0:Int)≤k;omega)
theorem jEq{l:List α}{z:α}(h:(r=none∧∀i:Nat,l[i]?≠some z)∨∃i,r=some i∧l[i]? =some z)[Decidable (z∈l)]:r.isSome=decide (z∈l):=by
 rcases h with⟨rfl,h⟩|⟨i,rfl,h⟩
 ·exact(aB fun hm=>by
   have⟨i,hi⟩:=fZ hm
   grind).symm
 grind
def Ce(l:List ByteArray)(z:ByteArray):Bool:=l.any fun x=>decide (x=z)
theorem TE{l z}:Ce l z=true↔z∈l:=by
 unfold Ce;simp
theorem jKe{l:List ByteArray}{z:ByteArray}(h:(r=none∧∀i:Nat,l[i]?≠some z)∨∃i,r=some i∧l[i]? =some z):r.isSome=Ce l z:=by
 rcases h with⟨rfl,h⟩|⟨i,rfl,h⟩
 ·cases hm:Ce l z with
  |false=>rfl
  |true=>
   have⟨i,hi⟩:=fZ (TE.1 hm);grind
 exact(TE.2 (aG h)).symm
theorem zAy(l s c z W)(hs:ig W 1 eS s l)(hl:l.length≤1000000):
  Rt 228 [.slice s l.length c,.string z] W (fun v w'=>(∃r,v=Iv (oI r)∧((r=none∧∀i:Nat,l[i]?≠some z)∨∃i,r=some i∧l[i]? =some z))∧ax [] W w'):=by
 refine tW func228 ntmps228 fun hp=>?_;refine qA (qQ ([4,5]++range' 8 11) (fun(k:Nat) F=>F.put 8 (.int _ k)) (fun k w'=>k≤l.length∧(∀i,i<k→l[i]?≠some z)∧Hp W [] w' []) (fun k=>l.length-k) 0 (qB (ka.eq .refl) O) ⟨O1,fun i h=>O1,hp⟩ ?_);clear hp;rintro u k w1 ⟨hk,zq,hp⟩;refine tI (fun h=>?_) fun h=>?_
 ·have ha:k<l.length:=O1;obtain⟨b,o,rfl,hc⟩:=hs k _ (aA ha);have hc:=hc 0 _ O;refine tI (fun h2=>?_) fun h2=>?_
  ·exact UD
  exact UI
 obtain rfl:k=l.length:=O1;refine qA ?_
 exact qM O O ⟨_,O,⟨_,O,.inl ⟨O,fun i=>by
  grind⟩⟩,hp.Z⟩
theorem jVv(l:List ByteArray)(s:Option Addr)(c:Nat)(z:ByteArray)(W:World)(hs:ig W 1 eS s l)(hl:l.length≤1000000):
  Rk 162 [.slice s l.length c,.string z] W (.bool (Ce l z)):=by
 refine tW func162 ntmps162 fun hp=>?_;refine tL (zAy l s c z _ O1 hl) ?_;rintro _ w1 ⟨⟨r,rfl,hr⟩,hk⟩;have hp:=hp.V hk;refine ke (vE O O) (qV ((Zu r).trans (jKe hr))) (tV ?_);exact FM
theorem X4(l:List Int)(s:Option Addr)(c:Nat)(z:Int)(W:World)(hs:ig W 1 eI s l)(hl:l.length≤1000000):
  Rk 47 [.slice s l.length c,Iv z] W (.bool (decide (z∈l))):=by
 refine tW func47 ntmps47 fun hp=>?_;refine tL (jW0 l s c z _ O1 hl) ?_;exact mC1
theorem zB9(l s c z W)(hs:ig W 1 Ay s l)(hl:l.length≤1000000):
  Rt 163 [.slice s l.length c,.bool z] W (fun v w'=>(∃r,v=Iv (oI r)∧((r=none∧∀i:Nat,l[i]?≠some z)∨∃i,r=some i∧l[i]? =some z))∧ax [] W w'):=by
 refine tW func163 ntmps163 fun hp=>?_;refine qA (qQ ([4,5]++range' 8 11) (fun(k:Nat) F=>F.put 8 (.int _ k)) (fun k w'=>k≤l.length∧(∀i,i<k→l[i]?≠some z)∧Hp W [] w' []) (fun k=>l.length-k) 0 (qB (ka.eq .refl) O) ⟨O1,fun i h=>O1,hp⟩ ?_);clear hp;rintro u k w1 ⟨hk,zq,hp⟩;refine tI (fun h=>?_) fun h=>?_
 ·have ha:k<l.length:=O1;obtain⟨b,o,rfl,hc⟩:=hs k _ (aA ha);have hc:=hc 0 _ O;refine qA (ke (qQk underlying4 O O) (qV (R7 _ _)) ?_);refine tI (fun h2=>?_) fun h2=>?_
  ·exact UD
  exact UI
 obtain rfl:k=l.length:=O1;refine qA ?_
 exact qM O O ⟨_,O,⟨_,O,.inl ⟨O,fun i=>by
  grind⟩⟩,hp.Z⟩
theorem XQ(l:List Bool)(s:Option Addr)(c:Nat)(z:Bool)(W:World)(hs:ig W 1 Ay s l)(hl:l.length≤1000000):
  Rk 98 [.slice s l.length c,.bool z] W (.bool (decide (z∈l))):=by
 refine tW func98 ntmps98 fun hp=>?_;refine tL (zB9 l s c z _ O1 hl) ?_;exact mC1
theorem Qf(l s c W)(hs:ig W 1 eI s l)(hl:l.length≤1000)(ha:s=none→l=[]):
  Rt 159 [.slice s l.length c] W (fun v w'=>∃s' c',v= .slice s' l.length c'∧kg s' c' l∧Hp W [] w' [qG eI 3 1 s' c' l]):=by
 refine tW func159 ntmps159 fun hp=>?_;refine qA (tR (S8 (zK O).1 O O) ?_);refine qA (xD O (fun h=>?_) (fun h=>?_))
 ·have zg:=ha (by cases s<;>simp_all);subst zg;refine tV ?_;exact⟨_,O,_,0,O,kg.nil,hp.j7 eI 3 1⟩
 refine qA ?_;refine tF (jC hp O O O O O O O) fun w1 g hp=>?_;refine qA ?_;refine AB (TI eI l hp 0 O O O O O O (fun _=>O) O O O (hs.i7 hp.Z) (fun _=>O) O1) fun w2 s' c'⟨hn,hp⟩=>tV ?_;exact⟨_,O,s',c',O,hn,hp⟩
structure DW where
 nm:ByteArray
 kd:Int
 rd:Int
 pr:Int
 po:Int
 pi:Int
 sT:Option Addr
 mT:Nat
 cT:Nat
 ro:Bool
 sP:Option Addr
 mP:Nat
 cP:Nat
 cl:Int
 sz:Int
 sQ:Option Addr
 cQ:Nat
 Q:List (ByteArray×Int×Int)
 sB:Option Addr
 mB:Nat
 cB:Nat
def DW.L(d:DW):List Value:=[.string d.nm,Iv d.kd,Iv d.rd,Iv d.pr,Iv d.po,Iv d.pi,.slice d.sT d.mT d.cT,.bool d.ro,.slice d.sP d.mP d.cP,Iv d.cl,Iv d.sz,.slice d.sQ d.Q.length d.cQ,.slice d.sB d.mB d.cB]
def DW.v(d:DW):Value:=.agg d.L.toArray
def DU(q:ByteArray×Int×Int):List Value:=[.string q.1,Iv q.2.1,Iv q.2.2]
structure EW where
 id:Int
 cl:Int
 fa:Int
 sP:Option Addr
 mP:Nat
 cP:Nat
 sW:Option Addr
 mW:Nat
 cW:Nat
 sG:Option Addr
 cG:Nat
 G:List ByteArray
def AR(e:EW):List Value:=[Iv e.id,Iv e.cl,Iv e.fa,.slice e.sP e.mP e.cP,.slice e.sW e.mW e.cW,.slice e.sG e.G.length e.cG]
def EW.v(e:EW):Value:=.agg (AR e).toArray
structure DE(d:DW)(s:Option Addr)(l:List EW)(w:World):Prop where
 q:ig w 3 DU d.sQ d.Q
 e:ig w 6 AR s l
 g:∀x∈l,ig w 1 eS x.sG x.G
 lq:d.Q.length≤12
 le:l.length≤40
 lg:∀x∈l,x.G.length≤1000000
theorem DE.j1{d l}(h:DE d s l w)(hk:ax [] w w'):DE d s l w':=⟨h.q.i7 hk,h.e.i7 hk,fun x hx=>(h.g x hx).i7 hk,h.lq,h.le,h.lg⟩
def AC(d:DW)(e:EW)(k:Nat):Bool:=Ce e.G (d.Q.getD k (⟨#[]⟩,0,0)).1
theorem Ec(n)(x:α):replicate n x=lm n fun _=>x:=by
 apply dI;intro i;by_cases h:i<n
 ·rw[yI h,nG,if_pos h]
 rw[bY O6,bY (by rw[qT];omega)]
theorem JQ{f:Nat→α}{x:α}:(lm n fun i=>if i<k then f i else x).set k (f k)=lm n fun i=>if i<k+1 then f i else x:=by
 rw[vF];grind
theorem JT{f:Nat→α}{x:α}:(lm n fun _=>x)=lm n fun i=>if i<0 then f i else x:=O4
theorem JU{f}{x:α}:(lm n fun i=>if i<n then f i else x)=lm n f:=jH fun i h=>O6
theorem U3(d:DW)(s:Option Addr)(n c:Nat)(W:World)(hq:d.Q.length≤12)(hn:n≤40):
  Rk 186 [d.v,.slice s n c] W (.bool (decide (d.kd=3))):=by
 refine tW func186 ntmps186 fun hp=>?_;refine qR ?_;refine tQ fun w1 b hp=>?_;refine tR qY (qR ?_);refine jM ?_;refine jM ?_;by_cases h3:d.kd=3
 ·have d1:decide ((n:Int)≤40)=_:=aD O1;have d2:decide ((d.Q.length:Int)≤12)=_:=aD O1;refine ke (zW O O) (qV (aD O1)) (jL ?_);rw[d1];refine jL ?_;rw[d2];exact qM (v:=.bool _) O O ⟨_,O,O6,hp.Z⟩
 refine ke (zW O O) (qV (aB O1)) (jL ?_);exact qM (v:=.bool _) O O ⟨_,O,O6,hp.Z⟩
theorem U4(d:DW)(e:EW)(W:World)(hQ:ig W 3 DU d.sQ d.Q)(hG:ig W 1 eS e.sG e.G)(hq:d.Q.length≤12)(hg:e.G.length≤1000000):
  Rt 187 [d.v,e.v] W (fun v w'=>∃b,v= .slice (Ad b) d.Q.length d.Q.length∧kg (Ad b) d.Q.length (lm d.Q.length (AC d e))∧Hp W [] w' [qG Ay 4 1 (Ad b) d.Q.length (lm d.Q.length (AC d e))]):=by
 refine tW func187 ntmps187 fun hp=>?_;refine qR ?_;refine tQ fun w1 b1 hp=>?_;have hp:=hp.I 0 d.L O O;refine tQ fun w2 b2 hp=>?_;have hp:=hp.I 0 (AR e) O O;refine qA ?_;refine tF (yE Ay _ hp O O O O O O O O1 O) fun w3 b⟨hv,hp⟩=>?_;rw[Ec] at hp hv;rw[JT (f:=AC d e)] at hp;refine qA (qQ ([6,7]++range' 15 14) (fun(k:Nat) F=>F.put 15 (.int _ k)) (fun k w'=>k≤d.Q.length∧Hp W [] w' [qG _ 4 1 _ _ (lm _ fun i=>if i<k then AC d e i else false),bu b2 6 _ 94,bu b1 13 _ 28]) (fun k=>d.Q.length-k) 0 (qB (ka.eq .refl) O) ⟨O1,hp⟩ ?_);clear hp;rintro u k w4 ⟨hk,hp⟩;refine tI (fun h=>?_) fun h=>?_
 ·have hl:k<d.Q.length:=O1;obtain⟨q,ha⟩:∃q,d.Q[k]? =some q:=⟨_,aA hl⟩;have bR:AC d e k=Ce e.G q.1:=by
   unfold AC;rw[aC,ha];rfl
  have⟨bq,oq,ow,hh⟩:=hQ k q ha;have hj:=fun j v hv=>hp.j3 (hh j v hv)
  refine qA (tR (qL O O O O hj) ?_);refine vK fun w b hp=>?_
  refine tD (jVv _ _ _ _ _ (hG.i7 hp.Z) hg) fun w5 hp=>?_;refine qA ?_;refine tO (zL _ _ k (AC d e k) hp 1 O (jZ hv (by rw[qT,qT])) (by rw[qT];omega) O (by rw[bR];rfl) (fun _=>O) O O (qD O)) fun w6 hp=>?_;rw[JQ] at hp;exact Jn
 obtain rfl:k=d.Q.length:=O1;rw[JU] at hp;refine tV ?_;exact⟨_,O,b,O,jZ hv (by rw[qT,qT]),hp.x (eY _ _)⟩
theorem frL(cs):(range cs.length).map (qE cs)=cs:=by
 apply dI;intro i;by_cases h:i<cs.length
 ·simp[h,uA]
 simp[h]
theorem wk:∀(vs:List Value) (f:Fr) (o i:Nat),uT f o vs i=if o≤i∧i<o+vs.length then vs.getD (i-o) undef else f i
 |[],f,o,i=>by simp[uT];omega
 |v::vs,f,o,i=>by
  unfold uT;rw[wk];simp only[cF];by_cases h:i=o
  ·subst h;rw[if_neg O1,if_pos O1,gZ];simp[Fr.put]
  by_cases h2:o+1≤i∧i<o+1+vs.length
  ·grind
  rw[if_neg h2,if_neg O1];simp[Fr.put];cases hb:Nat.beq i o
  ·rfl
  exact absurd (bV hb) h
theorem OV(cs o v){m}(h:cs.length=m):(range m).map (uT (qE cs) o [v])=cs.set o v:=by
 apply dI;intro i;by_cases hi:i<m
 ·rw[bH,mE hi,fD,wk,gM];by_cases e:o=i
  ·grind
  rw[if_neg O6,if_neg e,uA];grind
 grind
theorem yJ(f cs){m}(h:cs.length=m):(range m).map (uT f 0 cs)=cs:=by
 apply dI;intro i;by_cases hi:i<m
 ·rw[bH,mE hi,fD,wk,if_pos O1];grind
 grind
theorem Hp.i6{L}(hp:Hp w0 M w L)(i:Nat){b m t cs}(hi:L[i]? =some (bu b m (qE cs) t))(hl:cs.length=m):∀(j:Nat) (v:Value),cs[j]? =some v→w.cell? ⟨b,0+j,none⟩=some v:=fun j v hv=>by
 have hj:=(aI.1 hv).1;rw[hp.J i hi (yQ O1),gF,uA,aC,hv];rfl
variable{f:Q}
def Am(s:wj):List Int:=(s.next:Int)::(s.left:Int)::s.cs
def kj(l:List Int):List Value:=l.map (Value.int .i8)
theorem vC(l):(kj l).length=l.length:=by simp[kj]
theorem vY(l):(kj l).all kM=true:=by
 unfold kj;rw[List.all_map,dO];exact fun _ _=>O
theorem jF9{l}(h:k<l.length):qE (kj l) k= .int .i8 (l.getD k 0):=by
 rw[uA];simp[kj,h]
theorem N6(l k v):(kj l).set k (.int .i8 v)=kj (l.set k v):=by
 simp[kj]
structure Hm where
 sb:Nat
 sI:Option Addr
 cI:Nat
 gi:Nat→Nat
 gR:Nat
 cR:Nat
 sr:Nat→Option Addr
 cr:Nat→Nat
structure AI(a:Hm)(d:DW)(f:Q)(w:World):Prop where
 h0:w.cell? ⟨a.sb,0,none⟩=some (.slice d.sQ d.Q.length d.cQ)
 h1:w.cell? ⟨a.sb,1,none⟩=some (.slice a.sI f.N a.cI)
 h2:w.cell? ⟨a.sb,2,none⟩=some (.slice (some ⟨a.gR,0,none⟩) (f.N+1) a.cR)
 q:ig w 3 DU d.sQ d.Q
 hI:ig w 1 jO a.sI (lm f.N fun i=>((some ⟨a.gi i,0,none⟩:Option Addr),d.Q.length,d.Q.length))
 rI:∀i,i<f.N→ig w 1 Ay (some ⟨a.gi i,0,none⟩) (lm d.Q.length (f.inn i))
 hR:ig w 1 jO (some ⟨a.gR,0,none⟩) (lm (f.N+1) fun i=>(a.sr i,d.Q.length,a.cr i))
 rR:∀i,i≤f.N→ig w 1 eI (a.sr i) (lm d.Q.length fun k=>(f.rest k (f.N-i):Int))
 fq:f.q=d.Q.map (·.2)
 lq:d.Q.length≤12
 lN:f.N≤40
theorem AI.j1{a d}(h:AI a d f w)(hk:ax [] w w'):AI a d f w':=
 ⟨hk.cell h.h0 O4,hk.cell h.h1 O4,hk.cell h.h2 O4,h.q.i7 hk,h.hI.i7 hk,fun i hi=>(h.rI i hi).i7 hk,h.hR.i7 hk,fun i hi=>(h.rR i hi).i7 hk,h.fq,h.lq,h.lN⟩
structure VD(s:wj):Prop where
 n:s.next≤40
 l:s.left≤40
 c:s.cs.length=12
 b:∀k,-1≤s.cs.getD k 0∧s.cs.getD k 0≤40
theorem SC(f:Q)(k:Nat):∀d:Nat,f.rest k d≤d
 |0=>aS _
 |d+1=>by
  have:=SC f k d;simp only[Q.rest];grind
def Ng(o:Option wj)(v:Value):Prop:=match o with
 |some t=>v= .tuple #[.agg (kj (Am t)).toArray,.bool true]
 |none=>∃l:List Int,l.length=14∧v= .tuple #[.agg (kj l).toArray,.bool false]
theorem jR{enc:α→List Value}{g}(h:ig w k enc s (lm n g)){i}(hi:i<n):∃b o,s=some ⟨b,o,none⟩∧∀j v,(enc (g i))[j]? =some v→w.cell? ⟨b,o+i*k+j,none⟩=some v:=h i _ (yI hi)
theorem jVi(a:Hm)(d:DW)(f:Q)(s:wj)(W:World)(hS:AI a d f W)(hs:VD s)(hN:s.next≤f.N):
  Rt 313 [.pointer (some ⟨a.sb,0,none⟩),.agg (kj (Am s)).toArray] W (fun v w'=>Ng (f.tidy s) v∧ax [] W w'):=by
 have hg:∀cs,cs.length=12→(kj (s.next::s.left::cs)).length=14:=fun cs h=>by
  rw[vC];simp[h]
 have hn:=hs.n;have hl:=hs.l;have h9:=hS.lN;have c1:=hS.h1;have c2:=hS.h2;have c0:=hS.h0;refine tW func313 ntmps313 fun hp=>?_;refine qR ?_;refine tF (kW (cs:=kj _) hp O O (hg _ hs.c)) fun w1 b3 hp=>tF (zE (cs:=kj (replicate 14 0)) (m:=14) hp (qJ O) O O) fun w2 b4 hp=>qR ?_;refine tR qY (qR ?_);refine jU jG O3 (fun w'=>Hp W [] w' [bu b4 14 _ 293,bu b3 14 _ 293]) hp.U ?_;have hp:=hp.U;have wl:_=(s.left:Int):=qK O1 O1;have wn:_=(s.next:Int):=qK O1 O1;refine qX ?_;rw[wl,wn];refine tN (f.N-s.next) ?_;refine qX (qU ?_);refine qR (qH O (fun h=>?_) (fun h=>?_))
 ·have ht:f.tidy s=none:=by
   unfold Q.tidy;rw[if_pos O1]
  refine qR (ke (qL O O O (hg _ hs.c) (hp.i6 1 O (hg _ hs.c))) O ?_);refine tO (zH (cs:=kj _) hp 0 O O O O (by rw[hg _ hs.c];exact qD O) (by rw[hg _ hs.c];rfl) (vY _)) fun w3 hp=>?_;have hp:=hp.I 0 _ O (yJ _ _ (hg _ hs.c));refine qA ?_;exact⟨_,uN O O O O O (hg _ hs.c) (hp.i6 0 O (hg _ hs.c)),⟨_,O,by rw[ht];exact⟨_,by simp[hs.c],O⟩,hp.Z⟩⟩
 have ys:¬s.left>f.N-s.next:=O1;have ye:s.next<f.N+1:=O1;have⟨b0,o0,e0,cR⟩:=jR hS.hR ye;cases e0;have cR:=cR 0 _ O;refine qA (qQ ([5,6,7,8,9]++range' 29 57) (fun(p:Nat×List Int) F=>F.put 29 (Iv (p.1:Int))) (fun p w'=>p.1≤d.Q.length∧p.2.length=12∧(∀k,-1≤p.2.getD k 0∧p.2.getD k 0≤40)∧f.p5 s.next s.left p.1 (f.q.drop p.1) p.2=f.p5 s.next s.left 0 f.q s.cs∧
  Hp W [] w' [bu b4 14 (qE (kj (replicate 14 0))) 293,bu b3 14 (qE (kj ((s.next:Int)::(s.left:Int)::p.2))) 293]) (fun p=>d.Q.length-p.1) (0,s.cs) (qB (ka.eq .refl) O) ⟨bL _,hs.c,hs.b,O,hp⟩ ?_)
 clear hp;rintro u ⟨k,cs⟩ w3 ⟨hk,hh,hb,hq,hp⟩;have hk:k≤_:=hk;have hh:cs.length=12:=hh;have hb:∀k,-1≤cs.getD k 0∧cs.getD k 0≤40:=hb;have hq:f.p5 _ _ k (f.q.drop k) cs=_:=hq;have hp:Hp W [] w3 [_,bu b3 14 (qE (kj (s.next::s.left::cs))) 293]:=hp;have hy:f.tidy s=(f.p5 s.next s.left k (f.q.drop k) cs).map fun cs=>{s with cs:=cs}:=by
  unfold Q.tidy;rw[if_neg ys,hq]
 refine tI (fun h=>?_) fun h=>?_
 ·have ha:k<d.Q.length:=O1;have h7:k<12:=by have:=hS.lq;omega
  obtain⟨⟨gn,lo,hi⟩,hj⟩:∃q,d.Q[k]? =some q:=⟨_,aA ha⟩;have⟨bq,oq,ow,hx⟩:=hS.q k _ hj;have hz:f.q.drop k=(lo,hi)::f.q.drop (k+1):=by
   have:f.q[k]? =some (lo,hi):=by rw[hS.fq,bH,hj];rfl
   have⟨h1,h2⟩:=aI.1 this;rw[aT h1,h2]
  rw[hz] at hy hq;simp only[Q.p5] at hy hq;refine qA (tR (qL O O O O (fun j v hv=>hp.j3 (hx j v hv))) ?_);refine vK fun w b hp=>?_
  have hp:=hp.I 0 (DU _) O O;have np:=hb k;have wc:_=cs.getD k 0:=qK O1 O1;have hm:∀{w':World} {q:kr},Hp W [] w' [q,bu b4 14 (qE (kj (replicate 14 0))) 293,bu b3 14 (qE (kj ((s.next:Int)::(s.left:Int)::cs))) 293]→w'.cell? ⟨b3,0+2+k*1,none⟩=some (.int .i8 (cs.getD k 0)):=fun hp=>by
   have:=hp.i6 2 O (hg _ hh) (k+1+1) (.int .i8 (cs.getD k 0)) (by
    simp[kj,show k<cs.length by omega])
   grind
  have hD:=hm hp;refine tI (fun h1=>?_) fun h1=>?_
  ·rw[if_pos h1] at hq;refine Ae ?_;exact UC
  rw[if_neg h1] at hy hq;refine qA ?_;rw[wc];refine qA ?_;have⟨br,or',om,h6⟩:=jR (hS.rR _ hN) ha;have h6:=h6 0 _ O;have h6:W.cell? ⟨br,or'+k*1,_⟩=_:=h6;have ya:=SC f k (f.N-s.next);have eb:min (f.rest k (f.N-s.next):Int) s.left=(min (f.rest k (f.N-s.next)) s.left:Nat):=O1;refine jU jG O3 (fun w'=>Hp W [] w' [bu b 3 _ 33,_,_]) hp.U ?_;have hp:=hp.U;refine qX ?_;rw[wl];refine qX ?_;refine tA ?_;rw[eb];refine qX (qU ?_);refine qR ?_;obtain⟨mr,h8⟩:∃mr,mr=min (f.rest k (f.N-s.next)) s.left:=⟨_,O⟩;rw[←h8];rw[←h8] at hq hy;have no:∀{b':Bool},(_∨_)→f.tidy s=none:=fun{_} h=>by rw[hy,if_pos h];rfl
  by_cases h2:hi<cs.getD k 0
  ·have d1:decide (cs.getD k 0>hi)=_:=aD h2;have ht:=no (b':=true) O1;refine jL ?_;rw[d1];refine jL (jB O ?_);refine qR (ke (qL O O O (hg _ hh) (hp.i6 2 O (hg _ hh))) O ?_);refine tO (zH (cs:=kj _) hp 1 O O O O (by rw[hg _ hh];exact qD O) (by rw[hg _ hh];rfl) (vY _)) fun w4 hp=>?_;have hp:=hp.I 1 _ O (yJ _ _ (hg _ hh));refine qA ?_;exact⟨_,uN (vs:=kj ((s.next:Int)::(s.left:Int)::cs)) O O O O O (hg _ hh) (hp.i6 1 O (hg _ hh)),⟨_,O,by rw[ht];exact⟨_,O6,O⟩,hp.Z⟩⟩
  have d1:decide (cs.getD k 0>hi)=_:=aB h2;refine jL ?_;rw[d1];refine jL (qH O (fun h3=>?_) (fun h3=>?_))
  ·have ht:=no (b':=true) (.inr h3);refine qR (ke (qL O O O (hg _ hh) (hp.i6 2 O (hg _ hh))) O ?_);refine tO (zH (cs:=kj _) hp 1 O O O O (by rw[hg _ hh];exact qD O) (by rw[hg _ hh];rfl) (vY _)) fun w4 hp=>?_;have hp:=hp.I 1 _ O (yJ _ _ (hg _ hh));refine qA ?_;exact⟨_,uN O O O O O (hg _ hh) (hp.i6 1 O (hg _ hh)),⟨_,O,by rw[ht];exact⟨_,O6,O⟩,hp.Z⟩⟩
  have h3:¬(_<lo):=h3;rw[if_neg O1] at hq hy;refine qR ?_;by_cases h4:lo≤cs.getD k 0
  ·have d2:decide (cs.getD k 0≥lo)=_:=aD h4;refine jL ?_;rw[d2];refine jL (qH O (fun h5=>?_) (fun h5=>?_))
   ·rw[if_pos ⟨h4,h5⟩] at hq hy;refine qA (tO (jD (c0:=.int _ _) (o:=0+2+k*1) hp 2 O O O O (qD O) (nU O1)) fun w5 hp=>?_)
    have hp:=hp.I 2 (kj (s.next::s.left::cs.set k _)) O (by
     rw[OV _ _ _ (hg _ hh),N6,show 0+2+k*1=k+1+1 by omega]
     rfl)
    refine Ae ?_;refine⟨(k+1,cs.set k _),qB O5 O,⟨O1,O6,fun j=>?_,hq,hp.E⟩,O1⟩;rw[qIj _ _ _ _ O1];grind
   rw[if_neg (fun h=>h5 h.2)] at hq hy;refine Ae ?_;exact UC
  have d2:decide (cs.getD k 0≥lo)=_:=aB h4;rw[if_neg O1] at hq hy;refine jL ?_;rw[d2];refine jL ?_;refine EH ?_;exact UC
 obtain rfl:d.Q.length=k:=O1;have hz:f.q.drop d.Q.length=[]:=by
  rw[List.drop_eq_nil_iff,hS.fq];simp
 rw[hz] at hy;refine qR (ke (qL (vs:=kj ((s.next:Int)::(s.left:Int)::cs)) O O O (hg _ hh) (hp.i6 1 O (hg _ hh))) (O:_=Value.agg (kj ((s.next:Int)::(s.left:Int)::cs)).toArray) ?_);refine tO (zH (cs:=kj _) hp 0 O O O O (by rw[hg _ hh];exact qD O) (by rw[hg _ hh];rfl) (vY _)) fun w9 hp=>?_;have hp:=hp.I 0 _ O (yJ _ _ (hg _ hh));refine qA ?_;exact⟨_,uN O O O O O (hg _ hh) (hp.i6 0 O (hg _ hh)),⟨_,O,by rw[hy];rfl,hp.Z⟩⟩
theorem NC(h1:-128≤z)(h2:z≤127):IntKind.i8.wrap z=z:=by
 have e:IntKind.i8.wrap z=if z%256≥128 then z%256-256 else z%256:=by
  unfold IntKind.wrap;simp[IntKind.bits,IntKind.signed]
 omega
theorem I2{o v}(h:Ng o v)(hc:∀t,o=some t→t.cs.length=12):∃l:List Int,l.length=14∧v= .tuple #[.agg (kj l).toArray,.bool o.isSome]∧∀t,o=some t→l=Am t:=by
 cases o with
 |none=>
  have⟨l,h1,h2⟩:=h;grind
 |some t=>exact⟨_,by simp[Am,hc],h,fun t' h=>O6⟩
theorem jNu{o l}(hl:l.length=14)(h:∀t,o=some t→l=Am t):Ng o (.tuple #[.agg (kj l).toArray,.bool o.isSome]):=by
 cases o with
 |none=>exact⟨l,hl,O⟩
 |some t=>rw[h t O];rfl
theorem jNa(i:Nat)(cs:List Int):∀k,k≤cs.length→∀j,(f.add i k cs).getD j 0=cs.getD j 0∨(f.add i k cs).getD j 0=cs.getD j 0+1:=fun k hk j=>by
 rw[Lx i k cs hk j];split
 ·exact .inr O
 exact .inl O
theorem KS(a:Hm)(d:DW)(f:Q)(s:wj)(take:Bool)(W:World)(hS:AI a d f W)(hs:VD s)(hx:∀k,s.cs.getD k 0≤39)(hN:s.next<f.N)(h0:0<s.left):
  Rt 226 [.pointer (some ⟨a.sb,0,none⟩),.agg (kj (Am s)).toArray,.bool take] W (fun v w'=>Ng (f.k4 s take) v∧ax [] W w'):=by
 have hg:∀(n l:Int) (cs:List _),cs.length=12→(kj (n::l::cs)).length=14:=fun n l cs h=>by
  rw[vC];simp[h]
 have hn:=hs.n;have hl:=hs.l;have h9:=hS.lN;have hj:=hS.lq;have c1:=hS.h1;have hz:f.q.length=d.Q.length:=by rw[hS.fq,aH]
 refine tW func226 ntmps226 fun hp=>?_;refine qR ?_;refine tF (kW (cs:=kj _) hp O O (hg _ _ _ hs.c)) fun w1 b3 hp=>tF (zE (cs:=kj (replicate 14 0)) (m:=14) hp (qJ O) O O) fun w2 b4 hp=>?_;have hp:Hp W [] w2 [bu b4 14 _ 293,bu b3 14 (qE (kj (_::_))) 293]:=hp;refine qR ?_;refine tR qY (qR ?_);refine tR qP (qR ?_)
 refine EV (fun F' w'=>∃(l':Nat) (c8:List _),(f.k4 s take=f.tidy {next:=s.next+1,left:=l',cs:=c8})∧l'≤40∧c8.length=12∧(∀k,-1≤c8.getD k 0∧c8.getD k 0≤40)∧CH F' [(0,.pointer (some ⟨a.sb,0,none⟩)),(4,.pointer (Ad b3)),(6,.pointer (Ad b4))]∧
   Hp W [] w' [bu b4 14 (qE (kj (replicate 14 0))) 293,bu b3 14 (qE (kj (s.next::l'::c8))) 293]) ?_ ?_
 ·cases take with
  |false=>
   refine qN O (qR ?_);exact⟨_,_,O,hl,hs.c,hs.b,⟨O,O,O,trivial⟩,hp⟩
  |true=>
   refine jB O (qA ?_);refine ke (jN O O) (qF (b:=(s.left-1:Nat)) (by rw[NC O1 O1];omega)) (qA ?_);refine tO (jD (c0:=.int _ (s.left-1:Nat)) (o:=0+1) hp 1 O O O O (qD O) O) fun w3 hp=>?_
   have hp:=hp.I 1 (kj (s.next::(s.left-1:Nat)::s.cs)) O (by
    rw[OV _ _ _ (hg _ _ _ hs.c),N6]
    rfl)
   have hp:Hp W [] w3 [_,_]:=hp;have⟨bi,oi,hy,cI⟩:=jR hS.hI hN;have cI:=cI 0 _ O;have cI:W.cell? ⟨bi,oi+_,_⟩=some (.slice (some _) d.Q.length d.Q.length):=cI;refine qR ?_;refine jU jG O3 (fun w'=>Hp W [] w' _) hp.U ?_;have hp:=hp.U;refine qX (qU ?_);refine qR (qQ ([8,9]++range' 24 21) (fun(k:Nat) F=>F.put 24 (Iv (k:Int))) (fun k w'=>k≤d.Q.length∧Hp W [] w' [bu b4 14 (qE (kj (replicate 14 0))) 293,bu b3 14 (qE (kj ((s.next:Int)::((s.left-1:Nat):Int)::f.add s.next k s.cs))) 293]) (fun k=>d.Q.length-k) 0 (qB (ka.eq .refl) O) ⟨bL _,hp⟩ ?_);clear hp;rintro u k w4 ⟨hk,hp⟩;have hh:(f.add s.next k s.cs).length=12:=by rw[J7];exact hs.c
   refine tI (fun h=>?_) fun h=>?_
   ·have ha:k<d.Q.length:=O1;have h7:k<12:=O1;have bR:W.cell? ⟨_,0+k*1,_⟩=_:=zM (hS.rI _ hN) ha 0 _ O;have h3:(f.add s.next k s.cs).getD k 0=s.cs.getD k 0:=by
     rw[Lx _ _ _ (by have:=hs.c;omega),if_neg O1]
    have np:=hs.b k;have h5:=hx k;have hq:=by
     have:=hp.i6 1 O (hg _ _ _ hh) (k+1+1) (.int .i8 (s.cs.getD k 0)) (by
      rw[←h3]
      simp[kj,show k<(f.add s.next k s.cs).length by omega])
     rwa[show 0+(k+1+1)=0+2+k*1 by omega] at this
    have h4:f.add s.next (k+1) s.cs=if f.inn s.next k&&decide (s.cs.getD k 0≠-1) then(f.add s.next k s.cs).set k (s.cs.getD k 0+1) else f.add s.next k s.cs:=by
     simp only[Q.add,h3]
    have next:∀(b':Bool),(_&&_)=b'→(b'=false→f.add _ _ _=f.add s.next k s.cs)∧(b'=true→f.add _ _ _=(f.add s.next k s.cs).set k (s.cs.getD k 0+1)):=fun b' e=>by
     rw[h4,e];cases b'<;>simp
    refine qA ?_;cases hi:f.inn s.next k with
    |false=>
     have e:=(next _ O6).1 O;refine EH ?_;exact⟨k+1,qB O5 O,⟨O1,O6⟩,O1⟩
    |true=>
     by_cases h1:s.cs.getD k 0= -1
     ·have d1:(!decide (s.cs.getD k 0= -1))=false:=by rw[aD h1];rfl
      have e:=(next _ O6).1 O;rw[d1];refine EH ?_;exact⟨k+1,qB O5 O,⟨O1,O6⟩,O1⟩
     have d1:(!decide (s.cs.getD k 0= -1))=true:=by rw[aB h1];rfl
     have e:=(next _ O6).2 O;rw[d1];refine jB O ?_;refine qA ?_;refine ke (qO O O) (qF (NC O1 O1)) (qA ?_);refine tO (jD (c0:=.int _ _) (o:=0+2+k*1) hp 1 O O O O (qD O) (nU O1)) fun w5 hp=>?_
     have hp:=hp.I 1 (kj (s.next::(s.left-1:Nat)::f.add _ _ _)) O (by
      rw[OV _ _ _ (hg _ _ _ hh),N6,show 0+2+k*1=k+1+1 by omega,e]
      rfl)
     exact Fp
   obtain rfl:d.Q.length=k:=O1;refine qA ?_;refine⟨_,_,?_,O1,hh,fun k=>?_,⟨O,O,O,trivial⟩,hp⟩
   ·unfold Q.k4;grind
   have:=hs.b k;have:=hx k;have:=jNa (f:=f) s.next s.cs d.Q.length (by have:=hs.c;omega) k;omega
 rintro F' w5 ⟨l',c8,xy,rj,b2,oc,hF,hp⟩;refine yL _ hF ?_;intro F0;refine qA ?_;refine ke (qO O O) (qF (b:=(s.next+1:Nat)) (by rw[NC O1 O1];omega)) (qA ?_);refine tO (jD (c0:=.int _ (s.next+1:Nat)) (o:=0+0) hp 1 O O O O (qD O) O) fun w6 hp=>?_
 have hp:=hp.I 1 (kj (Am {next:=s.next+1,left:=l',cs:=c8})) O (by
  rw[OV _ _ _ (hg _ _ _ b2),N6]
  rfl)
 have h14:(kj (Am {next:=s.next+1,left:=l',cs:=c8})).length=14:=hg _ _ _ b2;refine qR ?_;refine tR qP (ke (qL O O O h14 (hp.i6 1 O h14)) O ?_);refine tK (jVi a d f {next:=s.next+1,left:=l',cs:=c8} _ (hS.j1 hp.Z) ⟨O6,rj,b2,oc⟩ hN) ?_;rintro v w7 ⟨hv,hk⟩;have hp:=hp.V hk;rw[←xy] at hv;have hP:∀t,f.k4 s _=some t→t.cs.length=12:=fun t ht=>by
  rw[xy] at ht;have:=(wJ O6 ht).2.2.1;grind
 obtain⟨l,dr,rfl,qq⟩:=I2 hv hP;have hm:(kj l).length=14:=by rw[vC];exact dr
 refine qA ?_;refine tO (zH (cs:=kj l) hp 0 O O O O (by rw[hm];exact qD O) (by rw[hm];rfl) (vY _)) fun w8 hp=>?_;have hp:=hp.I 0 _ O (yJ _ _ hm);refine qA ?_;exact⟨_,uN O O O O O hm (hp.i6 0 O hm),⟨_,O,jNu dr qq,hp.Z⟩⟩
end Go.Eng
