/- Merged texts of ours; conditions are the hypotheses of each law. -/
import Derived.Test.YtplkndjlfkkjlaaGreatDoorP1
import Derived.OrdersIn
namespace Go.Proofs.YtplkndjlfkkjlaaGreatDoor
open List (range range' replicate)
open Tryz
section
open Go.Eng Go.Dig
variable{n:Nat}{F:Fr}{w:World}{d:Option Tmp}{ty:TypeId}{pos:String}{aft:Array Edge}{g:Option (Nat×Bool)}{x y:Operand}{t t' a b:Nat}
theorem qL6{l:List Nat}(h:Bd 16777216 l):kO l=d24 (val 16777216 l):=qDw O2 h
theorem qQo(hx:ev n F x=Iv (a:Int))(hy:ev n F y=Iv (b:Int))(hb:0<b)(ha:a≤9223372036854775807):PV Tryz.prog n w F ⟨d,.binOp .quo t x y t',ty,pos,aft,g⟩ (Iv ((a/b:Nat):Int)):=by
 have h:=qC1 (P:=Tryz.prog) (w:=w) (d:=d) (ty:=ty) (pos:=pos) (aft:=aft) (g:=g) (t:=t) (t':=t') hx hy O1;rwa[qCt b ha] at h
theorem qY2(hx:ev n F x=Iv (a:Int))(hy:ev n F y=Iv (b:Int))(hb:0<b):PV Tryz.prog n w F ⟨d,.binOp .rem t x y t',ty,pos,aft,g⟩ (Iv ((a%b:Nat):Int)):=by
 exact mCg
theorem qD9(b:Nat)(l:List Nat)(d:Nat):val b (l++[d])=val b l+b^l.length*d:=by rw[vT,qDv]
attribute [local irreducible] PV StepF wpl wpd WP Ret
attribute [local irreducible] FitR
theorem c89(l:List Nat)(s:Option Addr)(c:Nat)(w:World)(hc:l.length≤c)(hm:l.length≤1000000)(hs:SlAt w 1 eD s l):
  Rk 258 [.slice s l.length c] w (.slice s (kO l).length c):=by
 refine tW func258 ntmps258 fun hp=>?_;refine qA ?_;refine qQ [0,3,4,5,6,7,8,9,10,11,12,13,14,15,16,17,18,19] (fun m F=>F.put 0 (.slice s m c)) (fun m w'=>m≤l.length∧kO l=kO (l.take m)∧Hp w [] w' []) (fun m=>m) _ (qB (Same.eq .refl) O) ⟨O1,O4,hp⟩ ?_;clear hp;rintro u m w1 ⟨se,ht,hp⟩;refine gA4 ?_;by_cases h0:0<m
 ·obtain⟨k,rfl⟩:∃k,m=k+1:=⟨m-1,O1⟩;have hl:k<l.length:=O1;have e7:k<k+1:=O1;have eV:=aG hl;obtain⟨b0,o0,hs0,yq⟩:=hs.base O1;have yp:=yq k _ (aA hl) 0 _ O;generalize l[k]=y at yp eV;have yp:w.cell? ⟨b0,o0+k*1,_⟩=_:=yp;refine wlp (xJ O O) (qV (aD O1)) (jL ?_);refine tN k ?_;refine jL (qH O (fun h=>?_) (fun h=>?_))
  ·have hy:y=0:=O1;subst hy;refine tM k ?_;refine tR (qBy O O O O1) ?_;refine qA ?_;refine⟨k,qB O5 O,⟨O1,?_,hp⟩,O1⟩;rw[ht,eV,qEy]
  have hy:y≠0:=O1;refine qA ?_;refine qM O O ⟨_,O,qGz ?_,hp.C⟩;rw[ht,eV,qH9 hy];grind
 obtain rfl:m=0:=O1;refine gAa ?_;refine qM O O ⟨_,O,qGz ?_,hp.C⟩;rw[ht];rfl
theorem qNj{P:Program}{Q:Exit→Fr→World→Prop}{c:Code}{X Y Z T U:Type}(S:List Nat)(H:X→Y→Z→T→U→Fr→Fr)(I:X→Y→Z→T→U→World→Prop)(μ:X→Y→Z→T→U→Nat)(x0:X)(y0:Y)(z0:Z)(t0:T)(u0:U)(h0:F=H x0 y0 z0 t0 u0 (Fr.l7 S F F))(hi:I x0 y0 z0 t0 u0 w)
  (round:∀(v:Fr) (x:X) (y:Y) (z:Z) (t:T) (u:U) (w:World),I x y z t u w→WP P n c (qB5 (fun F' w'=>∃x' y' z' t' u',F'=H x' y' z' t' u' (Fr.l7 S F' F)∧I x' y' z' t' u' w'∧μ x' y' z' t' u'<μ x y z t u) Q) (H x y z t u (Fr.l7 S v F)) w):WP P n (.loop c) Q F w:=by
 refine qQ S (fun x=>H x.1 x.2.1 x.2.2.1 x.2.2.2.1 x.2.2.2.2) (fun x=>I x.1 x.2.1 x.2.2.1 x.2.2.2.1 x.2.2.2.2) (fun x=>μ x.1 x.2.1 x.2.2.1 x.2.2.2.1 x.2.2.2.2) (x0,y0,z0,t0,u0) h0 hi ?_;intro u x w hI;refine qEk (round u _ _ _ _ _ w hI) ?_;simp
theorem jY7(x y:Nat)(s s2:Option Addr)(c c2:Nat)(w:World)(hx:SlAt w 1 eD s (d24 x))(hy:SlAt w 1 eD s2 (d24 y))(um:(d24 x).length≤100000)(un:(d24 y).length≤100000)(fg:y≤x):
  Rt 261 [.slice s (d24 x).length c,.slice s2 (d24 y).length c2] w (fun v w'=>∃s' c' z,v= .slice s' (d24 (x-y)).length c'∧d24 (x-y)<+:z∧SVL s' c' z∧Hp w [] w' [qG eD 3 1 s' c' z]):=by
 refine Ret.j9 func261 O ntmps261 O ?_;have hp:=(Hp.start (M:=[]) (w:=w)).k4 eD 3 1;refine qA (qNj [5,6,7,8,9,10,11,12,13,14,15,16,17,18,19,20,21,22,23,24,25,26,27,28,29,30,31,32,33,34,35,36,37,38] (fun(i bo:Nat) z st ct F=>((F.put 7 (.int _ i)).put 6 (.int _ bo)).put 5 (.slice st z.length ct))
  (fun i bo z st ct w'=>i≤(d24 x).length∧z.length=i∧Bd 16777216 z∧bo<2∧val 16777216 z+y%16777216^i=x%16777216^i+bo*16777216^i∧SVL st ct z∧Hp w [] w' [qG eD 3 1 st ct z])
  (fun i _ _ _ _=>(d24 x).length-i) 0 0 [] _ 0 (qB (qB (qB (Same.eq .refl) O) O) O) ⟨O1,O,.nil,O2,by simp[val,mC],SVL.nil,hp⟩ ?_)
 clear hp;rintro u i bo z st ct w2 ⟨hi,x2,x1,sy,x0,hv,hp⟩;refine tI (fun h2=>?_) fun h2=>?_
 ·have hl:i<(d24 x).length:=O1;obtain⟨b0,o0,hs0,yq⟩:=hx.base O1;have yp:=yq i _ (aA hl) 0 _ O;have hh:=(qFo x).get hl;have hg:=qGf hl;generalize (d24 x)[i]=dx at yp hh hg;have yp:w.cell? ⟨b0,o0+i*1,_⟩=_:=yp;obtain⟨dy,fc,fj⟩:∃dy,dy=y/16777216^i%16777216∧dy<16777216:=⟨_,O,dG _ O2⟩;refine tB ?_;refine tI (fun h3=>?_) fun h3=>?_
  ·have fe:i<(d24 y).length:=O1;obtain⟨b1,o1,hj,sY⟩:=hy.base O1;have zu:=sY i _ (aA fe) 0 _ O;have zt:=qGf fe;rw[←fc] at zt;rw[zt] at zu;have zu:w.cell? ⟨b1,o1+i*1,_⟩=_:=zu;refine tB ?_;refine tI (fun h4=>?_) fun h4=>?_
   ·obtain⟨q,hq⟩:∃q:Nat,(q:Int)=dx-bo-dy+16777216:=⟨((dx:Int)-bo-dy+16777216).toNat,O1⟩;exact mAj
   obtain⟨q,hq⟩:∃q:Nat,(q:Int)=dx-bo-dy:=⟨((dx:Int)-bo-dy).toNat,O1⟩;exact mAp
  have fh:dy=0:=by rw[fc];exact qHm O1
  refine tI (fun h4=>?_) fun h4=>?_
  ·obtain⟨q,hq⟩:∃q:Nat,(q:Int)=dx-bo+16777216:=⟨((dx:Int)-bo+16777216).toNat,O1⟩;exact mAj
  obtain⟨q,hq⟩:∃q:Nat,(q:Int)=dx-bo:=⟨((dx:Int)-bo).toNat,O1⟩;exact mAp
 obtain rfl:i=(d24 x).length:=O1;have hV:=by
  have fi:=kK x1;rw[x2] at fi;exact qXb x0 (qHl (bM _)) fg fi
 have xy:=qZ hp 0 O hv (fun _=>O);have uz:kO z=d24 (x-y):=by rw[qL6 x1,hV]
 have ff:=c89 z st ct w2 hv.cap O1 xy;rw[uz] at ff;refine tD ff fun w3 hp=>?_;refine tV ?_;exact⟨_,O,st,ct,z,O,uz▸uM z,hv,hp⟩
end
section
open Go.Eng Go.Dig
theorem FitR.aD4{x:Nat}(h:FitR x):(Go.Proofs.YtplkndjlfkkjlaaGreatDoor.d24 x).length≤4000:=by
 obtain⟨k,h1,h2⟩:=h;exact bL (qRr (cJ h2 (nC O2 k))) h1
theorem jCw{x b:Nat}(h:(jY 256 x).length≤b)(hb:b≤7):x<72057594037927936:=by
 have h1:x<256^7:=vI O2 O1;omega
attribute [local irreducible] PV StepF wpl wpd WP Ret
attribute [local irreducible] FitR
end
section
open Go.Eng Go.Dig
theorem qUz{b x d i c z c' V:Nat}(h:V+c*b^i=x%b^i*d)(hz:z+b*c'=x/b^i%b*d+c):(V+b^i*z)+c'*b^(i+1)=x%b^(i+1)*d:=by
 rw[yV,fE,←h,fK,dD];grind
theorem qUb{x d:Nat}(hd:d<16777216):(d24 (x*d)).length≤(d24 x).length+1:=by
 refine qRr ?_;have h1:x<_:=qHl (bM _);by_cases h0:d=0
 ·grind
 exact Nat.mul_lt_mul_of_lt_of_le h1 O1 O2
theorem jTg{b x y n:Nat}(hb:0<b)(hx:x<b^n)(hy:y<b^n)(h:∀j,j<n→x/b^j%b=y/b^j%b):x=y:=by
 have h1:=qZi (i:=0) (fun j hj=>by
  by_cases fm:j<n
  ·grind
  have e:∀z,z<b^n→z/b^j=0:=fun z hz=>eJ (cJ hz (aR hb O1))
  grind) hb hx hy
 have h2:=qB9 b x 0;have h3:=qB9 b y 0;by_cases hn:0<n
 ·grind
 obtain rfl:n=0:=O1;grind
attribute [local irreducible] PV StepF wpl wpd WP Ret
attribute [local irreducible] FitR
theorem c99(x d:Nat)(s:Option Addr)(c:Nat)(w:World)(hx:SlAt w 1 eD s (d24 x))(um:(d24 x).length≤100000)(hd:d<16777216):
  Rt 262 [.slice s (d24 x).length c,Iv (d:Int)] w (fun v w'=>∃s' c',v= .slice s' (d24 (x*d)).length c'∧(d24 (x*d)).length≤c'∧SlAt w' 1 eD s' (d24 (x*d))∧Keeps [] w w'):=by
 refine Ret.j9 func262 O ntmps262 O ?_;have hp:=(Hp.start (M:=[]) (w:=w)).k4 eD 3 1;refine qA (qNj [5,6,7,8,9,10,11,12,13,14,15,16,17,18,19,20,21,22,23,24,25,26,27,28,29] (fun(i cy:Nat) z st ct F=>((F.put 7 (.int _ i)).put 6 (.int _ cy)).put 5 (.slice st z.length ct))
  (fun i cy z st ct w'=>i≤(d24 x).length∧z.length=i∧Bd 16777216 z∧cy<16777216∧val 16777216 z+cy*16777216^i=x%16777216^i*d∧SVL st ct z∧Hp w [] w' [qG eD 3 1 st ct z])
  (fun i _ _ _ _=>(d24 x).length-i) 0 0 [] _ 0 (qB (qB (qB (Same.eq .refl) O) O) O) ⟨O1,O,.nil,O2,by simp[val,mC],SVL.nil,hp⟩ ?_)
 clear hp;rintro u i cy z st ct w2 ⟨hi,x2,x1,si,x0,hv,hp⟩;refine tI (fun h2=>?_) fun h2=>?_
 ·have hl:i<(d24 x).length:=O1;obtain⟨b0,o0,hs0,yq⟩:=hx.base O1;have yp:=yq i _ (aA hl) 0 _ O;have h3:=(qFo x).get hl;have hg:=qGf hl;generalize (d24 x)[i]=dx at yp h3 hg;have hm:dx*d≤16777215*16777215:=cF O1 O1;obtain⟨q,hq⟩:∃q,q=dx*d+cy:=⟨_,O⟩;refine qA ?_;refine wlp (vD O O) (qF (by rw[←bU,qK O1 O1])) (jM ?_);refine wlp (qO O O) (qF (b:=q) (by rw[qK O1 O1];omega)) (qA ?_);refine tR (qY2 (b:=16777216) O O O2) (tF (jC hp O O O O O O O) fun w3 nb hp=>?_);refine tFb (jV eD z _ hp 1 0 O O O O O O (fun _=>O) O O O hv O O O1) fun w4 s' c'⟨hh,hp⟩=>?_;have hp:=hp.H;refine qA ?_;refine tR (qQo (b:=16777216) O O O2 O1) ?_;refine gA0 ?_;refine⟨i+1,_,_,s',c',qB O5 O,⟨O1,by grind,x1.aA1 (.cons O1 .nil),O1,?_,hh,hp⟩,O1⟩;rw[qD9,x2];refine qUz x0 ?_;grind
 obtain rfl:i=(d24 x).length:=O1;have e1:x<_:=qHl O1;rw[aN e1] at x0;refine qA ?_;refine tF (jC hp O O O O O O O) fun w3 nb hp=>tFb (jV eD z cy hp 1 0 O O O O O O (fun _=>O) O O O hv O O O1) fun w4 s' c'⟨hh,hp⟩=>?_;have hp:=hp.H;have xy:=qZ hp 0 O hh (fun _=>O);have fo:=x1.aA1 (.cons si .nil);have hV:val 16777216 (z++[cy])=x*d:=by
  rw[qD9,x2,←x0,bW cy]
 have uz:kO (z++[cy])=d24 (x*d):=by rw[qL6 fo,hV]
 have ff:=c89 _ s' c' w4 hh.cap (by grind) xy;rw[uz] at ff;refine tK ff ?_;rintro _ w5 ⟨rfl,hk⟩;have hp:=hp.call hk;refine qA ?_;refine qM O O ⟨_,O,s',c',O,?_,?_,hp.C⟩
 ·rw[←uz];exact bL (uM _).length_le hh.cap
 rw[←uz];exact(xy.pre (uM _)).j6 hk
theorem c97(x y:Nat)(s s2:Option Addr)(c c2:Nat)(w:World)(hx:SlAt w 1 eD s (d24 x))(hy:SlAt w 1 eD s2 (d24 y))(um:(d24 x).length≤1000000)(un:(d24 y).length≤1000000):
  Rt 259 [.slice s (d24 x).length c,.slice s2 (d24 y).length c2] w (fun v w'=>∃r:Int,v=Iv r∧(0≤r↔y≤x)∧(r≤0↔x≤y)∧Keeps [] w w'):=by
 refine tW func259 ntmps259 fun hp=>?_;refine qA ?_;refine xI O (fun h=>?_) (fun h=>?_)
 ·refine gA0 ?_;refine qM O O ⟨_,O,_,O,?_,?_,hp.C⟩
  all_goals
   rcases iL (d24 x).length (d24 y).length with hl|hl
   ·have:=qBa O2 hl;omega
   have:=qBa O2 (show(d24 y).length<(d24 x).length by omega);omega
 have yw:(d24 x).length=(d24 y).length:=O1;have e1:x<_:=qHl (bM _);have fv:y<16777216^(d24 x).length:=by rw[yw];exact qHl (bM _)
 refine gA0 ?_;refine qQ [4,5,19,20,21,22,23,24,25,26,27,28,29,30,31,32,33,34,35,36,37,38,39,40] (fun(k:Nat) F=>F.put 5 (.int _ (k-1))) (fun k w'=>k≤(d24 x).length∧(∀j,k≤j→j<(d24 x).length→x/16777216^j%16777216=y/16777216^j%16777216)∧Hp w [] w' []) (fun k=>k) _ (qB (Same.eq .refl) O) ⟨O1,fun j h1 h2=>O1,hp⟩ ?_;clear hp;rintro u k w1 ⟨hk,fs,hp⟩;refine tI (fun h2=>?_) fun h2=>?_
 ·obtain⟨i,rfl⟩:∃i,k=i+1:=⟨k-1,O1⟩;rw[show((i+1:Nat)-1)=(i:Int) from by omega];have hg:i<(d24 x).length:=O1;have fe:i<(d24 y).length:=O1;obtain⟨b0,o0,hs0,yq⟩:=hx.base O1;obtain⟨b1,o1,hq,sY⟩:=hy.base O1;have yp:=yq i _ (aA hg) 0 _ O;have zu:=sY i _ (aA fe) 0 _ O;have fu:=qGf hg;have fc:=qGf fe;have fw:=(qFo x).get hg;have x3:=(qFo y).get fe;generalize (d24 x)[i]=dx at yp fu fw;generalize (d24 y)[i]=dy at zu fc x3;have yp:w.cell? ⟨b0,o0+i*1,_⟩=_:=yp;have zu:w.cell? ⟨b1,o1+i*1,_⟩=_:=zu
  have tf:x/_^(i+1)=_:=qZi (fun j hj=>by
   by_cases fm:j<(d24 x).length
   ·grind
   rw[qHm O1,qHm O1]) O2 e1 fv
  refine tY fun hp=>?_;refine tP (fun w hp=>qP) ?_;refine tP (fun w hp=>qP) ?_;refine tP (fun w hp=>zA O O O hs0 hg) ?_;refine tP (fun w hp=>qS O O (hp.j7 yp)) ?_;refine tP (fun w hp=>qP) ?_;refine tP (fun w hp=>qP) ?_;refine tP (fun w hp=>zA O O O hq fe) ?_;refine tP (fun w hp=>qS O O (hp.j7 zu)) ?_;refine xA ?_;refine qU ?_;refine xI O (fun h3=>?_) (fun h3=>?_)
  ·refine tY fun hp=>?_;refine tP (fun w hp=>qP) ?_;refine tP (fun w hp=>qP) ?_;refine tP (fun w hp=>zA O O O hs0 hg) ?_;refine tP (fun w hp=>qS O O (hp.j7 yp)) ?_;refine tP (fun w hp=>qP) ?_;refine tP (fun w hp=>qP) ?_;refine tP (fun w hp=>zA O O O hq fe) ?_;refine tP (fun w hp=>qS O O (hp.j7 zu)) ?_;refine tA ?_;refine xA ?_;refine qU ?_;refine qA ?_;refine qM O O ⟨_,O,_,O,?_,?_,hp.C⟩
   all_goals
    rcases iL dx dy with hl|hl
    ·have:=qCs O2 tf O1;omega
    have:=qCs (b:=16777216) (x:=y) (y:=x) (i:=i) O2 tf.symm (by rw[←fu,←fc];omega);omega
  refine gA0 ?_;refine⟨i,qB O5 O,⟨O1,fun j h4 h5=>?_,hp⟩,O1⟩;by_cases hj:j=i
  ·subst hj;rw[←fu,←fc];omega
  exact fs j O1 h5
 obtain rfl:k=0:=O1;have ft:x=y:=jTg O2 e1 fv (fun j hj=>fs j (bN _) hj);refine tV ?_;exact⟨_,O,0,O,O1,O1,hp.C⟩
theorem c98(x y:Nat)(s s2:Option Addr)(c c2:Nat)(w:World)(hx:SlAt w 1 eD s (d24 x))(hy:SlAt w 1 eD s2 (d24 y))(um:(d24 x).length≤100000)(un:(d24 y).length≤100000)(ug:0<y)(hq:x/y<16777216):
  Rk 260 [.slice s (d24 x).length c,.slice s2 (d24 y).length c2] w (Iv ((x/y:Nat):Int)):=by
 refine tW func260 ntmps260 fun hp=>?_;refine qA ?_;refine kT [5,6,7,8,9,10,11,12,13,14,15,16,17,18,19,20,21,22,23,24] (fun(lo hi:Nat) F=>(F.put 5 (Iv (lo:Int))).put 6 (Iv (hi:Int))) (fun lo hi w'=>lo≤x/y∧x/y≤hi∧hi≤16777215∧Hp w [] w' []) (fun lo hi=>hi-lo) 0 16777215 (qB (qB (Same.eq .refl) O) O) ⟨bN _,O1,O1,hp⟩ ?_;clear hp;rintro u lo hi w1 ⟨z1,gb,hb,hp⟩;refine tI (fun h=>?_) fun h=>?_
 ·obtain⟨m,hm⟩:∃m,m=(lo+hi+1)/2:=⟨_,O⟩;have hl:=qUb (x:=y) (d:=m) O1;refine tM (lo+hi) ?_;refine tN (lo+hi+1) ?_;refine wlp (qQo (b:=2) O O O2 O1) (qF (b:=(m:Int)) (by rw[hm])) ?_;refine tL (c99 y m s2 c2 _ (hy.j6 hp.C) un O1) ?_;rintro _ w2 ⟨s3,c3,rfl,_,fy,hk⟩;have hp:=hp.call hk;refine tL (c97 (y*m) x s3 s c3 c _ fy (hx.j6 hp.C) O1 O1) ?_;rintro _ w3 ⟨r,rfl,_,hr,hk⟩;have hp:=hp.call hk;refine tI (fun h2=>?_) fun h2=>?_
  ·have:m≤x/y:=(mL ug).2 (by rw[bW];exact hr.1 h2);refine qA ?_;exact⟨m,hi,qB O5 O,⟨O1,O1,O1,hp⟩,O1⟩
  have:x/y<m:=(dU ug).2 (by
   rw[bW];have:¬y*m≤x:=fun h=>h2 (hr.2 h)
   omega)
  refine tM (m-1) ?_;refine qA ?_;exact⟨lo,m-1,qB O5 O,⟨O1,O1,O1,hp⟩,O1⟩
 obtain rfl:lo=x/y:=O1;exact mA0
end
section
open Go.Eng Go.Dig
theorem jDi{B x y i dx:Nat}(hy:0<y)(hd:dx=x/B^i%B)(hB:0<B):
  x/B^i/y=(dx+B*(x/B^(i+1)%y))/y+B*(x/B^(i+1)/y)∧x/B^i%y=(dx+B*(x/B^(i+1)%y))%y∧(dx+B*(x/B^(i+1)%y))/y<B:=by
 have h1:=qB9 B x i;rw[←hd] at h1;generalize x/B^(i+1)=X at*
 rw[h1];have h2:=fV X y;have hr:=dG X hy;generalize X/y=q at*
 generalize X%y=r at*
 have h3:B*X+dx=(dx+B*r)+y*(B*q):=by
  rw[←h2,iC,←fK,←fK,bW B y];omega
 rw[h3];refine⟨?_,?_,?_⟩
 ·rw[mS _ _ hy]
 ·rw[iE]
 refine(dU hy).2 ?_;have h4:dx<B:=by rw[hd];exact dG _ hB
 have h5:B*(r+1)≤B*y:=dK B hr;rw[iC] at h5;omega
theorem jJf(k d:Nat)(T:List Nat):(replicate (k+1) 0++T).set k d=replicate k 0++(d::T):=by
 rw[rW,bQ,rF _ _ O4];simp
theorem jDf(k:Nat)(T:List Nat):replicate (k+1) 0++T=replicate k 0++(0::T):=by
 rw[rW,bQ];rfl
theorem jAa{R dx:Nat}(hd:dx<16777216):kO (dx::d24 R)=d24 (dx+16777216*R):=by
 rw[qL6 (.cons hd (qFo R))];show d24 (dx+16777216*val 16777216 (d24 R))=_
 rw[qRq]
theorem qO8(b d:Nat)(l:List Nat):val b (d::l)=d+b*val b l:=O
theorem jCa(b:Nat):val b []=0:=O
theorem jHi:d24 0=[]:=O
theorem jJ6:Value.slice none (d24 0).length 0=Zs:=O
attribute [local irreducible] PV StepF wpl wpd WP Ret
attribute [local irreducible] FitR d24 val
theorem zGc(sx:ByteArray)(x y:Nat)(w:World)(yx:NSR sx x)(hx:FitR x)(hy:FitR y)(ug:0<y):Rk 181 [.string sx,.string (ofN y)] w (.tuple #[.string (ofN (x/y)),.string (ofN (x%y)),.bool true]):=by
 have ij:=qI9 y;have yy:(jY 256 y).length≠0:=fun h=>by
  have:=(wO (b:=256) O2).1 (aZ h);omega
 refine tW func181 ntmps181 fun hp=>?_;refine tD (jTr y _ hy) fun w1 hp=>?_;refine qA ?_;refine qH O (fun h=>absurd h O1) (fun _=>?_);refine tL (jY9 sx x 7 _ yx O2 hx) ?_;rintro _ w2 ⟨⟨p,h4,rfl⟩,hk⟩;have hp:=hp.call hk;refine qR ?_;refine tR qP ?_;refine tL (c68 y 7 _ O2 hy) ?_;rintro _ w3 ⟨⟨q,ik,rfl⟩,hk⟩;have hp:=hp.call hk;refine tR qP ?_;refine jM ?_;refine jM ?_;refine jM ?_;refine jM ?_;refine gA4 ?_;refine qA ?_;refine xD O (fun h=>?_) (fun h=>?_)
 ·obtain⟨rfl,rfl⟩:p=true∧q=true:=by
   revert h;cases p<;>cases q<;>simp
  have e4:=jCw (iT h4.symm) (bM _);have iu:=jCw (iT ik.symm) (bM _);have te:x/y≤x:=fR _ _;have yu:x%y≤x:=rN _ _;simp only[if_true];refine tY fun hp=>?_;refine tP (fun w hp=>qP) ?_;refine tP (fun w hp=>qP) ?_;refine tP (fun w hp=>qQo O O ug O1) ?_;apply wds;exact O;exact qC O qU8 O (c40 _ _ O1);rintro _ w4 ⟨rfl,hk⟩;have hp:=hp.call hk;refine⟨hp,?_⟩;rw[nT];refine tP (fun w hp=>qP) ?_;refine tP (fun w hp=>qP) ?_;refine tP (fun w hp=>qY2 O O ug) ?_;apply wds;exact O;exact qC O qU8 O (c40 _ _ O1);rintro _ w5 ⟨rfl,hk⟩;have hp:=hp.call hk;refine⟨hp,?_⟩;rw[nT];refine xA ?_;refine qU ?_;refine qA ?_;exact qDj O O O O ⟨_,O,O,hp.C⟩
 have um:=hx.d24;have un:=hy.d24;clear h h4 ik;refine tL (jY8 sx x _ yx hx) ?_;rintro _ w4 ⟨su,cu,rfl,uy,hpo⟩;have gy:=qZ hpo 0 O uy (fun _=>O);have hp:=hp.call hpo.C;clear hpo;refine tL (c69 y _ hy) ?_;rintro _ w5 ⟨sv,cv,rfl,sn,hpo⟩;have gv:=qZ hpo 0 O sn (fun _=>O);have gy:=gy.j6 hpo.C;have hp:=hp.call hpo.C;clear hpo;have gl:=hp.C;clear hp;have hp:=(Hp.start (M:=[]) (w:=w5)).k4 eD 3 1;refine qA ?_;refine tF (yE eD 0 hp O O O O O O O O1 O) fun w6 g⟨hv,hp⟩=>?_;refine gA0 ?_;refine qNj [14,15,53,54,55,56,57,58,59,60,61,62,63,64,65,66,67,68,69,70,71,72,73,74,75,76,77,78,79,80,81,82] (fun(k:Nat) (T z:List Nat) (sr:Option Addr) (cr:Nat) F=>(F.put 15 (Iv ((k:Int)-1))).put 14 (.slice sr (d24 (x/16777216^k%y)).length cr))
  (fun k T z sr cr w'=>k≤(d24 x).length∧k+T.length=(d24 x).length∧Bd 16777216 T∧val 16777216 T=x/16777216^k/y∧d24 (x/16777216^k%y)<+:z∧SVL sr cr z∧SVL (Ad g) (d24 x).length (replicate k 0++T)∧Hp w5 [] w' [qG eD 3 1 (Ad g) (d24 x).length (replicate k 0++T),qG eD 3 1 sr cr z])
  (fun k _ _ _ _=>k) (d24 x).length [] [] none 0 ?_ ?_ ?_
 ·refine qB (qB (Same.eq .refl) O) ?_;rw[eJ (qHl (bM _)),oL,jJ6];rfl
 ·have e0:x/16777216^(d24 x).length=0:=eJ (qHl (bM _));rw[e0,oL,Nat.zero_div,bH];exact⟨bM _,O4,.nil,jCa _,jHi▸List.nil_prefix,SVL.nil,hv,hp⟩
 clear hp hv;rintro u k T z sr cr w7 ⟨hk,it,zl,ie,ih,gq,uw,hp⟩;refine tI (fun h2=>?_) fun h2=>?_
 ·obtain⟨i,rfl⟩:∃i,k=i+1:=⟨k-1,O1⟩;rw[show(((i+1:Nat):Int)-1)=(i:Int) from by omega];have hl:i<(d24 x).length:=O1;obtain⟨b0,o0,hs0,yq⟩:=gy.base O1;have yp:=yq i _ (aA hl) 0 _ O;have hg:=(qFo x).get hl;have fu:=qGf hl;generalize (d24 x)[i]=dx at yp hg fu;have yp:w5.cell? ⟨b0,o0+i*1,none⟩=some (Iv (dx:Int)):=yp;obtain⟨tc,yz,gS⟩:=jDi (B:=16777216) (x:=x) (y:=y) (i:=i) ug fu O2;have ye:(d24 (x/16777216^(i+1)%y)).length≤4000:=(bL (hy.le (oN (dG _ ug))).aD4 O2:_≤4000);have ic:=jAa (R:=x/16777216^(i+1)%y) hg;generalize x/16777216^(i+1)%y=R at*
  obtain⟨R1,iq⟩:∃R1,R1=dx+16777216*R:=⟨_,O⟩;rw[←iq] at tc yz gS ic;have zh:(d24 R1).length≤(d24 R).length+1:=by
   have h9:=(uM (dx::d24 R)).length_le;rw[bT,ic] at h9;exact h9
  generalize d24 R=DR at*
  refine qA ?_;refine tF (jC hp O O O O O O O) fun w8 nb hp=>?_;have hp:Hp w5 [] w8 [qG eD 3 1 (Ad nb) 1 [dx],qG eD 3 1 (Ad g) (d24 x).length (replicate (i+1) 0++T),qG eD 3 1 sr cr z]:=hp.rowOf 0 1 1 O O;have s7:SVL (Ad nb) 1 [dx]:=.inr ⟨nb,1,O,bM _,by unfold maxLen;omega⟩;refine qA ?_;refine tFb (qV8 eD [dx] (DR) hp 0 O O O O O O (fun _=>O) O O O s7 ((qZ hp 2 O gq (fun _=>O)).pre ih) (fun _=>O) (by simp;omega)) fun w9 s1 c1⟨s8,hp⟩=>?_;have hp:Hp w5 [] w9 [qG eD 3 1 s1 c1 (dx::DR),qG eD 3 1 (Ad g) (d24 x).length (replicate (i+1) 0++T),qG eD 3 1 sr cr z]:=hp;have hp:=hp.k5 [0,1] [qG eD 3 1 s1 c1 (dx::DR),qG eD 3 1 (Ad g) (d24 x).length (replicate (i+1) 0++T)] O O;have ff:=c89 (dx::DR) s1 c1 w9 s8.cap (by rw[bT];omega) (qZ hp 0 O s8 (fun _=>O));rw[ic] at ff;refine tC ff fun ur hp=>?_;have gO:d24 R1<+:(dx::DR):=ic▸uM _;refine tL (c97 R1 y s1 sv c1 cv _ ((qZ hp 0 O s8 (fun _=>O)).pre gO) (gv.j6 hp.C) O1 O1) ?_;rintro _ gg ⟨r,rfl,hr,_,hk⟩;have hp:=hp.call hk;refine tI (fun h3=>?_) fun h3=>?_
  ·have yw:y≤R1:=hr.1 h3;obtain⟨d,hd⟩:∃d,d=R1/y:=⟨_,O⟩;have io:i<(replicate (i+1) 0++T).length:=by simp;omega
   have ig:y*d≤R1:=by rw[hd];exact Nat.mul_div_le R1 y
   have ia:R1-y*d=R1%y:=by
    have:=fV R1 y;rw[←hd] at this;omega
   have eu:(d24 (y*d)).length≤100000:=by
    have:=qUb (x:=y) (d:=d) O1;have:=hy.aD4;omega
   refine tD (c98 R1 y s1 sv c1 cv _ ((qZ hp 0 O s8 (fun _=>O)).pre gO) (gv.j6 hp.C) O1 O1 ug gS) fun gh hp=>?_;rw[←hd];refine tR (zA O O O O hl) ?_;refine tO (zL eD _ i d hp 1 O uw io O O (fun _=>O) O O (qD O)) fun gm hp=>?_;have il:SVL (Ad g) (d24 x).length (replicate i 0++(d::T)):=by
    have e:(replicate i 0++(d::T)).length=(d24 x).length:=by simp;omega
    unfold SVL;rw[e];exact .inr ⟨g,_,O,bM _,by unfold maxLen;omega⟩
   have hp:Hp w5 [] gm [qG eD 3 1 s1 c1 (dx::DR),qG eD 3 1 (Ad g) (d24 x).length (replicate i 0++(d::T))]:=by
    rw[←jJf];exact hp
   have gz:gm.cell? ⟨g,0+i*1,none⟩=some (Iv (d:Int)):=by
    have gu:=qZ hp 1 O il (fun _=>O);obtain⟨b3,o3,e3,gx⟩:=gu.base (by simp;omega);cases e3;exact gx i d O4 0 _ O
   refine tL (c99 y d sv cv _ (gv.j6 hp.C) un O1) ?_;rintro _ gj ⟨s3,c3,rfl,_,fy,hk⟩;have hp:=hp.call hk;refine tK (jY7 R1 (y*d) s1 s3 c1 c3 _ ((qZ hp 0 O s8 (fun _=>O)).pre gO) fy O1 eu ig) ?_;rintro _ gn ⟨s4,c4,z4,rfl,ii,gY,hpo⟩;have hp:=hp.join hpo;clear hpo;rw[ia];rw[ia] at ii;rw[←yz];rw[←yz] at ii;refine gA0 ?_;refine⟨i,d::T,z4,s4,c4,qB O5 O,⟨O1,by simp;omega,.cons O1 zl,?_,ii,gY,il,hp.k5 [2,0] _ O O⟩,O1⟩;rw[qO8,ie,hd,tc]
  have zm:R1<y:=by
   rcases iL R1 y with h|h
   ·exact h
   exact absurd (hr.2 h) h3
  have e1:R1/y=0:=eJ zm;have e2:R1%y=R1:=aN zm;rw[e1,fH] at tc;rw[e2] at yz;rw[←yz] at gO;rw[←yz];refine gA0 ?_;rw[jDf] at uw hp;refine⟨i,0::T,_,s1,c1,qB O5 O,⟨O1,by simp;omega,.cons O1 zl,?_,gO,s8,uw,hp.k5 [1,0] _ O O⟩,O1⟩;rw[qO8,ie,tc,fH]
 obtain rfl:k=0:=O1;rw[nK,sA0] at ie ih;rw[nK,sA0];have ye:(d24 (x%y)).length≤100000:=hx.mod.d24;have hp:Hp w5 [] w7 [qG eD 3 1 (Ad g) (d24 x).length T,qG eD 3 1 sr cr z]:=hp;have uw:SVL (Ad g) (d24 x).length T:=uw;have ir:T.length=(d24 x).length:=O1;have im:=fun w' h=>c70 T (Ad g) (d24 x).length w' h zl O1
 rw[ir,ie] at im;have u2:=fun w' h=>c70 (d24 (x%y)) sr cr w' h (qFo _) ye
 rw[qRq] at u2;refine tD (im _ (qZ hp 0 O uw (fun _=>O))) fun w8 hp=>?_;refine tD (u2 _ ((qZ hp 1 O gq (fun _=>O)).pre ih)) fun w9 hp=>?_;refine qA ?_;exact qDj O O O O ⟨_,O,O,gl.trans hp.C O4⟩
theorem c92(x y:Nat)(w:World)(hx:FitR x)(hy:FitR y)(ug:0<y):Rk 181 [.string (ofN x),.string (ofN y)] w (.tuple #[.string (ofN (x/y)),.string (ofN (x%y)),.bool true]):=zGc _ x y w (NSR.self hx) hx hy ug
end
section
open Go.Eng Go.Dig
attribute [local irreducible] PV StepF wpl wpd WP Ret
attribute [local irreducible] FitR ofN
theorem c85(x:Nat)(w:World):Rk 110 [.string (ofN x)] w (.bool true):=by
 have hg:=qI9 x;refine tW func110 ntmps110 fun hp=>?_;refine gA1 ?_;refine gA4 ?_;by_cases h0:x=0
 ·have h1:(ofN x).size=0:=by rw[hg,h0];rfl
  refine wlp (zW O O) (qV (aD O1)) (jL ?_);exact mAb
 obtain⟨h1,hb⟩:=qKs h0;refine wlp (zW O O) (qV (aB O1)) (jM ?_);refine qAd ?_;apply vX;exact O;exact O;exact zY (i:=0) O O O h1;exact fI O;apply vX;exact O;exact O;exact kB O O;exact qV (ndt hb);exact mE6
theorem c91(x y:Nat)(w:World)(hx:FitR x)(hy:FitR y):Rk 180 [.string (ofN x),.string (ofN y)] w (.string (ofN (Nat.gcd x y))):=by
 refine tW func180 ntmps180 fun hp=>?_;refine tD (jTr x _ hx) fun w1 hp=>?_;refine tD (jTr y _ hy) fun w2 hp=>?_;refine qA (kT [0,1,5,6,7,12,13,14,15,16,17,18,19,20,21,22,23] (fun(a b) F=>(F.put 0 (.string (ofN a))).put 1 (.string (ofN b))) (fun a b w'=>FitR a∧FitR b∧Nat.gcd a b=Nat.gcd x y∧Hp w [] w' []) (fun _ b=>b) x y (qB (qB (Same.eq .refl) O) O) ⟨hx,hy,O,hp⟩ ?_);clear hp;rintro u a b w3 ⟨ha,hb,hg,hp⟩;have hh:=qI9 b;refine tI (fun h=>?_) fun h=>?_
 ·have ix:0<b:=by
   rcases dH b with h0|h0
   ·subst h0;rw[hh,qBo] at h;grind
   exact h0
  have hl:=dG a ix;refine tD (c92 a b _ ha hb ix) fun w4 hp=>?_;refine qA ?_;exact⟨b,_,qB O5 O,⟨hb,ha.mod,by rw[←qTy];exact hg,hp⟩,hl⟩
 obtain rfl:b=0:=by
  rcases dH b with h0|h0
  ·exact h0
  have:=(qKs (n:=b) O1).1;omega
 rw[sAp] at hg;subst hg;exact mA0
end
section
open Go.Eng Go.Dig Go.Sha
variable{i:Nat}{bt:Nat→Nat}
def u8(x:Nat):Value:=.int .u8 (x:Int)
def wA(bt:Nat→Nat)(i:Nat):Fr:=fun j=>u (wp bt j (min 4 (i-4*j)))
def wB(bt:Nat→Nat)(i:Nat):Fr:=fun j=>if j<i then u (wf bt j) else u 0
theorem qMp(v:Value)(m:Nat){j:Nat}(h:j<m):qE (replicate m v) j=v:=by
 rw[uA,aC,nE,if_pos h];rfl
theorem jIt(bt:Nat→Nat)(j:Nat)(h:j<64):qE (replicate 64 (u 0)) j=wA bt 0 j:=by
 rw[qMp _ _ h];unfold wA;rw[Nat.zero_sub,Nat.min_zero];rfl
theorem jV0(bt:Nat→Nat)(i:Nat):wA bt i (0+i/4*1)=u (wp bt (i/4) (i%4)):=by
 unfold wA;grind
theorem jIu:uT (wA bt i) (0+i/4*1) [u ((wp bt (i/4) (i%4)*2^8%4294967296)|||bt i)]=wA bt (i+1):=by
 funext j;show(Fr.put _ _ _) j=_
 unfold Fr.put;by_cases h:j=0+i/4*1
 ·rw[h,Nat.beq_refl];show _=u _
  rw[show min 4 _=i%4+1 by omega,show 0+i/4*1=i/4 by omega];show u _=u ((wp bt _ _*2^8%4294967296)|||bt _)
  grind
 rw[jJ h];show u _=u _
 grind
theorem jNn(bt:Nat→Nat)(j:Nat)(_:j<64):wA bt 64 j=wB bt 16 j:=by
 unfold wA wB;by_cases h:j<16
 ·rw[if_pos h,jM0 bt h,show min 4 _=4 by omega]
 rw[if_neg h,show min 4 _=0 by omega];rfl
theorem jM3(bt:Nat→Nat){k:Nat}(h:k<i):wB bt i (0+k*1)=u (wf bt k):=by
 unfold wB;grind
theorem jIs{v:Value}(hv:v=u (wf bt i)):uT (wB bt i) (0+i*1) [v]=wB bt (i+1):=by
 subst hv;funext j;show(Fr.put _ _ _) j=_
 unfold Fr.put wB;by_cases h:j=0+i*1
 ·subst h;simp
 rw[jJ h];grind
attribute [local irreducible] PV StepF wpl wpd WP Ret
attribute [local irreducible] rr
theorem jWe(s:St)(st:ByteArray)(bt:Nat→Nat)(w:World)(hs:Ok s)(hb:∀k,bt k<256)(xy:∀k,k<64→bAt st k=(bt k:Int))(hg:64≤st.size)(hT:Tabs w):
  Rk 284 [.agg (sv s).toArray,.string st] w (.agg (sv (jEn bt s)).toArray):=by
 have jg:=jLz hb
 have je:=jUv hb
 refine tW func284 ntmps284 fun hp=>?_;refine qR (tF (kW (cs:=sv s) (m:=8) hp O O O) fun w1 sb hp=>?_);refine tF (zE (cs:=replicate 8 (u 0)) (m:=8) hp (qJ O) O O) fun w2 rb hp=>qR (tF (zE (cs:=replicate 64 (u 0)) (m:=64) hp (qJ O) O O) fun w3 wb hp=>?_);rw[qBb (jIt bt)] at hp;refine qA (qQ [6,23,24,25,26,27,28,29,30,31,32,33,34,35,36,37,38,39] (fun(i:Nat) F=>F.put 23 (.int _ i))
  (fun i w'=>i≤64∧Hp w [] w' [blk wb 64 (wA bt i) 410,blk rb 8 _ 359,blk sb 8 _ 359]) (fun i=>64-i) 0
  (qB (Same.eq .refl) O) ⟨O1,hp⟩ ?_)
 clear hp;rintro u0 i w4 ⟨hi,hp⟩;refine tI (fun h=>?_) fun h=>?_
 ·have hi:i<64:=O1;have jh:=hb i;have hH:=xy i hi;have jj:i<st.size:=O1;have hq:i/4<64:=O1;have iz:∀w',Hp w [] w' [blk wb 64 (wA bt i) 410,blk rb 8 (qE (replicate 8 (u 0))) 359,blk sb 8 (qE (sv s)) 359]→w'.cell? ⟨wb,0+i/4*1,none⟩=some (u (wp bt (i/4) (i%4))):=by
   intro w' hp;rw[hp.cell 0 O (yQ O1),jV0]
  refine qA ?_;refine jU jG O3 (fun w'=>Hp w [] w' _) hp.N ?_;have hp:=hp.N;refine qX ?_;refine wdp O (fun w hp=>qC1 O O O2) (qF (qCt 4 O1)) (qX ?_);refine wdp O (fun w hp=>qC1 O O O2) (qF (qCt 4 O1)) (tP (fun w hp=>jS O O O hq) ?_);refine wdp O (fun w hp=>qS O O (iz w hp)) (qF O) (wdp O (fun w hp=>qLv (b:=8) O O O2) (qF O) ?_);refine tP (fun w hp=>qP) (tP (fun w hp=>qP) ?_);refine wdp O (fun w hp=>zY O O O jj) (qF hH) (wdp O (fun w hp=>vB O O O) (qF (b:=(bt i:Nat)) O1) ?_);refine wdp O (fun w hp=>qY3 O O (qCb _) O1) (qF O) (tP (fun w hp=>jS O O O hq) ?_);apply xH;exact O;exact O;exact zH (cs:=[u _]) hp 0 O O O O (qD O) (qG7 (by grind)) O;rintro _ w5 ⟨rfl,hp⟩;rw[jIu] at hp;exact mBl
 obtain rfl:i=64:=O1;clear h hi;rw[qBb (jNn bt)] at hp;refine qA (qQ [7,8,9,10,11,40,41,42,43,44,45,46,47,48,49,50,51,52,53,54,55,56,57,58,59,60,61,62,63,64,65,66,67,68,69,70,71,72,73,74,75,76,77,78,79,80,81,82] (fun(i:Nat) F=>F.put 7 (.int _ i))
  (fun i w'=>16≤i∧i≤64∧Hp w [] w' [blk wb 64 (wB bt i) 410,_,_]) (fun i=>64-i) 16
  (qB (Same.eq .refl) O) ⟨O1,O1,hp⟩ ?_)
 clear hp;rintro u1 i w4 ⟨jf,hi,hp⟩;refine tI (fun h=>?_) fun h=>?_
 ·have hi:i<64:=O1;have iz:∀k,k<i→∀w',Hp w [] w' [blk wb 64 (wB bt i) 410,blk rb 8 (qE (replicate 8 (u 0))) 359,blk sb 8 (qE (sv s)) 359]→w'.cell? ⟨wb,0+k*1,none⟩=some (u (wf bt k)):=by
   intro k hk w' hp;rw[hp.cell 0 O (yQ O1),jM3 bt hk]
  have hX:=je (i-15);have hY:=je (i-2);have ji:=jM1 bt jf;refine qA ?_;refine jU jG O3 (fun w'=>Hp w [] w' _) hp.N ?_;have hp:=hp.N;refine tP (fun w hp=>qP) ?_;refine tN (i-15) ?_;refine tP (fun w hp=>jS O O O O1) ?_;refine tP (fun w hp=>qS O O (iz _ O1 w hp)) (tP (fun w hp=>qP) ?_);refine tN (i-2) ?_;refine tP (fun w hp=>jS O O O O1) ?_;refine tP (fun w hp=>qS O O (iz _ O1 w hp)) (tP (fun w hp=>qY) ?_);refine tP (fun w hp=>qY) (qU ?_);refine qR ?_;refine tR qP (tK (qNu _ 7 _ hX O2 O2) ?_);rintro _ w5 ⟨rfl,hk⟩;have hp:=hp.call hk;clear hk;refine tR qP (tK (qNu _ 18 _ hX O2 O2) ?_);rintro _ w5 ⟨rfl,hk⟩;have hp:=hp.call hk;refine tR (uH O O (vV hX _) (vV hX _)) (tR qP ?_);refine tR (xP (b:=3) O O O2) ?_;refine tR (uH O O (uQ (vV hX _) (vV hX _)) O1) ?_;refine tR qY (qR ?_);refine tR qP (tK (qNu _ 17 _ hY O2 O2) ?_);rintro _ w5 ⟨rfl,hk⟩;have hp:=hp.call hk;refine tR qP (tK (qNu _ 19 _ hY O2 O2) ?_);rintro _ w5 ⟨rfl,hk⟩;have hp:=hp.call hk;refine tR (uH O O (vV hY _) (vV hY _)) (tR qP ?_);refine tR (xP (b:=10) O O O2) ?_;refine tR (uH O O (uQ (vV hY _) (vV hY _)) O1) ?_;refine tR qY (qR ?_);refine jU jG O3 (fun w'=>Hp w [] w' _) hp.N ?_;have hp:=hp.N;refine tP (fun w hp=>qP) (tP (fun w hp=>qP) ?_);refine tN (i-16) ?_;refine tP (fun w hp=>jS O O O O1) ?_;refine tP (fun w hp=>qS O O (iz _ O1 w hp)) (tP (fun w hp=>qP) ?_);refine tP (fun w hp=>xW O O) (tP (fun w hp=>qP) ?_);refine tN (i-7) ?_;refine tP (fun w hp=>jS O O O O1) ?_;refine tP (fun w hp=>qS O O (iz _ O1 w hp)) (tP (fun w hp=>xW O O) ?_);refine tP (fun w hp=>qP) (tP (fun w hp=>xW O O) ?_);refine tP (fun w hp=>jS O O O hi) ?_;apply xH;exact O;exact O;exact zH hp 0 O O O (aQ (fun x=>[u x]) ji.symm) (qD O) (qG7 (by grind)) O;rintro _ w6 ⟨rfl,hp⟩;rw[jIs O] at hp;refine qU (tB ?_);refine qA ?_;exact⟨i+1,qB O5 O,⟨O1,O1,hp⟩,O1⟩
 obtain rfl:i=64:=O1;clear h hi jf;refine qR ?_;refine jW jG O3 (fun w'=>Hp w [] w' _) hp.N ?_;have hp:=hp.N;refine tP (fun w hp=>jS (i:=0) O O O O2) ?_;refine tP (fun w hp=>qS O O (hp.cell 2 O O)) (tP (fun w hp=>jS (i:=1) O O O O2) ?_);refine tP (fun w hp=>qS O O (hp.cell 2 O O)) (tP (fun w hp=>jS (i:=2) O O O O2) ?_);refine tP (fun w hp=>qS O O (hp.cell 2 O O)) (tP (fun w hp=>jS (i:=3) O O O O2) ?_);refine tP (fun w hp=>qS O O (hp.cell 2 O O)) (tP (fun w hp=>qY) ?_);refine tP (fun w hp=>qY) (tP (fun w hp=>qY) ?_);refine tP (fun w hp=>qY) (qU ?_);refine qR ?_;refine jW jG O3 (fun w'=>Hp w [] w' _) hp.N ?_;have hp:=hp.N;refine tP (fun w hp=>jS (i:=4) O O O O2) ?_;refine tP (fun w hp=>qS O O (hp.cell 2 O O)) (tP (fun w hp=>jS (i:=5) O O O O2) ?_);refine tP (fun w hp=>qS O O (hp.cell 2 O O)) (tP (fun w hp=>jS (i:=6) O O O O2) ?_);refine tP (fun w hp=>qS O O (hp.cell 2 O O)) (tP (fun w hp=>jS (i:=7) O O O O2) ?_);refine tP (fun w hp=>qS O O (hp.cell 2 O O)) (tP (fun w hp=>qY) ?_);refine tP (fun w hp=>qY) (tP (fun w hp=>qY) ?_);refine tP (fun w hp=>qY) (qU ?_);refine qR ?_;refine qA (qQ ([12,13,14,15,16,17,18,19,20,21,22]++range' 99 63) (fun i F=>((((((((F.put 12 (u (rds bt s i).a)).put 13 (u (rds bt s i).b)).put 14 (u (rds bt s i).c)).put 15 (u (rds bt s i).d)).put 16 (u (rds bt s i).e)).put 17 (u (rds bt s i).f)).put 18 (u (rds bt s i).g)).put 19 (u (rds bt s i).h)).put 99 (.int _ i))
  (fun i w'=>i≤64∧Hp w [] w' _) (fun i=>64-i) 0
  (qB (qB (qB (qB (qB (qB (qB (qB (qB (Same.eq .refl) O) O) O) O) O) O) O) O) O) ⟨O1,hp⟩ ?_)
 clear hp;rintro u2 i w4 ⟨hi,hp⟩;have hr:=hs.rds bt i;have jb:rds bt s (i+1)=rnd _ _ _:=O;have ja:∀h:i=64,jEn bt s=addS s (rds bt s i):=fun h=>by subst h;rfl
 generalize rds bt s i=r at hr jb ja⊢;refine tI (fun h=>?_) fun h=>?_
 ·have hi:i<64:=O1;have iz:∀w',Hp w [] w' [blk wb 64 (wB bt 64) 410,blk rb 8 (qE (replicate 8 (u 0))) 359,blk sb 8 (qE (sv s)) 359]→w'.cell? ⟨wb,0+i*1,none⟩=some (u (wf bt i)):=by
   intro w' hp;rw[hp.cell 0 O (yQ O1),jM3 bt hi]
  have jd:=hr.e;have jc:=hr.a;refine qA ?_;refine jW jG O3 (fun w'=>Hp w [] w' _) hp.N ?_;have hp:=hp.N;refine tP (fun w hp=>qP) (tP (fun w hp=>qP) ?_);refine tK (qNu _ 6 _ jd O2 O2) ?_;rintro _ w5 ⟨rfl,hk⟩;have hp:=hp.call hk;clear hk;refine⟨hp,tP (fun w hp=>qP) (tK (qNu _ 11 _ jd O2 O2) ?_)⟩;rintro _ w5 ⟨rfl,hk⟩;have hp:=hp.call hk;clear hk;refine⟨hp,tP (fun w hp=>uH O O (vV jd _) (vV jd _)) (tP (fun w hp=>qP) ?_)⟩;refine tK (qNu _ 25 _ jd O2 O2) ?_;rintro _ w5 ⟨rfl,hk⟩;have hp:=hp.call hk;clear hk;refine⟨hp,tP (fun w hp=>uH O O (uQ (vV jd _) (vV jd _)) (vV jd _)) (tP (fun w hp=>xW O O) ?_)⟩;refine tP (fun w hp=>qP) (tP (fun w hp=>qP) ?_);refine tP (fun w hp=>qF9 O O hr.e hr.f) (tP (fun w hp=>qP) ?_);refine tP (fun w hp=>jDw O jd) (tP (fun w hp=>qP) ?_);refine tP (fun w hp=>qF9 O O (bY (sBj _ _) O2) hr.g) ?_;refine tP (fun w hp=>uH O O (qBi hr.e) (qBi (bY (sBj _ _) O2))) (tP (fun w hp=>xW O O) ?_);refine tP (fun w hp=>qP) (tP (fun w hp=>jS O O O hi) ?_);refine tP (fun w hp=>qS O O ((hT.j5 hp.C).cons i hi)) (tP (fun w hp=>xW O O) ?_);refine tP (fun w hp=>qP) (tP (fun w hp=>jS O O O hi) ?_);refine tP (fun w hp=>qS O O (iz _ hp)) (tP (fun w hp=>xW O O) ?_);refine wdp O (fun w hp=>qY) (qF (b:=(T1 (kf i) (wf bt i) r:Nat)) O) (qU ?_);refine qR ?_;refine tR qP (tK (qNu _ 2 _ jc O2 O2) ?_);rintro _ w5 ⟨rfl,hk⟩;have hp:=hp.call hk;clear hk;refine tR qP (tK (qNu _ 13 _ jc O2 O2) ?_);rintro _ w5 ⟨rfl,hk⟩;have hp:=hp.call hk;clear hk;refine tR (uH O O (vV jc _) (vV jc _)) (tR qP ?_);refine tK (qNu _ 22 _ jc O2 O2) ?_;rintro _ w5 ⟨rfl,hk⟩;have hp:=hp.call hk;clear hk;refine tR (uH O O (uQ (vV jc _) (vV jc _)) (vV jc _)) (tR qP ?_);refine tR qP (tR (qF9 O O hr.a hr.b) ?_);refine tR qP (tR qP ?_);refine tR (qF9 O O hr.a hr.c) (tR (uH O O (qBi hr.a) (qBi hr.a)) ?_);refine tR qP (tR qP ?_);refine tR (qF9 O O hr.b hr.c) (tR (uH O O (uQ (qBi hr.a) (qBi hr.a)) (qBi hr.b)) ?_);refine tR (xW O O) ?_;refine wlp qY (qF (b:=(T2 r:Nat)) O) (qR ?_);refine tR qP (tR qP ?_);refine tR qP (tR qY ?_);refine tR qY (tR qY ?_);refine qR ?_;refine tR qP (tR qP ?_);refine tR (xW O O) ?_;refine tR qY (qR ?_);refine tR qP (tR qP ?_);refine tR qP (tR qY ?_);refine tR qY (tR qY ?_);refine qR ?_;refine tR qP (tR qP ?_);refine tR (xW O O) ?_;refine tR qY (tB ?_);refine qA ?_;refine⟨i+1,?_,⟨O1,hp⟩,O1⟩;rw[jb];exact qB (qB (qB (qB (qB O5 O) O) O) O) O
 have hi:i=64:=O1;rw[ja hi];clear h ja jb hi;refine qR ?_;refine tR (jS (i:=0) O O O O2) ?_;refine tR (qS O O (hp.cell 2 O O)) (tR qP ?_);refine tR (xW O O) (tR (jS (i:=1) O O O O2) ?_);refine tR (qS O O (hp.cell 2 O O)) (tR qP ?_);refine tR (xW O O) (tR (jS (i:=2) O O O O2) ?_);refine tR (qS O O (hp.cell 2 O O)) (tR qP ?_);refine tR (xW O O) (tR (jS (i:=3) O O O O2) ?_);refine tR (qS O O (hp.cell 2 O O)) (tR qP ?_);refine tR (xW O O) (tR (jS (i:=4) O O O O2) ?_);refine tR (qS O O (hp.cell 2 O O)) (tR qP ?_);refine tR (xW O O) (tR (jS (i:=5) O O O O2) ?_);refine tR (qS O O (hp.cell 2 O O)) (tR qP ?_);refine tR (xW O O) (tR (jS (i:=6) O O O O2) ?_);refine tR (qS O O (hp.cell 2 O O)) (tR qP ?_);refine tR (xW O O) (tR (jS (i:=7) O O O O2) ?_);refine tR (qS O O (hp.cell 2 O O)) (tR qP ?_);refine tR (xW O O) ?_;refine wlp (qQt O O O O O O) (O:_=Value.agg (sv (addS s r)).toArray) (tO (zH (cs:=sv _) hp 1 O O O O (qD O) O O) fun w6 hp=>?_);refine qA ?_;exact mDc
end
section
open Go.Eng Go.Dig Go.Sha
def bl(s:ByteArray):List Nat:=s.data.toList.map UInt8.toNat
theorem vG(s:ByteArray):(bl s).length=s.size:=by
 unfold bl;simp
theorem jYe(s:ByteArray):∀d∈bl s,d<256:=by
 intro d hd;obtain⟨x,_,rfl⟩:=bD.1 hd;exact x.toNat_lt
theorem jN8(s:ByteArray)(i:Nat):bAt s i=(((bl s).getD i 0:Nat):Int):=by
 unfold bAt bl;rw[aC,dF];cases s.data.toList[i]?<;>rfl
theorem qYx{l:List Nat}(h:∀d∈l,d<256)(i:Nat):l.getD i 0<256:=by
 rw[aC];cases hx:l[i]? with
 |none=>decide
 |some v=>exact h v (aI hx)
theorem qFr(a b:ByteArray):bl (a++b)=bl a++bl b:=by
 unfold bl;simp
theorem qS0(s:ByteArray)(a b:Nat):bl (s.extract a b)=((bl s).take b).drop a:=by
 unfold bl;rw[ByteArray.data_extract,Array.toList_extract,List.extract_eq_take_drop,←pA,←List.map_drop,List.drop_take]
section
variable {P:Program}{n:FrK}{w:World}{F:Fr}{d:Option Tmp}{ty:TypeId}{pos:String}{aft:Array Edge}{g:Option (Nat×Bool)}{x y z:Operand}{t t':Nat}
theorem qT5{l h:Nat}{q q':IntKind}{s:ByteArray}(ht:P.underlying t=some .string)(hx:ev n F x= .string s)(hy:ev n F y= .int q l)(hz:ev n F z= .int q' h)(hl:l≤h)(hh:h≤s.size):
  PV P n w F ⟨d,.slice t x (some y) (some z) none,ty,pos,aft,g⟩ (.string (s.extract l h)):=by
 have hb:=yO (P:=P) (w:=w) (c:=.sliceB) hy hl;have sd:=yO (P:=P) (w:=w) (c:=.sliceAlen) hz hh;simp[PV,execOp,Instr.sliceAt,Instr.slice,hx,jQ ht,Instr.sliceBounds,hb,sd]
theorem qTe{e k m b:Nat}(h:qNd t=some (m,e,k))(hx:ev n F x= .pointer (Ad b)):PV Tryz.prog n w F ⟨d,.slice t x none none none,ty,pos,aft,g⟩ (.slice (Ad b) m m):=by
 have h1:=(qBc h).1;have h2:=(qBc h).2;simp[PV,execOp,Instr.sliceAt,hx,Instr.sureAddr,jQ h1,Instr.sliceBounds,h2.run,yC]
end
def cB(g:Nat→Nat)(i:Nat):Fr:=fun j=>if j<i then u8 (g j) else u8 0
theorem qZo(g:Nat→Nat)(m j:Nat)(h:j<m):qE (replicate m (u8 0)) j=cB g 0 j:=by
 rw[qMp _ _ h];unfold cB;simp
theorem qZp{g:Nat→Nat}{i:Nat}:uT (cB g i) (0+i*1) [u8 (g i)]=cB g (i+1):=by
 funext j;show(Fr.put _ _ _) j=_
 unfold Fr.put cB;by_cases h:j=0+i*1
 ·subst h;simp
 rw[jJ h];grind
theorem qNa(ns:List Nat)(h:∀d∈ns,d<256):bl (kN (ns.map fun(x:Nat)=>(x:Int)))=ns:=by
 rw[qN8];show((ns.map UInt8.ofNat)).map _=ns
 rw[iP];exact(lV (fun d hd=>by show(UInt8.ofNat d).toNat=id d;rw[sAr];grind)).trans (sBs _)
theorem jHu(g:Nat→Nat)(m:Nat):∀(j:Nat) (v:Value),((((range m).map g).map fun(x:Nat)=>(x:Int)).map (Value.int .u8))[j]? =some v→cB g m (0+j)=v:=by
 intro j v hj;rw[dF,dF,dF] at hj;by_cases h:j<m
 ·rw[nD h] at hj;unfold cB;rw[fH,if_pos h];simpa[u8] using hj
 grind
attribute [local irreducible] PV StepF wpl wpd WP Ret
theorem zCa(m:Nat)(w:World)(hm:m<18446744073709551616):Rt 285 [.int .u64 (m:Int)] w (fun v w'=>∃s,v= .string s∧bl s=qO0 m∧Keeps [] w w'):=by
 refine tW func285 ntmps285 fun hp=>?_;refine qA (tF (zE (cs:=replicate 8 (u8 0)) (m:=8) hp (qJ O) O O) fun w1 b hp=>?_);rw[qBb (qZo (fun i=>m/2^(56-8*i)%256) 8)] at hp;refine qA (qQ [4,5,6,7,8,9,10,11,12,13,14,15,16] (fun(i:Nat) F=>F.put 5 (.int _ i))
  (fun i w'=>i≤8∧Hp w [] w' [blk b 8 (cB _ i) 412]) (fun i=>8-i) 0
  (qB (Same.eq .refl) O) ⟨O1,hp⟩ ?_)
 clear hp;rintro u0 i w2 ⟨hi,hp⟩;refine tI (fun h=>?_) fun h=>?_
 ·have hi:i<8:=O1;refine tM (8*i) ?_;refine tN (56-8*i) ?_;refine wlp (xP O O (by show 56-8*i≤64;omega)) (qF O) (tR (kC O O O) ?_);refine tR (jS O O O hi) (tO (zH (cs:=[u8 _]) hp 0 O O O O (qD O) (qG7 (by show 0+i*1+1≤8;omega)) O) fun w3 hp=>?_);rw[qZp] at hp;exact mCf
 obtain rfl:i=8:=O1;refine qR (tR (qTe O O) ?_);refine tR (jOy (ns:=(qO0 m).map _) O O O O (by rw[aM,qMh]) (hp.cells 0 _ O O (jHu _ 8))) ?_;refine tV ?_;exact⟨_,O,_,O,qNa _ (qYl m),hp.C⟩
end
section
open Go.Eng Go.Dig Go.Sha
theorem jFn(s:ByteArray){a b j:Nat}(h:a+j<b):bAt (s.extract a b) j=(((bl s).getD (a+j) 0:Nat):Int):=by
 rw[jN8,qS0,aC,aC,nM,List.getElem?_take_of_lt h]
theorem jP0(l:List Nat){i:Nat}(h:i<l.length):(pad l).getD i 0=l.getD i 0:=by
 unfold pad;grind
theorem jE1(l:List Nat){k:Nat}(h:k≤l.length):(pad l).drop k=l.drop k++128::qSp l:=by
 unfold pad;grind
theorem jCh(l:List Nat):∀d∈qSp l,d<256:=by
 intro d hd;rcases fO.1 hd with h|h
 ·grind
 exact qYl _ d h
theorem jOz{l:List Nat}(h:∀d∈l,d<256):∀d∈pad l,d<256:=by
 intro d hd;rcases fO.1 hd with h2|h2
 ·grind
 rcases bE.1 h2 with rfl|h3
 ·decide
 exact jCh l d h3
theorem jTu(c:Nat):bl ⟨(Lib.repeatL (ByteArray.mk #[0]).data.toList c).toArray⟩=replicate c 0:=by
 induction c with
 |zero=>rfl
 |succ c ih=>
  show([0]++Lib.repeatL [0] c).map _=_
  rw[dR,sZ];exact aQ _ ih
theorem qQl(f:Fr)(s:St):∀i,i<8→uT f 0 (sv s) i=qE (sv s) i
 |0,_=>rfl
 |1,_=>rfl
 |2,_=>rfl
 |3,_=>rfl
 |4,_=>rfl
 |5,_=>rfl
 |6,_=>rfl
 |7,_=>rfl
 |i+8,h=>O1
theorem jV2(s:St):∀i,i<8→qE (sv s) (0+i*1)=u (wd s i)
 |0,_=>rfl
 |1,_=>rfl
 |2,_=>rfl
 |3,_=>rfl
 |4,_=>rfl
 |5,_=>rfl
 |6,_=>rfl
 |7,_=>rfl
 |i+8,h=>O1
theorem jTp(g:Nat→Nat)(m:Nat):(range m).map (fun j=>cB g m (0+j))=((range m).map g).map u8:=by
 rw[iP];refine lV fun j hj=>?_
 unfold cB;grind
theorem jU0{a b:List Value}(h:a=b):Value.agg a.toArray= .agg b.toArray:=by rw[h]
attribute [local irreducible] PV StepF wpl wpd WP Ret
attribute [local irreducible] Go.Sha.hs Go.Sha.pad Go.Sha.wd Go.Sha.shb
def hv(s:ByteArray):List Value:=(sha (bl s)).map u8
theorem zCk(s:ByteArray)(w:World)(hT:Tabs w)(hh:s.size≤1099511627776):
  Rk 204 [.string s] w (.agg (hv s).toArray):=by
 have hl:=vG s;have hg:=jYe s;have xv:=jOz hg;have jo:=jJw (bl s);have jr:=qY5 (bl s);have jx:jBu (bl s).length=_%64:=O;have hf:fin (bl s)=hs _ _:=O;refine tW func204 ntmps204 fun hp=>?_;refine qA (tF (zE (cs:=replicate 32 (u8 0)) (m:=32) hp (qJ O) O O) fun w1 ob hp=>?_);refine qR (wlp (qL O O O O (hT.j5 hp.C).first) O ?_);refine tF (zE (cs:=replicate 8 (u 0)) (m:=8) hp (qJ O) O O) fun w2 sb hp=>tO (zH (cs:=sv _) hp 0 O O O O (qD O) O O) fun w3 hp=>?_;have hp:Hp w [] w3 [blk sb 8 _ 359,blk ob 32 _ 284]:=hp;have h0:ini=hs (pad (bl s)) 0:=by rw[hs]
 rw[qBb (qQl _ _),h0] at hp;refine qA ?_;refine wlp (qC1 O O O2) (qF (qCt 64 O1)) (tN (s.size/64*64) ?_);refine qA (qQ [5,15,16,17,18,19,20,21,22,23,24,25,26] (fun k F=>F.put 5 (.int _ (64*k:Nat)))
  (fun k w'=>k≤s.size/64∧Hp w [] w' [blk sb 8 (qE (sv (hs _ k))) 359,_]) (fun k=>s.size/64-k) 0
  (qB (Same.eq .refl) O) ⟨O1,hp⟩ ?_)
 clear hp;rintro u0 k w4 ⟨hk,hp⟩;refine tI (fun h=>?_) fun h=>?_
 ·refine qA ?_;have hn:hs (pad (bl s)) (k+1)=jEn (fun j=>(pad (bl s)).getD (64*k+j) 0) (hs (pad (bl s)) k):=by rw[hs]
  refine jU jG O3 (fun w'=>Hp w [] w' _) hp.N ?_;have hp:=hp.N;refine qX ?_;refine tN (64*k+64) ?_;refine tP (fun w hp=>qT5 (wV O) O O O O1 O1) ?_;apply wds;exact O;exact qC O jG6 O (jWe _ _ (fun j=>(pad _).getD (64*k+j) 0) _ (Ok.hs _ _) (fun j=>qYx xv _) (fun j hj=>(jFn s O1).trans (by rw[jP0 _ O1])) (by rw[←vG,qS0,fJ,bV];omega) (hT.j5 hp.C));exact mB2
 obtain rfl:k=s.size/64:=O1;clear h hk;refine qA ?_;have e1:(s.extract (s.size/64*64) s.size).size=s.size-s.size/64*64:=by rw[ByteArray.size_extract,Nat.min_self]
 refine tR (qT4 (wV O) O O O1) ?_;obtain⟨r1,jp⟩:∃r1,s.extract (s.size/64*64) s.size++⟨#[128]⟩=r1:=⟨_,O⟩;refine wlp (qCq O O (by show _+1≤_;omega)) (aQ _ jp) ?_;have jm:bl r1=(bl s).drop (s.size/64*64)++[128]:=by
  rw[←jp,qFr,qS0,bR O1];rfl
 have hm:r1.size=s.size-s.size/64*64+1:=by
  rw[←vG,jm,aY,fJ,hl];rfl
 clear jp e1;refine tM (120-r1.size) (wlp (qCz O O O2) (qF (qEc _ 64)) ?_);refine tK (zCb ⟨#[0]⟩ ((120-r1.size)%64) _ O1 (by show 1*_≤_;omega)) ?_;rintro _ w7 ⟨rfl,uq⟩;have hp:=hp.call uq;clear uq;have jq:=jTu ((120-r1.size)%64);generalize (ByteArray.mk _)=r3 at jq⊢;refine jM ?_;refine jM ?_;refine wlp (zX O O O) (qF (b:=s.size) (by rw[oO];omega)) (tR (qI0 (b:=8) O O O1) ?_);refine tK (zCa (s.size*8) _ O1) ?_;rintro _ w8 ⟨r4,rfl,js,uq⟩;have hp:=hp.call uq;clear uq;have fy:r3.size=(120-r1.size)%64:=by rw[←vG,jq,lG]
 have jt:r4.size=8:=by rw[←vG,js,qMh]
 refine tR (qCq O O O1) ?_;have ju:(r3++r4).size=r3.size+r4.size:=by rw[←vG,qFr,aY,vG,vG]
 obtain⟨r,hr⟩:∃r,r1++(r3++r4)=r:=⟨_,O⟩;refine wlp (qCq O O O1) (aQ _ hr) ?_;have hb:bl r=(pad (bl s)).drop (64*(s.size/64)):=by
  rw[←hr,qFr,qFr,jm,jq,js,jE1 _ O1,bW 64,bQ];unfold qSp jBu;rw[hl,show(120-r1.size)%64=(119-s.size%64)%64 by omega];rfl
 have jv:r.size=(pad (bl s)).length-64*(s.size/64):=by rw[←vG,hb,fJ]
 clear hr ju fy jt jq js jm hm;obtain⟨N,hN⟩:∃N,(pad (bl s)).length/64=N:=⟨_,O⟩;rw[hN] at hf;have jw:(pad (bl s)).length=64*N:=O1;refine qA (qQ [7,44,45,46,47,48,49,50,51,52,53,54,55,56] (fun(k:Nat) F=>F.put 7 (Iv (64*k:Nat)))
  (fun k w'=>k≤N-s.size/64∧Hp w [] w' [blk sb 8 (qE (sv (hs (pad (bl s)) (s.size/64+k)))) 359,_]) (fun k=>N-s.size/64-k) 0
  (qB (Same.eq .refl) O) ⟨O1,hp⟩ ?_)
 clear hp;rintro u1 k w9 ⟨hk,hp⟩;refine tI (fun h=>?_) fun h=>?_
 ·refine qA ?_;have hn:hs (pad (bl s)) (s.size/64+(k+1))=jEn (fun j=>(pad (bl s)).getD (64*(s.size/64+k)+j) 0) (hs (pad (bl s)) (s.size/64+k)):=by
   rw[←Nat.add_assoc,hs]
  refine jU jG O3 (fun w'=>Hp w [] w' _) hp.N ?_;have hp:=hp.N;refine qX ?_;refine tN (64*k+64) ?_;refine tP (fun w hp=>qT5 (wV O) O O O O1 O1) ?_;apply wds;exact O;exact qC O jG6 O (jWe _ _ _ _ (Ok.hs _ _) (fun j=>qYx xv _) (fun j hj=>(jFn r O1).trans (by rw[hb,aC,aC,nM,show 64*(s.size/64)+(64*k+j)=64*(s.size/64+k)+j by omega])) (by rw[←vG,qS0,fJ,bV,vG];omega) (hT.j5 hp.C));exact mB2
 have hk:s.size/64+k=N:=O1;rw[hk,←hf] at hp;clear h hk;refine qR (tF (zE (cs:=replicate 32 (u8 0)) (m:=32) hp (qJ O) O O) fun ur jn hp=>?_);rw[qBb (qZo (shb (bl s)) 32)] at hp;refine qA (qQ [9,57,58,59,60,61,62,63,64,65,66,67,68,69,70,71,72] (fun(i:Nat) F=>F.put 57 (.int _ i))
  (fun i w'=>i≤32∧Hp w [] w' [blk _ 32 (cB _ i) 284,_,_]) (fun i=>32-i) 0
  (qB (Same.eq .refl) O) ⟨O1,hp⟩ ?_)
 clear hp;rintro u2 i gg ⟨hi,hp⟩;refine tI (fun h=>?_) fun h=>?_
 ·have hi:i<32:=O1;have hq:i/4<8:=O1;refine qA ?_;refine wlp (qC1 O O O2) (qF (qCt 4 O1)) (tR (jS O O O hq) ?_);refine wlp (qS O O (hp.cell 1 O (yQ O1))) (jV2 _ _ hq) (qA ?_);refine wlp (qCz O O O2) (qF (qEc i 4)) (tN (i%4*8) ?_);refine tN (24-i%4*8) ?_;refine tR (xP O O (by show _≤32;omega)) (wlp (kC O O O) (qF (b:=(shb (bl s) i:Nat)) (by unfold shb;rfl)) ?_);refine tR (jS O O O hi) (tO (zH (cs:=[u8 _]) hp 0 O O O O (qD O) (qG7 (by show 0+i*1+1≤32;omega)) O) fun gh hp=>?_);rw[qZp] at hp;exact mCf
 obtain rfl:i=32:=O1;refine qR (wlp (vO O O O (hp.j4 0 O O)) (jU0 (jTp _ 32)) ?_);refine tO (zH (cs:=hv s) hp 2 O O O O (qD O) O O) fun gm hp=>qA ?_;exact zJ O O O O (hp.j4 2 O O) ⟨_,O,O,hp.C⟩
end
section
open Go.Eng Go.Dig Go.Sha
theorem qXy:∀(vs:List Value) (f:Fr) (o i:Nat),i<o→uT f o vs i=f i
 |[],_,_,_,_=>rfl
 |v::vs,f,o,i,h=>by
  show uT _ _ vs i=f i
  rw[qXy vs _ _ _ O1];unfold Fr.put;rw[jJ O1];rfl
theorem qE5:∀(vs:List Value) (f:Fr) (o j:Nat) (v:Value),vs[j]? =some v→uT f o vs (o+j)=v
 |[],_,_,_,_,h=>by grind
 |x::vs,f,o,0,v,h=>by
  show uT _ _ vs _=v
  rw[qXy vs _ _ _ O1];unfold Fr.put;rw[iF,Nat.beq_refl];grind
 |x::vs,f,o,j+1,v,h=>by
  rw[show o+(j+1)=o+1+j by omega];exact qE5 vs _ _ _ _ (by grind)
def sA(s r:St)(i:Nat):Fr:=fun j=>if j<i then u (wd (addS s r) j) else u (wd s j)
attribute [local irreducible] PV StepF wpl wpd WP Ret
attribute [local irreducible] rr
end
section
open Go.Eng Go.Dig Go.Sha
attribute [local irreducible] PV StepF wpl wpd WP Ret
attribute [local irreducible] Go.Sha.hs Go.Sha.pad Go.Sha.wd Go.Sha.shb
end
open Go.Eng Go.Dig Go.Sha
theorem qIo:∀(k x:Nat),x<10^(k+1)→(Lib.decDigits x).length≤k+1
 |0,x,h=>by
  rw[Lib.decDigits,dif_pos O1];simp
 |k+1,x,h=>by
  rw[Lib.decDigits];split
  ·simp
  have h2:=qIo k (x/10) O1;grind
def uY(x:Nat):ByteArray:=⟨(Lib.decDigits x).toArray⟩
theorem jL7(x:Nat):uY x=dec (x:Int):=by
 unfold uY dec Lib.itoa;simp
attribute [local irreducible] PV StepF wpl wpd WP Ret
attribute [local irreducible] FitR ofN
end Go.Proofs.YtplkndjlfkkjlaaGreatDoor
namespace Go.Nt
open List (range range' replicate)
variable{a b n m r p q k:Nat}
def Pr(p:Nat):Prop:=2≤p∧∀d,d∣p→d=1∨d=p
theorem qNx(h:b≤a)(hd:m∣a-b):a%m=b%m:=by
 obtain⟨k,hk⟩:=hd;have:a=b+m*k:=O1;rw[this,iE]
theorem cancel{c:Nat}(hc:Nat.Coprime c m)(h:c*a%m=c*b%m):a%m=b%m:=by
 have key:∀{a b:Nat},b≤a→c*a%m=c*b%m→a%m=b%m:=fun{a b} jz h=>by
  have h1:=Nat.sub_mod_eq_zero_of_mod_eq h;rw[←Nat.mul_sub] at h1;have h2:m∣c*(a-b):=O1;exact qNx jz (rD hc.symm h2)
 rcases Nat.le_total b a with jz|jz
 ·grind
 grind
theorem Pr.aA3(h:Pr p)(ha:¬p∣a):Nat.Coprime a p:=by
 rcases h.2 (Nat.gcd a p) (mU a p) with h1|h1
 ·exact h1
 exact absurd (h1▸sBd a p) ha
theorem Pr.mul(h:Pr p)(hd:p∣a*b):p∣a∨p∣b:=by
 by_cases ha:p∣a
 ·omega
 exact .inr (rD (h.aA3 ha).symm hd)
theorem jOw:∀n:Nat,2≤n→∃r,Pr r∧r∣n:=by
 intro n;induction n using Nat.strongRecOn with
 |ind n ih=>
  intro hn;by_cases h:Pr n
  ·exact⟨n,h,Nat.dvd_refl n⟩
  have:∃d,d∣n∧d≠1∧d≠n:=by
   apply bG;intro j0;refine h ⟨hn,fun d hd=>?_⟩;by_cases h1:d=1
   ·omega
   by_cases h2:d=n
   ·omega
   exact absurd ⟨d,hd,h1,h2⟩ j0
  obtain⟨d,hd,h1,h2⟩:=this;have j1:=Nat.pos_of_dvd_of_pos hd O1;have j2:=lM O1 hd;obtain⟨r,hr,hZ⟩:=ih d O1 O1;exact⟨r,hr,sA8 hZ hd⟩
theorem jMl(hn:2≤n)(h:∀r,Pr r→r∣n→n<r*r):Pr n:=by
 refine⟨hn,fun d hd=>?_⟩;apply bG;intro j0;have j1:=Nat.pos_of_dvd_of_pos hd O1;obtain⟨e,he⟩:=hd;have ld:e≠0:=by rintro rfl;omega
 have lc:e≠1:=by rintro rfl;omega
 have key:∀{d e:Nat},n=d*e→2≤d→d≤e→False:=fun{d e} he yu la=>by
  obtain⟨r,hr,hZ⟩:=jOw d yu;have lf:=lM O1 hZ;have:=h r hr (sA8 hZ ⟨e,he⟩);have h3:r*r≤d*e:=cF lf O1;omega
 rcases Nat.le_total d e with la|la
 ·exact key he O1 la
 exact key (by grind) O1 la
theorem qJy:∀{a b:List Nat},a.Nodup→(∀x∈a,x∈b)→b.length≤a.length→a.Perm b
 |[],b,_,_,hl=>by
  grind
 |x::a,b,hn,hs,hl=>by
  obtain⟨hx,hn⟩:=lS.1 hn;have li:=hs x dO;have hp:=List.perm_cons_erase li;have hQ:=hp.length_eq;rw[bT] at hQ hl;exact((qJy hn (fun y hy=>(List.mem_erase_of_ne (by grind)).2 (hs y (dX _ hy))) O1).cons x).trans hp.symm
def qH1:List Nat→Nat
 |[]=>1
 |x::l=>x*qH1 l
theorem qVq{a b:List Nat}(h:a.Perm b):qH1 a=qH1 b:=by
 induction h with
 |nil=>rfl
 |cons x _ ih=>simp[qH1,ih]
 |swap x y l=>simp[qH1];grind
 |trans _ _ h1 h2=>omega
theorem qOj(a p:Nat):∀l:List Nat,qH1 (l.map fun i=>a*i%p)%p=a^l.length*qH1 l%p
 |[]=>rfl
 |x::l=>by
  have ih:=qOj a p l;show(a*x%p)*qH1 _%p=a^(l.length+1)*(x*qH1 l)%p
  rw[pI,pJ,ih,←pI];grind
theorem qOk{p:Nat}:∀l:List Nat,(∀x∈l,Nat.Coprime x p)→Nat.Coprime (qH1 l) p
 |[],_=>Nat.coprime_one_left p
 |x::l,h=>Nat.Coprime.mul_left (h x dO) (qOk l fun y hy=>h y (dX _ hy))
theorem qRb(hp:Pr p)(ha:¬p∣a):a^(p-1)%p=1:=by
 have lj:=hp.1;obtain⟨l,hl⟩:∃l,l=(range (p-1)).map (·+1):=⟨_,O⟩;have lp:∀x,x∈l↔1≤x∧x<p:=fun x=>by
  rw[hl,bD];constructor
  ·grind
  rintro⟨h1,h2⟩;exact⟨x-1,aO.2 O1,O1⟩
 have hQ:l.length=p-1:=by rw[hl];simp
 have ln:l.Nodup:=by
  rw[hl];unfold List.Nodup;rw[nU];exact sBe.imp fun h e=>h O1
 have j0:∀x,1≤x→x<p→¬p∣x:=fun x h1 h2 hd=>by
  have:=lM O1 hd;omega
 have ls:(l.map fun i=>a*i%p).Perm l:=by
  refine qJy ?_ ?_ O4
  ·unfold List.Nodup;rw[nU];refine List.Pairwise.imp_of_mem (fun{x y} hx hy xr e=>xr ?_) ln;have h1:=cancel (hp.aA3 ha) e;have hx:=(lp x).1 hx;have hy:=(lp y).1 hy;rw[aN hx.2,aN hy.2] at h1;exact h1
  intro y hy;obtain⟨x,hx,rfl⟩:=bD.1 hy;have hx:=(lp x).1 hx;refine(lp _).2 ⟨?_,dG _ O1⟩;apply bG;intro h0;have h0:a*x%p=0:=O1;rcases hp.mul (Nat.dvd_of_mod_eq_zero h0) with h|h
  ·omega
  exact j0 x hx.1 hx.2 h
 have h1:=qOj a p l;rw[qVq ls,hQ] at h1;have hc:=qOk l fun x hx=>hp.aA3 (j0 x ((lp x).1 hx).1 ((lp x).1 hx).2)
 have h2:=cancel (a:=a^(p-1)) hc (by rw[oB,bW,←h1]);rw[h2,aN O1]
theorem qJx(hr:2≤r)(h:b^m%r=1)(k:Nat):b^(m*k)%r=1:=by
 rw[iJ,pK,h,Nat.one_pow,aN O1]
theorem qT9(hr:2≤r)(hm:b^m%r=1)(hn:b^n%r=1):b^(n%m)%r=1:=by
 have h1:b^n=b^(m*(n/m))*b^(n%m):=by rw[←dW,fV]
 rw[h1,pI,qJx hr hm,lR,pJ] at hn;exact hn
theorem qTa(hr:2≤r)(m n:Nat):b^m%r=1→b^n%r=1→b^(Nat.gcd m n)%r=1:=by
 induction m,n using Nat.gcd.induction with
 |H0 n=>simp
 |H1 m n _ ih=>
  intro hm hn;rw[Nat.gcd_rec];exact ih (qT9 hr hm hn) hm
theorem qVw(hr:r∣n)(h:a%n=b%n):a%r=b%r:=by
 rw[←pD a hr,h,pD b hr]
theorem qTc(hn:2≤n)(hk:n-1=q*k)(hq:Pr q)(lw:n<q*q)(h1:a^(n-1)%n=1)(h2:Nat.gcd (a^k%n+(n-1)) n=1):Pr n:=by
 refine jMl hn fun r hr jb=>?_
 have lu:=hr.1;have e1:a^(n-1)%r=1:=by
  have:=qVw jb (h1.trans (aN (show 1<n by omega)).symm);rw[this,aN O1]
 have e2:(a^k)^q%r=1:=by rw[←iJ,bW k q,←hk];exact e1
 have e3:¬a^k%r=1:=by
  intro e;have h5:r∣a^k%n+(n-1):=by
   have h6:(a^k%n+(n-1))%r=n%r:=by
    have:(a^k%n)%r=1%r:=by rw[pD _ jb,e,aN O1]
    rw[Nat.add_mod,this,←Nat.add_mod,show 1+(n-1)=n by omega]
   rw[pU jb] at h6;exact Nat.dvd_of_mod_eq_zero h6
  have:=Nat.dvd_gcd h5 jb;rw[h2] at this;have:=lM O1 this;omega
 have e4:¬r∣a^k:=by
  intro hd;have yz:=hq.1
  have:r∣(a^k)^q:=sA8 hd ⟨(a^k)^(q-1),by
   rw[←Nat.pow_succ'];grind⟩
  rw[pU this] at e2;omega
 have e5:=qRb hr e4;by_cases hd:q∣r-1
 ·have h7:=lM O1 hd;have:q*q≤r*r:=cF O1 O1;omega
 have hc:_=1:=hq.aA3 hd;have:=qTa lu _ q e5 e2;rw[hc,Nat.pow_one] at this;omega
def pmA:Nat→Nat→Nat→Nat→Nat
 |0,_,_,m=>1%m
 |f+1,a,n,m=>if n=0 then 1%m else if n%2=1 then a*pmA f (a*a%m) (n/2) m%m else pmA f (a*a%m) (n/2) m
theorem qQp(m:Nat):∀(f a n:Nat),n<2^f→pmA f a n m=a^n%m
 |0,a,n,h=>by
  have:=by simpa using h
  subst this;rfl
 |f+1,a,n,h=>by
  have ih:=qQp m f (a*a%m) (n/2) O1;have gu:(a*a%m)^(n/2)%m=a^(2*(n/2))%m:=by
   rw[←pK,iJ,Nat.pow_two]
  rw[pmA];by_cases h0:n=0
  ·rw[if_pos h0,h0];rfl
  rw[if_neg h0];by_cases h1:n%2=1
  ·rw[if_pos h1,ih,gu,sBn,←Nat.pow_succ'];grind
  grind
theorem jDv(hn:2≤n)(ly:n<2^64)(hk:n-1=q*k)(hq:Pr q)(lw:n<q*q)(h1:pmA 64 a (n-1) n=1)(h2:Nat.gcd (pmA 64 a k n+(n-1)) n=1):Pr n:=by
 have lx:k<2^64:=by
  have:k≤q*k:=Nat.le_mul_of_pos_left k (by grind);omega
 rw[qQp n 64 a _ O1] at h1;rw[qQp n 64 a k lx] at h2;exact qTc hn hk hq lw h1 h2
theorem pr0:Pr 95189:=jMl O2 fun r hr hd=>by
 apply bG;intro h;have lu:=hr.1;have lz:r<309:=by
  apply bG;intro h3;have:309*309≤r*r:=cF O1 O1;omega
 have fs:(range 309).all (fun d=>decide (d<2)||decide (95189%d≠0))=true:=by decide+kernel
 have:=cU.1 fs r (aO.2 lz);rw[aB O1,oZ,dL] at this;exact this (pU hd)
theorem pr1:Pr 2835870689:=jDv (k:=29792) (a:=3) O2 O2 O1 pr0 O1 (by decide+kernel) (by decide+kernel)
theorem pr2:Pr 5671741379:=jDv (k:=2) (a:=2) O2 O2 O1 pr1 O1 (by decide+kernel) (by decide+kernel)
theorem pr3:Pr 288230376151711447:=jDv (k:=50818674) (a:=2) O2 O2 O1 pr2 O1 (by decide+kernel) (by decide+kernel)
theorem prQ:Pr 1152921504606845789:=jDv (k:=4) (a:=2) O2 O2 O1 pr3 O1 (by decide+kernel) (by decide+kernel)
theorem prP:Pr 2305843009213691579:=jDv (k:=2) (a:=2) O2 O2 O1 prQ O1 (by decide+kernel) (by decide+kernel)
end Go.Nt
namespace Go.Lag
open List (range range' replicate)
variable{M a b c d:Int}{f:Int→Int}{S:List Int}
def ev:List Int→Int→Int
 |[],_=>0
 |a::c,x=>a+x*ev c x
def pr(f:Int→Int):List Int→Int
 |[]=>1
 |x::l=>f x*pr f l
def sm(f:Int→Int):List Int→Int
 |[]=>0
 |x::l=>f x+sm f l
theorem qY1{a b:List Int}(h:a.Perm b):pr f a=pr f b:=by
 induction h with
 |nil=>rfl
 |cons x _ ih=>simp[pr,ih]
 |swap x y l=>simp[pr];grind
 |trans _ _ h1 h2=>omega
theorem jJ5{a b:List Int}(h:a.Perm b):sm f a=sm f b:=by
 induction h with
 |nil=>rfl
 |cons x _ ih=>simp[sm,ih]
 |swap x y l=>simp[sm];omega
 |trans _ _ h1 h2=>omega
theorem qBd(f g:Int→Int):∀l:List Int,sm (fun x=>f x+g x) l=sm f l+sm g l
 |[]=>rfl
 |x::l=>by simp[sm,qBd];omega
theorem yF(c:Int)(f:Int→Int):∀l:List Int,sm (fun x=>c*f x) l=c*sm f l
 |[]=>by simp[sm]
 |x::l=>by simp only[sm,yF c f l,Int.mul_add]
theorem jF{f g:Int→Int}:∀{l:List Int},(∀x∈l,f x=g x)→sm f l=sm g l
 |[],_=>rfl
 |x::l,h=>by
  simp[sm];rw[h x dO,jF fun y hy=>h y (dX _ hy)]
def Cg(M a b:Int):Prop:=M∣a-b
theorem Cg.refl:Cg M a a:=⟨0,O4⟩
theorem Cg.of_eq(h:a=b):Cg M a b:=h▸Cg.refl
theorem Cg.symm(h:Cg M a b):Cg M b a:=by
 obtain⟨k,hk⟩:=h;exact⟨-k,by grind⟩
theorem Cg.trans(h:Cg M a b)(h2:Cg M b c):Cg M a c:=by
 exact mE2
theorem Cg.add(h:Cg M a b)(h2:Cg M c d):Cg M (a+c) (b+d):=by
 exact mE2
theorem Cg.neg(h:Cg M a b):Cg M (-a) (-b):=by
 obtain⟨k,hk⟩:=h;exact⟨-k,by grind⟩
theorem Cg.sub(h:Cg M a b)(h2:Cg M c d):Cg M (a-c) (b-d):=by
 exact h.add h2.neg
theorem Cg.mul(h:Cg M a b)(h2:Cg M c d):Cg M (a*c) (b*d):=by
 obtain⟨k,hk⟩:=h;obtain⟨q,hq⟩:=h2;refine⟨k*c+b*q,?_⟩;grind
theorem Cg.mod:Cg M (a%M) a:=⟨-(a/M),by have:=Int.mul_ediv_add_emod a M;grind⟩
theorem Cg.eq(h:Cg M a b):a%M=b%M:=by
 obtain⟨k,hk⟩:=h;have:a=b+M*k:=O1;rw[this,Int.add_mul_emod_self_left]
theorem Cg.aC6(h:a%M=b%M):Cg M a b:=(Cg.mod.symm.trans (Cg.of_eq h)).trans Cg.mod
theorem qWs{M a b:Int}(h:Cg M a b):∀n:Nat,Cg M (a^n) (b^n)
 |0=>.of_eq O4
 |n+1=>by
  rw[sAd,sAd];exact(qWs h n).mul h
theorem jM8{M:Int}{f g:Int→Int}:∀{l:List Int},(∀x∈l,Cg M (f x) (g x))→Cg M (sm f l) (sm g l)
 |[],_=>.refl
 |x::_,h=>(h x dO).add (jM8 fun y hy=>h y (dX _ hy))
def Un(M d:Int):Prop:=∃u,Cg M (u*d) 1
theorem Un.one:Un M 1:=⟨1,.refl⟩
theorem Un.mul{M a b:Int}(h:Un M a)(h2:Un M b):Un M (a*b):=by
 obtain⟨u,hu⟩:=h;obtain⟨v,hv⟩:=h2;refine⟨u*v,?_⟩;have:u*v*(a*b)=(u*a)*(v*b):=by ac_rfl
 rw[this];exact hu.mul hv
theorem Un.cancel(h:Un M d)(h2:Cg M (a*d) (b*d)):Cg M a b:=by
 obtain⟨u,hu⟩:=h;have e1:∀z,Cg M (z*d*u) z:=fun z=>by
  have:=(Cg.refl (a:=z)).mul hu;grind
 exact((e1 a).symm.trans (h2.mul .refl)).trans (e1 b)
theorem jCc{M:Int}{f:Int→Int}:∀{l:List Int},(∀x∈l,Un M (f x))→Un M (pr f l)
 |[],_=>.one
 |x::_,h=>(h x dO).mul (jCc fun y hy=>h y (dX _ hy))
theorem jFo(a:Int):∀c:List Int,c≠[]→∃g:List Int,g.length+1=c.length∧∀x,ev c x=ev c a+(x-a)*ev g x
 |[],h=>absurd O h
 |[b],_=>⟨[],O,fun x=>by simp[ev]⟩
 |b::b'::c,_=>by
  obtain⟨g,hg,hx⟩:=jFo a (b'::c) O4;refine⟨ev (b'::c) a::g,by grind,fun x=>?_⟩;show b+x*ev _ x=b+a*ev _ a+(x-a)*(ev _ a+x*ev g x)
  grind
def IsF(M:Int)(S:List Int)(x l0:Int):Prop:=Cg M (l0*pr (fun y=>y-x) (S.erase x)) (pr (fun y=>y) (S.erase x))
theorem jBk{P:Int→Int→Prop}(h:∀x∈S,∃y,P x y):∃f:Int→Int,∀x∈S,P x (f x):=
 ⟨fun x=>Classical.epsilon fun y=>P x y,fun x hx=>Classical.epsilon_spec (h x hx)⟩
theorem jB7{l0:Int→Int}{n:Nat}(hl:S.length=n+2)(hn:S.Nodup)(hu:∀x∈S,∀y∈S,x≠y→Un M (y-x))(hF:∀x∈S,IsF M S x (l0 x))
  (ih:∀(S:List Int) (l0:Int→Int),S.length=n+1→S.Nodup→(∀x∈S,∀y∈S,x≠y→Un M (y-x))→(∀x∈S,IsF M S x (l0 x))→∀c:List Int,c.length≤n+1→Cg M (sm (fun x=>l0 x*ev c x) S) (ev c 0))
   (ha:a∈S) (g:List Int) (hg:g.length≤n+1):Cg M (sm (fun x=>l0 x*((x-a)*ev g x)) S) (-a*ev g 0):=by
 have hp:=List.perm_cons_erase ha;obtain⟨S',l3⟩:∃S',S'=S.erase a:=⟨_,O⟩;rw[←l3] at hp;have zi:=hp.nodup_iff.1 hn;obtain⟨lY,l4⟩:=lS.1 zi;have hQ:S'.length=n+1:=by have:=hp.length_eq;rw[bT] at this;omega
 have lp:∀x∈S',x∈S:=fun x hx=>hp.mem_iff.2 (dX _ hx)
 have l9:=fun x hx y hy=>hu x (lp x hx) y (lp y hy)
 have l2:∀x∈S',Un M (pr _ (S'.erase x)):=fun x hx=>jCc fun y hy=>by
  have er:=List.mem_of_mem_erase hy;refine l9 x hx y er ?_;rintro rfl;exact(sA9 l4) hy
 obtain⟨mu,l6⟩:∃mu:Int→Int,∀x∈S',IsF M S' x (mu x):=jBk fun x hx=>by
  obtain⟨u,hu⟩:=l2 x hx;refine⟨u*pr (fun y=>y) (S'.erase x),?_⟩;unfold IsF;have h2:=hu.mul (Cg.refl (a:=pr (fun y=>y) (S'.erase x)));grind
 have lX:∀x∈S',Cg M (l0 x*(x-a)) (-a*mu x):=by
  intro x hx;have l1:x≠a:=by rintro rfl;exact lY hx
  have hh:(S.erase x).Perm (a::S'.erase x):=by
   have h1:(S.erase x).Perm ((a::S').erase x):=hp.erase x;rw[oD (by grind)] at h1;exact h1
  have h1:=hF x (lp x hx);unfold IsF at h1;rw[qY1 hh,qY1 hh] at h1;have h2:=l6 x hx;unfold IsF at h2;simp only[pr] at h1;have h3:Cg M ((l0 x*(a-x))*pr (fun y=>y-x) (S'.erase x)) ((a*mu x)*pr (fun y=>y-x) (S'.erase x)):=by
   have e1:(l0 x*(a-x))*pr (fun y=>y-x) (S'.erase x)=l0 x*((a-x)*pr (fun y=>y-x) (S'.erase x)):=by ac_rfl
   have e2:(a*mu x)*pr (fun y=>y-x) (S'.erase x)=a*(mu x*pr (fun y=>y-x) (S'.erase x)):=by ac_rfl
   rw[e1,e2];exact h1.trans ((Cg.refl).mul h2.symm)
  have h4:=((l2 x hx).cancel h3).neg;have e1:l0 x*(x-a)= -(l0 x*(a-x)):=by rw[sA2,sA2];omega
  have e2:-a*mu x= -(a*mu x):=by rw[Int.neg_mul]
  rw[e1,e2];exact h4
 have h5:=ih S' mu hQ l4 l9 l6 g hg;rw[jJ5 hp];show Cg M (l0 a*((a-a)*ev g a)+sm _ S') _
 rw[Int.sub_self,Int.zero_mul,Int.mul_zero,Int.zero_add];have h6:Cg M (sm (fun x=>_*_) S') (sm (fun x=>-a*_) S'):=jM8 fun x hx=>by
  have e1:l0 x*((x-a)*ev g x)=l0 x*(x-a)*ev g x:=by rw[rT]
  have e2:-a*(mu x*ev g x)= -a*mu x*ev g x:=by rw[rT]
  rw[e1,e2];exact(lX x hx).mul .refl
 rw[yF] at h6;exact h6.trans (Cg.refl.mul h5)
theorem jWn{M:Int}:∀(n:Nat) (S:List Int) (l0:Int→Int),S.length=n+1→S.Nodup→(∀x∈S,∀y∈S,x≠y→Un M (y-x))→(∀x∈S,IsF M S x (l0 x))→∀c:List Int,c.length≤n+1→Cg M (sm (fun x=>l0 x*ev c x) S) (ev c 0)
 |0,S,l0,hl,_,_,hF,c,hc=>by
  obtain⟨a,rfl⟩:∃a,S=[a]:=pV.1 hl;have h1:=hF a O4;unfold IsF at h1;simp[pr,Int.mul_one] at h1;have mc:∃b,∀x,ev c x=b:=by
   match c,hc with
   |[],_=>exact⟨0,fun _=>O⟩
   |[b],_=>exact⟨b,fun x=>by simp[ev]⟩
  obtain⟨b,hb⟩:=mc;simp only[sm,hb];have:=h1.mul (Cg.refl (a:=b));grind
 |n+1,S,l0,hl,hn,hu,hF,c,hc=>by
  have xy:=fun{a:Int} (ha:a∈S) g hg=>jB7 hl hn hu hF (jWn n) ha g hg
  obtain⟨a,b,S2,rfl⟩:∃a b S2,S=a::b::S2:=by
   match S,hl with
   |a::b::S2,_=>simp
  have ha:a∈a::b::S2:=O4;have hb:b∈a::b::S2:=O4;have jz:a≠b:=by
   rintro rfl;simp at hn
  have ma:Cg M (sm l0 (a::b::S2)) 1:=by
   have h1:=xy ha [1] O4;have h2:=xy hb [1] O4;have e:∀z:Int,sm (fun x=>l0 x*((x-z)*ev [1] x)) (a::b::S2)=sm (fun x=>l0 x*x) (a::b::S2)+ -z*sm l0 (a::b::S2):=fun z=>by
    rw[←yF,←qBd];refine jF fun x _=>?_
    show l0 x*((x-z)*(1+x*0))=l0 x*x+ -z*l0 x
    grind
   rw[e] at h1 h2;have e0:ev [1] 0=1:=O;rw[e0,Int.mul_one] at h1 h2;have h3:=h1.sub h2;generalize sm (fun x=>l0 x*x) (a::b::S2)=X at h3;generalize sm l0 (a::b::S2)=L at h3⊢;have h4:Cg M (L*(b-a)) (1*(b-a)):=by
    have e1:L*(b-a)=X+ -a*L-(X+ -b*L):=by
     rw[sA2,Int.neg_mul,Int.neg_mul,pW L b,pW L a];omega
    have e2:1*(b-a)= -a- -b:=O1;rw[e1,e2];exact h3
   exact(hu a ha b hb jz).cancel h4
  by_cases yq:c=[]
  ·subst yq;have:sm (fun x=>l0 x*ev [] x) (a::b::S2)=0:=by
    have:=yF 0 l0 (a::b::S2);rw[Int.zero_mul] at this;rw[←this];refine jF fun x _=>?_
    show l0 x*0=0*l0 x
    rw[Int.mul_zero,Int.zero_mul]
   rw[this];exact .refl
  obtain⟨g,hg,hx⟩:=jFo a c yq;have h1:=xy ha g O1;have e:sm (fun x=>l0 x*ev c x) (a::b::S2)=ev c a*sm l0 (a::b::S2)+sm (fun x=>l0 x*((x-a)*ev g x)) (a::b::S2):=by
   rw[←yF,←qBd];refine jF fun x _=>?_
   rw[hx x,Int.mul_add,pW (l0 x)]
  have h2:=((Cg.refl (a:=ev c a)).mul ma).add h1;grind
end Go.Lag
namespace Go.Grp
open Go.Nt Go.Lag
variable{a x:Nat}
def gP:Nat:=2305843009213691579
def gQ:Nat:=1152921504606845789
theorem prQ':Pr gQ:=prQ
theorem zBy:Pr gP:=prP
def Mb(a:Nat):Prop:=1≤a∧a<gP∧a^gQ%gP=1
theorem gP2:2≤gP:=O2
theorem gQ2:2≤gQ:=O2
theorem jEr(h:a^gQ%gP=1):Mb (a%gP):=by
 have h1:(a%gP)^gQ%gP=1:=by rw[←pK];exact h
 refine⟨?_,dG _ (by have:=gP2;omega),h1⟩;apply bG;intro h0;have h0:a%gP=0:=O1;rw[h0,Nat.zero_pow (by have:=gQ2;omega)] at h1;rw[oL] at h1;omega
theorem qMd(ha:Mb a)(n:Nat):Mb (a^n%gP):=jEr (by
 rw[←iJ,bW,iJ,pK,ha.2.2,Nat.one_pow]
 decide)
theorem jKf:Mb 4:=⟨O2,O2,by
 rw[←qQp gP 64 4 gQ O2]
 decide+kernel⟩
theorem jWl(h1:1≤x)(h2:x<gP):Mb (x*x%gP):=jEr (by
 rw[←Nat.pow_two,←iJ]
 have h:=qRb zBy (a:=x) (fun hd=>by
  have:=lM O1 hd
  omega)
 exact h)
theorem qZ2(ha:Mb a)(n:Nat):a^(n%gQ)%gP=a^n%gP:=by
 have h1:a^n=a^(gQ*(n/gQ))*a^(n%gQ):=by rw[←dW,fV]
 rw[h1,pI,qJx gP2 ha.2.2,lR,pJ]
theorem qRd(ha:Mb a){m n:Nat}(h:m%gQ=n%gQ):a^m%gP=a^n%gP:=by rw[←qZ2 ha m,h,qZ2 ha n]
theorem qXl{g k c:Nat}(hg:Mb g)(hc:c≤gQ):(g^((k+c*x%gQ)%gQ)%gP)*((g^x%gP)^(gQ-c)%gP)%gP=g^k%gP:=by
 have e1:_=g^(k+c*x)%gP:=qRd hg (by rw[pJ,Nat.add_mod_mod]);rw[e1,←pK,←iJ,←pI,←dW];refine qRd hg ?_;have e2:k+c*x+x*(gQ-c)=k+gQ*x:=by
  rw[Nat.mul_sub,bW c x,bW gQ x];have:=dK x hc;omega
 rw[e2,iE]
def ltF(l:List (Nat×Nat))(acc:Nat):Nat:=l.foldl (fun acc p=>acc*(p.1^p.2%gP)%gP) acc
theorem qYg{b:Nat}:∀(l:List (Nat×Nat)) (e:Nat),ltF (l.map fun p=>(b^p.1%gP,p.2)) (b^e%gP)%gP=b^(e+(l.map fun p=>p.1*p.2).sum)%gP
 |[],e=>by simp[ltF]
 |p::l,e=>by
  have ih:=qYg (b:=b) l (e+p.1*p.2);have e1:b^e%gP*((b^p.1%gP)^p.2%gP)%gP=b^(e+p.1*p.2)%gP:=by
   rw[←pK,←iJ,←pI,←dW]
  show ltF _ (b^e%gP*((b^p.1%gP)^p.2%gP)%gP)%gP=_
  grind
end Go.Grp
namespace Go.Proofs.YtplkndjlfkkjlaaGreatDoor
open List (range range' replicate)
open Tryz
section
open Go.Eng Go.Dig
variable{m i X Y c x:Nat}
theorem jKj:∀i:Fin 256,∃t:Fin 9,bAt lenT i.val=(t.val:Int)∧i.val<2^t.val:=by decide+kernel
theorem jKk(h:i<256):∃t:Nat,bAt lenT i=(t:Int)∧t≤8∧i<2^t:=by
 obtain⟨t,h1,h2⟩:=jKj ⟨i,h⟩;grind
theorem jEv{x' n t:Nat}(h:x'=x/2^n)(h2:x'<2^t):x<2^(n+t):=by
 have hp:0<2^n:=gJ O2;subst h;have:=(dU hp).1 h2;grind
theorem jCd(a m:Int)(hm:1≤m):(a.tmod m<0∧a.tmod m+m=a%m)∨(0≤a.tmod m∧a.tmod m=a%m):=by
 have h1:=gK a (show m≠0 by omega);have h2:=gI a (show 0<m by omega);grind
theorem jEf{y:Nat}(hx:x<m)(hy:y<m)(h:m≤x+y):(x+y)%m=x+y-m:=by
 rw[Nat.mod_eq_sub_mod h,aN O1]
def dbl(X Y m c i:Nat):Nat:=X*(Y/2^(c-i))%m
theorem jHe(h:Y<2^c):dbl X Y m c 0=0:=by
 unfold dbl;rw[sAc,eJ h,sBh,oL]
theorem jL8(X Y m c:Nat):dbl X Y m c c=X*Y%m:=by
 unfold dbl;simp
theorem qZc(h:i<c):Y/2^(c-1-i)=2*(Y/2^(c-i))+Y/2^(c-1-i)%2:=by
 have e:c-i=(c-1-i)+1:=O1;rw[e,dD,←dM];omega
theorem jBh(h:i<c)(hb:Y/2^(c-1-i)%2=0):dbl X Y m c (i+1)=(dbl X Y m c i+dbl X Y m c i)%m:=by
 have h1:=qZc (Y:=Y) h;unfold dbl;rw[show c-(i+1)=c-1-i by omega,h1,←Nat.two_mul,sBn];grind
theorem jBg(h:i<c)(hb:Y/2^(c-1-i)%2=1):dbl X Y m c (i+1)=((dbl X Y m c i+dbl X Y m c i)%m+X)%m:=by
 have h1:=qZc (Y:=Y) h;unfold dbl;rw[show c-(i+1)=c-1-i by omega,h1,←Nat.two_mul,sBn,Nat.mod_add_mod];grind
theorem jTe(hm:0<m):dbl X Y m c i<m:=dG _ hm
attribute [local irreducible] PV StepF wpl wpd WP Ret
attribute [local irreducible] dbl
theorem jWi(x:Nat)(w:World)(hx:x<18446744073709551616):
  Rt 144 [.int .u64 (x:Int)] w (fun v w'=>∃t:Nat,v=Iv (t:Int)∧t≤64∧x<2^t∧Keeps [] w w'):=by
 refine tW func144 ntmps144 fun hp=>?_;refine qA (qAy (fun F w1=>∃x' n:Nat,x'=x/2^n∧x'<4294967296∧n≤32∧Hp w [] w1 []∧qAb F [(0,.int .u64 x'),(2,Iv n)]) ?_ ?_)
 ·refine qH O (fun h=>?_) (fun h=>?_)
  ·refine qA ?_;refine wlp (xP O O O2) (qF (b:=(x/4294967296:Nat)) O) (qA ?_);exact⟨_,32,O,O1,O1,hp,O,O,trivial⟩
  refine qA ?_;exact⟨x,0,O4,O1,O1,hp,O,O,trivial⟩
 clear hp;rintro F w1 ⟨x1,n1,e1,zd,zc,hp,hF⟩;refine yL _ hF ?_;intro F0;clear hF;refine qA (qAy (fun F w1=>∃x' n:Nat,x'=x/2^n∧x'<65536∧n≤48∧Hp w [] w1 []∧qAb F [(0,.int .u64 x'),(2,Iv n)]) ?_ ?_)
 ·refine qH O (fun h=>?_) (fun h=>?_)
  ·refine qA ?_;refine wlp (xP O O O2) (qF (b:=(x1/65536:Nat)) O) (tM (n1+16) ?_);exact mDx
  exact mF1
 clear hp e1 zd zc x1 n1;rintro F w1 ⟨x1,n1,e1,zd,zc,hp,hF⟩;refine yL _ hF ?_;intro F0;clear hF;refine qA (qAy (fun F w1=>∃x' n:Nat,x'=x/2^n∧x'<256∧n≤56∧Hp w [] w1 []∧qAb F [(0,.int .u64 x'),(2,Iv n)]) ?_ ?_)
 ·refine qH O (fun h=>?_) (fun h=>?_)
  ·refine qA ?_;refine wlp (xP O O O2) (qF (b:=(x1/256:Nat)) O) (tM (n1+8) ?_);exact mDx
  exact mF1
 rintro F w1 ⟨x1,n1,e1,zd,zc,hp,hF⟩;refine yL _ hF ?_;intro F0;obtain⟨t,ht,zg,hu⟩:=jKk zd;refine gA4 ?_;refine wlp (kC O O O) (qF (b:=x1) O1) (wlp (zY (s:=lenT) O O O (by rw[qOw];omega)) (qF ht) ?_);refine wlp (zX O O O) (qF (qK O1 O1)) (tN (n1+t) ?_);refine tV ?_;exact⟨_,O,_,O,O1,jEv e1 hu,hp.C⟩
theorem p53(a m:Int)(w:World)(ha:-9223372036854775808≤a)(mf:a≤9223372036854775807)(hm:1≤m)(dx:m≤9223372036854775807):
  Rk 84 [Iv a,Iv m] w (Iv (a%m)):=by
 have h1:=gK a (show m≠0 by omega);have hc:=jCd a m hm;refine tW func84 ntmps84 fun hp=>?_;refine qA ?_;refine tR (qCz O O O1) ?_;refine tI (fun h=>?_) fun h=>?_
 ·refine qA ?_;refine wlp (qO O O) (qF (b:=a%m) (by rw[qK O1 O1];omega)) (tV ?_);exact mB0
 exact mBd
theorem p98(x y m:Nat)(w:World)(hx:x<m)(hy:y<m)(hm:m≤9223372036854775807):
  Rt 145 [.int .u64 (x:Int),.int .u64 (y:Int),.int .u64 (m:Int)] w (fun v w'=>v= .int .u64 (((x+y)%m:Nat):Int)∧Keeps [] w w'):=by
 refine tW func145 ntmps145 fun hp=>?_;refine gAb ?_;refine tI (fun h=>?_) fun h=>?_
 ·have e:=jEf hx hy O1;refine qA (wlp (jN O O) (qF (b:=((x+y)%m:Nat)) (by rw[e,show(x+y:Nat)-(m:Int)=(x+y-m:Nat) by omega,wU O1])) ?_);exact mA0
 have e:_%m=x+y:=aN O1;rw[e];exact mA0
theorem qHc(a:Int)(hm:1≤m):∃X:Nat,a%(m:Int)=X∧X<m:=
 ⟨(a%m).toNat,by
  have h1:=gK a (show(m:Int)≠0 by omega);omega,by
  have h2:=gI a (show 0<(m:Int) by omega)
  omega⟩
theorem qJi{z:Int}(h:z=X)(hX:X<18446744073709551616):IntKind.u64.wrap z=(X:Int):=by rw[h,wU hX]
theorem p52(a b:Int)(m:Nat)(w:World)(ha:-9223372036854775808≤a)(mf:a≤9223372036854775807)(hb:-9223372036854775808≤b)(sd:b≤9223372036854775807)(hm:1≤m)(dx:m≤9223372036854775807):
  Rk 83 [Iv a,Iv b,Iv (m:Int)] w (Iv (a*b%(m:Int))):=by
 obtain⟨X,hX,mi⟩:=qHc a hm;obtain⟨Y,hY,mm⟩:=qHc b hm;have mh:a*b%m=(X*Y%m:Nat):=by
  rw[Int.mul_emod,hX,hY];exact(iI (X*Y) m).symm
 rw[mh];refine tW func83 ntmps83 fun hp=>?_;refine qA ?_;refine qH O O1 (fun _=>tD (p53 a m _ ha mf O1 O1) fun w1 hp=>wlp (zX O O O) (qF (qJi hX O1)) ?_);refine tD (p53 b m _ hb sd O1 O1) fun w2 hp=>wlp (zX O O O) (qF (qJi hY O1)) ?_;refine jM ?_;refine wlp (zX O O O) (qF (qJi O O1)) (tL (jWi Y _ O1) ?_);rintro _ w3 ⟨c,rfl,hc,mo,hk⟩;have hp:=hp.call hk;have h0:=jHe (X:=X) (m:=m) mo;have fs:=jL8 X Y m c;refine qA ?_;refine qQ [10,12,28,29,30,31,32,33,34,35,36,37,38,39,40,41,42,43,44,45,46,47] (fun i F=>(F.put 10 (.int _ (dbl X Y m c i))).put 28 (.int _ i)) (fun i w'=>i≤c∧Hp w [] w' []) (fun i=>c-i) 0 (qB (qB (Same.eq .refl) (by show Value.int _ 0=_;rw[h0];rfl)) O) ⟨O1,hp⟩ ?_;clear hp h0;rintro u i w4 ⟨hi,hp⟩;refine tI (fun h=>?_) fun h=>?_
 ·have ml:i<c:=O1;have hd:=jTe (X:=X) (Y:=Y) (m:=m) (c:=c) (i:=i) O1;have hs0:=jBh (X:=X) (Y:=Y) (m:=m) ml;have hg:=jBg (X:=X) (Y:=Y) (m:=m) ml;have sd:Y/2^(c-1-i)%2<2:=O1;have ig:Y/2^(c-1-i)≤Y:=fR _ _;refine tD (p98 _ _ m _ hd hd dx) fun w5 hp=>?_;have yu:(dbl X Y m c i+dbl X Y m c i)%m<m:=dG _ O1;refine tM (c-1) ?_;refine tM (c-1-i) ?_;refine tR (xP O O (by show _≤64;omega)) ?_;generalize Y/2^(c-1-i)=z at hs0 hg sd ig;refine tR (qLy (k:=1) O O O1 O O2) ?_;refine tI (fun hq=>?_) fun hq=>?_
  ·have hs:=hg O1;refine tD (p98 _ X m _ yu mi dx) fun w6 hp=>?_;rw[←hs];exact mF3
  have hs:=hs0 O1;rw[←hs];exact mF3
 obtain rfl:i=c:=O1;rw[fs];have hl:X*Y%m<m:=dG _ O1;refine tV ?_;exact⟨_,O,qF (qK O1 O1),hp.C⟩
end
section
open Go.Eng Go.Dig Go.Lag
variable{n:Nat}{a x p:Int}{m k:Nat}
theorem jYf(h:n<9223372036854775808):qUp (n:Int) 1=((n%2:Nat):Int):=by
 unfold qUp;have h1:(BitVec.ofInt 64 n&&&BitVec.ofInt 64 1).toNat=n%2:=by
  rw[rL,show(1:Int)=((1:Nat):Int) from O,kG 64 n O1,kG 64 1 O2,Nat.and_one_is_mod]
 rw[h1,qK O1 O1]
theorem qTt(a:Int)(k:Nat):a^(2*k)=(a*a)^k:=by rw[Int.pow_mul,sAd,sAd,Int.pow_zero,sA3]
def PwI(a:Int)(n m:Nat)(x:Nat×Int×Int):Prop:=x.2.2*x.2.1^x.1%(m:Int)=a^n%(m:Int)
theorem PwI.start(a:Int)(n m:Nat):PwI a n m (n,a,1%(m:Int)):=by
 unfold PwI;rw[Int.mul_emod,Int.emod_emod,←Int.mul_emod,sA3]
theorem PwI.even(h:PwI a n m (k,x,p))(hk:k%2=0):PwI a n m (k/2,x*x%(m:Int),p):=by
 unfold PwI at*
 rw[←h];have e:x^k=(x*x)^(k/2):=by rw[←qTt];congr 1;omega
 exact(Cg.refl.mul (qWs Cg.mod _)).eq.trans (by rw[e])
theorem PwI.odd(h:PwI a n m (k,x,p))(hk:k%2=1):PwI a n m (k/2,x*x%(m:Int),p*x%(m:Int)):=by
 unfold PwI at*
 rw[←h];have e:p*x^k=p*x*(x*x)^(k/2):=by
  rw[←qTt];have e2:k=2*(k/2)+1:=O1
  conv=>lhs;rw[e2,sAd]
  ac_rfl
 rw[e];exact(Cg.mod.mul (qWs Cg.mod _)).eq
theorem PwI.done(h:PwI a n m (0,x,p))(hp:p%(m:Int)=p):p=a^n%(m:Int):=by
 unfold PwI at h;grind
attribute [local irreducible] PV StepF wpl wpd WP Ret
theorem p49(a b:Int)(m:Nat)(w:World)(ha:-9223372036854775808≤a)(mf:a≤9223372036854775807)(hb:-9223372036854775808≤b)(sd:b≤9223372036854775807)(hm:1≤m)(dx:m≤9223372036854775807):
  Rk 152 [Iv a,Iv b,Iv (m:Int)] w (Iv ((a+b)%(m:Int))):=by
 obtain⟨X,hX,mi⟩:=qHc a hm;obtain⟨Y,hY,mm⟩:=qHc b hm;have mh:(a+b)%m=((X+Y)%m:Nat):=by
  rw[Int.add_emod,hX,hY];exact(iI (X+Y) m).symm
 rw[mh];have hl:(X+Y)%m<m:=dG _ O1;refine tW func152 ntmps152 fun hp=>?_;refine qA ?_;refine qH O O1 (fun _=>tD (p53 a m _ ha mf O1 O1) fun w1 hp=>wlp (zX O O O) (qF (qJi hX O1)) ?_);refine tD (p53 b m _ hb sd O1 O1) fun w2 hp=>wlp (zX O O O) (qF (qJi hY O1)) ?_;refine jM ?_;refine wlp (zX O O O) (qF (qJi O O1)) (tC (p98 X Y m _ mi mm dx) fun w3 hp=>?_);exact mEx
theorem zCn(a b:Int)(m:Nat)(w:World)(ha:-9223372036854775808≤a)(mf:a≤9223372036854775807)(hb:-9223372036854775808≤b)(sd:b≤9223372036854775807)(hm:1≤m)(dx:m≤9223372036854775807):
  Rk 282 [Iv a,Iv b,Iv (m:Int)] w (Iv ((a-b)%(m:Int))):=by
 have h1:=gK a (show(m:Int)≠0 by omega);have h2:=gI a (show 0<(m:Int) by omega);have h3:=gK b (show(m:Int)≠0 by omega);have h4:=gI b (show 0<(m:Int) by omega);have mh:=(Int.sub_emod a b m);rw[mh];refine tW func282 ntmps282 fun hp=>?_;refine qA ?_;refine qH O O1 (fun _=>tD (p53 a m _ ha mf O1 O1) fun w1 hp=>?_);refine tD (p53 b m _ hb sd O1 O1) fun w2 hp=>?_;refine wlp (jN O O) (qF (qK O1 O1)) (tD (p53 (a%m-b%m) m _ O1 O1 O1 O1) fun w3 hp=>?_);exact mA0
theorem p51(a b:Int)(m mb:Nat)(w:World)(ix:w.cell? ⟨mb,0,none⟩=some (Iv (m:Int)))(ha:-9223372036854775808≤a)(mf:a≤9223372036854775807)(hb:-9223372036854775808≤b)(sd:b≤9223372036854775807)(hm:1≤m)(dx:m≤9223372036854775807):
  Rk 82 [Iv a,Iv b,.pointer (Ad mb)] w (Iv (a*b%(m:Int))):=by
 refine tW func82 ntmps82 fun hp=>?_;refine tD (p52 a b m _ ha mf hb sd hm dx) fun w1 hp=>?_;exact mA0
theorem p16(a:Int)(n m:Nat)(w:World)(ha:-9223372036854775808≤a)(mf:a≤9223372036854775807)(hn:n≤9223372036854775807)(hm:1≤m)(dx:m≤9223372036854775807):
  Rk 26 [Iv a,Iv (n:Int),Iv (m:Int)] w (Iv (a^n%(m:Int))):=by
 have mz:0<(m:Int):=O1;have h3:∀z:Int,0≤z%m∧_:=fun z=>⟨gK z O1,gI z mz⟩
 refine tW func26 ntmps26 fun hp=>?_;refine qR ?_;refine tQ fun w1 mb hp=>?_;refine jM ?_;refine gA1 ?_;refine wlp (zQ O O) (qV (aB O1)) (jM ?_);refine qAd ?_;apply vX;exact O;exact O;exact zQ O O;exact qV (aB O1);refine tR (yT O O) (qR ?_);refine tJ ?_;refine tK (p53 1 m _ O2 O2 O1 O1) ?_;rintro _ w2 ⟨rfl,hk⟩;have hp:=hp.call hk;have hp:Hp w [] w2 [blk mb 1 (qE [.int _ m]) 3]:=hp;refine qA (qQ [0,1,8,18,19,20,21,22,23,24,25,26,27,28,29,30,31,32] (fun X F=>((F.put 0 (.int _ X.2.1)).put 1 (.int _ (X.1))).put 8 (.int _ X.2.2))
  (fun X w'=>X.1≤n∧PwI a n m X∧(-9223372036854775808≤X.2.1∧X.2.1≤9223372036854775807)∧X.2.2%m=X.2.2∧Hp w [] w' _) (fun X=>X.1) _
  (qB (qB (qB (Same.eq .refl) O) O) O) ⟨O1,.start a n m,⟨ha,mf⟩,Int.emod_emod _ _,hp⟩ ?_)
 clear hp;rintro u ⟨k,x,p⟩ w3 ⟨hk,hI,hx,jo,hp⟩;dsimp only at hk hx jo hp⊢;have mw:=h3 p;rw[jo] at mw;have mK:=h3 (x*x);have mA:=h3 (p*x);refine tI (fun h=>?_) fun h=>?_
 ·have my:0<k:=O1;refine qA ?_;refine wlp (qXx O O) (qF (jYf O1)) (tI (fun h1=>?_) fun h1=>?_)
  ·have e7:k%2=1:=O1;refine tD (p51 p x m mb _ (hp.cell 0 O O) O1 O1 hx.1 hx.2 hm dx) fun w4 hp=>?_;refine tD (p51 x x m mb _ (hp.cell 0 O O) hx.1 hx.2 hx.1 hx.2 hm dx) fun w5 hp=>?_;refine qA ?_;refine wlp (xP O O O2) (qF (b:=(k/2:Nat)) O) (qA ?_);exact⟨_,qB O5 O,⟨O1,hI.odd e7,⟨by grind,by grind⟩,Int.emod_emod _ _,hp⟩,O1⟩
  have e7:k%2=0:=O1;refine tD (p51 x x m mb _ (hp.cell 0 O O) hx.1 hx.2 hx.1 hx.2 hm dx) fun w5 hp=>?_;refine qA ?_;refine wlp (xP O O O2) (qF (b:=(k/2:Nat)) O) (qA ?_);exact⟨_,qB O5 O,⟨O1,hI.even e7,⟨by grind,by grind⟩,jo,hp⟩,O1⟩
 obtain rfl:k=0:=O1;have he:=hI.done jo;refine tV ?_;exact⟨_,O,qF he,hp.C⟩
theorem qM1(a n m:Nat)(w:World)(mf:a≤9223372036854775807)(hn:n≤9223372036854775807)(hm:1≤m)(dx:m≤9223372036854775807):
  Rk 26 [Iv (a:Int),Iv (n:Int),Iv (m:Int)] w (Iv ((a^n%m:Nat):Int)):=
 (p16 _ n m w O1 O1 hn hm dx).mono fun v w' ⟨hv,hk⟩=>⟨by grind,hk⟩
theorem p69(a:Nat)(w:World)(h:Go.Grp.Mb a):Rk 147 [Iv (a:Int)] w (.bool true):=by
 obtain⟨h1,h2,h3⟩:=h;have hP:Go.Grp.gP=2305843009213691579:=O;have h16:∀w,Ret _ 26 [_,.int _ 1152921504606845789,.int _ 2305843009213691579] w _:=fun w=>by
  have h4:=qM1 a Go.Grp.gQ Go.Grp.gP w O1 O2 O2 O2;rw[h3] at h4;exact h4
 refine tW func147 ntmps147 fun hp=>?_;refine gA1 ?_;refine gA1 ?_;refine wlp (vE O O) (qV (aD O1)) (jM ?_);refine qAd ?_;apply vX;exact O;exact O;exact uG O O;exact qV (aD O1);refine tR (kL O O) ?_;refine gAe ?_;refine tC (h16 _) fun w1 hp=>?_;apply vX;exact O;exact O;exact zW O O;exact qV (aD O1);exact mA0
end
section
open Go.Eng Go.Dig Go.Lag
variable{a:Int}{m:Nat}{s t:Int}{x y:Nat}
structure InvI(a:Int)(m x y:Nat)(s t:Int):Prop where
 gcd:Nat.gcd x y=1
 cs:Cg (m:Int) (s*a) (x:Int)
 ct:Cg (m:Int) (t*a) (y:Int)
 bd:x*t.natAbs+y*s.natAbs=m
 sg:(0≤s∧t≤0)∨(s≤0∧0≤t)
 xm:x≤m
 ym:y≤m
 sm:s.natAbs≤m
 tm:t.natAbs≤m
theorem InvI.start{r:Nat}(hm:1≤m)(hr:a%(m:Int)=r)(ng:r<m)(hg:Nat.gcd m r=1):InvI a m m r 0 1:=by
 refine⟨hg,?_,?_,O4,O1,O1,O1,O1,O1⟩
 ·exact⟨-1,O1⟩
 rw[sA3,←hr];exact Cg.mod.symm
theorem jLu{q:Nat}(h:(0≤s∧t≤0)∨(s≤0∧0≤t)):(s-q*t).natAbs=s.natAbs+q*t.natAbs:=by
 rcases h with⟨h1,h2⟩|⟨h1,h2⟩
 ·obtain⟨S,rfl⟩:∃S:Nat,s=S:=⟨s.toNat,O1⟩;obtain⟨T,rfl⟩:∃T:Nat,t= -T:=⟨(-t).toNat,O1⟩;rw[Int.mul_neg,Int.sub_neg,Int.natAbs_neg,lK,lK,←bU,←mN,lK]
 grind
theorem InvI.next(h:InvI a m x y s t)(hy:0<y):InvI a m y (x%y) t (s-(x/y:Nat)*t)∧((x/y:Nat)*t.natAbs)≤m:=by
 have hd:=fV x y;have ha:=jLu (q:=x/y) h.sg;have h3:y*(s-(x/y:Nat)*t).natAbs+x%y*t.natAbs=m:=by
  rw[ha,←h.bd,iC,←fK];have:x*t.natAbs=(y*(x/y))*t.natAbs+x%y*t.natAbs:=by rw[←fE,hd]
  omega
 have yw:(s-(x/y:Nat)*t).natAbs≤m:=by
  have:1*(s-(x/y:Nat)*t).natAbs≤y*(s-(x/y:Nat)*t).natAbs:=aL _ hy;omega
 refine⟨⟨?_,h.ct,?_,h3,?_,h.ym,bL O1 h.xm,h.tm,yw⟩,O1⟩
 ·rw[pT,←Nat.gcd_rec,pT];exact h.gcd
 ·have e1:(s-(x/y:Nat)*t)*a=s*a-(x/y:Nat)*(t*a):=by rw[Int.sub_mul,rT]
  have e2:(x%y:Nat)=(x:Int)-(x/y:Nat)*y:=by
   have h9:(x:Int)=((x/y*y+x%y:Nat):Int):=by rw[bW,hd]
   rw[mN,bU] at h9;generalize ((x/y:Nat):Int)*(y:Int)=z at h9⊢;omega
  rw[e1,e2];exact h.cs.sub (Cg.refl.mul h.ct)
 rcases h.sg with⟨h1,h2⟩|⟨h1,h2⟩
 ·have h9:(x/y:Nat)*t≤0:=Int.mul_nonpos_of_nonneg_of_nonpos (Int.natCast_nonneg _) h2;omega
 grind
theorem InvI.done(h:InvI a m x 0 s t):x=1∧Cg (m:Int) (s*a) 1:=by
 have:=h.gcd;rw[sAp] at this;subst this;exact⟨O,h.cs⟩
theorem qYt{k:Nat}(h:k≤9223372036854775807):IntKind.i64.wrap (k:Int)=(k:Int):=qK O1 O1
theorem tdn:(x:Int).tdiv (y:Int)=((x/y:Nat):Int):=O4
attribute [local irreducible] PV StepF wpl wpd WP Ret
theorem zCm(a:Int)(m:Nat)(w:World)(ha:-9223372036854775808≤a)(mf:a≤9223372036854775807)(hm:2≤m)(dx:m≤4611686018427387904)(hg:∀r:Nat,a%(m:Int)=r→Nat.gcd m r=1):
  Rt 283 [Iv a,Iv (m:Int)] w (fun v w'=>(∃z:Nat,v= .tuple #[Iv (z:Int),.bool true]∧z<m∧Cg (m:Int) ((z:Int)*a) 1)∧Keeps [] w w'):=by
 obtain⟨r,hr,ng⟩:=qHc a (m:=m) O1;have hI:=InvI.start O1 hr ng (hg r hr);refine tW func283 ntmps283 fun hp=>?_;refine qA ?_;refine qH O O1 (fun _=>tD (p53 a m _ ha mf O1 O1) fun w1 hp=>?_);rw[hr];refine qA (qQ [6,7,8,9,10,17,18,19,20,21,22,23,24,25,26,27,28,29,30,31] (fun X F=>(((F.put 6 (.int _ (X.1))).put 7 (.int _ (X.2.1))).put 8 (.int _ X.2.2.1)).put 9 (.int _ X.2.2.2))
  (fun X w'=>InvI a m X.1 X.2.1 X.2.2.1 X.2.2.2∧Hp w [] w' []) (fun X=>X.2.1) (m,r,0,1) (qB (qB (qB (qB (Same.eq .refl) O) O) O) O) ⟨hI,hp⟩ ?_)
 clear hp hI;rintro u ⟨x,y,s,t⟩ w2 ⟨hI,hp⟩;dsimp only at hI hp⊢;have nh:=hI.xm;have ni:=hI.ym;have nk:=hI.sm;refine tI (fun h=>?_) fun h=>?_
 ·have hy:0<y:=O1;obtain⟨nl,np⟩:=hI.next hy;have hl:=dG x hy;have nr:=nl.tm;have hq:x/y≤x:=fR _ _;have nj:((x/y:Nat)*t).natAbs=(x/y)*t.natAbs:=by rw[oE,lK]
  have tc:-9223372036854775808≤(x/y:Nat)*t∧(x/y:Nat)*t≤9223372036854775807:=by
   rw[←nj] at np;generalize ((x/y:Nat):Int)*t=z at np;omega
  have yz:-9223372036854775808≤s-(x/y:Nat)*t∧s-(x/y:Nat)*t≤9223372036854775807:=by
   generalize s-((x/y:Nat):Int)*t=z at nr;omega
  refine qA ?_;refine wlp (qC1 O O O1) (qF (b:=(x/y:Nat)) (by exact qYt O1)) (tY fun hp=>?_);refine qX ?_;refine wdp O (fun w hp=>qCz O O O1) (qF (qEc x y)) (qX ?_);refine qU (qA ?_);refine wlp (vD O O) (qF (qK tc.1 tc.2)) (wlp (jN O O) (qF (qK yz.1 yz.2)) ?_);refine qA ?_;exact⟨(y,x%y,t,s-(x/y:Nat)*t),qB O5 O,⟨nl,hp⟩,hl⟩
 obtain rfl:y=0:=O1;obtain⟨rfl,hc⟩:=hI.done;obtain⟨z,hz,nq⟩:=qHc s O1;refine qR ?_;refine jM (wlp (kB O O) (qV (b:=false) O) ?_);refine qR ?_;refine tJ ?_;refine tC (p53 s m _ O1 O1 O1 O1) fun w3 hp=>?_;refine qA ?_;rw[hz];refine xU O O O ⟨_,O,⟨z,O,nq,?_⟩,hp.C⟩;rw[←hz];exact(Cg.mod.mul .refl).trans hc
end
section
open Go.Eng Go.Dig Go.Sha Go.Grp
def nB(g:Nat→Nat):Nat→Nat
 |0=>0
 |k+1=>nB g k*2^8+g k
theorem jEa{g:Nat→Nat}(h:∀i,g i<256):∀k,nB g k<256^k
 |0=>by simp[nB]
 |k+1=>by
  have h1:=jEa h k;have h2:=h k;show nB g k*2^8+g k<256^k*256
  omega
theorem jAu{k:Nat}(h:k≤7):256^k≤72057594037927936:=aR O2 h
def qNv(l:List Nat):Nat:=nB (shb l) 8%9223372036854775808
def scP(l:List Nat):Nat:=qNv ([115,47]++l)%1152921504606845789
def elX(l:List Nat):Nat:=1+qNv ([101,47]++l)%2305843009213691578
def elP(l:List Nat):Nat:=elX l*elX l%2305843009213691579
theorem jD6(l:List Nat):scP l<1152921504606845789:=dG _ O2
theorem qQy(l:List Nat):qNv l<9223372036854775808:=dG _ O2
theorem jWp(s:ByteArray){i:Nat}(h:i<32):qE (hv s) i=u8 (shb (bl s) i):=by
 rw[uA];unfold hv sha;grind
theorem qW7(s:ByteArray):(hv s).length=32:=by
 unfold hv;rw[aM,jJa]
theorem jJq(f:Fr)(s:ByteArray)(i:Nat)(h:i<32):uT f 0 (hv s) i=qE (hv s) i:=by
 have h2:(hv s)[i]? =some (qE (hv s) i):=by
  rw[uA,aC,aA (by exact h)];rfl
 have:=qE5 _ f 0 i _ h2;grind
section
variable {P:Program}{n:FrK}{w:World}{F:Fr}{d:Option Tmp}{ty:TypeId}{pos:String}{aft:Array Edge}{g:Option (Nat×Bool)}{x y:Operand}{t t':Nat}
theorem jDx{a:Nat}(hx:ev n F x= .int .u64 (a:Int))(hy:ev n F y= .int .u64 9223372036854775808)(ha:a<18446744073709551616):PV P n w F ⟨d,.binOp .andNot t x y t',ty,pos,aft,g⟩ (.int .u64 ((a%9223372036854775808:Nat):Int)):=by
 have h1:(BitVec.ofInt 64 a&&& ~~~BitVec.ofInt 64 9223372036854775808).toNat=a%9223372036854775808:=by
  rw[rL,kG 64 a ha,show(~~~BitVec.ofInt 64 (9223372036854775808:Int)).toNat=2^63-1 from O2,rM]
 have h3:=wU (show a%9223372036854775808<18446744073709551616 by omega);simp only[PV,execOp,hx,hy,eqGuard,binOp,Op.intBits];show Sem.run P (pure (Next.value (Value.int _ (IntKind.u64.wrap ((BitVec.ofInt 64 _&&& ~~~BitVec.ofInt 64 9223372036854775808).toNat))))) w=_
 rw[h1,h3];rfl
end
attribute [local irreducible] PV StepF wpl wpd WP Ret
attribute [local irreducible] Go.Sha.shb hv
theorem jWh(s:ByteArray)(w:World)(hT:Tabs w)(hh:s.size≤1099511627776):
  Rk 155 [.string s] w (Iv (qNv (bl s):Int)):=by
 have hg:=qQ3 (bl s);refine tW func155 ntmps155 fun hp=>?_;refine qR ?_;refine tR qY (qR ?_);refine tR qP (tC (zCk s _ O1 hh) fun w1 hp=>?_);refine tF (zE (cs:=replicate 32 (u8 0)) (m:=32) hp (qJ O) O O) fun w2 b hp=>tO (zH (cs:=hv s) hp 0 O O O O (by rw[qW7];exact qD O) (by rw[qW7];rfl) (by unfold hv;rfl)) fun w3 hp=>?_;have hp:Hp w [] w3 [blk b 32 _ 284]:=hp;rw[qBb (jJq _ s)] at hp;refine qA (qQ ([4,5]++range' 8 11) (fun i F=>(F.put 4 (.int _ (nB (shb (bl s)) i:Nat))).put 8 (.int _ i))
  (fun i w'=>i≤8∧Hp w [] w' _) (fun i=>8-i) 0
  (qB (qB (Same.eq .refl) O) O) ⟨O1,hp⟩ ?_)
 clear hp;rintro u0 i w4 ⟨hi,hp⟩;refine tI (fun h=>?_) fun h=>?_
 ·have h7:=jAu (show i≤7 by omega);have hn:=jEa hg i;have ew:=hg i;have hV:=qY7 8 (nB (shb (bl s)) i) _ ew;refine gA4 ?_;refine gA1 ?_;refine tR (qB7 (b:=8) O O O2 O1) (jM ?_);refine tR (jS O O O O1) ?_;refine wlp (qS O O (hp.cell 0 O (yQ O1))) (jWp s O1) ?_;rw[show 0+i*1=i by omega];refine wlp (zX O O O) (qF (wU O1)) (wlp (qG2 O O O1 O1) (qF (b:=(nB (shb (bl s)) (i+1):Nat)) (by rw[hV];rfl)) ?_);exact mCf
 obtain rfl:i=8:=O1;have h8:=jEa hg 8;refine qA (wlp (jDx O O O1) (qF (b:=(qNv (bl s):Nat)) O) ?_);have h9:=qQy (bl s);exact mEx
theorem zCr(s:ByteArray)(w:World)(hT:Tabs w)(hg:s.size≤1000000000000):
  Rk 203 [.string s] w (Iv (scP (bl s):Int)):=by
 have h9:=qQy ([115,47]++bl s);have sd:bl (⟨#[115,47]⟩++s)=[115,47]++bl s:=by rw[qFr];rfl
 have h5:(⟨#[115,47]⟩++s).size=2+s.size:=by rw[←vG,sd,aY,vG];rfl
 refine tW func203 ntmps203 fun hp=>?_;refine qR ?_;refine tR qY (qR ?_);refine tR qP ?_;refine tR (qCq O O (by grind)) ?_;apply wls;exact qC O jGy O (jWh _ _ O1 O1);rintro _ w1 ⟨rfl,hk⟩;have hp:=hp.call hk;refine tC (p53 (qNv ([115,47]++bl s)) 1152921504606845789 _ O1 O1 O2 O2) fun w2 hp=>?_;refine tV ?_;exact⟨_,O,aQ _ (iI _ _).symm,hp.C⟩
theorem p59(s:ByteArray)(w:World)(hT:Tabs w)(hg:s.size≤1000000000000):
  Rk 91 [.string s] w (Iv (elP (bl s):Int)):=by
 have h9:=qQy ([101,47]++bl s);have sd:bl (⟨#[101,47]⟩++s)=[101,47]++bl s:=by rw[qFr];rfl
 have h5:(⟨#[101,47]⟩++s).size=2+s.size:=by rw[←vG,sd,aY,vG];rfl
 have hx:(elX (bl s))=1+(qNv ([101,47]++bl s):Int)%2305843009213691578:=by unfold elX;omega
 refine tW func91 ntmps91 fun hp=>?_;refine qR ?_;refine tR qY (qR ?_);refine tR qP ?_;refine tR (qCq O O (by grind)) ?_;apply wls;exact qC O jGy O (jWh _ _ O1 O1);rintro _ w1 ⟨rfl,hk⟩;have hp:=hp.call hk;refine tC (p53 (qNv ([101,47]++bl s)) 2305843009213691578 _ O1 O1 O2 O2) fun w2 hp=>wlp (qO O O) (qF (b:=(elX (bl s))) (by rw[hx];exact qK O1 O1)) ?_;refine tD (p52 (elX (bl s)) (elX (bl s)) 2305843009213691579 _ O1 O1 O1 O1 O2 O2) fun w3 hp=>?_;refine tV ?_;exact⟨_,O,aQ (Value.int _) (by unfold elP;omega),hp.C⟩
theorem jTc(l:List Nat):Mb (elP l):=by
 have h1:1≤elX l:=by unfold elX;omega
 have h2:elX l<gP:=by
  have:qNv ([101,47]++l)%2305843009213691578<2305843009213691578:=dG _ O2;unfold elX gP;omega
 exact jWl h1 h2
end
open Go.Eng Go.Dig Go.Sha
theorem qN1{x:Nat}(h:x≤9223372036854775807):(uY x).size≤19:=qIo 18 x O1
attribute [local irreducible] PV StepF wpl wpd WP Ret
attribute [local irreducible] FitR ofN uY hv
end Go.Proofs.YtplkndjlfkkjlaaGreatDoor
namespace Go.Sp
open List (range range' replicate)
open Go.Nt Go.Lag Go.Grp
variable{S:List Nat}{x b a:Nat}{c ns:List Nat}
def vl(c:List Nat)(x:Nat):Nat:=c.foldr (fun a r=>(r*x%gQ+a)%gQ) 0
def toI(c:List Nat):List Int:=c.map fun(n:Nat)=>(n:Int)
theorem cgN(h:a%gQ=b%gQ):Cg (gQ:Int) a b:=Cg.aC6 O1
theorem jE7(h:Cg (gQ:Int) a b):a%gQ=b%gQ:=by
 have:=h.eq;omega
theorem qTm(a:Nat):Cg (gQ:Int) ((a%gQ:Nat):Int) a:=cgN (pJ _ _)
theorem jM4:vl c x<gQ:=by
 have h0:0<gQ:=O2;cases c with
 |nil=>exact h0
 |cons a c=>exact dG _ h0
theorem qX5:∀(c:List Nat) (x:Nat),Cg (gQ:Int) (vl c x:Int) (ev (toI c) (x:Int))
 |[],x=>.refl
 |a::c,x=>by
  have ih:=qX5 c x;refine(qTm _).trans ?_;rw[mN,Int.add_comm];refine Cg.refl.add ((qTm _).trans ?_);rw[bU,pW];exact Cg.refl.mul ih
def atG(x:Nat):List Nat→Nat→Nat→Nat
 |[],acc,_=>acc
 |c::cs,acc,p=>atG x cs (acc*(c^p%gP)%gP) (p*x%gQ)
def atP(cs:List Nat)(x:Nat):Nat:=atG x cs 1 1
def pws(b:Nat)(c:List Nat):List Nat:=c.map fun e=>b^e%gP
def atS(x:Nat):List Nat→Nat→Nat
 |[],_=>0
 |c::cs,p=>c*p+atS x cs (p*x%gQ)
theorem jI0(b x:Nat):∀(c:List Nat) (e p:Nat),atG x (pws b c) (b^e%gP) p=b^(e+atS x c p)%gP
 |[],e,p=>by simp[pws,atG,atS]
 |a::c,e,p=>by
  have ih:=jI0 b x c (e+a*p) (p*x%gQ);show atG x (pws b c) (b^e%gP*((b^a%gP)^p%gP)%gP) _=b^(e+(a*p+atS x c _))%gP
  have e1:b^e%gP*((b^a%gP)^p%gP)%gP=b^(e+a*p)%gP:=by
   rw[←pK,←iJ,←pI,←dW]
  grind
theorem jHy(x:Nat):∀(c:List Nat) (p:Nat),Cg (gQ:Int) (atS x c p:Int) ((p:Int)*ev (toI c) (x:Int))
 |[],p=>.of_eq (by show(0:Nat)=(p:Int)*0;omega)
 |a::c,p=>by
  have ih:=jHy x c (p*x%gQ);show Cg _ (a*p+atS x c (p*x%gQ):Nat) (p*(a+x*ev (toI c) x))
  rw[mN,bU,Int.mul_add,pW,←rT];refine Cg.refl.add (ih.trans (Cg.mul ?_ .refl));exact qTm _
theorem jYg(hb:Mb b)(c:List Nat)(x:Nat):atP (pws b c) x=b^vl c x%gP:=by
 have h:=jI0 b x c 0 1;have h1:b^0%gP=1:=by rw[nK];decide
 rw[h1,fH] at h;refine h.trans (qRd hb (jE7 ?_));have:=jHy x c 1;rw[show((1:Nat):Int)=1 from O,sA3] at this;exact this.trans (qX5 c x).symm
structure Pts(S:List Nat):Prop where
 nd:S.Nodup
 bd:∀x∈S,1≤x∧x<gQ
def prN:List Nat→Nat
 |[]=>1
 |x::l=>x*prN l%gQ
def fac(S:List Nat)(x:Nat):Nat:=prN (S.erase x)*prN ((S.erase x).map fun y=>(y+(gQ-x))%gQ)^(gQ-2)%gQ
theorem jFk:fac S x<gQ:=dG _ O2
theorem qVr{f:Int→Int}{g:Nat→Nat}:∀{l:List Nat},(∀y∈l,Cg (gQ:Int) (g y:Int) (f (y:Int)))→Cg (gQ:Int) (prN (l.map g):Int) (pr f (toI l))
 |[],_=>.refl
 |x::l,h=>by
  refine(qTm _).trans ?_;exact(h x dO).mul (qVr fun y hy=>h y (dX _ hy))
theorem qKd(h:(a:Int)=(b:Int)):a=b:=O1
theorem qDa(x:Nat):∀l:List Nat,(toI l).erase (x:Int)=toI (l.erase x)
 |[]=>rfl
 |y::l=>by
  by_cases h:y=x
  ·subst h;show((y:Int)::toI l).erase y=_
   simp
  have h2:¬(_=_):=fun e=>h (qKd e)
  show((y:Int)::toI l).erase x=_
  rw[oD (by grind),oD (by grind),qDa];rfl
theorem jAb{l:List Nat}(h:l.Nodup):(toI l).Nodup:=by
 unfold toI List.Nodup;grind
theorem jV1{d:Int}(h:¬(gQ:Int)∣d):∃z:Nat,Cg (gQ:Int) d z∧Cg (gQ:Int) (((z^(gQ-2):Nat):Int)*d) 1:=by
 have h0:0<gQ:=O2;obtain⟨z,hz⟩:∃z:Nat,d%(gQ:Int)=z:=⟨(d%(gQ:Int)).toNat,by have:=gK d (show(gQ:Int)≠0 by omega);omega⟩;have hc:Cg gQ d z:=by rw[←hz];exact Cg.mod.symm
 refine⟨z,hc,(Cg.refl.mul hc).trans ?_⟩;have ln:¬gQ∣z:=by
  intro hd;refine h ?_;have h1:(gQ:Int)∣(z:Int):=Int.ofNat_dvd.2 hd;obtain⟨k,hk⟩:=hc;obtain⟨q,hq⟩:=h1;exact⟨k+q,by grind⟩
 have hf:=qRb prQ' (a:=z) ln;exact mDo
theorem qX7(h:Pts S):∀x∈toI S,∀y∈toI S,x≠y→Un (gQ:Int) (y-x):=by
 intro x hx y hy ft;obtain⟨a,ha,rfl⟩:=bD.1 hx;obtain⟨b,hb,rfl⟩:=bD.1 hy;have h1:=h.bd a ha;have h2:=h.bd b hb;have ln:¬(gQ:Int)∣b-a:=by
  rintro⟨k,hk⟩;have uq:k=0:=by
   have hq:(gQ:Int)=1152921504606845789:=O;rw[hq] at hk;have:(gQ:Nat)=1152921504606845789:=O;omega
  rw[uq,Int.mul_zero] at hk;exact ft O1
 obtain⟨z,_,h3⟩:=jV1 ln;exact⟨_,h3⟩
theorem qNc(h:Pts S)(hx:x∈S):Un (gQ:Int) (pr (fun y=>y-(x:Int)) (toI (S.erase x))):=by
 refine jCc fun y hy=>?_
 have hX:_∈toI S:=bD.2 ⟨x,hx,O⟩;obtain⟨b,hb,rfl⟩:=bD.1 hy;have jn:_∈toI S:=bD.2 ⟨b,List.mem_of_mem_erase hb,O⟩;refine qX7 h _ hX _ jn ?_;intro e;have e:=qKd e;subst e;exact sA9 h.nd hb
theorem jNs{y:Nat}(hx:x<gQ):Cg (gQ:Int) (((y+(gQ-x))%gQ:Nat):Int) ((y:Int)-(x:Int)):=by
 refine(qTm _).trans ⟨1,?_⟩;omega
theorem jFl(h:Pts S)(hx:x∈S):IsF (gQ:Int) (toI S) (x:Int) (fac S x:Int):=by
 have li:=(h.bd x hx).2;have hA:=by
  have:=qVr (f:=fun y=>y) (g:=fun y=>y) (l:=S.erase x) (fun y _=>.refl);rwa[List.map_id'] at this
 have hB:Cg _ _ (pr (fun y=>y-_) (toI (S.erase x))):=qVr fun y _=>jNs li
 have hU:=qNc h hx;unfold IsF;rw[qDa];unfold fac;generalize prN _=A at*
 generalize prN _=B at*
 have ln:¬gQ∣B:=by
  intro hd;obtain⟨u,hu⟩:=hU;have h1:Cg (gQ:Int) (u*(B:Int)) 1:=(Cg.refl.mul hB).trans hu;obtain⟨q,hq⟩:=hd;obtain⟨k,hk⟩:=h1;have e:u*((B:Nat):Int)=(gQ:Int)*(u*(q:Int)):=by rw[hq,bU];ac_rfl
  rw[e] at hk;have h2:(gQ:Int)*(u*(q:Int)-k)=1:=by rw[sA2];omega
  have h3:(gQ:Int)∣1:=⟨_,h2.symm⟩;have:=Int.le_of_dvd O2 h3;exact absurd this O2
 have hf:=qRb prQ' ln;have h1:Cg gQ ((B^(gQ-2):Nat)*B) 1:=by
  exact mDo
 refine((qTm _).mul hB.symm).trans (Cg.trans ?_ hA);have:=(Cg.refl (a:=A)).mul h1;grind
theorem qU3(h:Pts S){z:Nat}(hx:x∈S)(hz:z<gQ)(h2:IsF (gQ:Int) (toI S) (x:Int) (z:Int)):z=fac S x:=by
 have h1:=jFl h hx;unfold IsF at h1 h2;have hU:=qNc h hx;rw[qDa] at h1 h2;have h3:=jE7 (hU.cancel (h2.trans h1.symm));rwa[aN hz,aN jFk] at h3
def jBj(l:List (Nat×Nat))(acc:Nat):Nat:=l.foldl (fun a p=>(a+p.1*p.2%gQ)%gQ) acc
theorem qZk:∀(l:List (Nat×Nat)) {acc:Nat},acc<gQ→jBj l acc<gQ
 |[],_,h=>h
 |p::l,_,_=>qZk l (dG _ O2)
theorem qZl:∀(l:List (Nat×Nat)) (acc:Nat),jBj l acc%gQ=(acc+(l.map fun p=>p.1*p.2).sum)%gQ
 |[],acc=>by simp[jBj]
 |p::l,acc=>by
  show jBj l ((acc+p.1*p.2%gQ)%gQ)%gQ=_
  rw[qZl,dY,rU,Nat.mod_add_mod,Nat.add_right_comm,Nat.add_mod_mod];grind
def cmb(S ns:List Nat):Nat:=jBj (ns.zip (S.map (fac S))) 0
def lfu(S ns:List Nat):Nat:=ltF (ns.zip (S.map (fac S))) 1
theorem jEw:∀(l:List (Nat×Nat)) {acc:Nat},acc<gP→ltF l acc<gP
 |[],_,h=>h
 |p::l,_,_=>jEw l (dG _ O2)
theorem jPb:lfu S ns<gP:=jEw _ O2
theorem jKh(S ns:List Nat):lfu S ns%gP=lfu S ns:=aN jPb
theorem jTh:cmb S ns<gQ:=qZk _ O2
theorem qL1(S ns:List Nat):cmb S ns=(((ns.zip (S.map (fac S))).map fun p=>p.1*p.2).sum)%gQ:=by
 have h:=qZl (ns.zip (S.map (fac S))) 0;rw[fH] at h;rw[←h];exact(aN jTh).symm
theorem jKg(hb:Mb b)(S ns:List Nat):lfu S (pws b ns)=b^cmb S ns%gP:=by
 have h:=qYg (b:=b) (ns.zip (S.map (fac S))) 0;rw[nK,fH,show 1%gP=1 from by decide] at h;have e:((ns.zip (S.map (fac S))).map fun p=>(b^p.1%gP,p.2))=(pws b ns).zip (S.map (fac S)):=by
  unfold pws;rw[List.zip_map_left];rfl
 rw[e] at h;have h2:lfu S _%gP=_:=h;rw[jKh] at h2;rw[h2];refine qRd hb ?_;rw[qL1,pJ]
theorem jO0(S:List Nat)(f g:Nat→Nat):((((S.map f).zip (S.map g)).map fun p=>p.1*p.2).sum:Nat)=(S.map fun x=>f x*g x).sum:=by
 rw[List.zip_map',iP];rfl
theorem jCl{f:Nat→Nat}{F:Int→Int}:∀{S:List Nat},(∀x∈S,Cg (gQ:Int) (f x:Int) (F (x:Int)))→Cg (gQ:Int) ((S.map f).sum:Int) (sm F (toI S))
 |[],_=>.refl
 |x::S,h=>by
  exact(h x dO).add (jCl fun y hy=>h y (dX _ hy))
def jWw(S:List Nat)(z:Int):Int:=(fac S z.toNat:Int)
theorem jF6(h:Pts S)(h0:S≠[])(hl:c.length≤S.length):cmb S (S.map (vl c))=vl c 0:=by
 rw[qL1,jO0];have h1:Cg _ ((S.map fun x=>_*fac S x).sum) (sm (fun z=>jWw S z*_) _):=jCl fun x _=>by
  rw[bU,pW];exact Cg.refl.mul (qX5 c x)
 obtain⟨n,hn⟩:∃n,S.length=n+1:=⟨S.length-1,by have:=nA.2 h0;omega⟩
 have h2:=jWn n _ (jWw S) (by unfold toI;grind) (jAb h.nd) (qX7 h) (fun z hz=>by
  obtain⟨x,hx,rfl⟩:=bD.1 hz
  exact jFl h hx) (toI c) (by unfold toI;grind)
 have h3:=qX5 c 0;have h4:=jE7 ((h1.trans h2).trans h3.symm);rwa[aN (jM4)] at h4
def nxt(S:List Nat)(ps:List (List Nat))(j:Nat):Nat:=cmb S (ps.map fun p=>p.getD j 0)
end Go.Sp
namespace Go.Proofs.YtplkndjlfkkjlaaGreatDoor
open List (range range' replicate)
open Tryz
section
open Go.Eng Go.Dig Go.Sha Go.Grp Go.Sp
variable{α β:Type}{l:List α}{f:α→β}{d:β}{i:Nat}
def eN(x:Nat):List Value:=[Iv (x:Int)]
def fz(f:α→β)(d:β)(l:List α)(i:Nat):List β:=(l.take i).map f++replicate (l.length-i) d
theorem jKv:fz f d l 0=replicate l.length d:=by simp[fz]
theorem jQ0:fz f d l l.length=l.map f:=by simp[fz]
theorem jFg(h:i≤l.length):(fz f d l i).length=l.length:=by
 simp[fz,aY,aM,bV,lG];omega
theorem jPz(h:i<l.length):(fz f d l i).set i (f l[i])=fz f d l (i+1):=by
 unfold fz;have e:((l.take i).map f).length=i:=by rw[aM,bV];omega
 rw[rF _ _ O1,e,lW,show l.length-i=(l.length-(i+1))+1 by omega,sZ,sAo,aG h,dR,bQ];rfl
theorem jIz{s:Option Addr}{c:Nat}{l':List β}(h:SVL s c l)(e:l'.length=l.length):SVL s c l':=by
 unfold SVL at*
 grind
def jnN(ns:List Nat):ByteArray:=⟨(Lib.join ((ns.map uY).map (·.data.toList)) [47]).toArray⟩
def slT(wd:ByteArray)(ns:List Nat):ByteArray:=(wd++(⟨#[47]⟩:ByteArray))++jnN ns
theorem qOv:∀ns:List Nat,(∀x∈ns,x≤9223372036854775807)→Lib.lens ((ns.map uY).map (·.data.toList))≤19*ns.length
 |[],_=>bM _
 |x::ns,h=>by
  have h1:=qOv ns fun y hy=>h y (dX _ hy)
  have h2:(uY x).data.toList.length≤19:=qN1 (h x dO);unfold Lib.lens at*
  grind
theorem qOz(ns:List Nat)(h:∀x∈ns,x≤9223372036854775807):(Lib.join ((ns.map uY).map (·.data.toList)) [47]).length≤20*ns.length:=by
 cases ns with
 |nil=>exact bM _
 |cons x ns=>
  have h1:=qOv _ h;rw[dY,dY,Lib.join_length,aM,aM];grind
theorem qS4(a b:ByteArray):(a++b).size=a.size+b.size:=O4
theorem jF4(ns:List Nat)(h:∀x∈ns,x≤9223372036854775807):(jnN ns).size≤20*ns.length:=qOz ns h
def pfK(x g h:Nat):Nat:=scP (bl (slT ⟨#[110,111,110,99,101]⟩ [x,g,h]))
def pfC(x g h:Nat):Nat:=scP (bl (slT ⟨#[101,113,117,97,108]⟩ [g,g^x%gP,h,h^x%gP,g^pfK x g h%gP,h^pfK x g h%gP]))
def pfZ(x g h:Nat):Nat:=(pfK x g h+pfC x g h*x%gQ)%gQ
def pfV(x g h:Nat):List Value:=[Iv (pfC x g h:Int),Iv (pfZ x g h:Int)]
attribute [local irreducible] PV StepF wpl wpd WP Ret
attribute [local irreducible] Fit ofN uY hv scP Lib.join pfK pfC pfZ
theorem p70(wd:ByteArray)(ns:List Nat)(s:Option Addr)(c:Nat)(w:World)(hT:Tabs w)(hs:SlAt w 1 eN s ns)(oc:wd.size≤100)(hn:ns.length≤100)(hb:∀x∈ns,x≤9223372036854775807):
  Rt 153 [.string wd,.slice s ns.length c] w (fun v w'=>v=Iv (scP (bl (slT wd ns)):Int)∧Keeps [] w w'):=by
 refine tW func153 ntmps153 fun hp=>?_;refine qA ?_;refine tF (yE eS ⟨#[]⟩ hp O O O O O O O O1 O) fun w1 b⟨hv,hp⟩=>?_;refine qA ?_;have hv:∀i,i≤ns.length→SVL (Ad b) ns.length (fz uY ⟨#[]⟩ ns i):=fun i hi=>jIz hv (by rw[jFg hi,lG])
 refine qQ ([6,7]++range' 13 11) (fun(i:Nat) F=>F.put 13 (Iv (i:Int)))
  (fun i w'=>i≤ns.length∧Hp w [] w' [qG eS 9 1 (Ad b) ns.length (fz uY ⟨#[]⟩ ns i)]) (fun i=>ns.length-i) 0 (qB (Same.eq .refl) O) ⟨bN _,by rw[jKv];exact hp⟩ ?_
 clear hp;rintro u0 i w2 ⟨hi,hp⟩;refine tI (fun h=>?_) fun h=>?_
 ·have hl:i<ns.length:=O1;have od:i<(fz uY ⟨#[]⟩ ns i).length:=by rw[jFg hi];exact hl
  obtain⟨b0,o0,hs0,yq⟩:=hs.base O1;have yp:=yq i _ (aA hl) 0 _ O;have jh:=hb _ (bX hl);have hg:=jPz (f:=uY) (d:=⟨#[]⟩) hl;generalize ns[i]=x at yp jh hg;refine tD (p60 (x:Int) _ (hT.j5 hp.C) O1 O1) fun w3 hp=>?_;rw[←jL7];refine qA ?_;refine tO (zL eS _ i (uY x) hp 0 O (hv i hi) od O O (fun _=>O) O O (qD O)) fun w4 hp=>?_;rw[hg] at hp;refine gA7 ?_;exact mAd
 obtain rfl:i=ns.length:=O1;have hv:=hv _ (bM _);rw[jQ0] at hp hv;have hj:=qOz ns hb;have oe:=jF4 ns hb;have oa:=qZ hp 0 O hv (fun _=>O);refine qA ?_;refine tR (qCq O O (by show _+1≤_;omega)) ?_;refine qA ?_
 (apply wls;exact qC O jSb O (by
  have:=zCq (ns.map uY) ⟨#[47]⟩ b 0 ns.length w2 oa (hp.lt (i:=0) O O) (by rw[aM];omega) (by rw[aM];exact bM _) (bL hj O1);rw[aM] at this
  exact this))
 rintro _ w5 ⟨rfl,hk⟩;have hp:=hp.call hk;have h2:=qS4 wd (⟨#[47]⟩:ByteArray);have h3:(⟨#[47]⟩:ByteArray).size=1:=O;have h4:=qS4 (wd++(⟨#[47]⟩:ByteArray)) (jnN ns);refine wlp (qCq O O (by show _+(jnN ns).size≤_;omega)) (aQ Value.string (show _=slT wd ns from O)) ?_;refine tC (zCr (slT wd ns) _ (hT.j5 hp.C) (by unfold slT;omega)) fun w6 hp=>?_;exact mA0
end
open Go.Eng Go.Dig Go.Sha Go.Grp Go.Sp
theorem qW9:gP=2305843009213691579:=O
theorem qHi:gQ=1152921504606845789:=O
theorem qJz(b e:Nat):b^e%gP<2305843009213691579:=dG _ O2
theorem qH2{a:Nat}(h:Mb a):a<2305843009213691579:=h.2.1
theorem jMn(x g h:Nat):pfK x g h<1152921504606845789∧pfC x g h<1152921504606845789∧pfZ x g h<1152921504606845789:=by
 exact⟨jD6 _,jD6 _,dG _ O2⟩
attribute [local irreducible] PV StepF wpl wpd WP Ret
attribute [local irreducible] Fit ofN uY hv scP Lib.join pfK pfC pfZ Mb
theorem p71(x k g xb kb:Nat)(w:World)(hx:x<1152921504606845789)(hk:k<1152921504606845789)(hg:g<2305843009213691579)(h1:w.cell? ⟨xb,0,none⟩=some (Iv (x:Int)))(h2:w.cell? ⟨kb,0,none⟩=some (Iv (k:Int))):
  Rk 154 [Iv (g:Int),.pointer (Ad xb),.pointer (Ad kb)] w (.tuple #[Iv ((g^x%gP:Nat):Int),Iv ((g^k%gP:Nat):Int)]):=by
 refine tW func154 ntmps154 fun hp=>?_;refine tY fun hp=>?_;refine tH (qM1 g x 2305843009213691579 _ O1 O1 O2 O2) fun w1 hp=>?_;refine tH (qM1 g k 2305843009213691579 _ O1 O1 O2 O2) fun w2 hp=>?_;refine qX (qU ?_);refine qR ?_;exact mDl
theorem p26(x g h:Nat)(w:World)(hT:Tabs w)(hx:x<1152921504606845789)(hg:Mb g)(hh:Mb h):
  Rk 90 [Iv (x:Int),Iv (g:Int),Iv (h:Int)] w (.agg (pfV x g h).toArray):=by
 have oj:=qH2 hg;have ol:=qH2 hh;obtain⟨hU,hP,x2⟩:=jMn x g h;have hz:pfZ x g h=(pfK x g h+pfC x g h*x%gQ)%gQ:=by unfold pfZ;rfl
 have oi:pfK x g h=scP (bl (slT ⟨#[110,111,110,99,101]⟩ [x,g,h])):=by unfold pfK;rfl
 have gz:pfC x g h=scP (bl (slT ⟨#[101,113,117,97,108]⟩ [g,g^x%gP,h,h^x%gP,g^pfK x g h%gP,h^pfK x g h%gP])):=by unfold pfC;rfl
 refine tW func90 ntmps90 fun hp=>?_;refine vK fun w b hp=>?_
 refine tC (p69 g _ hg) fun w1 hp=>?_;refine jM ?_;refine gAe ?_;refine tC (p69 h _ hh) fun w2 hp=>?_;refine qAd (tR (yT O O) ?_);refine qR ?_;refine tJ ?_;refine tC (p49 x 0 1152921504606845789 _ O1 O1 O2 O2 O2 O2) fun w3 hp=>?_;have e1:((x:Int)+0)%(1152921504606845789:Nat)=x:=O1;rw[e1];refine vK fun w b hp=>?_
 refine tF (jC (cs:=[x,g,h].flatMap eN) hp O O O O O O O) fun w6 nb hp=>?_;have oa:SlAt w6 1 eN _ _:=qAa _ hp 0 O (fun _=>O)
 (apply wls;exact qC O qWn O (p70 _ _ _ 3 _ (hT.j5 hp.C) oa O2 O4 (by
  intro y hy;rcases bE.1 hy with rfl|hy
  ·omega
  grind));rintro _ w7 ⟨rfl,hk⟩;have hp:=hp.call hk)
 rw[←oi];have hp:=hp.H;refine vK fun w b hp=>?_
 refine tC (p71 x _ g _ _ _ hx hU oj (hp.cell 1 O O) (hp.cell 0 O O)) fun w8 hp=>?_;refine tD (p71 x _ h _ _ _ hx hU ol (hp.cell 1 O O) (hp.cell 0 O O)) fun w9 hp=>?_;refine qA ?_;have b1:=qJz g x;have b2:=qJz h x;have b3:=qJz g (pfK x g h);have b4:=qJz h (pfK x g h);refine tF (jC (cs:=[g,_,h,_,_,_].flatMap eN) hp O O O O O O O) fun ur nb hp=>?_;have oa:SlAt _ 1 eN _ _:=qAa _ hp 0 O (fun _=>O)
 (apply wls;exact qC O qWn O (p70 ⟨#[101,113,117,97,108]⟩ [g,g^x%gP,h,h^x%gP,g^pfK x g h%gP,h^pfK x g h%gP] (Ad nb) 6 _ (hT.j5 hp.C) oa O2 O4 (by
  intro y hy;simp[bE,List.not_mem_nil,sAt] at hy
  omega));rintro _ gg ⟨rfl,hk⟩;have hp:=hp.call hk)
 rw[←gz];have hp:=hp.H;refine qA ?_;refine jU jG O3 (fun w'=>Hp _ _ w' _) hp.N ?_;have hp:=hp.N;refine tH (p52 (pfC x g h) x 1152921504606845789 _ O1 O1 O1 O1 O2 O2) fun gh hp=>?_;have e3:(pfC x g h:Nat)*(x:Int)%(1152921504606845789:Nat)=(pfC x g h*x%gQ:Nat):=by rw[iI,bU,qHi]
 refine tG (p49 (pfK x g h) (pfC x g h*x%gQ:Nat) 1152921504606845789 _ O1 O1 O1 O1 O2 O2) fun gm hp=>?_;have e5:((pfK x g h:Nat)+(pfC x g h*x%gQ:Nat))%(1152921504606845789:Nat)=(pfZ x g h:Int):=by
  rw[hz,←mN];exact(iI _ _).symm
 rw[e5];refine qX ?_;refine tS fun gj hp=>qU ?_;refine qA ?_;exact zJ O O O O (hp.j4 2 O O) ⟨_,O,O,hp.C⟩
theorem jWg(b a c z pb:Nat)(w:World)(hb:b<2305843009213691579)(ha:a<2305843009213691579)(hc:c<1152921504606845789)(hz:z<1152921504606845789)(h1:w.cell? ⟨pb,0,none⟩=some (Iv (c:Int)))(h2:w.cell? ⟨pb,1,none⟩=some (Iv (z:Int))):
  Rt 197 [Iv (b:Int),Iv (a:Int),.pointer (Ad pb)] w (fun v w'=>v= .int .i64 (((b^z%gP)*(a^(gQ-c)%gP)%gP:Nat):Int)∧Keeps [] w w'):=by
 rw[qW9,qHi];refine tW func197 ntmps197 fun hp=>?_;refine tY fun hp=>?_;refine tH (qM1 b z 2305843009213691579 _ O1 O1 O2 O2) fun w1 hp=>?_;refine qX ?_;refine tN (1152921504606845789-c) ?_;refine tG (qM1 a (1152921504606845789-c) 2305843009213691579 _ O1 O1 O2 O2) fun w2 hp=>?_;apply wds;exact O;exact qC O qH5 O (p52 _ _ 2305843009213691579 _ O1 O1 O1 O1 O2 O2);rintro _ w3 ⟨rfl,hk⟩;have hp:=hp.call hk;refine⟨hp,qX (qU ?_)⟩;refine qR ?_;refine qM O O ⟨_,O,aQ (Value.int _) ?_,hp.C⟩;omega
theorem p72(x g h:Nat)(w:World)(hT:Tabs w)(hx:x<1152921504606845789)(hg:Mb g)(hh:Mb h):
  Rk 148 [Iv (g:Int),Iv ((g^x%gP:Nat):Int),Iv (h:Int),Iv ((h^x%gP:Nat):Int),.agg (pfV x g h).toArray] w (.bool true):=by
 have oj:=qH2 hg;have ol:=qH2 hh;have ha:=qMd hg x;have hb:=qMd hh x;have oq:=qH2 ha;have oo:=qH2 hb;obtain⟨hU,hP,x2⟩:=jMn x g h;have hz:pfZ x g h=(pfK x g h+pfC x g h*x%gQ)%gQ:=by unfold pfZ;rfl
 have gz:pfC x g h=scP (bl (slT ⟨#[101,113,117,97,108]⟩ [g,g^x%gP,h,h^x%gP,g^pfK x g h%gP,h^pfK x g h%gP])):=by unfold pfC;rfl
 have s1:=qXl (x:=x) (k:=pfK x g h) (c:=pfC x g h) hg (by rw[qHi];omega);have s2:=qXl (x:=x) (k:=pfK x g h) (c:=pfC x g h) hh (by rw[qHi];omega);rw[←hz] at s1 s2;have b3:=qJz g (pfK x g h);have b4:=qJz h (pfK x g h);have hV:pfV x g h=[Iv (pfC x g h),Iv (pfZ x g h)]:=by unfold pfV;rfl
 rw[hV];generalize e1:g^x%gP=a at*
 generalize e2:h^x%gP=a2 at*
 generalize g^pfK x g h%gP=r at*
 generalize h^pfK x g h%gP=s at*
 generalize pfC x g h=c at*
 generalize pfZ x g h=z at*
 clear hz hV;refine tW func148 ntmps148 fun hp=>?_;refine vK fun w b hp=>?_
 refine tK (p69 g _ hg) ?_;rintro _ w1 ⟨rfl,hk⟩;have hp:=hp.call hk;refine jM ?_;refine gAe ?_;refine tK (p69 a _ ha) ?_;rintro _ w2 ⟨rfl,hk⟩;have hp:=hp.call hk;refine qAd (tR (yT O O) ?_);refine gAe ?_;refine tK (p69 h _ hh) ?_;rintro _ w3 ⟨rfl,hk⟩;have hp:=hp.call hk;refine qAd (tR (yT O O) ?_);refine gAe ?_;refine tK (p69 a2 _ hb) ?_;rintro _ w4 ⟨rfl,hk⟩;have hp:=hp.call hk;refine qAd (tR (yT O O) ?_);refine qR (qN O ?_);refine gA4 ?_;refine wlp (zQ O O) (qV (aB O1)) (jM ?_);refine qAd ?_;refine qAd ?_;apply vX;exact O;exact O;exact xJ O O;exact qV (aB O1);refine tR (yT O O) ?_;refine gAe ?_;refine qAd ?_;apply vX;exact O;exact O;exact zQ O O;exact qV (aB O1);refine tR (yT O O) ?_;refine gAe ?_;refine qAd ?_;apply vX;exact O;exact O;exact xJ O O;exact qV (aB O1);refine tR (yT O O) (qR ?_);refine tJ ?_;refine tX fun hp=>?_;refine qX ?_;refine tK (jWg g a c z _ _ oj oq hP x2 (hp.cell 0 O O) (hp.cell 0 O O)) ?_;rintro _ w5 ⟨rfl,hk⟩;have hp:=hp.call hk;refine⟨hp,?_⟩;rw[s1];refine qX ?_;refine tK (jWg h a2 c z _ _ ol oo hP x2 (hp.cell 0 O O) (hp.cell 0 O O)) ?_;rintro _ w6 ⟨rfl,hk⟩;have hp:=hp.call hk;refine⟨hp,?_⟩;rw[s2];apply wds;exact O;exact jC (cs:=[g,a,h,a2,r,s].flatMap eN) hp O O O O O O O;rintro _ w7 ⟨nb,rfl,lj⟩;refine⟨lj.H,?_⟩;have oa:SlAt w7 1 eN _ _:=qAa _ lj 0 O (fun _=>O)
 (apply wds;exact O;exact qC O qWn O (p70 _ _ _ 6 _ (hT.j5 lj.C) oa O2 O4 (by
  grind));rintro _ w8 ⟨rfl,hk⟩;have hp:=(lj.call hk).tail;refine⟨hp,?_⟩)
 rw[←gz];refine wdp O (fun w hp=>zW O O) (qV (aD O)) (qX ?_);refine qU (tV ?_);exact mB0
end Go.Proofs.YtplkndjlfkkjlaaGreatDoor
namespace Go.Eng
open List (range range' replicate)
section
variable{w:World}{b:Nat}{φ:Obj→Prop}{α:Type}{W:World}{P:Program}{n:FrK}{QA:Exit→Act→World→Prop}{F:Fr}{w0:World}{L:List Ent}{i:Nat}
def It2(P:Program)(g:FuncId)(lb:List Value)(enc ow:α→Value)(xs:List α)(M:List Nat)(w:World):Prop:=
 ∀(l:Nat) (J:List α→World→Prop),l<w.heap.size→(∀(a:Addr) (v:Value),w.cell? a=some v→a.block≠l)→
  (∀pre x W1,J pre W1→(∃ou,xs=pre++x::ou)→YieldAt Fence.wide 0 P l #[enc x,ow x] W1 fun e W'=>e= .returned (.bool true)∧J (pre++[x]) W'∧Keeps (l::M) W1 W')→
  (∀pre W W',J pre W→Priv w.heap.size W W'→J pre W')→J [] w→
  Ret P g (.func (.yield l) #[] #[]::lb) w (fun _ W'=>J xs W')
section
variable {P:Program}{n:FrK}{Q:Exit→Fr→World→Prop}{QA:Exit→Act→World→Prop}{F:Fr}{w:World}
theorem jUo(t:Array Value)(p q:Nat)(v u:Value):((#[p,q]:Array Nat).zip #[v,u]).foldl (fun tmps (t,a)=>tmps.setIfInBounds t a) t=(t.setIfInBounds p v).setIfInBounds q u:=by
 simp
theorem qNk{id p q sz:Nat}{ds:List Deferred}{assign body:Code}{oS:Operand}{gf:FuncId}{lb:List Value}
  (hg:ev ⟨sz,ds,none⟩ F oS= .func (.func gf) #[] lb.toArray) (eg:qI P gf)
  (enc ow:α→Value) (xs:List α) (M:List Nat) (hM:∀k∈M,k<w.heap.size)
  (I:List α→World→Prop) (hI:∀pre W W',I pre W→Priv w.heap.size W W'→I pre W') (h0:I [] w)
  (ph:∀W1,Keeps [] w W1→W1.heap.size=w.heap.size+2→It2 P gf lb enc ow xs M W1) (F1:α→Fr)
  (pf:∀(l:Nat) (x:α) (W:World),WP P ⟨sz,[],some l⟩ assign (fun e F' W'=>e= .normal∧F'=F1 x∧W'=W) ((F.put p (enc x)).put q (ow x)) W)
  (pj:∀(l:Nat) (pre:List α) (x:α) (W:World),(∃ou,xs=pre++x::ou)→I pre W→WP P ⟨sz,[],some l⟩ body (fun e _ W'=>e= .normal∧I (pre++[x]) W'∧Keeps M W W') (F1 x) W)
  (pa:∀(D:Nat) (W:World),w.heap.size≤D→I xs W→W.heap[D]? =some (.deferred (some []))→QA .normal (act ⟨sz,{target:=.collected D,args:=#[]}::ds,none⟩ F) W):
  WPA P ⟨sz,ds,none⟩ (.block id (.rangeFunc oS #[p,q] assign body)) QA F w:=by
 unfold WPA;rw[FrK.k8 O];refine sAi (wpIn_rangeFunc ?_);intro fn oC;obtain⟨rec,oz⟩:∃rec:LoopState→Option _→Loop,rec=fun st pe=>{state:=st,pending:=pe,fn,tmps:=(act ⟨sz,ds,none⟩ F).tmps,params:=#[p,q],assign,body,defers:=w.heap.size}:=⟨_,O⟩
 obtain⟨W1,o1⟩:∃W1,(w.alloc (.deferred (some []))).alloc (.loop (rec .ready none))=W1:=⟨_,O⟩;have oP:W1.heap[w.heap.size+1]? =some (.loop (rec .ready none)):=by
  exact mAn
 have pc:W1.heap[w.heap.size]? =some (.deferred (some [])):=by
  exact mBa
 have o0:Keeps [] w W1:=by
  exact mCh
 have hj:W1.heap.size=w.heap.size+2:=by rw[←o1];simp
 have pd:Priv _ w W1:=⟨o0.os,o0.tape,o0.output,o0.size,fun k hk=>o0.block k hk O4⟩
 refine⟨w.heap.size+1,[{target:=.collected w.heap.size,args:=#[]}],W1,{target:=.fn (.func gf) lb.toArray,args:=#[.func (.yield (w.heap.size+1)) #[] #[]]},W1,gf,
  #[.func (.yield (w.heap.size+1)) #[] #[]]++lb.toArray,W1,?_,?_,fun _ _=>trivial,?_,fun h=>(by cases h),?_⟩
 ·exact mBq
 ·exact mC1
 ·exact mAx
 have hc:=ph W1 o0 hj (w.heap.size+1) (fun pre W=>I pre W∧W.heap[w.heap.size+1]? =some _∧W.heap[w.heap.size]? =some _) O1 (fun a v hc e=>by simp[World.cell?,e,oP] at hc) ?_ ?_ ⟨hI _ _ _ h0 pd,oP,pc⟩
 ·exact mA4
 ·rintro pre x W ⟨hi,hl,hk⟩ o5;have hh:=(aT.1 hl).1;have hy:=run_yield (P:=P) (args:=#[enc x,ow x]) hl (by grind);rw[oz] at hy;rw[←oz] at hy;have pg:((#[p,q]).zip #[enc x,ow x]).foldl (fun tmps (t,a)=>tmps.setIfInBounds t a) (act ⟨sz,ds,none⟩ F).tmps=(act ⟨sz,[],some (w.heap.size+1)⟩ ((F.put p (enc x)).put q (ow x))).tmps:=by
   exact mAq
  refine⟨fn,_,assign,body,by rw[oz] at hy;exact hy,?_⟩;rw[pg];refine roundIn_of_wpIn oC (lC (pf _ x W) ?_);rintro e a1 w1 ⟨F',rfl,rfl,rfl,rfl⟩;refine⟨_,run_beginRound hl (by rw[oz]),?_⟩;obtain⟨W2,o2⟩:∃W2,W2=w1.putObj (w.heap.size+1) (.loop {rec .ready none with state:=.busy}):=⟨_,O⟩;have oy:W2.heap[w.heap.size+1]? =some (.loop {rec .ready none with state:=.busy}):=by rw[o2];exact World.putObj_heap_same hh
  have uq:W2.heap[w.heap.size]? =some (.deferred (some [])):=by rw[o2];exact(World.putObj_heap_other O1).trans hk
  have oK:I pre W2:=by rw[o2];exact hI _ _ _ hi (Priv.put _ _ O1)
  have o3:Keeps [w.heap.size+1] w1 W2:=by rw[o2];exact yR _ _ _
  rw[←o2];refine lC (pj _ _ x W2 o5 oK) ?_;rintro e a3 W3 ⟨F3,rfl,rfl,oX,ox⟩;have zj:=(aT.1 oy).1;have o9:=(ox.block _ zj (fun hm=>by grind)).trans oy;have yv:=(ox.block _ O1 (fun hm=>by grind)).trans uq;have hr:=run_endRound (P:=P) none o9;refine⟨_,_,hr,O,⟨hI _ _ _ oX (Priv.put _ _ O1),?_,(World.putObj_heap_other O1).trans yv⟩,?_⟩
  ·exact mC2
  exact mAz
 exact mAy
end
theorem Keeps.v6{M:List Nat}{W':World}{B:Nat}(h:Keeps M W W')(hB:B≤W.heap.size)(hM:∀k∈M,B≤k):Priv B W W':=
 ⟨h.os,h.tape,h.output,h.size,fun k hk=>h.block k O1 (fun hm=>by grind)⟩
theorem qBr{c:Code}(S:List (Nat×Value))(hS:qAb F S)(h:∀F0:Fr,WPA P n c QA (F0.x5 S) w):WPA P n c QA F w:=by
 rw[qG3 hS];exact h F
theorem qFu{n':FrK}{y:Code}(hr:n'.ro=none)(hz:n.ro=none)(h:WPA P n y QA F w):(Exit.then (fun a w=>y.wpIn n'.n7 0 P QA a w) QA) .normal (act n F) w:=by
 rw[FrK.k8 hr];unfold WPA at h;rw[FrK.k8 hz] at h;exact h
theorem Hp.y1(h:∃o,W.heap[b]? =some o∧φ o):Hp W [b] W [(some b,φ)]:=by
 exact mBj
theorem Hp.p6(h:Hp w0 [] w L)(hi:L[i]? =some (some b,φ)):w0.heap.size≤b∧b<w.heap.size:=by
 refine⟨?_,h.lt hi O⟩;rcases h.own i _ hi b rfl with h|h
 ·exact h
 cases h
theorem Hp.ne(h:Hp w0 [] w L){j a:Nat}{ψ:Obj→Prop}(hi:L[i]? =some (some a,φ))(hj:L[j]? =some (some b,ψ))(nu:i≠j):a≠b:=by
 rintro rfl;exact h.dis i j _ _ hi hj nu a O O
end
section
section
variable {P:Program}{ops:Array Oper}{nd:Oper→Bool}{G:World→Prop}{K:Act→World→Prop}{Q:Exit→Act→World→Prop}
theorem qS6{n:FrK}{wG:World}(h8:G wG)(hy:qAv P ops nd=true)(hK:∀a w,K a w→Q .normal a w):∀(fuel:Nat) (listed:Array Bool) (a:Act) (w:World),listed.size=ops.size→(left ops listed).length≤fuel→
  (∀i,i<ops.size→listed.getD i true=true→∀j,((Region.before ops).getD i 0).testBit j=true→listed.getD j false=true)→
  (∀j∈left ops listed,zC (jA ops j).op=false→wl P (jA ops j).op=false→G w)→wpD P ops nd G K ((left ops listed).map (jA ops)) a w→wpAnyIn n.n7 0 P .any ops Q fuel listed a w:=by
 intro fuel;have done:∀(listed:Array _) (a:Act) (w:World),left ops listed=[]→wpD P ops nd G K ((left ops listed).map (jA ops)) a w→Q .normal a w:=by
  exact mDa
 have hZ:∀(listed:Array _) i,i∈Region.ready .any ops listed↔i<ops.size∧listed.getD i true=false∧∀e∈(jA ops i).after.toList,Region.binds .any e=true→listed.getD e.on false=true:=by
  intro listed i;simp only[Region.ready,fN,aO,aF,lA];constructor
  ·exact mAc
  rintro⟨h1,h2,h3⟩;refine⟨h1,h2,?_⟩;rw[aP h1];simp only[eC,iH];rw[cZ];intro e he;cases hb:Region.binds .any e
  ·rfl
  exact mBy
 induction fuel with
 |zero=>
  exact mB7
 |succ fuel ih=>
  intro listed a w ht hQ hP hG h;refine⟨fun xp=>?_,fun i hi=>?_⟩
  ·cases hl:left ops listed with
   |nil=>grind
   |cons i0 rest=>
    exfalso;have hm:i0∈left ops listed:=by rw[hl];simp
    obtain⟨h1,h2⟩:=zZ.1 hm;have:i0∈Region.ready .any ops listed:=by
     refine(hZ listed i0).2 ⟨h1,h2,fun e he hb=>?_⟩;have hq:=kJ hy h1 e he hb;have hs:=yN ops listed;rw[hl] at hs;by_cases hx:listed.getD e.on true=false
     ·have xe:_∈left ops _:=zZ.2 ⟨O1,hx⟩;rw[hl] at xe;rcases bE.1 xe with e1|e1
      ·omega
      exact mDz
     have hX:listed.getD e.on true=true:=by simpa using hx
     exact mBg
    grind
  obtain⟨h1,h2,h3⟩:=(hZ listed i).1 hi;have hm:i∈left ops listed:=zZ.2 ⟨h1,h2⟩;have xn:∀j,((Region.before ops).getD i 0).testBit j=true→listed.getD j false=true:=by
   intro j hb;obtain⟨e,he,hz,hV⟩:=vR h1 hb;have hl:=h3 e he hz;rcases hV with rfl|hV
   ·exact hl
   have hq:=kJ hy h1 e he hz;exact mB3
  have xb:=jW9 (P:=P) (G:=G) (K:=K) h8 i (left ops listed) a w h hm (yN _ _) (by
   intro j hj xd;rcases qK3 hy h1 xd with hb|hb
   ·obtain⟨xa,hS⟩:=zZ.1 hj;grind
   exact hb)
  have xg:(left ops (listed.setIfInBounds i true)).length≤fuel:=by
   rw[uV h1 ht];have:((left ops listed).filter (· !=i)).length<(left ops listed).length:=by
    rw[nY];exact⟨i,hm,O4⟩
   omega
  have xo:∀k,k<ops.size→(listed.setIfInBounds i true).getD k true=true→∀j,((Region.before ops).getD k 0).testBit j=true→(listed.setIfInBounds i true).getD j false=true:=by
   intro k hk hU j hb;have hT:∀(d:Bool) x,(listed.setIfInBounds i true).getD x d=if x=i then true else listed.getD x d:=by
    intro d x;simp only[aJ,fY];by_cases hx:x=i
    ·grind
    exact mDv
   rw[hT] at hU⊢;split
   ·rfl
   by_cases xf:k=i
   ·grind
   exact mDr
  have xc:∀a' w',(∀j∈left ops (listed.setIfInBounds i true),zC (jA ops j).op=false→wl P (jA ops j).op=false→G w')→wpD P ops nd G K (((left ops listed).filter (· !=i)).map (jA ops)) a' w'→wpAnyIn n.n7 0 P .any ops Q fuel (listed.setIfInBounds i true) a' w':=by
   intro a' w' hg hh;rw[←uV h1 ht] at hh;exact ih _ a' w' (by grind) xg xo hg hh
  have xh:∀j∈left ops (listed.setIfInBounds i true),j∈left ops listed∧j≠i:=by
   intro j hj;rw[uV h1 ht] at hj;simpa using hj
  have xj:=fun j hj=>hG j (xh j hj).1
  have hE:zC (jA ops i).op=true→∀w',(nd (jA ops i)=true→G w')→∀j∈left ops (listed.setIfInBounds i true),zC (jA ops j).op=false→wl P (jA ops j).op=false→G w':=by
   intro h4 w' hg j hj xl xk;obtain⟨xa,hS⟩:=zZ.1 (xh j hj).1;rcases qK4 hy h1 xa h4 xl xk with hn|hb
   ·grind
   exfalso;exact mB1
  have xi:ops[i]? =some (jA ops i):=by simp[jA,aP h1]
  unfold wpOpIn;simp[xi];by_cases h4:zC (jA ops i).op=true
  ·rw[if_pos h4] at xb;cases hw:Region.wanted _ _
   ·obtain⟨hg,hh⟩:=xb.2 hw;exact⟨fun _ _=>trivial,xc _ _ O1 hh⟩
   exact Step.wpIn (xb.1 hw) fun v w' ⟨hg,hh⟩=>xc _ _ (hE h4 _ hg) hh
  rw[if_neg h4] at xb;obtain⟨v,hv,hh⟩:=xb;rcases hv with⟨hw,hr⟩|⟨hw,rfl⟩
  ·simp only[hw,if_true];refine Step.wpIn (R:=fun u w'=>u=v∧w'=w) (.inl ⟨v,w,?_,O,O⟩) ?_
   ·cases hwl:wl P (jA ops i).op
    ·grind
    exact qPo hwl (hr wG h8)
   exact mDi
  simp only[hw,eE,iW];exact⟨fun _ _=>trivial,xc _ _ xj hh⟩
end
theorem kU{P:Program}{n:FrK}{Q:Exit→Fr→World→Prop}{F:Fr}{w:World}{id:Nat}{l:List Oper}(st:Bool)(hm:P.follows .mixedOrders=true)(hn:qAv P l.toArray (qEv st)=true)(G:World→Prop)(hG:G w.drew)
  (h:wpd P n l.toArray st G l Q F w.drew):WP P n (.region id l.toArray true) Q F w:=by
 refine wpIn_region_any hm (qS6 (K:=fun a w=>up n Q _ a w) hG hn (fun _ _ h=>h) _ _ _ _ O4 ?_ ?_ (fun _ _ _ _=>hG) ?_)
 ·unfold left;grind
 ·intro i hi hl;have xt:=by simpa using hi
  simp[xt] at hl
 have e1:left l.toArray (Array.replicate l.toArray.size false)=range l.toArray.size:=by
  unfold left;rw[lU];intro i hi;have:i<l.length:=by simpa using hi
  simp[aJ,this]
 have e2:(range l.toArray.size).map (jA l.toArray)=l:=by
  apply sBc
  ·simp
  intro i h1 h2;simp[jA,aJ,h2]
 rw[e1,e2];exact h
end
section
variable{L:List Ent}{w0:World}{M:List Nat}{X:Type}
section
variable {w0 w w':World}{M:List Nat}{A B B':List Ent}
def zG(L:List Ent):List Nat:=L.filterMap (·.1)
theorem xX{b:Nat}:b∈zG L↔∃p∈L,p.1=some b:=by
 unfold zG;simp
theorem Hp.l5(h:Hp w0 M w (A++B)):Hp w (zG B) w B:=by
 refine .aB2 .refl (fun p hp b hb=>.inr (xX.2 ⟨p,hp,hb⟩)) (fun p hp=>h.v7 (aU _ hp)) ?_;have:=h.x8;grind
theorem Hp.back(h:Hp w0 M w (A++B))(h':Hp w (zG B) w' B'):Hp w0 M w' (A++B'):=by
 have hd:=h.x8;rw[eY] at hd;have hl:∀p∈A++B,∀b,p.1=_→b<_:=fun p hp b hb=>by
  obtain⟨o,ho,_⟩:=h.v7 hp b hb;exact(aT.1 ho).1
 have pe:∀p∈A,∀b,p.1=_→b∉zG B:=fun p hp b hb hm=>by
  obtain⟨q,hq,ut⟩:=xX.1 hm;exact hd.2.2 p hp q hq b hb ut
 refine .aB2 (h.keeps.trans h'.keeps (fun k hk=>?_)) ?_ ?_ ?_
 ·obtain⟨q,hq,ut⟩:=xX.1 hk;exact h.q6 (aU _ hq) k ut
 ·intro p hp b hb;rcases fO.1 hp with hp|hp
  ·exact h.q6 (dB _ hp) b hb
  rcases h'.q6 hp b hb with h1|h1
  ·exact .inl (bL h.keeps.size h1)
  obtain⟨q,hq,ut⟩:=xX.1 h1;exact h.q6 (aU _ hq) b ut
 ·intro p hp b hb;rcases fO.1 hp with hp|hp
  ·obtain⟨o,ho,hpo⟩:=h.v7 (dB _ hp) b hb;refine⟨o,?_,hpo⟩;rw[h'.keeps.block b (hl p (dB _ hp) b hb) (pe p hp b hb)];exact ho
  exact h'.v7 hp b hb
 rw[eY];refine⟨hd.1,h'.x8,fun p hp q hq b hb ut=>?_⟩;rcases h'.q6 hq b ut with h1|h1
 ·have:=hl p (dB _ hp) b hb;omega
 grind
theorem Hp.swap{L':List Ent}(h:Hp w0 M w (L++L')):Hp w0 M w (L'++L):=h.perm eP
end
def jP7(D:Nat):Deferred:={target:=.collected D,args:=#[]}
def xR(D:Nat):Ent:=(some D,fun o=>o= .deferred (some []))
theorem Hp.aC5{W:World}{B D:Nat}(h:Hp w0 M W L)(h0:w0.heap.size≤D)(hL:∀p∈L,∀b,p.1=some b→b<B)(hB:B≤D)(hD:W.heap[D]? =some (.deferred (some []))):Hp w0 M W (xR D::L):=by
 refine .aB2 h.keeps ?_ ?_ ?_
 ·intro p hp b hb;rcases bE.1 hp with rfl|hp
  ·obtain rfl:D=b:=by simpa[xR] using hb
   omega
  exact h.q6 hp b hb
 ·intro p hp b hb;rcases bE.1 hp with rfl|hp
  ·obtain rfl:D=b:=by simpa[xR] using hb
   exact⟨_,hD,O⟩
  exact h.v7 hp b hb
 rw[bO];refine⟨fun p hp b hb pm=>?_,h.x8⟩;obtain rfl:D=b:=by simpa[xR] using hb
 grind
section
variable {P:Program}{n:FrK}{F:Fr}{w:World}
theorem qIe{fn:Func}{tmps:Array Value}{R:Ending→World→Prop}{w0:World}{M:List Nat}{v:Value}:∀(Ds:List Nat) (L:List Ent) (w:World),Hp w0 M w (Ds.map xR++L)→(∀w',Hp w0 M w' L→(results fn tmps).run P w'= .ok v w'∧R (.returned v) w')→
  LeavesInM Fence.wide 0 P fn tmps R (Ds.map jP7) .returning w
 |[],L,w,h,hr=>by
  obtain⟨h1,h2⟩:=hr w h;exact⟨v,h1,h2⟩
 |D::Ds,L,w,h,hr=>by
  have hD:w.heap[D]? =some (.deferred (some [])):=by
   obtain⟨o,ho,e⟩:=h.v7 (dB _ (bD.2 ⟨D,dO,O⟩)) D O;rw[ho];exact aQ some e
  refine⟨O4,.inl ⟨D,_,O,run_takeDeferred hD,?_⟩⟩;have hl:=(aT.1 hD).1;have h':Hp w0 M (w.putObj D (.deferred none)) ((some D,fun _=>True)::(Ds.map xR++L)):=by
   have:=h.o8 (i:=0) (p:=xR D) (q:=(some D,fun _=>True)) (w':=w.putObj D (.deferred none)) O (yR w D _) (fun b hb=>by
    obtain rfl:D=b:=by grind
    exact⟨.inl O,_,World.putObj_heap_same hl,trivial⟩)
   exact this
  exact qIe Ds L _ h'.tail hr
theorem qOe{fn:Func}{R:Ending→World→Prop}{t:Nat}{v:Value}(Ds:List Nat)(h:fn.results= #[.tmp t])(hv:ev n F (.tmp t)=v)(pn:n.ds=Ds.map jP7)(hp:Hp w0 M w (Ds.map xR++L))(hr:∀w',Hp w0 M w' L→R (.returned v) w'):
  bodyPostM Fence.wide 0 P fn R .ret (act n F) w:=by
 show LeavesInM _ 0 P fn _ R n.ds _ w
 rw[pn];refine qIe Ds L w hp fun w' hp'=>⟨?_,hr w' hp'⟩
 exact mE1
theorem jIa{sz:Nat}{ds:List Deferred}{c:Code}{QA:Exit→Act→World→Prop}(I:X→List Deferred→Fr→World→Prop)(μ:X→Nat)(x0:X)(h0:I x0 ds F w)
  (round:∀(x:X) (ds:List Deferred) (F:Fr) (w:World),I x ds F w→WPA P ⟨sz,ds,none⟩ c (Exit.then (fun a' w'=>∃x' pp F',a'=act ⟨sz,pp,none⟩ F'∧I x' pp F' w'∧μ x'<μ x) QA) F w):
  WPA P ⟨sz,ds,none⟩ (.loop c) QA F w:=by
 refine qYh (n:=⟨sz,ds,_⟩) (fun m a w=>∃x pp F',a=act ⟨sz,pp,_⟩ F'∧I x pp F' w∧μ x=m) _ ⟨x0,ds,F,O,h0,O⟩ ?_;rintro m a w ⟨x,pp,F',rfl,hi,rfl⟩;have:=round x _ F' w hi;refine lC this ?_;intro e a1 w1 he;cases e<;>first|exact he|skip
 obtain⟨x',pq,F'',e1,e2,e3⟩:=he;exact⟨_,e3,x',_,_,e1,e2,O⟩
end
theorem uD{P:Program}{n:FrK}{x:Code}{K:Fr→World→Prop}{Q:Exit→Fr→World→Prop}{F:Fr}{w:World}(S:List Nat)(H:X→Fr→Fr)(R:X→World→Prop)(h:WP P n x (qB5 (fun F' w'=>∃a,F'=H a (Fr.l7 S F' F)∧R a w') Q) F w)
  (h2:∀(u:Fr) (a:X) (w':World),R a w'→K (H a (Fr.l7 S u F)) w'):WP P n x (qB5 K Q) F w:=by
 refine qEk h ?_;intro e F' w' h;cases e with
 |normal=>
  obtain⟨a,h3,h4⟩:=h;have:=h2 F' a w' h4;rw[←h3] at this;exact this
 |_=>exact h
end
section
section
variable {P:Program}{n:FrK}{Q:Exit→Fr→World→Prop}{F:Fr}{w:World}{ops:Array Oper}{st:Bool}{G:World→Prop}
variable {op:Op}{ty:TypeId}{pos:String}{aft:Array Edge}{i:Nat}
theorem qDu{l:List Nat}{R:Value→World→Prop}(ho:jA ops i=⟨none,op,ty,pos,aft,none⟩)(hs:StepF P n ⟨none,op,ty,pos,aft,none⟩ F w R)(h:∀v w',R v w'→G w'∧wpe P n ops st G l Q F w'):wpb P n ops st G i l Q F w:=by
 unfold wpb;rw[ho];refine⟨fun _=>Step.mono hs fun v w' hr=>?_,fun hw=>?_⟩
 ·exact mB5
 exact mDq
end
theorem jZa{P:Program}{F:Fr}{w:World}{Q:Exit→Fr→World→Prop}{ops:Array Oper}{rest:List Oper}{d m l j e:Nat}{want:Bool}{x:Operand}{ty:TypeId}{pos:String}{aft:Array Edge}{args:Array Operand}{ts:Array TypeId}{vs:List Value}{R:Ending→World→Prop}
  (hj:yW ops j=some e) (hc:ev (FrK.of m) F (.tmp e)= .bool want)
  (hx:ev (FrK.of m) F x= .func (.yield l) #[] #[]) (n2:args.toList.map (ev (FrK.of m) F)=vs) (hy:YieldAt Fence.wide 0 P l vs.toArray w R)
  (h:∀e w',R e w'→∃v,e= .returned v∧wpl P (FrK.of m) ops rest Q (F.put d v) w'):
  wpl P (FrK.of m) ops (⟨some d,.call ⟨.value x,args,ts⟩,ty,pos,aft,some (j,want)⟩::rest) Q F w:=by
 obtain⟨fn,tmps,assign,body,pu,pw⟩:=hy;unfold wpl wpListIn;rw[vS O hj hc];simp[rP,if_true];refine⟨fun _ _=>trivial,?_⟩;have ha:args.map (ev (FrK.of m) F)=vs.toArray:=by
  rw[←n2];apply sBw;rw[rQ]
 have hex:(execOp (ev (FrK.of m) F) ⟨some d,.call ⟨.value x,args,ts⟩,ty,pos,aft,some (j,want)⟩).run P w= .ok (.round l fn tmps assign body) w:=by
  exact mBb
 rw[sA7 _ _ _ O4,zF,hex];refine⟨fun h=>(by cases h),RoundIn.mono pw ?_⟩;intro e w' hr;obtain⟨v,rfl,h2⟩:=h e w' hr;show wpListIn _ 0 P _ _ _ ((act _ F).put (some d) v) w'
 rw[zN];exact h2
end
section
section
variable {P:Program}{n:FrK}{Q:Exit→Fr→World→Prop}{QA:Exit→Act→World→Prop}{F:Fr}{w:World}
theorem qUu{α:Type}{id p q sz:Nat}{ds:List Deferred}{assign body:Code}{oS:Operand}{gf:FuncId}{lb:List Value}
  (hg:ev ⟨sz,ds,none⟩ F oS= .func (.func gf) #[] lb.toArray) (eg:qI P gf)
  (enc ow:α→Value) (xs:List α) (M:List Nat) (hM:∀k∈M,k<w.heap.size)
  (I:List α→World→Prop) (hI:∀pre W W',I pre W→Priv w.heap.size W W'→I pre W') (h0:I [] w)
  (ph:∀W1,Keeps [] w W1→W1.heap.size=w.heap.size+2→It2 P gf lb enc ow xs M W1) (A:Nat→List α→α→Fr→World→Prop)
  (pf:∀(l:Nat) (pre:List α) (x:α) (W:World),(∃ou,xs=pre++x::ou)→I pre W→w.heap.size≤l→l<W.heap.size→WP P ⟨sz,[],some l⟩ assign (fun e F' W'=>e= .normal∧A l pre x F' W'∧Keeps [] W W') ((F.put p (enc x)).put q (ow x)) W)
  (hA:∀(l:Nat) (pre:List α) (x:α) (F':Fr) (W W':World),w.heap.size≤l→A l pre x F' W→Keeps [l] W W'→A l pre x F' W')
  (pj:∀(l:Nat) (pre:List α) (x:α) (F':Fr) (W:World),(∃ou,xs=pre++x::ou)→A l pre x F' W→WP P ⟨sz,[],some l⟩ body (fun e _ W'=>e= .normal∧I (pre++[x]) W'∧Keeps M W W') F' W)
  (pa:∀(D:Nat) (W:World),w.heap.size≤D→I xs W→W.heap[D]? =some (.deferred (some []))→QA .normal (act ⟨sz,{target:=.collected D,args:=#[]}::ds,none⟩ F) W):
  WPA P ⟨sz,ds,none⟩ (.block id (.rangeFunc oS #[p,q] assign body)) QA F w:=by
 unfold WPA;rw[FrK.k8 O];refine sAi (wpIn_rangeFunc ?_);intro fn oC;obtain⟨rec,oz⟩:∃rec:LoopState→Option _→Loop,rec=fun st pe=>{state:=st,pending:=pe,fn,tmps:=(act ⟨sz,ds,none⟩ F).tmps,params:=#[p,q],assign,body,defers:=w.heap.size}:=⟨_,O⟩
 obtain⟨W1,o1⟩:∃W1,(w.alloc (.deferred (some []))).alloc (.loop (rec .ready none))=W1:=⟨_,O⟩;have oP:W1.heap[w.heap.size+1]? =some (.loop (rec .ready none)):=by
  exact mAn
 have pc:W1.heap[w.heap.size]? =some (.deferred (some [])):=by
  exact mBa
 have o0:Keeps [] w W1:=by
  exact mCh
 have hj:W1.heap.size=w.heap.size+2:=by rw[←o1];simp
 have pd:Priv _ w W1:=⟨o0.os,o0.tape,o0.output,o0.size,fun k hk=>o0.block k hk O4⟩
 refine⟨w.heap.size+1,[{target:=.collected w.heap.size,args:=#[]}],W1,{target:=.fn (.func gf) lb.toArray,args:=#[.func (.yield (w.heap.size+1)) #[] #[]]},W1,gf,
  #[.func (.yield (w.heap.size+1)) #[] #[]]++lb.toArray,W1,?_,?_,fun _ _=>trivial,?_,fun h=>(by cases h),?_⟩
 ·exact mBq
 ·exact mC1
 ·exact mAx
 have hc:=ph W1 o0 hj (w.heap.size+1) (fun pre W=>I pre W∧W.heap[w.heap.size+1]? =some _∧W.heap[w.heap.size]? =some _) O1 (fun a v hc e=>by simp[World.cell?,e,oP] at hc) ?_ ?_ ⟨hI _ _ _ h0 pd,oP,pc⟩
 ·exact mA4
 ·rintro pre x W ⟨hi,hl,hk⟩ o5;have hh:=(aT.1 hl).1;have hy:=run_yield (P:=P) (args:=#[enc x,ow x]) hl (by grind);rw[oz] at hy;rw[←oz] at hy;have pg:((#[p,q]).zip #[enc x,ow x]).foldl (fun tmps (t,a)=>tmps.setIfInBounds t a) (act ⟨sz,ds,none⟩ F).tmps=(act ⟨sz,[],some (w.heap.size+1)⟩ ((F.put p (enc x)).put q (ow x))).tmps:=by
   exact mAq
  refine⟨fn,_,assign,body,by rw[oz] at hy;exact hy,?_⟩;rw[pg];refine roundIn_of_wpIn oC (lC (pf _ _ x W o5 hi O1 hh) ?_);rintro e a1 w1 ⟨F',rfl,rfl,pz,px⟩;have zh:=(px.block _ hh O4).trans hl;have e7:=(px.block _ O1 O4).trans hk;have zm:=(aT.1 zh).1;refine⟨_,run_beginRound zh (by rw[oz]),?_⟩;obtain⟨W2,o2⟩:∃W2,W2=w1.putObj (w.heap.size+1) (.loop {rec .ready none with state:=.busy}):=⟨_,O⟩;have oy:W2.heap[w.heap.size+1]? =some (.loop {rec .ready none with state:=.busy}):=by rw[o2];exact World.putObj_heap_same zm
  have uq:W2.heap[w.heap.size]? =some (.deferred (some [])):=by rw[o2];exact(World.putObj_heap_other O1).trans e7
  have o3:Keeps [w.heap.size+1] w1 W2:=by rw[o2];exact yR _ _ _
  have py:=hA _ _ _ _ _ _ O1 pz o3;rw[←o2];refine lC (pj _ _ x F' W2 o5 py) ?_;rintro e a3 W3 ⟨F3,rfl,rfl,oX,ox⟩;have zj:=(aT.1 oy).1;have o9:=(ox.block _ zj (fun hm=>by grind)).trans oy;have yv:=(ox.block _ O1 (fun hm=>by grind)).trans uq;have hr:=run_endRound (P:=P) none o9;refine⟨_,_,hr,O,⟨hI _ _ _ oX (Priv.put _ _ O1),?_,(World.putObj_heap_other O1).trans yv⟩,?_⟩
  ·exact mC2
  have s0:Keeps ((w.heap.size+1)::M) W w1:=⟨px.os,px.tape,px.output,px.size,fun k hk _=>px.block k hk O4⟩;have s1:=s0.trans o3 (fun k hk=>.inr (by grind));have s2:=s1.trans ox (fun k hk=>.inr (by simp[hk]));exact s2.trans (yR W3 _ _) (fun k hk=>.inr (by grind))
 exact mAy
end
end
variable{is:List Nat}{i:Nat}{ops:Array Oper}{l:List Nat}{R:Value→World→Prop}{listed:Array Bool}{wG:World}{id:Nat}{v:Value}
def wC(ef:Nat→Bool)(ops:Array Oper)(i:Nat)(rest:List Nat):List Nat:=rest.filter fun x=>ef x&&(i::rest).all fun y=>!xE ops x y
def qAc(ef:Nat→Bool)(P:Program)(ops:Array Oper)(nd:Oper→Bool)(G:World→Prop)(K:Act→World→Prop):Nat→List Nat→Act→World→Prop
 |0,_,a,w=>K a w
 |_+1,[],a,w=>K a w
 |n+1,i::rest,a,w=>
  if ef i then∀x∈i::wC ef ops i rest,EffStep P ops (jA ops x) a w (fun a' w'=>(nd (jA ops x)=true→G w')∧qAc ef P ops nd G K n ((i::rest).filter (· !=x)) a' w')
  else∃v,YV P ops G (jA ops i) a v∧qAc ef P ops nd G K n rest (a.put (jA ops i).dst v) w
def qM6(ef:Nat→Bool)(ops:Array Oper)(j i:Nat):Bool:=xE ops i j||(ef j&&ef i)||qC8 ops (jA ops j) (jA ops i)
def uX(ef:Nat→Bool)(P:Program)(ops:Array Oper)(nd:Oper→Bool):Bool:=
 (range ops.size).all fun i=>(jA ops i).after.all (fun e=>!Region.binds .any e||decide (e.on<i))&&
  (!ef i||nd (jA ops i)||(range ops.size).all fun j=>ef j||wl P (jA ops j).op||xE ops i j)&&
  (range i).all fun j=>qM6 ef ops j i
def RE(ef:Nat→Bool)(ops:Array Oper)(p i:Nat):Prop:=xE ops p i=false∧(ef p=true→ef i=false→∀y,y<ops.size→ef y=true→xE ops y i=true→xE ops y p=true)
def qZm(ef:Nat→Bool)(ops:Array Oper):List Nat→Bool
 |[]=>true
 |p::l=>(l.all fun i=>!xE ops p i&&(!ef p||ef i||(range ops.size).all fun y=>!ef y|| !xE ops y i||xE ops y p))&&qZm ef ops l
theorem qUj{ef:Nat→Bool}{ops:Array Oper}:∀{l:List Nat},qZm ef ops l=true→l.Pairwise (RE ef ops)
 |[],_=>.nil
 |p::l,h=>by
  simp only[qZm,aF,cU] at h;refine .cons (fun i hi=>?_) (qUj h.2);obtain⟨h1,h2⟩:=h.1 i hi;refine⟨by grind,fun hp hi y hy p1 p0=>?_⟩;grind
def jHr(ef:Nat→Bool)(ops:Array Oper)(is:List Nat):Bool:=is.all (fun i=>Nat.blt i ops.size)&&(range ops.size).all (fun i=>is.contains i)&&decide is.Nodup&&qZm ef ops is
theorem jHq{ef:Nat→Bool}(h:jHr ef ops is=true):(∀i,i∈is↔i<ops.size)∧is.Nodup∧is.Pairwise (RE ef ops):=by
 simp only[jHr,aF,cU] at h;obtain⟨⟨⟨h1,h2⟩,h4⟩,h3⟩:=h;exact⟨fun i=>⟨fun hi=>by simpa using h1 i hi,fun hi=>by simpa using h2 i (by grind)⟩,iT h4,qUj h3⟩
def lft(is:List Nat)(listed:Array Bool):List Nat:=is.filter fun i=>!listed.getD i true
theorem qG8(p2:∀i,i∈is↔i<ops.size):i∈lft is listed↔i<ops.size∧listed.getD i true=false:=by
 unfold lft;grind
theorem qR4(_his:∀i,i∈is↔i<ops.size)(hi:i<ops.size)(hg:listed.size=ops.size):lft is (listed.setIfInBounds i true)=(lft is listed).filter (· !=i):=by
 unfold lft;rw[iX];apply mR;intro x hx;by_cases hM:x=i
 ·subst hM;simp
 have:(listed.setIfInBounds i true).getD x true=listed.getD x true:=by
  simp only[aJ,fY];rw[if_neg (fun e=>hM e.symm)]
 grind
section
variable {ef:Nat→Bool}{P:Program}{ops:Array Oper}{nd:Oper→Bool}{G:World→Prop}{K:Act→World→Prop}{Q:Exit→Act→World→Prop}
theorem qH7(h:uX ef P ops nd=true)(hi:i<ops.size):∀e∈(jA ops i).after.toList,Region.binds .any e=true→e.on<i:=by
 simp only[uX,cU,aF] at h;have h1:=(h i (by grind)).1.1;rw[cZ] at h1;grind
theorem qO4(h:uX ef P ops nd=true){j:Nat}(hi:i<ops.size)(hj:j<ops.size)(he:ef i=true)(hp:ef j=false)(hx:wl P (jA ops j).op=false):nd (jA ops i)=true∨xE ops i j=true:=by
 simp only[uX,cU,aF] at h;grind
theorem qTi(h:uX ef P ops nd=true){x y:Nat}(hx:x<ops.size)(hy:y<ops.size)(ft:x≠y)(h1:xE ops x y=false)(h2:xE ops y x=false)(hm:¬(ef x=true∧ef y=true)):Commute ops (jA ops x) (jA ops y):=by
 simp only[uX,cU,aF] at h;rcases sAu ft with hl|hl
 ·have:=(h y (by grind)).2 x (by grind);unfold qM6 at this;rw[h2] at this;simp[oZ,fQ,aF] at this;exact Commute.of (this.resolve_left hm)
 have:=(h x (by grind)).2 y (by grind);unfold qM6 at this;rw[h1] at this;simp[oZ,fQ,aF] at this;exact(Commute.of (this.resolve_left fun e=>hm ⟨e.2,e.1⟩)).symm
theorem jOt(h8:G wG)(hn:uX ef P ops nd=true)(i:Nat)(zz:i<ops.size):∀(n:Nat) (l:List Nat) (a:Act) (w:World),l.length=n+1→(∀x∈l,x<ops.size)→qAc ef P ops nd G K (n+1) l a w→i∈l→l.Nodup→l.Pairwise (RE ef ops)→
  (∀j∈l,xE ops i j=false)→
  if ef i then EffStep P ops (jA ops i) a w (fun a' w'=>(nd (jA ops i)=true→G w')∧qAc ef P ops nd G K n (l.filter (· !=i)) a' w')
  else∃v,YV P ops G (jA ops i) a v∧qAc ef P ops nd G K n (l.filter (· !=i)) (a.put (jA ops i).dst v) w:=by
 intro n;induction n with
 |zero=>
  intro l a w hQ hl h hi ln hs hb
  match l,hQ with
  |[p],_=>
   have:=by simpa using hi
   subst this;simp only[qAc] at h;by_cases he:ef i=true
   ·rw[if_pos he] at h⊢;exact h i O4
   rw[if_neg he] at h⊢;exact h
 |succ n ih=>
  intro l a w hQ hl h hi ln hs hb
  match l,hQ with
  |p::rest,hQ=>
   have xg:=by simpa using hQ
   obtain⟨hq,h5⟩:=bO.1 hs;by_cases hp:p=i
   ·have hf:(p::rest).filter (· !=p)=rest:=by
     rw[mD];simp only[pR,eE,iW];exact qJa (lS.1 ln).1
    rw[qAc] at h;grind
   have hg:i∈rest:=by
    rcases bE.1 hi with e|e
    ·omega
    exact e
   have h9:=hq i hg;have qe:=hb p O4;have hf:(p::rest).filter (· !=i)=p::rest.filter (· !=i):=by
    rw[mD,if_pos (by grind)]
   have qh:∀x∈rest,x<_:=fun x hx=>hl x (by simp[hx])
   have yh:∀j∈rest,_=_:=fun j hj=>hb j (by simp[hj])
   rw[qAc] at h;by_cases h4:ef p=true
   ·rw[if_pos h4] at h;by_cases ht:ef i=true
    ·rw[if_pos ht]
     exact h i (by
      unfold wC;grind)
    have qg:=by simpa using ht
    rw[if_neg ht];have qf:∀x∈p::wC ef ops p rest,x∈p::rest∧x≠i∧ef x=true∧Commute ops (jA ops x) (jA ops i):=by
     intro x hx;have e1:x∈p::rest∧ef x=true∧xE ops x i=false:=by
      rcases bE.1 hx with rfl|hx
      ·exact⟨O4,h4,h9.1⟩
      unfold wC at hx;rw[fN,aF,cU] at hx;exact⟨by grind,hx.2.1,by grind⟩
     obtain⟨nh,qd,li⟩:=e1;have hM:x≠i:=by
      rintro rfl;rw[qg] at qd;cases qd
     exact⟨nh,hM,qd,qTi hn (hl x nh) zz hM li (hb x nh) (by grind)⟩
    have key:∀x∈p::wC ef ops p rest,∀u w',qAc ef P ops nd G K (n+1) ((p::rest).filter (· !=x)) (a.put (jA ops x).dst u) w'→
      ∃v,YV P ops G (jA ops i) a v∧qAc ef P ops nd G K n (((p::rest).filter (· !=x)).filter (· !=i)) ((a.put (jA ops x).dst u).put (jA ops i).dst v) w':=by
     intro x hx u w' hr;obtain⟨nh,hM,qd,qa⟩:=qf x hx;have qc:=qCg ln nh
     have:=ih _ (a.put (jA ops x).dst u) w' O1 (fun y hy=>hl y (fN.1 hy).1) hr (by
      grind) (ln.filter _) (hs.filter _) (fun j hj=>hb j (fN.1 hj).1)
     rw[if_neg ht] at this;obtain⟨v,hv,h3⟩:=this;exact⟨v,hv.congr (qa.ei a u).symm (qa.wi a u).symm,h3⟩
    have hex:∃v,YV P ops G (jA ops i) a v:=by
     have h0:=h p O4;cases hwp:Region.wanted (jA ops p) (yielded ops a.tmps)
     ·obtain⟨_,hr⟩:=h0.2 hwp;grind
     exact mD8
    obtain⟨v,hv⟩:=hex;refine⟨v,hv,?_⟩;rw[hf,qAc,if_pos h4];have qc:wC ef ops p (rest.filter (· !=i))=wC ef ops p rest:=by
     unfold wC;rw[iX];apply mR;intro y hy;by_cases p0:y=i
     ·grind
     cases hye:ef y with
     |false=>simp
     |true=>
      have e:(p::rest.filter (· !=i)).all (fun z=>!xE ops y z)=(p::rest).all (fun z=>!xE ops y z):=by
       rw[iG,cU,cU];constructor
       ·intro fs z hz;by_cases qi:z=i
        ·subst qi;have h1:=fs p O4;cases hyz:xE _ y z with
         |false=>rfl
         |true=>
          rw[h9.2 h4 qg y (hl y (by simp[hy])) hye hyz] at h1;cases h1
        grind
       intro fs z hz;refine fs z ?_;rcases bE.1 hz with rfl|hz
       ·simp
       exact dX _ (fN.1 hz).1
      grind
    rw[qc];intro x hx;obtain⟨nh,hM,qd,qa⟩:=qf x hx;have qb:((p::rest).filter (· !=x)).filter (· !=i)=(p::rest.filter (· !=i)).filter (· !=x):=by
     exact mF4
    have hF:∀u w',((nd (jA ops x)=true→G w')∧qAc ef P ops nd G K (n+1) ((p::rest).filter (· !=x)) (a.put (jA ops x).dst u) w')→
      (nd (jA ops x)=true→G w')∧qAc ef P ops nd G K n ((p::rest.filter (· !=i)).filter (· !=x)) ((a.put (jA ops i).dst v).put (jA ops x).dst u) w':=by
     rintro u w' ⟨h6,hr⟩;obtain⟨v',hm,h3⟩:=key x hx _ _ hr;have:=hv.aB4 h8 hm;subst this;rw[qb,qa.hc] at h3;exact⟨h6,h3⟩
    refine⟨fun hw=>?_,fun hw=>?_⟩
    ·exact mE3
    rw[qa.wq] at hw;exact hF _ _ ((h x hx).2 hw)
   have hJ:=by simpa using h4
   rw[if_neg h4] at h;obtain⟨vp,hD,hr⟩:=h;have hh:=ih _ _ w xg qh hr hg (lS.1 ln).2 h5 yh;have qa:=qTi hn (hl p O4) zz hp h9.1 qe (by grind);rw[hf];by_cases ht:ef i=true
   ·rw[if_pos ht] at hh⊢;have key:∀u w',((nd (jA ops i)=true→G w')∧qAc ef P ops nd G K n (rest.filter (· !=i)) ((a.put (jA ops p).dst vp).put (jA ops i).dst u) w')→
      (nd (jA ops i)=true→G w')∧qAc ef P ops nd G K (n+1) (p::rest.filter (· !=i)) (a.put (jA ops i).dst u) w':=by
     rintro u w' ⟨h6,h3⟩;refine⟨h6,?_⟩;rw[qAc,if_neg h4];rw[qa.hc] at h3;exact⟨vp,hD.congr (qa.ep a u) (qa.wq a u),h3⟩
    refine⟨fun hw=>?_,fun hw=>?_⟩
    ·exact mDt
    exact key _ _ (hh.2 (by rw[qa.wi];exact hw))
   rw[if_neg ht] at hh⊢;obtain⟨v,hv,h3⟩:=hh;refine⟨v,hv.congr (qa.ei a vp).symm (qa.wi a vp).symm,?_⟩;rw[qAc,if_neg h4];rw[qa.hc] at h3;exact⟨vp,hD.congr (qa.ep a v) (qa.wq a v),h3⟩
theorem qUt(h8:G wG)(hy:uX ef P ops nd=true)(p2:∀i,i∈is↔i<ops.size)(qj:is.Nodup)(qk:is.Pairwise (RE ef ops))(hK:∀a w,K a w→Q .normal a w):∀(fuel:Nat) (listed:Array Bool) (a:Act) (w:World),listed.size=ops.size→(lft is listed).length≤fuel→
  (∀i,i<ops.size→listed.getD i true=true→∀j,((Region.before ops).getD i 0).testBit j=true→listed.getD j false=true)→
  (∀j∈lft is listed,ef j=false→wl P (jA ops j).op=false→G w)→qAc ef P ops nd G K (lft is listed).length (lft is listed) a w→wpAny P .any ops Q fuel listed a w:=by
 intro fuel;have done:∀(listed:Array _) (a:Act) (w:World),lft is listed=[]→qAc ef P ops nd G K (lft is listed).length (lft is listed) a w→Q .normal a w:=by
  exact mDa
 have hZ:∀(listed:Array _) i,i∈Region.ready .any ops listed↔i<ops.size∧listed.getD i true=false∧∀e∈(jA ops i).after.toList,Region.binds .any e=true→listed.getD e.on false=true:=by
  intro listed i;simp only[Region.ready,fN,aO,aF,lA];constructor
  ·exact mAc
  rintro⟨h1,h2,h3⟩;refine⟨h1,h2,?_⟩;rw[aP h1];simp only[eC,iH];rw[cZ];intro e he;cases hb:Region.binds .any e
  ·rfl
  exact mBy
 induction fuel with
 |zero=>
  intro listed a w ht hQ _ _ h;have hl:lft is listed=[]:=aZ O1;refine⟨?_,done _ _ _ hl h⟩;rw[gU];intro i hi;have:=(hZ _ i).1 hi;have hm:=(qG8 p2).2 ⟨this.1,this.2.1⟩;grind
 |succ fuel ih=>
  intro listed a w ht hQ hP hG h;refine⟨fun xp=>?_,fun i hi=>?_⟩
  ·cases hl:left ops listed with
   |nil=>exact done _ _ _ (by
     rw[gU];intro x hx;have:=zZ.2 ((qG8 p2).1 hx);grind) h
   |cons i0 rest=>
    exfalso;have hm:i0∈left ops listed:=by rw[hl];simp
    obtain⟨h1,h2⟩:=zZ.1 hm;have:i0∈Region.ready .any ops listed:=by
     refine(hZ listed i0).2 ⟨h1,h2,fun e he hb=>?_⟩;have hq:=qH7 hy h1 e he hb;have hs:=yN ops listed;rw[hl] at hs;by_cases hx:listed.getD e.on true=false
     ·have xe:_∈left ops _:=zZ.2 ⟨O1,hx⟩;rw[hl] at xe;rcases bE.1 xe with e1|e1
      ·omega
      exact mDz
     have hX:listed.getD e.on true=true:=by simpa using hx
     exact mBg
    grind
  obtain⟨h1,h2,h3⟩:=(hZ _ i).1 hi;have hm:=(qG8 p2).2 ⟨h1,h2⟩;have xn:∀j,((Region.before ops).getD i 0).testBit j=true→listed.getD j false=true:=by
   intro j hb;obtain⟨e,he,hz,hV⟩:=vR h1 hb;have hl:=h3 e he hz;rcases hV with rfl|hV
   ·exact hl
   have hq:=qH7 hy h1 e he hz;exact mB3
  have ss:∀j∈lft is listed,xE ops i j=false:=by
   intro j hj;cases hb:xE ops i j
   ·rfl
   exfalso;obtain⟨xa,hS⟩:=(qG8 p2).1 hj;exact mB1
  obtain⟨n,hn⟩:∃n,(lft is listed).length=n+1:=by
   cases hl:lft is _ with
   |nil=>grind
   |cons x y=>simp
  have qc:=qCg (l:=lft is _) (qj.filter _) hm;have ql:(lft is (listed.setIfInBounds i true)).length=n:=by
   rw[qR4 p2 h1 ht];omega
  rw[hn] at h;have xb:=jOt h8 hy i h1 n _ a w hn (fun x hx=>((qG8 p2).1 hx).1) h hm (qj.filter _) (qk.filter _) ss;have xg:(lft is (listed.setIfInBounds i true)).length≤fuel:=O1;have xo:∀k,k<ops.size→(listed.setIfInBounds i true).getD k true=true→∀j,((Region.before ops).getD k 0).testBit j=true→(listed.setIfInBounds i true).getD j false=true:=by
   intro k hk hU j hb;have hT:∀(d:Bool) x,(listed.setIfInBounds i true).getD x d=if x=i then true else listed.getD x d:=by
    intro d x;simp only[aJ,fY];by_cases hx:x=i
    ·grind
    exact mDv
   rw[hT] at hU⊢;split
   ·rfl
   by_cases xf:k=i
   ·grind
   exact mDr
  have xh:∀j∈lft is (listed.setIfInBounds i true),j∈lft is listed∧j≠i:=by
   intro j hj;rw[qR4 p2 h1 ht] at hj;simpa using hj
  have xj:=fun j hj=>hG j (xh j hj).1
  have hE:ef i=true→∀w',(nd (jA ops i)=true→G w')→∀j∈lft is (listed.setIfInBounds i true),ef j=false→wl P (jA ops j).op=false→G w':=by
   intro h4 w' hg j hj xl xk;obtain⟨xa,_⟩:=xh j hj;rcases qO4 hy h1 ((qG8 p2).1 xa).1 h4 xl xk with hb|hb
   ·grind
   rw[ss j xa] at hb;cases hb
  have xc:∀a' w',(∀j∈lft is (listed.setIfInBounds i true),ef j=false→wl P (jA ops j).op=false→G w')→qAc ef P ops nd G K n ((lft is listed).filter (· !=i)) a' w'→wpAny P .any ops Q fuel (listed.setIfInBounds i true) a' w':=by
   intro a' w' hg hh;rw[←qR4 p2 h1 ht] at hh;exact ih _ a' w' (by grind) xg xo hg (by grind)
  have xi:ops[i]? =some (jA ops i):=by simp[jA,aP h1]
  unfold wpOp;simp[xi];by_cases h4:ef i=true
  ·rw[if_pos h4] at xb;cases hw:Region.wanted _ _
   ·obtain⟨hg,hh⟩:=xb.2 hw;grind
   exact mDu
  rw[if_neg h4] at xb;obtain⟨v,hv,hh⟩:=xb;rcases hv with⟨hw,hr⟩|⟨hw,rfl⟩
  ·simp only[hw,if_true];refine .inl (Step.wp (R:=fun u w'=>u=v∧w'=w) (.inl ⟨v,w,?_,O,O⟩) ?_)
   ·cases hwl:wl P (jA ops i).op
    ·grind
    exact qPo hwl (hr wG h8)
   exact mDi
  grind
theorem jA7{a:Act}{w:World}(hm:P.follows .mixedOrders=true)(hn:uX ef P ops nd=true)(p2:∀i,i∈is↔i<ops.size)(qj:is.Nodup)(qk:is.Pairwise (RE ef ops))(G:World→Prop)(hG:G w.drew)
  (h:qAc ef P ops nd G (fun a w=>Q .normal a w) is.length is a w.drew):(Code.region id ops true).wp P Q a w:=by
 refine sA6 hm ?_;have e1:lft is (Array.replicate ops.size false)=is:=by
  unfold lft;rw[lU];intro i hi;have:i<ops.size:=(p2 i).1 hi;simp[aJ,this]
 refine qUt (K:=fun a w=>Q _ a w) hG hn p2 qj qk (fun _ _ h=>h) _ _ a _ O4 ?_ ?_ (fun _ _ _ _=>hG) ?_
 ·rw[e1];have:=(oF qj sBe).2 (fun i=>by rw[p2,aO]);rw[this.length_eq,dA];omega
 ·intro i hi hl;simp[hi] at hl
 rw[e1];exact h
end
def qGp(ef:Nat→Bool)(P:Program)(n:FrK)(ops:Array Oper)(st:Bool)(G:World→Prop)(l:List Nat)(Q:Exit→Fr→World→Prop)(F:Fr)(w:World):Prop:=
 qAc ef P ops (qEv st) G (fun a w=>up n Q .normal a w) l.length l (act n F) w
def qB3(ef:Nat→Bool)(P:Program)(n:FrK)(ops:Array Oper)(st:Bool)(G:World→Prop)(x:Nat)(l:List Nat)(Q:Exit→Fr→World→Prop)(F:Fr)(w:World):Prop:=
 EffStep P ops (jA ops x) (act n F) w (fun a' w'=>(qEv st (jA ops x)=true→G w')∧qAc ef P ops (qEv st) G (fun a w=>up n Q .normal a w) l.length l a' w')
section
variable {ef:Nat→Bool}{P:Program}{n:FrK}{Q:Exit→Fr→World→Prop}{F:Fr}{w:World}{ops:Array Oper}{rest:List Nat}{st:Bool}{G:World→Prop}
variable {i d:Nat}{op:Op}{ty:TypeId}{pos:String}{aft:Array Edge}
theorem qPi{l:List Oper}(ef:Nat→Bool)(st:Bool)(is:List Nat)(hm:P.follows .mixedOrders=true)(hn:uX ef P l.toArray (qEv st)=true)(hi:jHr ef l.toArray is=true)(G:World→Prop)(hG:G w.drew)
  (h:qGp ef P n l.toArray st G is Q F w.drew) (hr:n.ro=none:=by rfl):WP P n (.region id l.toArray true) Q F w:=by
 unfold WP;rw[FrK.k8 hr];obtain⟨h1,h2,h3⟩:=jHq hi;exact pH.2 (jA7 hm hn h1 h2 h3 G hG h)
theorem qSi(h:Q .normal F w):qGp ef P n ops st G [] Q F w:=⟨F,O,h⟩
theorem jNk{r:Value}(ho:jA ops i=⟨some d,op,ty,pos,aft,none⟩)(he:ef i=false)(hp:∀w,G w→PV P n w F ⟨some d,op,ty,pos,aft,none⟩ r)(hv:r=v)(h:qGp ef P n ops st G rest Q (F.put d v) w):qGp ef P n ops st G (i::rest) Q F w:=by
 subst hv;unfold qGp;simp only[bT,qAc];rw[ho,if_neg (by simp[he])];refine⟨r,.inl ⟨by simp[Region.wanted],fun w hw=>?_⟩,?_⟩
 ·rw[zF];exact hp w hw
 rw[zN];exact h
theorem qO6(he:ef i=true)(hf:wC ef ops i rest=[])(h:qB3 ef P n ops st G i ((i::rest).filter (· !=i)) Q F w)(hn:Nat.beq ((i::rest).filter (· !=i)).length rest.length=true):qGp ef P n ops st G (i::rest) Q F w:=by
 unfold qGp;simp only[bT,qAc];rw[if_pos he,hf];intro x hx;have:=by simpa using hx
 subst this;unfold qB3 at h;exact mDm
theorem jC6(k:Nat)(he:ef i=true)(hf:wC ef ops i rest=[k])(hn:Nat.beq ((i::rest).filter (· !=i)).length rest.length=true)(zi:Nat.beq ((i::rest).filter (· !=k)).length rest.length=true)
  (h:qB3 ef P n ops st G i ((i::rest).filter (· !=i)) Q F w) (h2:qB3 ef P n ops st G k ((i::rest).filter (· !=k)) Q F w):qGp ef P n ops st G (i::rest) Q F w:=by
 unfold qGp;simp only[bT,qAc];rw[if_pos he,hf];intro x hx;have:=by simpa using hx
 rcases this with rfl|rfl
 ·unfold qB3 at h;exact mDm
 unfold qB3 at h2;rw[bF zi] at h2;exact h2
theorem qPp(ho:jA ops i=⟨some d,op,ty,pos,aft,none⟩)(hs:StepF P n ⟨some d,op,ty,pos,aft,none⟩ F w R)(h:∀v w',R v w'→G w'∧qGp ef P n ops st G l Q (F.put d v) w'):qB3 ef P n ops st G i l Q F w:=by
 unfold qB3;rw[ho];refine⟨fun _=>Step.mono hs fun v w' hr=>?_,fun hw=>?_⟩
 ·rw[zN];exact mB5
 exact mDq
theorem jNm(ho:jA ops i=⟨none,op,ty,pos,aft,none⟩)(hn:qEv false ⟨none,op,ty,pos,aft,none⟩=false)(hs:StepF P n ⟨none,op,ty,pos,aft,none⟩ F w R)(h:∀v w',R v w'→qGp ef P n ops false G l Q F w'):qB3 ef P n ops false G i l Q F w:=by
 unfold qB3;rw[ho];refine⟨fun _=>Step.mono hs fun v w' hr=>?_,fun hw=>?_⟩
 ·exact⟨fun hh=>(by grind),h v w' hr⟩
 exact mDq
theorem jM2(k0 k1:Nat)(he:ef i=true)(hf:wC ef ops i rest=[k0,k1])(hn:Nat.beq ((i::rest).filter (· !=i)).length rest.length=true)(qm:Nat.beq ((i::rest).filter (· !=k0)).length rest.length=true)(qn:Nat.beq ((i::rest).filter (· !=k1)).length rest.length=true)
  (h:qB3 ef P n ops st G i ((i::rest).filter (· !=i)) Q F w) (my:qB3 ef P n ops st G k0 ((i::rest).filter (· !=k0)) Q F w) (e7:qB3 ef P n ops st G k1 ((i::rest).filter (· !=k1)) Q F w):qGp ef P n ops st G (i::rest) Q F w:=by
 unfold qGp;simp only[bT,qAc];rw[if_pos he,hf];intro x hx;have:=by simpa using hx
 rcases this with rfl|rfl|rfl
 ·unfold qB3 at h;exact mDm
 ·unfold qB3 at my;rw[bF qm] at my;omega
 unfold qB3 at e7;rw[bF qn] at e7;omega
theorem jUz(ho:jA ops i=⟨none,op,ty,pos,aft,none⟩)(hs:StepF P n ⟨none,op,ty,pos,aft,none⟩ F w R)(h:∀v w',R v w'→G w'∧qGp ef P n ops st G l Q F w'):qB3 ef P n ops st G i l Q F w:=by
 unfold qB3;rw[ho];refine⟨fun _=>Step.mono hs fun v w' hr=>?_,fun hw=>?_⟩
 ·exact mB5
 exact mDq
theorem qQ0{o:Oper}(h:PV P n w F o v):StepF P n o F w (fun u w'=>u=v∧w'=w):=xN h ⟨O,O⟩
end
end Go.Eng
namespace Go.Proofs.YtplkndjlfkkjlaaGreatDoor
open List (range range' replicate)
open Tryz
section
open Go.Eng Go.Dig Go.Sha Go.Grp Go.Sp
variable{x i n:Nat}
def pwQ(x:Nat):Nat→Nat
 |0=>1
 |i+1=>pwQ x i*x%gQ
theorem jDj(x i:Nat):pwQ x i<1152921504606845789:=by
 cases i with
 |zero=>exact(by decide:1<1152921504606845789)
 |succ i=>exact dG _ O2
def pwF(x:Nat)(p:Nat):Nat→Nat
 |0=>p
 |i+1=>pwF x p i*x%gQ
theorem qT3(x p:Nat):∀i,pwF x (p*x%gQ) i=pwF x p (i+1)
 |0=>rfl
 |i+1=>by
  show pwF x _ i*x%gQ=pwF x p _*x%gQ
  rw[qT3 x p i]
theorem qXu(x:Nat):∀i,pwF x 1 i=pwQ x i
 |0=>rfl
 |i+1=>by
  show pwF x 1 i*x%gQ=pwQ x i*x%gQ
  rw[qXu x i]
theorem qUq(x c:Nat):∀(l:List Nat) (acc p:Nat),atG x (l++[c]) acc p=atG x l acc p*(c^pwF x p l.length%gP)%gP
 |[],acc,p=>rfl
 |a::l,acc,p=>by
  show atG x (l++[c]) _ _=atG x l _ _*(c^pwF x p (l.length+1)%gP)%gP
  rw[qUq,qT3]
def atI(cs:List Nat)(x i:Nat):Nat:=atG x (cs.take i) 1 1
theorem jHz{cs:List Nat}(h:i<cs.length):atI cs x (i+1)=atI cs x i*(cs[i]^pwQ x i%gP)%gP:=by
 unfold atI;rw[aG,qUq,qXu,bV,eM O1]
theorem jLn(cs:List Nat)(x:Nat):atI cs x cs.length=atP cs x:=by
 unfold atI atP;simp
theorem qWx(x:Nat):∀(l:List Nat) (acc p:Nat),acc<gP→atG x l acc p<gP
 |[],_,_,h=>h
 |_::l,_,_,_=>qWx x l _ _ (dG _ O2)
theorem jTy(cs:List Nat)(x i:Nat):atI cs x i<2305843009213691579:=qWx x _ _ _ O2
theorem qF6(h:i<n):∃ou,range n=range i++i::ou:=by
 refine⟨range' (i+1) (n-(i+1)),?_⟩;rw[List.range_eq_range',List.range_eq_range',show n=i+(1+(n-(i+1))) by omega,←rX,←rX];grind
theorem qJ0{pre ou:List Nat}(h:range n=pre++x::ou):pre=range x∧x<n:=by
 have h1:(range n)[pre.length]? =some x:=by rw[h,gZ (bM _),lW];rfl
 have h3:(range n).take pre.length=pre:=by rw[h,sBm O]
 grind
attribute [local irreducible] PV StepF wpl wpd WP Ret
attribute [local irreducible] Fit ofN uY hv scP pwQ atI atP
theorem zCp(n x nb xb:Nat)(M:List Nat)(w:World)(h1:w.cell? ⟨nb,0,none⟩=some (Iv (n:Int)))(h2:w.cell? ⟨xb,0,none⟩=some (Iv (x:Int)))(hn:n≤1000000)(hx:x≤9223372036854775807)
  (qw:nb∉M) (qq:xb∉M) (qz:∀k∈M,k<w.heap.size):
  It2 Tryz.prog 280 [.pointer (Ad nb),.pointer (Ad xb)] (fun i:Nat=>Iv (i:Int)) (fun i:Nat=>Iv (pwQ x i:Int)) (range n) M w:=by
 intro ll J eu qt hY hJ qu;have zc:nb≠ll:=qt _ _ h1;have zi:xb≠ll:=qt _ _ h2;have sY:nb∉ll::M:=by simp;exact⟨zc,qw⟩
 have qp:xb∉ll::M:=by simp;exact⟨zi,qq⟩
 have qv:∀{pre:List _} {W W':World},J _ W→_≤_→Keeps [] W W'→J pre W':=fun h hs hk=>hJ _ _ _ h (Keeps.v6 hk hs O4)
 refine Ret.j9 func280 O ntmps280 O (qA ?_);refine qQ ([4,5]++range' 7 12) (fun(i:Nat) F=>(F.put 7 (.int _ i)).put 4 (.int _ (pwQ x i)))
  (fun i W=>i≤n∧J (range i) W∧Keeps (ll::M) w W) (fun i=>n-i) 0 (qB (qB (Same.eq .refl) O) (by unfold pwQ;rfl)) ⟨O1,qu,.refl⟩ ?_
 rintro u0 i W ⟨hi,qo,hk⟩;have xv:=jDj x i;have d1:=hk.cell h1 sY;refine tI (fun h=>?_) fun h=>?_
 ·have hl:i<n:=O1;refine qA ?_;apply wlY;exact O;exact O;exact hY _ i _ qo (qF6 hl);rintro _ W1 ⟨rfl,qy,e7⟩;refine⟨_,O,?_⟩;have uq:=hk.trans e7 (fun k hk=>.inr hk);have d2:=uq.cell h2 qp;rw[←fW] at qy;refine gA3 ?_;refine tK (p52 (pwQ x i) x 1152921504606845789 _ O1 O1 O1 O1 O2 O2) ?_;rintro _ W2 ⟨rfl,ox⟩;have qx:=qv qy uq.size ox;have qs:=uq.trans ox O4;have e1:(pwQ x i:Nat)*x%(1152921504606845789:Nat)=(pwQ x (i+1):Int):=by
   rw[←bU,←iI]
   conv=>rhs;unfold pwQ
   rfl
  rw[e1];refine gA7 ?_;exact⟨_,qB O5 O,⟨O1,qx,qs⟩,O1⟩
 obtain rfl:i=n:=O1;exact mD4
theorem p91(n x:Nat)(w:World):Rt 198 [Iv (n:Int),Iv (x:Int)] w (fun v w'=>∃nb xb,v= .func (.func 280) #[] #[.pointer (Ad nb),.pointer (Ad xb)]∧Hp w [] w' [blk xb 1 (qE [Iv (x:Int)]) 3,blk nb 1 (qE [Iv (n:Int)]) 3]):=by
 refine tW func198 ntmps198 fun hp=>?_;refine qSk fun w _ b hp=>?_
 exact qM O O ⟨_,O,_,_,O,hp⟩
def atE(pb b2 nb xb:Nat)(s:Option Addr)(m c n x:Nat)(acc:Nat):List Ent:=
 [blk pb 1 (qE [Iv (acc:Int)]) 3,blk b2 1 (qE [.slice s m c]) 22,blk nb 1 (qE [Iv (n:Int)]) 3,blk xb 1 (qE [Iv (x:Int)]) 3]
theorem p45(cs:List Nat)(x:Nat)(s:Option Addr)(c:Nat)(w:World)(hs:SlAt w 1 eN s cs)(hl:cs.length≤1000000)(hx:x≤9223372036854775807)(nz:∀a∈cs,a<2305843009213691579):
  Rk 149 [.slice s cs.length c,Iv (x:Int)] w (Iv (atP cs x:Int)):=by
 have qb:cs≠[]→∀b o,s=some ⟨b,o,_⟩→b<_:=fun h b o e=>hs.lt (fun _=>O) O2 h e
 refine Ret.q9 func149 O ntmps149 O ?_;have hp:=Hp.start (M:=[]) (w:=w);refine qB2 (qR ?_);refine tQ fun w1 b2 hp=>?_;refine qA (qB2 ?_);refine qR ?_;refine tQ fun w2 pb hp=>?_;refine tS fun w3 hp=>?_;have hp:=hp.norm 0 [.int _ 1] O O;refine qA (qFt ?_);refine tL (p91 _ x _) ?_;rintro _ w4 ⟨nb,xb,rfl,hpo⟩;have hp:=hp.join hpo;clear hpo;have ze:atI cs x 0=1:=by unfold atI;rfl
 have hp:Hp w [] w4 (atE pb b2 nb xb s cs.length c cs.length x (atI cs x 0)):=by rw[ze];exact hp.k5 [2,3,1,0] _ O O
 have jg:=hp.p6 (i:=0) O;have ac:=hp.p6 (i:=1) O;have af:=hp.p6 (i:=2) O;have ah:=hp.p6 (i:=3) O;have zi:=hp.ne (i:=1) (j:=0) O O O2;have q2:=hp.ne (i:=2) (j:=0) O O O2;have yx:=hp.ne (i:=3) (j:=0) O O O2;refine qA (qBr [(2,.pointer _),(5,.pointer _),(11,.func _ _ _)] ⟨O,O,O,trivial⟩ ?_);intro F0;refine qNk O jR7 (fun i:Nat=>Iv i) (fun i=>Iv (pwQ x i)) (range cs.length) [pb] ?_
  (fun pre W=>Hp w [] W (atE pb b2 nb xb s _ c _ x (atI cs x pre.length))) ?_ hp ?_
  (fun i=>((((F0.x5 [(2,.pointer (Ad b2)),(5,.pointer (Ad pb)),(11,.func (.func 280) #[] #[.pointer (Ad nb),.pointer (Ad xb)])]).put 12 (Iv i)).put 13 (Iv (pwQ x i))).put 6 (Iv i)).put 7 (Iv (pwQ x i))) ?_ ?_ ?_
 ·grind
 ·intro pre W W' h us;refine h.v6 us hp.C.size ?_;intro p jo b hb;simp[atE,bE,mE,sAt] at jo;rcases jo with rfl|rfl|rfl|rfl
  ·have:(some pb)=_:=hb;grind
  ·have:(some b2)=_:=hb;grind
  ·have:(some nb)=_:=hb;grind
  have:(some xb)=_:=hb;grind
 ·intro W1 hk hg;refine zCp _ x nb xb _ W1 (hk.cell (hp.cell 2 O O) O4) (hk.cell (hp.cell 3 O O) O4) hl hx (by grind) (by grind) ?_;grind
 ·intro ll i W;refine qA ?_;simp
 ·rintro ll pre i W ⟨ou,o5⟩ q1;obtain⟨rfl,ab⟩:=qJ0 o5;rw[aY,dA,List.length_singleton] at*
  have xv:=jDj x i;have oq:=jTy cs x i;have xy:=jHz (x:=x) ab;obtain⟨b0,o0,hs0,yq⟩:=hs.base O1;have yp:=yq i _ (aA ab) 0 _ O;have hP:=nz _ (bX ab);generalize cs[i]=a at yp hP xy;have yp:W.cell? ⟨b0,o0+i*1,_⟩=_:=q1.j7 yp;have ix:b0∉[pb]:=by
   have:=qb (by grind) b0 o0 hs0;simp;omega
  have c2:W.cell? ⟨b2,0,_⟩=some (.slice s _ c):=q1.cell 1 O O;have ed:=Hp.y1 (q1.has 0 _ O pb O);generalize atI cs x i=acc at ed oq xy;have ae:b2∉[pb]:=by simpa using zi
  refine qR (kU false jG O3 (fun w'=>Hp W _ w' _) ed.N ?_);have hp:=ed.N;refine qX ?_;refine tP (fun w hp=>qS O O (hp.old c2 ae)) ?_;refine qX ?_;refine tP (fun w hp=>qS O O (hp.old yp ix)) (qX ?_);refine tK (qM1 a (pwQ x i) 2305843009213691579 _ O1 O1 O2 O2) ?_;rintro _ w5 ⟨rfl,hk⟩;have hp:=hp.call hk;refine⟨hp,?_⟩;apply wds;exact O;exact qC O qH5 O (p52 acc _ 2305843009213691579 _ O1 O1 O1 O1 O2 O2);rintro _ w6 ⟨rfl,hk⟩;have hp:=hp.call hk;refine⟨hp,?_⟩;have e1:acc*(a^pwQ x i%2305843009213691579:Nat)%(2305843009213691579:Nat)=(atI cs x (i+1):Int):=by
   rw[xy,←bU,←iI];rfl
  rw[e1];refine tS fun w7 hp=>?_;refine qU ?_;exact⟨O,q1.o8 (i:=0) O hp.C (fun b hb=>by
   cases hb
   exact⟨.inl O,hp.has 0 _ O pb O⟩),hp.C⟩
 intro D W hD q1 q7;rw[dA,jLn] at q1
 have aa:Keeps [] w (W.putObj D (.deferred none)):=(q1.C).trans (yR W D _) (fun k hk=>by
  grind)
 exact mDf
end
section
open Go.Eng Go.Dig Go.Sha Go.Grp Go.Sp
def yB(y k:Nat):Nat:=y/2^(56-8*k)%256
def sB(y:Nat)(g:Nat→Nat)(k:Nat):Nat:=if k<8 then yB y k^^^g k else g k
section
variable {P:Program}{n:FrK}{w:World}{F:Fr}{d:Option Tmp}{ty:TypeId}{pos:String}{aft:Array Edge}{g:Option (Nat×Bool)}{x y z:Operand}{t t':Nat}
end
attribute [local irreducible] PV StepF wpl wpd WP Ret
attribute [local irreducible] Fit ofN uY hv scP
end
open Go.Eng Go.Dig Go.Sha Go.Grp Go.Sp
structure DlV where
 s1:Option Addr
 c1:Nat
 cs:List Nat
 pt:Nat
 s2:Option Addr
 c2:Nat
 bx:List ByteArray
structure DlAt(w:World)(d:DlV):Prop where
 cs:SlAt w 1 eN d.s1 d.cs
 bx:SlAt w 1 eS d.s2 d.bx
theorem DlAt.j5{w w':World}{d:DlV}(h:DlAt w d)(hk:Keeps [] w w'):DlAt w' d:=⟨h.cs.j6 hk,h.bx.j6 hk⟩
attribute [local irreducible] PV StepF wpl wpd WP Ret
attribute [local irreducible] Fit ofN uY hv scP atP Mb
end Go.Proofs.YtplkndjlfkkjlaaGreatDoor
namespace Go.Sp
open List (range range' replicate)
open Go.Nt Go.Lag Go.Grp
variable{i:Nat}{S:List Nat}{x b a j f z:Nat}
theorem qLu(f:Int→Int)(x:Int):∀l:List Int,pr f (l++[x])=pr f l*f x
 |[]=>by simp[pr]
 |y::l=>by
  show f y*pr f (l++[x])=f y*pr f l*f x
  rw[qLu,rT]
def sk(S:List Nat)(i j:Nat):List Nat:=(S.take j).eraseIdx i
theorem jM9(h:i<S.length):sk S i (i+1)=sk S i i:=by
 unfold sk;have e:(S.take i).length=i:=by rw[bV];omega
 rw[aG h,pP O1,e,lW,List.eraseIdx_cons_zero,bH,oG O1]
theorem jD0(hj:j<S.length)(h:j≠i):sk S i (j+1)=sk S i j++[S[j]]:=by
 unfold sk;have e:(S.take j).length=j:=by rw[bV];omega
 rw[aG hj];by_cases hl:i<j
 ·grind
 rw[pP O1,e,oG (l:=S.take j) O1,oG (by grind)]
theorem qFj:∀{S:List Nat} (_:S.Nodup) {i:Nat} (h:i<S.length),S.eraseIdx i=S.erase S[i]
 |a::S,hn,0,_=>O4
 |a::S,hn,i+1,h=>by
  obtain⟨h1,h2⟩:=lS.1 hn;have h':=by simpa using h
  have xr:a≠_:=fun e=>h1 (e▸bX h')
  rw[List.eraseIdx_cons_succ,pX,oD (by grind),qFj h2 h']
theorem qV4(hn:S.Nodup)(h:i<S.length):sk S i S.length=S.erase S[i]:=by
 unfold sk;rw[dE,qFj hn h]
theorem qPw(a b:List Nat):toI (a++b)=toI a++toI b:=by simp[toI]
structure FacI(S:List Nat)(i x j a b:Nat):Prop where
 ha:Cg (gQ:Int) (a:Int) (pr (fun y=>y) (toI (sk S i j)))
 hb:Cg (gQ:Int) (b:Int) (pr (fun y=>y-(x:Int)) (toI (sk S i j)))
theorem FacI.zero:FacI S i x 0 1 1:=by
 constructor<;>(exact .refl)
theorem FacI.same(h:FacI S i x i a b)(hi:i<S.length):FacI S i x (i+1) a b:=by
 obtain⟨h1,h2⟩:=h;constructor<;>(rw[jM9 hi];omega)
theorem FacI.next(h:FacI S i x j a b)(hj:j<S.length)(xr:j≠i){a' b':Nat}(h1:a'%gQ=a*S[j]%gQ)(h2:Cg (gQ:Int) (b':Int) ((b:Int)*((S[j]:Int)-(x:Int)))):FacI S i x (j+1) a' b':=by
 constructor
 ·rw[jD0 hj xr,qPw];show Cg _ _ (pr _ (toI _++[(S[j]:Int)]))
  rw[qLu];refine(cgN h1).trans ?_;rw[bU];exact h.ha.mul .refl
 rw[jD0 hj xr,qPw];show Cg _ _ (pr _ (toI _++[(S[j]:Int)]))
 rw[qLu];exact h2.trans (h.hb.mul .refl)
theorem FacI.aA3(hS:Pts S)(hi:i<S.length)(h:FacI S i S[i] S.length a b):¬gQ∣b:=by
 have hU:=qNc hS (bX hi);have hB:=h.hb;rw[qV4 hS.nd hi] at hB;intro hd;obtain⟨u,hu⟩:=hU;have h1:=(Cg.refl.mul hB).trans hu;obtain⟨q,hq⟩:=hd;obtain⟨k,hk⟩:=h1;have e:u*(b:Nat)=gQ*(u*q):=by rw[hq,bU];ac_rfl
 have h2:gQ*(u*q-k)=1:=by rw[sA2];omega
 have h3:(gQ:Int)∣1:=⟨_,h2.symm⟩;exact absurd O1 O2
theorem jWt(h:¬gQ∣b):Nat.gcd gQ b=1:=by
 have:=prQ'.aA3 h;grind
theorem FacI.done(hS:Pts S)(hi:i<S.length)(h:FacI S i S[i] S.length a b)(hz:Cg (gQ:Int) ((z:Int)*(b:Int)) 1):a*z%gQ=fac S S[i]:=by
 refine qU3 hS (bX hi) (dG _ O2) ?_;unfold IsF;have hA:=h.ha;have hB:=h.hb;rw[qV4 hS.nd hi] at hA hB;rw[qDa];refine((qTm _).mul hB.symm).trans (Cg.trans ?_ hA);have:=(Cg.refl (a:=a)).mul hz;grind
def FacR(S:List Nat)(i x j f:Nat):Prop:=Cg (gQ:Int) ((f:Int)*pr (fun y=>y-(x:Int)) (toI (sk S i j))) (pr (fun y=>y) (toI (sk S i j)))
theorem FacR.zero:FacR S i x 0 1:=by
 exact .refl
theorem FacR.same(h:FacR S i x i f)(hi:i<S.length):FacR S i x (i+1) f:=by
 unfold FacR at*
 rw[jM9 hi];exact h
theorem FacR.next{f':Nat}(h:FacR S i x j f)(hj:j<S.length)(xr:j≠i)(hz:Cg (gQ:Int) ((z:Int)*((S[j]:Int)-(x:Int))) 1)(hf:f'%gQ=f*(S[j]*z)%gQ):FacR S i x (j+1) f':=by
 unfold FacR at*
 rw[jD0 hj xr,qPw];show Cg _ (f'*pr _ (toI _++[(S[j]:Int)])) (pr _ (toI _++[(S[j]:Int)]))
 rw[qLu,qLu];have h1:=by
  have:=cgN hf;rwa[bU,bU] at this
 refine(h1.mul .refl).trans ?_;have:=(h.mul (Cg.refl (a:=(S[j])))).mul hz;grind
theorem FacR.done(hS:Pts S)(hi:i<S.length)(hf:f<gQ)(h:FacR S i S[i] S.length f):f=fac S S[i]:=by
 refine qU3 hS (bX hi) hf ?_;unfold FacR at h;unfold IsF;rw[qV4 hS.nd hi] at h;rw[qDa];exact h
def qNt(k:Nat):List Nat→List (List Nat)
 |[]=>[]
 |w::ws=>range' k w::qNt (k+w) ws
theorem qT7(ws:List Nat):∀k,(qNt k ws).length=ws.length:=by
 induction ws with
 |nil=>intro k;rfl
 |cons w ws ih=>simp[qNt,ih]
theorem qLt:∀(ws:List Nat) (k i:Nat) (h:i<ws.length),(qNt k ws)[i]? =some (range' (k+(ws.take i).sum) ws[i])
 |w::ws,k,0,_=>by simp[qNt]
 |w::ws,k,i+1,h=>by
  have:=qLt ws (k+w) i (by grind);simp[qNt,List.getElem?_cons_succ,List.take_succ_cons,rU,pX];grind
theorem qT6:∀(ws:List Nat) (k:Nat),((qNt k ws).map List.length).sum=ws.sum
 |[],_=>rfl
 |w::ws,k=>by simp[qNt,qT6]
theorem qEz:∀(ws:List Nat) (i:Nat),(ws.take i).sum≤ws.sum
 |[],i=>O4
 |w::ws,0=>O4
 |w::ws,i+1=>by
  have:=qEz ws i;grind
theorem qNn{ws:List Nat}(h:i<ws.length):(ws.take (i+1)).sum=(ws.take i).sum+ws[i]:=by
 rw[aG h,List.sum_append];simp
def ndN(n:Nat):Nat:=(n-1)/3+1
end Go.Sp
namespace Go.Proofs.YtplkndjlfkkjlaaGreatDoor
open List (range range' replicate)
open Tryz
section
open Go.Eng Go.Dig Go.Sha Go.Grp Go.Sp
variable{i:Nat}{l:List Nat}
structure NRow where
 s:Option Addr
 c:Nat
 l:List Nat
variable{rs:List NRow}
def eNR(r:NRow):List Value:=[.slice r.s r.l.length r.c]
structure RowsAt(w:World)(s:Option Addr)(rs:List NRow):Prop where
 at_:SlAt w 1 eNR s rs
 row:∀r∈rs,SlAt w 1 eN r.s r.l
theorem RowsAt.j5{w w':World}{s:Option Addr}(h:RowsAt w s rs)(hk:Keeps [] w w'):RowsAt w' s rs:=⟨h.at_.j6 hk,fun r hr=>(h.row r hr).j6 hk⟩
def qLk(rs:List NRow):List (List Nat):=rs.map NRow.l
def qIx(rs:List NRow):Nat:=(rs.map fun r=>r.l.length).sum
theorem jAe(h:i<rs.length):qIx (rs.take (i+1))=qIx (rs.take i)+rs[i].l.length:=by
 unfold qIx;rw[aG h,dR,List.sum_append];simp
theorem qDy:∀(rs:List NRow) (i:Nat),qIx (rs.take i)≤qIx rs
 |[],i=>O4
 |r::rs,0=>by simp[qIx]
 |r::rs,i+1=>by
  have:=qDy rs i;simp only[qIx,List.take_succ_cons,dY,rU] at*
  omega
def inL(l:List Nat)(i:Nat):Int→Bool:=fun a=>decide (a∈toI (l.take i))
theorem qTw(l:List Nat):uE (inL l 0)=fun _=>none:=qBm _ fun a=>by simp[inL,toI]
theorem qTx(h:i<l.length):(fun a=>decide (a=(l[i]:Int))||inL l i a)=inL l (i+1):=by
 funext a;unfold inL toI;rw[aG h,dR,iG];grind
theorem qYr(hn:l.Nodup)(h:i<l.length):inL l i (l[i]:Int)=false:=by
 refine aB fun hm=>?_
 obtain⟨x,hx,he⟩:=bD.1 hm;rw[lF] at hx;rw[dZ,dP] at hn;grind
attribute [local irreducible] PV StepF wpl wpd WP Ret
attribute [local irreducible] Fit ofN uY hv scP atP Mb inL
theorem p89(x:Nat)(w:World)(h1:1≤x)(h2:x<1152921504606845789):Rk 199 [Iv (x:Int)] w (.bool true):=by
 refine tW func199 ntmps199 fun hp=>?_;refine gA1 ?_;refine gA1 ?_;refine wlp (vE O O) (qV (aD O1)) (jM ?_);refine qAd ?_;apply vX;exact O;exact O;exact uG O O;exact qV (aD O1);exact mA0
theorem p92(n:Nat)(w:World)(h1:1≤n)(h2:n≤1000000):Rt 196 [Iv (n:Int)] w (fun v w'=>v=Iv (((n-1)/3:Nat):Int)∧Keeps [] w w'):=by
 refine tW func196 ntmps196 fun hp=>?_;refine qA ?_;refine qH O O1 (fun _=>tM (n-1) ?_);refine wlp (qC1 O O O2) (qF (b:=((n-1)/3:Nat)) (by rw[show(3:Int)=(3:Nat) from O,tdn];exact qYt O1)) (tV ?_);exact mB0
theorem p46(n:Nat)(w:World)(h1:1≤n)(h2:n≤1000000):Rk 146 [Iv (n:Int)] w (Iv (ndN n:Int)):=by
 refine tW func146 ntmps146 fun hp=>?_;refine qA ?_;refine qH O O1 (fun _=>tD (p92 n _ h1 h2) fun w3 hp=>?_);refine wlp (qO O O) (qF (b:=(ndN n)) (by unfold ndN;rw[qK O1 O1];omega)) (tV ?_);exact mB0
end
section
open Go.Eng Go.Dig
def wLot:ByteArray:=⟨#[108,111,116,116,111]⟩
def drL(tb:Nat):List Value:=[.string wLot,Iv 1,Iv 1,Iv 0,Iv 5,Iv 2,.slice (Ad tb) 1 1,.bool false,Zs,Iv 0,Iv 0,Zs,Zs]
structure TbAt(w:World)(tb:Nat):Prop where
 c0:w.cell? ⟨tb,0+0*2+0,none⟩=some (Iv 2)
 c1:w.cell? ⟨tb,0+0*2+1,none⟩=some (Iv 50)
theorem TbAt.j5{w w':World}{tb:Nat}(h:TbAt w tb)(hk:Keeps [] w w'):TbAt w' tb:=⟨hk.cell h.c0 O4,hk.cell h.c1 O4⟩
theorem jA8:wLot.size=5:=O
theorem jIr{i:Nat}(h:i<5):97≤bAt wLot i∧bAt wLot i≤122:=by
 match i,h with
 |0,_=>decide+kernel
 |1,_=>decide+kernel
 |2,_=>decide+kernel
 |3,_=>decide+kernel
 |4,_=>decide+kernel
attribute [local irreducible] PV StepF wpl wpd WP Ret
attribute [local irreducible] Fit
theorem qQv(n lo hi:Int)(w:World)(h1:lo≤n)(h2:n≤hi):Rk 209 [Iv n,Iv lo,Iv hi] w (Iv 0):=by
 refine tW func209 ntmps209 fun hp=>?_;refine qA ?_;refine xD O (fun h=>absurd h (by grind)) (fun h=>tV ?_);exact mB0
theorem zC9(w:World):Rk 290 [.string wLot] w (.bool true):=by
 have hg:=jA8;have iz:=fun{i:Nat} (h:i<5)=>jIr h
 generalize wLot=s at hg iz;refine tW func290 ntmps290 fun hp=>?_;refine qA ?_;refine xD O (fun h=>absurd h (by grind)) (fun h=>qA (qQ [2,3,14,15,16,17,18,19,20,21,22,23,24,25,26,27] (fun(i:Nat) F=>F.put 14 (.int _ i)) (fun i w'=>i≤s.size∧Hp w [] w' []) (fun i=>s.size-i) 0 (qB (Same.eq .refl) O) ⟨O1,hp⟩ ?_));clear hp;rintro u i w ⟨hi,hp⟩;refine tI (fun h=>?_) fun h=>?_
 ·have hl:i<s.size:=O1;have hb:=iz (i:=i) O1;exact mCq
 exact mA0
theorem zCj(tb:Nat)(w:World):Rk 206 [.agg (drL tb).toArray] w (Iv 0):=by
 refine tW func206 ntmps206 fun hp=>?_;refine vK fun w b hp=>?_
 refine tC (zC9 _) fun w1 hp=>?_;exact mDh
theorem zCi(tb:Nat)(w:World):Rk 207 [.agg (drL tb).toArray] w (Iv 0):=by
 refine tW func207 ntmps207 fun hp=>?_
 ((repeat refine qHs ?_);apply wls;exact zO hp O;rintro _ w1 ⟨db,rfl,hp⟩)
 refine jL ?_;refine xD O (fun h=>tV ?_) (fun h=>absurd h O2);exact mB0
theorem zCh(tb:Nat)(w:World):Rk 208 [.agg (drL tb).toArray] w (Iv 0):=by
 refine tW func208 ntmps208 fun hp=>?_;refine vK fun w b hp=>?_
 refine tC (qQv 1 1 1000000000 _ O2 O2) fun w1 hp=>?_;exact mA0
theorem zCg(tb:Nat)(w:World):Rk 210 [.agg (drL tb).toArray] w (Iv 0):=by
 refine tW func210 ntmps210 fun hp=>?_;refine vK fun w b hp=>?_
 refine tC (qQv 0 0 1000000 _ O2 O2) fun w1 hp=>?_;exact mA0
theorem zCe(tb:Nat)(w:World):Rk 212 [.agg (drL tb).toArray] w (Iv 0):=by
 refine tW func212 ntmps212 fun hp=>?_;refine vK fun w b hp=>?_
 refine tC (qQv 5 1 60 _ O2 O2) fun w1 hp=>?_;exact mA0
theorem zCd(tb:Nat)(w:World):Rk 213 [.agg (drL tb).toArray] w (Iv 0):=by
 refine tW func213 ntmps213 fun hp=>?_;refine vK fun w b hp=>?_
 refine tC (qQv 2 1 5 _ O2 O2) fun w1 hp=>?_;exact mA0
theorem zC4(f:Value)(w:World):Rk 347 [Zs,f] w (.bool true):=by
 refine tW func347 ntmps347 fun hp=>?_;refine qA (qQ [4,6,9,10,11,12,13,14,15,16,17] (fun(i:Nat) F=>F.put 9 (.int _ i)) (fun i w'=>Hp w [] w' []) (fun i=>0) 0 (qB (Same.eq .refl) O) hp ?_);rintro u i w hp;refine qA ?_;refine qH O O1 (fun h=>tV ?_);exact mB0
theorem jWd(w:World):Rk 291 [Zs,.func (.func 292) #[] #[]] w (.bool true):=by
 refine tW func291 ntmps291 fun hp=>?_;refine qA ?_;refine tQ fun w1 kb hp=>?_;refine qA (tF (yS kInt hp) fun w2 mb hp=>?_);refine tQ fun w3 sb hp=>?_;refine tS fun w4 hp=>?_;refine tD (zC4 _ _) fun w5 hp=>?_;exact mA0
theorem zCf(tb:Nat)(w:World):Rk 211 [.agg (drL tb).toArray] w (Iv 0):=by
 refine tW func211 ntmps211 fun hp=>?_;refine vK fun w b hp=>?_
 refine qH O O1 (fun _=>tD (jWd _) fun w1 hp=>?_);exact mDh
theorem jWc(f:FuncId)(dy:Array Value)(he:qI Tryz.prog f)(m tb:Nat)(J:World→Prop)(w:World)(hT:TbAt w tb)
  (xy:∀w' az,J w'→Keeps [] w' az→J az)
  (hP:∀w',Keeps [] w w'→Rt f (.agg #[Iv 2,Iv 50]::dy.toList) w' (fun v az=>v= .bool true∧Keeps [m] w' az∧J az)):
  Rt 293 [.slice (Ad tb) 1 1,.func (.func f) #[] dy] w (fun v w'=>v= .bool true∧Keeps [m] w w'∧J w'):=by
 refine tW func293 ntmps293 fun hp=>?_;refine qA (qQ [4,6,9,10,11,12,13,14,15,16,17] (fun(i:Nat) F=>F.put 9 (.int _ i)) (fun i w'=>i≤1∧(i=0→Keeps [] w w')∧(i=1→Keeps [m] w w'∧J w')) (fun i=>1-i) 0 (qB (Same.eq .refl) O) ⟨O1,fun _=>hp.C,fun h=>absurd h O2⟩ ?_);clear hp;rintro u i w1 ⟨hi,h0,h1⟩;have hp:=Hp.start (M:=[]) (w:=w1);refine tI (fun h=>?_) fun h=>?_
 ·obtain rfl:i=0:=O1;have my:=h0 O;have a1:=hT.j5 my;have hl:0<1:=O2;refine qA (tR (qL (vs:=[Iv 2,Iv 50]) O O O O (fun j v hv=>hp.j7 (by match j,hv with|0,hv=>(cases hv;exact a1.c0)|1,hv=>(cases hv;exact a1.c1)))) ?_);refine tQ fun w2 b6 hp=>?_;refine tS fun w3 hp=>?_;refine qA ?_;have ox:=my.trans hp.C O4;apply wls;exact qC O he O (hP _ ox);rintro _ w4 ⟨rfl,qs,hJ⟩;have gl:=(Keeps.refl.trans ox O4).trans qs (fun _ h=>.inr h);refine gA3 ?_;refine wlp (qO O O) (qF (b:=(1:Nat)) (qK O1 O1)) (qA ?_);exact⟨1,qB O5 O,⟨O1,fun h=>absurd h O2,fun _=>⟨gl,hJ⟩⟩,O1⟩
 refine qA ?_;obtain⟨hk,hJ⟩:=h1 O1;exact qM O O ⟨_,O,O,hk,hJ⟩
theorem zC8(sb db:Nat)(w:World)(hb:∃o,w.heap[sb]? =some o∧qN7 1 (qE [Iv 0]) 3 o)(hd:w.cell? ⟨db,0+5,none⟩=some (Iv 2))(xr:db≠sb):
  Rt 294 [.agg #[Iv 2,Iv 50],.pointer (Ad sb),.pointer (Ad db)] w (fun v w'=>v= .bool true∧Keeps [sb] w w'∧w'.cell? ⟨sb,0,none⟩=some (Iv 50)):=by
 have ed:=Hp.y1 hb;have th:db∉[sb]:=by simp[xr]
 refine Ret.j9 func294 O ntmps294 O ?_;have hp:Hp w _ w [blk sb 1 _ 3]:=ed;refine qR ?_;refine tQ fun w1 b3 hp=>?_;refine qA ?_;refine wlp (qO O O) (qF (b:=50) O2) (tS fun w2 hp=>?_);refine jL ?_;apply vX;exact O;exact O;exact qS O O (hp.old hd th);exact fI O;refine jL ?_;exact qM O O ⟨_,O,O,hp.C,hp.cell 1 O O⟩
theorem zC6(a b:Int)(w:World):Rk 296 [.agg #[Iv a,Iv b]] w (Iv a):=by
 refine tW func296 ntmps296 fun hp=>?_;refine vK fun w b hp=>?_
 exact mAb
theorem zC3(kb sb mb:Nat)(w:World)(hm:∃o,w.heap[mb]? =some o∧(yA kInt mb (uE (fun _=>false))).2 o)(e7:w.cell? ⟨kb,0,none⟩=some (.func (.func 296) #[] #[]))(uq:w.cell? ⟨sb,0,none⟩=some (.map (some mb)))(zc:kb≠mb)(zi:sb≠mb):
  Rt 349 [.agg #[Iv 2,Iv 50],.pointer (Ad kb),.pointer (Ad sb)] w (fun v w'=>v= .bool true∧Keeps [mb] w w'∧True):=by
 obtain⟨o,ho,hm⟩:=hm;have te:kb∉[mb]:=by simp[zc]
 have yu:sb∉[mb]:=by simp[zi]
 refine Ret.j9 func349 O ntmps349 O ?_;have hp:Hp w [mb] w [yA _ mb _]:=Hp.start.q8 O4 ho hm O4;refine vK fun w b hp=>tR (qKj Tryz.underlying371 O O (hp.old e7 te)) ?_;refine tD (zC6 2 50 _) fun w1 hp=>?_;refine qA (tR (qS O O (hp.old uq yu)) ?_);refine qA (wlp (qAq hp 1 O O O (xG O).1 (xG (t:=162) O).2.1 (xG (t:=162) O).2.2) ((qBv _ _).trans O) ?_);refine qA ?_;refine tJ (tR (qS O O (hp.old uq yu)) ?_);refine qA (tO (qAk hp 1 O O O O (xG O).1 (xG (t:=162) O).2.1) fun w2 hp=>?_);refine tV ?_;exact⟨_,O,O,hp.C,trivial⟩
end
open Go.Eng Go.Dig
def clT(i:Nat):FuncId:=[206,207,208,210,211,212,213,214,215,216,217,218].getD i 0
def clK(i:Nat):Int:=[0,0,0,0,0,1,1,1,2,2,3,3].getD i 0
def clN(i:Nat):ByteArray:=[(⟨#[110,97,109,101]⟩:ByteArray),⟨#[107,105,110,100]⟩,⟨#[114,111,117,110,100]⟩,⟨#[112,114,105,99,101]⟩,⟨#[98,97,114]⟩,⟨#[112,111,111,108]⟩,⟨#[112,105,99,107]⟩,⟨#[116,105,101,114]⟩,⟨#[112,108,97,99,101]⟩,⟨#[99,108,97,115,115]⟩,⟨#[115,105,122,101]⟩,⟨#[113,117,111,116,97]⟩].getD i ⟨#[]⟩
structure ClAt(w:World)(cb:Nat):Prop where
 name:∀i,i<12→w.cell? ⟨cb,0+i*3+0,none⟩=some (.string (clN i))
 kind:∀i,i<12→w.cell? ⟨cb,0+i*3+1,none⟩=some (Iv (clK i))
 fn:∀i,i<12→w.cell? ⟨cb,0+i*3+2,none⟩=some (.func (.func (clT i)) #[] #[])
attribute [local irreducible] PV StepF wpl wpd WP Ret
attribute [local irreducible] Fit
theorem zC7(tb:Nat)(w:World)(hT:TbAt w tb):Rk 295 [.slice (Ad tb) 1 1,.func (.func 296) #[] #[]] w (.bool true):=by
 refine tW func295 ntmps295 fun hp=>?_;refine qA ?_;refine tQ fun w1 kb hp=>?_;refine qA (tF (yS kInt hp) fun w2 mb hp=>?_);refine tQ fun w3 sb hp=>?_;refine tS fun w4 hp=>?_;refine qA ?_;have e7:w4.cell? ⟨kb,0,_⟩=some (.func _ _ _):=hp.cell 2 O O;have uq:w4.cell? ⟨sb,0,_⟩=some (.map _):=hp.cell 0 O O;have ox:=hp.has 1 _ O mb O;have zc:kb≠mb:=fun e=>hp.dis 2 1 _ _ O O O1 kb O (by rw[e];rfl)
 have zi:sb≠mb:=fun e=>hp.dis 0 1 _ _ O O O1 sb O (by rw[e];rfl)
 have bj:=by
  exact mEj
 (apply wls;exact qC O jG3 O (jWc 349 _ jQg mb tb _ w4 (hT.j5 hp.C) (fun _ _ _ _=>trivial) (fun w' hk=>zC3 kb sb mb w' (by
  obtain⟨o,ho,hc⟩:=ox
  exact⟨o,by rw[hk.block mb (aT.1 ho).1 O4];exact ho,hc⟩) (hk.cell e7 O4) (hk.cell uq O4) zc zi)))
 rintro _ w5 ⟨rfl,gl,_⟩;have bi:=hp.C.trans gl (by grind);refine tV ?_;exact⟨_,O,O,bi⟩
theorem zCc(tb:Nat)(w:World)(hT:TbAt w tb):Rk 214 [.agg (drL tb).toArray] w (Iv 0):=by
 refine tW func214 ntmps214 fun hp=>?_
 ((repeat refine qHs ?_);apply wls;exact zO hp O;rintro _ w1 ⟨db,rfl,hp⟩)
 refine qA ?_;refine xD O (fun h=>absurd h O2) (fun _=>qA ?_);refine tQ fun w2 sb hp=>?_;refine tS fun w3 hp=>?_;refine qA ?_;have xr:db≠sb:=fun e=>hp.dis 1 0 _ _ O O O1 db O (by rw[e];rfl)
 have qb:=by
  have:=hp.own 0 _ O sb O;exact mCe
 have bo:w3.cell? ⟨db,0+5,_⟩=some (.int _ 2):=hp.cell 1 O O;have bm:w3.cell? ⟨db,0+6,_⟩=some (.slice _ 1 1):=hp.cell 1 O O;have zk:=hp.has 0 _ O sb O
 (apply wls;exact qC O jG3 O (jWc 294 _ jR2 sb tb _ w3 (hT.j5 hp.C) (fun _ _ h hk=>hk.cell h O4) (fun w' hk=>zC8 sb db w' (by
  obtain⟨o,ho,hc⟩:=zk
  exact⟨o,by rw[hk.block sb (aT.1 ho).1 O4];exact ho,hc⟩) (hk.cell bo O4) xr)))
 rintro _ w4 ⟨rfl,qs,jt⟩;have bi:=hp.C.trans qs (by grind);have bq:=hT.j5 bi;have bp:=qs.cell bm (by grind);have hp:=Hp.start (M:=[]) (w:=w4);refine gA3 ?_;refine tC (zC7 tb _ O1) fun w5 hp=>?_;refine gA3 ?_;refine tC (qQv 50 0 100 _ O2 O2) fun w6 hp=>?_;refine tV ?_;exact⟨_,O,O,bi.trans hp.C O4⟩
set_option maxHeartbeats 4000000 in
theorem jWf(w:World):Rt 157 [] w (fun v w'=>∃b,v= .slice (Ad b) 12 12∧Keeps [] w w'∧ClAt w' b):=by
 refine tW func157 ntmps157 fun hp=>?_;refine qA ?_;refine tF (jC hp O O O O O O O) fun w1 b hp=>qA ?_;refine qM O O ⟨_,O,b,O,hp.C,?_,?_,?_⟩<;>
 ·intro i hi
  match i,hi with
  |0,_=>exact hp.cell 0 O O
  |1,_=>exact hp.cell 0 O O
  |2,_=>exact hp.cell 0 O O
  |3,_=>exact hp.cell 0 O O
  |4,_=>exact hp.cell 0 O O
  |5,_=>exact hp.cell 0 O O
  |6,_=>exact hp.cell 0 O O
  |7,_=>exact hp.cell 0 O O
  |8,_=>exact hp.cell 0 O O
  |9,_=>exact hp.cell 0 O O
  |10,_=>exact hp.cell 0 O O
  |11,_=>exact hp.cell 0 O O
theorem jX6(i:Nat)(hi:i<8):qI Tryz.prog (clT i):=by
 match i,hi with
 |0,_=>exact jGn
 |1,_=>exact jGm
 |2,_=>exact jGl
 |3,_=>exact jGk
 |4,_=>exact jGj
 |5,_=>exact jS2
 |6,_=>exact jS1
 |7,_=>exact jS0
theorem pCl(tb i:Nat)(hi:i<8)(w:World)(hT:TbAt w tb):Rt (clT i) [.agg (drL tb).toArray] w (fun v w'=>v=Iv 0∧Keeps [] w w'):=by
 match i,hi with
 |0,_=>exact zCj tb w
 |1,_=>exact zCi tb w
 |2,_=>exact zCh tb w
 |3,_=>exact zCg tb w
 |4,_=>exact zCf tb w
 |5,_=>exact zCe tb w
 |6,_=>exact zCd tb w
 |7,_=>exact zCc tb w hT
theorem jTi{i:Nat}(h:i<8):((!decide (clK i=0))&&(!decide (clK i=1)))=false:=by
 match i,h with
 |0,_=>rfl
 |1,_=>rfl
 |2,_=>rfl
 |3,_=>rfl
 |4,_=>rfl
 |5,_=>rfl
 |6,_=>rfl
 |7,_=>rfl
theorem jTj{i:Nat}(h:8≤i)(h2:i<12):((!decide (clK i=0))&&(!decide (clK i=1)))=true:=by
 match i,h,h2 with
 |8,_,_=>rfl
 |9,_,_=>rfl
 |10,_,_=>rfl
 |11,_,_=>rfl
set_option maxHeartbeats 4000000 in
theorem zCu(tb:Nat)(w:World)(hT:TbAt w tb):Rt 93 [.agg (drL tb).toArray] w (fun v w'=>v= .tuple #[.string ⟨#[]⟩,Iv 0]∧Keeps [] w w'):=by
 refine tW func93 ntmps93 fun hp=>?_
 ((repeat refine qHs ?_);apply wls;exact zO hp O;rintro _ w1 ⟨db,rfl,hp⟩)
 refine tL (jWf _) ?_;rintro _ w2 ⟨cb,rfl,uq,hP⟩;have hp:=hp.call uq;have ac:=hp.C;have bw:w2.cell? ⟨db,0+1,_⟩=some (.int _ 1):=hp.cell 0 O O;have b1:=hp.j4 (k:=13) (o:=0) 0 O O;clear hp uq;refine qA (qQ [2,3,5,6,9,10,11,12,13,14,15,16,17,18,19,20,21,22,23,24,25,26,27,28,29,30,31,32] (fun(i:Nat) F=>F.put 9 (.int _ i)) (fun i w'=>i≤12∧Keeps [] w2 w') (fun i=>12-i) 0 (qB (Same.eq .refl) O) ⟨O1,.refl⟩ ?_);rintro u i w ⟨hi,hk⟩;have hp:=Hp.r5 hk;refine tI (fun h=>?_) fun h=>?_
 ·have hl:i<12:=O1;have sY:=hP.name i hl;have qp:=hP.kind i hl;have gx:=hP.fn i hl;refine qA (tR (qL (vs:=[.string (clN i),Iv (clK i),.func (.func (clT i)) #[] #[]]) O O O O (fun j v hv=>hp.j7 (by match j,hv with|0,hv=>(cases hv;exact sY)|1,hv=>(cases hv;exact qp)|2,hv=>(cases hv;exact gx)))) ?_);refine tQ fun w4 b5 hp=>?_;refine tS fun w5 hp=>?_;have hp:=hp.norm 0 [.string _,.int _ _,.func _ _ _] O O;refine qA ?_;by_cases bz:i<8
  ·have hU:=jTi bz;refine xD O (fun bv=>absurd bv (by grind)) (fun bv=>qA (wlp (qL (vs:=drL tb) O O O O (fun j v hv=>hp.j7 (b1 j v hv))) O ?_));apply wls;exact qC O (jX6 i bz) O (pCl tb i bz _ (hT.j5 (ac.trans hp.C O4)));exact mCr
  have hU:=jTj O1 hl;refine xD O (fun bv=>tM (i+1) ?_) (fun bv=>absurd bv (by rw[hU];simp));refine qA ?_;exact⟨_,qB O5 O,⟨O1,hp.C⟩,O1⟩
 exact mE4
theorem zCt(tb:Nat)(w:World):Rk 94 [.agg (drL tb).toArray,Zs] w (.tuple #[Zs,Zs]):=by
 refine tW func94 ntmps94 fun hp=>?_
 ((repeat refine qHs ?_);apply wls;exact zO hp O;rintro _ w1 ⟨db,rfl,hp⟩)
 refine qA (tF (yS kInt hp) fun w2 mb hp=>?_);refine qA (qQ ([6,7,9,10,11]++range' 15 52) (fun(i:Nat) F=>((F.put 15 (.int _ i)).put 6 (.slice _ 0 0)).put 7 (.slice _ 0 0)) (fun i w'=>Keeps [] w w') (fun i=>0) 0 (qB (qB (qB (Same.eq .refl) O) O) O) hp.C ?_);rintro u i w2 hk;have hp:=Hp.r5 hk;refine qA ?_;refine qH O O1 (fun h=>qA ?_);exact mDl
theorem p54(tb:Nat)(w:World)(hT:TbAt w tb):Rk 31 [.agg (drL tb).toArray,Zs] w (Iv 0):=by
 refine tW func31 ntmps31 fun hp=>?_
 ((repeat refine qHs ?_);apply wls;exact zO hp O;rintro _ w1 ⟨db,rfl,hp⟩)
 refine tD (zCu tb _ (hT.j5 hp.C)) fun w2 hp=>?_;refine qA ?_;refine xD O (fun h=>absurd h O2) (fun _=>tD (zCt tb _) fun w3 hp=>?_);refine qA ?_;refine xD O (fun h=>absurd h O2) (fun _=>tV ?_);exact mB0
def qVa:ByteArray:=⟨#[10]⟩
def sNine:ByteArray:=⟨#[9]⟩
theorem qZq:bs [9]=sNine:=O3
theorem p57(tb:Nat)(w:World):Rk 34 [.agg (drL tb).toArray,Zs] w (.string qVa):=by
 refine tW func34 ntmps34 fun hp=>?_
 ((repeat refine qHs ?_);apply wls;exact zO hp O;rintro _ w1 ⟨db,rfl,hp⟩)
 refine qA ?_;refine qH O (fun _=>?_) O1;refine tD (c12 5 2 _ O1) fun w2 hp=>?_;exact mA0
theorem zCl(w:World):Rk 177 [.int .u8 9] w (Iv 4):=by
 refine tW func177 ntmps177 fun hp=>?_;refine qA (wlp (zY O O O (eK O3)) (qF (b:=4) O3) ?_);refine tV ?_;exact⟨_,O,qF O2,hp.C⟩
theorem zCs(w:World):Rk 108 [.string sNine] w (Iv 4):=by
 have hg:sNine.size=1:=O;have iz:bAt sNine 0=9:=O3;have b7:Rk 131 [.string sNine] w (.string sNine):=by
  have:=c65 [9] w (fun x hx=>by grind) O2;rw[qZq] at this;refine this.mono ?_;rintro v w' ⟨rfl,hk⟩;exact⟨aQ Value.string (show bs ([9].dropWhile (·==0))=sNine from qZq),hk⟩
 have xr:sNine≠⟨#[]⟩:=by
  intro h;have:=aQ ByteArray.size h;rw[hg] at this;cases this
 refine tW func108 ntmps108 fun hp=>?_;refine tD b7 fun w2 hp=>?_;refine qA (qH O (fun h=>absurd h xr) (fun _=>?_));refine gA4 ?_;refine wlp (jN O O) (qF (b:=0) (by rw[hg];decide)) (wlp (vD O O) (qF (b:=0) O2) ?_);refine jM (wlp (zY (i:=0) O O O O1) (qF iz) ?_);refine tC (zCl _) fun w3 hp=>?_;refine wlp (qO O O) (qF (b:=4) O2) (tV ?_);exact mB0
theorem p58(w:World):Rk 35 [.string qVa] w (Iv 4):=by
 refine tW func35 ntmps35 fun hp=>?_;refine tD (c13 1 _ O2) fun w2 hp=>?_;refine tC (c49 10 1 _ (Fit.small O2) (Fit.small O2)) fun w3 hp=>?_;refine tD (zCs _) fun w4 hp=>?_;exact mA0
def plL:List Value:=[Iv 1,.string qVa,Iv 4,Zs,Zs,Zs]
theorem p17(tb:Nat)(w:World)(hT:TbAt w tb):Rk 7 [.agg (drL tb).toArray,Zs] w (.tuple #[.agg plL.toArray,Iv 0]):=by
 refine tW func7 ntmps7 fun hp=>?_
 ((repeat refine qHs ?_);apply wls;exact zO hp O;rintro _ w1 ⟨db,rfl,hp⟩)
 refine tQ fun w2 b4 hp=>?_;refine tD (p54 tb _ (hT.j5 hp.C)) fun w3 hp=>?_;refine qA ?_;refine xD O (fun h=>absurd h O2) (fun _=>qA ?_);refine tQ fun w4 b7 hp=>?_;refine tS fun w5 hp=>?_;refine qA ?_;refine qH O O1 (fun _=>tD (p57 tb _) fun w6 hp=>?_);refine tT fun w7 hp=>?_;refine tD (p58 _) fun w8 hp=>?_;refine tT fun w9 hp=>?_;refine qR (wlp (qL (vs:=plL) O O O O (hp.j4 (k:=6) (o:=0) 0 O O)) O ?_);refine tS fun ur hp=>?_;exact mE8
end Go.Proofs.YtplkndjlfkkjlaaGreatDoor
