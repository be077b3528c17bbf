/- Merged texts of ours; conditions are the hypotheses of each law. -/
import Derived.Test.YtplkndjlfkkjlaaGreatDoorP6
namespace Go.Eng
open List (range range' replicate)
open Go.Proofs.Tryz
set_option maxHeartbeats 4000000
attribute [local irreducible] PV gx kq kn WP km Fit
section
attribute [local irreducible] ki Ah Ab
theorem QJ(z w)(h1:Fit z.2.1)(h2:Fit z.2.2):Rk 141 [.agg (By z).toArray,.string (ki z.2.1),.string (ki z.2.2)] w (.bool true):=by
 refine tW func141 ntmps141 fun hp=>?_;refine qR (tF (kW (cs:=By z) (m:=3) hp O O O) fun w1 zb hp=>?_);refine tD (BY _ _ _ h1 h1) fun w2 hp=>?_;rw[IF];refine tE (BY _ _ _ h2 h2) fun w3 hp=>?_;rw[IF];exact Hb
theorem r17(a d){T P B}(s c N m lv X W)(hA:Ak d T P B s X W)(hK:Aa d T P B X)(h4:X.length≤4)(hP:Cy d X a N m lv W):
  Rk 17 [d.v,.slice s X.length c,.agg (a.L d.kd N m.length lv.length (AK N)).toArray] W (Iv 0):=by
 have hf:=hP.fit;refine tW func17 ntmps17 fun hp=>?_;refine qR ?_;refine tQ fun w1 b3 hp=>?_;have hp:=hp.I 0 d.L O O;refine tQ fun w2 b5 hp=>?_;have hp:=hp.I 0 (a.L _ N _ _ _) O O;have hp:Hp W [] w2 [bu b5 6 _ 39,bu b3 13 _ 28]:=hp;refine qR ?_;refine tR qY (qR ?_);refine ke (qL O O O O (hp.i6 1 O O)) (O:_=d.v) (ke qP (O:_=Value.slice s _ c) ?_);refine ke (qL O O O O (hp.i6 0 O O)) O (ke (HS (zs:=EM) (pl:=[(0,13),(13,1),(14,6)]) (pl':=[]) underlying132 (qJ O) (fun w=>O3) O O O) (O:_=Value.agg (AV a d s c _ N m lv).toArray) ?_);refine tF (zE (cs:=EM) (m:=20) hp (qJ O) O O) fun w4 cb hp=>tO (zH (cs:=(AV a d s c _ N m lv)) hp 0 O O O O (qD O) O O) fun w5 hp=>?_;have hp:=hp.I 0 (AV a d s c _ N m lv) O O;have hp:Hp W [] w5 [bu cb 20 _ 132,_,_]:=hp;refine qR (ke (qL O O O O (hp.i6 0 O O)) O ?_);refine tC (X2 a d s c N m lv X _ (hA.j1 hp.Z) hK) fun w6 hp=>?_;refine AL ?_;refine xI O O1 (fun _=>qR ?_);refine ke (yH O O O O) (O:_=Value.agg [_,Value.func (.func 61) _ _,Value.func (.func 61) _ _,Value.func (.func 62) _ _].toArray) (tF (zE (cs:=[_,_,_,_]) (m:=4) hp (qJ O) O O) fun w7 fb hp=>?_);refine tO (zH (cs:=[_,_,_,_]) hp 0 O O O O (qD O) O O) fun w8 hp=>?_;have hp:=hp.I 0 [.nilFunc,.func _ _ _,.func _ _ _,.func _ _ _] O O;have hp:Hp W [] w8 [bu fb 4 _ 135,_,_,_]:=hp;refine qR (uD (range' 26 6++[10]) (fun(_:Unit) F=>F.put 10 (Iv 0)) (fun _ w'=>Hp W [] w' [bu fb 4 (qE [.nilFunc,.func (.func 61) #[] #[],.func (.func 61) #[] #[],.func (.func 62) #[] #[]]) 135,bu cb 20 (qE (AV a d s c X.length N m lv)) 132,bu b5 6 (qE (a.L d.kd N m.length lv.length (AK N))) 39,bu b3 13 (qE d.L) 28]) ?_ ?_)
 ·rcases hK.d.kd with hk|hk|hk
  ·refine jW jG O3 (fun w'=>Hp W [] w' _) hp.U ?_;have hp:=hp.U;refine qX ?_;refine tP (fun w hp=>jS (i:=1) O O (aK _ hk) O2) ?_;exact mDh
  ·refine jW jG O3 (fun w'=>Hp W [] w' _) hp.U ?_;have hp:=hp.U;refine qX ?_;refine tP (fun w hp=>jS (i:=2) O O (aK _ hk) O2) ?_;exact mDh
  refine jW jG O3 (fun w'=>Hp W [] w' _) hp.U ?_;have hp:=hp.U;refine qX ?_;refine tP (fun w hp=>jS (i:=3) O O (aK _ hk) O2) ?_;refine qX ?_;refine tK (r62 a d s c N m lv X _ (hA.j1 hp.Z) hK h4 hk (hP.j1 hp.Z)) ?_;exact mB3
 rintro u ⟨⟩ w9 hp;refine qA (qN O ?_);refine qR (ke (qL O O O O (hp.i6 1 O O)) O ?_);refine tC (X1 (T:=T) (P:=P) (B:=B) a d s c N m lv X _ hf) fun uy hp=>?_;exact KK
end
section
attribute [local irreducible] ki Ah Ab
theorem r78(a d s c n0 x κ s' c' m lv){F}(W)(hM:Aj F κ m)(hκ:κ≤6000000000)(hA:DI a m W)(hx:x<Ab m)(hs:ig W 3 By s' [IK (Ah m) m.length x]):
  Rk 78 [.agg (AV a d s c n0 (Ab m) m lv).toArray,.string (ki x),.slice s' 1 c'] W (.bool true):=by
 have hm:x<sN (Ah m) m.length:=by rw[hM.tot];exact hx
 have us:Fit x:=(hM.v7 hκ).le O1;have h7:=hA.N;have hj:=hA.cN;have hh:=hM.len;obtain⟨-,yv,uw,uv⟩:=IE _ x _ 0 (bL _) (by rw[gF];exact hm);have hs:ig W 3 By s' [((AZ (Ah m) x 0 m.length:Nat),sN _ _,Ah m _)]:=hs;generalize AZ _ x 0 _=q at yv uw uv hs;have hK:q<m.length:=O1;have uv:x<_+_:=uv;obtain⟨sb,so,rfl,u1⟩:=hs.base O4;have ht:=u1 0 _ O;have hE:=hM.y4 hκ (oV hK);have h8:=hM.r5 hκ hK;have hq:Fit (_+_):=hM.y4 hκ hK;have d1:decide ((q:Int)<0)=_:=aB O1;have d2:decide ((q:Int)≥m.length)=_:=aB O1;refine tW func78 ntmps78 fun hp=>?_;refine qR (tF (kW (cs:=AV a d s c n0 _ m lv) (m:=20) hp O O O) fun w1 cb hp=>?_);have hp:Hp W [] w1 [bu cb 20 _ 132]:=hp;refine qA (qN O ?_);refine AP ?_;refine tR (zA (i:=0) O O O O O2) (ke (qL O O O O (fun j v hv=>hp.j3 (ht j v hv))) O ?_);refine tQ fun w2 tb hp=>?_;refine tS fun w3 hp=>?_;have hp:=hp.I 0 (By _) O O;have hp:Hp W [] w3 [bu tb 3 _ 146,_]:=hp;refine jL ?_;rw[d1];refine jL ?_;rw[d2];refine E0 ?_;refine tC (Aw 0 _ O2) fun w4 hp=>?_;refine qA ?_;refine tR (NJ O O O O1) ?_;refine qA (qQ ([8,10]++range' 38 8) (fun k F=>(F.put 8 (.string (ki (sN (Ah m) k)))).put 38 (.int _ k)) (fun k w'=>k≤q∧Hp W [] w' _) (fun k=>q-k) 0 (qB (qB (ka.eq .refl) O) O) ⟨O1,hp⟩ ?_);clear hp;rintro u k w5 ⟨hk,hp⟩;refine tI (fun h=>?_) fun h=>?_
 ·have hl:k<q:=O1;obtain⟨bn,on,ha,hg⟩:=jR h7 (show k<m.length by omega);have hn:=hg 0 _ O;refine tD (Eh _ _ _ (hM.y4 hκ (k:=k) O1) (hM.r5 hκ (k:=k) O1)) fun w6 hp=>?_;exact FL
 obtain rfl:k=q:=O1;have⟨bn,on,ha,hg⟩:=jR h7 hK;have hn:=hg 0 _ O;refine tD (QJ _ _ hE h8) fun w6 hp=>?_;refine tE (BY _ x _ hE us) fun w7 hp=>?_;apply vX;rfl;rfl;exact uG O O;exact qV (aD O1);refine tE (Eh _ _ _ hE h8) fun w8 hp=>?_;refine tC (BY x _ _ us hq) fun w9 hp=>?_;apply vX;rfl;rfl;exact zQ O O;exact qV (aD O1);exact Hb
end
section
theorem zNe(po:Nat)(S:List Int)(i:Nat):DP po S (i+1)=DP po S i+JB po S i:=by
 have e1:(if i=0 then 0 else S.getD (i-1) 0)=Cr S i:=by
  cases i with
  |zero=>rfl
  |succ i=>rfl
 have e2:(S.length:Int)-i-1=S.length-1-i:=O1;show DP po S i+AE po _ _ _=_
 rw[e1,e2];rfl
theorem W9(p S i):∀j,DP p S i≤DP p S (i+j)
 |0=>aS _
 |j+1=>bF (W9 p S i j) (nH _ _)
theorem Q9:∀{l:List Int} {b p:Int} {q:Nat} {z:Int},0≤b→C5 p b l→l[q]? =some z→0≤z
 |[],_,_,_,_,_,_,h=>O6
 |t::l,b,p,0,z,hb,hI,h=>by cases h;have:=hI.1;omega
 |t::l,b,p,q+1,z,hb,hI,h=>Q9 (l:=l) (b:=t) (q:=q) (by have:=hI.1;omega) hI.2.2 h
attribute [local irreducible] ki AE un DP
theorem r76(a d){T}(s c n0 N x s' c' m lv W)(hL:Ho d T)(hx:x<ch d.po.toNat d.pi.toNat)(hs:ig W 3 By s' (lm (un d.po.toNat d.po.toNat d.pi.toNat x).length (Ev d.po.toNat (un d.po.toNat d.po.toNat d.pi.toNat x)))):
  Rk 76 [.agg (AV a d s c n0 N m lv).toArray,.string (ki x),.slice s' (un d.po.toNat d.po.toNat d.pi.toNat x).length c'] W (.bool true):=by
 obtain⟨po,hpo⟩:∃po:Nat,d.po=po:=⟨d.po.toNat,by have:=hL.po;omega⟩;obtain⟨pi,ha⟩:∃pi:Nat,d.pi=pi:=⟨d.pi.toNat,by have:=hL.pi;omega⟩;have h3:=hL.po;have a6:=hL.pi;rw[hpo,ha] at hx hs⊢;simp[dW] at hx hs⊢
 have us:=Fit.of (dK hx (by
  have:=MT (n:=po) (k:=pi) O1
  rwa[Gx O1] at this)) O2
 have h4:=IB po po pi x hx;have zh:=ID po po pi x O1;rw[gZ] at zh;have hz:=zPt O1 hx
 have xu:=fun i hi=>us.le (by
  have:=W9 po (un po po pi x) i ((un po po pi x).length-i)
  rwa[Nat.add_sub_cancel' hi,hz] at this)
 generalize un po po pi x=S at h4 zh hz xu hs⊢;refine tW func76 ntmps76 fun hp=>?_;refine qR (tF (kW (cs:=AV a d s c n0 N m lv) (m:=20) hp O O O) fun w1 cb hp=>?_);have hp:Hp W [] w1 [bu cb 20 _ 132]:=hp;refine qR ?_;refine tR qY (qR ?_);refine jW jG O3 (fun w'=>Hp W [] w' _) hp.U ?_;have hp:=hp.U;refine qX (qU ?_);refine qA ?_;refine xI O O1 (fun _=>tD (Aw 0 _ O2) fun w2 hp=>?_);have hp:=hp;refine qA (qQ ([6,9,10,11,12,13,14]++range' 28 53) (fun i F=>((F.put 9 (.string (ki (DP po S i)))).put 10 (.int _ (Cr S i))).put 28 (.int _ i)) (fun i w'=>i≤S.length∧Hp W [] w' _) (fun i=>S.length-i) 0 (qB (qB (qB (ka.eq .refl) (aK (fun z=>Value.string _) (show 0=DP po S 0 by unfold DP;rfl))) O) O) ⟨O1,hp⟩ ?_);clear hp;rintro u i w4 ⟨hi,hp⟩;refine tI (fun h=>?_) fun h=>?_
 ·have hl:i<S.length:=O1;obtain⟨y,hy⟩:∃y,S[i]? =some y:=⟨_,aA hl⟩;have o1:S.getD i 0=y:=by rw[aC,hy];rfl
  have bR:=K9 zh hy;have zg:0≤Cr S i:=by
   unfold Cr;cases i with
   |zero=>simp
   |succ i=>
    rw[nF];have hj:i<S.length:=O1;rw[aC,aA hj];exact Q9 O1 zh (aA _)
  have h6:Cr S i<y∧_:=bR;have h5:Cr S (i+1)=y:=by unfold Cr;rw[nF,o1]
  have hm:=WS (N:=po) O1 zg O1;rw[o1] at hm;have pg:=zNe po S i;have hn:=xu i hi;obtain⟨b0,oP⟩:∃b0,b0=Cr S i:=⟨_,O⟩;obtain⟨k,hk⟩:∃k:Int,k=S.length-1-i:=⟨_,O⟩;have xy:Ev po S i=(y,AE po b0 k (y-b0-1).toNat,AO (po-y) k):=by unfold Ev JB;rw[o1,←oP,←hk]
  have hD:JB po S i=AE po b0 k (y-b0-1).toNat:=by unfold JB;rw[o1,←oP,←hk]
  rw[hD] at pg;rw[←oP] at h6 zg hm⊢;rw[←hk] at hm;have⟨gs,os,hF,u1⟩:=jR hs hl;rw[xy] at u1;have d1:decide (y≤b0)=_:=aB O1;have d2:decide (y>d.po)=_:=aB O1;have h9:Fit (AO (po-y) k):=Fit.of (IC O1) O2;refine qA (ke (qL O O O O (fun j v hv=>hp.j3 (u1 j v hv))) O ?_);refine tQ fun w5 tb hp=>?_;refine jM ?_;refine tS fun w6 hp=>?_;have hp:=hp.I 0 (By _) O O;have hp:Hp W [] w6 [bu tb 3 _ 146,_]:=hp;refine jL ?_;rw[d1];refine jL ?_;rw[d2];refine E0 ?_;refine tC (Aw 0 _ O2) fun w7 hp=>?_;refine qA ?_;refine ke (qO O O) (qF (qK O1 O1)) (qA ?_);have hp:=hp;refine qQ ([13,14]++range' 46 16) (fun t F=>(F.put 13 (.string (ki (AE po b0 k t)))).put 14 (.int _ (b0+1+t))) (fun t w'=>b0+1+t≤y∧Hp W [] w' _) (fun t=>(y-(b0+1+t)).toNat) 0 (qB (qB (ka.eq .refl) (aK (fun z=>Value.string _) (show 0=AE po b0 k 0 by unfold AE;rfl))) (aK (Value.int _) O1)) ⟨O1,hp⟩ ?_;clear hp;rintro u2 t w8 ⟨ht,hp⟩;have hq:AE po b0 k (t+1)=AE po b0 k t+AO (po-(b0+1+t)) k:=by
   rw[Xn];congr 2;omega
  refine tI (fun h2=>?_) fun h2=>?_
  ·have hE:=hm t O1;have hh:=hm (t+1) O1;rw[hq] at hh;refine qA ?_;refine ke (jN O O) (qF (b:=po-(b0+1+t)) (by rw[hpo];exact qK O1 O1)) (jM ?_);refine ke (jN O O) (qF (b:=pi-1) (by rw[ha];exact qK O1 O1)) (jM ?_);refine ke (jN O O) (qF (b:=k) (by rw[qK O1 O1];omega)) (tC (Bz (po-(b0+1+t)) k _ O1) fun w9 hp=>?_);refine tC (Eh _ _ _ hE (hh.le (Rp _ _))) fun uy hp=>?_;exact mCg
  have h7:t=(y-b0-1).toNat:=O1;have hE:=hm t O1;rw[←h7] at hp pg⊢;refine qR ?_;refine jW jG O3 (fun w'=>Hp W [] w' _) hp.U ?_;have hp:=hp.U;refine qX ?_;refine kp O (fun w hp=>jN O O) (qF (b:=po-y) (by rw[hpo];exact qK O1 O1)) (qX ?_);refine kp O (fun w hp=>jN O O) (qF (b:=pi-1) (by rw[ha];exact qK O1 O1)) (qX ?_);refine kp O (fun w hp=>jN O O) (qF (b:=k) (by rw[qK O1 O1];omega)) (tK (Bz (po-y) k _ O1) ?_);rintro _ w9 ⟨rfl,hg⟩;refine⟨hp.V hg,?_⟩;have hp:=hp.V hg;refine tK (QJ _ _ hE h9) ?_;rintro _ uy ⟨rfl,h8⟩;refine⟨hp.V h8,?_⟩;have hp:=hp.V h8;refine qX (qU ?_);refine tJ ?_;refine tC (Eh _ _ _ hn hE) fun uz hp=>?_;rw[←pg];refine Ck ?_;exact⟨_,qB (qB O5 (aK _ h5.symm)) O,⟨O1,hp.E⟩,O1⟩
 obtain rfl:i=S.length:=O1;rw[hz];exact mDr
end
variable{n:Nat}
section
def DK(S:List Int)(i:Nat):Nat→Nat
 |0=>0
 |z+1=>DK S i z+if(z:Int)∈S.take i then 0 else 1
theorem Xo(S i)(z:Nat):DK S i (z+1)=DK S i z+if(z:Int)∈S.take i then 0 else 1:=O
theorem WJ(S i):∀z,DK S i z≤z
 |0=>aS _
 |z+1=>by
  have:=WJ S i z;unfold DK;grind
def D1(S:List Int):Nat→Nat
 |0=>0
 |i+1=>D1 S i+B9 S i*uO (S.length-1-i)
theorem zMh(S i):D1 S (i+1)=D1 S i+B9 S i*uO (S.length-1-i):=O
theorem Xs(S i):∀j,D1 S i≤D1 S (i+j)
 |0=>aS _
 |j+1=>bF (Xs S i j) (nH _ _)
def VN(n:Nat):Bool:=(range (uO n)).all fun x=>decide (D1 (Al n x) n=x)&&(range n).all fun i=>decide (DK (Al n x) i ((Al n x).getD i 0).toNat=B9 (Al n x) i)
structure Bal(n:Nat):Prop where
 sum:∀x,x<uO n→D1 (Al n x) n=x
 les:∀x,x<uO n→∀i,i<n→DK (Al n x) i ((Al n x).getD i 0).toNat=B9 (Al n x) i
theorem K7(h:VN n=true):Bal n:=by
 unfold VN at h;simp only[aJ,dV,dO,aR] at h;exact⟨fun x hx=>(h x hx).1,fun x hx i hi=>(h x hx).2 i hi⟩
theorem zRw:∀n,n≤4→Bal n
 |0,_=>K7 O3
 |1,_=>K7 O3
 |2,_=>K7 O3
 |3,_=>K7 O3
 |4,_=>K7 O3
 |n+5,h=>absurd h O1
attribute [local irreducible] ki DK D1 B9 Al uO AQ
theorem r77(a d s c n N x s' c' m lv W)(h4:n≤4)(hx:x<uO n)(hs:ig W 3 By s' (lm (Al n x).length (Ey (Al n x)))):
  Rk 77 [.agg (AV a d s c n N m lv).toArray,.string (ki x),.slice s' (Al n x).length c'] W (.bool true):=by
 have hB:=zRw n h4;have hq:=hB.sum x hx;have h5:=hB.les x hx;have hO:=Ld ((QQ n h4).ok x hx);have h9:=MS h4;have hj:∀z,z≤100→Fit z:=fun z hz=>Fit.of (k:=7) O1 O2
 generalize Al n x=S at hs hq h5 hO⊢;have⟨hg,xo,df⟩:=hO;have ha:∀i,i≤n→D1 S i≤24:=fun i hi=>by
  have:=Xs S i (n-i);grind
 refine tW func77 ntmps77 fun hp=>?_;refine qR (tF (kW (cs:=AV a d s c n N m lv) (m:=20) hp O O O) fun w1 cb hp=>?_);have hp:Hp W [] w1 [bu cb 20 _ 132]:=hp;refine qA ?_;refine xI O O1 (fun _=>tD (Aw 0 _ O2) fun w2 hp=>?_);refine qA ?_;refine tF (yE Ay _ hp O O O O O O O O1 O) fun w3 g⟨hv,hp⟩=>?_;rw[←Re] at hv hp;have sa:∀l,kg _ n (AQ n l):=fun l=>jZ hv (by rw[Fy,Fy])
 have hp:Hp W [] w3 [qG _ 4 1 _ n (AQ n (S.take 0)),_]:=hp;refine qA (qQ ([6,8,10,11,12,13,14,15]++range' 28 56) (fun i F=>(F.put 8 (.string (ki (D1 S i)))).put 28 (.int _ i)) (fun i w'=>i≤n∧Hp W [] w' [qG _ 4 1 _ n (AQ n (S.take i)),_]) (fun i=>n-i) 0 (qB (qB (ka.eq .refl) (aK (fun z=>Value.string _) (show 0=D1 S 0 by unfold D1;rfl))) O) ⟨O1,hp⟩ ?_);clear hv;(repeat clear hp);rintro u i w4 ⟨hi,hp⟩;refine tI (fun h=>?_) fun h=>?_
 ·have hl:i<S.length:=O1;obtain⟨y,hy⟩:∃y,S[i]? =some y:=⟨_,aA hl⟩;have gz:=xo y (aG hy);obtain⟨k,rfl⟩:∃k:Nat,y=k:=⟨y.toNat,O1⟩;have hh:k<n:=O1;have o1:S.getD i 0=k:=by rw[aC,hy];rfl
  have vu:S.take (i+1)=S.take i++[(k:Int)]:=by rw[kZ,hy];rfl
  have yf:(k:Int)∉S.take i:=fun hm=>by
   have h1:(S.take i++[(k:Int)]).Nodup:=by rw[←vu];exact df.sublist (pY _ _)
   grind
  have ys:=h5 i O1;rw[o1,dW] at ys;obtain⟨f,hf⟩:∃f,f=uO (S.length-1-i):=⟨_,O⟩;have h8:f=uO (n-1-i):=by rw[hf,hg]
  have ht:f≤24:=by rw[h8];exact MS O1
  have xy:Ey S i=((k:Int),B9 S i*f,f):=by unfold Ey;rw[o1,←hf]
  have pg:D1 S (i+1)=D1 S i+B9 S i*f:=by rw[hf];exact zMh S i
  have h6:B9 S i≤4:=by have:=WK S i;omega
  have h7:=dE h6 ht;have⟨gs,os,hF,u1⟩:=jR hs hl;rw[xy] at u1;have d1:decide ((k:Int)<0)=_:=aB O1;have d2:decide ((k:Int)≥n)=_:=aB O1;refine qA (ke (qL O O O O (fun j v hv=>hp.j3 (u1 j v hv))) O ?_);refine tQ fun w5 tb hp=>?_;refine jM ?_;refine tS fun w6 hp=>?_;have hp:=hp.I 0 (By _) O O;have hp:Hp W [] w6 [bu tb 3 _ 146,_,_]:=hp;have x3:=zS hp 1 O (sa _) (fun _=>O) (Hw _ hh) 0 _ O;have x3:w6.cell? ⟨g,0+k*1,_⟩=_:=x3;rw[aB yf] at x3;refine jL ?_;rw[d1];refine jL ?_;rw[d2];refine jL (qN O ?_);clear x3;refine qA (qQ ([12,13]++range' 51 11) (fun z F=>(F.put 12 (.int _ (DK S i z))).put 51 (.int _ z)) (fun z w'=>z≤k∧Hp W [] w' _) (fun z=>k-z) 0 (qB (qB (ka.eq .refl) (aK (fun z:Nat=>Value.int _ z) (show 0=DK S i 0 by unfold DK;rfl))) O) ⟨O1,hp⟩ ?_);clear hp;rintro u2 z w7 ⟨hz,hp⟩;have qf:=WJ S i z;refine tI (fun h2=>?_) fun h2=>?_
  ·have hn:z<n:=O1;have x3:=zS hp 1 O (sa _) (fun _=>O) (Hw _ hn) 0 _ O;have x3:w7.cell? ⟨g,0+z*1,_⟩=_:=x3;refine qA (xI O (fun h3=>?_) (fun h3=>?_))
   ·have e:DK S i (z+1)=DK S i z+1:=by rw[Xo,if_neg h3]
    refine tM (DK S i z+1) ?_;rw[←e];refine tM (z+1) ?_;exact KJ
   have e:DK S i z=DK S i (z+1):=by rw[Xo,if_pos h3,fY]
   refine tM (z+1) ?_;refine qA ?_;exact⟨_,qB (qB O5 (aK (fun z:Nat=>Value.int _ z) e)) O,⟨O1,hp⟩,O1⟩
  obtain rfl:k=z:=O1;rw[ys];have yn:k<(AQ n (S.take i)).length:=by rw[Fy];exact hh
  refine qA (tO (zL _ _ k _ hp 1 O (sa _) yn O O (fun _=>O) O O (qD O)) fun w8 hp=>?_);have hp:Hp W [] w8 [_,_,_]:=hp;rw[Le _ hh,←vu] at hp;refine tM (n-1) ?_;refine jM ?_;refine tN (n-1-i) ?_;refine tC (Ik (n-1-i) _ O1) fun w9 hp=>?_;rw[←h8];refine tD (Aw (B9 S i:Nat) _ O1) fun uy hp=>?_;refine tD (Bc (B9 S i) f _ (hj _ O1) (hj _ O1)) fun uz hp=>?_;refine tD (QJ _ _ (hj (B9 S i*f) O1) (hj f O1)) fun u0 hp=>?_;refine qA (qN O ?_);have hb:=ha i hi;refine tD (Eh (D1 S i) (B9 S i*f) _ (hj _ O1) (hj _ O1)) fun u5 hp=>?_;rw[←pg];exact Mp
 obtain rfl:n=i:=O1;rw[hq];have us:=hj x O1;exact mDr
end
section
attribute [local irreducible] ki Ah Ab un uO
theorem r22(a d){T P B}(s c N m lv X W)(hA:Ak d T P B s X W)(hK:Aa d T P B X)(h4:X.length≤4)(hP:Cy d X a N m lv W)(x s' c')(hx:x<N)(hs:ig W 3 By s' (CB d X.length m x)):
  Rk 22 [d.v,.slice s X.length c,.agg (a.L d.kd N m.length lv.length (AK N)).toArray,.string (ki x),.slice s' (CB d X.length m x).length c'] W (.bool true):=by
 have hf:=hP.fit;have us:Fit x:=hf.le O1;refine tW func22 ntmps22 fun hp=>?_;refine qR ?_;refine tQ fun w1 b3 hp=>?_;have hp:=hp.I 0 d.L O O;refine tQ fun w2 b5 hp=>?_;have hp:=hp.I 0 (a.L _ N _ _ _) O O;have hp:Hp W [] w2 [bu b5 6 _ 39,bu b3 13 _ 28]:=hp;refine qR ?_;refine tR qY (qR ?_);refine ke (qL O O O O (hp.i6 1 O O)) (O:_=d.v) (ke qP (O:_=Value.slice s _ c) ?_);refine ke (qL O O O O (hp.i6 0 O O)) O (ke (HS (zs:=EM) (pl:=[(0,13),(13,1),(14,6)]) (pl':=[]) underlying132 (qJ O) (fun w=>O3) O O O) (O:_=Value.agg (AV a d s c _ N m lv).toArray) ?_);refine tF (zE (cs:=EM) (m:=20) hp (qJ O) O O) fun w4 cb hp=>tO (zH (cs:=(AV a d s c _ N m lv)) hp 0 O O O O (qD O) O O) fun w5 hp=>?_;have hp:=hp.I 0 (AV a d s c _ N m lv) O O;have hp:Hp W [] w5 [bu cb 20 _ 132,_,_]:=hp;refine qR (ke (qL O O O O (hp.i6 0 O O)) O ?_);refine tC (XU a d s c N m lv X _ (hA.j1 hp.Z) hK (hP.j1 hp.Z)) fun w6 hp=>?_;refine tE (BY x N _ us hf) fun w7 hp=>?_;apply vX;rfl;rfl;exact vE O O;exact qV (aB O1);refine jL (qN O ?_);refine qR ?_;refine ke (yH O O O O) (O:_=Value.agg ([_,.func (.func 76) _ _,.func (.func 77) _ _,.func (.func 78) _ _]).toArray) (tF (zE (cs:=[_,_,_,_]) (m:=4) hp (qJ O) O O) fun w8 fb hp=>?_);refine tO (zH (cs:=[_,_,_,_]) hp 0 O O O O (qD O) O O) fun w9 hp=>?_;have hp:=hp.I 0 [.nilFunc,.func _ _ _,.func _ _ _,.func _ _ _] O O;have hp:Hp W [] w9 [bu fb 4 _ 152,_,_,_]:=hp;refine qR ?_;rcases hK.d.kd with hk|hk|hk
 ·have hN:=(hP.tot O1).1;unfold BC at hN;rw[if_pos hk] at hN;have xy:CB d X.length m x=lm (un d.po.toNat d.po.toNat d.pi.toNat x).length (Ev d.po.toNat (un d.po.toNat d.po.toNat d.pi.toNat x)):=by unfold CB;rw[if_pos hk]
  rw[xy] at hs⊢;rw[qT];refine jW jG O3 (fun w'=>Hp W [] w' _) hp.U ?_;have hp:=hp.U;refine qX ?_;refine tP (fun w hp=>jS (i:=1) O O (aK _ hk) O2) ?_;refine qX ?_;refine tK (r76 a d s c _ N x s' c' m lv _ (hK.d.k1 hk) O1 (hs.i7 hp.Z)) ?_;exact UK
 ·have hN:=(hP.tot O1).1;unfold BC at hN;rw[if_neg O1] at hN;have xy:CB d X.length m x=lm (Al X.length x).length (Ey (Al X.length x)):=by unfold CB;rw[if_neg O1,if_pos hk]
  rw[xy] at hs⊢;rw[qT];refine jW jG O3 (fun w'=>Hp W [] w' _) hp.U ?_;have hp:=hp.U;refine qX ?_;refine tP (fun w hp=>jS (i:=2) O O (aK _ hk) O2) ?_;refine qX ?_;refine tK (r77 a d s c _ N x s' c' m lv _ h4 O1 (hs.i7 hp.Z)) ?_;exact UK
 obtain⟨lr,p,rfl,hG,ut,_⟩:=hP.pan hk;have xy:CB d X.length m x=[IK (Ah m) m.length x]:=by unfold CB;rw[if_neg O1,if_neg O1]
 rw[xy] at hs⊢;refine jW jG O3 (fun w'=>Hp W [] w' _) hp.U ?_;have hp:=hp.U;refine qX ?_;refine tP (fun w hp=>jS (i:=3) O O (aK _ hk) O2) ?_;refine qX ?_;refine tK (r78 a d s c _ x 5712200030 s' c' m lv _ hG.mix O2 (ut.j1 hp.Z) hx (hs.i7 hp.Z)) ?_;exact UK
end
section
theorem WV:∀(k x:Nat),x<10^(k+1)→(Lib.decDigits x).length≤k+1
 |0,x,h=>by
  rw[Lib.decDigits,dif_pos O1];simp
 |k+1,x,h=>by
  rw[Lib.decDigits];split
  ·simp
  have h2:=WV k (x/10) O1;grind
theorem zOu{x:Nat}(h:x<1000000000):(Lib.itoa (x:Int)).length≤9:=by
 have:=WV 8 x O1;unfold Lib.itoa;grind
theorem FR:dec 0=⟨#[48]⟩:=O3
theorem WZ(l):Lib.join [l] []=l:=by simp[Lib.join]
attribute [local irreducible] ki dec
theorem zRv(s c w):Rt 194 [.slice s 1 c] w (fun _ w'=>ax [] w w'):=by
 refine tW func194 ntmps194 fun hp=>?_;refine tM 0 ?_;refine qA (qQ ([2,3]++range' 7 21) (fun _ F=>(F.put 2 (.int _ 0)).put 3 (.int _ 0)) (fun _ w'=>ax [] w w') (fun _=>0) () (qB (qB (ka.eq .refl) O) O) hp.Z ?_);rintro u ⟨⟩ w1 hk;refine AL ?_;exact xK O ⟨_,O,hk⟩
theorem zRf(x:Nat)(w:World)(hT:Ai w)(hx:x<1000000000):Rk 142 [.string (ki x)] w (.string (dec x)):=by
 have hl:(dN x).length≤1:=Vs O1;have hd:(jY 256 x).length≤10000000000000:=bF (PN (k:=4) O2 O1) O2;by_cases h0:x=0
 ·subst h0;refine tW func142 ntmps142 fun hp=>?_;refine tL (GC 0 _ hd) ?_;rintro _ w1 ⟨s1,c1,rfl,fc,zy⟩;have hp:=hp.V zy;refine qA (jB O ?_);refine tV ?_;exact⟨_,O,aK _ FR.symm,hp.Z⟩
 have xr:(dN x).length=1:=by
  have:(dN x).length≠0:=fun e=>h0 (RF.1 e)
  omega
 refine tW func142 ntmps142 fun hp=>?_;refine tL (GC x _ hd) ?_;rintro _ w1 ⟨s1,c1,rfl,fc,zy⟩;have hp:=hp.V zy;refine qA ?_;refine qH O O1 (fun _=>?_);have hp:=hp.j7 eS 9 1;refine qA (qQ ([3,4,5,6]++range' 12 24) (fun st F=>(F.put 3 (.slice st.1.1 st.1.2.1 st.1.2.2)).put 4 (.slice st.2.1 st.2.2.1 st.2.2.2)) (fun st w'=>(st=((s1,(dN x).length,c1),(none,0,0))∧Hp w [] w' _∧DA w' x s1 c1)∨(st.1.2.1=0∧st.2.2.1=1∧kg st.2.1 st.2.2.2 [dec x]∧Hp w [] w' [qG eS 9 1 st.2.1 st.2.2.2 [dec x]])) (fun st=>st.1.2.1) _ (qB (qB (ka.eq .refl) O) O) (.inl ⟨O,hp,fc⟩) ?_);clear hp;rintro u ⟨⟨sL,nL,cL⟩,⟨sA,nA,cA⟩⟩ w2 (⟨e,hp,yq⟩|⟨e1,e2,hv,hp⟩)
 ·cases e;refine qA ?_;refine qH O (fun h=>tL (c74 x 1000000000 s1 c1 _ O1 O1 O2 O2) ?_) (fun h=>absurd (show((dN x).length:Int)>0 by omega) h);rintro _ w3 ⟨s2,c2,rfl,yr,zx⟩;have hp:=hp.V zx;rw[iB hx,aZ hx];refine qA ?_;rw[show IntKind.i64.wrap _=x from qK O1 O1];refine tC (PR x _ (hT.j1 hp.Z) O1 O1) fun w4 hp=>?_;refine AL ?_;refine tF (jC (cs:=[.string _]) hp O O O O O O O) fun w5 nb hp=>AB (jV eS [] _ hp 1 0 O O O O O O (fun _=>O) O O O .nil O O O2) fun w6 s4 c4⟨xg,hp⟩=>?_;have hp:=hp.E;refine qA ?_;exact⟨((s2,0,c2),(s4,1,c4)),qB O5 O,.inr ⟨O,O,xg,hp⟩,O6⟩
 subst e1 e2;refine qA (qN O ?_);obtain⟨g,rfl⟩:=hv.addr O4;refine tL (zRv _ cA _) ?_;rintro _ w3 zx;have hp:=hp.V zx
 have eb:=Xz _ ⟨#[]⟩ g 0 cA w3 (qZ hp 0 O hv (fun _=>O)) (hp.lt (i:=0) O O) O4 (hv.cap) (by
  have:=zOu hx;show(Lib.join [(dec x).data.toList] []).length≤_
  rw[WZ];unfold dec;grind)
 have ej:⟨(Lib.join ([dec x].map (·.data.toList)) (⟨#[]⟩:ByteArray).data.toList).toArray⟩=dec x:=by
  show(⟨(Lib.join [(dec x).data.toList] []).toArray⟩:ByteArray)=dec x
  rw[WZ]
 rw[ej] at eb;refine tD eb fun w4 hp=>?_;exact nj
end
section
theorem zOj(n):QV ((n:Nat):Rat)= .agg [.bool false,.string (ki n),.string (ki 1)].toArray:=by
 rfl
theorem zOq(h:n<1000000000):FQ ((n:Nat):Rat):=⟨Fit.of (k:=30) (by
 show((n:Int).natAbs)<_
 omega) O2,Fit.of (k:=1) O4 O2⟩
attribute [local irreducible] ki dec QV
theorem XT(n w)(hT:Ai w)(hn:n<1000000000):Rk 79 [QV ((n:Nat):Rat)] w (.string (dec n)):=by
 have eb:=fun w'=>EO w' (zOq hn)
 rw[zOj] at eb⊢;refine tW func79 ntmps79 fun hp=>?_;refine qR (tF (kW (cs:=[_,_,_]) (m:=3) hp O O O) fun w1 tb hp=>?_);refine tD (eb _) fun w2 hp=>?_;refine tS fun w3 hp=>?_;refine tD (zRf n _ (hT.j1 hp.Z) hn) fun w4 hp=>?_;refine qA ?_;refine tJ (xI O (absurd jYz) (fun _=>?_));exact nj
end
variable{i:Nat}{ks:List ByteArray}
section
def EG(R:List ByteArray)(l:List Int):Nat→Nat
 |0=>0
 |i+1=>EG R l i+if Ce R (dec (l.getD i 0))=true then 1 else 0
theorem Wz(R l):∀i,EG R l i≤i
 |0=>aS _
 |i+1=>by
  have:=Wz R l i;unfold EG;grind
theorem W6(R l i):EG R l (i+1)=EG R l i+if Ce R (dec (l.getD i 0))=true then 1 else 0:=O
def BH(d:DW)(T:List (Int×Int))(x:EN)(k:Nat)(R:List ByteArray):Bool:=
 if d.kd=2 then !decide (R.getD k Bj=Bj)
 else if d.kd=3 then Ce R (dec x.e.id)
 else T.any fun t=>decide (t.1=(EG R x.Pk x.Pk.length:Int))
theorem zM8{k:ByteArray}(h:ks[i]? =some k):(fun a=>decide (a=k)||Ce (ks.take i) a)=fun a=>Ce (ks.take (i+1)) a:=by
 funext a;unfold Ce;rw[kZ,h,iA];grind
attribute [local irreducible] ki dec QV Ce EG
theorem r23(d:DW){T:List (Int×Int)}{P:List (ByteArray×Int)}{B:List Int}(s:Option Addr)(c k:Nat)(s':Option Addr)(c':Nat)(R:List ByteArray)(X:List EN)(x:EN)(W:World)(hT:Ai W)(hA:Ak d T P B s X W)(hK:Aa d T P B X)(hx:X[k]? =some x)(hR:ig W 1 eS s' R)(xk:R.length≤1000)(zw:d.kd=2→k<R.length)(h9:x.e.id<1000000000):
  Rk 23 [d.v,.slice s X.length c,Iv (k:Int),.slice s' R.length c'] W (.bool (BH d T x k R)):=by
 have hS:=(aI.1 hx).1;have v1:=aG hx;have ha:=hK.e x v1;have ys:=hK.l;have⟨bE,oE,xi,xl⟩:=hA.l.base O6;have yj:=xl k _ (by rw[bH,hx];rfl);refine tW func23 ntmps23 fun hp=>?_;refine qR ?_;refine tQ fun w1 b4 hp=>?_;have hp:=hp.I 0 d.L O O;have hp:Hp W [] w1 [bu b4 13 _ 28]:=hp;refine tI (fun h2=>?_) fun h2=>?_
 ·have h7:=zw h2;have d0:decide ((k:Int)<R.length)=_:=aD O1;have⟨bR,oR,hD,h6⟩:=hR.base O1;have hq:=h6 k _ (aA h7) 0 _ O;have h4:R.getD k Bj=R[k]:=by rw[aC,aA h7];rfl
  have hM:BH d T x k R= !decide (R[k]=Bj):=by unfold BH;rw[if_pos h2,h4]
  rw[hM];refine jL ?_;rw[d0];exact Hb
 refine qA (tF (yS nk hp) fun w2 mb hp=>?_);have hp:Hp W [] w2 [yA nk mb (uE fun a=>Ce (R.take 0) a),bu b4 13 (qE d.L) 28]:=by
  rw[PL _ (fun a=>by unfold Ce;rfl)];exact hp
 refine qA (qQ ([11]++range' 34 7) (fun(i:Nat) F=>F.put 34 (.int _ i)) (fun i w'=>i≤R.length∧Hp W [] w' [yA _ mb (uE fun a=>Ce (R.take i) a),_]) (fun i=>R.length-i) 0 (qB (ka.eq .refl) O) ⟨O1,hp⟩ ?_);clear hp;rintro u i w3 ⟨hi,hp⟩;refine tI (fun h=>?_) fun h=>?_
 ·have hl:i<R.length:=O1;obtain⟨y,hy⟩:∃y,R[i]? =some y:=⟨_,aA hl⟩;have⟨bR,oR,hD,h6⟩:=hR.base O1;have eu:W.cell? ⟨bR,oR+i*1,_⟩=_:=h6 i y hy 0 _ O;refine qA (tO (G0 hp 0 O O O O (kV O).1 (kV (t:=153) O).2.1) fun w4 hp=>?_);rw[zM8 hy] at hp;exact Jm
 obtain rfl:i=R.length:=O1;rw[dF] at hp;have hp:=hp;clear h hi;refine tI (fun h3=>?_) fun h3=>?_
 ·have hM:BH d T x k R=Ce R (dec x.e.id):=by unfold BH;rw[if_neg h2,if_pos h3]
  rw[hM];have hid:=ha.id;obtain⟨n,hn⟩:∃n:Nat,x.e.id=n:=⟨x.e.id.toNat,O1⟩;have x3:=yj 0 _ O;rw[hn] at x3 hid h9⊢;refine tD (EP n _ O1) fun w4 hp=>?_;refine tC (XT n _ (hT.j1 hp.Z) O1) fun w5 hp=>ke (Dw hp 0 O O O (kV O).1 (kV (t:=153) O).2.1 (kV (t:=153) O).2.2) (FK _ _) ?_;exact nj
 have zy:d.kd=1:=by rcases hK.d.kd with h|h|h;exact h;exact absurd h h2;exact absurd h h3
 have hM:BH d T x k R=T.any fun t=>decide (t.1=(EG R x.Pk x.Pk.length)):=by unfold BH;rw[if_neg h2,if_neg h3]
 rw[hM];have hL:=hK.d.k1 zy;have hpo:=hL.po;have hg:=hL.pi;have hY:=hL.l;have⟨zf,zk⟩:=ha.k1 zy;have u1:=yj 3 _ O;rw[ha.mP] at u1;have ut:=(hA.e x v1).P;refine qA (qQ ([12,14]++range' 59 12) (fun i F=>(F.put 12 (.int _ (EG R x.Pk i))).put 59 (.int _ i)) (fun i w'=>i≤x.Pk.length∧Hp W [] w' _) (fun i=>x.Pk.length-i) 0 (qB (qB (ka.eq .refl) (aK (fun z:Nat=>Value.int _ z) (show 0=EG R _ 0 by unfold EG;rfl))) O) ⟨O1,hp⟩ ?_);clear hp;rintro u2 i w4 ⟨hi,hp⟩;have hE:=Wz R x.Pk i;refine tI (fun h=>?_) fun h=>?_
 ·have hl:i<x.Pk.length:=O1;obtain⟨y,hy⟩:∃y,x.Pk[i]? =some y:=⟨_,aA hl⟩;have o1:x.Pk.getD i 0=y:=by rw[aC,hy];rfl
  have gS:=Q9 O1 zk hy;have gy:=(K9 zk hy).2;obtain⟨n,rfl⟩:∃n:Nat,y=n:=⟨y.toNat,O1⟩;have⟨bP,oP,xh,h8⟩:=ut.base O1;have eu:W.cell? ⟨bP,oP+i*1,_⟩=_:=h8 i _ hy 0 _ O;have xg:=W6 R x.Pk i;rw[o1] at xg;refine tD (EP n _ O1) fun w5 hp=>?_;refine tC (XT n _ (hT.j1 hp.Z) O1) fun w6 hp=>?_;cases hm:Ce R (dec n)
  ·rw[hm,if_neg O2,fY] at xg;refine ke (Dw hp 0 O O O (kV O).1 (kV (t:=153) O).2.1 (kV (t:=153) O).2.2) ((FK _ _).trans (aK _ hm)) (qR ?_);refine tJ ?_;refine tN (i+1) ?_;refine qA ?_;exact⟨_,qB (qB O5 (aK (fun z:Nat=>Value.int _ z) xg.symm)) O,⟨O1,hp⟩,O1⟩
  rw[hm,if_pos O] at xg;refine ke (Dw hp 0 O O O (kV O).1 (kV (t:=153) O).2.1 (kV (t:=153) O).2.2) ((FK _ _).trans (aK _ hm)) (qR ?_);refine jB O (tM (EG R x.Pk i+1) ?_);rw[←xg];exact Jm
 obtain rfl:i=x.Pk.length:=O1;have cT:w4.cell? ⟨b4,0+6,_⟩=some (.slice _ _ d.cT):=hp.J 1 O O;rw[hK.d.mT] at cT;generalize EG R _ _=mt;refine qA ?_;clear cT;refine qQ ([8,16]++range' 74 9) (fun(i:Nat) F=>F.put 74 (.int _ i)) (fun i w'=>i≤T.length∧(∀j t,j<i→T[j]? =some t→t.1≠mt)∧Hp W [] w' _) (fun i=>T.length-i) 0 (qB (ka.eq .refl) O) ⟨O1,O1,hp⟩ ?_;clear hp;rintro u3 i w5 ⟨hi,hh,hp⟩;refine tI (fun h=>?_) fun h=>?_
 ·have hl:i<T.length:=O1;obtain⟨t,ht⟩:∃t,T[i]? =some t:=⟨_,aA hl⟩;have⟨b0,o0,hs0,yk⟩:=hA.d.T.base O1;have hP:=yk i t ht;refine qA (ke (qL O O O O (fun j v hv=>hp.j3 (hP j v hv))) (O:_=F7 t) ?_);refine tQ fun w6 pb hp=>?_;refine tS fun w7 hp=>?_;have hp:=hp.I 0 (eT t) O O;have hp:Hp W [] w7 [bu pb 2 _ 88,_,_]:=hp;refine tI (fun h5=>?_) fun h5=>?_
  ·have e:(T.any fun t=>decide (t.1=_))=_:=rK.2 ⟨t,aG ht,aD h5⟩;rw[e];exact nj
  refine Ck ?_;refine⟨_,qB O5 O,⟨O1,fun j z hj hz=>?_,hp.E⟩,O1⟩;grind
 obtain rfl:i=T.length:=O1;have e:(T.any fun t=>decide (t.1=mt))=false:=by
  rw[List.any_eq_false];intro z hz;have⟨j,hj⟩:=fZ hz;have:=hh j z (aI.1 hj).1 hj;exact DT
 rw[e];exact nj
end
theorem VQ(a m w)(h3:0<m)(h4:m≤1000):Rk 127 [Iv a,Iv m] w (Iv (a%m)):=by
 refine tW func127 ntmps127 fun hp=>?_;refine tD (r37 a m _ h3 h4) fun w1 hp=>?_;exact nj
def MR(s:Option Addr)(c:Nat)(l:List Int)(j:Nat):List Value:=[.slice s l.length c,Iv (min j l.length:Nat)]
def nx(l:List Int)(j:Nat)(n:Int):Int:=(l.getD j 0)%n
theorem r59(l s c j mb n w)(hs:ig w 1 eI s l)(ha:l≠[]→∀b o,s=some ⟨b,o,none⟩→b≠mb)(hl:l.length≤maxLen)(hn:0<n)(dq:n≤1000)
  (ho:∃o,w.heap[mb]? =some o∧GS 2 (qE (MR s c l j)) 127 o):
  Rt 59 [.pointer (Ad mb),Iv n] w (fun v w'=>v=Iv (nx l j n)∧ax [mb] w w'∧∃o,w'.heap[mb]? =some o∧GS 2 (qE (MR s c l (j+1))) 127 o):=by
 have cD:l.length≤9223372036854775807:=by unfold maxLen at hl;omega
 refine km.j6 func59 O ntmps59 O ?_;have⟨o,ho,hc⟩:=ho;have hp:Hp w [mb] w [bu mb 2 (qE [_,_]) 127]:=Hp.start.k9 O4 ho hc O4;refine tY fun hp=>?_;refine qX (qU ?_);refine tI (fun h=>?_) fun h=>?_
 ·have hj:l.length≤j:=O1;refine qA ?_;refine qM O O ⟨_,O,qF ?_,hp.Z,?_⟩
  ·unfold nx;rw[aC,bY hj];simp
  refine⟨o,ho,?_⟩;unfold MR;rw[show min _ _=min j l.length from by omega];exact hc
 have hj:j<l.length:=O1;have xr:l≠[]:=by rintro rfl;simp at hj
 have⟨b0,o0,hs0,yk⟩:=hs.base O1;have vx:=yk j _ (aA hj) 0 _ O;have oP:=ha xr b0 o0 hs0;refine qA ?_;refine ke (qO O O) (qF (b:=(min (j+1) l.length:Nat)) (by rw[qK O1 O1];omega)) (tT fun w2 hp=>?_);refine tY fun hp=>?_;refine qX ?_;refine kp O (fun w hp=>jN O O) (qF (b:=j) (by rw[qK O1 O1];omega)) (tP (fun w hp=>zA O O O hs0 hj) ?_);refine tP (fun w hp=>qS O O (hp.H vx O6)) (tH (VQ _ _ _ hn dq) fun w3 hp=>?_);refine qX (qU ?_);refine qA ?_;refine qM O O ⟨_,O,qF ?_,hp.Z,?_⟩
 ·unfold nx;grind
 exact hp.N 0 _ O mb O
def Bt(n:Int):ByteArray:=match (n%6).toNat with
 |0=>⟨#[97]⟩
 |1=>⟨#[98]⟩
 |2=>⟨#[99]⟩
 |3=>⟨#[100]⟩
 |4=>⟨#[101]⟩
 |_=>⟨#[102]⟩
theorem Lq(n w):Rk 58 [Iv n] w (.string (Bt n)):=by
 refine tW func58 ntmps58 fun hp=>?_;refine qA ?_;refine tF (jC hp O O O O O O O) fun w1 b hp=>qA ?_;apply Ax;exact qC O (fun _ _=>O3) O (VQ _ _ _ O2 O2);rintro _ w2 ⟨rfl,hk⟩;have hp:=hp.V hk;obtain⟨k,zw,vy⟩:∃k:Nat,n%6=k∧k<6:=⟨(n%6).toNat,O1,O1⟩;have qe:Bt n=Bt k:=by
  unfold Bt;rw[show(k:Int)%6=n%6 from by omega]
 rw[qe,zw];refine tR (zA O O O O vy) ?_
 match k,vy with
 |0,_|1,_|2,_|3,_|4,_|5,_=>
  exact nj
variable{j:Nat}
def Av(p:Nat→Bool):Nat→Nat
 |0=>0
 |n+1=>Av p n+if p n=true then 1 else 0
theorem Rj{p a b}:∀t,(∀x,a≤x→x<a+t→p x=b)→Av p (a+t)=Av p a+if b=true then t else 0
 |0,_=>O4
 |t+1,h=>by
  show Av p (a+t)+(if p (a+t)=true then 1 else 0)=_
  rw[Rj t (fun x h1 h2=>h x h1 O1),h _ O1 O1];grind
theorem Hx{p q}:∀n,(∀x,x<n→p x=q x)→Av p n=Av q n
 |0,_=>rfl
 |n+1,h=>by
  show Av p n+_=Av q n+_
  rw[Hx n (fun x hx=>h x O1),h n O1]
theorem M3(f i):∀j,sN f i≤sN f (i+j)
 |0=>aS _
 |j+1=>bF (M3 f i j) (nH _ _)
theorem zPm{f x}(hj:j<n)(h1:sN f j≤x)(h2:x<sN f (j+1)):AZ f x 0 n=j:=by
 have hx:=dK h2 (by
  have:=M3 f (j+1) (n-(j+1))
  rwa[show j+1+(n-(j+1))=0+n by omega] at this)
 have⟨_,yv,uw,uv⟩:=IE f x n 0 (bL _) hx;generalize AZ f x 0 n=q at yv uw uv;rcases Rv q j with h|h|h
 ·have:=M3 f (q+1) (j-(q+1));grind
 ·exact h
 have:=M3 f (j+1) (q-(j+1));grind
theorem V9(f:Nat→Nat)(P:Nat→Bool)(n:Nat):∀k,k≤n→Av (fun x=>P (AZ f x 0 n)) (sN f k)=sN (fun j=>if P j=true then f j else 0) k
 |0,_=>rfl
 |k+1,h=>by
  show Av _ (sN f k+f k)=sN _ k+(if P k=true then f k else 0)
  rw[←V9 f P n k O1];exact Rj _ fun x h1 h2=>aK P (zPm O1 h1 h2)
variable{a:Int}{b:Nat}{l:List Int}
theorem WA{a}(ha:a<10)(hb:b<10)(h:UInt8.ofNat (48+a)=UInt8.ofNat (48+b)):a=b:=by
 have h1:=aK UInt8.toNat h;rw[nO,nO] at h1;omega
theorem WW(x):0<(Lib.decDigits x).length:=by
 rw[Lib.decDigits];grind
theorem Rg{x}(h:x<10):Lib.decDigits x=[UInt8.ofNat (48+x)]:=by rw[Lib.decDigits,dif_pos h]
theorem Q7{x}(h:¬x<10):Lib.decDigits x=Lib.decDigits (x/10)++[UInt8.ofNat (48+x%10)]:=by rw[Lib.decDigits,dif_neg h]
theorem zNw(x):∀y,Lib.decDigits x=Lib.decDigits y→x=y:=by
 induction x using Nat.strongRecOn with
 |ind x ih=>
  intro y h;by_cases h1:x<10
  ·rw[Rg h1] at h;by_cases h2:y<10
   ·rw[Rg h2] at h;exact WA h1 h2 (List.cons.inj h).1
   rw[Q7 h2] at h;have:=aK List.length h;have h3:=WW (y/10);grind
  rw[Q7 h1] at h;by_cases h2:y<10
  ·rw[Rg h2] at h;have:=aK List.length h;have h3:=WW (x/10);grind
  rw[Q7 h2] at h;have⟨h3,h4⟩:=List.append_inj' h O;have h5:=ih _ O1 _ h3;have h6:=WA O1 O1 (List.cons.inj h4).1;omega
theorem zOv{b}(ha:0≤a)(hb:0≤b)(h:dec a=dec b):a=b:=by
 unfold dec Lib.itoa at h;rw[if_neg O1,if_neg O1] at h;have h1:=by
  have:=aK (fun z:ByteArray=>z.data.toList) h;exact DT
 have:=zNw _ _ h1;omega
theorem W5(ha:0≤a)(hl:∀x∈l,0≤x):Ce (l.map dec) (dec a)=decide (a∈l):=by
 rw[iA,TE,iW,bM];constructor
 ·rintro⟨x,hx,e⟩;rwa[←zOv (hl x hx) ha e]
 grind
variable{F:List Nat→Prop}{P:List (ByteArray×Int)}{T:List (Int×Int)}{X:List EN}{d:DW}{m:Mx}{κ:Nat}
theorem zPe(nd:(X.map fun y=>y.e.id).Nodup){i k:Nat}(hi:i<X.length)(hk:k<X.length)(h:(X.map fun y=>y.e.id).getD i 0=(X.map fun y=>y.e.id).getD k 0):i=k:=by
 have xt:i<(X.map fun y=>y.e.id).length:=by rw[aH];exact hi
 have pw:k<(X.map fun y=>y.e.id).length:=by rw[aH];exact hk
 rw[aC,aC,aA xt,aA pw] at h;exact(oU nd).1 h
theorem zM9(hM:Aj F κ m)(ze:d.kd=3)(hl:∀j,j<m.length→∀i∈pF m j,i<X.length)(nd:(X.map fun y=>y.e.id).Nodup)(h0:∀x∈X,0≤x.e.id)
  {k:Nat} {x:EN} (hx:X[k]? =some x) {y:Nat} (hy:y<Ab m):BH d T x k (A0 d P X m y)=decide (k∈pF m (AZ (Ah m) y 0 m.length)):=by
 have⟨_,hq,_,_⟩:=IE (Ah m) y m.length 0 (bL _) (by rw[gF,hM.tot];exact hy);have hS:k<X.length:=(aI.1 hx).1;unfold BH A0;rw[if_neg O1,if_pos ze,if_neg O1,if_neg O1];generalize AZ (Ah m) y 0 m.length=q at hq;have hj:=hl q O1;have ha:(X.map fun y=>y.e.id).getD k 0=x.e.id:=by rw[aC,bH,hx];rfl
 rw[show((pF m q).map fun i=>dec ((X.map fun y=>y.e.id).getD i 0))=((pF m q).map fun i=>(X.map fun y=>y.e.id).getD i 0).map dec by rw[iU];rfl]
 rw[W5 (h0 x (aG hx)) (fun z hz=>by
  obtain⟨i,hi,rfl⟩:=bM.1 hz;have h1:=hj i hi;rw[aC,bH,aA h1]
  exact h0 _ (bX h1))]
 rw[iA,iW,iW,bM];constructor
 ·rintro⟨i,hi,e⟩;rw[←ha] at e;rwa[←zPe nd (hj i hi) hS e]
 exact fun h=>⟨k,h,ha⟩
theorem zMz(hM:Aj F κ m)(ze:d.kd=3)(hl:∀j,j<m.length→∀i∈pF m j,i<X.length)(nd:(X.map fun y=>y.e.id).Nodup)(h0:∀x∈X,0≤x.e.id)
  {k} {x} (hx:X[k]? =some x):((Av (fun y=>BH d T x k (A0 d P X m y)) (Ab m):Nat):Rat)=CA d T P X m k*((Ab m:Nat):Rat):=by
 have h1:Av (fun y=>BH d T x k (A0 d P X m y)) (Ab m)=sN (Cw m k) m.length:=by
  rw[Hx (q:=fun y=>(fun j=>decide (k∈pF m j)) (AZ (Ah m) y 0 m.length)) _ (fun y hy=>zM9 hM ze hl nd h0 hx hy)];have h2:=V9 (Ah m) (fun j=>decide (k∈pF m j)) m.length m.length (aS _);rw[hM.tot] at h2;rw[h2];congr 1;funext j;unfold Cw;by_cases h:k∈pF m j<;>simp[h]
 have hc:CA d T P X m k=jE m k:=by unfold CA;rw[if_neg O1,if_neg O1]
 have hT:((Ab m):Rat)≠0:=by
  have:(0:Rat)<((Ab m:Nat):Rat):=by exact_mod_cast Gm
  grind
 rw[h1,hc,←hM.chan];show(sN (Cw m k) m.length:Nat)=mkRat (sN (Cw m k) m.length:Nat) _*_
 rw[iO,gI];grind
theorem zNz{ps a}(h:a=Bj∨(AW ps a).isSome=true):Ht ps a<ps.length↔a≠Bj:=by
 constructor
 ·rintro h1 rfl;unfold Ht BG at h1;grind
 intro hn;have h2:=h.resolve_left hn;unfold AW at h2;rw[if_neg hn,Option.isSome_map] at h2;have⟨p,hp⟩:=XC.1 h2;have od:=List.mem_of_find?_eq_some hp;have hq:=List.find?_some hp;unfold Ht BG;rw[if_neg hn];cases hf:ps.findIdx? _ with
 |none=>
  grind
 |some i=>
  have:=(pU.1 hf).1;grind
theorem WG(g i m):∀os:List (List Int),(os.countP fun o=>decide (g o i<m+1))=(os.countP fun o=>decide (g o i<m))+Bs g os i m
 |[]=>rfl
 |o::os=>by
  have ih:=WG g i m os;unfold Bs at ih⊢;grind
theorem WT(g i os):∀m,sN (fun j=>Bs g os i j) m=os.countP fun o=>decide (g o i<m)
 |0=>by
  show 0=_
  rw[eq_comm,List.countP_eq_zero];intro o _;simp
 |m+1=>by
  show sN _ m+_=_
  rw[WT g i os m,WG]
theorem WH(n p):∀t,(Bw n t).countP p=Av (fun y=>p (Al n y)) t
 |0=>rfl
 |t+1=>by
  show _=Av _ t+_
  rw[W8,iM,WH,List.countP_singleton]
theorem zMa(ze:d.kd=2){k x}:((Av (fun y=>BH d T x k (A0 d P X m y)) (uO X.length):Nat):Rat)=CA d T P X m k*((uO X.length:Nat):Rat):=by
 have h1:Av (fun y=>BH d T x k (A0 d P X m y)) (uO X.length)=sN (fun j=>Bs (A4 (X.map DG) P) (Bw X.length (uO X.length)) k j) P.length:=by
  rw[WT,WH];refine Hx _ fun y _=>?_
  have hc:=zNz (V5 (X.map DG) P (Al X.length y) k);unfold BH A0;rw[if_pos ze,if_neg O1,if_pos ze];show(!decide (xa (Cm (X.map DG) P (Al X.length y)) k=Bj))=decide (Ht P (xa (Cm (X.map DG) P (Al X.length y)) k)<P.length)
  rw[iA,iW,hc];simp
 have hc:CA d T P X m k=wr P.length (fun j=>BD (Bs (A4 (X.map DG) P) (Bw X.length (uO X.length)) k j) (uO X.length)):=by unfold CA;rw[if_neg O1,if_pos ze]
 have hF:((uO X.length):Rat)≠0:=by
  have:0<uO X.length:=Fl _;have:(0:Rat)<((uO X.length:Nat):Rat):=by exact_mod_cast this
  grind
 rw[h1,hc];exact Lu _ fun j _=>by
  unfold BD;rw[iO];show((Bs _ _ k j):Rat)=(Bs _ _ k j:Nat)/_*_
  grind
variable{G:List Int}{k p:Nat}
def Bk(G L:List Int):Nat:=L.countP (fun x=>decide (x∈G))
theorem JF{p}:∀{l:List Int} {b:Int},C5 p b l→(∀x∈l,b<x)∧l.Nodup
 |[],_,_=>O4
 |x::l,b,h=>by
  have⟨h1,h2⟩:=JF h.2.2;refine⟨fun y hy=>?_,?_⟩
  ·rcases aP.1 hy with rfl|hy
   ·exact h.1
   have:=h1 y hy;have:=h.1;omega
  grind
def cU(pool:Nat)(G:List Int)(P j m r:Nat):Nat:=(range r).countP (fun q=>decide (Bk G (un pool P j q)=m))
def aU(pool:Nat)(G:List Int):Nat→Nat
 |0=>0
 |P+1=>aU pool G P+(if((pool-P:Nat):Int)∈G then 1 else 0)
theorem VX(pool G):∀P,aU pool G P≤P
 |0=>aS _
 |P+1=>by
  have:=VX pool G P;rw[aU];grind
theorem zO2(pool G P j m):cU pool G (P+1) (j+1) m (ch P j+ch P (j+1))=(range (ch P j)).countP (fun q=>decide (Bk G (((pool-P:Nat):Int)::un pool P j q)=m))+cU pool G P (j+1) m (ch P (j+1)):=by
 unfold cU;rw[List.range_add,iM,List.countP_map];congr 1
 ·apply lW;intro q hq;have hq:=by simpa using hq
  rw[un,if_pos hq]
 apply lW;intro q _;simp only[Function.comp];rw[un,if_neg O1,iC]
theorem Q8(G x L):Bk G (x::L)=Bk G L+(if x∈G then 1 else 0):=by
 unfold Bk;grind
theorem MW(pool G):∀(P j m:Nat),cU pool G P j m (ch P j)=if m≤j then ch (aU pool G P) m*ch (P-aU pool G P) (j-m) else 0
 |0,0,m=>by
  cases m with
  |zero=>rfl
  |succ m=>simp[cU,Bk,un]
 |0,j+1,m=>by
  show 0=_
  split
  ·cases m with
   |zero=>simp[ch]
   |succ m=>simp[aU,ch]
  rfl
 |P+1,0,m=>by
  cases m with
  |zero=>simp[cU,Bk,un,IU]
  |succ m=>simp[cU,Bk,un]
 |P+1,j+1,m=>by
  have ys:=VX pool G P;rw[Vz,zO2,MW,aU];generalize ha:aU _ G P=a at*
  by_cases hv:((pool-P:Nat):Int)∈G
  ·rw[if_pos hv,show P+1-(a+1)=P-a from by omega];cases m with
   |zero=>
    have h1:(range (ch P j)).countP (fun q=>decide (Bk G ((pool-P:Nat)::un pool P j q)=0))=0:=by
     rw[List.countP_eq_zero];intro q _;rw[Q8,if_pos hv];simp
    rw[h1,if_pos O1,if_pos O1,IU,IU];omega
   |succ m=>
    have h1:(range (ch P j)).countP (fun q=>decide (Bk G ((pool-P:Nat)::un pool P j q)=m+1))=cU pool G P j m (ch P j):=by
     unfold cU;apply lW;intro q _;rw[Q8,if_pos hv];simp
    rw[h1,MW,ha];by_cases hm:m≤j
    ·rw[if_pos hm,if_pos O1,if_pos O1,Vz,eL,show j+1-(m+1)=j-m from by omega]
    grind
  rw[if_neg hv,show a+0=a from O,show P+1-a=P-a+1 from by omega];have h1:(range (ch P j)).countP (fun q=>decide (Bk G ((pool-P:Nat)::un pool P j q)=m))=cU pool G P j m (ch P j):=by
   unfold cU;apply lW;intro q _;rw[Q8,if_neg hv];simp
  rw[h1,MW,ha];by_cases hm:m≤j
  ·rw[if_pos hm,if_pos O1,if_pos O1,show j+1-m=j-m+1 from O1,Vz,iJ]
  by_cases zd:m=j+1
  ·subst zd;rw[if_neg hm,if_pos O1,if_pos O1,gZ,IU,IU];omega
  grind
theorem WB(pool x G):∀P,P≤pool→x≤((pool-P:Nat):Int)→aU pool (x::G) P=aU pool G P
 |0,_,_=>rfl
 |P+1,hP,h=>by
  rw[aU,aU,WB _ x G P O1 O1];grind
theorem MV(pool):∀(P:Nat) (G:List Int),P≤pool→C5 pool ((pool-P:Nat):Int) G→aU pool G P=G.length
 |0,[],_,_=>rfl
 |0,x::G,_,h=>by
  have h1:=h.1;have h2:=h.2.1;omega
 |P+1,[],hP,_=>by
  rw[aU,MV _ P [] O1 trivial];simp
 |P+1,x::G,hP,h=>by
  by_cases hx:x=(pool-P:Nat)
  ·rw[aU,WB _ x G P O1 O1,MV _ P G O1 (by rw[←hx];exact h.2.2),if_pos O6];rfl
  have h1:=h.1;have hi:C5 _ (pool-P:Nat) (x::G):=⟨O1,h.2.1,h.2.2⟩;rw[aU,MV _ P _ O1 hi,if_neg,fY];intro hm;have:=(JF hi).1 _ hm;omega
theorem V6(pool G P j m):∀r,cU pool G P j m r=Av (fun q=>decide (Bk G (un pool P j q)=m)) r
 |0=>rfl
 |r+1=>by
  show _=Av _ r+_
  rw[←V6];unfold cU;rw[eX,iM,List.countP_singleton]
theorem zQc(hG:C5 p 0 G)(hl:G.length=k){m:Nat}(hm:m≤k):cU p G p k m (ch p k)=ch k m*ch (p-k) (k-m):=by
 have ha:=MV p p G O1 O6;rw[hl] at ha;rw[MW,ha,if_pos hm]
theorem zNr{L}(hG:G.Nodup)(hL:L.Nodup):Bk G L=Bk L G:=by
 unfold Bk;rw[sJ,sJ];refine((oG (hL.filter _) (hG.filter _)).2 ?_).length_eq;grind
theorem WN{S l}(hS:∀x∈S,0≤x)(hl:∀x∈l,0≤x):∀i,i≤l.length→EG (S.map dec) l i=Bk S (l.take i)
 |0,_=>by rfl
 |i+1,h=>by
  have hi:i<l.length:=O1;rw[W6,WN hS hl i O1,aF hi];have hd:l.getD i 0=l[i]:=by simp[hi]
  rw[hd,W5 (hl _ (bX hi)) hS];unfold Bk;grind
theorem WF{p q}:∀n,(∀y,y<n→p y=true→q y=false)→Av (fun y=>p y||q y) n=Av p n+Av q n
 |0,_=>rfl
 |n+1,h=>by
  show Av _ n+_=(Av p n+_)+(Av q n+_)
  rw[WF n (fun y hy=>h y O1)];grind
theorem Xk(T:List (Int×Int))(nd:(T.map Prod.fst).Nodup)(h:Nat→Nat)(N:Nat):∀i,i≤T.length→Av (fun y=>(T.take i).any fun t=>decide (t.1=(h y:Int))) N=sN (fun j=>Av (fun y=>decide ((T.map Prod.fst).getD j 0=(h y:Int))) N) i
 |0,_=>by
  rw[Hx (q:=fun _=>false) N (fun y _=>O4)];have:=Rj (a:=0) (b:=false) N (fun _ _ _=>O);rw[gF] at this;rw[this];rfl
 |i+1,hi=>by
  have hl:i<T.length:=O1;have hg:(T.map Prod.fst).getD i 0=T[i].1:=by simp[hl]
  show _=sN _ i+Av _ N
  rw[←Xk T nd h N i O1,hg,←WF]
  ·refine Hx N fun y _=>?_
   rw[aF hl,List.any_append];simp
  intro y _ hp;rw[rK] at hp;have⟨t,ht,e⟩:=hp;have e:=mV e;refine aB fun e2=>?_
  have⟨j,hj,e3⟩:=lL.1 ht;have h1:(T.map Prod.fst)[j]'O6=(T.map Prod.fst)[i]'O6:=by
   rw[mI,mI,e3,e,e2]
  have:=(oU nd).1 h1;omega
theorem zLg(ze:d.kd=1)(hL:Ho d T){k x}(zf:(x.Pk.length:Int)=d.pi)(zk:C5 d.po 0 x.Pk):
  ((Av (fun y=>BH d T x k (A0 d P X m y)) (ch d.po.toNat d.pi.toNat):Nat):Rat)=CA d T P X m k*((ch d.po.toNat d.pi.toNat:Nat):Rat):=by
 have hpo:=hL.po;have ha:=hL.pi;obtain⟨po,hq⟩:∃po:Nat,d.po=po:=⟨d.po.toNat,O1⟩;obtain⟨pi,hr⟩:∃pi:Nat,d.pi=pi:=⟨d.pi.toNat,O1⟩;have hc:CA d T P X m k=wr T.length (F6 d T):=by unfold CA;rw[if_pos ze]
 rw[hc];have e1:d.po.toNat=po:=O1;have e2:d.pi.toNat=pi:=O1;rw[e1,e2];rw[hq] at zk;have zg:∀z∈x.Pk,0≤z:=fun z hz=>by have:=(JF zk).1 z hz;omega
 have h1:∀y,y<ch po pi→BH d T x k (A0 d P X m y)=T.any _:=fun y hy=>by
  have zh:=ID po po pi y O1;have zj:∀z∈un po po pi y,0≤z:=fun z hz=>by have:=(JF zh).1 z hz;omega
  unfold BH A0;rw[if_neg O1,if_neg O1,if_pos ze,e1,e2,WN zj zg _ O1,dF,zNr (JF zh).2 (JF zk).2]
 rw[Hx _ h1];have h2:=Xk T hL.nd (fun y=>Bk x.Pk (un po po pi y)) (ch po pi) T.length O1;rw[dF] at h2;rw[h2];refine Lu _ fun j hj=>?_
 have hg:(T.map Prod.fst).getD j 0=T[j].1:=by simp[hj]
 have zi:=hL.tb _ (bX hj);obtain⟨τ,hτ⟩:∃τ:Nat,(T.map Prod.fst).getD j 0=τ:=⟨((T.map Prod.fst).getD j 0).toNat,O1⟩;have zm:τ≤pi:=O1;have h3:Av (fun y=>decide ((T.map Prod.fst).getD j 0=(Bk x.Pk (un po po pi y):Nat))) (ch po pi)=ch pi τ*ch (po-pi) (pi-τ):=by
  rw[←zQc zk O1 zm,V6];refine Hx _ fun y _=>?_
  rw[hτ,iA,iW,iW];omega
 have hA:Hi d.po d.pi ((T.map Prod.fst).getD j 0)=ch pi τ*ch (po-pi) (pi-τ):=by
  unfold Hi;rw[hτ,hq,hr,show(po:Int)-pi=((po-pi:Nat):Int) by omega,show(pi:Int)-τ=((pi-τ:Nat):Int) by omega,Gx O1,Gx O1]
 have hN:AO d.po d.pi=ch po pi:=by rw[hq,hr,Gx O1]
 have zl:((ch po pi):Rat)≠0:=by
  have:0<ch po pi:=Rl O1;have:(0:Rat)<((ch po pi:Nat):Rat):=by exact_mod_cast this
  grind
 rw[h3];unfold F6;rw[hA,hN];unfold BD;rw[iO];show((ch pi τ*ch _ _:Nat):Rat)=(ch pi τ*ch (po-pi) (pi-τ):Nat)/_*_
 grind
variable{a:Cn}{w:World}
theorem zO0{B N lv}(hK:Aa d T P B X)(hP:Cy d X a N m lv w){k x}(hx:X[k]? =some x):
  ((Av (fun y=>BH d T x k (A0 d P X m y)) N:Nat):Rat)=CA d T P X m k*((N:Nat):Rat):=by
 have hm:=hK.e x (aG hx);rcases hK.d.kd with h|h|h
 ·have hN:=(hP.tot O1).1;unfold BC at hN;rw[if_pos h] at hN;rw[hN];have⟨h1,h2⟩:=hm.k1 h;exact zLg h (hK.d.k1 h) h1 h2
 ·have hN:=(hP.tot O1).1;unfold BC at hN;rw[if_neg O1] at hN;rw[hN];exact zMa h
 obtain⟨lr,p,rfl,hG,_,_⟩:=hP.pan h;refine zMz hG.mix h (fun j hj i hi=>?_) hK.nd (fun y hy=>by have:=(hK.e y hy).id;omega) hx;have:=(hG.mix.get hj).1.lt i hi;grind
theorem Xu{p N}:∀M,Av (fun n=>decide (n<N)&&p n) M=Av p (min M N)
 |0=>by rfl
 |M+1=>by
  show Av _ M+(if(decide _&&p M)=true then 1 else 0)=_
  rw[Xu];by_cases h:M<N
  ·rw[eM O1,eM O1,aD h,Bool.true_and];rfl
  grind
theorem WE(p):∀n,Av p n≤n
 |0=>aS _
 |n+1=>by
  have:=WE p n;show Av p n+_≤_
  grind
variable{c cP q:Nat}{cl:Int}{s sP sQ sT:Option Addr}{α β:Type}
section
theorem Q4(n):Wd (Bt n):=by
 unfold Bt;split<;>exact⟨O2,O2,O2⟩
theorem zQp(n):Wd (⟨#[120]⟩++Bt n):=by
 unfold Bt;split<;>exact⟨O2,O2,O2⟩
theorem Rf{a:Nat}(ha:a<6)(hb:b<6)(h:Bt a=Bt b):a=b:=by
 have key:∀a,a<6→∀b,b<6→Bt (a:Nat)=Bt (b:Nat)→a=b:=O2;grind
theorem JE{l:List α}{f:α→β}(h:∀(i j:Nat) (x y:α),l[i]? =some x→l[j]? =some y→f x=f y→i=j):(l.map f).Nodup:=by
 rw[eJ,dX];intro i j hi hj zn e;rw[aH] at hi hj;rw[mI,mI] at e;have:=h i j _ _ (aA hi) (aA hj) e;omega
theorem IA{J:Nat→α→Prop}{l:List α}{x:α}(h:∀q y,l[q]? =some y→J q y)(hx:J l.length x):∀q y,(l++[x])[q]? =some y→J q y:=by
 grind
theorem Iy{J:Nat→α→Prop}:∀(q:Nat) (y:α),([]:List α)[q]? =some y→J q y:=by
 simp
theorem Hu{J:Nat→α→Prop}{l:List α}(h:∀q y,l[q]? =some y→J q y){P:α→Prop}(hp:∀q y,q<l.length→J q y→P y):∀y∈l,P y:=by
 intro y hy;have⟨q,hq,e⟩:=pD hy;exact hp q y hq (h q y O6)
theorem Iz{l:List α}{y:α}(h:l[q]? =some y):q<l.length:=O6
abbrev MI (q:Nat) (x:Int):Prop:=5*(q:Int)≤x∧x<5*q+4
abbrev Iq (pick:Int) (q:Nat) (t:Int×Int):Prop:=t.1=pick-q∧1≤t.2∧t.2≤33
abbrev FV (q:Nat) (p:ByteArray×Int):Prop:=p.1=Bt (q:Int)∧1≤p.2∧p.2≤3
abbrev FU (sz:Int) (q:Nat) (p:ByteArray×Int×Int):Prop:=p.1=Bt (q:Int)∧0≤p.2.1∧p.2.1≤p.2.2∧p.2.2≤sz
def MB(nm:ByteArray)(kd rd pr:Int)(sB:Option Addr)(cB:Nat)(B:List Int):DW:=⟨nm,kd,rd,pr,0,0,none,0,0,false,none,0,0,0,0,none,0,[],sB,B.length,cB⟩
def FP(d:DW)(po pi:Int)(ro:Bool)(sT:Option Addr)(cT:Nat)(T:List (Int×Int)):DW:=⟨d.nm,d.kd,d.rd,d.pr,po,pi,sT,T.length,cT,ro,none,0,0,0,0,none,0,[],d.sB,d.mB,d.cB⟩
def KZ(d:DW)(cl:Int)(sP:Option Addr)(cP:Nat)(P:List (ByteArray×Int)):DW:=⟨d.nm,d.kd,d.rd,d.pr,0,0,none,0,0,false,sP,P.length,cP,cl,0,none,0,[],d.sB,d.mB,d.cB⟩
def Ij(d:DW)(sz:Int)(sQ:Option Addr)(cQ:Nat)(Q:List (ByteArray×Int×Int)):DW:=⟨d.nm,d.kd,d.rd,d.pr,0,0,none,0,0,false,none,0,0,0,sz,sQ,cQ,Q,d.sB,d.mB,d.cB⟩
structure ML(d:DW)(T:List (Int×Int))(P:List (ByteArray×Int))(B:List Int):Prop where
 ok:Hn d T P B
 bar:∀x∈B,x<101
 pl:P.length≤3
structure Ir(d:DW)(B:List Int):Prop where
 nm:Wd d.nm
 kd:1≤d.kd∧d.kd≤3
 rd:1≤d.rd∧d.rd≤9
 pr:0≤d.pr∧d.pr≤9
 jb:∀q x,B[q]? =some x→MI q x
 bl:B.length≤2
 mB:d.mB=B.length
theorem Ir.bn{B:List Int}(h:Ir d B):B.Nodup:=by
 have:=JE (f:=fun x=>x) (by
  intro i j x y hi hj e;have h1:=h.jb i x hi;have h2:=h.jb j y hj;omega)
 grind
theorem Ir.bar{B:List Int}(h:Ir d B):∀x∈B,x<101:=by
 have hl:=h.bl;exact Hu h.jb fun q y hq hy=>by
  omega
theorem V4:∀(l:List (Int×Int)),(∀t∈l,t.2≤33)→BM l≤33*l.length
 |[],_=>by simp[BM]
 |t::l,h=>by
  have h1:=V4 l (fun x hx=>h x (by simp[hx]));have h2:=h t O4;simp only[BM,cF];omega
theorem zQ9{B:List Int}{po pi:Int}{ro:Bool}{cT:Nat}(h:Ir d B)(hk:d.kd=1)(hp:1≤po∧po≤60)(hi:1≤pi∧pi≤10∧pi≤po)(hT:∀q x,T[q]? =some x→Iq pi q x)(h1:1≤T.length)(h3:T.length≤3)(zo:(T.length:Int)≤pi+1):ML (FP d po pi ro sT cT T) T [] B:=by
 have zq:∀t∈T,0≤t.1∧t.1≤pi∧1≤t.2∧t.2≤33:=Hu hT fun q y hq hy=>by
  omega
 have hs:=V4 T fun t ht=>(zq t ht).2.2.2
 have hr:=h.rd;have zp:=h.pr;have zr:=h.bl;refine⟨⟨h.nm,by show 1≤d.rd∧d.rd≤_;omega,by show 0≤d.pr∧d.pr≤_;omega,O,O,h.mB,O1,h.bn,.inl hk,fun _=>⟨hp,hi,O1,fun t ht=>?_,JE ?_,O1⟩,fun e=>?_,fun e=>?_,absurd hk,fun _=>⟨O,O⟩,fun _=>⟨O,O⟩⟩,h.bar,O4⟩
 ·have:=zq t ht;exact⟨this.1,this.2.1,this.2.2.1,O1⟩
 ·grind
 ·have e:d.kd=2:=e;omega
 have e:d.kd=3:=e;omega
theorem zQa{B:List Int}(h:Ir d B)(hk:d.kd=2)(hc:0≤cl∧cl≤9)(hP:∀q x,P[q]? =some x→FV q x)(h1:1≤P.length)(h3:P.length≤3):ML (KZ d cl sP cP P) [] P B:=by
 have zq:∀t∈P,Wd t.1∧1≤t.2∧t.2≤1000:=Hu hP fun q y hq hy=>by
  rw[hy.1];exact⟨Q4 _,O1⟩
 have hr:=h.rd;have zp:=h.pr;have zr:=h.bl;refine⟨⟨h.nm,by show 1≤d.rd∧d.rd≤_;omega,by show 0≤d.pr∧d.pr≤_;omega,O,O,h.mB,O1,h.bn,.inr (.inl hk),fun e=>?_,fun _=>⟨O1,zq,JE ?_,hc⟩,fun e=>?_,fun _=>⟨O,O,O,O⟩,absurd hk,fun _=>⟨O,O⟩⟩,h.bar,h3⟩
 ·have e:d.kd=1:=e;omega
 ·intro i j x y hi hj e;have h1:=hP i x hi;have h2:=hP j y hj;have xt:=Iz hi;have zt:=Iz hj;exact Rf O1 O1 O6
 have e:d.kd=3:=e;omega
theorem zQ8{B:List Int}{sz:Int}{cQ:Nat}{Q:List (ByteArray×Int×Int)}(h:Ir d B)(hk:d.kd=3)(hs:1≤sz∧sz≤40)(hQ:∀q x,Q[q]? =some x→FU sz q x)(h3:Q.length≤3):ML (Ij d sz sQ cQ Q) [] [] B:=by
 have zq:∀t∈Q,Wd t.1∧_:=Hu hQ fun q y hq hy=>by
  rw[hy.1];exact⟨Q4 _,hy.2⟩
 have hr:=h.rd;have zp:=h.pr;have zr:=h.bl;refine⟨⟨h.nm,by show 1≤d.rd∧d.rd≤_;omega,by show 0≤d.pr∧d.pr≤_;omega,O,O,h.mB,O1,h.bn,.inr (.inr hk),fun e=>?_,fun e=>?_,fun _=>⟨hs,by show Q.length≤12;omega,zq,JE ?_⟩,fun _=>⟨O,O,O,O⟩,fun _=>⟨O,O⟩,absurd hk⟩,h.bar,O4⟩
 ·have e:d.kd=1:=e;omega
 ·have e:d.kd=2:=e;omega
 intro i j x y hi hj e;have h1:=hQ i x hi;have h2:=hQ j y hj;have xt:i<Q.length:=Iz hi;have zt:j<Q.length:=Iz hj;exact Rf O1 O1 O6
attribute [local irreducible] Bt
def GG(s:Option Addr)(c:Nat)(l:List Int):Obj→Prop:=fun o=>∃j,GS 2 (qE (MR s c l j)) 127 o
theorem A5{mb n W L}(hp:Hp W [] w L)(hs:ig W 1 eI s l)(hl:l.length≤maxLen)(j:Nat)(hj:L[j]? =some (some mb,GG s c l))(h3:0<n)(h4:n≤1000):
  Rt 59 [.pointer (Ad mb),Iv n] w (fun v w'=>∃x,v=Iv x∧0≤x∧x<n∧Hp W [] w' L):=by
 have⟨o,ho,i,hi⟩:=hp.N j _ hj mb O;have zu:=(hp.p6 hj).1;refine(r59 l s c i mb n w (hs.i7 hp.Z) (fun h b o' e=>?_) hl h3 h4 ⟨o,ho,hi⟩).mono ?_
 ·have:=hs.lt (fun _=>O) O2 h e;omega
 rintro v w' ⟨rfl,hk,o',zv,xt⟩;exact⟨_,O,iN _ O1,iE _ h3,hp.aC1 j hj hk ⟨o',zv,_,xt⟩⟩
end
section
def zD:List Value:=[.string ⟨#[]⟩,Iv 0,Iv 0,Iv 0,Iv 0,Iv 0,Zs,.bool false,Zs,Iv 0,Iv 0,Zs,Zs]
theorem jQ3(nm a b c):Instr.fill ((#[(0,1),(1,1),(2,1),(3,1),(4,1),(5,1),(6,1),(7,1),(8,1),(9,1),(10,1),(11,1),(12,1)]:Array (Nat×Nat))[·]?) zD.toArray [(0,.string nm),(1,Iv a),(2,Iv b),(3,Iv c)]=some (MB nm a b c none 0 []).L.toArray:=O
attribute [local irreducible] Bt
theorem r15(l s c W)(hs:ig W 1 eI s l)(hl:l.length≤maxLen):Rt 15 [.slice s l.length c] W (fun v w'=>∃(d:DW) (T:List (Int×Int)) (P:List (ByteArray×Int)) (B:List Int),v=d.v∧ML d T P B∧BB d T P B w'∧ax [] W w'):=by
 refine tW func15 ntmps15 fun hp=>?_;refine qR ?_;refine tQ fun w1 rb hp=>?_;have hp:Hp W [] w1 [bu rb 13 (qE zD) 28]:=hp;refine qA (tF (kW (cs:=[.slice s _ c,_]) (m:=2) hp O O O) fun w mb hp=>?_)
 have hp:Hp W [] w [(some mb,GG s c l),_]:=hp.y1 (i:=0) O (fun o ho=>by
  exact⟨0,by exact ho⟩)
 refine qA ?_;refine tF (qC O A6 O (A5 hp hs hl 0 O O2 O2)) fun w x0⟨s8,sF,hp⟩=>tK (Lq _ _) ?_;rintro _ w ⟨rfl,hk⟩;have hp:=hp.V hk;refine tR (GY O O (by rw[show(Bt x0).size=1 from by unfold Bt;split<;>rfl];decide)) (qA ?_);refine tF (qC O A6 O (A5 hp hs hl 0 O O2 O2)) fun w x1⟨sj,sk,hp⟩=>tA ?_;refine qA ?_;refine tF (qC O A6 O (A5 hp hs hl 0 O O2 O2)) fun w x2⟨ss,su,hp⟩=>tA ?_;refine qA ?_;refine tF (qC O A6 O (A5 hp hs hl 0 O O2 O2)) fun w x3⟨sX,sD,hp⟩=>?_;obtain⟨nm,s3⟩:∃nm,nm=⟨#[120]⟩++Bt x0:=⟨_,O⟩;rw[←s3];refine qR ?_;refine ke (Jg underlying28 (qJ O) O (fun w=>O3) (by rw[vH];exact jQ3 nm _ _ x3)) (O:_=(MB nm _ _ x3 _ 0 []).v) (tQ fun w db hp=>?_);refine tS fun w hp=>?_;have hp:=hp.I 0 (MB nm _ _ x3 _ 0 []).L O O;refine qA ?_;refine tF (qC O A6 O (A5 hp hs hl 1 O O2 O2)) fun w x4⟨sw,s9,hp⟩=>qA ?_;have hp:=hp.j7 eI 3 1;refine kS ([6]++range' 32 15) (fun xs sB cB F=>F.put 6 (.int _ xs.length))
  (fun xs sB cB w'=>xs.length≤x4∧kg sB cB xs∧(∀q x,xs[q]? =some x→MI q x)∧Hp W [] w' [qG eI 3 1 sB cB xs,bu db 13 (qE (MB nm _ _ x3 sB cB xs).L) 28,_,_])
  (fun xs _ _=>(x4-xs.length).toNat) [] _ 0 (qB (ka.eq .refl) O) ⟨sw,.nil,Iy,hp⟩ ?_
 clear hp hk;rintro u xs sB cB w ⟨ys,sf,sx,hp⟩;refine tI (fun h=>?_) fun h=>?_
 ·refine qA ?_;refine jU jG O3 (fun w'=>Hp W [] w' _) (hp.U.pick 1 O) ?_;have hp:=hp.U;refine qX ?_;refine tA ?_;refine qX ?_;apply Ag;rfl;exact qC O A6 O (A5 hp hs hl 2 O O2 O2);rintro _ w ⟨y,rfl,yl,yu,hp⟩;refine⟨hp.pick 1 O,tA ?_⟩;apply Ag;rfl;exact jC hp O O O O O O O;rintro _ w ⟨nb,rfl,hp⟩;refine⟨hp.pick 2 O,?_⟩;apply Ag;rfl;exact jV eI xs _ hp 1 0 O O O O O O (fun _=>O) O O O sf O O O1;rintro _ w ⟨s',c',rfl,hn,hp⟩;refine⟨hp.pick 2 O,?_⟩;have hp:=Hp.tail hp;refine qX ?_;refine tS fun w hp=>?_;refine qU (tB ?_);refine qA ?_;exact⟨_,s',c',qB O5 (qF O4),⟨O6,hn,IA sx O1,hp⟩,O6⟩
 have zz:xs.length≤2:=O1;obtain⟨d0,sc⟩:∃d0,d0=MB nm (1+x1) (1+x2) x3 sB cB xs:=⟨_,O⟩;rw[←sc] at hp;have h0:Ir d0 xs:=by
  rw[sc];exact⟨by rw[s3];exact zQp _,by show 1≤1+x1∧1+x1≤3;omega,by show 1≤1+x2∧1+x2≤9;omega,by show 0≤x3∧x3≤9;omega,sx,zz,O⟩
 have ze:=h0.kd;have hL:FP d0 0 0 false none 0 []=d0:=by rw[sc];rfl
 have hB:KZ d0 0 none 0 []=d0:=by rw[sc];rfl
 have hP:Ij d0 0 none 0 []=d0:=by rw[sc];rfl
 have sn:d0.sB=sB:=by rw[sc];rfl
 clear sc;refine tI (fun zy=>?_) fun zy=>?_
 ·have zy:=zy;rw[←hL] at hp;refine qA ?_;refine tF (qC O A6 O (A5 hp hs hl 2 O O2 O2)) fun w x5⟨s4,s6,hp⟩=>tA ?_;refine tT fun w hp=>?_;have hp:=hp.I 1 (FP d0 (2+x5) 0 _ _ 0 []).L O O;have q1:(FP d0 _ 0 false none 0 []).po=2+x5:=O;refine qA ?_;refine tF (qC O A6 O (A5 hp hs hl 2 O O1 O1)) fun w x6⟨tf,sY,hp⟩=>tA ?_;refine tT fun w hp=>?_;have hp:=hp.I 1 (FP d0 _ (1+x6) _ _ 0 []).L O O;refine qA ?_;refine tF (qC O A6 O (A5 hp hs hl 2 O O2 O2)) fun w x7⟨te,tc,hp⟩=>tT fun w hp=>?_;have hp:=hp.I 1 (FP d0 _ _ (decide _) _ 0 []).L O O;have q2:(FP d0 (2+x5) _ (decide (x7=1)) none 0 []).pi=1+x6:=O;refine Ae ?_;refine tF (qC O A6 O (A5 hp hs hl 2 O O1 O1)) fun w x8⟨s5,sy,hp⟩=>tA ?_;refine qA ?_;have hp:=hp.j7 eT 88 2;refine kS ([8]++range' 73 18) (fun ts sT cT F=>F.put 8 (.int _ ts.length))
   (fun ts sT cT w'=>ts.length≤1+x8∧kg sT cT ts∧(∀q x,ts[q]? =some x→Iq (1+x6) q x)∧Hp W [] w' [qG eT 88 2 sT cT ts,_,bu db 13 (qE (FP d0 _ _ _ sT cT ts).L) 28,_,_])
   (fun ts _ _=>(1+x8-ts.length).toNat) [] _ 0 (qB (ka.eq .refl) O) ⟨O6,.nil,Iy,hp⟩ ?_
  clear hp;rintro u ts sT cT w ⟨se,sd,sh,hp⟩;have q3:(FP d0 (2+x5) _ (decide (x7=1)) sT cT ts).pi=1+x6:=O;refine tI (fun h5=>?_) fun h5=>?_
  ·refine qA ?_;refine jU jG O3 (fun w'=>Hp W [] w' _) (hp.U.pick 2 O) ?_;have hp:=hp.U;refine qX ?_;refine tA ?_;refine qX ?_;apply Ag;rfl;exact qC O A6 O (A5 hp hs hl 3 O O2 O2);rintro _ w ⟨y,rfl,yl,yu,hp⟩;refine⟨hp.pick 2 O,tA ?_⟩;refine qX ?_;apply Ag;rfl;exact jC hp O O O O O O O;rintro _ w ⟨nb,rfl,hp⟩;refine⟨hp.pick 3 O,?_⟩;apply Ag;rfl;exact jV eT ts (1+x6-ts.length,1+y) hp 1 0 O O O O O O (fun _=>O) O O O sd O O O1;rintro _ w ⟨s',c',rfl,hn,hp⟩;refine⟨hp.pick 3 O,?_⟩;have hp:=Hp.tail hp;refine qX ?_;refine tS fun w hp=>?_;refine qU (tB ?_);refine qA ?_;exact⟨_,s',c',qB O5 (qF O4),⟨by simp;omega,hn,IA sh ⟨O,O1,O1⟩,hp⟩,by simp;omega⟩
  have hG:=zQ9 (sT:=sT) (cT:=cT) (ro:=decide (x7=1)) h0 zy (po:=2+x5) O1 O1 sh O1 O1 O1;have hD:∀{w':World} {A:List _},Hp W [] w' (qG eT 88 2 sT cT ts::qG eI 3 1 sB cB xs::A)→BB (FP d0 (2+x5) (1+x6) (decide (x7=1)) sT cT ts) ts [] xs w':=fun{w' A} h=>⟨qZ h 0 O sd (fun _=>O),FO,FO,by show ig w' 1 eI d0.sB xs;rw[sn];exact qZ h 1 O sf (fun _=>O)⟩
  generalize FP d0 _ _ _ sT cT ts=d at hp hG hD;exact UL
 have zy:=zy;refine tI (fun zw=>?_) fun zw=>?_
 ·have zw:=zw;rw[←hB] at hp;refine qA ?_;refine tF (qC O A6 O (A5 hp hs hl 2 O O2 O2)) fun w x5⟨s4,s6,hp⟩=>tT fun w hp=>?_;have hp:=hp.I 1 (KZ d0 x5 _ 0 []).L O O;refine qA ?_;refine tF (qC O A6 O (A5 hp hs hl 2 O O2 O2)) fun w x8⟨s5,sy,hp⟩=>tA ?_;refine qA ?_;have hp:=hp.j7 eP 130 2;refine kS ([10]++range' 99 16) (fun ts sT cT F=>F.put 10 (.int _ ts.length))
   (fun ts sT cT w'=>ts.length≤1+x8∧kg sT cT ts∧(∀q x,ts[q]? =some x→FV q x)∧Hp W [] w' [qG eP 130 2 sT cT ts,_,bu db 13 (qE (KZ d0 x5 sT cT ts).L) 28,_,_])
   (fun ts _ _=>(1+x8-ts.length).toNat) [] _ 0 (qB (ka.eq .refl) O) ⟨O6,.nil,Iy,hp⟩ ?_
  clear hp;rintro u ts sT cT w ⟨se,sd,sh,hp⟩;refine tI (fun h5=>?_) fun h5=>?_
  ·refine qA ?_;refine jU jG O3 (fun w'=>Hp W [] w' _) (hp.U.pick 2 O) ?_;have hp:=hp.U;refine qX ?_;refine tK (Lq _ _) ?_;rintro _ w ⟨rfl,hk⟩;have hp:=hp.V hk;refine⟨hp.pick 2 O,qX ?_⟩;apply Ag;rfl;exact qC O A6 O (A5 hp hs hl 3 O O2 O2);rintro _ w ⟨y,rfl,yl,yu,hp⟩;refine⟨hp.pick 2 O,tA ?_⟩;refine qX ?_;apply Ag;rfl;exact jC hp O O O O O O O;rintro _ w ⟨nb,rfl,hp⟩;refine⟨hp.pick 3 O,?_⟩;apply Ag;rfl;exact jV eP ts (Bt _,1+y) hp 1 0 O O O O O O (fun _=>O) O O O sd O O O1;rintro _ w ⟨s',c',rfl,hn,hp⟩;refine⟨hp.pick 3 O,?_⟩;have hp:=Hp.tail hp;refine qX ?_;refine tS fun w hp=>?_;refine qU (tB ?_);refine qA ?_;exact⟨_,s',c',qB O5 (qF O4),⟨O6,hn,IA sh ⟨O,O1,O1⟩,hp⟩,by simp;omega⟩
  have hG:=zQa (sP:=sT) (cP:=cT) h0 zw (cl:=x5) O1 sh O1 O1;have hD:∀{w':World} {A:List kr},Hp W [] w' (qG eP 130 2 sT cT ts::qG eI 3 1 sB cB xs::A)→BB (KZ d0 x5 sT cT ts) [] ts xs w':=fun{w' A} h=>⟨FO,qZ h 0 O sd (fun _=>O),FO,by show ig w' 1 eI d0.sB xs;rw[sn];exact qZ h 1 O sf (fun _=>O)⟩
  generalize KZ d0 x5 sT cT ts=d at hp hG hD;exact UL
 have zw:=zw;refine qA ?_;refine qH O (fun zx=>?_) O1;have zx:=zx;rw[←hP] at hp;refine qA ?_;refine tF (qC O A6 O (A5 hp hs hl 2 O O2 O2)) fun w x5⟨s4,s6,hp⟩=>tA ?_;refine tT fun w hp=>?_;have hp:=hp.I 1 (Ij d0 (1+x5) _ 0 []).L O O;refine qA ?_;refine tF (qC O A6 O (A5 hp hs hl 2 O O2 O2)) fun w x8⟨s5,sy,hp⟩=>qA ?_;have hp:=hp.j7 DU 33 3;refine kS ([12,13]++range' 123 28) (fun ts sT (cT:Nat) F=>F.put 12 (Iv ts.length))
  (fun ts sT cT w'=>ts.length≤x8∧kg sT cT ts∧(∀q x,ts[q]? =some x→FU (1+x5) q x)∧Hp W [] w' [qG DU 33 3 sT cT ts,_,bu db 13 (qE (Ij d0 (1+x5) sT cT ts).L) 28,_,_])
  (fun ts _ _=>(x8-ts.length).toNat) [] none 0 (qB (ka.eq .refl) O) ⟨O1,.nil,Iy,hp⟩ ?_
 clear hp;rintro u ts sT cT w ⟨se,sd,sh,hp⟩;have q3:(Ij d0 _ sT cT ts).sz=1+x5:=O;refine tI (fun h5=>?_) fun h5=>?_
 ·refine qA ?_;refine HU false (List.range' 0 10) jG O3 O (fun w'=>Hp W [] w' _) (hp.U.pick 2 O) ?_;have hp:=hp.U;refine zP (BP 8 O O3 O O ?eA ?eB)
  case' eA=>
   refine tK (Lq _ _) ?_;rintro _ w ⟨rfl,hk⟩;have hp:=hp.V hk;refine⟨hp.pick 2 O,zP ?_⟩;apply C8;rfl;rfl;intro w hp;exact qO O O;exact qF (qK O1 O1);refine BP 8 O O3 O O ?eC ?eD
   case' eC=>
    apply Au;rfl;exact qC O A6 O (A5 hp hs hl 3 O O1 O1);rintro _ w ⟨hi,rfl,sa,s7,hp⟩;refine⟨hp.pick 2 O,zP (xO O O3 ?_ O)⟩;apply Au;rfl;exact jK hp (qJ O);rintro _ w ⟨qb,rfl,hp⟩;refine⟨hp.pick 3 O,?_⟩
   case' eD=>
    apply Au;rfl;exact jK hp (qJ O);rintro _ w ⟨qb,rfl,hp⟩;refine⟨hp.pick 3 O,xO O O3 ?_ O⟩;apply Au;rfl;exact qC O A6 O (A5 hp hs hl 4 O O1 O1);rintro _ w ⟨hi,rfl,sa,s7,hp⟩;refine⟨hp.pick 3 O,zP ?_⟩
  case' eB=>
   apply Au;rfl;exact jK hp (qJ O);rintro _ w ⟨qb,rfl,hp⟩;refine⟨hp.pick 3 O,xO O O3 (tK (Lq _ _) ?_) O⟩;rintro _ w ⟨rfl,hk⟩;have hp:=hp.V hk;refine⟨hp.pick 3 O,zP ?_⟩;apply C8;rfl;rfl;intro w hp;exact qO O O;exact qF (qK O1 O1);refine xO O O3 ?_ O;apply Au;rfl;exact qC O A6 O (A5 hp hs hl 4 O O1 O1);rintro _ w ⟨hi,rfl,sa,s7,hp⟩;refine⟨hp.pick 3 O,zP ?_⟩
  all_goals (
   refine xO O O3 ?_ O;apply zGz;rfl;rfl;exact qW hp 0 O O O O (qD O) O;rintro _ w ⟨rfl,hp⟩;have hp:=hp.I 0 [.string _,.int _ 0,.int _ hi] O O;refine yZ (qA ?_);refine tF (qC O A6 O (A5 hp hs hl 4 O O2 O2)) fun w y⟨yl,yu,hp⟩=>tI (fun h6=>?_) fun h6=>?_
   case' refine_1=>
    refine tB ?_;refine tF (qC O A6 O (A5 hp hs hl 4 O O1 O1)) fun w lo⟨la,lc,hp⟩=>tT fun w hp=>?_;have hp:=hp.I 0 [.string _,.int _ lo,.int _ hi] O O;have si:0≤lo∧lo≤hi:=O1
   case' refine_2=>
    obtain⟨lo,sM⟩:∃lo:Int,lo=0:=⟨0,O⟩;have hp:=hp.I 0 [.string _,.int _ lo,.int _ hi] O (by rw[sM];rfl);have si:0≤lo∧lo≤hi:=O1
   all_goals (
    refine qA ?_;refine tF (jC hp O O O O O O O) fun w nb hp=>AB (jV _ ts (Bt _,lo,hi) hp 2 0 O O O O O O (fun _=>O) O O O sd O O O1) fun w s' c'⟨hn,hp⟩=>?_;have hp:=Hp.tail (Hp.tail hp);refine tT fun w hp=>?_;have hp:=hp.I 2 (Ij d0 _ s' c' _).L O O;refine Ae ?_
    exact⟨ts++[(Bt ts.length,lo,hi)],s',c',qB O5 (qF O4),⟨by simp;omega,hn,IA sh ⟨O,si.1,si.2,by show hi≤1+x5;omega⟩,hp⟩,by simp;omega⟩))
 have hG:=zQ8 (sQ:=sT) (cQ:=cT) h0 zx O1 sh O1;have hD:∀{w':World} {A:List kr},Hp W [] w' (qG DU 33 3 sT cT ts::qG eI 3 1 sB cB xs::A)→BB (Ij d0 (1+x5) sT cT ts) [] [] xs w':=fun{w' A} h=>⟨FO,FO,qZ h 0 O sd (fun _=>O),by show ig w' 1 eI d0.sB xs;rw[sn];exact qZ h 1 O sf (fun _=>O)⟩
 generalize Ij d0 _ sT cT ts=d at hp hG hD;exact UL
end
variable{M:List Nat}{f:Nat}{p:List ByteArray}{w0:World}
def Ix(id:Int)(sP:Option Addr)(cP:Nat)(p:List Int):EN:=⟨⟨id,0,0,sP,p.length,cP,none,0,0,none,0,[]⟩,p,[]⟩
def MQ(id cl fa:Int)(sW:Option Addr)(cW:Nat)(p:List ByteArray):EN:=⟨⟨id,cl,fa,none,0,0,sW,p.length,cW,none,0,[]⟩,[],p⟩
def QO(id:Int)(sG:Option Addr)(cG:Nat)(p:List ByteArray):EN:=⟨⟨id,0,0,none,0,0,none,0,0,sG,cG,p⟩,[],[]⟩
def Ff(x:EN):List kr:=[qG eI 3 1 x.e.sP x.e.cP x.Pk,qG eS 9 1 x.e.sW x.e.cW x.Ws,qG eS 9 1 x.e.sG x.e.cG x.e.G]
structure VF(x:EN):Prop where
 P:kg x.e.sP x.e.cP x.Pk
 W:kg x.e.sW x.e.cW x.Ws
 G:kg x.e.sG x.e.cG x.e.G
theorem VF.at_{x L}(v:VF x)(hp:Hp w0 M w L)(hm:∀p∈Ff x,p∈L):E9 x w:=by
 have⟨i,hi⟩:=fZ (hm (qG eI 3 1 x.e.sP x.e.cP x.Pk) (by simp[Ff]));have⟨j,hj⟩:=fZ (hm (qG eS 9 1 x.e.sW x.e.cW x.Ws) (by simp[Ff]));have⟨k,hk⟩:=fZ (hm (qG eS 9 1 x.e.sG x.e.cG x.e.G) (by simp[Ff]));exact⟨qZ hp i hi v.P (fun _=>O),qZ hp j hj v.W (fun _=>O),qZ hp k hk v.G (fun _=>O)⟩
def QB(d:DW)(m:Nat):List Value:=[.string d.nm,Iv d.kd,Iv d.rd,Iv d.pr,Iv d.po,Iv d.pi,.slice d.sT d.mT d.cT,.bool d.ro,.slice d.sP m d.cP,Iv d.cl,Iv d.sz,.slice d.sQ d.Q.length d.cQ,.slice d.sB d.mB d.cB]
abbrev VE (f po n:Int) (q:Nat) (x:Int):Prop:=f+q≤x∧x≤po∧((q:Int)+1<n→x=f+q)
theorem QZ{p}:∀{l:List Int} {f b:Int},b<f→(∀q x,l[q]? =some x→VE f p l.length q x)→C5 p b l
 |[],_,_,_,_=>trivial
 |x::l,f,b,hb,h=>by
  have h0:=h 0 x O;simp only[VE,cF] at h0;refine⟨O1,h0.2.1,?_⟩;cases l with
  |nil=>trivial
  |cons y l=>
   have hx:x=f:=by
    have:=h0.2.2 O6;omega
   refine QZ (f:=f+1) O1 (fun q z hz=>?_);have:=h (q+1) z hz;grind
theorem VZ{B id p}(hk:d.kd=1)(hid:101≤id∧id≤1000)(hB:∀x∈B,x<101)(hl:(p.length:Int)=d.pi)(hi:C5 d.po 0 p):Jw d P B (Ix id sP cP p):=by
 refine⟨by show 1≤id∧id≤_;omega,fun h=>?_,O,O,fun _=>⟨hl,hi⟩,fun e=>?_,fun e=>?_,absurd hk,absurd hk,fun _=>⟨O,O⟩,fun _=>⟨O,O,O⟩,fun _=>O⟩
 ·have:id<101:=hB _ h;omega
 ·omega
 omega
theorem zQ2{B id fa sW cW}(hk:d.kd=2)(hid:101≤id∧id≤1000)(hB:∀x∈B,x<101)(hc:0≤cl∧cl≤d.cl)(hf:0≤fa∧fa≤1000)(hl:p.length≤P.length)(hm:∀w∈p,w∈P.map Prod.fst)(hn:p.Nodup):Jw d P B (MQ id cl fa sW cW p):=by
 refine⟨by show 1≤id∧id≤_;omega,fun h=>?_,O,O,fun e=>?_,fun _=>⟨hc.1,hc.2,hf.1,by show fa≤_;omega,hl,hm,hn⟩,fun e=>?_,fun _=>O,fun _=>⟨O,O⟩,fun _=>⟨O,O⟩,absurd hk,fun _=>O⟩
 ·have:id<101:=hB _ h;omega
 ·omega
 omega
theorem zQ1{B id sG cG}(hk:d.kd=3)(hid:101≤id∧id≤1000)(hB:∀x∈B,x<101)(hl:p.length≤12)(hm:∀w∈p,Wd w)(hn:p.Nodup):Jw d P B (QO id sG cG p):=by
 refine⟨by show 1≤id∧id≤_;omega,fun h=>?_,O,O,fun e=>?_,fun e=>?_,fun _=>⟨hl,hm,hn⟩,fun _=>O,fun _=>⟨O,O⟩,absurd hk,fun _=>⟨O,O,O⟩,absurd hk⟩
 ·have:id<101:=hB _ h;omega
 ·omega
 omega
theorem VY(hf:f<n)(hq:q<n):(f+q)%n=if f+q<n then f+q else f+q-n:=by
 split
 ·exact aZ O1
 rw[Nat.mod_eq_sub_mod O1];exact aZ O1
abbrev JW (P:List (ByteArray×Int)) (f:Nat) (q:Nat) (x:ByteArray):Prop:=∃y,P[(f+q)%P.length]? =some y∧x=y.1
theorem zQd(hn:(P.map Prod.fst).Nodup)(hf:f<P.length)(hl:p.length≤P.length)(h:∀q x,p[q]? =some x→JW P f q x):p.Nodup:=by
 have:=JE (l:=p) (f:=fun x=>x) (by
  intro i j x y hi hj e;have⟨u,hu,hx⟩:=h i x hi;have⟨v,hv,hy⟩:=h j y hj;have xt:=Iz hi;have zt:=Iz hj;have ti:=eJ.1 hn;rw[pW,dX] at ti;have⟨tj,tk⟩:=aI.1 hu;have⟨th,tg⟩:=aI.1 hv;have tp:u.1=v.1:=by rw[←hx,←hy];exact e
  have key:(f+i)%P.length=(f+j)%P.length:=by
   rcases Rv ((f+i)%P.length) ((f+j)%P.length) with hh|hh|hh
   ·grind
   ·exact hh
   exact absurd O6 (ti _ _ th tj hh)
  rw[VY hf O1,VY hf O1] at key
  grind)
 grind
structure JG(k:Nat)(G:List ByteArray):Prop where
 m:∀g∈G,∃q,q<k∧g=Bt (q:Nat)
 n:G.Nodup
 l:G.length≤k
theorem JG.no{G}(h:JG k G):JG (k+1) G:=⟨fun g hg=>by
 have⟨q,h1,h2⟩:=h.m g hg
 grind,h.n,by have:=h.l;omega⟩
theorem JG.yes{G}(h:JG k G)(hk:k<6):JG (k+1) (G++[Bt (k:Nat)]):=by
 refine⟨fun g hg=>?_,?_,?_⟩
 ·rcases fK.1 hg with hg|hg
  ·exact h.no.m g hg
  grind
 ·rw[pX];refine⟨h.n,O4,fun a ha b hb=>?_⟩;have⟨q,h1,h2⟩:=h.m a ha;rw[gT.1 hb,h2];intro e;have:=Rf O1 hk e;omega
 have:=h.l;grind
theorem JG.wd{G}(h:JG k G):∀g∈G,Wd g:=fun g hg=>by
 obtain⟨q,_,rfl⟩:=h.m g hg;exact Q4 _
def FW(d:DW)(P:List (ByteArray×Int))(B:List Int)(q:Nat)(x:EN):Prop:=x.e.id=101+(q:Int)∧Jw d P B x∧VF x
theorem FW.nd{B:List Int}(h:∀q x,X[q]? =some x→FW d P B q x):(X.map fun x=>x.e.id).Nodup:=JE (by
 intro i j x y hi hj e;have h1:=(h i x hi).1;have h2:=(h j y hj).1
 omega)
section
attribute [local irreducible] Bt GG
set_option maxRecDepth 20000 in
theorem r16(d){T P B}(l s c W)(hG:ML d T P B)(hA:BB d T P B W)(hs:ig W 1 eI s l)(hl:l.length≤maxLen):
  Rt 16 [d.v,.slice s l.length c] W (fun v w'=>∃(X:List EN) (so:Option Addr) (co:Nat),v= .slice so X.length co∧X.length≤6∧X.length≤co∧Aa d T P B X∧Ak d T P B so X w'∧(∀x∈X,x.e.id<1000)∧ax [] W w'):=by
 have hg:=hG.ok;have uc:=hg.mP;have xv:=hG.pl;have uh:=hG.bar;have ze:=hg.kd;refine tW func16 ntmps16 fun hp=>?_;refine qR ?_;refine tQ fun w db hp=>?_;have hp:=hp.I 0 (QB d P.length) O (by rw[←uc];rfl);refine qA (tF (kW (cs:=[.slice s _ c,_]) (m:=2) hp O O O) fun w mb hp=>?_)
 have hp:Hp W [] w [(some mb,GG s c l),bu db 13 _ 28]:=hp.y1 (i:=0) O (fun o ho=>by
  unfold GG
  exact⟨0,by exact ho⟩)
 refine qA ?_;refine tF (qC O A6 O (A5 hp hs hl 0 O O2 O2)) fun w x0⟨s8,sF,hp⟩=>?_;obtain⟨N,rfl⟩:∃N:Nat,x0=N:=⟨x0.toNat,O1⟩;refine qA ?_;have hp:=hp.j7 AR 94 6;refine yL [(2,.pointer _),(5,.pointer _),(6,.int _ _),(7,.slice _ 0 0),(8,.int _ 0)] ⟨O,O,O,O,O,trivial⟩ ?_;intro F0;refine qQ (range' 7 10++range' 22 126) (fun z F=>(F.put 8 (.int _ (z.1.length))).put 7 (.slice z.2.1 z.1.length z.2.2))
  (fun z w'=>z.1.length≤N∧kg z.2.1 z.2.2 (z.1.map EN.e)∧(∀q x,z.1[q]? =some x→FW d P B q x)∧Hp W [] w' ([qG _ 94 6 z.2.1 z.2.2 (z.1.map EN.e),_,_]++z.1.flatMap Ff))
  (fun z=>N-z.1.length) ([],none,0) (qB (qB (ka.eq .refl) O) O) ⟨bL _,.nil,Iy,by simpa using hp⟩ ?_
 clear hp;rintro u ⟨X,so,co⟩ w ⟨ys,tq,hJ,hp⟩;dsimp only at ys tq hJ hp⊢;refine tI (fun h=>?_) fun h=>?_
 ·have ur:X.length<7:=O1;refine tB ?_;obtain⟨id,hid⟩:∃id:Int,id=101+X.length:=⟨_,O⟩;rw[←hid];have ui:101≤id∧id≤1000:=O1;refine qA ?_;refine tQ fun w eb hp=>?_;refine tS fun w hp=>?_;have hp:=hp.I 0 (AR (Ix id _ 0 []).e) O O;have hp:=((hp.j7 eS 9 1).j7 eS 9 1).j7 eI 3 1;refine I3 (I6 ?_);refine I4 (uD (range' 10 7++range' 30 114) (fun _ F=>F) (fun x w'=>FW d P B X.length x∧Hp W [] w' (Ff x++([bu eb 6 (qE (AR x.e)) 94,qG AR 94 6 so co (X.map EN.e),(some mb,GG s c l),bu db 13 (qE (QB d P.length)) 28]++X.flatMap Ff))) ?_ ?_)
  ·refine tI (fun zy=>?_) fun zy=>?_
   ·have zy:=zy;have hpo:=(hg.k1 zy).po;have hh:=(hg.k1 zy).pi;refine tB ?_;refine tA ?_;refine tF (qC O A6 O (A5 hp hs hl 5 O O1 O1)) fun w x1⟨sj,sk,hp⟩=>?_;obtain⟨f,hf⟩:∃f,f=1+x1:=⟨_,O⟩;refine ke (qO O O) (qF (b:=f) (by rw[hf];exact qK O1 O1)) (qA ?_);refine kS ([11]++range' 43 14) (fun ps sP cP F=>F.put 11 (.int _ ps.length))
     (fun ps sP cP w'=>ps.length≤d.pi∧kg sP cP ps∧(∀(q:Nat) (x:Int),ps[q]? =some x→x=f+q)∧Hp W [] w' ([qG eI 3 1 sP cP ps,_,_,bu eb 6 (qE (AR (Ix id sP cP ps).e)) 94,_,_,_]++X.flatMap _))
     (fun ps _ _=>(d.pi-ps.length).toNat) [] _ 0 (qB (ka.eq .refl) O) ⟨O6,.nil,Iy,hp⟩ ?_
    clear hp;rintro u2 ps sP cP w ⟨se,tr,ue,hp⟩;refine tI (fun h5=>?_) fun h5=>?_
    ·refine tB ?_;refine tF (jC hp O O O O O O O) fun w nb hp=>AB (jV eI ps _ hp 1 0 O O O O O O (fun _=>O) O O O tr O O O1) fun w s' c'⟨hn,hp⟩=>?_;have hp:=Hp.tail hp;refine tT fun w hp=>?_;refine Ae ?_;exact⟨_,s',c',qB O5 (qF O4),⟨O6,hn,IA ue O,hp⟩,by simp;omega⟩
    have ul:ps.length=d.pi:=O1;have um:ps≠[]:=by
     rintro rfl;simp at ul;omega
    obtain⟨gP,rfl⟩:=tr.addr um;have ha:ps.length-1<ps.length:=O1;have tz:(ps.flatMap eI)[(ps.length-1)*1]? =some (Iv (f+(d.pi-1))):=by
     have h1:=aA ha;have h2:=I7 eI 1 (fun _=>O) ps (ps.length-1) 0 _ _ h1 O;rw[fY] at h2;rw[h2,ue _ _ h1];congr 2;omega
    refine qR ?_;refine jU jG O3 (fun w'=>Hp W [] w' [_,_,_]) (hp.U.j4 [0,3,6] _ O2 O) ?_;have hp:=hp.U;refine qX ?_;apply Ag;rfl;exact qC O A6 O (A5 hp hs hl 5 O O2 O2);rintro _ w ⟨x2,rfl,ss,su,hp⟩;refine⟨hp.j4 [0,3,6] _ O2 O,qX ?_⟩;apply Lg;rfl;rfl;rfl;intro w hp hb;exact jN (jP O hb) O;intro hb;exact qF (b:=(ps.length-1:Nat)) (by rw[qK O1 O1];omega);apply Lg;rfl;rfl;rfl;intro w hp hb;exact zA O (jP O hb) (jP O hb) O ha;intro hb;exact fP O;apply Lg;rfl;rfl;rfl;intro w hp hb;exact qS O (jP O hb) (hp.r8 (i:=0) O tz);intro hb;exact fI O;refine qX (qU ?_);refine qA ?_;have tw:∀q x,_=_→VE f d.po ps.length q x:=fun q x hx=>by
     have h1:=ue q x hx;have h2:=Iz hx;omega
    refine xD O (fun hB=>?_) (fun hB=>?_)
    ·have tv:f+(d.pi-1)<d.po:=by
      have:=hB;simp at this;omega
     refine tM (ps.length-1) ?_;refine qA (tO (zL eI ps _ _ hp 0 O tr ha O O (fun _=>O) O O (qD O)) fun w hp=>?_);have hp:=hp.I 3 (AR (Ix id _ cP (ps.set (ps.length-1) d.po)).e) O (by simp only[Ix,AR,fW];rfl);refine qA ?_;refine⟨Ix id (Ad gP) cP (ps.set (ps.length-1) d.po),ka.eq (by repeat(first|exact ka.k7|exact ka.refl|refine ka.put O ?_|refine ka.q6 O ?_)),⟨hid,VZ zy ui uh O6 (QZ (f:=f) O1 (fun q x hx=>?_)),tr.set _ _,.nil,.nil⟩,hp⟩;rw[fW];by_cases tt:ps.length-1=q
     ·grind
     grind
    refine qA ?_;exact⟨Ix id (Ad gP) cP ps,ka.eq (by repeat(first|exact ka.k7|exact ka.refl|refine ka.put O ?_|refine ka.q6 O ?_)),⟨hid,VZ zy ui uh ul (QZ (f:=f) O1 tw),tr,.nil,.nil⟩,hp⟩
   have zy:=zy;refine tI (fun zw=>?_) fun zw=>?_
   ·have zw:=zw;have hP:=(hg.k2 zw).cl;have uq:=(hg.k2 zw).l;have ua:=(hg.k2 zw).nd;refine tB ?_;refine tF (qC O A6 O (A5 hp hs hl 5 O O1 O1)) fun w x1⟨sj,sk,hp⟩=>tT fun w hp=>?_;refine qA ?_;refine tF (qC O A6 O (A5 hp hs hl 5 O O2 O2)) fun w x2⟨ss,su,hp⟩=>tT fun w hp=>?_;have hp:=hp.I 3 (AR (MQ id x1 x2 _ 0 []).e) O O;refine qA ?_;refine tF (qC O A6 O (A5 hp hs hl 5 O O1 O1)) fun w x3⟨sX,sD,hp⟩=>?_;obtain⟨f,rfl⟩:∃f:Nat,x3=f:=⟨x3.toNat,O1⟩;refine tB ?_;refine tF (qC O A6 O (A5 hp hs hl 5 O O1 O1)) fun w x4⟨sw,s9,hp⟩=>?_;obtain⟨K,rfl⟩:∃K:Nat,x4=K:=⟨x4.toNat,O1⟩;refine qA (kS ([14]++range' 102 22) (fun ps sP (cP:Nat) F=>F.put 14 (Iv ps.length))
     (fun ps sP cP w'=>ps.length≤K∧kg sP cP ps∧(∀(q:Nat) (x:ByteArray),ps[q]? =some x→JW P f q x)∧Hp W [] w' ([_,qG eS 9 1 sP cP ps,_,bu eb 6 (qE (AR (MQ id x1 x2 sP cP ps).e)) 94,_,_,_]++X.flatMap Ff))
     (fun ps _ _=>K-ps.length) [] none 0 (qB (ka.eq .refl) O) ⟨bL _,.nil,Iy,hp⟩ ?_)
    clear hp;rintro u2 ps sP cP w ⟨se,tr,ue,hp⟩;refine tI (fun h5=>?_) fun h5=>?_
    ·have hS:(f+ps.length)%P.length<_:=dY _ O1;obtain⟨y,hy⟩:∃y,P[(f+ps.length)%P.length]? =some y:=⟨_,aA hS⟩;have⟨pb,po,ud,ug⟩:=hA.P.base O1;have uk:=ug _ y hy 0 _ O;refine qA ?_;refine jU jG O3 (fun w'=>Hp W [] w' [_,_]) (hp.U.j4 [3,6] _ O2 O) ?_;have hp:=hp.U;refine qX ?_;refine tN (f+ps.length) ?_;refine qX ?_;refine tP (fun w hp=>qY2 O O O1) (tP (fun w hp=>zA O O O ud hS) ?_);refine qX ?_;apply Ag;rfl;exact jC hp O O O O O O O;rintro _ w ⟨nb,rfl,hp⟩;refine⟨hp.j4 [4,7] _ O2 O,?_⟩;apply Ag;rfl;exact jV eS ps _ hp 2 0 O O O O O O (fun _=>O) O O O tr O O O1;rintro _ w ⟨s',c',rfl,hn,hp⟩;refine⟨hp.j4 [4,7] _ O2 O,?_⟩;have hp:=Hp.tail hp;refine qX ?_;refine tS fun w hp=>?_;refine qU (tB ?_);refine qA ?_;exact⟨_,s',c',qB O5 (qF O4),⟨by simp;omega,hn,IA ue ⟨y,hy,O⟩,hp⟩,by simp;omega⟩
    refine qA ?_;exact⟨MQ id x1 x2 sP cP ps,ka.eq (by repeat(first|exact ka.k7|exact ka.refl|refine ka.put O ?_|refine ka.q6 O ?_)),⟨hid,zQ2 zw ui uh O1 O1 O1 (Hu ue fun q y _ hy=>O6) (zQd ua O1 O1 ue),.nil,tr,.nil⟩,hp⟩
   have zw:=zw;refine qA ?_;refine qH O (fun zx=>?_) (fun zx=>absurd (show d.kd=3 from O1) zx);have zx:=zx;refine qA ?_;refine tF (qC O A6 O (A5 hp hs hl 5 O O2 O2)) fun w x1⟨sj,sk,hp⟩=>qA (qQ ([16]++range' 128 16) (fun(z:Nat×Option Addr×Nat×List ByteArray) F=>F.put 16 (Iv (z.1:Int)))
    (fun z w'=>z.1≤3∧kg z.2.1 z.2.2.1 z.2.2.2∧JG z.1 z.2.2.2∧Hp W [] w' ([qG eI 3 1 none 0 [],qG eS 9 1 none 0 [],qG eS 9 1 z.2.1 z.2.2.1 z.2.2.2,bu eb 6 (qE (AR (QO id z.2.1 z.2.2.1 z.2.2.2).e)) 94,_,(some mb,GG s c l),_]++X.flatMap Ff))
    (fun z=>3-z.1) (0,none,0,[]) (qB (ka.eq .refl) O) ⟨O4,.nil,⟨O4,O4,O4⟩,hp⟩ ?_)
   clear hp;rintro u2 ⟨k,sG,cG,G⟩ w ⟨se,ub,uf,hp⟩;dsimp only at se ub uf hp⊢;have uo:=uf.l;refine tI (fun h5=>?_) fun h5=>?_
   ·refine qA ?_;refine tR (jOi O O O1) (tR (Y1 O O) ?_);refine qA (xD O (fun hb=>?_) (fun hb=>?_))
    ·refine jU jG O3 (fun w'=>Hp W [] w' [_]) (hp.U.j4 [3] _ O2 O) ?_;have hp:=hp.U;refine qX ?_;refine tK (Lq _ _) ?_;rintro _ w ⟨rfl,hk⟩;have hp:=hp.V hk;refine⟨hp.j4 [3] _ O2 O,?_⟩;apply Ag;rfl;exact jC hp O O O O O O O;rintro _ w ⟨nb,rfl,hp⟩;refine⟨hp.j4 [4] _ O2 O,?_⟩;apply Ag;rfl;exact jV eS G _ hp 3 0 O O O O O O (fun _=>O) O O O ub O O O1;rintro _ w ⟨s',c',rfl,hn,hp⟩;refine⟨hp.j4 [4] _ O2 O,?_⟩;have hp:=Hp.tail hp;refine qX ?_;refine tS fun w hp=>?_;refine qU (tB ?_);refine qA ?_;exact⟨(k+1,s',c',G++[_]),qB O5 O,⟨O1,hn,uf.yes O1,hp⟩,O1⟩
    refine Ae ?_;exact⟨(k+1,sG,cG,G),qB O5 O,⟨O1,ub,uf.no,hp⟩,O1⟩
   refine qA ?_;exact⟨QO id sG cG G,ka.eq (by repeat(first|exact ka.k7|exact ka.refl|refine ka.put O ?_|refine ka.q6 O ?_)),⟨hid,zQ1 zx ui uh O1 uf.wd uf.n,.nil,.nil,ub⟩,hp⟩
  clear hp;rintro u1 x w ⟨hx,hp⟩;refine qA ?_;refine tF (jC (cs:=AR _) hp O O O O O O O) fun w nb hp=>AB (jV _ _ _ hp 5 0 O O O O O O (fun _=>O) (by rw[aH];rfl) O O tq O O O6) fun w s' c'⟨hn,hp⟩=>?_;have hm:X.map EN.e++[x.e]=(X++[x]).map EN.e:=by rw[dR];rfl
  have tu:(X.map EN.e++[x.e]).length=X.length+1:=by rw[aY,aH];rfl
  rw[tu];rw[hm] at hp hn;have hp:=(Hp.tail hp).z7 3;have hp:Hp W [] w ([qG AR 94 6 s' c' ((X++[x]).map EN.e),(some mb,GG s c l),bu db 13 (qE (QB d P.length)) 28]++(X++[x]).flatMap Ff):=by
   rw[lD];exact hp.perm (((List.perm_append_comm_assoc (Ff x) [qG AR 94 6 s' c' ((X++[x]).map EN.e),(some mb,GG s c l),bu db 13 (qE (QB d P.length)) 28] (X.flatMap Ff))).trans (mQ _ (by simpa using eF)))
  refine Ae ?_;have zz:(X++[x]).length=X.length+1:=by rw[aY];rfl
  exact⟨(X++[x],s',c'),qB (qB O5 (qF O4)) (by show Value.slice s' _ c'=Value.slice s' (X++[x]).length c';rw[zz]),⟨O6,hn,IA hJ hx,hp⟩,O6⟩
 have uj:X.length≤6:=O1;have tx:=by
  have:=tq.cap;rwa[aH] at this
 refine qA ?_;refine qM O O ⟨_,O,X,so,co,O,uj,tx,⟨Hu hJ fun q y _ hy=>hy.2.1,FW.nd hJ,O1,hg⟩,⟨hA.j1 hp.Z,qZ hp 0 O tq (fun _=>O),fun x hx=>?_⟩,Hu hJ fun q y hq hy=>by have:=hy.1;omega,hp.Z⟩;have hv:=Hu hJ fun q y _ hy=>hy.2.2
 exact(hv x hx).at_ hp (fun p hp'=>by
  grind)
end
section
attribute [local irreducible] ki Ah Ab un uO
theorem zRa(a d){T P B}(s c N m lv X W)(hA:Ak d T P B s X W)(hK:Aa d T P B X)(hP:Cy d X a N m lv W)(x)(hx:N≤x)(us:Fit x)(v4):
  Rk 22 [d.v,.slice s X.length c,.agg (a.L d.kd N m.length lv.length (AK N)).toArray,.string (ki x),v4] W (.bool false):=by
 have hf:=hP.fit;refine tW func22 ntmps22 fun hp=>?_;refine qR ?_;refine tQ fun w1 b3 hp=>?_;refine tQ fun w2 b5 hp=>?_;refine tR qY (qR ?_);refine ke (qL O O O O (hp.i6 1 O O)) (O:_=d.v) (ke qP (O:_=Value.slice s _ c) ?_);refine ke (qL O O O O (hp.i6 0 O O)) O (ke (HS (zs:=EM) (pl:=[(0,13),(13,1),(14,6)]) (pl':=[]) underlying132 (qJ O) (fun w=>O3) O O O) (O:_=Value.agg (AV a d s c _ N m lv).toArray) ?_);refine tF (zE (cs:=EM) (m:=20) hp (qJ O) O O) fun w4 cb hp=>tO (zH (cs:=(AV a d s c _ N m lv)) hp 0 O O O O (qD O) O O) fun w5 hp=>?_;have hp:=hp.I 0 (AV a d s c _ N m lv) O O;refine qR (ke (qL O O O O (hp.i6 0 O O)) O ?_);refine tC (XU a d s c N m lv X _ (hA.j1 hp.Z) hK (hP.j1 hp.Z)) fun w6 hp=>?_;refine tE (BY x N _ us hf) fun w7 hp=>?_;apply vX;rfl;rfl;exact vE O O;exact qV (aD O1);exact Mk
end
theorem zNf{B N x lv}(hK:Aa d T P B X)(hP:Cy d X a N m lv w)(h:x<N):(A0 d P X m x).length≤1000∧(d.kd=2→(A0 d P X m x).length=X.length):=by
 have hl:=hK.l;unfold A0;rcases hK.d.kd with hk|hk|hk
 ·have hN:=(hP.tot O1).1;unfold BC at hN;rw[if_pos hk] at hN;have hy:=(hK.d.k1 hk).pi;rw[if_pos hk,aH,IB _ _ _ _ O1];omega
 ·rw[if_neg O1,if_pos hk,QS,aH];omega
 obtain⟨lr,p,rfl,hG,ut,_⟩:=hP.pan hk;have hM:=hG.mix;obtain⟨uu,yv,uw,uv⟩:=IE _ x _ 0 (bL _) (by rw[gF,hM.tot];exact h);have hF:=(hM.get (i:=AZ (Ah m) x 0 m.length) O1).1;have:=uK hF.srt (fun i _=>bL i) hF.lt;grind
theorem Cy.pos{B N lv}(hP:Cy d X a N m lv w)(hK:Aa d T P B X):0<N:=by
 by_cases hk:d.kd=3
 ·obtain⟨lr,p,rfl,_⟩:=hP.pan hk;exact Gm
 rw[(hP.tot hk).1];unfold BC;split
 ·next h1=>
  have hy:=(hK.d.k1 h1).pi;exact Rl O1
 exact Fl _
theorem WD{q:Rat}(hn:0<n)(hq:(c:Rat)=q*(n:Nat))(h1:c<2^k)(h2:n<2^k):BQ k q:=by
 have ux:(n:Rat)≠0:=by
  intro e;have:n=0:=by exact_mod_cast e
  omega
 have h3:q=mkRat (sg false c) n:=by
  show q=mkRat ((c:Nat):Int) n
  rw[iO,gI,hq];grind
 rw[h3];exact BQ.mk hn h1 h2
theorem zPl(h:n<2^k)(hk:1≤k):BQ k (n:Rat):=by
 refine WD (n:=1) O1 O6 h ?_;grind
section
theorem jZo:vl [5,2] 0=5:=O3
theorem jJc{a:Nat}(h:Mb a):1≤a:=h.1
theorem jO5:∀a∈Ia 4 [5,2],Mb a:=by
 intro a ha;obtain⟨x,_,rfl⟩:=bM.1 ha;exact LB Vq x
def VW:ByteArray:=⟨#[108,111,116,116,111]⟩
def Zy:ByteArray:=⟨#[10]⟩
def Iw(tb:Nat):DW:=⟨VW,1,1,0,5,2,Ad tb,1,1,false,none,0,0,0,0,none,0,[],none,0,0⟩
theorem zOb:Wd VW:=⟨O2,O2,O2⟩
theorem zPi(tb:Nat):Ho (Iw tb) [(2,50)]:=⟨by show 1≤5∧5≤60;decide,by show 1≤2∧2≤10∧2≤5;decide,O2,fun t ht=>by
 obtain rfl:=gT.1 ht;show 0≤2∧2≤2∧1≤50∧50≤100
 decide,O2,O2⟩
theorem zOw(tb:Nat):Hn (Iw tb) [(2,50)] [] []:=⟨zOb,by show 1≤1∧1≤1000000000;decide,by show 0≤0∧0≤1000000;decide,O,O,O,O2,.nil,.inl O,fun _=>zPi tb,fun h=>absurd h (by show¬1=2;decide),fun h=>absurd h (by show¬1=3;decide),absurd O,fun _=>⟨O,O⟩,fun _=>⟨O,O⟩⟩
theorem zPj(tb:Nat):Aa (Iw tb) [(2,50)] [] [] []:=⟨fun x hx=>absurd hx O4,O4,O4,zOw tb⟩
theorem jK1:ki 10=Zy:=O3
theorem zO3:AK 10=4:=O3
theorem zOc(tb:Nat):BC (Iw tb) []=10:=O3
theorem zWr:∀x∈[1,2],Cl (Ia 4 [5,2]) x=4^vl [5,2] x%gP:=by decide+kernel
theorem zWs(hb:Mb b):Fs (CD (CF b [5,2] [1,2]) 2) (CC (CF b [5,2] [1,2]) 2)=b^vl [5,2] 0%gP:=by
 have h:=YP (b:=b) [(7,2),(9,gQ-1)] 0
 have h0:b^0%gP=1:=by rw[Nw];decide
 rw[h0,aZ (jEw _ O2)] at h
 exact(show Fs (CD (CF b [5,2] [1,2]) 2) (CC (CF b [5,2] [1,2]) 2)=_ from O).trans (h.trans (Sf hb (by decide+kernel)))
attribute [local irreducible] ki uY hv BI Cl Mb CI DC uB C0 Fs He Bi CX AY dec AK
theorem p4(w:World)(hT:Ai w):Rk 5 [] w (.bool true):=by
 have vm:=jO5;obtain⟨r,hr⟩:∃r:Int,r=3:=⟨3,O⟩;have vh:Iv r=Iv 3:=by rw[hr]
 have vk:=LB (JS hr) 5;have zr:=Gl (JS hr);have h18:=fun w h=>by
  have:=TY r w h O1 O1;rwa[vh] at this
 have vo:=fun w h=>by
  have:=p7 1 7 r w h O1 O1 hr O2 O2 O2;rwa[vh] at this
 have vn:=fun w h=>by
  have:=p7 2 9 r w h O1 O1 hr O2 O2 O2;rwa[vh] at this
 have h9:∀(k:Et) (s:Option _) (w:World),Ai w→Co w k→E6 k _ _→ig w 4 _ s _→k.cs.length=2→km _ 27 [_,_,.slice s 2 2] w _:=fun k s w h hk hp hs hl=>by
  have:=p9 k [2,2] [5,2] [1,2] r s 2 w h O1 O1 hr hk hp O2 O zWr hl (by rw[hl];exact zWs (JS hr)) (by exact hs) O6 O2 (by rw[hl];rfl);rw[vh,jZo] at this;omega
 clear vh hr;generalize ye:AY r=B at*
 refine tW func5 ntmps5 fun hp=>?_;refine tL (FA 4 5 2305843009213691579 _ O2 O2 O2 O2) ?_;rintro _ w1 ⟨rfl,hk⟩;have hp:=hp.V hk;refine tK (FA 4 2 2305843009213691579 _ O2 O2 O2 O2) ?_;rintro _ w2 ⟨rfl,hk⟩;have hp:=hp.V hk;obtain⟨c5,vi⟩:∃c5,c5=4^5%2305843009213691579:=⟨_,O⟩;obtain⟨c2,u6⟩:∃c2,c2=4^2%2305843009213691579:=⟨_,O⟩;have u1:[c5,c2]=Ia 4 [5,2]:=by rw[vi,u6];rfl
 rw[←vi,←u6];rw[←u1] at vm;refine tF (jC (cs:=[c5,c2].flatMap eN) hp O O O O O O O) fun w3 ba hp=>tF (jC (cs:=[1,2].flatMap eN) hp O O O O O O O) fun w4 be hp=>tF (jC (cs:=[3,4].flatMap eN) hp O O O O O O O) fun w5 bc hp=>tF (jC (cs:=[⟨Ad be,2,[1,2]⟩,⟨_,2,[3,4]⟩].flatMap Qz) hp O O O O O O O) fun w6 bf hp=>qA ?_;refine tQ fun w7 b1 hp=>?_;refine tS fun w8 hp=>?_;have hp:=hp.I 0 [.slice _ 2 2,.slice _ 2 2] O O;have vf:∀{W:World} {A:List kr},Hp w [] W (A++[bu b1 2 (qE [.slice (Ad ba) 2 2,.slice (Ad bf) 2 2]) 76,bu bf ([(⟨Ad be,2,[1,2]⟩:A9),⟨Ad bc,2,[3,4]⟩].flatMap Qz).length (qE ([(⟨Ad be,2,[1,2]⟩:A9),⟨Ad bc,2,[3,4]⟩].flatMap Qz)) 22,bu bc ([3,4].flatMap eN).length (qE ([3,4].flatMap eN)) 3,bu be ([1,2].flatMap eN).length (qE ([1,2].flatMap eN)) 3,bu ba ([c5,c2].flatMap eN).length (qE ([c5,c2].flatMap eN)) 3])→
   Co W (⟨Ad ba,2,[c5,c2],Ad bf,2,[⟨Ad be,2,[1,2]⟩,⟨Ad bc,2,[3,4]⟩]⟩:Et):=fun{W A} h=>by
  have h:=h.sub (dA A _);refine⟨G7 _ h 4 O (fun _=>O),G7 _ h 1 O (fun _=>O),fun r hr=>?_⟩;rcases aP.1 hr with rfl|hr
  ·exact G7 _ h 3 O (fun _=>O)
  rw[gT.1 hr];exact G7 _ h 2 O (fun _=>O)
 have vq:E6 ⟨Ad ba,2,[c5,c2],Ad bf,2,[⟨Ad be,2,[1,2]⟩,⟨Ad bc,2,[3,4]⟩]⟩ [2,2] _:=
  ⟨⟨O,⟨O2,O2,O2,O2,O2⟩,by show 2=G9 4;decide,vm⟩,u1,O2⟩
 refine qR ?_;refine tX fun hp=>?_;refine qX ?_;refine tK (vo _ (hT.j1 hp.Z)) ?_;rintro _ w9 ⟨rfl,hk⟩;have hp:=hp.V hk;refine⟨hp,qX ?_⟩;refine tK (vn _ (hT.j1 hp.Z)) ?_;rintro _ uy ⟨rfl,hk⟩;have hp:=hp.V hk;refine⟨hp,?_⟩;apply Ag;rfl;exact jC (cs:=[_,_].flatMap (Gz r)) hp O O O O O O O;rintro _ uz ⟨bP,rfl,hp⟩;refine⟨hp.E,tK (h9 ⟨Ad ba,2,[c5,c2],Ad bf,2,[⟨Ad be,2,[1,2]⟩,⟨Ad bc,2,[3,4]⟩]⟩ _ _ (hT.j1 hp.Z) (vf (A:=[_]) hp) vq (G7 _ hp 0 O (fun _=>O)) O) ?_⟩;rintro _ u0 ⟨rfl,hk⟩;have hp:=hp.V hk;refine⟨hp.E,?_⟩;obtain⟨W,hW⟩:∃W,W=B^5%gP:=⟨_,O⟩;rw[←hW] at vk⊢;refine qX (qU ?_);refine qA ?_;refine tF (jC (cs:=[.int _ 2,.int _ 50]) hp O O O O O O O) fun u5 tb hp=>qA ?_;refine tQ fun u2 b5 hp=>?_;refine tS fun u4 hp=>?_;have hp:=hp.I 0 (Iw tb).L O O;refine qR (ke (qL O O O O (hp.j2 (k:=13) (o:=0) 0 O O)) (O:_=(Iw tb).v) ?_);have vj:ig _ 2 eT _ [(2,50)]:=G7 _ hp 1 O (fun _=>O);refine tK (r7 _ _ 0 [] _ ⟨⟨vj,FO,FO,FO⟩,FO,fun x hx=>absurd hx O4⟩ (zPj tb) O4) ?_;rintro _ u3 hr;rcases hr with⟨hr,_⟩|⟨pa,N,m,lv,rfl,hPl,hk⟩
 ·exact absurd hr (by show¬1=3;decide)
 obtain⟨hN,rfl,rfl⟩:=hPl.tot (by show 1≠3;decide);rw[zOc] at hN;subst hN;rw[zO3];have hp:=hp.V hk;obtain⟨pl,xv⟩:∃pl:List Value,pl=[Iv 1,.string Zy,Iv 4,.slice pa.sP 0 pa.cP,.slice pa.sN 0 pa.cN,.slice pa.sL 0 pa.cL]:=⟨_,O⟩;have vg:pa.L (Iw tb).kd 10 ([]:Mx).length ([]:EJ).length 4=pl:=by
  rw[xv,←jK1];rfl
 rw[vg,xv];refine qA ?_;refine tQ fun vb b6 hp=>?_;refine tS fun vd hp=>?_;have va:=jJc vk;refine jL ?_;have vr:decide (0<(W:Int))=_:=aD O1;first|rw[vr]|rw[hWd2]
 refine tE (h18 _ (hT.j1 hp.Z)) fun vc hp=>?_;refine tC (FA B 5 2305843009213691579 _ O1 O2 O2 O2) fun ve hp=>?_;have vp:B^5%2305843009213691579=W:=hW.symm;rw[vp];apply vX;rfl;rfl;exact zW O O;exact qV (aD O);exact nj
end
theorem Ak.take{d:DW}{T:List (Int×Int)}{P:List (ByteArray×Int)}{B:List Int}{s:Option Addr}{X:List EN}{w:World}(h:Ak d T P B s X w)(n:Nat):Ak d T P B s (X.take n) w:=⟨h.d,by rw[pI];exact OK h.l n,fun x hx=>h.e x (gE hx)⟩
theorem Aa.take{d:DW}{T:List (Int×Int)}{P:List (ByteArray×Int)}{B:List Int}{X:List EN}(h:Aa d T P B X)(n:Nat):Aa d T P B (X.take n):=⟨fun x hx=>h.e x (gE hx),by
 rw[pI];exact h.nd.sublist (pY _ _),by
 have:=h.l;grind,h.d⟩
def gN(d:DW)(T:List (Int×Int))(P:List (ByteArray×Int))(X:List EN)(m:Mx)(N k y:Nat):Bool:=decide (y<N)&&match X[k]? with
 |some x=>BH d T x k (A0 d P X m y)
 |none=>false
def B8(d:DW)(T:List (Int×Int))(P:List (ByteArray×Int))(X:List EN)(m:Mx)(N n k:Nat):Nat:=Av (gN d T P X m N k) n
theorem WL{N:Nat}:B8 d T P X m N n k≤n:=WE _ _
theorem zOo{N:Nat}(h:¬n<N):B8 d T P X m N (n+1)=B8 d T P X m N n:=by
 funext k;show Av _ n+(if gN d T P X m N k n=true then 1 else 0)=_
 rw[if_neg (by unfold gN;grind)];rfl
theorem zNn{B:List Int}{N M:Nat}{lv:EJ}(hK:Aa d T P B X)(hP:Cy d X a N m lv w)(hM:N≤M){k:Nat}{x:EN}(hx:X[k]? =some x):
  ((B8 d T P X m N M k:Nat):Rat)=CA d T P X m k*((N:Nat):Rat):=by
 rw[←zO0 hK hP hx];have h1:B8 d T P X m N M k=Av (fun y=>BH d T x k (A0 d P X m y)) (min M N):=by
  rw[←Xu];refine Hx M fun y _=>?_
  unfold gN;rw[hx]
 grind
def C6(d:DW)(T:List (Int×Int))(P:List (ByteArray×Int))(X:List EN)(m:Mx)(N n k j:Nat):Nat:=if j<k then B8 d T P X m N (n+1) j else B8 d T P X m N n j
theorem zNl{N:Nat}{x:EN}(hx:X[k]? =some x)(hn:n<N)(h:BH d T x k (A0 d P X m n)=true):
  (lm X.length (C6 d T P X m N n k)).set k (B8 d T P X m N n k+1)=lm X.length (C6 d T P X m N n (k+1)):=by
 apply dI;intro j;by_cases hj:j<X.length
 ·rw[yI hj];by_cases vt:k=j
  ·subst vt;rw[List.getElem?_set_self (by rw[qT];exact hj)];unfold C6;rw[if_pos O1];show some (Av _ n+1)=some (Av _ n+(if gN d T P X m N k n=true then 1 else 0))
   rw[if_pos (by unfold gN;grind)]
  rw[rV vt,yI hj];unfold C6;grind
 rw[bY (by rw[fW,qT];omega),bY (by rw[qT];omega)]
theorem zOn{N:Nat}{x:EN}(hx:X[k]? =some x)(h:BH d T x k (A0 d P X m n)=false):
  C6 d T P X m N n k=C6 d T P X m N n (k+1):=by
 funext j;unfold C6;by_cases vt:j=k
 ·subst vt;rw[if_neg O1,if_pos O1];show _=Av _ n+(if gN d T P X m N j n=true then 1 else 0)
  rw[if_neg (by unfold gN;grind)];rfl
 grind
theorem zNm{N:Nat}:lm X.length (C6 d T P X m N n X.length)=lm X.length (B8 d T P X m N (n+1)):=by
 apply dI;intro j;by_cases hj:j<X.length
 ·rw[yI hj,yI hj];unfold C6;grind
 rw[bY (by rw[qT];omega),bY (by rw[qT];omega)]
theorem zP5{L:List kr}{lb e:Nat}{l:List Nat}(hp:Hp w0 M w L)(j:Nat)(hj:L[j]? =some (qG eN e 1 (Ad lb) c l))(hc:c=l.length){R:List ByteArray}{s:Option Addr}(hR:ig w 1 eS s R)(xr:R≠[])(b o:Nat)(hs:s=some ⟨b,o,none⟩):b∉[lb]:=by
 intro hb;have hb:=by simpa using hb
 subst hb;obtain⟨ob,vv,cx,rfl,ha,vu⟩:=hp.N j _ hj b O;obtain⟨x,R',rfl⟩:∃x R',R=x::R':=by cases R with|nil=>grind|cons x R'=>simp
 have⟨b',o',e1,h1⟩:=hR 0 x O;rw[hs] at e1;cases e1;have h2:=h1 0 _ O;have ha:_=c*1:=ha;have h3:cx[o+0*1+0]? =some (.string x):=by
  rw[World.cell?,vv] at h2;simpa using h2
 have hl:=(aM.1 h3).1;have h4:(l.flatMap eN)[o+0*1+0]? =some (.string x):=by
  rw[←vu,pN,if_pos O1];rw[Array.getElem?_toList];exact h3
 have⟨y,_,hy⟩:=rL.1 (aG h4);simp[eN] at hy
theorem zNd{N M bb:Nat}(h:AK N=(bb:Int))(h9:bb≤9)(hM:M=2^bb):IntKind.i64.wrap ((1:Int)*2^min (AK N).toNat IntKind.i64.bits)=(M:Int):=by
 have key:∀bb:Nat,bb<10→IntKind.i64.wrap (1*2^min (bb:Int).toNat IntKind.i64.bits)=(2^bb:Nat):=O2;grind
attribute [local irreducible] ki Ah Ab B8 C6 A0 BH CA AK CB
theorem q4(l l' s s' c c' W0)(hT:Ai W0)(hs:ig W0 1 eI s l)(ra:ig W0 1 eI s' l')(hl:l.length≤maxLen)(rj:l'.length≤maxLen):
  Rk 4 [.agg #[.slice s l.length c,.slice s' l'.length c']] W0 (.bool true):=by
 refine tW func4 ntmps4 fun hp=>?_;refine qR (tF (kW (cs:=[_,_]) (m:=2) hp O O O) fun w1 ab hp=>?_);refine tL (p4 _ (hT.j1 hp.Z)) ?_;rintro _ w2 ⟨rfl,hk⟩;have hp:=hp.V hk;refine AP ?_;refine qR ?_;refine tR (jS (i:=0) O O O O2) ?_;refine jM ?_;refine tK (r15 l s c _ (hs.i7 hp.Z) hl) ?_;rintro _ w3 ⟨d,T,P,B,rfl,hG,hD,hk⟩;have hp:=hp.V hk;have vx:w3.cell? ⟨ab,0+1,_⟩=some (.slice s' _ c'):=hp.J 0 O O;have ra:=ra.i7 hp.Z;have hT:=hT.j1 hp.Z;have rf:=hp.Z;clear hp hk hs;have hp:=Hp.start (M:=[]) (w:=w3);refine tQ fun w4 db hp=>?_;refine tS fun w5 hp=>?_;have hp:=hp.I 0 d.L O O;refine qR (ke (qL O O O O (hp.i6 0 O O)) (O:_=d.v) ?_);refine tR (jS (i:=1) O O O O2) ?_;refine jM ?_;refine tK (r16 d l' s' c' _ hG (hD.j1 hp.Z) (ra.i7 hp.Z) rj) ?_;rintro _ w6 ⟨X0,so,co,rfl,uj,tx,rn,rm,rz,hk⟩;have hp:=hp.V hk;have re:=hp.i6 0 O O;have hT:=hT.j1 hp.Z;have rf:=rf.trans hp.Z O4;clear hp hk hD hG ra vx;have hp:=Hp.start (M:=[]) (w:=w6);obtain⟨X,hX⟩:∃X,X=X0.take (min X0.length 4):=⟨_,O⟩;have cz:X.length=min X0.length 4:=by rw[hX,cJ];omega
 have h4:X.length≤4:=O1;have tx:X.length≤co:=O1;have hK:Aa d T P B X:=by rw[hX];exact rn.take _
 have hA:Ak d T P B so X w6:=by rw[hX];exact rm.take _
 have hid:∀x∈X,x.e.id<_:=fun x hx=>rz x O6
 clear rn rm rz;refine AP ?_;refine Hc ?_;refine ke (Gt O O) (qF (b:=(X.length:Nat)) O1) (tR (NJ O O O tx) ?_);clear hX cz uj;refine AP ?_;refine qR (ke (qL O O O O O1) (O:_=d.v) ?_);refine ke qP (O:_=Value.slice so _ co) (tK (r7 d so co X _ O1 hK O1) ?_);rintro _ w7 hr;rcases hr with⟨_,_,rfl,hk⟩|⟨a,N,m,lv,rfl,hPl,hk⟩
 ·have hp:=hp.V hk;refine qA ?_;refine tQ fun w8 pb hp=>?_;refine tS fun w9 hp=>?_;refine qA (jB O ?_);refine jL ?_;exact qM O O ⟨_,O,O,rf.trans hp.Z O4⟩
 have hp:=hp.V hk;have hA:=hA.j1 hp.Z;have hT:=hT.j1 hp.Z;have re:=fun j v hv=>hp.j3 (re j v hv)
 have rf:=rf.trans hp.Z O4;clear hp hk;have hp:=Hp.start (M:=[]) (w:=w7);have hf:=hPl.fit;refine qA ?_;refine tQ fun w8 pb hp=>?_;refine tS fun w9 hp=>?_;have hp:=hp.I 0 (a.L _ N _ _ _) O O;have hp:Hp w7 [] w9 [bu pb 6 _ 39]:=hp;refine qA ?_;refine tJ (qH O (fun _=>?_) (fun h9=>?_))
 ·refine tV ?_;exact⟨_,O,O,rf.trans hp.Z O4⟩
 obtain⟨bb,ri⟩:∃bb:Nat,AK N=bb:=⟨(AK N).toNat,by have:=WC N;omega⟩;have ry:bb≤9:=O1;obtain⟨M,hM⟩:∃M,M=2^bb:=⟨_,O⟩;have c7:M≤512:=by
  rw[hM];exact bG O2 ry
 have r2:N≤M:=by
  rw[hM];exact zNo ri
 have x8:=zNd ri ry hM;clear h9;refine qR (ke (qL O O O O (fun j v hv=>hp.j3 (re j v hv))) (O:_=d.v) ?_);refine ke qP (O:_=Value.slice so _ co) (ke (qL O O O O (hp.i6 0 O O)) O ?_);refine tK (r17 a d so co N m lv X _ (hA.j1 hp.Z) hK h4 (hPl.j1 hp.Z)) ?_;rintro _ uy ⟨rfl,hk⟩;have hp:=hp.V hk;refine AL ?_;refine tF (yE eN 0 hp O O O O O O O O1 O) fun uz lb⟨rp,hp⟩=>?_;have c3:replicate X.length 0=lm X.length (B8 d T P X m N 0):=by
  rw[Ec];unfold B8;rfl
 rw[c3] at rp hp;have hp:=hp;have r0:∀f:Nat→Nat,kg _ _ (lm _ f):=fun f=>jZ rp (by rw[qT,qT])
 refine qA ?_;refine qQ ([2,8,10,11,12,13,14,15,16]++range' 58 68) (fun(n:Nat) F=>(F.put 8 (Iv (min n N:Nat))).put 10 (Iv n)) (fun n w'=>n≤M∧Hp w7 [] w' [qG eN 3 1 _ _ (lm _ (B8 d T P X m N n)),_]) (fun n=>M-n) 0 (qB (qB (ka.eq .refl) O) (qF O4)) ⟨O1,hp⟩ ?_;clear hp hk;rintro u n u0 ⟨hn,hp⟩;refine Cj ?_;refine jM (ke (J3 O O (WC N)) (qF x8) ?_);refine tI (fun h=>?_) fun h=>?_
 ·have c5:n<M:=O1;have rb:Fit n:=Fit.of (k:=10) O1 O2;have Bc:=Aw n u0 O1;rw[dW] at Bc;refine tL Bc ?_;rintro _ u5 ⟨rfl,hk⟩;have hp:=hp.V hk;refine AP ?_;refine qR (ke (qL O O O O (hp.i6 1 O O)) O ?_);refine ke (qL O O O O (fun j v hv=>hp.j3 (re j v hv))) (O:_=d.v) (ke qP (O:_=Value.slice so _ co) ?_);refine ke qP (O:_=Value.string _) (tK (r19 a d so co N n m lv X _ (hT.j1 hp.Z) (hA.j1 hp.Z) hK h4 (hPl.j1 hp.Z) rb) ?_);rintro _ hh ⟨hv,hk⟩;have hp:=hp.V hk;by_cases rl:n<N
  ·rw[if_pos rl] at hv;obtain⟨s1,c1,rfl,hR⟩:=hv;refine qA (ke (qL O O O O (fun j v hv=>hp.j3 (re j v hv))) (O:_=d.v) ?_);refine ke qP (O:_=Value.slice so _ co) (ke qP (O:_=Value.string _) ?_);refine tK (X9 a d so co N n m lv X _ (hA.j1 hp.Z) hK (hPl.j1 hp.Z) rb) ?_;rintro _ u4 ⟨hv,zw⟩;have hp:=hp.V zw;rw[if_pos rl] at hv;obtain⟨s2,c2,rfl,hS⟩:=hv;have hR:=hR.i7 zw;refine qA (ke (GP underlying4 O O) (qV (b:=false) O) ?_);refine jL ?_;refine tK (BY n N _ rb hf) ?_;rintro _ u3 ⟨rfl,zx⟩;have hp:=hp.V zx;apply vX;rfl;rfl;exact zQ O O;exact qV (aD O1);apply vX;rfl;rfl;exact GP underlying4 O O;exact qV (b:=false) O;refine jL ?_;apply vX;rfl;rfl;exact qL O O O O (fun j v hv=>hp.j3 (re j v hv));exact(O:_=d.v);apply vX;rfl;rfl;exact qP;exact(O:_=Value.slice so _ co);apply vX;rfl;rfl;exact qL O O O O (hp.i6 1 O O);rfl;apply vX;rfl;rfl;exact qP;exact(O:_=Value.string _);refine jL ?_;refine tK (r22 a d so co N m lv X _ (hA.j1 hp.Z) hK h4 (hPl.j1 hp.Z) n s2 c2 rl (hS.i7 zx)) ?_;rintro _ vb ⟨rfl,vz⟩;have hp:=hp.V vz;apply vX;rfl;rfl;exact GP underlying4 O O;exact qV (b:=false) O;refine jL ?_;refine tJ (qN O ?_);have hR:=(hR.i7 zx).i7 vz;have ru:min n N=n:=O1;rw[ru];refine tM (n+1) ?_;refine qA ?_;have⟨r3,c4⟩:=zNf hK hPl rl;have r1:lm X.length (B8 d T P X m N n)=lm X.length (C6 d T P X m N n 0):=by
    congr 1;funext j;unfold C6;rw[if_neg O1]
   rw[r1] at hp;refine qQ ([16]++range' 111 15) (fun(k:Nat) F=>F.put 111 (Iv (k:Int))) (fun k w'=>k≤X.length∧ig w' 1 eS s1 (A0 d P X m n)∧Hp w7 [] w' [qG eN 3 1 (Ad lb) X.length (lm X.length (C6 d T P X m N n k)),_]) (fun k=>X.length-k) 0 (qB (ka.eq .refl) O) ⟨bL _,hR,hp⟩ ?_;clear hp hR hk zw zx vz hS;rintro u2 k vd ⟨cy,hR,hp⟩;refine tI (fun h5=>?_) fun h5=>?_
   ·have ha:k<X.length:=O1;obtain⟨x,hx⟩:∃x,X[k]? =some x:=⟨_,aA ha⟩;have v1:=aG hx;refine Cj ?_;refine qR (ke (qL (vs:=d.L) O O O O (fun j v hv=>hp.j3 (re j v hv))) (O:_=d.v) ?_);refine ke qP (O:_=Value.slice so _ co) (ke qP (O:_=Value.int _ k) ?_);refine ke qP (O:_=Value.slice s1 _ c1) ?_;refine tK (r23 d so co k s1 c1 (A0 d P X m n) X x _ (hT.j1 hp.Z) (hA.j1 hp.Z) hK hx hR r3 (fun e=>O1) O6) ?_;rintro _ vc ⟨rfl,vw⟩;have hp:=hp.V vw;have hR:=hR.i7 vw;refine qR (xD O (fun hg=>?_) (fun hg=>?_))
    ·have rv:=WL (d:=d) (T:=T) (P:=P) (X:=X) (m:=m) (N:=N) (n:=n) (k:=k);have rq:(lm X.length (C6 d T P X m N n k))[k]? =some (B8 d T P X m N n k):=by
      rw[yI ha];unfold C6;rw[if_neg O1]
     have hP:=by
      have h1:=I7 eN 1 (fun _=>O) (lm X.length (C6 d T P X m N n k)) k 0 _ _ rq O;rw[fY] at h1;exact hp.r8 (i:=0) O h1
     have rh:k<(lm X.length (C6 d T P X m N n k)).length:=by rw[qT];exact ha
     refine AP ?_;refine jM (tR (zA O O O O ha) ?_);refine tR (qS O O hP) ?_;refine tN (B8 d T P X m N n k+1) (tR (zA O O O O ha) ?_);refine tO (zL eN _ k _ (hp.j8 0 O) 0 O (r0 _) rh O O (fun _=>O) O O (qD O)) fun ve zo=>?_;have vy:=zo.Z;have hR:=hR.j1 vy (zP5 hp 0 O (by rw[qT]) hR);have hp:=hp.j5 0 O zo;rw[zNl hx rl hg] at hp;exact mEr
    rw[zOn hx hg] at hp;exact mEr
   obtain rfl:k=X.length:=O1;rw[zNm] at hp;exact mDi
  rw[if_neg rl] at hv;subst hv;refine qA (ke (qL (vs:=d.L) O O O O (fun j v hv=>hp.j3 (re j v hv))) (O:_=d.v) ?_);refine ke qP (O:_=Value.slice so _ co) (ke qP (O:_=Value.string _) ?_);refine tK (X9 a d so co N n m lv X _ (hA.j1 hp.Z) hK (hPl.j1 hp.Z) rb) ?_;rintro _ u4 ⟨hv,zw⟩;have hp:=hp.V zw;rw[if_neg rl] at hv;subst hv;refine qA (ke (GP underlying4 O O) (qV (b:=false) O) ?_);refine tE (BY n N _ rb hf) fun u3 hp=>?_;apply vX;rfl;rfl;exact zQ O O;exact qV (aB O1);apply vX;rfl;rfl;exact GP underlying4 O O;exact qV (b:=false) O;refine jL ?_;apply vX;rfl;rfl;exact qL O O O O (fun j v hv=>hp.j3 (re j v hv));exact(O:_=d.v);apply vX;rfl;rfl;exact qP;exact(O:_=Value.slice so _ co);apply vX;rfl;rfl;exact qL O O O O (hp.i6 1 O O);rfl;apply vX;rfl;rfl;exact qP;exact(O:_=Value.string _);refine tE (zRa a d so co N m lv X _ (hA.j1 hp.Z) hK (hPl.j1 hp.Z) n O1 rb (Zs)) fun vb hp=>?_;apply vX;rfl;rfl;exact GP underlying4 O O;exact qV (b:=false) O;refine jL ?_;refine tJ (jB O ?_);have rv:B8 d T P X m N n=_:=(zOo rl).symm;rw[rv] at hp;exact mDi
 obtain rfl:n=M:=O1;have ru:min n N=N:=O1;rw[ru];have Bc:=fun w=>Aw N w O1
 rw[dW] at Bc;refine tY fun hp=>?_;refine qX ?_;refine tK (Bc _) ?_;rintro _ u5 ⟨rfl,hk⟩;have hp:=hp.V hk;refine⟨hp,qX (qU ?_)⟩;refine qR (xI O (absurd O) (fun _=>?_));refine qA (qQ ([2,17,18,19]++range' 133 26) (fun(k:Nat) F=>F.put 133 (Iv (k:Int))) (fun k w'=>k≤X.length∧Hp w7 [] w' _) (fun k=>X.length-k) 0 (qB (ka.eq .refl) O) ⟨bL _,hp⟩ ?_);clear hp hk;rintro u2 k hh ⟨cy,hp⟩;refine tI (fun h5=>?_) fun h5=>?_
 ·have ha:k<X.length:=O1;obtain⟨x,hx⟩:∃x,X[k]? =some x:=⟨_,aA ha⟩;have tw:=zNn hK hPl r2 hx;have rv:=WL (d:=d) (T:=T) (P:=P) (X:=X) (m:=m) (N:=N) (n:=n) (k:=k);refine Cj ?_;refine qR (ke (qL (vs:=(a.L d.kd N m.length lv.length (AK N))) O O O O (hp.i6 1 O O)) (O:_=Value.agg (a.L d.kd N m.length lv.length (AK N)).toArray) ?_);refine ke (qL (vs:=d.L) O O O O (fun j v hv=>hp.j3 (re j v hv))) (O:_=d.v) (ke qP (O:_=Value.slice so _ co) ?_);refine ke qP (O:_=Value.int _ k) (tC (r10 a d so co N k m lv X _ (hA.j1 hp.Z) hK h4 (hPl.j1 hp.Z) ha) fun u4 hp=>?_);refine qA ?_;refine tQ fun u3 qb hp=>?_;refine tS fun vb hp=>?_;have hp:=hp.I 0 (eQ _) O O;have hp:Hp w7 [] _ [bu qb 3 _ 49,_,_]:=hp;have hP:∀{w A},Hp w7 [] w (A::qG eN 3 1 (Ad lb) X.length (lm X.length (B8 d T P X m N n))::[bu pb 6 (qE (a.L d.kd N m.length lv.length (AK N))) 39])→w.cell? ⟨lb,0+k*1,none⟩=some (Iv ((B8 d T P X m N n k:Nat):Int)):=fun{w A} hp=>by
   have h1:=I7 eN 1 (fun _=>O) (lm X.length (B8 d T P X m N n)) k 0 _ _ (yI ha) O;exact hp.r8 (i:=1) O h1
  have zl:=hPl.pos hK;have rk:BQ 10 _:=WD zl tw O1 O1;have r4:BQ 10 (N:Nat):=zPl O1 O2;refine tY fun hp=>?_;refine xA ?_;refine tG (EP N _ O1) fun vd hp=>?_;refine tG (Fh _ rk r4 O2) fun vc hp=>?_;refine xA ?_;apply yG;rfl;rfl;rfl;intro w hp;exact qS O O (hP hp);exact fI O;refine tG (EP (B8 d T P X m N n k) _ O1) fun ve hp=>?_;apply yG;rfl;rfl;rfl;intro w hp;exact RP O O;exact qV (b:=false) O6;refine xA (qU ?_);refine tJ ?_;refine tN (k+1) ?_;refine qA ?_;exact Uv
 refine tV ?_;exact⟨_,O,O,rf.trans hp.Z O4⟩
end Go.Eng
