/- Merged texts of ours; conditions are the hypotheses of each law. -/
import Derived.Test.YtplkndjlfkkjlaaGreatDoorP4
namespace Go.Eng
open List (range range' replicate)
open Go.Proofs.Tryz
set_option maxHeartbeats 8000000
set_option maxRecDepth 20000
section
attribute [local irreducible] PV gx kq kn WP km Fit
variable{c j:Nat}{s:Sr}
theorem Sr.aD2(h:c<s.nc):s.A c 0=if s.dec c then 0 else(s.S c:Rat):=by
 unfold Sr.A;grind
theorem Sr.A_row(h:c<s.nc):s.A c (j+1)= -(s.κ j c:Rat):=by
 unfold Sr.A;grind
theorem Sr.B_row(h:c<s.nc):s.B c=if s.dec c then-((s.S c:Rat)*s.p c) else 0:=by
 unfold Sr.B;grind
theorem Sr.aA8(j:Nat):s.A s.nc j=if j=0 then 0 else 1:=by
 unfold Sr.A;simp
theorem Sr.aD1:s.B s.nc=1:=by
 unfold Sr.B;simp
variable{k n:Nat}
theorem Is(h:n<2^k)(hk:1≤k):BQ k (n:Rat):=by
 refine⟨h,?_⟩;show 1<2^k
 grind
theorem zCx(x:Nat):(((-(x:Int)):Int):Rat)= -(x:Rat):=by
 rfl
def Fg(rg rc:Nat→Nat)(s:Sr)(i:Nat):kr:=qG eQ 49 3 (some ⟨rg i,0,none⟩) (rc i) (lm (s.K+1) (s.A i))
def EY(rg rc:Nat→Nat)(s:Sr)(k:Nat):List (Nat×Nat×Nat):=lm k fun i=>(rg i,s.K+1,rc i)
def PC:List Value:=[Zs,Zs,Zs]
theorem zB7(a:Cp)(c:Eu)(s:Sr)(κ:Nat)(W:World)(hR:BE a c s W)(hE:s.nc≤100)(hK:s.K≤4000)(hS:∀k,k<s.nc→s.S k≤1000)(hF:∀j k,j<s.K→k<s.nc→s.κ j k≤1000)(ud:∀k,k<s.nc→s.dec k=true→BQ κ (s.p k))(hκ:κ≤900000000000):
  Rt 165 [.pointer (some ⟨a.fb,0,none⟩)] W (fun v w'=>∃p,v= .agg (Bp p (s.nc+1) (s.K+1)).toArray∧Ep p (s.nc+1) (s.K+1) s.A s.B Cu w'∧ax [] W w'):=by
 have h16:=hR.h16;have h17:=hR.h17;have h18:=hR.h18;have h19:=hR.h19;refine tW func165 ntmps165 fun hp=>?_;refine qR ?_;refine tQ fun w1 b2 hp=>?_;refine qR ?_;refine tQ fun w2 b3 hp=>?_;have hp:=(hp.j7 eQ 49 3).j7 H4 43 1;have hp:=hp.j4 [2,3,0,1] [bu b3 3 _ 248,bu b2 3 (qE PC) 248,_,_] O2 O;have hp:Hp W [] w2 ([_,_,qG _ 43 1 _ 0 (EY (fun _=>0) (fun _=>0) s 0),qG eQ 49 3 _ 0 (lm 0 s.B)]++lm 0 (Fg (fun _=>0) (fun _=>0) s)):=hp;have h3:=hp.j3 h16;refine qA (qQ ([4,5,6,7,9]++range' 16 62) (fun(k:Nat) F=>F.put 16 (.int _ k)) (fun k w'=>k≤s.nc∧∃sA cA sB cB rg rc,kg sA cA (EY rg rc s k)∧kg sB cB (lm k s.B)∧(∀i,i<k→kg (some ⟨rg i,0,none⟩) (rc i) (lm (s.K+1) (s.A i)))∧
  Hp W [] w' ([bu b3 3 (qE [.slice sA k cA,.slice sB k cB,_]) 248,_,qG _ 43 1 sA cA (EY rg rc s k),qG eQ 49 3 sB cB (lm k _)]++lm k (Fg rg rc s))) (fun k=>s.nc-k) 0 (qB (ka.eq .refl) O) ⟨O1,_,0,_,0,_,_,kg.nil,kg.nil,fun i hi=>absurd hi O1,hp⟩ ?_)
 clear hp h3;rintro u k w3 ⟨hk,sA,cA,sB,cB,rg,rc,xj,sf,hU,hp⟩;have hJ:(EY rg rc s k).length=k:=qT;refine tI (fun h=>?_) fun h=>?_
 ·have hl:k<s.nc:=O1;have⟨bS,oS,h5,hg⟩:=jR hR.S hl;have cf:w3.cell? ⟨bS,oS+k*1,_⟩=_:=hp.j3 (hg 0 _ O);have h8:=hS k hl;have hD:=hp.j3 h18;have cg:w3.cell? ⟨_,0+k*1,_⟩=_:=hp.j3 (zM hR.D hl 0 _ O);refine tD (EP (s.S k) _ O1) fun w4 hp=>?_;refine tF (jC (cs:=eQ _) hp O O O O O O O) fun w5 nb hp=>?_;have hp:=hp.z8 0 _ O O;have hp:Hp W [] w5 (qG eQ 49 3 _ 1 _::_):=hp;refine tD (wM _) fun w6 hp=>?_;refine tQ fun w7 b7 hp=>?_;refine tS fun w8 hp=>?_;have hp:=hp.I 0 (eQ 0) O O;have hp:Hp W [] w8 ([bu b7 3 _ 49,_,_,_,_,_]++_):=hp;have hD:=hp.j3 h18;have cg:w8.cell? ⟨_,0+k*1,_⟩=_:=hp.j3 (zM hR.D hl 0 _ O);refine qA (uD (range' 32 14) (fun(_:Unit) F=>F) (fun _ w'=>Hp W [] w' ([bu b7 3 (qE (eQ (s.B k))) 49,qG eQ 49 3 (Ad nb) 1 (lm 1 (s.A k)),bu b3 3 (qE [.slice sA k cA,.slice sB k cB,Zs]) 248,bu b2 3 (qE PC) 248,qG H4 43 1 sA cA (EY rg rc s k),qG eQ 49 3 sB cB (lm k s.B)]++lm k (Fg rg rc s))) ?_ ?_)
  ·have eA:=Sr.aD2 hl;have eB:=Sr.B_row hl;have e1:lm 1 _=[s.A k 0]:=O;cases hd:s.dec k with
   |false=>
    rw[hd] at eA eB;refine tJ ?_;rw[e1,eA,eB];exact KM
   |true=>
    rw[hd] at eA eB;simp[if_true] at eA eB;refine jB O ?_;have hV:0<1:=O2;refine tD (wM _) fun w9 hp=>?_;refine qA (tO (vL eQ _ 0 0 hp 1 O (OJ _) O4 O O jT O O (qD O)) fun uy hp=>?_);have hp:Hp W [] _ ([_,qG eQ 49 3 _ 1 [_],_,_,_,_]++_):=hp
    have cX:∀(j:Nat) (v:Value),(eQ (s.p k))[j]? =some v→W.cell? ⟨a.gX,0+k*3+j,none⟩=some v:=fun j v e=>zM hR.X hl j v (by
     unfold pO;rw[hd]
     exact e)
    have hm:=ud k hl hd;refine qA ?_;refine jU jG O3 (fun w'=>Hp W [] w' _) hp.U ?_;have hp:=hp.U;refine tH (EP (s.S k) _ O1) fun uz hp=>?_;refine qX ?_;refine tP (fun w hp=>qL O O O O (fun j v e=>hp.j3 (cX j v e))) ?_;apply Ag;rfl;exact qC O TO O (Fh (j:=10) _ (Is O1 O2) hm O1);rintro _ u0 ⟨rfl,h7⟩;have hp:=hp.V h7;refine⟨hp,tG (jVn _ (BQ.fq (BQ.mul (Is O1 O2:BQ 10 (s.S k)) hm) O1)) fun u5 hp=>?_⟩;refine tS fun ha hp=>qU ?_;have hp:=hp.I 0 (eQ (s.B k)) O (by rw[eB];rfl);rw[e1,eA];exact KM
  clear hp hD cg cf;rintro u1 ⟨⟩ u4 hp;have h4:=hp.j3 h17;refine qA (qQ ([6,9]++range' 51 14) (fun z F=>(F.put 6 (.slice z.2.1 (lm (z.1+1) (s.A k)).length z.2.2)).put 51 (Iv (z.1:Int)))
   (fun z w'=>z.1≤s.K∧kg z.2.1 z.2.2 (lm (z.1+1) (s.A k))∧Hp W [] w' ([_,qG eQ 49 3 z.2.1 z.2.2 (lm (z.1+1) _),_,_,_,_]++lm k _))
   (fun z=>s.K-z.1) (0,some _,1) (qB (qB (ka.eq .refl) O) O) ⟨O1,OJ _,hp⟩ ?_)
  clear hp h4;rintro u2 ⟨j,s6,c6⟩ u3 ⟨hj,hx,hp⟩;simp[] at hj hx;have hp:Hp W [] _ ([_,qG eQ 49 3 s6 c6 (lm (j+1) _),_,_,_,_]++_):=hp;refine tI (fun h2=>?_) fun h2=>?_
  ·have bw:j<s.K:=by
    have:(j:Int)<(s.K:Int):=h2;omega
   have⟨bK,oK,hQ,hy⟩:=jR hR.K bw;have ci:u3.cell? ⟨bK,oK+j*1,_⟩=some (.slice (some _) s.nc s.nc):=hp.j3 (hy 0 _ O);have cκ:u3.cell? ⟨_,0+k*1,_⟩=_:=hp.j3 (zM (hR.k j bw) hl 0 _ O);have hT:=hF j k bw hl;refine qA ?_;refine ke (Sz O) (qF (qK O1 O1)) (tC (GK (-(s.κ j k)) _ O1 O1) fun vb hp=>?_);rw[zCx,←Sr.A_row hl];refine tF (jC (cs:=eQ _) hp O O O O O O O) fun vd nb2 hp=>AB (jV eQ (lm (j+1) _) _ hp 2 0 O O O O O O jT O O O hx O O (by rw[qT];omega)) fun vc s' c'⟨hn,hp⟩=>?_;have hp:=hp.E;rw[←kh] at hn⊢;refine Ae ?_;refine⟨(j+1,s',c'),qB O5 O,⟨O1,hn,?_⟩,O1⟩;rw[kh];exact hp
  obtain rfl:s.K=j:=by
   omega
  obtain⟨g6,rfl⟩:=hx.addr (fun e=>by have:=aK List.length e;rw[qT,mS] at this;omega);rw[qT];refine qA ?_;refine tF (jC (cs:=[.slice (some _) (s.K+1) c6]) hp O O O O O O O) fun vb nb2 hp=>AB (jV _ _ (g6,s.K+1,c6) hp 5 0 O O O O O O (fun _=>O) (by rw[hJ];rfl) O O xj O O O1) fun vd sd ce⟨xq,hp⟩=>?_;have hp:=hp.E;obtain⟨ra,hh⟩:∃ra:Nat→Nat,ra=fun i=>if i=k then g6 else rg i:=⟨_,O⟩
  obtain⟨rb,ht⟩:∃rb:Nat→Nat,rb=fun i=>if i=k then c6 else rc i:=⟨_,O⟩
  have ro:∀i,i<k→ra i=rg i∧rb i=rc i:=fun i hi=>O6
  have rn:ra k=g6∧rb k=c6:=by rw[hh,ht];exact⟨if_pos O,if_pos O⟩
  have eH:EY rg rc s k++[(g6,s.K+1,c6)]=EY ra rb s (k+1):=by
   exact mCe
  have eR:lm k (Fg rg rc s)++[qG eQ 49 3 (Ad g6) c6 (lm (s.K+1) (s.A k))]=lm (k+1) (Fg ra rb s):=by
   rw[show lm (k+1) (Fg ra rb s)=lm k (Fg ra rb s)++[Fg ra rb s k] from kh];congr 1
   ·exact jH fun i hi=>by unfold Fg;grind
   unfold Fg;rw[rn.1,rn.2]
  have dr:(EY ra rb s _).length=k+1:=qT;rw[eH] at xq⊢;rw[dr];refine tT fun vc hp=>?_;have hp:=hp.I 2 [.slice _ _ _,.slice sB k cB,.slice _ 0 0] O O;have hp:Hp W [] _ ([_,_,_,_,_,_]++_):=hp;rw[eH] at hp;refine qA ?_;refine tF (jC (cs:=eQ _) hp O O O O O O O) fun ve nf hp=>AB (jV eQ _ _ hp 6 0 O O O O O O jT (by rw[qT];rfl) O O sf O O (by rw[qT];omega)) fun hH sa ca⟨hq,hp⟩=>?_;have hp:=hp.E;rw[←kh] at hq⊢;rw[qT];refine tT fun xo hp=>?_;have hp:=hp.I 2 [.slice _ _ _,.slice _ _ _,.slice _ 0 0] O O;have hp:Hp W [] _ (([_]++[_])++([_,_,_,_]++_)):=hp;rw[←kh] at hp;have hp:=hp.E.perm (eF (l₁:=[_]));have hp:=hp;rw[bU,eR] at hp;refine Ae ?_
  exact⟨k+1,qB O5 O,⟨O1,sd,ce,sa,ca,ra,rb,xq,hq,fun i hi=>by
   rcases dH.1 hi with h|rfl
   ·grind
   grind,hp⟩,O1⟩
 obtain rfl:s.nc=k:=O1;obtain⟨LA,hz⟩:∃LA:Nat→Rat,LA=s.A s.nc:=⟨_,O⟩;have ed:LA 0=0:=by rw[hz,Sr.aA8];rfl
 have ec:∀j,LA (j+1)=1:=fun j=>by rw[hz,Sr.aA8,if_neg O1]
 have ee:Cu 0=1:=O;have eb:∀j,Cu (j+1)=0:=fun j=>if_neg O1
 refine tD (wM _) fun w4 hp=>?_;refine tF (jC (cs:=eQ 0) hp O O O O O O O) fun w5 nl hp=>?_;have hp:=hp.z8 0 0 O O;refine tD (NH _) fun w6 hp=>?_;refine tF (jC (cs:=eQ 1) hp O O O O O O O) fun w7 na hp=>?_;have hp:=hp.z8 0 1 O O;refine tT fun w8 hp=>?_;have hp:=hp.I 2 [.slice sA _ cA,.slice sB _ cB,.slice _ 1 1] O O;have e0:lm 1 LA=[(0:Rat)]:=by rw[←ed];rfl
 have e1:lm 1 Cu=[(1:Rat)]:=O;have hp:Hp W [] w8 ([qG eQ 49 3 (Ad na) 1 (lm 1 Cu),qG eQ 49 3 (Ad nl) 1 (lm 1 LA),bu b3 3 (qE [.slice sA s.nc cA,.slice sB s.nc cB,.slice (Ad na) 1 1]) 248,bu b2 3 (qE PC) 248,qG H4 43 1 sA cA (EY rg rc s s.nc),qG eQ 49 3 sB cB (lm s.nc s.B)]++lm s.nc (Fg rg rc s)):=by
  rw[e0,e1];exact hp
 have h4:=hp.j3 h17;refine qA (qQ ([10]++range' 88 13) (fun z F=>(F.put 10 (.slice z.2.1.1 (lm (z.1+1) LA).length z.2.1.2)).put 88 (Iv (z.1:Int)))
  (fun z w'=>z.1≤s.K∧kg z.2.1.1 z.2.1.2 (lm (z.1+1) LA)∧kg z.2.2.1 z.2.2.2 (lm (z.1+1) Cu)∧Hp W [] w' ([qG eQ 49 3 z.2.2.1 z.2.2.2 (lm (z.1+1) Cu),qG eQ 49 3 z.2.1.1 z.2.1.2 (lm (z.1+1) LA),bu b3 3 (qE [.slice sA s.nc cA,.slice sB s.nc cB,.slice z.2.2.1 (z.1+1) z.2.2.2]) 248,bu b2 3 (qE PC) 248,_,qG eQ 49 3 sB cB (lm s.nc s.B)]++lm s.nc (Fg rg rc s)))
  (fun z=>s.K-z.1) (0,(Ad nl,1),(Ad na,1)) (qB (qB (ka.eq .refl) O) O) ⟨bL _,OJ _,OJ _,hp⟩ ?_)
 clear hp h4 e0 e1;rintro u2 ⟨j,⟨sl,cl⟩,⟨sc,cc⟩⟩ w9 ⟨hj,eo,h9,hp⟩;simp[] at hj eo h9;have hp:Hp W [] w9 ([qG eQ 49 3 sc cc (lm (j+1) Cu),qG eQ 49 3 sl cl (lm (j+1) LA),bu b3 3 (qE [_,_,.slice sc (j+1) cc]) 248,_,_,_]++_):=hp;refine tI (fun h2=>?_) fun h2=>?_
 ·refine tD (NH _) fun uy hp=>?_;rw[←ec j];refine tF (jC (cs:=eQ _) hp O O O O O O O) fun uz nb2 hp=>AB (jV eQ (lm (j+1) LA) (LA (j+1)) hp 2 0 O O O O O O jT O O O eo O O (by rw[qT];omega)) fun u0 se cj⟨hM,hp⟩=>?_;have hp:=hp.E;rw[←kh] at hM⊢;have hp:Hp W [] _ ([_,_,_,_,_,_]++_):=hp;rw[←kh] at hp;have ay:=hp;have cm:u0.cell? ⟨b3,0+2,_⟩=some (.slice sc _ cc):=hp.J 2 O O;have ap:=hp.j9 (i:=0) O (j:=2) O O1 O;have hp:=ay.j8 0 O;refine qA ?_;refine xL 6 O jG O3 (fun w'=>ax _ _ w') hp.U.Z ?_;have hp:=hp.U;refine qX ?_;apply kp;rfl;intro w hk;exact qS O O (hk.cell cm ap);rfl;refine tG (wM _) fun u5 hp=>?_;rw[←eb j];apply Ag;rfl;exact jC (cs:=eQ _) hp O O O O O O O;rintro _ ha ⟨nf,rfl,hp⟩;refine⟨hp.Z,?_⟩;apply Ag;rfl;exact jV eQ (lm (j+1) Cu) (Cu (j+1)) hp 1 0 O O O O O O jT (by rw[qT (f:=Cu)];rfl) O O h9 O O (by rw[qT];omega);rintro _ u4 ⟨sh,ck,rfl,hL,hp⟩;refine⟨hp.Z,?_⟩;have hp:=hp.E;rw[←kh] at hL⊢;rw[qT (f:=Cu)];have hp:Hp _ _ _ [_]:=hp;rw[←kh] at hp;refine qX (qU ?_);have hp:=ay.j5 0 O hp;refine gx.mono (jD hp 2 O O O O (qD O) O) ?_;rintro _ u3 ⟨rfl,hp⟩;have hp:=hp.I 2 [.slice sA _ cA,.slice sB _ cB,.slice _ _ _] O O;refine Ae ?_;exact⟨(j+1,(se,cj),(sh,ck)),qB O5 O,⟨O1,hM,hL,hp⟩,O1⟩
 obtain rfl:s.K=j:=by
  omega
 obtain⟨gl,rfl⟩:=eo.addr (fun e=>by have:=aK List.length e;rw[qT,mS] at this;omega);obtain⟨gc,rfl⟩:=h9.addr (fun e=>by have:=aK List.length e;rw[qT,mS] at this;omega);rw[qT];refine qA ?_;refine tF (jC (cs:=[.slice (some _) (s.K+1) cl]) hp O O O O O O O) fun uy nb2 hp=>AB (jV H4 _ (gl,s.K+1,cl) hp 5 0 O O O O O O (fun _=>O) (by rw[hJ];rfl) O O xj O O O1) fun uz sd ce⟨xq,hp⟩=>?_;have hp:=hp.E;obtain⟨ra,hh⟩:∃ra:Nat→Nat,ra=fun i=>if i=s.nc then gl else rg i:=⟨_,O⟩
 obtain⟨rb,ht⟩:∃rb:Nat→Nat,rb=fun i=>if i=s.nc then cl else rc i:=⟨_,O⟩
 have ro:∀i,i<s.nc→ra i=rg i∧rb i=rc i:=fun i hi=>O6
 have rn:ra s.nc=gl∧rb s.nc=cl:=by rw[hh,ht];exact⟨if_pos O,if_pos O⟩
 have eH:EY rg rc s s.nc++[(gl,s.K+1,cl)]=EY ra rb s (s.nc+1):=by
  exact mCe
 have dr:(EY ra rb s (s.nc+1)).length=s.nc+1:=qT;rw[eH] at xq⊢;rw[dr];refine tT fun u0 hp=>?_;have hp:=hp.I 2 [.slice _ _ _,.slice sB _ cB,.slice _ _ cc] O O;have hp:Hp W [] _ ([_,_,_,_,_,_]++_):=hp;rw[eH] at hp;have ay:=hp;have cn:u0.cell? ⟨b3,0+1,_⟩=some (.slice sB _ cB):=hp.J 2 O O;have ap:=hp.j9 (i:=5) O (j:=2) O O1 O;have hp:=ay.j8 5 O;refine qA ?_;refine xL 6 O jG O3 (fun w'=>ax _ _ w') hp.U.Z ?_;have hp:=hp.U;refine qX ?_;apply kp;rfl;intro w hk;exact qS O O (hk.cell cn ap);rfl;refine tG (NH _) fun u5 hp=>?_;rw[←Sr.aD1 (s:=s)];apply Ag;rfl;exact jC (cs:=eQ _) hp O O O O O O O;rintro _ ha ⟨nf,rfl,hp⟩;refine⟨hp.Z,?_⟩;apply Ag;rfl;exact jV eQ (lm s.nc s.B) (s.B s.nc) hp 1 0 O O O O O O jT (by rw[qT];rfl) O O sf O O (by rw[qT];omega);rintro _ u4 ⟨sa,ca,rfl,hq,hp⟩;refine⟨hp.Z,?_⟩;have hp:=hp.E;rw[←kh] at hq⊢;rw[qT];have hp:Hp _ _ _ [_]:=hp;rw[←kh] at hp;refine qX (qU ?_);have hp:=ay.j5 5 O hp;refine gx.mono (jD hp 2 O O O O (qD O) O) ?_;rintro _ u3 ⟨rfl,hp⟩;have hp:=hp.I 2 [.slice _ _ _,.slice _ _ _,.slice _ _ cc] O O;have hp:Hp W [] _ ([_,_,_,_,_,_]++_):=hp;obtain⟨gA,rfl⟩:=xq.addr (fun e=>O6);obtain⟨gB,rfl⟩:=hq.addr (fun e=>by have:=aK List.length e;rw[qT,mS] at this;omega);obtain⟨p,h6⟩:∃p:PA,p=⟨gA,ce,gB,ca,gc,cc,ra,rb⟩:=⟨_,O⟩;have hP:Bp p (s.nc+1) (s.K+1)=[.slice (Ad gA) (s.nc+1) ce,.slice (Ad gB) (s.nc+1) ca,.slice (Ad gc) (s.K+1) cc]:=by rw[h6];rfl
 rw[←hP] at hp;refine qR (ke (qL (vs:=Bp p (s.nc+1) (s.K+1)) O O O O (hp.i6 2 O O)) (O:_=Value.agg (Bp p (s.nc+1) (s.K+1)).toArray) ?_);refine tS fun vb hp=>?_;have hp:=hp.I 3 (Bp p _ _) O O;have hp:Hp W [] _ ([_,_,_,_,_,_]++_):=hp;refine qA ?_;refine zJ O O O O (hp.j2 3 O O) ⟨_,O,p,O,?_,hp.Z⟩;rw[h6];refine⟨qZ hp 4 O xq (fun _=>O),qZ hp 5 O hq jT,qZ hp 0 O h9 jT,fun i hi=>?_⟩;show ig _ 3 eQ (some ⟨ra i,0,_⟩) _
 rcases dH.1 hi with h|rfl
 ·rw[(ro i h).1];exact Kk hp (aQ _ (bM.2 ⟨i,aR.2 h,O⟩)) (hU i h) jT
 rw[rn.1,←hz];exact qZ hp 1 O eo jT
variable{Y:Nat→Rat}{m κ:Nat}
def FG(s:Sr)(Y:Nat→Rat)(c:Nat):Rat:=if s.dec c then 0 else(s.S c:Rat)*Y c
theorem Tf(s Y):wr s.nc (FG s Y)=s.tot Y:=O
theorem Zn(hS:∀c,c<s.nc→s.S c≤1000)(hm:s.nc≤m)(hb:∀i,i<m→BQ κ (Y i)):∀c,c<s.nc→BQ (10+κ) (FG s Y c):=fun c hc=>by
 unfold FG;split
 ·exact BQ.zero O1
 have:=hS c hc;exact BQ.mul (Is O1 O2) (hb c O1)
theorem zB6(a:Cp)(c:Eu)(s:Sr)(κ g cY m:Nat)(Y:Nat→Rat)(W:World)(hR:BE a c s W)(hY:ig W 3 eQ (Ad g) (lm m Y))(hm:s.nc≤m)(oX:0<m)(ht:m≤1000)(hS:∀k,k<s.nc→s.S k≤1000)(hb:∀i,i<m→BQ κ (Y i))(hT:s.tot Y≠0)(hκ:2+s.nc*(κ+11)+κ+12≤1000000000000):
  Rt 166 [.pointer (some ⟨a.fb,0,none⟩),.slice (Ad g) m cY] W (fun v w'=>∃g' c',v= .slice (Ad g') m c'∧kg (Ad g') c' (lm m fun i=>Y i/s.tot Y)∧Hp W [] w' [qG eQ 49 3 (Ad g') c' (lm m fun i=>Y i/s.tot Y)]):=by
 have h16:=hR.h16;have h18:=hR.h18;have ha:=Zn hS hm hb;have hg:=HI ha;have hh:∀k,k≤s.nc→1+k*(_+1)≤1+s.nc*(κ+11):=fun k hk=>by
  rw[show 10+κ+1=κ+11 by omega];have:=aL (κ+11) hk;omega
 refine tW func166 ntmps166 fun hp=>?_;refine tD (wM _) fun w1 hp=>?_;refine tQ fun w2 b5 hp=>?_;refine tS fun w3 hp=>?_;have hp:=hp.I 0 (eQ (wr 0 (FG s Y))) O O;have h3:=hp.j3 h16;refine qA (qQ ([6,7]++range' 19 23) (fun(k:Nat) F=>F.put 19 (.int _ k)) (fun k w'=>k≤s.nc∧Hp W [] w' [bu b5 3 (qE (eQ (wr k _))) 49]) (fun k=>s.nc-k) 0 (qB (ka.eq .refl) O) ⟨O1,hp⟩ ?_);clear hp h3;rintro u k w4 ⟨hk,hp⟩;refine tI (fun h=>?_) fun h=>?_
 ·have hl:k<s.nc:=O1;have⟨bS,oS,h5,hq⟩:=jR hR.S hl;have cf:w4.cell? ⟨bS,oS+k*1,_⟩=_:=hp.j3 (hq 0 _ O);have h8:=hS k hl;have hD:=hp.j3 h18;have cg:w4.cell? ⟨_,0+k*1,_⟩=_:=hp.j3 (zM hR.D hl 0 _ O);have cD:k<m:=O1;have eb:wr (k+1) (FG s Y)=_+_:=O;have zy:=hh k hk;refine qA ?_;cases hd:s.dec k with
  |true=>
   have e:FG s Y k=0:=by unfold FG;rw[hd];rfl
   refine qN O ?_;have e2:wr k (FG s Y)=wr (k+1) (FG s Y):=by rw[eb,e];grind
   rw[e2] at hp;exact Fp
  |false=>
   have e:FG s Y k=(s.S k)*Y k:=by unfold FG;rw[hd];rfl
   refine jB O ?_;refine jU jG O3 (fun w'=>Hp W [] w' _) hp.U ?_;have hp:=hp.U;refine tH (EP (s.S k) _ O1) fun w5 hp=>?_;refine qX ?_;refine tP (fun w hp=>qL O O O O (fun j v e=>hp.j3 (zM hY cD j v e))) ?_;apply Ag;rfl;exact qC O TO O (Fh (j:=10) _ (Is O1 O2) (hb k cD) O1);rintro _ w6 ⟨rfl,vy⟩;have hp:=hp.V vy;refine⟨hp,?_⟩;have hx:=Gb w6 (hg k hk) (ha k hl) O1;rw[e] at hx;refine tG hx fun w7 hp=>?_;refine tS fun w8 hp=>qU ?_;have hp:=hp.I 0 (eQ (wr _ _)) O (by rw[eb,e];rfl);exact Fp
 obtain rfl:s.nc=k:=O1;rw[Tf] at hp;have dw:=hg _ (aS _);have zy:=hh _ O1;rw[Tf] at dw;have hp:=(hp.j7 eQ 49 3);refine qA (qQ ([8,10,11,12]++range' 44 15) (fun z F=>(F.put 8 (.slice z.2.1 (lm z.1 fun i=>Y i/s.tot Y).length z.2.2)).put 44 (.int _ (z.1)))
  (fun z w'=>z.1≤m∧kg z.2.1 z.2.2 (lm z.1 fun i=>Y i/s.tot Y)∧Hp W [] w' [qG eQ 49 3 z.2.1 z.2.2 (lm z.1 fun i=>Y i/s.tot Y),_]) (fun z=>m-z.1) (0,none,0) (qB (qB (ka.eq .refl) O) O) ⟨O1,kg.nil,hp⟩ ?_)
 clear hp;rintro u2 ⟨j,s8,c8⟩ w5 ⟨hj,hU,hp⟩;simp[] at hj hU;have hp:Hp W [] w5 [qG eQ 49 3 s8 c8 (lm j _),_]:=hp;refine tI (fun h2=>?_) fun h2=>?_
 ·have hl:j<m:=by
   have:(j:Int)<(m:Int):=h2;omega
  refine qA (tR (qL O O O O (fun q v e=>hp.j3 (zM hY hl q v e))) ?_);refine tQ fun w6 ba hp=>?_;refine tS fun w7 hp=>?_;have hp:=hp.I 0 (eQ _) O O;refine tD (HG _ (hb j hl) dw hT O1) fun w8 hp=>?_;refine qA ?_;refine tQ fun w9 be hp=>?_;refine tS fun uy hp=>?_;refine qA ?_;refine tF (jC (cs:=eQ _) hp O O O O O O O) fun uz nb hp=>AB (jV eQ (lm j _) _ hp 3 0 O O O O O O jT O O O hU O O (by rw[qT];omega)) fun u0 s' c'⟨hn,hp⟩=>?_;have hp:=hp.E.E.E;rw[←kh] at hn hp⊢;refine Ae ?_;exact⟨(j+1,s',c'),qB O5 O,⟨O1,hn,hp⟩,O1⟩
 obtain rfl:m=j:=by
  omega
 obtain⟨g',rfl⟩:=hU.addr (fun e=>by have:=aK List.length e;rw[qT,mS] at this;omega);rw[qT];refine tV ?_;exact⟨_,O,g',c8,O,hU,hp.x (eY _ _)⟩
variable{cl:Nat→Nat}
section
def ou(cl:Nat→Nat)(lv:List (Rat×(Nat→Rat))):List (Rat×(Nat→Rat)):=lv.map fun x=>(x.1,fun i=>x.2 (cl i))
theorem N8{lv}:(ou cl lv).length=lv.length:=aH _
def UX(k:Nat):Nat:=64*(C2 k+4)
theorem jPf(h:k≤4):UX k≤5712200000:=by
 have:=jHj h;unfold UX;omega
theorem Yr{p q}:wH p q≤0↔p≤q:=by
 unfold wH;by_cases h:p<q
 ·grind
 rw[if_neg h];by_cases h2:p=q
 ·grind
 rw[if_neg h2];exact⟨fun h=>absurd h O2,fun h3=>absurd (Rat.le_antisymm h3 (Lj.1 h)) h2⟩
def uJ(s:Sr)(y:Nat→Rat)(c:Nat):Rat:=if s.dec c then(s.S c:Rat)*(y c*s.p c) else 0
theorem jAx(s y):wr s.nc (uJ s y)=s.l5 y:=O
attribute [local irreducible] C2
theorem r99(a:Cp)(c:Eu)(l:List EW)(wz s:Sr)(lv:List (Rat×(Nat→Rat)))(M:List Nat)(W:World)(ok:Bm a c s (ou c.cl lv))(hp:Hp W M W (qc a c s (ou c.cl lv)))(hD:∀w',ax M W w'→DE c.d c.sE l w')(hn:c.n=l.length)(ze:c.d.kd=3)(hz:0<c.d.sz)
  (hI:Inv l.length c.cl (Aq c.d l) wz s lv) (hu:∃k,k<s.nc∧s.dec k=false):
  Rt 99 [.pointer (some ⟨a.fb,0,none⟩)] W (fun _ w'=>∃(a':Cp) (s':Sr) (lc:List (Rat×(Nat→Rat))) (gW cW:Nat) (X:Nat→Rat) (v:Rat),a'.fb=a.fb∧Bm a' c s' (ou c.cl lc)∧Inv l.length c.cl (Aq c.d l) wz s' lc∧s.nd<s'.nd∧s'.nc=s.nc∧s'.W v (fun k=>X (k+1))∧Io 5712200000 (s'.K+1) X∧
   kg (Ad gW) cW (lm (s'.K+1) X)∧a'.sW=some ⟨gW,0+1*3,none⟩∧a'.nW=s'.K∧a'.cW=cW-1∧Hp W M w' ([qG eQ 49 3 (Ad gW) cW (lm (s'.K+1) X)]++qc a' c s' (ou c.cl lc))):=by
 have⟨uc,yj,yd⟩:=hu;have h5:=hI.n5;have yh:=hI.nc;have x7:lv.length≤4:=by
  have h1:=hI.dc;have h2:=Sr.nd_lt yj yd;omega
 have qt:=jPf x7;have u1:=jHj x7;obtain⟨κ,hκ⟩:∃κ,κ=UX lv.length:=⟨_,O⟩;rw[←hκ] at qt;have yx:64*(C2 lv.length+4)=κ:=by rw[hκ];rfl
 have yr:1≤κ:=O1;have⟨D,Mo,hS,ht,hMo,hpo⟩:=hI.ov;have ud:=fun k hk hd=>wQ hS ht hMo (hpo k hk hd)
 have hK:∀k,k<_→_≤5:=fun k hk=>hI.S5 hk
 refine km.j6 func99 O ntmps99 O (qA ?_);refine tQ fun w1 b4 hp=>?_;have hp:Hp W M w1 ([bu b4 3 (qE DV) 49]++qc a c s _):=hp;refine qA (qQ ([2,3,5,6,8,9,10,11]++range' 16 62) (fun _ F=>F)
  (fun z w'=>z.1.fb=a.fb∧Bm z.1 c z.2 _∧Inv _ _ _ wz z.2 lv∧s.Eqv z.2∧Hp W M w' ([_]++qc z.1 c z.2 _)) (fun z=>64-z.2.K) (a,s) (ka.eq .refl) ⟨O,ok,hI,.refl,hp⟩ ?_)
 clear hp ok hI;rintro u ⟨a1,s1⟩ w2 ⟨xd,ok,hI,hM,hp⟩;simp[] at xd ok hI hM;have hp:Hp W M w2 (_++qc a1 c s1 _):=hp;have hR:=BE.of (by rw[bO];exact hp.E) ok;have y0:=hI.K32;have q2:=hI.K1;have enc:=hM.nc;have xk:∀k,k<_→∀q,q<_→_≤5:=fun k hk q hq=>bF (hI.κS hk hq) (hI.S5 hq)
 have hY:∀k,k<s1.nc→_=_→BQ _ (s1.p k):=fun k hk hd=>by
  rw[←hM.p];exact ud k O1 (by rw[hM.dec];exact hd)
 have yp:s1.dec uc=false:=by rw[←hM.dec];exact yd
 have yo:uc<s1.nc:=O1;refine qR ?_;refine ke qP (O:_=Value.pointer _) (tK (xd▸zB7 a1 c s1 _ _ hR O1 O1 (fun k hk=>by have:=hI.S5 hk;omega) (fun j k hj hk=>by have:=xk j hj k hk;omega) hY O1) ?_);rintro _ w3 ⟨p,rfl,yw,zx⟩;have hp:=hp.V zx;have h3:=Sr.q8 hS ht (fun k hk=>hI.S5 hk) xk (fun k hk hd=>by rw[←hM.p];exact hpo k O1 (by rw[hM.dec];exact hd));have yn:=by
  have:=jWq (M:=5*Mo) (b:=C2 lv.length+3) (m:=s1.nc+1) (by rw[eK];omega) O1;rwa[show 64*(C2 lv.length+3+1)=κ by omega] at this
 refine tK (zB8 p _ _ κ _ _ _ 1 _ yw O1 O1 (Lk _) (Lk _) h3 yn O1 yr hI.feas (fun x hx=>hI.le1 yo yp hx)) ?_;rintro _ w4 ⟨X,Y,gX,cX,gY,cY,rfl,hO,x8,xu,hQ,xh,yc⟩;have hp:=hp.C yc;clear yc;have hV:∀j,j<s1.K+1→BQ κ (X j):=by
  have⟨Dx,Mx,x1,x2,x3,x4⟩:=x8;exact fun j hj=>wQ x1 x2 x3 (x4 j hj)
 have hp:Hp W M w4 ([_,_,_]++_):=hp;refine qA (tF (zE (cs:=z5) (m:=5) hp (qJ O) O O) fun w5 b5 hp=>?_);refine tO (zH (cs:=DQ _ _ cX _ _ cY _) hp 0 O O O O (qD O) O O) fun w6 hp=>?_;have hp:=hp.I 0 (DQ _ _ cX _ _ cY (eQ _)) O O;have hp:Hp W M w6 ([bu b5 5 _ 244,_,_,_]++_):=hp;have yq:=by have:=hQ.cap;rwa[qT] at this
 refine qA ?_;refine ke (H0 (l:=1) (zK O).1 (zK (t:=43) O).2 O O O1 yq) (show Value.slice _ _ _=Value.slice _ _ _ from by rw[if_neg O1]) (qA ?_);refine tO (jD hp 4 (by rw[xd];rfl) O O O (qD O) O) fun w7 hp=>?_;obtain⟨a2,oy⟩:∃a2:Cp,a2={a1 with sW:=some ⟨gX,0+1*3,none⟩,nW:=s1.K,cW:=cX-1}:=⟨_,O⟩;have hp:=hp.I 4 (a2.C c _ _ _) O (by rw[oy];rfl);have hp:Hp W M w7 ([bu b5 5 (qE (DQ (Ad gX) (s1.K+1) cX (Ad gY) (s1.nc+1) cY (eQ (X 0)))) 244,qG eQ 49 3 (Ad gX) cX (lm (s1.K+1) X),qG eQ 49 3 (Ad gY) cY (lm (s1.nc+1) Y),bu b4 3 (qE DV) 49]++qc a2 c s1 (ou c.cl lv)):=by
  rw[oy];rw[oy] at hp;exact hp
 have oa:Bm a2 c s1 (ou c.cl lv):=by
  exact mE4
 have hL:a2.fb=a.fb:=by rw[oy];exact xd
 clear ok hR;have hR:=BE.of (Y:=[]) (by rw[bO];exact hp.x (dA _ _)) oa;have hm:s1.nc*(κ+11)≤5*_:=aL _ O1;have x6:=zB6 a2 c s1 κ gY cY _ Y w7 hR (qZ hp 2 O xh jT) (Nat.le_succ _) (Lk _) O1 (fun k hk=>by have:=hI.S5 hk;omega) xu (Inv.tot hO) O1;rw[hL] at x6;refine tL x6 ?_;rintro _ w8 ⟨gy,cy,rfl,xj,x5⟩;have hp:=hp.C x5;clear x5;obtain⟨y,hy⟩:∃y:Nat→Rat,y=fun i=>Y i/s1.tot Y:=⟨_,O⟩
 rw[←hy] at xj hp;have hp:Hp W M w8 ([_,_,_]++_):=hp.x (.cons_cons _ (.cons _ (.cons_cons _ (.cons _ (.refl _)))));have dw:=by
  have:=HI (Zn (s:=s1) (Y:=Y) (κ:=κ) (m:=s1.nc+1) (fun q hq=>by have:=hI.S5 hq;omega) (Nat.le_succ _) xu) s1.nc (aS _);rwa[Tf] at this
 have gz:∀q,q<s1.nc+1→BQ (6*κ+56) (y q):=fun q hq=>by
  rw[hy];refine BQ.mono (BQ.div (xu q hq) dw (Inv.tot hO)) ?_;rw[show 10+κ+1=κ+11 by omega];omega
 obtain⟨wm,zp⟩:∃wm:Nat→Rat,wm=fun i=>y (c.cl i):=⟨_,O⟩
 have hP:∀i,i<c.n→_<_:=fun i hi=>hI.cls.lt i O1
 have xy:∀i,i<c.n→BQ _ (wm i):=fun i hi=>by rw[zp];exact gz _ O6
 have hp:=hp.j7 eQ 49 3;have hp:Hp W M w8 ([qG eQ 49 3 _ 0 (lm 0 wm),_,_,_]++_):=hp;clear hR;have hR:=BE.of (Y:=[]) (by rw[bO];exact hp.x (dA _ _)) oa;have h14:=hR.h14;rw[hL] at h14;refine qA (qQ ([3,8]++range' 37 12) (fun z F=>(F.put 3 (.slice z.2.1 (lm z.1 wm).length z.2.2)).put 37 (Iv (z.1:Int)))
  (fun z w'=>z.1≤c.n∧kg z.2.1 z.2.2 (lm z.1 wm)∧Hp W M w' ([qG eQ 49 3 z.2.1 z.2.2 (lm z.1 wm),_,_,_]++qc a2 c s1 _)) (fun z=>c.n-z.1) (0,none,0) (qB (qB (ka.eq .refl) O) O) ⟨bL _,kg.nil,hp⟩ ?_)
 clear hp hR h14;rintro u2 ⟨j,s3,c3⟩ w9 ⟨hj,xb,hp⟩;simp[] at hj xb;have hp:Hp W M w9 ([qG eQ 49 3 s3 c3 (lm j wm),_,_,_]++_):=hp;refine tI (fun h=>?_) fun h=>?_
 ·have hl:j<c.n:=by
   have:(j:Int)<(c.n:Int):=h;omega
  have eg:=hP j hl;have hR:=BE.of (Y:=[]) (by rw[bO];exact hp.x (dA _ _)) oa;have⟨bc,oc,y2,bv⟩:=jR hR.C hl;have cC:=bv 0 _ O;have cY:=zM (qZ hp 1 O xj jT) (show c.cl j<s1.nc+1 by omega);have yl:c.cl j<s1.nc+1:=O1;have ed:y (c.cl j)=wm j:=by rw[zp]
  refine qA (tR (qL O O O O cY) ?_);rw[ed];refine tF (jC (cs:=eQ _) hp O O O O O O O) fun uy nb hp=>AB (jV eQ (lm j wm) _ hp 1 0 O O O O O O jT O O O xb O O (by rw[qT];omega)) fun uz s' c'⟨ha,hp⟩=>?_;have hp:=hp.E;have hp:Hp W M _ ([_,_,_,_]++_):=hp;rw[←kh] at ha hp⊢;refine Ae ?_;exact⟨(j+1,s',c'),qB O5 O,⟨by show j+1≤_;omega,ha,hp⟩,by show c.n-(j+1)<c.n-j;omega⟩
 obtain rfl:c.n=j:=by
  have:¬(j:Int)<c.n:=h;omega
 rw[qT];refine qA ?_;have xl:∀{w':World},Hp W M w' ([qG eQ 49 3 s3 c3 (lm c.n wm),qG eQ 49 3 (Ad gy) cy (lm (s1.nc+1) y),qG eQ 49 3 (Ad gX) cX (lm (s1.K+1) X),bu b4 3 (qE DV) 49]++qc a2 c s1 (ou c.cl lv))→BE a2 c s1 w':=fun h=>BE.of (Y:=[]) (by rw[bO];exact h.sub (dA _ _)) oa
 have hp:=hp;have yz:_*(l.length+2)≤(6*κ+56+(6*κ+56)+1)*7:=dJ _ O1
 have yg:∀w',Hp W M w' ([qG eQ 49 3 s3 c3 (lm c.n wm),qG eQ 49 3 (Ad gy) cy (lm (s1.nc+1) y),qG eQ 49 3 (Ad gX) cX (lm (s1.K+1) X),bu b4 3 (qE DV) 49]++qc a2 c s1 (ou c.cl lv))→Rt 167 [c.d.v,.slice c.sE c.n c.cE,.slice s3 c.n c3] w' (fun v w2=>
   (∃sP cP P,v= .tuple #[.slice sP P.length cP,QV (ps wm P),.bool true]∧Aq c.d l P∧(∀P',Aq c.d l P'→ps wm P'≤ps wm P)∧kg sP cP P∧Hp w' [] w2 [qG eN 3 1 sP cP P])∨(v= .tuple #[Zs,.agg DV.toArray,.bool false]∧(∀P,¬Aq c.d l P)∧ax [] w' w2)):=fun w' h=>by
  have:=jVu c.d c.sE s3 c.cE c3 (6*κ+56) l wm w' (hD _ h.keeps) ze hz O1 (by rw[←hn];exact qZ h 0 O xb jT) (fun i hi=>xy i O1) O1 O1;rwa[←hn] at this
 have⟨P0,fg,_⟩:=hI.kF 0 O1;refine uD ([9,10,11]++range' 49 14) (fun(z:Option Addr×Nat×List Nat×Nat) F=>(F.put 9 (.slice z.1 z.2.2.1.length z.2.1)).put 10 (.pointer (some ⟨z.2.2.2,0,none⟩)))
  (fun z w'=>Aq c.d l z.2.2.1∧(∀P',Aq c.d l P'→ps wm P'≤ps wm z.2.2.1)∧kg z.1 z.2.1 z.2.2.1∧Hp W M w' ([bu z.2.2.2 3 (qE (eQ (ps wm z.2.2.1))) 49,qG eN 3 1 z.1 z.2.1 z.2.2.1]++([qG eQ 49 3 s3 c3 (lm c.n wm),qG eQ 49 3 (Ad gy) cy (lm (s1.nc+1) y),qG eQ 49 3 (Ad gX) cX (lm (s1.K+1) X),bu b4 3 (qE DV) 49]++qc a2 c s1 (ou c.cl lv)))) ?_ ?_
 ·refine HU true (List.range' 0 18) jG O3 O (fun w'=>Hp W M w' _) hp.U ?_;have hp:=hp.U;refine zP ?_;apply C8;rfl;rfl;intro w' hk;exact qL (vs:=c.d.L) O O O O (fun j v e=>by have:=(xl hk).hd j v e;rwa[hL] at this);exact(O:_=c.d.v);refine zP ?_;apply C8;rfl;rfl;intro w' hk;exact qS O O (by have:=(xl hk).h13;rwa[hL] at this);rfl;refine zP (BP 14 O O3 O O ?_ ?_)
  ·skip
   refine tK (yg _ hp) ?_;rintro _ uy (⟨sP,cP,P,rfl,hF,xc,tr,hpo⟩|⟨rfl,h9,_⟩)
   ·have hJ:=hp.C hpo;refine⟨hp.V hpo.Z,zP (xO O O3 ?_ O)⟩;apply Au;rfl;exact jK hJ (qJ O);rintro _ uz ⟨ba,rfl,hJ⟩;refine⟨hJ.E.E,zP (xO O O3 ?_ O)⟩;apply FH;rfl;exact qW hJ 0 O O O O (qD O) O;rintro _ u0 ⟨rfl,hJ⟩;refine⟨hJ.E.E,?_⟩;have hJ:=hJ.I 0 (eQ _) O O;refine zP (yZ ?_);exact⟨(sP,cP,P,ba),qB O5 O,hF,xc,tr,hJ⟩
   exact absurd fg (h9 P0)
  skip
  apply Au;rfl;exact jK hp (qJ O);rintro _ uy ⟨ba,rfl,hJ⟩;have hp:=hJ.E;refine⟨hp,xO O O3 (tK (yg _ hp) ?_) O⟩;rintro _ uz (⟨sP,cP,P,rfl,hF,xc,tr,hpo⟩|⟨rfl,h9,_⟩)
  ·have hJ:=hJ.C hpo;refine⟨hp.V hpo.Z,zP (xO O O3 ?_ O)⟩;apply FH;rfl;exact qW hJ 1 O O O O (qD O) O;rintro _ u0 ⟨rfl,hJ⟩;refine⟨hJ.E.E,?_⟩;have hJ:=hJ.I 1 (eQ _) O O;refine zP (yZ ?_);exact⟨(sP,cP,P,ba),qB O5 O,hF,xc,tr,hJ.perm (iR _ _ _)⟩
  exact absurd fg (h9 P0)
 clear hp;rintro u3 ⟨sP,cP,P,ba⟩ uy ⟨hF,xc,tr,hp⟩;simp[] at hF xc tr;have hp:Hp W M _ ([bu ba 3 (qE (eQ (ps wm P))) 49,qG eN 3 1 sP cP P]++_):=hp;have ua:∀i∈P,i<c.n:=fun i hi=>by have:=hF.lt i hi;omega
 have zf:P.length≤c.n:=by
  have:=uK hF.srt (fun i _=>bL i) ua;omega
 have xz:=NF xy P ua;have xg:P.length*_≤5*(6*κ+56+1):=aL _ O1;have yi:=gz s1.nc (pA _);refine qA ?_;have yu:s1.nc<s1.nc+1:=pA _;refine jW jG O3 (fun w'=>Hp W M w' _) hp.U ?_;have hp:=hp.U;refine tP (fun w hp=>qL (vs:=eQ (ps wm P)) O O O O (hp.i6 0 O O)) (qX ?_);refine kp O (fun w hp=>qS O O (by have:=(xl hp.E.E).h16;rwa[hL] at this)) (O:_=Value.slice a2.sS s1.nc a2.cS) ?_;refine qX (tP (fun w hp=>qL (vs:=eQ (y s1.nc)) O O O O (zM (qZ hp 3 O xj jT) yu)) ?_);refine tG (IM _ xz yi O1) fun uz hp=>?_;refine qX (qU ?_);have hH:∀P,ps (fun i=>_/_) P=ps wm P:=fun P=>by rw[zp,hy]
 refine qH O (fun ys=>?_) (fun xn=>?_)
 ·have ys:=Yr.1 ys;have xx:=hV 0 (Lk _);rw[←yx] at xx;have⟨x0,xi,yf,df⟩:=hI.level hO xx (fun q hq=>by rw[←congrFun hy q];exact(gz q O1).mono O1) hF (fun P' hU=>by rw[hH,hH];exact xc P' hU) (by rw[hH,←congrFun hy _];exact ys);rw[hH,←hy] at x0;rw[←hy] at xi yf df;refine tT fun u0 hp=>?_;have hp:=hp.I 5 (eQ _) O O;refine qA ?_;refine tQ fun h8 be hp=>?_;refine tS fun h4 hp=>?_;have hp:=hp.I 0 (eQ (ps wm P-wr 0 (uJ s1 y))) O (by rw[show ps wm P-wr 0 (uJ s1 y)=ps wm P from by show ps wm P-0=_;grind];rfl);have hp:Hp W M _ ([bu _ 3 _ 49,_,_,_,_,_,_]++_):=hp;have hp:Hp W M h4 ([bu be 3 (qE (eQ (ps wm P-wr 0 (uJ s1 y)))) 49,qG eQ 49 3 s3 c3 (lm c.n wm),qG eQ 49 3 (Ad gy) cy (lm (s1.nc+1) y),qG eQ 49 3 (Ad gX) cX (lm (s1.K+1) X)]++qc a2 c s1 (ou c.cl lv)):=hp.x (.cons_cons _ (.cons _ (.cons _ (.cons_cons _ (.cons_cons _ (.cons_cons _ (.cons _ (.refl _))))))));have hR:=BE.of (Y:=[]) (by rw[bO];exact hp.x (dA _ _)) oa;have h16:=hR.h16;rw[hL] at h16;have zu:∀q,q<s1.nc→BQ (10+(6*κ+56+C2 lv.length)) (uJ s1 y q):=fun q hq=>by
   unfold uJ;split
   ·rename_i hd
    have:=hI.S5 hq;exact BQ.mul (Is O1 O2) (BQ.mul (gz q O1) (hY q hq hd))
   exact BQ.zero O1
  have yk:=HI zu;refine qA (qQ ([13,14]++range' 84 30) (fun(k:Nat) F=>F.put 84 (Iv (k:Int))) (fun k w'=>k≤s1.nc∧Hp W M w' ([bu be 3 (qE (eQ (ps wm P-wr k (uJ s1 y)))) 49,_,_,_]++qc a2 c s1 (ou c.cl lv))) (fun k=>s1.nc-k) 0 (qB (ka.eq .refl) O) ⟨bL _,hp⟩ ?_);clear hp hR h16;rintro u4 k h7 ⟨hk,hp⟩;refine tI (fun h=>?_) fun h=>?_
  ·have hl:k<s1.nc:=O1;have hR:=BE.of (Y:=[]) (by rw[bO];exact hp.x (dA _ _)) oa;have⟨bS,oS,xo,hT⟩:=jR hR.S hl;have cf:=hT 0 _ O;have h18:=hR.h18;rw[hL] at h18;have cg:=zM hR.D hl 0 _ O;have xr:=hI.S5 hl;have eb:wr (k+1) (uJ s1 y)=_+_:=O;have hE:k*_≤5*(10+(6*κ+56+C2 lv.length)+1):=aL _ O1;have zy:k<s1.nc+1:=O1;refine qA ?_;cases hd:s1.dec k with
   |false=>
    have e:uJ s1 y k=0:=by unfold uJ;rw[hd];rfl
    have e2:ps wm P-wr k (uJ s1 y)=ps wm P-wr (k+1) (uJ s1 y):=by rw[eb,e];grind
    refine qN O ?_;rw[e2] at hp;exact Fp
   |true=>
    have e:uJ s1 y k=(s1.S k:Rat)*(y k*s1.p k):=by unfold uJ;rw[hd];rfl
    refine jB O (qA ?_);refine jU jG O3 (fun w'=>Hp W M w' _) hp.U ?_;have hp:=hp.U;clear h18 cg cf hT;refine tP (fun w hp=>qL (vs:=eQ (ps wm P-wr k (uJ s1 y))) O O O O (hp.i6 0 O O)) (tH (EP (s1.S k) _ O1) fun h6 hp=>?_);refine qX (tP (fun w hp=>qL (vs:=eQ (y k)) O O O O (zM (qZ hp 2 O xj jT) zy)) ?_);refine qX ?_;refine kp O (fun w hp=>qS O O (by have:=(BE.of (Y:=[]) (by rw[bO];exact hp.x (dA _ _)) oa).h19;rwa[hL] at this)) (O:_=Value.slice (some ⟨a2.gX,0,none⟩) s1.nc s1.nc) ?_;refine qX ?_
    (apply kp;rfl;(intro w hp;exact qL (vs:=eQ (s1.p k)) O O O O (fun j v ej=>zM (BE.of (Y:=[]) (by rw[bO];exact hp.x (dA _ _)) oa).X hl j v (by
     unfold pO;rw[hd]
     exact ej)));exact DF O)
    refine tK (Fh _ (gz k O1) (hY k hl hd) O1) ?_;rintro _ vb ⟨rfl,xp⟩;have hp:=hp.V xp;refine⟨hp,?_⟩;apply Ag;rfl;exact qC O TO O (Fh (j:=10) _ (Is O1 O2) (BQ.mul (gz k O1) (hY k hl hd)) O1);rintro _ vd ⟨rfl,yt⟩;have hp:=hp.V yt;refine⟨hp,?_⟩;have ye:=HJ vd (BQ.sub xz (yk k O1)) (zu k hl) O1;rw[e] at ye;refine tG ye fun vc hp=>?_;refine tS fun ve hp=>qU ?_;have hp:=hp.I 0 (eQ (ps wm P-wr (k+1) (uJ s1 y))) O (by rw[eb,e,show ps wm P-(wr k _+(s1.S k)*(y k*s1.p k))=ps wm P-wr k (uJ s1 y)-(s1.S k)*(y k*s1.p k) from by grind];rfl);exact Fp
  obtain rfl:s1.nc=k:=O1;rw[jAx,x0] at hp;have hp:Hp W M h7 ([bu be 3 (qE (eQ (X 0))) 49,qG eQ 49 3 s3 c3 (lm c.n wm),qG eQ 49 3 (Ad gy) cy (lm (s1.nc+1) y),qG eQ 49 3 (Ad gX) cX (lm (s1.K+1) X)]++([bu a2.fb 22 (qE (a2.C c s1.nc s1.K (ou c.cl lv).length)) 179,qG eN 3 1 a2.sC a2.cC (lm c.n c.cl),qG eN 3 1 a2.sP a2.cP (lm c.n c.plc),qG eN 3 1 a2.sS a2.cS (lm s1.nc s1.S),qG jO 22 1 a2.sK a2.cK (kH a2.gk s1.nc s1.K),qG Ay 4 1 (some ⟨a2.gD,0,none⟩) s1.nc (lm s1.nc fun q=>if q<0 then(s1.next (X 0) y).dec q else s1.dec q),qG DX 49 3 (some ⟨a2.gX,0,none⟩) s1.nc (lm s1.nc fun q=>if q<0 then pO (s1.next (X 0) y) q else pO s1 q),qG E3 204 4 a2.sL a2.cL (lH a2.lr c.n (ou c.cl lv))]++(lm s1.K (FC a2.gk s1.nc s1.κ)++lm (ou c.cl lv).length (EB a2.lr c.n (ou c.cl lv))))):=by
   rw[jH (f:=fun q=>if q<0 then(s1.next (X 0) y).dec q else s1.dec q) (g:=s1.dec) (fun q _=>if_neg O1),jH (f:=fun q=>if q<0 then pO (s1.next (X 0) y) q else pO s1 q) (g:=pO s1) (fun q _=>if_neg O1)];exact hp
  have sa:∀f:Nat→Bool,kg _ _ (lm _ f):=fun f=>jZ oa.D (by rw[qT,qT])
  have sc:∀f:Nat→Option Rat,kg _ _ (lm _ f):=fun f=>jZ oa.X (by rw[qT,qT])
  have h16:h7.cell? ⟨a.fb,0+16,none⟩=some (.slice a2.sS s1.nc a2.cS):=by
   rw[←hL];exact hp.J 4 O O
  refine qA (qQ ([15]++range' 119 33) (fun(k:Nat) F=>F.put 119 (Iv (k:Int))) (fun k w'=>k≤s1.nc∧Hp W M w' ([bu be 3 (qE (eQ (X 0))) 49,qG eQ 49 3 s3 c3 (lm c.n wm),qG eQ 49 3 (Ad gy) cy (lm (s1.nc+1) y),qG eQ 49 3 (Ad gX) cX (lm (s1.K+1) X)]++([bu a2.fb 22 (qE (a2.C c s1.nc s1.K (ou c.cl lv).length)) 179,qG eN 3 1 a2.sC a2.cC (lm c.n c.cl),qG eN 3 1 a2.sP a2.cP (lm c.n c.plc),qG eN 3 1 a2.sS a2.cS (lm s1.nc s1.S),qG jO 22 1 a2.sK a2.cK (kH a2.gk s1.nc s1.K),qG Ay 4 1 (some ⟨a2.gD,0,none⟩) s1.nc (lm s1.nc fun q=>if q<k then(s1.next (X 0) y).dec q else s1.dec q),qG DX 49 3 (some ⟨a2.gX,0,none⟩) s1.nc (lm s1.nc fun q=>if q<k then pO (s1.next (X 0) y) q else pO s1 q),qG E3 204 4 a2.sL a2.cL (lH a2.lr c.n (ou c.cl lv))]++(lm s1.K (FC a2.gk s1.nc s1.κ)++lm (ou c.cl lv).length (EB a2.lr c.n (ou c.cl lv)))))) (fun k=>s1.nc-k) 0 (qB (ka.eq .refl) O) ⟨bL _,hp⟩ ?_);clear hp h16;rintro u5 k h6 ⟨hk,hp⟩;refine tI (fun h=>?_) fun h=>?_
  ·have hl:k<s1.nc:=O1;have zy:k<s1.nc+1:=O1;have Bc:∀{w':World} {dd:List Bool} {pp:List (Option Rat)},Hp W M w' ([bu be 3 (qE (eQ (X 0))) 49,qG eQ 49 3 s3 c3 (lm c.n wm),qG eQ 49 3 (Ad gy) cy (lm (s1.nc+1) y),qG eQ 49 3 (Ad gX) cX (lm (s1.K+1) X)]++([bu a2.fb 22 (qE (a2.C c s1.nc s1.K (ou c.cl lv).length)) 179,qG eN 3 1 a2.sC a2.cC (lm c.n c.cl),qG eN 3 1 a2.sP a2.cP (lm c.n c.plc),qG eN 3 1 a2.sS a2.cS (lm s1.nc s1.S),qG jO 22 1 a2.sK a2.cK (kH a2.gk s1.nc s1.K),qG Ay 4 1 (some ⟨a2.gD,0,none⟩) s1.nc dd,qG DX 49 3 (some ⟨a2.gX,0,none⟩) s1.nc pp,qG E3 204 4 a2.sL a2.cL (lH a2.lr c.n (ou c.cl lv))]++(lm s1.K (FC a2.gk s1.nc s1.κ)++lm (ou c.cl lv).length (EB a2.lr c.n (ou c.cl lv)))))→w'.cell? ⟨a.fb,0+18,none⟩=some (.slice (some ⟨a2.gD,0,none⟩) s1.nc s1.nc):=fun h=>by
    rw[←hL];exact h.cell 4 O O
   have ca:∀{w':World} {dd:List Bool} {pp:List (Option Rat)},Hp W M w' ([bu be 3 (qE (eQ (X 0))) 49,qG eQ 49 3 s3 c3 (lm c.n wm),qG eQ 49 3 (Ad gy) cy (lm (s1.nc+1) y),qG eQ 49 3 (Ad gX) cX (lm (s1.K+1) X)]++([bu a2.fb 22 (qE (a2.C c s1.nc s1.K (ou c.cl lv).length)) 179,qG eN 3 1 a2.sC a2.cC (lm c.n c.cl),qG eN 3 1 a2.sP a2.cP (lm c.n c.plc),qG eN 3 1 a2.sS a2.cS (lm s1.nc s1.S),qG jO 22 1 a2.sK a2.cK (kH a2.gk s1.nc s1.K),qG Ay 4 1 (some ⟨a2.gD,0,none⟩) s1.nc dd,qG DX 49 3 (some ⟨a2.gX,0,none⟩) s1.nc pp,qG E3 204 4 a2.sL a2.cL (lH a2.lr c.n (ou c.cl lv))]++(lm s1.K (FC a2.gk s1.nc s1.κ)++lm (ou c.cl lv).length (EB a2.lr c.n (ou c.cl lv)))))→w'.cell? ⟨a.fb,0+19,none⟩=some (.slice (some ⟨a2.gX,0,none⟩) s1.nc s1.nc):=fun h=>by
    rw[←hL];exact h.cell 4 O O
   have h18:=Bc hp;have cg:h6.cell? ⟨a2.gD,0+k*1,none⟩=some (.bool (s1.dec k)):=by
    have:=zM (qZ hp 9 O (sa _) (fun _=>O)) hl 0 _ O;rwa[if_neg (Nat.lt_irrefl k)] at this
   have ci:=zM (qZ hp 2 O xj jT) zy;have same:(s1.dec k=true∨¬0<y k)→Hp W M h6 ([bu be 3 (qE (eQ (X 0))) 49,qG eQ 49 3 s3 c3 (lm c.n wm),qG eQ 49 3 (Ad gy) cy (lm (s1.nc+1) y),qG eQ 49 3 (Ad gX) cX (lm (s1.K+1) X)]++([bu a2.fb 22 (qE (a2.C c s1.nc s1.K (ou c.cl lv).length)) 179,qG eN 3 1 a2.sC a2.cC (lm c.n c.cl),qG eN 3 1 a2.sP a2.cP (lm c.n c.plc),qG eN 3 1 a2.sS a2.cS (lm s1.nc s1.S),qG jO 22 1 a2.sK a2.cK (kH a2.gk s1.nc s1.K),qG Ay 4 1 (some ⟨a2.gD,0,none⟩) s1.nc (lm s1.nc fun q=>if q<(k+1) then(s1.next (X 0) y).dec q else s1.dec q),qG DX 49 3 (some ⟨a2.gX,0,none⟩) s1.nc (lm s1.nc fun q=>if q<(k+1) then pO (s1.next (X 0) y) q else pO s1 q),qG E3 204 4 a2.sL a2.cL (lH a2.lr c.n (ou c.cl lv))]++(lm s1.K (FC a2.gk s1.nc s1.κ)++lm (ou c.cl lv).length (EB a2.lr c.n (ou c.cl lv))))):=fun hX=>by
    have e1:(s1.next (X 0) y).dec k=s1.dec k:=by
     show(s1.dec k||decide (0<y k))=_
     rcases hX with h|h
     ·rw[h];rfl
     rw[aB h,dL]
    have e2:pO (s1.next (X 0) y) k=pO s1 k:=by
     unfold pO;rw[e1];show(if s1.dec k then some (if s1.dec k then s1.p k else if 0<y k then X 0 else s1.p k) else none)=_
     rcases hX with h|h
     ·rw[h];rfl
     rw[if_neg h];cases s1.dec k<;>rfl
    rw[jH (f:=fun q=>if q<k+1 then(s1.next (X 0) y).dec q else s1.dec q) (g:=fun q=>if q<k then(s1.next (X 0) y).dec q else s1.dec q) (fun q _=>by
     by_cases hq:q=k
     ·subst hq;rw[if_pos O1,if_neg O1,e1]
     ·by_cases yv:q<k
      ·rw[if_pos O1,if_pos yv]
      rw[if_neg O1,if_neg yv]),jH (f:=fun q=>if q<k+1 then pO (s1.next (X 0) y) q else pO s1 q) (g:=fun q=>if q<k then pO (s1.next (X 0) y) q else pO s1 q) (fun q _=>by
     by_cases hq:q=k
     ·subst hq;rw[if_pos O1,if_neg O1,e2]
     by_cases yv:q<k
     ·rw[if_pos O1,if_pos yv]
     rw[if_neg O1,if_neg yv])]
    exact hp
   refine jL ?_;cases hd:s1.dec k with
   |true=>
    have hp:=same (.inl hd);exact mE1
   |false=>
    refine jL ?_;apply vX;rfl;rfl;exact qL O O O O ci;exact DF O;refine tK (EA _ (BQ.fq (gz k zy) O1)) ?_;rintro _ vb ⟨rfl,xp⟩;by_cases xt:0<y k
    ·have d1:decide (Bo (y k)>0)=true:=by
      refine aD ?_;unfold Bo;rw[if_neg O6,if_neg O6];decide
     refine jL ?_;rw[d1];refine jL (jB O ?_);have hp:=hp.V xp;refine qA (kU true jG O3 (fun w'=>w'.cell? ⟨a.fb,0+18,none⟩=some (.slice (some ⟨a2.gD,0,none⟩) s1.nc s1.nc)∧w'.cell? ⟨a.fb,0+19,none⟩=some (.slice (some ⟨a2.gX,0,none⟩) s1.nc s1.nc)∧∀(j:Nat) (v:Value),(eQ (X 0))[j]? =some v→w'.cell? ⟨be,0+j,none⟩=some v) ⟨Bc hp.U,ca hp.U,hp.U.i6 0 O O⟩ ?_);have hp:=hp.U;refine qX ?_;apply kp;rfl;intro w hg;exact qS O O hg.1;rfl;refine qX ?_;apply kp;rfl;intro w hg;exact qS O O hg.2.1;rfl;refine qX ?_;apply kp;rfl;intro w hg;exact qL O O O O hg.2.2;exact DF O;refine qX ?_;apply GL;rfl;exact zL Ay _ k true hp 9 O (sa _) (by rw[qT];exact hl) O O (fun _=>O) O O (qD O);rintro _ vd ⟨rfl,hp⟩;refine⟨⟨Bc hp,ca hp,hp.i6 0 O O⟩,qX ?_⟩;apply GL;rfl;exact vL DX _ k (some (X 0)) hp 10 O (sc _) (by rw[qT];exact hl) O O LK O O (qD O);rintro _ vc ⟨rfl,hp⟩;refine⟨⟨Bc hp,ca hp,hp.i6 0 O O⟩,qU ?_⟩;have e1:(s1.next (X 0) y).dec k=true:=by
      show(s1.dec k||decide (0<y k))=_
      rw[aD xt,mY]
     have e2:pO (s1.next (X 0) y) k=some (X 0):=by
      unfold pO;rw[e1];show some (if s1.dec k then s1.p k else if 0<y k then X 0 else s1.p k)=_
      rw[hd,if_neg O2,if_pos xt]
     rw[←e1,RL,←e2,RL] at hp;exact Fp
    have d1:decide (Bo (y k)>0)=false:=by
     refine aB ?_;unfold Bo;by_cases h0:y k=0
     ·rw[if_pos h0];decide
     rw[if_neg h0,if_pos O6];decide
    refine jL ?_;rw[d1];refine qN O ?_;have hp:=(same (.inr xt)).call xp;exact Fp
  obtain rfl:s1.nc=k:=O1;have hp:Hp W M h6 ([bu be 3 (qE (eQ (X 0))) 49,qG eQ 49 3 s3 c3 (lm c.n wm),qG eQ 49 3 (Ad gy) cy (lm (s1.nc+1) y),qG eQ 49 3 (Ad gX) cX (lm (s1.K+1) X)]++([bu a2.fb 22 (qE (a2.C c s1.nc s1.K (ou c.cl lv).length)) 179,qG eN 3 1 a2.sC a2.cC (lm c.n c.cl),qG eN 3 1 a2.sP a2.cP (lm c.n c.plc),qG eN 3 1 a2.sS a2.cS (lm s1.nc s1.S),qG jO 22 1 a2.sK a2.cK (kH a2.gk s1.nc s1.K),qG Ay 4 1 (some ⟨a2.gD,0,none⟩) s1.nc (lm s1.nc (s1.next (X 0) y).dec),qG DX 49 3 (some ⟨a2.gX,0,none⟩) s1.nc (lm s1.nc (pO (s1.next (X 0) y))),qG E3 204 4 a2.sL a2.cL (lH a2.lr c.n (ou c.cl lv))]++(lm s1.K (FC a2.gk s1.nc s1.κ)++lm (ou c.cl lv).length (EB a2.lr c.n (ou c.cl lv))))):=by
   rw[jH (g:=(s1.next (X 0) y).dec) (fun q hq=>if_pos hq),jH (g:=pO (s1.next (X 0) y)) (fun q hq=>if_pos hq)] at hp;exact hp
  obtain⟨lE,xv⟩:∃lE,lE=ou c.cl lv:=⟨_,O⟩;rw[←xv] at hp oa;have yy:lE.length=lv.length:=by rw[xv];exact N8
  have xw:(lH a2.lr c.n lE).length=lE.length:=qT;have cc:h6.cell? ⟨a.fb,0+21,none⟩=some (.slice a2.sL lE.length a2.cL):=by
   rw[←hL];exact hp.J 4 O O
  have ce:=hp.i6 0 O O;have ay:=hp;have aa:a.fb∉zG [qG E3 204 4 a2.sL a2.cL (lH a2.lr c.n lE)]:=by
   rw[←hL];exact hp.j9 (i:=11) O (j:=4) O O1 O
  have ab:=hp.j9 (i:=11) O (j:=0) O O1 O;have hp:=ay.j8 11 O;refine qA ?_;refine xL 12 O jG O3 (fun w'=>ax _ h6 w') hp.U.Z ?_;have hp:=hp.U;refine qX ?_;apply kp;rfl;intro w hk;exact qS O O (hk.cell cc aa);rfl;apply kp;rfl;intro w hk;exact qL (vs:=eQ (X 0)) O O O O (fun j v e=>hk.cell (ce j v e) ab);exact DF O;refine qX ?_;apply kp;rfl;intro w hk;exact HS (zs:=[.bool false,_,_,_]) (tl:=[]) (pl:=[(0,3),(3,1)]) (pl':=[]) underlying204 (qJ O) (fun w=>O3) O O O;exact(O:_=Value.agg (E3 (X 0,s3,c.n,c3)).toArray);apply Ag;rfl;exact jC (cs:=E3 _) hp O O O O O O O;rintro _ vb ⟨nb,rfl,hp⟩;refine⟨hp.Z,?_⟩;apply Ag;rfl;exact jV E3 _ (X 0,s3,c.n,c3) hp 1 0 O O O O O O (fun _=>O) (by rw[xw];rfl) O O oa.L O O (by rw[xw];omega);rintro _ vd ⟨sd,cj,rfl,ya,hp⟩;refine⟨hp.Z,?_⟩;obtain⟨la,xq⟩:∃la:Nat→Option _×Nat,la=fun j=>if j=lE.length then(s3,c3) else a2.lr j:=⟨_,O⟩
  have lo:∀j,j<lE.length→la j=a2.lr j:=fun j hj=>by rw[xq];exact if_neg O1
  have ln:la lE.length=(s3,c3):=by rw[xq];exact if_pos O
  have go:∀j,j<_→(lE++[(X 0,wm)]).getD j Gv=lE.getD j _:=fun j hj=>by
   rw[aC,aC,XD hj]
  have gn:(lE++[(X 0,wm)]).getD lE.length Gv=(X 0,wm):=by
   rw[aC,fQ (aS _),gZ];rfl
  have dr:(lE++[(X 0,wm)]).length=lE.length+1:=by rw[aY];rfl
  have eH:lH a2.lr c.n lE++[(X 0,s3,c.n,c3)]=lH la c.n (lE++[(X 0,wm)]):=by
   unfold lH;rw[dr,kh,gn,ln,jH (f:=fun j=>((lE.getD j Gv).1,(a2.lr j).1,c.n,(a2.lr j).2)) (g:=fun j=>(((lE++[(X 0,wm)]).getD j Gv).1,(la j).1,c.n,(la j).2)) (fun j hj=>by rw[go j hj,lo j hj])]
  have eR:lm lE.length (EB a2.lr c.n lE)++[qG eQ 49 3 s3 c3 (lm c.n wm)]=lm (lE++[(X 0,wm)]).length (EB la c.n (lE++[(X 0,wm)])):=by
   rw[dr,show lm (lE.length+1) (EB la c.n (lE++[(X 0,wm)]))=lm lE.length (EB la c.n (lE++[(X 0,wm)]))++[EB la c.n (lE++[(X 0,wm)]) lE.length] from kh];congr 1
   ·exact jH fun j hj=>by unfold EB;rw[lo j hj,go j hj]
   unfold EB;rw[ln,gn]
  have hZ:(lH a2.lr c.n lE++[(X 0,s3,c.n,c3)]).length=lE.length+1:=by rw[aY,xw];rfl
  rw[hZ];have hp:=hp.E;have hp:Hp _ _ _ [_]:=hp;rw[eH] at hp ya;refine qX (qU ?_);have hp:=ay.j5 11 O hp;refine gx.mono (jD hp 4 (by rw[hL];rfl) O O O (qD O) O) ?_;rintro _ vc ⟨rfl,hp⟩;obtain⟨a3,xe⟩:∃a3:Cp,a3={a2 with sL:=sd,cL:=cj,lr:=la}:=⟨_,O⟩;have hp:=hp.I 4 (a3.C c _ _ (lE++[_]).length) O (by rw[xe,dr];rfl);have hp:Hp W M _ ([_,_,_,_]++([_,_,_,_,_,_,_,_]++_)):=hp;have hp:Hp W M vc ([qG eQ 49 3 s3 c3 (lm c.n wm)]++([_]++_)):=hp.x (.cons _ (.cons_cons _ (.cons _ (.refl _))));have hp:=hp.perm eF;rw[bU,bU,bU,eR] at hp;have ec:ou c.cl (lv++[(X 0,y)])=lE++[(X 0,wm)]:=by
   rw[xv,zp];unfold ou;rw[dR];rfl
  refine qA ?_;refine xK O ⟨_,O,a3,_,_,gX,cX,X,X 0,?_,?_,yf,?_,hM.nc.symm,xi,x8.mono qt,hQ,?_,?_,?_,?_⟩
  ·rw[xe];exact hL
  ·rw[ec,xe];refine⟨oa.C,oa.P,oa.S,oa.K,sa _,sc _,ya,oa.k,fun j hj=>?_⟩;show kg (la j).1 (la j).2 _
   rw[dr] at hj;rcases dH.1 hj with h|rfl
   ·rw[lo j h,go j h];exact oa.l j h
   rw[ln,gn];exact xb
  ·have e:s.nd=s1.nd:=by
    unfold Sr.nd;rw[hM.nc,hM.dec]
   rw[e];exact df
  ·rw[xe,oy]
  ·rw[xe,oy];rfl
  ·rw[xe,oy]
  rw[ec];rw[xe] at hp⊢;exact hp
 have xn:=by
  refine bZ fun hn=>xn (Yr.2 (Lj.1 hn))
 refine qA ?_;have hh:=Hp.k6 (A:=[_,_]++[_,_,_,_]) hp;have xf:=XR a2 c s1 _ P sP cP _ uz oa hh (qZ hp 1 O tr (fun _=>O)) ua hP O1 O1 O1;have xf:Rt 97 [.pointer (some ⟨a.fb,0,none⟩),.slice sP P.length cP] uz (fun _ w'=>∃sK cK gk,Bm {a2 with sK:=sK,cK:=cK,gk:=gk} c (s1.n7 (jX c.cl P)) (ou c.cl lv)∧Hp uz (zG (qc a2 c s1 (ou c.cl lv))) w' (qc {a2 with sK:=sK,cK:=cK,gk:=gk} c (s1.n7 (jX c.cl P)) (ou c.cl lv))):=by
  rw[←hL];exact xf
 refine tK xf ?_;rintro _ u0 ⟨sK,cK,gk,od,zo⟩;have hp:=Hp.back (A:=[_,_]++[_,_,_,_]) hp zo;refine qA ?_;exact⟨({a2 with sK:=sK,cK:=cK,gk:=gk},s1.n7 (jX c.cl P)),ka.eq (by repeat(first|exact ka.k7|exact ka.refl|refine ka.put O ?_|refine ka.q6 O ?_)),⟨hL,od,hI.more hO hF (by rw[hH,←congrFun hy _];exact xn),hM.trans ⟨O,O,O,O⟩,hp.E.E.E.E.E⟩,by show 64-(s1.K+1)<64-s1.K;omega⟩
end
variable{M:List Nat}{b:Nat}{w w' w0:World}{α:Type}
def FF{α:Type}(enc:α→List Value)(e k:Nat)(w:World)(b c:Nat)(l:List α):Prop:=∃o,w.heap[b]? =some o∧FB e k c l.length (l.flatMap enc) o
section
variable{enc:α→List Value}{e:Nat}
theorem Hp.aC0{L l l'}(hp:Hp w0 M w L)(i)(hi:L[i]? =some (qG enc e k (Ad b) c l))(hk:ax [b] w w')(ho:FF enc e k w' b c l'):
  Hp w0 M w' (L.set i (qG enc e k (Ad b) c l')):=
 hp.p3 hi hk (by
  intro q hq;have:(some b)=_:=hq;have:q=b:=by simpa[eq_comm] using this
  subst this
  exact⟨.inl O,ho⟩)
theorem Hp.y3{L l}(hp:Hp w0 M w L)(i:Nat)(hi:L[i]? =some (qG enc e k (Ad b) c l)):FF enc e k w b c l:=hp.N i _ hi b O
theorem Hp.aA6{l}(h:FF enc e k w b c l):Hp w [b] w [qG enc e k (Ad b) c l]:=UG
def CR(lt:α→α→Bool):List α→α→List α
 |[],x=>[x]
 |y::r,x=>if lt x y then y::CR lt r x else x::y::r
def Nd(lt:α→α→Bool):List α→List α
 |[]=>[]
 |x::r=>CR lt (Nd lt r) x
def kX(lt:α→α→Bool)(l:List α):List α:=(Nd lt l.reverse).reverse
theorem Tp(lt:α→α→Bool)(x:α):∀r:List α,(CR lt r x).Perm (x::r)
 |[]=>.refl _
 |y::r=>by
  rw[CR];split
  ·exact((Tp lt x r).cons y).trans (.swap x y r)
  simp
theorem qSr(lt:α→α→Bool):∀r:List α,(Nd lt r).Perm r
 |[]=>.refl _
 |x::r=>(Tp lt x _).trans ((qSr lt r).cons x)
theorem wK(lt:α→α→Bool)(l):(kX lt l).Perm l:=
 (rE _).trans ((qSr lt _).trans (rE _))
theorem qF2(lt:α→α→Bool)(l):(kX lt l).length=l.length:=(wK lt l).length_eq
theorem qO9(lt:α→α→Bool)(l)(x:α):kX lt (l++[x])=(CR lt (kX lt l).reverse x).reverse:=by
 unfold kX;rw[lC,mX];rfl
theorem qSw(lt:α→α→Bool)(x:α):kX lt [x]=[x]:=O
theorem qP2{lt:α→α→Bool}{P:List α}{x:α}(hj:j<P.length)(h:lt x P[j]=false):(CR lt (P.take (j+1)).reverse x).reverse=P.take (j+1)++[x]:=by
 rw[aF hj,lC];show(CR lt (P[j]::(P.take j).reverse) x).reverse=_
 rw[CR,h];simp
theorem qYp{lt:α→α→Bool}{P:List α}{x:α}(hj:j<P.length)(h:lt x P[j]=true):(CR lt (P.take (j+1)).reverse x).reverse=(CR lt (P.take j).reverse x).reverse++[P[j]]:=by
 rw[aF hj,lC];show(CR lt (P[j]::(P.take j).reverse) x).reverse=_
 rw[CR,if_pos h];simp
theorem ZT{lt:α→α→Bool}(ht:∀a b c,lt a b=false→lt b c=false→lt a c=false)(ha:∀a b,lt a b=true→lt b a=false){x:α}:∀{r:List α},r.Pairwise (fun a b=>lt a b=false)→(CR lt r x).Pairwise (fun a b=>lt a b=false)
 |[],_=>by simp[CR]
 |y::r,h=>by
  have⟨h1,h2⟩:=bQ.1 h;rw[CR];split
  ·rename_i hc
   refine bQ.2 ⟨fun z hz=>?_,ZT ht ha h2⟩;rcases aP.1 ((Tp lt x r).mem_iff.1 hz) with rfl|hz
   ·grind
   grind
  refine bQ.2 ⟨fun z hz=>?_,h⟩;grind
theorem qSv{lt:α→α→Bool}(ht:∀a b c,lt a b=false→lt b c=false→lt a c=false)(ha:∀a b,lt a b=true→lt b a=false)(l):(kX lt l).Pairwise (fun a b=>lt b a=false):=by
 unfold kX;have:∀r,(Nd lt r).Pairwise _:=fun r=>by
  induction r with
  |nil=>exact .nil
  |cons x r ih=>exact ZT ht ha ih
 grind
def BU(P:List α)(x:α)(j:Nat)(S:List α):List α:=P.take j++x::(P.drop j++S)
theorem qYe{P}{x:α}{S}:(BU P x j S).length=P.length+S.length+1:=by
 unfold BU;grind
theorem jEd{P}{x:α}{S}(hj:j≤P.length):(BU P x j S)[j]? =some x:=by
 unfold BU;grind
theorem qMb{P}{x:α}{S}(hj:j<P.length):(BU P x (j+1) S)[j]? =some P[j]:=by
 unfold BU;grind
theorem qTl{P}{x:α}{S}(hj:j<P.length):((BU P x (j+1) S).set (j+1) P[j]).set j x=BU P x j S:=by
 unfold BU;rw[aF hj,bU,aT hj];grind
end
def ql(f:Nat×Nat):List Value:=[Iv (f.1:Int),Iv (f.2:Int)]
def Bg(f:Nat×Nat):Value:=.agg (ql f).toArray
theorem uC(f):(ql f).length=2:=O
def Vn(b ln cc q:Nat)(x y:(Nat×Nat)):Nat→Value:=qE [.slice (Ad b) ln cc,Iv ((q+1:Nat):Int),.slice (Ad b) ln cc,Iv ((q+1:Nat):Int),Iv (q:Int),.slice (Ad b) ln cc,Iv ((q+1:Nat):Int),Iv (q:Int),.pointer (some ⟨b,0+q*2,none⟩),Bg y,.slice (Ad b) ln cc,Iv ((q+1:Nat):Int),.pointer (some ⟨b,0+(q+1)*2,none⟩),Bg x,.pointer (some ⟨b,0+(q+1)*2,none⟩),.pointer (some ⟨b,0+q*2,none⟩)]
def NM(gf:FuncId)(my:Array Value)(lt:(Nat×Nat)→(Nat×Nat)→Bool)(l:List (Nat×Nat))(M:List Nat)(w:World):Prop:=∀W,ax M w W→∀x∈l,∀y∈l,Rt gf ([Bg x,Bg y]++my.toList) W (fun v W'=>∃z:Int,v=Iv z∧(z<0↔lt x y=true)∧ax [] W W')
theorem jZs(l:List (Nat×Nat))(lt:(Nat×Nat)→(Nat×Nat)→Bool)(b cc:Nat)(gf:FuncId)(hg:qI prog gf)(my:Array Value)(w:World)(hr:FF ql 255 2 w b cc l)(hc:l.length≤cc)(ha:cc≤maxLen)(hC:NM gf my lt l [b] w)(h20:l.length<20):
  Rt 365 [.slice (Ad b) l.length cc,Iv 0,Iv (l.length:Int),.func (.func gf) #[] my] w (fun _ w'=>ax [b] w w'∧FF ql 255 2 w' b cc (kX lt l)):=by
 have ij:∀z:List (Nat×Nat),z.length=l.length→kg _ cc z:=fun z hz=>.inr ⟨b,cc,by rw[hz],O1,ha⟩
 refine km.j6 func365 O ntmps365 O ?_;have hp:=Hp.aA6 hr;refine tM (0+1) ?_;refine qA (kT ([8,9]++List.range' 12 41) (fun i _z F=>F.put 8 (.int _ (i+1:Nat)))
  (fun i z w'=>(i+1≤l.length∨i=0)∧z=kX lt (l.take (i+1))++l.drop (i+1)∧Hp w _ w' [qG _ 255 2 _ cc z]) (fun i _=>l.length-i) 0 l (qB (ka.eq .refl) O) ⟨.inr O,?_,hp⟩ ?_)
 ·cases l with
  |nil=>rfl
  |cons x l=>simp[qSw]
 (repeat clear hp);rintro u i z w1 ⟨hi,hz,hp⟩;refine tI (fun h=>?_) fun h=>?_
 ·have hl:i+1<l.length:=O1;obtain⟨Pf,hP⟩:∃Pf,Pf=kX lt (l.take (i+1)):=⟨_,O⟩;obtain⟨S,hS⟩:∃S,S=l.drop (i+1+1):=⟨_,O⟩;have zf:Pf.length=i+1:=by rw[hP,qF2,cJ];omega
  have h4:S.length=l.length-(i+1+1):=by rw[hS,fR]
  have hX:∀y∈Pf,y∈l:=by
   intro y hy;rw[hP] at hy;exact gE ((wK lt _).mem_iff.1 hy)
  have v1:=bX hl;have hh:=qO9 lt (l.take (i+1)) l[i+1];rw[←aF,←hP] at hh;rw[←hP,aT hl,←hS] at hz;generalize hx:l[i+1]=x at v1 hh hz;have eh:z=BU Pf x (i+1) S:=by
   rw[hz];unfold BU;rw[←zf,dF,lT];rfl
  subst eh;clear hz;refine qA (qQ ([9]++List.range' 18 35) (fun(j:Nat) F=>F.put 9 (.int _ j))
   (fun j w'=>j≤i+1∧(CR lt _ x).reverse=(CR lt (Pf.take j).reverse x).reverse++Pf.drop j∧Hp w _ w' [qG _ 255 2 _ cc (BU Pf x j S)]) (fun j=>j) _ (qB (ka.eq .refl) O) ⟨O1,by rw[←zf,dF,lT,bO],hp⟩ ?_)
  (repeat clear hp);rintro u2 j w2 ⟨hj,hL,hp⟩;have x1:(BU Pf x j S).length=l.length:=by rw[qYe];omega
  have hn:=ij _ x1;refine qA ?_;refine jW jG O3 (fun w'=>Hp w _ w' _) hp.U ?_;have hp:=hp.U;refine tP (fun w hp=>qP) (tP (fun w hp=>qP) ?_);rcases dG j with h0|h0
  ·subst h0;refine xA ?_;apply ER;rfl;rfl;rfl;rfl;exact hp;refine xA (qU ?_);refine KW ?_;refine⟨_,_,qB O5 O,⟨.inl O1,?_,hp⟩,O1⟩;rw[hh,hL,←hS];unfold BU;simp[CR]
  obtain⟨q,rfl⟩:∃q,j=q+1:=⟨j-1,O1⟩;have hq:q<Pf.length:=O1;have hM:=jEd (P:=Pf) (x:=x) (j:=q+1) (S:=S) O1;have ee:=qMb (x:=x) (S:=S) hq;have az:=qTl (x:=x) (S:=S) hq;have hE:=qYp (lt:=lt) (x:=x) hq;have xy:=qP2 (lt:=lt) (x:=x) hq;have ph:=hX _ (bX hq);have hH:=aT hq;generalize Pf[q]=y at ee az hE xy ph hH;have xz:q+1<l.length:=O1;have dz:q<l.length:=O1;have hQ:q+1<(BU Pf x (q+1) S).length:=O1;refine kp O (fun w hp=>xJ O O) (qV (aD O1)) (xA ?_);apply yG;rfl;rfl;rfl;intro w hp;exact qL O O O O (zS hp 0 O hn uC hM);exact(O:_=Bg x);refine xA ?_;refine tN q ?_;refine xA ?_;apply yG;rfl;rfl;rfl;intro w hp;exact qL O O O O (zS hp 0 O hn uC ee);exact(O:_=Bg y);apply LX;rfl;rfl;rfl;exact qC O hg O (hC _ hp.Z x v1 y ph);rintro _ w3 ⟨zc,rfl,hY,hk⟩;have hp:=hp.V hk;refine⟨hp,?_⟩;by_cases bv:lt x y=true
  ·apply yG;rfl;rfl;rfl;intro w hp;exact zQ O O;exact qV (aD (hY.2 bv));refine xA (qU ?_);refine jB O (qA ?_);refine LZ ?_;intro F0 ht;have h3:F0 0= .slice (Ad b) l.length cc:=by rw[ht];rfl
   have h6:F0 9=Iv (q+1:Nat):=by rw[ht];rfl
   refine L1 jG O3 (fun D F w'=>Dn 37 16 (Vn b l.length cc q x y) F0 (fun j=>D (AX j)) F∧(D 15=true→D 9=true∧D 13=true)∧(D 17=true→D 15=true)∧(D 15=false→Hp w _ w' _)∧(D 15=true→D 17=false→Hp w [b] w' [qG ql 255 2 (Ad b) cc ((BU Pf x (q+1) S).set (q+1) y)])∧(D 17=true→Hp w [b] w' [qG ql 255 2 (Ad b) cc (((BU Pf x (q+1) S).set (q+1) y).set q x)])) ⟨Dn.start,O4,O4,fun _=>hp.U,O4,O4⟩ ?_ ?_
   ·rintro i D F w4 hi h7 hA ⟨hD,hU,hK,oS,ng,zo⟩;have hJ:=hn.set (q+1) y;have hT:q<((BU Pf x (q+1) S).set (q+1) y).length:=by rw[fW];omega
    have nh:∀j,j<16→Nat.beq _ 15=_:=fun j hj=>jJ (Kl hj).1
    have nf:∀j,j<16→Nat.beq _ 17=_:=fun j hj=>jJ (Kl hj).2.1
    have ni:∀j,j<16→(D (AX j)||Nat.beq (AX j) 16)=(D (AX j)||Nat.beq j 15):=by
     intro j hj;by_cases h:j=15
     ·subst h;rfl
     have e1:AX j=j:=by unfold AX;rw[jJ h];rfl
     exact T9
    have h15:(D 9=false∨D 13=false)→D 15=false:=by
     intro h;cases h5:D 15
     ·rfl
     exact Ux
    have na:∀i,i<15→i≠9999→Dn 37 16 (Vn b l.length cc q x y) F0 (fun j=>D (AX j)||Nat.beq (AX j) i) (F.put (37+i) (Vn b l.length cc q x y i))∧((D 15||Nat.beq 15 i)=true→(D 9||Nat.beq 9 i)=true∧(D 13||Nat.beq 13 i)=true)∧((D 17||Nat.beq 17 i)=true→(D 15||Nat.beq 15 i)=true)∧((D 15||Nat.beq 15 i)=false→Hp w [b] w4 [qG ql 255 2 (Ad b) cc (BU Pf x (q+1) S)])∧((D 15||Nat.beq 15 i)=true→(D 17||Nat.beq 17 i)=false→Hp w [b] w4 [qG ql 255 2 (Ad b) cc ((BU Pf x (q+1) S).set (q+1) y)])∧((D 17||Nat.beq 17 i)=true→Hp w [b] w4 [qG ql 255 2 (Ad b) cc (((BU Pf x (q+1) S).set (q+1) y).set q x)]):=by
     exact US
    match i,hi with
    |0,_=>
     exact zI qP ((hD.old 0 O O).trans h3) (na 0 O2 O2)
    |1,_=>
     exact zI qP ((hD.old 9 O O).trans h6) (na 1 O2 O2)
    |2,_=>
     exact zI qP ((hD.old 0 O O).trans h3) (na 2 O2 O2)
    |3,_=>
     exact zI qP ((hD.old 9 O O).trans h6) (na 3 O2 O2)
    |4,_=>
     exact UP
    |5,_=>
     exact zI qP ((hD.old 0 O O).trans h3) (na 5 O2 O2)
    |6,_=>
     exact zI qP ((hD.old 9 O O).trans h6) (na 6 O2 O2)
    |7,_=>
     exact UN
    |8,_=>
     exact UO
    |9,_=>
     have hA:(D 8&&true)=_:=hA;simp[aJ,fJ] at hA;exact zI (qL O O (hD.slot 8 hA O O) O (zS (oS (h15 O6)) 0 O hn uC ee)) O (na 9 O2 O2)
    |10,_=>
     exact zI qP ((hD.old 0 O O).trans h3) (na 10 O2 O2)
    |11,_=>
     exact zI qP ((hD.old 9 O O).trans h6) (na 11 O2 O2)
    |12,_=>
     exact UQ
    |13,_=>
     have hA:(D 12&&true)=_:=hA;simp[aJ,fJ] at hA;exact zI (qL O O (hD.slot 12 hA O O) O (zS (oS (h15 O6)) 0 O hn uC hM)) O (na 13 O2 O2)
    |14,_=>
     exact UU
    |15,_=>
     have hA:(D 14&&(D 9&&(D 0&&(D 1&&(true&&(true&&(true&&(D 5&&(D 6&&(D 7&&(D 8&&(D 9&&(true&&(true&&(true&&(D 13&&true))))))))))))))))=_:=hA;simp[aJ,fJ,Lp] at hA;have h9:=hA.2.1;have h13:D 13=true:=by simp[hA]
     refine JP (vL _ _ _ y (oS h7) 0 O hn hQ (hD.slot 14 hA.1 O O) (hD.slot 9 h9 O O) uC O O (qD O)) ?_;exact mB1
    |16,_=>
     have hA:(D 2&&(D 4&&(D 0&&(D 1&&(D 2&&(D 3&&(D 4&&(D 5&&(D 6&&(D 7&&(D 8&&(D 9&&(D 10&&(D 11&&(D 12&&(D 13&&(D 14&&(D 15&&true))))))))))))))))))=_:=hA;simp[aJ,fJ] at hA;have h8:D 15=true:=by simp[hA]
     exact zI (zA O (hD.slot 2 hA.1 O O) (hD.slot 4 hA.2.1 O O) O O1) O ⟨(hD.put (i:=15) O2).congr (fun j hj=>ni j hj),fun _=>⟨by simp[hA],by simp[hA]⟩,fun _=>O6,fun h=>O6,fun _ h=>ng h8 O6,fun h=>zo (by rcases gJ _ _▸h with h|h;exact h;cases h)⟩
    |17,_=>
     have hA:(D 16&&(D 13&&(D 15&&(D 0&&(D 1&&(D 2&&(D 3&&(D 4&&(D 5&&(D 6&&(D 7&&(D 8&&(D 9&&(D 10&&(D 11&&(D 12&&(D 13&&(D 14&&(D 15&&true)))))))))))))))))))=_:=hA;simp[aJ,fJ] at hA;have h8:D 15=true:=by simp[hA]
     have h13:D 13=true:=by simp[hA]
     refine JP (vL _ _ q x (ng h8 h7) 0 O hJ hT (hD.slot 15 hA.1 O O) (hD.slot 13 h13 O O) uC O O (qD O)) ?_;exact mB6
    |i+18,hi=>exact absurd hi O4
   exact mB7
  have bv:=by simpa using bv
  apply yG;rfl;rfl;rfl;intro w hp;exact zQ O O;exact qV (aB (fun h=>O6));refine xA (qU ?_);refine KW ?_;refine⟨_,_,qB O5 O,⟨.inl O1,?_,hp⟩,O1⟩;rw[hh,hL,xy bv,←hS];unfold BU;simp
 have ik:z=kX lt l:=by
  rw[hz];rcases hi with hi|hi
  ·grind
  subst hi;rw[bJ O1,mG O1,bO]
 subst ik;refine qA ?_;exact xK O ⟨_,O,hp.Z,Hp.y3 hp 0 O⟩
theorem zA1(l lt b cc gf)(hg:qI prog gf)(my w)(hr:FF ql 255 2 w b cc l)(hc:l.length≤cc)(ha:cc≤maxLen)(hC:NM gf my lt l [b] w)(h20:l.length<20):
  Rt 328 [.slice (Ad b) l.length cc,Iv (l.length:Int),.func (.func gf) #[] my] w (fun _ w'=>ax [b] w w'∧FF ql 255 2 w' b cc (kX lt l)):=by
 refine tW func328 ntmps328 fun hp=>?_;refine qA (qQ ([7,8]++List.range' 11 12) (fun _ F=>(F.put 7 (.int _ 0)).put 8 (.int _ 20)) (fun _ w'=>w'=w) (fun _=>0) () (qB (qB (ka.eq .refl) O) O) O ?_);rintro u ⟨⟩ _ rfl;refine qA ?_;refine qH O O1 (fun _=>tL (jZs l lt b cc gf hg _ _ hr hc ha hC h20) ?_);exact mAh
theorem zAn(l lt b cc gf)(hg:qI prog gf)(my w)(hr:FF ql 255 2 w b cc l)(hc:l.length≤cc)(ha:cc≤maxLen)(hC:NM gf my lt l [b] w)(h20:l.length<20):
  Rt 245 [.slice (Ad b) l.length cc,.func (.func gf) #[] my] w (fun _ w'=>ax [b] w w'∧FF ql 255 2 w' b cc (kX lt l)):=by
 refine km.j6 func245 O ntmps245 O (tL (zA1 l lt b cc gf hg _ _ hr hc ha hC h20) ?_);exact mE3
variable{F:Fr}{aft:Array Edge}{d:Option Tmp}{g:Option (Nat×Bool)}{ty:TypeId}{y:Operand}
section
variable{n:ky}{L:List kr}{pos:String}{x:Operand}
theorem qNl{z}(h:z.toList.all kM=true)(m):(Builtin.zeroCells z m).toList.all kM=true:=by
 unfold Builtin.zeroCells;rw[dO] at h⊢;intro v hv;rw[rP] at hv;obtain⟨i,hi,rfl⟩:=bM.1 hv;have hz:0<z.size:=by
  rcases dG z.size with e|e
  ·grind
  exact e
 have hm:=dY i hz;grind
theorem qa(enc:α→List Value){t e b c k q m cc z l}(hp:Hp w0 M w L)(j)(hj:L[j]? =some (qG enc e k (Ad b) c l))(ht:CQ t=some (e,k))(hz:wT e=some z)(xw:z.cells.size=k)(h1:z.cells.toList.all kM=true)
  (hx:ev n F x= .slice (some ⟨b,0+q*k,none⟩) (m+1) cc) (tt:q≤l.length) (an:l.length≤c) (hn:q+(m+1)≤c) (hh:∀x,(enc x).length=k):
  gx prog n ⟨d,.call ⟨.builtin .clear,#[x],#[t]⟩,ty,pos,aft,g⟩ F w (fun u w'=>u= .tuple #[]∧Hp w0 M w' (L.set j (qG enc e k (Ad b) c (l.take q)))):=by
 have hq:=(zK ht).1;have hz:=qJ hz;obtain⟨o,ho,cx,rfl,ha,vu⟩:=hp.N j _ hj b O;have ha:_=c*k:=ha;have vu:=vu;obtain⟨zs,hg⟩:∃zs,zs=(Builtin.zeroCells z.cells (m+1)).toList:=⟨_,O⟩;have x1:zs.length=(m+1)*k:=by rw[hg];simp[Builtin.zeroCells,xw]
 have hm:zs.all kM=true:=by rw[hg];exact qNl h1 _
 have ys:q*k+(m+1)*k≤c*k:=by rw[←eL];exact aL k hn
 have se:=aL k tt;have⟨w',hr,pw,oc⟩:=PK (P:=prog) zs w _ (0+q*k) 0 ho O1 hm;have hA:(cx.toList.take (q*k)).length=q*k:=by
  rw[cJ,wC,ha];omega
 have hl:cx.toList=cx.toList.take (q*k)++((cx.toList.drop (q*k)).take ((m+1)*k)++(cx.toList.drop (q*k)).drop ((m+1)*k)):=by
  rw[dP,dP]
 have h9:=Tt zs _ _ _ _ hl (by rw[x1,cJ,fR,wC,ha];omega);rw[hA] at h9;have b3:(l.take q).flatMap enc=cx.toList.take (q*k):=by
  have h2:l.flatMap enc=(l.take q).flatMap enc++(l.drop q).flatMap enc:=by rw[←lD,dP]
  have h3:((l.take q).flatMap enc).length=q*k:=by rw[zR enc k hh,cJ,eM tt]
  have h4:cx.toList.take (q*k)=(cx.toList.take (l.length*k)).take (q*k):=by rw[List.take_take,eM se]
  rw[h4,vu,h2,Ru h3]
 have ew:(l.take q).length=q:=by rw[cJ,eM tt]
 refine xN ?_ ⟨O,hp.p3 hj pw ?_⟩
 ·simp only[execOp,resolve,bT,dZ,aN,invoke,builtin];simp[gF] at hr;simp[hx,Builtin.clear_,jQ hq,hz.run,←hg,hr]
 intro b1 oa;have oa:b1=b:=by
  have:(some b:Option Nat)=some b1:=oa;simpa[eq_comm] using this
 subst oa;refine⟨.inl O,_,oc,_,O,?_,?_⟩
 ·rw[Pv,ha];rfl
 grind
end
section
variable[Inhabited α]
def Bb(c:α→Nat)(l:List α):Nat→List α
 |0=>[]
 |j+1=>if j=0∨c (l.getD j default)≠c (l.getD (j-1) default) then Bb c l j++[l.getD j default] else Bb c l j
variable{c:α→Nat}{l:List α}
theorem jHd:∀j,(Bb c l j).length≤j
 |0=>aS _
 |j+1=>by
  have:=jHd j;unfold Bb;grind
theorem Sd:∀j,j≤l.length→∀x∈Bb c l j,x∈l
 |0,_,x,hx=>by cases hx
 |j+1,h,x,hx=>by
  unfold Bb at hx;have hg:l.getD j default∈l:=by
   rw[aC,aA O1];exact bX _
  split at hx
  ·rcases fK.1 hx with hx|hx
   ·exact Sd j O1 x hx
   grind
  exact Sd j O1 x hx
theorem Sc:∀j i,i<j→∃y∈Bb c l j,c y=c (l.getD i default)
 |j+1,i,h=>by
  rcases dH.1 h with h|rfl
  ·have⟨y,hy,e⟩:=Sc j i h;unfold Bb;grind
  unfold Bb;by_cases hc:i=0∨c (l.getD i default)≠c (l.getD (i-1) default)
  ·grind
  have⟨y,hy,e⟩:=Sc i (i-1) O1;grind
theorem Yw(hs:∀i j,i≤j→j<l.length→c (l.getD i default)≤c (l.getD j default)):∀j,j≤l.length→(Bb c l j).Pairwise (fun a b=>c a<c b)∧∀x∈Bb c l j,∃i,i<j∧c x=c (l.getD i default)
 |0,_=>⟨.nil,by simp[Bb]⟩
 |j+1,h=>by
  have⟨h1,h2⟩:=Yw hs j O1;unfold Bb;split
  ·rename_i hc
   refine⟨fO.2 ⟨h1,O4,fun a ha b hb=>?_⟩,fun x hx=>?_⟩
   ·have hb:b=l.getD j default:=by simpa using hb
    rw[hb];have⟨i,hi,e⟩:=h2 a ha;rcases hc with rfl|hc
    ·omega
    have h3:=hs i (j-1) O1 O1;have h4:=hs (j-1) j O1 O1;omega
   grind
  grind
theorem SS:∀j,j≤l.length→(∀i,0<i→i<j→c (l.getD i default)≠c (l.getD (i-1) default))→Bb c l j=l.take j
 |0,_,_=>rfl
 |j+1,h,hd=>by
  unfold Bb
  rw[if_pos (by
   grind),SS j O1 (fun i h1 h2=>hd i h1 O1),aF O1,aC,aA O1]
  rfl
end
def jNd(gf:FuncId)(my:Array Value)(c:Nat×Nat→Nat)(l:List (Nat×Nat))(M:List Nat)(w:World):Prop:=∀W,ax M w W→∀x∈l,∀y∈l,Rt gf ([Bg x,Bg y]++my.toList) W (fun v W'=>v= .bool (decide (c x=c y))∧ax [] W W')
theorem zAm(l c b cc gf)(hg:qI prog gf)(my w)(hr:FF ql 255 2 w b cc l)(hc:l.length≤cc)(ha:cc≤maxLen)(hE:jNd gf my c l [b] w)(h2:2≤l.length)(hS:l.length≤1000):
  Rt 246 [.slice (Ad b) l.length cc,.func (.func gf) #[] my] w (fun v w'=>v= .slice (Ad b) (Bb c l l.length).length cc∧ax [b] w w'∧FF ql 255 2 w' b cc (Bb c l l.length)):=by
 have ij:∀z:List (Nat×Nat),z.length≤l.length→kg _ cc z:=fun z hz=>.inr ⟨b,cc,O,O1,ha⟩
 have hn:∀i,i<_→∃x,_=_∧l.getD i default=x∧_:=fun i hi=>⟨_,aA hi,by rw[aC,aA hi];rfl,bX hi⟩
 refine km.j6 func246 O ntmps246 O ?_;have hp:=Hp.aA6 hr;refine qA ?_;refine qH O O1 (fun _=>qA (qQ ([4,5,6,7]++range' 12 54) (fun(i:Nat) F=>F.put 5 (.int _ i)) (fun i w'=>1≤i∧i≤l.length∧(∀q,0<q→q<i→c (l.getD q default)≠c (l.getD (q-1) default))∧Hp w _ w' _) (fun i=>l.length-i) 1 (qB (ka.eq .refl) O) ⟨O1,O1,fun q h1 h2=>absurd h1 O1,hp⟩ ?_));clear hp;rintro u i w1 ⟨hD,hi,hd,hp⟩;refine tI (fun h=>?_) fun h=>?_
 ·have hl:i<l.length:=O1;have⟨x,hx,hU,v1⟩:=hn i hl;have⟨y,hy,o1,ph⟩:=hn (i-1) O1;have dx:i-1<l.length:=O1;refine qA ?_;refine jW jG O3 (fun w'=>Hp w _ w' _) hp.U ?_;have hp:=hp.U;refine qX (kp O (fun w hp=>qL O O O O (zS hp 0 O (ij l O1) uC hx)) (O:_=Bg x) ?_);refine qX ?_;refine tN (i-1) ?_;refine qX (kp O (fun w hp=>qL O O O O (zS hp 0 O (ij l O1) uC hy)) (O:_=Bg y) ?_);apply Ag;rfl;exact qC O hg O (hE _ hp.Z x v1 y ph);rintro _ w2 ⟨rfl,zw⟩;have hp:=hp.V zw;refine⟨hp,qU ?_⟩;by_cases h4:c x=c y
  ·rw[aD h4];refine jB O ?_;have yl:¬cc=i:=O1;refine Cj ?_;refine ke (H0 (zK O).1 (zK (t:=252) O).2 O O hi hc) (show Value.slice _ _ _=Value.slice _ _ _ from by rw[if_neg yl]) (qA ?_);have ht:Bb c l (i+1)=l.take i:=by
    rw[Bb,if_neg O6,SS i hi hd]
   have ew:(l.take i).length=i:=by rw[cJ,eM hi]
   refine qQ ([5,7]++range' 32 27) (fun(z:Nat×Nat×List _) F=>(F.put 5 (.int _ (z.2.1))).put 7 (.int _ (z.1)))
    (fun z w'=>1≤z.1∧z.1≤l.length-i∧z.2.1=(Bb c l (i+z.1)).length∧z.2.1<i+z.1∧z.2.2.length=l.length∧z.2.2.take z.2.1=Bb c l (i+z.1)∧z.2.2.drop (i+z.1-1)=l.drop (i+z.1-1)∧Hp w _ w' [qG _ 255 2 _ cc z.2.2]) (fun z=>l.length-z.1)
    (1,i,l) (qB (qB (ka.eq .refl) O) O) ⟨O1,O1,O6,O4,O,ht.symm,O,hp⟩ ?_
   clear hp;rintro u2 ⟨k,q,z⟩ w3 ⟨zy,hk,hq,hh,x1,h6,h5,hp⟩;dsimp only at zy hk hq hh x1 h6 h5⊢;have hp:Hp w _ w3 [qG _ 255 2 _ cc z]:=hp;have hZ:q≤1000:=O1;refine tI (fun h3=>?_) fun h3=>?_
   ·have hT:k<l.length-i:=by
     have:(k:Int)<((l.length-i:Nat):Int):=h3;omega
    have⟨x2,nq,hJ,hP⟩:=hn (i+k) O1;have⟨y2,nr,hK,hL⟩:=hn (i+k-1) O1;have hQ:z[i+k]? =some x2:=by
     have e:=aK (fun t=>t[1]?) h5;simp only[nP] at e;rw[show i+k-1+1=i+k by omega] at e;rw[e,nq]
    have h9:z[i+k-1]? =some y2:=by
     have e:=aK (fun t=>t[0]?) h5;simp only[nP] at e;rw[show i+k-1+0=i+k-1 by omega] at e;rw[e,nr]
    have cx:∀{w':World},Hp w [b] w' [qG ql 255 2 (Ad b) cc z]→∀(j:Nat) (v:Value),(ql x2)[j]? =some v→w'.cell? ⟨b,0+i*2+k*2+j,none⟩=some v:=fun h j v e=>by
     rw[show 0+i*2+k*2+j=0+(i+k)*2+j by omega];exact zS h 0 O (ij z O1) uC hQ j v e
    have cy:∀{w':World},Hp w [b] w' [qG ql 255 2 (Ad b) cc z]→∀(j:Nat) (v:Value),(ql y2)[j]? =some v→w'.cell? ⟨b,0+i*2+(k-1)*2+j,none⟩=some v:=fun h j v e=>by
     rw[show 0+i*2+(k-1)*2+j=0+(i+k-1)*2+j by omega];exact zS h 0 O (ij z O1) uC h9 j v e
    have rf:k-1<l.length-i:=O1;refine qA ?_;refine jW jG O3 (fun w'=>Hp w _ w' _) hp.U ?_;have hp:=hp.U;refine qX (kp O (fun w hp=>qL O O O O (cx hp)) (O:_=Bg x2) ?_);refine qX ?_;refine tN (k-1) ?_;refine qX (kp O (fun w hp=>qL O O O O (cy hp)) (O:_=Bg y2) ?_);apply Ag;rfl;exact qC O hg O (hE _ hp.Z x2 hP y2 hL);rintro _ w4 ⟨rfl,vz⟩;have hp:=hp.V vz;refine⟨hp,qX (qU ?_)⟩;have h8:Bb c l (i+k+1)=if i+k=0∨c x2≠c y2 then Bb c l (i+k)++[x2] else Bb c l (i+k):=by
     rw[Bb,hJ,hK]
    by_cases bv:c x2=c y2
    ·rw[if_neg O1] at h8;rw[aD bv];refine EH ?_
     exact⟨(k+1,q,z),qB O5 O,⟨O1,O1,O6,O6,x1,O6,by
      have e:=aK (List.drop 1) h5;rw[pZ,pZ] at e
      rwa[show i+k-1+1=i+(k+1)-1 by omega] at e,hp⟩,O1⟩
    rw[if_pos O1] at h8;rw[aB bv];refine jB O ?_;have hM:q<z.length:=O1;have tt:q<l.length:=O1;refine qA (ke (qL O O O O (cx hp)) (O:_=Bg x2) ?_);refine qA (tO (vL _ z q x2 hp 0 O (ij z O1) hM O O uC O O (qD O)) fun w5 hp=>?_);refine tB ?_;refine Ae ?_
    exact⟨(k+1,q+1,z.set q x2),qB O5 O,⟨O1,O1,O6,O6,O6,by
     rw[←Np,h8,aF O6,List.take_set_of_le O1,h6,List.getElem_set_self],by
     rw[pC O1];have e:=aK (List.drop 1) h5;rw[pZ,pZ] at e
     rwa[show i+k-1+1=i+(k+1)-1 by omega] at e,hp⟩,O1⟩
   have hH:k=l.length-i:=by
    have:¬(k:Int)<((l.length-i:Nat):Int):=h3;omega
   rw[hH,show i+(l.length-i)=l.length by omega] at hq hh h6;obtain⟨m,hm⟩:∃m,l.length-q=m+1:=⟨l.length-q-1,O1⟩;have hj:¬cc=q:=O1;have hF:q≤l.length:=O1;refine Cj ?_;refine ke (H0 (zK O).1 (zK (t:=252) O).2 O O hF hc) (show Value.slice _ _ _=Value.slice _ _ _ from by rw[if_neg hj,hm]) (tO (qa _ hp 0 O O O O O O O1 O1 O1 uC) fun w5 hp=>?_);rw[h6] at hp;have h7:q≤cc:=O1;refine AP ?_;refine jM (ke (Mf (zK O).1 (zK (t:=252) O).2 O O h7) O ?_);refine tV ?_;exact⟨_,O,by rw[←hq];rfl,hp.Z,Hp.y3 hp 0 O⟩
  rw[aB h4];refine EH ?_;refine⟨i+1,qB O5 O,⟨O1,O1,fun r h1 h2=>?_,hp⟩,O1⟩;grind
 obtain rfl:l.length=i:=O1;have e:=SS _ O1 hd;rw[dF] at e;refine tV ?_;exact⟨_,O,by rw[e];rfl,hp.Z,by rw[e];exact Hp.y3 hp 0 O⟩
theorem Hp.aC2{enc:α→List Value}{L}(hp:Hp w0 M w L)(i){b m k e}(l)(hi:L[i]? =some (bu b m (qE (l.flatMap enc)) e))(hm:(l.flatMap enc).length=m)(hk:m=l.length*k):Hp w0 M w (L.set i (qG enc e k (Ad b) l.length l)):=by
 refine hp.y1 hi fun o ho=>?_
 subst ho;refine⟨_,O,by simp[Jq,hk],?_⟩;have h1:=frL (l.flatMap enc);rw[hm] at h1;have h2:(Array.ofFn (n:=m) fun i=>qE (l.flatMap enc) i).toList=l.flatMap enc:=by
  refine Eq.trans ?_ h1;apply dI;intro j;by_cases hj:j<m
  ·simp[hj]
  simp[hj]
 grind
def oz(f:Nat×Nat):Nat:=f.1*(60/f.2)
structure C4(f:Nat×Nat):Prop where
 b0:0<f.2
 b5:f.2≤5
 t:f.1≤f.2
theorem C4.cases{f}(h:C4 f):f.2=1∨f.2=2∨f.2=3∨f.2=4∨f.2=5:=by
 have:=h.b0;have:=h.b5;omega
theorem Vu{f g}(hf:C4 f)(hg:C4 g):f.1*g.2<g.1*f.2↔oz f<oz g:=by
 unfold oz;rcases hf.cases with e|e|e|e|e<;>rcases hg.cases with e'|e'|e'|e'|e'<;>rw[e,e']<;>omega
theorem jWo{f g}(hf:C4 f)(hg:C4 g):f.1*g.2=g.1*f.2↔oz f=oz g:=by
 have h1:=Vu hf hg;have h2:=Vu hg hf;omega
def kR(s:Sr)(κ:Nat→Nat):Nat→List (Nat×Nat)
 |0=>[(0,1),(1,1)]
 |c+1=>kR s κ c++(if 0<κ c∧κ c<s.S c then(range' 1 (s.S c-1)).map fun k=>(k,s.S c) else[])
def Ct:Nat→(Nat→Nat)→Nat
 |0,_=>0
 |n+1,f=>Ct n f+f n
theorem jCm:∀n nc,Ct nc (qi cl n)≤n:=by
 intro n nc;induction n with
 |zero=>
  have:∀nc,Ct nc (qi cl 0)=0:=fun nc=>by
   induction nc with
   |zero=>rfl
   |succ nc ih=>show Ct nc _+0=0;omega
  grind
 |succ n ih=>
  have h1:∀nc,Ct nc (qi cl (n+1))=Ct nc _+(if cl n<nc then 1 else 0):=fun nc=>by
   induction nc with
   |zero=>rfl
   |succ nc ih=>
    show Ct nc _+(qi cl n nc+if cl n=nc then 1 else 0)=Ct nc _+qi cl n nc+_
    grind
  grind
theorem SQ(s κ):∀c,2≤(kR s κ c).length∧(kR s κ c).length≤2+Ct c s.S
 |0=>⟨aS _,aS _⟩
 |c+1=>by
  have:=SQ s κ c;show 2≤(kR s κ c++_).length∧(kR s κ c++_).length≤2+(Ct c _+s.S c)
  grind
theorem ZI(s κ):∀c,(∀q,q<c→s.S q≤5)→∀f∈kR s κ c,C4 f
 |0,_,f,hf=>by
  have:=by simpa[kR] using hf
  rcases this with rfl|rfl<;>exact⟨O2,O2,O2⟩
 |c+1,h,f,hf=>by
  rcases fK.1 hf with hf|hf
  ·exact ZI s κ c (fun q hq=>h q O1) f hf
  split at hf
  ·obtain⟨k,hk,rfl⟩:=bM.1 hf;have:=List.mem_range'_1.1 hk;exact⟨O1,(h c O1),O1⟩
  cases hf
theorem SR(s κ):∀c,(0,1)∈kR s κ c∧(1,1)∈kR s κ c
 |0=>by simp[kR]
 |c+1=>⟨dD _ (SR s κ c).1,dD _ (SR s κ c).2⟩
theorem ZH(s κ):∀c q,q<c→0<κ q→κ q<s.S q→∀a,0<a→a<s.S q→(a,s.S q)∈kR s κ c
 |c+1,q,hq,h1,h2,a,ha,ha2=>by
  rcases dH.1 hq with hq|rfl
  ·exact dD _ (ZH s κ c q hq h1 h2 a ha ha2)
  refine aQ _ ?_;grind
structure FY(s:Sr)(κ:Nat→Nat)(cs:List (Nat×Nat)):Prop where
 srt:cs.Pairwise (fun f g=>oz f<oz g)
 fr:∀f∈cs,C4 f
 zero:∃f∈cs,oz f=0
 one:∃f∈cs,oz f=60
 has:∀c,c<s.nc→0<κ c→κ c<s.S c→∀a,0<a→a<s.S c→∃f∈cs,oz f=a*(60/s.S c)
 len:cs.length≤7
variable{a:Int}
instance:Inhabited (Nat×Nat):=⟨(0,0)⟩
theorem jVt(t:Nat)(b:Nat)(W)(ht:t≤5)(hb:b≤5)(oa:0<b):Rk 171 [Bg (t,b)] W (QV ((t:Rat)/(b:Rat))):=by
 have zi:BQ 3 t:=Is O1 O2;have ri:BQ 3 b:=Is O1 O2;have oP:(b:Rat)≠0:=fun e=>by
  have:=pT.1 e;omega
 refine tW func171 ntmps171 fun hp=>?_;refine qR ?_;refine tQ fun w1 b1 hp=>?_;have hp:=hp.I 0 (ql _) O O;refine tQ fun w2 b2 hp=>?_;have hp:Hp W [] w2 [bu b2 3 (qE DV) 49,bu b1 2 _ 255]:=hp;refine qR (uD ([3,4,5]++range' 6 9) (fun b3 F=>F.put 3 (.pointer (Ad b3))) (fun b3 w'=>Hp W [] w' [bu b3 3 (qE (eQ (t/b))) 49,bu b2 3 (qE DV) 49,bu b1 2 (qE (ql (t,b))) 255]) ?_ ?_)
 ·refine HU true (List.range' 0 13) jG O3 O (fun w'=>Hp W [] w' _) hp.U ?_;have hp:=hp.U;refine zP (BP 10 O O3 O O ?_ ?_)
  ·skip
   refine tG (EP t _ O1) fun w3 hp=>?_;refine zP (BP 10 O O3 O O ?_ ?_)
   ·skip
    refine tG (EP b _ O1) fun w4 hp=>?_;refine zP (BP 10 O O3 O O ?_ ?_)
    ·refine tG (HG _ zi ri oP O2) fun w5 hp=>?_;refine zP (xO O O3 ?_ O);apply Au;rfl;exact jK hp (qJ O);rintro _ w6 ⟨b3,rfl,hp⟩;refine⟨hp.E,zP (xO O O3 ?_ O)⟩;exact UT
    apply Au;rfl;exact jK hp (qJ O);rintro _ w6 ⟨b3,rfl,hp⟩;refine⟨hp.E,xO O O3 (tG (HG _ zi ri oP O2) fun w5 hp=>?_) O⟩;refine zP ?_;refine xO O O3 ?_ O;exact UT
   apply Au;rfl;exact jK hp (qJ O);rintro _ w6 ⟨b3,rfl,hp⟩;refine⟨hp.E,xO O O3 (tG (EP b _ O1) fun w4 hp=>?_) O⟩;exact mCi
  apply Au;rfl;exact jK hp (qJ O);rintro _ w6 ⟨b3,rfl,hp⟩;refine⟨hp.E,xO O O3 (tG (EP t _ O1) fun w3 hp=>?_) O⟩;refine zP (xO O O3 ?_ O);refine tG (EP b _ O1) fun w4 hp=>?_;exact mCi
 rintro u b3 w3 hp;refine qR (tR (qL O O O O (hp.i6 0 O O)) ?_);refine tS fun w4 hp=>?_;refine qA ?_;exact Uy
theorem jVl(x y:Nat×Nat)(W:World)(hx:C4 x)(hy:C4 y):Rt 243 [Bg x,Bg y] W (fun v w'=>v=Iv (D5 ((x.1*y.2:Nat):Int) ((y.1*x.2:Nat):Int))∧ax [] W w'):=by
 have h1:=dE (bF hx.t hx.b5) hy.b5;have h2:=dE (bF hy.t hy.b5) hx.b5;obtain⟨p,ng⟩:∃p,p=x.1*y.2:=⟨_,O⟩;obtain⟨q,uu⟩:∃q,q=y.1*x.2:=⟨_,O⟩;have e1:(x.1)*(y.2:Int)=p:=by rw[ng,dM]
 have e2:(y.1)*(x.2:Int)=q:=by rw[uu,dM]
 rw[←ng,←uu];refine tW func243 ntmps243 fun hp=>?_;refine qR ?_;refine tQ fun w1 b2 hp=>?_;refine tQ fun w2 b3 hp=>?_;refine qA (ke (vD O O) (qF ((aK _ e1).trans (qK O1 O1))) ?_);refine qA (ke (vD O O) (qF ((aK _ e2).trans (qK O1 O1))) ?_);refine tC (jVk _ q _) fun w3 hp=>?_;exact nj
theorem jLb{b}:D5 a b<0↔a<b:=by
 unfold D5;omega
theorem jLc{b}:D5 a b=0↔a=b:=by
 unfold D5;omega
theorem zAl(x y:Nat×Nat)(b9:Nat)(W:World)(hx:C4 x)(hy:C4 y)(hc:W.cell? ⟨b9,0,none⟩=some (.func (.func 243) #[] #[])):Rk 247 [Bg x,Bg y,.pointer (Ad b9)] W (.bool (decide (oz x=oz y))):=by
 refine tW func247 ntmps247 fun hp=>?_;refine qR ?_;refine tQ fun w1 b2 hp=>?_;refine tQ fun w2 b3 hp=>?_;refine tR qY ?_;have u6:=hp.j3 hc;refine qR (ke (qS O O u6) O ?_);refine ke (qL O O O O (hp.i6 1 O O)) (O:_=Bg x) (ke (qL O O O O (hp.i6 0 O O)) (O:_=Bg y) ?_);refine tC (jVl x y _ hx hy) fun w3 hp=>?_;refine qA ?_;refine qM (v:=.bool _) O O ⟨_,O,?_,hp.Z⟩;congr 1;rw[iA];simp only[dV];rw[jLc,←jWo hx hy];omega
theorem zB5(a:Cp)(c:Eu)(s:Sr)(κ:Nat→Nat)(sk:Option Addr)(ck:Nat)(W:World)(hR:BE a c s W)(hk:ig W 1 eN sk (lm s.nc κ))(hT:s.nc≤5)(hS:∀q,q<s.nc→s.S q≤5)(hκ:∀q,q<s.nc→κ q≤5)(dt:Ct s.nc s.S≤5):
  Rt 169 [.pointer (some ⟨a.fb,0,none⟩),.slice sk s.nc ck] W (fun v w'=>∃g cc cs,v= .slice (Ad g) cs.length cc∧FY s κ cs∧kg (Ad g) cc cs∧Hp W [] w' [qG ql 255 2 (Ad g) cc cs]):=by
 have h16:=hR.h16;refine tW func169 ntmps169 fun hp=>?_;refine qA ?_;refine tF (jC (cs:=[Iv 0,Iv 1,Iv 1,Iv 1]) hp O O O O O O O) fun w1 wh hp=>?_;have hp:=hp.aC2 (enc:=ql) (k:=2) 0 [(0,1),(1,1)] O O O;have hp:Hp W [] w1 [qG ql 255 2 (Ad wh) 2 (kR s κ 0)]:=hp;have hZ:∀k,k≤s.nc→Ct k s.S≤Ct s.nc s.S:=fun k hk=>by
  have:∀d k,Ct k s.S≤Ct (k+d) s.S:=fun d=>by
   induction d with
   |zero=>intro k;exact aS _
   |succ d ih=>intro k;exact bF (ih k) (nH _ _)
  have h:=this (s.nc-k) k;rwa[show k+(s.nc-k)=s.nc by omega] at h
 have hH:=hp.j3 h16;refine qA ?_;refine qQ ([5,6,7,8]++range' 18 30) (fun(z:Nat×Option Addr×Nat) F=>(F.put 5 (.slice z.2.1 (kR s κ z.1).length z.2.2)).put 18 (Iv (z.1:Int)))
  (fun z w'=>z.1≤s.nc∧kg z.2.1 z.2.2 (kR s κ z.1)∧Hp W [] w' [qG ql 255 2 z.2.1 z.2.2 (kR s κ z.1)]) (fun z=>s.nc-z.1) (0,Ad wh,2) (qB (qB (ka.eq .refl) O) O) ⟨bL _,.inr ⟨wh,2,O,aS _,O2⟩,hp⟩ ?_
 clear hp hH;rintro u ⟨k,s5,c5⟩ w2 ⟨zy,hD,hp⟩;dsimp only at zy hD hp⊢;refine tI (fun h=>?_) fun h=>?_
 ·have ha:k<s.nc:=O1;have⟨bS,oS,hK,h7⟩:=jR hR.S ha;have cf:w2.cell? ⟨bS,oS+k*1,none⟩=some (Iv (s.S k:Int)):=hp.j3 (h7 0 _ O);have⟨bk,ok,np,h5⟩:=jR hk ha;have ca:w2.cell? ⟨bk,ok+k*1,none⟩=some (Iv (κ k:Int)):=hp.j3 (h5 0 _ O);have hL:=hS k ha;have hU:=hκ k ha;have hQ:=(SQ s κ k).2;have ht:=hZ k O1;have skip:¬(0<κ k∧κ k<s.S k)→kR s κ (k+1)=kR s κ k:=fun hn=>by
   show kR s κ k++(if _ then _ else _)=_
   rw[if_neg hn,bO]
  rcases dG (κ k) with h0|h0
  ·have d1:decide ((κ k:Int)>0)=false:=aB O1;refine jL ?_;rw[d1];exact mAo
  have d1:decide ((κ k:Int)>0)=true:=aD O1;by_cases hY:κ k<s.S k
  ·have d2:decide ((κ k:Int)<(s.S k:Int))=true:=aD O1;refine jL ?_;rw[d1];refine jL ?_;rw[d2];refine jL ?_;refine jB O ?_;refine qA ?_;refine qQ ([5,8]++range' 36 11) (fun(z:Nat×Option Addr×Nat) F=>(F.put 5 (.slice z.2.1 (kR s κ k++(range' 1 z.1).map fun q=>(q,s.S k)).length z.2.2)).put 8 (Iv ((z.1+1:Nat):Int)))
    (fun z w'=>z.1+1≤s.S k∧kg z.2.1 z.2.2 (kR s κ k++(range' 1 z.1).map fun q=>(q,s.S k))∧Hp W [] w' [qG ql 255 2 z.2.1 z.2.2 (kR s κ k++(range' 1 z.1).map fun q=>(q,s.S k))]) (fun z=>s.S k-z.1) (0,s5,c5) (qB (qB (ka.eq .refl) (by
     show _=Value.slice s5 (kR s κ k++[]).length c5
     rw[bO]
     rfl)) O) ⟨by show 0+1≤_;omega,by show kg s5 c5 (kR s κ k++[]);rw[bO];exact hD,by show Hp W [] _ [qG _ 255 2 s5 c5 (kR s κ k++[])];rw[bO];exact hp⟩ ?_
   clear hp ca cf;rintro u2 ⟨j,s6,c6⟩ w3 ⟨hj,h9,hp⟩;dsimp only at hj h9 hp⊢;have xf:(kR s κ k++(range' 1 j).map fun q=>(q,s.S k)).length=(kR s κ k).length+j:=by rw[aY,aH,List.length_range']
   refine tI (fun h2=>?_) fun h2=>?_
   ·have xb:(kR s κ k++(range' 1 j).map fun q=>(q,s.S k))++[(j+1,s.S k)]=kR s κ k++(range' 1 (j+1)).map fun q=>(q,s.S k):=by
     rw[bU,List.range'_1_concat,dR,show 1+j=j+1 by omega];rfl
    refine qA ?_;refine tF (jC (cs:=ql (j+1,s.S k)) hp O O O O O O O) fun w4 nb hp=>?_;refine AB (jV ql (kR s κ k++(range' 1 j).map fun q=>(q,s.S k)) (j+1,s.S k) hp 1 0 O O O O O O uC O O O h9 O O O1) fun w5 s' c'⟨hg,hp⟩=>?_;have hp:Hp W [] w5 [qG ql 255 2 s' c' ((kR s κ k++(range' 1 j).map fun q=>(q,s.S k))++[(j+1,s.S k)])]:=hp.E;rw[xb] at hg hp⊢;refine tM (j+1+1) ?_;refine qA ?_;exact⟨(j+1,s',c'),qB O5 O,⟨by show j+1+1≤_;omega,hg,hp⟩,by show s.S k-(j+1)<s.S k-j;omega⟩
   have xc:j=s.S k-1:=O1;have e:kR s κ (k+1)=kR s κ k++(range' 1 j).map fun q=>(q,s.S k):=by
    show kR s κ k++(if _ then _ else _)=_
    rw[if_pos ⟨h0,hY⟩,xc]
   rw[←e] at h9 hp⊢;refine Ae ?_;exact⟨(k+1,s6,c6),qB O5 O,⟨by show k+1≤_;omega,h9,hp⟩,by show s.nc-(k+1)<s.nc-k;omega⟩
  have d2:decide ((κ k:Int)<(s.S k:Int))=false:=aB O1;refine jL ?_;rw[d1];refine jL ?_;rw[d2];exact mAo
 obtain rfl:s.nc=k:=O1;have⟨qq,xd⟩:=SQ s κ s.nc;obtain⟨l,hl⟩:∃l,l=kR s κ s.nc:=⟨_,O⟩;have xu:∀f∈l,C4 f:=by rw[hl];exact ZI s κ s.nc hS
 have hM:=SR s κ s.nc;have hX:=ZH s κ s.nc;rw[←hl] at hp hD qq xd hM hX⊢;obtain⟨g,rfl⟩:=hD.addr (fun e=>by rw[e] at qq;simp at qq);have tx:=hD.cap;have hh:c5≤maxLen:=by
  rcases hD with⟨h,_⟩|⟨g',cap,h,_,hm⟩
  ·cases h
  cases h;exact hm
 refine qA ?_;refine tQ fun w3 b9 hp=>?_;refine tS fun w4 hp=>?_;have hp:=hp.I 0 [.func (.func 243) #[] #[]] O O;have hp:Hp W [] w4 [bu b9 1 (qE [.func (.func 243) #[] #[]]) 319,qG ql 255 2 (Ad g) c5 l]:=hp;refine qA ?_;have hC:NM 243 #[] (fun x y=>decide (oz x<oz y)) l [g] w4:=fun W' _ x hx y hy=>by
  refine(jVl x y W' (xu x hx) (xu y hy)).mono ?_;rintro v w' ⟨rfl,hk⟩;refine⟨_,O,?_,hk⟩;rw[jLb,iW,←Vu (xu x hx) (xu y hy)];omega
 refine tK (zAn l _ g c5 243 (fun _ _=>O3) #[] w4 (Hp.y3 hp 1 O) tx hh hC O1) ?_;rintro _ w5 ⟨vw,hF⟩;have hp:=Hp.aC0 hp 1 O vw hF;obtain⟨l',rj⟩:∃l',l'=kX (fun x y=>decide (oz x<oz y)) l:=⟨_,O⟩;rw[←rj] at hp hF;have hJ:l'.Perm l:=by rw[rj];exact wK _ l
 have hQ:l'.length=l.length:=hJ.length_eq;have hz:l'.Pairwise (fun a b=>oz a≤oz b):=by
  have:=qSv (lt:=fun x y:Nat×Nat=>decide (oz x<oz y)) (fun a b c h1 h2=>by
   simp only[fV] at*
   omega) (fun a b h=>by
   simp only[fV,dV] at*
   omega) l
  rw[←rj] at this;exact this.imp fun h=>by
   simp only[fV] at h;omega
 have hp:Hp W [] w5 [bu b9 1 (qE [.func (.func 243) #[] #[]]) 319,qG ql 255 2 (Ad g) c5 l']:=hp;have xr:b9∉[g]:=by
  have:=hp.y8 (i:=0) (j:=1) O O O2;exact DT
 have hE:jNd 247 #[.pointer (Ad b9)] oz l' [g] w5:=fun W' hV x hx y hy=>zAl x y b9 W' (xu x (hJ.mem_iff.1 hx)) (xu y (hJ.mem_iff.1 hy)) (hV.cell (hp.J 0 O O) xr)
 have call:=zAm l' oz g c5 247 (fun _ _=>O3) #[.pointer (Ad b9)] w5 (Hp.y3 hp 1 O) (by rw[hQ];exact tx) hh hE O1 O1;rw[hQ] at call;refine tL call ?_;rintro _ w6 ⟨rfl,vy,xe⟩;have hp:=Hp.aC0 hp 1 O vy xe;have hp:Hp W [] w6 [qG ql 255 2 (Ad g) c5 (Bb oz l' l.length)]:=hp.E;have hP:=jHd (c:=oz) (l:=l') l.length;have h6:∀i j,i≤j→j<l'.length→oz (l'.getD i default)≤oz (l'.getD j default):=fun i j zn hj=>by
  rw[aC,aC,aA O1,aA hj];rcases Nat.lt_or_eq_of_le zn with h|rfl
  ·rw[dX] at hz;exact hz i j O1 hj h
  exact aS _
 have h8:∀f∈l,∃y∈Bb oz l' l.length,oz y=oz f:=fun f hf=>by
  have⟨i,hi,e⟩:=pD (hJ.mem_iff.2 hf);have⟨y,hy,e2⟩:=Sc (c:=oz) (l:=l') l.length i O1;refine⟨y,hy,e2.trans ?_⟩;rw[aC,aA hi];exact aK _ e
 refine qA ?_;refine qM O O ⟨_,O,g,c5,Bb oz l' l.length,O,⟨(Yw h6 l.length O1).1,fun f hf=>xu f (hJ.mem_iff.1 (Sd l.length O1 f hf)),h8 _ hM.1,h8 _ hM.2,fun q hq h1 h2 a h3 h4=>h8 _ (hX q hq h1 h2 a h3 h4),O1⟩,.inr ⟨g,c5,O,O1,hh⟩,hp⟩
theorem jVg(a B:Int)(hB:0<B):(if a.tmod B<0 then a.tmod B+B else a.tmod B)=a.emod B:=by
 have h1:=iN a (show B≠0 by omega);have h2:=iE a hB;have h4:a.emod B=a%B:=O;grind
def IP(S q p t b:Nat):Bool:=decide ((((t*S:Nat):Int)-((p*q*b:Nat):Int)).emod ((b*S:Nat):Int)<((q*b:Nat):Int))
def BS(cl plc S κ:Nat→Nat)(cut:Nat×Nat)(n:Nat):List Nat:=(range n).filter fun i=>IP (S (cl i)) (κ (cl i)) (plc i) cut.1 cut.2
theorem jAw(cl plc S κ cut n):BS cl plc S κ cut (n+1)=BS cl plc S κ cut n++if IP (S (cl n)) (κ (cl n)) (plc n) cut.1 cut.2 then[n] else[]:=by
 unfold BS;rw[eX,mO];grind
theorem zB4(a:Cp)(c:Eu)(s:Sr)(κ:Nat→Nat)(sk:Option Addr)(ck:Nat)(cut:Nat×Nat)(W:World)(hR:BE a c s W)(hk:ig W 1 eN sk (lm s.nc κ))(hn:c.n≤40)(hP:∀i,i<c.n→c.cl i<s.nc)(hS:∀q,q<s.nc→s.S q≤5∧0<s.S q)(hκ:∀q,q<s.nc→κ q≤5)(xv:∀i,i<c.n→c.plc i≤5)(h9:C4 cut):
  Rt 170 [.pointer (some ⟨a.fb,0,none⟩),.slice sk s.nc ck,Bg cut] W (fun v w'=>∃s' c',v= .slice s' (BS c.cl c.plc s.S κ cut c.n).length c'∧kg s' c' (BS c.cl c.plc s.S κ cut c.n)∧Hp W [] w' [qG eN 3 1 s' c' (BS c.cl c.plc s.S κ cut c.n)]):=by
 have h14:=hR.h14;refine tW func170 ntmps170 fun hp=>?_;refine qR ?_;refine tQ fun w1 b5 hp=>?_;have hp:=hp.I 0 (ql _) O O;have hp:=hp.j7 eN 3 1;have hp:Hp W [] w1 [qG eN 3 1 _ 0 (BS c.cl c.plc s.S κ cut 0),bu b5 2 _ 255]:=hp;have hD:=hp.j3 h14;refine qA (qQ ([7,8,9,10,11]++range' 17 62) (fun z F=>(F.put 7 (.slice z.2.1 (BS c.cl c.plc s.S κ cut z.1).length z.2.2)).put 17 (.int _ (z.1)))
  (fun z w'=>z.1≤c.n∧kg z.2.1 z.2.2 (BS c.cl c.plc s.S κ cut z.1)∧Hp W [] w' [qG eN 3 1 z.2.1 z.2.2 (BS _ _ _ κ _ z.1),_]) (fun z=>c.n-z.1) (0,none,0) (qB (qB (ka.eq .refl) O) O) ⟨O1,kg.nil,hp⟩ ?_)
 clear hp hD;rintro u ⟨k,s7,c7⟩ w2 ⟨zy,h5,hp⟩;dsimp only at zy h5 hp⊢;refine tI (fun h=>?_) fun h=>?_
 ·have hl:k<c.n:=O1;have hm:=hP k hl;have⟨ht,zj⟩:=hS _ hm;have hE:=hκ _ hm;have xw:=xv k hl;have h6:=h9.b5;have hh:=h9.b0;have hX:=h9.t;have⟨bC,oC,hK,hJ⟩:=jR hR.C hl;have cc:=hJ 0 _ O;have⟨bP,oP,xb,h8⟩:=jR hR.P hl;have ce:=h8 0 _ O;have⟨bS,oS,h7,hy⟩:=jR hR.S hm;have cf:=hy 0 _ O;have⟨bk,ok,np,h3⟩:=jR hk hm;have ca:=h3 0 _ O;have h16:=hR.h16;have h15:=hR.h15;obtain⟨B,hB⟩:∃B,B=cut.2*s.S (c.cl k):=⟨_,O⟩;obtain⟨T,hT⟩:∃T,T=cut.1*s.S (c.cl k):=⟨_,O⟩;obtain⟨U,hU⟩:∃U,U=c.plc k*κ (c.cl k):=⟨_,O⟩;obtain⟨V,hV⟩:∃V,V=U*cut.2:=⟨_,O⟩;obtain⟨Z,hZ⟩:∃Z,Z=κ (c.cl k)*cut.2:=⟨_,O⟩;have eB:(cut.2)*(s.S (c.cl k):Int)=B:=by rw[hB,dM]
  have eT:(cut.1)*(s.S (c.cl k):Int)=T:=by rw[hT,dM]
  have eU:(c.plc k)*(κ (c.cl k):Int)=U:=by rw[hU,dM]
  have eV:U*(cut.2:Int)=V:=by rw[hV,dM]
  have eZ:(κ (c.cl k))*(cut.2:Int)=Z:=by rw[hZ,dM]
  have hY:B≤5*5:=by rw[hB];exact dE h6 ht
  have hQ:T≤5*5:=by rw[hT];exact dE O1 ht
  have hH:U≤5*5:=by rw[hU];exact dE xw hE
  have hM:V≤25*5:=by rw[hV];exact dE hH h6
  have hL:Z≤5*5:=by rw[hZ];exact dE hE h6
  have l0:0<B:=by rw[hB];exact iP hh zj
  obtain⟨r,hr⟩:∃r:Int,r=(T-(V:Int)).tmod (B:Int):=⟨_,O⟩;have h4:=jVg (T-V) B O1;rw[←hr] at h4;have hz:=iN (T-V) (show(B:Int)≠0 by omega);have zd:=iE (T-V) (show 0<(B:Int) by omega);have hF:((T:Int)-V).emod _=_%B:=O;have hj:-B≤r∧r<B:=by
   by_cases h:r<0
   ·omega
   rw[if_neg h] at h4;omega
  have hg:IP (s.S (c.cl k)) (κ (c.cl k)) (c.plc k) cut.1 cut.2=decide (((T:Int)-V).emod (B:Int)<Z):=by
   unfold IP;rw[←hT,←hB,←hZ,←hU,←hV]
  have hq:=jAw c.cl c.plc s.S κ cut k;have hx:(BS c.cl c.plc s.S κ cut k).length≤k:=by
   have:=rF (fun i=>IP (s.S (c.cl i)) (κ (c.cl i)) (c.plc i) cut.1 cut.2) (range k);rwa[cZ] at this
  have cg:=hp.j3 cc;refine qA ?_;refine jW jG O3 (fun w'=>Hp W [] w' _) hp.U ?_;have hp:=hp.U;refine qX (kp O (fun w hp=>vD O O) (qF ((aK _ eB).trans (qK O1 O1))) ?_);refine qX (qU ?_);refine qA ?_;refine jW jG O3 (fun w'=>Hp W [] w' _) hp.U ?_;have hp:=hp.U;refine qX (kp O (fun w hp=>vD O O) (qF ((aK _ eT).trans (qK O1 O1))) ?_);refine qX (kp O (fun w hp=>vD O O) (qF ((aK _ eU).trans (qK O1 O1))) ?_);refine qX (kp O (fun w hp=>vD O O) (qF ((aK _ eV).trans (qK O1 O1))) ?_);refine kp O (fun w hp=>jN O O) (qF (qK O1 O1)) (qX ?_);refine kp O (fun w hp=>GX O O O1) (qF hr.symm) (qX ?_);refine qU (qA ?_);refine uD ([11]++range' 62 3) (fun(_:Unit) F=>F.put 11 (Iv ((T-(V:Int)).emod (B:Int)))) (fun _ w'=>Hp W [] w' [qG eN 3 1 s7 c7 (BS c.cl c.plc s.S κ cut k),bu b5 2 (qE (ql cut)) 255]) ?_ ?_
  ·refine qH O (fun h2=>?_) (fun h2=>?_)
   ·rw[if_pos h2] at h4;refine qA (ke (qO O O) (qF (b:=((T:Int)-(V:Int)).emod (B:Int)) (by rw[h4];exact qK O1 O1)) ?_);refine qA ?_;exact⟨(),qB O5 O,hp⟩
   rw[if_neg h2] at h4;refine qA ?_;exact⟨(),qB O5 (by rw[←h4];rfl),hp⟩
  clear hp;rintro u2 ⟨⟩ w3 hp;refine qA ?_;refine jW jG O3 (fun w'=>Hp W [] w' _) hp.U ?_;have hp:=hp.U;refine qX (kp O (fun w hp=>vD O O) (qF ((aK _ eZ).trans (qK O1 O1))) ?_);refine qX (qU ?_);by_cases bR:(T-(V:Int)).emod (B:Int)<Z
  ·rw[aD bR] at hg;rw[hg,if_pos O] at hq;refine qH O (fun _=>?_) O1;refine qA ?_;refine tF (jC (cs:=[.int _ k]) hp O O O O O O O) fun w4 nb hp=>AB (jV eN _ k hp 1 0 O O O O O O (fun _=>O) O O O h5 O O O1) fun w5 s' c'⟨ha,hp⟩=>?_;have hp:Hp W [] w5 [_,_]:=hp.E;rw[←hq] at ha hp⊢;refine Ae ?_;exact⟨(k+1,s',c'),qB O5 O,⟨O1,ha,hp⟩,O1⟩
  rw[aB bR] at hg;rw[hg,if_neg O2,bO] at hq;refine qH O O1 (fun _=>?_);rw[←hq] at h5 hp⊢;refine Ae ?_;exact⟨(k+1,s7,c7),qB O5 O,⟨O1,h5,hp⟩,O1⟩
 obtain rfl:c.n=k:=O1;refine tV ?_;exact⟨_,O,s7,c7,O,h5,hp.x (eY _ _)⟩
variable{P:List Nat}{nc:Nat}
def vW:List (List Nat×Rat)→List Nat→Rat→List (List Nat×Rat)
 |[],P,w=>[(P,w)]
 |(Q,v)::m,P,w=>if Q=P then(Q,v+w)::m else(Q,v)::vW m P w
theorem qIb(P w i):∀m,jE (vW m P w) i=jE m i+if i∈P then w else 0
 |[]=>by simp[vW,jE];grind
 |(Q,v)::m=>by
  unfold vW;split
  ·simp[jE];grind
  simp[jE];rw[qIb];grind
theorem qMa(P w):∀m,Bv (vW m P w)=Bv m+w
 |[]=>by simp[vW,Bv];grind
 |(Q,v)::m=>by
  unfold vW;split
  ·simp[Bv];grind
  simp[Bv];rw[qMa];grind
theorem Me(P w):∀m:List (List Nat×Rat),(vW m P w).map (·.1)=if P∈m.map (·.1) then m.map (·.1) else m.map (·.1)++[P]
 |[]=>by simp[vW]
 |(Q,v)::m=>by
  unfold vW;split
  ·grind
  rw[fG,Me];grind
theorem qOr{P w}:∀{m:List (List Nat×Rat)},∀x∈vW m P w,(x.1=P∧(x.2=w∨∃v,(P,v)∈m∧x.2=v+w))∨x∈m
 |[],x,hx=>by
  have:=by simpa[vW] using hx
  grind
 |(Q,v)::m,x,hx=>by
  unfold vW at hx;split at hx
  ·grind
  rcases aP.1 hx with rfl|hx
  ·simp
  rcases qOr x hx with⟨h1,h2⟩|h
  ·grind
  grind
def A8(f:Nat×Nat):Rat:=(f.1:Rat)/(f.2:Rat)
theorem IY{f}(h:C4 f):A8 f=(oz f:Rat)/60:=by
 unfold A8 oz;rcases h.cases with e|e|e|e|e<;>rw[e]<;>rw[lJ]<;>simp<;>grind
def wI(pan:Nat×Nat→List Nat)(w:Rat):List (Nat×Nat)→List (List Nat×Rat)
 |f::g::cs=>(pan f,w*(A8 g-A8 f))::wI pan w (g::cs)
 |_=>[]
theorem qK8(pan w):∀(cs:List (Nat×Nat)) (f l:Nat×Nat),(f::cs).getLast? =some l→Bv (wI pan w (f::cs))=w*(A8 l-A8 f)
 |[],f,l,h=>by
  simp[wI,Bv];grind
 |g::cs,f,l,h=>by
  have:=qK8 pan w cs g l h;simp[wI,Bv];grind
theorem qH8(pan:Nat×Nat→List Nat)(w:Rat)(i:Nat)(mm:Nat→Bool):∀(cs:List (Nat×Nat)) (f:Nat×Nat),(∀g∈f::cs,C4 g)→(f::cs).Pairwise (fun f g=>oz f<oz g)→(∀g∈f::cs,(i∈pan g↔mm (oz g)=true))→jE (wI pan w (f::cs)) i=w*((GR mm ((f::cs).map oz):Nat):Rat)/60
 |[],f,_,_,_=>by
  simp only[wI,jE,fG,Nu,GR];grind
 |g::cs,f,hf,hs,hm=>by
  have⟨h1,h2⟩:=bQ.1 hs;have ih:=qH8 _ w i mm cs g (fun x hx=>hf x (by simp[hx])) h2 (fun x hx=>hm x (by simp[hx]));simp only[wI,jE,fG,GR];rw[ih,fG,IY (hf g O4),IY (hf f O4),sU];have hl:=h1 g O4;have hz:=hm f O4;by_cases ha:mm (oz f)=true
  ·have e:(oz g-oz f:Nat)=(oz g)-(oz f:Rat):=by
    obtain⟨d,hd⟩:∃d,oz g=oz f+d:=⟨oz g-oz f,O1⟩;rw[hd,iC,sU];grind
   grind
  rw[if_neg (fun h=>ha (hz.1 h)),if_neg ha];grind
theorem TU(a b i):jE (a++b) i=jE a i+jE b i:=by
 induction a with
 |nil=>simp[mC,jE];grind
 |cons x a ih=>
  simp[mL,jE];grind
theorem qEw(a b):Bv (a++b)=Bv a+Bv b:=by
 induction a with
 |nil=>simp[mC,Bv];grind
 |cons x a ih=>
  simp[mL,Bv];grind
def kE(adds:List (List Nat×Rat)):List (List Nat×Rat):=adds.foldl (fun m x=>vW m x.1 x.2) []
theorem qOq(adds x):kE (adds++[x])=vW (kE adds) x.1 x.2:=by
 unfold kE;simp
theorem ZY(G:List Nat→Prop)(D M:Nat):∀(N:Nat) (adds:List (List Nat×Rat)),adds.length=N→(∀x∈adds,G x.1∧0<x.2∧Ov D M x.2)→
  (∀i,jE (kE adds) i=jE adds i)∧Bv (kE adds)=Bv adds∧((kE adds).map (·.1)).Nodup∧(kE adds).length≤N∧∀x∈kE adds,G x.1∧0<x.2∧Ov D (N*M) x.2:=by
 intro N;induction N with
 |zero=>
  intro adds hN _;obtain rfl:=aX hN;exact⟨fun _=>O,O,List.nodup_nil,aS _,fun x hx=>by cases hx⟩
 |succ N ih=>
  intro adds hN h;rcases iQ adds with rfl|⟨ad,x,rfl⟩
  ·grind
  rw[mR] at hN h⊢;have⟨h1,h2,h3,h4,h5⟩:=ih ad O6 (fun y hy=>h y (dD _ hy));have⟨g1,g2,g3⟩:=h x O4;rw[qOq];refine⟨fun i=>?_,?_,(by rw[Me];grind),?_,fun y hy=>?_⟩
  ·rw[qIb,h1,TU];simp[jE];grind
  ·rw[qMa,h2,qEw];simp[Bv];grind
  ·have e:=aK List.length (Me x.1 x.2 (kE ad));rw[aH] at e;rw[e];split
   ·grind
   grind
  have hM:M≤(N+1)*M:=by rw[iV];omega
  rcases qOr y hy with⟨e1,e2|⟨v,hv,e2⟩⟩|hy
  ·rw[e1,e2];exact⟨g1,g2,g3.le hM⟩
  ·have⟨_,k2,k3⟩:=h5 _ hv;rw[e1,e2];refine⟨g1,O6,?_⟩;have⟨a,a1,a2⟩:=k3;have⟨b,b1,b2⟩:=g3;refine⟨a+b,?_,?_⟩
   ·grind
   rw[iV];omega
  have⟨k1,k2,k3⟩:=h5 y hy;exact⟨k1,k2,k3.le (aL _ O1)⟩
theorem ZW(h:∀i∈P,cl i<nc):((P.length:Nat):Rat)=wr nc (fun c=>(jX cl P c:Rat)*1):=by
 rw[←L5 cl _ nc h];clear h;induction P with
 |nil=>rfl
 |cons i P ih=>
  simp only[ps,cF];grind
theorem qMk(h:∀i∈P,cl i<nc)(f:Nat→Bool):((P.countP (fun i=>f (cl i)):Nat):Rat)=wr nc (fun c=>(jX cl P c:Rat)*(if f c then 1 else 0)):=by
 rw[←L5 cl _ nc h];clear h;induction P with
 |nil=>rfl
 |cons i P ih=>
  simp only[ps,lS];rw[sU,ih];cases f _
  ·grind
  grind
variable{D size:Nat}{G:List Nat→Prop}{adds:List (List Nat×Rat)}{inn:Nat→Nat→Bool}
theorem qPd{cl}(g c):∀n,(range n).countP (fun i=>decide (cl i=c)&&g (qi cl i (cl i)))=(range (qi cl n c)).countP g
 |0=>rfl
 |n+1=>by
  rw[eX,iM,qPd];show _=(range (qi cl n c+if cl n=c then 1 else 0)).countP g
  by_cases h:cl n=c
  ·subst h;rw[if_pos O,eX,iM];simp
  grind
theorem qOn{S κ cut}(hS:∀c,c<nc→S c=qi cl n c)(hc:c<nc)(zj:0<S c)(ha:S c≤5)(hκ:κ c≤S c)(hf:C4 cut)(hg:oz cut<60):
  jX cl (BS cl (fun i=>qi cl i (cl i)) S κ cut n) c=κ c:=by
 unfold jX BS;rw[List.countP_filter];have hm:=jKd zj ha hκ hg;rw[hS c hc] at hm;rw[←hm,←qPd];refine lW fun i hi=>?_
 have hi:=aR.1 hi;by_cases h:cl i=c
 ·subst h;have hp:=by
   have:∀m,i<m→qi cl i (cl i)<qi cl m (cl i):=fun m=>by
    induction m with
    |zero=>omega
    |succ m ih=>
     intro h;show _<qi cl m _+_
     grind
   exact this n hi
  have:=ZX hf.b0 hf.b5 hf.t zj ha hκ (by rw[hS _ hc];exact hp);unfold IP oz;grind
 simp[h]
theorem OA{plc S κ cut}:(BS cl plc S κ cut n).Pairwise (·<·)∧∀i∈BS cl plc S κ cut n,i<n:=
 ⟨List.Pairwise.filter _ nK,fun _ hi=>aR.1 (iG.1 hi).1⟩
theorem PF.kind{q P'}(hP:PF n q inn size P)(hs:P'.Pairwise (·<·))(hl:∀i∈P',i<n)(ha:∀i,i<n→cl i<nc)(hk:∀c,c<nc→jX cl P' c=jX cl P c)
  (bR:∀i j,i<n→j<n→cl i=cl j→∀k,k<q.length→inn i k=inn j k):PF n q inn size P':=by
 have h1:=fun i hi=>ha i (hP.lt i hi)
 have h2:=fun i hi=>ha i (hl i hi)
 have hg:=by
  have e1:=ZW h1;have e2:=ZW h2;rw[wx (g:=fun c=>(jX cl P c:Rat)*1) (fun c hc=>O6),←e1] at e2;exact Rat.natCast_inj.1 e2
 refine⟨hs,hl,hg.trans hP.len,fun k lh hS=>?_⟩;have hm:=(aI.1 hS).1;have hh:∀Q:List _,(∀i∈Q,i<n)→∃f:Nat→Bool,(∀i,i<n→inn i k=f (cl i)):=fun _ _=>by
  refine⟨fun c=>open Classical in decide (∃i,i<n∧cl i=c∧inn i k=true),fun i hi=>?_⟩;rw[iA];grind
 have⟨f,hf⟩:=hh P hP.lt;have e:∀Q:List _,(∀i∈Q,i<n)→Q.countP (fun i=>inn i k)=_:=fun Q hQ=>lW fun i hi=>by rw[hf i (hQ i hi)]
 have hj:P'.countP (fun i=>inn i k)=P.countP (fun i=>inn i k):=by
  rw[e P' hl,e P hP.lt];have e1:=qMk h1 f;have e2:=qMk h2 f;rw[wx (g:=fun c=>(jX cl P c:Rat)*(if f c then 1 else 0)) (fun c hc=>O6),←e1] at e2;exact Rat.natCast_inj.1 e2
 rw[hj];exact hP.quo k lh hS
structure Fe(n:Nat)(cl:Nat→Nat)(G:List Nat→Prop)(s:Sr)(w:Nat→Rat)(D M k:Nat)(adds:List (List Nat×Rat)):Prop where
 all:∀x∈adds,G x.1∧0<x.2∧Ov (60*D) (60*M) x.2
 sum:Bv adds=wr k w
 ch:∀i,i<n→jE adds i*(s.S (cl i):Rat)=wr k (fun j=>w j*(s.κ j (cl i):Rat))
 len:adds.length≤6*k
theorem Tw(pan w):∀cs:List (Nat×Nat),(wI pan w cs).length=cs.length-1
 |[]=>rfl
 |[_]=>rfl
 |f::g::cs=>by
  simp only[wI,cF];rw[Tw];simp
theorem qNf(pan w):∀(cs:List (Nat×Nat)) (j:Nat) (f g:Nat×Nat),cs[j]? =some f→cs[j+1]? =some g→(wI pan w cs)[j]? =some (pan f,w*(A8 g-A8 f))
 |[],j,f,g,h,_=>O6
 |[x],j,f,g,_,h=>O6
 |x::y::cs,0,f,g,h1,h2=>by
  obtain rfl:x=f:=O6
  obtain rfl:y=g:=O6
  rfl
 |x::y::cs,j+1,f,g,h1,h2=>by
  exact qNf _ w _ j f g O6 O6
theorem qNg(pan:Nat×Nat→List Nat)(w:Rat)(Q:List Nat×Rat→Prop):∀(cs:List (Nat×Nat)),cs.Pairwise (fun f g=>oz f<oz g)→(∀f g,f∈cs→g∈cs→oz f<oz g→Q (pan f,w*(A8 g-A8 f)))→∀x∈wI pan w cs,Q x
 |[],_,_,x,hx=>by cases hx
 |[_],_,_,x,hx=>by cases hx
 |f::g::cs,hs,h,x,hx=>by
  have⟨h1,h2⟩:=bQ.1 hs;rcases aP.1 hx with rfl|hx
  ·grind
  exact qNg _ w Q _ h2 (fun a b ha hb bE=>h a b (by simp[ha]) (by simp[hb]) bE) x hx
section
variable{s0:Sr}{lv:List (Rat×(Nat→Rat))}{w:Nat→Rat}{M:Nat}
theorem Fe.skip(h:Fe n cl G s w D M k adds)(hw:w k=0):Fe n cl G s w D M (k+1) adds:=by
 refine⟨h.all,?_,fun i hi=>?_,by have:=h.len;omega⟩
 ·show _=wr k w+w k
  rw[h.sum,hw];grind
 show _=wr k _+w k*_
 rw[h.ch i hi,hw];grind
theorem Fe.next(hI:Inv n cl G s0 s lv)(h:Fe n cl G s w D M k adds)(hk:k<s.K)(hw:0<w k)(ht:Ov D M (w k)){cs}(hc:FY s (s.κ k) cs)
  (hG:∀P P',G P→P'.Pairwise (·<·)→(∀i∈P',i<n)→(∀c,c<s.nc→jX cl P' c=jX cl P c)→G P'):
  Fe n cl G s w D M (k+1) (adds++wI (fun f=>BS cl (fun i=>qi cl i (cl i)) s.S (s.κ k) f n) (w k) cs):=by
 have⟨f0,h8,e0⟩:=hc.zero;have⟨f1,hE,e1⟩:=hc.one;have⟨P0,fg,hy⟩:=hI.kF k hk;have h6:∀f∈cs,oz f≤60:=fun f hf=>by
  have xu:=hc.fr f hf;have:=xu.t;unfold oz;rcases xu.cases with e|e|e|e|e<;>rw[e]<;>omega
 have xr:cs≠[]:=by rintro rfl;cases h8
 obtain⟨x0,c8,rfl⟩:=List.exists_cons_of_ne_nil xr;have⟨hh,h4⟩:=bQ.1 hc.srt;have hz:oz x0=0:=by
  rcases aP.1 h8 with rfl|h
  ·exact e0
  have:=hh f0 h;omega
 obtain⟨xl,zz⟩:∃xl,(x0::c8).getLast? =some xl:=⟨_,List.getLast?_eq_some_getLast xr⟩;have h7:oz xl=60:=by
  have tz:∀(l:List (Nat×Nat)) (y:Nat×Nat),l.Pairwise (fun f g=>oz f<oz g)→l.getLast? =some y→∀f∈l,oz f≤oz y:=by
   intro l;induction l with
   |nil=>simp
   |cons a l ih=>
    intro y hs hl f hf;have⟨g1,g2⟩:=bQ.1 hs;grind
  have h1:=tz _ xl hc.srt zz f1 hE;have h2:=h6 xl (sH zz);omega
 have hJ:=hc.fr x0 O4;have hD:=hc.fr xl (sH zz);have hF:A8 xl-A8 x0=1:=by
  rw[IY hD,IY hJ,h7,hz];have:((0:Nat):Rat)=0:=O;have:((60:Nat):Rat)=60:=O;grind
 have xx:∀f g,f∈x0::c8→g∈x0::c8→oz f<oz g→0<A8 g-A8 f∧∃d:Nat,d≤60∧A8 g-A8 f=(d:Rat)/60:=fun f g hf hg ha=>by
  rw[IY (hc.fr f hf),IY (hc.fr g hg)];obtain⟨d,hd⟩:∃d,oz g=oz f+(d+1):=⟨oz g-oz f-1,O1⟩;have hK:=h6 g hg;have e:(oz g:Rat)/60-(oz f)/60=(d+1:Nat)/60:=by
   rw[hd,sU];grind
  rw[e];refine⟨?_,_,O1,O⟩;grind
 have h9:∀f,f∈_→_<60→G (BS cl _ _ _ f n):=fun f hf hn=>by
  refine hG P0 _ fg OA.1 OA.2 fun c hj=>?_
  rw[qOn hI.cls.S hj (hI.pos c hj) (hI.S5 hj) (hI.κS hk hj) (hc.fr f hf) hn,hy c hj]
 refine⟨fun x hx=>?_,?_,fun i hi=>?_,?_⟩
 ·rcases fK.1 hx with hx|hx
  ·exact h.all x hx
  refine qNg _ _ (fun x=>G _∧0<x.2∧Ov _ _ _) _ hc.srt (fun f g hf hg ha=>?_) x hx;have⟨h1,d,hd,e⟩:=xx f g hf hg ha;refine⟨h9 f hf O6,pR hw h1,?_⟩;have⟨z,z1,z2⟩:=ht;refine⟨z*d,?_,?_⟩
  ·rw[e,nS,←z1,lJ,gI];grind
  rw[oH,lR,dC];exact dE hd z2
 ·rw[qEw,qK8 _ _ _ _ _ zz,hF,h.sum];show _=wr k w+w k
  grind
 ·rw[TU];show _=wr k _+w k*_
  have yl:=hI.cls.lt i hi;have zj:=hI.pos _ yl;have hm:=hI.S5 yl;have hq:=hI.κS hk yl;have hp:qi cl i (cl i)<s.S (cl i):=by
   rw[hI.cls.S _ yl];have:∀m,i<m→qi cl i (cl i)<qi cl m (cl i):=fun m=>by
    induction m with
    |zero=>omega
    |succ m ih=>
     intro h;show _<qi cl m _+_
     grind
   exact this n hi
  have nh:=qH8 (fun f=>BS cl (fun i=>qi cl i (cl i)) s.S (s.κ k) f n) (w k) i (fun N=>Ed (s.S (cl i)) (s.κ k (cl i)) (qi cl i (cl i)) N) c8 x0 hc.fr hc.srt (fun g hg=>by
   have xu:=hc.fr g hg;have e:=ZX xu.b0 xu.b5 xu.t zj hm hq hp;simp[BS,iG,aR];unfold IP oz;grind)
  have h5:((x0::c8).map oz).Pairwise (·<·):=by
   rw[pW];exact hc.srt
  have tz:((x0::c8).map oz).getLast? =some 60:=by
   rw[List.getLast?_map,zz];exact aK some h7
  have hH:=QM (S:=s.S (cl i)) (q:=s.κ k (cl i)) (p:=qi cl i (cl i)) zj hm hq hp (cs:=c8.map oz) O6 O6 (fun h1 h2 a h3 oy=>by
   have⟨f,hf,e⟩:=hc.has _ yl h1 h2 a h3 oy;grind)
  rw[nh,←h.ch i hi];have e2:(GR (fun N=>Ed (s.S (cl i)) (s.κ k (cl i)) (qi cl i (cl i)) N) (0::c8.map oz):Nat)*(s.S (cl i))=60*(s.κ k (cl i):Rat):=by
   rw[←lJ,hH,lJ];rfl
  grind
 rw[aY,Tw];have h1:=h.len;have h2:=hc.len;omega
end
variable{X:Nat→Rat}{m:List (List Nat×Rat)}{β:Type}
def AM{α:Type}[DecidableEq α](a:α):List α→Nat
 |[]=>0
 |x::l=>if x=a then 0 else AM a l+1
section
variable[DecidableEq α][DecidableEq β]
theorem Yj{a:α}:∀{l:List α},a∈l→AM a l<l.length∧l[AM a l]? =some a
 |[],h=>by cases h
 |x::l,h=>by
  unfold AM;by_cases e:x=a
  ·grind
  have h':=(aP.1 h).resolve_left fun e'=>e e'.symm
  have⟨h1,h2⟩:=Yj h';grind
theorem N2{a:α}:∀{l:List α},a∉l→AM a l=l.length
 |[],_=>rfl
 |x::l,h=>by
  unfold AM;rw[if_neg (fun e=>h O6),N2 (fun hm=>h (by simp[hm]))];rfl
theorem Yi{a:α}:∀{l l':List α},a∈l→AM a (l++l')=AM a l
 |[],_,h=>by cases h
 |x::l,l',h=>by
  show(if x=a then 0 else AM a (l++l')+1)=(if x=a then 0 else AM a l+1)
  by_cases e:x=a
  ·grind
  rw[if_neg e,if_neg e,Yi ((aP.1 h).resolve_left fun e'=>e e'.symm)]
theorem R2{f:α→β}{a:α}:∀{l:List α},(∀x∈l,f x=f a→x=a)→AM (f a) (l.map f)=AM a l
 |[],_=>rfl
 |x::l,h=>by
  show(if f x=f a then 0 else AM _ _+1)=(if x=a then 0 else AM a l+1)
  by_cases e:x=a
  ·grind
  rw[if_neg e,if_neg (fun e'=>e (h x O4 e')),R2 (fun y hy=>h y (by simp[hy]))]
end
def Ei(P:List Nat):ByteArray:=kN (P.map fun x:Nat=>(x:Int))
theorem Ym{Q}(hP:∀i∈P,i<256)(hQ:∀i∈Q,i<256)(h:Ei P=Ei Q):P=Q:=by
 have e:∀P,(Ei P).data.toList=P.map fun i=>UInt8.ofNat i:=fun P=>by
  unfold Ei;rw[qFq,iU];simp
 have h1:=e P;rw[h,e] at h1;apply dI;intro j;have h2:=aK (fun l=>l[j]?) h1;simp[bH] at h2;cases hp:P[j]? with
 |none=>
  grind
 |some a=>
  rw[hp] at h2;cases hq:Q[j]? with
  |none=>grind
  |some b=>
   rw[hq] at h2;have h3:=by simpa using h2
   have h4:=aK UInt8.toNat h3;have ha:=hP a (aG hp);have hb:=hQ b (aG hq);rw[nO,nO] at h4;grind
def Ie{κ:Type}[DecidableEq κ](ks:List κ)(k:κ):Option Value:=if k∈ks then some (Iv (AM k ks:Nat)) else none
section
variable{κ:Type}[DecidableEq κ]{ks:List κ}{a:κ}
theorem jK7(h:a∈ks):Ie ks a=some (Iv (AM a ks:Nat)):=if_pos h
theorem jEm(h:a∉ks):Ie ks a=none:=if_neg h
theorem jK8(hn:a∉ks):(fun k=>if k=a then some (Iv (ks.length:Nat)) else Ie ks k)=Ie (ks++[a]):=by
 funext k;unfold Ie;by_cases hk:k=a
 ·have e:∀l,k∉l→AM k (l++[k])=l.length:=fun l=>by
   induction l with
   |nil=>intro _;show(if k=k then 0 else _)=0;simp
   |cons x l ih=>
    intro hx;show(if x=k then 0 else AM k (l++[k])+1)=_
    grind
  grind
 rw[if_neg hk];by_cases zw:k∈ks
 ·rw[if_pos zw,if_pos O6,Yi zw]
 grind
end
def CY(pk:List (List Nat)):ByteArray→Option Value:=Ie (pk.map Ei)
theorem jKb{pk}(h:∀Q∈P::pk,∀i∈Q,i<256):CY pk (Ei P)=if P∈pk then some (Iv (AM P pk:Nat)) else none:=by
 have bR:∀Q∈pk,_=_→Q=P:=fun Q hQ e=>Ym (h Q (by simp[hQ])) (h P O4) e
 unfold CY;by_cases hm:P∈pk
 ·rw[if_pos hm,jK7 (bM.2 ⟨P,hm,O⟩),R2 bR]
 rw[if_neg hm,jEm (fun hk=>by
  grind)]
theorem jK9{pk}(h:∀Q∈P::pk,∀i∈Q,i<256)(hm:P∉pk):(fun k=>if k=Ei P then some (Iv (pk.length:Nat)) else CY pk k)=CY (pk++[P]):=by
 have bR:∀Q∈pk,_=_→Q=P:=fun Q hQ e=>Ym (h Q (by simp[hQ])) (h P O4) e
 have hn:Ei P∉pk.map _:=fun hk=>by
  obtain⟨Q,hQ,e⟩:=bM.1 hk;exact hm (bR Q hQ e▸hQ)
 unfold CY;rw[dR,fG,Nu,←jK8 hn,aH]
def Ca(m:List (List Nat×Rat))(P:List Nat):List Rat:=if P∈m.map (·.1) then m.map (·.2) else m.map (·.2)++[0]
theorem jIl(m P w):(Ca m P).length=(vW m P w).length∧AM P (m.map (·.1))<(Ca m P).length:=by
 have e:=aK List.length (Me P w m);rw[aH] at e;unfold Ca;by_cases h:P∈m.map (·.1)
 ·have:=(Yj h).1;grind
 rw[if_neg h,aY,aH,N2 h,aH];grind
theorem Zr(P w):∀m:List (List Nat×Rat),(Ca m P).set (AM P (m.map (·.1))) ((Ca m P).getD (AM P (m.map (·.1))) 0+w)=(vW m P w).map (·.2)
 |[]=>by
  show[0+w]=[w]
  grind
 |(Q,v)::m=>by
  by_cases hQ:Q=P
  ·subst hQ;have e:Ca ((Q,v)::m) Q=v::_:=if_pos O4;rw[e];show List.set _ (if Q=Q then 0 else _) (List.getD _ (if Q=Q then 0 else _) 0+w)=List.map _ (if Q=Q then(Q,v+w)::m else _)
   simp
  have e:Ca ((Q,v)::m) P=v::Ca m P:=by
   unfold Ca;by_cases h:P∈m.map (·.1)
   ·grind
   rw[if_neg h,if_neg (by
    grind)]
   rfl
  have ih:=Zr P w m;show List.set _ (if Q=P then 0 else AM P _+1) (List.getD _ (if Q=P then 0 else AM P _+1) 0+w)=List.map _ (if Q=P then _ else(Q,v)::vW m P w)
  grind
theorem jIk:(Ca m P).getD j 0=0∨∃x∈m,x.2=(Ca m P).getD j 0:=by
 have hg:∀l:List Rat,l.getD j 0=0∨l.getD j 0∈l:=fun l=>by
  grind
 rcases hg (Ca m P) with h|h
 ·grind
 generalize (Ca m P).getD j 0=y at h⊢;unfold Ca at h;grind
def A7(X:Nat→Rat)(K k:Nat):Rat:=if k=0 then X 1+(1-wr K fun k=>X (k+1)) else X (k+1)
theorem jIo{K}(hK:1≤K):wr K (A7 X K)=1:=by
 obtain⟨n,rfl⟩:∃n,K=n+1:=⟨K-1,O1⟩;rw[Kt];have e:=Kt (fun k=>X (k+1)) n;have e2:wr n (fun k=>A7 X (n+1) (k+1))=_:=wx fun k _=>if_neg O1
 have e3:A7 X (n+1) 0=_:=if_pos O;grind
theorem jC4{v:Rat}(h:s.W v fun k=>X (k+1))(k:Nat):X (k+1)≤A7 X s.K k:=by
 have:=h.one;unfold A7;grind
theorem LD{M N a b}(ha:Ov D M a)(hb:Ov D N b):Ov D (M+N) (a+b):=by
 have⟨x,h1,h2⟩:=ha;have⟨y,h3,h4⟩:=hb;refine⟨x+y,?_,O1⟩;grind
theorem NE{D M f}:∀n,(∀i,i<n→Ov D M (f i))→Ov D (n*M) (wr n f)
 |0,_=>LR
 |n+1,h=>by
  have:=LD (NE n fun i hi=>h i O1) (h n O1);rw[iV];exact this
theorem jNi{K M}(hg:D≤M)(hK:K≤32)(h:∀j,j<K+1→Ov D M (X j)){k}(hk:k<K):Ov D (34*M) (A7 X K k):=by
 have hm:K*M≤_:=aL _ hK;unfold A7;split
 ·have h1:=NE K fun i hi=>h (i+1) O1
  have h2:Ov D M 1:=J2 O1;have h3:=LD (h 1 O1) (LD h2 (LF h1));rw[←nR] at h3;exact h3.le O1
 exact(h _ O1).le O1
theorem jUu{v:Rat}(h:s.W v fun k=>X (k+1)){c:Nat}(hc:c<s.nc)(hd:s.dec c=true):(s.S c:Rat)*s.p c≤wr s.K (fun k=>A7 X s.K k*(s.κ k c:Rat)):=by
 have h1:=h.ge c hc;rw[hd,if_pos O] at h1;exact rC h1 (HM fun k hk=>Rat.mul_le_mul_of_nonneg_right (jC4 h k) O6)
end
variable{D j n:Nat}{G:List Nat→Prop}{P:List Nat}{cl:Nat→Nat}{s:Sr}
section
structure MA where
 gp:Nat→Option Addr×Nat
 sP:Option Addr
 cP:Nat
 sV:Option Addr
 cV:Nat
def CW(gp:Nat→Option Addr×Nat)(pk:List (List Nat)):List (Option Addr×Nat×Nat):=lm pk.length fun j=>((gp j).1,(pk.getD j []).length,(gp j).2)
def wR(gp:Nat→Option Addr×Nat)(pk:List (List Nat))(j:Nat):kr:=qG eN 3 1 (gp j).1 (gp j).2 (pk.getD j [])
def ES(ma:MA)(m:List (List Nat×Rat)):List kr:=[qG jO 22 1 ma.sP ma.cP (CW ma.gp (m.map (·.1))),qG eQ 49 3 ma.sV ma.cV (m.map (·.2))]++lm (m.map (·.1)).length (wR ma.gp (m.map (·.1)))
structure EI(ma:MA)(m:List (List Nat×Rat)):Prop where
 P:kg ma.sP ma.cP (CW ma.gp (m.map (·.1)))
 V:kg ma.sV ma.cV (m.map (·.2))
 p:∀j,j<(m.map (·.1)).length→kg (ma.gp j).1 (ma.gp j).2 ((m.map (·.1)).getD j [])
def DR(ma:MA)(n:Nat)(sL:Option Addr)(nl cL:Nat):List Value:=[.slice ma.sP n ma.cP,.slice ma.sV n ma.cV,.slice sL nl cL]
def GI(sL:Option Addr)(cL nl b4 mp:Nat)(ma:MA)(m:List (List Nat×Rat)):List kr:=[bu b4 3 (qE (DR ma m.length sL nl cL)) 45,yA nk mp (CY (m.map (·.1)))]++ES ma m
def stM(sL:Option Addr)(cL nl b4 mp:Nat)(ma:MA)(pk:List (List Nat))(wt:List Rat):List kr:=[bu b4 3 (qE (DR ma pk.length sL nl cL)) 45,yA nk mp (CY pk),qG jO 22 1 ma.sP ma.cP (CW ma.gp pk),qG eQ 49 3 ma.sV ma.cV wt]++lm pk.length (wR ma.gp pk)
theorem jCu(sL cL nl b4 mp ma m):GI sL cL nl b4 mp ma m=stM sL cL nl b4 mp ma (m.map (·.1)) (m.map (·.2)):=by
 unfold GI stM ES;simp
def Fu(gp:Nat→Option Addr×Nat)(n:Nat)(s:Option Addr)(c:Nat):Nat→Option Addr×Nat:=fun q=>if q=n then(s,c) else gp q
theorem qCe{pk:List (List Nat)}(h:j<pk.length):(pk++[P]).getD j []=pk.getD j []:=by
 grind
theorem qMo{pk:List (List Nat)}:(pk++[P]).getD pk.length []=P:=by
 simp
theorem qTd(gp:Nat→Option Addr×Nat)(pk:List (List Nat))(P:List Nat)(s:Option Addr)(c:Nat):CW (Fu gp pk.length s c) (pk++[P])=CW gp pk++[(s,P.length,c)]:=by
 unfold CW;rw[aY];show lm (pk.length+1) _=_
 rw[kh];have e:Fu gp _ s c pk.length=_:=if_pos O;rw[e,qMo];congr 1;refine jH fun j hj=>?_
 have e2:Fu gp pk.length s c j=_:=if_neg O1;grind
theorem jAp(gp pk P s c):lm (pk++[P]).length (wR (Fu gp pk.length s c) (pk++[P]))=lm pk.length (wR gp pk)++[qG eN 3 1 s c P]:=by
 rw[aY];show lm (pk.length+1) _=_
 rw[kh];have e:Fu gp _ s c pk.length=_:=if_pos O;congr 1
 ·refine jH fun j hj=>?_
  have e2:Fu gp pk.length s c j=_:=if_neg O1;unfold wR;grind
 unfold wR;grind
theorem Sv{gp pk}:(CW gp pk).length=pk.length:=qT
theorem jKa:CY []=fun _=>none:=by
 funext k;exact jEm O4
theorem qL9{f g}:∀{n},(∀i,i<n→f i=g i)→Ct n f=Ct n g
 |0,_=>rfl
 |n+1,h=>by
  show Ct n f+f n=Ct n g+g n
  rw[qL9 fun i hi=>h i O1,h n O1]
theorem Fe.zero{w M}:Fe n cl G s w D M 0 []:=
 ⟨fun x hx=>absurd hx O4,O,fun i _=>by
  show 0*_=0
  grind,aS _⟩
attribute [local irreducible] PV gx kq kn WP km
attribute [local irreducible] Fit
theorem zBo(a:Cp)(c:Eu)(G:List Nat→Prop)(wz s:Sr)(lv:List (Rat×(Nat→Rat)))(gW cW:Nat)(X:Nat→Rat)(v0:Rat)(M:List Nat)(W:World)(ok:Bm a c s (ou c.cl lv))(hp:Hp W M W ([qG eQ 49 3 (Ad gW) cW (lm (s.K+1) X)]++qc a c s (ou c.cl lv)))
  (xw:kg (Ad gW) cW (lm (s.K+1) X)) (x4:a.sW=some ⟨gW,0+1*3,none⟩) (x6:a.nW=s.K) (hI:Inv c.n c.cl G wz s lv) (hW:s.W v0 fun k=>X (k+1)) (hX:Io 5712200000 (s.K+1) X) (zb:∀i,c.plc i=qi c.cl i (c.cl i))
  (hG:∀P P',G P→P'.Pairwise (·<·)→(∀i∈P',i<c.n)→(∀q,q<s.nc→jX c.cl P' q=jX c.cl P q)→G P'):
  Rt 100 [.pointer (some ⟨a.fb,0,none⟩)] W (fun v w'=>∃(ma:MA) (adds:List (List Nat×Rat)) (D Mo ck:Nat) (Z:List Rat),v= .agg (DR ma (kE adds).length a.sL lv.length a.cL).toArray∧0<D∧D≤Mo∧Mo<2^5712200000∧Fe c.n c.cl G s (A7 X s.K) D (34*Mo) s.K adds∧EI ma (kE adds)∧
   Hp W M w' (ES ma (kE adds)++([qG eQ 49 3 (Ad gW) ck Z]++qc a c s (ou c.cl lv)))):=by
 have⟨D,Mo,hL,hz,hMo,xv⟩:=hX;obtain⟨κ,hκ⟩:∃κ,κ=5712200000:=⟨_,O⟩;rw[←hκ] at hMo⊢;have hE:=hI.K32;have q2:=hI.K1;have xd:∀j,j<s.K+1→BQ κ (X j):=fun j hj=>wQ hL hz hMo (xv j hj)
 have BQone:BQ 1 (1:Rat):=⟨O2,O2⟩;have zk:∀k,k<s.K→Ov D (34*Mo) (A7 X s.K k):=fun k hk=>jNi hz hE xv hk
 have yp:34*Mo<2^(κ+6):=by rw[eK];omega
 have xh:∀k,k<s.K→BQ (κ+6) (A7 X s.K k):=fun k hk=>wQ hL O1 yp (zk k hk)
 have sy:Ov D (34*Mo) (wr s.K fun k=>X (k+1)):=(NE s.K (f:=fun k=>X (k+1)) fun i hi=>xv (i+1) O1).le (aL _ O1);have yf:BQ (κ+6) (wr s.K fun k=>X (k+1)):=wQ hL O1 yp sy;have x3:Ov D (34*Mo) (1-wr s.K fun k=>X (k+1)):=by
  have h1:=NE s.K (f:=fun k=>X (k+1)) fun i hi=>xv (i+1) O1
  have h2:Ov D Mo 1:=J2 hz;have h3:=LD h2 (LF h1);rw[←nR] at h3
  exact h3.le (by
   have:s.K*Mo≤32*Mo:=aL _ hE
   omega)
 have yx:BQ (κ+6) (1-wr s.K fun k=>X (k+1)):=wQ hL O1 yp x3;have oS:=hp;have hR:=BE.of (Y:=[]) (by rw[bO];exact hp.E) ok;have h20:=hR.h20;rw[x4,x6] at h20;have xo:ig W 3 eQ (some ⟨gW,0+1*3,none⟩) (lm s.K fun k=>X (k+1)):=by
  have h:=qZ hp 0 O xw jT;intro k x hx
  have⟨b,o,e,hc⟩:=h (k+1) x (by
   have hk:k<s.K:=by
    have:=(aI.1 hx).1;rwa[qT] at this
   rw[yI hk] at hx;rw[yI O1]
   exact hx)
  exact mCp
 have yt:∀w,ax [] W w→Rk 46 [.slice (some ⟨gW,0+1*3,none⟩) s.K a.cW] w (QV (wr s.K fun k=>X (k+1))):=fun w hk=>RE s.K (fun k=>X (k+1)) _ a.cW κ w (xo.i7 hk) (fun i hi=>xd (i+1) O1) O1 (by
  have:(s.K+1)*(κ+1)≤33*(κ+1):=aL _ O1
  omega)
 refine tW func100 ntmps100 fun hp=>?_;refine qR ?_;refine tQ fun w1 b2 hp=>?_;refine qR ?_;refine uD ([3]++range' 18 7) (fun(b3:Nat) F=>F.put 3 (.pointer (Ad b3))) (fun b3 w'=>Hp W [] w' [bu b3 3 (qE (eQ (1-wr s.K fun k=>X (k+1)))) 49,bu b2 3 (qE [Zs,Zs,Zs]) 45]) ?_ ?_
 ·refine HU true [0,1,2,3,4,5,6,7,8] jG O3 O (fun w'=>Hp W [] w' [bu b2 3 (qE [Zs,Zs,Zs]) 45]) hp.U ?_;have hp:=hp.U;refine zP ?_;refine BP 7 O O3 O O ?_ ?_
  ·skip
   refine tK (GK 1 _ O2 O2) ?_;rintro _ w3 ⟨rfl,hk⟩;have hp:=hp.V hk;refine⟨hp,?_⟩;refine KU ?_;refine BP 7 O O3 O O ?_ ?_
   ·skip
    refine tK (yt _ hp.Z) ?_;rintro _ w4 ⟨rfl,hk⟩;have hp:=hp.V hk;refine⟨hp,?_⟩;refine zP ?_;refine BP 7 O O3 O O ?_ ?_
    ·skip
     refine tK (HJ _ BQone yf O1) ?_;rintro _ w5 ⟨rfl,hk⟩;have hp:=hp.V hk;refine⟨hp,?_⟩;refine KU ?_;refine xO O O3 ?_ O;apply Au;rfl;exact jK hp (qJ O);rintro _ w8 ⟨b3,rfl,hp⟩;refine⟨hp.E,?_⟩;refine zP ?_;refine xO O O3 ?_ O;apply FH;rfl;exact qW hp 0 O O O O (qD O) O;rintro _ w9 ⟨rfl,hp⟩;refine⟨hp.E,?_⟩;have hp:=hp.I 0 (eQ (1-wr s.K fun k=>X (k+1))) O O;refine Qq ?_;exact⟨b3,qB O5 O,hp⟩
    skip
    apply Au;rfl;exact jK hp (qJ O);rintro _ w8 ⟨b3,rfl,hp⟩;refine⟨hp.E,?_⟩;exact mA5
   skip
   apply Au;rfl;exact jK hp (qJ O);rintro _ w8 ⟨b3,rfl,hp⟩;refine⟨hp.E,?_⟩;exact mBt
  skip
  apply Au;rfl;exact jK hp (qJ O);rintro _ w8 ⟨b3,rfl,hp⟩;refine⟨hp.E,?_⟩;refine xO O O3 ?_ O;refine tK (GK 1 _ O2 O2) ?_;rintro _ w3 ⟨rfl,hk⟩;have hp:=hp.V hk;refine⟨hp.E,?_⟩;refine KU ?_;exact mBt
 clear hp;rintro u b3 w2 hp;have hp:=oS.C hp;have hp:Hp W M w2 ([bu b3 3 (qE (eQ (1-wr s.K fun k=>X (k+1)))) 49,bu b2 3 (qE [Zs,Zs,Zs]) 45,qG eQ 49 3 (Ad gW) cW (lm (s.K+1) X)]++qc a c s (ou c.cl lv)):=hp;have f20:∀{w:World},Hp W M w ([bu b3 3 (qE (eQ (1-wr s.K fun k=>X (k+1)))) 49,bu b2 3 (qE [Zs,Zs,Zs]) 45,qG eQ 49 3 (Ad gW) cW (lm (s.K+1) X)]++qc a c s (ou c.cl lv))→w.cell? ⟨a.fb,0+20,none⟩=some (.slice (some ⟨gW,0+1*3,none⟩) s.K a.cW):=fun hp=>by
  exact mDj
 have fc:∀{w:World} {r:Rat} {X:Nat→Rat},Hp W M w ([bu b3 3 (qE (eQ r)) 49,bu b2 3 (qE [Zs,Zs,Zs]) 45,qG eQ 49 3 (Ad gW) cW (lm (s.K+1) X)]++qc a c s (ou c.cl lv))→w.cell? ⟨a.fb,0+20,none⟩=some (.slice (some ⟨gW,0+1*3,none⟩) s.K a.cW):=fun hp=>by
  exact mDj
 have yv:0<s.K:=q2;refine qR ?_;refine jU jG O3 (fun w'=>Hp W M w' ([bu b3 3 (qE (eQ (1-wr s.K fun k=>X (k+1)))) 49,bu b2 3 (qE [Zs,Zs,Zs]) 45,qG eQ 49 3 (Ad gW) cW (lm (s.K+1) X)]++qc a c s (ou c.cl lv))) hp.U ?_;have hp:=hp.U;apply kp;rfl;intro w hp;intros;(first|apply qP|apply kA|apply xF)<;>(first|exact O);(intros;first|exact fP O|exact fU O);apply kp;rfl;intro w hp;intros;(first|apply qP|apply kA|apply xF)<;>(first|exact O);(intros;first|exact fP O|exact fU O);apply kp;rfl;intro w hp;intros;(first|apply qP|apply kA|apply xF)<;>(first|exact O);(intros;first|exact fP O|exact fU O);refine kp O (fun w hp=>qS O O (f20 hp)) (O:_=Value.slice (some ⟨gW,0+1*3,none⟩) s.K a.cW) ?_;apply kp;rfl;intro w hp;intros;(first|apply qP|apply kA|apply xF)<;>(first|exact O);(intros;first|exact fP O|exact fU O);apply kp;rfl;intro w hp;intros;(first|apply qP|apply kA|apply xF)<;>(first|exact O);(intros;first|exact fP O|exact fU O);apply kp;rfl;intro w hp;intros;(first|apply qP|apply kA|apply xF)<;>(first|exact O);(intros;first|exact fP O|exact fU O);refine kp O (fun w hp=>qS O O (f20 hp)) (O:_=Value.slice (some ⟨gW,0+1*3,none⟩) s.K a.cW) ?_;refine kp O (fun w hp=>zA O O O O yv) (O:_=Value.pointer (some ⟨gW,0+1*3+0*3,none⟩)) ?_;refine tP (fun w hp=>qL (vs:=eQ (X 1)) O O O O (zM (qZ hp 2 O xw jT) (show 1<s.K+1 by omega))) ?_;refine tP (fun w hp=>qL (vs:=eQ (1-wr s.K fun k=>X (k+1))) O O O O (hp.i6 0 O O)) ?_;refine tG (Gb _ (xd 1 O1) yx O1) fun w3 hp=>?_;refine kp O (fun w hp=>zA O O O O yv) (O:_=Value.pointer (some ⟨gW,0+1*3+0*3,none⟩)) ?_;apply xH;rfl;rfl;exact vL eQ (lm (s.K+1) X) 1 (X 1+(1-wr s.K fun k=>X (k+1))) hp 2 O xw (by rw[qT];omega) O O jT O O (qD O);rintro _ w4 ⟨rfl,hp⟩;refine qU ?_;have hT:(lm (s.K+1) X).set 1 (X 1+(1-wr s.K fun k=>X (k+1)))=lm (s.K+1) (fun j=>if j=0 then X 0 else A7 X s.K (j-1)):=by
  rw[vF];refine jH fun j _=>?_
  unfold A7;by_cases hj:j=1
  ·subst hj;rfl
  rw[if_neg hj];by_cases yr:j=0
  ·rw[if_pos yr,yr]
  rw[if_neg yr,if_neg O1,show j-1+1=j by omega]
 rw[hT] at hp;obtain⟨X',za⟩:∃X',X'=fun j=>if j=0 then X 0 else A7 X s.K (j-1):=⟨_,O⟩
 rw[←za] at hp;have sk:∀k,X' (k+1)=A7 X s.K k:=fun k=>by rw[za];exact if_neg O1
 have ya:kg (Ad gW) cW (lm (s.K+1) X'):=jZ xw (by rw[qT,qT]);have hp:Hp W M w4 ([bu b3 3 (qE (eQ (1-wr s.K fun k=>X (k+1)))) 49,bu b2 3 (qE [Zs,Zs,Zs]) 45,qG eQ 49 3 (Ad gW) cW (lm (s.K+1) X')]++qc a c s (ou c.cl lv)):=hp;have hR:=BE.of (Y:=[]) (by rw[bO];exact hp.x (dA _ _)) ok;have xo:ig w4 3 eQ (some ⟨gW,0+1*3,none⟩) (lm s.K (A7 X s.K)):=by
  have h:=qZ hp 2 O ya jT;intro k x hx;have hk:k<s.K:=by
   have:=(aI.1 hx).1;rwa[qT] at this
  have⟨b,o,e,hc⟩:=h (k+1) x (by
   rw[yI hk] at hx;rw[yI O1,sk]
   exact hx)
  exact mCp
 have zm:∀k,k<s.K→∀(j:Nat) (v:Value),(eQ (A7 X s.K k))[j]? =some v→w4.cell? ⟨gW,0+1*3+k*3+j,none⟩=some v:=fun k hk=>by
  have⟨b,o,e,hc⟩:=xo k _ (yI hk);cases e;exact hc
 have h20:=fc hp;have su:w4.cell? ⟨a.fb,0+21,none⟩=some (.slice a.sL lv.length a.cL):=by
  have h:w4.cell? ⟨a.fb,0+21,none⟩=some (.slice a.sL (ou c.cl lv).length a.cL):=hp.J 3 O O;rwa[N8] at h
 have cg:∀(j:Nat) (v:Value),([Zs,Zs,Zs]:List Value)[j]? =some v→w4.cell? ⟨b2,0+j,none⟩=some v:=hp.i6 1 O O;have hU:=hp;clear hp f20 hT yv oS;have hp:=Hp.start (M:=[]) (w:=w4);have zj:=hp.j3 su;refine qR ?_;apply ke;(first|apply qP|apply kA|apply xF)<;>(first|exact O);(intros;first|exact fP O|exact fU O);apply ke;(first|apply qP|apply kA|apply xF)<;>(first|exact O);(intros;first|exact fP O|exact fU O);apply ke;(first|apply qP|apply kA|apply xF)<;>(first|exact O);(intros;first|exact fP O|exact fU O);refine ke (qS O O zj) (O:_=Value.slice a.sL lv.length a.cL) ?_;refine ke (Jg (zs:=#[Zs,Zs,Zs]) (pl:=#[(0,1),(1,1),(2,1)]) underlying45 (qJ O) O (fun w=>O3) (by rw[vH];exact(O))) (O:_=Value.agg #[Zs,Zs,.slice a.sL lv.length a.cL]) ?_;refine tQ fun w5 b4 hp=>?_;refine tS fun w6 hp=>?_;have hp:=hp.I 0 [Zs,Zs,.slice a.sL lv.length a.cL] O O;refine qA ?_;refine tF (yS nk hp) fun w7 mp hp=>?_;have hp:=((hp.j7 eQ 49 3).j7 jO 22 1);have x0:=hp.j3 hR.h17;refine qA ?_;have hp:=hp.I 3 [Zs,Zs,.slice a.sL lv.length a.cL] O O;rw[←jKa] at hp;have hp:Hp w4 [] w7 (GI a.sL a.cL lv.length b4 mp ⟨fun _=>(none,0),none,0,none,0⟩ (kE [])):=hp.j4 [3,2,0,1] _ O2 O;have dt:Ct s.nc s.S≤5:=by
  rw[qL9 hI.cls.S];have:=jCm (cl:=c.cl) c.n s.nc;have:=hI.n5;omega
 have sD:=hI.n5;have zv:=hI.nc;have hF:∀q,q<s.nc→s.S q≤5:=fun q hq=>hI.S5 hq
 have x2:∀k,k<s.K→∀q,q<s.nc→s.κ k q≤5:=fun k hk q hq=>bF (hI.κS hk hq) (hI.S5 hq)
 refine qQ ([6,7,8,9,10,11,12,13,15,16,17]++range' 49 102) (fun(z:Nat×List (List Nat×Rat)×MA) F=>F.put 49 (Iv (z.1:Int)))
  (fun z w'=>z.1≤s.K∧Fe c.n c.cl G s (A7 X s.K) D (34*Mo) z.1 z.2.1∧EI z.2.2 (kE z.2.1)∧Hp w4 [] w' (GI a.sL a.cL lv.length b4 mp z.2.2 (kE z.2.1))) (fun z=>s.K-z.1) (0,[],⟨fun _=>(none,0),none,0,none,0⟩) (qB (ka.eq .refl) O)
  ⟨bL _,Fe.zero,⟨kg.nil,kg.nil,fun j hj=>absurd hj (mU j)⟩,hp⟩ ?_
 clear hp x0 zj;rintro u2 ⟨k,adds,ma⟩ w8 ⟨hk,hA,hh,hp⟩;dsimp only at hk hA hh hp⊢;have zl:=hR.j1 hp.Z;refine tI (fun h=>?_) fun h=>?_
 ·have hl:k<s.K:=O1;have⟨bK,oK,zt,xr⟩:=jR (show ig w8 1 jO a.sK (lm s.K fun j=>((some ⟨a.gk j,0,none⟩:Option Addr),s.nc,s.nc)) from zl.K) hl;have cm:=xr 0 _ O;have s3:=hp.j3 h20;refine qA ?_;refine tR (qL (vs:=eQ (A7 X s.K k)) O O O O (fun j v e=>hp.j3 (zm k hl j v e))) ?_;refine tC (EA _ (BQ.fq (xh k hl) O1)) fun w9 hp=>?_;by_cases nz:A7 X s.K k=0
  ·refine ke (zW O O) (qV (b:=true) (aD (HL.2 nz))) ?_;refine qA ?_;refine jB O ?_;refine Ae ?_;exact⟨(k+1,adds,ma),qB O5 O,⟨by show k+1≤_;omega,hA.skip nz,hh,hp⟩,by show s.K-(k+1)<s.K-k;omega⟩
  have n4:0<A7 X s.K k:=by
   have:=(rC (hW.nn k hl) (jC4 hW k));grind
  refine ke (zW O O) (qV (b:=false) (aB (fun e=>nz (HL.1 e)))) ?_;refine AL ?_;refine tK (zB5 a c s (s.κ k) (some ⟨a.gk k,0,none⟩) s.nc _ (hR.j1 hp.Z) ((hR.k k hl).i7 hp.Z) O1 hF (x2 k hl) dt) ?_;rintro _ uy ⟨gc,cc,cs,rfl,u1,hM,ug⟩;have hp:=hp.C ug;clear ug;refine qA ?_;have ha:=u1.len;have s7:1≤cs.length:=by
   have⟨f,hf,_⟩:=u1.zero;have:=List.length_pos_of_mem hf;omega
  refine tN (cs.length-1) ?_;refine ke (Mf (zK (t:=252) O).1 (zK (t:=252) O).2 O O (by have:=hM.cap;omega)) (O:_=Value.slice (Ad gc) (cs.length-1) cc) ?_;refine qA ?_;have sw:c.plc=fun i=>qi c.cl i (c.cl i):=funext zb
  obtain⟨pan,yd⟩:∃pan:Nat×Nat→List Nat,pan=fun f=>BS c.cl (fun i=>qi c.cl i (c.cl i)) s.S (s.κ k) f c.n:=⟨_,O⟩
  have pa:∀f,BS c.cl c.plc s.S (s.κ k) f c.n=pan f:=fun f=>by rw[yd,sw]
  obtain⟨A,xp⟩:∃A,A=adds++wI pan (A7 X s.K k) cs:=⟨_,O⟩;have yu:Fe c.n c.cl G s (A7 X s.K) D (34*Mo) (k+1) A:=by
   rw[xp,yd];exact hA.next hI hl n4 (zk k hl) u1 hG
  have s4:A.length=adds.length+(cs.length-1):=by rw[xp,aY,Tw]
  have x1:A.length≤192:=by
   have:=yu.len;omega
  have ss:∀j f g,cs[j]? =some f→cs[j+1]? =some g→A[adds.length+j]? =some (pan f,A7 X s.K k*(A8 g-A8 f)):=fun j f g hf hg=>by
   rw[xp,fQ (nH _ _),iC];exact qNf _ _ _ _ _ _ hf hg
  have rm:A.take (adds.length+0)=adds:=by rw[xp,fY,List.take_left]
  obtain⟨mj,yk⟩:∃mj:Nat→List (List Nat×Rat),mj=fun j=>kE (A.take (adds.length+j)):=⟨_,O⟩
  have oX:mj 0=kE adds:=by rw[yk];exact aK kE rm
  have sh:mj (cs.length-1)=kE A:=by
   rw[yk];show kE (A.take (adds.length+(cs.length-1)))=_
   rw[←s4,dF]
  have xg:∀j f g,cs[j]? =some f→cs[j+1]? =some g→mj (j+1)=vW (mj j) (pan f) (A7 X s.K k*(A8 g-A8 f)):=fun j f g hf hg=>by
   have e:=ss j f g hf hg;have⟨h1,h2⟩:=aI.1 e;rw[yk];show kE (A.take (adds.length+j+1))=_
   rw[aF h1,h2,qOq]
  have zu:∀j,(mj j).length≤192∧∀x∈mj j,G x.1∧BQ (κ+19) x.2:=fun j=>by
   have ys:(A.take (adds.length+j)).length≤192:=by rw[cJ];omega
   have⟨_,_,_,h4,h5⟩:=ZY G (60*D) (60*(34*Mo)) _ (A.take (adds.length+j)) O (fun x hx=>yu.all x (gE hx));rw[yk];refine⟨bF h4 ys,fun x hx=>?_⟩;have⟨g1,_,g3⟩:=h5 x hx;exact⟨g1,wQ (M:=192*(60*(34*Mo))) O1 O1 (by rw[eK];omega) (g3.le (aL _ ys))⟩
  rw[←oX] at hp hh;refine qQ ([9,10,11,12,13,15,16,17]++range' 72 78) (fun(z:Nat×MA) F=>F.put 72 (Iv (z.1:Int)))
   (fun z w'=>z.1≤cs.length-1∧EI z.2 (mj z.1)∧Hp w4 [] w' ([qG ql 255 2 (Ad gc) cc cs]++GI a.sL a.cL lv.length b4 mp z.2 (mj z.1))) (fun z=>cs.length-1-z.1) (0,ma) (qB (ka.eq .refl) O) ⟨bL _,hh,hp⟩ ?_
  clear hp hh zl cm xr s3;rintro u3 ⟨j,mb⟩ uz ⟨hj,hh,hp⟩;dsimp only at hj hh hp⊢;refine tI (fun h3=>?_) fun h3=>?_
  ·have sM:j<cs.length-1:=O1;obtain⟨f,hf⟩:∃f,cs[j]? =some f:=⟨_,aA O1⟩;obtain⟨g,hg⟩:∃g,cs[j+1]? =some g:=⟨_,aA O1⟩;have xb:=u1.fr f (aG hf);have xk:=u1.fr g (aG hg);have ze:∀{w:World} {L:List kr},Hp w4 [] w ([qG ql 255 2 (Ad gc) cc cs]++L)→∀j f,cs[j]? =some f→∀(i:Nat) (v:Value),(ql f)[i]? =some v→w.cell? ⟨gc,0+j*2+i,none⟩=some v:=fun hp j f hf=>by
    have⟨b,o,e,hc⟩:=qZ hp 0 O hM uC j f hf;cases e;exact hc
   refine qA ?_;refine ke (qL (vs:=ql f) O O O O (ze hp j f hf)) (O:_=Bg f) ?_;refine tF (zE (cs:=[Iv 0,Iv 0]) (m:=2) hp (qJ O) O O) fun u0 ba hp=>?_;refine qA ?_;refine tO (zH (m:=2) (o:=0) (cs:=ql f) hp 0 O O O O (qD O) O O) fun h9 hp=>?_;have hp:=hp.I 0 (ql f) O O;refine tL (zB4 a c s (s.κ k) (some ⟨a.gk k,0,none⟩) s.nc f _ (hR.j1 hp.Z) ((hR.k k hl).i7 hp.Z) O1 (fun i hi=>hI.cls.lt i hi) (fun q hq=>⟨hF q hq,hI.pos q hq⟩) (x2 k hl) (fun i _=>by rw[zb i];have:=NP c.cl (c.cl i) i;omega) xb) ?_;rintro _ h6 ⟨sa,p0,rfl,yg,zq⟩;have hp:=hp.C zq;clear zq;rw[pa f] at yg hp⊢;have hp:Hp w4 [] h6 ([qG eN 3 1 sa p0 (pan f),bu ba 2 (qE (ql f)) 255,qG ql 255 2 (Ad gc) cc cs]++GI a.sL a.cL lv.length b4 mp mb (mj j)):=hp;have zp:=ze (hp.x (.cons _ (.cons _ (.refl _)))) (j+1) g hg;have cj:∀(i:Nat) (v:Value),(ql f)[i]? =some v→h6.cell? ⟨ba,0+i,none⟩=some v:=hp.i6 1 O O;have sj:=hp.j3 h20;have zn:∀(j:Nat) (v:Value),(eQ (A7 X s.K k))[j]? =some v→h6.cell? ⟨gW,0+1*3+k*3+j,none⟩=some v:=fun j v e=>hp.j3 (zm k hl j v e)
   obtain⟨wd,qe⟩:∃wd,wd=A7 X s.K k*(A8 g-A8 f):=⟨_,O⟩;have xf:∀f,C4 f→Ov 60 60 (A8 f):=fun f hf=>by
    refine⟨(oz f:Int),?_,?_⟩
    ·rw[IY hf,gI];have:((60:Nat):Rat)=60:=O;rw[this];grind
    have h1:=hf.t;unfold oz;rcases hf.cases with e|e|e|e|e<;>rw[e]<;>rw[e] at h1<;>omega
   have yw:BQ 7 (A8 f):=wQ (D:=60) (M:=60) O2 O2 O2 (xf f xb);have hZ:BQ 7 (A8 g):=wQ (D:=60) (M:=60) O2 O2 O2 (xf g xk)
   have xj:BQ 7 (A8 g-A8 f):=wQ (D:=60) (M:=60+60) O2 O2 O2 (by
    have:=LD (xf g xk) (LF (xf f xb))
    rwa[←nR] at this)
   have zh:∀w,Rk 171 [Bg g] w (QV (A8 g)):=fun w=>jVt g.1 g.2 w (bF xk.t xk.b5) xk.b5 xk.b0
   have yy:∀w,Rk 171 [Bg f] w (QV (A8 f)):=fun w=>jVt f.1 f.2 w (bF xb.t xb.b5) xb.b5 xb.b0
   have zi:=hp;clear hp;have hp:=Hp.start (M:=[]) (w:=h6);have zr:((j:Int)+1)=((j+1:Nat):Int):=O;have xc:j+1<cs.length:=O1;refine ke qY (O:_=Value.slice sa (pan f).length p0) ?_;refine qR ?_;refine uD ([12]++range' 81 17) (fun(b3:Nat) F=>F.put 12 (.pointer (Ad b3))) (fun b3 w'=>Hp h6 [] w' [bu b3 3 (qE (eQ wd)) 49]) ?_ ?_
   ·refine HU true (List.range' 0 19) jG O3 O (fun w'=>Hp h6 [] w' []) hp.U ?_;have hp:=hp.U;refine zP ?_;apply C8;rfl;rfl;intro w hp;exact qL (vs:=eQ (A7 X s.K k)) O O O O (fun i v e=>hp.j3 (zn i v e));exact DF O;refine zP ?_;apply C8;rfl;rfl;intro w hp;exact qO O O;exact qF (b:=((j+1:Nat):Int)) (by rw[qK O1 O1];omega);apply C8;rfl;rfl;intro w hp;exact zA O O O O xc;exact(O:_=Value.pointer (some ⟨gc,0+(j+1)*2,none⟩));apply C8;rfl;rfl;intro w hp;exact qL (vs:=ql g) O O O O (fun i v e=>hp.j3 (zp i v e));exact(O:_=Bg g);refine BP 17 O O3 O O ?_ ?_
    ·skip
     refine tK (zh _) ?_;rintro _ w3 ⟨rfl,hk⟩;have hp:=hp.V hk;refine⟨hp,?_⟩;refine zP ?_;apply C8;rfl;rfl;intro w hp;exact qL (vs:=ql f) O O O O (fun i v e=>hp.j3 (cj i v e));exact(O:_=Bg f);refine BP 17 O O3 O O ?_ ?_
     ·skip
      refine tK (yy _) ?_;rintro _ w4 ⟨rfl,hk⟩;have hp:=hp.V hk;refine⟨hp,?_⟩;refine zP ?_;refine BP 17 O O3 O O ?_ ?_
      ·skip
       refine tK (HJ _ hZ yw O1) ?_;rintro _ w5 ⟨rfl,hk⟩;have hp:=hp.V hk;refine⟨hp,?_⟩;refine zP ?_;refine BP 17 O O3 O O ?_ ?_
       ·skip
        refine tK (Fh _ (xh k hl) xj O1) ?_;rintro _ w6 ⟨rfl,hk⟩;have hp:=hp.V hk;refine⟨hp,?_⟩;refine KU ?_;refine xO O O3 ?_ O;apply Au;rfl;exact jK hp (qJ O);rintro _ w8 ⟨b3,rfl,hp⟩;refine⟨hp.E,?_⟩;refine zP ?_;refine xO O O3 ?_ O;apply FH;rfl;exact qW hp 0 O O O O (qD O) O;rintro _ w9 ⟨rfl,hp⟩;refine⟨hp.E,?_⟩;have hp:=hp.I 0 (eQ wd) O (by rw[qe];rfl);refine Qq ?_;exact⟨b3,qB O5 O,hp⟩
       skip
       apply Au;rfl;exact jK hp (qJ O);rintro _ w8 ⟨b3,rfl,hp⟩;refine⟨hp.E,?_⟩;exact mA1
      skip
      apply Au;rfl;exact jK hp (qJ O);rintro _ w8 ⟨b3,rfl,hp⟩;refine⟨hp.E,?_⟩;exact mAp
     skip
     apply Au;rfl;exact jK hp (qJ O);rintro _ w8 ⟨b3,rfl,hp⟩;refine⟨hp.E,?_⟩;exact mBy
    skip
    apply Au;rfl;exact jK hp (qJ O);rintro _ w8 ⟨b3,rfl,hp⟩;refine⟨hp.E,?_⟩;refine xO O O3 ?_ O;refine tK (zh _) ?_;rintro _ w3 ⟨rfl,hk⟩;have hp:=hp.V hk;refine⟨hp.E,?_⟩;refine zP ?_;apply C8;rfl;rfl;intro w hp;exact qL (vs:=ql f) O O O O (fun i v e=>hp.j3 (cj i v e));exact(O:_=Bg f);exact mBy
   clear hp;rintro u4 b3 h8 zd;have hp:=zi.C zd;clear zd zi sj cj zp zn;obtain⟨P,hP⟩:∃P,P=pan f:=⟨_,O⟩;rw[←hP] at hp yg⊢;have x8:=xg j f g hf hg;rw[←hP,←qe] at x8;have ye:=zu j;have zg:G P:=by
    rw[hP,yd];have⟨P0,fg,xy⟩:=hI.kF k hl;have yo:oz g≤60:=by
     have:=xk.t;unfold oz;rcases xk.cases with e|e|e|e|e<;>rw[e]<;>omega
    have sF:oz f<oz g:=by
     have h:=dX.1 u1.srt;have⟨hV,e1⟩:=aI.1 hf;have⟨qj,e2⟩:=aI.1 hg;rw[←e1,←e2];exact h j (j+1) hV qj (pA _)
    refine hG P0 _ fg OA.1 OA.2 fun q hq=>?_
    rw[qOn hI.cls.S hq (hI.pos q hq) (hI.S5 hq) (hI.κS hl hq) xb O1,xy q hq]
   have zy:=hI.gs P zg;have zf:P.length≤5:=by
    have h1:P.length≤(range c.n).length:=by
     rw[hP,yd];exact rF _ _
    rw[cZ] at h1;omega
   have hp:=hp.j7 eB 5 1;have hp:Hp w4 [] h8 ([qG eB 5 1 none 0 (P.take 0),bu b3 3 (qE (eQ wd)) 49,qG eN 3 1 sa p0 P,bu ba 2 (qE (ql f)) 255,qG ql 255 2 (Ad gc) cc cs]++GI a.sL a.cL lv.length b4 mp mb (mj j)):=hp;refine qA ?_;refine qQ ([13,15]++range' 100 10) (fun(z:Nat×Option Addr×Nat) F=>(F.put 13 (.slice z.2.1 (P.take z.1).length z.2.2)).put 100 (Iv (z.1:Int)))
    (fun z w'=>z.1≤P.length∧kg z.2.1 z.2.2 (P.take z.1)∧Hp w4 [] w' ([qG eB 5 1 z.2.1 z.2.2 (P.take z.1),bu b3 3 (qE (eQ wd)) 49,qG eN 3 1 sa p0 P,bu ba 2 (qE (ql f)) 255,qG ql 255 2 (Ad gc) cc cs]++GI a.sL a.cL lv.length b4 mp mb (mj j))) (fun z=>P.length-z.1) (0,none,0) (qB (qB (ka.eq .refl) O) O) ⟨bL _,kg.nil,hp⟩ ?_
   clear hp;rintro u5 ⟨i,se,Aw⟩ h7 ⟨hi,xx,hp⟩;dsimp only at hi xx hp⊢;refine tI (fun h4=>?_) fun h4=>?_
   ·have y2:i<P.length:=O1;obtain⟨x,hx⟩:∃x,P[i]? =some x:=⟨_,aA y2⟩;have s8:=zy.2 x (aG hx);have⟨bx,ox,eb,yj⟩:=qZ hp 2 O yg (fun _=>O) i x hx;have sx:h7.cell? ⟨bx,ox+i*1,none⟩=some (Iv (x:Int)):=yj 0 _ O;have vu:P.take i++[x]=P.take (i+1):=by
     have⟨xt,e⟩:=aI.1 hx;rw[aF xt,e]
    have ew:(P.take i).length=i:=by rw[cJ];omega
    refine qR ?_;refine tR (zA O O O eb y2) ?_;refine tR (qS O O sx) ?_;refine tR qY ?_;refine qR ?_;refine ke qP (O:_=Value.slice se (P.take i).length Aw) ?_;refine tR qP ?_;refine ke (Y2 underlying5 ⟨_,underlying3⟩ O) (qF (b:=(x:Int)) (by rw[IntKind.wrap_u8];omega)) ?_;refine qA ?_;refine tF (jC (cs:=[.int .u8 (x:Int)]) hp O O O O O O O) fun vb nb hp=>?_;refine AB (jV eB (P.take i) x hp 1 0 O O O O O O (fun _=>O) O O O xx O O O1) fun vd s' c'⟨hn,hp⟩=>?_;have hp:=hp.E;have hp:Hp w4 [] vd ([qG eB 5 1 s' c' (P.take i++[x]),bu b3 3 (qE (eQ wd)) 49,qG eN 3 1 sa p0 P,bu ba 2 (qE (ql f)) 255,qG ql 255 2 (Ad gc) cc cs]++GI a.sL a.cL lv.length b4 mp mb (mj j)):=hp;rw[vu] at hn hp⊢;refine Ae ?_;exact⟨(i+1,s',c'),qB O5 O,⟨by show i+1≤_;omega,hn,hp⟩,by show P.length-(i+1)<P.length-i;omega⟩
   obtain rfl:P.length=i:=O1;rw[dF] at xx hp⊢;obtain⟨m,hm⟩:∃m,m=mj j:=⟨_,O⟩;rw[←hm] at hp hh x8 ye;have hJ:∀Q∈P::m.map (·.1),∀i∈Q,i<256:=fun Q hQ i hi=>by
    have sn:G Q:=by
     rcases aP.1 hQ with rfl|hQ
     ·exact zg
     obtain⟨x,hx,rfl⟩:=bM.1 hQ;exact(ye.2 x hx).1
    have:=(hI.gs Q sn).2 i hi;omega
   have ht:=jKb (P:=P) hJ;have mT:prog.underlying 192=some (.map 9 3):=O3;refine qR ?_;refine ke qP (O:_=Value.map (some mp)) ?_;refine ke qP (O:_=Value.slice se P.length Aw) ?_;refine ke (PB hp 0 O xx O O) (O:_=Value.string (Ei P)) ?_;refine ke (OX (K:=nk) (a:=Ei P) hp 6 O O O mT underlying9 (qJ (t:=3) O)) (O:_=Value.tuple #[(CY (m.map (·.1)) (Ei P)).getD (Iv 0),.bool (CY (m.map (·.1)) (Ei P)).isSome]) ?_;refine qA ?_;have x7:(vW m P wd).map (·.1)=if P∈m.map (·.1) then m.map (·.1) else m.map (·.1)++[P]:=Me P wd m
   have⟨hY,x5⟩:=jIl m P wd;have s5:AM P ((vW m P wd).map (·.1))=AM P (m.map (·.1)):=by
    rw[x7];split
    ·rfl
    rename_i h
    rw[N2 h,←R2 (f:=fun x:List Nat=>x) (fun _ _ e=>e),List.map_id'];have:∀l:List (List Nat),P∉l→AM P (l++[P])=l.length:=fun l=>by
     induction l with
     |nil=>intro _;show(if P=P then 0 else _)=0;rw[if_pos O]
     |cons x l ih=>
      intro hx;show(if x=P then 0 else AM P (l++[P])+1)=_
      rw[if_neg (fun e=>hx (by rw[e];simp)),ih (fun hm=>hx (by simp[hm]))];rfl
    exact this _ h
   refine uD ([16]++range' 119 19) (fun(_:MA) F=>F.put 16 (Iv (AM P (m.map (·.1)):Nat))) (fun mc w'=>kg mc.sP mc.cP (CW mc.gp ((vW m P wd).map (·.1)))∧kg mc.sV mc.cV (Ca m P)∧(∀q,q<((vW m P wd).map (·.1)).length→kg (mc.gp q).1 (mc.gp q).2 (((vW m P wd).map (·.1)).getD q []))∧
    Hp w4 [] w' ([bu b3 3 (qE (eQ wd)) 49,qG ql 255 2 (Ad gc) cc cs]++stM a.sL a.cL lv.length b4 mp mc ((vW m P wd).map (·.1)) (Ca m P))) ?_ ?_
   ·by_cases hD:P∈m.map (·.1)
    ·rw[if_pos hD] at ht x7;have xu:Ca m P=m.map (·.2):=if_pos hD;rw[ht];refine tJ ?_;refine⟨mb,qB O5 O,?_⟩;rw[x7,xu];rw[jCu] at hp;exact⟨hh.P,hh.V,hh.p,hp.x (.cons _ (.cons_cons _ (.cons _ (.cons _ (.cons_cons _ (.refl _))))))⟩
    rw[if_neg hD] at ht x7;have xu:Ca m P=m.map (·.2)++[0]:=if_neg hD;have nu:AM P (m.map (·.1))=m.length:=by rw[N2 hD,aH]
    rw[ht];refine jB O ?_;refine qA ?_;refine ke (PB hp 0 O xx O O) (O:_=Value.string (Ei P)) ?_;refine qA ?_;refine tO (J4 (K:=nk) (a:=Ei P) (v:=Iv (m.length:Nat)) hp 6 O O O O mT underlying9) fun vb hp=>?_;obtain⟨pk,hS⟩:∃pk,pk=m.map (·.1):=⟨_,O⟩;obtain⟨wt,xl⟩:∃wt,wt=m.map (·.2):=⟨_,O⟩;have tu:m.length=pk.length:=by rw[hS,aH]
    have yi:wt.length=pk.length:=by rw[xl,hS,aH,aH]
    have xq:=jK9 (pk:=m.map (·.1)) hJ hD;rw[aH] at xq;have hp:Hp w4 [] vb ([qG eB 5 1 se Aw P,bu b3 3 (qE (eQ wd)) 49,qG eN 3 1 sa p0 P,bu ba 2 (qE (ql f)) 255,qG ql 255 2 (Ad gc) cc cs]++([bu b4 3 (qE (DR mb m.length a.sL lv.length a.cL)) 45,yA nk mp (fun k=>if k=Ei P then some (Iv (m.length:Nat)) else CY (m.map (·.1)) k)]++ES mb m)):=hp;rw[xq] at hp;have hp:Hp w4 [] vb ([qG eB 5 1 se Aw P,bu b3 3 (qE (eQ wd)) 49,qG eN 3 1 sa p0 P,bu ba 2 (qE (ql f)) 255,qG ql 255 2 (Ad gc) cc cs]++([bu b4 3 (qE (DR mb m.length a.sL lv.length a.cL)) 45,yA nk mp (CY (m.map (·.1)++[P])),qG jO 22 1 mb.sP mb.cP (CW mb.gp (m.map (·.1))),qG eQ 49 3 mb.sV mb.cV (m.map (·.2))]++lm (m.map (·.1)).length (wR mb.gp (m.map (·.1))))):=hp;have tr:=hh.P;have xi:=hh.V;have hK:=hh.p;have zw:=ye.1;rw[x7,xu];rw[←hS,←xl,tu] at hp;rw[←hS] at tr hK⊢;rw[←xl] at xi⊢;rw[tu] at zw;have zx:AM P pk=pk.length:=by rw[hS,nu,←hS,tu]
    rw[zx];refine qA ?_;refine tF (jC (cs:=[.slice sa P.length p0]) hp O O O O O O O) fun vd nb hp=>?_;refine AB (jV jO (CW mb.gp pk) (sa,P.length,p0) hp 8 0 O O O O O O (fun _=>O) (by rw[Sv];rfl) O O tr O O (by rw[Sv];omega)) fun vc sc ca⟨y0,hp⟩=>?_;have hp:=hp.E;have yn:(CW mb.gp pk++[(sa,P.length,p0)]).length=pk.length+1:=by rw[aY,Sv];rfl
    rw[yn];refine tT fun ve hp=>?_;have hp:=hp.I 5 [.slice sc (pk.length+1) ca,.slice mb.sV pk.length mb.cV,.slice a.sL lv.length a.cL] O O;have hp:Hp w4 [] ve ([qG eB 5 1 se Aw P,bu b3 3 (qE (eQ wd)) 49,qG eN 3 1 sa p0 P,bu ba 2 (qE (ql f)) 255,qG ql 255 2 (Ad gc) cc cs]++([bu b4 3 (qE [.slice sc (pk.length+1) ca,.slice mb.sV pk.length mb.cV,.slice a.sL lv.length a.cL]) 45,yA nk mp (CY (pk++[P])),qG jO 22 1 sc ca (CW mb.gp pk++[(sa,P.length,p0)]),qG eQ 49 3 mb.sV mb.cV wt]++lm pk.length (wR mb.gp pk))):=hp;have ay:=hp;have cn:ve.cell? ⟨b4,0+1,none⟩=some (.slice mb.sV pk.length mb.cV):=hp.J 5 O O;have aa:b4∉zG [qG eQ 49 3 mb.sV mb.cV wt]:=hp.j9 (i:=8) O (j:=5) O O1 O;have hp:=ay.j8 8 O;refine qR ?_;refine xL 6 O jG O3 (fun w'=>ax (zG [qG eQ 49 3 mb.sV mb.cV wt]) ve w') hp.U.Z ?_;have hp:=hp.U;refine qX ?_;apply kp;rfl;intro w hk;exact qS O O (hk.cell cn aa);exact(O:_=Value.slice mb.sV pk.length mb.cV);refine tG (wM _) fun hH hp=>?_;apply Ag;rfl;exact jC (cs:=eQ 0) hp O O O O O O O;rintro _ yl ⟨nb2,rfl,hp⟩;refine⟨hp.Z,?_⟩;apply Ag;rfl;exact jV eQ wt 0 hp 1 0 O O O O O O jT (by rw[yi];rfl) O O xi O O (by rw[yi];omega);rintro _ yc ⟨sd,ce,rfl,yh,hp⟩;refine⟨hp.Z,?_⟩;have xn:(wt++[0]).length=pk.length+1:=by rw[aY,yi];rfl
    rw[xn];have hp:=hp.E;have hp:Hp ve _ yc [qG eQ 49 3 sd ce (wt++[0])]:=hp;refine qX ?_;refine qU ?_;have hp:=ay.j5 8 O hp;refine gx.mono (jD hp 5 O O O O (qD O) O) ?_;rintro _ xz ⟨rfl,hp⟩;have hp:=hp.I 5 [.slice sc (pk.length+1) ca,.slice sd (pk.length+1) ce,.slice a.sL lv.length a.cL] O O;have hp:Hp w4 [] xz ([qG eB 5 1 se Aw P,bu b3 3 (qE (eQ wd)) 49,qG eN 3 1 sa p0 P,bu ba 2 (qE (ql f)) 255,qG ql 255 2 (Ad gc) cc cs]++([bu b4 3 (qE [.slice sc (pk.length+1) ca,.slice sd (pk.length+1) ce,.slice a.sL lv.length a.cL]) 45,yA nk mp (CY (pk++[P])),qG jO 22 1 sc ca (CW mb.gp pk++[(sa,P.length,p0)]),qG eQ 49 3 sd ce (wt++[0])]++lm pk.length (wR mb.gp pk))):=hp;rw[←qTd] at hp y0;have zc:(pk++[P]).length=pk.length+1:=by rw[aY];rfl
    have hp:Hp w4 [] xz ([bu b3 3 (qE (eQ wd)) 49]++([qG eN 3 1 sa p0 P]++([qG ql 255 2 (Ad gc) cc cs,bu b4 3 (qE [.slice sc (pk.length+1) ca,.slice sd (pk.length+1) ce,.slice a.sL lv.length a.cL]) 45,yA nk mp (CY (pk++[P])),qG jO 22 1 sc ca (CW (Fu mb.gp pk.length sa p0) (pk++[P])),qG eQ 49 3 sd ce (wt++[0])]++lm pk.length (wR mb.gp pk)))):=hp.x (.cons _ (.cons_cons _ (.cons_cons _ (.cons _ (.refl _)))));have hp:=hp.perm (mQ _ eF);rw[bU,←jAp,←zc] at hp;refine qA ?_;refine⟨⟨Fu mb.gp pk.length sa p0,sc,ca,sd,ce⟩,qB O5 (by rw[tu];rfl),y0,yh,fun q hq=>?_,hp⟩;show kg (Fu mb.gp pk.length sa p0 q).1 (Fu mb.gp pk.length sa p0 q).2 ((pk++[P]).getD q [])
    rw[zc] at hq;rcases dH.1 hq with h|rfl
    ·have e2:Fu mb.gp pk.length sa p0 q=mb.gp q:=if_neg O1;rw[e2,qCe h];exact hK q h
    have e2:Fu mb.gp pk.length sa p0 pk.length=(sa,p0):=if_pos O;rw[e2,qMo];exact yg
   clear hp xx;rintro u6 ⟨gb,sf,ci,s9,cf⟩ vb ⟨tr,xi,hK,hp⟩;dsimp only at tr xi hK hp;have xe:(vW m P wd).map (·.2)=(Ca m P).set (AM P (m.map (·.1))) ((Ca m P).getD (AM P (m.map (·.1))) 0+wd):=(Zr P wd m).symm;obtain⟨wt,xl⟩:∃wt,wt=Ca m P:=⟨_,O⟩;obtain⟨aq,yz⟩:∃aq,aq=AM P (m.map (·.1)):=⟨_,O⟩;obtain⟨pk,hS⟩:∃pk,pk=(vW m P wd).map (·.1):=⟨_,O⟩;obtain⟨y,hy⟩:∃y,y=wt.getD aq 0:=⟨_,O⟩;have gz:BQ (κ+19) y:=by
    rw[hy,xl];rcases jIk (m:=m) (P:=P) (j:=aq) with e|⟨x,hx,e⟩
    ·rw[e];exact BQ.zero O1
    rw[←e];exact(ye.2 x hx).2
   have zz:BQ (κ+6+7) wd:=by
    rw[qe];exact BQ.mul (xh k hl) xj
   rw[←xl,←yz] at x5;rw[←xl] at xi hp hY;rw[←xl,←yz] at xe;rw[←hy] at xe;rw[←hS] at tr hK hp;have yi:wt.length=pk.length:=by rw[hY,hS,aH]
   have s6:aq<pk.length:=O1;have si:wt[aq]? =some y:=by
    rw[hy,aC,aA x5];rfl
   obtain⟨gV,rfl⟩:=xi.addr (fun e=>by rw[e] at x5;simp at x5);rw[←yz];have hp:Hp w4 [] vb ([bu b3 3 (qE (eQ wd)) 49,qG ql 255 2 (Ad gc) cc cs,bu b4 3 (qE [.slice sf pk.length ci,.slice (Ad gV) pk.length cf,.slice a.sL lv.length a.cL]) 45,yA nk mp (CY pk),qG jO 22 1 sf ci (CW gb pk),qG eQ 49 3 (Ad gV) cf wt]++lm pk.length (wR gb pk)):=hp;refine qR ?_;refine jU jG O3 (fun w'=>Hp w4 [] w' ([bu b3 3 (qE (eQ wd)) 49,qG ql 255 2 (Ad gc) cc cs,bu b4 3 (qE [.slice sf pk.length ci,.slice (Ad gV) pk.length cf,.slice a.sL lv.length a.cL]) 45,yA nk mp (CY pk),qG jO 22 1 sf ci (CW gb pk),qG eQ 49 3 (Ad gV) cf wt]++lm pk.length (wR gb pk))) hp.U ?_;have hp:=hp.U;refine qX ?_
   (apply kp;rfl;(intro w hp;exact qL (vs:=eQ y) O O O O (fun i v e=>by
    have⟨b,o,e2,hc⟩:=qZ hp 5 O xi jT aq y si;cases e2
    exact hc i v e));exact DF O)
   refine tP (fun w hp=>qL (vs:=eQ wd) O O O O (hp.i6 0 O O)) ?_;refine tG (Gb _ gz zz O1) fun vd hp=>?_;refine qX ?_;apply xH;rfl;rfl;exact vL eQ wt aq (y+wd) hp 5 O xi x5 O O jT O O (qD O);rintro _ vc ⟨rfl,hp⟩;refine qU ?_;have hp:Hp w4 [] vc ([bu b3 3 (qE (eQ wd)) 49]++([qG ql 255 2 (Ad gc) cc cs]++stM a.sL a.cL lv.length b4 mp ⟨gb,sf,ci,Ad gV,cf⟩ pk (wt.set aq (y+wd)))):=hp;have hp:=hp.E;rw[←xe,hS,←jCu,←x8] at hp;have yh:=jZ (l':=wt.set aq (y+wd)) xi (by rw[fW]);rw[←xe,←x8] at yh;rw[hS,←x8] at tr hK;refine Fv ?_;exact⟨(j+1,⟨gb,sf,ci,Ad gV,cf⟩),qB O5 O,⟨by show j+1≤_;omega,⟨tr,yh,hK⟩,hp⟩,by show cs.length-1-(j+1)<cs.length-1-j;omega⟩
  obtain rfl:cs.length-1=j:=O1;rw[sh] at hp hh;have hp:=hp.E;refine Ae ?_;exact⟨(k+1,A,mb),qB O5 O,⟨by show k+1≤_;omega,yu,hh,hp⟩,by show s.K-(k+1)<s.K-k;omega⟩
 obtain rfl:s.K=k:=O1;obtain⟨m,hm⟩:∃m,m=kE adds:=⟨_,O⟩;rw[←hm] at hp hh;have hp:=hU.C hp;have hp:Hp W M w8 ([bu b4 3 (qE (DR ma m.length a.sL lv.length a.cL)) 45,yA nk mp (CY (m.map (·.1)))]++(ES ma m++([bu b3 3 (qE (eQ (1-wr s.K fun k=>X (k+1)))) 49,bu b2 3 (qE [Zs,Zs,Zs]) 45]++([qG eQ 49 3 (Ad gW) cW (lm (s.K+1) X')]++qc a c s (ou c.cl lv))))):=hp;have cp:∀(i:Nat) (v:Value),(DR ma m.length a.sL lv.length a.cL)[i]? =some v→w8.cell? ⟨b4,0+i,none⟩=some v:=hp.i6 0 O O;have hp:=hp.E.E;have hp:=hp.perm (eF (l₁:=ES ma m));refine qR ?_;refine ke (qL (vs:=DR ma m.length a.sL lv.length a.cL) O O O O cp) (O:_=Value.agg (DR ma m.length a.sL lv.length a.cL).toArray) ?_;have hp:Hp W M w8 ([bu b3 3 (qE (eQ (1-wr s.K fun k=>X (k+1)))) 49,bu b2 3 (qE [Zs,Zs,Zs]) 45]++(([qG eQ 49 3 (Ad gW) cW (lm (s.K+1) X')]++qc a c s (ou c.cl lv))++ES ma m)):=hp;refine tS fun w9 hp=>?_;have hp:=hp.I 1 (DR ma m.length a.sL lv.length a.cL) O O;refine qA ?_;have zo:Hp W M w9 ([bu b3 3 (qE (eQ (1-wr s.K fun k=>X (k+1)))) 49,bu b2 3 (qE (DR ma m.length a.sL lv.length a.cL)) 45]++(([qG eQ 49 3 (Ad gW) cW (lm (s.K+1) X')]++qc a c s (ou c.cl lv))++ES ma m)):=hp;have yq:Hp W M w9 (([qG eQ 49 3 (Ad gW) cW (lm (s.K+1) X')]++qc a c s (ou c.cl lv))++ES ma m):=zo.E.E;exact zJ O O O O (hp.j2 1 O O) ⟨_,O,ma,adds,D,Mo,cW,lm (s.K+1) X',by rw[←hm];rfl,hL,hz,hMo,hA,by rw[←hm];exact hh,by rw[←hm];exact yq.perm eF⟩
end
attribute [local irreducible] PV gx kq kn WP km Fit
variable{size:Nat}
theorem PF.congr{q f g}(h:∀i k,i<n→f i k=g i k)(hP:PF n q f size P):PF n q g size P:=by
 refine⟨hP.srt,hP.lt,hP.len,fun k lh hk=>?_⟩;have e:_=P.countP (fun i=>f i k):=lW fun i hi=>by rw[h i k (hP.lt i hi)]
 rw[e];exact hP.quo k lh hk
variable{T:List Nat}{l:List EW}
theorem qPa{d}:(ku d l (range l.length)).Cmp (Bu d) T↔Aq d l T:=by
 have hr:∀i,i<l.length→(range l.length).getD i 0=i:=fun i hi=>by
  grind
 have h:=LY (n:=(range l.length).length) (q:=(ku d l (range l.length)).q) (inn:=fun i k=>AC d (l.getD i default) k) (ord:=fun i=>(range l.length).getD i 0) (size:=d.sz.toNat) (m:=12) T;refine Iff.trans h ?_;rw[cZ];exact⟨fun h=>h.congr fun i k hi=>O6,fun h=>h.congr fun i k hi=>O6⟩
def C9(d:DW)(l:List EW):Sr:={nc:=(pu (xT d l) l.length).length,S:=qi (Ap (xT d l)) l.length,K:=0,κ:=fun _ _=>0,dec:=fun _=>false,p:=fun _=>0}
theorem zD8{d}(hP:Aq d l P)(hn:l.length≤5):Inv l.length (Ap (xT d l)) (Aq d l) (C9 d l) ((C9 d l).n7 (jX (Ap (xT d l)) P)) []:=by
 refine⟨hn,Lz _,⟨fun i hi=>IX hi,fun _ _=>O,fun P hP=>⟨⟨P,hP,fun _ _=>O⟩,hP.lt⟩,fun κ ⟨P,hP,e⟩=>⟨P,hP,e⟩⟩,fun c hc=>?_,fun P hP=>⟨hP.srt,hP.lt⟩,aS 1,fun k hk=>⟨P,hP,fun c _=>?_⟩,fun j k hj hk=>?_,⟨0,_,⟨pS,fun _ _=>pS,?_,fun c hc=>?_⟩,fun u hu=>by cases hu⟩,⟨1,1,O2,O2,?_,fun c _ h=>by cases h⟩,bL _,⟨O,O,O,O⟩,fun x hx=>by cases hx⟩
 ·have⟨i,hi,e⟩:=jPe hc;exact Ys i hi e
 ·have hk:k<1:=hk;obtain rfl:k=0:=O1;exact(congrFun (if_pos O:(if 0=0 then jX _ P else fun _=>0)=_) c).symm
 ·have hk:k<1:=hk;omega
 ·show 0+0≤1
  grind
 ·show((qi _ _ c):Rat)*0≤0+0*_
  grind
 have:0<C2 0:=O2
 exact Nat.one_lt_two_pow (by
  grind)
section
def wL(o:Option (Nat×Nat×(Nat→Rat)×Rat))(s:Sr):List kr:=match o with
 |none=>[]
 |some (gW,cW,X,_)=>[qG eQ 49 3 (Ad gW) cW (lm (s.K+1) X)]
structure LvI(d:DW)(l:List EW)(c:Eu)(fb:Nat)(a:Cp)(s:Sr)(lv:List (Rat×(Nat→Rat)))(o:Option (Nat×Nat×(Nat→Rat)×Rat)):Prop where
 fb:a.fb=fb
 ok:Bm a c s (ou c.cl lv)
 inv:Inv l.length (Ap (xT d l)) (Aq d l) (C9 d l) s lv
 nc:s.nc=(C9 d l).nc
 no:o=none→s.nd=0
 yes:∀gW cW X v,o=some (gW,cW,X,v)→(s.W v fun k=>X (k+1))∧Io 5712200000 (s.K+1) X∧kg (Ad gW) cW (lm (s.K+1) X)∧a.sW=some ⟨gW,0+1*3,none⟩∧a.nW=s.K
structure Jx(d:DW)(s:Option Addr)(cE:Nat)(l:List EW)(ma:MA)(adds:List (List Nat×Rat))(a:Cp)(c:Eu)(wz sF:Sr)(lv:List (Rat×(Nat→Rat)))(X:Nat→Rat)(v0:Rat)(D Mo:Nat):Prop where
 cd:c=⟨d,s,cE,l.length,Ap (xT d l),fun i=>qi (Ap (xT d l)) i (Ap (xT d l) i)⟩
 hs0:wz=C9 d l
 inv:Inv l.length (Ap (xT d l)) (Aq d l) wz sF lv
 dec:∀c,c<sF.nc→sF.dec c=true
 W:sF.W v0 fun k=>X (k+1)
 D0:0<D
 DM:D≤Mo
 hMo:Mo<2^5712200000
 ad:Fe l.length (Ap (xT d l)) (Aq d l) sF (A7 X sF.K) D (34*Mo) sF.K adds
 mix:EI ma (kE adds)
 fr:Bm a c sF (ou c.cl lv)
attribute [local irreducible] C2
theorem r32(d s cE l W)(hD:DE d s l W)(ze:d.kd=3)(hz:0<d.sz)(hn:l.length≤5):
  Rt 32 [d.v,.slice s l.length cE] W (fun v w'=>((∀P,¬Aq d l P)∧v= .tuple #[.agg #[Zs,Zs,Zs],Iv 16]∧ax [] W w')∨
   ∃ma adds a c wz sF lv X v0 D Mo,Jx d s cE l ma adds a c wz sF lv X v0 D Mo∧v= .tuple #[.agg (DR ma (kE adds).length a.sL lv.length a.cL).toArray,Iv 0]∧Hp W [] w' (ES ma (kE adds)++qc a c sF (ou c.cl lv))):=by
 have h7:=hD.lq;have ys:=hD.le;refine tW func32 ntmps32 fun hp=>?_;refine qR ?_;refine tQ fun w1 b2 hp=>?_;have hp:=hp.I 0 d.L O O;refine tQ fun w2 b4 hp=>?_;have hp:Hp W [] w2 [bu b4 3 _ 45,bu b2 13 _ 28]:=hp;have ca:w2.cell? ⟨b2,0+1,_⟩=some (.int _ _):=hp.J 1 O O;rw[ze] at ca;refine qA ?_;refine xI O O1 (fun _=>?_);have cq:w2.cell? ⟨b2,0+11,_⟩=some (.slice _ _ d.cQ):=hp.J 1 O O;have d1:decide ((l.length:Int)>40)=_:=aB O1;have d2:decide ((d.Q.length:Int)>12)=_:=aB O1;refine jL ?_;rw[d1];refine jL ?_;rw[d2];refine jL ?_;refine qN O ?_;refine qR ?_;refine ke (qL O O O O (hp.i6 1 O O)) (O:_=d.v) ?_;refine tL (r95 d s cE l _ (hD.j1 hp.Z) ze O1) ?_;rintro _ w3 ⟨zx,dj⟩;have hp:=hp.V zx;rcases dj with⟨hy,rfl⟩|⟨x,hyes,rfl,hcmp,hvx,hsx⟩
 ·have hy:∀P,¬Aq d l P:=fun P hP=>by
   have:=SX.2 ⟨P,qPa.2 hP⟩;grind
  refine qA (jB O ?_);refine qR ?_;refine ke (Jg underlying45 (qJ O) O (fun w=>O3) (by rw[vH];exact(O:Instr.fill ((#[(0,1),(1,1),(2,1)]:Array (Nat×Nat))[·]?) #[Zs,Zs,Zs] []=some #[Zs,Zs,Zs]))) O (tS fun w4 hp=>?_);refine qA ?_;exact yP O O O O O (hp.j2 0 O O) ⟨_,O,.inl ⟨hy,O,hp.Z⟩⟩
 have hP:=qPa.1 hcmp;refine qA ?_;refine qN O ?_;refine qR ?_;refine ke (qL O O O O (hp.i6 1 O O)) (O:_=d.v) ?_;refine tL (r96 d s cE l _ (hD.j1 hp.Z)) ?_;rintro _ w4 ⟨fb,sC,cC,sP,cP,sS,cS,gD,gX,rfl,hK,tr,h6,hM,h9,hS⟩;have hY:=hsx.i7 hS.Z;have hp:=hp.C hS;clear hS;have hp:=(hp.j7 E3 204 4).j7 jO 22 1;obtain⟨c,hc⟩:∃c:Eu,c=⟨d,s,cE,l.length,Ap (xT d l),fun i=>qi (Ap (xT d l)) i (Ap (xT d l) i)⟩:=⟨_,O⟩;obtain⟨a,ha⟩:∃a:Cp,a=⟨fb,sC,cC,sP,cP,sS,cS,gD,gX,none,0,fun _=>0,none,0,0,none,0,fun _=>(none,0)⟩:=⟨_,O⟩;have ok:Bm a c (C9 d l) []:=by
  rw[hc,ha];exact⟨hK,tr,h6,kg.nil,hM,h9,kg.nil,fun j hj=>absurd hj (mU j),fun j hj=>absurd hj (mU j)⟩
 have hp:Hp W [] w4 ([bu b4 3 (qE [Zs,Zs,Zs]) 45,bu b2 13 (qE d.L) 28]++qc a c (C9 d l) []):=by
  rw[hc,ha];exact hp.j4 [8,9,4,5,6,7,0,3,2,1] _ O2 O
 have xd:a.fb=fb:=by rw[ha]
 have hx:c.n=l.length:=by rw[hc]
 have bv:c.cl=Ap (xT d l):=by rw[hc]
 have re:c.d=d:=by rw[hc]
 have hg:∀i,i<c.n→c.cl i<(C9 d l).nc:=fun i hi=>by
  rw[bv];exact IX O1
 have hH:=hp;clear ha;subst xd;have hp:=hH;clear hH;have xk:(C9 d l).nc≤_:=Lz _;refine jZb ?_;have hm:=Hp.k6 hp
 have xf:=XR a c (C9 d l) [] x.2.2 x.1 x.2.1 _ w4 ok hm hY (fun i hi=>by rw[hx];exact hP.lt i hi) hg O1 (by
  have h2:x.2.2.length≤l.length:=by
   have h3:∀n (P:List Nat),P.Pairwise (·<·)→(∀i∈P,i<n)→P.length≤n:=fun n P h1 h2=>by
    have h4:=(eJ.2 (h1.imp fun h=>O1));have h5:=rQ h4 (fun i hi=>aR.2 (h2 i hi));grind
   exact h3 _ _ hP.srt hP.lt
  omega) (bL _)
 refine tK xf ?_;rintro _ w5 ⟨sK,cK,gk,ok,zo⟩;have hp:=Hp.back hp zo;obtain⟨a1,hQ⟩:∃a1:Cp,a1={a with sK:=sK,cK:=cK,gk:=gk}:=⟨_,O⟩;rw[←hQ] at ok hp;obtain⟨s1,hh⟩:∃s1,s1=(C9 d l).n7 (jX c.cl x.2.2):=⟨_,O⟩;rw[←hh] at ok hp;have xc:a1.fb=a.fb:=by rw[hQ]
 have hI:Inv l.length (Ap (xT d l)) (Aq d l) (C9 d l) s1 []:=by
  rw[hh,bv];exact zD8 hP hn
 clear zo hm xf;refine tD (wM _) fun w6 hp=>?_;refine tF (jC (cs:=eQ 0) hp O O O O O O O) fun w7 nb hp=>?_;refine qA ?_;refine tO (jD hp 3 (by rw[xc];rfl) O O O (qD O) O) fun w8 hp=>?_;obtain⟨a2,oy⟩:∃a2:Cp,a2={a1 with sW:=Ad nb,nW:=1,cW:=1}:=⟨_,O⟩;have hp:=hp.I 3 (a2.C c _ _ 0) O (by rw[oy];rfl);have hp:Hp W [] w8 ([bu b4 3 (qE [Zs,Zs,Zs]) 45,bu b2 13 (qE d.L) 28]++(wL none s1++qc a2 c s1 (ou c.cl []))):=by
  have hp:=hp.E;rw[oy] at hp⊢;exact hp
 have xh:Bm a2 c s1 (ou c.cl []):=by
  exact mE4
 have xi:s1.nc=(C9 d l).nc:=by rw[hh];rfl
 have xb:s1.nd=0:=by
  unfold Sr.nd;rw[hh];show(range _).countP (fun _=>false)=0
  simp
 refine qA ?_;refine qQ (range' 43 7) (fun _ F=>F)
  (fun z w'=>LvI d l c a.fb z.1 z.2.1 z.2.2.1 z.2.2.2∧Hp W [] w' ([_,_]++(wL z.2.2.2 z.2.1++qc z.1 c z.2.1 (ou c.cl z.2.2.1)))) (fun z=>z.2.1.nc-z.2.1.nd) (a2,s1,[],none) (ka.eq .refl) ⟨⟨O6,xh,hI,xi,fun _=>xb,fun _ _ _ _ e=>by cases e⟩,hp⟩ ?_
 clear hp xh hI ok;rintro u ⟨a3,s3,lv,o⟩ w9 ⟨hL,hp⟩;dsimp only at hL hp⊢;have hF:=hp.x (List.Sublist.append (nZ _) (dA _ _));have hR:=BE.of (by rw[bO];exact hF.E.E) hL.ok;have h18:=hR.h18;rw[hL.fb] at h18;refine qA ?_;have hJ:=XQ _ _ s3.nc false w9 hR.D (by rw[qT];have:=hL.nc;omega);rw[qT] at hJ;refine tK hJ ?_;rintro _ uy ⟨rfl,h8⟩;have hp:=hp.V h8;have hF:=hF.V h8;refine tI (fun h=>?_) fun h=>?_
 ·have hu:∃k,k<s3.nc∧s3.dec k=false:=by
   have⟨k,hk,e⟩:=bM.1 h;exact⟨k,aR.1 hk,e⟩
  have hm:=Hp.k6 hF;have xe:∀w',ax (zG (qc a3 c s3 (ou c.cl lv))) uy w'→DE c.d c.sE l w':=fun w' hk=>by
   have h1:=hD.j1 (hF.Z.trans hk (fun k hk=>.inl (by
    have⟨q,hq,e⟩:=List.mem_filterMap.1 hk;have⟨i,hi⟩:=fZ (aQ [bu b4 3 (qE [Zs,Zs,Zs]) 45,bu b2 13 (qE d.L) 28] hq);have⟨q1,q2⟩:=q;subst e
    exact(hF.p6 hi).1)))
   grind
  have hU:=r99 a3 c l (C9 d l) s3 lv _ uy hL.ok hm xe hx O6 O6 (by rw[bv,re];exact hL.inv) hu;rw[hL.fb] at hU;refine tL hU ?_;rintro _ uz ⟨a4,s4,la,gW,cW,X,v,hZ,oa,xo,xu,hV,xp,xt,xg,xr,xq,xn,zo⟩;have hp:=Hp.back hF zo;clear zo hm hF;refine qA ?_;have xl:s4.nd≤s4.nc:=by
   unfold Sr.nd;have:=iK (p:=s4.dec) (l:=range s4.nc);rwa[cZ] at this
  exact⟨(a4,s4,la,some (gW,cW,X,v)),ka.eq (by repeat(first|exact ka.k7|exact ka.refl|refine ka.put O ?_|refine ka.q6 O ?_)),⟨⟨hZ,oa,O6,hV.trans hL.nc,fun e=>(by cases e),fun gb ck X' v' e=>(by
   grind)⟩,hp⟩,O6⟩
 have zq:∀k,k<s3.nc→s3.dec k=true:=fun k hk=>by
  cases e:s3.dec k with
  |true=>rfl
  |false=>exact absurd (bM.2 ⟨k,aR.2 hk,e⟩) h
 have xv:0<s3.nc:=by
  rw[hL.nc];have hl:=hP.len;obtain⟨i,hi⟩:∃i,i∈x.2.2:=List.exists_mem_of_length_pos O1;have:Ap (xT d l) i<(C9 d l).nc:=IX (hP.lt i hi);omega
 obtain⟨gW,cW,X,v,rfl⟩:∃gW cW X v,o=some (gW,cW,X,v):=by
  cases o with
  |none=>
   have h0:=hL.no O;have h1:s3.nd=s3.nc:=by
    unfold Sr.nd;rw[List.countP_eq_length.2 (fun k hk=>zq k (aR.1 hk)),cZ]
   omega
  |some y=>grind
 have⟨hW,hX,xw,x4,x6⟩:=hL.yes _ _ _ _ O;have hp:Hp W [] _ (_++([_]++_)):=hp;have hm:=Hp.k6 hp
 have hT:=zBo a3 c (Aq d l) (C9 d l) s3 lv gW cW X v _ uy hL.ok hm xw x4 x6 (by rw[hx,bv];exact hL.inv) hW hX (fun i=>by rw[hc]) (fun P P' h1 h2 h3 h4=>by
  rw[hx] at h3;exact PF.kind (nc:=s3.nc) (cl:=Ap (xT d l)) h1 h2 h3 (fun i hi=>by rw[hL.nc];exact IX hi) O6 fun i j hi hj e k hk=>jKp (jTk.1 e) O6)
 rw[hL.fb] at hT;refine tL hT ?_;rintro _ uz ⟨ma,adds,D,Mo,ck,Z,rfl,hE,ht,hMo,hA,xj,zo⟩;have hp:=Hp.back hp zo;clear zo hm;refine tS fun u0 hp=>?_;have hp:=hp.I 0 (DR ma _ _ _ _) O O;refine qA ?_;have zo:Hp W [] _ ([_,_]++_):=hp;have yq:Hp W [] _ (ES ma _++_):=zo.E.E;rw[hx,bv] at hA;exact yP O O O O O (hp.j2 0 O O) ⟨_,O,.inr ⟨ma,adds,a3,c,C9 d l,s3,lv,X,v,D,Mo,⟨hc,O,hL.inv,zq,hW,hE,ht,hMo,hA,xj,hL.ok⟩,O,yq.x (List.Sublist.append (nZ _) (dA _ _))⟩⟩
end
def Gj:Nat→List (List Nat)
 |0=>[[]]
 |n+1=>Gj n++(Gj n).map (·++[n])
theorem Kr:∀(n:Nat) (P:List Nat),P.Pairwise (·<·)→(∀i∈P,i<n)→P∈Gj n
 |0,P,_,h=>by
  cases P with
  |nil=>simp[Gj]
  |cons x P=>exact absurd (h x O4) (mU x)
 |n+1,P,hs,h=>by
  show P∈Gj n++(Gj n).map (·++[n])
  rcases iQ P with rfl|⟨Q,x,rfl⟩
  ·exact dD _ (Kr n [] List.Pairwise.nil (fun i hi=>by cases hi))
  rw[mR] at hs h⊢;have ra:=fO.1 hs;have hx:x<n+1:=h x O4;rcases dH.1 hx with hl|rfl
  ·refine dD _ (Kr n _ hs fun i hi=>?_);rcases fK.1 hi with hi|hi
   ·have:=ra.2.2 i hi x O4;omega
   have:i=x:=by simpa using hi
   omega
  exact aQ _ (bM.2 ⟨Q,Kr x Q ra.1 (fun i hi=>ra.2.2 i hi x O4),O⟩)
theorem jEs{α:Type}(G:α→Prop)(f:α→Rat):∀(L:List α),(∃x∈L,G x)→∃x∈L,G x∧∀y∈L,G y→f y≤f x
 |[],⟨x,hx,_⟩=>by cases hx
 |a::L,hex=>by
  by_cases hL:∃x∈L,G x
  ·have⟨x,hx,hg,hm⟩:=jEs G f L hL;by_cases ha:G a∧f x<f a
   ·refine⟨a,O4,ha.1,fun y hy hh=>?_⟩;rcases aP.1 hy with rfl|hy
    ·exact pS
    exact rC (hm y hy hh) (Nm ha.2)
   refine⟨x,by simp[hx],hg,fun y hy hh=>?_⟩;rcases aP.1 hy with rfl|hy
   ·exact Lj.1 fun h=>ha ⟨hh,h⟩
   exact hm y hy hh
  have⟨x,hx,hg⟩:=hex;have hj:x=a:=(aP.1 hx).resolve_right fun h=>hL ⟨x,h,hg⟩
  subst hj;refine⟨x,O4,hg,fun y hy hh=>?_⟩;rcases aP.1 hy with rfl|hy
  ·exact pS
  exact absurd ⟨y,hy,hh⟩ hL
theorem qPf(hG:∀P,G P→P.Pairwise (·<·)∧∀i∈P,i<n)(y){P}(hP:G P):ps y P≤vU G y:=by
 have⟨B,_,hB,hm⟩:=jEs G (ps y) (Gj n) ⟨P,Kr n P (hG P hP).1 (hG P hP).2,hP⟩;have hb:∀P',G P'→ps y P'≤ps y B:=fun P' h=>hm P' (Kr n P' (hG P' h).1 (hG P' h).2) h
 rw[Tj hB hb];exact hb P hP
theorem jDb{F s'}:∀{ls:List (Rat×(Nat→Rat))} {s:Sr} {last:Option Rat},s.run F ls last s'→s'.nc=s.nc
 |[],_,_,h=>h.nc.symm
 |(_,_)::_,_,_,h=>(jDb h.2.2).trans O
variable{Mo cE:Nat}{X:Nat→Rat}{adds:List (List Nat×Rat)}{ma:MA}{s:Option Addr}{sF:Sr}{v0:Rat}
theorem Jx.mx{d a c wz lv}(h:Jx d s cE l ma adds a c wz sF lv X v0 D Mo):
  (∀i,jE (kE adds) i=jE adds i)∧Bv (kE adds)=1∧((kE adds).map (·.1)).Nodup∧(kE adds).length≤192∧∀x∈kE adds,Aq d l x.1∧0<x.2∧Ov (60*D) (192*(60*(34*Mo))) x.2:=by
 have hl:adds.length≤192:=by
  have h1:=h.ad.len;have h2:=h.inv.K32;omega
 have⟨h1,h2,h3,h4,h5⟩:=ZY (Aq d l) (60*D) (60*(34*Mo)) _ adds O h.ad.all;refine⟨h1,?_,h3,bF h4 hl,fun x hx=>?_⟩
 ·rw[h2,h.ad.sum];exact jIo h.inv.K1
 have⟨g1,g2,g3⟩:=h5 x hx;exact⟨g1,g2,g3.le (aL _ hl)⟩
theorem Jx.fair{d a c wz lv}(h:Jx d s cE l ma adds a c wz sF lv X v0 D Mo):
  prv l.length (fun i=>sF.p (Ap (xT d l) i)) (vU (Aq d l)) (ou (Ap (xT d l)) lv) (fun _=>false) none∧∀i,i<l.length→jE (kE adds) i=sF.p (Ap (xT d l) i):=by
 have⟨m1,m2,m3,_,m5⟩:=h.mx;have yk:K5 l.length (Ap (xT d l)) wz (Aq d l) (fun κ=>∃P,Aq d l P∧∀c,c<sF.nc→jX (Ap (xT d l)) P c=κ c):=by
  refine⟨fun i hi=>?_,fun q hq=>?_,h.inv.cls.g,fun κ ⟨P,hP,e⟩=>⟨P,hP,fun q hq=>e q (by rw[jDb h.inv.run];exact hq)⟩⟩
  ·rw[h.hs0];exact IX hi
  rw[h.hs0];rfl
 have hg:=Y6 yk h.inv.run h.dec;have hg:prv l.length (fun i=>sF.p (Ap (xT d l) i)) (vU (Aq d l)) (ou (Ap (xT d l)) lv) (fun _=>false) none:=by
  have e:(fun i=>wz.dec (Ap (xT d l) i))=fun _=>false:=by rw[h.hs0];rfl
  rw[e] at hg;exact hg
 refine⟨hg,?_⟩;have x7:∀i,i<l.length→sF.p (Ap (xT d l) i)≤jE (kE adds) i:=fun i hi=>by
  have ha:=h.inv.cls.lt i hi;have h1:=h.ad.ch i hi;have h2:=jUu h.W ha (h.dec _ ha);rw[←h1,←m1] at h2;have hS:(0:Rat)<(sF.S (Ap (xT d l) i):Rat):=by exact_mod_cast h.inv.pos _ ha
  generalize (sF.S (Ap (xT d l) i):Rat)=S at h2 hS;refine Lj.1 fun hl=>?_
  have:=Rat.mul_lt_mul_of_pos_left hl hS;grind
 rcases qQn (q:=jE (kE adds)) (fun y hy=>by
  have:=Zw (y:=y) (n:=l.length) (M:=vU (Aq d l) y) (m:=kE adds) (fun x hx=>by
   have⟨g1,g2,_⟩:=m5 x hx
   exact⟨g1.nodup,g1.lt,Nm g2,qPf (fun P hP=>⟨hP.srt,hP.lt⟩) y g1⟩)
  rw[m2] at this;have e:vU (Aq d l) y*1=vU (Aq d l) y:=O6
  rwa[e] at this) _ _ _ hg (fun i _ e=>by cases e) with h1|⟨_,v,k,_,h2,hk,hd,hq⟩
 ·exact h1
 have:=x7 k hk;have:=h2 k hk hd;grind
theorem r37(a m W)(h3:0<m)(h4:m≤1000):Rk 37 [Iv a,Iv m] W (Iv (a%m)):=by
 have hE:=jVg a m h3;obtain⟨r,hr⟩:∃r,r=a.tmod m:=⟨_,O⟩;rw[←hr] at hE;have ha:=iN a (show m≠0 by omega);have zd:=iE a h3;have hF:a.emod m=a%m:=O;rw[hF] at hE;have hj:-m≤r∧r<m:=by
  by_cases h:r<0
  ·rw[if_pos h] at hE;omega
  rw[if_neg h] at hE;omega
 refine tW func37 ntmps37 fun hp=>?_;refine qA ?_;refine ke (GX O O O1) (qF hr.symm) ?_;refine tI (fun h=>?_) fun h=>?_
 ·rw[if_pos h] at hE;refine qA ?_;refine ke (qO O O) (qF (b:=a%m) (by rw[←hE];exact qK O1 O1)) ?_;exact nj
 rw[if_neg h] at hE;refine tV ?_;exact⟨_,O,by rw[hE];rfl,hp.Z⟩
variable{b k o:Nat}{w:World}
theorem NX{A B:List Value}(h:∀(j:Nat) (v:Value),(A++B)[j]? =some v→w.cell? ⟨b,o+j,none⟩=some v):∀(j:Nat) (v:Value),A[j]? =some v→w.cell? ⟨b,o+j,none⟩=some v:=fun j v e=>by
 grind
theorem jB2{A B C:List Value}(hk:A.length=k)(h:∀(j:Nat) (v:Value),(A++(B++C))[j]? =some v→w.cell? ⟨b,o+j,none⟩=some v):∀(j:Nat) (v:Value),B[j]? =some v→w.cell? ⟨b,o+k+j,none⟩=some v:=fun j v e=>by
 rw[Np];refine h _ v ?_;grind
variable{i:Nat}{m:List (List Nat×Rat)}
def sN(f:Nat→Nat):Nat→Nat
 |0=>0
 |k+1=>sN f k+f k
theorem jVd(f){k n}(h:k≤n):sN f k≤sN f n:=by
 induction n with
 |zero=>grind
 |succ n ih=>
  rcases Nat.lt_or_eq_of_le h with h|h
  ·exact bF (ih O1) (nH _ _)
  grind
theorem Lu{f g c}:∀k,(∀i,i<k→((f i:Nat):Rat)=g i*c)→((sN f k:Nat):Rat)=wr k g*c
 |0,_=>by
  show(0:Nat)=0*c
  simp
 |k+1,h=>by
  have ih:=Lu k (fun i hi=>h i O1);simp only[sN,wr];grind
def wF(m:List (List Nat×Rat))(i:Nat):Rat:=(m.getD i ([],0)).2
def pF(m:List (List Nat×Rat))(i:Nat):List Nat:=(m.getD i ([],0)).1
theorem LJ{x}(h:m[i]? =some x):wF m i=x.2∧pF m i=x.1:=by
 unfold wF pF;grind
theorem SJ:∀m:List (List Nat×Rat),wr m.length (wF m)=Bv m
 |[]=>rfl
 |(P,w)::m=>by
  have ih:=SJ m;rw[cF,Kt];show w+wr _ (wF m)=w+Bv m
  rw[ih]
theorem qO7(e):∀m:List (List Nat×Rat),wr m.length (fun i=>if e∈pF m i then wF m i else 0)=jE m e
 |[]=>rfl
 |(P,w)::m=>by
  have ih:=qO7 e m;rw[cF,Kt];show(if e∈P then w else 0)+wr _ (fun i=>if e∈pF m i then wF m i else 0)=(if e∈P then w else 0)+jE m e
  rw[ih]
theorem qFp(h:k<m.length)(i):jE (m.take (k+1)) i=jE (m.take k) i+if i∈pF m k then wF m k else 0:=by
 have e:=LJ (aA h);rw[e.1,e.2,aF h,TU];show _+((if i∈m[k].1 then m[k].2 else 0)+0)=_
 grind
theorem Su(m i):(m.map (·.1)).getD i []=pF m i:=by
 unfold pF;grind
variable{sP:Option Addr}{w':World}{κ:Nat}
section
theorem qPr(m):m.map (·.2)=lm m.length (wF m):=by
 apply dI;intro i;by_cases h:i<m.length
 ·rw[yI h,bH,aA h];exact aK _ (LJ (aA h)).1.symm
 rw[bY O6,bY (by rw[qT];omega)]
def EF(gp:Nat→Option Addr×Nat)(m:List (List Nat×Rat)):List (Option Addr×Nat×Nat):=lm m.length fun j=>((gp j).1,(pF m j).length,(gp j).2)
structure FT(sP:Option Addr)(gp:Nat→Option Addr×Nat)(sV:Option Addr)(m:List (List Nat×Rat))(w:World):Prop where
 P:ig w 1 jO sP (EF gp m)
 p:∀j,j<m.length→ig w 1 eN (gp j).1 (pF m j)
 V:ig w 3 eQ sV (lm m.length (wF m))
theorem FT.j1{gp sV}(h:FT sP gp sV m w)(hk:ax [] w w'):FT sP gp sV m w':=⟨h.P.i7 hk,fun j hj=>(h.p j hj).i7 hk,h.V.i7 hk⟩
structure Aj(F:List Nat→Prop)(κ:Nat)(m:List (List Nat×Rat)):Prop where
 len:m.length≤32
 all:∀x∈m,F x.1∧0<x.2∧BQ κ x.2
 nd:(m.map (·.1)).Nodup
 sum:Bv m=1
 ch:∀k i,BQ κ (jE (m.take k) i)
theorem Aj.get{F}(h:Aj F κ m){i}(hi:i<m.length):F (pF m i)∧0<wF m i∧BQ κ (wF m i):=by
 have e:=LJ (aA hi);rw[e.1,e.2];exact h.all _ (bX hi)
theorem qQs(gp m):CW gp (m.map (·.1))=EF gp m:=by
 unfold CW EF;rw[aH];exact jH fun j _=>by rw[Su]
theorem jV5(h:ig w 1 eN s P):ig w 1 eI s (P.map fun x:Nat=>(x:Int)):=fun i x hx=>by
 rw[bH] at hx;cases hp:P[i]? with
 |none=>grind
 |some y=>
  rw[hp] at hx;obtain rfl:=lI hx;exact h i y hp
theorem jEp{e:Nat}:decide ((e:Int)∈P.map fun x:Nat=>(x:Int))=decide (e∈P):=by
 grind
theorem jBf(x):bs ((jY 256 x).reverse.dropWhile (·==0))=ki x:=by
 rw[JV];cases hl:(jY 256 x).reverse with
 |nil=>rfl
 |cons d l=>
  have e:jY 256 x=l.reverse++[d]:=by
   have:=aK List.reverse hl;rw[mX] at this;rw[this,List.reverse_cons]
  have hd:=O0 O2 x _ _ e;rw[List.dropWhile_cons,if_neg O6]
attribute [local irreducible] ki
theorem jVr(x w)(hx:Fit x):Rk 182 [.string (ki x)] w (.bool (decide (x=0))):=by
 have e:decide ((if x<0 then(-1) else if x=0 then 0 else 1)=0)=decide (x=0):=by
  rw[if_neg (mU x)];by_cases h:x=0<;>simp[h]
 refine tW func182 ntmps182 fun hp=>?_;refine tD (Aw 0 _ O2) fun w1 hp=>?_;refine tD (BY x 0 _ hx (Fit.small O2)) fun w2 hp=>ke (zW O O) (qV e) ?_;exact nj
theorem X3(x w)(hx:Fit x):Rk 49 [.string (ki x)] w (.string (ki x)):=by
 refine tW func49 ntmps49 fun hp=>?_;exact mCo
theorem zBd(x w)(hx:Fit x):Rk 131 [.string (ki x)] w (.string (ki x)):=by
 have h:=c65 _ w (fun d hd=>vQ O2 x d (List.mem_reverse.1 hd)) (by rw[sZ];exact bF hx.d8 O2);rw[jBf,←JV] at h;exact h
end
section
section
variable{F:List Nat→Prop}
end
attribute [local irreducible] ki CS BR
end
def Cx:List Nat→Nat
 |[]=>0
 |i::P=>2^i+Cx P
theorem jK6:Cx []=0:=O
theorem Ks(A x):Cx (A++[x])=Cx A+2^x:=by
 induction A with
 |nil=>show 2^x+0=0+2^x;omega
 |cons i A ih=>
  show 2^i+Cx (A++[x])=2^i+Cx A+2^x
  omega
theorem NI(P:List Nat):P=[]∨∃A x,P=A++[x]:=by
 rcases iQ P with h|⟨A,x,h⟩
 ·grind
 grind
theorem NQ:∀(n:Nat) (P:List Nat) (x:Nat),P.length=n→P.Pairwise (·<·)→(∀i∈P,i<x)→Cx P<2^x
 |n,P,x,hn,hs,hl=>by
  rcases NI P with rfl|⟨A,y,rfl⟩
  ·exact nT x
  have ra:=fO.1 hs;have h1:=NQ _ A y O ra.1 (fun i hi=>ra.2.2 i hi y O4);have h2:2^(y+1)≤2^x:=bG O2 (hl y O4);rw[Ks];omega
termination_by n=>n
decreasing_by
 grind
theorem YQ:∀(n:Nat) (P Q:List Nat),P.length=n→P.Pairwise (·<·)→Q.Pairwise (·<·)→Cx P=Cx Q→P=Q
 |n,P,Q,hn,hP,hQ,e=>by
  rcases NI P with rfl|⟨A,x,rfl⟩
  ·rcases NI Q with rfl|⟨B,y,rfl⟩
   ·rfl
   rw[Ks] at e;have:=nT y;have e0:Cx []=0:=O;omega
  rcases NI Q with rfl|⟨B,y,rfl⟩
  ·rw[Ks] at e;have:=nT x;have e0:Cx []=0:=O;omega
  have hg:=fO.1 hP;have hh:=fO.1 hQ;have h1:=NQ _ A x O hg.1 (fun i hi=>hg.2.2 i hi x O4);have h2:=NQ _ B y O hh.1 (fun i hi=>hh.2.2 i hi y O4);rw[Ks,Ks] at e;have ha:x=y:=by
   rcases Rv x y with h|h|h
   ·have:2^(x+1)≤2^y:=bG O2 h;omega
   ·exact h
   have:2^(y+1)≤2^x:=bG O2 h;rw[dU] at this;omega
  subst ha;rw[YQ _ A B O hg.1 hh.1 O1]
termination_by n=>n
decreasing_by
 grind
def HH(m:List (List Nat×Rat))(k a:Nat):Bool:=(range k).any fun j=>decide (Cx (pF m j)=a)
theorem S0{a}:HH m k a=true↔∃j,j<k∧Cx (pF m j)=a:=by
 unfold HH;simp
def Jo:Ar Nat where
 kd:=.int .u64
 enc a:=.int .u64 (a:Int)
 same a b:=by
  simp[Instr.sameNow];grind
 bits a:=by simp[Instr.sameBits]
 plain P w e t a h:=by
  exact T7
variable{F:Fr}{P:Program}{aft:Array Edge}{d:Option Tmp}{g:Option (Nat×Bool)}{t t':Nat}{ty:TypeId}{y:Operand}
section
section
variable{n:ky}{pos:String}{x:Operand}
theorem jJt{a:Nat}(hx:ev n F x= .int .u64 (a:Int))(hy:ev n F y= .int .u64 ((2^k:Nat):Int))(ha:a<2^k)(hk:k<64):PV P n w F ⟨d,.binOp .or t x y t',ty,pos,aft,g⟩ (.int .u64 ((a+2^k:Nat):Int)):=by
 have hb:2^k<_:=gK O2 hk;have h1:(BitVec.ofInt 64 a|||BitVec.ofInt 64 (2^k:Nat)).toNat=a+2^k:=by
  rw[Rq,kG 64 a O1,kG 64 (2^k) hb,rU,oT];have h:=XK ha 1;rw[rW] at h;exact h.symm
 have h2:a+2^k<18446744073709551616:=by
  have:2^(k+1)≤2^64:=bG O2 hk;rw[dU] at this;omega
 have h3:=wU h2;simp only[PV,execOp,hx,hy,eqGuard,binOp,Op.intBits];show Sem.run P (pure (Next.value (Value.int _ (IntKind.u64.wrap ((BitVec.ofInt 64 _|||BitVec.ofInt 64 _).toNat))))) w=_
 rw[h1,h3];rfl
end
attribute [local irreducible] Cx
theorem r50(d:DW)(s sP:Option Addr)(l:List EW)(c cP κ:Nat)(gp:Nat→Option Addr×Nat)(m:List (List Nat×Rat))(W:World)(hD:DE d s l W)(ze:d.kd=3)(hz:0≤d.sz)(hM:Aj (Aq d l) κ m)(hP:ig W 1 jO sP (EF gp m))(hr:∀j,j<m.length→ig W 1 eN (gp j).1 (pF m j)):
  Rk 50 [d.v,.slice s l.length c,.slice sP m.length cP] W (.bool true):=by
 have ys:=hD.le;have hE:=hM.len;have mT:prog.underlying 200=some (.map 139 4):=O3;have mK:prog.underlying 139=some Jo.kd:=O3;refine tW func50 ntmps50 fun hp=>?_;refine qR ?_;refine tQ fun w1 bd hp=>?_;have hp:=hp.I 0 d.L O O;refine qA (tF (yS Jo hp) fun w2 mb hp=>?_);have hp:Hp W [] w2 [yA Jo mb (uE (HH m 0)),bu bd 13 (qE d.L) 28]:=by
  rw[PL (HH m 0) (fun a=>O)];exact hp
 refine qA (qQ ([6,9,10,12]++range' 16 26) (fun(k:Nat) F=>F.put 16 (.int _ k)) (fun k w'=>k≤m.length∧Hp W [] w' [yA _ mb (uE (HH m k)),_]) (fun k=>m.length-k) 0 (qB (ka.eq .refl) O) ⟨O1,hp⟩ ?_);clear hp;rintro u k w3 ⟨hk,hp⟩;refine tI (fun h=>?_) fun h=>?_
 ·have hl:k<m.length:=O1;have⟨bp,op,h7,hh⟩:=jR hP hl;have hn:W.cell? ⟨bp,op+k*1,_⟩=some (.slice (gp k).1 (pF m k).length (gp k).2):=hh 0 _ O;have cY:=hr k hl;have hF:=(hM.get hl).1;have xv:(pF m k).length≤40:=by
   have:=uK hF.srt (fun i _=>bL i) hF.lt;omega
  refine tD (UY d s _ c _ l _ _ (hD.j1 hp.Z) ze hz hF (cY.i7 hp.Z)) fun w4 hp=>?_;refine AL ?_;refine qQ ([10,12]++range' 27 9) (fun j F=>(F.put 10 (.int _ (Cx ((pF m k).take j):Nat))).put 27 (.int _ j)) (fun j w'=>j≤(pF m k).length∧Hp W [] w' _) (fun j=>(pF m k).length-j) 0 (qB (qB (ka.eq .refl) (by rw[List.take_zero,jK6];rfl)) O) ⟨O1,hp⟩ ?_;clear hp;rintro u2 j w5 ⟨hj,hp⟩;refine tI (fun h2=>?_) fun h2=>?_
  ·have bw:j<(pF m k).length:=O1;obtain⟨x,hx⟩:∃x,(pF m k)[j]? =some x:=⟨_,aA bw⟩;have zz:=hF.lt x (aG hx);have⟨bs,os,ha,hc⟩:=cY j x hx;have yk:=hc 0 _ O;have⟨hU,ex⟩:=aI.1 hx;have hg:Cx ((pF m k).take j)<2^x:=by
    refine NQ _ _ x O (hF.srt.sublist (pY _ _)) (fun i hi=>?_);have⟨q,hq,e⟩:=lL.1 hi;have h1:=hF.srt;rw[dX] at h1;have:=h1 q j O1 hU O1;omega
   have zd:Cx ((pF m k).take (j+1))=Cx ((pF m k).take j)+2^x:=by
    rw[aF hU,ex,Ks]
   have mo:1*2^x<18446744073709551616:=by
    have:2^x<2^64:=gK O2 O1;omega
   refine qA (ke (H3 O O O1 mo) (qF (by rw[mH])) ?_);refine ke (jJt O O hg O1) O ?_;rw[←zd];refine Fv ?_;exact Ig
  obtain rfl:j=(pF m k).length:=O1;rw[dF];have x4:HH m k (Cx (pF m k))=false:=by
   rw[Bool.eq_false_iff];intro hm;have⟨j,hj,e⟩:=S0.1 hm;have h1:=(hM.get (Ln hj hl)).1;have e2:=YQ _ _ _ O h1.srt hF.srt e;have g1:=LJ (aA (Ln hj hl));have g2:=LJ (aA hl);have df:=hM.nd;rw[eJ,dX] at df;refine df j k O6 O6 hj ?_;rw[mI,mI,←g1.2,←g2.2,e2]
  refine qA (ke (Dw hp 0 O O O mT mK (qJ O)) ((FK _ _).trans (aK _ x4)) ?_);refine qA ?_;refine tJ (tO (G0 hp 0 O O O O mT mK) fun w6 hp=>?_);have eS:(fun a=>decide (a=Cx (pF m k))||HH m k a)=HH m (k+1):=by
   funext a;rw[iA,gJ,dV,S0,S0];constructor
   ·grind
   rintro⟨j,hj,e⟩;by_cases vt:j=k
   ·grind
   exact .inr ⟨j,O1,e⟩
  rw[eS] at hp;exact FL
 refine qA ?_;exact Fq
end
theorem r55(n:Nat)(sP sV cP cV κ gp m W)(hF:∀k,k<m.length→(pF m k).Pairwise (·<·)∧∀i∈pF m k,i<n)(hb:∀k i,BQ κ (jE (m.take k) i))(hw:∀k,k<m.length→BQ κ (wF m k))(hκ:κ≤6000000000)(hn:n≤1000)(hm:m.length≤1000)(hA:FT sP gp sV m W):
  Rt 55 [Iv (n:Int),.slice sP m.length cP,.slice sV m.length cV] W (fun v w'=>∃g,v= .slice (Ad g) n n∧kg (Ad g) n (lm n (jE m))∧Hp W [] w' [qG eQ 49 3 (Ad g) n (lm n (jE m))]):=by
 refine tW func55 ntmps55 fun hp=>?_;refine qA ?_;refine tF (N0 DX none hp O O O O O O O O1) fun w1 g⟨hv,hp⟩=>?_;rw[Ec] at hp hv;have sa:∀f:Nat→Option Rat,kg _ n (lm n f):=fun f=>jZ hv (by rw[qT,qT])
 have sc:∀f:Nat→Rat,kg _ n (lm n f):=fun f=>jZ hv (by rw[qT,qT])
 rw[JT (f:=fun i=>some ((fun _=>0) i))] at hp;have hp:=hp;refine qA (qQ ([8]++range' 17 8) (fun(k:Nat) F=>F.put 17 (.int _ k)) (fun k w'=>k≤n∧Hp W [] w' [qG _ 49 3 _ n (lm n fun i=>if i<k then some ((fun _=>0) i) else none)]) (fun k=>n-k) 0 (qB (ka.eq .refl) O) ⟨O1,hp⟩ ?_);clear hp;rintro u k w2 ⟨hk,hp⟩;refine tI (fun h=>?_) fun h=>?_
 ·have hl:k<n:=O1;refine tD (wM _) fun w3 hp=>?_;refine qA (tO (vL _ _ k (some ((fun _=>0) k)) hp 0 O (sa _) (by rw[qT];omega) O O LK O O (qD O)) fun w4 hp=>?_);rw[JQ] at hp;exact FL
 obtain rfl:n=k:=O1;rw[JU,R0] at hp;have hp:Hp W [] w2 [qG eQ 49 3 _ n (lm n (jE (m.take 0)))]:=hp;refine qA (qQ ([9,10,12]++range' 27 25) (fun(k:Nat) F=>F.put 27 (.int _ k)) (fun k w'=>k≤m.length∧Hp W [] w' [qG eQ 49 3 _ n (lm n (jE (m.take k)))]) (fun k=>m.length-k) 0 (qB (ka.eq .refl) O) ⟨O1,hp⟩ ?_);clear hp;rintro u2 k w3 ⟨hk,hp⟩;refine tI (fun h2=>?_) fun h2=>?_
 ·have hl:k<m.length:=O1;have⟨bp,op,h7,hh⟩:=jR hA.P hl;have hy:W.cell? ⟨bp,op+k*1,_⟩=some (.slice (gp k).1 (pF m k).length (gp k).2):=hh 0 _ O;have⟨bw,ow,az,hz⟩:=jR hA.V hl;have cY:=hA.p k hl;have⟨yf,h4⟩:=hF k hl;have xv:(pF m k).length≤1000:=by
   have:=uK yf (fun i _=>bL i) h4;omega
  refine qA ?_;have hp:Hp W [] w3 [qG eQ 49 3 (Ad g) n (lm n fun i=>if i∈(pF m k).take 0 then jE (m.take (k+1)) i else jE (m.take k) i)]:=by
   rw[jH (g:=jE (m.take k)) (fun i _=>if_neg O4)];exact hp
  refine qQ ([12]++range' 34 17) (fun(j:Nat) F=>F.put 34 (.int _ j)) (fun j w'=>j≤(pF m k).length∧Hp W [] w' [qG eQ 49 3 _ n (lm n fun i=>if i∈(pF m k).take j then jE _ i else jE _ i)]) (fun j=>(pF m k).length-j) 0 (qB (ka.eq .refl) O) ⟨O1,hp⟩ ?_;clear hp;rintro u3 j w4 ⟨hj,hp⟩;refine tI (fun h3=>?_) fun h3=>?_
  ·have ha:j<(pF m k).length:=O1;obtain⟨x,hx⟩:∃x,(pF m k)[j]? =some x:=⟨_,aA ha⟩;have v1:=aG hx;have ht:=h4 x v1;have⟨bs,os,hg,hc⟩:=cY j x hx;have yk:=hc 0 _ O;have⟨hU,ex⟩:=aI.1 hx;have h5:x∉(pF m k).take j:=fun hm=>by
    have⟨q,hq,e⟩:=lL.1 hm;have h1:=yf;rw[dX] at h1;grind
   have x4:jE (m.take k) x+wF m k=jE (m.take (k+1)) x:=by
    rw[qFp hl,if_pos v1]
   have uk:∀w',Hp W [] w' [qG eQ 49 3 (Ad g) n (lm n fun i=>if i∈(pF m k).take j then jE (m.take (k+1)) i else jE (m.take k) i)]→∀q v,(eQ (jE (m.take k) x))[q]? =some v→w'.cell? ⟨g,0+x*3+q,none⟩=some v:=fun w' hp q v e=>by
    have:=zM (qZ hp 0 O (sc _) jT) ht q v;grind
   subst az;refine qA ?_;refine xL 12 O jG O3 (fun w'=>Hp W [] w' _) hp.U ?_;have hp:=hp.U;refine qX (tP (fun w hp=>qL O O O O (uk _ hp)) ?_);refine qX ?_;refine tP (fun w hp=>qL O O O O (fun q v e=>hp.j3 (hz q v e))) (tK (Gb _ (hb k x) (hw k hl) O1) ?_);rintro _ w5 ⟨rfl,vw⟩;refine⟨hp.V vw,?_⟩;have hp:=hp.V vw;refine qX (qU ?_);refine gx.mono (vL eQ _ x _ hp 0 O (sc _) (by rw[qT];omega) O O jT O O (qD O)) ?_;rintro _ w6 ⟨rfl,hp⟩;have hp:Hp W [] w6 [_]:=hp
   rw[vF,jH (g:=fun i=>if i∈(pF m k).take (j+1) then jE (m.take (k+1)) i else jE (m.take k) i) (fun i _=>by
    rw[aF hU,ex];grind)] at hp
   refine Fv ?_;exact Ig
  obtain rfl:j=(pF m k).length:=O1
  rw[dF,jH (g:=jE (m.take (k+1))) (fun i _=>by
   by_cases hi:i∈pF m k
   ·grind
   rw[if_neg hi,qFp hl,if_neg hi]
   grind)] at hp
  exact FL
 obtain rfl:k=m.length:=O1;rw[dF] at hp;refine tV ?_;exact⟨_,O,g,O,sc _,hp⟩
theorem zBf(d s sC sD sY l c cC cD cY κ q y dec W)(hD:DE d s l W)(ze:d.kd=3)(hz:0<d.sz)(hl:l.length≤5)(hex:∃P,Aq d l P)
  (hC:ig W 3 eQ sC (lm l.length q)) (h3:ig W 1 Ay sD (lm l.length dec)) (hY:ig W 3 eQ sY (lm l.length y)) (gS:∀i,i<l.length→0≤y i) (gz:∀i,i<l.length→BQ 34273200056 (y i)) (ii:∀i,i<l.length→BQ κ (q i)) (hκ:κ≤6000000000) (hg:wr l.length (fun i=>if dec i then 0 else y i)=1):
  Rt 125 [d.v,.slice s l.length c,.slice sC l.length cC,.slice sD l.length cD,.slice sY l.length cY] W (fun v w'=>v= .tuple #[QV (vU (Aq d l) y-wr l.length (fun i=>if dec i then y i*q i else 0)),.bool true]∧BQ 500000000000 (vU (Aq d l) y-wr l.length (fun i=>if dec i then y i*q i else 0))∧ax [] W w'):=by
 have vv:∀k,k≤_→BQ (1+k*(34273200056+1)) (wr k (fun i=>if dec i then 0 else y i)):=HI (n:=l.length) (fun i hi=>by
  split
  ·exact BQ.zero O2
  exact gz i hi)
 have ud:∀k,k≤_→BQ _ (wr k (fun i=>if dec i then y i*q i else 0)):=HI (n:=l.length) (fun i hi=>by
  split
  ·exact BQ.mul (gz i hi) (ii i hi)
  exact BQ.zero O1)
 have vw:∀k,k≤l.length→k*(34273200056+1)≤5*(34273200056+1)∧k*(34273200056+κ+1)≤5*(34273200056+6000000000+1):=fun k hk=>⟨O1,dE O1 O1⟩
 refine tW func125 ntmps125 fun hp=>?_;refine qR ?_;refine tQ fun w1 bd hp=>?_;have hp:=hp.I 0 d.L O O;refine tQ fun w2 bc hp=>?_;have hp:Hp W [] w2 [bu _ 3 (qE DV) 49,bu bd 13 _ 28]:=hp;refine qA ?_;refine xI O O1 (fun _=>tD (wM _) fun w3 hp=>?_);refine tC (wM _) fun w4 hp=>?_;refine tQ fun w5 bf hp=>?_;refine tQ fun w6 bg hp=>?_;refine tS fun w7 hp=>?_;refine tS fun w8 hp=>?_;have hp:=(hp.I 0 (eQ (wr 0 fun i=>if dec i then y i*q i else 0)) O O).norm 1 (eQ (wr 0 fun i=>if dec i then 0 else y i)) O O;have hp:Hp W [] w8 [bu _ 3 _ 49,bu _ 3 _ 49,_,_]:=hp;refine qA (qQ ([11,14,15]++range' 29 30) (fun(k:Nat) F=>F.put 29 (.int _ k)) (fun k w'=>k≤l.length∧Hp W [] w' [bu _ 3 (qE (eQ (wr k _))) 49,bu _ 3 (qE (eQ (wr k _))) 49,_,_]) (fun k=>l.length-k) 0 (qB (ka.eq .refl) O) ⟨O1,hp⟩ ?_);clear hp;rintro u k w9 ⟨hk,hp⟩;have h4:=vw k hk;have hy:=vv k hk;have hj:=ud k hk;refine tI (fun h=>?_) fun h=>?_
 ·have ha:k<l.length:=O1;have⟨ba,oy,ht,eu⟩:=jR hY ha;have⟨bq,oq,ow,hh⟩:=jR hC ha;have⟨be,oe,hM,hE⟩:=jR h3 ha;have h5:=hE 0 _ O;subst ht ow;refine qA (tR (qL O O O O (fun j v e=>hp.j3 (eu j v e))) ?_);refine tQ fun uy bh hp=>?_;refine qR ?_;refine tR qY (tS fun uz hp=>?_);have hp:=hp.I 0 (eQ _) O O;have hp:Hp W [] _ [bu _ 3 _ 49,_,_,_,_]:=hp;have fq:=BQ.fq (gz k ha) O2;have hn:decide (Bo (y k)<0)=false:=by
   refine aB ?_;have:=gS k ha;unfold Bo;split
   ·omega
   rw[if_neg O6];omega
  refine tD (Ny _ fq) fun u0 hp=>?_;refine tE (EA _ fq) fun u5 hp=>?_;refine jL ?_;rw[hn];refine E0 ?_;cases hdk:dec k with
  |true=>
   refine jB O ?_;have e1:wr (k+1) (fun i=>if dec i then y i*q i else 0)=wr k (fun i=>if dec i then y i*q i else 0)+y k*q k:=by
    simp only[wr,hdk,if_true]
   have e2:wr (k+1) (fun i=>if dec i then 0 else y i)=wr k (fun i=>if dec i then 0 else y i):=by
    simp only[wr,hdk,if_true];grind
   refine xL 8 O jG O3 (fun w'=>Hp W [] w' _) hp.U ?_;have hp:=hp.U;refine qX ?_;refine tP (fun w hp=>qL O O O O (fun j v e=>hp.j3 (hh j v e))) (tK (Fh _ (gz k ha) (ii k ha) O1) ?_);rintro _ u2 ⟨rfl,hq⟩;refine⟨hp.V hq,?_⟩;have hp:=hp.V hq;refine tK (Gb _ hj (BQ.mul (gz k ha) (ii k ha)) O1) ?_;rintro _ u4 ⟨rfl,hx⟩;refine⟨hp.V hx,?_⟩;have hp:=hp.V hx;refine qU ?_;refine gx.mono (qW hp 1 O O O O (qD O) O) ?_;rintro _ u3 ⟨rfl,hp⟩;have hp:=hp.I 1 (eQ (wr _ _)) O (by rw[e1];rfl);have hp:=hp.E;rw[←e2] at hp;exact FL
  |false=>
   refine qN O ?_;have e1:wr (k+1) (fun i=>if dec i then y i*q i else 0)=wr k (fun i=>if dec i then y i*q i else 0):=by
    simp only[wr,hdk];grind
   have e2:wr (k+1) (fun i=>if dec i then 0 else y i)=wr k (fun i=>if dec i then 0 else y i)+y k:=by
    simp only[wr,hdk];rfl
   refine tD (Gb _ hy (gz k ha) O1) fun u2 hp=>?_;refine tS fun u3 hp=>?_;have hp:=hp.I 2 (eQ (wr _ _)) O (by rw[e2];rfl);have hp:=hp.E;rw[←e1] at hp;exact FL
 obtain rfl:k=l.length:=O1;have vx:(!decide (wH (wr l.length fun i=>if dec i then 0 else y i) 1=0))=false:=by
  rw[hg];rfl
 refine qR ?_;refine tX fun hp=>?_;refine qX ?_;refine tK (GK 1 _ O2 O2) ?_;rintro _ uy ⟨rfl,h8⟩;refine⟨hp.V h8,?_⟩;have hp:=hp.V h8;refine tK (IM (k:=1) _ hy (BQ.one O2) O1) ?_;rintro _ uz ⟨rfl,hm⟩;refine⟨hp.V hm,?_⟩;have hp:=hp.V hm;refine kp O (fun w hp=>kB O O) (qV vx) (qU ?_);refine qN O (qR ?_);refine ke (qL O O O O (hp.i6 3 O O)) (O:_=d.v) (ke qP (O:_=Value.slice s _ c) ?_);refine qA ?_
 (apply Ax;exact qC O (fun _ _=>O3) O (jVu d s sY c cY 34273200056 l y _ (hD.j1 hp.Z) ze hz O1 (hY.i7 hp.Z) gz O2 (by
  omega));rintro _ u0 dj)
 rcases dj with⟨sP,cP,P,rfl,hP,hbest,hvP,hp2⟩|⟨rfl,hno,_⟩
 ·have hp:=hp.V hp2.Z;clear hp2;have e8:=Tj hP hbest;have xv:P.length≤5:=by
   have:=uK hP.srt (fun i _=>bL i) hP.lt;omega
  have ri:BQ (1+5*(34273200056+1)) _:=(NF gz P hP.lt).mono (by
   omega)
  rw[e8];refine qA ?_;refine tQ fun u5 bi hp=>?_;refine tT fun u2 hp=>?_;refine tD (HJ _ ri hj O1) fun u4 hp=>?_;refine tT fun u3 hp=>?_;refine qA ?_;exact yP O O O O O (hp.j2 3 O O) ⟨_,O,O,(BQ.sub ri hj).mono O1,hp.Z⟩
 have⟨P,hP⟩:=hex;exact absurd hP (hno P)
structure E7(sL:Option Addr)(lr:Nat→Option Addr×Nat)(n:Nat)(lv:List (Rat×(Nat→Rat)))(w:World):Prop where
 L:ig w 4 E3 sL (lH lr n lv)
 l:∀j,j<lv.length→ig w 3 eQ (lr j).1 (lm n (lv.getD j Gv).2)
theorem E7.j1{sL lr lv}(h:E7 sL lr n lv w)(hk:ax [] w w'):E7 sL lr n lv w':=⟨h.L.i7 hk,fun j hj=>(h.l j hj).i7 hk⟩
theorem r54(d s sC sL l c cC cL κ q p lr lv W)(hD:DE d s l W)(ze:d.kd=3)(hz:0<d.sz)(hl:l.length≤5)(hex:∃P,Aq d l P)
  (hC:ig W 3 eQ sC (lm l.length q)) (hL:E7 sL lr l.length lv W) (rh:lv.length≤1000) (gz:∀x∈lv,∀i,i<l.length→BQ 34273200056 (x.2 i)) (ii:∀i,i<l.length→BQ κ (q i)) (hκ:κ≤6000000000) (h5:prv l.length p (vU (Aq d l)) lv (fun _=>false) none):
  Rk 54 [d.v,.slice s l.length c,.slice sC l.length cC,.slice sL lv.length cL] W (.bool (decide (∀i,i<l.length→q i=p i))):=by
 have xb:(lH lr l.length lv).length=_:=qT;refine tW func54 ntmps54 fun hp=>?_;refine qR ?_;refine tQ fun w1 bd hp=>?_;have hp:=hp.I 0 d.L O O;refine qA ?_;refine tF (yE Ay _ hp O O O O O O O O1 O) fun w2 g⟨hv,hp⟩=>?_;rw[Ec] at hp hv;have sa:∀f:Nat→Bool,kg _ _ (lm _ f):=fun f=>jZ hv (by rw[qT,qT])
 have hp:Hp W [] w2 [_,bu bd 13 _ 28]:=hp;refine qA (qQ ([10,11,12,13,14,15,16]++range' 22 66) (fun(z:Nat×(Nat→Bool)×Option _) F=>(F.put 10 (.int _ (z.1))).put 22 (.int _ (z.1))) (fun z w'=>z.1≤lv.length∧prv _ p _ (lv.drop z.1) z.2.1 z.2.2∧(∀k,z.1=k+1→∃u,z.2.2=some u∧(lv.getD k Gv).1=u∧BQ 500000000000 u)∧(∀i,i<l.length→z.2.1 i=true→q i=p i)∧Hp W [] w' [qG _ 4 1 _ _ (lm _ z.2.1),_]) (fun z=>lv.length-z.1) (0,fun _=>false,none) (qB (qB (ka.eq .refl) O) O) ⟨O1,h5,fun k hk=>(by cases hk),fun _ _ h=>(by cases h),hp⟩ ?_);clear hp;rintro u ⟨k,dec,last⟩ w3 ⟨hk,zp,tz,hE,hp⟩;dsimp only at hk zp tz hE hp⊢;refine tI (fun h=>?_) fun h=>?_
 ·have ha:k<lv.length:=O1;obtain⟨x,hx⟩:∃x,lv[k]? =some x:=⟨_,aA ha⟩;have h4:lv.getD k Gv=x:=by rw[aC,hx];rfl
  have v1:=aG hx;have hV:lv.drop k=x::lv.drop (k+1):=by
   have⟨h1,h2⟩:=aI.1 hx;rw[aT h1,h2]
  rw[hV] at zp;have hM:=gz x v1;have hn:=hL.l k ha;rw[h4] at hn;have⟨bl,ol,bz,hP⟩:=jR hL.L ha;rw[h4] at hP;obtain⟨sY,hQ⟩:∃sY,sY=(lr k).1:=⟨_,O⟩;obtain⟨cY,hY⟩:∃cY,cY=(lr k).2:=⟨_,O⟩;rw[←hQ] at hn;rw[←hQ,←hY] at hP;have⟨v,y⟩:=x;have hP:∀(j:Nat) (w:Value),(eQ v++[Value.slice sY l.length cY])[j]? =_→_=_:=hP;have⟨gS,hq,x0,ys,xy,hK⟩:=zp;have h9:wr _ (fun i=>if dec i then y i*q i else 0)=_:=wx fun i hi=>by
   by_cases h6:dec i=true
   ·rw[hE i hi h6]
   simp[h6]
  refine qA (ke (qL O O O O (fun j v e=>hp.j3 (hP j v e))) (Qw O) ?_);refine tF (OG hp (qJ O)) fun w4 bc hp=>qR ?_;refine tR qY (tO (OI hp 0 O O O O (qD O) O) fun w5 hp=>?_);have hp:=hp.I 0 (eQ v++[.slice sY _ cY]) O O;have hp:Hp W [] w5 [bu _ 4 _ 204,_,_]:=hp;refine qR (ke (qL O O O O (hp.i6 2 O O)) (O:_=d.v) ?_);refine ke qP (O:_=Value.slice s _ c) (tL (zBf d s sC _ sY l c cC _ cY κ q y _ _ (hD.j1 hp.Z) ze hz hl hex (hC.i7 hp.Z) (qZ hp 1 O (sa _) (fun _=>O)) (hn.i7 hp.Z) gS hM ii hκ hq) ?_);rintro _ w6 ⟨rfl,e0,vy⟩;have hp:=hp.V vy;rw[h9,x0] at e0⊢;refine qA ?_;refine tQ fun w7 bf hp=>?_;refine tT fun w8 hp=>?_;have hp:=hp.I 0 (eQ v) O O;have hp:Hp W [] w8 [bu _ 3 _ 49,_,_,_]:=hp;refine jL ?_;apply vX;rfl;rfl;exact RP O O;exact qV (b:=false) O4;refine jL (qN O ?_);refine qR (uD (range' 45 13) (fun(_:Unit) F=>F.put 57 (.bool false)) (fun _ w'=>Hp W [] w' [bu bf 3 (qE (eQ v)) 49,bu bc 4 (qE (eQ v++[.slice sY l.length cY])) 204,qG Ay 4 1 (Ad g) l.length (lm l.length dec),bu bd 13 (qE d.L) 28]) ?_ ?_)
  ·refine jW jG O3 (fun w'=>Hp W [] w' _) hp.U ?_;have hp:=hp.U;by_cases rf:k=0
   ·have d4:decide ((k:Int)>0)=_:=aB O1;refine qX ?_;rw[d4];refine xA ?_;apply ER;rfl;rfl;rfl;rfl;exact hp;refine xA (qU ?_);exact⟨(),qB O5 O,hp⟩
   obtain⟨k',rfl⟩:∃k',k=k'+1:=⟨k-1,O1⟩;obtain⟨u1,rfl,tj,h8⟩:=tz k' O;have io:=ys u1 O;have⟨be,oa,hZ,hH⟩:=jR hL.L (show k'<lv.length by omega);rw[tj] at hH;have d4:decide (((k'+1:Nat):Int)>0)=_:=aD O1;have d5:decide (wH v u1<0)=false:=by
    refine aB ?_;unfold wH;rw[if_neg (Lj.2 io)];split<;>omega
   refine qX ?_;rw[d4];refine tN k' ?_;refine xA ?_;apply yG;rfl;rfl;rfl;intro w hp;exact qL O O O O (NX (fun j v e=>hp.j3 (hH j v e)));exact(O:_=QV u1);refine tK (IM _ e0 h8 O2) ?_;rintro _ w9 ⟨rfl,ht⟩;refine⟨hp.V ht,?_⟩;have hp:=hp.V ht;refine xA ?_;rw[d5];refine qU ?_;exact⟨(),qB O5 O,hp⟩
  clear hp;rintro u2 _ w9 hp;refine tJ ?_;have hp:Hp W [] w9 [bu bf 3 (qE (eQ v)) 49,bu bc 4 (qE (eQ v++[.slice sY l.length cY])) 204,qG Ay 4 1 (Ad g) l.length (lm l.length fun i=>if i<0 then dec i||decide (0<y i) else dec i),bu bd 13 (qE d.L) 28]:=by
   rw[jH (g:=dec) (fun i _=>if_neg O1)];exact hp
  refine qQ ([15,16]++range' 61 24) (fun(j:Nat) F=>F.put 61 (Iv (j:Int))) (fun j w'=>j≤l.length∧(∀i,i<j→(dec i||decide (0<y i))=true→q i=p i)∧Hp W [] w' [bu bf 3 (qE (eQ v)) 49,bu bc 4 (qE (eQ v++[.slice sY l.length cY])) 204,qG Ay 4 1 (Ad g) l.length (lm l.length fun i=>if i<j then dec i||decide (0<y i) else dec i),bu bd 13 (qE d.L) 28]) (fun j=>l.length-j) 0 (qB (ka.eq .refl) O) ⟨bL _,fun i hi=>absurd hi (mU i),hp⟩ ?_;clear hp;rintro u3 j uy ⟨hj,hU,hp⟩;refine tI (fun h2=>?_) fun h2=>?_
  ·have bw:j<l.length:=O1;have⟨ba,oy,hF,eu⟩:=jR hn bw;have⟨bq,oq,ow,hy⟩:=jR hC bw;have fy:=BQ.fq (hM j bw) O2;have same:(dec j=true∨y j=0)→∀w',Hp W [] w' [bu bf 3 (qE (eQ v)) 49,bu bc 4 (qE (eQ v++[.slice sY l.length cY])) 204,qG Ay 4 1 (Ad g) l.length (lm l.length fun i=>if i<j then dec i||decide (0<y i) else dec i),bu bd 13 (qE d.L) 28]→Hp W [] w' [bu bf 3 (qE (eQ v)) 49,bu bc 4 (qE (eQ v++[.slice sY l.length cY])) 204,qG Ay 4 1 (Ad g) l.length (lm l.length fun i=>if i<j+1 then dec i||decide (0<y i) else dec i),bu bd 13 (qE d.L) 28]:=fun hX w' hp=>by
    grind
   have sc:(dec j=true∨y j=0)→∀i,i<j+1→(dec i||decide (0<y i))=true→q i=p i:=fun hX i hi hd=>by
    grind
   have cD:∀w',Hp W [] w' [bu bf 3 (qE (eQ v)) 49,bu bc 4 (qE (eQ v++[.slice sY l.length cY])) 204,qG Ay 4 1 (Ad g) l.length (lm l.length fun i=>if i<j then dec i||decide (0<y i) else dec i),bu bd 13 (qE d.L) 28]→w'.cell? ⟨g,0+j*1,none⟩=some (.bool (dec j)):=fun w' hp=>by
    have:=zM (qZ hp 2 O (sa _) (fun _=>O)) bw 0 _ O;grind
   refine qA (tR (qL (vs:=eQ (y j)) O O O O (fun q v e=>hp.j3 (eu q v e))) ?_);refine tQ fun uz bg hp=>?_;refine qR ?_;refine tR qY (tS fun u0 hp=>?_);have hp:=hp.I 0 (eQ _) O O;have hT:=hp.i6 0 O O;have hp:=hp.E;have ca:=cD _ hp;refine Cj ?_;refine jM (tR (qS O O ca) ?_);cases hdj:dec j with
   |true=>
    have hp:=same (.inl hdj) _ hp;refine jL (jB O ?_);refine Fv ?_;exact⟨_,qB O5 O,⟨O1,sc (.inl hdj),hp⟩,O1⟩
   |false=>
    refine jL ?_;apply vX;rfl;rfl;exact qL O O O O hT;exact(O:_=QV _);refine tC (EA _ fy) fun u5 hp=>?_;by_cases h7:y j=0
    ·have d6:decide (Bo (y j)=0)=true:=by rw[h7];rfl
     have hp:=same (.inr h7) _ hp;refine jL ?_;rw[d6];refine jB O ?_;refine Fv ?_;exact⟨_,qB O5 O,⟨O1,sc (.inr h7),hp⟩,O1⟩
    have d6:decide (Bo (y j)=0)=false:=by
     refine aB ?_;unfold Bo;rw[if_neg h7];split<;>omega
    have gy:0<y j:=by
     have:=gS j bw;grind
    have vg:p j=v:=by
     rcases xy j bw with h|h|h
     ·grind
     ·grind
     exact h
    refine jL ?_;rw[d6];refine jL (qN O ?_);refine qR ?_;refine jW jG O3 (fun w'=>Hp W [] w' _) hp.U ?_;have hp:=hp.U;refine qX ?_;refine kp O (fun w hp=>qL O O O O (fun z v e=>hp.j3 (hy z v e))) (O:_=QV _) (kp O (fun w hp=>qL O O O O (hp.i6 0 O O)) (O:_=QV v) ?_);refine kp O (fun w hp=>RP O O) O (qU ?_);refine xI O (fun h3=>?_) (fun h3=>?_)
    ·have hh:decide (∀i,i<_→q i=p i)=_:=aB fun zq=>h3 (by rw[zq j bw,vg])
     rw[hh];refine Hc ?_;refine ke (zW O O) (qV (aB O1)) (jL ?_);exact Fq
    refine qA (tO (zL _ _ j _ hp 2 O (sa _) (by rw[qT];omega) O O (fun _=>O) O O (qD O)) fun hg hp=>?_);have hp:Hp W [] _ [_,_,_,_]:=hp
    rw[vF,jH (g:=fun i=>if i<j+1 then dec i||decide (0<y i) else dec i) (fun i _=>by
     grind)] at hp
    refine Fv ?_;refine⟨_,qB O5 O,⟨O1,fun i hi hd=>?_,hp⟩,O1⟩;grind
  obtain rfl:l.length=j:=O1;rw[jH (fun i hi=>if_pos hi)] at hp;refine tM (k+1) ?_;refine KX ?_;refine⟨(k+1,fun i=>dec i||decide (0<y i),some v),qB O5 O,⟨O1,hK,fun k2 zw=>?_,hU,hp.E.E⟩,O1⟩;grind
 obtain rfl:k=lv.length:=O1;rw[lT] at zp;have hS:=aD fun i hi=>hE i hi (zp i hi)
 have b1:decide (false∈lm l.length dec)=false:=aB fun hm=>by
  have⟨i,hi,e⟩:=bM.1 hm;rw[zp i (aR.1 hi)] at e;cases e
 have hJ:=XQ (lm l.length dec) (Ad g) l.length false;rw[qT] at hJ;rw[hS];refine Hc ?_;refine ke (zW O O) (qV (b:=true) (aD O1)) (tE (hJ _ (qZ hp 0 O (sa _) (fun _=>O)) O1) fun w4 hp=>?_);rw[b1];refine jL ?_;exact qM (v:=.bool true) O O ⟨_,O,O,hp.Z⟩
theorem r11(d s sP sV sL l c cP cV cL κ p gp lr m lv W)(hD:DE d s l W)(ze:d.kd=3)(hz:0<d.sz)(hl:l.length≤5)
  (hM:Aj (Aq d l) κ m) (hκ:κ≤6000000000) (hA:FT sP gp sV m W) (hL:E7 sL lr l.length lv W) (rh:lv.length≤1000) (gz:∀x∈lv,∀i,i<l.length→BQ 34273200056 (x.2 i)) (hh:prv l.length p (vU (Aq d l)) lv (fun _=>false) none):
  Rk 11 [d.v,.slice s l.length c,.slice sP m.length cP,.slice sV m.length cV,.slice sL lv.length cL] W (Iv (if(∀i,i<l.length→jE m i=p i) then 0 else 25)):=by
 have hg:=hD.lq;have hE:=hM.len;have hex:∃P,Aq d l P:=by
  cases m with
  |nil=>
   exact absurd hM.sum (by decide+kernel)
  |cons x m=>exact⟨_,(hM.all x O4).1⟩
 have ii:=fun i=>by
  have:=hM.ch m.length i;rwa[dF] at this
 refine tW func11 ntmps11 fun hp=>?_;refine qR ?_;refine tQ fun w1 bd hp=>?_;have hp:=hp.I 0 d.L O O;have hp:Hp W [] w1 [bu bd 13 _ 28]:=hp;have ca:w1.cell? ⟨bd,0+1,_⟩=some (.int _ _):=hp.J 0 O O;rw[ze] at ca;have d1:decide ((l.length:Int)>40)=_:=aB O1;have d2:decide ((d.Q.length:Int)>12)=_:=aB O1;have d3:(!decide (m.length=(m.length:Int)))=false:=O4;refine jL (qN O ?_);refine jL ?_;rw[d1];refine jL ?_;rw[d2];refine jL (qN O ?_);refine jL ?_;rw[d3];refine tE (r50 d s sP l c cP κ gp m _ (hD.j1 hp.Z) ze O1 hM (hA.P.i7 hp.Z) (fun j hj=>(hA.p j hj).i7 hp.Z)) fun w2 hp=>?_;refine jL ?_;refine tJ (qQ ([10,12]++range' 42 13) (fun(k:Nat) F=>F.put 42 (.int _ k)) (fun k w'=>k≤m.length∧Hp W [] w' _) (fun k=>m.length-k) 0 (qB (ka.eq .refl) O) ⟨O1,hp⟩ ?_);clear hp;rintro u k w3 ⟨hk,hp⟩;refine tI (fun h=>?_) fun h=>?_
 ·have ha:k<m.length:=O1;have⟨bw,ow,az,hn⟩:=jR hA.V ha;have⟨_,xx,xh⟩:=hM.get ha;have fq:=BQ.fq xh O1;have d4:decide (Bo (wF m k)≤0)=false:=by
   refine aB ?_;unfold Bo;rw[if_neg O6,if_neg O6];decide
  subst az;refine qA (tR (qL O O O O (fun z v e=>hp.j3 (hn z v e))) ?_);refine vK fun w b hp=>?_
  refine tD (Ny _ fq) fun w4 hp=>?_;refine tE (EA _ fq) fun w5 hp=>?_;refine jL ?_;rw[d4];refine tJ ?_;refine tN (k+1) ?_;refine qA ?_;exact⟨_,qB O5 O,⟨O1,hp.E⟩,O1⟩
 have dt:wr m.length (wF m)=1:=by rw[SJ,hM.sum]
 have hq:(m.length+1)*(κ+1)≤33*6000000001:=dE O1 O1;refine tD (RE _ _ sV cV κ _ (hA.V.i7 hp.Z) (fun i hi=>(hM.get hi).2.2) O1 O1) fun w4 hp=>?_;rw[dt];refine tC (GK 1 _ O2 O2) fun w5 hp=>?_;refine tC (IM (j:=1) (k:=1) _ (BQ.one O2) (BQ.one O2) O2) fun w6 hp=>?_;refine qA (qN O ?_);refine qR ?_;refine jW jG O3 (fun w'=>Hp W [] w' _) hp.U ?_;have hp:=hp.U;refine qX ?_;refine tK (r55 _ sP sV cP cV κ gp m _ (fun k hk=>⟨(hM.get hk).1.srt,(hM.get hk).1.lt⟩) hM.ch (fun k hk=>(hM.get hk).2.2) hκ O1 O1 (hA.j1 hp.Z)) ?_;rintro _ w7 ⟨g,rfl,hK,hm⟩;refine⟨hp.V hm.Z,?_⟩;have hp:=hp.C hm;refine tH (r54 d s _ sL l c _ cL κ _ p lr lv _ (hD.j1 hp.Z) ze hz hl hex (qZ hp 0 O hK jT) (hL.j1 hp.Z) rh gz (fun i _=>ii i) hκ hh) fun w8 hp=>?_;refine qX (qU ?_);refine xI O (fun h2=>?_) (fun h2=>?_)
 ·rw[if_neg h2];exact nj
 rw[if_pos h2];exact nj
variable{a:Int}
section
variable{n:ky}{pos:String}{x:Operand}{k:IntKind}{b:Int}
end
variable{l:List Int}
section
def CJ(n:Nat):List Int:=(range n).map fun(i:Nat)=>(i:Int)
theorem MX(n):(CJ n).length=n:=by simp[CJ]
theorem zNp(n:Nat):CJ (n+1)=CJ n++[(n:Int)]:=by simp[CJ,eX]
theorem zNq(h:i<n):(CJ i++replicate (n-i) (0:Int)).set i (i:Int)=CJ (i+1)++replicate (n-(i+1)) 0:=by
 rw[lP _ _ (by rw[MX];omega),MX,zNp,bU];rw[show n-i=(n-(i+1))+1 from O1,nE,gZ];rfl
def BO(n:Nat):List ByteArray:=(range (n+1)).map fun i=>ki (uO i)
theorem Xm(n):uO (n+1)=(n+1)*uO n:=O
theorem zNa:BO 0=[ki 1]:=O
theorem Q6(n):(BO n).length=n+1:=by simp[BO]
theorem Xi(n):BO (n+1)=BO n++[ki (uO (n+1))]:=by simp[BO,eX]
theorem Q5(h:i≤n):(BO n)[i]? =some (ki (uO i)):=by
 unfold BO;grind
theorem QW:∀{n m:Nat},n≤m→uO n≤uO m
 |n,0,h=>by
  grind
 |n,m+1,h=>by
  rcases lU m n with h1|h1
  ·grind
  have h2:=QW h1;have h3:1*uO m≤(m+1)*_:=aL _ O1;show uO n≤(m+1)*uO m
  omega
def CZ(n:Nat)(l:List Int):Bool:=decide (l.length=n)&&(l.all (fun x=>decide (0≤x)&&decide (x<n))&&decide l.Nodup)
def AQ(n:Nat)(l:List Int):List Bool:=(range n).map fun(i:Nat)=>decide ((i:Int)∈l)
theorem Re(n):AQ n []=replicate n false:=by
 unfold AQ;simp[List.not_mem_nil,Ll];rw[List.map_const',cZ]
theorem Fy(n l):(AQ n l).length=n:=by simp[AQ]
theorem Hw(l)(h:i<n):(AQ n l)[i]? =some (decide ((i:Int)∈l)):=by
 unfold AQ;grind
theorem Le(l)(h:i<n):(AQ n l).set i true=AQ n (l++[(i:Int)]):=by
 apply dI;intro j;rw[gM,Fy];by_cases zn:i=j
 ·subst zn;rw[if_pos O,if_pos h,Hw _ h];simp
 rw[if_neg zn];by_cases hj:j<n
 ·rw[Hw _ hj,Hw _ hj];grind
 rw[bY (by rw[Fy];omega),bY (by rw[Fy];omega)]
theorem zK0{x:Int}:(l++[x]).Nodup↔l.Nodup∧x∉l:=by
 grind
attribute [local irreducible] uO CJ BO AQ
theorem VO(n:Nat)(w:World)(hn:n≤1000):Rt 116 [Iv (n:Int)] w (fun v w'=>∃b,v= .slice (Ad b) n n∧kg (Ad b) n (CJ n)∧Hp w [] w' [qG eI 3 1 (Ad b) n (CJ n)]):=by
 refine tW func116 ntmps116 fun hp=>?_;refine qA ?_;refine tF (yE eI 0 hp O O O O O O O O1 O) fun w1 g⟨hv,hp⟩=>qA (kT [4,9,10,11,12,13,14,15,16] (fun(i:Nat) _z F=>F.put 9 (.int _ i)) (fun i z w'=>i≤n∧z=CJ i++replicate (n-i) 0∧kg _ n z∧Hp w [] w' [qG eI 3 1 _ n z]) (fun i _=>n-i) 0 _ (qB (ka.eq .refl) O) ⟨O1,by unfold CJ;simp,hv,hp⟩ ?_);clear hv;(repeat clear hp);rintro u i z w2 ⟨hi,hz,hv,hp⟩;refine tI (fun h=>?_) fun h=>?_
 ·have hl:i<n:=O1;have xz:i<z.length:=by rw[hz];simp[MX];omega
  refine qA (tO (zL eI z i i hp 0 O hv xz O O (fun _=>O) O O (qD O)) fun w3 hp=>?_);refine Ae ?_;exact⟨i+1,_,qB O5 O,⟨O1,by rw[hz,zNq hl],hv.set _ _,hp⟩,O1⟩
 obtain rfl:i=n:=O1;obtain rfl:z=CJ i:=O6
 exact Us
theorem zRk(n:Nat)(w:World)(hn:n≤40):Rt 134 [Iv (n:Int)] w (fun v w'=>∃s c,v= .slice s (BO n).length c∧kg s c (BO n)∧Hp w [] w' [qG eS 34 1 s c (BO n)]):=by
 have nz:=zNa;refine tW func134 ntmps134 fun hp=>?_;refine tD (Aw 1 _ O2) fun w1 hp=>?_;refine tF (jC hp O O O O O O O) fun w2 g hp=>?_;have hp:Hp w [] w2 [bu g 1 (qE [.string (ki 1)]) 34]:=hp;have hp:=hp.rowOf (cs:=[_]) 0 1 1 O O;have hp:Hp w [] w2 [qG eS 34 1 (Ad g) 1 (BO 0)]:=by rw[nz];exact hp
 have hv:kg (Ad g) 1 (BO 0):=by rw[nz];exact .inr ⟨g,1,O,aS _,by unfold maxLen;omega⟩
 refine qA ?_;refine kS ([3,4]++List.range' 7 16) (fun i s c F=>(F.put 4 (.int _ (i+1:Nat))).put 3 (.slice s (BO i).length c)) (fun i s c w'=>i≤n∧kg s c (BO i)∧Hp w [] w' [qG eS 34 1 s c (BO i)]) (fun i _ _=>n-i) 0 _ 1 (qB (qB (ka.eq .refl) O) (by rw[Q6];rfl)) ⟨O1,hv,hp⟩ ?_;clear hv;(repeat clear hp);rintro u i s c w3 ⟨hi,hv,hp⟩;have hh:=Q6 i;refine tI (fun h=>?_) fun h=>?_
 ·have hl:i<(BO i).length:=O1;have hj:Fit (uO i):=Jp O1;have p2:=Q5 (aS i);have⟨g1,hq⟩:=hv.addr O6;subst hq;have hg:uO i*(i+1)=uO (i+1):=by rw[Xm,dC]
  refine qA ?_;refine jU jG O3 (fun w'=>Hp w [] w' _) hp.U ?_;have hp:=hp.U;refine qX ?_;refine tN i ?_;refine qX ?_;refine tP (fun w hp=>qS O O (zS hp 0 O hv (fun _=>O) p2 0 _ O)) (tH (Aw (i+1:Nat) _ O1) fun w4 hp=>?_);refine tG (Bc _ (i+1) _ hj (Fit.small O1)) fun w5 hp=>?_;rw[hg];apply Ag;rfl;exact jC hp O O O O O O O;rintro _ w6 ⟨g2,rfl,hp⟩;refine⟨hp.E,?_⟩;apply Qh;rfl;rfl;exact jV eS _ _ hp 1 0 O O O O O O (fun _=>O) O O O hv O O O1;rintro _ w7 ⟨s',c',rfl,ha,hp⟩;rw[←Xi] at ha hp;rw[←Xi];refine qX (qU ?_);refine Ae ?_;exact⟨_,s',c',qB (qB O5 (qF O1)) O,⟨O1,ha,hp.E⟩,O1⟩
 obtain rfl:i=n:=O1;refine tV ?_;exact⟨_,O,s,c,O,hv,hp⟩
end
variable{M:List Nat}{c:Nat}{w0:World}{α:Type}
section
theorem ig.aA7(h:ig w 1 eI (some ⟨b,o,none⟩) l)(hc:l.length≤c)(k):ig w 1 eI (some ⟨b,if c=k then o else o+k*1,none⟩) (l.drop k):=by
 by_cases hk:c=k
 ·rw[mG O1];exact FO
 rw[if_neg hk];exact ig.aA5 h k
section
variable{n:ky}{L:List kr}{pos:String}{x:Operand}
theorem VA(enc:α→List Value){t e k ba m:Nat}{kl kc:IntKind}{z:Value}(hp:Hp w0 M w L)(ht:CQ t=some (e,k))(hz:wT e=some z)(x5:GW e=some ba)
  (hx:ev n F x= .int kl 0) (hy:ev n F y= .int kc m) (hk:z.cells.size=k) (hm:m<1000000000) (hb:Nat.ble ba 1000=true):
  gx prog n ⟨d,.makeSlice t x y,ty,pos,aft,g⟩ F w (fun u w'=>∃b,u= .slice (Ad b) ([]:List α).length m∧kg (Ad b) m ([]:List α)∧Hp w0 M w' (qG enc e k (Ad b) m ([]:List α)::L)):=by
 have hq:=(zK ht).1;have hs:=(zK ht).2;have hz:=qJ hz;have⟨inf,hg,hE⟩:=(Kz x5).ex;have hh:=by
  exact Mm
 have xz:=by
  exact PT
 have oc:=fH hb;have ez:ba*m≤1000*1000000000:=dE oc O1;have hj:inf.bytes*(m:Int)≤281474976710656:=by
  exact UF
 have hr:=run_make w t e _ z hq hg xz kl kc 0 m O1 O1 hj O1;refine xN (v:=.slice _ 0 m) (w':=w.alloc (.cells (madeCells z.cells (m*k)) e)) ?_ ⟨w.heap.size,O,?_,?_⟩
 ·rw[hh] at hr;simp[execOp,hx,hy,hr]
 ·exact .inr ⟨_,m,O,bL _,by unfold maxLen;omega⟩
 exact hp.alloc _ ⟨_,O,by simp[Jq,Nr],O4⟩
end
attribute [local irreducible] uO CJ BO AQ
theorem zRb(n:Nat)(l:List Int)(s:Option Addr)(c:Nat)(w:World)(hs:ig w 1 eI s l)(_hl:l.length≤9223372036854775806)(hn:n≤1000):
  Rk 191 [.slice s l.length c,Iv (n:Int)] w (.bool (CZ n l)):=by
 refine tW func191 ntmps191 fun hp=>?_;refine qA (xI O (fun h=>?_) (fun h=>?_))
 ·have hz:CZ n l=false:=by
   unfold CZ;rw[aB O1];rfl
  rw[hz];exact nj
 have hg:l.length=n:=O1;clear h;have hO:CZ n l=(l.all (fun x=>decide (0≤x)&&decide (x<n))&&decide l.Nodup):=by
  unfold CZ;rw[aD hg];rfl
 rw[hO];refine qA ?_;refine tF (yE Ay _ hp O O O O O O O O1 O) fun w1 g⟨hv,hp⟩=>?_;rw[←Re] at hv hp;refine qA (qQ ([4,7]++List.range' 16 21) (fun(i:Nat) F=>F.put 16 (.int _ i)) (fun i w'=>i≤n∧(l.take i).all (fun x=>decide (0≤x)&&decide (x<n))=true∧(l.take i).Nodup∧kg _ n (AQ n (l.take i))∧Hp w [] w' [qG _ 4 1 _ n (AQ n (l.take i))]) (fun i=>n-i) 0 (qB (ka.eq .refl) O) ⟨O1,O4,O4,hv,hp⟩ ?_);clear hv;(repeat clear hp);rintro u i w2 ⟨hi,zq,df,hv,hp⟩;refine tI (fun h=>?_) fun h=>?_
 ·have hl:i<l.length:=O1;have⟨b0,o0,hs0,yk⟩:=hs.base O1;have yl:=yk i _ (aA hl) 0 _ O;have vu:=aF hl;have xg:(l.take (i+1)).Sublist l:=pY _ _;generalize l[i]=x at yl vu;have yl:w.cell? ⟨b0,o0+i*1,_⟩=_:=yl;have ha:(0≤x∧x<n∧x∉l.take i)∨(l.all (fun x=>decide (0≤x)&&decide (x<n))&&decide l.Nodup)=false:=by
   by_cases hx:0≤x∧x<n
   ·grind
   right;have:l.all (fun x=>decide (0≤x)&&decide (x<n))=false:=by
    cases h5:l.all (fun x=>decide (0≤x)&&decide (x<n))
    ·rfl
    rw[dO] at h5;have:=h5 x (xg.subset O6);simp at this;exact absurd this hx
   rw[this,Bool.false_and]
  refine Hc ?_;refine AP ?_;by_cases h0:x<0
  ·refine ke (zQ O O) (qV (aD O1)) (jL ?_);refine jB O ?_;rw[ha.resolve_left O1];exact nj
  refine ke (zQ O O) (qV (aB O1)) (jM ?_);refine Hd ?_;by_cases h1:n≤x
  ·apply vX;rfl;rfl;exact vE O O;exact qV (aD O1);refine jL (jB O ?_);rw[ha.resolve_left O1];exact nj
  apply vX;rfl;rfl;exact vE O O;exact qV (aB O1);obtain⟨k,rfl⟩:∃k:Nat,x=k:=⟨x.toNat,O1⟩;have hh:k<n:=O1;have yn:k<(AQ n (l.take i)).length:=by rw[Fy];exact hh
  have x3:=zS hp 0 O hv (fun _=>O) (Hw _ hh) 0 _ O;refine jL (qH O (fun h2=>?_) (fun h2=>?_))
  ·rw[ha.resolve_left (fun h=>h.2.2 h2)];exact nj
  refine qA (tO (zL _ _ k _ hp 0 O hv yn O O (fun _=>O) O O (qD O)) fun w3 hp=>?_);have hv:=hv.set k true;rw[Le _ hh,←vu] at hv;rw[Le _ hh,←vu] at hp;refine Ae ?_;refine⟨i+1,qB O5 O,⟨O1,?_,?_,hv,hp⟩,O1⟩
  ·grind
  rw[vu];exact zK0.2 ⟨df,h2⟩
 have e:l.take i=l:=bJ O1;rw[e] at zq df;rw[zq,aD df];exact nj
end
def Fw:Nat→List Int→Nat→List Int
 |0,_,_=>[]
 |k+1,L,x=>(L[x/uO k]?).getD 0::Fw k (L.eraseIdx (x/uO k)) (x%uO k)
def Al(n x:Nat):List Int:=Fw n (CJ n) x
theorem WX:∀(k:Nat) (L:List Int) (x:Nat),(Fw k L x).length=k
 |0,_,_=>rfl
 |k+1,L,x=>by rw[Fw,cF,WX]
theorem M4(n x):(Al n x).length=n:=WX n _ _
theorem zMw(L x):Fw 0 L x=[]:=O
theorem zMx{x L y}(h1:i*uO k≤x)(h2:x-i*uO k<uO k)(hy:L[i]? =some y):Fw (k+1) L x=y::Fw k (L.eraseIdx i) (x-i*uO k):=by
 have hd:x/uO k=i:=by
  refine Nat.div_eq_of_lt_le ?_ ?_
  ·exact h1
  rw[eL];omega
 have hm:x%uO k=x-i*uO k:=by
  rw[Nat.mod_eq_sub_mul_div,hd,dC]
 rw[Fw,hd,hm,hy];rfl
structure OS where
 L:List Int
 Oo:List Int
 st:ByteArray
 x:Nat
 s:Option Addr
 c:Nat
attribute [local irreducible] uO CJ BO NS Fw
theorem zQ0(l b c)(i:Nat)(w)(hr:Ba w b c l)(hc:l.length≤c)(hi:i<l.length)(ha:c≤1000000):
  Rt 135 [.slice (Ad b) l.length c,Iv (i:Int),Iv ((i+1:Nat):Int)] w (fun v w'=>v= .slice (Ad b) (l.eraseIdx i).length c∧ax [b] w w'∧Ba w' b c (l.eraseIdx i)):=
 (jVy l _ b c i [b] w O (Hp.ofRow hr) (.inr ⟨b,c,O,hc,by unfold maxLen;omega⟩) hi O1).mono fun _ _ h=>⟨h.1,h.2.keeps,Hp.o7 h.2 0 O⟩
theorem XW(N:Nat)(st x w)(xy:NS st x)(us:Fit x)(hN:N≤40)(hx:x<uO N):Rt 69 [Iv (N:Int),.string st] w (fun v w'=>∃s c,v= .tuple #[.slice s (Al N x).length c,.bool true]∧kg s c (Al N x)∧Hp w [] w' [qG eI 3 1 s c (Al N x)]):=by
 have hj:=Q6 N;have sa:=MX N;refine tW func69 ntmps69 fun hp=>?_;refine qA (xD O (fun h1=>?_) (fun h1=>?_))
 ·grind
 clear h1;refine tL (zRk N _ O1) ?_;rintro _ w1 ⟨s1,c1,rfl,th,hpo⟩;have hp:=hp.C hpo;clear hpo;have⟨g1,hq⟩:=th.addr O6;subst hq;have hl:N<(BO N).length:=O1;have yl:=zS hp 0 O th (fun _=>O) (Q5 (aS N)) 0 _ O;have yl:w1.cell? ⟨g1,0+N*1,_⟩=_:=yl;refine tL (Xw st _ x (uO N) _ xy (NS.self (Jp O1))) ?_;rintro _ w2 ⟨rfl,hk⟩;have hp:=hp.V hk;rw[if_pos hx];refine qA ?_;refine qH O O1 (fun _=>tL (VO N _ O1) ?_);rintro _ w3 ⟨g,rfl,rp,hpo⟩;have hp:=hp.C hpo;clear hpo;refine qA ?_;refine tF (VA eI hp O O O O O O O1 O) fun w4 g2⟨h7,hp⟩=>?_;have hp:Hp w [] w4 [_,_,_]:=hp;refine qA ?_;refine qQ ([1,4,5,7,8,9,10,11,12,13]++List.range' 33 35) (fun(S:OS) F=>((F.put 1 (.string S.st)).put 7 (.slice _ S.L.length N)).put 8 (.slice S.s S.Oo.length S.c))
  (fun S w'=>S.Oo++Fw S.L.length S.L S.x=Al N x∧S.x<uO S.L.length∧S.Oo.length+S.L.length=N∧NS S.st S.x∧Fit S.x∧kg S.s S.c S.Oo∧Hp w [] w' [qG eI 3 1 S.s S.c S.Oo,qG eI 3 1 _ N S.L,_])
  (fun S=>S.L.length) ⟨CJ N,[],st,x,Ad g2,N⟩ (qB (qB (qB (ka.eq .refl) O) (by rw[sa];rfl)) O) ⟨by rw[sa];rfl,O6,O6,xy,us,h7,hp⟩ ?_
 clear h7 rp xy us yl;(repeat clear hp);rintro u ⟨L,Oo,st,x1,s,c⟩ w5 ⟨hO,ha,hD,xy,us,hv,hp⟩;simp only at hO ha hD xy us hv hp⊢;refine tI (fun h=>?_) fun h=>?_
 ·obtain⟨k,hk⟩:∃k,L.length=k+1:=⟨L.length-1,O1⟩;have h5:k<(BO N).length:=O1;have hm:=zS hp 2 O th (fun _=>O) (Q5 (i:=k) O1) 0 _ O;have hm:w5.cell? ⟨g1,0+k*1,_⟩=_:=hm;have rp:kg _ N L:=.inr ⟨g,N,O,O1,by unfold maxLen;omega⟩;have hz:Fit (uO k):=Jp O1;have hh:=Fl k;rw[hk] at hO ha;rw[Xm,eL] at ha;refine tM k ?_;refine qA (kT ([1,7,8,10,11,12,13]++List.range' 44 24) (fun(i:Nat) sc F=>(((F.put 44 (.int _ i)).put 1 (.string sc)).put 7 (.slice _ _ N)).put 8 (.slice s _ c))
   (fun i sc w'=>i≤k+1∧i*uO k≤x1∧NS sc (x1-i*uO k)∧Hp w [] w' _) (fun i _=>k+1-i) 0 st (qB (qB (qB (qB (ka.eq .refl) O) O) O) O) ⟨O1,O1,O6,hp⟩ ?_)
  clear xy hm;(repeat clear hp);rintro u2 i sc w6 ⟨hi,hV,xy,hp⟩;refine tI (fun h3=>?_) fun h3=>?_
  ·have h6:i<L.length:=O1;have p2:=aA h6;generalize L[i]=y at p2;have eu:=zS hp 1 O rp (fun _=>O) p2 0 _ O;have eu:w6.cell? ⟨g,0+i*1,_⟩=_:=eu;have hg:Fit (x1-i*uO k):=us.le O1;refine tD (Xx _ _ _ _ _ xy (NS.self hz) hg hz) fun w7 hp=>?_;refine qA (xI O (fun h4=>?_) (fun h4=>?_))
   ·have ht:=zMx hV O1 p2;have hy:(L.eraseIdx i).length=k:=by rw[kI h6];omega
    refine qA ?_;refine tF (jC hp O O O O O O O) fun w8 nb hp=>AB (jV eI Oo y hp 1 0 O O O O O O (fun _=>O) O O O hv O O O1) fun w9 s' c'⟨hn,hp⟩=>?_;have hp:Hp w [] w9 [_,_,_]:=hp.E;refine tM (i+1) ?_;refine tK (zQ0 L g N i _ (Hp.o7 hp 1 O) O1 h6 O1) ?_;rintro _ uy ⟨rfl,h8,h9⟩;have hp:=Hp.y5 hp 1 O h8 h9;refine qA ?_;refine⟨⟨_,_,_,_,s',c'⟩,qB O5 O,⟨?_,?_,?_,xy,hg,hn,hp⟩,?_⟩
    ·grind
    ·grind
    ·grind
    grind
   have e1:x1-i*uO k-uO k=x1-(i+1)*uO k:=by rw[eL];omega
   have e2:(i+1)*uO k≤x1:=by rw[eL];omega
   rw[e1];refine Ck ?_;exact⟨_,_,qB O5 O,⟨O1,e2,NS.self (us.le O1),hp⟩,O1⟩
  obtain rfl:i=k+1:=O1;grind
 have hL:L=[]:=aX O1;subst hL;have hO:Oo=Al N x:=by
  rw[←hO];show Oo=Oo++Fw 0 [] x1
  rw[zMw,bO]
 subst hO;refine qA ?_;exact xU O O O ⟨_,O,s,c,O,hv,hp.pick 0 O⟩
end Go.Eng
