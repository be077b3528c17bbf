/- Merged texts of ours; conditions are the hypotheses of each law. -/
import Derived.Test.YtplkndjlfkkjlaaGreatDoorP5
namespace Go.Lp
open List (range range' replicate)
variable{s:Sr}{c:Nat}
theorem Sr.aD2(h:c<s.nc):s.A c 0=if s.dec c then 0 else(s.S c:Rat):=by
 unfold Sr.A;grind
theorem Sr.A_row{j:Nat}(h:c<s.nc):s.A c (j+1)= -(s.κ j c:Rat):=by
 unfold Sr.A;grind
theorem Sr.B_row(h:c<s.nc):s.B c=if s.dec c then-((s.S c:Rat)*s.p c) else 0:=by
 unfold Sr.B;grind
theorem Sr.aA7(j:Nat):s.A s.nc j=if j=0 then 0 else 1:=by
 unfold Sr.A;simp
theorem Sr.aD1:s.B s.nc=1:=by
 unfold Sr.B;simp
end Go.Lp
namespace Go.Proofs.YtplkndjlfkkjlaaGreatDoor
open List (range range' replicate)
open Tryz
section
open Go.Eng Go.Dig Go.Lp Go.Qu
theorem BQn{n k:Nat}(h:n<2^k)(hk:1≤k):BQ k (n:Rat):=by
 refine⟨h,?_⟩;show 1<2^k
 grind
theorem zCx(x:Nat):(((-(x:Int)):Int):Rat)= -(x:Rat):=by
 rfl
def rwA(rg rc:Nat→Nat)(s:Sr)(i:Nat):Ent:=qG eQ 49 3 (some ⟨rg i,0,none⟩) (rc i) (lm (s.K+1) (s.A i))
def hdA(rg rc:Nat→Nat)(s:Sr)(k:Nat):List (Nat×Nat×Nat):=lm k fun i=>(rg i,s.K+1,rc i)
def qE9:List Value:=[Zs,Zs,Zs]
attribute [local irreducible] PV StepF wpl wpd WP Ret
attribute [local irreducible] Fit
set_option maxRecDepth 20000 in
set_option maxHeartbeats 8000000 in
theorem zB7(a:FrA)(c:FrS)(s:Sr)(κ:Nat)(W:World)(hR:FrR a c s W)(hP:s.nc≤100)(hK:s.K≤4000)(hS:∀k,k<s.nc→s.S k≤1000)(hX:∀j k,j<s.K→k<s.nc→s.κ j k≤1000)(pm:∀k,k<s.nc→s.dec k=true→BQ κ (s.p k))(hκ:κ≤900000000000):
  Rt 165 [.pointer (some ⟨a.fb,0,none⟩)] W (fun v w'=>∃p,v= .agg (pgL p (s.nc+1) (s.K+1)).toArray∧PgAt p (s.nc+1) (s.K+1) s.A s.B Cu w'∧Keeps [] W w'):=by
 have h16:=hR.h16;have h17:=hR.h17;have h18:=hR.h18;have h19:=hR.h19;refine tW func165 ntmps165 fun hp=>?_;refine qR ?_;refine tQ fun w1 b2 hp=>?_;refine qR ?_;refine tQ fun w2 b3 hp=>?_;have hp:=(hp.k4 eQ 49 3).k4 qAf 43 1;have hp:=hp.k5 [2,3,0,1] [blk b3 3 _ 248,blk b2 3 (qE qE9) 248,_,_] O2 O;have hp:Hp W [] w2 ([_,_,qG _ 43 1 _ 0 (hdA (fun _=>0) (fun _=>0) s 0),qG eQ 49 3 _ 0 (lm 0 s.B)]++lm 0 (rwA (fun _=>0) (fun _=>0) s)):=hp;have h8:=hp.j7 h16;refine qA (qQ ([4,5,6,7,9]++range' 16 62) (fun(k:Nat) F=>F.put 16 (.int _ k)) (fun k w'=>k≤s.nc∧∃sA cA sB cB rg rc,SVL sA cA (hdA rg rc s k)∧SVL sB cB (lm k s.B)∧(∀i,i<k→SVL (some ⟨rg i,0,none⟩) (rc i) (lm (s.K+1) (s.A i)))∧
  Hp W [] w' ([blk b3 3 (qE [.slice sA k cA,.slice sB k cB,_]) 248,_,qG _ 43 1 sA cA (hdA rg rc s k),qG eQ 49 3 sB cB (lm k _)]++lm k (rwA rg rc s))) (fun k=>s.nc-k) 0 (qB (Same.eq .refl) O) ⟨O1,_,0,_,0,_,_,SVL.nil,SVL.nil,fun i hi=>absurd hi O1,hp⟩ ?_)
 clear hp h8;rintro u k w3 ⟨hk,sA,cA,sB,cB,rg,rc,xi,h6,hQ,hp⟩;have hT:(hdA rg rc s k).length=k:=qT;refine tI (fun h=>?_) fun h=>?_
 ·have hl:k<s.nc:=O1;obtain⟨bS,oS,hE,ht⟩:=jR hR.S hl;have cf:w3.cell? ⟨bS,oS+k*1,_⟩=_:=hp.j7 (ht 0 _ O);have hH:=hS k hl;have hL:=hp.j7 h18;have cg:w3.cell? ⟨_,0+k*1,_⟩=_:=hp.j7 (zM hR.D hl 0 _ O);refine tD (qQd (s.S k) _ O1) fun w4 hp=>?_;refine tF (jC (cs:=eQ _) hp O O O O O O O) fun w5 nb hp=>?_;have hp:=hp.z6 0 _ O O;have hp:Hp W [] w5 (qG eQ 49 3 _ 1 _::_):=hp;refine tD (wM _) fun w6 hp=>?_;refine tQ fun w7 b7 hp=>?_;refine tS fun w8 hp=>?_;have hp:=hp.norm 0 (eQ 0) O O;have hp:Hp W [] w8 ([blk b7 3 _ 49,_,_,_,_,_]++_):=hp;have hL:=hp.j7 h18;have cg:w8.cell? ⟨_,0+k*1,_⟩=_:=hp.j7 (zM hR.D hl 0 _ O);refine qA (uD (range' 32 14) (fun(_:Unit) F=>F) (fun _ w'=>Hp W [] w' ([blk b7 3 (qE (eQ (s.B k))) 49,qG eQ 49 3 (Ad nb) 1 (lm 1 (s.A k)),blk b3 3 (qE [.slice sA k cA,.slice sB k cB,Zs]) 248,blk b2 3 (qE qE9) 248,qG qAf 43 1 sA cA (hdA rg rc s k),qG eQ 49 3 sB cB (lm k s.B)]++lm k (rwA rg rc s))) ?_ ?_)
  ·have eA:=Sr.aD2 hl;have eB:=Sr.B_row hl;have e1:lm 1 _=[s.A k 0]:=O;cases hd:s.dec k with
   |false=>
    rw[hd] at eA eB;refine tJ ?_;rw[e1,eA,eB];exact mCd
   |true=>
    rw[hd] at eA eB;simp[if_true] at eA eB;refine jB O ?_;have xb:0<1:=O2;refine tD (wM _) fun w9 hp=>?_;refine qA (tO (vL eQ _ 0 0 hp 1 O (qKf _) O4 O O jT O O (qD O)) fun ur hp=>?_);have hp:Hp W [] _ ([_,qG eQ 49 3 _ 1 [_],_,_,_,_]++_):=hp
    have cX:∀(j:Nat) (v:Value),(eQ (s.p k))[j]? =some v→W.cell? ⟨a.gX,0+k*3+j,none⟩=some v:=fun j v e=>zM hR.X hl j v (by
     unfold pO;rw[hd]
     exact e)
    have bo:=pm k hl hd;refine qA ?_;refine jU jG O3 (fun w'=>Hp W [] w' _) hp.N ?_;have hp:=hp.N;refine tH (qQd (s.S k) _ O1) fun gg hp=>?_;refine qX ?_;refine tP (fun w hp=>qL O O O O (fun j v e=>hp.j7 (cX j v e))) ?_;apply wds;exact O;exact qC O qCw O (r24 (j:=10) _ (BQn O1 O2) bo O1);rintro _ gh ⟨rfl,hF⟩;have hp:=hp.call hF;refine⟨hp,tG (jVn _ (BQ.fq (BQ.mul (BQn O1 O2:BQ 10 (s.S k)) bo) O1)) fun gm hp=>?_⟩;refine tS fun gj hp=>qU ?_;have hp:=hp.norm 0 (eQ (s.B k)) O (by rw[eB];rfl);rw[e1,eA];exact mCd
  clear hp hL cg cf;rintro u1 ⟨⟩ gn hp;have hD:=hp.j7 h17;refine qA (qQ ([6,9]++range' 51 14) (fun z F=>(F.put 6 (.slice z.2.1 (lm (z.1+1) (s.A k)).length z.2.2)).put 51 (Iv (z.1:Int)))
   (fun z w'=>z.1≤s.K∧SVL z.2.1 z.2.2 (lm (z.1+1) (s.A k))∧Hp W [] w' ([_,qG eQ 49 3 z.2.1 z.2.2 (lm (z.1+1) _),_,_,_,_]++lm k _))
   (fun z=>s.K-z.1) (0,some _,1) (qB (qB (Same.eq .refl) O) O) ⟨O1,qKf _,hp⟩ ?_)
  clear hp hD;rintro u2 ⟨j,s6,c6⟩ hg ⟨hj,h3,hp⟩;simp[] at hj h3;have hp:Hp W [] _ ([_,qG eQ 49 3 s6 c6 (lm (j+1) _),_,_,_,_]++_):=hp;refine tI (fun h2=>?_) fun h2=>?_
  ·have bB:j<s.K:=by
    have:(j:Int)<(s.K:Int):=h2;omega
   obtain⟨bK,oK,hY,h5⟩:=jR hR.K bB;have ci:hg.cell? ⟨bK,oK+j*1,_⟩=some (.slice (some _) s.nc s.nc):=hp.j7 (h5 0 _ O);have cκ:hg.cell? ⟨_,0+k*1,_⟩=_:=hp.j7 (zM (hR.k j bB) hl 0 _ O);have xa:=hX j k bB hl;refine qA ?_;refine wlp (qQi O) (qF (qK O1 O1)) (tC (r25 (-(s.κ j k)) _ O1 O1) fun hx hp=>?_);rw[zCx,←Sr.A_row hl];refine tF (jC (cs:=eQ _) hp O O O O O O O) fun hh nb2 hp=>tFb (jV eQ (lm (j+1) _) _ hp 2 0 O O O O O O jT O O O h3 O O (by rw[qT];omega)) fun hn s' c'⟨hm,hp⟩=>?_;have hp:=hp.H;rw[←lm_succ] at hm⊢;refine gA0 ?_;refine⟨(j+1,s',c'),qB O5 O,⟨O1,hm,?_⟩,O1⟩;rw[lm_succ];exact hp
  obtain rfl:s.K=j:=by
   omega
  obtain⟨g6,rfl⟩:=h3.addr (fun e=>by have:=aQ List.length e;rw[qT,mO] at this;omega);rw[qT];refine qA ?_;refine tF (jC (cs:=[.slice (some _) (s.K+1) c6]) hp O O O O O O O) fun hx nb2 hp=>tFb (jV _ _ (g6,s.K+1,c6) hp 5 0 O O O O O O (fun _=>O) (by rw[hT];rfl) O O xi O O O1) fun hh se ce⟨xw,hp⟩=>?_;have hp:=hp.H;obtain⟨ra,h7⟩:∃ra:Nat→Nat,ra=fun i=>if i=k then g6 else rg i:=⟨_,O⟩
  obtain⟨rb,hM⟩:∃rb:Nat→Nat,rb=fun i=>if i=k then c6 else rc i:=⟨_,O⟩
  have ro:∀i,i<k→ra i=rg i∧rb i=rc i:=fun i hi=>by grind
  have rn:ra k=g6∧rb k=c6:=by rw[h7,hM];exact⟨if_pos O,if_pos O⟩
  have eH:hdA rg rc s k++[(g6,s.K+1,c6)]=hdA ra rb s (k+1):=by
   exact mC6
  have eR:lm k (rwA rg rc s)++[qG eQ 49 3 (Ad g6) c6 (lm (s.K+1) (s.A k))]=lm (k+1) (rwA ra rb s):=by
   rw[show lm (k+1) (rwA ra rb s)=lm k (rwA ra rb s)++[rwA ra rb s k] from lm_succ];congr 1
   ·exact jH fun i hi=>by unfold rwA;grind
   unfold rwA;rw[rn.1,rn.2]
  have zh:(hdA ra rb s _).length=k+1:=qT;rw[eH] at xw⊢;rw[zh];refine tT fun hn hp=>?_;have hp:=hp.norm 2 [.slice _ _ _,.slice sB k cB,.slice _ 0 0] O O;have hp:Hp W [] _ ([_,_,_,_,_,_]++_):=hp;rw[eH] at hp;refine qA ?_;refine tF (jC (cs:=eQ _) hp O O O O O O O) fun hq nf hp=>tFb (jV eQ _ _ hp 6 0 O O O O O O jT (by rw[qT];rfl) O O h6 O O (by rw[qT];omega)) fun hJ sd ca⟨hy,hp⟩=>?_;have hp:=hp.H;rw[←lm_succ] at hy⊢;rw[qT];refine tT fun xv hp=>?_;have hp:=hp.norm 2 [.slice _ _ _,.slice _ _ _,.slice _ 0 0] O O;have hp:Hp W [] _ (([_]++[_])++([_,_,_,_]++_)):=hp;rw[←lm_succ] at hp;have hp:=hp.H.perm (eP (l₁:=[_]));have hp:=hp;rw[bQ,eR] at hp;refine gA0 ?_
  exact⟨k+1,qB O5 O,⟨O1,se,ce,sd,ca,ra,rb,xw,hy,fun i hi=>by
   rcases dJ.1 hi with h|rfl
   ·grind
   grind,hp⟩,O1⟩
 obtain rfl:s.nc=k:=O1;obtain⟨LA,hz⟩:∃LA:Nat→Rat,LA=s.A s.nc:=⟨_,O⟩;have ec:LA 0=0:=by rw[hz,Sr.aA7];rfl
 have ea:∀j,LA (j+1)=1:=fun j=>by rw[hz,Sr.aA7,if_neg O1]
 have ed:Cu 0=1:=O;have eb:∀j,Cu (j+1)=0:=fun j=>if_neg O1
 refine tD (wM _) fun w4 hp=>?_;refine tF (jC (cs:=eQ 0) hp O O O O O O O) fun w5 nl hp=>?_;have hp:=hp.z6 0 0 O O;refine tD (qXt _) fun w6 hp=>?_;refine tF (jC (cs:=eQ 1) hp O O O O O O O) fun w7 na hp=>?_;have hp:=hp.z6 0 1 O O;refine tT fun w8 hp=>?_;have hp:=hp.norm 2 [.slice sA _ cA,.slice sB _ cB,.slice _ 1 1] O O;have e0:lm 1 LA=[(0:Rat)]:=by rw[←ec];rfl
 have e1:lm 1 Cu=[(1:Rat)]:=O;have hp:Hp W [] w8 ([qG eQ 49 3 (Ad na) 1 (lm 1 Cu),qG eQ 49 3 (Ad nl) 1 (lm 1 LA),blk b3 3 (qE [.slice sA s.nc cA,.slice sB s.nc cB,.slice (Ad na) 1 1]) 248,blk b2 3 (qE qE9) 248,qG qAf 43 1 sA cA (hdA rg rc s s.nc),qG eQ 49 3 sB cB (lm s.nc s.B)]++lm s.nc (rwA rg rc s)):=by
  rw[e0,e1];exact hp
 have hD:=hp.j7 h17;refine qA (qQ ([10]++range' 88 13) (fun z F=>(F.put 10 (.slice z.2.1.1 (lm (z.1+1) LA).length z.2.1.2)).put 88 (Iv (z.1:Int)))
  (fun z w'=>z.1≤s.K∧SVL z.2.1.1 z.2.1.2 (lm (z.1+1) LA)∧SVL z.2.2.1 z.2.2.2 (lm (z.1+1) Cu)∧Hp W [] w' ([qG eQ 49 3 z.2.2.1 z.2.2.2 (lm (z.1+1) Cu),qG eQ 49 3 z.2.1.1 z.2.1.2 (lm (z.1+1) LA),blk b3 3 (qE [.slice sA s.nc cA,.slice sB s.nc cB,.slice z.2.2.1 (z.1+1) z.2.2.2]) 248,blk b2 3 (qE qE9) 248,_,qG eQ 49 3 sB cB (lm s.nc s.B)]++lm s.nc (rwA rg rc s)))
  (fun z=>s.K-z.1) (0,(Ad nl,1),(Ad na,1)) (qB (qB (Same.eq .refl) O) O) ⟨bN _,qKf _,qKf _,hp⟩ ?_)
 clear hp hD e0 e1;rintro u2 ⟨j,⟨sl,cl⟩,⟨sc,cc⟩⟩ w9 ⟨hj,sa,h9,hp⟩;simp[] at hj sa h9;have hp:Hp W [] w9 ([qG eQ 49 3 sc cc (lm (j+1) Cu),qG eQ 49 3 sl cl (lm (j+1) LA),blk b3 3 (qE [_,_,.slice sc (j+1) cc]) 248,_,_,_]++_):=hp;refine tI (fun h2=>?_) fun h2=>?_
 ·refine tD (qXt _) fun ur hp=>?_;rw[←ea j];refine tF (jC (cs:=eQ _) hp O O O O O O O) fun gg nb2 hp=>tFb (jV eQ (lm (j+1) LA) (LA (j+1)) hp 2 0 O O O O O O jT O O O sa O O (by rw[qT];omega)) fun gh sf cn⟨hU,hp⟩=>?_;have hp:=hp.H;rw[←lm_succ] at hU⊢;have hp:Hp W [] _ ([_,_,_,_,_,_]++_):=hp;rw[←lm_succ] at hp;have q1:=hp;have cj:gh.cell? ⟨b3,0+2,_⟩=some (.slice sc _ cc):=hp.cell 2 O O;have ap:=hp.k7 (i:=0) O (j:=2) O O1 O;have hp:=q1.k6 0 O;refine qA ?_;refine xL 6 O jG O3 (fun w'=>Keeps _ _ w') hp.N.C ?_;have hp:=hp.N;refine qX ?_;apply wdp;exact O;intro w hk;exact qS O O (hk.cell cj ap);exact O;refine tG (wM _) fun gm hp=>?_;rw[←eb j];apply wds;exact O;exact jC (cs:=eQ _) hp O O O O O O O;rintro _ gj ⟨nf,rfl,hp⟩;refine⟨hp.C,?_⟩;apply wds;exact O;exact jV eQ (lm (j+1) Cu) (Cu (j+1)) hp 1 0 O O O O O O jT (by rw[qT (f:=Cu)];rfl) O O h9 O O (by rw[qT];omega);rintro _ gn ⟨sh,ck,rfl,hV,hp⟩;refine⟨hp.C,?_⟩;have hp:=hp.H;rw[←lm_succ] at hV⊢;rw[qT (f:=Cu)];have hp:Hp _ _ _ [_]:=hp;rw[←lm_succ] at hp;refine qX (qU ?_);have hp:=q1.j8 0 O hp;refine StepF.mono (jD hp 2 O O O O (qD O) O) ?_;rintro _ hg ⟨rfl,hp⟩;have hp:=hp.norm 2 [.slice sA _ cA,.slice sB _ cB,.slice _ _ _] O O;refine gA0 ?_;exact⟨(j+1,(sf,cn),(sh,ck)),qB O5 O,⟨O1,hU,hV,hp⟩,O1⟩
 obtain rfl:s.K=j:=by
  omega
 obtain⟨gl,rfl⟩:=sa.addr (fun e=>by have:=aQ List.length e;rw[qT,mO] at this;omega);obtain⟨gc,rfl⟩:=h9.addr (fun e=>by have:=aQ List.length e;rw[qT,mO] at this;omega);rw[qT];refine qA ?_;refine tF (jC (cs:=[.slice (some _) (s.K+1) cl]) hp O O O O O O O) fun ur nb2 hp=>tFb (jV qAf _ (gl,s.K+1,cl) hp 5 0 O O O O O O (fun _=>O) (by rw[hT];rfl) O O xi O O O1) fun gg se ce⟨xw,hp⟩=>?_;have hp:=hp.H;obtain⟨ra,h7⟩:∃ra:Nat→Nat,ra=fun i=>if i=s.nc then gl else rg i:=⟨_,O⟩
 obtain⟨rb,hM⟩:∃rb:Nat→Nat,rb=fun i=>if i=s.nc then cl else rc i:=⟨_,O⟩
 have ro:∀i,i<s.nc→ra i=rg i∧rb i=rc i:=fun i hi=>by grind
 have rn:ra s.nc=gl∧rb s.nc=cl:=by rw[h7,hM];exact⟨if_pos O,if_pos O⟩
 have eH:hdA rg rc s s.nc++[(gl,s.K+1,cl)]=hdA ra rb s (s.nc+1):=by
  exact mC6
 have zh:(hdA ra rb s (s.nc+1)).length=s.nc+1:=qT;rw[eH] at xw⊢;rw[zh];refine tT fun gh hp=>?_;have hp:=hp.norm 2 [.slice _ _ _,.slice sB _ cB,.slice _ _ cc] O O;have hp:Hp W [] _ ([_,_,_,_,_,_]++_):=hp;rw[eH] at hp;have q1:=hp;have cm:gh.cell? ⟨b3,0+1,_⟩=some (.slice sB _ cB):=hp.cell 2 O O;have ap:=hp.k7 (i:=5) O (j:=2) O O1 O;have hp:=q1.k6 5 O;refine qA ?_;refine xL 6 O jG O3 (fun w'=>Keeps _ _ w') hp.N.C ?_;have hp:=hp.N;refine qX ?_;apply wdp;exact O;intro w hk;exact qS O O (hk.cell cm ap);exact O;refine tG (qXt _) fun gm hp=>?_;rw[←Sr.aD1 (s:=s)];apply wds;exact O;exact jC (cs:=eQ _) hp O O O O O O O;rintro _ gj ⟨nf,rfl,hp⟩;refine⟨hp.C,?_⟩;apply wds;exact O;exact jV eQ (lm s.nc s.B) (s.B s.nc) hp 1 0 O O O O O O jT (by rw[qT];rfl) O O h6 O O (by rw[qT];omega);rintro _ gn ⟨sd,ca,rfl,hy,hp⟩;refine⟨hp.C,?_⟩;have hp:=hp.H;rw[←lm_succ] at hy⊢;rw[qT];have hp:Hp _ _ _ [_]:=hp;rw[←lm_succ] at hp;refine qX (qU ?_);have hp:=q1.j8 5 O hp;refine StepF.mono (jD hp 2 O O O O (qD O) O) ?_;rintro _ hg ⟨rfl,hp⟩;have hp:=hp.norm 2 [.slice _ _ _,.slice _ _ _,.slice _ _ cc] O O;have hp:Hp W [] _ ([_,_,_,_,_,_]++_):=hp;obtain⟨gA,rfl⟩:=xw.addr (fun e=>by grind);obtain⟨gB,rfl⟩:=hy.addr (fun e=>by have:=aQ List.length e;rw[qT,mO] at this;omega);obtain⟨p,h4⟩:∃p:PA,p=⟨gA,ce,gB,ca,gc,cc,ra,rb⟩:=⟨_,O⟩;have hZ:pgL p (s.nc+1) (s.K+1)=[.slice (Ad gA) (s.nc+1) ce,.slice (Ad gB) (s.nc+1) ca,.slice (Ad gc) (s.K+1) cc]:=by rw[h4];rfl
 rw[←hZ] at hp;refine qR (wlp (qL (vs:=pgL p (s.nc+1) (s.K+1)) O O O O (hp.j3 2 O O)) (O:_=Value.agg (pgL p (s.nc+1) (s.K+1)).toArray) ?_);refine tS fun hx hp=>?_;have hp:=hp.norm 3 (pgL p _ _) O O;have hp:Hp W [] _ ([_,_,_,_,_,_]++_):=hp;refine qA ?_;refine zJ O O O O (hp.j4 3 O O) ⟨_,O,p,O,?_,hp.C⟩;rw[h4];refine⟨qZ hp 4 O xw (fun _=>O),qZ hp 5 O hy jT,qZ hp 0 O h9 jT,fun i hi=>?_⟩;show SlAt _ 3 eQ (some ⟨ra i,0,_⟩) _
 rcases dJ.1 hi with h|rfl
 ·rw[(ro i h).1];exact qFb hp (aU _ (bD.2 ⟨i,aO.2 h,O⟩)) (hQ i h) jT
 rw[rn.1,←hz];exact qZ hp 1 O sa jT
end
section
open Go.Eng Go.Dig Go.Lp Go.Qu
def qEs(s:Sr)(Y:Nat→Rat)(c:Nat):Rat:=if s.dec c then 0 else(s.S c:Rat)*Y c
theorem qL7(s:Sr)(Y:Nat→Rat):sm s.nc (qEs s Y)=s.tot Y:=O
theorem qX9{s:Sr}{Y:Nat→Rat}{κ m:Nat}(hS:∀c,c<s.nc→s.S c≤1000)(hm:s.nc≤m)(hb:∀i,i<m→BQ κ (Y i)):∀c,c<s.nc→BQ (10+κ) (qEs s Y c):=fun c hc=>by
 unfold qEs;split
 ·exact BQ.zero O1
 have:=hS c hc;exact BQ.mul (BQn O1 O2) (hb c O1)
attribute [local irreducible] PV StepF wpl wpd WP Ret
attribute [local irreducible] Fit
set_option maxHeartbeats 4000000 in
theorem zB6(a:FrA)(c:FrS)(s:Sr)(κ g cY m:Nat)(Y:Nat→Rat)(W:World)(hR:FrR a c s W)(hY:SlAt W 3 eQ (Ad g) (lm m Y))(hm:s.nc≤m)(mz:0<m)(hx:m≤1000)(hS:∀k,k<s.nc→s.S k≤1000)(hb:∀i,i<m→BQ κ (Y i))(hT:s.tot Y≠0)(hκ:2+s.nc*(κ+11)+κ+12≤1000000000000):
  Rt 166 [.pointer (some ⟨a.fb,0,none⟩),.slice (Ad g) m cY] W (fun v w'=>∃g' c',v= .slice (Ad g') m c'∧SVL (Ad g') c' (lm m fun i=>Y i/s.tot Y)∧Hp W [] w' [qG eQ 49 3 (Ad g') c' (lm m fun i=>Y i/s.tot Y)]):=by
 have h16:=hR.h16;have h18:=hR.h18;have hh:=qX9 hS hm hb;have hq:=qLf hh;have hn:∀k,k≤s.nc→1+k*(_+1)≤1+s.nc*(κ+11):=fun k hk=>by
  rw[show 10+κ+1=κ+11 by omega];have:=aL (κ+11) hk;omega
 refine tW func166 ntmps166 fun hp=>?_;refine tD (wM _) fun w1 hp=>?_;refine tQ fun w2 b5 hp=>?_;refine tS fun w3 hp=>?_;have hp:=hp.norm 0 (eQ (sm 0 (qEs s Y))) O O;have hy:=hp.j7 h16;refine qA (qQ ([6,7]++range' 19 23) (fun(k:Nat) F=>F.put 19 (.int _ k)) (fun k w'=>k≤s.nc∧Hp W [] w' [blk b5 3 (qE (eQ (sm k _))) 49]) (fun k=>s.nc-k) 0 (qB (Same.eq .refl) O) ⟨O1,hp⟩ ?_);clear hp hy;rintro u k w4 ⟨hk,hp⟩;refine tI (fun h=>?_) fun h=>?_
 ·have hl:k<s.nc:=O1;obtain⟨bS,oS,hE,ht⟩:=jR hR.S hl;have cf:w4.cell? ⟨bS,oS+k*1,_⟩=_:=hp.j7 (ht 0 _ O);have hH:=hS k hl;have hL:=hp.j7 h18;have cg:w4.cell? ⟨_,0+k*1,_⟩=_:=hp.j7 (zM hR.D hl 0 _ O);have h8:k<m:=O1;have ea:sm (k+1) (qEs s Y)=_+_:=O;have e7:=hn k hk;refine qA ?_;cases hd:s.dec k with
  |true=>
   have e:qEs s Y k=0:=by unfold qEs;rw[hd];rfl
   refine qN O ?_;have e2:sm k (qEs s Y)=sm (k+1) (qEs s Y):=by rw[ea,e];grind
   rw[e2] at hp;exact mB9
  |false=>
   have e:qEs s Y k=(s.S k)*Y k:=by unfold qEs;rw[hd];rfl
   refine jB O ?_;refine jU jG O3 (fun w'=>Hp W [] w' _) hp.N ?_;have hp:=hp.N;refine tH (qQd (s.S k) _ O1) fun w5 hp=>?_;refine qX ?_;refine tP (fun w hp=>qL O O O O (fun j v e=>hp.j7 (zM hY h8 j v e))) ?_;apply wds;exact O;exact qC O qCw O (r24 (j:=10) _ (BQn O1 O2) (hb k h8) O1);rintro _ w6 ⟨rfl,bu⟩;have hp:=hp.call bu;refine⟨hp,?_⟩;have hz:=r44 w6 (hq k hk) (hh k hl) O1;rw[e] at hz;refine tG hz fun w7 hp=>?_;refine tS fun w8 hp=>qU ?_;have hp:=hp.norm 0 (eQ (sm _ _)) O (by rw[ea,e];rfl);exact mB9
 obtain rfl:s.nc=k:=O1;rw[qL7] at hp;have zl:=hq _ (bM _);have e7:=hn _ O1;rw[qL7] at zl;have hp:=(hp.k4 eQ 49 3);refine qA (qQ ([8,10,11,12]++range' 44 15) (fun z F=>(F.put 8 (.slice z.2.1 (lm z.1 fun i=>Y i/s.tot Y).length z.2.2)).put 44 (.int _ (z.1)))
  (fun z w'=>z.1≤m∧SVL z.2.1 z.2.2 (lm z.1 fun i=>Y i/s.tot Y)∧Hp W [] w' [qG eQ 49 3 z.2.1 z.2.2 (lm z.1 fun i=>Y i/s.tot Y),_]) (fun z=>m-z.1) (0,none,0) (qB (qB (Same.eq .refl) O) O) ⟨O1,SVL.nil,hp⟩ ?_)
 clear hp;rintro u2 ⟨j,s8,c8⟩ w5 ⟨hj,hP,hp⟩;simp[] at hj hP;have hp:Hp W [] w5 [qG eQ 49 3 s8 c8 (lm j _),_]:=hp;refine tI (fun h2=>?_) fun h2=>?_
 ·have hl:j<m:=by
   have:(j:Int)<(m:Int):=h2;omega
  refine qA (tR (qL O O O O (fun q v e=>hp.j7 (zM hY hl q v e))) ?_);refine tQ fun w6 ba hp=>?_;refine tS fun w7 hp=>?_;have hp:=hp.norm 0 (eQ _) O O;refine tD (qQe _ (hb j hl) zl hT O1) fun w8 hp=>?_;refine qA ?_;refine tQ fun w9 be hp=>?_;refine tS fun ur hp=>?_;refine qA ?_;refine tF (jC (cs:=eQ _) hp O O O O O O O) fun gg nb hp=>tFb (jV eQ (lm j _) _ hp 3 0 O O O O O O jT O O O hP O O (by rw[qT];omega)) fun gh s' c'⟨hg,hp⟩=>?_;have hp:=hp.H.H.H;rw[←lm_succ] at hg hp⊢;refine gA0 ?_;exact⟨(j+1,s',c'),qB O5 O,⟨O1,hg,hp⟩,O1⟩
 obtain rfl:m=j:=by
  omega
 obtain⟨g',rfl⟩:=hP.addr (fun e=>by have:=aQ List.length e;rw[qT,mO] at this;omega);rw[qT];refine tV ?_;exact⟨_,O,g',c8,O,hP,hp.sub (dT _ _)⟩
end
section
open Go.Eng Go.Dig Go.Lp Go.Qu
def lvE(cl:Nat→Nat)(lv:List (Rat×(Nat→Rat))):List (Rat×(Nat→Rat)):=lv.map fun x=>(x.1,fun i=>x.2 (cl i))
theorem qKt{cl:Nat→Nat}{lv:List (Rat×(Nat→Rat))}:(lvE cl lv).length=lv.length:=aM _
def kpF(k:Nat):Nat:=64*(csF k+4)
theorem jPf{k:Nat}(h:k≤4):kpF k≤5712200000:=by
 have:=jHj h;unfold kpF;omega
theorem qZj{p q:Rat}:wH p q≤0↔p≤q:=by
 unfold wH;by_cases h:p<q
 ·grind
 rw[if_neg h];by_cases h2:p=q
 ·grind
 rw[if_neg h2];exact⟨fun h=>absurd h O2,fun h3=>absurd (Rat.le_antisymm h3 (sBl.1 h)) h2⟩
def uJ(s:Sr)(y:Nat→Rat)(c:Nat):Rat:=if s.dec c then(s.S c:Rat)*(y c*s.p c) else 0
theorem jAx(s:Sr)(y:Nat→Rat):sm s.nc (uJ s y)=s.n0 y:=O
attribute [local irreducible] PV StepF wpl wpd WP Ret
attribute [local irreducible] Fit csF
set_option maxRecDepth 20000 in
set_option maxHeartbeats 8000000 in
theorem r99(a:FrA)(c:FrS)(l:List EW)(s0 s:Sr)(lv:List (Rat×(Nat→Rat)))(M:List Nat)(W:World)(ok:FrOk a c s (lvE c.cl lv))(hp:Hp W M W (frL a c s (lvE c.cl lv)))(hD:∀w',Keeps M W w'→DE c.d c.sE l w')(hn:c.n=l.length)(oi:c.d.kd=3)(hz:0<c.d.sz)
  (hI:Inv l.length c.cl (FsP c.d l) s0 s lv) (hu:∃k,k<s.nc∧s.dec k=false):
  Rt 99 [.pointer (some ⟨a.fb,0,none⟩)] W (fun _ w'=>∃(a':FrA) (s':Sr) (lc:List (Rat×(Nat→Rat))) (gW cW:Nat) (X:Nat→Rat) (v:Rat),a'.fb=a.fb∧FrOk a' c s' (lvE c.cl lc)∧Inv l.length c.cl (FsP c.d l) s0 s' lc∧s.nd<s'.nd∧s'.nc=s.nc∧s'.W v (fun k=>X (k+1))∧OvB 5712200000 (s'.K+1) X∧
   SVL (Ad gW) cW (lm (s'.K+1) X)∧a'.sW=some ⟨gW,0+1*3,none⟩∧a'.nW=s'.K∧a'.cW=cW-1∧Hp W M w' ([qG eQ 49 3 (Ad gW) cW (lm (s'.K+1) X)]++frL a' c s' (lvE c.cl lc))):=by
 obtain⟨uc,yy,yi⟩:=hu;have h5:=hI.n5;have y2:=hI.nc;have yk:lv.length≤4:=by
  have h1:=hI.dc;have h2:=Sr.nd_lt yy yi;omega
 have o0:=jPf yk;have nz:=jHj yk;obtain⟨κ,hκ⟩:∃κ,κ=kpF lv.length:=⟨_,O⟩;rw[←hκ] at o0;have yt:64*(csF lv.length+4)=κ:=by rw[hκ];rfl
 have yq:1≤κ:=O1;obtain⟨D,Mo,hU,h4,hMo,hpo⟩:=hI.ov;have pm:=fun k hk hd=>wQ hU h4 hMo (hpo k hk hd)
 have hH:∀k,k<_→_≤5:=fun k hk=>hI.S5 hk
 refine Ret.j9 func99 O ntmps99 O (qA ?_);refine tQ fun w1 b4 hp=>?_;have hp:Hp W M w1 ([blk b4 3 (qE eQ0) 49]++frL a c s _):=hp;refine qA (qQ ([2,3,5,6,8,9,10,11]++range' 16 62) (fun _ F=>F)
  (fun z w'=>z.1.fb=a.fb∧FrOk z.1 c z.2 _∧Inv _ _ _ s0 z.2 lv∧s.Eqv z.2∧Hp W M w' ([_]++frL z.1 c z.2 _)) (fun z=>64-z.2.K) (a,s) (Same.eq .refl) ⟨O,ok,hI,.refl,hp⟩ ?_)
 clear hp ok hI;rintro u ⟨a1,s1⟩ w2 ⟨xi,ok,hI,hS,hp⟩;simp[] at xi ok hI hS;have hp:Hp W M w2 (_++frL a1 c s1 _):=hp;have hR:=FrR.of (by rw[bH];exact hp.H) ok;have zg:=hI.K32;have pc:=hI.K1;have enc:=hS.nc;have xq:∀k,k<_→∀q,q<_→_≤5:=fun k hk q hq=>bL (hI.κS hk hq) (hI.S5 hq)
 have xc:∀k,k<s1.nc→_=_→BQ _ (s1.p k):=fun k hk hd=>by
  rw[←hS.p];exact pm k O1 (by rw[hS.dec];exact hd)
 have ys:s1.dec uc=false:=by rw[←hS.dec];exact yi
 have za:uc<s1.nc:=O1;refine qR ?_;refine wlp qP (O:_=Value.pointer _) (tK (xi▸zB7 a1 c s1 _ _ hR O1 O1 (fun k hk=>by have:=hI.S5 hk;omega) (fun j k hj hk=>by have:=xq j hj k hk;omega) xc O1) ?_);rintro _ w3 ⟨p,rfl,y0,ox⟩;have hp:=hp.call ox;have h3:=Sr.q4 hU h4 (fun k hk=>hI.S5 hk) xq (fun k hk hd=>by rw[←hS.p];exact hpo k O1 (by rw[hS.dec];exact hd));have zc:=by
  have:=jWq (M:=5*Mo) (b:=csF lv.length+3) (m:=s1.nc+1) (by rw[dW];omega) O1;rwa[show 64*(csF lv.length+3+1)=κ by omega] at this
 refine tK (zB8 p _ _ κ _ _ _ 1 _ y0 O1 O1 (sAf _) (sAf _) h3 zc O1 yq hI.feas (fun x hx=>hI.le1 za ys hx)) ?_;rintro _ w4 ⟨X,Y,gX,cX,gY,cY,rfl,hO,yh,xx,hT,xn,yo⟩;have hp:=hp.join yo;clear yo;have xa:∀j,j<s1.K+1→BQ κ (X j):=by
  obtain⟨Dx,Mx,x1,x2,x3,x4⟩:=yh;exact fun j hj=>wQ x1 x2 x3 (x4 j hj)
 have hp:Hp W M w4 ([_,_,_]++_):=hp;refine qA (tF (zE (cs:=z5) (m:=5) hp (qJ O) O O) fun w5 b5 hp=>?_);refine tO (zH (cs:=qAl _ _ cX _ _ cY _) hp 0 O O O O (qD O) O O) fun w6 hp=>?_;have hp:=hp.norm 0 (qAl _ _ cX _ _ cY (eQ _)) O O;have hp:Hp W M w6 ([blk b5 5 _ 244,_,_,_]++_):=hp;have yx:=by have:=hT.cap;rwa[qT] at this
 refine qA ?_;refine wlp (qBz (l:=1) (zK O).1 (zK (t:=43) O).2 O O O1 yx) (show Value.slice _ _ _=Value.slice _ _ _ from by rw[if_neg O1]) (qA ?_);refine tO (jD hp 4 (by rw[xi];rfl) O O O (qD O) O) fun w7 hp=>?_;obtain⟨a2,mf⟩:∃a2:FrA,a2={a1 with sW:=some ⟨gX,0+1*3,none⟩,nW:=s1.K,cW:=cX-1}:=⟨_,O⟩;have hp:=hp.norm 4 (a2.C c _ _ _) O (by rw[mf];rfl);have hp:Hp W M w7 ([blk b5 5 (qE (qAl (Ad gX) (s1.K+1) cX (Ad gY) (s1.nc+1) cY (eQ (X 0)))) 244,qG eQ 49 3 (Ad gX) cX (lm (s1.K+1) X),qG eQ 49 3 (Ad gY) cY (lm (s1.nc+1) Y),blk b4 3 (qE eQ0) 49]++frL a2 c s1 (lvE c.cl lv)):=by
  rw[mf];rw[mf] at hp;exact hp
 have oa:FrOk a2 c s1 (lvE c.cl lv):=by
  exact mE9
 have hQ:a2.fb=a.fb:=by rw[mf];exact xi
 clear ok hR;have hR:=FrR.of (Y:=[]) (by rw[bH];exact hp.sub (bZ _ _)) oa;have e8:s1.nc*(κ+11)≤5*_:=aL _ O1;have yf:=zB6 a2 c s1 κ gY cY _ Y w7 hR (qZ hp 2 O xn jT) (Nat.le_succ _) (sAf _) O1 (fun k hk=>by have:=hI.S5 hk;omega) xx (Inv.tot hO) O1;rw[hQ] at yf;refine tL yf ?_;rintro _ w8 ⟨gy,cy,rfl,xp,yl⟩;have hp:=hp.join yl;clear yl;obtain⟨y,hy⟩:∃y:Nat→Rat,y=fun i=>Y i/s1.tot Y:=⟨_,O⟩
 rw[←hy] at xp hp;have hp:Hp W M w8 ([_,_,_]++_):=hp.sub (.cons_cons _ (.cons _ (.cons_cons _ (.cons _ (.refl _)))));have zl:=by
  have:=qLf (qX9 (s:=s1) (Y:=Y) (κ:=κ) (m:=s1.nc+1) (fun q hq=>by have:=hI.S5 hq;omega) (Nat.le_succ _) xx) s1.nc (bM _);rwa[qL7] at this
 have uk:∀q,q<s1.nc+1→BQ (6*κ+56) (y q):=fun q hq=>by
  rw[hy];refine BQ.mono (BQ.div (xx q hq) zl (Inv.tot hO)) ?_;rw[show 10+κ+1=κ+11 by omega];omega
 obtain⟨pr,us⟩:∃pr:Nat→Rat,pr=fun i=>y (c.cl i):=⟨_,O⟩
 have hP:∀i,i<c.n→_<_:=fun i hi=>hI.cls.lt i O1
 have yd:∀i,i<c.n→BQ _ (pr i):=fun i hi=>by rw[us];exact uk _ (by grind)
 have hp:=hp.k4 eQ 49 3;have hp:Hp W M w8 ([qG eQ 49 3 _ 0 (lm 0 pr),_,_,_]++_):=hp;clear hR;have hR:=FrR.of (Y:=[]) (by rw[bH];exact hp.sub (bZ _ _)) oa;have h14:=hR.h14;rw[hQ] at h14;refine qA (qQ ([3,8]++range' 37 12) (fun z F=>(F.put 3 (.slice z.2.1 (lm z.1 pr).length z.2.2)).put 37 (Iv (z.1:Int)))
  (fun z w'=>z.1≤c.n∧SVL z.2.1 z.2.2 (lm z.1 pr)∧Hp W M w' ([qG eQ 49 3 z.2.1 z.2.2 (lm z.1 pr),_,_,_]++frL a2 c s1 _)) (fun z=>c.n-z.1) (0,none,0) (qB (qB (Same.eq .refl) O) O) ⟨bN _,SVL.nil,hp⟩ ?_)
 clear hp hR h14;rintro u2 ⟨j,s3,c3⟩ w9 ⟨hj,xb,hp⟩;simp[] at hj xb;have hp:Hp W M w9 ([qG eQ 49 3 s3 c3 (lm j pr),_,_,_]++_):=hp;refine tI (fun h=>?_) fun h=>?_
 ·have hl:j<c.n:=by
   have:(j:Int)<(c.n:Int):=h;omega
  have zu:=hP j hl;have hR:=FrR.of (Y:=[]) (by rw[bH];exact hp.sub (bZ _ _)) oa;obtain⟨bc,oc,zd,bA⟩:=jR hR.C hl;have cC:=bA 0 _ O;have cY:=zM (qZ hp 1 O xp jT) (show c.cl j<s1.nc+1 by omega);have zf:c.cl j<s1.nc+1:=O1;have ec:y (c.cl j)=pr j:=by rw[us]
  refine qA (tR (qL O O O O cY) ?_);rw[ec];refine tF (jC (cs:=eQ _) hp O O O O O O O) fun ur nb hp=>tFb (jV eQ (lm j pr) _ hp 1 0 O O O O O O jT O O O xb O O (by rw[qT];omega)) fun gg s' c'⟨hm,hp⟩=>?_;have hp:=hp.H;have hp:Hp W M _ ([_,_,_,_]++_):=hp;rw[←lm_succ] at hm hp⊢;refine gA0 ?_;exact⟨(j+1,s',c'),qB O5 O,⟨by show j+1≤_;omega,hm,hp⟩,by show c.n-(j+1)<c.n-j;omega⟩
 obtain rfl:c.n=j:=by
  have:¬(j:Int)<c.n:=h;omega
 rw[qT];refine qA ?_;have xr:∀{w':World},Hp W M w' ([qG eQ 49 3 s3 c3 (lm c.n pr),qG eQ 49 3 (Ad gy) cy (lm (s1.nc+1) y),qG eQ 49 3 (Ad gX) cX (lm (s1.K+1) X),blk b4 3 (qE eQ0) 49]++frL a2 c s1 (lvE c.cl lv))→FrR a2 c s1 w':=fun h=>FrR.of (Y:=[]) (by rw[bH];exact h.sub (bZ _ _)) oa
 have hp:=hp;have yu:_*(l.length+2)≤(6*κ+56+(6*κ+56)+1)*7:=dK _ O1
 have yj:∀w',Hp W M w' ([qG eQ 49 3 s3 c3 (lm c.n pr),qG eQ 49 3 (Ad gy) cy (lm (s1.nc+1) y),qG eQ 49 3 (Ad gX) cX (lm (s1.K+1) X),blk b4 3 (qE eQ0) 49]++frL a2 c s1 (lvE c.cl lv))→Rt 167 [c.d.v,.slice c.sE c.n c.cE,.slice s3 c.n c3] w' (fun v w2=>
   (∃sP cP P,v= .tuple #[.slice sP P.length cP,QV (ps pr P),.bool true]∧FsP c.d l P∧(∀P',FsP c.d l P'→ps pr P'≤ps pr P)∧SVL sP cP P∧Hp w' [] w2 [qG eN 3 1 sP cP P])∨(v= .tuple #[Zs,.agg eQ0.toArray,.bool false]∧(∀P,¬FsP c.d l P)∧Keeps [] w' w2)):=fun w' h=>by
  have:=jVu c.d c.sE s3 c.cE c3 (6*κ+56) l pr w' (hD _ h.keeps) oi hz O1 (by rw[←hn];exact qZ h 0 O xb jT) (fun i hi=>yd i O1) O1 O1;rwa[←hn] at this
 obtain⟨P0,ti,_⟩:=hI.kF 0 O1;refine uD ([9,10,11]++range' 49 14) (fun(z:Option Addr×Nat×List Nat×Nat) F=>(F.put 9 (.slice z.1 z.2.2.1.length z.2.1)).put 10 (.pointer (some ⟨z.2.2.2,0,none⟩)))
  (fun z w'=>FsP c.d l z.2.2.1∧(∀P',FsP c.d l P'→ps pr P'≤ps pr z.2.2.1)∧SVL z.1 z.2.1 z.2.2.1∧Hp W M w' ([blk z.2.2.2 3 (qE (eQ (ps pr z.2.2.1))) 49,qG eN 3 1 z.1 z.2.1 z.2.2.1]++([qG eQ 49 3 s3 c3 (lm c.n pr),qG eQ 49 3 (Ad gy) cy (lm (s1.nc+1) y),qG eQ 49 3 (Ad gX) cX (lm (s1.K+1) X),blk b4 3 (qE eQ0) 49]++frL a2 c s1 (lvE c.cl lv)))) ?_ ?_
 ·refine qCm true [0,1,2,3,4,5,6,7,8,9,10,11,12,13,14,15,16,17] jG O3 O (fun w'=>Hp W M w' _) hp.N ?_;have hp:=hp.N;refine zP ?_;apply wep;exact O;exact O;intro w' hk;exact qL (vs:=c.d.L) O O O O (fun j v e=>by have:=(xr hk).hd j v e;rwa[hQ] at this);exact(O:_=c.d.v);refine zP ?_;apply wep;exact O;exact O;intro w' hk;exact qS O O (by have:=(xr hk).h13;rwa[hQ] at this);exact O;refine zP (qD7 14 O O3 O O ?_ ?_)
  ·skip
   refine tK (yj _ hp) ?_;rintro _ ur (⟨sP,cP,P,rfl,hF,xf,ue,hpo⟩|⟨rfl,j0,_⟩)
   ·have hJ:=hp.join hpo;refine⟨hp.call hpo.C,zP (xO O O3 ?_ O)⟩;apply wbs;exact O;exact jK hJ (qJ O);rintro _ gg ⟨ba,rfl,hJ⟩;refine⟨hJ.H.H,zP (xO O O3 ?_ O)⟩;apply qDu;exact O;exact qW hJ 0 O O O O (qD O) O;rintro _ gh ⟨rfl,hJ⟩;refine⟨hJ.H.H,?_⟩;have hJ:=hJ.norm 0 (eQ _) O O;refine zP (yZ ?_);exact⟨(sP,cP,P,ba),qB O5 O,hF,xf,ue,hJ⟩
   exact absurd ti (j0 P0)
  skip
  apply wbs;exact O;exact jK hp (qJ O);rintro _ ur ⟨ba,rfl,hJ⟩;have hp:=hJ.H;refine⟨hp,xO O O3 (tK (yj _ hp) ?_) O⟩;rintro _ gg (⟨sP,cP,P,rfl,hF,xf,ue,hpo⟩|⟨rfl,j0,_⟩)
  ·have hJ:=hJ.join hpo;refine⟨hp.call hpo.C,zP (xO O O3 ?_ O)⟩;apply qDu;exact O;exact qW hJ 1 O O O O (qD O) O;rintro _ gh ⟨rfl,hJ⟩;refine⟨hJ.H.H,?_⟩;have hJ:=hJ.norm 1 (eQ _) O O;refine zP (yZ ?_);exact⟨(sP,cP,P,ba),qB O5 O,hF,xf,ue,hJ.perm (iM _ _ _)⟩
  exact absurd ti (j0 P0)
 clear hp;rintro u3 ⟨sP,cP,P,ba⟩ ur ⟨hF,xf,ue,hp⟩;simp[] at hF xf ue;have hp:Hp W M _ ([blk ba 3 (qE (eQ (ps pr P))) 49,qG eN 3 1 sP cP P]++_):=hp;have xd:∀i∈P,i<c.n:=fun i hi=>by have:=hF.lt i hi;omega
 have hM:P.length≤c.n:=by
  have:=uK hF.srt (fun i _=>bN i) xd;omega
 have ye:=qY0 yd P xd;have xl:P.length*_≤5*(6*κ+56+1):=aL _ O1;have zb:=uk s1.nc (oT _);refine qA ?_;have yv:s1.nc<s1.nc+1:=oT _;refine jW jG O3 (fun w'=>Hp W M w' _) hp.N ?_;have hp:=hp.N;refine tP (fun w hp=>qL (vs:=eQ (ps pr P)) O O O O (hp.j3 0 O O)) (qX ?_);refine wdp O (fun w hp=>qS O O (by have:=(xr hp.H.H).h16;rwa[hQ] at this)) (O:_=Value.slice a2.sS s1.nc a2.cS) ?_;refine qX (tP (fun w hp=>qL (vs:=eQ (y s1.nc)) O O O O (zM (qZ hp 3 O xp jT) yv)) ?_);refine tG (r53 _ ye zb O1) fun gg hp=>?_;refine qX (qU ?_);have h7:∀P,ps (fun i=>_/_) P=ps pr P:=fun P=>by rw[us,hy]
 refine qH O (fun yw=>?_) (fun xt=>?_)
 ·have yw:=qZj.1 yw;have yc:=xa 0 (sAf _);rw[←yt] at yc;obtain⟨x0,xo,ya,hh⟩:=hI.level hO yc (fun q hq=>by rw[←congrFun hy q];exact(uk q O1).mono O1) hF (fun P' hY=>by rw[h7,h7];exact xf P' hY) (by rw[h7,←congrFun hy _];exact yw);rw[h7,←hy] at x0;rw[←hy] at xo ya hh;refine tT fun gh hp=>?_;have hp:=hp.norm 5 (eQ _) O O;refine qA ?_;refine tQ fun gm be hp=>?_;refine tS fun gj hp=>?_;have hp:=hp.norm 0 (eQ (ps pr P-sm 0 (uJ s1 y))) O (by rw[show ps pr P-sm 0 (uJ s1 y)=ps pr P from by show ps pr P-0=_;grind];rfl);have hp:Hp W M _ ([blk _ 3 _ 49,_,_,_,_,_,_]++_):=hp;have hp:Hp W M gj ([blk be 3 (qE (eQ (ps pr P-sm 0 (uJ s1 y)))) 49,qG eQ 49 3 s3 c3 (lm c.n pr),qG eQ 49 3 (Ad gy) cy (lm (s1.nc+1) y),qG eQ 49 3 (Ad gX) cX (lm (s1.K+1) X)]++frL a2 c s1 (lvE c.cl lv)):=hp.sub (.cons_cons _ (.cons _ (.cons _ (.cons_cons _ (.cons_cons _ (.cons_cons _ (.cons _ (.refl _))))))));have hR:=FrR.of (Y:=[]) (by rw[bH];exact hp.sub (bZ _ _)) oa;have h16:=hR.h16;rw[hQ] at h16;have ul:∀q,q<s1.nc→BQ (10+(6*κ+56+csF lv.length)) (uJ s1 y q):=fun q hq=>by
   unfold uJ;split
   ·rename_i hd
    have:=hI.S5 hq;exact BQ.mul (BQn O1 O2) (BQ.mul (uk q O1) (xc q hq hd))
   exact BQ.zero O1
  have yp:=qLf ul;refine qA (qQ ([13,14]++range' 84 30) (fun(k:Nat) F=>F.put 84 (Iv (k:Int))) (fun k w'=>k≤s1.nc∧Hp W M w' ([blk be 3 (qE (eQ (ps pr P-sm k (uJ s1 y)))) 49,_,_,_]++frL a2 c s1 (lvE c.cl lv))) (fun k=>s1.nc-k) 0 (qB (Same.eq .refl) O) ⟨bN _,hp⟩ ?_);clear hp hR h16;rintro u4 k h6 ⟨hk,hp⟩;refine tI (fun h=>?_) fun h=>?_
  ·have hl:k<s1.nc:=O1;have hR:=FrR.of (Y:=[]) (by rw[bH];exact hp.sub (bZ _ _)) oa;obtain⟨bS,oS,xu,hZ⟩:=jR hR.S hl;have cf:=hZ 0 _ O;have h18:=hR.h18;rw[hQ] at h18;have cg:=zM hR.D hl 0 _ O;have xw:=hI.S5 hl;have ea:sm (k+1) (uJ s1 y)=_+_:=O;have hK:k*_≤5*(10+(6*κ+56+csF lv.length)+1):=aL _ O1;have e7:k<s1.nc+1:=O1;refine qA ?_;cases hd:s1.dec k with
   |false=>
    have e:uJ s1 y k=0:=by unfold uJ;rw[hd];rfl
    have e2:ps pr P-sm k (uJ s1 y)=ps pr P-sm (k+1) (uJ s1 y):=by rw[ea,e];grind
    refine qN O ?_;rw[e2] at hp;exact mB9
   |true=>
    have e:uJ s1 y k=(s1.S k:Rat)*(y k*s1.p k):=by unfold uJ;rw[hd];rfl
    refine jB O (qA ?_);refine jU jG O3 (fun w'=>Hp W M w' _) hp.N ?_;have hp:=hp.N;clear h18 cg cf hZ;refine tP (fun w hp=>qL (vs:=eQ (ps pr P-sm k (uJ s1 y))) O O O O (hp.j3 0 O O)) (tH (qQd (s1.S k) _ O1) fun h8 hp=>?_);refine qX (tP (fun w hp=>qL (vs:=eQ (y k)) O O O O (zM (qZ hp 2 O xp jT) e7)) ?_);refine qX ?_;refine wdp O (fun w hp=>qS O O (by have:=(FrR.of (Y:=[]) (by rw[bH];exact hp.sub (bZ _ _)) oa).h19;rwa[hQ] at this)) (O:_=Value.slice (some ⟨a2.gX,0,none⟩) s1.nc s1.nc) ?_;refine qX ?_
    (apply wdp;exact O;(intro w hp;exact qL (vs:=eQ (s1.p k)) O O O O (fun j v ej=>zM (FrR.of (Y:=[]) (by rw[bH];exact hp.sub (bZ _ _)) oa).X hl j v (by
     unfold pO;rw[hd]
     exact ej)));exact fA3 O)
    refine tK (r24 _ (uk k O1) (xc k hl hd) O1) ?_;rintro _ h9 ⟨rfl,xv⟩;have hp:=hp.call xv;refine⟨hp,?_⟩;apply wds;exact O;exact qC O qCw O (r24 (j:=10) _ (BQn O1 O2) (BQ.mul (uk k O1) (xc k hl hd)) O1);rintro _ hE ⟨rfl,yr⟩;have hp:=hp.call yr;refine⟨hp,?_⟩;have yg:=qKa hE (BQ.sub ye (yp k O1)) (ul k hl) O1;rw[e] at yg;refine tG yg fun hL hp=>?_;refine tS fun hX hp=>qU ?_;have hp:=hp.norm 0 (eQ (ps pr P-sm (k+1) (uJ s1 y))) O (by rw[ea,e,show ps pr P-(sm k _+(s1.S k)*(y k*s1.p k))=ps pr P-sm k (uJ s1 y)-(s1.S k)*(y k*s1.p k) from by grind];rfl);exact mB9
  obtain rfl:s1.nc=k:=O1;rw[jAx,x0] at hp;have hp:Hp W M h6 ([blk be 3 (qE (eQ (X 0))) 49,qG eQ 49 3 s3 c3 (lm c.n pr),qG eQ 49 3 (Ad gy) cy (lm (s1.nc+1) y),qG eQ 49 3 (Ad gX) cX (lm (s1.K+1) X)]++([blk a2.fb 22 (qE (a2.C c s1.nc s1.K (lvE c.cl lv).length)) 179,qG eN 3 1 a2.sC a2.cC (lm c.n c.cl),qG eN 3 1 a2.sP a2.cP (lm c.n c.plc),qG eN 3 1 a2.sS a2.cS (lm s1.nc s1.S),qG jO 22 1 a2.sK a2.cK (kH a2.gk s1.nc s1.K),qG eBo 4 1 (some ⟨a2.gD,0,none⟩) s1.nc (lm s1.nc fun q=>if q<0 then(s1.next (X 0) y).dec q else s1.dec q),qG eOQ 49 3 (some ⟨a2.gX,0,none⟩) s1.nc (lm s1.nc fun q=>if q<0 then pO (s1.next (X 0) y) q else pO s1 q),qG eLH 204 4 a2.sL a2.cL (lH a2.lr c.n (lvE c.cl lv))]++(lm s1.K (qGr a2.gk s1.nc s1.κ)++lm (lvE c.cl lv).length (qDi a2.lr c.n (lvE c.cl lv))))):=by
   rw[jH (f:=fun q=>if q<0 then(s1.next (X 0) y).dec q else s1.dec q) (g:=s1.dec) (fun q _=>if_neg O1),jH (f:=fun q=>if q<0 then pO (s1.next (X 0) y) q else pO s1 q) (g:=pO s1) (fun q _=>if_neg O1)];exact hp
  have sa:∀f:Nat→Bool,SVL _ _ (lm _ f):=fun f=>jZ oa.D (by rw[qT,qT])
  have sc:∀f:Nat→Option Rat,SVL _ _ (lm _ f):=fun f=>jZ oa.X (by rw[qT,qT])
  have h16:h6.cell? ⟨a.fb,0+16,none⟩=some (.slice a2.sS s1.nc a2.cS):=by
   rw[←hQ];exact hp.cell 4 O O
  refine qA (qQ ([15]++range' 119 33) (fun(k:Nat) F=>F.put 119 (Iv (k:Int))) (fun k w'=>k≤s1.nc∧Hp W M w' ([blk be 3 (qE (eQ (X 0))) 49,qG eQ 49 3 s3 c3 (lm c.n pr),qG eQ 49 3 (Ad gy) cy (lm (s1.nc+1) y),qG eQ 49 3 (Ad gX) cX (lm (s1.K+1) X)]++([blk a2.fb 22 (qE (a2.C c s1.nc s1.K (lvE c.cl lv).length)) 179,qG eN 3 1 a2.sC a2.cC (lm c.n c.cl),qG eN 3 1 a2.sP a2.cP (lm c.n c.plc),qG eN 3 1 a2.sS a2.cS (lm s1.nc s1.S),qG jO 22 1 a2.sK a2.cK (kH a2.gk s1.nc s1.K),qG eBo 4 1 (some ⟨a2.gD,0,none⟩) s1.nc (lm s1.nc fun q=>if q<k then(s1.next (X 0) y).dec q else s1.dec q),qG eOQ 49 3 (some ⟨a2.gX,0,none⟩) s1.nc (lm s1.nc fun q=>if q<k then pO (s1.next (X 0) y) q else pO s1 q),qG eLH 204 4 a2.sL a2.cL (lH a2.lr c.n (lvE c.cl lv))]++(lm s1.K (qGr a2.gk s1.nc s1.κ)++lm (lvE c.cl lv).length (qDi a2.lr c.n (lvE c.cl lv)))))) (fun k=>s1.nc-k) 0 (qB (Same.eq .refl) O) ⟨bN _,hp⟩ ?_);clear hp h16;rintro u5 k h8 ⟨hk,hp⟩;refine tI (fun h=>?_) fun h=>?_
  ·have hl:k<s1.nc:=O1;have e7:k<s1.nc+1:=O1;have c18:∀{w':World} {dd:List Bool} {pp:List (Option Rat)},Hp W M w' ([blk be 3 (qE (eQ (X 0))) 49,qG eQ 49 3 s3 c3 (lm c.n pr),qG eQ 49 3 (Ad gy) cy (lm (s1.nc+1) y),qG eQ 49 3 (Ad gX) cX (lm (s1.K+1) X)]++([blk a2.fb 22 (qE (a2.C c s1.nc s1.K (lvE c.cl lv).length)) 179,qG eN 3 1 a2.sC a2.cC (lm c.n c.cl),qG eN 3 1 a2.sP a2.cP (lm c.n c.plc),qG eN 3 1 a2.sS a2.cS (lm s1.nc s1.S),qG jO 22 1 a2.sK a2.cK (kH a2.gk s1.nc s1.K),qG eBo 4 1 (some ⟨a2.gD,0,none⟩) s1.nc dd,qG eOQ 49 3 (some ⟨a2.gX,0,none⟩) s1.nc pp,qG eLH 204 4 a2.sL a2.cL (lH a2.lr c.n (lvE c.cl lv))]++(lm s1.K (qGr a2.gk s1.nc s1.κ)++lm (lvE c.cl lv).length (qDi a2.lr c.n (lvE c.cl lv)))))→w'.cell? ⟨a.fb,0+18,none⟩=some (.slice (some ⟨a2.gD,0,none⟩) s1.nc s1.nc):=fun h=>by
    rw[←hQ];exact h.cell 4 O O
   have ca:∀{w':World} {dd:List Bool} {pp:List (Option Rat)},Hp W M w' ([blk be 3 (qE (eQ (X 0))) 49,qG eQ 49 3 s3 c3 (lm c.n pr),qG eQ 49 3 (Ad gy) cy (lm (s1.nc+1) y),qG eQ 49 3 (Ad gX) cX (lm (s1.K+1) X)]++([blk a2.fb 22 (qE (a2.C c s1.nc s1.K (lvE c.cl lv).length)) 179,qG eN 3 1 a2.sC a2.cC (lm c.n c.cl),qG eN 3 1 a2.sP a2.cP (lm c.n c.plc),qG eN 3 1 a2.sS a2.cS (lm s1.nc s1.S),qG jO 22 1 a2.sK a2.cK (kH a2.gk s1.nc s1.K),qG eBo 4 1 (some ⟨a2.gD,0,none⟩) s1.nc dd,qG eOQ 49 3 (some ⟨a2.gX,0,none⟩) s1.nc pp,qG eLH 204 4 a2.sL a2.cL (lH a2.lr c.n (lvE c.cl lv))]++(lm s1.K (qGr a2.gk s1.nc s1.κ)++lm (lvE c.cl lv).length (qDi a2.lr c.n (lvE c.cl lv)))))→w'.cell? ⟨a.fb,0+19,none⟩=some (.slice (some ⟨a2.gX,0,none⟩) s1.nc s1.nc):=fun h=>by
    rw[←hQ];exact h.cell 4 O O
   have h18:=c18 hp;have cg:h8.cell? ⟨a2.gD,0+k*1,none⟩=some (.bool (s1.dec k)):=by
    have:=zM (qZ hp 9 O (sa _) (fun _=>O)) hl 0 _ O;rwa[if_neg (Nat.lt_irrefl k)] at this
   have cj:=zM (qZ hp 2 O xp jT) e7;have same:(s1.dec k=true∨¬0<y k)→Hp W M h8 ([blk be 3 (qE (eQ (X 0))) 49,qG eQ 49 3 s3 c3 (lm c.n pr),qG eQ 49 3 (Ad gy) cy (lm (s1.nc+1) y),qG eQ 49 3 (Ad gX) cX (lm (s1.K+1) X)]++([blk a2.fb 22 (qE (a2.C c s1.nc s1.K (lvE c.cl lv).length)) 179,qG eN 3 1 a2.sC a2.cC (lm c.n c.cl),qG eN 3 1 a2.sP a2.cP (lm c.n c.plc),qG eN 3 1 a2.sS a2.cS (lm s1.nc s1.S),qG jO 22 1 a2.sK a2.cK (kH a2.gk s1.nc s1.K),qG eBo 4 1 (some ⟨a2.gD,0,none⟩) s1.nc (lm s1.nc fun q=>if q<(k+1) then(s1.next (X 0) y).dec q else s1.dec q),qG eOQ 49 3 (some ⟨a2.gX,0,none⟩) s1.nc (lm s1.nc fun q=>if q<(k+1) then pO (s1.next (X 0) y) q else pO s1 q),qG eLH 204 4 a2.sL a2.cL (lH a2.lr c.n (lvE c.cl lv))]++(lm s1.K (qGr a2.gk s1.nc s1.κ)++lm (lvE c.cl lv).length (qDi a2.lr c.n (lvE c.cl lv))))):=fun hV=>by
    have e1:(s1.next (X 0) y).dec k=s1.dec k:=by
     show(s1.dec k||decide (0<y k))=_
     rcases hV with h|h
     ·rw[h];rfl
     rw[aB h,dI]
    have e2:pO (s1.next (X 0) y) k=pO s1 k:=by
     unfold pO;rw[e1];show(if s1.dec k then some (if s1.dec k then s1.p k else if 0<y k then X 0 else s1.p k) else none)=_
     rcases hV with h|h
     ·rw[h];rfl
     rw[if_neg h];cases s1.dec k<;>rfl
    rw[jH (f:=fun q=>if q<k+1 then(s1.next (X 0) y).dec q else s1.dec q) (g:=fun q=>if q<k then(s1.next (X 0) y).dec q else s1.dec q) (fun q _=>by
     by_cases hq:q=k
     ·subst hq;rw[if_pos O1,if_neg O1,e1]
     ·by_cases yz:q<k
      ·rw[if_pos O1,if_pos yz]
      rw[if_neg O1,if_neg yz]),jH (f:=fun q=>if q<k+1 then pO (s1.next (X 0) y) q else pO s1 q) (g:=fun q=>if q<k then pO (s1.next (X 0) y) q else pO s1 q) (fun q _=>by
     by_cases hq:q=k
     ·subst hq;rw[if_pos O1,if_neg O1,e2]
     by_cases yz:q<k
     ·rw[if_pos O1,if_pos yz]
     rw[if_neg O1,if_neg yz])]
    exact hp
   refine jL ?_;cases hd:s1.dec k with
   |true=>
    have hp:=same (.inl hd);refine gAh ?_;exact mA9
   |false=>
    refine jL ?_;apply vX;exact O;exact O;exact qL O O O O cj;exact fA3 O;refine tK (r52 _ (BQ.fq (uk k e7) O1)) ?_;rintro _ h9 ⟨rfl,xv⟩;by_cases xz:0<y k
    ·have d1:decide (qAm (y k)>0)=true:=by
      refine aD ?_;exact mEo
     refine jL ?_;rw[d1];refine jL (jB O ?_);have hp:=hp.call xv;refine qA (kU true jG O3 (fun w'=>w'.cell? ⟨a.fb,0+18,none⟩=some (.slice (some ⟨a2.gD,0,none⟩) s1.nc s1.nc)∧w'.cell? ⟨a.fb,0+19,none⟩=some (.slice (some ⟨a2.gX,0,none⟩) s1.nc s1.nc)∧∀(j:Nat) (v:Value),(eQ (X 0))[j]? =some v→w'.cell? ⟨be,0+j,none⟩=some v) ⟨c18 hp.N,ca hp.N,hp.N.j3 0 O O⟩ ?_);have hp:=hp.N;refine qX ?_;apply wdp;exact O;intro w hg;exact qS O O hg.1;exact O;refine qX ?_;apply wdp;exact O;intro w hg;exact qS O O hg.2.1;exact O;refine qX ?_;apply wdp;exact O;intro w hg;exact qL O O O O hg.2.2;exact fA3 O;refine qX ?_;apply qSl;exact O;exact zL eBo _ k true hp 9 O (sa _) (by rw[qT];exact hl) O O (fun _=>O) O O (qD O);rintro _ hE ⟨rfl,hp⟩;refine⟨⟨c18 hp,ca hp,hp.j3 0 O O⟩,qX ?_⟩;apply qSl;exact O;exact vL eOQ _ k (some (X 0)) hp 10 O (sc _) (by rw[qT];exact hl) O O qKx O O (qD O);rintro _ hL ⟨rfl,hp⟩;refine⟨⟨c18 hp,ca hp,hp.j3 0 O O⟩,qU ?_⟩;have e1:(s1.next (X 0) y).dec k=true:=by
      show(s1.dec k||decide (0<y k))=_
      rw[aD xz,oQ]
     have e2:pO (s1.next (X 0) y) k=some (X 0):=by
      unfold pO;rw[e1];show some (if s1.dec k then s1.p k else if 0<y k then X 0 else s1.p k)=_
      rw[hd,if_neg O2,if_pos xz]
     rw[←e1,qW0,←e2,qW0] at hp;exact mB9
    have d1:decide (qAm (y k)>0)=false:=by
     refine aB ?_;unfold qAm;by_cases h0:y k=0
     ·rw[if_pos h0];decide
     rw[if_neg h0,if_pos (by grind)];decide
    refine jL ?_;rw[d1];refine qN O ?_;have hp:=(same (.inr xz)).call xv;exact mB9
  obtain rfl:s1.nc=k:=O1;have hp:Hp W M h8 ([blk be 3 (qE (eQ (X 0))) 49,qG eQ 49 3 s3 c3 (lm c.n pr),qG eQ 49 3 (Ad gy) cy (lm (s1.nc+1) y),qG eQ 49 3 (Ad gX) cX (lm (s1.K+1) X)]++([blk a2.fb 22 (qE (a2.C c s1.nc s1.K (lvE c.cl lv).length)) 179,qG eN 3 1 a2.sC a2.cC (lm c.n c.cl),qG eN 3 1 a2.sP a2.cP (lm c.n c.plc),qG eN 3 1 a2.sS a2.cS (lm s1.nc s1.S),qG jO 22 1 a2.sK a2.cK (kH a2.gk s1.nc s1.K),qG eBo 4 1 (some ⟨a2.gD,0,none⟩) s1.nc (lm s1.nc (s1.next (X 0) y).dec),qG eOQ 49 3 (some ⟨a2.gX,0,none⟩) s1.nc (lm s1.nc (pO (s1.next (X 0) y))),qG eLH 204 4 a2.sL a2.cL (lH a2.lr c.n (lvE c.cl lv))]++(lm s1.K (qGr a2.gk s1.nc s1.κ)++lm (lvE c.cl lv).length (qDi a2.lr c.n (lvE c.cl lv))))):=by
   rw[jH (g:=(s1.next (X 0) y).dec) (fun q hq=>if_pos hq),jH (g:=pO (s1.next (X 0) y)) (fun q hq=>if_pos hq)] at hp;exact hp
  obtain⟨lE,xy⟩:∃lE,lE=lvE c.cl lv:=⟨_,O⟩;rw[←xy] at hp oa;have ze:lE.length=lv.length:=by rw[xy];exact qKt
  have xk:(lH a2.lr c.n lE).length=lE.length:=qT;have cc:h8.cell? ⟨a.fb,0+21,none⟩=some (.slice a2.sL lE.length a2.cL):=by
   rw[←hQ];exact hp.cell 4 O O
  have ce:=hp.j3 0 O O;have q1:=hp;have aa:a.fb∉zG [qG eLH 204 4 a2.sL a2.cL (lH a2.lr c.n lE)]:=by
   rw[←hQ];exact hp.k7 (i:=11) O (j:=4) O O1 O
  have ab:=hp.k7 (i:=11) O (j:=0) O O1 O;have hp:=q1.k6 11 O;refine qA ?_;refine xL 12 O jG O3 (fun w'=>Keeps _ h8 w') hp.N.C ?_;have hp:=hp.N;refine qX ?_;apply wdp;exact O;intro w hk;exact qS O O (hk.cell cc aa);exact O;apply wdp;exact O;intro w hk;exact qL (vs:=eQ (X 0)) O O O O (fun j v e=>hk.cell (ce j v e) ab);exact fA3 O;refine qX ?_;apply wdp;exact O;intro w hk;exact qE4 (zs:=[.bool false,_,_,_]) (tl:=[]) (pl:=[(0,3),(3,1)]) (pl':=[]) Tryz.underlying204 (qJ O) (fun w=>O3) O O O;exact(O:_=Value.agg (eLH (X 0,s3,c.n,c3)).toArray);apply wds;exact O;exact jC (cs:=eLH _) hp O O O O O O O;rintro _ h9 ⟨nb,rfl,hp⟩;refine⟨hp.C,?_⟩;apply wds;exact O;exact jV eLH _ (X 0,s3,c.n,c3) hp 1 0 O O O O O O (fun _=>O) (by rw[xk];rfl) O O oa.L O O (by rw[xk];omega);rintro _ hE ⟨sd,ci,rfl,yn,hp⟩;refine⟨hp.C,?_⟩;obtain⟨la,xh⟩:∃la:Nat→Option _×Nat,la=fun j=>if j=lE.length then(s3,c3) else a2.lr j:=⟨_,O⟩
  have lo:∀j,j<lE.length→la j=a2.lr j:=fun j hj=>by rw[xh];exact if_neg O1
  have ln:la lE.length=(s3,c3):=by rw[xh];exact if_pos O
  have go:∀j,j<_→(lE++[(X 0,pr)]).getD j lv0=lE.getD j _:=fun j hj=>by
   rw[aC,aC,sAz hj]
  have gn:(lE++[(X 0,pr)]).getD lE.length lv0=(X 0,pr):=by
   rw[aC,gZ (bM _),lW];rfl
  have zh:(lE++[(X 0,pr)]).length=lE.length+1:=by rw[aY];rfl
  have eH:lH a2.lr c.n lE++[(X 0,s3,c.n,c3)]=lH la c.n (lE++[(X 0,pr)]):=by
   unfold lH;rw[zh,lm_succ,gn,ln,jH (f:=fun j=>((lE.getD j lv0).1,(a2.lr j).1,c.n,(a2.lr j).2)) (g:=fun j=>(((lE++[(X 0,pr)]).getD j lv0).1,(la j).1,c.n,(la j).2)) (fun j hj=>by rw[go j hj,lo j hj])]
  have eR:lm lE.length (qDi a2.lr c.n lE)++[qG eQ 49 3 s3 c3 (lm c.n pr)]=lm (lE++[(X 0,pr)]).length (qDi la c.n (lE++[(X 0,pr)])):=by
   rw[zh,show lm (lE.length+1) (qDi la c.n (lE++[(X 0,pr)]))=lm lE.length (qDi la c.n (lE++[(X 0,pr)]))++[qDi la c.n (lE++[(X 0,pr)]) lE.length] from lm_succ];congr 1
   ·exact jH fun j hj=>by unfold qDi;rw[lo j hj,go j hj]
   unfold qDi;rw[ln,gn]
  have xe:(lH a2.lr c.n lE++[(X 0,s3,c.n,c3)]).length=lE.length+1:=by rw[aY,xk];rfl
  rw[xe];have hp:=hp.H;have hp:Hp _ _ _ [_]:=hp;rw[eH] at hp yn;refine qX (qU ?_);have hp:=q1.j8 11 O hp;refine StepF.mono (jD hp 4 (by rw[hQ];rfl) O O O (qD O) O) ?_;rintro _ hL ⟨rfl,hp⟩;obtain⟨a3,xg⟩:∃a3:FrA,a3={a2 with sL:=sd,cL:=ci,lr:=la}:=⟨_,O⟩;have hp:=hp.norm 4 (a3.C c _ _ (lE++[_]).length) O (by rw[xg,zh];rfl);have hp:Hp W M _ ([_,_,_,_]++([_,_,_,_,_,_,_,_]++_)):=hp;have hp:Hp W M hL ([qG eQ 49 3 s3 c3 (lm c.n pr)]++([_]++_)):=hp.sub (.cons _ (.cons_cons _ (.cons _ (.refl _))));have hp:=hp.perm eP;rw[bQ,bQ,bQ,eR] at hp;have eb:lvE c.cl (lv++[(X 0,y)])=lE++[(X 0,pr)]:=by
   rw[xy,us];unfold lvE;rw[dR];rfl
  refine qA ?_;refine xK O ⟨_,O,a3,_,_,gX,cX,X,X 0,?_,?_,ya,?_,hS.nc.symm,xo,yh.mono o0,hT,?_,?_,?_,?_⟩
  ·rw[xg];exact hQ
  ·rw[eb,xg];refine⟨oa.C,oa.P,oa.S,oa.K,sa _,sc _,yn,oa.k,fun j hj=>?_⟩;show SVL (la j).1 (la j).2 _
   rw[zh] at hj;rcases dJ.1 hj with h|rfl
   ·rw[lo j h,go j h];exact oa.l j h
   rw[ln,gn];exact xb
  ·have e:s.nd=s1.nd:=by
    unfold Sr.nd;rw[hS.nc,hS.dec]
   rw[e];exact hh
  ·rw[xg,mf]
  ·rw[xg,mf];rfl
  ·rw[xg,mf]
  rw[eb];rw[xg] at hp⊢;exact hp
 have xt:=by
  refine bG fun hn=>xt (qZj.2 (sBl.1 hn))
 refine qA ?_;have ht:=Hp.l5 (A:=[_,_]++[_,_,_,_]) hp;have xj:=r97 a2 c s1 _ P sP cP _ gg oa ht (qZ hp 1 O ue (fun _=>O)) xd hP O1 O1 O1;have xj:Rt 97 [.pointer (some ⟨a.fb,0,none⟩),.slice sP P.length cP] gg (fun _ w'=>∃sK cK gk,FrOk {a2 with sK:=sK,cK:=cK,gk:=gk} c (s1.o4 (jX c.cl P)) (lvE c.cl lv)∧Hp gg (zG (frL a2 c s1 (lvE c.cl lv))) w' (frL {a2 with sK:=sK,cK:=cK,gk:=gk} c (s1.o4 (jX c.cl P)) (lvE c.cl lv))):=by
  rw[←hQ];exact xj
 refine tK xj ?_;rintro _ gh ⟨sK,cK,gk,od,lj⟩;have hp:=Hp.back (A:=[_,_]++[_,_,_,_]) hp lj;refine qA ?_;exact⟨({a2 with sK:=sK,cK:=cK,gk:=gk},s1.o4 (jX c.cl P)),Same.eq (by repeat(first|exact Same.l7|exact Same.refl|refine Same.put O ?_|refine Same.x9 O ?_)),⟨hQ,od,hI.more hO hF (by rw[h7,←congrFun hy _];exact xt),hS.trans ⟨O,O,O,O⟩,hp.H.H.H.H.H⟩,by show 64-(s1.K+1)<64-s1.K;omega⟩
end
section
open Go.Eng Go.Dig Go.Lp Go.Qu
variable{j:Nat}{w:World}{b c:Nat}{w0:World}{M:List Nat}{L:List Ent}
def qEt{α:Type}(enc:α→List Value)(e k:Nat)(w:World)(b c:Nat)(l:List α):Prop:=∃o,w.heap[b]? =some o∧qLm e k c l.length (l.flatMap enc) o
section
variable {α:Type}{enc:α→List Value}{e k:Nat}
theorem Hp.aA4{w':World}{l l':List α}(hp:Hp w0 M w L)(i:Nat)(hi:L[i]? =some (qG enc e k (Ad b) c l))(hk:Keeps [b] w w')(ho:qEt enc e k w' b c l'):
  Hp w0 M w' (L.set i (qG enc e k (Ad b) c l')):=
 hp.o8 hi hk (by
  intro q hq;have:(some b)=_:=hq;have:q=b:=by simpa[eq_comm] using this
  subst this
  exact⟨.inl O,ho⟩)
theorem Hp.q3{l:List α}(hp:Hp w0 M w L)(i:Nat)(hi:L[i]? =some (qG enc e k (Ad b) c l)):qEt enc e k w b c l:=hp.has i _ hi b O
theorem Hp.y9{l:List α}(h:qEt enc e k w b c l):Hp w [b] w [qG enc e k (Ad b) c l]:=by
 exact mBj
def qD3(lt:α→α→Bool):List α→α→List α
 |[],x=>[x]
 |y::r,x=>if lt x y then y::qD3 lt r x else x::y::r
def svG(lt:α→α→Bool):List α→List α
 |[]=>[]
 |x::r=>qD3 lt (svG lt r) x
def kX(lt:α→α→Bool)(l:List α):List α:=(svG lt l.reverse).reverse
theorem qJ7(lt:α→α→Bool)(x:α):∀r:List α,(qD3 lt r x).Perm (x::r)
 |[]=>.refl _
 |y::r=>by
  rw[qD3];split
  ·exact((qJ7 lt x r).cons y).trans (.swap x y r)
  simp
theorem qSr(lt:α→α→Bool):∀r:List α,(svG lt r).Perm r
 |[]=>.refl _
 |x::r=>(qJ7 lt x _).trans ((qSr lt r).cons x)
theorem wK(lt:α→α→Bool)(l:List α):(kX lt l).Perm l:=
 (rC _).trans ((qSr lt _).trans (rC _))
theorem qF2(lt:α→α→Bool)(l:List α):(kX lt l).length=l.length:=(wK lt l).length_eq
theorem qO9(lt:α→α→Bool)(l:List α)(x:α):kX lt (l++[x])=(qD3 lt (kX lt l).reverse x).reverse:=by
 unfold kX;rw[lD,iY];rfl
theorem qSw(lt:α→α→Bool)(x:α):kX lt [x]=[x]:=O
theorem qP2{lt:α→α→Bool}{P:List α}{x:α}(hj:j<P.length)(h:lt x P[j]=false):(qD3 lt (P.take (j+1)).reverse x).reverse=P.take (j+1)++[x]:=by
 rw[aG hj,lD];show(qD3 lt (P[j]::(P.take j).reverse) x).reverse=_
 rw[qD3,h];simp
theorem qYp{lt:α→α→Bool}{P:List α}{x:α}(hj:j<P.length)(h:lt x P[j]=true):(qD3 lt (P.take (j+1)).reverse x).reverse=(qD3 lt (P.take j).reverse x).reverse++[P[j]]:=by
 rw[aG hj,lD];show(qD3 lt (P[j]::(P.take j).reverse) x).reverse=_
 rw[qD3,if_pos h];simp
theorem qTv{lt:α→α→Bool}(ht:∀a b c,lt a b=false→lt b c=false→lt a c=false)(ha:∀a b,lt a b=true→lt b a=false){x:α}:∀{r:List α},r.Pairwise (fun a b=>lt a b=false)→(qD3 lt r x).Pairwise (fun a b=>lt a b=false)
 |[],_=>by simp[qD3]
 |y::r,h=>by
  obtain⟨h1,h2⟩:=bO.1 h;rw[qD3];split
  ·rename_i hc
   refine bO.2 ⟨fun z hz=>?_,qTv ht ha h2⟩;rcases bE.1 ((qJ7 lt x r).mem_iff.1 hz) with rfl|hz
   ·grind
   grind
  refine bO.2 ⟨fun z hz=>?_,h⟩;grind
theorem qSv{lt:α→α→Bool}(ht:∀a b c,lt a b=false→lt b c=false→lt a c=false)(ha:∀a b,lt a b=true→lt b a=false)(l:List α):(kX lt l).Pairwise (fun a b=>lt b a=false):=by
 unfold kX;have:∀r,(svG lt r).Pairwise _:=fun r=>by
  induction r with
  |nil=>exact .nil
  |cons x r ih=>exact qTv ht ha ih
 grind
def mvG(P:List α)(x:α)(j:Nat)(S:List α):List α:=P.take j++x::(P.drop j++S)
theorem qYe{P:List α}{x:α}{S:List α}:(mvG P x j S).length=P.length+S.length+1:=by
 unfold mvG;grind
theorem jEd{P:List α}{x:α}{S:List α}(hj:j≤P.length):(mvG P x j S)[j]? =some x:=by
 unfold mvG;grind
theorem qMb{P:List α}{x:α}{S:List α}(hj:j<P.length):(mvG P x (j+1) S)[j]? =some P[j]:=by
 unfold mvG;grind
theorem qTl{P:List α}{x:α}{S:List α}(hj:j<P.length):((mvG P x (j+1) S).set (j+1) P[j]).set j x=mvG P x j S:=by
 unfold mvG;rw[aG hj,bQ,aX hj];grind
end
def eFr(f:Nat×Nat):List Value:=[Iv (f.1:Int),Iv (f.2:Int)]
def vFr(f:Nat×Nat):Value:=.agg (eFr f).toArray
theorem uC(f:Nat×Nat):(eFr f).length=2:=O
def jNr(b ln cc q:Nat)(x y:(Nat×Nat)):Nat→Value:=qE [.slice (Ad b) ln cc,Iv ((q+1:Nat):Int),.slice (Ad b) ln cc,Iv ((q+1:Nat):Int),Iv (q:Int),.slice (Ad b) ln cc,Iv ((q+1:Nat):Int),Iv (q:Int),.pointer (some ⟨b,0+q*2,none⟩),vFr y,.slice (Ad b) ln cc,Iv ((q+1:Nat):Int),.pointer (some ⟨b,0+(q+1)*2,none⟩),vFr x,.pointer (some ⟨b,0+(q+1)*2,none⟩),.pointer (some ⟨b,0+q*2,none⟩)]
def qSe(gf:FuncId)(dy:Array Value)(lt:(Nat×Nat)→(Nat×Nat)→Bool)(l:List (Nat×Nat))(M:List Nat)(w:World):Prop:=∀W,Keeps M w W→∀x∈l,∀y∈l,Rt gf ([vFr x,vFr y]++dy.toList) W (fun v W'=>∃z:Int,v=Iv z∧(z<0↔lt x y=true)∧Keeps [] W W')
def jNq(b ln cc q:Nat)(x y:Rat):Nat→Value:=qE [.slice (Ad b) ln cc,Iv ((q+1:Nat):Int),.slice (Ad b) ln cc,Iv ((q+1:Nat):Int),Iv (q:Int),.slice (Ad b) ln cc,Iv ((q+1:Nat):Int),Iv (q:Int),.pointer (some ⟨b,0+q*3,none⟩),QV y,.slice (Ad b) ln cc,Iv ((q+1:Nat):Int),.pointer (some ⟨b,0+(q+1)*3,none⟩),QV x,.pointer (some ⟨b,0+(q+1)*3,none⟩),.pointer (some ⟨b,0+q*3,none⟩)]
def qX2(gf:FuncId)(dy:Array Value)(lt:Rat→Rat→Bool)(l:List Rat)(M:List Nat)(w:World):Prop:=∀W,Keeps M w W→∀x∈l,∀y∈l,Rt gf ([QV x,QV y]++dy.toList) W (fun v W'=>∃z:Int,v=Iv z∧(z<0↔lt x y=true)∧Keeps [] W W')
attribute [local irreducible] PV StepF wpl wpd WP Ret
attribute [local irreducible] Fit
theorem jZs(l:List (Nat×Nat))(lt:(Nat×Nat)→(Nat×Nat)→Bool)(b cc:Nat)(gf:FuncId)(hg:qI Tryz.prog gf)(dy:Array Value)(w:World)(hr:qEt eFr 255 2 w b cc l)(hc:l.length≤cc)(qa:cc≤maxLen)(hC:qSe gf dy lt l [b] w)(h20:l.length<20):
  Rt 365 [.slice (Ad b) l.length cc,Iv 0,Iv (l.length:Int),.func (.func gf) #[] dy] w (fun _ w'=>Keeps [b] w w'∧qEt eFr 255 2 w' b cc (kX lt l)):=by
 have uv:∀z:List (Nat×Nat),z.length=l.length→SVL _ cc z:=fun z hz=>.inr ⟨b,cc,by rw[hz],O1,qa⟩
 refine Ret.j9 func365 O ntmps365 O ?_;have hp:=Hp.y9 hr;refine tM (0+1) ?_;refine qA (kT [8,9,12,13,14,15,16,17,18,19,20,21,22,23,24,25,26,27,28,29,30,31,32,33,34,35,36,37,38,39,40,41,42,43,44,45,46,47,48,49,50,51,52] (fun i _z F=>F.put 8 (.int _ (i+1:Nat)))
  (fun i z w'=>(i+1≤l.length∨i=0)∧z=kX lt (l.take (i+1))++l.drop (i+1)∧Hp w _ w' [qG _ 255 2 _ cc z]) (fun i _=>l.length-i) 0 l (qB (Same.eq .refl) O) ⟨.inr O,?_,hp⟩ ?_)
 ·cases l with
  |nil=>rfl
  |cons x l=>simp[qSw]
 (repeat clear hp);rintro u i z w1 ⟨hi,hz,hp⟩;refine tI (fun h=>?_) fun h=>?_
 ·have hl:i+1<l.length:=O1;obtain⟨Pf,hP⟩:∃Pf,Pf=kX lt (l.take (i+1)):=⟨_,O⟩;obtain⟨S,hS⟩:∃S,S=l.drop (i+1+1):=⟨_,O⟩;have h3:Pf.length=i+1:=by rw[hP,qF2,bV];omega
  have hV:S.length=l.length-(i+1+1):=by rw[hS,fJ]
  have hT:∀y∈Pf,y∈l:=by
   exact mEp
  have nh:=bX hl;have e8:=qO9 lt (l.take (i+1)) l[i+1];rw[←aG,←hP] at e8;rw[←hP,aX hl,←hS] at hz;generalize hx:l[i+1]=x at nh e8 hz;have zv:z=mvG Pf x (i+1) S:=by
   rw[hz];unfold mvG;rw[←h3,dE,iQ];rfl
  subst zv;clear hz;refine qA (qQ [9,18,19,20,21,22,23,24,25,26,27,28,29,30,31,32,33,34,35,36,37,38,39,40,41,42,43,44,45,46,47,48,49,50,51,52] (fun(j:Nat) F=>F.put 9 (.int _ j))
   (fun j w'=>j≤i+1∧(qD3 lt _ x).reverse=(qD3 lt (Pf.take j).reverse x).reverse++Pf.drop j∧Hp w _ w' [qG _ 255 2 _ cc (mvG Pf x j S)]) (fun j=>j) _ (qB (Same.eq .refl) O) ⟨O1,by rw[←h3,dE,iQ,bH],hp⟩ ?_)
  (repeat clear hp);rintro u2 j w2 ⟨hj,hH,hp⟩;have x2:(mvG Pf x j S).length=l.length:=by rw[qYe];omega
  have gq:=uv _ x2;refine qA ?_;refine jW jG O3 (fun w'=>Hp w _ w' _) hp.N ?_;have hp:=hp.N;refine tP (fun w hp=>qP) (tP (fun w hp=>qP) ?_);rcases dH j with h0|h0
  ·subst h0;refine xA ?_;apply qIv;exact O;exact O;exact O;exact O;exact hp;exact mCb
  obtain⟨q,rfl⟩:∃q,j=q+1:=⟨j-1,O1⟩;have hm:q<Pf.length:=O1;have h7:=jEd (P:=Pf) (x:=x) (j:=q+1) (S:=S) O1;have zt:=qMb (x:=x) (S:=S) hm;have qb:=qTl (x:=x) (S:=S) hm;have h6:=qYp (lt:=lt) (x:=x) hm;have xy:=qP2 (lt:=lt) (x:=x) hm;have ni:=hT _ (bX hm);have ey:=aX hm;generalize Pf[q]=y at zt qb h6 xy ni ey;have xz:q+1<l.length:=O1;have zn:q<l.length:=O1;have hJ:q+1<(mvG Pf x (q+1) S).length:=O1;refine wdp O (fun w hp=>xJ O O) (qV (aD O1)) (xA ?_);apply yG;exact O;exact O;exact O;intro w hp;exact qL O O O O (zS hp 0 O gq uC h7);exact(O:_=vFr x);refine xA ?_;refine tN q ?_;refine xA ?_;apply yG;exact O;exact O;exact O;intro w hp;exact qL O O O O (zS hp 0 O gq uC zt);exact(O:_=vFr y);apply qHt;exact O;exact O;exact O;exact qC O hg O (hC _ hp.C x nh y ni);rintro _ w3 ⟨zc,rfl,hU,hk⟩;have hp:=hp.call hk;refine⟨hp,?_⟩;by_cases bA:lt x y=true
  ·apply yG;exact O;exact O;exact O;intro w hp;exact zQ O O;exact qV (aD (hU.2 bA));refine xA (qU ?_);refine jB O (qA ?_);refine qGm ?_;intro F0 hq;have hn:F0 0= .slice (Ad b) l.length cc:=by rw[hq];rfl
   have ht:F0 9=Iv (q+1:Nat):=by rw[hq];rfl
   refine qFs jG O3 (fun D F w'=>Dn 37 16 (jNr b l.length cc q x y) F0 (fun j=>D (phi j)) F∧(D 15=true→D 9=true∧D 13=true)∧(D 17=true→D 15=true)∧(D 15=false→Hp w _ w' _)∧(D 15=true→D 17=false→Hp w [b] w' [qG eFr 255 2 (Ad b) cc ((mvG Pf x (q+1) S).set (q+1) y)])∧(D 17=true→Hp w [b] w' [qG eFr 255 2 (Ad b) cc (((mvG Pf x (q+1) S).set (q+1) y).set q x)])) ⟨Dn.start,O4,O4,fun _=>hp.N,O4,O4⟩ ?_ ?_
   ·rintro i D F w4 hi h8 hA ⟨hD,hK,hE,mw,ed,lj⟩;have hM:=gq.set (q+1) y;have hL:q<((mvG Pf x (q+1) S).set (q+1) y).length:=by rw[fZ];omega
    have nf:∀j,j<16→Nat.beq _ 15=_:=fun j hj=>jJ (qFa hj).1
    have na:∀j,j<16→Nat.beq _ 17=_:=fun j hj=>jJ (qFa hj).2.1
    have ng:∀j,j<16→(D (phi j)||Nat.beq (phi j) 16)=(D (phi j)||Nat.beq j 15):=by
     intro j hj;by_cases h:j=15
     ·subst h;rfl
     have e1:phi j=j:=by unfold phi;rw[jJ h];rfl
     exact mCv
    have h15:(D 9=false∨D 13=false)→D 15=false:=by
     intro h;cases h5:D 15
     ·rfl
     exact mBt
    have nxt:∀i,i<15→i≠9999→Dn 37 16 (jNr b l.length cc q x y) F0 (fun j=>D (phi j)||Nat.beq (phi j) i) (F.put (37+i) (jNr b l.length cc q x y i))∧((D 15||Nat.beq 15 i)=true→(D 9||Nat.beq 9 i)=true∧(D 13||Nat.beq 13 i)=true)∧((D 17||Nat.beq 17 i)=true→(D 15||Nat.beq 15 i)=true)∧((D 15||Nat.beq 15 i)=false→Hp w [b] w4 [qG eFr 255 2 (Ad b) cc (mvG Pf x (q+1) S)])∧((D 15||Nat.beq 15 i)=true→(D 17||Nat.beq 17 i)=false→Hp w [b] w4 [qG eFr 255 2 (Ad b) cc ((mvG Pf x (q+1) S).set (q+1) y)])∧((D 17||Nat.beq 17 i)=true→Hp w [b] w4 [qG eFr 255 2 (Ad b) cc (((mvG Pf x (q+1) S).set (q+1) y).set q x)]):=by
     exact mA7
    match i,hi with
    |0,_=>
     exact mCy
    |1,_=>
     exact mCz
    |2,_=>
     exact mD0
    |3,_=>
     exact mD1
    |4,_=>
     exact mAh
    |5,_=>
     exact mD2
    |6,_=>
     exact mD3
    |7,_=>
     exact mAl
    |8,_=>
     exact mAi
    |9,_=>
     have hA:(D 8&&true)=_:=hA;simp[aF,eX] at hA;exact zI (qL O O (hD.slot 8 hA O O) O (zS (mw (h15 (by grind))) 0 O gq uC zt)) O (nxt 9 O2 O2)
    |10,_=>
     exact mCs
    |11,_=>
     exact mCt
    |12,_=>
     exact mAg
    |13,_=>
     have hA:(D 12&&true)=_:=hA;simp[aF,eX] at hA;exact zI (qL O O (hD.slot 12 hA O O) O (zS (mw (h15 (by grind))) 0 O gq uC h7)) O (nxt 13 O2 O2)
    |14,_=>
     exact mA3
    |15,_=>
     have hA:(D 14&&(D 9&&(D 0&&(D 1&&(true&&(true&&(true&&(D 5&&(D 6&&(D 7&&(D 8&&(D 9&&(true&&(true&&(true&&(D 13&&true))))))))))))))))=_:=hA;simp[aF,eX,rZ] at hA;have h9:=hA.2.1;have h13:D 13=true:=by simp[hA]
     refine qU9 (vL _ _ _ y (mw h8) 0 O gq hJ (hD.slot 14 hA.1 O O) (hD.slot 9 h9 O O) uC O O (qD O)) ?_;exact mAa
    |16,_=>
     have hA:(D 2&&(D 4&&(D 0&&(D 1&&(D 2&&(D 3&&(D 4&&(D 5&&(D 6&&(D 7&&(D 8&&(D 9&&(D 10&&(D 11&&(D 12&&(D 13&&(D 14&&(D 15&&true))))))))))))))))))=_:=hA;simp[aF,eX] at hA;have h4:D 15=true:=by simp[hA]
     exact mAs
    |17,_=>
     have hA:(D 16&&(D 13&&(D 15&&(D 0&&(D 1&&(D 2&&(D 3&&(D 4&&(D 5&&(D 6&&(D 7&&(D 8&&(D 9&&(D 10&&(D 11&&(D 12&&(D 13&&(D 14&&(D 15&&true)))))))))))))))))))=_:=hA;simp[aF,eX] at hA;have h4:D 15=true:=by simp[hA]
     have h13:D 13=true:=by simp[hA]
     refine qU9 (vL _ _ q x (ed h4 h8) 0 O hM hL (hD.slot 15 hA.1 O O) (hD.slot 13 h13 O O) uC O O (qD O)) ?_;exact mAe
    |i+18,hi=>exact absurd hi O4
   exact mAk
  have bA:=by simpa using bA
  apply yG;exact O;exact O;exact O;intro w hp;exact zQ O O;exact qV (aB (fun h=>by grind));exact mC7
 have uu:z=kX lt l:=by
  rw[hz];rcases hi with hi|hi
  ·grind
  exact mE5
 exact mEc
theorem zA1(l:List (Nat×Nat))(lt:(Nat×Nat)→(Nat×Nat)→Bool)(b cc:Nat)(gf:FuncId)(hg:qI Tryz.prog gf)(dy:Array Value)(w:World)(hr:qEt eFr 255 2 w b cc l)(hc:l.length≤cc)(qa:cc≤maxLen)(hC:qSe gf dy lt l [b] w)(h20:l.length<20):
  Rt 328 [.slice (Ad b) l.length cc,Iv (l.length:Int),.func (.func gf) #[] dy] w (fun _ w'=>Keeps [b] w w'∧qEt eFr 255 2 w' b cc (kX lt l)):=by
 refine tW func328 ntmps328 fun hp=>?_;refine qA (qQ [7,8,11,12,13,14,15,16,17,18,19,20,21,22] (fun _ F=>(F.put 7 (.int _ 0)).put 8 (.int _ 20)) (fun _ w'=>w'=w) (fun _=>0) () (qB (qB (Same.eq .refl) O) O) O ?_);rintro u ⟨⟩ _ rfl;refine qA ?_;refine qH O O1 (fun _=>tL (jZs l lt b cc gf hg _ _ hr hc qa hC h20) ?_);exact mA6
theorem zAn(l:List (Nat×Nat))(lt:(Nat×Nat)→(Nat×Nat)→Bool)(b cc:Nat)(gf:FuncId)(hg:qI Tryz.prog gf)(dy:Array Value)(w:World)(hr:qEt eFr 255 2 w b cc l)(hc:l.length≤cc)(qa:cc≤maxLen)(hC:qSe gf dy lt l [b] w)(h20:l.length<20):
  Rt 245 [.slice (Ad b) l.length cc,.func (.func gf) #[] dy] w (fun _ w'=>Keeps [b] w w'∧qEt eFr 255 2 w' b cc (kX lt l)):=by
 refine Ret.j9 func245 O ntmps245 O (tL (zA1 l lt b cc gf hg _ _ hr hc qa hC h20) ?_);exact mC4
theorem zAi(l:List Rat)(lt:Rat→Rat→Bool)(b cc:Nat)(gf:FuncId)(hg:qI Tryz.prog gf)(dy:Array Value)(w:World)(hr:qEt eQ 49 3 w b cc l)(hc:l.length≤cc)(qa:cc≤maxLen)(hC:qX2 gf dy lt l [b] w)(h20:l.length<20):
  Rt 268 [.slice (Ad b) l.length cc,Iv 0,Iv (l.length:Int),.func (.func gf) #[] dy] w (fun _ w'=>Keeps [b] w w'∧qEt eQ 49 3 w' b cc (kX lt l)):=by
 have uv:∀z:List Rat,z.length=l.length→SVL _ cc z:=fun z hz=>.inr ⟨b,cc,by rw[hz],O1,qa⟩
 refine Ret.j9 func268 O ntmps268 O ?_;have hp:=Hp.y9 hr;refine tM (0+1) ?_;refine qA (kT [8,9,12,13,14,15,16,17,18,19,20,21,22,23,24,25,26,27,28,29,30,31,32,33,34,35,36,37,38,39,40,41,42,43,44,45,46,47,48,49,50,51,52] (fun i _z F=>F.put 8 (.int _ (i+1:Nat)))
  (fun i z w'=>(i+1≤l.length∨i=0)∧z=kX lt (l.take (i+1))++l.drop (i+1)∧Hp w _ w' [qG eQ 49 3 _ cc z]) (fun i _=>l.length-i) 0 l (qB (Same.eq .refl) O) ⟨.inr O,?_,hp⟩ ?_)
 ·cases l with
  |nil=>rfl
  |cons x l=>simp[qSw]
 (repeat clear hp);rintro u i z w1 ⟨hi,hz,hp⟩;refine tI (fun h=>?_) fun h=>?_
 ·have hl:i+1<l.length:=O1;obtain⟨Pf,hP⟩:∃Pf,Pf=kX lt (l.take (i+1)):=⟨_,O⟩;obtain⟨S,hS⟩:∃S,S=l.drop (i+1+1):=⟨_,O⟩;have h3:Pf.length=i+1:=by rw[hP,qF2,bV];omega
  have hV:S.length=l.length-(i+1+1):=by rw[hS,fJ]
  have hT:∀y∈Pf,y∈l:=by
   exact mEp
  have nh:=bX hl;have e8:=qO9 lt (l.take (i+1)) l[i+1];rw[←aG,←hP] at e8;rw[←hP,aX hl,←hS] at hz;generalize hx:l[i+1]=x at nh e8 hz;have zv:z=mvG Pf x (i+1) S:=by
   rw[hz];unfold mvG;rw[←h3,dE,iQ];rfl
  subst zv;clear hz;refine qA (qQ [9,18,19,20,21,22,23,24,25,26,27,28,29,30,31,32,33,34,35,36,37,38,39,40,41,42,43,44,45,46,47,48,49,50,51,52] (fun(j:Nat) F=>F.put 9 (.int _ j))
   (fun j w'=>j≤i+1∧(qD3 lt _ x).reverse=(qD3 lt (Pf.take j).reverse x).reverse++Pf.drop j∧Hp w _ w' [qG eQ 49 3 _ cc (mvG Pf x j S)]) (fun j=>j) _ (qB (Same.eq .refl) O) ⟨O1,by rw[←h3,dE,iQ,bH],hp⟩ ?_)
  (repeat clear hp);rintro u2 j w2 ⟨hj,hH,hp⟩;have x2:(mvG Pf x j S).length=l.length:=by rw[qYe];omega
  have gq:=uv _ x2;refine qA ?_;refine jW jG O3 (fun w'=>Hp w _ w' _) hp.N ?_;have hp:=hp.N;refine tP (fun w hp=>qP) (tP (fun w hp=>qP) ?_);rcases dH j with h0|h0
  ·subst h0;refine xA ?_;apply qIv;exact O;exact O;exact O;exact O;exact hp;exact mCb
  obtain⟨q,rfl⟩:∃q,j=q+1:=⟨j-1,O1⟩;have hm:q<Pf.length:=O1;have h7:=jEd (P:=Pf) (x:=x) (j:=q+1) (S:=S) O1;have zt:=qMb (x:=x) (S:=S) hm;have qb:=qTl (x:=x) (S:=S) hm;have h6:=qYp (lt:=lt) (x:=x) hm;have xy:=qP2 (lt:=lt) (x:=x) hm;have ni:=hT _ (bX hm);have ey:=aX hm;generalize Pf[q]=y at zt qb h6 xy ni ey;have xz:q+1<l.length:=O1;have zn:q<l.length:=O1;have hJ:q+1<(mvG Pf x (q+1) S).length:=O1;refine wdp O (fun w hp=>xJ O O) (qV (aD O1)) (xA ?_);apply yG;exact O;exact O;exact O;intro w hp;exact qL O O O O (zS hp 0 O gq jT h7);exact(O:_=QV x);refine xA ?_;refine tN q ?_;refine xA ?_;apply yG;exact O;exact O;exact O;intro w hp;exact qL O O O O (zS hp 0 O gq jT zt);exact(O:_=QV y);apply qHt;exact O;exact O;exact O;exact qC O hg O (hC _ hp.C x nh y ni);rintro _ w3 ⟨zc,rfl,hU,hk⟩;have hp:=hp.call hk;refine⟨hp,?_⟩;by_cases bA:lt x y=true
  ·apply yG;exact O;exact O;exact O;intro w hp;exact zQ O O;exact qV (aD (hU.2 bA));refine xA (qU ?_);refine jB O (qA ?_);refine qGm ?_;intro F0 hq;have hn:F0 0= .slice (Ad b) l.length cc:=by rw[hq];rfl
   have ht:F0 9=Iv (q+1:Nat):=by rw[hq];rfl
   refine qFs jG O3 (fun D F w'=>Dn 37 16 (jNq b l.length cc q x y) F0 (fun j=>D (phi j)) F∧(D 15=true→D 9=true∧D 13=true)∧(D 17=true→D 15=true)∧(D 15=false→Hp w [b] w' _)∧(D 15=true→D 17=false→Hp w [b] w' [qG eQ 49 3 (Ad b) cc ((mvG Pf x (q+1) S).set (q+1) y)])∧(D 17=true→Hp w [b] w' [qG eQ 49 3 (Ad b) cc (((mvG Pf x (q+1) S).set (q+1) y).set q x)])) ⟨Dn.start,O4,O4,fun _=>hp.N,O4,O4⟩ ?_ ?_
   ·rintro i D F w4 hi h8 hA ⟨hD,hK,hE,mw,ed,lj⟩;have hM:=gq.set (q+1) y;have hL:q<((mvG Pf x (q+1) S).set (q+1) y).length:=by rw[fZ];omega
    have nf:∀j,j<16→Nat.beq _ 15=_:=fun j hj=>jJ (qFa hj).1
    have na:∀j,j<16→Nat.beq _ 17=_:=fun j hj=>jJ (qFa hj).2.1
    have ng:∀j,j<16→(D (phi j)||Nat.beq (phi j) 16)=(D (phi j)||Nat.beq j 15):=by
     intro j hj;by_cases h:j=15
     ·subst h;rfl
     have e1:phi j=j:=by unfold phi;rw[jJ h];rfl
     exact mCv
    have h15:(D 9=false∨D 13=false)→D 15=false:=by
     intro h;cases h5:D 15
     ·rfl
     exact mBt
    have nxt:∀i,i<15→i≠9999→Dn 37 16 (jNq b l.length cc q x y) F0 (fun j=>D (phi j)||Nat.beq (phi j) i) (F.put (37+i) (jNq b l.length cc q x y i))∧((D 15||Nat.beq 15 i)=true→(D 9||Nat.beq 9 i)=true∧(D 13||Nat.beq 13 i)=true)∧((D 17||Nat.beq 17 i)=true→(D 15||Nat.beq 15 i)=true)∧((D 15||Nat.beq 15 i)=false→Hp w [b] w4 [qG eQ 49 3 (Ad b) cc (mvG Pf x (q+1) S)])∧((D 15||Nat.beq 15 i)=true→(D 17||Nat.beq 17 i)=false→Hp w [b] w4 [qG eQ 49 3 (Ad b) cc ((mvG Pf x (q+1) S).set (q+1) y)])∧((D 17||Nat.beq 17 i)=true→Hp w [b] w4 [qG eQ 49 3 (Ad b) cc (((mvG Pf x (q+1) S).set (q+1) y).set q x)]):=by
     exact mA7
    match i,hi with
    |0,_=>
     exact mCy
    |1,_=>
     exact mCz
    |2,_=>
     exact mD0
    |3,_=>
     exact mD1
    |4,_=>
     exact mAh
    |5,_=>
     exact mD2
    |6,_=>
     exact mD3
    |7,_=>
     exact mAl
    |8,_=>
     exact mAi
    |9,_=>
     have hA:(D 8&&true)=_:=hA;simp[aF,eX] at hA;exact zI (qL O O (hD.slot 8 hA O O) O (zS (mw (h15 (by grind))) 0 O gq jT zt)) O (nxt 9 O2 O2)
    |10,_=>
     exact mCs
    |11,_=>
     exact mCt
    |12,_=>
     exact mAg
    |13,_=>
     have hA:(D 12&&true)=_:=hA;simp[aF,eX] at hA;exact zI (qL O O (hD.slot 12 hA O O) O (zS (mw (h15 (by grind))) 0 O gq jT h7)) O (nxt 13 O2 O2)
    |14,_=>
     exact mA3
    |15,_=>
     have hA:(D 14&&(D 9&&(D 0&&(D 1&&(true&&(true&&(true&&(D 5&&(D 6&&(D 7&&(D 8&&(D 9&&(true&&(true&&(true&&(D 13&&true))))))))))))))))=_:=hA;simp[aF,eX,rZ] at hA;have h9:=hA.2.1;have h13:D 13=true:=by simp[hA]
     refine qU9 (vL eQ _ _ y (mw h8) 0 O gq hJ (hD.slot 14 hA.1 O O) (hD.slot 9 h9 O O) jT O O (qD O)) ?_;exact mAa
    |16,_=>
     have hA:(D 2&&(D 4&&(D 0&&(D 1&&(D 2&&(D 3&&(D 4&&(D 5&&(D 6&&(D 7&&(D 8&&(D 9&&(D 10&&(D 11&&(D 12&&(D 13&&(D 14&&(D 15&&true))))))))))))))))))=_:=hA;simp[aF,eX] at hA;have h4:D 15=true:=by simp[hA]
     exact mAs
    |17,_=>
     have hA:(D 16&&(D 13&&(D 15&&(D 0&&(D 1&&(D 2&&(D 3&&(D 4&&(D 5&&(D 6&&(D 7&&(D 8&&(D 9&&(D 10&&(D 11&&(D 12&&(D 13&&(D 14&&(D 15&&true)))))))))))))))))))=_:=hA;simp[aF,eX] at hA;have h4:D 15=true:=by simp[hA]
     have h13:D 13=true:=by simp[hA]
     refine qU9 (vL eQ _ q x (ed h4 h8) 0 O hM hL (hD.slot 15 hA.1 O O) (hD.slot 13 h13 O O) jT O O (qD O)) ?_;exact mAe
    |i+18,hi=>exact absurd hi O4
   exact mAk
  have bA:=by simpa using bA
  apply yG;exact O;exact O;exact O;intro w hp;exact zQ O O;exact qV (aB (fun h=>by grind));exact mC7
 have uu:z=kX lt l:=by
  rw[hz];rcases hi with hi|hi
  ·grind
  exact mE5
 exact mEc
theorem zB2(l:List Rat)(lt:Rat→Rat→Bool)(b cc:Nat)(gf:FuncId)(hg:qI Tryz.prog gf)(dy:Array Value)(w:World)(hr:qEt eQ 49 3 w b cc l)(hc:l.length≤cc)(qa:cc≤maxLen)(hC:qX2 gf dy lt l [b] w)(h20:l.length<20):
  Rt 188 [.slice (Ad b) l.length cc,Iv (l.length:Int),.func (.func gf) #[] dy] w (fun _ w'=>Keeps [b] w w'∧qEt eQ 49 3 w' b cc (kX lt l)):=by
 refine tW func188 ntmps188 fun hp=>?_;refine qA (qQ [7,8,11,12,13,14,15,16,17,18,19,20,21,22] (fun _ F=>(F.put 7 (.int _ 0)).put 8 (.int _ 20)) (fun _ w'=>w'=w) (fun _=>0) () (qB (qB (Same.eq .refl) O) O) O ?_);rintro u ⟨⟩ _ rfl;refine qA ?_;refine qH O O1 (fun _=>tL (zAi l lt b cc gf hg _ _ hr hc qa hC h20) ?_);exact mA6
theorem zBe(l:List Rat)(lt:Rat→Rat→Bool)(b cc:Nat)(gf:FuncId)(hg:qI Tryz.prog gf)(dy:Array Value)(w:World)(hr:qEt eQ 49 3 w b cc l)(hc:l.length≤cc)(qa:cc≤maxLen)(hC:qX2 gf dy lt l [b] w)(h20:l.length<20):
  Rt 126 [.slice (Ad b) l.length cc,.func (.func gf) #[] dy] w (fun _ w'=>Keeps [b] w w'∧qEt eQ 49 3 w' b cc (kX lt l)):=by
 refine Ret.j9 func126 O ntmps126 O (tL (zB2 l lt b cc gf hg _ _ hr hc qa hC h20) ?_);exact mC4
end
open Go.Eng Go.Dig Go.Lp Go.Qu
section
variable {n:FrK}{w0 w:World}{M:List Nat}{L:List Ent}{F:Fr}{d:Option Tmp}{ty:TypeId}{pos:String}{aft:Array Edge}{g:Option (Nat×Bool)}{x y:Operand}
theorem qNl{z:Array Value}(h:z.toList.all kM=true)(m:Nat):(Builtin.zeroCells z m).toList.all kM=true:=by
 unfold Builtin.zeroCells;rw[cU] at h⊢;intro v hv;rw[rQ] at hv;obtain⟨i,hi,rfl⟩:=bD.1 hv;have hz:0<z.size:=by
  rcases dH z.size with e|e
  ·grind
  exact e
 have hm:=dG i hz;grind
theorem qFx{α:Type}(enc:α→List Value){t e b c k q m cc:Nat}{z:Value}{l:List α}(hp:Hp w0 M w L)(j:Nat)(hj:L[j]? =some (qG enc e k (Ad b) c l))(ht:qDg t=some (e,k))(hz:wT e=some z)(xw:z.cells.size=k)(h1:z.cells.toList.all kM=true)
  (hx:ev n F x= .slice (some ⟨b,0+q*k,none⟩) (m+1) cc) (hy:q≤l.length) (qt:l.length≤c) (hq:q+(m+1)≤c) (hn:∀x,(enc x).length=k):
  StepF Tryz.prog n ⟨d,.call ⟨.builtin .clear,#[x],#[t]⟩,ty,pos,aft,g⟩ F w (fun u w'=>u= .tuple #[]∧Hp w0 M w' (L.set j (qG enc e k (Ad b) c (l.take q)))):=by
 have h6:=(zK ht).1;have hz:=qJ hz;obtain⟨o,ho,ca,rfl,hg,eV⟩:=hp.has j _ hj b O;have hg:_=c*k:=hg;have eV:=eV;obtain⟨zs,hh⟩:∃zs,zs=(Builtin.zeroCells z.cells (m+1)).toList:=⟨_,O⟩;have x2:zs.length=(m+1)*k:=by rw[hh];simp[Builtin.zeroCells,xw]
 have hm:zs.all kM=true:=by rw[hh];exact qNl h1 _
 have yw:q*k+(m+1)*k≤c*k:=by rw[←fE];exact aL k hq
 have h5:=aL k hy;obtain⟨w',hr,nv,jn⟩:=qCo (P:=Tryz.prog) zs w _ (0+q*k) 0 ho O1 hm;have hA:(ca.toList.take (q*k)).length=q*k:=by
  rw[bV,xB,hg];omega
 have hl:ca.toList=ca.toList.take (q*k)++((ca.toList.drop (q*k)).take ((m+1)*k)++(ca.toList.drop (q*k)).drop ((m+1)*k)):=by
  rw[eO,eO]
 have h9:=qJ2 zs _ _ _ _ hl (by rw[x2,bV,fJ,xB,hg];omega);rw[hA] at h9;have qc:(l.take q).flatMap enc=ca.toList.take (q*k):=by
  have h2:l.flatMap enc=(l.take q).flatMap enc++(l.drop q).flatMap enc:=by rw[←iS,eO]
  have h3:((l.take q).flatMap enc).length=q*k:=by rw[zR enc k hn,bV,eM hy]
  have h4:ca.toList.take (q*k)=(ca.toList.take (l.length*k)).take (q*k):=by rw[List.take_take,eM h5]
  rw[h4,eV,h2,sBm h3]
 have so:(l.take q).length=q:=by rw[bV,eM hy]
 refine xN ?_ ⟨O,hp.o8 hj nv ?_⟩
 ·simp only[execOp,resolve,bJ,dV,aK,invoke,builtin];simp[fH] at hr;simp[hx,Builtin.clear_,jQ h6,hz.run,←hh,hr]
 intro b1 jm;have jm:b1=b:=by
  have:(some b:Option Nat)=some b1:=jm;simpa[eq_comm] using this
 subst jm;refine⟨.inl O,_,jn,_,O,?_,?_⟩
 ·rw[qG4,hg];rfl
 grind
end
section
variable {α:Type}[Inhabited α]
def ddF(c:α→Nat)(l:List α):Nat→List α
 |0=>[]
 |j+1=>if j=0∨c (l.getD j default)≠c (l.getD (j-1) default) then ddF c l j++[l.getD j default] else ddF c l j
variable {c:α→Nat}{l:List α}
theorem jHd:∀j,(ddF c l j).length≤j
 |0=>bM _
 |j+1=>by
  have:=jHd j;unfold ddF;grind
theorem qRo:∀j,j≤l.length→∀x∈ddF c l j,x∈l
 |0,_,x,hx=>by cases hx
 |j+1,h,x,hx=>by
  unfold ddF at hx;have hg:l.getD j default∈l:=by
   rw[aC,aA O1];exact bX _
  split at hx
  ·rcases fO.1 hx with hx|hx
   ·exact qRo j O1 x hx
   grind
  exact qRo j O1 x hx
theorem qRp:∀j i,i<j→∃y∈ddF c l j,c y=c (l.getD i default)
 |j+1,i,h=>by
  rcases dJ.1 h with h|rfl
  ·obtain⟨y,hy,e⟩:=qRp j i h;unfold ddF;grind
  unfold ddF;by_cases hc:i=0∨c (l.getD i default)≠c (l.getD (i-1) default)
  ·grind
  obtain⟨y,hy,e⟩:=qRp i (i-1) O1;grind
theorem qZb(hs:∀i j,i≤j→j<l.length→c (l.getD i default)≤c (l.getD j default)):∀j,j≤l.length→(ddF c l j).Pairwise (fun a b=>c a<c b)∧∀x∈ddF c l j,∃i,i<j∧c x=c (l.getD i default)
 |0,_=>⟨.nil,by simp[ddF]⟩
 |j+1,h=>by
  obtain⟨h1,h2⟩:=qZb hs j O1;unfold ddF;split
  ·rename_i hc
   refine⟨eY.2 ⟨h1,O4,fun a ha b hb=>?_⟩,fun x hx=>?_⟩
   ·have hb:b=l.getD j default:=by simpa using hb
    rw[hb];obtain⟨i,hi,e⟩:=h2 a ha;rcases hc with rfl|hc
    ·omega
    have h3:=hs i (j-1) O1 O1;have h4:=hs (j-1) j O1 O1;omega
   grind
  grind
theorem qN2:∀j,j≤l.length→(∀i,0<i→i<j→c (l.getD i default)≠c (l.getD (i-1) default))→ddF c l j=l.take j
 |0,_,_=>rfl
 |j+1,h,hd=>by
  unfold ddF
  rw[if_pos (by
   grind),qN2 j O1 (fun i h1 h2=>hd i h1 O1),aG O1,aC,aA O1]
  rfl
end
def jNd(gf:FuncId)(dy:Array Value)(c:Nat×Nat→Nat)(l:List (Nat×Nat))(M:List Nat)(w:World):Prop:=∀W,Keeps M w W→∀x∈l,∀y∈l,Rt gf ([vFr x,vFr y]++dy.toList) W (fun v W'=>v= .bool (decide (c x=c y))∧Keeps [] W W')
attribute [local irreducible] PV StepF wpl wpd WP Ret
attribute [local irreducible] Fit
set_option maxHeartbeats 2000000 in
theorem zAm(l:List (Nat×Nat))(c:Nat×Nat→Nat)(b cc:Nat)(gf:FuncId)(hg:qI Tryz.prog gf)(dy:Array Value)(w:World)(hr:qEt eFr 255 2 w b cc l)(hc:l.length≤cc)(qa:cc≤maxLen)(hE:jNd gf dy c l [b] w)(h2:2≤l.length)(hX:l.length≤1000):
  Rt 246 [.slice (Ad b) l.length cc,.func (.func gf) #[] dy] w (fun v w'=>v= .slice (Ad b) (ddF c l l.length).length cc∧Keeps [b] w w'∧qEt eFr 255 2 w' b cc (ddF c l l.length)):=by
 have uv:∀z:List (Nat×Nat),z.length≤l.length→SVL _ cc z:=fun z hz=>.inr ⟨b,cc,O,O1,qa⟩
 have hh:∀i,i<_→∃x,_=_∧l.getD i default=x∧_:=fun i hi=>⟨_,aA hi,by rw[aC,aA hi];rfl,bX hi⟩
 refine Ret.j9 func246 O ntmps246 O ?_;have hp:=Hp.y9 hr;refine qA ?_;refine qH O O1 (fun _=>qA (qQ ([4,5,6,7]++range' 12 54) (fun(i:Nat) F=>F.put 5 (.int _ i)) (fun i w'=>1≤i∧i≤l.length∧(∀q,0<q→q<i→c (l.getD q default)≠c (l.getD (q-1) default))∧Hp w _ w' _) (fun i=>l.length-i) 1 (qB (Same.eq .refl) O) ⟨O1,O1,fun q h1 h2=>absurd h1 O1,hp⟩ ?_));clear hp;rintro u i w1 ⟨h6,hi,hd,hp⟩;refine tI (fun h=>?_) fun h=>?_
 ·have hl:i<l.length:=O1;obtain⟨x,hx,hV,nh⟩:=hh i hl;obtain⟨y,hy,ig,ni⟩:=hh (i-1) O1;have zz:i-1<l.length:=O1;refine qA ?_;refine jW jG O3 (fun w'=>Hp w _ w' _) hp.N ?_;have hp:=hp.N;refine qX (wdp O (fun w hp=>qL O O O O (zS hp 0 O (uv l O1) uC hx)) (O:_=vFr x) ?_);refine qX ?_;refine tN (i-1) ?_;refine qX (wdp O (fun w hp=>qL O O O O (zS hp 0 O (uv l O1) uC hy)) (O:_=vFr y) ?_);apply wds;exact O;exact qC O hg O (hE _ hp.C x nh y ni);rintro _ w2 ⟨rfl,uq⟩;have hp:=hp.call uq;refine⟨hp,qU ?_⟩;by_cases ft:c x=c y
  ·rw[aD ft];refine jB O ?_;have yp:¬cc=i:=O1;refine gA4 ?_;refine wlp (qBz (zK O).1 (zK (t:=252) O).2 O O hi hc) (show Value.slice _ _ _=Value.slice _ _ _ from by rw[if_neg yp]) (qA ?_);have h4:ddF c l (i+1)=l.take i:=by
    rw[ddF,if_neg (by grind),qN2 i hi hd]
   have so:(l.take i).length=i:=by rw[bV,eM hi]
   refine qQ ([5,7]++range' 32 27) (fun(z:Nat×Nat×List _) F=>(F.put 5 (.int _ (z.2.1))).put 7 (.int _ (z.1)))
    (fun z w'=>1≤z.1∧z.1≤l.length-i∧z.2.1=(ddF c l (i+z.1)).length∧z.2.1<i+z.1∧z.2.2.length=l.length∧z.2.2.take z.2.1=ddF c l (i+z.1)∧z.2.2.drop (i+z.1-1)=l.drop (i+z.1-1)∧Hp w _ w' [qG _ 255 2 _ cc z.2.2]) (fun z=>l.length-z.1)
    (1,i,l) (qB (qB (Same.eq .refl) O) O) ⟨O1,O1,by grind,O4,O,h4.symm,O,hp⟩ ?_
   clear hp;rintro u2 ⟨k,q,z⟩ w3 ⟨e7,hk,hq,hn,hj,hD,h9,hp⟩;dsimp only at e7 hk hq hn hj hD h9⊢;have hp:Hp w _ w3 [qG _ 255 2 _ cc z]:=hp;have hL:q≤1000:=O1;refine tI (fun h3=>?_) fun h3=>?_
   ·have h7:k<l.length-i:=by
     have:(k:Int)<((l.length-i:Nat):Int):=h3;omega
    obtain⟨x2,en,hP,hT⟩:=hh (i+k) O1;obtain⟨y2,eo,hJ,hH⟩:=hh (i+k-1) O1;have hM:z[i+k]? =some x2:=by
     have e:=aQ (fun t=>t[1]?) h9;simp only[nM] at e;rw[show i+k-1+1=i+k by omega] at e;rw[e,en]
    have hS:z[i+k-1]? =some y2:=by
     have e:=aQ (fun t=>t[0]?) h9;simp only[nM] at e;rw[show i+k-1+0=i+k-1 by omega] at e;rw[e,eo]
    have cx:∀{w':World},Hp w [b] w' [qG eFr 255 2 (Ad b) cc z]→∀(j:Nat) (v:Value),(eFr x2)[j]? =some v→w'.cell? ⟨b,0+i*2+k*2+j,none⟩=some v:=fun h j v e=>by
     rw[show 0+i*2+k*2+j=0+(i+k)*2+j by omega];exact zS h 0 O (uv z O1) uC hM j v e
    have cy:∀{w':World},Hp w [b] w' [qG eFr 255 2 (Ad b) cc z]→∀(j:Nat) (v:Value),(eFr y2)[j]? =some v→w'.cell? ⟨b,0+i*2+(k-1)*2+j,none⟩=some v:=fun h j v e=>by
     rw[show 0+i*2+(k-1)*2+j=0+(i+k-1)*2+j by omega];exact zS h 0 O (uv z O1) uC hS j v e
    have my:k-1<l.length-i:=O1;refine qA ?_;refine jW jG O3 (fun w'=>Hp w _ w' _) hp.N ?_;have hp:=hp.N;refine qX (wdp O (fun w hp=>qL O O O O (cx hp)) (O:_=vFr x2) ?_);refine qX ?_;refine tN (k-1) ?_;refine qX (wdp O (fun w hp=>qL O O O O (cy hp)) (O:_=vFr y2) ?_);apply wds;exact O;exact qC O hg O (hE _ hp.C x2 hT y2 hH);rintro _ w4 ⟨rfl,qs⟩;have hp:=hp.call qs;refine⟨hp,qX (qU ?_)⟩;have hF:ddF c l (i+k+1)=if i+k=0∨c x2≠c y2 then ddF c l (i+k)++[x2] else ddF c l (i+k):=by
     rw[ddF,hP,hJ]
    by_cases bA:c x2=c y2
    ·rw[if_neg O1] at hF;rw[aD bA];refine gA2 ?_
     exact⟨(k+1,q,z),qB O5 O,⟨O1,O1,by grind,by grind,hj,by grind,by
      have e:=aQ (List.drop 1) h9;rw[sAw,sAw] at e
      rwa[show i+k-1+1=i+(k+1)-1 by omega] at e,hp⟩,O1⟩
    rw[if_pos O1] at hF;rw[aB bA];refine jB O ?_;have hU:q<z.length:=O1;have h5:q<l.length:=O1;refine qA (wlp (qL O O O O (cx hp)) (O:_=vFr x2) ?_);refine qA (tO (vL _ z q x2 hp 0 O (uv z O1) hU O O uC O O (qD O)) fun w5 hp=>?_);refine tB ?_;refine gA0 ?_
    exact⟨(k+1,q+1,z.set q x2),qB O5 O,⟨O1,O1,by grind,by grind,by grind,by
     rw[←Nat.add_assoc,hF,aG (by grind),List.take_set_of_le O1,hD,List.getElem_set_self],by
     rw[oW O1];have e:=aQ (List.drop 1) h9;rw[sAw,sAw] at e
     rwa[show i+k-1+1=i+(k+1)-1 by omega] at e,hp⟩,O1⟩
   have hQ:k=l.length-i:=by
    have:¬(k:Int)<((l.length-i:Nat):Int):=h3;omega
   rw[hQ,show i+(l.length-i)=l.length by omega] at hq hn hD;obtain⟨m,hm⟩:∃m,l.length-q=m+1:=⟨l.length-q-1,O1⟩;have ht:¬cc=q:=O1;have hK:q≤l.length:=O1;refine gA4 ?_;refine wlp (qBz (zK O).1 (zK (t:=252) O).2 O O hK hc) (show Value.slice _ _ _=Value.slice _ _ _ from by rw[if_neg ht,hm]) (tO (qFx _ hp 0 O O O O O O O1 O1 O1 uC) fun w5 hp=>?_);rw[hD] at hp;have h8:q≤cc:=O1;refine gA1 ?_;refine jM (wlp (qC0 (zK O).1 (zK (t:=252) O).2 O O h8) O ?_);refine tV ?_;exact⟨_,O,by rw[←hq];rfl,hp.C,Hp.q3 hp 0 O⟩
  rw[aB ft];refine gA2 ?_;refine⟨i+1,qB O5 O,⟨O1,O1,fun r h1 h2=>?_,hp⟩,O1⟩;grind
 obtain rfl:l.length=i:=O1;have e:=qN2 _ O1 hd;rw[dE] at e;refine tV ?_;exact⟨_,O,by rw[e];rfl,hp.C,by rw[e];exact Hp.q3 hp 0 O⟩
end Go.Proofs.YtplkndjlfkkjlaaGreatDoor
namespace Go.Eng
open List (range range' replicate)
theorem Hp.aC4{α:Type}{enc:α→List Value}{w0 w:World}{M:List Nat}{L:List Ent}(hp:Hp w0 M w L)(i:Nat){b m k e:Nat}(l:List α)(hi:L[i]? =some (blk b m (qE (l.flatMap enc)) e))(hm:(l.flatMap enc).length=m)(hk:m=l.length*k):Hp w0 M w (L.set i (qG enc e k (Ad b) l.length l)):=by
 refine hp.y5 hi fun o ho=>?_
 subst ho;refine⟨_,O,by simp[jAm,hk],?_⟩;have h1:=frL (l.flatMap enc);rw[hm] at h1;have h2:(Array.ofFn (n:=m) fun i=>qE (l.flatMap enc) i).toList=l.flatMap enc:=by
  refine Eq.trans ?_ h1;apply eF;intro j;by_cases hj:j<m
  ·simp[hj]
  simp[hj]
 grind
end Go.Eng
namespace Go.Lp
open List (range range' replicate)
open Go.Qu
variable{f g:Nat×Nat}
def kyF(f:Nat×Nat):Nat:=f.1*(60/f.2)
structure FrF(f:Nat×Nat):Prop where
 b0:0<f.2
 b5:f.2≤5
 t:f.1≤f.2
theorem FrF.cases(h:FrF f):f.2=1∨f.2=2∨f.2=3∨f.2=4∨f.2=5:=by
 have:=h.b0;have:=h.b5;omega
theorem jF0(hf:FrF f)(hg:FrF g):f.1*g.2<g.1*f.2↔kyF f<kyF g:=by
 unfold kyF;rcases hf.cases with e|e|e|e|e<;>rcases hg.cases with e'|e'|e'|e'|e'<;>rw[e,e']<;>omega
theorem jWo(hf:FrF f)(hg:FrF g):f.1*g.2=g.1*f.2↔kyF f=kyF g:=by
 have h1:=jF0 hf hg;have h2:=jF0 hg hf;omega
def kR(s:Sr)(κ:Nat→Nat):Nat→List (Nat×Nat)
 |0=>[(0,1),(1,1)]
 |c+1=>kR s κ c++(if 0<κ c∧κ c<s.S c then(range' 1 (s.S c-1)).map fun k=>(k,s.S c) else[])
def qDc:Nat→(Nat→Nat)→Nat
 |0,_=>0
 |n+1,f=>qDc n f+f n
theorem jCm{cl:Nat→Nat}:∀n nc,qDc nc (cnt cl n)≤n:=by
 intro n nc;induction n with
 |zero=>
  have:∀nc,qDc nc (cnt cl 0)=0:=fun nc=>by
   induction nc with
   |zero=>rfl
   |succ nc ih=>show qDc nc _+0=0;omega
  grind
 |succ n ih=>
  have h1:∀nc,qDc nc (cnt cl (n+1))=qDc nc _+(if cl n<nc then 1 else 0):=fun nc=>by
   induction nc with
   |zero=>rfl
   |succ nc ih=>
    show qDc nc _+(cnt cl n nc+if cl n=nc then 1 else 0)=qDc nc _+cnt cl n nc+_
    grind
  grind
theorem qN4(s:Sr)(κ:Nat→Nat):∀c,2≤(kR s κ c).length∧(kR s κ c).length≤2+qDc c s.S
 |0=>⟨bM _,bM _⟩
 |c+1=>by
  have:=qN4 s κ c;show 2≤(kR s κ c++_).length∧(kR s κ c++_).length≤2+(qDc c _+s.S c)
  grind
theorem qUc(s:Sr)(κ:Nat→Nat):∀c,(∀q,q<c→s.S q≤5)→∀f∈kR s κ c,FrF f
 |0,_,f,hf=>by
  have:=by simpa[kR] using hf
  rcases this with rfl|rfl<;>exact⟨O2,O2,O2⟩
 |c+1,h,f,hf=>by
  rcases fO.1 hf with hf|hf
  ·exact qUc s κ c (fun q hq=>h q O1) f hf
  split at hf
  ·obtain⟨k,hk,rfl⟩:=bD.1 hf;have:=List.mem_range'_1.1 hk;exact⟨O1,(h c O1),O1⟩
  cases hf
theorem qN3(s:Sr)(κ:Nat→Nat):∀c,(0,1)∈kR s κ c∧(1,1)∈kR s κ c
 |0=>by simp[kR]
 |c+1=>⟨dB _ (qN3 s κ c).1,dB _ (qN3 s κ c).2⟩
theorem qUd(s:Sr)(κ:Nat→Nat):∀c q,q<c→0<κ q→κ q<s.S q→∀a,0<a→a<s.S q→(a,s.S q)∈kR s κ c
 |c+1,q,hq,h1,h2,a,ha,ha2=>by
  rcases dJ.1 hq with hq|rfl
  ·exact dB _ (qUd s κ c q hq h1 h2 a ha ha2)
  refine aU _ ?_;grind
structure CutsOk(s:Sr)(κ:Nat→Nat)(cs:List (Nat×Nat)):Prop where
 srt:cs.Pairwise (fun f g=>kyF f<kyF g)
 fr:∀f∈cs,FrF f
 zero:∃f∈cs,kyF f=0
 one:∃f∈cs,kyF f=60
 has:∀c,c<s.nc→0<κ c→κ c<s.S c→∀a,0<a→a<s.S c→∃f∈cs,kyF f=a*(60/s.S c)
 len:cs.length≤7
end Go.Lp
namespace Go.Proofs.YtplkndjlfkkjlaaGreatDoor
open List (range range' replicate)
open Tryz
open Go.Eng Go.Dig Go.Lp Go.Qu
instance:Inhabited (Nat×Nat):=⟨(0,0)⟩
attribute [local irreducible] PV StepF wpl wpd WP Ret
attribute [local irreducible] Fit
set_option maxHeartbeats 1000000 in
theorem jVt(t b:Nat)(W:World)(ht:t≤5)(hb:b≤5)(jm:0<b):Rk 171 [vFr (t,b)] W (QV ((t:Rat)/(b:Rat))):=by
 have hU:BQ 3 t:=BQn O1 O2;have hg:BQ 3 b:=BQn O1 O2;have ix:(b:Rat)≠0:=fun e=>by
  have:=pM.1 e;omega
 refine tW func171 ntmps171 fun hp=>?_;refine qR ?_;refine tQ fun w1 b1 hp=>?_;have hp:=hp.norm 0 (eFr _) O O;refine tQ fun w2 b2 hp=>?_;have hp:Hp W [] w2 [blk b2 3 (qE eQ0) 49,blk b1 2 _ 255]:=hp;refine qR (uD ([3,4,5]++range' 6 9) (fun b3 F=>F.put 3 (.pointer (Ad b3))) (fun b3 w'=>Hp W [] w' [blk b3 3 (qE (eQ (t/b))) 49,blk b2 3 (qE eQ0) 49,blk b1 2 (qE (eFr (t,b))) 255]) ?_ ?_)
 ·refine qCm true [0,1,2,3,4,5,6,7,8,9,10,11,12] jG O3 O (fun w'=>Hp W [] w' _) hp.N ?_;have hp:=hp.N;refine zP (qD7 10 O O3 O O ?_ ?_)
  ·skip
   refine tG (qQd t _ O1) fun w3 hp=>?_;refine zP (qD7 10 O O3 O O ?_ ?_)
   ·skip
    refine tG (qQd b _ O1) fun w4 hp=>?_;refine zP (qD7 10 O O3 O O ?_ ?_)
    ·refine tG (qQe _ hU hg ix O2) fun w5 hp=>?_;refine zP (xO O O3 ?_ O);apply wbs;exact O;exact jK hp (qJ O);rintro _ w6 ⟨b3,rfl,hp⟩;refine⟨hp.H,zP (xO O O3 ?_ O)⟩;exact mAf
    apply wbs;exact O;exact jK hp (qJ O);rintro _ w6 ⟨b3,rfl,hp⟩;refine⟨hp.H,xO O O3 (tG (qQe _ hU hg ix O2) fun w5 hp=>?_) O⟩;refine zP ?_;refine xO O O3 ?_ O;exact mAf
   apply wbs;exact O;exact jK hp (qJ O);rintro _ w6 ⟨b3,rfl,hp⟩;refine⟨hp.H,xO O O3 (tG (qQd b _ O1) fun w4 hp=>?_) O⟩;exact mCi
  apply wbs;exact O;exact jK hp (qJ O);rintro _ w6 ⟨b3,rfl,hp⟩;refine⟨hp.H,xO O O3 (tG (qQd t _ O1) fun w3 hp=>?_) O⟩;refine zP (xO O O3 ?_ O);refine tG (qQd b _ O1) fun w4 hp=>?_;exact mCi
 rintro u b3 w3 hp;refine qR (tR (qL O O O O (hp.j3 0 O O)) ?_);refine tS fun w4 hp=>?_;refine qA ?_;exact mDc
theorem jVl(x y:Nat×Nat)(W:World)(hx:FrF x)(hy:FrF y):Rt 243 [vFr x,vFr y] W (fun v w'=>v=Iv (qHo ((x.1*y.2:Nat):Int) ((y.1*x.2:Nat):Int))∧Keeps [] W w'):=by
 have h1:=cF (bL hx.t hx.b5) hy.b5;have h2:=cF (bL hy.t hy.b5) hx.b5;obtain⟨p,ed⟩:∃p,p=x.1*y.2:=⟨_,O⟩;obtain⟨q,tc⟩:∃q,q=y.1*x.2:=⟨_,O⟩;have e1:(x.1)*(y.2:Int)=p:=by rw[ed,bU]
 have e2:(y.1)*(x.2:Int)=q:=by rw[tc,bU]
 rw[←ed,←tc];refine tW func243 ntmps243 fun hp=>?_;refine qR ?_;refine tQ fun w1 b2 hp=>?_;refine tQ fun w2 b3 hp=>?_;refine qA (wlp (vD O O) (qF ((aQ _ e1).trans (qK O1 O1))) ?_);refine qA (wlp (vD O O) (qF ((aQ _ e2).trans (qK O1 O1))) ?_);refine tC (jVk _ q _) fun w3 hp=>?_;exact mA0
theorem jLb{a b:Int}:qHo a b<0↔a<b:=by
 unfold qHo;omega
theorem jLc{a b:Int}:qHo a b=0↔a=b:=by
 unfold qHo;omega
theorem zAl(x y:Nat×Nat)(b9:Nat)(W:World)(hx:FrF x)(hy:FrF y)(hc:W.cell? ⟨b9,0,none⟩=some (.func (.func 243) #[] #[])):Rk 247 [vFr x,vFr y,.pointer (Ad b9)] W (.bool (decide (kyF x=kyF y))):=by
 refine tW func247 ntmps247 fun hp=>?_;refine qR ?_;refine tQ fun w1 b2 hp=>?_;refine tQ fun w2 b3 hp=>?_;refine tR qY ?_;have qp:=hp.j7 hc;refine qR (wlp (qS O O qp) O ?_);refine wlp (qL O O O O (hp.j3 1 O O)) (O:_=vFr x) (wlp (qL O O O O (hp.j3 0 O O)) (O:_=vFr y) ?_);refine tC (jVl x y _ hx hy) fun w3 hp=>?_;refine qA ?_;refine qM (v:=.bool _) O O ⟨_,O,?_,hp.C⟩;congr 1;rw[iG];simp only[dL];rw[jLc,←jWo hx hy];omega
set_option maxHeartbeats 4000000 in
theorem zB5(a:FrA)(c:FrS)(s:Sr)(κ:Nat→Nat)(sk:Option Addr)(ck:Nat)(W:World)(hR:FrR a c s W)(hk:SlAt W 1 eN sk (lm s.nc κ))(hM:s.nc≤5)(hS:∀q,q<s.nc→s.S q≤5)(hκ:∀q,q<s.nc→κ q≤5)(zk:qDc s.nc s.S≤5):
  Rt 169 [.pointer (some ⟨a.fb,0,none⟩),.slice sk s.nc ck] W (fun v w'=>∃g cc cs,v= .slice (Ad g) cs.length cc∧CutsOk s κ cs∧SVL (Ad g) cc cs∧Hp W [] w' [qG eFr 255 2 (Ad g) cc cs]):=by
 have h16:=hR.h16;refine tW func169 ntmps169 fun hp=>?_;refine qA ?_;refine tF (jC (cs:=[Iv 0,Iv 1,Iv 1,Iv 1]) hp O O O O O O O) fun w1 g0 hp=>?_;have hp:=hp.aC4 (enc:=eFr) (k:=2) 0 [(0,1),(1,1)] O O O;have hp:Hp W [] w1 [qG eFr 255 2 (Ad g0) 2 (kR s κ 0)]:=hp;have xa:∀k,k≤s.nc→qDc k s.S≤qDc s.nc s.S:=fun k hk=>by
  have:∀d k,qDc k s.S≤qDc (k+d) s.S:=fun d=>by
   induction d with
   |zero=>intro k;exact bM _
   |succ d ih=>intro k;exact bL (ih k) (oV _ _)
  have h:=this (s.nc-k) k;rwa[show k+(s.nc-k)=s.nc by omega] at h
 have hF:=hp.j7 h16;refine qA ?_;refine qQ ([5,6,7,8]++range' 18 30) (fun(z:Nat×Option Addr×Nat) F=>(F.put 5 (.slice z.2.1 (kR s κ z.1).length z.2.2)).put 18 (Iv (z.1:Int)))
  (fun z w'=>z.1≤s.nc∧SVL z.2.1 z.2.2 (kR s κ z.1)∧Hp W [] w' [qG eFr 255 2 z.2.1 z.2.2 (kR s κ z.1)]) (fun z=>s.nc-z.1) (0,Ad g0,2) (qB (qB (Same.eq .refl) O) O) ⟨bN _,.inr ⟨g0,2,O,bM _,O2⟩,hp⟩ ?_
 clear hp hF;rintro u ⟨k,s5,c5⟩ w2 ⟨e7,hD,hp⟩;dsimp only at e7 hD hp⊢;refine tI (fun h=>?_) fun h=>?_
 ·have hg:k<s.nc:=O1;obtain⟨bS,oS,hJ,h6⟩:=jR hR.S hg;have cf:w2.cell? ⟨bS,oS+k*1,none⟩=some (Iv (s.S k:Int)):=hp.j7 (h6 0 _ O);obtain⟨bk,ok,em,h7⟩:=jR hk hg;have ca:w2.cell? ⟨bk,ok+k*1,none⟩=some (Iv (κ k:Int)):=hp.j7 (h7 0 _ O);have hK:=hS k hg;have hX:=hκ k hg;have hQ:=(qN4 s κ k).2;have hz:=xa k O1;have skip:¬(0<κ k∧κ k<s.S k)→kR s κ (k+1)=kR s κ k:=fun hn=>by
   show kR s κ k++(if _ then _ else _)=_
   rw[if_neg hn,bH]
  rcases dH (κ k) with h0|h0
  ·have d1:decide ((κ k:Int)>0)=false:=aB O1;refine jL ?_;rw[d1];exact mAu
  have d1:decide ((κ k:Int)>0)=true:=aD O1;by_cases hZ:κ k<s.S k
  ·have d2:decide ((κ k:Int)<(s.S k:Int))=true:=aD O1;refine jL ?_;rw[d1];refine jL ?_;rw[d2];refine jL ?_;refine jB O ?_;refine qA ?_;refine qQ ([5,8]++range' 36 11) (fun(z:Nat×Option Addr×Nat) F=>(F.put 5 (.slice z.2.1 (kR s κ k++(range' 1 z.1).map fun q=>(q,s.S k)).length z.2.2)).put 8 (Iv ((z.1+1:Nat):Int)))
    (fun z w'=>z.1+1≤s.S k∧SVL z.2.1 z.2.2 (kR s κ k++(range' 1 z.1).map fun q=>(q,s.S k))∧Hp W [] w' [qG eFr 255 2 z.2.1 z.2.2 (kR s κ k++(range' 1 z.1).map fun q=>(q,s.S k))]) (fun z=>s.S k-z.1) (0,s5,c5) (qB (qB (Same.eq .refl) (by
     show _=Value.slice s5 (kR s κ k++[]).length c5
     rw[bH]
     rfl)) O) ⟨by show 0+1≤_;omega,by show SVL s5 c5 (kR s κ k++[]);rw[bH];exact hD,by show Hp W [] _ [qG _ 255 2 s5 c5 (kR s κ k++[])];rw[bH];exact hp⟩ ?_
   clear hp ca cf;rintro u2 ⟨j,s6,c6⟩ w3 ⟨hj,h9,hp⟩;dsimp only at hj h9 hp⊢;have eH:(kR s κ k++(range' 1 j).map fun q=>(q,s.S k)).length=(kR s κ k).length+j:=by rw[aY,aM,List.length_range']
   refine tI (fun h2=>?_) fun h2=>?_
   ·have xc:(kR s κ k++(range' 1 j).map fun q=>(q,s.S k))++[(j+1,s.S k)]=kR s κ k++(range' 1 (j+1)).map fun q=>(q,s.S k):=by
     rw[bQ,List.range'_1_concat,dR,show 1+j=j+1 by omega];rfl
    refine qA ?_;refine tF (jC (cs:=eFr (j+1,s.S k)) hp O O O O O O O) fun w4 nb hp=>?_;refine tFb (jV eFr (kR s κ k++(range' 1 j).map fun q=>(q,s.S k)) (j+1,s.S k) hp 1 0 O O O O O O uC O O O h9 O O O1) fun w5 s' c'⟨hh,hp⟩=>?_;have hp:Hp W [] w5 [qG eFr 255 2 s' c' ((kR s κ k++(range' 1 j).map fun q=>(q,s.S k))++[(j+1,s.S k)])]:=hp.H;rw[xc] at hh hp⊢;refine tM (j+1+1) ?_;refine qA ?_;exact⟨(j+1,s',c'),qB O5 O,⟨by show j+1+1≤_;omega,hh,hp⟩,by show s.S k-(j+1)<s.S k-j;omega⟩
   have hV:j=s.S k-1:=O1;have e:kR s κ (k+1)=kR s κ k++(range' 1 j).map fun q=>(q,s.S k):=by
    show kR s κ k++(if _ then _ else _)=_
    rw[if_pos ⟨h0,hZ⟩,hV]
   rw[←e] at h9 hp⊢;refine gA0 ?_;exact⟨(k+1,s6,c6),qB O5 O,⟨by show k+1≤_;omega,h9,hp⟩,by show s.nc-(k+1)<s.nc-k;omega⟩
  have d2:decide ((κ k:Int)<(s.S k:Int))=false:=aB O1;refine jL ?_;rw[d1];refine jL ?_;rw[d2];exact mAu
 obtain rfl:s.nc=k:=O1;obtain⟨oy,hU⟩:=qN4 s κ s.nc;obtain⟨l,hl⟩:∃l,l=kR s κ s.nc:=⟨_,O⟩;have xu:∀f∈l,FrF f:=by rw[hl];exact qUc s κ s.nc hS
 have hL:=qN3 s κ s.nc;have hP:=qUd s κ s.nc;rw[←hl] at hp hD oy hU hL hP⊢;obtain⟨g,rfl⟩:=hD.addr (fun e=>by rw[e] at oy;simp at oy);have el:=hD.cap;have qa:c5≤maxLen:=by
  rcases hD with⟨h,_⟩|⟨g',cap,h,_,hm⟩
  ·cases h
  cases h;exact hm
 refine qA ?_;refine tQ fun w3 b9 hp=>?_;refine tS fun w4 hp=>?_;have hp:=hp.norm 0 [.func (.func 243) #[] #[]] O O;have hp:Hp W [] w4 [blk b9 1 (qE [.func (.func 243) #[] #[]]) 319,qG eFr 255 2 (Ad g) c5 l]:=hp;refine qA ?_;have hC:qSe 243 #[] (fun x y=>decide (kyF x<kyF y)) l [g] w4:=fun W' _ x hx y hy=>by
  refine(jVl x y W' (xu x hx) (xu y hy)).mono ?_;rintro v w' ⟨rfl,hk⟩;refine⟨_,O,?_,hk⟩;rw[jLb,decide_eq_true_iff,←jF0 (xu x hx) (xu y hy)];omega
 refine tK (zAn l _ g c5 243 jGf #[] w4 (Hp.q3 hp 1 O) el qa hC O1) ?_;rintro _ w5 ⟨gl,hT⟩;have hp:=Hp.aA4 hp 1 O gl hT;obtain⟨l',h8⟩:∃l',l'=kX (fun x y=>decide (kyF x<kyF y)) l:=⟨_,O⟩;rw[←h8] at hp hT;have ls:l'.Perm l:=by rw[h8];exact wK _ l
 have hQ:l'.length=l.length:=ls.length_eq;have hY:l'.Pairwise (fun a b=>kyF a≤kyF b):=by
  have:=qSv (lt:=fun x y:Nat×Nat=>decide (kyF x<kyF y)) (fun a b c h1 h2=>by
   simp only[fA] at*
   omega) (fun a b h=>by
   simp only[fA,dL] at*
   omega) l
  rw[←h8] at this;exact this.imp fun h=>by
   simp only[fA] at h;omega
 have hp:Hp W [] w5 [blk b9 1 (qE [.func (.func 243) #[] #[]]) 319,qG eFr 255 2 (Ad g) c5 l']:=hp;have xr:b9∉[g]:=by
  have:=hp.y4 (i:=0) (j:=1) O O O2;exact mCe
 have hE:jNd 247 #[.pointer (Ad b9)] kyF l' [g] w5:=fun W' hH x hx y hy=>zAl x y b9 W' (xu x (ls.mem_iff.1 hx)) (xu y (ls.mem_iff.1 hy)) (hH.cell (hp.cell 0 O O) xr)
 have call:=zAm l' kyF g c5 247 jRj #[.pointer (Ad b9)] w5 (Hp.q3 hp 1 O) (by rw[hQ];exact el) qa hE O1 O1;rw[hQ] at call;refine tL call ?_;rintro _ w6 ⟨rfl,bu,xb⟩;have hp:=Hp.aA4 hp 1 O bu xb;have hp:Hp W [] w6 [qG eFr 255 2 (Ad g) c5 (ddF kyF l' l.length)]:=hp.H;have eL:=jHd (c:=kyF) (l:=l') l.length;have ht:∀i j,i≤j→j<l'.length→kyF (l'.getD i default)≤kyF (l'.getD j default):=fun i j nu hj=>by
  rw[aC,aC,aA O1,aA hj];rcases Nat.lt_or_eq_of_le nu with h|rfl
  ·rw[dP] at hY;exact hY i j O1 hj h
  exact bM _
 have h5:∀f∈l,∃y∈ddF kyF l' l.length,kyF y=kyF f:=fun f hf=>by
  obtain⟨i,hi,e⟩:=sAa (ls.mem_iff.2 hf);obtain⟨y,hy,e2⟩:=qRp (c:=kyF) (l:=l') l.length i O1;refine⟨y,hy,e2.trans ?_⟩;rw[aC,aA hi];exact aQ _ e
 refine qA ?_;refine qM O O ⟨_,O,g,c5,ddF kyF l' l.length,O,⟨(qZb ht l.length O1).1,fun f hf=>xu f (ls.mem_iff.1 (qRo l.length O1 f hf)),h5 _ hL.1,h5 _ hL.2,fun q hq h1 h2 a h3 h4=>h5 _ (hP q hq h1 h2 a h3 h4),O1⟩,.inr ⟨g,c5,O,O1,qa⟩,hp⟩
end Go.Proofs.YtplkndjlfkkjlaaGreatDoor
namespace Go.Lp
open List (range range' replicate)
theorem jVg(a B:Int)(hB:0<B):(if a.tmod B<0 then a.tmod B+B else a.tmod B)=a.emod B:=by
 have h1:=gK a (show B≠0 by omega);have h2:=gI a hB;have h4:a.emod B=a%B:=O;grind
def qVy(S q p t b:Nat):Bool:=decide ((((t*S:Nat):Int)-((p*q*b:Nat):Int)).emod ((b*S:Nat):Int)<((q*b:Nat):Int))
def qAr(cl plc S κ:Nat→Nat)(cut:Nat×Nat)(n:Nat):List Nat:=(range n).filter fun i=>qVy (S (cl i)) (κ (cl i)) (plc i) cut.1 cut.2
theorem jAw(cl plc S κ:Nat→Nat)(cut:Nat×Nat)(n:Nat):qAr cl plc S κ cut (n+1)=qAr cl plc S κ cut n++if qVy (S (cl n)) (κ (cl n)) (plc n) cut.1 cut.2 then[n] else[]:=by
 unfold qAr;rw[fW,nO];grind
end Go.Lp
namespace Go.Proofs.YtplkndjlfkkjlaaGreatDoor
open List (range range' replicate)
open Tryz
open Go.Eng Go.Dig Go.Lp Go.Qu
attribute [local irreducible] PV StepF wpl wpd WP Ret
attribute [local irreducible] Fit
set_option maxHeartbeats 4000000 in
theorem zB4(a:FrA)(c:FrS)(s:Sr)(κ:Nat→Nat)(sk:Option Addr)(ck:Nat)(cut:Nat×Nat)(W:World)(hR:FrR a c s W)(hk:SlAt W 1 eN sk (lm s.nc κ))(hn:c.n≤40)(hP:∀i,i<c.n→c.cl i<s.nc)(hS:∀q,q<s.nc→s.S q≤5∧0<s.S q)(hκ:∀q,q<s.nc→κ q≤5)(xv:∀i,i<c.n→c.plc i≤5)(h7:FrF cut):
  Rt 170 [.pointer (some ⟨a.fb,0,none⟩),.slice sk s.nc ck,vFr cut] W (fun v w'=>∃s' c',v= .slice s' (qAr c.cl c.plc s.S κ cut c.n).length c'∧SVL s' c' (qAr c.cl c.plc s.S κ cut c.n)∧Hp W [] w' [qG eN 3 1 s' c' (qAr c.cl c.plc s.S κ cut c.n)]):=by
 have h14:=hR.h14;refine tW func170 ntmps170 fun hp=>?_;refine qR ?_;refine tQ fun w1 b5 hp=>?_;have hp:=hp.norm 0 (eFr _) O O;have hp:=hp.k4 eN 3 1;have hp:Hp W [] w1 [qG eN 3 1 _ 0 (qAr c.cl c.plc s.S κ cut 0),blk b5 2 _ 255]:=hp;have h8:=hp.j7 h14;refine qA (qQ ([7,8,9,10,11]++range' 17 62) (fun z F=>(F.put 7 (.slice z.2.1 (qAr c.cl c.plc s.S κ cut z.1).length z.2.2)).put 17 (.int _ (z.1)))
  (fun z w'=>z.1≤c.n∧SVL z.2.1 z.2.2 (qAr c.cl c.plc s.S κ cut z.1)∧Hp W [] w' [qG eN 3 1 z.2.1 z.2.2 (qAr _ _ _ κ _ z.1),_]) (fun z=>c.n-z.1) (0,none,0) (qB (qB (Same.eq .refl) O) O) ⟨O1,SVL.nil,hp⟩ ?_)
 clear hp h8;rintro u ⟨k,s7,c7⟩ w2 ⟨e7,h6,hp⟩;dsimp only at e7 h6 hp⊢;refine tI (fun h=>?_) fun h=>?_
 ·have hl:k<c.n:=O1;have hz:=hP k hl;obtain⟨hh,hx⟩:=hS _ hz;have hD:=hκ _ hz;have x2:=xv k hl;have hy:=h7.b5;have ix:=h7.b0;have hQ:=h7.t;obtain⟨bC,oC,hL,hH⟩:=jR hR.C hl;have cc:=hH 0 _ O;obtain⟨bP,oP,hM,hF⟩:=jR hR.P hl;have ce:=hF 0 _ O;obtain⟨bS,oS,hE,ht⟩:=jR hR.S hz;have cf:=ht 0 _ O;obtain⟨bk,ok,em,h5⟩:=jR hk hz;have ca:=h5 0 _ O;have h16:=hR.h16;have h15:=hR.h15;obtain⟨B,hB⟩:∃B,B=cut.2*s.S (c.cl k):=⟨_,O⟩;obtain⟨T,hT⟩:∃T,T=cut.1*s.S (c.cl k):=⟨_,O⟩;obtain⟨U,hU⟩:∃U,U=c.plc k*κ (c.cl k):=⟨_,O⟩;obtain⟨V,hV⟩:∃V,V=U*cut.2:=⟨_,O⟩;obtain⟨Z,hZ⟩:∃Z,Z=κ (c.cl k)*cut.2:=⟨_,O⟩;have eB:(cut.2)*(s.S (c.cl k):Int)=B:=by rw[hB,bU]
  have eT:(cut.1)*(s.S (c.cl k):Int)=T:=by rw[hT,bU]
  have eU:(c.plc k)*(κ (c.cl k):Int)=U:=by rw[hU,bU]
  have eV:U*(cut.2:Int)=V:=by rw[hV,bU]
  have eZ:(κ (c.cl k))*(cut.2:Int)=Z:=by rw[hZ,bU]
  have hY:B≤5*5:=by rw[hB];exact cF hy hh
  have hK:T≤5*5:=by rw[hT];exact cF O1 hh
  have hJ:U≤5*5:=by rw[hU];exact cF x2 hD
  have xa:V≤25*5:=by rw[hV];exact cF hJ hy
  have hX:Z≤5*5:=by rw[hZ];exact cF hD hy
  have dh:0<B:=by rw[hB];exact iU ix hx
  obtain⟨r,hr⟩:∃r:Int,r=(T-(V:Int)).tmod (B:Int):=⟨_,O⟩;have h3:=jVg (T-V) B O1;rw[←hr] at h3;have h4:=gK (T-V) (show(B:Int)≠0 by omega);have dx:=gI (T-V) (show 0<(B:Int) by omega);have h9:((T:Int)-V).emod _=_%B:=O;have hj:-B≤r∧r<B:=by
   by_cases h:r<0
   ·omega
   rw[if_neg h] at h3;omega
  have lp:qVy (s.S (c.cl k)) (κ (c.cl k)) (c.plc k) cut.1 cut.2=decide (((T:Int)-V).emod (B:Int)<Z):=by
   unfold qVy;rw[←hT,←hB,←hZ,←hU,←hV]
  have hq:=jAw c.cl c.plc s.S κ cut k;have bo:(qAr c.cl c.plc s.S κ cut k).length≤k:=by
   have:=rE (fun i=>qVy (s.S (c.cl i)) (κ (c.cl i)) (c.plc i) cut.1 cut.2) (range k);rwa[dA] at this
  have cg:=hp.j7 cc;refine qA ?_;refine jW jG O3 (fun w'=>Hp W [] w' _) hp.N ?_;have hp:=hp.N;refine qX (wdp O (fun w hp=>vD O O) (qF ((aQ _ eB).trans (qK O1 O1))) ?_);refine qX (qU ?_);refine qA ?_;refine jW jG O3 (fun w'=>Hp W [] w' _) hp.N ?_;have hp:=hp.N;refine qX (wdp O (fun w hp=>vD O O) (qF ((aQ _ eT).trans (qK O1 O1))) ?_);refine qX (wdp O (fun w hp=>vD O O) (qF ((aQ _ eU).trans (qK O1 O1))) ?_);refine qX (wdp O (fun w hp=>vD O O) (qF ((aQ _ eV).trans (qK O1 O1))) ?_);refine wdp O (fun w hp=>jN O O) (qF (qK O1 O1)) (qX ?_);refine wdp O (fun w hp=>qCz O O O1) (qF hr.symm) (qX ?_);refine qU (qA ?_);refine uD ([11]++range' 62 3) (fun(_:Unit) F=>F.put 11 (Iv ((T-(V:Int)).emod (B:Int)))) (fun _ w'=>Hp W [] w' [qG eN 3 1 s7 c7 (qAr c.cl c.plc s.S κ cut k),blk b5 2 (qE (eFr cut)) 255]) ?_ ?_
  ·refine qH O (fun h2=>?_) (fun h2=>?_)
   ·rw[if_pos h2] at h3;refine qA (wlp (qO O O) (qF (b:=((T:Int)-(V:Int)).emod (B:Int)) (by rw[h3];exact qK O1 O1)) ?_);refine qA ?_;exact⟨(),qB O5 O,hp⟩
   rw[if_neg h2] at h3;refine qA ?_;exact⟨(),qB O5 (by rw[←h3];rfl),hp⟩
  clear hp;rintro u2 ⟨⟩ w3 hp;refine qA ?_;refine jW jG O3 (fun w'=>Hp W [] w' _) hp.N ?_;have hp:=hp.N;refine qX (wdp O (fun w hp=>vD O O) (qF ((aQ _ eZ).trans (qK O1 O1))) ?_);refine qX (qU ?_);by_cases hg:(T-(V:Int)).emod (B:Int)<Z
  ·rw[aD hg] at lp;rw[lp,if_pos O] at hq;refine qH O (fun _=>?_) O1;refine qA ?_;refine tF (jC (cs:=[.int _ k]) hp O O O O O O O) fun w4 nb hp=>tFb (jV eN _ k hp 1 0 O O O O O O (fun _=>O) O O O h6 O O O1) fun w5 s' c'⟨hm,hp⟩=>?_;have hp:Hp W [] w5 [_,_]:=hp.H;rw[←hq] at hm hp⊢;refine gA0 ?_;exact⟨(k+1,s',c'),qB O5 O,⟨O1,hm,hp⟩,O1⟩
  rw[aB hg] at lp;rw[lp,if_neg O2,bH] at hq;refine qH O O1 (fun _=>?_);rw[←hq] at h6 hp⊢;refine gA0 ?_;exact⟨(k+1,s7,c7),qB O5 O,⟨O1,h6,hp⟩,O1⟩
 obtain rfl:c.n=k:=O1;refine tV ?_;exact⟨_,O,s7,c7,O,h6,hp.sub (dT _ _)⟩
end Go.Proofs.YtplkndjlfkkjlaaGreatDoor
namespace Go.Lp
open List (range range' replicate)
section
open Go.Qu
variable{P:List Nat}{cl:Nat→Nat}{nc:Nat}
def vW:List (List Nat×Rat)→List Nat→Rat→List (List Nat×Rat)
 |[],P,w=>[(P,w)]
 |(Q,v)::m,P,w=>if Q=P then(Q,v+w)::m else(Q,v)::vW m P w
theorem qIb(P:List Nat)(w:Rat)(i:Nat):∀m,jE (vW m P w) i=jE m i+if i∈P then w else 0
 |[]=>by simp[vW,jE];grind
 |(Q,v)::m=>by
  unfold vW;split
  ·simp[jE];grind
  simp[jE];rw[qIb];grind
theorem qMa(P:List Nat)(w:Rat):∀m,qAi (vW m P w)=qAi m+w
 |[]=>by simp[vW,qAi];grind
 |(Q,v)::m=>by
  unfold vW;split
  ·simp[qAi];grind
  simp[qAi];rw[qMa];grind
theorem qCa(P:List Nat)(w:Rat):∀m:List (List Nat×Rat),(vW m P w).map (·.1)=if P∈m.map (·.1) then m.map (·.1) else m.map (·.1)++[P]
 |[]=>by simp[vW]
 |(Q,v)::m=>by
  unfold vW;split
  ·grind
  rw[dY,qCa];grind
theorem jEb{w:Rat}{m:List (List Nat×Rat)}(h:(m.map (·.1)).Nodup):((vW m P w).map (·.1)).Nodup:=by
 rw[qCa];grind
theorem qOr{P:List Nat}{w:Rat}:∀{m:List (List Nat×Rat)},∀x∈vW m P w,(x.1=P∧(x.2=w∨∃v,(P,v)∈m∧x.2=v+w))∨x∈m
 |[],x,hx=>by
  have:=by simpa[vW] using hx
  grind
 |(Q,v)::m,x,hx=>by
  unfold vW at hx;split at hx
  ·grind
  rcases bE.1 hx with rfl|hx
  ·simp
  rcases qOr x hx with⟨h1,h2⟩|h
  ·grind
  grind
def frQ(f:Nat×Nat):Rat:=(f.1:Rat)/(f.2:Rat)
theorem qHj{f:Nat×Nat}(h:FrF f):frQ f=(kyF f:Rat)/60:=by
 unfold frQ kyF;rcases h.cases with e|e|e|e|e<;>rw[e]<;>rw[mQ]<;>simp<;>grind
def wI(pa:Nat×Nat→List Nat)(w:Rat):List (Nat×Nat)→List (List Nat×Rat)
 |f::g::cs=>(pa f,w*(frQ g-frQ f))::wI pa w (g::cs)
 |_=>[]
theorem qK8(pa:Nat×Nat→List Nat)(w:Rat):∀(cs:List (Nat×Nat)) (f l:Nat×Nat),(f::cs).getLast? =some l→qAi (wI pa w (f::cs))=w*(frQ l-frQ f)
 |[],f,l,h=>by
  simp[wI,qAi];grind
 |g::cs,f,l,h=>by
  have:=qK8 pa w cs g l h;simp[wI,qAi];grind
theorem qH8(pa:Nat×Nat→List Nat)(w:Rat)(i:Nat)(mm:Nat→Bool):∀(cs:List (Nat×Nat)) (f:Nat×Nat),(∀g∈f::cs,FrF g)→(f::cs).Pairwise (fun f g=>kyF f<kyF g)→(∀g∈f::cs,(i∈pa g↔mm (kyF g)=true))→jE (wI pa w (f::cs)) i=w*((qNr mm ((f::cs).map kyF):Nat):Rat)/60
 |[],f,_,_,_=>by
  simp only[wI,jE,dY,rA,qNr];grind
 |g::cs,f,hf,hs,hm=>by
  obtain⟨h1,h2⟩:=bO.1 hs;have ih:=qH8 _ w i mm cs g (fun x hx=>hf x (by simp[hx])) h2 (fun x hx=>hm x (by simp[hx]));simp only[wI,jE,dY,qNr];rw[ih,dY,qHj (hf g O4),qHj (hf f O4),sJ];have hl:=h1 g O4;have hz:=hm f O4;by_cases lp:mm (kyF f)=true
  ·have e:(kyF g-kyF f:Nat)=(kyF g)-(kyF f:Rat):=by
    obtain⟨d,hd⟩:∃d,kyF g=kyF f+d:=⟨kyF g-kyF f,O1⟩;rw[hd,pN,sJ];grind
   grind
  rw[if_neg (fun h=>lp (hz.1 h)),if_neg lp];grind
theorem qB0(a b:List (List Nat×Rat))(i:Nat):jE (a++b) i=jE a i+jE b i:=by
 induction a with
 |nil=>simp[lT,jE];grind
 |cons x a ih=>
  simp[mG,jE];grind
theorem qEw(a b:List (List Nat×Rat)):qAi (a++b)=qAi a+qAi b:=by
 induction a with
 |nil=>simp[lT,qAi];grind
 |cons x a ih=>
  simp[mG,qAi];grind
def kE(adds:List (List Nat×Rat)):List (List Nat×Rat):=adds.foldl (fun m x=>vW m x.1 x.2) []
theorem qOq(adds:List (List Nat×Rat))(x:List Nat×Rat):kE (adds++[x])=vW (kE adds) x.1 x.2:=by
 unfold kE;simp
theorem qTk(G:List Nat→Prop)(D M:Nat):∀(N:Nat) (adds:List (List Nat×Rat)),adds.length=N→(∀x∈adds,G x.1∧0<x.2∧Ov D M x.2)→
  (∀i,jE (kE adds) i=jE adds i)∧qAi (kE adds)=qAi adds∧((kE adds).map (·.1)).Nodup∧(kE adds).length≤N∧∀x∈kE adds,G x.1∧0<x.2∧Ov D (N*M) x.2:=by
 intro N;induction N with
 |zero=>
  intro adds hN _;obtain rfl:=aZ hN;exact⟨fun _=>O,O,sBt,bM _,fun x hx=>by cases hx⟩
 |succ N ih=>
  intro adds hN h;rcases iV adds with rfl|⟨ad,x,rfl⟩
  ·grind
  rw[mM] at hN h⊢;obtain⟨h1,h2,h3,h4,h5⟩:=ih ad (by grind) (fun y hy=>h y (dB _ hy));obtain⟨g1,g2,g3⟩:=h x O4;rw[qOq];refine⟨fun i=>?_,?_,jEb h3,?_,fun y hy=>?_⟩
  ·rw[qIb,h1,qB0];simp[jE];grind
  ·rw[qMa,h2,qEw];simp[qAi];grind
  ·have e:=aQ List.length (qCa x.1 x.2 (kE ad));rw[aM] at e;rw[e];split
   ·grind
   grind
  have hM:M≤(N+1)*M:=by rw[lO];omega
  rcases qOr y hy with⟨e1,e2|⟨v,hv,e2⟩⟩|hy
  ·rw[e1,e2];exact⟨g1,g2,g3.le hM⟩
  ·obtain⟨_,k2,k3⟩:=h5 _ hv;rw[e1,e2];refine⟨g1,by grind,?_⟩;obtain⟨a,a1,a2⟩:=k3;obtain⟨b,b1,b2⟩:=g3;refine⟨a+b,?_,?_⟩
   ·grind
   rw[lO];omega
  obtain⟨k1,k2,k3⟩:=h5 y hy;exact⟨k1,k2,k3.le (aL _ O1)⟩
theorem qTr(h:∀i∈P,cl i<nc):((P.length:Nat):Rat)=sm nc (fun c=>(jX cl P c:Rat)*1):=by
 rw[←qF8 cl _ nc h];clear h;induction P with
 |nil=>rfl
 |cons i P ih=>
  simp only[ps,bT];grind
theorem qMk(h:∀i∈P,cl i<nc)(f:Nat→Bool):((P.countP (fun i=>f (cl i)):Nat):Rat)=sm nc (fun c=>(jX cl P c:Rat)*(if f c then 1 else 0)):=by
 rw[←qF8 cl _ nc h];clear h;induction P with
 |nil=>rfl
 |cons i P ih=>
  simp only[ps,iR];rw[sJ,ih];cases f _
  ·grind
  grind
end
section
open Go.Qu
variable{n:Nat}{cl S κ:Nat→Nat}{cut:Nat×Nat}{nc:Nat}
theorem qPd{cl:Nat→Nat}(g:Nat→Bool)(c:Nat):∀n,(range n).countP (fun i=>decide (cl i=c)&&g (cnt cl i (cl i)))=(range (cnt cl n c)).countP g
 |0=>rfl
 |n+1=>by
  rw[fW,lL,qPd];show _=(range (cnt cl n c+if cl n=c then 1 else 0)).countP g
  by_cases h:cl n=c
  ·subst h;rw[if_pos O,fW,lL];simp
  grind
theorem qOn{c:Nat}(hS:∀c,c<nc→S c=cnt cl n c)(hc:c<nc)(hx:0<S c)(hg:S c≤5)(hκ:κ c≤S c)(hf:FrF cut)(hh:kyF cut<60):
  jX cl (qAr cl (fun i=>cnt cl i (cl i)) S κ cut n) c=κ c:=by
 unfold jX qAr;rw[List.countP_filter];have hm:=jKd hx hg hκ hh;rw[hS c hc] at hm;rw[←hm,←qPd];refine sA5 fun i hi=>?_
 have hi:=aO.1 hi;by_cases h:cl i=c
 ·subst h;have hp:=by
   have:∀m,i<m→cnt cl i (cl i)<cnt cl m (cl i):=fun m=>by
    induction m with
    |zero=>omega
    |succ m ih=>
     intro h;show _<cnt cl m _+_
     grind
   exact this n hi
  have:=qTn hf.b0 hf.b5 hf.t hx hg hκ (by rw[hS _ hc];exact hp);unfold qVy kyF;grind
 simp[h]
theorem qKq{plc:Nat→Nat}:(qAr cl plc S κ cut n).Pairwise (·<·)∧∀i∈qAr cl plc S κ cut n,i<n:=
 ⟨List.Pairwise.filter _ nH,fun _ hi=>aO.1 (fN.1 hi).1⟩
theorem PF.kind{size:Nat}{q:List (Int×Int)}{inn:Nat→Nat→Bool}{P P':List Nat}(hP:PF n q inn size P)(hs:P'.Pairwise (·<·))(hl:∀i∈P',i<n)(hg:∀i,i<n→cl i<nc)(hk:∀c,c<nc→jX cl P' c=jX cl P c)
  (hj:∀i j,i<n→j<n→cl i=cl j→∀k,k<q.length→inn i k=inn j k):PF n q inn size P':=by
 have h1:=fun i hi=>hg i (hP.lt i hi)
 have h2:=fun i hi=>hg i (hl i hi)
 have hh:=by
  have e1:=qTr h1;have e2:=qTr h2;rw[jF (g:=fun c=>(jX cl P c:Rat)*1) (fun c hc=>by grind),←e1] at e2;exact Rat.natCast_inj.1 e2
 refine⟨hs,hl,hh.trans hP.len,fun k lh hU=>?_⟩;have hq:=(aH.1 hU).1;have hm:∀Q:List _,(∀i∈Q,i<n)→∃f:Nat→Bool,(∀i,i<n→inn i k=f (cl i)):=fun _ _=>by
  refine⟨fun c=>open Classical in decide (∃i,i<n∧cl i=c∧inn i k=true),fun i hi=>?_⟩;rw[iG];grind
 obtain⟨f,hf⟩:=hm P hP.lt;have e:∀Q:List _,(∀i∈Q,i<n)→Q.countP (fun i=>inn i k)=_:=fun Q hQ=>sA5 fun i hi=>by rw[hf i (hQ i hi)]
 have hn:P'.countP (fun i=>inn i k)=P.countP (fun i=>inn i k):=by
  rw[e P' hl,e P hP.lt];have e1:=qMk h1 f;have e2:=qMk h2 f;rw[jF (g:=fun c=>(jX cl P c:Rat)*(if f c then 1 else 0)) (fun c hc=>by grind),←e1] at e2;exact Rat.natCast_inj.1 e2
 rw[hn];exact hP.quo k lh hU
structure AOk(n:Nat)(cl:Nat→Nat)(G:List Nat→Prop)(s:Sr)(w:Nat→Rat)(D M k:Nat)(adds:List (List Nat×Rat)):Prop where
 all:∀x∈adds,G x.1∧0<x.2∧Ov (60*D) (60*M) x.2
 sum:qAi adds=sm k w
 ch:∀i,i<n→jE adds i*(s.S (cl i):Rat)=sm k (fun j=>w j*(s.κ j (cl i):Rat))
 len:adds.length≤6*k
theorem qHr(pa:Nat×Nat→List Nat)(w:Rat):∀cs:List (Nat×Nat),(wI pa w cs).length=cs.length-1
 |[]=>rfl
 |[_]=>rfl
 |f::g::cs=>by
  simp only[wI,bT];rw[qHr];simp
theorem qNf(pa:Nat×Nat→List Nat)(w:Rat):∀(cs:List (Nat×Nat)) (j:Nat) (f g:Nat×Nat),cs[j]? =some f→cs[j+1]? =some g→(wI pa w cs)[j]? =some (pa f,w*(frQ g-frQ f))
 |[],j,f,g,h,_=>by grind
 |[x],j,f,g,_,h=>by grind
 |x::y::cs,0,f,g,h1,h2=>by
  obtain rfl:x=f:=by grind
  obtain rfl:y=g:=by grind
  rfl
 |x::y::cs,j+1,f,g,h1,h2=>by
  exact qNf _ w _ j f g (by grind) (by grind)
theorem qNg(pa:Nat×Nat→List Nat)(w:Rat)(Q:List Nat×Rat→Prop):∀(cs:List (Nat×Nat)),cs.Pairwise (fun f g=>kyF f<kyF g)→(∀f g,f∈cs→g∈cs→kyF f<kyF g→Q (pa f,w*(frQ g-frQ f)))→∀x∈wI pa w cs,Q x
 |[],_,_,x,hx=>by cases hx
 |[_],_,_,x,hx=>by cases hx
 |f::g::cs,hs,h,x,hx=>by
  obtain⟨h1,h2⟩:=bO.1 hs;rcases bE.1 hx with rfl|hx
  ·grind
  exact qNg _ w Q _ h2 (fun a b ha hb jz=>h a b (by simp[ha]) (by simp[hb]) jz) x hx
section
variable {n:Nat}{cl:Nat→Nat}{G:List Nat→Prop}{s0 s:Sr}{lv:List (Rat×(Nat→Rat))}{w:Nat→Rat}{D M k:Nat}{adds:List (List Nat×Rat)}
theorem AOk.skip(h:AOk n cl G s w D M k adds)(hw:w k=0):AOk n cl G s w D M (k+1) adds:=by
 refine⟨h.all,?_,fun i hi=>?_,by have:=h.len;omega⟩
 ·show _=sm k w+w k
  rw[h.sum,hw];grind
 show _=sm k _+w k*_
 rw[h.ch i hi,hw];grind
theorem AOk.next(hI:Inv n cl G s0 s lv)(h:AOk n cl G s w D M k adds)(hk:k<s.K)(hw:0<w k)(hz:Ov D M (w k)){cs:List (Nat×Nat)}(hc:CutsOk s (s.κ k) cs)
  (hG:∀P P',G P→P'.Pairwise (·<·)→(∀i∈P',i<n)→(∀c,c<s.nc→jX cl P' c=jX cl P c)→G P'):
  AOk n cl G s w D M (k+1) (adds++wI (fun f=>qAr cl (fun i=>cnt cl i (cl i)) s.S (s.κ k) f n) (w k) cs):=by
 obtain⟨f0,h9,e0⟩:=hc.zero;obtain⟨f1,xf,e1⟩:=hc.one;obtain⟨P0,ti,h3⟩:=hI.kF k hk;have h7:∀f∈cs,kyF f≤60:=fun f hf=>by
  have xu:=hc.fr f hf;have:=xu.t;unfold kyF;rcases xu.cases with e|e|e|e|e<;>rw[e]<;>omega
 have xr:cs≠[]:=by rintro rfl;cases h9
 obtain⟨x0,ca,rfl⟩:=List.exists_cons_of_ne_nil xr;obtain⟨hj,h5⟩:=bO.1 hc.srt;have h8:kyF x0=0:=by
  rcases bE.1 h9 with rfl|h
  ·exact e0
  have:=hj f0 h;omega
 obtain⟨xl,hm⟩:∃xl,(x0::ca).getLast? =some xl:=⟨_,List.getLast?_eq_some_getLast xr⟩;have hD:kyF xl=60:=by
  have u0:∀(l:List (Nat×Nat)) (y:Nat×Nat),l.Pairwise (fun f g=>kyF f<kyF g)→l.getLast? =some y→∀f∈l,kyF f≤kyF y:=by
   intro l;induction l with
   |nil=>simp
   |cons a l ih=>
    intro y hs hl f hf;obtain⟨g1,g2⟩:=bO.1 hs;grind
  have h1:=u0 _ xl hc.srt hm f1 xf;have h2:=h7 xl (rY hm);omega
 have hJ:=hc.fr x0 O4;have hF:=hc.fr xl (rY hm);have hK:frQ xl-frQ x0=1:=by
  rw[qHj hF,qHj hJ,hD,h8];have:((0:Nat):Rat)=0:=O;have:((60:Nat):Rat)=60:=O;grind
 have xx:∀f g,f∈x0::ca→g∈x0::ca→kyF f<kyF g→0<frQ g-frQ f∧∃d:Nat,d≤60∧frQ g-frQ f=(d:Rat)/60:=fun f g hf hg hh=>by
  rw[qHj (hc.fr f hf),qHj (hc.fr g hg)];obtain⟨d,hd⟩:∃d,kyF g=kyF f+(d+1):=⟨kyF g-kyF f-1,O1⟩;have hL:=h7 g hg;have e:(kyF g:Rat)/60-(kyF f)/60=(d+1:Nat)/60:=by
   rw[hd,sJ];grind
  rw[e];refine⟨?_,_,O1,O⟩;grind
 have hE:∀f,f∈_→_<60→G (qAr cl _ _ _ f n):=fun f hf h6=>by
  refine hG P0 _ ti qKq.1 qKq.2 fun c hn=>?_
  rw[qOn hI.cls.S hn (hI.pos c hn) (hI.S5 hn) (hI.κS hk hn) (hc.fr f hf) h6,h3 c hn]
 refine⟨fun x hx=>?_,?_,fun i hi=>?_,?_⟩
 ·rcases fO.1 hx with hx|hx
  ·exact h.all x hx
  refine qNg _ _ (fun x=>G _∧0<x.2∧Ov _ _ _) _ hc.srt (fun f g hf hg hh=>?_) x hx;obtain⟨h1,d,hd,e⟩:=xx f g hf hg hh;refine⟨hE f hf (by grind),oH hw h1,?_⟩;obtain⟨z,z1,z2⟩:=hz;refine⟨z*d,?_,?_⟩
  ·rw[e,nQ,←z1,mQ,iK];grind
  rw[oE,lK,bW];exact cF hd z2
 ·rw[qEw,qK8 _ _ _ _ _ hm,hK,h.sum];show _=sm k w+w k
  grind
 ·rw[qB0];show _=sm k _+w k*_
  have yp:=hI.cls.lt i hi;have hy:=hI.pos _ yp;have ht:=hI.S5 yp;have hq:=hI.κS hk yp;have hp:cnt cl i (cl i)<s.S (cl i):=by
   rw[hI.cls.S _ yp];have:∀m,i<m→cnt cl i (cl i)<cnt cl m (cl i):=fun m=>by
    induction m with
    |zero=>omega
    |succ m ih=>
     intro h;show _<cnt cl m _+_
     grind
   exact this n hi
  have ee:=qH8 (fun f=>qAr cl (fun i=>cnt cl i (cl i)) s.S (s.κ k) f n) (w k) i (fun N=>qAg (s.S (cl i)) (s.κ k (cl i)) (cnt cl i (cl i)) N) ca x0 hc.fr hc.srt (fun g hg=>by
   have xu:=hc.fr g hg;have e:=qTn xu.b0 xu.b5 xu.t hy ht hq hp;simp[qAr,fN,aO];unfold qVy kyF;grind)
  have hM:((x0::ca).map kyF).Pairwise (·<·):=by
   rw[nU];exact hc.srt
  have u0:((x0::ca).map kyF).getLast? =some 60:=by
   rw[List.getLast?_map,hm];exact aQ some hD
  have hH:=part (S:=s.S (cl i)) (q:=s.κ k (cl i)) (p:=cnt cl i (cl i)) hy ht hq hp (cs:=ca.map kyF) (by grind) (by grind) (fun h1 h2 a h4 mf=>by
   obtain⟨f,hf,e⟩:=hc.has _ yp h1 h2 a h4 mf;grind)
  rw[ee,←h.ch i hi];have e2:(qNr (fun N=>qAg (s.S (cl i)) (s.κ k (cl i)) (cnt cl i (cl i)) N) (0::ca.map kyF):Nat)*(s.S (cl i))=60*(s.κ k (cl i):Rat):=by
   rw[←mQ,hH,mQ];rfl
  grind
 rw[aY,qHr];have h1:=h.len;have h2:=hc.len;omega
end
end
open Go.Qu Go.Eng
variable{X:Nat→Rat}{P:List Nat}{s:Sr}{v:Rat}{pk:List (List Nat)}{K k D M:Nat}
def at1{α:Type}[DecidableEq α](a:α):List α→Nat
 |[]=>0
 |x::l=>if x=a then 0 else at1 a l+1
section
variable {α β:Type}[DecidableEq α][DecidableEq β]
theorem qZw{a:α}:∀{l:List α},a∈l→at1 a l<l.length∧l[at1 a l]? =some a
 |[],h=>by cases h
 |x::l,h=>by
  unfold at1;by_cases e:x=a
  ·grind
  have h':=(bE.1 h).resolve_left fun e'=>e e'.symm
  obtain⟨h1,h2⟩:=qZw h';grind
theorem qL3{a:α}:∀{l:List α},a∉l→at1 a l=l.length
 |[],_=>rfl
 |x::l,h=>by
  unfold at1;rw[if_neg (fun e=>h (by grind)),qL3 (fun hm=>h (by simp[hm]))];rfl
theorem qZx{a:α}:∀{l l':List α},a∈l→at1 a (l++l')=at1 a l
 |[],_,h=>by cases h
 |x::l,l',h=>by
  show(if x=a then 0 else at1 a (l++l')+1)=(if x=a then 0 else at1 a l+1)
  by_cases e:x=a
  ·grind
  rw[if_neg e,if_neg e,qZx ((bE.1 h).resolve_left fun e'=>e e'.symm)]
theorem qS5{f:α→β}{a:α}:∀{l:List α},(∀x∈l,f x=f a→x=a)→at1 (f a) (l.map f)=at1 a l
 |[],_=>rfl
 |x::l,h=>by
  show(if f x=f a then 0 else at1 _ _+1)=(if x=a then 0 else at1 a l+1)
  by_cases e:x=a
  ·grind
  rw[if_neg e,if_neg (fun e'=>e (h x O4 e')),qS5 (fun y hy=>h y (by simp[hy]))]
end
def bkP(P:List Nat):ByteArray:=kN (P.map fun x:Nat=>(x:Int))
theorem qZt{Q:List Nat}(hP:∀i∈P,i<256)(hQ:∀i∈Q,i<256)(h:bkP P=bkP Q):P=Q:=by
 have e:∀P,(bkP P).data.toList=P.map fun i=>UInt8.ofNat i:=fun P=>by
  unfold bkP;rw[qFq,iP];simp
 have h1:=e P;rw[h,e] at h1;apply eF;intro j;have h2:=aQ (fun l=>l[j]?) h1;simp[dF] at h2;cases hp:P[j]? with
 |none=>
  grind
 |some a=>
  rw[hp] at h2;cases hq:Q[j]? with
  |none=>grind
  |some b=>
   rw[hq] at h2;have h3:=by simpa using h2
   have h4:=aQ UInt8.toNat h3;have ha:=hP a (aI hp);have hb:=hQ b (aI hq);rw[sAr,sAr] at h4;grind
def mkG{κ:Type}[DecidableEq κ](ks:List κ)(k:κ):Option Value:=if k∈ks then some (Iv (at1 k ks:Nat)) else none
section
variable {κ:Type}[DecidableEq κ]{ks:List κ}{a:κ}
theorem jK7(h:a∈ks):mkG ks a=some (Iv (at1 a ks:Nat)):=if_pos h
theorem jEm(h:a∉ks):mkG ks a=none:=if_neg h
theorem jK8(hn:a∉ks):(fun k=>if k=a then some (Iv (ks.length:Nat)) else mkG ks k)=mkG (ks++[a]):=by
 funext k;unfold mkG;by_cases hk:k=a
 ·have e:∀l,k∉l→at1 k (l++[k])=l.length:=fun l=>by
   induction l with
   |nil=>intro _;show(if k=k then 0 else _)=0;simp
   |cons x l ih=>
    intro hx;show(if x=k then 0 else at1 k (l++[k])+1)=_
    grind
  grind
 rw[if_neg hk];by_cases uq:k∈ks
 ·rw[if_pos uq,if_pos (by grind),qZx uq]
 grind
end
def mkF(pk:List (List Nat)):ByteArray→Option Value:=mkG (pk.map bkP)
theorem jKb(h:∀Q∈P::pk,∀i∈Q,i<256):mkF pk (bkP P)=if P∈pk then some (Iv (at1 P pk:Nat)) else none:=by
 have hg:∀Q∈pk,_=_→Q=P:=fun Q hQ e=>qZt (h Q (by simp[hQ])) (h P O4) e
 unfold mkF;by_cases hm:P∈pk
 ·rw[if_pos hm,jK7 (bD.2 ⟨P,hm,O⟩),qS5 hg]
 rw[if_neg hm,jEm (fun hk=>by
  grind)]
theorem jK9(h:∀Q∈P::pk,∀i∈Q,i<256)(hm:P∉pk):(fun k=>if k=bkP P then some (Iv (pk.length:Nat)) else mkF pk k)=mkF (pk++[P]):=by
 have hg:∀Q∈pk,_=_→Q=P:=fun Q hQ e=>qZt (h Q (by simp[hQ])) (h P O4) e
 have hn:bkP P∉pk.map _:=fun hk=>by
  obtain⟨Q,hQ,e⟩:=bD.1 hk;exact hm (hg Q hQ e▸hQ)
 unfold mkF;rw[dR,dY,rA,←jK8 hn,aM]
def wtV(m:List (List Nat×Rat))(P:List Nat):List Rat:=if P∈m.map (·.1) then m.map (·.2) else m.map (·.2)++[0]
theorem jIl(m:List (List Nat×Rat))(P:List Nat)(w:Rat):(wtV m P).length=(vW m P w).length∧at1 P (m.map (·.1))<(wtV m P).length:=by
 have e:=aQ List.length (qCa P w m);rw[aM] at e;unfold wtV;by_cases h:P∈m.map (·.1)
 ·have:=(qZw h).1;grind
 rw[if_neg h,aY,aM,qL3 h,aM];grind
theorem qX3(P:List Nat)(w:Rat):∀m:List (List Nat×Rat),(wtV m P).set (at1 P (m.map (·.1))) ((wtV m P).getD (at1 P (m.map (·.1))) 0+w)=(vW m P w).map (·.2)
 |[]=>by
  show[0+w]=[w]
  grind
 |(Q,v)::m=>by
  by_cases hQ:Q=P
  ·subst hQ;have e:wtV ((Q,v)::m) Q=v::_:=if_pos O4;rw[e];show List.set _ (if Q=Q then 0 else _) (List.getD _ (if Q=Q then 0 else _) 0+w)=List.map _ (if Q=Q then(Q,v+w)::m else _)
   simp
  have e:wtV ((Q,v)::m) P=v::wtV m P:=by
   unfold wtV;by_cases h:P∈m.map (·.1)
   ·grind
   rw[if_neg h,if_neg (by
    grind)]
   rfl
  have ih:=qX3 P w m;show List.set _ (if Q=P then 0 else at1 P _+1) (List.getD _ (if Q=P then 0 else at1 P _+1) 0+w)=List.map _ (if Q=P then _ else(Q,v)::vW m P w)
  grind
theorem jIk{m:List (List Nat×Rat)}{j:Nat}:(wtV m P).getD j 0=0∨∃x∈m,x.2=(wtV m P).getD j 0:=by
 have hg:∀l:List Rat,l.getD j 0=0∨l.getD j 0∈l:=fun l=>by
  grind
 rcases hg (wtV m P) with h|h
 ·grind
 generalize (wtV m P).getD j 0=y at h⊢;unfold wtV at h;grind
def wmF(X:Nat→Rat)(K k:Nat):Rat:=if k=0 then X 1+(1-sm K fun k=>X (k+1)) else X (k+1)
theorem jIo(hK:1≤K):sm K (wmF X K)=1:=by
 obtain⟨n,rfl⟩:∃n,K=n+1:=⟨K-1,O1⟩;rw[qDf];have e:=qDf (fun k=>X (k+1)) n;have e2:sm n (fun k=>wmF X (n+1) (k+1))=_:=jF fun k _=>if_neg O1
 have e3:wmF X (n+1) 0=_:=if_pos O;grind
theorem jC4(h:s.W v fun k=>X (k+1))(k:Nat):X (k+1)≤wmF X s.K k:=by
 have:=h.one;unfold wmF;grind
theorem jNj(h:s.W v fun k=>X (k+1))(hk:k<s.K):0≤wmF X s.K k:=pZ (h.nn k hk) (jC4 h k)
theorem qM3{N:Nat}{a b:Rat}(ha:Ov D M a)(hb:Ov D N b):Ov D (M+N) (a+b):=by
 obtain⟨x,h1,h2⟩:=ha;obtain⟨y,h3,h4⟩:=hb;refine⟨x+y,?_,O1⟩;grind
theorem qY6{D M:Nat}{f:Nat→Rat}:∀n,(∀i,i<n→Ov D M (f i))→Ov D (n*M) (sm n f)
 |0,_=>qI6
 |n+1,h=>by
  have:=qM3 (qY6 n fun i hi=>h i O1) (h n O1);rw[lO];exact this
theorem jNi(hg:D≤M)(hK:K≤32)(h:∀j,j<K+1→Ov D M (X j))(hk:k<K):Ov D (34*M) (wmF X K k):=by
 have hm:K*M≤_:=aL _ hK;unfold wmF;split
 ·have h1:=qY6 K fun i hi=>h (i+1) O1
  have h2:Ov D M 1:=qJ3 O1;have h3:=qM3 (h 1 O1) (qM3 h2 (qM2 h1));rw[←nN] at h3;exact h3.le O1
 exact(h _ O1).le O1
theorem jUu(h:s.W v fun k=>X (k+1)){c:Nat}(hc:c<s.nc)(hd:s.dec c=true):(s.S c:Rat)*s.p c≤sm s.K (fun k=>wmF X s.K k*(s.κ k c:Rat)):=by
 have h1:=h.ge c hc;rw[hd,if_pos O] at h1;exact pZ h1 (qJu fun k hk=>Rat.mul_le_mul_of_nonneg_right (jC4 h k) (by grind))
end Go.Lp
namespace Go.Proofs.YtplkndjlfkkjlaaGreatDoor
open List (range range' replicate)
open Tryz
open Go.Eng Go.Dig Go.Lp Go.Qu
variable{pk:List (List Nat)}{P:List Nat}
structure MA where
 gp:Nat→Option Addr×Nat
 sP:Option Addr
 cP:Nat
 sV:Option Addr
 cV:Nat
def phL(gp:Nat→Option Addr×Nat)(pk:List (List Nat)):List (Option Addr×Nat×Nat):=lm pk.length fun j=>((gp j).1,(pk.getD j []).length,(gp j).2)
def wR(gp:Nat→Option Addr×Nat)(pk:List (List Nat))(j:Nat):Ent:=qG eN 3 1 (gp j).1 (gp j).2 (pk.getD j [])
def qId(ma:MA)(m:List (List Nat×Rat)):List Ent:=[qG jO 22 1 ma.sP ma.cP (phL ma.gp (m.map (·.1))),qG eQ 49 3 ma.sV ma.cV (m.map (·.2))]++lm (m.map (·.1)).length (wR ma.gp (m.map (·.1)))
structure MixOk(ma:MA)(m:List (List Nat×Rat)):Prop where
 P:SVL ma.sP ma.cP (phL ma.gp (m.map (·.1)))
 V:SVL ma.sV ma.cV (m.map (·.2))
 p:∀j,j<(m.map (·.1)).length→SVL (ma.gp j).1 (ma.gp j).2 ((m.map (·.1)).getD j [])
def qAe(ma:MA)(n:Nat)(sL:Option Addr)(nl cL:Nat):List Value:=[.slice ma.sP n ma.cP,.slice ma.sV n ma.cV,.slice sL nl cL]
def stL(sL:Option Addr)(cL nl b4 mp:Nat)(ma:MA)(m:List (List Nat×Rat)):List Ent:=[blk b4 3 (qE (qAe ma m.length sL nl cL)) 45,yA kStr mp (mkF (m.map (·.1)))]++qId ma m
def stM(sL:Option Addr)(cL nl b4 mp:Nat)(ma:MA)(pk:List (List Nat))(wt:List Rat):List Ent:=[blk b4 3 (qE (qAe ma pk.length sL nl cL)) 45,yA kStr mp (mkF pk),qG jO 22 1 ma.sP ma.cP (phL ma.gp pk),qG eQ 49 3 ma.sV ma.cV wt]++lm pk.length (wR ma.gp pk)
theorem jCu(sL:Option Addr)(cL nl b4 mp:Nat)(ma:MA)(m:List (List Nat×Rat)):stL sL cL nl b4 mp ma m=stM sL cL nl b4 mp ma (m.map (·.1)) (m.map (·.2)):=by
 unfold stL stM qId;simp
def gpN(gp:Nat→Option Addr×Nat)(n:Nat)(s:Option Addr)(c:Nat):Nat→Option Addr×Nat:=fun q=>if q=n then(s,c) else gp q
theorem qCe{j:Nat}(h:j<pk.length):(pk++[P]).getD j []=pk.getD j []:=by
 grind
theorem qMo:(pk++[P]).getD pk.length []=P:=by
 simp
theorem qTd(gp:Nat→Option Addr×Nat)(pk:List (List Nat))(P:List Nat)(s:Option Addr)(c:Nat):phL (gpN gp pk.length s c) (pk++[P])=phL gp pk++[(s,P.length,c)]:=by
 unfold phL;rw[aY];show lm (pk.length+1) _=_
 rw[lm_succ];have e:gpN gp _ s c pk.length=_:=if_pos O;rw[e,qMo];congr 1;refine jH fun j hj=>?_
 have e2:gpN gp pk.length s c j=_:=if_neg O1;grind
theorem jAp(gp:Nat→Option Addr×Nat)(pk:List (List Nat))(P:List Nat)(s:Option Addr)(c:Nat):lm (pk++[P]).length (wR (gpN gp pk.length s c) (pk++[P]))=lm pk.length (wR gp pk)++[qG eN 3 1 s c P]:=by
 rw[aY];show lm (pk.length+1) _=_
 rw[lm_succ];have e:gpN gp _ s c pk.length=_:=if_pos O;congr 1
 ·refine jH fun j hj=>?_
  have e2:gpN gp pk.length s c j=_:=if_neg O1;unfold wR;grind
 unfold wR;grind
theorem qQr{gp:Nat→Option Addr×Nat}:(phL gp pk).length=pk.length:=qT
theorem jKa:mkF []=fun _=>none:=by
 funext k;exact jEm O4
theorem qL9{f g:Nat→Nat}:∀{n},(∀i,i<n→f i=g i)→qDc n f=qDc n g
 |0,_=>rfl
 |n+1,h=>by
  show qDc n f+f n=qDc n g+g n
  rw[qL9 fun i hi=>h i O1,h n O1]
theorem AOk.zero{n:Nat}{cl:Nat→Nat}{G:List Nat→Prop}{s:Sr}{w:Nat→Rat}{D M:Nat}:AOk n cl G s w D M 0 []:=
 ⟨fun x hx=>absurd hx O4,O,fun i _=>by
  show 0*_=0
  grind,bM _⟩
theorem jQ1(s:Option Addr)(n c:Nat):Instr.fill ((#[(0,1),(1,1),(2,1)]:Array (Nat×Nat))[·]?) #[Zs,Zs,Zs] [(2,.slice s n c)]=some #[Zs,Zs,.slice s n c]:=O
attribute [local irreducible] PV StepF wpl wpd WP Ret
attribute [local irreducible] Fit
set_option maxRecDepth 20000 in
set_option maxHeartbeats 8000000 in
theorem zBo(a:FrA)(c:FrS)(G:List Nat→Prop)(s0 s:Sr)(lv:List (Rat×(Nat→Rat)))(gW cW:Nat)(X:Nat→Rat)(v0:Rat)(M:List Nat)(W:World)(ok:FrOk a c s (lvE c.cl lv))(hp:Hp W M W ([qG eQ 49 3 (Ad gW) cW (lm (s.K+1) X)]++frL a c s (lvE c.cl lv)))
  (xv:SVL (Ad gW) cW (lm (s.K+1) X)) (yg:a.sW=some ⟨gW,0+1*3,none⟩) (ye:a.nW=s.K) (hI:Inv c.n c.cl G s0 s lv) (hW:s.W v0 fun k=>X (k+1)) (hX:OvB 5712200000 (s.K+1) X) (zn:∀i,c.plc i=cnt c.cl i (c.cl i))
  (hG:∀P P',G P→P'.Pairwise (·<·)→(∀i∈P',i<c.n)→(∀q,q<s.nc→jX c.cl P' q=jX c.cl P q)→G P'):
  Rt 100 [.pointer (some ⟨a.fb,0,none⟩)] W (fun v w'=>∃(ma:MA) (adds:List (List Nat×Rat)) (D Mo ci:Nat) (Z:List Rat),v= .agg (qAe ma (kE adds).length a.sL lv.length a.cL).toArray∧0<D∧D≤Mo∧Mo<2^5712200000∧AOk c.n c.cl G s (wmF X s.K) D (34*Mo) s.K adds∧MixOk ma (kE adds)∧
   Hp W M w' (qId ma (kE adds)++([qG eQ 49 3 (Ad gW) ci Z]++frL a c s (lvE c.cl lv)))):=by
 obtain⟨D,Mo,hM,h6,hMo,xu⟩:=hX;obtain⟨κ,hκ⟩:∃κ,κ=5712200000:=⟨_,O⟩;rw[←hκ] at hMo⊢;have hV:=hI.K32;have pc:=hI.K1;have xd:∀j,j<s.K+1→BQ κ (X j):=fun j hj=>wQ hM h6 hMo (xu j hj)
 have BQone:BQ 1 (1:Rat):=⟨O2,O2⟩;have zj:∀k,k<s.K→Ov D (34*Mo) (wmF X s.K k):=fun k hk=>jNi h6 hV xu hk
 have zb:34*Mo<2^(κ+6):=by rw[dW];omega
 have xg:∀k,k<s.K→BQ (κ+6) (wmF X s.K k):=fun k hk=>wQ hM O1 zb (zj k hk)
 have zx:Ov D (34*Mo) (sm s.K fun k=>X (k+1)):=(qY6 s.K (f:=fun k=>X (k+1)) fun i hi=>xu (i+1) O1).le (aL _ O1);have xz:BQ (κ+6) (sm s.K fun k=>X (k+1)):=wQ hM O1 zb zx;have yc:Ov D (34*Mo) (1-sm s.K fun k=>X (k+1)):=by
  have h1:=qY6 s.K (f:=fun k=>X (k+1)) fun i hi=>xu (i+1) O1
  have h2:Ov D Mo 1:=qJ3 h6;have h3:=qM3 h2 (qM2 h1);rw[←nN] at h3
  exact h3.le (by
   have:s.K*Mo≤32*Mo:=aL _ hV
   omega)
 have sw:BQ (κ+6) (1-sm s.K fun k=>X (k+1)):=wQ hM O1 zb yc;have mw:=hp;have hR:=FrR.of (Y:=[]) (by rw[bH];exact hp.H) ok;have h20:=hR.h20;rw[yg,ye] at h20;have xo:SlAt W 3 eQ (some ⟨gW,0+1*3,none⟩) (lm s.K fun k=>X (k+1)):=by
  have h:=qZ hp 0 O xv jT;intro k x hx
  obtain⟨b,o,e,hc⟩:=h (k+1) x (by
   have hk:k<s.K:=by
    have:=(aH.1 hx).1;rwa[qT] at this
   rw[yI hk] at hx;rw[yI O1]
   exact hx)
  exact mCm
 have za:∀w,Keeps [] W w→Rk 46 [.slice (some ⟨gW,0+1*3,none⟩) s.K a.cW] w (QV (sm s.K fun k=>X (k+1))):=fun w hk=>r46 s.K (fun k=>X (k+1)) _ a.cW κ w (xo.j6 hk) (fun i hi=>xd (i+1) O1) O1 (by
  have:(s.K+1)*(κ+1)≤33*(κ+1):=aL _ O1
  omega)
 refine tW func100 ntmps100 fun hp=>?_;refine qR ?_;refine tQ fun w1 b2 hp=>?_;refine qR ?_;refine uD ([3]++range' 18 7) (fun(b3:Nat) F=>F.put 3 (.pointer (Ad b3))) (fun b3 w'=>Hp W [] w' [blk b3 3 (qE (eQ (1-sm s.K fun k=>X (k+1)))) 49,blk b2 3 (qE [Zs,Zs,Zs]) 45]) ?_ ?_
 ·refine qCm true [0,1,2,3,4,5,6,7,8] jG O3 O (fun w'=>Hp W [] w' [blk b2 3 (qE [Zs,Zs,Zs]) 45]) hp.N ?_;have hp:=hp.N;refine zP ?_;refine qD7 7 O O3 O O ?_ ?_
  ·skip
   refine tK (r25 1 _ O2 O2) ?_;rintro _ w3 ⟨rfl,hk⟩;have hp:=hp.call hk;refine⟨hp,?_⟩;refine gAd ?_;refine qD7 7 O O3 O O ?_ ?_
   ·skip
    refine tK (za _ hp.C) ?_;rintro _ w4 ⟨rfl,hk⟩;have hp:=hp.call hk;refine⟨hp,?_⟩;refine zP ?_;refine qD7 7 O O3 O O ?_ ?_
    ·skip
     refine tK (qKa _ BQone xz O1) ?_;rintro _ w5 ⟨rfl,hk⟩;have hp:=hp.call hk;refine⟨hp,?_⟩;refine gAd ?_;refine xO O O3 ?_ O;apply wbs;exact O;exact jK hp (qJ O);rintro _ w8 ⟨b3,rfl,hp⟩;refine⟨hp.H,?_⟩;refine zP ?_;refine xO O O3 ?_ O;apply qDu;exact O;exact qW hp 0 O O O O (qD O) O;rintro _ w9 ⟨rfl,hp⟩;refine⟨hp.H,?_⟩;have hp:=hp.norm 0 (eQ (1-sm s.K fun k=>X (k+1))) O O;refine gAg ?_;exact⟨b3,qB O5 O,hp⟩
    skip
    apply wbs;exact O;exact jK hp (qJ O);rintro _ w8 ⟨b3,rfl,hp⟩;refine⟨hp.H,?_⟩;exact mA5
   skip
   apply wbs;exact O;exact jK hp (qJ O);rintro _ w8 ⟨b3,rfl,hp⟩;refine⟨hp.H,?_⟩;exact mBo
  skip
  apply wbs;exact O;exact jK hp (qJ O);rintro _ w8 ⟨b3,rfl,hp⟩;refine⟨hp.H,?_⟩;refine xO O O3 ?_ O;refine tK (r25 1 _ O2 O2) ?_;rintro _ w3 ⟨rfl,hk⟩;have hp:=hp.call hk;refine⟨hp.H,?_⟩;refine gAd ?_;exact mBo
 clear hp;rintro u b3 w2 hp;have hp:=mw.join hp;have hp:Hp W M w2 ([blk b3 3 (qE (eQ (1-sm s.K fun k=>X (k+1)))) 49,blk b2 3 (qE [Zs,Zs,Zs]) 45,qG eQ 49 3 (Ad gW) cW (lm (s.K+1) X)]++frL a c s (lvE c.cl lv)):=hp;have f20:∀{w:World},Hp W M w ([blk b3 3 (qE (eQ (1-sm s.K fun k=>X (k+1)))) 49,blk b2 3 (qE [Zs,Zs,Zs]) 45,qG eQ 49 3 (Ad gW) cW (lm (s.K+1) X)]++frL a c s (lvE c.cl lv))→w.cell? ⟨a.fb,0+20,none⟩=some (.slice (some ⟨gW,0+1*3,none⟩) s.K a.cW):=fun hp=>by
  exact mDg
 have fc:∀{w:World} {r:Rat} {X:Nat→Rat},Hp W M w ([blk b3 3 (qE (eQ r)) 49,blk b2 3 (qE [Zs,Zs,Zs]) 45,qG eQ 49 3 (Ad gW) cW (lm (s.K+1) X)]++frL a c s (lvE c.cl lv))→w.cell? ⟨a.fb,0+20,none⟩=some (.slice (some ⟨gW,0+1*3,none⟩) s.K a.cW):=fun hp=>by
  exact mDg
 have yy:0<s.K:=pc;refine qR ?_;refine jU jG O3 (fun w'=>Hp W M w' ([blk b3 3 (qE (eQ (1-sm s.K fun k=>X (k+1)))) 49,blk b2 3 (qE [Zs,Zs,Zs]) 45,qG eQ 49 3 (Ad gW) cW (lm (s.K+1) X)]++frL a c s (lvE c.cl lv))) hp.N ?_;have hp:=hp.N;apply wdp;exact O;intro w hp;intros;(first|apply qP|apply kA|apply xF)<;>(first|exact O);(intros;first|exact fP O|exact fU O);apply wdp;exact O;intro w hp;intros;(first|apply qP|apply kA|apply xF)<;>(first|exact O);(intros;first|exact fP O|exact fU O);apply wdp;exact O;intro w hp;intros;(first|apply qP|apply kA|apply xF)<;>(first|exact O);(intros;first|exact fP O|exact fU O);refine wdp O (fun w hp=>qS O O (f20 hp)) (O:_=Value.slice (some ⟨gW,0+1*3,none⟩) s.K a.cW) ?_;apply wdp;exact O;intro w hp;intros;(first|apply qP|apply kA|apply xF)<;>(first|exact O);(intros;first|exact fP O|exact fU O);apply wdp;exact O;intro w hp;intros;(first|apply qP|apply kA|apply xF)<;>(first|exact O);(intros;first|exact fP O|exact fU O);apply wdp;exact O;intro w hp;intros;(first|apply qP|apply kA|apply xF)<;>(first|exact O);(intros;first|exact fP O|exact fU O);refine wdp O (fun w hp=>qS O O (f20 hp)) (O:_=Value.slice (some ⟨gW,0+1*3,none⟩) s.K a.cW) ?_;refine wdp O (fun w hp=>zA O O O O yy) (O:_=Value.pointer (some ⟨gW,0+1*3+0*3,none⟩)) ?_;refine tP (fun w hp=>qL (vs:=eQ (X 1)) O O O O (zM (qZ hp 2 O xv jT) (show 1<s.K+1 by omega))) ?_;refine tP (fun w hp=>qL (vs:=eQ (1-sm s.K fun k=>X (k+1))) O O O O (hp.j3 0 O O)) ?_;refine tG (r44 _ (xd 1 O1) sw O1) fun w3 hp=>?_;refine wdp O (fun w hp=>zA O O O O yy) (O:_=Value.pointer (some ⟨gW,0+1*3+0*3,none⟩)) ?_;apply xH;exact O;exact O;exact vL eQ (lm (s.K+1) X) 1 (X 1+(1-sm s.K fun k=>X (k+1))) hp 2 O xv (by rw[qT];omega) O O jT O O (qD O);rintro _ w4 ⟨rfl,hp⟩;refine qU ?_;have hT:(lm (s.K+1) X).set 1 (X 1+(1-sm s.K fun k=>X (k+1)))=lm (s.K+1) (fun j=>if j=0 then X 0 else wmF X s.K (j-1)):=by
  rw[vF];refine jH fun j _=>?_
  unfold wmF;by_cases hj:j=1
  ·subst hj;rfl
  rw[if_neg hj];by_cases e0:j=0
  ·rw[if_pos e0,e0]
  rw[if_neg e0,if_neg O1,show j-1+1=j by omega]
 rw[hT] at hp;obtain⟨X',zq⟩:∃X',X'=fun j=>if j=0 then X 0 else wmF X s.K (j-1):=⟨_,O⟩
 rw[←zq] at hp;have sy:∀k,X' (k+1)=wmF X s.K k:=fun k=>by rw[zq];exact if_neg O1
 have yn:SVL (Ad gW) cW (lm (s.K+1) X'):=jZ xv (by rw[qT,qT]);have hp:Hp W M w4 ([blk b3 3 (qE (eQ (1-sm s.K fun k=>X (k+1)))) 49,blk b2 3 (qE [Zs,Zs,Zs]) 45,qG eQ 49 3 (Ad gW) cW (lm (s.K+1) X')]++frL a c s (lvE c.cl lv)):=hp;have hR:=FrR.of (Y:=[]) (by rw[bH];exact hp.sub (bZ _ _)) ok;have xo:SlAt w4 3 eQ (some ⟨gW,0+1*3,none⟩) (lm s.K (wmF X s.K)):=by
  have h:=qZ hp 2 O yn jT;intro k x hx;have hk:k<s.K:=by
   have:=(aH.1 hx).1;rwa[qT] at this
  obtain⟨b,o,e,hc⟩:=h (k+1) x (by
   rw[yI hk] at hx;rw[yI O1,sy]
   exact hx)
  exact mCm
 have zo:∀k,k<s.K→∀(j:Nat) (v:Value),(eQ (wmF X s.K k))[j]? =some v→w4.cell? ⟨gW,0+1*3+k*3+j,none⟩=some v:=fun k hk=>by
  obtain⟨b,o,e,hc⟩:=xo k _ (yI hk);cases e;exact hc
 have h20:=fc hp;have zy:w4.cell? ⟨a.fb,0+21,none⟩=some (.slice a.sL lv.length a.cL):=by
  have h:w4.cell? ⟨a.fb,0+21,none⟩=some (.slice a.sL (lvE c.cl lv).length a.cL):=hp.cell 3 O O;rwa[qKt] at h
 have cp:∀(j:Nat) (v:Value),([Zs,Zs,Zs]:List Value)[j]? =some v→w4.cell? ⟨b2,0+j,none⟩=some v:=hp.j3 1 O O;have h8:=hp;clear hp f20 hT yy mw;have hp:=Hp.start (M:=[]) (w:=w4);have zf:=hp.j7 zy;refine qR ?_;apply wlp;(first|apply qP|apply kA|apply xF)<;>(first|exact O);(intros;first|exact fP O|exact fU O);apply wlp;(first|apply qP|apply kA|apply xF)<;>(first|exact O);(intros;first|exact fP O|exact fU O);apply wlp;(first|apply qP|apply kA|apply xF)<;>(first|exact O);(intros;first|exact fP O|exact fU O);refine wlp (qS O O zf) (O:_=Value.slice a.sL lv.length a.cL) ?_;refine wlp (qB6 (zs:=#[Zs,Zs,Zs]) (pl:=#[(0,1),(1,1),(2,1)]) Tryz.underlying45 (qJ O) O (fun w=>O3) (by rw[vH];exact jQ1 _ _ _)) (O:_=Value.agg #[Zs,Zs,.slice a.sL lv.length a.cL]) ?_;refine tQ fun w5 b4 hp=>?_;refine tS fun w6 hp=>?_;have hp:=hp.norm 0 [Zs,Zs,.slice a.sL lv.length a.cL] O O;refine qA ?_;refine tF (yS kStr hp) fun w7 mp hp=>?_;have hp:=((hp.k4 eQ 49 3).k4 jO 22 1);have x4:=hp.j7 hR.h17;refine qA ?_;have hp:=hp.norm 3 [Zs,Zs,.slice a.sL lv.length a.cL] O O;rw[←jKa] at hp;have hp:Hp w4 [] w7 (stL a.sL a.cL lv.length b4 mp ⟨fun _=>(none,0),none,0,none,0⟩ (kE [])):=hp.k5 [3,2,0,1] _ O2 O;have zk:qDc s.nc s.S≤5:=by
  rw[qL9 hI.cls.S];have:=jCm (cl:=c.cl) c.n s.nc;have:=hI.n5;omega
 have sO:=hI.n5;have zw:=hI.nc;have hE:∀q,q<s.nc→s.S q≤5:=fun q hq=>hI.S5 hq
 have ya:∀k,k<s.K→∀q,q<s.nc→s.κ k q≤5:=fun k hk q hq=>bL (hI.κS hk hq) (hI.S5 hq)
 refine qQ ([6,7,8,9,10,11,12,13,15,16,17]++range' 49 102) (fun(z:Nat×List (List Nat×Rat)×MA) F=>F.put 49 (Iv (z.1:Int)))
  (fun z w'=>z.1≤s.K∧AOk c.n c.cl G s (wmF X s.K) D (34*Mo) z.1 z.2.1∧MixOk z.2.2 (kE z.2.1)∧Hp w4 [] w' (stL a.sL a.cL lv.length b4 mp z.2.2 (kE z.2.1))) (fun z=>s.K-z.1) (0,[],⟨fun _=>(none,0),none,0,none,0⟩) (qB (Same.eq .refl) O)
  ⟨bN _,AOk.zero,⟨SVL.nil,SVL.nil,fun j hj=>absurd hj (gT j)⟩,hp⟩ ?_
 clear hp x4 zf;rintro u2 ⟨k,adds,ma⟩ w8 ⟨hk,hA,ht,hp⟩;dsimp only at hk hA ht hp⊢;have zl:=hR.j5 hp.C;refine tI (fun h=>?_) fun h=>?_
 ·have hl:k<s.K:=O1;obtain⟨bK,oK,zv,xr⟩:=jR (show SlAt w8 1 jO a.sK (lm s.K fun j=>((some ⟨a.gk j,0,none⟩:Option Addr),s.nc,s.nc)) from zl.K) hl;have ck:=xr 0 _ O;have s4:=hp.j7 h20;refine qA ?_;refine tR (qL (vs:=eQ (wmF X s.K k)) O O O O (fun j v e=>hp.j7 (zo k hl j v e))) ?_;refine tC (r52 _ (BQ.fq (xg k hl) O1)) fun w9 hp=>?_;by_cases ji:wmF X s.K k=0
  ·refine wlp (zW O O) (qV (b:=true) (aD (qJv.2 ji))) ?_;refine qA ?_;refine jB O ?_;refine gA0 ?_;exact⟨(k+1,adds,ma),qB O5 O,⟨by show k+1≤_;omega,hA.skip ji,ht,hp⟩,by show s.K-(k+1)<s.K-k;omega⟩
  have jg:0<wmF X s.K k:=by
   have:=jNj hW hl;grind
  refine wlp (zW O O) (qV (b:=false) (aB (fun e=>ji (qJv.1 e)))) ?_;refine gA3 ?_;refine tK (zB5 a c s (s.κ k) (some ⟨a.gk k,0,none⟩) s.nc _ (hR.j5 hp.C) ((hR.k k hl).j6 hp.C) O1 hE (ya k hl) zk) ?_;rintro _ ur ⟨gc,cc,cs,rfl,nz,hU,xi⟩;have hp:=hp.join xi;clear xi;refine qA ?_;have hh:=nz.len;have sD:1≤cs.length:=by
   obtain⟨f,hf,_⟩:=nz.zero;have:=List.length_pos_of_mem hf;omega
  refine tN (cs.length-1) ?_;refine wlp (qC0 (zK (t:=252) O).1 (zK (t:=252) O).2 O O (by have:=hU.cap;omega)) (O:_=Value.slice (Ad gc) (cs.length-1) cc) ?_;refine qA ?_;have ss:c.plc=fun i=>cnt c.cl i (c.cl i):=funext zn
  obtain⟨pa,yr⟩:∃pa:Nat×Nat→List Nat,pa=fun f=>qAr c.cl (fun i=>cnt c.cl i (c.cl i)) s.S (s.κ k) f c.n:=⟨_,O⟩
  have pd:∀f,qAr c.cl c.plc s.S (s.κ k) f c.n=pa f:=fun f=>by rw[yr,ss]
  obtain⟨A,xp⟩:∃A,A=adds++wI pa (wmF X s.K k) cs:=⟨_,O⟩;have zd:AOk c.n c.cl G s (wmF X s.K) D (34*Mo) (k+1) A:=by
   rw[xp,yr];exact hA.next hI hl jg (zj k hl) nz hG
  have sq:A.length=adds.length+(cs.length-1):=by rw[xp,aY,qHr]
  have yd:A.length≤192:=by
   have:=zd.len;omega
  have s5:∀j f g,cs[j]? =some f→cs[j+1]? =some g→A[adds.length+j]? =some (pa f,wmF X s.K k*(frQ g-frQ f)):=fun j f g hf hg=>by
   rw[xp,gZ (oV _ _),pN];exact qNf _ _ _ _ _ _ hf hg
  have yk:A.take (adds.length+0)=adds:=by rw[xp,iF,List.take_left]
  obtain⟨mj,yo⟩:∃mj:Nat→List (List Nat×Rat),mj=fun j=>kE (A.take (adds.length+j)):=⟨_,O⟩
  have mz:mj 0=kE adds:=by rw[yo];exact aQ kE yk
  have s3:mj (cs.length-1)=kE A:=by
   rw[yo];show kE (A.take (adds.length+(cs.length-1)))=_
   rw[←sq,dE]
  have si:∀j f g,cs[j]? =some f→cs[j+1]? =some g→mj (j+1)=vW (mj j) (pa f) (wmF X s.K k*(frQ g-frQ f)):=fun j f g hf hg=>by
   have e:=s5 j f g hf hg;obtain⟨h1,h2⟩:=aH.1 e;rw[yo];show kE (A.take (adds.length+j+1))=_
   rw[aG h1,h2,qOq]
  have ul:∀j,(mj j).length≤192∧∀x∈mj j,G x.1∧BQ (κ+19) x.2:=fun j=>by
   have yw:(A.take (adds.length+j)).length≤192:=by rw[bV];omega
   obtain⟨_,_,_,h4,h5⟩:=qTk G (60*D) (60*(34*Mo)) _ (A.take (adds.length+j)) O (fun x hx=>zd.all x (gF hx));rw[yo];refine⟨bL h4 yw,fun x hx=>?_⟩;obtain⟨g1,_,g3⟩:=h5 x hx;exact⟨g1,wQ (M:=192*(60*(34*Mo))) O1 O1 (by rw[dW];omega) (g3.le (aL _ yw))⟩
  rw[←mz] at hp ht;refine qQ ([9,10,11,12,13,15,16,17]++range' 72 78) (fun(z:Nat×MA) F=>F.put 72 (Iv (z.1:Int)))
   (fun z w'=>z.1≤cs.length-1∧MixOk z.2 (mj z.1)∧Hp w4 [] w' ([qG eFr 255 2 (Ad gc) cc cs]++stL a.sL a.cL lv.length b4 mp z.2 (mj z.1))) (fun z=>cs.length-1-z.1) (0,ma) (qB (Same.eq .refl) O) ⟨bN _,ht,hp⟩ ?_
  clear hp ht zl ck xr s4;rintro u3 ⟨j,mb⟩ gg ⟨hj,ht,hp⟩;dsimp only at hj ht hp⊢;refine tI (fun h3=>?_) fun h3=>?_
  ·have sM:j<cs.length-1:=O1;obtain⟨f,hf⟩:∃f,cs[j]? =some f:=⟨_,aA O1⟩;obtain⟨g,hg⟩:∃g,cs[j+1]? =some g:=⟨_,aA O1⟩;have xh:=nz.fr f (aI hf);have xj:=nz.fr g (aI hg);have zg:∀{w:World} {L:List Ent},Hp w4 [] w ([qG eFr 255 2 (Ad gc) cc cs]++L)→∀j f,cs[j]? =some f→∀(i:Nat) (v:Value),(eFr f)[i]? =some v→w.cell? ⟨gc,0+j*2+i,none⟩=some v:=fun hp j f hf=>by
    obtain⟨b,o,e,hc⟩:=qZ hp 0 O hU uC j f hf;cases e;exact hc
   refine qA ?_;refine wlp (qL (vs:=eFr f) O O O O (zg hp j f hf)) (O:_=vFr f) ?_;refine tF (zE (cs:=[Iv 0,Iv 0]) (m:=2) hp (qJ O) O O) fun gh ba hp=>?_;refine qA ?_;refine tO (zH (m:=2) (o:=0) (cs:=eFr f) hp 0 O O O O (qD O) O O) fun gm hp=>?_;have hp:=hp.norm 0 (eFr f) O O;refine tL (zB4 a c s (s.κ k) (some ⟨a.gk k,0,none⟩) s.nc f _ (hR.j5 hp.C) ((hR.k k hl).j6 hp.C) O1 (fun i hi=>hI.cls.lt i hi) (fun q hq=>⟨hE q hq,hI.pos q hq⟩) (ya k hl) (fun i _=>by rw[zn i];have:=qRv c.cl (c.cl i) i;omega) xh) ?_;rintro _ gj ⟨sa,n3,rfl,yt,zu⟩;have hp:=hp.join zu;clear zu;rw[pd f] at yt hp⊢;have hp:Hp w4 [] gj ([qG eN 3 1 sa n3 (pa f),blk ba 2 (qE (eFr f)) 255,qG eFr 255 2 (Ad gc) cc cs]++stL a.sL a.cL lv.length b4 mp mb (mj j)):=hp;have zt:=zg (hp.sub (.cons _ (.cons _ (.refl _)))) (j+1) g hg;have cj:∀(i:Nat) (v:Value),(eFr f)[i]? =some v→gj.cell? ⟨ba,0+i,none⟩=some v:=hp.j3 1 O O;have su:=hp.j7 h20;have ze:∀(j:Nat) (v:Value),(eQ (wmF X s.K k))[j]? =some v→gj.cell? ⟨gW,0+1*3+k*3+j,none⟩=some v:=fun j v e=>hp.j7 (zo k hl j v e)
   obtain⟨wd,oc⟩:∃wd,wd=wmF X s.K k*(frQ g-frQ f):=⟨_,O⟩;have xf:∀f,FrF f→Ov 60 60 (frQ f):=fun f hf=>by
    refine⟨(kyF f:Int),?_,?_⟩
    ·rw[qHj hf,iK];have:((60:Nat):Rat)=60:=O;rw[this];grind
    have h1:=hf.t;unfold kyF;rcases hf.cases with e|e|e|e|e<;>rw[e]<;>rw[e] at h1<;>omega
   have y0:BQ 7 (frQ f):=wQ (D:=60) (M:=60) O2 O2 O2 (xf f xh);have xc:BQ 7 (frQ g):=wQ (D:=60) (M:=60) O2 O2 O2 (xf g xj)
   have x0:BQ 7 (frQ g-frQ f):=wQ (D:=60) (M:=60+60) O2 O2 O2 (by
    have:=qM3 (xf g xj) (qM2 (xf f xh))
    rwa[←nN] at this)
   have zr:∀w,Rk 171 [vFr g] w (QV (frQ g)):=fun w=>jVt g.1 g.2 w (bL xj.t xj.b5) xj.b5 xj.b0
   have zc:∀w,Rk 171 [vFr f] w (QV (frQ f)):=fun w=>jVt f.1 f.2 w (bL xh.t xh.b5) xh.b5 xh.b0
   have zi:=hp;clear hp;have hp:=Hp.start (M:=[]) (w:=gj);have fm:((j:Int)+1)=((j+1:Nat):Int):=O;have xa:j+1<cs.length:=O1;refine wlp qY (O:_=Value.slice sa (pa f).length n3) ?_;refine qR ?_;refine uD ([12]++range' 81 17) (fun(b3:Nat) F=>F.put 12 (.pointer (Ad b3))) (fun b3 w'=>Hp gj [] w' [blk b3 3 (qE (eQ wd)) 49]) ?_ ?_
   ·refine qCm true [0,1,2,3,4,5,6,7,8,9,10,11,12,13,14,15,16,17,18] jG O3 O (fun w'=>Hp gj [] w' []) hp.N ?_;have hp:=hp.N;refine zP ?_;apply wep;exact O;exact O;intro w hp;exact qL (vs:=eQ (wmF X s.K k)) O O O O (fun i v e=>hp.j7 (ze i v e));exact fA3 O;refine zP ?_;apply wep;exact O;exact O;intro w hp;exact qO O O;exact qF (b:=((j+1:Nat):Int)) (by rw[qK O1 O1];omega);apply wep;exact O;exact O;intro w hp;exact zA O O O O xa;exact(O:_=Value.pointer (some ⟨gc,0+(j+1)*2,none⟩));apply wep;exact O;exact O;intro w hp;exact qL (vs:=eFr g) O O O O (fun i v e=>hp.j7 (zt i v e));exact(O:_=vFr g);refine qD7 17 O O3 O O ?_ ?_
    ·skip
     refine tK (zr _) ?_;rintro _ w3 ⟨rfl,hk⟩;have hp:=hp.call hk;refine⟨hp,?_⟩;refine zP ?_;apply wep;exact O;exact O;intro w hp;exact qL (vs:=eFr f) O O O O (fun i v e=>hp.j7 (cj i v e));exact(O:_=vFr f);refine qD7 17 O O3 O O ?_ ?_
     ·skip
      refine tK (zc _) ?_;rintro _ w4 ⟨rfl,hk⟩;have hp:=hp.call hk;refine⟨hp,?_⟩;refine zP ?_;refine qD7 17 O O3 O O ?_ ?_
      ·skip
       refine tK (qKa _ xc y0 O1) ?_;rintro _ w5 ⟨rfl,hk⟩;have hp:=hp.call hk;refine⟨hp,?_⟩;refine zP ?_;refine qD7 17 O O3 O O ?_ ?_
       ·skip
        refine tK (r24 _ (xg k hl) x0 O1) ?_;rintro _ w6 ⟨rfl,hk⟩;have hp:=hp.call hk;refine⟨hp,?_⟩;refine gAd ?_;refine xO O O3 ?_ O;apply wbs;exact O;exact jK hp (qJ O);rintro _ w8 ⟨b3,rfl,hp⟩;refine⟨hp.H,?_⟩;refine zP ?_;refine xO O O3 ?_ O;apply qDu;exact O;exact qW hp 0 O O O O (qD O) O;rintro _ w9 ⟨rfl,hp⟩;refine⟨hp.H,?_⟩;have hp:=hp.norm 0 (eQ wd) O (by rw[oc];rfl);refine gAg ?_;exact⟨b3,qB O5 O,hp⟩
       skip
       apply wbs;exact O;exact jK hp (qJ O);rintro _ w8 ⟨b3,rfl,hp⟩;refine⟨hp.H,?_⟩;exact mA1
      skip
      apply wbs;exact O;exact jK hp (qJ O);rintro _ w8 ⟨b3,rfl,hp⟩;refine⟨hp.H,?_⟩;exact mAt
     skip
     apply wbs;exact O;exact jK hp (qJ O);rintro _ w8 ⟨b3,rfl,hp⟩;refine⟨hp.H,?_⟩;exact mBr
    skip
    apply wbs;exact O;exact jK hp (qJ O);rintro _ w8 ⟨b3,rfl,hp⟩;refine⟨hp.H,?_⟩;refine xO O O3 ?_ O;refine tK (zr _) ?_;rintro _ w3 ⟨rfl,hk⟩;have hp:=hp.call hk;refine⟨hp.H,?_⟩;refine zP ?_;apply wep;exact O;exact O;intro w hp;exact qL (vs:=eFr f) O O O O (fun i v e=>hp.j7 (cj i v e));exact(O:_=vFr f);exact mBr
   clear hp;rintro u4 b3 gn yf;have hp:=zi.join yf;clear yf zi su cj zt ze;obtain⟨P,hP⟩:∃P,P=pa f:=⟨_,O⟩;rw[←hP] at hp yt⊢;have yh:=si j f g hf hg;rw[←hP,←oc] at yh;have ys:=ul j;have zh:G P:=by
    rw[hP,yr];obtain⟨P0,ti,x2⟩:=hI.kF k hl;have yx:kyF g≤60:=by
     have:=xj.t;unfold kyF;rcases xj.cases with e|e|e|e|e<;>rw[e]<;>omega
    have s8:kyF f<kyF g:=by
     have h:=dP.1 nz.srt;obtain⟨hY,e1⟩:=aH.1 hf;obtain⟨oj,e2⟩:=aH.1 hg;rw[←e1,←e2];exact h j (j+1) hY oj (oT _)
    refine hG P0 _ ti qKq.1 qKq.2 fun q hq=>?_
    rw[qOn hI.cls.S hq (hI.pos q hq) (hI.S5 hq) (hI.κS hl hq) xh O1,x2 q hq]
   have y2:=hI.gs P zh;have hH:P.length≤5:=by
    have h1:P.length≤(range c.n).length:=by
     rw[hP,yr];exact rE _ _
    rw[dA] at h1;omega
   have hp:=hp.k4 eB 5 1;have hp:Hp w4 [] gn ([qG eB 5 1 none 0 (P.take 0),blk b3 3 (qE (eQ wd)) 49,qG eN 3 1 sa n3 P,blk ba 2 (qE (eFr f)) 255,qG eFr 255 2 (Ad gc) cc cs]++stL a.sL a.cL lv.length b4 mp mb (mj j)):=hp;refine qA ?_;refine qQ ([13,15]++range' 100 10) (fun(z:Nat×Option Addr×Nat) F=>(F.put 13 (.slice z.2.1 (P.take z.1).length z.2.2)).put 100 (Iv (z.1:Int)))
    (fun z w'=>z.1≤P.length∧SVL z.2.1 z.2.2 (P.take z.1)∧Hp w4 [] w' ([qG eB 5 1 z.2.1 z.2.2 (P.take z.1),blk b3 3 (qE (eQ wd)) 49,qG eN 3 1 sa n3 P,blk ba 2 (qE (eFr f)) 255,qG eFr 255 2 (Ad gc) cc cs]++stL a.sL a.cL lv.length b4 mp mb (mj j))) (fun z=>P.length-z.1) (0,none,0) (qB (qB (Same.eq .refl) O) O) ⟨bN _,SVL.nil,hp⟩ ?_
   clear hp;rintro u5 ⟨i,sf,c13⟩ h7 ⟨hi,x1,hp⟩;dsimp only at hi x1 hp⊢;refine tI (fun h4=>?_) fun h4=>?_
   ·have zm:i<P.length:=O1;obtain⟨x,hx⟩:∃x,P[i]? =some x:=⟨_,aA zm⟩;have s9:=y2.2 x (aI hx);obtain⟨bx,ox,ea,yq⟩:=qZ hp 2 O yt (fun _=>O) i x hx;have sn:h7.cell? ⟨bx,ox+i*1,none⟩=some (Iv (x:Int)):=yq 0 _ O;have eV:P.take i++[x]=P.take (i+1):=by
     obtain⟨xt,e⟩:=aH.1 hx;rw[aG xt,e]
    have so:(P.take i).length=i:=by rw[bV];omega
    refine qR ?_;refine tR (zA O O O ea zm) ?_;refine tR (qS O O sn) ?_;refine tR qY ?_;refine qR ?_;refine wlp qP (O:_=Value.slice sf (P.take i).length c13) ?_;refine tR qP ?_;refine wlp (qXw Tryz.underlying5 ⟨_,Tryz.underlying3⟩ O) (qF (b:=(x:Int)) (jM6 O1 O1)) ?_;refine qA ?_;refine tF (jC (cs:=[.int .u8 (x:Int)]) hp O O O O O O O) fun h9 nb hp=>?_;refine tFb (jV eB (P.take i) x hp 1 0 O O O O O O (fun _=>O) O O O x1 O O O1) fun hD s' c'⟨hn,hp⟩=>?_;have hp:=hp.H;have hp:Hp w4 [] hD ([qG eB 5 1 s' c' (P.take i++[x]),blk b3 3 (qE (eQ wd)) 49,qG eN 3 1 sa n3 P,blk ba 2 (qE (eFr f)) 255,qG eFr 255 2 (Ad gc) cc cs]++stL a.sL a.cL lv.length b4 mp mb (mj j)):=hp;rw[eV] at hn hp⊢;refine gA0 ?_;exact⟨(i+1,s',c'),qB O5 O,⟨by show i+1≤_;omega,hn,hp⟩,by show P.length-(i+1)<P.length-i;omega⟩
   obtain rfl:P.length=i:=O1;rw[dE] at x1 hp⊢;obtain⟨m,hm⟩:∃m,m=mj j:=⟨_,O⟩;rw[←hm] at hp ht yh ys;have bo:∀Q∈P::m.map (·.1),∀i∈Q,i<256:=fun Q hQ i hi=>by
    have sj:G Q:=by
     rcases bE.1 hQ with rfl|hQ
     ·exact zh
     obtain⟨x,hx,rfl⟩:=bD.1 hQ;exact(ys.2 x hx).1
    have:=(hI.gs Q sj).2 i hi;omega
   have hz:=jKb (P:=P) bo;have mT:Tryz.prog.underlying 192=some (.map 9 3):=O3;refine qR ?_;refine wlp qP (O:_=Value.map (some mp)) ?_;refine wlp qP (O:_=Value.slice sf P.length c13) ?_;refine wlp (qEb hp 0 O x1 O O) (O:_=Value.string (bkP P)) ?_;refine wlp (qHz (K:=kStr) (a:=bkP P) hp 6 O O O mT Tryz.underlying9 (qJ (t:=3) O)) (O:_=Value.tuple #[(mkF (m.map (·.1)) (bkP P)).getD (Iv 0),.bool (mkF (m.map (·.1)) (bkP P)).isSome]) ?_;refine qA ?_;have yi:(vW m P wd).map (·.1)=if P∈m.map (·.1) then m.map (·.1) else m.map (·.1)++[P]:=qCa P wd m
   obtain⟨hZ,yj⟩:=jIl m P wd;have sX:at1 P ((vW m P wd).map (·.1))=at1 P (m.map (·.1)):=by
    rw[yi];split
    ·rfl
    rename_i h
    rw[qL3 h,←qS5 (f:=fun x:List Nat=>x) (fun _ _ e=>e),List.map_id'];have:∀l:List (List Nat),P∉l→at1 P (l++[P])=l.length:=fun l=>by
     induction l with
     |nil=>intro _;show(if P=P then 0 else _)=0;rw[if_pos O]
     |cons x l ih=>
      intro hx;show(if x=P then 0 else at1 P (l++[P])+1)=_
      rw[if_neg (fun e=>hx (by rw[e];simp)),ih (fun hm=>hx (by simp[hm]))];rfl
    exact this _ h
   refine uD ([16]++range' 119 19) (fun(_:MA) F=>F.put 16 (Iv (at1 P (m.map (·.1)):Nat))) (fun mc w'=>SVL mc.sP mc.cP (phL mc.gp ((vW m P wd).map (·.1)))∧SVL mc.sV mc.cV (wtV m P)∧(∀q,q<((vW m P wd).map (·.1)).length→SVL (mc.gp q).1 (mc.gp q).2 (((vW m P wd).map (·.1)).getD q []))∧
    Hp w4 [] w' ([blk b3 3 (qE (eQ wd)) 49,qG eFr 255 2 (Ad gc) cc cs]++stM a.sL a.cL lv.length b4 mp mc ((vW m P wd).map (·.1)) (wtV m P))) ?_ ?_
   ·by_cases lp:P∈m.map (·.1)
    ·rw[if_pos lp] at hz yi;have xx:wtV m P=m.map (·.2):=if_pos lp;rw[hz];refine tJ ?_;refine⟨mb,qB O5 O,?_⟩;rw[yi,xx];rw[jCu] at hp;exact⟨ht.P,ht.V,ht.p,hp.sub (.cons _ (.cons_cons _ (.cons _ (.cons _ (.cons_cons _ (.refl _))))))⟩
    rw[if_neg lp] at hz yi;have xx:wtV m P=m.map (·.2)++[0]:=if_neg lp;have iz:at1 P (m.map (·.1))=m.length:=by rw[qL3 lp,aM]
    rw[hz];refine jB O ?_;refine qA ?_;refine wlp (qEb hp 0 O x1 O O) (O:_=Value.string (bkP P)) ?_;refine qA ?_;refine tO (qIy (K:=kStr) (a:=bkP P) (v:=Iv (m.length:Nat)) hp 6 O O O O mT Tryz.underlying9) fun h9 hp=>?_;obtain⟨pk,xb⟩:∃pk,pk=m.map (·.1):=⟨_,O⟩;obtain⟨wt,xk⟩:∃wt,wt=m.map (·.2):=⟨_,O⟩;have se:m.length=pk.length:=by rw[xb,aM]
    have yp:wt.length=pk.length:=by rw[xk,xb,aM,aM]
    have xq:=jK9 (pk:=m.map (·.1)) bo lp;rw[aM] at xq;have hp:Hp w4 [] h9 ([qG eB 5 1 sf c13 P,blk b3 3 (qE (eQ wd)) 49,qG eN 3 1 sa n3 P,blk ba 2 (qE (eFr f)) 255,qG eFr 255 2 (Ad gc) cc cs]++([blk b4 3 (qE (qAe mb m.length a.sL lv.length a.cL)) 45,yA kStr mp (fun k=>if k=bkP P then some (Iv (m.length:Nat)) else mkF (m.map (·.1)) k)]++qId mb m)):=hp;rw[xq] at hp;have hp:Hp w4 [] h9 ([qG eB 5 1 sf c13 P,blk b3 3 (qE (eQ wd)) 49,qG eN 3 1 sa n3 P,blk ba 2 (qE (eFr f)) 255,qG eFr 255 2 (Ad gc) cc cs]++([blk b4 3 (qE (qAe mb m.length a.sL lv.length a.cL)) 45,yA kStr mp (mkF (m.map (·.1)++[P])),qG jO 22 1 mb.sP mb.cP (phL mb.gp (m.map (·.1))),qG eQ 49 3 mb.sV mb.cV (m.map (·.2))]++lm (m.map (·.1)).length (wR mb.gp (m.map (·.1))))):=hp;have ue:=ht.P;have hL:=ht.V;have hK:=ht.p;have s6:=ys.1;rw[yi,xx];rw[←xb,←xk,se] at hp;rw[←xb] at ue hK⊢;rw[←xk] at hL⊢;rw[se] at s6;have zz:at1 P pk=pk.length:=by rw[xb,iz,←xb,se]
    rw[zz];refine qA ?_;refine tF (jC (cs:=[.slice sa P.length n3]) hp O O O O O O O) fun hD nb hp=>?_;refine tFb (jV jO (phL mb.gp pk) (sa,P.length,n3) hp 8 0 O O O O O O (fun _=>O) (by rw[qQr];rfl) O O ue O O (by rw[qQr];omega)) fun hF sc ca⟨xy,hp⟩=>?_;have hp:=hp.H;have yv:(phL mb.gp pk++[(sa,P.length,n3)]).length=pk.length+1:=by rw[aY,qQr];rfl
    rw[yv];refine tT fun hS hp=>?_;have hp:=hp.norm 5 [.slice sc (pk.length+1) ca,.slice mb.sV pk.length mb.cV,.slice a.sL lv.length a.cL] O O;have hp:Hp w4 [] hS ([qG eB 5 1 sf c13 P,blk b3 3 (qE (eQ wd)) 49,qG eN 3 1 sa n3 P,blk ba 2 (qE (eFr f)) 255,qG eFr 255 2 (Ad gc) cc cs]++([blk b4 3 (qE [.slice sc (pk.length+1) ca,.slice mb.sV pk.length mb.cV,.slice a.sL lv.length a.cL]) 45,yA kStr mp (mkF (pk++[P])),qG jO 22 1 sc ca (phL mb.gp pk++[(sa,P.length,n3)]),qG eQ 49 3 mb.sV mb.cV wt]++lm pk.length (wR mb.gp pk))):=hp;have q1:=hp;have cm:hS.cell? ⟨b4,0+1,none⟩=some (.slice mb.sV pk.length mb.cV):=hp.cell 5 O O;have aa:b4∉zG [qG eQ 49 3 mb.sV mb.cV wt]:=hp.k7 (i:=8) O (j:=5) O O1 O;have hp:=q1.k6 8 O;refine qR ?_;refine xL 6 O jG O3 (fun w'=>Keeps (zG [qG eQ 49 3 mb.sV mb.cV wt]) hS w') hp.N.C ?_;have hp:=hp.N;refine qX ?_;apply wdp;exact O;intro w hk;exact qS O O (hk.cell cm aa);exact(O:_=Value.slice mb.sV pk.length mb.cV);refine tG (wM _) fun hJ hp=>?_;apply wds;exact O;exact jC (cs:=eQ 0) hp O O O O O O O;rintro _ yu ⟨nb2,rfl,hp⟩;refine⟨hp.C,?_⟩;apply wds;exact O;exact jV eQ wt 0 hp 1 0 O O O O O O jT (by rw[yp];rfl) O O hL O O (by rw[yp];omega);rintro _ yl ⟨sd,ce,rfl,xn,hp⟩;refine⟨hp.C,?_⟩;have xl:(wt++[0]).length=pk.length+1:=by rw[aY,yp];rfl
    rw[xl];have hp:=hp.H;have hp:Hp hS _ yl [qG eQ 49 3 sd ce (wt++[0])]:=hp;refine gAf ?_;have hp:=q1.j8 8 O hp;refine StepF.mono (jD hp 5 O O O O (qD O) O) ?_;rintro _ x3 ⟨rfl,hp⟩;have hp:=hp.norm 5 [.slice sc (pk.length+1) ca,.slice sd (pk.length+1) ce,.slice a.sL lv.length a.cL] O O;have hp:Hp w4 [] x3 ([qG eB 5 1 sf c13 P,blk b3 3 (qE (eQ wd)) 49,qG eN 3 1 sa n3 P,blk ba 2 (qE (eFr f)) 255,qG eFr 255 2 (Ad gc) cc cs]++([blk b4 3 (qE [.slice sc (pk.length+1) ca,.slice sd (pk.length+1) ce,.slice a.sL lv.length a.cL]) 45,yA kStr mp (mkF (pk++[P])),qG jO 22 1 sc ca (phL mb.gp pk++[(sa,P.length,n3)]),qG eQ 49 3 sd ce (wt++[0])]++lm pk.length (wR mb.gp pk))):=hp;rw[←qTd] at hp xy;have zp:(pk++[P]).length=pk.length+1:=by rw[aY];rfl
    have hp:Hp w4 [] x3 ([blk b3 3 (qE (eQ wd)) 49]++([qG eN 3 1 sa n3 P]++([qG eFr 255 2 (Ad gc) cc cs,blk b4 3 (qE [.slice sc (pk.length+1) ca,.slice sd (pk.length+1) ce,.slice a.sL lv.length a.cL]) 45,yA kStr mp (mkF (pk++[P])),qG jO 22 1 sc ca (phL (gpN mb.gp pk.length sa n3) (pk++[P])),qG eQ 49 3 sd ce (wt++[0])]++lm pk.length (wR mb.gp pk)))):=hp.sub (.cons _ (.cons_cons _ (.cons_cons _ (.cons _ (.refl _)))));have hp:=hp.perm (rG _ eP);rw[bQ,←jAp,←zp] at hp;refine qA ?_;refine⟨⟨gpN mb.gp pk.length sa n3,sc,ca,sd,ce⟩,qB O5 (by rw[se];rfl),xy,xn,fun q hq=>?_,hp⟩;show SVL (gpN mb.gp pk.length sa n3 q).1 (gpN mb.gp pk.length sa n3 q).2 ((pk++[P]).getD q [])
    rw[zp] at hq;rcases dJ.1 hq with h|rfl
    ·have e2:gpN mb.gp pk.length sa n3 q=mb.gp q:=if_neg O1;rw[e2,qCe h];exact hK q h
    have e2:gpN mb.gp pk.length sa n3 pk.length=(sa,n3):=if_pos O;rw[e2,qMo];exact yt
   clear hp x1;rintro u6 ⟨gb,sh,cg,sF,cf⟩ h9 ⟨ue,hL,hK,hp⟩;dsimp only at ue hL hK hp;have xe:(vW m P wd).map (·.2)=(wtV m P).set (at1 P (m.map (·.1))) ((wtV m P).getD (at1 P (m.map (·.1))) 0+wd):=(qX3 P wd m).symm;obtain⟨wt,xk⟩:∃wt,wt=wtV m P:=⟨_,O⟩;obtain⟨aq,yz⟩:∃aq,aq=at1 P (m.map (·.1)):=⟨_,O⟩;obtain⟨pk,xb⟩:∃pk,pk=(vW m P wd).map (·.1):=⟨_,O⟩;obtain⟨y,hy⟩:∃y,y=wt.getD aq 0:=⟨_,O⟩;have uk:BQ (κ+19) y:=by
    rw[hy,xk];rcases jIk (m:=m) (P:=P) (j:=aq) with e|⟨x,hx,e⟩
    ·rw[e];exact BQ.zero O1
    rw[←e];exact(ys.2 x hx).2
   have sx:BQ (κ+6+7) wd:=by
    rw[oc];exact BQ.mul (xg k hl) x0
   rw[←xk,←yz] at yj;rw[←xk] at hL hp hZ;rw[←xk,←yz] at xe;rw[←hy] at xe;rw[←xb] at ue hK hp;have yp:wt.length=pk.length:=by rw[hZ,xb,aM]
   have s7:aq<pk.length:=O1;have z1:wt[aq]? =some y:=by
    rw[hy,aC,aA yj];rfl
   obtain⟨gV,rfl⟩:=hL.addr (fun e=>by rw[e] at yj;simp at yj);rw[←yz];have hp:Hp w4 [] h9 ([blk b3 3 (qE (eQ wd)) 49,qG eFr 255 2 (Ad gc) cc cs,blk b4 3 (qE [.slice sh pk.length cg,.slice (Ad gV) pk.length cf,.slice a.sL lv.length a.cL]) 45,yA kStr mp (mkF pk),qG jO 22 1 sh cg (phL gb pk),qG eQ 49 3 (Ad gV) cf wt]++lm pk.length (wR gb pk)):=hp;refine qR ?_;refine jU jG O3 (fun w'=>Hp w4 [] w' ([blk b3 3 (qE (eQ wd)) 49,qG eFr 255 2 (Ad gc) cc cs,blk b4 3 (qE [.slice sh pk.length cg,.slice (Ad gV) pk.length cf,.slice a.sL lv.length a.cL]) 45,yA kStr mp (mkF pk),qG jO 22 1 sh cg (phL gb pk),qG eQ 49 3 (Ad gV) cf wt]++lm pk.length (wR gb pk))) hp.N ?_;have hp:=hp.N;refine qX ?_
   (apply wdp;exact O;(intro w hp;exact qL (vs:=eQ y) O O O O (fun i v e=>by
    obtain⟨b,o,e2,hc⟩:=qZ hp 5 O hL jT aq y z1;cases e2
    exact hc i v e));exact fA3 O)
   refine tP (fun w hp=>qL (vs:=eQ wd) O O O O (hp.j3 0 O O)) ?_;refine tG (r44 _ uk sx O1) fun hD hp=>?_;refine qX ?_;apply xH;exact O;exact O;exact vL eQ wt aq (y+wd) hp 5 O hL yj O O jT O O (qD O);rintro _ hF ⟨rfl,hp⟩;refine qU ?_;have hp:Hp w4 [] hF ([blk b3 3 (qE (eQ wd)) 49]++([qG eFr 255 2 (Ad gc) cc cs]++stM a.sL a.cL lv.length b4 mp ⟨gb,sh,cg,Ad gV,cf⟩ pk (wt.set aq (y+wd)))):=hp;have hp:=hp.H;rw[←xe,xb,←jCu,←yh] at hp;have xn:=jZ (l':=wt.set aq (y+wd)) hL (by rw[fZ]);rw[←xe,←yh] at xn;rw[xb,←yh] at ue hK;refine gA8 ?_;exact⟨(j+1,⟨gb,sh,cg,Ad gV,cf⟩),qB O5 O,⟨by show j+1≤_;omega,⟨ue,xn,hK⟩,hp⟩,by show cs.length-1-(j+1)<cs.length-1-j;omega⟩
  obtain rfl:cs.length-1=j:=O1;rw[s3] at hp ht;have hp:=hp.H;refine gA0 ?_;exact⟨(k+1,A,mb),qB O5 O,⟨by show k+1≤_;omega,zd,ht,hp⟩,by show s.K-(k+1)<s.K-k;omega⟩
 obtain rfl:s.K=k:=O1;obtain⟨m,hm⟩:∃m,m=kE adds:=⟨_,O⟩;rw[←hm] at hp ht;have hp:=h8.join hp;have hp:Hp W M w8 ([blk b4 3 (qE (qAe ma m.length a.sL lv.length a.cL)) 45,yA kStr mp (mkF (m.map (·.1)))]++(qId ma m++([blk b3 3 (qE (eQ (1-sm s.K fun k=>X (k+1)))) 49,blk b2 3 (qE [Zs,Zs,Zs]) 45]++([qG eQ 49 3 (Ad gW) cW (lm (s.K+1) X')]++frL a c s (lvE c.cl lv))))):=hp;have cn:∀(i:Nat) (v:Value),(qAe ma m.length a.sL lv.length a.cL)[i]? =some v→w8.cell? ⟨b4,0+i,none⟩=some v:=hp.j3 0 O O;have hp:=hp.H.H;have hp:=hp.perm (eP (l₁:=qId ma m));refine qR ?_;refine wlp (qL (vs:=qAe ma m.length a.sL lv.length a.cL) O O O O cn) (O:_=Value.agg (qAe ma m.length a.sL lv.length a.cL).toArray) ?_;have hp:Hp W M w8 ([blk b3 3 (qE (eQ (1-sm s.K fun k=>X (k+1)))) 49,blk b2 3 (qE [Zs,Zs,Zs]) 45]++(([qG eQ 49 3 (Ad gW) cW (lm (s.K+1) X')]++frL a c s (lvE c.cl lv))++qId ma m)):=hp;refine tS fun w9 hp=>?_;have hp:=hp.norm 1 (qAe ma m.length a.sL lv.length a.cL) O O;refine qA ?_;have lj:Hp W M w9 ([blk b3 3 (qE (eQ (1-sm s.K fun k=>X (k+1)))) 49,blk b2 3 (qE (qAe ma m.length a.sL lv.length a.cL)) 45]++(([qG eQ 49 3 (Ad gW) cW (lm (s.K+1) X')]++frL a c s (lvE c.cl lv))++qId ma m)):=hp;have xw:Hp W M w9 (([qG eQ 49 3 (Ad gW) cW (lm (s.K+1) X')]++frL a c s (lvE c.cl lv))++qId ma m):=lj.H.H;exact zJ O O O O (hp.j4 1 O O) ⟨_,O,ma,adds,D,Mo,cW,lm (s.K+1) X',by rw[←hm];rfl,hM,h6,hMo,hA,by rw[←hm];exact ht,by rw[←hm];exact xw.perm eP⟩
end Go.Proofs.YtplkndjlfkkjlaaGreatDoor
namespace Go.Qu
open List (range range' replicate)
theorem PF.congr{n size:Nat}{q:List (Int×Int)}{f g:Nat→Nat→Bool}{P:List Nat}(h:∀i k,i<n→f i k=g i k)(hP:PF n q f size P):PF n q g size P:=by
 refine⟨hP.srt,hP.lt,hP.len,fun k lh hk=>?_⟩;have e:_=P.countP (fun i=>f i k):=sA5 fun i hi=>by rw[h i k (hP.lt i hi)]
 rw[e];exact hP.quo k lh hk
end Go.Qu
namespace Go.Proofs.YtplkndjlfkkjlaaGreatDoor
open List (range range' replicate)
open Tryz
section
open Go.Eng Go.Dig Go.Lp Go.Qu
variable{d:DW}{l:List EW}
theorem qPa{T:List Nat}:(qOf d l (range l.length)).Cmp (st0 d) T↔FsP d l T:=by
 have hr:∀i,i<l.length→(range l.length).getD i 0=i:=fun i hi=>by
  grind
 have h:=qHn (n:=(range l.length).length) (q:=(qOf d l (range l.length)).q) (inn:=fun i k=>inB d (l.getD i default) k) (ord:=fun i=>(range l.length).getD i 0) (size:=d.sz.toNat) (m:=12) T;refine Iff.trans h ?_;rw[dA];exact⟨fun h=>h.congr fun i k hi=>by grind,fun h=>h.congr fun i k hi=>by grind⟩
def sr0(d:DW)(l:List EW):Sr:={nc:=(ksF (xT d l) l.length).length,S:=cnt (clF (xT d l)) l.length,K:=0,κ:=fun _ _=>0,dec:=fun _=>false,p:=fun _=>0}
theorem zD8{P:List Nat}(hP:FsP d l P)(hn:l.length≤5):Inv l.length (clF (xT d l)) (FsP d l) (sr0 d l) ((sr0 d l).o4 (jX (clF (xT d l)) P)) []:=by
 refine⟨hn,qMj _,⟨fun i hi=>qHp hi,fun _ _=>O,fun P hP=>⟨⟨P,hP,fun _ _=>O⟩,hP.lt⟩,fun κ ⟨P,hP,e⟩=>⟨P,hP,e⟩⟩,fun c hc=>?_,fun P hP=>⟨hP.srt,hP.lt⟩,bM 1,fun k hk=>⟨P,hP,fun c _=>?_⟩,fun j k hj hk=>?_,⟨0,_,⟨mX,fun _ _=>mX,?_,fun c hc=>?_⟩,fun u hu=>by cases hu⟩,⟨1,1,O2,O2,?_,fun c _ h=>by cases h⟩,bN _,⟨O,O,O,O⟩,fun x hx=>by cases hx⟩
 ·obtain⟨i,hi,e⟩:=jPe hc;exact qZh i hi e
 ·have hk:k<1:=hk;obtain rfl:k=0:=O1;exact(congrFun (if_pos O:(if 0=0 then jX _ P else fun _=>0)=_) c).symm
 ·have hk:k<1:=hk;omega
 ·show 0+0≤1
  grind
 ·show((cnt _ _ c):Rat)*0≤0+0*_
  grind
 have:0<csF 0:=O2
 exact Nat.one_lt_two_pow (by
  grind)
end
open Go.Eng Go.Dig Go.Lp Go.Qu
def wL(o:Option (Nat×Nat×(Nat→Rat)×Rat))(s:Sr):List Ent:=match o with
 |none=>[]
 |some (gW,cW,X,_)=>[qG eQ 49 3 (Ad gW) cW (lm (s.K+1) X)]
structure LvI(d:DW)(l:List EW)(c:FrS)(fb:Nat)(a:FrA)(s:Sr)(lv:List (Rat×(Nat→Rat)))(o:Option (Nat×Nat×(Nat→Rat)×Rat)):Prop where
 fb:a.fb=fb
 ok:FrOk a c s (lvE c.cl lv)
 inv:Go.Lp.Inv l.length (clF (xT d l)) (FsP d l) (sr0 d l) s lv
 nc:s.nc=(sr0 d l).nc
 no:o=none→s.nd=0
 yes:∀gW cW X v,o=some (gW,cW,X,v)→(s.W v fun k=>X (k+1))∧OvB 5712200000 (s.K+1) X∧SVL (Ad gW) cW (lm (s.K+1) X)∧a.sW=some ⟨gW,0+1*3,none⟩∧a.nW=s.K
structure MxR(d:DW)(s:Option Addr)(cE:Nat)(l:List EW)(ma:MA)(adds:List (List Nat×Rat))(a:FrA)(c:FrS)(s0 sF:Sr)(lv:List (Rat×(Nat→Rat)))(X:Nat→Rat)(v0:Rat)(D Mo:Nat):Prop where
 cd:c=⟨d,s,cE,l.length,clF (xT d l),fun i=>cnt (clF (xT d l)) i (clF (xT d l) i)⟩
 hs0:s0=sr0 d l
 inv:Go.Lp.Inv l.length (clF (xT d l)) (FsP d l) s0 sF lv
 dec:∀c,c<sF.nc→sF.dec c=true
 W:sF.W v0 fun k=>X (k+1)
 D0:0<D
 DM:D≤Mo
 hMo:Mo<2^5712200000
 ad:AOk l.length (clF (xT d l)) (FsP d l) sF (wmF X sF.K) D (34*Mo) sF.K adds
 mix:MixOk ma (kE adds)
 fr:FrOk a c sF (lvE c.cl lv)
attribute [local irreducible] PV StepF wpl wpd WP Ret
attribute [local irreducible] Fit csF
set_option maxRecDepth 20000 in
set_option maxHeartbeats 8000000 in
theorem r32(d:DW)(s:Option Addr)(cE:Nat)(l:List EW)(W:World)(hD:DE d s l W)(oi:d.kd=3)(hz:0<d.sz)(hn:l.length≤5):
  Rt 32 [d.v,.slice s l.length cE] W (fun v w'=>((∀P,¬FsP d l P)∧v= .tuple #[.agg #[Zs,Zs,Zs],Iv 16]∧Keeps [] W w')∨
   ∃ma adds a c s0 sF lv X v0 D Mo,MxR d s cE l ma adds a c s0 sF lv X v0 D Mo∧v= .tuple #[.agg (qAe ma (kE adds).length a.sL lv.length a.cL).toArray,Iv 0]∧Hp W [] w' (qId ma (kE adds)++frL a c sF (lvE c.cl lv))):=by
 have hy:=hD.lq;have yw:=hD.le;refine tW func32 ntmps32 fun hp=>?_;refine qR ?_;refine tQ fun w1 b2 hp=>?_;have hp:=hp.norm 0 d.L O O;refine tQ fun w2 b4 hp=>?_;have hp:Hp W [] w2 [blk b4 3 _ 45,blk b2 13 _ 28]:=hp;have ca:w2.cell? ⟨b2,0+1,_⟩=some (.int _ _):=hp.cell 1 O O;rw[oi] at ca;refine qA ?_;refine xI O O1 (fun _=>?_);have cq:w2.cell? ⟨b2,0+11,_⟩=some (.slice _ _ d.cQ):=hp.cell 1 O O;have d1:decide ((l.length:Int)>40)=_:=aB O1;have d2:decide ((d.Q.length:Int)>12)=_:=aB O1;refine jL ?_;rw[d1];refine jL ?_;rw[d2];refine jL ?_;refine qN O ?_;refine qR ?_;refine wlp (qL O O O O (hp.j3 1 O O)) (O:_=d.v) ?_;refine tL (r95 d s cE l _ (hD.j5 hp.C) oi O1) ?_;rintro _ w3 ⟨ox,h8⟩;have hp:=hp.call ox;rcases h8 with⟨j0,rfl⟩|⟨x,hyes,rfl,hcmp,hvx,hsx⟩
 ·have j0:∀P,¬FsP d l P:=fun P hP=>by
   have:=qMn.2 ⟨P,qPa.2 hP⟩;grind
  refine qA (jB O ?_);refine qR ?_;refine wlp (qB6 Tryz.underlying45 (qJ O) O (fun w=>O3) (by rw[vH];exact(O:Instr.fill ((#[(0,1),(1,1),(2,1)]:Array (Nat×Nat))[·]?) #[Zs,Zs,Zs] []=some #[Zs,Zs,Zs]))) O (tS fun w4 hp=>?_);refine qA ?_;exact yP O O O O O (hp.j4 0 O O) ⟨_,O,.inl ⟨j0,O,hp.C⟩⟩
 have hP:=qPa.1 hcmp;refine qA ?_;refine qN O ?_;refine qR ?_;refine wlp (qL O O O O (hp.j3 1 O O)) (O:_=d.v) ?_;refine tL (r96 d s cE l _ (hD.j5 hp.C)) ?_;rintro _ w4 ⟨fb,sC,cC,sP,cP,sS,cS,gD,gX,rfl,hK,ue,hE,hS,h6,hM⟩;have xa:=hsx.j6 hM.C;have hp:=hp.join hM;clear hM;have hp:=(hp.k4 eLH 204 4).k4 jO 22 1;obtain⟨c,hc⟩:∃c:FrS,c=⟨d,s,cE,l.length,clF (xT d l),fun i=>cnt (clF (xT d l)) i (clF (xT d l) i)⟩:=⟨_,O⟩;obtain⟨a,ha⟩:∃a:FrA,a=⟨fb,sC,cC,sP,cP,sS,cS,gD,gX,none,0,fun _=>0,none,0,0,none,0,fun _=>(none,0)⟩:=⟨_,O⟩;have ok:FrOk a c (sr0 d l) []:=by
  rw[hc,ha];exact⟨hK,ue,hE,SVL.nil,hS,h6,SVL.nil,fun j hj=>absurd hj (gT j),fun j hj=>absurd hj (gT j)⟩
 have hp:Hp W [] w4 ([blk b4 3 (qE [Zs,Zs,Zs]) 45,blk b2 13 (qE d.L) 28]++frL a c (sr0 d l) []):=by
  rw[hc,ha];exact hp.k5 [8,9,4,5,6,7,0,3,2,1] _ O2 O
 have xi:a.fb=fb:=by rw[ha]
 have hx:c.n=l.length:=by rw[hc]
 have bA:c.cl=clF (xT d l):=by rw[hc]
 have gz:c.d=d:=by rw[hc]
 have hg:∀i,i<c.n→c.cl i<(sr0 d l).nc:=fun i hi=>by
  rw[bA];exact qHp O1
 have hQ:=hp;clear ha;subst xi;have hp:=hQ;clear hQ;have xl:(sr0 d l).nc≤_:=qMj _;refine jZb ?_;have hh:=Hp.l5 hp
 have xj:=r97 a c (sr0 d l) [] x.2.2 x.1 x.2.1 _ w4 ok hh xa (fun i hi=>by rw[hx];exact hP.lt i hi) hg O1 (by
  have h2:x.2.2.length≤l.length:=by
   have h3:∀n (P:List Nat),P.Pairwise (·<·)→(∀i∈P,i<n)→P.length≤n:=fun n P h1 h2=>by
    have h4:=(dZ.2 (h1.imp fun h=>O1));have h5:=nF h4 (fun i hi=>aO.2 (h2 i hi));grind
   exact h3 _ _ hP.srt hP.lt
  omega) (bN _)
 refine tK xj ?_;rintro _ w5 ⟨sK,cK,gk,ok,lj⟩;have hp:=Hp.back hp lj;obtain⟨a1,hJ⟩:∃a1:FrA,a1={a with sK:=sK,cK:=cK,gk:=gk}:=⟨_,O⟩;rw[←hJ] at ok hp;obtain⟨s1,hm⟩:∃s1,s1=(sr0 d l).o4 (jX c.cl x.2.2):=⟨_,O⟩;rw[←hm] at ok hp;have hY:a1.fb=a.fb:=by rw[hJ]
 have hI:Go.Lp.Inv l.length (clF (xT d l)) (FsP d l) (sr0 d l) s1 []:=by
  rw[hm,bA];exact zD8 hP hn
 clear lj hh xj;refine tD (wM _) fun w6 hp=>?_;refine tF (jC (cs:=eQ 0) hp O O O O O O O) fun w7 nb hp=>?_;refine qA ?_;refine tO (jD hp 3 (by rw[hY];rfl) O O O (qD O) O) fun w8 hp=>?_;obtain⟨a2,mf⟩:∃a2:FrA,a2={a1 with sW:=Ad nb,nW:=1,cW:=1}:=⟨_,O⟩;have hp:=hp.norm 3 (a2.C c _ _ 0) O (by rw[mf];rfl);have hp:Hp W [] w8 ([blk b4 3 (qE [Zs,Zs,Zs]) 45,blk b2 13 (qE d.L) 28]++(wL none s1++frL a2 c s1 (lvE c.cl []))):=by
  have hp:=hp.H;rw[mf] at hp⊢;exact hp
 have xh:FrOk a2 c s1 (lvE c.cl []):=by
  exact mE9
 have hV:s1.nc=(sr0 d l).nc:=by rw[hm];rfl
 have xe:s1.nd=0:=by
  unfold Sr.nd;rw[hm];show(range _).countP (fun _=>false)=0
  simp
 refine qA ?_;refine qQ (range' 43 7) (fun _ F=>F)
  (fun z w'=>LvI d l c a.fb z.1 z.2.1 z.2.2.1 z.2.2.2∧Hp W [] w' ([_,_]++(wL z.2.2.2 z.2.1++frL z.1 c z.2.1 (lvE c.cl z.2.2.1)))) (fun z=>z.2.1.nc-z.2.1.nd) (a2,s1,[],none) (Same.eq .refl) ⟨⟨by grind,xh,hI,hV,fun _=>xe,fun _ _ _ _ e=>by cases e⟩,hp⟩ ?_
 clear hp xh hI ok;rintro u ⟨a3,s3,lv,o⟩ w9 ⟨hL,hp⟩;dsimp only at hL hp⊢;have h9:=hp.sub (List.Sublist.append (nV _) (bZ _ _));have hR:=FrR.of (by rw[bH];exact h9.H.H) hL.ok;have h18:=hR.h18;rw[hL.fb] at h18;refine qA ?_;have hF:=r98 _ _ s3.nc false w9 hR.D (by rw[qT];have:=hL.nc;omega);rw[qT] at hF;refine tK hF ?_;rintro _ ur ⟨rfl,hH⟩;have hp:=hp.call hH;have h9:=h9.call hH;refine tI (fun h=>?_) fun h=>?_
 ·have hu:∃k,k<s3.nc∧s3.dec k=false:=by
   obtain⟨k,hk,e⟩:=bD.1 h;exact⟨k,aO.1 hk,e⟩
  have hh:=Hp.l5 h9;have xb:∀w',Keeps (zG (frL a3 c s3 (lvE c.cl lv))) ur w'→DE c.d c.sE l w':=fun w' hk=>by
   have h1:=hD.j5 (h9.C.trans hk (fun k hk=>.inl (by
    obtain⟨q,hq,e⟩:=List.mem_filterMap.1 hk;obtain⟨i,hi⟩:=fG (aU [blk b4 3 (qE [Zs,Zs,Zs]) 45,blk b2 13 (qE d.L) 28] hq);obtain⟨q1,q2⟩:=q;subst e
    exact(h9.p6 hi).1)))
   grind
  have hU:=r99 a3 c l (sr0 d l) s3 lv _ ur hL.ok hh xb hx (by grind) (by grind) (by rw[bA,gz];exact hL.inv) hu;rw[hL.fb] at hU;refine tL hU ?_;rintro _ gg ⟨a4,s4,la,gW,cW,X,v,xc,oa,xk,xg,hZ,xt,xo,gY,xq,xp,xr,lj⟩;have hp:=Hp.back h9 lj;clear lj hh h9;refine qA ?_;have xn:s4.nd≤s4.nc:=by
   unfold Sr.nd;have:=lJ (p:=s4.dec) (l:=range s4.nc);rwa[dA] at this
  exact⟨(a4,s4,la,some (gW,cW,X,v)),Same.eq (by repeat(first|exact Same.l7|exact Same.refl|refine Same.put O ?_|refine Same.x9 O ?_)),⟨⟨xc,oa,by grind,hZ.trans hL.nc,fun e=>(by cases e),fun gb ci X' v' e=>(by
   grind)⟩,hp⟩,by grind⟩
 have fs:∀k,k<s3.nc→s3.dec k=true:=fun k hk=>by
  cases e:s3.dec k with
  |true=>rfl
  |false=>exact absurd (bD.2 ⟨k,aO.2 hk,e⟩) h
 have xf:0<s3.nc:=by
  rw[hL.nc];have hl:=hP.len;obtain⟨i,hi⟩:∃i,i∈x.2.2:=List.exists_mem_of_length_pos O1;have:clF (xT d l) i<(sr0 d l).nc:=qHp (hP.lt i hi);omega
 obtain⟨gW,cW,X,v,rfl⟩:∃gW cW X v,o=some (gW,cW,X,v):=by
  cases o with
  |none=>
   have h0:=hL.no O;have h1:s3.nd=s3.nc:=by
    unfold Sr.nd;rw[List.countP_eq_length.2 (fun k hk=>fs k (aO.1 hk)),dA]
   omega
  |some y=>grind
 obtain⟨hW,hX,xv,yg,ye⟩:=hL.yes _ _ _ _ O;have hp:Hp W [] _ (_++([_]++_)):=hp;have hh:=Hp.l5 hp
 have hT:=zBo a3 c (FsP d l) (sr0 d l) s3 lv gW cW X v _ ur hL.ok hh xv yg ye (by rw[hx,bA];exact hL.inv) hW hX (fun i=>by rw[hc]) (fun P P' h1 h2 h3 h4=>by
  rw[hx] at h3;exact PF.kind (nc:=s3.nc) (cl:=clF (xT d l)) h1 h2 h3 (fun i hi=>by rw[hL.nc];exact qHp hi) (by grind) fun i j hi hj e k hk=>jKp (jTk.1 e) (by grind))
 rw[hL.fb] at hT;refine tL hT ?_;rintro _ gg ⟨ma,adds,D,Mo,ci,Z,rfl,h7,ht,hMo,hA,xd,lj⟩;have hp:=Hp.back hp lj;clear lj hh;refine tS fun gh hp=>?_;have hp:=hp.norm 0 (qAe ma _ _ _ _) O O;refine qA ?_;have lj:Hp W [] _ ([_,_]++_):=hp;have xw:Hp W [] _ (qId ma _++_):=lj.H.H;rw[hx,bA] at hA;exact yP O O O O O (hp.j4 0 O O) ⟨_,O,.inr ⟨ma,adds,a3,c,sr0 d l,s3,lv,X,v,D,Mo,⟨hc,O,hL.inv,fs,hW,h7,ht,hMo,hA,xd,hL.ok⟩,O,xw.sub (List.Sublist.append (nV _) (bZ _ _))⟩⟩
end Go.Proofs.YtplkndjlfkkjlaaGreatDoor
namespace Go.Lp
open List (range range' replicate)
open Go.Qu
def qLa:Nat→List (List Nat)
 |0=>[[]]
 |n+1=>qLa n++(qLa n).map (·++[n])
theorem qDl:∀(n:Nat) (P:List Nat),P.Pairwise (·<·)→(∀i∈P,i<n)→P∈qLa n
 |0,P,_,h=>by
  cases P with
  |nil=>simp[qLa]
  |cons x P=>exact absurd (h x O4) (gT x)
 |n+1,P,hs,h=>by
  show P∈qLa n++(qLa n).map (·++[n])
  rcases iV P with rfl|⟨Q,x,rfl⟩
  ·exact dB _ (qDl n [] List.Pairwise.nil (fun i hi=>by cases hi))
  rw[mM] at hs h⊢;have hj:=eY.1 hs;have hx:x<n+1:=h x O4;rcases dJ.1 hx with hl|rfl
  ·refine dB _ (qDl n _ hs fun i hi=>?_);rcases fO.1 hi with hi|hi
   ·have:=hj.2.2 i hi x O4;omega
   have:i=x:=by simpa using hi
   omega
  exact aU _ (bD.2 ⟨Q,qDl x Q hj.1 (fun i hi=>hj.2.2 i hi x O4),O⟩)
theorem jEs{α:Type}(G:α→Prop)(f:α→Rat):∀(L:List α),(∃x∈L,G x)→∃x∈L,G x∧∀y∈L,G y→f y≤f x
 |[],⟨x,hx,_⟩=>by cases hx
 |a::L,hex=>by
  by_cases hL:∃x∈L,G x
  ·obtain⟨x,hx,hg,hm⟩:=jEs G f L hL;by_cases ha:G a∧f x<f a
   ·refine⟨a,O4,ha.1,fun y hy fc=>?_⟩;rcases bE.1 hy with rfl|hy
    ·exact mX
    exact pZ (hm y hy fc) (sAg ha.2)
   refine⟨x,by simp[hx],hg,fun y hy fc=>?_⟩;rcases bE.1 hy with rfl|hy
   ·exact sBl.1 fun h=>ha ⟨fc,h⟩
   exact hm y hy fc
  obtain⟨x,hx,hg⟩:=hex;have l1:x=a:=(bE.1 hx).resolve_right fun h=>hL ⟨x,h,hg⟩
  subst l1;refine⟨x,O4,hg,fun y hy fc=>?_⟩;rcases bE.1 hy with rfl|hy
  ·exact mX
  exact absurd ⟨y,hy,fc⟩ hL
theorem qPf{G:List Nat→Prop}{n:Nat}(hG:∀P,G P→P.Pairwise (·<·)∧∀i∈P,i<n)(y:Nat→Rat){P:List Nat}(hP:G P):ps y P≤vU G y:=by
 obtain⟨B,_,hB,hm⟩:=jEs G (ps y) (qLa n) ⟨P,qDl n P (hG P hP).1 (hG P hP).2,hP⟩;have hb:∀P',G P'→ps y P'≤ps y B:=fun P' h=>hm P' (qDl n P' (hG P' h).1 (hG P' h).2) h
 rw[qJn hB hb];exact hb P hP
theorem jDb{F:(Nat→Nat)→Prop}{s':Sr}:∀{ls:List (Rat×(Nat→Rat))} {s:Sr} {last:Option Rat},s.run F ls last s'→s'.nc=s.nc
 |[],_,_,h=>h.nc.symm
 |(_,_)::_,_,_,h=>(jDb h.2.2).trans O
end Go.Lp
namespace Go.Proofs.YtplkndjlfkkjlaaGreatDoor
open List (range range' replicate)
open Tryz
section
open Go.Eng Go.Dig Go.Lp Go.Qu
variable{d:DW}{s:Option Addr}{cE:Nat}{l:List EW}{ma:MA}{adds:List (List Nat×Rat)}{a:FrA}{c:FrS}{s0 sF:Sr}{lv:List (Rat×(Nat→Rat))}{X:Nat→Rat}{v0:Rat}{D Mo:Nat}
theorem MxR.mx(h:MxR d s cE l ma adds a c s0 sF lv X v0 D Mo):
  (∀i,jE (kE adds) i=jE adds i)∧qAi (kE adds)=1∧((kE adds).map (·.1)).Nodup∧(kE adds).length≤192∧∀x∈kE adds,FsP d l x.1∧0<x.2∧Ov (60*D) (192*(60*(34*Mo))) x.2:=by
 have hl:adds.length≤192:=by
  have h1:=h.ad.len;have h2:=h.inv.K32;omega
 obtain⟨h1,h2,h3,h4,h5⟩:=qTk (FsP d l) (60*D) (60*(34*Mo)) _ adds O h.ad.all;refine⟨h1,?_,h3,bL h4 hl,fun x hx=>?_⟩
 ·rw[h2,h.ad.sum];exact jIo h.inv.K1
 obtain⟨g1,g2,g3⟩:=h5 x hx;exact⟨g1,g2,g3.le (aL _ hl)⟩
theorem MxR.fair(h:MxR d s cE l ma adds a c s0 sF lv X v0 D Mo):
  prv l.length (fun i=>sF.p (clF (xT d l) i)) (vU (FsP d l)) (lvE (clF (xT d l)) lv) (fun _=>false) none∧∀i,i<l.length→jE (kE adds) i=sF.p (clF (xT d l) i):=by
 obtain⟨m1,m2,m3,_,m5⟩:=h.mx;have yq:Cls l.length (clF (xT d l)) s0 (FsP d l) (fun κ=>∃P,FsP d l P∧∀c,c<sF.nc→jX (clF (xT d l)) P c=κ c):=by
  refine⟨fun i hi=>?_,fun q hq=>?_,h.inv.cls.g,fun κ ⟨P,hP,e⟩=>⟨P,hP,fun q hq=>e q (by rw[jDb h.inv.run];exact hq)⟩⟩
  ·rw[h.hs0];exact qHp hi
  rw[h.hs0];rfl
 have hh:=qXp yq h.inv.run h.dec;have hh:prv l.length (fun i=>sF.p (clF (xT d l) i)) (vU (FsP d l)) (lvE (clF (xT d l)) lv) (fun _=>false) none:=by
  have e:(fun i=>s0.dec (clF (xT d l) i))=fun _=>false:=by rw[h.hs0];rfl
  rw[e] at hh;exact hh
 refine⟨hh,?_⟩;have x4:∀i,i<l.length→sF.p (clF (xT d l) i)≤jE (kE adds) i:=fun i hi=>by
  have hg:=h.inv.cls.lt i hi;have h1:=h.ad.ch i hi;have h2:=jUu h.W hg (h.dec _ hg);rw[←h1,←m1] at h2;have hS:(0:Rat)<(sF.S (clF (xT d l) i):Rat):=by exact_mod_cast h.inv.pos _ hg
  generalize (sF.S (clF (xT d l) i):Rat)=S at h2 hS;refine sBl.1 fun hl=>?_
  have:=Rat.mul_lt_mul_of_pos_left hl hS;grind
 rcases qQn (q:=jE (kE adds)) (fun y hy=>by
  have:=qVx (y:=y) (n:=l.length) (M:=vU (FsP d l) y) (m:=kE adds) (fun x hx=>by
   obtain⟨g1,g2,_⟩:=m5 x hx
   exact⟨g1.nodup,g1.lt,sAg g2,qPf (fun P hP=>⟨hP.srt,hP.lt⟩) y g1⟩)
  rw[m2] at this;have e:vU (FsP d l) y*1=vU (FsP d l) y:=by grind
  rwa[e] at this) _ _ _ hh (fun i _ e=>by cases e) with h1|⟨_,v,k,_,h2,hk,hd,hq⟩
 ·exact h1
 have:=x4 k hk;have:=h2 k hk hd;grind
end
section
open Go.Eng Go.Dig Go.Lp Go.Qu
attribute [local irreducible] PV StepF wpl wpd WP Ret
attribute [local irreducible] Fit
theorem r37(a m:Int)(W:World)(h3:0<m)(h4:m≤1000):Rk 37 [Iv a,Iv m] W (Iv (a%m)):=by
 have hE:=jVg a m h3;obtain⟨r,hr⟩:∃r,r=a.tmod m:=⟨_,O⟩;rw[←hr] at hE;have hh:=gK a (show m≠0 by omega);have dx:=gI a h3;have h9:a.emod m=a%m:=O;rw[h9] at hE;have hj:-m≤r∧r<m:=by
  by_cases h:r<0
  ·rw[if_pos h] at hE;omega
  rw[if_neg h] at hE;omega
 refine tW func37 ntmps37 fun hp=>?_;refine qA ?_;refine wlp (qCz O O O1) (qF hr.symm) ?_;refine tI (fun h=>?_) fun h=>?_
 ·rw[if_pos h] at hE;refine qA ?_;refine wlp (qO O O) (qF (b:=a%m) (by rw[←hE];exact qK O1 O1)) ?_;exact mA0
 rw[if_neg h] at hE;refine tV ?_;exact⟨_,O,by rw[hE];rfl,hp.C⟩
def nxV(l:List Int)(i:Nat)(n:Int):Int:=if i<l.length then l.getD i 0%n else 0
def nxI(l:List Int)(i:Nat):Nat:=if i<l.length then i+1 else i
theorem r30(l:List Int)(s:Option Addr)(c mb i:Nat)(n:Int)(M:List Nat)(W:World)(hp:Hp W M W [blk mb 2 (qE [.slice s l.length c,Iv (i:Int)]) 92])(hs:∀w',Keeps M W w'→SlAt w' 1 eI s l)
  (hl:l.length≤9223372036854775807) (h3:0<n) (h4:n≤1000):
  Rt 30 [.pointer (Ad mb),Iv n] W (fun v w'=>v=Iv (nxV l i n)∧Hp W M w' [blk mb 2 (qE [.slice s l.length c,Iv ((nxI l i:Nat):Int)]) 92]):=by
 refine Ret.j9 func30 O ntmps30 O ?_;refine qA ?_;refine jW jG O3 (fun w'=>Hp W M w' [blk mb 2 (qE [.slice s l.length c,Iv (i:Int)]) 92]) hp.N ?_;have hp:=hp.N;refine gAf ?_;refine qH O (fun h=>?_) (fun h=>?_)
 ·have hg:¬i<l.length:=O1;have e1:nxV l i n=0:=if_neg hg;have e2:nxI l i=i:=if_neg hg;rw[e1,e2];exact mEv
 have hg:i<l.length:=O1;obtain⟨x,hx⟩:∃x,l[i]? =some x:=⟨_,aA hg⟩;have e1:nxV l i n=x%n:=by
  unfold nxV;rw[if_pos hg,aC,hx];rfl
 have e2:nxI l i=i+1:=if_pos hg;rw[e1,e2];refine tM (i+1) ?_;refine tT fun w1 hp=>?_;have hp:=hp.norm 0 [.slice s l.length c,Iv ((i+1:Nat):Int)] O O;obtain⟨b,o,rfl,hc⟩:=hs w1 hp.C i x hx;have yq:w1.cell? ⟨b,o+i*1,none⟩=some (Iv x):=hc 0 _ O;have q1:=hp;clear hp;have hp:=Hp.start (M:=[]) (w:=w1);have c0:w1.cell? ⟨mb,0+0,none⟩=some (.slice (some ⟨b,o,none⟩) l.length c):=q1.cell 0 O O;have c1:w1.cell? ⟨mb,0+1,none⟩=some (Iv ((i+1:Nat):Int)):=q1.cell 0 O O;refine qA ?_;refine jW jG O3 (fun w'=>Hp w1 [] w' []) hp.N ?_;have hp:=hp.N;refine qX ?_;refine wdp O (fun w hp=>jN O O) (qF (b:=(i:Int)) (by rw[qK O1 O1];omega)) ?_;refine tH (r37 x n _ h3 h4) fun w2 hp=>?_;refine gAf ?_;refine tV ?_;exact⟨_,O,O,q1.join hp⟩
end
open Go.Eng Go.Dig Go.Lp Go.Qu
attribute [local irreducible] PV StepF wpl wpd WP Ret
attribute [local irreducible] Fit
theorem jVs(d:DW)(s:Option Addr)(n c:Nat)(W:World)(hq:d.Q.length≤12)(hn:n≤40)(oi:d.kd=3):
  Rk 178 [d.v,.slice s n c] W (.bool true):=by
 refine tW func178 ntmps178 fun hp=>?_;refine qR ?_;refine tQ fun w1 b hp=>?_;have hp:=hp.norm 0 d.L O O;refine qR ?_;refine tR qY ?_;refine gA4 ?_;have d1:decide ((n:Int)≤40)=true:=aD O1;have d2:decide ((d.Q.length:Int)≤12)=true:=aD O1;refine wlp (zW O O) (qV (b:=true) (aD O1)) ?_;refine jL ?_;rw[d1];refine jL ?_;rw[d2];exact mEh
theorem zA0(e:EW)(g:ByteArray)(W:World)(hG:SlAt W 1 eS e.sG e.G)(hg:e.G.length≤1000000):
  Rk 330 [e.v,.string g] W (.bool (qA8 e.G g)):=by
 refine tW func330 ntmps330 fun hp=>?_;refine qR ?_;refine tQ fun w1 b2 hp=>?_;have hp:=hp.norm 0 (eEn e) O O;have hp:Hp W [] w1 [blk b2 6 (qE (eEn e)) 94]:=hp;refine qA ?_;refine qQ (range' 4 16) (fun(k:Nat) F=>F.put 5 (Iv (k:Int))) (fun k w'=>k≤e.G.length∧(∀i,i<k→e.G[i]?≠some g)∧Hp W [] w' [blk b2 6 (qE (eEn e)) 94]) (fun k=>e.G.length-k) 0 (qB (Same.eq .refl) O) ⟨bN _,fun i hi=>absurd hi (gT i),hp⟩ ?_;clear hp;rintro u k w2 ⟨hk,fs,hp⟩;refine tI (fun h=>?_) fun h=>?_
 ·have hl:k<e.G.length:=O1;obtain⟨b,o,hb,hc⟩:=hG k e.G[k] (aA hl);have hc:=hc 0 _ O;refine tI (fun h2=>?_) fun h2=>?_
  ·refine qA ?_;exact qM (v:=.bool true) O O ⟨_,O,by rw[qFe.2 (h2▸bX hl)],hp.C⟩
  refine gA0 ?_;refine⟨k+1,qB O5 O,⟨O1,fun i hi=>?_,hp⟩,O1⟩;by_cases nw:i=k
  ·subst nw;rw[aA hl];exact fun e=>h2 (gM e)
  exact fs i O1
 have j0:qA8 e.G g=false:=by
  cases hm:qA8 e.G g with
  |false=>rfl
  |true=>
   obtain⟨i,hi⟩:=fG (qFe.1 hm);have:=(aH.1 hi).1;exact absurd hi (fs i O1)
 rw[j0];refine qA ?_;exact qM (v:=.bool false) O O ⟨_,O,O,hp.C⟩
set_option maxHeartbeats 2000000 in
theorem zAk(d:DW)(s sP:Option Addr)(c cP:Nat)(l:List EW)(P:List Nat)(W:World)(hD:DE d s l W)(oi:d.kd=3)(hQ:(P.length:Int)=d.sz)(xp:P.Pairwise (·<·))(h6:∀i∈P,i<l.length)(hs:SlAt W 1 eN sP P):
  Rt 255 [d.v,.slice s l.length c,.slice sP P.length cP] W (fun v w'=>(∃r,v= .bool r∧(r=true→FsP d l P))∧Keeps [] W w'):=by
 have hm:=hD.lq;have yw:=hD.le;have hH:P.length≤l.length:=by
  have:=uK xp (fun i _=>bN i) h6;omega
 refine tW func255 ntmps255 fun hp=>?_;refine qR ?_;refine tQ fun w1 bd hp=>?_;have hp:=hp.norm 0 d.L O O;refine qR ?_;refine tR qY ?_;refine qR ?_;refine wlp (qL (vs:=d.L) O O O O (hp.j3 0 O O)) (O:_=d.v) ?_;refine wlp qP (O:_=Value.slice s l.length c) ?_;refine tK (jVs d s l.length c _ hm yw oi) ?_;rintro _ w3 ⟨rfl,hk⟩;have hp:=hp.call hk;have hp:Hp W [] w3 [blk bd 13 (qE d.L) 28]:=hp;have d1:(!decide ((P.length:Int)=d.sz))=false:=by simp[hQ]
 refine jL ?_;rw[d1];refine gAa ?_;refine qQ ([6,8]++range' 25 36) (fun(k:Nat) F=>F.put 8 (Iv (k:Int))) (fun k w'=>k≤P.length∧Hp W [] w' [blk bd 13 (qE d.L) 28]) (fun k=>P.length-k) 0 (qB (Same.eq .refl) O) ⟨bN _,hp⟩ ?_;clear hp;rintro u k w5 ⟨hk,hp⟩;refine tI (fun h=>?_) fun h=>?_
 ·have hl:k<P.length:=O1;obtain⟨x,hx⟩:∃x,P[k]? =some x:=⟨_,aA hl⟩;have e1:x<l.length:=h6 x (aI hx);obtain⟨bs,os,hn,hc⟩:=hs k x hx;have yq:W.cell? ⟨bs,os+k*1,none⟩=some (Iv (x:Int)):=hc 0 _ O;have d2:decide ((x:Int)<0)=false:=aB O1;have d3:decide ((x:Int)≥(l.length:Int))=false:=aB O1;refine qR ?_;refine tX fun hp=>?_;refine qX ?_;rw[d2];refine xA ?_;rw[d3];refine xA ?_;by_cases my:k=0
  ·have d4:decide ((k:Int)>0)=false:=aB O1;rw[d4];refine xA ?_;refine qU ?_;refine gA2 ?_;exact mA9
  obtain⟨j,rfl⟩:∃j,k=j+1:=⟨k-1,O1⟩;have hY:j<P.length:=O1;obtain⟨y,hy⟩:∃y,P[j]? =some y:=⟨_,aA hY⟩;obtain⟨ba,oa,hL,qp⟩:=hs j y hy;have hS:W.cell? ⟨ba,oa+j*1,none⟩=some (Iv (y:Int)):=qp 0 _ O;have fg:y<x:=by
   have h1:=xp;rw[dP] at h1;have:=h1 j (j+1) hY hl O1;obtain⟨_,h3⟩:=aH.1 hx;obtain⟨_,h4⟩:=aH.1 hy;omega
  have d4:decide (((j+1:Nat):Int)>0)=true:=aD O1;have d5:decide ((x:Int)≤(y:Int))=false:=aB O1;rw[d4];refine xA ?_;refine tN j ?_;refine xA ?_;rw[d5];refine xA ?_;refine qU ?_;refine gA2 ?_;exact⟨j+1+1,qB O5 O,⟨O1,hp⟩,O1⟩
 obtain rfl:P.length=k:=O1;refine qA ?_;refine qQ ([6,9,10,11,12]++range' 61 48) (fun(q:Nat) F=>F.put 9 (Iv (q:Int))) (fun q w'=>q≤d.Q.length∧(∀k lh,k<q→(d.Q.map (·.2))[k]? =some lh→lh.1≤(cnP d l P P.length k:Int)∧(cnP d l P P.length k:Int)≤lh.2)∧Hp W [] w' [blk bd 13 (qE d.L) 28]) (fun q=>d.Q.length-q) 0 (qB (Same.eq .refl) O) ⟨bN _,fun k lh hk _=>absurd hk (gT k),hp⟩ ?_;clear hp;rintro u2 q w6 ⟨hq,fs,hp⟩;refine tI (fun h2=>?_) fun h2=>?_
 ·have hz:q<d.Q.length:=O1;obtain⟨qu,hg⟩:∃qu,d.Q[q]? =some qu:=⟨_,aA hz⟩;obtain⟨bq,oq,gu,ht⟩:=hD.q q qu hg;have hT:W.cell? ⟨bq,oq+q*3+0,none⟩=some (.string qu.1):=ht 0 _ O;have hK:W.cell? ⟨bq,oq+q*3+1,none⟩=some (Iv qu.2.1):=ht 1 _ O;have h7:W.cell? ⟨bq,oq+q*3+2,none⟩=some (Iv qu.2.2):=ht 2 _ O;have hh:∀e:EW,inB d e q=qA8 e.G qu.1:=fun e=>by
   unfold inB;rw[aC,hg];rfl
  refine qA ?_;refine qQ ([10,11,12]++range' 68 23) (fun(j:Nat) F=>(F.put 10 (Iv (cnP d l P j q:Int))).put 11 (Iv (j:Int))) (fun j w'=>j≤P.length∧Hp W [] w' [blk bd 13 (qE d.L) 28]) (fun j=>P.length-j) 0 (qB (qB (Same.eq .refl) O) O) ⟨bN _,hp⟩ ?_;clear hp;rintro u3 j w7 ⟨hj,hp⟩;refine tI (fun h3=>?_) fun h3=>?_
  ·have bB:j<P.length:=O1;obtain⟨x,hx⟩:∃x,P[j]? =some x:=⟨_,aA bB⟩;have e1:x<l.length:=h6 x (aI hx);obtain⟨bs,os,hn,hc⟩:=hs j x hx;have yq:W.cell? ⟨bs,os+j*1,none⟩=some (Iv (x:Int)):=hc 0 _ O;obtain⟨e,he⟩:∃e,l[x]? =some e:=⟨_,aA e1⟩;have h9:l.getD x default=e:=by rw[aC,he];rfl
   obtain⟨be,oe,hM,h8⟩:=hD.e x e he;have x4:=hD.g e (aI he);have oj:=hD.lg e (aI he);have hP:=jHl (d:=d) (l:=l) (P:=P) (i:=j) (k:=q);have xy:=qUh (d:=d) (l:=l) hx q;rw[h9,hh e] at xy;refine qR ?_;refine tX fun hp=>?_;refine wdp O (fun w hp=>qP) (O:_=Value.slice s l.length c) ?_;refine qX ?_;refine wdp O (fun w hp=>qL (vs:=eEn e) O O O O (fun j v hv=>hp.j7 (h8 j v hv))) (O:_=e.v) ?_;refine qX ?_;refine tK (zA0 e qu.1 _ (x4.j6 hp.C) oj) ?_;rintro _ w8 ⟨rfl,h5⟩;refine⟨hp.call h5,?_⟩;have hp:=hp.call h5;refine gAf ?_;refine qA ?_;cases hb:qA8 e.G qu.1 with
   |false=>
    refine gA2 ?_;exact mEd
   |true=>
    refine jB O ?_;refine tM (cnP d l P j q+1) ?_;refine gA0 ?_;exact mEd
  obtain rfl:P.length=j:=O1;have hJ:(d.Q.map (·.2))[q]? =some qu.2:=by rw[dF,hg];rfl
  refine qA ?_;by_cases z1:(cnP d l P P.length q:Int)<qu.2.1
  ·have d2:decide ((cnP d l P P.length q:Int)<qu.2.1)=true:=aD z1;rw[d2];exact mC5
  have d2:decide ((cnP d l P P.length q:Int)<qu.2.1)=false:=aB z1;rw[d2];refine jL ?_;by_cases gb:(cnP d l P P.length q:Int)>qu.2.2
  ·have d3:decide ((cnP d l P P.length q:Int)>qu.2.2)=true:=aD gb;rw[d3];exact mC5
  have d3:decide ((cnP d l P P.length q:Int)>qu.2.2)=false:=aB gb;rw[d3];refine gAh ?_;refine⟨q+1,qB O5 O,⟨O1,fun k lh hk hE=>?_,hp⟩,O1⟩;by_cases hF:k=q
  ·subst hF;rw[hJ] at hE;obtain rfl:=gM hE;omega
  exact fs k lh O1 hE
 refine qA ?_;refine qM (v:=.bool true) O O ⟨_,O,⟨true,O,fun _=>⟨xp,h6,O1,fun k lh hk=>?_⟩⟩,hp.C⟩;have hU:k<d.Q.length:=by
  have:=(aH.1 hk).1;rwa[aM] at this
 have:=fs k lh O1 hk;unfold cnP at this;rw[dE] at this;exact this
end Go.Proofs.YtplkndjlfkkjlaaGreatDoor
namespace Go.Eng
theorem qOl{w:World}{b o:Nat}{A B:List Value}(h:∀(j:Nat) (v:Value),(A++B)[j]? =some v→w.cell? ⟨b,o+j,none⟩=some v):∀(j:Nat) (v:Value),A[j]? =some v→w.cell? ⟨b,o+j,none⟩=some v:=fun j v e=>by
 grind
end Go.Eng
namespace Go.Lp
variable{k:Nat}{m:List (List Nat×Rat)}
def sN(f:Nat→Nat):Nat→Nat
 |0=>0
 |k+1=>sN f k+f k
theorem jVd(f:Nat→Nat){n:Nat}(h:k≤n):sN f k≤sN f n:=by
 induction n with
 |zero=>grind
 |succ n ih=>
  rcases Nat.lt_or_eq_of_le h with h|h
  ·exact bL (ih O1) (oV _ _)
  grind
theorem qQ5{f:Nat→Nat}{g:Nat→Rat}{c:Rat}:∀k,(∀i,i<k→((f i:Nat):Rat)=g i*c)→((sN f k:Nat):Rat)=sm k g*c
 |0,_=>by
  show(0:Nat)=0*c
  simp
 |k+1,h=>by
  have ih:=qQ5 k (fun i hi=>h i O1);simp only[sN,sm];grind
def wF(m:List (List Nat×Rat))(i:Nat):Rat:=(m.getD i ([],0)).2
def pF(m:List (List Nat×Rat))(i:Nat):List Nat:=(m.getD i ([],0)).1
theorem qL5{i:Nat}{x:List Nat×Rat}(h:m[i]? =some x):wF m i=x.2∧pF m i=x.1:=by
 unfold wF pF;grind
theorem qPq:∀m:List (List Nat×Rat),sm m.length (wF m)=qAi m
 |[]=>rfl
 |(P,w)::m=>by
  have ih:=qPq m;rw[bT,qDf];show w+sm _ (wF m)=w+qAi m
  rw[ih]
theorem qO7(e:Nat):∀m:List (List Nat×Rat),sm m.length (fun i=>if e∈pF m i then wF m i else 0)=jE m e
 |[]=>rfl
 |(P,w)::m=>by
  have ih:=qO7 e m;rw[bT,qDf];show(if e∈P then w else 0)+sm _ (fun i=>if e∈pF m i then wF m i else 0)=(if e∈P then w else 0)+jE m e
  rw[ih]
theorem qFp(h:k<m.length)(i:Nat):jE (m.take (k+1)) i=jE (m.take k) i+if i∈pF m k then wF m k else 0:=by
 have e:=qL5 (aA h);rw[e.1,e.2,aG h,qB0];show _+((if i∈m[k].1 then m[k].2 else 0)+0)=_
 grind
theorem qQu(m:List (List Nat×Rat))(i:Nat):(m.map (·.1)).getD i []=pF m i:=by
 unfold pF;grind
end Go.Lp
namespace Go.Proofs.YtplkndjlfkkjlaaGreatDoor
open Tryz
section
open Go.Eng Go.Dig Go.Lp
variable{m:List (List Nat×Rat)}{w:World}{P:List Nat}
theorem qPr(m:List (List Nat×Rat)):m.map (·.2)=lm m.length (wF m):=by
 apply eF;intro i;by_cases h:i<m.length
 ·rw[yI h,dF,aA h];exact aQ _ (qL5 (aA h)).1.symm
 rw[fD (by grind),fD (by rw[qT];omega)]
def phM(gp:Nat→Option Addr×Nat)(m:List (List Nat×Rat)):List (Option Addr×Nat×Nat):=lm m.length fun j=>((gp j).1,(pF m j).length,(gp j).2)
structure MxAt(sP:Option Addr)(gp:Nat→Option Addr×Nat)(sV:Option Addr)(m:List (List Nat×Rat))(w:World):Prop where
 P:SlAt w 1 jO sP (phM gp m)
 p:∀j,j<m.length→SlAt w 1 eN (gp j).1 (pF m j)
 V:SlAt w 3 eQ sV (lm m.length (wF m))
theorem MxAt.j5{sP:Option Addr}{gp:Nat→Option Addr×Nat}{sV:Option Addr}{w':World}(h:MxAt sP gp sV m w)(hk:Keeps [] w w'):MxAt sP gp sV m w':=⟨h.P.j6 hk,fun j hj=>(h.p j hj).j6 hk,h.V.j6 hk⟩
structure MixG(F:List Nat→Prop)(κ:Nat)(m:List (List Nat×Rat)):Prop where
 len:m.length≤32
 all:∀x∈m,F x.1∧0<x.2∧BQ κ x.2
 nd:(m.map (·.1)).Nodup
 sum:qAi m=1
 ch:∀k i,BQ κ (jE (m.take k) i)
theorem MixG.get{F:List Nat→Prop}{κ:Nat}(h:MixG F κ m){i:Nat}(hi:i<m.length):F (pF m i)∧0<wF m i∧BQ κ (wF m i):=by
 have e:=qL5 (aA hi);rw[e.1,e.2];exact h.all _ (bX hi)
theorem qQs(gp:Nat→Option Addr×Nat)(m:List (List Nat×Rat)):phL gp (m.map (·.1))=phM gp m:=by
 unfold phL phM;rw[aM];exact jH fun j _=>by rw[qQu]
theorem jV5{s:Option Addr}(h:SlAt w 1 eN s P):SlAt w 1 eI s (P.map fun x:Nat=>(x:Int)):=fun i x hx=>by
 rw[dF] at hx;cases hp:P[i]? with
 |none=>grind
 |some y=>
  rw[hp] at hx;obtain rfl:=gM hx;exact h i y hp
theorem jEp{e:Nat}:decide ((e:Int)∈P.map fun x:Nat=>(x:Int))=decide (e∈P):=by
 grind
theorem jBf(x:Nat):bs ((jY 256 x).reverse.dropWhile (·==0))=ofN x:=by
 rw[qM7];cases hl:(jY 256 x).reverse with
 |nil=>rfl
 |cons d l=>
  have e:jY 256 x=l.reverse++[d]:=by
   have:=aQ List.reverse hl;rw[iY] at this;rw[this,List.reverse_cons]
  have hd:=qGe O2 x _ _ e;rw[List.dropWhile_cons,if_neg (by grind)]
attribute [local irreducible] PV StepF wpl wpd WP Ret
attribute [local irreducible] Fit ofN
theorem jVr(x:Nat)(w:World)(hx:Fit x):Rk 182 [.string (ofN x)] w (.bool (decide (x=0))):=by
 have e:decide ((if x<0 then(-1) else if x=0 then 0 else 1)=0)=decide (x=0):=by
  rw[if_neg (gT x)];by_cases h:x=0<;>simp[h]
 refine tW func182 ntmps182 fun hp=>?_;refine tD (c13 0 _ O2) fun w1 hp=>?_;refine tD (c47 x 0 _ hx (Fit.small O2)) fun w2 hp=>wlp (zW O O) (qV e) ?_;exact mA0
theorem r49(x:Nat)(w:World)(hx:Fit x):Rk 49 [.string (ofN x)] w (.string (ofN x)):=by
 refine tW func49 ntmps49 fun hp=>?_;refine tD (c13 0 _ O2) fun w1 hp=>?_;refine tD (c17 x 0 _ hx (Fit.small O2)) fun w2 hp=>?_;exact mA0
theorem zBd(x:Nat)(w:World)(hx:Fit x):Rk 131 [.string (ofN x)] w (.string (ofN x)):=by
 have h:=c65 _ w (fun d hd=>vQ O2 x d (List.mem_reverse.1 hd)) (by rw[fX];exact bL hx.d8 O2);rw[jBf,←qM7] at h;exact h
set_option maxRecDepth 20000 in
theorem jJh:∃f:Nat→Int,∀(x:Nat) (w:World),x<256→Rk 177 [.int .u8 (x:Int)] w (Iv (f x)):=by
 apply Exists.intro;intro x w h1;refine tW func177 ntmps177 fun hp=>?_;exact mA0
theorem jLm(s:ByteArray)(i:Nat):∃x:Nat,bAt s i=(x:Int)∧x<256:=⟨_,O,UInt8.toNat_lt _⟩
theorem jJi:∃f:Nat→Int,∀(x:Nat) (w:World),Fit x→Rk 108 [.string (ofN x)] w (Iv (f x)):=by
 obtain⟨f8,h8⟩:=jJh;refine⟨fun x=>if x=0 then 0 else IntKind.i64.wrap (IntKind.i64.wrap (8*IntKind.i64.wrap ((ofN x).size-1))+f8 (bAt (ofN x) 0).toNat),fun x w hx=>tW func108 ntmps108 fun hp=>?_⟩;refine tD (zBd x _ hx) fun w2 hp=>?_;refine jM ?_;refine qR ?_;refine jM (wlp (xV O O) (qV (jIj x)) ?_);refine qR (qH O (fun h=>?_) (fun h=>?_))
 ·refine qA ?_;exact qM O O ⟨_,O,aQ (Value.int _) (if_pos h).symm,hp.C⟩
 have hs:=(qKs h).1;obtain⟨y,hy,hg⟩:=jLm (ofN x) 0;refine gA1 ?_;refine jM (tR (jN O O) ?_);refine tR (vD O O) (jM ?_);refine wlp (zY O O O hs) (qF hy) (tC (h8 y _ hg) fun w3 hp=>?_);refine tR (qO O O) ?_;refine qA ?_;refine qM O O ⟨_,O,aQ (Value.int _) ?_,hp.C⟩;grind
theorem jDg:∃f:Nat→Int,∀(x:Nat) (w:World),Fit x→Rk 35 [.string (ofN x)] w (Iv (f x)):=by
 obtain⟨f,h⟩:=jJi;refine⟨fun x=>f (x-1),fun x w hx=>tW func35 ntmps35 fun hp=>?_⟩;refine tD (c13 1 _ O2) fun w2 hp=>?_;refine tC (c49 x 1 _ hx (Fit.small O2)) fun w3 hp=>?_;refine tD (h (x-1) _ (hx.le O1)) fun w4 hp=>?_;exact mA0
noncomputable def yY:Nat→Int:=Classical.choose jDg
theorem r35(x:Nat)(w:World)(hx:Fit x):Rk 35 [.string (ofN x)] w (Iv (yY x)):=rH jDg x w hx
end
open Go.Eng Go.Dig
variable{mb:Nat}{ks:List ByteArray}{i:Nat}{k:ByteArray}
structure Wd(s:ByteArray):Prop where
 lo:1≤s.size
 hi:s.size≤30
 at_:∀i,i<s.size→97≤bAt s i∧bAt s i≤122
def vQu(q:ByteArray×Int×Int):Value:=.agg (eQu q).toArray
structure JD(kf:FuncId)(kb sb mb:Nat)(S:List ByteArray)(w:World):Prop where
 key:w.cell? ⟨kb,0,none⟩=some (.func (.func kf) #[] #[])
 seen:w.cell? ⟨sb,0,none⟩=some (.map (some mb))
 map:∃o,w.heap[mb]? =some o∧qR2 kStr (uE fun a=>qA8 S a) o
theorem JD.j5{kf:FuncId}{kb sb:Nat}{S:List ByteArray}{w w':World}(h:JD kf kb sb mb S w)(hk:Keeps [] w w'):JD kf kb sb mb S w':=by
 refine⟨hk.cell h.key O4,hk.cell h.seen O4,?_⟩;obtain⟨o,ho,hm⟩:=h.map;exact⟨o,by rw[hk.block mb (aT.1 ho).1 O4];exact ho,hm⟩
theorem qOt(h:ks[i]? =some k):(fun a=>decide (a=k)||qA8 (ks.take i) a)=fun a=>qA8 (ks.take (i+1)) a:=by
 funext a;unfold qA8;rw[nX,h,iG];grind
theorem qTo(hn:ks.Nodup)(h:ks[i]? =some k):qA8 (ks.take i) k=false:=by
 cases hm:qA8 _ k with
 |false=>rfl
 |true=>
  obtain⟨j,hj,e⟩:=lF.1 (qFe.1 hm);obtain⟨hi,e2⟩:=aH.1 h;have:=(oU hn).1 (e.trans e2.symm);omega
attribute [local irreducible] PV StepF wpl wpd WP Ret
attribute [local irreducible] Fit
theorem jOc(s:ByteArray)(w:World)(hw:Wd s):Rk 290 [.string s] w (.bool true):=by
 have h1:=hw.lo;have hg:=hw.hi;refine tW func290 ntmps290 fun hp=>?_;refine qA ?_;refine xD O (fun h=>absurd h (by grind)) (fun h=>qA (qQ [2,3,14,15,16,17,18,19,20,21,22,23,24,25,26,27] (fun(i:Nat) F=>F.put 14 (.int _ i)) (fun i w'=>i≤s.size∧Hp w [] w' []) (fun i=>s.size-i) 0 (qB (Same.eq .refl) O) ⟨O1,hp⟩ ?_));clear hp;rintro u i w ⟨hi,hp⟩;refine tI (fun h2=>?_) fun h2=>?_
 ·have hl:i<s.size:=O1;have hb:=hw.at_ i O1;exact mCq
 exact mA0
theorem jOb(f:FuncId)(dy:Array Value)(he:qI Tryz.prog f)(M:List Nat)(J:Nat→World→Prop)(s:Option Addr)(c:Nat)(l:List (ByteArray×Int×Int))(w:World)(hn:l.length≤1000000)
  (hs:SlAt w 3 eQu s l) (hM:l≠[]→∀b o,s=some ⟨b,o,none⟩→b∉M) (h0:J 0 w) (xy:∀i w' az,J i w'→Keeps [] w' az→J i az)
  (hP:∀i x w',l[i]? =some x→J i w'→Rt f (vQu x::dy.toList) w' (fun v az=>v= .bool true∧Keeps M w' az∧J (i+1) az)):
  Rt 302 [.slice s l.length c,.func (.func f) #[] dy] w (fun v w'=>v= .bool true∧Keeps M w w'∧J l.length w'):=by
 refine tW func302 ntmps302 fun hp=>?_;refine qA (qQ [4,6,9,10,11,12,13,14,15,16,17] (fun(i:Nat) F=>F.put 9 (.int _ i)) (fun i w'=>i≤l.length∧Keeps M w w'∧J i w') (fun i=>l.length-i) 0 (qB (Same.eq .refl) O) ⟨O1,.refl,h0⟩ ?_);clear hp;rintro u i w1 ⟨hi,hk,hJ⟩;have hp:=Hp.start (M:=[]) (w:=w1);refine tI (fun h=>?_) fun h=>?_
 ·have hl:i<l.length:=O1;have hx:=aA hl;have hq:=hs.j5 hk hM;obtain⟨b0,o0,hj,yq⟩:=hq i _ hx;refine qA (tR (qL O O O O O1) ?_);refine vK fun w b hp=>?_
  have hg:=xy i _ _ hJ hp.C;apply wls;exact qC O he O (hP i _ _ hx hg);rintro _ w' ⟨rfl,nv,qx⟩;have uq:=(Keeps.refl.trans hp.C O4).trans nv (fun _ h=>.inr h);exact mD5
 exact mDw
theorem jVj(f:FuncId)(dy:Array Value)(he:qI Tryz.prog f)(M:List Nat)(J:Nat→World→Prop)(s:Option Addr)(c:Nat)(l:List ByteArray)(w:World)(hn:l.length≤1000000)
  (hs:SlAt w 1 eS s l) (hM:l≠[]→∀b o,s=some ⟨b,o,none⟩→b∉M) (h0:J 0 w) (xy:∀i w' az,J i w'→Keeps [] w' az→J i az)
  (hP:∀i x w',l[i]? =some x→J i w'→Rt f (.string x::dy.toList) w' (fun v az=>v= .bool true∧Keeps M w' az∧J (i+1) az)):
  Rt 310 [.slice s l.length c,.func (.func f) #[] dy] w (fun v w'=>v= .bool true∧Keeps M w w'∧J l.length w'):=by
 refine tW func310 ntmps310 fun hp=>?_;refine qA (qQ [4,6,9,10,11,12,13,14,15,16,17] (fun(i:Nat) F=>F.put 9 (.int _ i)) (fun i w'=>i≤l.length∧Keeps M w w'∧J i w') (fun i=>l.length-i) 0 (qB (Same.eq .refl) O) ⟨O1,.refl,h0⟩ ?_);clear hp;rintro u i w1 ⟨hi,hk,hJ⟩;have hp:=Hp.start (M:=[]) (w:=w1);refine tI (fun h=>?_) fun h=>?_
 ·have hl:i<l.length:=O1;have hx:=aA hl;have hq:=hs.j5 hk hM;obtain⟨b0,o0,hj,yq⟩:=hq i _ hx;have hc:=yq 0 _ O;refine qA ?_;have hg:=xy i _ _ hJ hp.C;apply wls;exact qC O he O (hP i _ _ hx hg);rintro _ w' ⟨rfl,nv,qx⟩;have uq:Keeps M w1 w':=O1;exact mD5
 exact mDw
theorem zAh(q:ByteArray×Int×Int)(w:World)(h:Wd q.1):Rk 303 [vQu q] w (.bool true):=by
 refine tW func303 ntmps303 fun hp=>?_;refine vK fun w b hp=>?_
 refine tC (jOc _ _ h) fun w1 hp=>?_;exact mA0
theorem zAe(q:ByteArray×Int×Int)(w:World):Rk 306 [vQu q] w (.string q.1):=by
 refine tW func306 ntmps306 fun hp=>?_;refine vK fun w b hp=>?_
 exact mAb
theorem zAc(s:ByteArray)(w:World):Rk 312 [.string s] w (.string s):=by
 refine tW func312 ntmps312 fun hp=>?_;exact mA0
theorem zAg(q:ByteArray×Int×Int)(db:Nat)(sz:Int)(w:World)(hd:w.cell? ⟨db,0+10,none⟩=some (Iv sz))(h0:0≤q.2.1)(h1:q.2.1≤q.2.2)(h2:q.2.2≤sz):
  Rk 304 [vQu q,.pointer (Ad db)] w (.bool true):=by
 have d0:decide (q.2.1≥0)=_:=aD h0;have d1:=aD h1;have d2:=aD h2;refine tW func304 ntmps304 fun hp=>?_;refine qR ?_;refine tQ fun w1 b2 hp=>?_;refine jL ?_;rw[d0];refine jL ?_;rw[d1];refine jL ?_;rw[d2];exact mAb
theorem jZy(q:ByteArray×Int×Int)(kb sb mb:Nat)(S:List ByteArray)(w:World)(hJ:JD 306 kb sb mb S w)(zc:kb≠mb)(zi:sb≠mb)(hS:qA8 S q.1=false):
  Rt 351 [vQu q,.pointer (Ad kb),.pointer (Ad sb)] w (fun v w'=>v= .bool true∧Keeps [mb] w w'∧w'.cell? ⟨kb,0,none⟩=some (.func (.func 306) #[] #[])∧w'.cell? ⟨sb,0,none⟩=some (.map (some mb))∧∃o,w'.heap[mb]? =some o∧qR2 kStr (uE fun a=>decide (a=q.1)||qA8 S a) o):=by
 obtain⟨o,ho,hm⟩:=hJ.map;have te:kb∉[mb]:=by simp[zc]
 have yu:sb∉[mb]:=by simp[zi]
 have e7:=hJ.key;have uq:=hJ.seen;refine Ret.j9 func351 O ntmps351 O ?_;have hp:Hp w [mb] w [yA _ mb _]:=Hp.start.q8 O4 ho hm O4;refine qR ?_;refine tQ fun w1 b3 hp=>?_;refine qA (tR (qKj Tryz.underlying379 O O (hp.old e7 te)) ?_);refine tD (zAe q _) fun w2 hp=>?_;refine qA (tR (qS O O (hp.old uq yu)) ?_);refine qA (wlp (qAq hp 1 O O O (kV O).1 (kV (t:=153) O).2.1 (kV (t:=153) O).2.2) ((qBv _ _).trans (aQ _ hS)) ?_);refine qA ?_;refine tJ (tR (qS O O (hp.old uq yu)) ?_);refine qA (tO (qAk hp 1 O O O O (kV O).1 (kV (t:=153) O).2.1) fun w3 hp=>?_);refine tV ?_;exact⟨_,O,O,hp.C,hp.old e7 te,hp.old uq yu,hp.has 1 _ O mb O⟩
theorem jZx(q:ByteArray)(kb sb mb:Nat)(S:List ByteArray)(w:World)(hJ:JD 312 kb sb mb S w)(zc:kb≠mb)(zi:sb≠mb)(hS:qA8 S q=false):
  Rt 353 [.string q,.pointer (Ad kb),.pointer (Ad sb)] w (fun v w'=>v= .bool true∧Keeps [mb] w w'∧w'.cell? ⟨kb,0,none⟩=some (.func (.func 312) #[] #[])∧w'.cell? ⟨sb,0,none⟩=some (.map (some mb))∧∃o,w'.heap[mb]? =some o∧qR2 kStr (uE fun a=>decide (a=q)||qA8 S a) o):=by
 obtain⟨o,ho,hm⟩:=hJ.map;have te:kb∉[mb]:=by simp[zc]
 have yu:sb∉[mb]:=by simp[zi]
 have e7:=hJ.key;have uq:=hJ.seen;refine Ret.j9 func353 O ntmps353 O ?_;have hp:Hp w [mb] w [yA _ mb _]:=Hp.start.q8 O4 ho hm O4;refine tD (zAc q _) fun w2 hp=>?_;refine qA (tR (qS O O (hp.old uq yu)) ?_);refine qA (wlp (qAq hp 0 O O O (kV O).1 (kV (t:=153) O).2.1 (kV (t:=153) O).2.2) ((qBv _ _).trans (aQ _ hS)) ?_);refine qA ?_;refine tJ (tR (qS O O (hp.old uq yu)) ?_);refine qA (tO (qAk hp 0 O O O O (kV O).1 (kV (t:=153) O).2.1) fun w3 hp=>?_);refine tV ?_;exact⟨_,O,O,hp.C,hp.old e7 te,hp.old uq yu,hp.has 0 _ O mb O⟩
theorem slM{α:Type}{w0:World}{k:Nat}{enc:α→List Value}{s:Option Addr}{l:List α}(hs:SlAt w0 k enc s l)(hk:∀x,0<(enc x).length)(hm:w0.heap.size≤mb)(xr:l≠[])(b o:Nat)(hb:s=some ⟨b,o,none⟩):b∉[mb]:=by
 have h0:=nA.2 xr;obtain⟨b',o',e1,e2⟩:=hs 0 _ (aA h0);have:=iZ w0 _ (e2 0 _ (aA (hk _)));grind
theorem zAf(s:Option Addr)(c:Nat)(l:List (ByteArray×Int×Int))(w:World)(hn:l.length≤1000000)(hs:SlAt w 3 eQu s l)(ln:(l.map Prod.fst).Nodup):
  Rk 305 [.slice s l.length c,.func (.func 306) #[] #[]] w (.bool true):=by
 refine tW func305 ntmps305 fun hp=>?_;refine qA ?_;refine tQ fun w1 kb hp=>?_;refine qA (tF (yS kStr hp) fun w2 mb hp=>?_);refine tQ fun w3 sb hp=>?_;refine tS fun w4 hp=>?_;refine qA ?_;have e7:w4.cell? ⟨kb,0,_⟩=some (.func _ _ _):=hp.cell 2 O O;have uq:w4.cell? ⟨sb,0,_⟩=some (.map _):=hp.cell 0 O O;have ox:=hp.has 1 _ O mb O;have zc:kb≠mb:=fun e=>hp.dis 2 1 _ _ O O O1 kb O (by rw[e];rfl)
 have zi:sb≠mb:=fun e=>hp.dis 0 1 _ _ O O O1 sb O (by rw[e];rfl)
 have bj:=by
  exact mEj
 have hg:=jOb 351 #[.pointer (Ad kb),.pointer (Ad sb)] jQf [mb] (fun i w'=>JD 306 kb sb mb ((l.map Prod.fst).take i) w') s c l w4 hn (hs.j6 hp.C) (slM hs (fun _=>show 0<3 by decide) bj)
  ⟨e7,uq,by exact ox⟩ (fun i w' az h hk=>h.j5 hk)
  (fun i x w' hx hJ=>by
   have hh:(l.map Prod.fst)[i]? =some x.1:=by simp[hx]
   refine(jZy x kb sb mb _ w' hJ zc zi (qTo ln hh)).mono ?_;rintro v az ⟨rfl,hk,h1,h2,h3⟩;rw[qOt hh] at h3
   exact⟨O,hk,h1,h2,h3⟩)
 exact mCj
theorem zAd(s:Option Addr)(c:Nat)(l:List ByteArray)(w:World)(hn:l.length≤1000000)(hs:SlAt w 1 eS s l)(ln:l.Nodup):
  Rk 311 [.slice s l.length c,.func (.func 312) #[] #[]] w (.bool true):=by
 refine tW func311 ntmps311 fun hp=>?_;refine qA ?_;refine tQ fun w1 kb hp=>?_;refine qA (tF (yS kStr hp) fun w2 mb hp=>?_);refine tQ fun w3 sb hp=>?_;refine tS fun w4 hp=>?_;refine qA ?_;have e7:w4.cell? ⟨kb,0,_⟩=some (.func _ _ _):=hp.cell 2 O O;have uq:w4.cell? ⟨sb,0,_⟩=some (.map _):=hp.cell 0 O O;have ox:=hp.has 1 _ O mb O;have zc:kb≠mb:=fun e=>hp.dis 2 1 _ _ O O O1 kb O (by rw[e];rfl)
 have zi:sb≠mb:=fun e=>hp.dis 0 1 _ _ O O O1 sb O (by rw[e];rfl)
 have bj:=by
  exact mEj
 have hg:=jVj 353 #[.pointer (Ad kb),.pointer (Ad sb)] jQe [mb] (fun i w'=>JD 312 kb sb mb (l.take i) w') s c l w4 hn (hs.j6 hp.C) (slM hs (fun _=>show 0<1 by decide) bj)
  ⟨e7,uq,by exact ox⟩ (fun i w' az h hk=>h.j5 hk)
  (fun i x w' hx hJ=>by
   refine(jZx x kb sb mb _ w' hJ zc zi (qTo ln hx)).mono ?_;rintro v az ⟨rfl,hk,h1,h2,h3⟩;rw[qOt hx] at h3
   exact⟨O,hk,h1,h2,h3⟩)
 exact mCj
end Go.Proofs.YtplkndjlfkkjlaaGreatDoor
