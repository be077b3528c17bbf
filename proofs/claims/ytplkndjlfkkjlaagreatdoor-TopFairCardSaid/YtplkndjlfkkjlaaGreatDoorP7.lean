/- Merged texts of ours; conditions are the hypotheses of each law. -/
import Derived.Test.YtplkndjlfkkjlaaGreatDoorP6
import Derived.Test.YtplkndjlfkkjlaaGreatDoorTie
import Derived.Test.YtplkndjlfkkjlaaGreatDoorCards
import Derived.ProofKit
import Derived.OpenShut
import Derived.Carry
import Derived.Deep.Slices
import Derived.SizedLaws
import Derived.LaidLaws
import Derived.LaidHandle
import Derived.MakeChecks
import Derived.Lib.LaidTab
import Derived.ChangeVars
import Derived.JoinedOf
import Derived.RowKit
namespace Go.Proofs.YtplkndjlfkkjlaaGreatDoor
open List (range range' replicate)
open Go.Proofs.Tryz
section
open Go.Eng Go.Dig
structure DP(d:DW):Prop where
 kd:d.kd=3
 nm:Wd d.nm
 rd:1≤d.rd∧d.rd≤1000000000
 pr:0≤d.pr∧d.pr≤1000000
 po:d.po=0
 pi:d.pi=0
 mT:d.mT=0
 ro:d.ro=false
 mP:d.mP=0
 cl:d.cl=0
 sz:1≤d.sz∧d.sz≤40
 B:d.sB=none∧d.mB=0∧d.cB=0
 lq:d.Q.length≤12
 Q:∀q∈d.Q,Wd q.1∧0≤q.2.1∧q.2.1≤q.2.2∧q.2.2≤d.sz
 nd:(d.Q.map (·.1)).Nodup
structure EP(e:EW):Prop where
 id:1≤e.id∧e.id≤1000000000
 cl:e.cl=0
 fa:e.fa=0
 P:e.sP=none∧e.mP=0∧e.cP=0
 W:e.sW=none∧e.mW=0∧e.cW=0
 lg:e.G.length≤12
 G:∀g∈e.G,Wd g
 nd:e.G.Nodup
attribute [local irreducible] PV StepF wpl wpd WP Ret
attribute [local irreducible] Fit
theorem zBx(d:DW)(w:World)(h:DP d):Rk 206 [d.v] w (Iv 0):=by
 refine tW func206 ntmps206 fun hp=>?_;refine qR ?_;refine tQ fun w1 b hp=>?_;refine tD (jOc _ _ h.nm) fun w1 hp=>?_;exact mDh
theorem zBw(d:DW)(w:World)(h:DP d):Rk 207 [d.v] w (Iv 0):=by
 have hg:decide (d.sz=0)=_:=aB (by have:=h.sz;omega);have oi:=h.kd;have hpo:=h.po;have h9:=h.pi;have hj:=h.mT;have ny:=h.ro;have hh:=h.mP;have hP:=h.cl;obtain⟨nm,kd,rd,pr,po,pi,sT,mT,cT,ro,sP,mP,cP,cl,sz,sQ,cQ,Q,sB,mB,cB⟩:=d;subst oi hpo h9 hj ny hh hP;refine tW func207 ntmps207 fun hp=>?_;refine qR ?_;refine tQ fun w1 b hp=>?_;refine jL ?_;rw[hg];refine jL (qN O ?_);refine jL (qN O ?_);refine jL (jB O ?_);exact mA0
theorem zBv(d:DW)(w:World)(h:DP d):Rk 208 [d.v] w (Iv 0):=by
 refine tW func208 ntmps208 fun hp=>?_;refine qR ?_;refine tQ fun w1 b hp=>?_;refine tD (qQv _ _ _ _ h.rd.1 h.rd.2) fun w1 hp=>?_;exact mA0
theorem zBu(d:DW)(w:World)(h:DP d):Rk 210 [d.v] w (Iv 0):=by
 refine tW func210 ntmps210 fun hp=>?_;refine qR ?_;refine tQ fun w1 b hp=>?_;refine tD (qQv _ _ _ _ h.pr.1 h.pr.2) fun w1 hp=>?_;exact mA0
theorem zBs(d:DW)(w:World)(h:DP d):Rk 217 [d.v] w (Iv 0):=by
 refine tW func217 ntmps217 fun hp=>?_;refine qR ?_;refine tQ fun w1 b hp=>?_;refine tD (qQv _ _ _ _ h.sz.1 h.sz.2) fun w1 hp=>?_;exact mA0
theorem zBt(d:DW)(w:World)(h:DP d):Rk 211 [d.v] w (Iv 0):=by
 obtain⟨h1,h2,h3⟩:=h.B;obtain⟨nm,kd,rd,pr,po,pi,sT,mT,cT,ro,sP,mP,cP,cl,sz,sQ,cQ,Q,sB,mB,cB⟩:=d;subst h1 h2 h3;refine tW func211 ntmps211 fun hp=>?_;refine qR ?_;refine tQ fun w1 b hp=>?_;refine qA ?_;refine qH O (fun h=>absurd h (show¬(40:Int)<(0:Nat) by decide)) (fun _=>tD (jWd _) fun w1 hp=>?_);exact mDh
theorem zBr(d:DW)(w:World)(h:DP d)(hQ:SlAt w 3 eQu d.sQ d.Q):Rk 218 [d.v] w (Iv 0):=by
 have hm:=h.lq;refine tW func218 ntmps218 fun hp=>?_;refine qR ?_;refine tQ fun w1 db hp=>?_;refine qA ?_;refine qH O O1 (fun _=>tL (jOb 303 _ jQz [] _ _ _ _ _ O1 (hQ.j6 hp.C) (fun _ _ _ _=>O4) trivial (fun _ _ _ _ _=>trivial) (fun i x w' hx _=>(zAh x w' (h.Q x (aI hx)).1).mono (fun v az ⟨a,b⟩=>⟨a,b,trivial⟩))) ?_);rintro _ w2 ⟨rfl,hk,_⟩;have hp:=hp.call hk;refine gA3 ?_
 (apply wls;exact qC O qWg O (jOb 304 _ jQy [] (fun _ w'=>w'.cell? _=some (.int _ _)) _ _ _ _ O1 (hQ.j6 hp.C) (fun _ _ _ _=>O4) (hp.cell 0 O O) (fun _ _ _ h hk=>hk.cell h O4) (fun i x w' hx hJ=>by
  obtain⟨_,a,b,c⟩:=h.Q x (aI hx)
  exact(zAg x db _ w' hJ a b c).mono (fun v az ⟨a,b⟩=>⟨a,b,b.cell hJ O4⟩)));rintro _ w3 ⟨rfl,hk,_⟩;have hp:=hp.call hk)
 refine gA3 ?_;refine tC (zAf _ _ _ _ O1 (hQ.j6 hp.C) h.nd) fun w4 hp=>?_;exact mDh
theorem jX7(i:Nat)(hi:i<5∨10≤i)(hg:i<12):qI Tryz.prog (clT i):=by
 match i,hg with
 |0,_=>exact jGn
 |1,_=>exact jGm
 |2,_=>exact jGl
 |3,_=>exact jGk
 |4,_=>exact jGj
 |10,_=>exact jRz
 |11,_=>exact jRy
 |5,_=>omega
 |6,_=>omega
 |7,_=>omega
 |8,_=>omega
 |9,_=>omega
theorem qCl(d:DW)(i:Nat)(hi:i<5∨10≤i)(hg:i<12)(w:World)(h:DP d)(hQ:SlAt w 3 eQu d.sQ d.Q):Rt (clT i) [d.v] w (fun v w'=>v=Iv 0∧Keeps [] w w'):=by
 match i,hg with
 |0,_=>exact zBx d w h
 |1,_=>exact zBw d w h
 |2,_=>exact zBv d w h
 |3,_=>exact zBu d w h
 |4,_=>exact zBt d w h
 |10,_=>exact zBs d w h
 |11,_=>exact zBr d w h hQ
 |5,_=>omega
 |6,_=>omega
 |7,_=>omega
 |8,_=>omega
 |9,_=>omega
theorem zG9(i:Nat)(hg:i<12):((!decide (clK i=0))&&(!decide (clK i=3)))=decide (5≤i∧i<10):=by
 match i,hg with
 |0,_=>rfl
 |1,_=>rfl
 |2,_=>rfl
 |3,_=>rfl
 |4,_=>rfl
 |5,_=>rfl
 |6,_=>rfl
 |7,_=>rfl
 |8,_=>rfl
 |9,_=>rfl
 |10,_=>rfl
 |11,_=>rfl
set_option maxHeartbeats 4000000 in
theorem r93(d:DW)(w:World)(h:DP d)(hQ:SlAt w 3 eQu d.sQ d.Q):Rt 93 [d.v] w (fun v w'=>v= .tuple #[.string ⟨#[]⟩,Iv 0]∧Keeps [] w w'):=by
 have oi:=h.kd;refine tW func93 ntmps93 fun hp=>?_;refine qR ?_;refine tQ fun w1 db hp=>?_;have hp:=hp.norm 0 d.L O O;refine tL (jWf _) ?_;rintro _ w2 ⟨cb,rfl,uq,hP⟩;have hp:=hp.call uq;have ac:=hp.C;have bw:w2.cell? ⟨db,0+1,_⟩=some (.int _ _):=hp.cell 0 O O;rw[oi] at bw;have b1:=hp.j3 0 O O;clear hp uq;refine qA (qQ [2,3,5,6,9,10,11,12,13,14,15,16,17,18,19,20,21,22,23,24,25,26,27,28,29,30,31,32] (fun(i:Nat) F=>F.put 9 (.int _ i)) (fun i w'=>i≤12∧Keeps [] w2 w') (fun i=>12-i) 0 (qB (Same.eq .refl) O) ⟨O1,.refl⟩ ?_);rintro u i w ⟨hi,hk⟩;have hp:=Hp.r5 hk;refine tI (fun h2=>?_) fun h2=>?_
 ·have hl:i<12:=O1;have sY:=hP.name i hl;have qp:=hP.kind i hl;have gx:=hP.fn i hl;refine qA (tR (qL (vs:=[.string (clN i),Iv (clK i),.func (.func (clT i)) #[] #[]]) O O O O (fun j v hv=>hp.j7 (by match j,hv with|0,hv=>(cases hv;exact sY)|1,hv=>(cases hv;exact qp)|2,hv=>(cases hv;exact gx)))) ?_);refine tQ fun w4 b5 hp=>?_;refine tS fun w5 hp=>?_;have hp:=hp.norm 0 [.string _,.int _ _,.func _ _ _] O O;refine qA ?_;have hU:=zG9 i hl;refine xD O (fun bv=>?_) (fun bv=>?_)
  ·refine gA7 ?_;exact⟨_,qB O5 O,⟨O1,hp.C⟩,O1⟩
  have jj:i<5∨10≤i:=by
   have h3:decide (5≤i∧i<10)=false:=hU.symm.trans bv;have:=sAj h3;omega
  refine qA (wlp (qL O O O O (fun j v hv=>hp.j7 (b1 j v hv))) (O:_=d.v) ?_);apply wls;exact qC O (jX7 i jj hl) O (qCl d i jj hl _ h (hQ.j6 (ac.trans hp.C O4)));exact mCr
 exact mE4
theorem zBq(e:EW)(w:World)(h:EP e)(hG:SlAt w 1 eS e.sG e.G):Rk 221 [e.v] w (Iv 0):=by
 have hg:=h.lg;refine tW func221 ntmps221 fun hp=>?_;refine qR ?_;refine tQ fun w1 eb hp=>?_;refine qA ?_;refine qH O O1 (fun _=>tL (jVj 290 _ qRh [] _ _ _ _ _ O1 (hG.j6 hp.C) (fun _ _ _ _=>O4) trivial (fun _ _ _ _ _=>trivial) (fun i x w' hx _=>(jOc x w' (h.G x (aI hx))).mono (fun v az ⟨a,b⟩=>⟨a,b,trivial⟩))) ?_);rintro _ w2 ⟨rfl,hk,_⟩;have hp:=hp.call hk;refine gA3 ?_;refine tC (zAd _ _ _ _ O1 (hG.j6 hp.C) h.nd) fun w4 hp=>?_;exact mDh
set_option maxHeartbeats 1000000 in
theorem zBb(d:DW)(e:EW)(w:World)(hd:DP d)(he:EP e)(hQ:SlAt w 3 eQu d.sQ d.Q)(hG:SlAt w 1 eS e.sG e.G):Rk 158 [d.v,e.v] w (Iv 0):=by
 have oi:=hd.kd;have hid:=he.id;obtain⟨vk,hj,hn⟩:=hd.B;obtain⟨hg,hl,hh⟩:=he.P;obtain⟨o1,o2,hm⟩:=he.W;have hP:=he.cl;have bI:=he.fa;refine tW func158 ntmps158 fun hp=>?_;refine qR ?_;refine tQ fun w1 db hp=>?_;have hp:=hp.norm 0 d.L O O;refine tQ fun w2 eb hp=>?_;have hp:=hp.norm 0 (eEn e) O O;have hp:Hp w [] w2 [blk eb 6 _ 94,blk db 13 _ 28]:=hp;refine qR ?_;refine tR qY (qR ?_);refine wlp (qL O O O O (hp.j3 1 O O)) (O:_=d.v) (tC (r93 d _ hd (hQ.j6 hp.C)) fun w3 hp=>?_);refine gA3 ?_;refine tC (qQv _ _ _ _ hid.1 hid.2) fun w4 hp=>?_;refine qA (qN O ?_);have cB:w4.cell? ⟨db,0+12,_⟩=some (.slice _ _ d.cB):=hp.cell 1 O O;rw[vk,hj,hn] at cB;refine tD (r47 [] _ 0 _ _ (fun i x hx=>by grind) O2) fun w5 hp=>?_;refine qR (qN O ?_);have cP:w5.cell? ⟨eb,0+3,_⟩=some (.slice _ _ e.cP):=hp.cell 0 O O;rw[hg,hl,hh] at cP;have c1:w5.cell? ⟨eb,0+1,_⟩=some (.int _ _):=hp.cell 0 O O;rw[hP] at c1;have c2:w5.cell? ⟨eb,0+2,_⟩=some (.int _ _):=hp.cell 0 O O;rw[bI] at c2;have c4:w5.cell? ⟨eb,0+4,_⟩=some (.slice _ _ e.cW):=hp.cell 0 O O;rw[o1,o2,hm] at c4;have ck:w5.cell? ⟨db,0+1,_⟩=some (.int _ _):=hp.cell 1 O O;rw[oi] at ck;refine jL (qN O ?_);refine jL (qN O ?_);refine jL (qN O ?_);refine qR (wlp (qL O O O O (hp.j3 0 O O)) (O:_=e.v) ?_);refine tC (zBq e _ he (hG.j6 hp.C)) fun w6 hp=>?_;exact mA0
end
section
open Go.Eng Go.Dig
attribute [local irreducible] PV StepF wpl wpd WP Ret
attribute [local irreducible] Fit
theorem jVw(l:List ByteArray)(s:Option Addr)(c:Nat)(w:World)(hn:l.length<1000000)(hs:SlAt w 1 eS s l):Rt 160 [.slice s l.length c] w (fun v w'=>(∃s' c',v= .slice s' l.length c')∧Keeps [] w w'):=by
 refine tW func160 ntmps160 fun hp=>?_;refine qA (tR (qLp (zK O).1 O O) ?_);refine qA (xD O (fun h=>?_) (fun h=>?_))
 ·have hs0:s=none:=by
   cases s with
   |none=>rfl
   |some a=>grind
  have hl:l=[]:=by
   cases l with
   |nil=>rfl
   |cons x l'=>
    obtain⟨b,o,e,_⟩:=hs 0 x O;grind
  subst hl;refine tV ?_;exact⟨_,O,⟨_,0,O⟩,hp.C⟩
 refine qA ?_;refine tF (jC (cs:=[]) hp O O O O O O O) fun w1 nb hp=>qA ?_;refine tFb (qF4 eS l hp 0 O O O O O O (fun _=>O) O O O (hs.j6 hp.C) (fun _=>O) hn) fun w2 s' c'⟨hv,hp⟩=>tV ?_;exact⟨_,O,⟨s',c',O⟩,hp.C⟩
theorem jB3{ks:List Int}{i:Nat}{k:Int}(h:ks[i]? =some k):(fun a=>decide (a=k)||decide (a∈ks.take i))=fun a=>decide (a∈ks.take (i+1)):=by
 funext a;rw[nX,h,iG];grind
set_option maxHeartbeats 4000000 in
theorem r94(d:DW)(s:Option Addr)(c:Nat)(l:List EW)(W:World)(hD:DE d s l W)(hd:DP d)(he:∀e∈l,EP e)(ln:(l.map (·.id)).Nodup)(hl:l.length≤40):
  Rt 94 [d.v,.slice s l.length c] W (fun v w'=>(∃sA cA,v= .tuple #[.slice sA l.length cA,Zs])∧Keeps [] W w'):=by
 have oi:=hd.kd;have hQ:=hD.q;refine tW func94 ntmps94 fun hp=>?_;refine qR ?_;refine tQ fun w1 db hp=>?_;have hp:=hp.norm 0 d.L O O;refine qA (tF (yS kInt hp) fun w2 mb hp=>?_);have hp:Hp W [] w2 [yA kInt mb (uE fun a=>decide (a∈(l.map (·.id)).take 0)),blk db 13 (qE d.L) 28]:=by
  rw[qBm _ (fun a=>O4)];exact hp
 have hp:=hp.k4 eEn 94 6;have hp:=hp;refine qA (qQ ([6,7,9,10,11]++range' 15 52) (fun(z:Nat×Option _×Nat×List EW) F=>((F.put 15 (.int _ (z.1))).put 6 (.slice z.2.1 z.1 z.2.2.1)).put 7 (.slice _ 0 0)) (fun z w'=>z.1≤l.length∧z.2.2.2.length=z.1∧SVL z.2.1 z.2.2.1 z.2.2.2∧Hp W [] w' [qG _ 94 6 z.2.1 z.2.2.1 z.2.2.2,yA _ mb (uE fun a=>decide (a∈(l.map _).take z.1)),_]) (fun z=>l.length-z.1) (0,none,0,[]) (qB (qB (qB (Same.eq .refl) O) O) O) ⟨O1,O,SVL.nil,hp⟩ ?_);clear hp;rintro u ⟨i,sA,cA,A⟩ w3 ⟨hi,yd,xi,hp⟩;dsimp only at hi yd xi hp⊢;refine tI (fun h=>?_) fun h=>?_
 ·have hh:i<l.length:=O1;obtain⟨e,hy⟩:∃e,l[i]? =some e:=⟨_,aA hh⟩;have h6:=aI hy;have hE:=he e h6;obtain⟨hq,hz,ht⟩:=hE.P;obtain⟨o1,o2,h3⟩:=hE.W;have h7:=hE.lg;have hG:=hD.g e h6;obtain⟨be,oe,hM,h8⟩:=hD.e i e hy;have xf:(l.map (·.id))[i]? =some e.id:=by rw[dF,hy];rfl
  have ya:decide (e.id∈(l.map (·.id)).take i)=false:=by
   refine aB fun hm=>?_
   obtain⟨j,hj,e1⟩:=lF.1 hm;obtain⟨oK,e2⟩:=aH.1 xf;have:=(oU ln).1 (e1.trans e2.symm);omega
  refine qA (wlp (qL O O O O (fun j v hv=>hp.j7 (h8 j v hv))) (O:_=e.v) ?_);refine tQ fun w4 eb hp=>?_;refine jM ?_;refine tS fun w5 hp=>?_;have hp:=hp.norm 0 (eEn e) O O;have hp:Hp W [] w5 [blk eb 6 _ 94,_,yA _ mb (uE fun a=>decide _),_]:=hp;refine qR (wlp (qL O O O O (hp.j3 3 O O)) (O:_=d.v) ?_);refine wlp (qL O O O O (hp.j3 0 O O)) (O:_=e.v) (tC (zBb d e _ hd hE (hQ.j6 hp.C) (hG.j6 hp.C)) fun w6 hp=>?_);have ck:w6.cell? ⟨db,0+1,_⟩=some (.int _ _):=hp.cell 3 O O;rw[oi] at ck;refine jL (jB O ?_);refine qA (wlp (qAq hp 2 O O O (xG O).1 (xG (t:=162) O).2.1 (xG (t:=162) O).2.2) ((qBv _ _).trans (aQ _ ya)) ?_);refine gA3 ?_;refine qH O O1 (fun _=>qA ?_);refine tJ (tO (qAk hp 2 O O O O (xG O).1 (xG (t:=162) O).2.1) fun w7 hp=>?_);have hp:Hp W [] w7 [_,_,_,_]:=hp;rw[jB3 xf] at hp;have c3:w7.drew.cell? ⟨eb,0+3,_⟩=some (.slice _ _ e.cP):=hp.N.cell 0 O O;rw[hq,hz,ht] at c3;have c4:w7.drew.cell? ⟨eb,0+4,_⟩=some (.slice _ _ e.cW):=hp.N.cell 0 O O;rw[o1,o2,h3] at c4;have c5:w7.drew.cell? ⟨eb,0+5,_⟩=some (.slice _ _ e.cG):=hp.N.cell 0 O O;refine qR ?_;refine jU jG O3 (fun w'=>w'.cell? _=some _∧w'.cell? _=some _∧w'.cell? _=some _) ⟨c3,c4,c5⟩ ?_;have hp:=hp.N;refine qX ?_;apply wdp;exact O;intro w hg;exact qS O O hg.1;exact fS O;refine tK (jOg [] _ 0 _ (fun i x hx=>by grind) O2 (fun _=>O)) ?_;rintro _ w8 ⟨s8,c8,rfl,_,h4⟩;have h5:=h4.C;refine⟨⟨h5.cell c3 O4,h5.cell c4 O4,h5.cell c5 O4⟩,?_⟩;have hp:=hp.call h5;have c3:=h5.cell c3 O4;have c4:=h5.cell c4 O4;have c5:=h5.cell c5 O4;clear h5 h4;refine qX ?_;apply wdp;exact O;intro w hg;exact qS O O hg.2.1;exact fS O;refine tK (jVw [] _ 0 _ O2 (fun i x hx=>by grind)) ?_;rintro _ w9 ⟨⟨s9,c9,rfl⟩,h5⟩;refine⟨⟨h5.cell c3 O4,h5.cell c4 O4,h5.cell c5 O4⟩,?_⟩;have hp:=hp.call h5;have c3:=h5.cell c3 O4;have c4:=h5.cell c4 O4;have c5:=h5.cell c5 O4;clear h5;refine qX ?_;apply wdp;exact O;intro w hg;exact qS O O hg.2.2;exact fS O;refine tK (jVw _ _ _ _ O1 (hG.j6 hp.C)) ?_;rintro _ ur ⟨⟨sa,n4,rfl⟩,h5⟩;refine⟨⟨h5.cell c3 O4,h5.cell c4 O4,h5.cell c5 O4⟩,?_⟩;have hp:=hp.call h5;clear c3 c4 c5 h5;refine qX ?_;refine tS fun gg hp=>?_;refine qX ?_;refine tS fun gh hp=>?_;refine qX ?_;refine tS fun gm hp=>?_;obtain⟨e2,lc⟩:∃e2:EW,e2=⟨e.id,e.cl,e.fa,s8,0,c8,s9,0,c9,sa,n4,e.G⟩:=⟨_,O⟩;have hp:=hp.norm 0 (eEn e2) O (by rw[lc];rfl);have hp:Hp W [] _ [_,_,_,_]:=hp;refine qU (qR ?_);refine jM (wlp (qL O O O O (hp.j3 0 O O)) (O:_=e2.v) ?_);refine tF (jC (cs:=eEn e2) hp O O O O O O O) fun gj nb hp=>tFb (jV _ A e2 hp 2 0 O O O O O O (fun _=>O) (by rw[yd];rfl) O O xi O O O1) fun gn s' c'⟨hn,hp⟩=>?_;have hp:=hp.H.H;have zh:(A++[e2]).length=i+1:=by rw[aY,yd];rfl
  rw[zh];refine gA7 ?_;exact⟨(i+1,s',c',A++[e2]),qB O5 O,⟨O1,zh,hn,hp⟩,O1⟩
 obtain rfl:i=l.length:=O1;refine qA ?_;exact xU O O O ⟨_,O,⟨sA,cA,O⟩,hp.C⟩
theorem r31(d:DW)(s:Option Addr)(c:Nat)(l:List EW)(W:World)(hD:DE d s l W)(hd:DP d)(he:∀e∈l,EP e)(ln:(l.map (·.id)).Nodup):
  Rk 31 [d.v,.slice s l.length c] W (Iv 0):=by
 refine tW func31 ntmps31 fun hp=>?_;refine qR ?_;refine tQ fun w1 db hp=>?_;refine tR qY (qR ?_);refine wlp (qL O O O O (hp.j3 0 O O)) (O:_=d.v) (tC (r93 d _ hd (hD.q.j6 hp.C)) fun w2 hp=>?_);refine qA (qN O ?_);refine qR (wlp (qL O O O O (hp.j3 0 O O)) (O:_=d.v) ?_);refine wlp qP (O:_=Value.slice s _ c) (tK (r94 d s c l _ (hD.j5 hp.C) hd he ln hD.le) ?_);rintro _ w3 ⟨⟨sA,cA,rfl⟩,hk⟩;have hp:=hp.call hk;refine qA ?_;refine qH O O1 (fun _=>tV ?_);exact mB0
end
open Go.Eng Go.Dig Go.Lp Go.Qu
variable{i k:Nat}
structure PlA where
 sP:Option Addr
 cP:Nat
 gp:Nat→Option Addr×Nat
 sN:Option Addr
 cN:Nat
 sL:Option Addr
 cL:Nat
def PlA.L(a:PlA)(T n nl:Nat)(b:Int):List Value:=[Iv 3,.string (ofN T),Iv b,.slice a.sP n a.cP,.slice a.sN n a.cN,.slice a.sL nl a.cL]
def plT(m:List (List Nat×Rat)):Nat:=qCj (wF m) m.length
def plN(m:List (List Nat×Rat)):Nat→Nat:=qBf (wF m) m.length
structure PlAt(a:PlA)(m:List (List Nat×Rat))(w:World):Prop where
 P:SlAt w 1 jO a.sP (phM a.gp m)
 p:∀j,j<m.length→SlAt w 1 eN (a.gp j).1 (pF m j)
 N:SlAt w 1 eSt a.sN (lm m.length (plN m))
theorem PlAt.j5{a:PlA}{m:List (List Nat×Rat)}{w w':World}(h:PlAt a m w)(hk:Keeps [] w w'):PlAt a m w':=⟨h.P.j6 hk,fun j hj=>(h.p j hj).j6 hk,h.N.j6 hk⟩
section
variable {F:List Nat→Prop}{κ:Nat}{m:List (List Nat×Rat)}
theorem MixG.num(h:MixG F κ m)(hi:i<m.length):((plN m i:Nat):Rat)=wF m i*(plT m:Nat):=qY8 hi (sAg (h.get hi).2.1)
theorem qG5:0<plT m:=qN5 _ _
theorem MixG.pos(h:MixG F κ m)(hi:i<m.length):plN m i≠0:=fun e=>by
 have h1:=h.num hi;rw[e] at h1;have h2:(0:Rat)<(plT m:Nat):=by exact_mod_cast qG5
 have h3:=oH (h.get hi).2.1 h2;grind
theorem MixG.tot(h:MixG F κ m):sN (plN m) m.length=plT m:=by
 have h1:=qQ5 (f:=plN m) _ (fun i hi=>h.num hi);rw[qPq,h.sum] at h1;have h2:(sN (plN m) m.length:Nat)=((plT m):Rat):=by grind
 exact_mod_cast h2
theorem MixG.x6(h:MixG F κ m)(hκ:κ≤6000000000):Fit (plT m):=by
 have h1:plT m<_:=qIq (fun i hi=>(h.get hi).2.2) O1;have h2:=h.len;have h3:=cF hκ h2;exact Fit.of h1 O1
theorem MixG.aA5(h:MixG F κ m)(hκ:κ≤6000000000)(hk:k≤m.length):Fit (sN (plN m) k):=(h.x6 hκ).le (by rw[←h.tot];exact jVd _ hk)
theorem MixG.aA6(h:MixG F κ m)(hκ:κ≤6000000000)(hk:k<m.length):Fit (plN m k):=(h.aA5 hκ hk).le (Nat.le_add_left _ _)
def plC(m:List (List Nat×Rat))(e i:Nat):Nat:=if e∈pF m i then plN m i else 0
theorem qVt(e:Nat):∀k,sN (plC m e) k≤sN (plN m) k
 |0=>bM _
 |k+1=>by
  have:=qVt e k;simp only[sN];have h2:plC m e k≤plN m k:=by
   unfold plC;split
   ·omega
   exact bN _
  omega
theorem MixG.chan(h:MixG F κ m)(e:Nat):mkRat (sg false (sN (plC m e) m.length)) (plT m)=jE m e:=by
 have h1:=qQ5 (f:=plC m e) (g:=fun i=>if e∈pF m i then wF m i else 0) _ (fun i hi=>by
  have h2:=h.num hi;by_cases hm:e∈pF m i
  ·simp[plC,if_pos hm];exact h2
  simp only[plC,if_neg hm];simp)
 rw[qO7] at h1;have h2:((plT m):Rat)≠0:=by
  have:(0:Rat)<((plT m:Nat):Rat):=by exact_mod_cast qG5
  grind
 show mkRat (sN (plC m e) m.length:Nat) _=_
 rw[gE,iK,h1];grind
end
attribute [local irreducible] PV StepF wpl wpd WP Ret
attribute [local irreducible] Fit ofN qBf qCj
set_option maxHeartbeats 2000000 in
theorem zBj(a:PlA)(d:DW)(s:Option Addr)(l:List EW)(c κ nl:Nat)(b:Int)(m:List (List Nat×Rat))(W:World)(hD:DE d s l W)(oi:d.kd=3)(hz:0≤d.sz)(hM:MixG (FsP d l) κ m)(hκ:κ≤6000000000)(hA:PlAt a m W):
  Rk 113 [.agg (a.L (plT m) m.length nl b++(d.L++[Value.slice s l.length c])).toArray] W (.bool true):=by
 have hV:=hM.len;refine tW func113 ntmps113 fun hp=>?_;refine qR (tF (kW (cs:=a.L _ _ nl b++(d.L++[_])) (m:=20) hp O O O) fun w1 sb hp=>?_);refine qR ?_;refine tR qY (qR ?_);refine jM (wlp (qL O O O O (qOl (hp.j3 0 O O))) O ?_);refine tQ fun w2 b3 hp=>?_;refine tS fun w3 hp=>?_;have hp:=hp.norm 0 (a.L _ _ nl b) O O;have hp:Hp W [] w3 [blk b3 6 _ 39,blk sb 20 _ 108]:=hp;refine qA ?_;refine xI O O1 (fun _=>tL (c13 0 _ O2) ?_);rintro _ w4 ⟨rfl,hk⟩;have hp:=hp.call hk;refine qA (qQ ([2,4,5,6]++range' 20 24) (fun k F=>(F.put 4 (.string (ofN (sN (plN m) k)))).put 20 (.int _ k)) (fun k w'=>k≤m.length∧Hp W [] w' _) (fun k=>m.length-k) 0 (qB (qB (Same.eq .refl) O) O) ⟨O1,hp⟩ ?_);clear hp;rintro u k w5 ⟨hk,hp⟩;refine tI (fun h=>?_) fun h=>?_
 ·have hl:k<m.length:=O1;obtain⟨bn,on,e8,hg⟩:=jR hA.N hl;have ht:=hg 0 _ O;obtain⟨bp,op,h7,hm⟩:=jR hA.P hl;have hq:=hm 0 _ O;have hh:=hA.p k hl;have hF:=(hM.get hl).1;have zv:=aB (hM.pos hl);refine qA ?_;refine jW jG O3 (fun w'=>Hp W [] w' _) hp.N ?_;have hp:=hp.N;refine qX ?_;refine tK (jVr _ _ (hM.aA6 hκ hl)) ?_;rintro _ w6 ⟨rfl,bu⟩;refine⟨hp.call bu,?_⟩;have hp:=hp.call bu;rw[zv];refine xA ?_;refine tK (jVz d s _ c _ l _ _ (hD.j5 hp.C) oi hz hF (hh.j6 hp.C)) ?_;rintro _ w7 ⟨rfl,hj⟩;refine⟨hp.call hj,?_⟩;have hp:=hp.call hj;refine xA (qU ?_);refine tJ ?_;refine tC (c17 _ _ _ (hM.aA5 hκ hk) (hM.aA6 hκ hl)) fun w8 hp=>?_;exact mBs
 obtain rfl:k=m.length:=O1;have hn:decide (plT m=0)=_:=aB (by have:=qG5 (m:=m);omega);rw[hM.tot];refine tD (jVr _ _ (hM.x6 hκ)) fun w6 hp=>?_;rw[hn];refine tE (c47 _ _ _ (hM.x6 hκ) (hM.x6 hκ)) fun w7 hp=>?_;rw[if_neg O1,if_pos O];exact mE6
set_option maxHeartbeats 2000000 in
theorem r42(a:PlA)(d:DW)(s:Option Addr)(l:List EW)(c κ nl:Nat)(m:List (List Nat×Rat))(W:World)(hD:DE d s l W)(hd:DP d)(he:∀e∈l,EP e)(ln:(l.map (·.id)).Nodup)(hM:MixG (FsP d l) κ m)(hκ:κ≤6000000000)(hA:PlAt a m W):
  Rk 42 [.agg (a.L (plT m) m.length nl (yY (plT m))++(d.L++[Value.slice s l.length c])).toArray] W (.bool true):=by
 have oi:=hd.kd;have hg:=hd.sz;refine tW func42 ntmps42 fun hp=>?_;refine qR (tF (kW (cs:=a.L _ _ nl _++(d.L++[_])) (m:=20) hp O O O) fun w1 sb hp=>?_);refine tD (r31 d s c l _ (hD.j5 hp.C) hd he ln) fun w2 hp=>?_;have ck:w2.cell? ⟨sb,0+6+1,_⟩=some (.int _ _):=hp.cell 0 O O;rw[oi] at ck;refine jL (qN O ?_);refine jL (jB O ?_);refine qR (wlp (qL O O O O (hp.j3 0 O O)) O ?_);refine tC (zBj a d s l c κ nl _ m _ (hD.j5 hp.C) oi O1 hM hκ (hA.j5 hp.C)) fun w3 hp=>?_;refine qA (qN O ?_);refine qR ?_;refine jW jG O3 (fun w'=>Hp W [] w' _) hp.N ?_;have hp:=hp.N;refine qX ?_;refine tK (r35 _ _ (hM.x6 hκ)) ?_;rintro _ w4 ⟨rfl,qs⟩;refine⟨hp.call qs,?_⟩;have hp:=hp.call qs;refine wdp O (fun w hp=>zW O O) (qV (aD O)) (qX ?_);refine qU (qA ?_);exact mAb
set_option maxHeartbeats 4000000 in
theorem r10(a:PlA)(d:DW)(s:Option Addr)(l:List EW)(c κ nl e:Nat)(m:List (List Nat×Rat))(W:World)(hD:DE d s l W)(hd:DP d)(he:∀e∈l,EP e)(ln:(l.map (·.id)).Nodup)(hM:MixG (FsP d l) κ m)(hκ:κ≤6000000000)(hA:PlAt a m W)(hq:e<l.length):
  Rk 10 [.agg (a.L (plT m) m.length nl (yY (plT m))).toArray,d.v,.slice s l.length c,Iv (e:Int)] W (.tuple #[QV (jE m e),.bool true]):=by
 have oi:=hd.kd;have hV:=hM.len;have yw:=hD.le;have d1:decide ((e:Int)<0)=_:=aB O1;have d2:decide ((e:Int)≥l.length)=_:=aB O1;refine tW func10 ntmps10 fun hp=>?_;refine qR ?_;refine tQ fun w1 b4 hp=>?_;have hp:=hp.norm 0 (a.L _ _ nl _) O O;refine tQ fun w2 b5 hp=>?_;have hp:=hp.norm 0 d.L O O;refine tQ fun w3 b8 hp=>?_;have hp:Hp W [] w3 [blk b8 3 (qE eQ0) 49,blk b5 13 _ 28,blk b4 6 _ 39]:=hp;refine qR ?_;refine tR qY (qR ?_);refine wlp (qL O O O O (hp.j3 2 O O)) O (wlp (qL O O O O (hp.j3 1 O O)) (O:_=d.v) ?_);refine wlp qP (O:_=Value.slice s _ c) (wlp (qE4 (zs:=[_,_,_,_,_,_,_,_,_,_,_,_,_,_,_,_,_,_,_,_]) (pl:=[(0,6),(6,13),(19,1)]) (pl':=[]) Tryz.underlying108 (qJ O) (fun w=>O3) O O O) (O:_=Value.agg (a.L _ _ nl _++(d.L++[Value.slice s _ c])).toArray) ?_);refine tF (zE (cs:=[_,_,_,_,_,_,_,_,_,_,_,_,_,_,_,_,_,_,_,_]) (m:=20) hp (qJ O) O O) fun w4 sb hp=>tO (zH (cs:=(a.L _ _ nl _++(d.L++[_]))) hp 0 O O O O (qD O) O O) fun w5 hp=>?_;have hp:=hp.norm 0 (a.L _ _ nl _++(d.L++[Value.slice s _ c])) O O;have hp:Hp W [] w5 [blk sb 20 _ 108,_,_,_]:=hp;refine jL ?_;rw[d1];refine jL ?_;rw[d2];refine tE (r42 a d s l c κ nl m _ (hD.j5 hp.C) hd he ln hM hκ (hA.j5 hp.C)) fun w6 hp=>?_;refine jL (qN O ?_);have ck:w6.cell? ⟨b5,0+1,_⟩=some (.int _ _):=hp.cell 2 O O;rw[oi] at ck;refine gA3 ?_;refine tJ ?_;refine tK (c13 0 _ O2) ?_;rintro _ w7 ⟨rfl,hk⟩;have hp:=hp.call hk;have hp:=hp;refine qA (qQ ([18,19,20]++range' 87 16) (fun k F=>(F.put 18 (.string (ofN (sN (plC m e) k)))).put 87 (.int _ k)) (fun k w'=>k≤m.length∧Hp W [] w' _) (fun k=>m.length-k) 0 (qB (qB (Same.eq .refl) O) O) ⟨O1,hp⟩ ?_);clear hp;rintro u k w8 ⟨hk,hp⟩;refine tI (fun h=>?_) fun h=>?_
 ·have hl:k<m.length:=O1;obtain⟨bn,on,e8,hg⟩:=jR hA.N hl;have hy:=hg 0 _ O;obtain⟨bp,op,h7,hm⟩:=jR hA.P hl;have ht:=hm 0 _ O;have hh:=hA.p k hl;have hF:=(hM.get hl).1;have xv:(pF m k).length≤1000000:=by
   exact mDk
  have hj:=fun w' h=>r47 ((pF m k).map fun x:Nat=>x) (a.gp k).1 (a.gp k).2 e w' h (by grind)
  rw[aM,jEp] at hj;have hx:=(hM.aA5 hκ hk).le (qVt e k);refine tD (hj _ (jV5 (hh.j6 hp.C))) fun w9 hp=>?_;refine tI (fun h3=>?_) fun h3=>?_
  ·have e1:sN (plC m e) (k+1)=sN (plC m e) k+plN m k:=by
    simp only[sN,plC,if_pos h3]
   refine tD (c17 _ _ _ hx (hM.aA6 hκ hl)) fun ur hp=>?_;rw[←e1];exact mBs
  have e1:sN (plC m e) k=sN (plC m e) (k+1):=by
   simp only[sN,plC,if_neg h3,iF]
  refine gA5 ?_;exact⟨_,qB (qB O5 (aQ (fun z=>Value.string _) e1)) O,⟨O1,hp⟩,O1⟩
 obtain rfl:k=m.length:=O1;have hx:=(hM.aA5 hκ O1).le (qVt e _);have hn:=r9 false (sN (plC m e) m.length) (plT m);rw[hM.chan] at hn;refine tD (r49 _ _ (hM.x6 hκ)) fun w9 hp=>?_;refine tC (hn _ hx (hM.x6 hκ) qG5) fun ur hp=>?_;refine tT fun gg hp=>?_;exact mE8
end Go.Proofs.YtplkndjlfkkjlaaGreatDoor
namespace Go.Lp
open List (range range' replicate)
def msk:List Nat→Nat
 |[]=>0
 |i::P=>2^i+msk P
theorem jK6:msk []=0:=O
theorem qDk(A:List Nat)(x:Nat):msk (A++[x])=msk A+2^x:=by
 induction A with
 |nil=>show 2^x+0=0+2^x;omega
 |cons i A ih=>
  show 2^i+msk (A++[x])=2^i+msk A+2^x
  omega
theorem qXh(P:List Nat):P=[]∨∃A x,P=A++[x]:=by
 rcases iV P with h|⟨A,x,h⟩
 ·grind
 grind
theorem qR1:∀(n:Nat) (P:List Nat) (x:Nat),P.length=n→P.Pairwise (·<·)→(∀i∈P,i<x)→msk P<2^x
 |n,P,x,hn,hs,hl=>by
  rcases qXh P with rfl|⟨A,y,rfl⟩
  ·exact nR x
  have hj:=eY.1 hs;have h1:=qR1 _ A y O hj.1 (fun i hi=>hj.2.2 i hi y O4);have h2:2^(y+1)≤2^x:=aR O2 (hl y O4);rw[qDk];omega
termination_by n=>n
decreasing_by
 grind
theorem qYf:∀(n:Nat) (P Q:List Nat),P.length=n→P.Pairwise (·<·)→Q.Pairwise (·<·)→msk P=msk Q→P=Q
 |n,P,Q,hn,hP,hQ,e=>by
  rcases qXh P with rfl|⟨A,x,rfl⟩
  ·rcases qXh Q with rfl|⟨B,y,rfl⟩
   ·rfl
   rw[qDk] at e;have:=nR y;have e0:msk []=0:=O;omega
  rcases qXh Q with rfl|⟨B,y,rfl⟩
  ·rw[qDk] at e;have:=nR x;have e0:msk []=0:=O;omega
  have hg:=eY.1 hP;have hh:=eY.1 hQ;have h1:=qR1 _ A x O hg.1 (fun i hi=>hg.2.2 i hi x O4);have h2:=qR1 _ B y O hh.1 (fun i hi=>hh.2.2 i hi y O4);rw[qDk,qDk] at e;have ft:x=y:=by
   rcases Nat.lt_trichotomy x y with h|h|h
   ·have:2^(x+1)≤2^y:=aR O2 h;omega
   ·exact h
   have:2^(y+1)≤2^x:=aR O2 h;rw[dD] at this;omega
  subst ft;rw[qYf _ A B O hg.1 hh.1 O1]
termination_by n=>n
decreasing_by
 grind
def qNw(m:List (List Nat×Rat))(k a:Nat):Bool:=(range k).any fun j=>decide (msk (pF m j)=a)
theorem qMc{m:List (List Nat×Rat)}{k a:Nat}:qNw m k a=true↔∃j,j<k∧msk (pF m j)=a:=by
 unfold qNw;simp
end Go.Lp
namespace Go.Eng
open List (range range' replicate)
def kU64:KeyEnc Nat where
 kd:=.int .u64
 enc a:=.int .u64 (a:Int)
 same a b:=by
  simp[Instr.sameNow];grind
 bits a:=by simp[Instr.sameBits]
 plain P w e t a h:=by
  exact mEu
end Go.Eng
namespace Go.Proofs.YtplkndjlfkkjlaaGreatDoor
open List (range range' replicate)
open Go.Proofs.Tryz
section
open Go.Eng Go.Dig Go.Lp Go.Qu
section
variable {P:Program}{n:FrK}{w:World}{F:Fr}{d:Option Tmp}{ty:TypeId}{pos:String}{aft:Array Edge}{g:Option (Nat×Bool)}{x y:Operand}{t t':Nat}
theorem jJt{a k:Nat}(hx:ev n F x= .int .u64 (a:Int))(hy:ev n F y= .int .u64 ((2^k:Nat):Int))(ha:a<2^k)(hk:k<64):PV P n w F ⟨d,.binOp .or t x y t',ty,pos,aft,g⟩ (.int .u64 ((a+2^k:Nat):Int)):=by
 have hb:2^k<_:=iD O2 hk;have h1:(BitVec.ofInt 64 a|||BitVec.ofInt 64 (2^k:Nat)).toNat=a+2^k:=by
  rw[sBr,kG 64 a O1,kG 64 (2^k) hb,rV,oM];have h:=sAh ha 1;rw[oB] at h;exact h.symm
 have h2:a+2^k<18446744073709551616:=by
  have:2^(k+1)≤2^64:=aR O2 hk;rw[dD] at this;omega
 have h3:=wU h2;simp only[PV,execOp,hx,hy,eqGuard,binOp,Op.intBits];show Sem.run P (pure (Next.value (Value.int _ (IntKind.u64.wrap ((BitVec.ofInt 64 _|||BitVec.ofInt 64 _).toNat))))) w=_
 rw[h1,h3];rfl
end
attribute [local irreducible] PV StepF wpl wpd WP Ret
attribute [local irreducible] Fit msk
set_option maxRecDepth 20000 in
set_option maxHeartbeats 2000000 in
theorem r50(d:DW)(s sP:Option Addr)(l:List EW)(c cP κ:Nat)(gp:Nat→Option Addr×Nat)(m:List (List Nat×Rat))(W:World)(hD:DE d s l W)(oi:d.kd=3)(hz:0≤d.sz)(hM:MixG (FsP d l) κ m)(hP:SlAt W 1 jO sP (phM gp m))(hr:∀j,j<m.length→SlAt W 1 eN (gp j).1 (pF m j)):
  Rk 50 [d.v,.slice s l.length c,.slice sP m.length cP] W (.bool true):=by
 have yw:=hD.le;have hV:=hM.len;have mT:Tryz.prog.underlying 200=some (.map 139 4):=O3;have mK:Tryz.prog.underlying 139=some kU64.kd:=O3;refine tW func50 ntmps50 fun hp=>?_;refine qR ?_;refine tQ fun w1 bd hp=>?_;have hp:=hp.norm 0 d.L O O;refine qA (tF (yS kU64 hp) fun w2 mb hp=>?_);have hp:Hp W [] w2 [yA kU64 mb (uE (qNw m 0)),blk bd 13 (qE d.L) 28]:=by
  rw[qBm (qNw m 0) (fun a=>O)];exact hp
 refine qA (qQ ([6,9,10,12]++range' 16 26) (fun(k:Nat) F=>F.put 16 (.int _ k)) (fun k w'=>k≤m.length∧Hp W [] w' [yA _ mb (uE (qNw m k)),_]) (fun k=>m.length-k) 0 (qB (Same.eq .refl) O) ⟨O1,hp⟩ ?_);clear hp;rintro u k w3 ⟨hk,hp⟩;refine tI (fun h=>?_) fun h=>?_
 ·have hl:k<m.length:=O1;obtain⟨bp,op,h7,hn⟩:=jR hP hl;have h3:W.cell? ⟨bp,op+k*1,_⟩=some (.slice (gp k).1 (pF m k).length (gp k).2):=hn 0 _ O;have hh:=hr k hl;have hF:=(hM.get hl).1;have xv:(pF m k).length≤40:=by
   exact mDk
  refine tD (jVz d s _ c _ l _ _ (hD.j5 hp.C) oi hz hF (hh.j6 hp.C)) fun w4 hp=>?_;refine gA3 ?_;refine qQ ([10,12]++range' 27 9) (fun j F=>(F.put 10 (.int _ (msk ((pF m k).take j):Nat))).put 27 (.int _ j)) (fun j w'=>j≤(pF m k).length∧Hp W [] w' _) (fun j=>(pF m k).length-j) 0 (qB (qB (Same.eq .refl) (by rw[List.take_zero,jK6];rfl)) O) ⟨O1,hp⟩ ?_;clear hp;rintro u2 j w5 ⟨hj,hp⟩;refine tI (fun h2=>?_) fun h2=>?_
  ·have bB:j<(pF m k).length:=O1;obtain⟨x,hx⟩:∃x,(pF m k)[j]? =some x:=⟨_,aA bB⟩;have e1:=hF.lt x (aI hx);obtain⟨bs,os,hg,hc⟩:=hh j x hx;have yq:=hc 0 _ O;obtain⟨hS,ex⟩:=aH.1 hx;have hy:msk ((pF m k).take j)<2^x:=by
    refine qR1 _ _ x O (hF.srt.sublist (sA4 _ _)) (fun i hi=>?_);obtain⟨q,hq,e⟩:=lF.1 hi;have h1:=hF.srt;rw[dP] at h1;have:=h1 q j O1 hS O1;omega
   have dx:msk ((pF m k).take (j+1))=msk ((pF m k).take j)+2^x:=by
    rw[aG hS,ex,qDk]
   have ui:1*2^x<18446744073709551616:=by
    have:2^x<2^64:=iD O2 O1;omega
   refine qA (wlp (qB7 O O O1 ui) (qF (by rw[lR])) ?_);refine wlp (jJt O O hy O1) O ?_;rw[←dx];refine gA8 ?_;exact mA8
  obtain rfl:j=(pF m k).length:=O1;rw[dE];have ya:qNw m k (msk (pF m k))=false:=by
   rw[Bool.eq_false_iff];intro hm;obtain⟨j,hj,e⟩:=qMc.1 hm;have h1:=(hM.get (sBi hj hl)).1;have e2:=qYf _ _ _ O h1.srt hF.srt e;have g1:=qL5 (aA (sBi hj hl));have g2:=qL5 (aA hl);have ln:=hM.nd;rw[dZ,dP] at ln;refine ln j k (by grind) (by grind) hj ?_;rw[mF,mF,←g1.2,←g2.2,e2]
  refine qA (wlp (qAq hp 0 O O O mT mK (qJ O)) ((qBv _ _).trans (aQ _ ya)) ?_);refine qA ?_;refine tJ (tO (qAk hp 0 O O O O mT mK) fun w6 hp=>?_);have eS:(fun a=>decide (a=msk (pF m k))||qNw m k a)=qNw m (k+1):=by
   funext a;rw[iG,fQ,dL,qMc,qMc];constructor
   ·grind
   rintro⟨j,hj,e⟩;by_cases ht:j=k
   ·grind
   exact .inr ⟨j,O1,e⟩
  rw[eS] at hp;exact mBs
 refine qA ?_;exact mAb
end
section
open Go.Eng Go.Dig Go.Lp Go.Qu
attribute [local irreducible] PV StepF wpl wpd WP Ret
attribute [local irreducible] Fit
set_option maxHeartbeats 2000000 in
theorem r55(n:Nat)(sP sV:Option Addr)(cP cV κ:Nat)(gp:Nat→Option Addr×Nat)(m:List (List Nat×Rat))(W:World)(hF:∀k,k<m.length→(pF m k).Pairwise (·<·)∧∀i∈pF m k,i<n)(hb:∀k i,BQ κ (jE (m.take k) i))(hw:∀k,k<m.length→BQ κ (wF m k))(hκ:κ≤6000000000)(hn:n≤1000)(hm:m.length≤1000)(hA:MxAt sP gp sV m W):
  Rt 55 [Iv (n:Int),.slice sP m.length cP,.slice sV m.length cV] W (fun v w'=>∃g,v= .slice (Ad g) n n∧SVL (Ad g) n (lm n (jE m))∧Hp W [] w' [qG eQ 49 3 (Ad g) n (lm n (jE m))]):=by
 refine tW func55 ntmps55 fun hp=>?_;refine qA ?_;refine tF (qLg eOQ none hp O O O O O O O O1) fun w1 g⟨hv,hp⟩=>?_;rw[qAn] at hp hv;have sc:∀f:Nat→Option Rat,SVL _ n (lm n f):=fun f=>jZ hv (by rw[qT,qT])
 have sa:∀f:Nat→Rat,SVL _ n (lm n f):=fun f=>jZ hv (by rw[qT,qT])
 rw[qMf (f:=fun i=>some ((fun _=>0) i))] at hp;have hp:=hp;refine qA (qQ ([8]++range' 17 8) (fun(k:Nat) F=>F.put 17 (.int _ k)) (fun k w'=>k≤n∧Hp W [] w' [qG _ 49 3 _ n (lm n fun i=>if i<k then some ((fun _=>0) i) else none)]) (fun k=>n-k) 0 (qB (Same.eq .refl) O) ⟨O1,hp⟩ ?_);clear hp;rintro u k w2 ⟨hk,hp⟩;refine tI (fun h=>?_) fun h=>?_
 ·have hl:k<n:=O1;refine tD (wM _) fun w3 hp=>?_;refine qA (tO (vL _ _ k (some ((fun _=>0) k)) hp 0 O (sc _) (by rw[qT];omega) O O qKx O O (qD O)) fun w4 hp=>?_);rw[qTq] at hp;exact mBs
 obtain rfl:n=k:=O1;rw[qMe,qTf] at hp;have hp:Hp W [] w2 [qG eQ 49 3 _ n (lm n (jE (m.take 0)))]:=hp;refine qA (qQ ([9,10,12]++range' 27 25) (fun(k:Nat) F=>F.put 27 (.int _ k)) (fun k w'=>k≤m.length∧Hp W [] w' [qG eQ 49 3 _ n (lm n (jE (m.take k)))]) (fun k=>m.length-k) 0 (qB (Same.eq .refl) O) ⟨O1,hp⟩ ?_);clear hp;rintro u2 k w3 ⟨hk,hp⟩;refine tI (fun h2=>?_) fun h2=>?_
 ·have hl:k<m.length:=O1;obtain⟨bp,op,h7,ht⟩:=jR hA.P hl;have h4:W.cell? ⟨bp,op+k*1,_⟩=some (.slice (gp k).1 (pF m k).length (gp k).2):=ht 0 _ O;obtain⟨bw,ow,qb,hy⟩:=jR hA.V hl;have hh:=hA.p k hl;obtain⟨xp,h5⟩:=hF k hl;have xv:(pF m k).length≤1000:=by
   have:=uK xp (fun i _=>bN i) h5;omega
  refine qA ?_;have hp:Hp W [] w3 [qG eQ 49 3 (Ad g) n (lm n fun i=>if i∈(pF m k).take 0 then jE (m.take (k+1)) i else jE (m.take k) i)]:=by
   rw[jH (g:=jE (m.take k)) (fun i _=>if_neg O4)];exact hp
  refine qQ ([12]++range' 34 17) (fun(j:Nat) F=>F.put 34 (.int _ j)) (fun j w'=>j≤(pF m k).length∧Hp W [] w' [qG eQ 49 3 _ n (lm n fun i=>if i∈(pF m k).take j then jE _ i else jE _ i)]) (fun j=>(pF m k).length-j) 0 (qB (Same.eq .refl) O) ⟨O1,hp⟩ ?_;clear hp;rintro u3 j w4 ⟨hj,hp⟩;refine tI (fun h3=>?_) fun h3=>?_
  ·have bB:j<(pF m k).length:=O1;obtain⟨x,hx⟩:∃x,(pF m k)[j]? =some x:=⟨_,aA bB⟩;have nh:=aI hx;have hz:=h5 x nh;obtain⟨bs,os,hg,hc⟩:=hh j x hx;have yq:=hc 0 _ O;obtain⟨hS,ex⟩:=aH.1 hx;have h8:x∉(pF m k).take j:=fun hm=>by
    obtain⟨q,hq,e⟩:=lF.1 hm;have h1:=xp;rw[dP] at h1;grind
   have ya:jE (m.take k) x+wF m k=jE (m.take (k+1)) x:=by
    rw[qFp hl,if_pos nh]
   have h6:∀w',Hp W [] w' [qG eQ 49 3 (Ad g) n (lm n fun i=>if i∈(pF m k).take j then jE (m.take (k+1)) i else jE (m.take k) i)]→∀q v,(eQ (jE (m.take k) x))[q]? =some v→w'.cell? ⟨g,0+x*3+q,none⟩=some v:=fun w' hp q v e=>by
    have:=zM (qZ hp 0 O (sa _) jT) hz q v;grind
   subst qb;refine qA ?_;refine xL 12 O jG O3 (fun w'=>Hp W [] w' _) hp.N ?_;have hp:=hp.N;refine qX (tP (fun w hp=>qL O O O O (h6 _ hp)) ?_);refine qX ?_;refine tP (fun w hp=>qL O O O O (fun q v e=>hp.j7 (hy q v e))) (tK (r44 _ (hb k x) (hw k hl) O1) ?_);rintro _ w5 ⟨rfl,gl⟩;refine⟨hp.call gl,?_⟩;have hp:=hp.call gl;refine qX (qU ?_);refine StepF.mono (vL eQ _ x _ hp 0 O (sa _) (by rw[qT];omega) O O jT O O (qD O)) ?_;rintro _ w6 ⟨rfl,hp⟩;have hp:Hp W [] w6 [_]:=hp
   rw[vF,jH (g:=fun i=>if i∈(pF m k).take (j+1) then jE (m.take (k+1)) i else jE (m.take k) i) (fun i _=>by
    rw[aG hS,ex];grind)] at hp
   refine gA8 ?_;exact mA8
  obtain rfl:j=(pF m k).length:=O1
  rw[dE,jH (g:=jE (m.take (k+1))) (fun i _=>by
   by_cases hi:i∈pF m k
   ·grind
   rw[if_neg hi,qFp hl,if_neg hi]
   grind)] at hp
  exact mBs
 obtain rfl:k=m.length:=O1;rw[dE] at hp;refine tV ?_;exact⟨_,O,g,O,sa _,hp⟩
set_option maxHeartbeats 2000000 in
theorem zBf(d:DW)(s sC sD sY:Option Addr)(l:List EW)(c cC cD cY κ:Nat)(q y:Nat→Rat)(dec:Nat→Bool)(W:World)(hD:DE d s l W)(oi:d.kd=3)(hz:0<d.sz)(hl:l.length≤5)(hex:∃P,FsP d l P)
  (hC:SlAt W 3 eQ sC (lm l.length q)) (h5:SlAt W 1 eBo sD (lm l.length dec)) (hY:SlAt W 3 eQ sY (lm l.length y)) (ug:∀i,i<l.length→0≤y i) (uk:∀i,i<l.length→BQ 34273200056 (y i)) (ut:∀i,i<l.length→BQ κ (q i)) (hκ:κ≤6000000000) (ma:sm l.length (fun i=>if dec i then 0 else y i)=1):
  Rt 125 [d.v,.slice s l.length c,.slice sC l.length cC,.slice sD l.length cD,.slice sY l.length cY] W (fun v w'=>v= .tuple #[QV (vU (FsP d l) y-sm l.length (fun i=>if dec i then y i*q i else 0)),.bool true]∧BQ 500000000000 (vU (FsP d l) y-sm l.length (fun i=>if dec i then y i*q i else 0))∧Keeps [] W w'):=by
 have h6:∀k,k≤_→BQ (1+k*(34273200056+1)) (sm k (fun i=>if dec i then 0 else y i)):=qLf (n:=l.length) (fun i hi=>by
  split
  ·exact BQ.zero O2
  exact uk i hi)
 have pm:∀k,k≤_→BQ _ (sm k (fun i=>if dec i then y i*q i else 0)):=qLf (n:=l.length) (fun i hi=>by
  split
  ·exact BQ.mul (uk i hi) (ut i hi)
  exact BQ.zero O1)
 have gl:∀k,k≤l.length→k*(34273200056+1)≤5*(34273200056+1)∧k*(34273200056+κ+1)≤5*(34273200056+6000000000+1):=fun k hk=>⟨O1,cF O1 O1⟩
 refine tW func125 ntmps125 fun hp=>?_;refine qR ?_;refine tQ fun w1 bd hp=>?_;have hp:=hp.norm 0 d.L O O;refine tQ fun w2 bc hp=>?_;have hp:Hp W [] w2 [blk _ 3 (qE eQ0) 49,blk bd 13 _ 28]:=hp;refine qA ?_;refine xI O O1 (fun _=>tD (wM _) fun w3 hp=>?_);refine tC (wM _) fun w4 hp=>?_;refine tQ fun w5 bf hp=>?_;refine tQ fun w6 bg hp=>?_;refine tS fun w7 hp=>?_;refine tS fun w8 hp=>?_;have hp:=(hp.norm 0 (eQ (sm 0 fun i=>if dec i then y i*q i else 0)) O O).norm 1 (eQ (sm 0 fun i=>if dec i then 0 else y i)) O O;have hp:Hp W [] w8 [blk _ 3 _ 49,blk _ 3 _ 49,_,_]:=hp;refine qA (qQ ([11,14,15]++range' 29 30) (fun(k:Nat) F=>F.put 29 (.int _ k)) (fun k w'=>k≤l.length∧Hp W [] w' [blk _ 3 (qE (eQ (sm k _))) 49,blk _ 3 (qE (eQ (sm k _))) 49,_,_]) (fun k=>l.length-k) 0 (qB (Same.eq .refl) O) ⟨O1,hp⟩ ?_);clear hp;rintro u k w9 ⟨hk,hp⟩;have h7:=gl k hk;have h3:=h6 k hk;have xc:=pm k hk;refine tI (fun h=>?_) fun h=>?_
 ·have hg:k<l.length:=O1;obtain⟨ba,oy,ij,si⟩:=jR hY hg;obtain⟨bq,oq,gu,hm⟩:=jR hC hg;obtain⟨be,oe,hM,h8⟩:=jR h5 hg;have h9:=h8 0 _ O;subst ij gu;refine qA (tR (qL O O O O (fun j v e=>hp.j7 (si j v e))) ?_);refine tQ fun ur bh hp=>?_;refine qR ?_;refine tR qY (tS fun gg hp=>?_);have hp:=hp.norm 0 (eQ _) O O;have hp:Hp W [] _ [blk _ 3 _ 49,_,_,_,_]:=hp;have fq:=BQ.fq (uk k hg) O2;have hq:decide (qAm (y k)<0)=false:=by
   refine aB ?_;have:=ug k hg;unfold qAm;split
   ·omega
   rw[if_neg (by grind)];omega
  refine tD (r51 _ fq) fun gh hp=>?_;refine tE (r52 _ fq) fun gm hp=>?_;refine jL ?_;rw[hq];refine gAa ?_;cases hdk:dec k with
  |true=>
   refine jB O ?_;have e1:sm (k+1) (fun i=>if dec i then y i*q i else 0)=sm k (fun i=>if dec i then y i*q i else 0)+y k*q k:=by
    simp only[sm,hdk,if_true]
   have e2:sm (k+1) (fun i=>if dec i then 0 else y i)=sm k (fun i=>if dec i then 0 else y i):=by
    simp only[sm,hdk,if_true];grind
   refine xL 8 O jG O3 (fun w'=>Hp W [] w' _) hp.N ?_;have hp:=hp.N;refine qX ?_;refine tP (fun w hp=>qL O O O O (fun j v e=>hp.j7 (hm j v e))) (tK (r24 _ (uk k hg) (ut k hg) O1) ?_);rintro _ gj ⟨rfl,hy⟩;refine⟨hp.call hy,?_⟩;have hp:=hp.call hy;refine tK (r44 _ xc (BQ.mul (uk k hg) (ut k hg)) O1) ?_;rintro _ gn ⟨rfl,h4⟩;refine⟨hp.call h4,?_⟩;have hp:=hp.call h4;refine qU ?_;refine StepF.mono (qW hp 1 O O O O (qD O) O) ?_;rintro _ hj ⟨rfl,hp⟩;have hp:=hp.norm 1 (eQ (sm _ _)) O (by rw[e1];rfl);have hp:=hp.H;rw[←e2] at hp;exact mBs
  |false=>
   refine qN O ?_;have e1:sm (k+1) (fun i=>if dec i then y i*q i else 0)=sm k (fun i=>if dec i then y i*q i else 0):=by
    simp only[sm,hdk];grind
   have e2:sm (k+1) (fun i=>if dec i then 0 else y i)=sm k (fun i=>if dec i then 0 else y i)+y k:=by
    simp only[sm,hdk];rfl
   refine tD (r44 _ h3 (uk k hg) O1) fun gj hp=>?_;refine tS fun hj hp=>?_;have hp:=hp.norm 2 (eQ (sm _ _)) O (by rw[e2];rfl);have hp:=hp.H;rw[←e1] at hp;exact mBs
 obtain rfl:k=l.length:=O1;have hh:(!decide (wH (sm l.length fun i=>if dec i then 0 else y i) 1=0))=false:=by
  rw[ma];rfl
 refine qR ?_;refine tX fun hp=>?_;refine qX ?_;refine tK (r25 1 _ O2 O2) ?_;rintro _ ur ⟨rfl,hH⟩;refine⟨hp.call hH,?_⟩;have hp:=hp.call hH;refine tK (r53 (k:=1) _ h3 (BQ.one O2) O1) ?_;rintro _ gg ⟨rfl,hx⟩;refine⟨hp.call hx,?_⟩;have hp:=hp.call hx;refine wdp O (fun w hp=>kB O O) (qV hh) (qU ?_);refine qN O (qR ?_);refine wlp (qL O O O O (hp.j3 3 O O)) (O:_=d.v) (wlp qP (O:_=Value.slice s _ c) ?_);refine qA ?_
 (apply wls;exact qC O qWm O (jVu d s sY c cY 34273200056 l y _ (hD.j5 hp.C) oi hz O1 (hY.j6 hp.C) uk O2 (by
  omega));rintro _ gh hn)
 rcases hn with⟨sP,cP,P,rfl,hP,hbest,hvP,hp2⟩|⟨rfl,hno,_⟩
 ·have hp:=hp.call hp2.C;clear hp2;have sy:=qJn hP hbest;have xv:P.length≤5:=by
   have:=uK hP.srt (fun i _=>bN i) hP.lt;omega
  have ht:BQ (1+5*(34273200056+1)) _:=(qY0 uk P hP.lt).mono (by
   omega)
  rw[sy];refine qA ?_;refine tQ fun gm bi hp=>?_;refine tT fun gj hp=>?_;refine tD (qKa _ ht xc O1) fun gn hp=>?_;refine tT fun hj hp=>?_;refine qA ?_;exact yP O O O O O (hp.j4 3 O O) ⟨_,O,O,(BQ.sub ht xc).mono O1,hp.C⟩
 obtain⟨P,hP⟩:=hex;exact absurd hP (hno P)
end
open Go.Eng Go.Dig Go.Lp Go.Qu
structure LvAt(sL:Option Addr)(lr:Nat→Option Addr×Nat)(n:Nat)(lv:List (Rat×(Nat→Rat)))(w:World):Prop where
 L:SlAt w 4 eLH sL (lH lr n lv)
 l:∀j,j<lv.length→SlAt w 3 eQ (lr j).1 (lm n (lv.getD j lv0).2)
theorem LvAt.j5{sL:Option Addr}{lr:Nat→Option Addr×Nat}{n:Nat}{lv:List (Rat×(Nat→Rat))}{w w':World}(h:LvAt sL lr n lv w)(hk:Keeps [] w w'):LvAt sL lr n lv w':=⟨h.L.j6 hk,fun j hj=>(h.l j hj).j6 hk⟩
attribute [local irreducible] PV StepF wpl wpd WP Ret
attribute [local irreducible] Fit
set_option maxHeartbeats 8000000 in
theorem r54(d:DW)(s sC sL:Option Addr)(l:List EW)(c cC cL κ:Nat)(q p:Nat→Rat)(lr:Nat→Option Addr×Nat)(lv:List (Rat×(Nat→Rat)))(W:World)(hD:DE d s l W)(oi:d.kd=3)(hz:0<d.sz)(hl:l.length≤5)(hex:∃P,FsP d l P)
  (hC:SlAt W 3 eQ sC (lm l.length q)) (hL:LvAt sL lr l.length lv W) (eu:lv.length≤1000) (uk:∀x∈lv,∀i,i<l.length→BQ 34273200056 (x.2 i)) (ut:∀i,i<l.length→BQ κ (q i)) (hκ:κ≤6000000000) (hn:prv l.length p (vU (FsP d l)) lv (fun _=>false) none):
  Rk 54 [d.v,.slice s l.length c,.slice sC l.length cC,.slice sL lv.length cL] W (.bool (decide (∀i,i<l.length→q i=p i))):=by
 have hE:(lH lr l.length lv).length=_:=qT;refine tW func54 ntmps54 fun hp=>?_;refine qR ?_;refine tQ fun w1 bd hp=>?_;have hp:=hp.norm 0 d.L O O;refine qA ?_;refine tF (yE eBo _ hp O O O O O O O O1 O) fun w2 g⟨hv,hp⟩=>?_;rw[qAn] at hp hv;have sa:∀f:Nat→Bool,SVL _ _ (lm _ f):=fun f=>jZ hv (by rw[qT,qT])
 have hp:Hp W [] w2 [_,blk bd 13 _ 28]:=hp;refine qA (qQ ([10,11,12,13,14,15,16]++range' 22 66) (fun(z:Nat×(Nat→Bool)×Option _) F=>(F.put 10 (.int _ (z.1))).put 22 (.int _ (z.1))) (fun z w'=>z.1≤lv.length∧prv _ p _ (lv.drop z.1) z.2.1 z.2.2∧(∀k,z.1=k+1→∃u,z.2.2=some u∧(lv.getD k lv0).1=u∧BQ 500000000000 u)∧(∀i,i<l.length→z.2.1 i=true→q i=p i)∧Hp W [] w' [qG _ 4 1 _ _ (lm _ z.2.1),_]) (fun z=>lv.length-z.1) (0,fun _=>false,none) (qB (qB (Same.eq .refl) O) O) ⟨O1,hn,fun k hk=>(by cases hk),fun _ _ h=>(by cases h),hp⟩ ?_);clear hp;rintro u ⟨k,dec,last⟩ w3 ⟨hk,us,u0,h9,hp⟩;dsimp only at hk us u0 h9 hp⊢;refine tI (fun h=>?_) fun h=>?_
 ·have hg:k<lv.length:=O1;obtain⟨x,hx⟩:∃x,lv[k]? =some x:=⟨_,aA hg⟩;have ht:lv.getD k lv0=x:=by rw[aC,hx];rfl
  have nh:=aI hx;have hU:lv.drop k=x::lv.drop (k+1):=by
   obtain⟨h1,h2⟩:=aH.1 hx;rw[aX h1,h2]
  rw[hU] at us;have hM:=uk x nh;have hh:=hL.l k hg;rw[ht] at hh;obtain⟨bl,ol,bm,hP⟩:=jR hL.L hg;rw[ht] at hP;obtain⟨sY,hH⟩:∃sY,sY=(lr k).1:=⟨_,O⟩;obtain⟨cY,hS⟩:∃cY,cY=(lr k).2:=⟨_,O⟩;rw[←hH] at hh;rw[←hH,←hS] at hP;obtain⟨v,y⟩:=x;have hP:∀(j:Nat) (w:Value),(eQ v++[Value.slice sY l.length cY])[j]? =_→_=_:=hP;obtain⟨ug,ma,x0,yw,xy,hK⟩:=us;have h8:sm _ (fun i=>if dec i then y i*q i else 0)=_:=jF fun i hi=>by
   by_cases h6:dec i=true
   ·rw[h9 i hi h6]
   simp[h6]
  refine qA (wlp (qL O O O O (fun j v e=>hp.j7 (hP j v e))) (fA4 O) ?_);refine tF (qKi hp (qJ O)) fun w4 bc hp=>qR ?_;refine tR qY (tO (qKg hp 0 O O O O (qD O) O) fun w5 hp=>?_);have hp:=hp.norm 0 (eQ v++[.slice sY _ cY]) O O;have hp:Hp W [] w5 [blk _ 4 _ 204,_,_]:=hp;refine qR (wlp (qL O O O O (hp.j3 2 O O)) (O:_=d.v) ?_);refine wlp qP (O:_=Value.slice s _ c) (tL (zBf d s sC _ sY l c cC _ cY κ q y _ _ (hD.j5 hp.C) oi hz hl hex (hC.j6 hp.C) (qZ hp 1 O (sa _) (fun _=>O)) (hh.j6 hp.C) ug hM ut hκ ma) ?_);rintro _ w6 ⟨rfl,sh,bu⟩;have hp:=hp.call bu;rw[h8,x0] at sh⊢;refine qA ?_;refine tQ fun w7 bf hp=>?_;refine tT fun w8 hp=>?_;have hp:=hp.norm 0 (eQ v) O O;have hp:Hp W [] w8 [blk _ 3 _ 49,_,_,_]:=hp;refine jL ?_;apply vX;exact O;exact O;exact qVg O O;exact qV (b:=false) O4;refine jL (qN O ?_);refine qR (uD (range' 45 13) (fun(_:Unit) F=>F.put 57 (.bool false)) (fun _ w'=>Hp W [] w' [blk bf 3 (qE (eQ v)) 49,blk bc 4 (qE (eQ v++[.slice sY l.length cY])) 204,qG eBo 4 1 (Ad g) l.length (lm l.length dec),blk bd 13 (qE d.L) 28]) ?_ ?_)
  ·refine jW jG O3 (fun w'=>Hp W [] w' _) hp.N ?_;have hp:=hp.N;by_cases my:k=0
   ·have d4:decide ((k:Int)>0)=_:=aB O1;refine qX ?_;rw[d4];refine xA ?_;apply qIv;exact O;exact O;exact O;exact O;exact hp;refine xA (qU ?_);exact⟨(),qB O5 O,hp⟩
   obtain⟨k',rfl⟩:∃k',k=k'+1:=⟨k-1,O1⟩;obtain⟨u1,rfl,sM,l2⟩:=u0 k' O;have uy:=yw u1 O;obtain⟨be,oa,hY,hJ⟩:=jR hL.L (show k'<lv.length by omega);rw[sM] at hJ;have d4:decide (((k'+1:Nat):Int)>0)=_:=aD O1;have d5:decide (wH v u1<0)=false:=by
    refine aB ?_;unfold wH;rw[if_neg (sBl.2 uy)];split<;>omega
   refine qX ?_;rw[d4];refine tN k' ?_;refine xA ?_;apply yG;exact O;exact O;exact O;intro w hp;exact qL O O O O (qOl (fun j v e=>hp.j7 (hJ j v e)));exact(O:_=QV u1);refine tK (r53 _ sh l2 O2) ?_;rintro _ w9 ⟨rfl,hy⟩;refine⟨hp.call hy,?_⟩;have hp:=hp.call hy;refine xA ?_;rw[d5];refine qU ?_;exact⟨(),qB O5 O,hp⟩
  clear hp;rintro u2 _ w9 hp;refine tJ ?_;have hp:Hp W [] w9 [blk bf 3 (qE (eQ v)) 49,blk bc 4 (qE (eQ v++[.slice sY l.length cY])) 204,qG eBo 4 1 (Ad g) l.length (lm l.length fun i=>if i<0 then dec i||decide (0<y i) else dec i),blk bd 13 (qE d.L) 28]:=by
   rw[jH (g:=dec) (fun i _=>if_neg O1)];exact hp
  refine qQ ([15,16]++range' 61 24) (fun(j:Nat) F=>F.put 61 (Iv (j:Int))) (fun j w'=>j≤l.length∧(∀i,i<j→(dec i||decide (0<y i))=true→q i=p i)∧Hp W [] w' [blk bf 3 (qE (eQ v)) 49,blk bc 4 (qE (eQ v++[.slice sY l.length cY])) 204,qG eBo 4 1 (Ad g) l.length (lm l.length fun i=>if i<j then dec i||decide (0<y i) else dec i),blk bd 13 (qE d.L) 28]) (fun j=>l.length-j) 0 (qB (Same.eq .refl) O) ⟨bN _,fun i hi=>absurd hi (gT i),hp⟩ ?_;clear hp;rintro u3 j ur ⟨hj,hQ,hp⟩;refine tI (fun h2=>?_) fun h2=>?_
  ·have bB:j<l.length:=O1;obtain⟨ba,oy,ij,si⟩:=jR hh bB;obtain⟨bq,oq,gu,hq⟩:=jR hC bB;have fy:=BQ.fq (hM j bB) O2;have same:(dec j=true∨y j=0)→∀w',Hp W [] w' [blk bf 3 (qE (eQ v)) 49,blk bc 4 (qE (eQ v++[.slice sY l.length cY])) 204,qG eBo 4 1 (Ad g) l.length (lm l.length fun i=>if i<j then dec i||decide (0<y i) else dec i),blk bd 13 (qE d.L) 28]→Hp W [] w' [blk bf 3 (qE (eQ v)) 49,blk bc 4 (qE (eQ v++[.slice sY l.length cY])) 204,qG eBo 4 1 (Ad g) l.length (lm l.length fun i=>if i<j+1 then dec i||decide (0<y i) else dec i),blk bd 13 (qE d.L) 28]:=fun hV w' hp=>by
    grind
   have sc:(dec j=true∨y j=0)→∀i,i<j+1→(dec i||decide (0<y i))=true→q i=p i:=fun hV i hi hd=>by
    grind
   have cD:∀w',Hp W [] w' [blk bf 3 (qE (eQ v)) 49,blk bc 4 (qE (eQ v++[.slice sY l.length cY])) 204,qG eBo 4 1 (Ad g) l.length (lm l.length fun i=>if i<j then dec i||decide (0<y i) else dec i),blk bd 13 (qE d.L) 28]→w'.cell? ⟨g,0+j*1,none⟩=some (.bool (dec j)):=fun w' hp=>by
    have:=zM (qZ hp 2 O (sa _) (fun _=>O)) bB 0 _ O;grind
   refine qA (tR (qL (vs:=eQ (y j)) O O O O (fun q v e=>hp.j7 (si q v e))) ?_);refine tQ fun gg bg hp=>?_;refine qR ?_;refine tR qY (tS fun gh hp=>?_);have hp:=hp.norm 0 (eQ _) O O;have hX:=hp.j3 0 O O;have hp:=hp.H;have ca:=cD _ hp;refine gA4 ?_;refine jM (tR (qS O O ca) ?_);cases hdj:dec j with
   |true=>
    have hp:=same (.inl hdj) _ hp;refine jL (jB O ?_);refine gA8 ?_;exact⟨_,qB O5 O,⟨O1,sc (.inl hdj),hp⟩,O1⟩
   |false=>
    refine jL ?_;apply vX;exact O;exact O;exact qL O O O O hX;exact(O:_=QV _);refine tC (r52 _ fy) fun gm hp=>?_;by_cases h7:y j=0
    ·have d6:decide (qAm (y j)=0)=true:=by rw[h7];rfl
     have hp:=same (.inr h7) _ hp;refine jL ?_;rw[d6];refine jB O ?_;refine gA8 ?_;exact⟨_,qB O5 O,⟨O1,sc (.inr h7),hp⟩,O1⟩
    have d6:decide (qAm (y j)=0)=false:=by
     refine aB ?_;unfold qAm;rw[if_neg h7];split<;>omega
    have uf:0<y j:=by
     have:=ug j bB;grind
    have h5:p j=v:=by
     rcases xy j bB with h|h|h
     ·grind
     ·grind
     exact h
    refine jL ?_;rw[d6];refine jL (qN O ?_);refine qR ?_;refine jW jG O3 (fun w'=>Hp W [] w' _) hp.N ?_;have hp:=hp.N;refine qX ?_;refine wdp O (fun w hp=>qL O O O O (fun z v e=>hp.j7 (hq z v e))) (O:_=QV _) (wdp O (fun w hp=>qL O O O O (hp.j3 0 O O)) (O:_=QV v) ?_);refine wdp O (fun w hp=>qVg O O) O (qU ?_);refine xI O (fun h3=>?_) (fun h3=>?_)
    ·have j0:decide (∀i,i<_→q i=p i)=_:=aB fun fs=>h3 (by rw[fs j bB,h5])
     rw[j0];refine gA4 ?_;refine jM ?_;refine wlp (zW O O) (qV (aB O1)) (jL ?_);exact mAb
    refine qA (tO (zL _ _ j _ hp 2 O (sa _) (by rw[qT];omega) O O (fun _=>O) O O (qD O)) fun gj hp=>?_);have hp:Hp W [] _ [_,_,_,_]:=hp
    rw[vF,jH (g:=fun i=>if i<j+1 then dec i||decide (0<y i) else dec i) (fun i _=>by
     grind)] at hp
    refine gA8 ?_;refine⟨_,qB O5 O,⟨O1,fun i hi hd=>?_,hp⟩,O1⟩;grind
  obtain rfl:l.length=j:=O1;rw[jH (fun i hi=>if_pos hi)] at hp;refine tM (k+1) ?_;refine gA5 ?_;refine⟨(k+1,fun i=>dec i||decide (0<y i),some v),qB O5 O,⟨O1,hK,fun k2 uq=>?_,hQ,hp.H.H⟩,O1⟩;grind
 obtain rfl:k=lv.length:=O1;rw[iQ] at us;have hT:=aD fun i hi=>h9 i hi (us i hi)
 have h4:decide (false∈lm l.length dec)=false:=aB fun hm=>by
  obtain⟨i,hi,e⟩:=bD.1 hm;rw[us i (aO.1 hi)] at e;cases e
 have hF:=r98 (lm l.length dec) (Ad g) l.length false;rw[qT] at hF;rw[hT];refine gA4 ?_;refine jM ?_;refine wlp (zW O O) (qV (b:=true) (aD O1)) (tE (hF _ (qZ hp 0 O (sa _) (fun _=>O)) O1) fun w4 hp=>?_);rw[h4];exact mEh
set_option maxHeartbeats 4000000 in
theorem r11(d:DW)(s sP sV sL:Option Addr)(l:List EW)(c cP cV cL κ:Nat)(p:Nat→Rat)(gp lr:Nat→Option Addr×Nat)(m:List (List Nat×Rat))(lv:List (Rat×(Nat→Rat)))(W:World)(hD:DE d s l W)(oi:d.kd=3)(hz:0<d.sz)(hl:l.length≤5)
  (hM:MixG (FsP d l) κ m) (hκ:κ≤6000000000) (hA:MxAt sP gp sV m W) (hL:LvAt sL lr l.length lv W) (eu:lv.length≤1000) (uk:∀x∈lv,∀i,i<l.length→BQ 34273200056 (x.2 i)) (hh:prv l.length p (vU (FsP d l)) lv (fun _=>false) none):
  Rk 11 [d.v,.slice s l.length c,.slice sP m.length cP,.slice sV m.length cV,.slice sL lv.length cL] W (Iv (if(∀i,i<l.length→jE m i=p i) then 0 else 25)):=by
 have hm:=hD.lq;have hV:=hM.len;have hex:∃P,FsP d l P:=by
  cases m with
  |nil=>
   exact absurd hM.sum (by decide+kernel)
  |cons x m=>exact⟨_,(hM.all x O4).1⟩
 have ut:=fun i=>by
  have:=hM.ch m.length i;rwa[dE] at this
 refine tW func11 ntmps11 fun hp=>?_;refine qR ?_;refine tQ fun w1 bd hp=>?_;have hp:=hp.norm 0 d.L O O;have hp:Hp W [] w1 [blk bd 13 _ 28]:=hp;have ca:w1.cell? ⟨bd,0+1,_⟩=some (.int _ _):=hp.cell 0 O O;rw[oi] at ca;have d1:decide ((l.length:Int)>40)=_:=aB O1;have d2:decide ((d.Q.length:Int)>12)=_:=aB O1;have d3:(!decide (m.length=(m.length:Int)))=false:=O4;refine jL (qN O ?_);refine jL ?_;rw[d1];refine jL ?_;rw[d2];refine jL (qN O ?_);refine jL ?_;rw[d3];refine tE (r50 d s sP l c cP κ gp m _ (hD.j5 hp.C) oi O1 hM (hA.P.j6 hp.C) (fun j hj=>(hA.p j hj).j6 hp.C)) fun w2 hp=>?_;refine jL ?_;refine tJ (qQ ([10,12]++range' 42 13) (fun(k:Nat) F=>F.put 42 (.int _ k)) (fun k w'=>k≤m.length∧Hp W [] w' _) (fun k=>m.length-k) 0 (qB (Same.eq .refl) O) ⟨O1,hp⟩ ?_);clear hp;rintro u k w3 ⟨hk,hp⟩;refine tI (fun h=>?_) fun h=>?_
 ·have hg:k<m.length:=O1;obtain⟨bw,ow,qb,hy⟩:=jR hA.V hg;obtain⟨_,xx,xg⟩:=hM.get hg;have fq:=BQ.fq xg O1;have d4:decide (qAm (wF m k)≤0)=false:=by
   refine aB ?_;exact mEo
  subst qb;refine qA (tR (qL O O O O (fun z v e=>hp.j7 (hy z v e))) ?_);refine vK fun w b hp=>?_
  refine tD (r51 _ fq) fun w4 hp=>?_;refine tE (r52 _ fq) fun w5 hp=>?_;refine jL ?_;rw[d4];refine tJ ?_;refine tN (k+1) ?_;refine qA ?_;exact⟨_,qB O5 O,⟨O1,hp.H⟩,O1⟩
 have zk:sm m.length (wF m)=1:=by rw[qPq,hM.sum]
 have hq:(m.length+1)*(κ+1)≤33*6000000001:=cF O1 O1;refine tD (r46 _ _ sV cV κ _ (hA.V.j6 hp.C) (fun i hi=>(hM.get hi).2.2) O1 O1) fun w4 hp=>?_;rw[zk];refine tC (r25 1 _ O2 O2) fun w5 hp=>?_;refine tC (r53 (j:=1) (k:=1) _ (BQ.one O2) (BQ.one O2) O2) fun w6 hp=>?_;refine qA (qN O ?_);refine qR ?_;refine jW jG O3 (fun w'=>Hp W [] w' _) hp.N ?_;have hp:=hp.N;refine qX ?_;refine tK (r55 _ sP sV cP cV κ gp m _ (fun k hk=>⟨(hM.get hk).1.srt,(hM.get hk).1.lt⟩) hM.ch (fun k hk=>(hM.get hk).2.2) hκ O1 O1 (hA.j5 hp.C)) ?_;rintro _ w7 ⟨g,rfl,hK,hn⟩;refine⟨hp.call hn.C,?_⟩;have hp:=hp.join hn;refine tH (r54 d s _ sL l c _ cL κ _ p lr lv _ (hD.j5 hp.C) oi hz hl hex (qZ hp 0 O hK jT) (hL.j5 hp.C) eu uk (fun i _=>ut i) hκ hh) fun w8 hp=>?_;refine qX (qU ?_);refine xI O (fun h2=>?_) (fun h2=>?_)
 ·rw[if_neg h2];exact mA0
 rw[if_pos h2];exact mA0
end Go.Proofs.YtplkndjlfkkjlaaGreatDoor
namespace Go.Eng
open List (range range' replicate)
theorem Hp.front{w0 w w':World}{M:List Nat}{A B:List Ent}(h:Hp w0 M w (A++B))(hk:Keeps (zG B) w w'):Hp w0 M w' A:=by
 have:=h.back (Hp.r5 hk);grind
section
variable {P:Program}{n:FrK}{F:Fr}{w:World}{d:Option Tmp}{ty:TypeId}{pos:String}{aft:Array Edge}{g:Option (Nat×Bool)}{x y:Operand}{k:IntKind}{a b:Int}
theorem qVh{ts:Array TypeId}(hx:ev n F x= .int k a)(hy:ev n F y= .int k b):PV P n w F ⟨d,.call ⟨.builtin .max,#[x,y],ts⟩,ty,pos,aft,g⟩ (.int k (max a b)):=by
 have:(if a<b then b else a)=max a b:=by rw[Int.max_def];split<;>split<;>omega
 exact mDn
end
end Go.Eng
namespace Go.Proofs.YtplkndjlfkkjlaaGreatDoor
open List (range range' replicate)
open Go.Proofs.Tryz
open Go.Eng Go.Dig Go.Lp Go.Qu
variable{n:Nat}{A:List Nat}{F:List Nat→Prop}{fr k:Nat}{N:List (List Nat)}
def srL(sb:Nat)(d:DW)(s:Option Addr)(n c:Nat)(sO:Option Addr)(cO:Nat)(gr:Nat→Option Addr×Nat)(Ps:List (List Nat)):List Ent:=
 [blk sb 15 (qE (fC d [.slice s n c,.slice sO Ps.length cO])) 264,qG jO 22 1 sO cO (phL gr Ps)]++lm Ps.length (wR gr Ps)
structure SrOk(sO:Option Addr)(cO:Nat)(gr:Nat→Option Addr×Nat)(Ps:List (List Nat)):Prop where
 O:SVL sO cO (phL gr Ps)
 r:∀j,j<Ps.length→SVL (gr j).1 (gr j).2 (Ps.getD j [])
structure Wk(F:List Nat→Prop)(n fr:Nat)(A:List Nat)(N:List (List Nat)):Prop where
 nd:N.Nodup
 len:N.length≤2^(n-fr)
 all:∀P∈N,F P∧∃T,P=A++T
structure WkI(F:List Nat→Prop)(n fr k:Nat)(A:List Nat)(N:List (List Nat)):Prop where
 nd:N.Nodup
 len:N.length+2^(n-k)≤2^(n-fr)
 all:∀P∈N,F P∧∃j T,j<k∧P=A++j::T
theorem WkI.next{N':List (List Nat)}(h:WkI F n fr k A N)(h':Wk F n (k+1) (A++[k]) N')(hk:k<n):WkI F n fr (k+1) A (N++N'):=by
 refine⟨pY.2 ⟨h.nd,h'.nd,fun P hP Q hQ e=>?_⟩,?_,fun P hP=>?_⟩
 ·subst e;obtain⟨_,j,T,hj,e1⟩:=h.all P hP;obtain⟨_,T',e2⟩:=h'.all P hQ;rw[e1,bQ] at e2;have:=List.append_cancel_left e2;grind
 ·have h1:=h.len;have h2:=h'.len;have h3:2^(n-k)=2*2^(n-(k+1)):=by
   rw[show n-k=n-(k+1)+1 by omega,dD];omega
  grind
 rcases fO.1 hP with hP|hP
 ·obtain⟨h1,j,T,hj,e⟩:=h.all P hP;grind
 obtain⟨h1,T,e⟩:=h'.all P hP;grind
theorem WkI.zero:WkI F n fr fr A []:=⟨sBt,O4,fun P hP=>by cases hP⟩
theorem WkI.fin(h:WkI F n fr k A N):Wk F n fr A N:=
 ⟨h.nd,bL (oV _ _) h.len,fun P hP=>by obtain⟨h1,j,T,_,e⟩:=h.all P hP;grind⟩
theorem jNw{sb:Nat}{d:DW}{s sR:Option Addr}{c cO cR:Nat}{sO:Option Addr}{gr:Nat→Option Addr×Nat}{Ps:List (List Nat)}{w0 w:World}{M:List Nat}
  (hg:SVL sO cO (phL gr Ps++[(sR,A.length,cR)])) (hr:∀j,j<Ps.length→SVL (gr j).1 (gr j).2 (Ps.getD j [])) (hQ:SVL sR cR A)
  (hp:Hp w0 M w ([qG eN 3 1 sR cR A,blk sb 15 (qE (fC d [.slice s n c,.slice sO (Ps.length+1) cO])) 264,qG jO 22 1 sO cO (phL gr Ps++[(sR,A.length,cR)])]++lm Ps.length (wR gr Ps))):
  SrOk sO cO (gpN gr Ps.length sR cR) (Ps++[A])∧Hp w0 M w (srL sb d s n c sO cO (gpN gr Ps.length sR cR) (Ps++[A])):=by
 have h6:∀j,j<Ps.length→gpN gr Ps.length sR cR j=_:=fun j hj=>if_neg O1
 have hq:gpN gr _ sR cR Ps.length=_:=if_pos O;have th:(Ps++[A]).getD Ps.length []=A:=by rw[aC,gZ (bM _),lW];rfl
 have hl:(Ps++[A]).length=Ps.length+1:=by rw[aY];rfl
 have eH:phL (gpN gr Ps.length sR cR) (Ps++[A])=phL gr Ps++[(sR,A.length,cR)]:=by
  unfold phL;rw[hl,lm_succ,hq,th,jH (fun j hj=>by rw[h6 j hj,qCe hj])]
 have eR:lm (Ps++[A]).length (wR (gpN gr Ps.length sR cR) (Ps++[A]))=lm Ps.length (wR gr Ps)++[qG eN 3 1 sR cR A]:=by
  rw[hl,lm_succ];congr 1
  ·exact jH fun j hj=>by unfold wR;grind
  unfold wR;rw[hq,th]
 refine⟨⟨by grind,fun j hj=>?_⟩,?_⟩
 ·grind
 unfold srL;rw[eH,eR,hl,←bQ];exact Hp.swap (by exact hp)
attribute [local irreducible] PV StepF wpl wpd WP Ret
attribute [local irreducible] Fit
set_option maxHeartbeats 4000000 in
theorem zB3(sb:Nat)(d:DW)(s:Option Addr)(l:List EW)(c:Nat)(oi:d.kd=3)(hn:l.length≤12):∀(m:Nat) (A:List Nat) (fr:Nat) (sA:Option Addr) (cA:Nat) (sO:Option Addr) (cO:Nat) (gr:Nat→Option Addr×Nat) (Ps:List (List Nat)) (M:List Nat) (W:World),
  l.length-fr=m→fr≤l.length→A.Pairwise (·<·)→(∀i∈A,i<fr)→(∀w',Keeps M W w'→DE d s l w')→(∀w',Keeps M W w'→SlAt w' 1 eN sA A)→SrOk sO cO gr Ps→Hp W M W (srL sb d s l.length c sO cO gr Ps)→Ps.length+2^(l.length-fr)≤100000→
  Rt 179 [.pointer (Ad sb),.slice sA A.length cA,Iv (fr:Int)] W (fun _ w'=>∃sa ca gb N,Wk (FsP d l) l.length fr A N∧SrOk sa ca gb (Ps++N)∧Hp W M w' (srL sb d s l.length c sa ca gb (Ps++N))):=by
 intro m;induction m using Nat.strongRecOn with
 |_ m ih=>
 intro A fr sA cA sO cO gr Ps M W hm xu xp hA hD oa ok hp y2;have h6:=fun i hi=>cJ (hA i hi) xu
 have hx:A.length≤l.length:=by
  have:=uK xp (fun i _=>bN i) h6;omega
 have hy:=bL (oV _ _) y2;refine Ret.j9 func179 O ntmps179 O (tI (fun h=>?_) fun h=>?_)
 ·refine qR ?_;refine jW jG O3 (fun w'=>Hp W M w' _) hp.N ?_;have hp:=hp.N;refine qX ?_;refine tK (zAk d s sA c cA l A _ (hD _ hp.C) oi h xp h6 (oa _ hp.C)) ?_;rintro _ w1 ⟨⟨r,rfl,hr⟩,e7⟩;refine⟨hp.call e7,?_⟩;have hp:=hp.call e7;refine qX (qU ?_);refine qA (xD O (fun h2=>?_) (fun h2=>?_))
  ·have hF:=hr h2;refine xL 12 O jG O3 (fun w'=>w'.cell? ⟨sb,0+14,_⟩=some (.slice sO _ cO)) (hp.N.cell 0 O O) ?_;have hp:=hp.N;refine qX ?_;apply wds;exact O;exact jC (cs:=[]) hp O O O O O O O;rintro _ w2 ⟨b1,rfl,hp⟩;refine⟨hp.cell 1 O O,qX ?_⟩;apply wds;exact O;exact qF4 eN A hp 0 O O O O O O (fun _=>O) O O O (oa _ hp.C) (fun _=>O) O1;rintro _ w3 ⟨sR,cR,rfl,hQ,hp⟩;refine⟨hp.cell 1 O O,?_⟩;apply wds;exact O;exact jC (cs:=[.slice sR _ cR]) hp O O O O O O O;rintro _ w4 ⟨b2,rfl,hp⟩;refine⟨hp.cell 2 O O,?_⟩;have xk:(phL gr Ps).length=_:=qT;apply wds;exact O;exact jV jO _ (sR,A.length,cR) hp 3 0 O O O O O O (fun _=>O) (by rw[xk];rfl) O O ok.O O O O1;rintro _ w5 ⟨sa,ca,rfl,hj,hp⟩;refine⟨hp.cell 2 O O,?_⟩;have hq:(phL gr Ps++[(sR,A.length,cR)]).length=Ps.length+1:=by rw[aY,xk];rfl
   rw[hq];refine qX (qU ?_);refine StepF.mono (jD hp 2 O O O O (qD O) O) ?_;rintro _ w6 ⟨rfl,hp⟩;have hp:=hp.norm 2 (fC d [.slice s _ c,.slice _ _ _]) O O;have hp:=hp.H;obtain⟨oc,hp⟩:=jNw hj ok.r hQ (by exact hp);refine qA ?_;exact qG1 O ⟨_,O,_,_,_,_,⟨O4,Nat.one_le_two_pow,fun P hP=>by obtain rfl:=iN.1 hP;exact⟨hF,[],O4⟩⟩,oc,hp⟩
  refine qA ?_;refine qG1 O ⟨_,O,sO,cO,gr,[],⟨O4,bN _,fun P hP=>by cases hP⟩,?_,?_⟩
  ·grind
  grind
 refine qA (qQ ([7]++range' 40 19) (fun(k:Nat) F=>F.put 7 (.int _ k)) (fun k w'=>fr≤k∧k≤l.length∧∃sO cO gr N,WkI (FsP d l) l.length fr k A N∧SrOk sO cO gr (Ps++N)∧Hp W M w' (srL sb d s _ c sO cO gr (Ps++N))) (fun k=>l.length-k) fr (qB (Same.eq .refl) O) ⟨O1,xu,sO,cO,gr,[],WkI.zero,by grind,by rw[bH];exact hp⟩ ?_);clear hp ok;rintro u k w1 ⟨h4,hU,sO,cO,gr,N,hW,ok,hp⟩;refine tI (fun h2=>?_) fun h2=>?_
 ·have hl:k<l.length:=O1;refine gA1 ?_;refine tF (jC (cs:=[]) hp O O O O O O O) fun w2 b1 hp=>jM ?_;refine tFb (qF4 eN A hp 0 O O O O O O (fun _=>O) O O O (oa _ hp.C) (fun _=>O) O1) fun w3 s1 c1⟨s7,hp⟩=>jM ?_;refine tF (jC (cs:=[.int _ k]) hp O O O O O O O) fun w4 b2 hp=>tFb (jV eN A k hp 1 0 O O O O O O (fun _=>O) O O O s7 O O O1) fun w5 s2 c2⟨s8,hp⟩=>jM ?_;refine tN (k+1) ?_;have hp:Hp W M w5 ([_]++srL sb d s _ c sO cO gr _):=hp.H;have hh:=hW.len;have ht:2^(l.length-k)=2*2^(l.length-(k+1)):=by
   rw[show l.length-k=l.length-(k+1)+1 by omega,dD];omega
  (apply wls;exact qC O jGq O (ih (l.length-(k+1)) O1 (A++[k]) (k+1) s2 c2 sO cO gr (Ps++N) _ _ O O1 (eY.2 ⟨xp,O4,fun a ha b hb=>by
   grind⟩) (fun i hi=>by
   grind) (fun w' hk=>hD w' (hp.front hk).keeps) (fun w' hk=>qZ (hp.front hk) 0 O s8 (fun _=>O)) ok hp.l5 (by grind));rintro _ w6 ⟨sa,ca,gb,N',hg,oc,hp'⟩)
  have hp:=(hp.back hp').tail;rw[bQ] at oc hp;refine gA5 ?_;exact⟨_,qB O5 O,⟨O1,O1,_,_,_,_,hW.next hg hl,oc,hp⟩,O1⟩
 refine qA ?_;exact xK O ⟨_,O,sO,cO,gr,N,hW.fin,ok,hp⟩
set_option maxHeartbeats 1000000 in
theorem zBl(d:DW)(s:Option Addr)(l:List EW)(c:Nat)(W:World)(hD:DE d s l W)(oi:d.kd=3)(hz:0≤d.sz)(hn:l.length≤12):
  Rt 109 [d.v,.slice s l.length c] W (fun v w'=>∃sO cO gr N,v= .slice sO N.length cO∧Wk (FsP d l) l.length 0 [] N∧SrOk sO cO gr N∧Hp W [] w' ([qG jO 22 1 sO cO (phL gr N)]++lm N.length (wR gr N))):=by
 have hm:=hD.lq;have yw:=hD.le;refine tW func109 ntmps109 fun hp=>?_;refine qR ?_;refine tQ fun w1 bd hp=>?_;have hp:=hp.norm 0 d.L O O;have hp:Hp W [] w1 [blk bd 13 _ 28]:=hp;refine qR ?_;refine wlp qY (O:_=Value.slice _ 0 0) (qR ?_);refine wlp (qL O O O O (hp.j3 0 O O)) (O:_=d.v) (wlp qP (O:_=Value.slice s _ c) ?_);refine tK (jVs d s _ c _ hm yw oi) ?_;rintro _ w2 ⟨rfl,hk⟩;have hp:=hp.call hk;have d1:decide (d.sz<0)=_:=aB O1;refine jL ?_;rw[d1];refine jL ?_;by_cases hg:d.sz>l.length
 ·rw[aD hg];refine jB O ?_;refine qA ?_;exact qM O O ⟨_,O,_,0,fun _=>(none,0),[],O,⟨O4,bN _,fun P hP=>by cases hP⟩,⟨SVL.nil,fun j hj=>absurd hj (gT j)⟩,(hp.H.k4 jO 22 1)⟩
 rw[aB hg];refine jL (qN O ?_);refine qR (wlp (qL O O O O (hp.j3 0 O O)) (O:_=d.v) ?_);refine wlp qP (O:_=Value.slice s _ c) (wlp (qE4 (zs:=[_,_,_,_,_,_,_,_,_,_,_,_,_,_]) (pl:=[(0,13),(13,1)]) (pl':=[(14,1)]) Tryz.underlying264 (qJ O) (fun w=>O3) O O O) (O:_=Value.agg (fC d [.slice s _ c,_]).toArray) ?_);refine tF (kW (cs:=fC d _) (m:=15) hp O O O) fun w3 sb hp=>?_;have hp:=hp.k4 jO 22 1;have hp:Hp W [] w3 ([_]++srL sb d s _ c _ 0 (fun _=>(none,0)) []):=hp.k5 [2,1,0] _ O2 O;refine qA ?_
 (apply wls;exact qC O jGq O (zB3 sb d s l c oi hn l.length [] 0 _ 0 _ 0 _ [] _ _ O1 O1 List.Pairwise.nil (fun i hi=>by cases hi) (fun w' hk=>hD.j5 (hp.front hk).keeps) (fun w' hk i x hx=>by grind) ⟨SVL.nil,fun j hj=>absurd hj (gT j)⟩ hp.l5 (by
  have:2^(l.length-0)≤2^12:=aR O2 O1;grind));rintro _ w4 ⟨sO,cO,gr,N,hW,ok,hp'⟩)
 have hp:=(hp.back hp').tail;refine tV ?_;exact⟨_,O,sO,cO,gr,N,O,hW,ok,hp.H⟩
theorem r36(d:DW)(s:Option Addr)(l:List EW)(c:Nat)(W:World)(hD:DE d s l W)(oi:d.kd=3)(hz:0≤d.sz)(hn:l.length≤12):
  Rt 36 [d.v,.slice s l.length c,Iv 100000] W (fun v w'=>∃sO cO gr N,v= .tuple #[.slice sO N.length cO,.bool true]∧Wk (FsP d l) l.length 0 [] N∧SrOk sO cO gr N∧Hp W [] w' ([qG jO 22 1 sO cO (phL gr N)]++lm N.length (wR gr N))):=by
 refine tW func36 ntmps36 fun hp=>?_;refine qR ?_;refine tQ fun w1 bd hp=>?_;refine wlp qY (O:_=Value.slice _ 0 0) (tR qY ?_);refine qR (wlp (qL O O O O (hp.j3 0 O O)) (O:_=d.v) ?_);refine wlp qP (O:_=Value.slice s _ c) (tK (zBl d s l c _ (hD.j5 hp.C) oi hz hn) ?_);rintro _ w2 ⟨sO,cO,gr,N,rfl,hW,ok,lj⟩;have hp:=hp.join lj;have hh:N.length≤100000:=by
  exact mEi
 have hg:=by
  have:=ok.O.cap;unfold phL at this;rwa[qT] at this
 refine qA (wlp (qVh O O) (qF (b:=100000) O) ?_);refine wlp (qAp O O) (qF (b:=N.length) O1) (qA ?_);refine wlp (qBy O O O hg) O (qA ?_);exact xU O O (qV (aD O)) ⟨_,O,sO,cO,gr,N,O,hW,ok,hp.sub (dT _ _)⟩
end Go.Proofs.YtplkndjlfkkjlaaGreatDoor
namespace Go.Lp
open List (range range' replicate)
def qBk(w:List Int):Nat→Int
 |0=>0
 |k+1=>qBk w k+w.getD k 0%10
def kI(N:List (List Nat))(w:List Int)(S:Nat):Nat→List (List Nat×Rat)
 |0=>[]
 |k+1=>if 0<w.getD k 0%10 then kI N w S k++[(N.getD k [],mkRat (w.getD k 0%10) S)] else kI N w S k
theorem qGk(w:List Int):∀k:Nat,0≤qBk w k∧qBk w k≤9*k
 |0=>⟨sBu _,sBu _⟩
 |k+1=>by
  have:=qGk w k;simp only[qBk];omega
theorem jA0(w:List Int):∀(k j:Nat),j<k→w.getD j 0%10≤qBk w k
 |0,_,h=>absurd h (gT _)
 |k+1,j,h=>by
  have hb:=qGk w k;simp only[qBk];by_cases hj:j=k
  ·grind
  have:=jA0 w k j O1;omega
theorem qS9(N:List (List Nat))(w:List Int)(S:Nat):∀k,(kI N w S k).length≤k
 |0=>bM _
 |k+1=>by
  have:=qS9 N w S k;simp only[kI];grind
theorem qS8(N:List (List Nat))(w:List Int)(S:Nat):∀(k:Nat) (x:List Nat×Rat),x∈kI N w S k→∃j,j<k∧x.1=N.getD j []∧0<w.getD j 0%10∧x.2=mkRat (w.getD j 0%10) S
 |0,x,h=>by cases h
 |k+1,x,h=>by
  simp only[kI] at h;have old:x∈_→∃j,j<k+1∧_:=fun h=>by
   obtain⟨j,hj,h⟩:=qS8 N w S k x h;exact⟨j,O1,h⟩
  grind
theorem jI3{N:List (List Nat)}(hN:N.Nodup)(w:List Int)(S:Nat):∀k,k≤N.length→((kI N w S k).map (·.1)).Nodup
 |0,_=>sBt
 |k+1,hk=>by
  have ih:=jI3 hN w S k O1;simp only[kI];split
  ·rw[dR];refine pY.2 ⟨ih,O4,fun P hP Q hQ e=>?_⟩;subst e;obtain⟨x,hx,rfl⟩:=bD.1 hP;obtain⟨j,hj,e,_⟩:=qS8 N w S k x hx;have hQ:x.1=N.getD k []:=by simpa using hQ
   rw[hQ,aC,aC,aA O1,aA O1] at e;exact absurd ((oU hN).1 e) O1
  exact ih
theorem qZz(N:List (List Nat))(w:List Int)(S:Nat):∀k,qAi (kI N w S k)=mkRat (qBk w k) S
 |0=>by
  show 0=mkRat 0 S
  simp
 |k+1=>by
  have ih:=qZz N w S k;have h5:mkRat (qBk w k+w.getD k 0%10) S=mkRat (qBk w k) S+mkRat (w.getD k 0%10) S:=by
   rw[gE,gE,gE,Rat.intCast_add];grind
  simp only[kI,qBk];split
  ·rw[qEw,ih];show _+(mkRat _ S+0)=_
   grind
  grind
end Go.Lp
namespace Go.Proofs.YtplkndjlfkkjlaaGreatDoor
open List (range range' replicate)
open Go.Proofs.Tryz
open Go.Eng Go.Dig Go.Lp Go.Qu
def GpOf(gp gr:Nat→Option Addr×Nat)(N pk:List (List Nat)):Prop:=∀i,i<pk.length→∃j,j<N.length∧gp i=gr j∧pk.getD i []=N.getD j []
theorem GpOf.snoc{gp gr:Nat→Option Addr×Nat}{N pk:List (List Nat)}(h:GpOf gp gr N pk){j:Nat}(hj:j<N.length):GpOf (gpN gp pk.length (gr j).1 (gr j).2) gr N (pk++[N.getD j []]):=fun i hi=>by
 rw[aY] at hi;by_cases ab:i=pk.length
 ·subst ab;exact⟨j,hj,if_pos O,O4⟩
 have oK:i<pk.length:=by
  have:([N.getD j []]:List (List Nat)).length=1:=O;omega
 obtain⟨q,h1,h2,h3⟩:=h i oK;exact⟨q,h1,by rw[←h2];exact if_neg O1,by grind⟩
theorem jCy{α:Type}{w:World}{k g n:Nat}{s:Option Addr}{enc:α→List Value}{f:Nat→α}(h:SlAt w k enc s (lm n f))(hs:s=Ad g){i:Nat}(hi:i<n):∀j v,(enc (f i))[j]? =some v→w.cell? ⟨g,0+i*k+j,none⟩=some v:=by
 subst hs;exact zM h hi
attribute [local irreducible] PV StepF wpl wpd WP Ret
attribute [local irreducible] Fit FitR ofN
theorem zBk(n d:Nat)(w:World)(hn:FitR n)(hd:FitR d)(hh:0<d):Rk 111 [.bool false,.string (ofN n),.string (ofN d)] w (RVs false (n/Nat.gcd n d) (d/Nat.gcd n d)):=by
 have ux:=lP n hh;have hg:=hd.le (lM hh (mU n d));have he:=qC9 n 0;rw[qI8] at he;refine tW func111 ntmps111 fun hp=>?_;refine qR ?_;refine tQ fun w0 b hp=>?_;refine gA1 ?_;by_cases h0:n=0
 ·subst h0;rw[Nat.gcd_zero_left,Nat.zero_div,Nat.div_self hh];refine wlp (xV O O) (qV (he.trans (aD O))) (qR ?_);refine jB O (qR ?_);refine tC (c40 1 _ O2) fun w1 hp=>?_;refine qBs fun w hp=>?_
  exact zJ O O O O (hp.j4 0 O O) ⟨_,O,by unfold RVs;rw[qI8];rfl,hp.C⟩
 refine wlp (xV O O) (qV (he.trans (aB h0))) (qR ?_);refine tJ ?_;refine tC (c91 n d _ hn hd) fun w1 hp=>?_;refine tD (c92 _ _ _ hn hg ux) fun w2 hp=>?_;refine tD (c92 _ _ _ hd hg ux) fun w3 hp=>?_;refine qBs fun w hp=>?_
 exact mA2
theorem r38(n d:Nat)(w:World)(hn:FitR n)(hd:FitR d)(hh:0<d):Rk 38 [.bool false,.string (ofN n),.string (ofN d)] w (.tuple #[QV (mkRat (n:Int) d),.bool true]):=by
 have hz:=(jIj d).trans (aB O1);have hq:RVs false _ _=QV (mkRat n d):=jNc (s:=false) hh;refine tW func38 ntmps38 fun hp=>?_;refine qR ?_;refine tQ fun w0 b hp=>?_;refine tD (c85 n _) fun w1 hp=>?_;refine tD (c85 d _) fun w2 hp=>?_;refine jL ?_;refine qN (qV hz) (tD (zBk n d _ hn hd hh) fun w3 hp=>?_);refine qBs fun w hp=>?_
 rw[←hq];exact mD7
set_option maxHeartbeats 4000000 in
theorem r8(d:DW)(s sw:Option Addr)(l:List EW)(c cw:Nat)(wl:List Int)(W:World)(hD:DE d s l W)(oi:d.kd=3)(hz:0≤d.sz)(hn:l.length≤12)(qb:SlAt W 1 eI sw wl)(hJ:wl.length≤9223372036854775807):
  Rt 8 [d.v,.slice s l.length c,.slice sw wl.length cw] W (fun v w'=>∃sP cP gp sV cV N J m,v= .tuple #[.agg (qAe ⟨gp,sP,cP,sV,cV⟩ m.length none 0 0).toArray,.bool (decide (0<qBk wl J))]∧Wk (FsP d l) l.length 0 [] N∧J≤N.length∧m=kI N wl (qBk wl J).toNat J∧MxAt sP gp sV m w'∧Keeps [] W w'):=by
 refine tW func8 ntmps8 fun hp=>?_;refine qR ?_;refine tQ fun w1 bd hp=>?_;have hp:=hp.norm 0 d.L O O;refine tQ fun w2 b6 hp=>?_;have hp:Hp W [] w2 [blk b6 3 _ 45,blk bd 13 _ 28]:=hp;refine qR ?_;refine tR qY (qR ?_);refine wlp (qL O O O O (hp.j3 1 O O)) (O:_=d.v) (wlp qP (O:_=Value.slice s _ c) ?_);refine tK (r36 d s l c _ (hD.j5 hp.C) oi hz hn) ?_;rintro _ w3 ⟨sO,cO,gr,N,rfl,hW,ok,xw⟩;have hp:=hp.join xw;clear xw;have hp:=hp.swap;have hP:N.length≤100000:=by
  exact mEi
 refine qA (qQ ([10,11]++range' 23 19) (fun k F=>(F.put 10 (.int _ (qBk wl k))).put 11 (.int _ k)) (fun k w'=>k≤N.length∧k≤wl.length∧Hp W [] w' _) (fun k=>N.length-k) 0 (qB (qB (Same.eq .refl) O) O) ⟨O1,O1,hp⟩ ?_);clear hp;rintro u k w4 ⟨hX,bi,hp⟩;refine qA (xD O (fun h=>?_) (fun h=>?_))
 ·have h2:=by simpa using h
  obtain⟨x,hx⟩:∃x,wl[k]? =some x:=⟨_,aA h2.2⟩;have hF:wl.getD k 0=x:=by rw[aC,hx];rfl
  obtain⟨bw,ow,hV,hM⟩:=qb k x hx;have hY:W.cell? ⟨bw,ow+k*1,_⟩=_:=hM 0 _ O;have hl:=h2.2;have hb:=qGk wl k;refine tD (r37 x 10 _ O2 O2) fun w5 hp=>?_;refine wlp (qO O O) (qF (b:=qBk wl (k+1)) (by rw[qK O1 O1];simp only[qBk,hF])) (tM (k+1) ?_);refine qA ?_;exact⟨_,qB O5 O,⟨O1,O1,hp⟩,O1⟩
 have h2:¬(k<N.length∧k<wl.length):=fun hh=>by
  grind
 have xz:=qGk wl k;obtain⟨S,hS⟩:∃S,S=qBk wl k:=⟨_,O⟩;rw[←hS] at xz⊢;refine qA ?_;refine tQ fun w5 mb hp=>?_;have hp:=(hp.k4 eQ 49 3).k4 jO 22 1;have hp:Hp W [] w5 ([qG jO 22 1 _ 0 (phL (fun _=>(none,0)) ((kI N wl S.toNat 0).map (·.1))),qG eQ 49 3 _ 0 ((kI N wl S.toNat 0).map (·.2)),blk mb 3 (qE (qAe ⟨fun _=>(none,0),_,0,_,0⟩ (kI N wl S.toNat 0).length _ 0 0)) 45,_,_,_]++_):=hp;refine qA (qQ ([13,14,15,16]++range' 42 42) (fun(j:Nat) F=>F.put 13 (Iv (j:Int))) (fun j w'=>j≤k∧∃z:Option Addr×Nat×(Nat→Option Addr×Nat)×Option Addr×Nat,GpOf z.2.2.1 gr N ((kI N wl S.toNat j).map (·.1))∧SVL z.1 z.2.1 (phL z.2.2.1 ((kI N wl S.toNat j).map (·.1)))∧SVL z.2.2.2.1 z.2.2.2.2 ((kI N wl S.toNat j).map (·.2))∧Hp W [] w' ([qG jO 22 1 z.1 z.2.1 (phL z.2.2.1 ((kI N wl S.toNat j).map (·.1))),qG eQ 49 3 z.2.2.2.1 z.2.2.2.2 ((kI N wl S.toNat j).map (·.2)),blk mb 3 (qE (qAe ⟨z.2.2.1,z.1,z.2.1,z.2.2.2.1,z.2.2.2.2⟩ (kI N wl S.toNat j).length none 0 0)) 45,_,blk bd 13 (qE d.L) 28,qG jO 22 1 sO cO (phL gr N)]++lm N.length (wR gr N))) (fun j=>k-j) 0 (qB (Same.eq .refl) O) ⟨bN _,(none,0,fun _=>(none,0),none,0),fun i hi=>absurd hi (gT i),SVL.nil,SVL.nil,hp⟩ ?_);clear hp;rintro u2 j w6 ⟨hj,⟨sP,cP,gp,sV,cV⟩,hK,ue,hL,hp⟩;dsimp only at hK ue hL hp;have se:=qS9 N wl S.toNat j;refine qA (xD O (fun h3=>?_) (fun h3=>?_))
 ·have h4:=by simpa using h3
  have hH:j<k:=O1;obtain⟨x,hx⟩:∃x,wl[j]? =some x:=⟨_,aA h4.2⟩;have hF:wl.getD j 0=x:=by rw[aC,hx];rfl
  obtain⟨bw,ow,hV,hM⟩:=qb j x hx;have hY:W.cell? ⟨bw,ow+j*1,_⟩=_:=hM 0 _ O;have hl:=h4.2;have yv:=h4.1;have h0:=gK x (show 10≠0 by decide);have h9:=gI x (show 0<10 by decide);have x4:=jA0 wl k j hH;rw[←hS,hF] at x4;refine tD (r37 x 10 _ O2 O2) fun w7 hp=>?_;refine tI (fun h5=>?_) fun h5=>?_
  ·have h5:=h5;obtain⟨q,hq⟩:∃q,q=mkRat (x%10) S.toNat:=⟨_,O⟩;have hT:=fun w'=>r38 (x%10).toNat S.toNat w' (FitR.small O1) (FitR.small O1) O1
   rw[Int.toNat_of_nonneg h0,←hq] at hT;have yx:kI N wl S.toNat (j+1)=kI N wl S.toNat j++[(N.getD j [],q)]:=by
    simp only[kI,hF,if_pos h5,hq]
   obtain⟨m,hm⟩:∃m,m=kI N wl S.toNat j:=⟨_,O⟩;rw[←hm] at yx hK ue hL hp se;have zh:(m.map (·.1)).length=_:=aM ..;have oy:(m.map (·.2)).length=_:=aM ..;have hQ:(phL gp (m.map (·.1))).length=m.length:=by unfold phL;rw[qT,zh]
   obtain⟨gO,hZ⟩:=ok.O.addr (fun e=>by
    have:=aQ List.length e;unfold phL at this;rw[qT] at this;grind)
   refine tD (c40 (x%10) _ O1) fun w8 hp=>?_;refine tD (c40 S _ O1) fun w9 hp=>?_;refine tC (hT _) fun ur hp=>?_;refine qA ?_;refine tQ fun gg ba hp=>?_;refine tS fun gh hp=>?_;have hp:=hp.norm 0 (eQ q) O O;have hp:Hp W [] _ ([blk _ 3 _ 49,_,_,_,_,_,_]++_):=hp;refine qA ?_;have cc:∀{w0:World} {L:List _} (i:Nat),Hp W [] w0 L→_=some (qG jO 22 1 sO cO (phL gr N))→w0.cell? ⟨gO,0+j*1,_⟩=some (.slice (gr j).1 (N.getD j []).length (gr j).2):=fun i hp hi=>jCy (qZ hp i hi ok.O (fun _=>O)) hZ h4.1 0 _ O
   refine xL 9 O jG O3 (fun w'=>w'.cell? ⟨mb,0+0,_⟩=some (.slice sP _ cP)∧w'.cell? _=some _) ⟨hp.N.cell 3 O O,cc 6 hp.N O⟩ ?_;have hp:=hp.N;refine qX ?_;apply wdp;exact O;intro w hg;exact qS O O hg.1;exact fS O;refine qX ?_;apply wdp;exact O;intro w hg;exact qS O O hg.2;exact fS O;apply wds;exact O;exact jC (cs:=[.slice _ _ _]) hp O O O O O O O;rintro _ gm ⟨nb,rfl,hp⟩;refine⟨⟨hp.cell 4 O O,cc 7 hp O⟩,?_⟩;apply wds;exact O;exact jV jO _ ((gr j).1,(N.getD j []).length,(gr j).2) hp 2 0 O O O O O O (fun _=>O) (by rw[hQ];rfl) O O ue O O O1;rintro _ gj ⟨sc,ca,rfl,xy,hp⟩;refine⟨⟨hp.cell 4 O O,cc 7 hp O⟩,?_⟩;have hU:(phL gp (m.map (·.1))++[((gr j).1,(N.getD j []).length,(gr j).2)]).length=m.length+1:=by rw[aY,hQ];rfl
   rw[hU];refine qX (qU ?_);refine StepF.mono (jD hp 4 O O O O (qD O) O) ?_;rintro _ gn ⟨rfl,hp⟩;have hp:=hp.norm 4 [.slice _ _ _,.slice sV _ cV,.slice _ 0 0] O O;have hp:Hp W [] _ ([_,_,_,_,_,_,_]++_):=hp.H;refine gA1 ?_;refine jM (wlp (qL O O O O (hp.j3 0 O O)) (O:_=QV q) ?_);refine tF (jC (cs:=eQ q) hp O O O O O O O) fun ht nb2 hp=>tFb (jV eQ _ q hp 3 0 O O O O O O jT (by rw[oy];rfl) O O hL O O O1) fun hy sd ce⟨xn,hp⟩=>?_;have o9:(m.map (·.2)++[q]).length=m.length+1:=by rw[aY,oy];rfl
   rw[o9];refine tT fun hE hp=>?_;have hp:=hp.H.H;have zt:=hK.snoc h4.1;rw[←qTd] at hp xy;have ea:m.map (·.1)++[N.getD j []]=(kI N wl S.toNat (j+1)).map (·.1):=by rw[yx,dR];rfl
   have eb:m.map (·.2)++[q]=(kI N wl S.toNat (j+1)).map (·.2):=by rw[yx,dR];rfl
   have ec:m.length+1=(kI N wl S.toNat (j+1)).length:=by rw[yx,aY];rfl
   rw[ea] at hp xy zt;rw[eb] at hp xn;rw[ec] at hp;refine gA8 ?_;exact⟨_,qB O5 O,⟨O1,(sc,ca,_,sd,ce),zt,xy,xn,hp⟩,O1⟩
  have yx:kI N wl S.toNat (j+1)=kI N wl S.toNat j:=by
   simp only[kI,hF,if_neg h5]
  refine gA8 ?_;refine⟨_,qB O5 O,⟨O1,(sP,cP,gp,sV,cV),?_⟩,O1⟩;grind
 have h4:¬(j<N.length∧j<wl.length):=fun hh=>by
  grind
 obtain rfl:k=j:=O1;obtain⟨m,hm⟩:∃m,m=kI N wl S.toNat k:=⟨_,O⟩;rw[←hm] at hK ue hL hp;refine qA (tO (qW hp 3 O O O O (qD O) O) fun w7 lj=>?_);have lj:Hp W [] w7 ([_,_,_,_,_,_]++_):=lj;have vh:MxAt sP gp sV m w7:=by
  rw[qQs] at ue;rw[qPr] at hL;rw[qQs,qPr] at lj;refine⟨qZ lj 0 O ue (fun _=>O),fun i hi=>?_,qZ lj 1 O hL jT⟩;obtain⟨q,h6,h7,h8⟩:=hK i (by grind);rw[qQu] at h8;rw[h7,h8];exact qFb lj (aU _ (bD.2 ⟨q,aO.2 h6,O⟩)) (ok.r q h6) (fun _=>O)
 refine qA ?_;exact yP O O O O O (lj.j4 3 O O) ⟨_,O,sP,cP,gp,sV,cV,N,k,m,by rw[←hS];rfl,hW,hX,by grind,vh,lj.C⟩
end Go.Proofs.YtplkndjlfkkjlaaGreatDoor
namespace Go.Lp
open List (range range' replicate)
def qNb:List Rat→List Rat→Bool
 |x::a,y::b=>if x=y then qNb a b else decide (y<x)
 |_,_=>false
theorem qJm:∀a,qNb a a=false
 |[]=>rfl
 |x::a=>by
  rw[qNb,if_pos O];exact qJm a
theorem qS1:∀(i:Nat) (a b:List Rat) (x y:Rat),a.take i=b.take i→a[i]? =some x→b[i]? =some y→x≠y→qNb a b=decide (y<x)
 |0,x'::a,y'::b,x,y,_,h1,h2,hne=>by
  obtain rfl:x'=x:=by grind
  obtain rfl:y'=y:=by grind
  rw[qNb,if_neg hne]
 |i+1,x'::a,y'::b,x,y,ht,h1,h2,hne=>by
  obtain⟨e1,e2⟩:=List.cons.inj ht;rw[qNb,if_pos e1];exact qS1 i a b x y e2 (by grind) (by grind) hne
 |_,[],_,_,_,_,h1,_,_=>by grind
 |_,_::_,[],_,_,_,_,h2,_=>by grind
def ltQ(a b:Rat):Bool:=decide (a<b)
theorem jP9(a b c:Rat)(h1:ltQ a b=false)(h2:ltQ b c=false):ltQ a c=false:=by
 unfold ltQ at*
 grind
theorem jPa(a b:Rat)(h:ltQ a b=true):ltQ b a=false:=by
 unfold ltQ at*
 grind
end Go.Lp
namespace Go.Proofs.YtplkndjlfkkjlaaGreatDoor
open List (range range' replicate)
open Go.Proofs.Tryz
open Go.Eng Go.Dig Go.Lp Go.Qu
theorem qXg(l:List Rat):(kX ltQ l).Pairwise (·≤·):=(qSv jP9 jPa l).imp fun{a b} h=>by
 unfold ltQ at h;grind
theorem jTv{n:Nat}{p q:Nat→Rat}{best:(Nat→Rat)→Rat}{lv:List (Rat×(Nat→Rat))}(hh:prv n p best lv (fun _=>false) none)(hg:∀y:Nat→Rat,(∀i,i<n→0≤y i)→sm n (fun i=>y i*q i)≤best y):
  qNb (kX ltQ (lm n q)) (kX ltQ (lm n p))=false:=by
 rcases qQn hg lv _ _ hh (fun i _ h=>by cases h) with h|⟨D,v,k,h1,h2,hk,hd,hq⟩
 ·rw[jH h];exact qJm _
 obtain⟨i,ht,x,y,e1,e2,ft⟩:=jEx h1 h2 hk hd hq (qXg (lm n q)) (qXg (lm n p)) (wK _ _) (wK _ _);rw[qS1 i _ _ x y ht e1 e2 (by grind),fA];grind
section
variable {n:FrK}{w w0:World}{M:List Nat}{L:List Ent}{F:Fr}{d:Option Tmp}{ty:TypeId}{pos:String}{aft:Array Edge}{g:Option (Nat×Bool)}{x y:Operand}
theorem jAl{α:Type}(enc:α→List Value){t e k ba m:Nat}{kl kc:IntKind}{z:Value}(hp:Hp w0 M w L)(ht:qDg t=some (e,k))(hz:wT e=some z)(x3:qEh e=some ba)
  (hx:ev n F x= .int kl 0) (hy:ev n F y= .int kc m) (hk:z.cells.size=k) (hm:m<1000000000) (hb:Nat.ble ba 1000=true):
  StepF Tryz.prog n ⟨d,.makeSlice t x y,ty,pos,aft,g⟩ F w (fun u w'=>∃b,u= .slice (Ad b) ([]:List α).length m∧SVL (Ad b) m ([]:List α)∧Hp w0 M w' (qG enc e k (Ad b) m ([]:List α)::L)):=by
 have h6:=(zK ht).1;have hs:=(zK ht).2;have hz:=qJ hz;obtain⟨inf,hh,hD⟩:=(qBp x3).ex;have p2:=by
  exact mBx
 have xz:=by
  exact mCu
 have jn:=eK hb;have sf:ba*m≤1000*1000000000:=cF jn O1;have hg:inf.bytes*(m:Int)≤281474976710656:=by
  exact mBv
 have hr:=run_make w t e _ z h6 hh xz kl kc 0 m O1 O1 hg O1;refine xN (v:=.slice _ 0 m) (w':=w.alloc (.cells (madeCells z.cells (m*k)) e)) ?_ ⟨w.heap.size,O,?_,?_⟩
 ·rw[p2] at hr;simp[execOp,hx,hy,hr]
 ·exact .inr ⟨_,m,O,bN _,by unfold maxLen;omega⟩
 exact hp.alloc _ ⟨_,O,by simp[jAm,sAv],O4⟩
end
attribute [local irreducible] PV StepF wpl wpd WP Ret
attribute [local irreducible] Fit kX
set_option maxHeartbeats 1000000 in
theorem r12(n:Nat)(sP sV sL:Option Addr)(cP cV cL nl κ:Nat)(gp:Nat→Option Addr×Nat)(m:List (List Nat×Rat))(W:World)(hb:∀k i,BQ κ (jE (m.take k) i))(hw:∀k,k<m.length→BQ κ (wF m k))(hκ:κ≤6000000000)(hn:n≤1000)(hm:m.length≤1000)(hl:∀k,k<m.length→(pF m k).length≤1000)(hA:MxAt sP gp sV m W):
  Rt 12 [.agg #[.slice sP m.length cP,.slice sV m.length cV,.slice sL nl cL],Iv (n:Int)] W (fun v w'=>∃s c,v= .slice s n c∧SVL s c (lm n (jE m))∧Hp W [] w' [qG eQ 49 3 s c (lm n (jE m))]):=by
 refine tW func12 ntmps12 fun hp=>?_;refine qR ?_;refine tQ fun w1 b2 hp=>?_;have hp:=hp.k4 eQ 49 3;have hp:Hp W [] w1 [qG eQ 49 3 _ 0 (lm 0 (jE m)),blk b2 3 _ 45]:=hp;refine qA (qQ ([5,6,7,8,9]++range' 11 35) (fun z F=>(F.put 5 (.slice z.2.1 z.1 z.2.2)).put 11 (.int _ (z.1))) (fun z w'=>z.1≤n∧SVL z.2.1 z.2.2 (lm z.1 (jE m))∧Hp W [] w' [qG eQ 49 3 z.2.1 z.2.2 (lm z.1 _),_]) (fun z=>n-z.1) (0,none,0) (qB (qB (Same.eq .refl) O) O) ⟨O1,SVL.nil,hp⟩ ?_);clear hp;rintro u ⟨i,s,c⟩ w2 ⟨hi,hv,hp⟩;dsimp only at hi hv hp⊢;refine tI (fun h=>?_) fun h=>?_
 ·have hg:i<n:=O1;refine tD (wM _) fun w3 hp=>?_;refine tQ fun w4 b7 hp=>?_;refine tS fun w5 hp=>?_;have hp:=hp.norm 0 (eQ (jE (m.take 0) i)) O O;have hp:Hp W [] w5 [blk b7 3 _ 49,_,_]:=hp;refine qA (qQ ([8,9]++range' 18 23) (fun(k:Nat) F=>F.put 18 (.int _ k)) (fun k w'=>k≤m.length∧Hp W [] w' [blk b7 3 (qE (eQ (jE (m.take k) i))) 49,_,_]) (fun k=>m.length-k) 0 (qB (Same.eq .refl) O) ⟨O1,hp⟩ ?_);clear hp;rintro u2 k w6 ⟨hk,hp⟩;refine tI (fun h2=>?_) fun h2=>?_
  ·have hx:k<m.length:=O1;obtain⟨bp,op,h7,ht⟩:=jR hA.P hx;have h4:W.cell? ⟨bp,op+k*1,_⟩=some (.slice (gp k).1 (pF m k).length (gp k).2):=ht 0 _ O;obtain⟨bw,ow,qb,hy⟩:=jR hA.V hx;have hj:=hA.p k hx;have ee:=qFp hx i;have hz:=fun w' h=>r47 ((pF m k).map fun x:Nat=>x) (gp k).1 (gp k).2 i w' h (by grind)
   rw[aM,jEp] at hz;have d1:decide ((k:Int)<m.length)=_:=aD O1;subst qb;refine qA ?_;rw[d1];refine tE (hz _ (jV5 (hj.j6 hp.C))) fun w7 hp=>?_;refine jL (qH O (fun h3=>?_) (fun h3=>?_))
   ·rw[if_pos h3] at ee;refine xL 7 O jG O3 (fun w'=>Hp _ _ w' _) hp.N ?_;have hp:=hp.N;refine qX ?_;refine tP (fun w hp=>qL O O O O (fun q v e=>hp.j7 (hy q v e))) (tK (r44 _ (hb k i) (hw k hx) O1) ?_);rintro _ w8 ⟨rfl,h5⟩;refine⟨hp.call h5,?_⟩;have hp:=hp.call h5;refine qU ?_;refine StepF.mono (qW hp 0 O O O O (qD O) O) ?_;rintro _ w9 ⟨rfl,hp⟩;have hp:=hp.norm 0 (eQ (jE _ i)) O (by rw[ee];rfl);exact mBs
   rw[if_neg h3,Rat.add_zero] at ee;rw[←ee] at hp;exact mBs
  obtain rfl:k=m.length:=O1;rw[dE] at hp;have hq:(lm i (jE m)).length=i:=qT;refine qR ?_;refine jM (wlp (qL O O O O (hp.j3 0 O O)) (O:_=QV _) ?_);refine tF (jC (cs:=eQ _) hp O O O O O O O) fun w7 nb hp=>tFb (jV eQ _ _ hp 2 0 O O O O O O jT (by rw[hq];rfl) O O hv O O O1) fun w8 s' c'⟨hh,hp⟩=>?_;have hp:=hp.H.H;have eN:_=lm (i+1) (jE m):=lm_succ.symm;have hp:Hp W [] w8 [_,_]:=hp;rw[eN] at hp hh⊢;rw[qT];refine gA7 ?_;exact⟨(i+1,s',c'),qB O5 O,⟨O1,hh,hp⟩,O1⟩
 obtain rfl:n=i:=O1;refine tV ?_;exact⟨_,O,s,c,O,hv,hp.sub (dT _ _)⟩
set_option maxHeartbeats 1000000 in
theorem r13(n:Nat)(q p:Nat→Rat)(s s2:Option Addr)(c c2:Nat)(w:World)(hs:SlAt w 3 eQ s (lm n q))(h5:SlAt w 3 eQ s2 (lm n p))(hn:n≤1000000):
  Rk 13 [.slice s n c,.slice s2 n c2] w (.bool (decide (∀i,i<n→q i=p i))):=by
 refine tW func13 ntmps13 fun hp=>?_;refine qA ?_;refine xI O O1 (fun _=>qA (qQ [4,5,11,12,13,14,15,16,17,18,19,20,21,22,23,24,25] (fun(i:Nat) F=>F.put 5 (.int _ i)) (fun i w'=>i≤n∧(∀j,j<i→q j=p j)∧Hp w [] w' []) (fun i=>n-i) 0 (qB (Same.eq .refl) O) ⟨O1,fun j hj=>absurd hj O1,hp⟩ ?_));clear hp;rintro u i w1 ⟨hi,he,hp⟩;refine tI (fun h2=>?_) fun h2=>?_
 ·have hl:i<n:=O1;obtain⟨b0,o0,hs0,yq⟩:=jR hs hl;obtain⟨b1,o1,hq,sY⟩:=jR h5 hl;refine qR ?_;refine tX fun hp=>?_;refine qX ?_;refine wdp O (fun w hp=>qL O O O O (fun j v hv=>hp.j7 (yq j v hv))) (O:_=QV _) (qX ?_);refine wdp O (fun w hp=>qL O O O O (fun j v hv=>hp.j7 (sY j v hv))) (O:_=QV _) (wdp O (fun w hp=>qVg O O) O ?_);refine qU (xI O (fun h3=>?_) (fun h3=>?_))
  ·rw[aB (show¬∀i,i<n→q i=p i from fun fs=>h3 (fs i hl))];refine qA ?_;exact mAb
  refine gA0 ?_;refine⟨i+1,qB O5 O,⟨O1,fun j hj=>?_,hp⟩,O1⟩;grind
 obtain rfl:n=i:=O1;rw[aD (show∀j,j<n→q j=p j from he)];refine qA ?_;exact mAb
set_option maxHeartbeats 2000000 in
theorem r57(n:Nat)(q:Nat→Rat)(κ:Nat)(s:Option Addr)(c:Nat)(W:World)(hs:SlAt W 3 eQ s (lm n q))(hn:n<20)(hb:∀i,i<n→BQ κ (q i))(hκ:κ≤100000000000):
  Rt 57 [.slice s n c] W (fun v w'=>∃b cb,v= .slice (Ad b) n cb∧SVL (Ad b) cb (kX ltQ (lm n q))∧Hp W [] w' [qG eQ 49 3 (Ad b) cb (kX ltQ (lm n q))]):=by
 refine tW func57 ntmps57 fun hp=>?_;refine qA ?_;refine tF (jAl eQ hp O O O O O O O1 O) fun w1 g⟨hv,hp⟩=>?_;have hp:Hp W [] w1 [qG eQ 49 3 _ n (lm 0 q)]:=hp;refine qA (qQ ([3,5]++range' 11 13) (fun z F=>(F.put 3 (.slice (some ⟨z.2.1,0,_⟩) z.1 z.2.2)).put 11 (.int _ (z.1))) (fun z w'=>z.1≤n∧SVL (some ⟨z.2.1,0,_⟩) z.2.2 (lm z.1 q)∧Hp W [] w' [qG eQ 49 3 (some ⟨z.2.1,0,_⟩) z.2.2 (lm z.1 q)]) (fun z=>n-z.1) (0,g,n) (qB (qB (Same.eq .refl) O) O) ⟨O1,hv,hp⟩ ?_);clear hp hv;rintro u ⟨k,b,cb⟩ w2 ⟨hk,hv,hp⟩;dsimp only at hk hv hp⊢;refine tI (fun h=>?_) fun h=>?_
 ·have hl:k<n:=O1;obtain⟨bs,os,hg,hc⟩:=jR hs hl;have fq:=BQ.fq (hb k hl) O1;have hh:(lm k q).length=k:=qT;refine qA (tR (qL O O O O (fun j v e=>hp.j7 (hc j v e))) ?_);refine tQ fun w3 b5 hp=>?_;refine tS fun w4 hp=>?_;have hp:=hp.norm 0 (eQ _) O O;refine tD (r51 _ fq) fun w5 hp=>?_;refine qA (qN O ?_);refine qR ?_;refine jM (wlp (qL O O O O (hp.j3 0 O O)) (O:_=QV _) ?_);refine tF (jC (cs:=eQ _) hp O O O O O O O) fun w6 nb hp=>tFb (jV eQ _ _ hp 2 0 O O O O O O jT (by rw[hh];rfl) O O hv O O O1) fun w7 s' c'⟨hm,hp⟩=>?_;have hp:=hp.H.H;have eN:_=lm (k+1) q:=lm_succ.symm;have hp:Hp W [] w7 [_]:=hp;rw[eN] at hp hm⊢;rw[qT];obtain⟨g',rfl⟩:=hm.addr (fun e=>by have:=aQ List.length e;grind);refine gA5 ?_;exact⟨(k+1,g',c'),qB O5 O,⟨O1,hm,hp⟩,O1⟩
 obtain rfl:n=k:=O1;have el:=by
  have:=hv.cap;rwa[qT] at this
 have qa:cb≤maxLen:=by
  rcases hv with⟨h1,_⟩|⟨g,cap,h1,h2,h3⟩
  ·cases h1
  cases h1;exact h3
 have ht:=zBe (lm n q) ltQ b cb 53 qIl #[] w2;rw[qT] at ht;have h7:=Hp.q3 hp 0 O;refine qA ?_
 (apply wls;exact qC O jSz O (ht h7 el qa (fun W' _ x hx y hy=>by
  obtain⟨i,hi,rfl⟩:=bD.1 hx;obtain⟨j,hj,rfl⟩:=bD.1 hy;refine(r53 W' (hb i (aO.1 hi)) (hb j (aO.1 hj)) O1).mono ?_;unfold wH ltQ;grind) hn);rintro v3 w3 ⟨ox,hq⟩)
 have hp:=Hp.aA4 hp 0 O ox hq;refine tV ?_;exact⟨_,O,b,cb,O,jZ hv (by rw[qF2]),hp⟩
set_option maxHeartbeats 2000000 in
theorem r56(a b:List Rat)(κ:Nat)(s s2:Option Addr)(c c2:Nat)(W:World)(hs:SlAt W 3 eQ s a)(h5:SlAt W 3 eQ s2 b)(hl:a.length=b.length)(hn:a.length≤1000000)(ha:∀x∈a,BQ κ x)(hb:∀x∈b,BQ κ x)(hκ:κ≤100000000000):
  Rt 56 [.slice s a.length c,.slice s2 b.length c2,.func (.func 53) #[] #[]] W (fun v w'=>(∃z:Int,v=Iv z∧(0<z↔qNb a b=true))∧Keeps [] W w'):=by
 refine tW func56 ntmps56 fun hp=>?_;refine qA (qQ ([6,7,8,9,10]++range' 13 21) (fun(i:Nat) F=>F.put 13 (.int _ i)) (fun i w'=>i≤a.length∧a.take i=b.take i∧Hp W [] w' []) (fun i=>a.length-i) 0 (qB (Same.eq .refl) O) ⟨O1,O,hp⟩ ?_);clear hp;rintro u i w1 ⟨hi,he,hp⟩;refine tI (fun h=>?_) fun h=>?_
 ·have hg:i<a.length:=O1;have zj:i<b.length:=O1;obtain⟨x,hx⟩:∃x,a[i]? =some x:=⟨_,aA hg⟩;obtain⟨y,hy⟩:∃y,b[i]? =some y:=⟨_,aA zj⟩;obtain⟨b0,o0,hs0,yq⟩:=hs i x hx;obtain⟨b1,o1,hq,sY⟩:=h5 i y hy;have fw:=ha x (aI hx);have x3:=hb y (aI hy);refine qA (tR (qL O O O O (fun j v e=>hp.j7 (yq j v e))) ?_);refine tQ fun w2 b8 hp=>?_;refine qR ?_;refine tR qY (tS fun w3 hp=>?_);have hp:=hp.norm 0 (eQ x) O O;refine qA ?_;refine qH O O1 (fun _=>qA (tR (qL O O O O (fun j v e=>hp.j7 (sY j v e))) ?_));refine tQ fun w4 b9 hp=>?_;refine tS fun w5 hp=>?_;have hp:=hp.norm 0 (eQ y) O O;have hp:Hp W [] w5 [blk b9 3 _ 49,blk b8 3 _ 49]:=hp;refine qR ?_;refine jM (wlp (qL O O O O (hp.j3 1 O O)) (O:_=QV x) ?_);refine wlp (qL O O O O (hp.j3 0 O O)) (O:_=QV y) (tC (r53 _ fw x3 O1) fun w6 hp=>?_);by_cases ft:x=y
  ·have hc:wH x y=0:=by
    unfold wH;rw[if_neg (by grind),if_pos ft]
   rw[hc];refine gA9 ?_;refine⟨_,qB O5 O,⟨O1,?_,hp.H.H⟩,O1⟩;rw[nX,nX,hx,hy,he,ft]
  have xr:wH x y≠0:=by
   unfold wH;rw[if_neg ft];split<;>decide
  have hh:=qS1 i a b x y he hx hy ft;refine qA ?_;refine xI O (fun _=>?_) O1;refine qA ?_;refine qM O O ⟨_,O,⟨_,O,?_⟩,hp.C⟩;unfold wH;grind
 obtain rfl:i=a.length:=O1;have jz:=by
  rw[dE,hl,dE] at he;exact he
 have hm:qNb a b=false:=by rw[jz];exact qJm b
 refine qA ?_;refine qH O O1 (fun _=>tV ?_);exact⟨_,O,⟨0,O,by grind⟩,hp.C⟩
theorem r14(n:Nat)(q p:Nat→Rat)(κ:Nat)(s s2:Option Addr)(c c2:Nat)(W:World)(hs:SlAt W 3 eQ s (lm n q))(h5:SlAt W 3 eQ s2 (lm n p))(hn:n<20)(hq:∀i,i<n→BQ κ (q i))(hp:∀i,i<n→BQ κ (p i))(hκ:κ≤100000000000):
  Rt 14 [.slice s n c,.slice s2 n c2] W (fun v w'=>v= .bool (qNb (kX ltQ (lm n q)) (kX ltQ (lm n p)))∧Keeps [] W w'):=by
 have zh:(kX ltQ (lm n q)).length=n:=by rw[qF2,qT]
 have oy:(kX ltQ (lm n p)).length=n:=by rw[qF2,qT]
 have xa:=hq;have qe:=hp;refine tW func14 ntmps14 fun hp=>?_;refine qA ?_;refine xI O O1 (fun _=>tL (r57 n q κ s c _ O1 hn xa hκ) ?_);rintro _ w1 ⟨b1,c1,rfl,s7,ed⟩;have hp:=hp.join ed;refine tL (r57 n p κ s2 c2 _ (h5.j6 hp.C) hn qe hκ) ?_;rintro _ w2 ⟨b2,cc,rfl,s8,lj⟩;have hp:=hp.join lj;have hg:=r56 _ _ κ _ _ c1 cc w2 (qZ hp 1 O s7 jT) (qZ hp 0 O s8 jT) O1 O1
  (fun x hx=>by
   obtain⟨i,hi,rfl⟩:=bD.1 ((wK _ _).mem_iff.1 hx)
   grind)
  (fun x hx=>by
   obtain⟨i,hi,rfl⟩:=bD.1 ((wK _ _).mem_iff.1 hx)
   grind) hκ
 rw[zh,oy] at hg;refine tK hg ?_;rintro _ w3 ⟨⟨z,rfl,hz⟩,ox⟩;have hp:=hp.call ox;refine wlp (xJ O O) (qV (b:=qNb _ _) (by rw[iG,dL];exact hz)) (tV ?_);exact mB0
end Go.Proofs.YtplkndjlfkkjlaaGreatDoor
namespace Go.Lp
open List (range range' replicate)
theorem qOo{D M:Nat}(i:Nat):∀m:List (List Nat×Rat),(∀x∈m,Ov D M x.2)→Ov D (m.length*M) (jE m i)
 |[],_=>⟨0,by show(0:Rat)*_=(0:Int);simp,bN _⟩
 |(P,w)::m,h=>by
  obtain⟨x,e1,e2⟩:=qOo i m (fun x hx=>h x (by simp[hx]));obtain⟨y,f1,f2⟩:=h (P,w) O4;show Ov D ((m.length+1)*M) ((if i∈P then w else 0)+jE m i)
  rw[lO];split
  ·refine⟨y+x,?_,O1⟩;grind
  refine⟨x,?_,O1⟩;grind
end Go.Lp
namespace Go.Proofs.YtplkndjlfkkjlaaGreatDoor
open List (range range' replicate)
open Go.Proofs.Tryz
section
open Go.Eng Go.Dig Go.Lp Go.Qu
variable{D:Nat}{d:DW}{l:List EW}{Mo:Nat}
theorem qSt:∀n,(qLa n).length=2^n
 |0=>rfl
 |n+1=>by
  show(qLa n++(qLa n).map _).length=_
  rw[aY,aM,qSt,dD];omega
theorem jJv(hn:l.length≤5){m:List (List Nat×Rat)}(ln:(m.map (·.1)).Nodup)(hF:∀x∈m,FsP d l x.1):m.length≤32:=by
 have h1:=nF ln (fun P hP=>by
  obtain⟨x,hx,rfl⟩:=bD.1 hP;have:=hF x hx
  exact qDl _ _ this.srt this.lt)
 rw[aM,qSt] at h1;have:_≤2^5:=aR O2 hn;omega
theorem jYc{k K M:Nat}{a:Rat}(hK:K=k+30)(hD:0<D)(hg:D≤M)(hM:M<2^k*1073741824)(h:Ov D M a):BQ K a:=by
 subst hK;have e:2^30=1073741824:=O2;exact wQ hD hg (by grind) h
theorem jKc{Z:Nat}(h0:0<D)(h1:D≤Mo)(h2:Mo<Z):0<60*D∧60*D≤192*(60*(34*Mo))∧192*(60*(34*Mo))<Z*1073741824∧60*D≤32*(192*(60*(34*Mo)))∧32*(192*(60*(34*Mo)))<Z*1073741824:=O1
theorem MxR.mixG{s:Option Addr}{cE:Nat}{ma:MA}{adds:List (List Nat×Rat)}{a:FrA}{c:FrS}{s0 sF:Sr}{lv:List (Rat×(Nat→Rat))}{X:Nat→Rat}{v0:Rat}(h:MxR d s cE l ma adds a c s0 sF lv X v0 D Mo):MixG (FsP d l) 5712200030 (kE adds):=by
 obtain⟨_,m2,m3,_,m5⟩:=h.mx;have hV:=jJv h.inv.n5 m3 (fun x hx=>(m5 x hx).1);obtain⟨n1,n2,n3,n4,n5⟩:=jKc h.D0 h.DM h.hMo;refine⟨hV,fun x hx=>⟨(m5 x hx).1,(m5 x hx).2.1,jYc (k:=5712200000) O2 n1 n2 n3 (m5 x hx).2.2⟩,m3,m2,fun k i=>?_⟩;obtain⟨x,e1,e2⟩:=qOo (D:=60*D) (M:=192*(60*(34*Mo))) i ((kE adds).take k) (fun x hx=>(m5 x (gF hx)).2.2);exact jYc (k:=5712200000) O2 n1 n4 n5 ⟨x,e1,bL e2 (aL _ (bL (List.length_take_le' _ _) hV))⟩
structure PlG(d:DW)(l:List EW)(m:List (List Nat×Rat))(lv:List (Rat×(Nat→Rat)))(p:Nat→Rat):Prop where
 mix:MixG (FsP d l) 5712200030 m
 prv:prv l.length p (vU (FsP d l)) lv (fun _=>false) none
 ch:∀i,i<l.length→jE m i=p i
 yb:∀x∈lv,∀i,i<l.length→BQ 34273200056 (x.2 i)
 ll:lv.length≤1000
attribute [local irreducible] PV StepF wpl wpd WP Ret
attribute [local irreducible] Fit ofN
set_option maxHeartbeats 8000000 in
theorem r7(d:DW)(s:Option Addr)(c:Nat)(l:List EW)(W:World)(hD:DE d s l W)(hd:DP d)(he:∀e∈l,EP e)(ln:(l.map (·.id)).Nodup)(hn:l.length≤5):
  Rt 7 [d.v,.slice s l.length c] W (fun v w'=>((∀P,¬FsP d l P)∧v= .tuple #[.agg #[Iv 0,.string ⟨#[]⟩,Iv 0,Zs,Zs,Zs],Iv 16]∧Keeps [] W w')∨
   ∃a m lv lr p,PlG d l m lv p∧v= .tuple #[.agg (a.L (plT m) m.length lv.length (yY (plT m))).toArray,Iv 0]∧PlAt a m w'∧LvAt a.sL lr l.length lv w'∧Keeps [] W w'):=by
 have oi:=hd.kd;have hg:=hd.sz;refine tW func7 ntmps7 fun hp=>?_;refine qR ?_;refine tQ fun w1 b2 hp=>?_;have hp:=hp.norm 0 d.L O O;refine tQ fun w2 b4 hp=>?_;have hp:Hp W [] w2 [blk b4 6 (qE [Iv 0,.string ⟨#[]⟩,Iv 0,Zs,Zs,Zs]) 39,blk b2 13 (qE d.L) 28]:=hp;refine qR ?_;refine tR qY ?_;refine qR ?_;refine wlp (qL (vs:=d.L) O O O O (hp.j3 1 O O)) (O:_=d.v) ?_;refine wlp qP (O:_=Value.slice s l.length c) ?_;refine tC (r31 d s c l _ (hD.j5 hp.C) hd he ln) fun w3 hp=>?_;refine qA ?_;refine qN O ?_;have ck:w3.cell? ⟨b2,0+1,none⟩=some (Iv d.kd):=hp.cell 1 O O;rw[oi] at ck;refine qA ?_;refine tQ fun w4 b7 hp=>?_;refine tS fun w5 hp=>?_;have hp:=hp.norm 0 [Iv 3,.string ⟨#[]⟩,Iv 0,Zs,Zs,Zs] O O;have hp:Hp W [] w5 [blk b7 6 (qE [Iv 3,.string ⟨#[]⟩,Iv 0,Zs,Zs,Zs]) 39,blk b4 6 (qE [Iv 0,.string ⟨#[]⟩,Iv 0,Zs,Zs,Zs]) 39,blk b2 13 (qE d.L) 28]:=hp;have ck:w5.cell? ⟨b2,0+1,none⟩=some (Iv d.kd):=hp.cell 2 O O;rw[oi] at ck;refine qA ?_;refine jB O ?_;refine qR ?_;refine wlp (qL (vs:=d.L) O O O O (hp.j3 2 O O)) (O:_=d.v) ?_;refine wlp qP (O:_=Value.slice s l.length c) ?_;refine tK (r32 d s c l _ (hD.j5 hp.C) oi O1 hn) ?_;rintro _ w6 h8;rcases h8 with⟨hno,rfl,hk6⟩|⟨ma,adds,a,cc,s0,sF,lv,X,v0,D,Mo,hR,rfl,hp6⟩
 ·have hp:=hp.call hk6;refine qA ?_;refine tQ fun w7 b8 hp=>?_;refine tT fun w8 hp=>?_;refine qA ?_;refine jB O ?_;refine tT fun w9 hp=>?_;have hp:=hp.norm 2 [Iv 0,.string ⟨#[]⟩,Iv 0,Zs,Zs,Zs] O O;refine qA ?_;exact yP O O O O O (hp.j4 2 O O) ⟨_,O,.inl ⟨hno,O,hp.C⟩⟩
 have hp:=Hp.swap (hp.join hp6);clear hp6;have hG:=hR.mixG;obtain⟨ht,ee⟩:=hR.fair;have h4:=hR.mix;have xu:=hR.fr;have hq:cc.n=l.length:=by rw[hR.cd]
 have hh:cc.cl=Go.Qu.clF (xT d l):=by rw[hR.cd]
 have uk:∀x∈lvE cc.cl lv,∀i,i<l.length→BQ 34273200056 (x.2 i):=fun x hx i hi=>by
  obtain⟨z,hz,rfl⟩:=bD.1 hx;rw[hh];exact hR.inv.yb z hz _ (hR.inv.cls.lt i hi)
 have eu:(lvE cc.cl lv).length≤1000:=by
  rw[qKt];have h1:=hR.inv.dc;have h2:sF.nd≤sF.nc:=by
   unfold Sr.nd;exact bL lJ O4
  have h3:=hR.inv.nc;omega
 rw[←qKt (cl:=cc.cl) (lv:=lv)];rw[←hh] at ht ee;obtain⟨m,hm⟩:∃m,m=kE adds:=⟨_,O⟩;rw[←hm] at hp hG ee h4⊢;have hV:=h4.V;have hP:=h4.P;have us:=h4.p;rw[qPr] at hV;rw[qQs] at hP;have vh:qId ma m=[qG jO 22 1 ma.sP ma.cP (phM ma.gp m),qG eQ 49 3 ma.sV ma.cV (lm m.length (wF m))]++lm m.length fun j=>qG eN 3 1 (ma.gp j).1 (ma.gp j).2 (pF m j):=by
  unfold qId;rw[qQs,qPr,aM];congr 1;exact jH fun j _=>by unfold wR;rw[qQu]
 rw[vh] at hp;have hy:=hG.len;have hU:5712200030*m.length≤5712200030*32:=dK _ hy;have hL:frL a cc sF (lvE cc.cl lv)=frL a cc sF (lvE cc.cl lv):=O;obtain⟨R,h7⟩:∃R,R=(lm m.length fun j=>qG eN 3 1 (ma.gp j).1 (ma.gp j).2 (pF m j))++frL a cc sF (lvE cc.cl lv):=⟨_,O⟩;have hp:Hp W [] w6 ([blk b7 6 (qE [Iv 3,.string ⟨#[]⟩,Iv 0,Zs,Zs,Zs]) 39,blk b4 6 (qE [Iv 0,.string ⟨#[]⟩,Iv 0,Zs,Zs,Zs]) 39,blk b2 13 (qE d.L) 28,qG jO 22 1 ma.sP ma.cP (phM ma.gp m),qG eQ 49 3 ma.sV ma.cV (lm m.length (wF m))]++R):=by
  rw[h7];exact hp
 refine qA ?_;refine tQ fun w7 b8 hp=>?_;refine tT fun w8 hp=>?_;have hp:=hp.norm 0 (qAe ma m.length a.sL (lvE cc.cl lv).length a.cL) O O;have hp:Hp W [] w8 ([blk b8 3 (qE (qAe ma m.length a.sL (lvE cc.cl lv).length a.cL)) 45,blk b7 6 (qE [Iv 3,.string ⟨#[]⟩,Iv 0,Zs,Zs,Zs]) 39,blk b4 6 (qE [Iv 0,.string ⟨#[]⟩,Iv 0,Zs,Zs,Zs]) 39,blk b2 13 (qE d.L) 28,qG jO 22 1 ma.sP ma.cP (phM ma.gp m),qG eQ 49 3 ma.sV ma.cV (lm m.length (wF m))]++R):=hp;refine gA3 ?_;refine tK (r33 m.length (wF m) ma.sV ma.cV 5712200030 _ (qZ hp 5 O hV jT) (fun i hi=>(hG.get hi).2.2) (fun i hi=>sAg (hG.get hi).2.1) O1 O1) ?_;rintro _ w9 ⟨gN,rfl,xc,hE⟩;have hp:=hp.join hE;clear hE;have hp:Hp W [] w9 ([qG eSt 34 1 (Ad gN) m.length (lm m.length (plN m)),blk b8 3 (qE (qAe ma m.length a.sL (lvE cc.cl lv).length a.cL)) 45,blk b7 6 (qE [Iv 3,.string ⟨#[]⟩,Iv 0,Zs,Zs,Zs]) 39,blk b4 6 (qE [Iv 0,.string ⟨#[]⟩,Iv 0,Zs,Zs,Zs]) 39,blk b2 13 (qE d.L) 28,qG jO 22 1 ma.sP ma.cP (phM ma.gp m),qG eQ 49 3 ma.sV ma.cV (lm m.length (wF m))]++R):=hp;have hF:=hG.x6 O2;refine tT fun ur hp=>?_;refine tT fun gg hp=>?_;refine tT fun gh hp=>?_;refine tT fun gm hp=>?_;obtain⟨pa,h5⟩:∃pa:PlA,pa=⟨ma.sP,ma.cP,ma.gp,Ad gN,m.length,a.sL,a.cL⟩:=⟨_,O⟩;have hp:=hp.norm 2 (pa.L (plT m) m.length (lvE cc.cl lv).length 0) O (by rw[h5];rfl);refine tD (r35 (plT m) _ hF) fun gj hp=>?_;refine tT fun gn hp=>?_;have hp:=hp.norm 2 (pa.L (plT m) m.length (lvE cc.cl lv).length (yY (plT m))) O O;refine qR ?_;refine wlp (qL (vs:=pa.L (plT m) m.length (lvE cc.cl lv).length (yY (plT m))) O O O O (hp.j3 2 O O)) (O:_=Value.agg (pa.L (plT m) m.length (lvE cc.cl lv).length (yY (plT m))).toArray) ?_;refine tS fun hl hp=>?_;have hp:=hp.norm 3 (pa.L (plT m) m.length (lvE cc.cl lv).length (yY (plT m))) O O;refine qA ?_;refine yP O O O O O (hp.j4 3 O O) ⟨_,O,.inr ⟨pa,m,lvE cc.cl lv,a.lr,_,⟨hG,ht,ee,uk,eu⟩,O,?_,?_,hp.C⟩⟩
 ·have h6:Hp W [] hl ([qG jO 22 1 ma.sP ma.cP (phM ma.gp m),qG eQ 49 3 ma.sV ma.cV (lm m.length (wF m))]++R):=hp.H.H.H.H.H;rw[h5];refine⟨qFb h6 (aI (i:=0) O) hP (fun _=>O),fun j hj=>qFb h6 (aU _ (by rw[h7];exact dB _ (bD.2 ⟨j,aO.2 hj,O⟩))) (by have:=us j (by rw[aM];exact hj);rwa[qQu] at this) (fun _=>O),qZ hp 0 O xc (fun _=>O)⟩
 have h6:Hp W [] hl ([qG jO 22 1 ma.sP ma.cP (phM ma.gp m),qG eQ 49 3 ma.sV ma.cV (lm m.length (wF m))]++R):=hp.H.H.H.H.H;have h9:∀e∈frL a cc sF (lvE cc.cl lv),e∈[qG jO 22 1 ma.sP ma.cP (phM ma.gp m),qG eQ 49 3 ma.sV ma.cV (lm m.length (wF m))]++R:=fun e he=>aU _ (by rw[h7];exact aU _ he)
 rw[h5,←hq];refine⟨qFb h6 (h9 _ (aI (i:=7) O)) xu.L (fun _=>O),fun j hj=>qFb h6 (h9 _ (aU _ (aU _ (bD.2 ⟨j,aO.2 hj,O⟩)))) (xu.l j hj) jT⟩
end
open Go.Eng Go.Dig Go.Lp Go.Qu
variable{l:List Int}{i n:Nat}{w:World}{G:List ByteArray}{k:Nat}
theorem qHh{n:Int}(h:0<n):0≤nxV l i n∧nxV l i n<n:=by
 unfold nxV;split
 ·exact⟨gK _ O1,gI _ h⟩
 omega
theorem qE8:nxI l i≤max i l.length:=by
 unfold nxI;grind
def dC(nm:ByteArray)(sz:Int)(sQ:Option Addr)(cQ:Nat)(Q:List (ByteArray×Int×Int)):DW:=⟨nm,3,5,0,0,0,none,0,0,false,none,0,0,0,sz,sQ,cQ,Q,none,0,0⟩
def abc:List ByteArray:=[⟨#[97]⟩,⟨#[98]⟩,⟨#[99]⟩]
structure QuC(q:ByteArray×Int×Int):Prop where
 g:q.1∈abc
 lo:0≤q.2.1
 lh:q.2.1≤q.2.2
 hi:q.2.2≤4
def zD:List Value:=[.string ⟨#[]⟩,Iv 0,Iv 0,Iv 0,Iv 0,Iv 0,Zs,.bool false,Zs,Iv 0,Iv 0,Zs,Zs]
theorem jQ3(nm:ByteArray)(sz:Int):Instr.fill ((#[(0,1),(1,1),(2,1),(3,1),(4,1),(5,1),(6,1),(7,1),(8,1),(9,1),(10,1),(11,1),(12,1)]:Array (Nat×Nat))[·]?) zD.toArray [(0,.string nm),(1,Iv 3),(10,Iv sz),(2,Iv 5)]=some (dC nm sz none 0 []).L.toArray:=O
theorem jQ2(g:ByteArray)(x:Int):Instr.fill ((#[(0,1),(1,1),(2,1)]:Array (Nat×Nat))[·]?) #[.string ⟨#[]⟩,Iv 0,Iv 0] [(0,.string g),(1,Iv x)]=some #[.string g,Iv x,Iv 0]:=O
def aS:List Value:=[.string ⟨#[97]⟩,.string ⟨#[98]⟩,.string ⟨#[99]⟩]
theorem jU3(h:n<3):∃g∈abc,aS[n]? =some (.string g):=by
 rcases(show n=0∨n=1∨n=2 by omega) with rfl|rfl|rfl
 ·exact⟨_,by simp[abc],O⟩
 ·exact⟨_,by simp[abc],O⟩
 exact⟨_,by simp[abc],O⟩
theorem qSb{b:Nat}{v:Value}(h:∀(j:Nat) (v:Value),aS[j]? =some v→w.cell? ⟨b,0+j,none⟩=some v)(hg:aS[n]? =some v):w.cell? ⟨b,0+n*1,none⟩=some v:=by
 grind
structure EC(i:Nat)(e:EW):Prop where
 id:e.id=((i+1:Nat):Int)
 cl:e.cl=0
 fa:e.fa=0
 P:e.sP=none∧e.mP=0∧e.cP=0
 W:e.sW=none∧e.mW=0∧e.cW=0
 G:e.G.Sublist abc
 v:SVL e.sG e.cG e.G
def qA1(e:EW):Ent:=qG eS 9 1 e.sG e.cG e.G
structure CasG(nm:ByteArray)(sz:Int)(Q:List (ByteArray×Int×Int))(E:List EW):Prop where
 nm:nm=⟨#[112,97,110,101,108]⟩
 sz:1≤sz∧sz≤3
 lQ:Q.length≤3
 Q:∀q∈Q,QuC q
 lE:E.length≤5
 E:∀(i:Nat) (e:EW),E[i]? =some e→EC i e
def eG(k:Nat)(sG:Option Addr)(cG:Nat)(G:List ByteArray):EW:=⟨((k+1:Nat):Int),0,0,none,0,0,none,0,0,sG,cG,G⟩
theorem jBr(q:Nat)(h:q<8):qUp (q:Int) 1=((q%2:Nat):Int):=by
 match q,h with
 |0,_=>rfl
 |1,_=>rfl
 |2,_=>rfl
 |3,_=>rfl
 |4,_=>rfl
 |5,_=>rfl
 |6,_=>rfl
 |7,_=>rfl
theorem jI6{g:ByteArray}(h:G.Sublist (abc.take k))(hk:abc[k]? =some g):(G++[g]).Sublist (abc.take (k+1)):=by
 rw[nX,hk];grind
theorem jI7(h:G.Sublist (abc.take k)):G.Sublist (abc.take (k+1)):=by
 grind
theorem jU4(h:n<3):∃g,abc[n]? =some g∧aS[n]? =some (.string g):=by
 rcases(show n=0∨n=1∨n=2 by omega) with rfl|rfl|rfl
 ·exact⟨_,O,O⟩
 ·exact⟨_,O,O⟩
 exact⟨_,O,O⟩
attribute [local irreducible] PV StepF wpl wpd WP Ret
attribute [local irreducible] Fit
theorem qAx{s:Option Addr}{c mb:Nat}{n:Int}{W:World}{L:List Ent}(hp:Hp W [] w L)(hs:SlAt W 1 eI s l)(j:Nat)(hj:L[j]? =some (blk mb 2 (qE [.slice s l.length c,Iv (i:Int)]) 92))(hi:l.length≤9223372036854775807)(h3:0<n)(h4:n≤1000):
  Rt 30 [.pointer (Ad mb),Iv n] w (fun v w'=>v=Iv (nxV l i n)∧Hp W [] w' (L.set j (blk mb 2 (qE [.slice s l.length c,Iv ((nxI l i:Nat):Int)]) 92))):=by
 refine(r30 l s c mb i n _ w (hp.k6 j hj) (fun w' hk=>?_) hi h3 h4).mono ?_
 ·exact hs.j6 (hp.C.trans hk (fun k hk=>.inl (by
   have hk:k∈[mb]:=hk;have:=by simpa using hk
   subst this
   exact(hp.p6 hj).1)))
 rintro v w' ⟨h1,h2⟩;exact⟨h1,hp.j8 j hj h2⟩
set_option maxHeartbeats 4000000 in
theorem r6(l:List Int)(s:Option Addr)(c:Nat)(W:World)(hs:SlAt W 1 eI s l)(hl:l.length≤9223372036854775807):
  Rt 6 [.slice s l.length c] W (fun v w'=>∃(nm:ByteArray) (sz:Int) (sQ:Option Addr) (cQ:Nat) (Q:List (ByteArray×Int×Int)) (sE:Option Addr) (cE:Nat) (E:List EW),v= .tuple #[(dC nm sz sQ cQ Q).v,.slice sE E.length cE]∧CasG nm sz Q E∧SVL sQ cQ Q∧SVL sE cE E∧Hp W [] w' ([qG eQu 33 3 sQ cQ Q,qG eEn 94 6 sE cE E]++E.map qA1)):=by
 refine tW func6 ntmps6 fun hp=>?_;refine qR ?_;refine tQ fun w1 b2 hp=>?_;refine qA ?_;refine tF (kW (cs:=[.slice s l.length c,Iv 0]) (m:=2) hp O O O) fun w2 mb hp=>?_;obtain⟨i0,zz⟩:∃i0:Nat,i0=0:=⟨_,O⟩;have hp:Hp W [] w2 [blk mb 2 (qE [.slice s l.length c,Iv (i0:Int)]) 92,blk b2 13 (qE [.string ⟨#[]⟩,Iv 0,Iv 0,Iv 0,Iv 0,Iv 0,Zs,.bool false,Zs,Iv 0,Iv 0,Zs,Zs]) 28]:=by
  rw[zz];exact hp
 have xk:i0≤l.length:=O1;refine qA ?_;apply wls;exact qC O qDq O (qAx hp hs 0 O hl O2 O2);rintro _ w3 ⟨rfl,hp⟩;have hF:=qE8 (l:=l) (i:=i0);have hD:=qHh (l:=l) (i:=i0) (n:=6) O2;generalize nxV l i0 6=many at hD⊢;generalize nxI l i0=i1 at hp hF;have hF:i1≤l.length:=O1;refine qA ?_;apply wls;exact qC O qDq O (qAx hp hs 0 O hl O2 O2);rintro _ w4 ⟨rfl,hp⟩;have oK:=qE8 (l:=l) (i:=i1);have xh:=qHh (l:=l) (i:=i1) (n:=3) O2;generalize nxV l i1 3=sz0 at xh⊢;generalize nxI l i1=i2 at hp oK;have oK:i2≤l.length:=O1;refine qA ?_;refine wlp (qO O O) (qF (b:=1+sz0) (qK O1 O1)) ?_;obtain⟨nm,hX⟩:∃nm:ByteArray,nm=⟨#[112,97,110,101,108]⟩:=⟨_,O⟩;rw[←hX];obtain⟨sz,hm⟩:∃sz,sz=1+sz0:=⟨_,O⟩;rw[←hm];refine wlp (qB6 (zs:=zD.toArray) (pl:=#[(0,1),(1,1),(2,1),(3,1),(4,1),(5,1),(6,1),(7,1),(8,1),(9,1),(10,1),(11,1),(12,1)]) Tryz.underlying28 (qJ O) O (fun w=>O3) (by rw[vH];exact jQ3 nm sz)) (O:_=(dC nm sz none 0 []).v) ?_;refine tQ fun w5 b6 hp=>?_;refine tS fun w6 hp=>?_;have hp:=hp.norm 0 (dC nm sz none 0 []).L O O;have hp:Hp W [] w6 [blk b6 13 (qE (dC nm sz none 0 []).L) 28,blk mb 2 (qE [.slice s l.length c,Iv (i2:Int)]) 92,blk b2 13 (qE zD) 28]:=hp;refine qA ?_;apply wls;exact qC O qDq O (qAx hp hs 1 O hl O2 O2);rintro _ w7 ⟨rfl,hp⟩;have oX:=qE8 (l:=l) (i:=i2);have h8:=qHh (l:=l) (i:=i2) (n:=4) O2;generalize nxV l i2 4=nq at h8⊢;generalize nxI l i2=i3 at hp oX;have oX:i3≤l.length:=O1;obtain⟨N,rfl⟩:∃N:Nat,nq=(N:Int):=⟨nq.toNat,O1⟩;have hp:=hp.k4 eQu 33 3;have hp:Hp W [] w7 [qG eQu 33 3 none 0 [],blk b6 13 (qE (dC nm sz none 0 []).L) 28,blk mb 2 (qE [.slice s l.length c,Iv (i3:Int)]) 92,blk b2 13 (qE zD) 28]:=hp;refine qA ?_;refine qQ ([8,9]++range' 26 29) (fun(z:Nat×Nat×Option Addr×Nat×List (ByteArray×Int×Int)) F=>F.put 8 (Iv (z.1:Int)))
  (fun z w'=>z.1≤N∧z.2.1≤l.length∧z.2.2.2.2.length=z.1∧(∀q∈z.2.2.2.2,QuC q)∧SVL z.2.2.1 z.2.2.2.1 z.2.2.2.2∧Hp W [] w' [qG eQu 33 3 z.2.2.1 z.2.2.2.1 z.2.2.2.2,blk b6 13 (qE (dC nm sz z.2.2.1 z.2.2.2.1 z.2.2.2.2).L) 28,blk mb 2 (qE [.slice s l.length c,Iv (z.2.1:Int)]) 92,blk b2 13 (qE zD) 28]) (fun z=>N-z.1) (0,i3,none,0,[]) (qB (Same.eq .refl) O)
  ⟨bN _,oX,O,fun q hq=>absurd hq O4,SVL.nil,hp⟩ ?_
 clear hp hF oK oX;rintro u ⟨k,i,sQ,cQ,Q⟩ w8 ⟨hk,hi,hT,hQ,h9,hp⟩;dsimp only at hk hi hT hQ h9 hp⊢;refine tI (fun h=>?_) fun h=>?_
 ·have hh:k<N:=O1;refine qR ?_;refine uD ([9]++range' 31 8) (fun(z:Nat×(ByteArray×Int×Int)×Nat) F=>F.put 9 (.pointer (some ⟨z.1,0,none⟩))) (fun z w'=>(z.2.1.1∈abc∧(0≤z.2.1.2.1∧z.2.1.2.1<3)∧z.2.2≤l.length)∧Hp W [] w' [blk z.1 3 (qE (eQu z.2.1)) 33,qG eQu 33 3 sQ cQ Q,blk b6 13 (qE (dC nm sz sQ cQ Q).L) 28,blk mb 2 (qE [.slice s l.length c,Iv (z.2.2:Int)]) 92,blk b2 13 (qE zD) 28]) ?_ ?_
  ·refine qPi (fun x=>[0,2,4,6,8,9].contains x) true [1,5,0,2,3,4,6,7,8,9] jG O3 O3 (fun _=>True) trivial ?_;have hp:=hp.N;refine jIq ?_
   repeat' first
    |(refine qSi ?_;exact⟨(b9,(g,x2,0),j2),qB (Same.eq (by repeat(first|exact Same.l7|exact Same.refl|refine Same.put rfl ?_|refine Same.x9 rfl ?_))) rfl,⟨hg,en,hS⟩,by first|exact hp.k5 [0,2,3,4,5] _ O2 rfl|exact hp.k5 [1,2,3,4,5] _ O2 rfl⟩)
    |(refine qO6 rfl (by decide+kernel) ?_ rfl)
    |(refine jC6 6 rfl (by decide+kernel) rfl rfl ?_ ?_)
    |(refine jC6 8 rfl (by decide+kernel) rfl rfl ?_ ?_)
    |(refine jC6 2 rfl (by decide+kernel) rfl rfl ?_ ?_)
    |(refine jM2 6 8 rfl (by decide+kernel) rfl rfl rfl ?_ ?_ ?_)
    |(refine jM2 2 8 rfl (by decide+kernel) rfl rfl rfl ?_ ?_ ?_)
    |(apply qPp;exact rfl;(first|exact qC rfl qDq rfl (qAx (i:=i) hp hs 2 rfl hl O2 O2)|exact qC rfl qDq rfl (qAx (i:=i) hp hs 3 rfl hl O2 O2)|exact qC rfl qDq rfl (qAx (i:=i) hp hs 4 rfl hl O2 O2));rintro _ w ⟨rfl,hp⟩;refine⟨trivial,?_⟩;have xa:=qE8 (l:=l) (i:=i);have ht:=qHh (l:=l) (i:=i) (n:=3) O2;generalize nxV l i 3=x1 at ht⊢;generalize nxI l i=j1 at hp xa;have xa:j1≤l.length:=O1;obtain⟨n1,rfl⟩:∃n1:Nat,x1=(n1:Int):=⟨x1.toNat,O1⟩;have zc:n1<3:=O1;obtain⟨g,hg,x4⟩:=jU3 zc)
    |((apply jNk;exact rfl;exact rfl;(intro w hp;exact zA rfl rfl rfl rfl zc);exact(rfl:_=Value.pointer (some ⟨nb,0+n1*1,none⟩))))
    |(apply qPp;exact rfl;(first|exact qQ0 (qS rfl rfl (qSb (hp.j3 0 rfl rfl) x4))|exact qQ0 (qS rfl rfl (qSb (hp.j3 1 rfl rfl) x4)));rintro _ _ ⟨rfl,rfl⟩;refine⟨trivial,?_⟩)
    |(apply qPp;exact rfl;(first|exact qC rfl qDq rfl (qAx (i:=j1) hp hs 2 rfl hl O2 O2)|exact qC rfl qDq rfl (qAx (i:=j1) hp hs 3 rfl hl O2 O2)|exact qC rfl qDq rfl (qAx (i:=j1) hp hs 4 rfl hl O2 O2));rintro _ w ⟨rfl,hp⟩;refine⟨trivial,?_⟩;have hS:=qE8 (l:=l) (i:=j1);have en:=qHh (l:=l) (i:=j1) (n:=3) O2;generalize nxV l j1 3=x2 at en⊢;generalize nxI l j1=j2 at hp hS;have hS:j2≤l.length:=O1)
    |((apply qPp;exact rfl;exact jK hp (qJ rfl);rintro _ w ⟨b9,rfl,hp⟩;refine⟨trivial,?_⟩))
    |((apply qPp;exact rfl;exact jC (cs:=aS) hp rfl rfl rfl rfl rfl rfl rfl;rintro _ w ⟨nb,rfl,hp⟩;refine⟨trivial,?_⟩))
    |((apply jNk;exact rfl;exact rfl;(intro w hp;exact qB6 (zs:=#[.string ⟨#[]⟩,.int .i64 0,.int .i64 0]) (pl:=#[(0,1),(1,1),(2,1)]) Tryz.underlying33 (qJ rfl) rfl (fun w=>O3) (by rw[vH];exact jQ2 g x2));exact(O:_=Value.agg (eQu (g,x2,0)).toArray)))
    |(apply jUz;exact rfl;(first|exact qW hp 0 rfl rfl rfl rfl (qD rfl) rfl|exact qW hp 1 rfl rfl rfl rfl (qD rfl) rfl);rintro _ w ⟨rfl,hp⟩;refine⟨trivial,?_⟩;(first|have hp:=hp.norm 0 (eQu (g,x2,0)) O O|have hp:=hp.norm 1 (eQu (g,x2,0)) O O))
  clear hp;rintro u2 ⟨b9,q,i4⟩ w9 ⟨⟨tc,yz,xd⟩,hp⟩;dsimp only at tc yz xd hp⊢;refine qR ?_;refine xL 6 O jG O3 (fun w'=>w'.cell? ⟨b9,0+1,none⟩=some (Iv q.2.1)) (hp.N.cell 0 O O) ?_;have hp:=hp.N;refine qX ?_;apply wds;exact O;exact qC O qDq O (qAx hp hs 3 O hl O2 O2);rintro _ ur ⟨rfl,hp⟩;refine⟨hp.cell 0 O O,?_⟩;have hZ:=qE8 (l:=l) (i:=i4);have xe:=qHh (l:=l) (i:=i4) (n:=3) O2;generalize nxV l i4 3=hx at xe⊢;generalize nxI l i4=i5 at hp hZ;have hZ:i5≤l.length:=O1;refine wdp O (fun w hp=>qO O O) (qF (b:=q.2.1+hx) (qK O1 O1)) ?_;refine gAf ?_;refine StepF.mono (jD hp 0 O O O O (qD O) O) ?_;rintro _ gg ⟨rfl,hp⟩;have hp:=hp.norm 0 (eQu (q.1,q.2.1,q.2.1+hx)) O O;have hp:Hp W [] gg [blk b9 3 (qE (eQu (q.1,q.2.1,q.2.1+hx))) 33,qG eQu 33 3 sQ cQ Q,blk b6 13 (qE (dC nm sz sQ cQ Q).L) 28,blk mb 2 (qE [.slice s l.length c,Iv (i5:Int)]) 92,blk b2 13 (qE zD) 28]:=hp;refine qA ?_;apply wls;exact qC O qDq O (qAx hp hs 3 O hl O2 O2);rintro _ gh ⟨rfl,hp⟩;have jf:=qE8 (l:=l) (i:=i5);generalize nxV l i5 3=lz;generalize nxI l i5=i6 at hp jf;have jf:i6≤l.length:=O1;refine qA ?_;refine uD [48] (fun(_:ByteArray×Int×Int) F=>F) (fun q' w'=>QuC q'∧Hp W [] w' [blk b9 3 (qE (eQu q')) 33,qG eQu 33 3 sQ cQ Q,blk b6 13 (qE (dC nm sz sQ cQ Q).L) 28,blk mb 2 (qE [.slice s l.length c,Iv (i6:Int)]) 92,blk b2 13 (qE zD) 28]) ?_ ?_
  ·refine qH O (fun h2=>?_) (fun h2=>?_)
   ·refine tT fun gm hp=>?_;have hp:=hp.norm 0 (eQu (q.1,0,q.2.1+hx)) O O;refine qA ?_;exact⟨(q.1,0,q.2.1+hx),Same.eq (by repeat(first|exact Same.l7|exact Same.refl|refine Same.put O ?_|refine Same.x9 O ?_)),⟨tc,by show 0≤0;omega,by show 0≤q.2.1+hx;omega,by show q.2.1+hx≤4;omega⟩,hp⟩
   refine qA ?_;exact⟨(q.1,q.2.1,q.2.1+hx),Same.eq (by repeat(first|exact Same.l7|exact Same.refl|refine Same.put O ?_|refine Same.x9 O ?_)),⟨tc,yz.1,by show q.2.1≤q.2.1+hx;omega,by show q.2.1+hx≤4;omega⟩,hp⟩
  clear hp;rintro u3 q' gm ⟨hH,hp⟩;refine qA ?_;refine tF (jC (cs:=eQu q') hp O O O O O O O) fun gj nb hp=>?_;refine tFb (jV eQu Q q' hp 2 0 O O O O O O (fun _=>O) O O O h9 O O O1) fun gn sa ca⟨xi,hp⟩=>?_;refine tT fun hn hp=>?_;have hp:=hp.norm 3 (dC nm sz sa _ _).L O O;have hp:Hp W [] hn [qG eQu 33 3 sa ca (Q++[q']),blk b6 13 (qE (dC nm sz sa ca (Q++[q'])).L) 28,blk mb 2 (qE [.slice s l.length c,Iv (i6:Int)]) 92,blk b2 13 (qE zD) 28]:=hp.H.H;refine gA5 ?_
  exact⟨(k+1,i6,sa,ca,Q++[q']),qB O5 O,⟨by show k+1≤N;omega,jf,by show(Q++[q']).length=k+1;rw[aY,hT];rfl,fun z hz=>by
   rcases fO.1 hz with hz|hz
   ·grind
   obtain rfl:=iN.1 hz
   exact hH,xi,hp⟩,by show N-(k+1)<N-k;omega⟩
 have hU:Q.length≤3:=O1;have hp:=hp.k4 eEn 94 6;have hp:Hp W [] w8 ([qG eEn 94 6 none 0 [],qG eQu 33 3 sQ cQ Q,blk b6 13 (qE (dC nm sz sQ cQ Q).L) 28,blk mb 2 (qE [.slice s l.length c,Iv (i:Int)]) 92,blk b2 13 (qE zD) 28]++([]:List EW).map qA1):=hp;obtain⟨Mn,rfl⟩:∃Mn:Nat,many=(Mn:Int):=⟨many.toNat,O1⟩;clear h hT hk;refine qA ?_;refine qQ ([10,11,12,13,14]++range' 55 41) (fun(z:Nat×Nat×Option Addr×Nat×List EW) F=>(F.put 10 (.slice z.2.2.1 z.1 z.2.2.2.1)).put 11 (Iv (z.1:Int)))
  (fun z w'=>z.1≤Mn∧z.2.1≤l.length∧z.2.2.2.2.length=z.1∧(∀(i:Nat) (e:EW),z.2.2.2.2[i]? =some e→EC i e)∧SVL z.2.2.1 z.2.2.2.1 z.2.2.2.2∧Hp W [] w' ([qG eEn 94 6 z.2.2.1 z.2.2.2.1 z.2.2.2.2,qG eQu 33 3 sQ cQ Q,blk b6 13 (qE (dC nm sz sQ cQ Q).L) 28,blk mb 2 (qE [.slice s l.length c,Iv (z.2.1:Int)]) 92,blk b2 13 (qE zD) 28]++z.2.2.2.2.map qA1)) (fun z=>Mn-z.1) (0,i,none,0,[]) (qB (qB (Same.eq .refl) O) O)
  ⟨bN _,hi,O,fun i e he=>by simp at he,SVL.nil,hp⟩ ?_
 clear hp hi;rintro u5 ⟨k,i,sE,cE,E⟩ w9 ⟨hk,hi,hM,hE,hJ,hp⟩;dsimp only at hk hi hM hE hJ hp⊢;refine tI (fun h=>?_) fun h=>?_
 ·have hh:k<Mn:=O1;refine gA1 ?_;refine tN (k+1) ?_;refine qA ?_;refine tQ fun ur eb hp=>?_;refine tS fun gg hp=>?_;have hp:=hp.norm 0 (eEn (eG k none 0 [])) O O;have hp:Hp W [] gg ([blk eb 6 (qE (eEn (eG k none 0 []))) 94,qG eEn 94 6 sE cE E,qG eQu 33 3 sQ cQ Q,blk b6 13 (qE (dC nm sz sQ cQ Q).L) 28,blk mb 2 (qE [.slice s l.length c,Iv (i:Int)]) 92,blk b2 13 (qE zD) 28]++E.map qA1):=hp;refine qA ?_;apply wls;exact qC O qDq O (qAx hp hs 4 O hl O2 O2);rintro _ gh ⟨rfl,hp⟩;have hL:=qE8 (l:=l) (i:=i);have h6:=qHh (l:=l) (i:=i) (n:=8) O2;generalize nxV l i 8=set at h6⊢;generalize nxI l i=i1 at hp hL;have hL:i1≤l.length:=O1;obtain⟨st,rfl⟩:∃st:Nat,set=(st:Int):=⟨set.toNat,O1⟩;have xy:st<8:=O1;have hp:Hp W [] gh ([qG eS 9 1 none 0 [],blk eb 6 (qE (eEn (eG k none 0 []))) 94,qG eEn 94 6 sE cE E,qG eQu 33 3 sQ cQ Q,blk b6 13 (qE (dC nm sz sQ cQ Q).L) 28,blk mb 2 (qE [.slice s l.length c,Iv (i1:Int)]) 92,blk b2 13 (qE zD) 28]++E.map qA1):=hp.k4 eS 9 1;refine qA ?_;refine qQ ([14]++range' 65 27) (fun(z:Nat×Nat×Option Addr×Nat×List ByteArray) F=>F.put 14 (Iv (z.1:Int)))
   (fun z w'=>z.1≤3∧z.2.1≤l.length∧z.2.2.2.2.Sublist (abc.take z.1)∧SVL z.2.2.1 z.2.2.2.1 z.2.2.2.2∧Hp W [] w' ([qG eS 9 1 z.2.2.1 z.2.2.2.1 z.2.2.2.2,blk eb 6 (qE (eEn (eG k z.2.2.1 z.2.2.2.1 z.2.2.2.2))) 94,qG eEn 94 6 sE cE E,qG eQu 33 3 sQ cQ Q,blk b6 13 (qE (dC nm sz sQ cQ Q).L) 28,blk mb 2 (qE [.slice s l.length c,Iv (z.2.1:Int)]) 92,blk b2 13 (qE zD) 28]++E.map qA1)) (fun z=>3-z.1) (0,i1,none,0,[]) (qB (Same.eq .refl) O)
   ⟨bN _,hL,nV _,SVL.nil,hp⟩ ?_
  clear hp hL hi;rintro u6 ⟨j,i1,sG,cG,G⟩ gm ⟨hj,hi,hG,hY,hp⟩;dsimp only at hj hi hG hY hp⊢;refine tI (fun h2=>?_) fun h2=>?_
  ·have xc:j<3:=O1;have xl:G.length≤3:=by
    have:=hG.length_le;have h3:(abc.take j).length≤3:=List.length_take_le' _ _;omega
   obtain⟨g,xf,hP⟩:=jU4 xc;obtain⟨q,hq⟩:∃q,q=st/2^j:=⟨_,O⟩;have xj:q<8:=by rw[hq];exact bY (fR _ _) xy
   refine qEi ?_;refine qDx ?_;refine qEj ?_;refine qCn ?_;refine qEj ?_;refine uD (range' 69 14) (fun(z:Bool×Nat) F=>F.put 82 (.bool z.1)) (fun z w'=>z.2≤l.length∧Hp W [] w' ([qG eS 9 1 sG cG G,blk eb 6 (qE (eEn (eG k sG cG G))) 94,qG eEn 94 6 sE cE E,qG eQu 33 3 sQ cQ Q,blk b6 13 (qE (dC nm sz sQ cQ Q).L) 28,blk mb 2 (qE [.slice s l.length c,Iv (z.2:Int)]) 92,blk b2 13 (qE zD) 28]++E.map qA1)) ?_ ?_
   ·refine gA4 ?_;refine wlp (xP (a:=st) (b:=j) O O (by show j≤64;omega)) (qF (b:=(q:Int)) (by rw[hq])) ?_;refine wlp (qXx O O) (qF (b:=((q%2:Nat):Int)) (jBr q xj)) ?_;by_cases hb:q%2=1
    ·refine wlp (zW O O) (qV (b:=true) (aD O1)) ?_;refine jL ?_;by_cases hS:j<2
     ·rw[aD (show(j:Int)<2 by omega)];refine jL ?_;exact⟨(true,i1),qB O5 O,hi,hp⟩
     rw[aB (show¬(j:Int)<2 by omega)];refine jL ?_;apply uR;exact O;exact O;exact qC O qDq O (qAx hp hs 5 O hl O2 O2);rintro _ gj ⟨rfl,hp⟩;have bz:=qE8 (l:=l) (i:=i1);refine jL ?_;exact⟨(decide (nxV l i1 4=0),nxI l i1),qB O5 O,by show nxI l i1≤_;omega,hp⟩
    refine wlp (zW O O) (qV (b:=false) (aB O1)) ?_;refine jL ?_;exact⟨(false,i1),qB O5 O,hi,hp⟩
   clear hp hi;rintro u7 ⟨b,i2⟩ gj ⟨hi,hp⟩;dsimp only at hi hp⊢;cases b with
   |true=>
    refine jB O (qR ?_);refine qPi (fun x=>[2,5,6,7,9].contains x) false [0,1,2,3,4,5,6,7,8,9] jG O3 O3 (fun w'=>w'.cell? ⟨eb,0+5,none⟩=some (.slice sG G.length cG)) (hp.N.cell 1 O O) ?_;have hp:=hp.N;refine jIq ?_;refine qO6 O O3 ?_ O;apply qPp;exact O;exact jC (cs:=aS) hp O O O O O O O;rintro _ gn ⟨nb,rfl,hp⟩;refine⟨hp.cell 2 O O,?_⟩;refine jIq ?_;refine qO6 O O3 ?_ O;apply qPp;exact O;exact qQ0 (qS O O (qSb (hp.j3 0 O O) hP));rintro _ _ ⟨rfl,rfl⟩;refine⟨hp.cell 2 O O,?_⟩;refine qO6 O O3 ?_ O;apply qPp;exact O;exact jC (cs:=[.string g]) hp O O O O O O O;rintro _ hn ⟨nb2,rfl,hp⟩;refine⟨hp.cell 3 O O,?_⟩;refine qO6 O O3 ?_ O;apply qPp;exact O;exact jV eS G g hp 2 0 O O O O O O (fun _=>O) O O O hY O O O1;rintro _ h4 ⟨sc,cc,rfl,hK,hp⟩;refine⟨hp.cell 3 O O,?_⟩;refine jIq ?_;refine qO6 O O3 ?_ O;apply jNm;exact O;exact O;exact jD hp 3 O O O O (qD O) O;rintro _ h5 ⟨rfl,hp⟩;have hp:=hp.norm 3 (eEn (eG k _ cc _)) O O;have hp:Hp W [] h5 ([qG eS 9 1 sc cc (G++[g]),blk eb 6 (qE (eEn (eG k sc cc (G++[g])))) 94,qG eEn 94 6 sE cE E,qG eQu 33 3 sQ cQ Q,blk b6 13 (qE (dC nm sz sQ cQ Q).L) 28,blk mb 2 (qE [.slice s l.length c,Iv (i2:Int)]) 92,blk b2 13 (qE zD) 28]++E.map qA1):=hp.H.H;refine qSi ?_;refine gA8 ?_;exact⟨(j+1,i2,sc,cc,G++[g]),qB O5 O,⟨by show j+1≤3;omega,hi,jI6 hG xf,hK,hp⟩,by show 3-(j+1)<3-j;omega⟩
   |false=>
    refine tJ ?_;refine tN (j+1) ?_;refine qA ?_;exact⟨(j+1,i2,sG,cG,G),qB O5 O,⟨by show j+1≤3;omega,hi,jI7 hG,hY,hp⟩,by show 3-(j+1)<3-j;omega⟩
  obtain rfl:j=3:=O1;obtain⟨e,he⟩:∃e,e=eG k sG cG G:=⟨_,O⟩;have xg:EC k e:=by
   rw[he];exact⟨O,O,O,⟨O,O,O⟩,⟨O,O,O⟩,hG,hY⟩
  have hy:qG eS 9 1 sG cG G=qA1 e:=by rw[he];rfl
  rw[hy,←he] at hp;refine gA1 ?_;refine wlp (qL (vs:=eEn e) O O O O (hp.j3 1 O O)) (O:_=e.v) ?_;refine tF (jC (cs:=eEn e) hp O O O O O O O) fun gj nb hp=>?_;refine tFb (jV eEn E e hp 3 0 O O O O O O (fun _=>O) (by rw[hM];rfl) O O hJ O O O1) fun gn sd ce⟨xb,hp⟩=>?_;have hV:(E++[e]).length=k+1:=by rw[aY,hM];rfl
  rw[hV];have hp:Hp W [] gn ([qA1 e]++([qG eEn 94 6 sd ce (E++[e]),qG eQu 33 3 sQ cQ Q,blk b6 13 (qE (dC nm sz sQ cQ Q).L) 28,blk mb 2 (qE [.slice s l.length c,Iv (i1:Int)]) 92,blk b2 13 (qE zD) 28]++E.map qA1)):=hp.H.x7 1;have hp:=hp.swap;rw[bQ,show E.map qA1++[qA1 e]=(E++[e]).map qA1 by rw[dR];rfl] at hp;refine gA5 ?_;refine⟨(k+1,i1,sd,ce,E++[e]),qB O5 O,⟨by show k+1≤Mn;omega,hi,hV,fun i e' h7=>?_,xb,hp⟩,by show Mn-(k+1)<Mn-k;omega⟩;by_cases nw:i<E.length
  ·rw[sAz nw] at h7;exact hE i e' h7
  rw[gZ O1] at h7;have zz:i-E.length=0:=by
   have:=(aH.1 h7).1;simp at this;omega
  rw[zz] at h7;obtain rfl:e=e':=by simpa using h7
  rw[show i=k by omega];exact xg
 obtain rfl:k=Mn:=O1;refine qR ?_;refine wlp (qL (vs:=(dC nm sz sQ cQ Q).L) O O O O (hp.j3 2 O O)) (O:_=(dC nm sz sQ cQ Q).v) ?_;refine jM ?_;refine tS fun ur hp=>?_;have hp:=hp.norm 4 (dC nm sz sQ cQ Q).L O O;refine qA ?_;rw[←hM];exact yP O O O O O (hp.j4 4 O O) ⟨_,O,nm,sz,sQ,cQ,Q,sE,cE,E,O,⟨hX,O1,hU,hQ,O1,hE⟩,h9,hJ,(((hp.x7 4).x7 3).x7 2).perm (List.Perm.append_right _ (iM _ _ []))⟩
end Go.Proofs.YtplkndjlfkkjlaaGreatDoor
namespace Go.Eng
open List (range range' replicate)
section
variable {P:Program}{n:FrK}{w0 w:World}{M:List Nat}{L:List Ent}{F:Fr}{d:Option Tmp}{ty:TypeId}{pos:String}{aft:Array Edge}{g:Option (Nat×Bool)}{x y:Operand}
theorem qXc{α:Type}(enc:α→List Value)(l:List α)(i q:Nat)(xv:α)(A B:List Value){v0:Value}{t e gb c k:Nat}{v:Value}(hp:Hp w0 M w L)(j:Nat)(hj:L[j]? =some (qG enc e k (Ad gb) c l))(sa:SVL (Ad gb) c l)(hi:i<l.length)
  (hx:ev n F x= .pointer (some ⟨gb,0+i*k+q,none⟩)) (hy:ev n F y=v) (hk:∀x,(enc x).length=k) (hA:A.length=q) (h0:enc l[i]=A++v0::B) (hv:enc xv=A++v::B) (h1:kM v=true) (hz:TSize P t 1):
  StepF P n ⟨d,.store t x y,ty,pos,aft,g⟩ F w (fun u w'=>u=undef∧Hp w0 M w' (L.set j (qG enc e k (Ad gb) c (l.set i xv)))):=by
 obtain⟨o,ho,ca,rfl,hg,eV⟩:=hp.has j _ hj gb O;have hg:_=c*k:=hg;have el:=sa.cap;have hh:q<k:=by
  have:=aQ List.length h0;rw[hk,aY,bT,hA] at this;omega
 have h7:l=l.take i++l[i]::l.drop (i+1):=by rw[lZ,eO]
 have py:((l.take i).flatMap enc++A).length=i*k+q:=by
  rw[aY,zR enc k hk,bV,eM O1,hA]
 have qc:l.flatMap enc=((l.take i).flatMap enc++A)++v0::(B++(l.drop (i+1)).flatMap enc):=by
  conv=>lhs;rw[h7]
  rw[iS,mV,h0];simp
 have hT:(l.set i xv).flatMap enc=((l.take i).flatMap enc++A)++v::(B++(l.drop (i+1)).flatMap enc):=by
  rw[pQ,if_pos hi,iS,mV,hv];simp
 have hl:ca.toList=((l.take i).flatMap enc++A)++(v0::((B++(l.drop (i+1)).flatMap enc)++ca.toList.drop (l.length*k))):=by
  have h2:=(eO (l.length*k) ca.toList).symm;have hm:ca.toList.take (l.length*k)=l.flatMap enc:=eV;rw[hm,qc] at h2;refine h2.trans ?_;rw[bQ,mG]
 have yw:=by
  exact mEs
 obtain⟨w',hr,nv,jn⟩:=qE2 (P:=P) (o:=0+i*k+q) ho O1 h1;refine wE ?_ ⟨O,hp.o8 hj nv ?_⟩
 ·have nz:v.cells.size=1:=by cases v<;>first|rfl|cases h1
  have hP:v.cells.toList=[v]:=by cases v<;>first|rfl|cases h1
  exact mB6
 intro b1 jm;have jm:b1=gb:=by
  exact mC3
 subst jm;refine⟨.inl O,_,jn,_,O,?_,?_⟩
 ·grind
 have h4:=by
  have:=zR enc k hk (l.set i xv);rw[hT,fZ] at this;exact this
 rw[mI,hT,fZ,←h4,hl,fH,←py,rF _ _ O1,lW,sAo];grind
end
end Go.Eng
namespace Go.Proofs.YtplkndjlfkkjlaaGreatDoor
open List (range range' replicate)
open Go.Proofs.Tryz
section
open Go.Eng Go.Dig Go.Lp Go.Qu
variable{nm:ByteArray}{sz:Int}{Q Q':List (ByteArray×Int×Int)}{E:List EW}{d:DW}{l:List EW}
def jBp(sz:Int)(q:ByteArray×Int×Int):ByteArray×Int×Int:=(q.1,min q.2.1 (min q.2.2 sz),min q.2.2 sz)
theorem jC8{g:ByteArray}(h:g∈abc):Wd g:=by
 simp[abc,bE,mE,sAt] at h;rcases h with rfl|rfl|rfl
 ·exact⟨O2,O2,fun i hi=>by
   have:i<1:=hi;obtain rfl:i=0:=O1
   decide+kernel⟩
 ·exact⟨O2,O2,fun i hi=>by
   have:i<1:=hi;obtain rfl:i=0:=O1
   decide+kernel⟩
 exact⟨O2,O2,fun i hi=>by
  have:i<1:=hi;obtain rfl:i=0:=O1
  decide+kernel⟩
theorem jC7:Wd ⟨#[112,97,110,101,108]⟩:=⟨O2,O2,fun i hi=>by
 have hi:i<5:=hi
 rcases(show i=0∨i=1∨i=2∨i=3∨i=4 by omega) with rfl|rfl|rfl|rfl|rfl<;>decide+kernel⟩
theorem jU2:abc.Nodup:=O2
theorem EC.ep{i:Nat}{e:EW}(h:EC i e)(hi:i<1000):EP e:=by
 have h3:=h.G.length_le;have h4:abc.length=3:=O;exact⟨by rw[h.id];omega,h.cl,h.fa,h.P,h.W,O1,fun g hg=>jC8 (h.G.mem hg),h.G.nodup jU2⟩
theorem CasG.ep{nm:ByteArray}{sz:Int}{Q:List (ByteArray×Int×Int)}{E:List EW}(h:CasG nm sz Q E):(∀e∈E,EP e)∧(E.map (·.id)).Nodup:=by
 have h5:=h.lE;refine⟨fun e he=>?_,?_⟩
 ·obtain⟨i,hi⟩:=fG he;have:=(aH.1 hi).1;exact(h.E i e hi).ep O1
 rw[dZ,dP];intro i j hi hj nu;rw[aM] at hi hj;rw[mF,mF,(h.E i _ (aA hi)).id,(h.E j _ (aA hj)).id];omega
theorem CasG.dp(h:CasG nm sz Q E)(sQ:Option Addr)(cQ:Nat)(hl:Q'.length=Q.length)(hq:∀(i:Nat) (q:ByteArray×Int×Int),Q[i]? =some q→Q'[i]? =some (jBp sz q))(hd:(Q'.map (·.1)).Nodup):DP (dC nm sz sQ cQ Q'):=by
 have h3:=h.lQ;have hg:=h.sz;refine⟨O,by rw[h.nm];exact jC7,⟨show 1≤5 by decide,show 5≤1000000000 by decide⟩,⟨show 0≤0 by decide,show(0:Int)≤1000000 by decide⟩,O,O,O,O,O,O,⟨hg.1,by show sz≤40;omega⟩,⟨O,O,O⟩,by show Q'.length≤12;omega,fun q hh=>?_,hd⟩;have hh:q∈Q':=hh;obtain⟨i,hi⟩:=fG hh;have ab:=(aH.1 hi).1;obtain⟨q0,hj⟩:∃q0,Q[i]? =some q0:=⟨_,aA O1⟩;have e:=hq i q0 hj;rw[hi] at e;obtain rfl:=gM e;have hc:=h.Q q0 (aI hj);have h1:=hc.lo;have h2:=hc.lh;refine⟨jC8 hc.g,?_,?_,?_⟩
 ·show 0≤min _ _
  omega
 ·show min _ _≤min _ sz
  omega
 show min _ sz≤sz
 omega
theorem CasG.de(h:CasG nm sz Q E){sQ sE:Option Addr}{cQ cE:Nat}(hl:Q'.length=Q.length){w:World}(hq:SlAt w 3 eQu sQ Q')(he:SlAt w 6 eEn sE E)(hg:∀e∈E,SlAt w 1 eS e.sG e.G):DE (dC nm sz sQ cQ Q') sE E w:=by
 have h3:=h.lQ;have h5:=h.lE;refine⟨hq,he,hg,by show Q'.length≤12;omega,O1,fun e he=>?_⟩;obtain⟨i,hi⟩:=fG he;have h4:=(h.E i e hi).G.length_le;have h6:abc.length=3:=O;omega
theorem qUo{a:Int}{b:Nat}(ha:0≤a)(mf:a<1000)(hb:0<b)(sd:b<1000):BQ 10 (mkRat a b):=by
 have h:=BQ.mk (k:=10) (b:=false) hb (by show a.toNat<1024;omega) O1;have e:sg false a.toNat=a:=by
  show((a.toNat:Nat):Int)=a
  omega
 grind
theorem qNe(N:List (List Nat))(w:List Int)(S:Nat)(i:Nat):∀k,∃a:Int,0≤a∧a≤qBk w k∧jE (kI N w S k) i=mkRat a S
 |0=>⟨0,sBu _,sBu _,by
   show 0=mkRat 0 S
   simp⟩
 |k+1=>by
  obtain⟨a,h1,h2,h3⟩:=qNe N w S i k;simp only[kI,qBk];split
  ·rw[qB0,h3];show∃a',_∧_∧mkRat a S+((if i∈N.getD k [] then mkRat _ S else 0)+0)=_
   split
   ·refine⟨a+w.getD k 0%10,O1,O1,?_⟩;rw[gE,gE,gE,Rat.intCast_add];grind
   grind
  grind
theorem qUs(N:List (List Nat))(w:List Int)(S:Nat):∀k q,∃j,j≤k∧(kI N w S k).take q=kI N w S j
 |0,q=>⟨0,bM _,by simp[kI]⟩
 |k+1,q=>by
  obtain⟨j,hj,e⟩:=qUs N w S k q;by_cases hq:q≤(kI N w S k).length
  ·simp only[kI];grind
  refine⟨k+1,O1,?_⟩;rw[bR];simp only[kI];grind
theorem jI4(hn:l.length≤5){N:List (List Nat)}{w:List Int}{J:Nat}(hW:Wk (FsP d l) l.length 0 [] N)(hJ:J≤N.length)(hS:0<qBk w J):MixG (FsP d l) 10 (kI N w (qBk w J).toNat J):=by
 have hb:=qGk w J;have hN:N.length≤32:=by
  have h1:=hW.len;have:2^(l.length-0)≤2^5:=aR O2 O1;omega
 obtain⟨S,hg⟩:∃S,S=(qBk w J).toNat:=⟨_,O⟩;have hh:(S:Nat)=qBk w J:=by rw[hg];omega
 rw[←hg];refine⟨bL (qS9 N w S J) O1,fun x hx=>?_,jI3 hW.nd w S J hJ,?_,fun k i=>?_⟩
 ·obtain⟨j,hj,e1,e2,e3⟩:=qS8 N w S J x hx;refine⟨?_,?_,?_⟩
  ·rw[e1];have:N.getD j []∈N:=by
    rw[aC,aA O1];exact bX _
   exact(hW.all _ this).1
  ·rw[e3,gE];have h1:(0:Rat)<(w.getD j 0%10:Int):=by exact_mod_cast e2
   have h2:(0:Rat)<(S:Nat):=by
    have:0<S:=O1
    exact_mod_cast this
   exact oH h1 (pL.2 h2)
  rw[e3];exact qUo O1 O1 O1 O1
 ·rw[qZz,←hh,gE,iK];have h2:(S:Rat)≠0:=by
   have:0<S:=O1;have:(0:Rat)<((S:Nat):Rat):=by exact_mod_cast this
   grind
  grind
 obtain⟨j,hj,e⟩:=qUs N w S J k;rw[e];obtain⟨a,h1,h2,h3⟩:=qNe N w S i j;have:=qGk w j;rw[h3];exact qUo h1 O1 O1 O1
theorem MixG.le{κ:Nat}{m:List (List Nat×Rat)}(h:MixG (FsP d l) κ m)(y:Nat→Rat):sm l.length (fun i=>y i*jE m i)≤vU (FsP d l) y:=by
 have:=qVx (fun x hx=>by
  obtain⟨g1,g2,_⟩:=h.all x hx
  exact⟨g1.nodup,g1.lt,sAg g2,qPf (fun P hP=>⟨hP.srt,hP.lt⟩) y g1⟩)
 rw[h.sum] at this;grind
end
section
open Go.Eng Go.Dig Go.Lp Go.Qu
theorem slE{α:Type}{w:World}{k g i:Nat}{enc:α→List Value}{l:List α}{x:α}(h:SlAt w k enc (Ad g) l)(hx:l[i]? =some x):∀j v,(enc x)[j]? =some v→w.cell? ⟨g,0+i*k+j,none⟩=some v:=by
 obtain⟨b,o,e,hc⟩:=h i x hx;grind
attribute [local irreducible] PV StepF wpl wpd WP Ret
attribute [local irreducible] Fit ofN kX vU
set_option maxHeartbeats 16000000 in
theorem p3(l wl:List Int)(s sw:Option Addr)(c cw:Nat)(W:World)(hT:Tabs W)(hs:SlAt W 1 eI s l)(hz:SlAt W 1 eI sw wl)(hl:l.length≤9223372036854775807)(hL:wl.length≤9223372036854775807):
  Rk 3 [.slice s l.length c,.slice sw wl.length cw] W (.bool true):=by
 refine tW func3 ntmps3 fun hp=>?_;refine tD (p4 _ O1) fun w1 hp=>?_;refine tL (r6 l s c _ (hs.j6 hp.C) hl) ?_;rintro _ w2 ⟨nm,sz,sQ,cQ,Q,sE,cE,E,rfl,hG,xb,xg,lj⟩;have hp:=hp.join lj;clear lj;rw[bH] at hp;have xv:=hG.lQ;have xk:=hG.lE;have hn:=hG.sz;have yh:(dC nm sz sQ cQ Q).Q.length=Q.length:=O;refine qA ?_;refine tQ fun w3 b6 hp=>?_;refine tS fun w4 hp=>?_;have hp:=hp.norm 0 (dC nm sz sQ cQ Q).L O O;have hp:Hp W [] w4 ([blk b6 13 _ 28,_,_]++_):=hp;refine qA (qQ ([4,8,9]++range' 35 55) (fun(z:Nat×List _) F=>F.put 35 (.int _ (z.1)))
  (fun z w'=>z.1≤Q.length∧z.2.length=Q.length∧(∀(j:Nat) (q:ByteArray×Int×Int),Q[j]? =some q→z.2[j]? =some (if j<z.1 then jBp sz q else q))∧(∀a b,a<z.1→b<a→∀qa qb,Q[a]? =some qa→Q[b]? =some qb→qa.1≠qb.1)∧
   Hp W [] w' ([_,qG _ 33 3 sQ cQ z.2,_]++E.map _)) (fun z=>Q.length-z.1) (0,Q) (qB (Same.eq .refl) O)
  ⟨O1,O,fun j q h=>by grind,fun a b ha=>absurd ha O1,hp⟩ ?_)
 clear hp;rintro u ⟨i,Q1⟩ w5 ⟨hi,zh,tc,xp,hp⟩;dsimp only at hi zh tc xp hp⊢;refine tI (fun h=>?_) fun h=>?_
 ·have hh:i<Q.length:=O1;obtain⟨qi,xj⟩:∃qi,Q[i]? =some qi:=⟨_,aA hh⟩;have xh:=tc i qi xj;rw[if_neg O1] at xh;obtain⟨gQ,rfl⟩:=xb.addr (fun e=>by grind);have xa:=jZ xb zh.symm;refine qA (qQ ([4,9]++range' 39 18) (fun(k:Nat) F=>F.put 39 (.int _ k)) (fun k w'=>k≤i∧(∀b,b<k→∀qb,Q[b]? =some qb→qi.1≠qb.1)∧Hp W [] w' _) (fun k=>i-k) 0 (qB (Same.eq .refl) O) ⟨O1,fun b hb=>absurd hb O1,hp⟩ ?_);clear hp;rintro u2 k w6 ⟨hk,xr,hp⟩;refine tI (fun h2=>?_) fun h2=>?_
  ·have xf:k<i:=O1;have x3:k<Q.length:=O1;obtain⟨qk,h5⟩:∃qk,Q[k]? =some qk:=⟨_,aA x3⟩;have xz:=tc k qk h5;rw[if_pos xf] at xz;refine qA ?_;refine jW jG O3 (fun w'=>w'.cell? ⟨b6,0+11,_⟩=some (.slice (some _) Q.length cQ)∧w'.cell? _=some _∧w'.cell? _=some (.string qk.1))
    ⟨hp.N.cell 0 O O,slE (qZ hp.N 1 O xa (fun _=>O)) xh 0 _ O,slE (qZ hp.N 1 O xa (fun _=>O)) xz 0 _ O⟩ ?_
   have hp:=hp.N;refine qX ?_;apply wdp;exact O;intro w hg;exact qS O O hg.1;exact fS O;refine qX ?_;apply wdp;exact O;intro w hg;exact qS O O hg.2.1;exact fT O;refine qX ?_;apply wdp;exact O;intro w hg;exact qS O O hg.1;exact fS O;refine qX ?_;apply wdp;exact O;intro w hg;exact qS O O hg.2.2;exact fT O;refine qX (qU ?_);refine qH O (fun h3=>?_) (fun h3=>?_)
   ·refine qA ?_;exact mAb
   refine gA5 ?_;refine⟨_,qB O5 O,⟨O1,fun b hb qb ut=>?_,hp⟩,O1⟩;grind
  obtain rfl:k=i:=O1;have hU:k<Q1.length:=O1;have hx:=by
   rw[aA hU] at xh;exact gM xh
  obtain⟨ng,lo,xt⟩:=qi;refine qA ?_;refine xL 14 O jG O3 (fun w'=>w'.cell? ⟨b6,0+11,_⟩=some (.slice (some _) Q.length cQ)∧w'.cell? _=some (.int _ xt)∧w'.cell? ⟨b6,0+10,_⟩=some (.int _ sz))
   ⟨hp.N.cell 0 O O,slE (qZ hp.N 1 O xa (fun _=>O)) xh 2 _ O,hp.N.cell 0 O O⟩ ?_
  have hp:=hp.N;refine qX ?_;apply wdp;exact O;intro w hg;exact qS O O hg.1;exact fS O;refine qX ?_;apply wdp;exact O;intro w hg;exact qS O O hg.1;exact fS O;refine qX ?_;apply wdp;exact O;intro w hg;exact qS O O hg.2.1;exact fI O;refine qX ?_;apply wdp;exact O;intro w hg;exact qS O O hg.2.2;exact fI O;refine qX (qU ?_);refine StepF.mono (qXc _ Q1 k 2 (ng,lo,min _ sz) [_,_] [] hp 1 O xa _ O O (fun _=>O) O (by rw[hx];rfl) O O (qD O)) ?_;rintro _ w7 ⟨rfl,hp⟩;have xl:SVL _ cQ (Q1.set k (ng,lo,min xt sz)):=xa.set _ _;have xc:(Q1.set k (ng,lo,min xt sz))[k]? =some (ng,lo,min xt sz):=by rw[iB,if_pos O,if_pos hU]
  have oy:(Q1.set k (ng,lo,min xt sz)).length=Q.length:=by rw[fZ,zh]
  have yz:∀(j:Nat) (q:ByteArray×Int×Int),j≠k→_=_→(Q1.set k (ng,lo,min xt sz))[j]? =some (if j<k then jBp sz q else q):=fun j q hj hq=>by
   rw[iB,if_neg O1];exact tc j q hq
  have hp:Hp W [] w7 ([_,_,_]++_):=hp;generalize Q1.set k _=Q2 at hp xl xc oy yz;have x1:k<Q2.length:=O1;have yc:=by
   rw[aA x1] at xc;exact gM xc
  refine qR ?_;refine xL 18 O jG O3 (fun w'=>w'.cell? ⟨b6,0+11,_⟩=some (.slice (some _) Q.length cQ)∧w'.cell? _=some (.int _ lo)∧w'.cell? _=some (.int _ (min xt sz)))
   ⟨hp.N.cell 0 O O,slE (qZ hp.N 1 O xl (fun _=>O)) xc 1 _ O,slE (qZ hp.N 1 O xl (fun _=>O)) xc 2 _ O⟩ ?_
  have hp:=hp.N;refine qX ?_;apply wdp;exact O;intro w hg;exact qS O O hg.1;exact fS O;refine qX ?_;apply wdp;exact O;intro w hg;exact qS O O hg.1;exact fS O;refine qX ?_;apply wdp;exact O;intro w hg;exact qS O O hg.2.1;exact fI O;refine qX ?_;apply wdp;exact O;intro w hg;exact qS O O hg.1;exact fS O;refine qX ?_;apply wdp;exact O;intro w hg;exact qS O O hg.2.2;exact fI O;refine qX (qU ?_);refine StepF.mono (qXc _ Q2 k 1 (jBp sz (ng,lo,xt)) [_] _ hp 1 O xl _ O O (fun _=>O) O (by rw[yc];rfl) O O (qD O)) ?_;rintro _ w8 ⟨rfl,hp⟩;refine gA5 ?_;refine⟨(k+1,Q2.set k _),qB O5 O,⟨O1,by grind,fun j q hq=>?_,fun a b ha hb qa qb nj ut=>?_,hp⟩,O1⟩
  ·by_cases hD:j=k
   ·grind
   rw[iB,if_neg O1,yz j q hD hq];by_cases zj:j<k
   ·grind
   rw[if_neg zj,if_neg O1]
  grind
 obtain rfl:i=Q.length:=O1;have hY:=fun j q hq=>by
  have:=tc j q hq;rwa[if_pos (aH.1 hq).1] at this
 have ln:(Q1.map (·.1)).Nodup:=by
  rw[dZ,dP];intro b a hb ha x4 e;rw[aM] at hb ha;rw[mF,mF] at e;obtain⟨qa,nj⟩:∃qa,Q[a]? =some qa:=⟨_,aA O1⟩;obtain⟨qb,ut⟩:∃qb,Q[b]? =some qb:=⟨_,aA O1⟩;have ea:=hY a qa nj;have eb:=hY b qb ut;rw[aA ha] at ea;rw[aA hb] at eb;rw[gM ea,gM eb] at e;exact xp a b O1 x4 qa qb nj ut e.symm
 have xa:=jZ xb zh.symm;have xn:=hG.dp sQ cQ zh hY ln;obtain⟨xy,xx⟩:=hG.ep
 have x0:∀{w0:World},Hp W [] w0 ([blk b6 13 (qE (dC nm sz sQ cQ Q).L) 28,qG eQu 33 3 sQ cQ Q1,qG eEn 94 6 sE cE E]++E.map qA1)→DE (dC nm sz sQ cQ Q1) sE E w0:=fun{w0} hp=>hG.de (cE:=cE) zh (qZ hp 1 O xa (fun _=>O)) (qZ hp 2 O xg (fun _=>O)) (fun e he=>by
  obtain⟨i,hi⟩:=fG he
  exact qFb hp (aU _ (bD.2 ⟨e,he,O⟩)) (hG.E i e hi).v (fun _=>O))
 have la:=x0 hp;have xw:(dC nm sz sQ cQ Q).L=(dC nm sz sQ cQ Q1).L:=by unfold DW.L dC;rw[zh]
 have hF:∀(j:Nat) (v:Value),(dC nm sz sQ cQ Q1).L[j]? =some v→w5.cell? ⟨b6,0+j,none⟩=some v:=by
  rw[←xw];exact hp.j3 0 O O
 have hH:=hp.C;obtain⟨d,hd⟩:∃d,d=dC nm sz sQ cQ Q1:=⟨_,O⟩;have oi:d.kd=3:=by rw[hd];rfl
 have yi:0<d.sz:=by rw[hd];show 0<sz;omega
 rw[←hd] at la hF xn;clear x0 hY tc xp ln hp xa xw zh hi h;have hz:=hz.j6 hH;have xd:=xn.kd;have hp:=Hp.start (M:=[]) (w:=w5);refine qR (wlp (qL O O O O hF) (O:_=d.v) ?_);refine wlp qP (O:_=Value.slice sE _ cE) (tK (r7 d sE cE E _ la xn xy xx xk) ?_);rintro _ w6 hQ;rcases hQ with⟨hno,rfl,hk6⟩|⟨a,m,lv,lr,p,hPl,rfl,hZ,hX,hk6⟩
 ·have hp:=hp.call hk6;refine qA ?_;refine tQ fun w7 ba hp=>?_;refine tS fun w8 hp=>?_;refine qR ?_;refine tR qY (qR ?_);refine wlp (qL O O O O (fun j v hv=>hp.j7 (hF j v hv))) (O:_=d.v) (wlp qP (O:_=Value.slice sE _ cE) ?_);refine wlp qP (O:_=Value.slice sw _ cw) (tK (r8 d sE sw E cE cw wl _ (la.j5 hp.C) xd O1 O1 (hz.j6 hp.C) hL) ?_);rintro _ w9 ⟨sP,cP,gp,sV,cV,N,J,m,hv,hW,hJ,hm,xq,hK⟩;have hp:=hp.call hK;have hN:N=[]:=by
   cases N with
   |nil=>rfl
   |cons P N=>exact absurd (hW.all P dO).1 (hno P)
  have qu:=by rw[hN] at hJ;exact Nat.le_zero.1 hJ
  rw[qu,show decide _=false from O] at hv;refine qA ?_;refine tQ fun ur bc hp=>?_;refine tS fun gg hp=>?_;refine qA (jB O ?_);refine jL ?_;exact qM O O ⟨_,O,O,hH.trans hp.C O4⟩
 have hH:=hH.trans hk6 O4;have hF:=fun j v hv=>hk6.cell (hF j v hv) O4
 have la:=la.j5 hk6;have hz:=hz.j6 hk6;have hp:=Hp.start (M:=[]) (w:=w6);refine qA ?_;refine tQ fun w7 ba hp=>?_;refine tS fun w8 hp=>?_;have hp:=hp.norm 0 (a.L _ _ _ _) O O;refine qR ?_;refine tR qY (qR ?_);refine wlp (qL O O O O (fun j v hv=>hp.j7 (hF j v hv))) (O:_=d.v) (wlp qP (O:_=Value.slice sE _ cE) ?_);refine wlp qP (O:_=Value.slice sw _ cw) (tK (r8 d sE sw E cE cw wl _ (la.j5 hp.C) xd O1 O1 (hz.j6 hp.C) hL) ?_);rintro _ w9 ⟨sP,cP,gp,sV,cV,N,J,m2,rfl,hW,hJ,dx,xq,hK⟩;have hp:=hp.call hK;have xi:=hp.j3 0 O O;have hK:=hp.C;have hH:=hH.trans hK O4;have hF:=fun j v hv=>hK.cell (hF j v hv) O4
 have la:=la.j5 hK;have hZ:=hZ.j5 hK;have hX:=hX.j5 hK;have hp:=Hp.start (M:=[]) (w:=w9);refine qA ?_;refine tQ fun ur bc hp=>?_;refine tS fun gg hp=>?_;obtain⟨cx,yq⟩:∃cx:List _,cx=qAe ⟨gp,sP,cP,sV,cV⟩ m2.length none 0 0:=⟨_,O⟩;have hp:=hp.norm 0 cx O (by rw[yq];rfl);have hp:Hp w9 [] _ [blk _ 3 _ 45]:=hp;have yg:=xi 1 _ O;have yj:=xi 3 _ O;have ye:=xi 4 _ O;have yu:=xi 5 _ O;have hM:=hPl.mix;have hV:=hM.len;refine gA3 ?_;have hp:=hp.k4 eQ 49 3;have hp:Hp w9 [] _ [qG eQ 49 3 _ 0 (lm 0 (wF m)),_]:=hp;refine qQ ([4,14,17,18,19]++range' 117 18) (fun(z:Nat×Option Addr×Nat) F=>(F.put 14 (.slice z.2.1 z.1 z.2.2)).put 117 (Iv (z.1:Int))) (fun z w'=>z.1≤m.length∧SVL z.2.1 z.2.2 (lm z.1 (wF m))∧Hp w9 [] w' [qG eQ 49 3 z.2.1 z.2.2 (lm z.1 (wF m)),blk bc 3 (qE cx) 45]) (fun z=>m.length-z.1) (0,none,0) (qB (qB (Same.eq .refl) O) O) ⟨bN _,SVL.nil,hp⟩ ?_;clear hp;rintro u3 ⟨k,s1,c1⟩ gh ⟨hk,hv,hp⟩;dsimp only at hk hv hp⊢;refine tI (fun h=>?_) fun h=>?_
 ·have hh:k<m.length:=O1;obtain⟨bn,on,e8,h4⟩:=jR hZ.N hh;have xu:=h4 0 _ O;have eW:mkRat (sg false (plN m k)) (plT m)=wF m k:=by
   have h1:=hM.num hh;have h2:((plT m:Nat):Rat)≠0:=by
    have:=qG5 (m:=m);have:(0:Rat)<((plT m:Nat):Rat):=by exact_mod_cast this
    grind
   rw[gE];show((plN m k:Nat):Rat)/((plT m:Nat):Rat)=wF m k
   grind
  have xe:=fun w'=>r9 false _ _ w' (hM.aA6 O2 hh) (hM.x6 O2) qG5
  rw[eW] at xe;have hE:(lm k (wF m)).length=k:=qT;refine tD (xe _) fun gm hp=>?_;refine qA ?_;refine tQ fun gj be hp=>?_;refine tS fun gn hp=>?_;have hp:=hp.norm 0 (eQ _) O O;refine qA (qN O ?_);refine qR ?_;refine jM (wlp (qL O O O O (hp.j3 0 O O)) (O:_=QV (wF m k)) ?_);refine tF (jC (cs:=eQ _) hp O O O O O O O) fun hy nb hp=>tFb (jV eQ (lm k (wF m)) (wF m k) hp 2 0 O O O O O O jT (by rw[hE];rfl) O O hv O O O1) fun h6 s' c'⟨ht,hp⟩=>?_;have hp:=hp.H.H;have eN:_=lm (k+1) (wF m):=lm_succ.symm;have hp:Hp w9 [] _ [_,_]:=hp;rw[eN] at hp ht⊢;rw[qT];refine gA5 ?_;exact⟨(k+1,s',c'),qB O5 O,⟨O1,ht,hp⟩,O1⟩
 obtain rfl:m.length=k:=O1;refine qA ?_;have hp:=hp.k4 eQ 49 3;have hp:Hp w9 [] _ [qG eQ 49 3 _ 0 (lm 0 (jE m)),_,_]:=hp;refine qQ ([4,15,20,21,22]++range' 137 18) (fun(z:Nat×Option Addr×Nat) F=>(F.put 15 (.slice z.2.1 z.1 z.2.2)).put 137 (Iv (z.1:Int))) (fun z w'=>z.1≤E.length∧SVL z.2.1 z.2.2 (lm z.1 (jE m))∧Hp w9 [] w' [qG eQ 49 3 z.2.1 z.2.2 (lm z.1 (jE m)),qG eQ 49 3 s1 c1 (lm m.length (wF m)),blk bc 3 (qE cx) 45]) (fun z=>E.length-z.1) (0,none,0) (qB (qB (Same.eq .refl) O) O) ⟨bN _,SVL.nil,hp⟩ ?_;clear hp;rintro u4 ⟨e,s2,c2⟩ gm ⟨he,s8,hp⟩;dsimp only at he s8 hp⊢;refine tI (fun h=>?_) fun h=>?_
 ·have hh:e<E.length:=O1;have hE:(lm e (jE m)).length=e:=qT;refine gA4 ?_;refine qR (wlp (qL (vs:=a.L (plT m) m.length lv.length (yY (plT m))) O O O O (fun j v hv=>hp.j7 (xi j v hv))) (O:_=Value.agg (a.L (plT m) m.length lv.length (yY (plT m))).toArray) ?_);refine wlp (qL (vs:=d.L) O O O O (fun j v hv=>hp.j7 (hF j v hv))) (O:_=d.v) (wlp qP (O:_=Value.slice sE _ cE) ?_);refine tR qP (tC (r10 a d sE E cE 5712200030 lv.length e m _ (la.j5 hp.C) xn xy xx hM O2 (hZ.j5 hp.C) hh) fun gj hp=>?_);refine qA ?_;refine tQ fun gn bf hp=>?_;refine tS fun hy hp=>?_;have hp:=hp.norm 0 (eQ _) O O;refine qA (qN O ?_);refine qR ?_;refine jM (wlp (qL O O O O (hp.j3 0 O O)) (O:_=QV (jE m e)) ?_);refine tF (jC (cs:=eQ _) hp O O O O O O O) fun h6 nb hp=>tFb (jV eQ _ _ hp 2 0 O O O O O O jT (by rw[hE];rfl) O O s8 O O O1) fun h7 s' c'⟨ht,hp⟩=>?_;have hp:=hp.H.H;have eN:_=lm (e+1) (jE m):=lm_succ.symm;have hp:Hp w9 [] _ [_,_,_]:=hp;rw[eN] at hp ht⊢;rw[qT];refine tM (e+1) ?_;refine qA ?_;exact⟨(e+1,s',c'),qB O5 O,⟨O1,ht,hp⟩,O1⟩
 obtain rfl:E.length=e:=O1;have x2:MxAt a.sP a.gp s1 m gm:=by
  have hZ:=hZ.j5 hp.C;exact⟨hZ.P,hZ.p,qZ hp 1 O hv jT⟩
 have uk:=hPl.yb;have eu:=hPl.ll;have h8:=hPl.prv;have d1:(if(∀i,i<E.length→jE m i=p i) then(0:Int) else 25)=0:=if_pos hPl.ch;refine qR (wlp (qL (vs:=d.L) O O O O (fun j v hv=>hp.j7 (hF j v hv))) (O:_=d.v) ?_);refine tD (r11 d sE a.sP s1 a.sL E cE a.cP c1 a.cL 5712200030 p a.gp lr m lv _ (la.j5 hp.C) xd O1 xk hM O2 x2 (hX.j5 hp.C) eu uk h8) fun gj hp=>?_;rw[d1];refine qA ?_;refine tJ (xI O (fun h2=>?_) (fun h2=>?_))
 ·refine qA ?_;exact mEq
 have hS:=by simpa using h2
 have qq:=jI4 xk hW hJ hS;rw[←dx] at qq;have yd:=qq.len;have ya:∀i,i<E.length→BQ 5712200030 (jE m i):=fun i _=>by
  have:=hM.ch m.length i;grind
 have xc:∀i,i<E.length→BQ 5712200030 (jE m2 i):=fun i _=>by
  have:=qq.ch m2.length i;rw[dE] at this;exact BQ.mono this O2
 have xo:=jTv (q:=jE m2) h8 (fun y _=>qq.le y);rw[←jH hPl.ch] at xo;have h9:decide ((if(∀i,i<E.length→jE m2 i=p i) then(0:Int) else 25)=0)=decide (∀i,i<E.length→jE m2 i=jE m i):=by
  rw[iG,dL,dL];constructor
  ·grind
  intro h;rw[if_pos (fun i hi=>by grind)]
 subst yq;refine qR (wlp (qL (vs:=qAe ⟨gp,sP,cP,sV,cV⟩ m2.length none 0 0) O O O O (hp.j3 2 O O)) (O:_=Value.agg #[.slice sP m2.length cP,.slice sV m2.length cV,Zs]) ?_);refine qA ?_
 (apply wls;exact qC O jXy O (r12 E.length sP sV none cP cV 0 0 10 gp m2 _ qq.ch (fun k hk=>(qq.get hk).2.2) O2 O1 O1 (fun k hk=>by
  have h1:=nF (qq.get hk).1.nodup (fun i hi=>aO.2 ((qq.get hk).1.lt i hi));grind) (xq.j5 hp.C));rintro _ gn ⟨s3,c3,rfl,hP,yf⟩;have hp:=hp.join yf;clear yf)
 have hp:Hp w9 [] _ [_,_,_,_]:=hp;refine tD (r13 E.length (jE m2) (jE m) s3 s2 c3 c2 _ (qZ hp 0 O hP jT) (qZ hp 1 O s8 jT) O1) fun hy hp=>?_;refine qR ?_;refine tR qY (qR ?_);refine wlp (qL (vs:=d.L) O O O O (fun j v hv=>hp.j7 (hF j v hv))) (O:_=d.v) (tD (r11 d sE sP sV a.sL E cE cP cV a.cL 10 p gp lr m2 lv _ (la.j5 hp.C) xd O1 xk qq O2 (xq.j5 hp.C) (hX.j5 hp.C) eu uk h8) fun h6 hp=>?_);refine wlp (zW O O) (qV h9) (tE (r14 E.length (jE m2) (jE m) 5712200030 s3 s2 c3 c2 _ (qZ hp 0 O hP jT) (qZ hp 1 O s8 jT) O1 xc ya O2) fun h7 hp=>?_);rw[xo];refine jL ?_;apply vX;exact O;exact O;exact qQk Tryz.underlying4 O O;exact qV (b:=true) (rP _);refine jL ?_;exact mEq
end
open Go.Eng Go.Sha Go.ChangeShapes Go.WideShapes Go.ChangeAt Go.RowKit Go.Deep
variable{W w:World}{v:Value}{t e:Nat}{P:Program}
theorem laid:laidOutB Tryz.prog=true:=O3
theorem zCv:ownKnob Tryz.prog.godebug=none:=O3
theorem jAg{a:Addr}(h:w.cell? a=some v):a.spot=none:=by
 unfold World.cell? at h;split at h
 ·split at h
  ·cases h
  cases hs:a.spot
  ·rfl
  grind
 cases h
section
variable {H:Type}{enc:TypeId×Value→H}{P:Program}{w:World}{base:Nat}{spare:Nat→Bool}{held:Bool}
theorem jAz{α:Type}{f:α→List Value}{ok:α→Prop}{k fuel:Nat}{cs:List Value}{x:DataW H×List MemPlace}(ht:P.underlying t=some (.slice e))(hk:P.cellsOf e=k)(my:0<k)
  (yn:∀n ca y,DataW.trod enc P w base spare held n e ca=some y→∃a,ca=f a∧ok a) (h:DataW.trod enc P w base spare held fuel t cs=some x):
  ∃s c,∃l:List α,cs=[.slice s l.length c]∧l.length≤c∧c≤maxLen∧SlAt w k f s l∧(∀a∈l,ok a)∧(l=[]∨∃es rs,x.1= .slice es rs∧es.length=l.length):=by
 rcases open_slice ht h with⟨rfl,_⟩|⟨a,len,cap,m,n,D,Pl,rfl,hb,hl,hm,hmm,hxe,hx⟩
 ·exact⟨_,0,[],O,bM _,O1,by intro i x hx;grind,O4,.inl O⟩
 have h8:len≤m:=by rw[hmm];split<;>omega
 rw[hk] at hx;have hex:∀i:Fin len,∃y,w.cells? base (a.add (i*k)) k=some (f y)∧ok y:=by
  intro i;obtain⟨ca,h1,h2⟩:=hx i O1;obtain⟨y,rfl,hy⟩:=yn _ _ _ h2;exact⟨y,h1,hy⟩
 refine⟨some a,_,List.ofFn fun i=>Classical.choose (hex i),O4,by grind,hm,?_,?_,.inr ⟨_,_,by rw[hxe],O4⟩⟩
 ·intro i y hy;have hi:=by have:=(aH.1 hy).1;simpa using this
  have hn:Classical.choose (hex ⟨i,hi⟩)=y:=by
   rw[List.getElem?_ofFn] at hy;simpa[hi] using hy
  have h7:=(rH (hex ⟨i,hi⟩)).1;rw[hn] at h7;obtain⟨_,hQ,hc⟩:=World.cells?_some h7;obtain⟨_,hg,yq⟩:=World.cells?_some (rH (hex ⟨0,O1⟩)).1;have hs0:=jAg ((yq 0 O1).trans (aA O1));have hH:=by simpa[Addr.add] using hs0
  refine⟨a.block,a.off,?_,fun j v hv=>?_⟩
  ·cases a;grind
  have hj:j<k:=by rw[←hQ];exact(aH.1 hv).1
  have:=(hc j hj).trans hv;cases a;subst hH;rw[yC,yC] at this;omega
 grind
theorem qGw(hl:laidOutB P=true){W W':World}(hb:Below W.heap.size W W'){sp:Nat→Bool}:∀(ts:List TypeId) (vs:List Value) (ds:List (DataW H)) (ps:List MemPlace),
  (∀t∈ts,P.readableRec t=true∧t<P.types.size)→DataW.TrodAll enc P W 0 (fun _=>true) true ts vs ds ps→(∀x∈ps,x.block<W.heap.size)→(∀x∈ps,sp x.block=true)→
  DataW.TrodAll enc P W' 0 sp true ts vs ds ps
 |[],vs,ds,ps,_,h,_,_=>by
  obtain⟨rfl,rfl,rfl⟩:=trodAll_nil h;exact trodAll_mk0
 |t::ts,vs,ds,ps,ht,h,hlt,hsp=>by
  obtain⟨v,va,d,pp,p,q,rfl,rfl,rfl,h1,h2⟩:=trodAll_cons h;refine⟨p,q,?_,qGw hl hb ts _ _ q (fun t h=>ht t (dX _ h)) h2 (fun x hx=>hlt x (aU _ hx)) (fun x hx=>hsp x (aU _ hx)),O⟩;obtain⟨hr,hh⟩:=ht t (dO ..);exact WideElems.Trod_stays hl hr hh h1 (fun x hx=>hb.same (hlt x (dB _ hx))) (fun x hx=>hsp x (dB _ hx))
end
section
variable {H:Type}{enc:TypeId×Value→H}{P:Program}{w:World}{base:Nat}{spare:Nat→Bool}{held:Bool}
end
theorem jAv{H:Type}{enc:TypeId×Value→H}{f:Func}{s:ChangeSpec}{W':World}{args:Array Value}{ds gs:List (DataW H)}{before:List MemPlace}(hW:DataW.Whole enc Tryz.prog f.params.toList s.vars false W args.toList ds gs before)
  (hv:s.vars=[]) (hr:f.resultTypes= #[4]) (hm:∀t∈f.params.toList,Tryz.prog.readableRec t=true∧t<Tryz.prog.types.size)
  (h8:(s.fn H (ds++gs)).results=[.lit (.bool true)]) (n2:(s.fn H (ds++gs)).args=ds) (hg:(s.fn H (ds++gs)).vars=[]) (hk:Keeps [] W W'):
  s.post enc Tryz.prog f false true false false W args (.bool true) W':=by
 have hh:=hW;obtain⟨p,q,hA,hV,rfl,hj,ln⟩:=hW;rw[hv] at hV;obtain⟨rfl,rfl⟩:=trodVars_none hV;have hl:=fun x hx=>hh.lt x (by simpa using hx)
 refine⟨ds,[],_,[],p,[],hh,?_,?_,?_,(hk.below.frame _),fun h=>by cases h⟩
 ·rw[h8,hr];exact trodAll_cons_mk (shut_bool Tryz.underlying4 _) trodAll_mk0
 ·rw[n2];exact qGw laid hk.below _ _ _ _ hm hA hl (fun x hx=>by grind)
 rw[hg,hv];rfl
section
variable {H:Type}{enc:TypeId×Value→H}{w:World}{base:Nat}{spare:Nat→Bool}{held:Bool}{n:Nat}{cs:List Value}{x:DataW H×List MemPlace}
theorem jTo:Tryz.prog.cellsOf 3=1:=O3
theorem jO7(h:DataW.trod enc Tryz.prog w base spare held n 3 cs=some x):∃a:Int,cs=eI a∧-9223372036854775808≤a∧a≤9223372036854775807:=by
 obtain⟨a,rfl,_,hw⟩:=DataW.trod_int Tryz.underlying3 h;have e1:IntKind.i64.min= -9223372036854775808:=O2;simp[Lit.wf,aF,dL,e1] at hw;exact⟨a,O,hw⟩
theorem jB5:maxLen≤9223372036854775807:=O2
theorem qXs(h:DataW.trod enc Tryz.prog w base spare held n 22 cs=some x):∃s c,∃l:List Int,cs=[.slice s l.length c]∧l.length≤9223372036854775807∧SlAt w 1 eI s l:=by
 obtain⟨s,c,l,h1,h2,h3,h4,_⟩:=jAz Tryz.underlying22 jTo O2 (fun _ _ _ h=>jO7 h) h;have:=jB5;grind
end
theorem qDn{x:String×DataW Unit}{r:List (String×DataW Unit)}(h:laidMet P (x::r) w):laidMet P r w:=by
 obtain⟨ps,hv,ln,hg⟩:=h;obtain⟨g,t,cs,fuel,p,q,_,_,_,_,hq,rfl⟩:=hv;exact⟨q,hq,List.Nodup.sublist (bZ _ _) ln,fun b off hm=>hg b _ (aU _ hm)⟩
def zsF:List Int:=[ini.a,ini.b,ini.c,ini.d,ini.e,ini.f,ini.g,ini.h].map fun(n:Nat)=>(n:Int)
def zsC:List Int:=(range 64).map fun i=>(kf i:Int)
theorem jBi:(Rows.laid_sortes_digest_first:DataW Unit)=Lib.tabData .u32 zsF:=O3
theorem jHf:(Rows.laid_sortes_digest_constants:DataW Unit)=Lib.tabData .u32 zsC:=O3
theorem jL9:(Rows.laid_internal_strconv_uint64pow10:DataW Unit)=Lib.tabData .u64 Lib.pow10Tab:=O3
theorem jIh:(zsF.map fun z=>Value.int .u32 z)=sv ini:=O3
theorem jNf{i:Nat}(h:i<64):((zsC.map fun z=>Value.int .u32 z).toArray)[i]? =some (u (kf i)):=by
 unfold zsC;rw[iP,List.getElem?_toArray,dF,nD h];rfl
theorem qPy(h:laidMetH Tryz.prog Rows.topFairRow.laid W):Tabs W:=by
 have h2:=qDn (qDn h);have h4:=qDn (qDn h2);have h5:=qDn h4;rw[jL9] at h2;rw[jBi] at h4;rw[jHf] at h5;have t2:=Lib.tabIs_of_head (g:=2) O3 O3 Tryz.underlying414 Tryz.underlying139 O3 O3 h2;have t4:=Lib.tabIs_of_head (g:=0) O3 O3 Tryz.underlying359 Tryz.underlying208 O3 O3 h4;have t5:=Lib.tabIs_of_head (g:=1) O3 O3 Tryz.underlying410 Tryz.underlying208 O3 O3 h5;refine⟨fun j v hv=>?_,?_,fun i hi=>?_⟩
 ·have e:=World.var?_cell (by kernel_rfl:_=some 0) t4 (0+j);rw[e,jIh,fH,List.getElem?_toArray,hv]
 ·have tc:_=_:=t2;unfold World.var? at tc;rw[(by kernel_rfl:Tryz.prog.globalNamed _=some 2),Option.bind_some] at tc;grind
 have e:=World.var?_cell (by kernel_rfl:_=some 1) t5 (0+i*1);rw[e,fH,oB];exact jNf hi
def cellsL:DataW Unit→List Value
 | .lit (.int k n)=>[.int k n]
 | .agg [.lit (.int k n),.lit (.int q m)]=>[.int k n,.int q m]
 |_=>[]
def jTn:DataW Unit→Array Value
 | .agg l=>(l.flatMap cellsL).toArray
 |_=>#[]
noncomputable def qOx(os:Os):World:=
 let w0:=World.holding Tryz.prog os ⟨#[],#[],[]⟩
 let lay:=fun(g:Nat) (d:DataW Unit) (h:Array Obj)=>h.modify g fun
   | .cells _ t fr=>.cells (jTn d) t fr
   |o=>o
 {w0 with heap:=lay 4 Rows.laid_unicode_utf8_acceptRanges (lay 3 Rows.laid_unicode_utf8_first (lay 7 Rows.laid_math_bits_deBruijn64tab (lay 6 Rows.laid_math_bits_deBruijn32tab (lay 2 Rows.laid_internal_strconv_uint64pow10 (lay 1 Rows.laid_sortes_digest_constants (lay 0 Rows.laid_sortes_digest_first w0.heap))))))}
set_option maxRecDepth 100000 in
theorem qO1(os:Os)(args:Array Value):laidMetH Tryz.prog Rows.topFairRow.laid ((qOx os).forCall (fun _ _=>0) ⟨#[],args,[]⟩).memory:=by
 exact laidMet_of_run (ps:=(range 32).map (MemPlace.cell 6)++((range 64).map (MemPlace.cell 7)++((range 20).map (MemPlace.cell 2)++((range 32).map (MemPlace.cell 4)++((range 8).map (MemPlace.cell 0)++((range 64).map (MemPlace.cell 1)++(range 256).map (MemPlace.cell 3))))))) 8 O3 O3 O3
theorem qF3{base:Nat}{s:Option Addr}{m c:Nat}(ht:P.underlying t=some (.slice e))(hn:Value.okWide P W .any base t v)(h:v.cells.toList=[.slice s m c]):v= .slice s m c:=by
 cases v with
 |agg vs=>simp[Value.okWide,ht,Cell.okWide,Cell.ok] at hn
 |slice a1 b1 c1=>
  have e:Value.slice a1 b1 c1= .slice s m c:=by simpa[Value.cells] using h
  exact e
 |_=>simp[Value.cells] at h
end Go.Proofs.YtplkndjlfkkjlaaGreatDoor
