/- Merged texts of ours; conditions are the hypotheses of each law. -/
import Derived.Test.YtplkndjlfkkjlaaGreatDoorP2
namespace Go.Proofs.YtplkndjlfkkjlaaGreatDoor
open List (range range' replicate)
open Tryz
open Go.Eng Go.Dig Go.Sha Go.Lag Go.Grp Go.Sp
variable{S:List Nat}{i:Nat}{ns:List Nat}
def uB(S:List Nat)(i:Nat):Nat:=fac S (S.getD i 0)
theorem qU4(S:List Nat)(i:Nat):uB S i<1152921504606845789:=jFk
theorem qU5(h:i<S.length):uB S i=fac S S[i]:=by
 unfold uB;grind
theorem jDr(h:Pts S)(hi:i<S.length):1≤S[i]∧S[i]<1152921504606845789:=h.bd _ (bX hi)
def fdI(st:Nat→Nat→Nat)(a:Nat)(i:Nat):Nat:=(range i).foldl st a
theorem jFi(st:Nat→Nat→Nat)(a i:Nat):fdI st a (i+1)=st (fdI st a i) i:=by
 unfold fdI;rw[fW,List.foldl_append];rfl
def jIb(kf nb:Nat)(S:List Nat)(st:Nat→Nat→Nat)(M:List Nat)(w:World):Prop:=
 ∀W,Keeps M w W→∀i acc,i<S.length→acc<2305843009213691579→st acc i<2305843009213691579∧Rt kf [Iv (acc:Int),Iv (i:Int),Iv (uB S i:Int),.pointer (Ad nb)] W (fun v W'=>v=Iv (st acc i:Int)∧Keeps [] W W')
attribute [local irreducible] PV StepF wpl wpd WP Ret
attribute [local irreducible] Fit ofN uY hv scP atP Mb inL fac uB
theorem zCo(S:List Nat)(s:Option Addr)(c pb:Nat)(M:List Nat)(w:World)(h1:w.cell? ⟨pb,0,none⟩=some (.slice s S.length c))(hs:SlAt w 1 eN s S)(hP:Pts S)(hl:S.length≤1000000)
  (qw:pb∉M) (hm:S≠[]→∀b o,s=some ⟨b,o,none⟩→b∉M) (qz:∀k∈M,k<w.heap.size):
  It2 Tryz.prog 281 [.pointer (Ad pb)] (fun i:Nat=>Iv (i:Int)) (fun i:Nat=>Iv (uB S i:Int)) (range S.length) M w:=by
 intro ll J eu qt hY hJ qu;have zc:pb≠ll:=qt _ _ h1;have sY:pb∉ll::M:=by simp;exact⟨zc,qw⟩
 have bm:S≠[]→∀b o,s=some ⟨b,o,none⟩→b∉ll::M:=by
  intro h b o e;obtain⟨x,l',rfl⟩:∃x l',S=x::l':=by cases S with|nil=>grind|cons x l'=>simp
  obtain⟨b',o',e',bC⟩:=hs 0 x O;have bA:=qt _ _ (bC 0 _ O);rw[e] at e';cases e';simp;exact⟨bA,hm O4 b o e⟩
 have qv:∀{pre:List _} {W W':World},J _ W→_≤_→Keeps [] W W'→J pre W':=fun h hs hk=>hJ _ _ _ h (Keeps.v6 hk hs O4)
 refine Ret.j9 func281 O ntmps281 O (qA ?_);refine qQ ([3,4,5,6,7,8,9,10]++range' 13 37) (fun(i:Nat) F=>F.put 13 (.int _ i))
  (fun i W=>i≤S.length∧J (range i) W∧Keeps (ll::M) w W) (fun i=>S.length-i) 0 (qB (Same.eq .refl) O) ⟨O1,qu,.refl⟩ ?_
 rintro u0 i W ⟨hi,qo,hk⟩;have d1:=hk.cell h1 sY;have dS:=hs.j5 hk bm;refine tI (fun h=>?_) fun h=>?_
 ·have hh:i<S.length:=O1;obtain⟨b0,o0,hs0,yq⟩:=dS.base O1;have yp:=yq i _ (aA hh) 0 _ O;have li:=jDr hP hh;have bI:=qU5 hh;have qc:=qU4 S i;have bP:=fun a b h=>FacI.aA3 (a:=a) (b:=b) hP hh h
  have pa:=fun a b z h hz=>FacI.done (a:=a) (b:=b) (z:=z) hP hh h hz
  have xr:∀j (hj:j<S.length),j≠i→S[j]≠S[i]:=fun j hj nu e=>by
   have hn:=hP.nd;rw[dZ,dP] at hn;grind
  generalize S[i]=x at yp li bI bP pa xr;refine qA (qQ ([5,6,7,8]++range' 20 17) (fun(X:Nat×Nat×Nat) F=>((F.put 20 (.int _ (X.1))).put 5 (.int _ (X.2.1))).put 6 (.int _ (X.2.2)))
   (fun X W=>X.1≤S.length∧X.2.1<1152921504606845789∧X.2.2<1152921504606845789∧FacI S i x X.1 X.2.1 X.2.2∧J _ W∧Keeps _ w W) (fun X=>S.length-X.1) (0,1,1) (qB (qB (qB (Same.eq .refl) O) O) O) ⟨O1,O2,O2,FacI.zero,qo,hk⟩ ?_)
  clear qo hk d1 dS yq yp hs0;rintro u1 ⟨j,a,b⟩ W1 ⟨hj,ha,hb,hF,qo,hk⟩;dsimp only at hj ha hb hF qo hk⊢;have d1:=hk.cell h1 sY;have dS:=hs.j5 hk bm;refine tI (fun h=>?_) fun h=>?_
  ·have bB:j<S.length:=O1;obtain⟨b1,o1,hq,bS⟩:=dS.base O1;have zu:=bS j _ (aA bB) 0 _ O;have uk:=jDr hP bB;refine qA (xI O (fun nu=>?_) (fun nu=>?_))
   ·have xd:j≠i:=O1;have yx:=fun a' b' h1 h2=>hF.next (a':=a') (b':=b') bB xd h1 h2
    generalize S[j]=y at zu uk yx;refine tL (p52 a y 1152921504606845789 _ O1 O1 O1 O1 O2 O2) ?_;rintro _ W2 ⟨rfl,ox⟩;have e1:(a:Nat)*(y:Int)%(1152921504606845789:Nat)=(a*y%gQ:Nat):=by rw[iI,bU,qHi]
    rw[e1];have qo:=qv qo hk.size ox;have hk:=hk.trans ox O4;refine tL (zCn y x 1152921504606845789 _ O1 O1 O1 O1 O2 O2) ?_;rintro _ W3 ⟨rfl,ox⟩;have qo:=qv qo hk.size ox;have hk:=hk.trans ox O4;obtain⟨d,hd,eL⟩:=qHc (y-x) (m:=1152921504606845789) O2;rw[hd];refine tK (p52 b d 1152921504606845789 _ O1 O1 O1 O1 O2 O2) ?_;rintro _ W4 ⟨rfl,ox⟩;have e2:(b:Nat)*(d:Int)%(1152921504606845789:Nat)=(b*d%gQ:Nat):=by rw[iI,bU,qHi]
    rw[e2];have qo:=qv qo hk.size ox;have hk:=hk.trans ox O4;have mf:a*y%gQ<1152921504606845789:=O1;have sd:b*d%gQ<1152921504606845789:=O1
    have bK:=yx (a*y%gQ) (b*d%gQ) (pJ _ _) (by
     refine(qTm _).trans ?_;rw[bU];refine Cg.refl.mul ?_;rw[←hd]
     exact Cg.mod)
    refine gA8 ?_;exact⟨(j+1,a*y%gQ,b*d%gQ),qB O5 O,⟨O1,mf,sd,bK,qo,hk⟩,O1⟩
   have xd:j=i:=O1;subst xd;have bK:=hF.same bB;refine gA8 ?_;exact⟨(j+1,a,b),qB O5 O,⟨O1,ha,hb,bK,qo,hk⟩,O1⟩
  obtain rfl:j=S.length:=O1;have hg:=jWt (bP a b hF);refine qA ?_
  (apply wls;exact qC O jR4 O (zCm (b:Int) 1152921504606845789 _ O1 O1 O2 O2 (by
   intro r hr;have:r=b:=O1;rw[this]
   exact hg));rintro _ W2 ⟨⟨z,rfl,x2,hz⟩,ox⟩)
  have qo:=qv qo hk.size ox;have hk:=hk.trans ox O4;have ja:=pa a b z hF hz;rw[←bI] at ja;refine tL (p52 a z 1152921504606845789 _ O1 O1 O1 O1 O2 O2) ?_;rintro _ W3 ⟨rfl,ox⟩;have e1:(a:Nat)*z%(1152921504606845789:Nat)=(uB S i:Int):=by rw[←ja,iI,bU,qHi]
  rw[e1];have qo:=qv qo hk.size ox;have hk:=hk.trans ox O4;apply wlY;exact O;exact O;exact hY _ i _ qo (qF6 hh);rintro _ W4 ⟨rfl,qy,e7⟩;refine⟨_,O,?_⟩;have uq:=hk.trans e7 (fun k hk=>.inr hk);rw[←fW] at qy;refine gA9 ?_;exact⟨_,qB O5 O,⟨O1,qy,uq⟩,O1⟩
 obtain rfl:i=S.length:=O1;exact mD4
theorem p94(s:Option Addr)(m c:Nat)(w:World):Rt 201 [.slice s m c] w (fun v w'=>∃pb,v= .func (.func 281) #[] #[.pointer (Ad pb)]∧Hp w [] w' [blk pb 1 (qE [.slice s m c]) 22]):=by
 refine tW func201 ntmps201 fun hp=>?_;refine vK fun w b hp=>?_
 exact qM O O ⟨_,O,_,O,hp⟩
theorem p93(kf nb pb c a0:Nat)(S:List Nat)(s:Option Addr)(st:Nat→Nat→Nat)(w:World)(he:qI Tryz.prog kf)(h1:w.cell? ⟨pb,0,none⟩=some (.slice s S.length c))(hs:SlAt w 1 eN s S)(hP:Pts S)(hl:S.length≤1000000)
  (ha:a0<2305843009213691579) (xy:jIb kf nb S st [] w):
  Rk 200 [.func (.func 281) #[] #[.pointer (Ad pb)],Iv (a0:Int),.func (.func kf) #[] #[.pointer (Ad nb)]] w (Iv (fdI st a0 S.length:Int)):=by
 have qb:S≠[]→∀b o,s=some ⟨b,o,_⟩→b<_:=fun h b o e=>hs.lt (fun _=>O) O2 h e
 have pd:pb<_:=iZ w _ h1;refine Ret.q9 func200 O ntmps200 O ?_;have hp:=Hp.start (M:=[]) (w:=w);refine qB2 (qR ?_);refine tQ fun w1 ab hp=>?_;refine tQ fun w2 fb hp=>?_;refine qA (qFt ?_);refine qA ?_;have ze:fdI st a0 0=a0:=O;have hp:Hp w [] w2 [blk ab 1 (qE [Iv (fdI st a0 0)]) 3,blk fb 1 (qE [.func (.func kf) #[] #[.pointer (Ad nb)]]) 74]:=by rw[ze];exact hp.k5 [1,0] _ O O
 have hn:=hp.p6 (i:=0) O;have je:=hp.p6 (i:=1) O;have hj:=hp.ne (i:=1) (j:=0) O O O2;refine qBr [(4,.pointer _),(5,.pointer _),(9,.func _ _ _)] ⟨O,O,O,trivial⟩ ?_;intro F0;refine qNk O jR6 (fun i:Nat=>Iv i) (fun i=>Iv (uB S i)) (range S.length) [ab] ?_
  (fun pre W=>fdI st a0 pre.length<2305843009213691579∧Hp w [] W [blk ab 1 (qE [.int _ (fdI st a0 pre.length)]) 3,_]) ?_ ⟨ha,hp⟩ ?_
  (fun i=>((((F0.x5 [(4,.pointer (Ad ab)),(5,.pointer (Ad fb)),(9,.func (.func 281) #[] #[.pointer (Ad pb)])]).put 10 (Iv i)).put 11 (Iv (uB S i))).put 7 (Iv i)).put 8 (Iv (uB S i))) ?_ ?_ ?_
 ·grind
 ·rintro pre W W' ⟨hb,h⟩ us;refine⟨hb,h.v6 us hp.C.size ?_⟩;intro p jo b hb;simp[bE,mE,sAt] at jo;rcases jo with rfl|rfl
  ·have:(some ab)=_:=hb;grind
  have:(some fb)=_:=hb;grind
 ·intro W1 hk hg;have e7:=hp.C.trans hk O4;refine zCo S s c pb _ W1 (e7.cell h1 O4) (hs.j6 e7) hP hl (by grind) ?_ ?_
  ·grind
  grind
 ·intro ll i W;refine qA ?_;simp
 ·rintro ll pre i W ⟨ou,o5⟩ ⟨jz,q1⟩;obtain⟨rfl,hh⟩:=qJ0 o5;rw[aY,dA,List.length_singleton] at*
  have hm:=jFi st a0 i;have c5:W.cell? ⟨fb,0,_⟩=some (.func _ _ _):=q1.cell 1 O O;have ed:=Hp.y1 (q1.has 0 _ O ab O);have xy:=fun W' (hk:Keeps [] W W')=>xy W' (q1.C.trans hk O4) i _ hh jz
  have hp:Hp W _ W [blk ab 1 _ 3]:=ed;have hs0:=xy W .refl;refine qR (tR (qKj Tryz.underlying74 O O c5) ?_);refine tR (qS O O (hp.cell 0 O O)) (jM ?_);refine jM ?_;apply wls;exact qC O he O hs0.2;rintro _ w5 ⟨rfl,hk⟩;have hp:=hp.call hk;rw[←hm];refine tS fun w7 hp=>?_;refine qA ?_;exact⟨O,⟨O1,q1.o8 (i:=0) O hp.C (fun b hb=>by
   cases hb
   exact⟨.inl O,hp.has 0 _ O ab O⟩)⟩,hp.C⟩
 rintro D W hD ⟨_,q1⟩ q7;rw[dA] at q1
 have aa:Keeps [] w (W.putObj D (.deferred none)):=(q1.C).trans (yR W D _) (fun k hk=>by
  grind)
 exact mDf
def lfS(S ns:List Nat)(acc i:Nat):Nat:=acc*(ns.getD i 0^uB S i%gP)%gP
theorem qGb{l:List Nat}(h:i<l.length):l.getD i 0=l[i]:=by
 grind
theorem p95(S ns:List Nat)(s:Option Addr)(c nb:Nat)(w:World)(h1:w.cell? ⟨nb,0,none⟩=some (.slice s ns.length c))(hs:SlAt w 1 eN s ns)(hl:ns.length=S.length)(hb:∀x∈ns,x≤9223372036854775807):jIb 202 nb S (lfS S ns) [] w:=by
 intro W hk i acc hi ha;refine⟨dG _ O2,?_⟩;have d1:=hk.cell h1 O4;have dS:=hs.j6 hk;have hg:i<ns.length:=O1;obtain⟨b0,o0,hs0,yq⟩:=dS.base O1;have yp:=yq i _ (aA hg) 0 _ O;have qc:=qU4 S i;have jh:=hb _ (bX hg);have xy:lfS S ns acc i=acc*(ns[i]^uB S i%gP)%gP:=by unfold lfS;rw[qGb hg]
 generalize ns[i]=x at yp jh xy;refine tW func202 ntmps202 fun hp=>?_;refine tD (qM1 x (uB S i) 2305843009213691579 _ O1 O1 O2 O2) fun w5 hp=>?_;refine tC (p52 acc (x^uB S i%2305843009213691579:Nat) 2305843009213691579 _ O1 O1 O1 O1 O2 O2) fun w6 hp=>?_;refine qA ?_;refine qM O O ⟨_,O,?_,hp.C⟩;rw[xy,←bU,←iI];rfl
theorem qEm(st:Nat→Nat×Nat→Nat):∀(l:List (Nat×Nat)) (a:Nat),l.foldl st a=(range l.length).foldl (fun acc i=>st acc (l.getD i (0,0))) a:=by
 intro l;induction l with
 |nil=>simp
 |cons p l ih=>
  intro a;rw[iO,ih,bT,List.range_succ_eq_map,iO,List.foldl_map];rfl
theorem qSg(hl:ns.length=S.length)(h:i<S.length):(ns.zip (S.map (fac S))).getD i (0,0)=(ns.getD i 0,uB S i):=by
 rw[aC,aA (by grind),qU5 h,qGb O1];simp
theorem qHk{f g:Nat→Nat→Nat}:∀(l:List Nat) (a:Nat),(∀acc i,i∈l→f acc i=g acc i)→l.foldl f a=l.foldl g a
 |[],_,_=>rfl
 |x::l,a,h=>by
  rw[iO,iO,h a x dO];exact qHk l _ fun acc i hi=>h _ i (dX _ hi)
theorem jKi(hl:ns.length=S.length):fdI (lfS S ns) 1 S.length=lfu S ns:=by
 unfold lfu ltF fdI;have e:(ns.zip (S.map (fac S))).length=S.length:=by rw[List.length_zip,aM];omega
 rw[qEm,e];refine qHk _ _ fun acc i hi=>?_
 rw[qSg hl (by grind)];rfl
theorem p47(S ns:List Nat)(s s2:Option Addr)(c c2:Nat)(w:World)(hs:SlAt w 1 eN s S)(h5:SlAt w 1 eN s2 ns)(hP:Pts S)(hl:S.length≤1000000)(hn:ns.length=S.length)(hb:∀x∈ns,x≤9223372036854775807):
  Rk 151 [.slice s S.length c,.slice s2 ns.length c2] w (Iv (lfu S ns:Int)):=by
 rw[←jKi hn];refine tW func151 ntmps151 fun hp=>?_;refine qR ?_;refine tQ fun w1 nb hp=>?_;refine tL (p94 s _ c _) ?_;rintro _ w2 ⟨pb,rfl,hpo⟩;have hp:=hp.join hpo;refine tD (p93 202 nb pb c 1 S s _ _ jS5 (hp.cell 0 O O) (hs.j6 hp.C) hP hl O2 (p95 S ns s2 c2 nb _ (hp.cell 1 O O) (h5.j6 hp.C) hn hb)) fun w3 hp=>?_;exact mA0
end Go.Proofs.YtplkndjlfkkjlaaGreatDoor
namespace Go.Eng
open List (range range' replicate)
section
variable{b m:Nat}{V:Nat→Value}{F0 F:Fr}{D:Nat→Bool}{n:FrK}{R:Value→World→Prop}
def qZ9(ops:Array Oper):Bool:=(range ops.size).all fun i=>(jA ops i).after.toList.all fun e=>!Region.binds .any e||decide (e.on<i)
def qPg(ops:Array Oper)(i:Nat)(D:Nat→Bool):Bool:=(jA ops i).after.toList.all fun e=>!Region.binds .any e||D e.on
section
variable {P:Program}{ops:Array Oper}{Q:Exit→Act→World→Prop}
theorem qX0(ht:qZ9 ops=true)(I:(Nat→Bool)→Act→World→Prop)
  (hq:∀(i:Nat) (D:Nat→Bool) (a:Act) (w:World),i<ops.size→D i=false→qPg ops i D=true→I D a w→EffStep P ops (jA ops i) a w (fun a' w'=>I (fun j=>D j||Nat.beq j i) a' w'))
  (ja:∀(D:Nat→Bool) (a:Act) (w:World),(∀i,i<ops.size→D i=true)→I D a w→Q .normal a w):
  ∀(fuel:Nat) (listed:Array Bool) (a:Act) (w:World),listed.size=ops.size→(left ops listed).length≤fuel→I (fun i=>listed.getD i false) a w→wpAny P .any ops Q fuel listed a w:=by
 have hy:∀i,i<ops.size→∀e∈(jA ops i).after.toList,Region.binds .any e=true→e.on<i:=by
  intro i hi e he hb;have h1:=cU.1 ht i (by grind);have h2:=cU.1 h1 e he;rw[hb] at h2;simpa using h2
 have hn:∀(listed:Array _) (i:Nat),listed.size=ops.size→i<ops.size→listed.getD i true=listed.getD i false:=by
  intro listed i hh hi;simp[aJ,hh,hi]
 have done:∀(listed:Array _) (a:Act) (w:World),listed.size=ops.size→left ops listed=[]→I (fun i=>listed.getD i false) a w→Q .normal a w:=by
  intro listed a w hh hl h;refine ja _ a w (fun i hi=>?_) h;have:¬i∈left ops listed:=by rw[hl];simp
  rw[zZ] at this;rw[←hn listed i hh hi];cases hx:listed.getD i true
  ·grind
  rfl
 have hZ:∀(listed:Array Bool) i,i∈Region.ready .any ops listed↔i<ops.size∧listed.getD i true=false∧∀e∈(jA ops i).after.toList,Region.binds .any e=true→listed.getD e.on false=true:=by
  intro listed i;simp only[Region.ready,fN,aO,aF,lA];constructor
  ·exact mAc
  rintro⟨h1,h2,h3⟩;refine⟨h1,h2,?_⟩;rw[aP h1];simp only[eC,iH];rw[cZ];intro e he;cases hb:Region.binds .any e
  ·rfl
  exact mBy
 intro fuel;induction fuel with
 |zero=>
  intro listed a w hh hQ h;have hl:left ops listed=[]:=aZ O1;refine⟨?_,done _ _ _ hh hl h⟩;rw[gU];intro i hi;have:=(hZ _ i).1 hi;have hm:=zZ.2 ⟨this.1,this.2.1⟩;grind
 |succ fuel ih=>
  intro listed a w hh hQ h;refine⟨fun xp=>?_,fun i hi=>?_⟩
  ·cases hl:left ops listed with
   |nil=>grind
   |cons i0 rest=>
    exfalso;have hm:i0∈left ops listed:=by rw[hl];simp
    obtain⟨h1,h2⟩:=zZ.1 hm;have:i0∈Region.ready .any ops listed:=by
     refine(hZ listed i0).2 ⟨h1,h2,fun e he hb=>?_⟩;have hg:=hy i0 h1 e he hb;have hs:=yN ops listed;rw[hl] at hs;by_cases hx:listed.getD e.on true=false
     ·have xe:_∈left ops _:=zZ.2 ⟨O1,hx⟩;rw[hl] at xe;rcases bE.1 xe with e1|e1
      ·omega
      exact mDz
     rw[←hn listed e.on hh O1];simpa using hx
    grind
  obtain⟨h1,h2,h3⟩:=(hZ _ i).1 hi;have hm:=zZ.2 ⟨h1,h2⟩;have hD:listed.getD i false=false:=by rw[←hn listed i hh h1];exact h2
  have hA:qPg ops i (fun i=>listed.getD i false)=true:=by
   unfold qPg;rw[cU];intro e he;cases hb:Region.binds .any e
   ·rfl
   simpa using h3 e he hb
  have xg:(left ops (listed.setIfInBounds i true)).length≤fuel:=by
   rw[uV h1 hh];have:=qCg (qDz (yN ops listed)) hm;omega
  have hT:(fun j=>(fun i=>listed.getD i false) j||Nat.beq j i)=(fun j=>(listed.setIfInBounds i true).getD j false):=by
   funext j;by_cases hj:j=i
   ·subst hj;simp[hh,h1]
   have:Nat.beq j i=false:=jJ hj;simp only[this,dI,aJ,fY];rw[if_neg (fun e=>hj e.symm)]
  have xy:=hq i _ a w h1 hD hA h;rw[hT] at xy;have xi:ops[i]? =some (jA ops i):=by simp[jA,aP h1]
  have xc:=fun a' w' h=>ih _ a' w' (by grind) xg h
  unfold wpOp;simp[xi];cases hw:Region.wanted _ _
  ·exact xc _ _ (xy.2 hw)
  exact .inl ((xy.1 hw).wp fun v w' h=>xc _ _ h)
end
section
variable {P:Program}{n:FrK}{Q:Exit→Fr→World→Prop}{F:Fr}{w:World}{ops:Array Oper}
def jBt(P:Program)(n:FrK)(ops:Array Oper)(o:Oper)(F:Fr)(w:World)(K:Fr→World→Prop):Prop:=EffStep P ops o (act n F) w (fun a' w'=>∃F',a'=act n F'∧K F' w')
theorem qFs{id:Nat}{l:List Oper}(hm:P.follows .mixedOrders=true)(ht:qZ9 l.toArray=true)(I:(Nat→Bool)→Fr→World→Prop)(h0:I (fun _=>false) F w.drew)
  (hq:∀(i:Nat) (D:Nat→Bool) (F:Fr) (w:World),i<l.length→D i=false→qPg l.toArray i D=true→I D F w→jBt P n l.toArray (jA l.toArray i) F w (fun F' w'=>I (fun j=>D j||Nat.beq j i) F' w'))
  (ja:∀(D:Nat→Bool) (F:Fr) (w:World),(∀i,i<l.length→D i=true)→I D F w→Q .normal F w) (hr:n.ro=none:=by rfl):WP P n (.region id l.toArray true) Q F w:=by
 unfold WP;rw[FrK.k8 hr];refine pH.2 (sA6 hm (qX0 ht (fun D a w=>∃F',a=act n F'∧I D F' w) ?_ ?_ _ _ _ _ O4 ?_ ⟨F,O,?_⟩))
 ·rintro i D a w hi hD hA ⟨F',rfl,hI⟩;exact hq i D F' w O1 hD hA hI
 ·rintro D a w hD ⟨F',rfl,hI⟩;exact⟨F',O,ja D F' w (fun i hi=>hD i O1) hI⟩
 ·unfold left;grind
 have:(fun i=>(Array.replicate l.toArray.size false).getD i false)=(fun _=>false):=by
  funext i;simp only[aJ];rw[Array.getElem?_replicate];split<;>rfl
 rw[this];exact h0
variable {d:Nat}{op:Op}{ty:TypeId}{pos:String}{aft:Array Edge}{K:Fr→World→Prop}
theorem jH8(hs:StepF P n ⟨some d,op,ty,pos,aft,none⟩ F w R)(h:∀v w',R v w'→K (F.put d v) w'):jBt P n ops ⟨some d,op,ty,pos,aft,none⟩ F w K:=
 ⟨fun _=>Step.mono hs fun v w' hr=>⟨_,by rw[zN];rfl,h v w' hr⟩,fun hw=>by simp[Region.wanted] at hw⟩
theorem zI{r v:Value}(hp:PV P n w F ⟨some d,op,ty,pos,aft,none⟩ r)(hv:r=v)(h:K (F.put d v) w):jBt P n ops ⟨some d,op,ty,pos,aft,none⟩ F w K:=by
 refine jH8 (R:=fun u w'=>u=r∧w'=w) (.inl ⟨r,w,?_,O,O⟩) ?_
 ·rw[zF];exact hp
 grind
end
theorem qMm:∀{S:List Nat} {i:Nat},i∈S→inS S i=true
 |[],_,h=>by cases h
 |d::S,i,h=>by
  simp only[inS];rcases bE.1 h with rfl|h
  ·simp
  rw[qMm h];simp
structure Dn(b m:Nat)(V:Nat→Value)(F0:Fr)(D:Nat→Bool)(F:Fr):Prop where
 at_:∀j,j<m→D j=true→F (b+j)=V j
 out:∀s,s<b∨b+m≤s→F s=F0 s
theorem Dn.start:Dn b m V F0 (fun _=>false) F0:=⟨O4,fun _ _=>O⟩
theorem Dn.put{b m i:Nat}{V:Nat→Value}{F0 F:Fr}{D:Nat→Bool}(h:Dn b m V F0 D F)(hi:i<m):Dn b m V F0 (fun j=>D j||Nat.beq j i) (F.put (b+i) (V i)):=by
 refine⟨fun j hj hD=>?_,fun s hs=>?_⟩
 ·by_cases xd:j=i
  ·subst xd;simp[Fr.put]
  have h1:=jJ xd;rw[h1,dI] at hD;have h2:Nat.beq (b+j) (b+i)=_:=jJ O1;simp[Fr.put,h2,nZ];exact h.at_ j hj hD
 exact mBp
theorem Dn.same(h:Dn b m V F0 D F):Same (range' b m) F F0:=by
 intro s hs;refine h.out s ?_;rcases iL s b with h1|h1
 ·omega
 rcases iL s (b+m) with h2|h2
 ·rw[qMm (List.mem_range'_1.2 ⟨h1,h2⟩)] at hs;cases hs
 omega
theorem Dn.congr{D':Nat→Bool}(h:Dn b m V F0 D F)(hd:∀j,j<m→D' j=D j):Dn b m V F0 D' F:=⟨fun j hj h2=>h.at_ j hj (by grind),h.out⟩
theorem qU9{P:Program}{w:World}{ops:Array Oper}{op:Op}{ty:TypeId}{pos:String}{aft:Array Edge}{K:Fr→World→Prop}(hs:StepF P n ⟨none,op,ty,pos,aft,none⟩ F w R)(h:∀v w',R v w'→K F w'):jBt P n ops ⟨none,op,ty,pos,aft,none⟩ F w K:=
 ⟨fun _=>Step.mono hs fun v w' hr=>⟨F,by rfl,h v w' hr⟩,fun hw=>by simp[Region.wanted] at hw⟩
theorem Dn.slot(h:Dn b m V F0 D F)(j:Nat)(hD:D j=true)(hj:Nat.blt j m=true)(hn:Nat.blt (b+j) n.sz=true):ev n F (.tmp (b+j))=V j:=by
 simp[ev,hn,sBv];exact h.at_ j (qCd hj) hD
theorem Dn.old(h:Dn b m V F0 D F)(s:Nat)(hs:(Nat.blt s b||Nat.ble (b+m) s)=true)(hn:Nat.blt s n.sz=true):ev n F (.tmp s)=F0 s:=by
 simp[ev,hn,sBv];refine h.out s ?_;rcases fQ _ _▸hs with h1|h1
 ·exact .inl (qCd h1)
 exact .inr (eK h1)
end
variable{D:Nat→Bool}{b a c i:Nat}{pa:Nat→List Nat}
def qQm(ca:Array Value)(o:Nat):List Value→Array Value
 |[]=>ca
 |v::vs=>qQm (ca.setIfInBounds o v) (o+1) vs
theorem qG4:∀(vs:List Value) (ca:Array Value) (o:Nat),(qQm ca o vs).size=ca.size
 |[],_,_=>rfl
 |v::vs,ca,o=>by
  show(qQm _ _ vs).size=_
  rw[qG4,Array.size_setIfInBounds]
theorem qJ2:∀(vs old A R:List Value) (ca:Array Value),ca.toList=A++(old++R)→old.length=vs.length→(qQm ca A.length vs).toList=A++(vs++R)
 |[],[],A,R,ca,h,_=>h
 |[],u::old,_,_,_,_,hl=>by cases hl
 |v::vs,[],_,_,_,_,hl=>by cases hl
 |v::vs,u::old,A,R,ca,h,hl=>by
  have h1:(ca.setIfInBounds A.length v).toList=(A++[v])++(old++R):=by
   rw[mI,h];simp
  have h2:=qJ2 vs _ _ R _ h1 (by grind);show(qQm _ _ vs).toList=_
  grind
theorem qCo{P:Program}{b:Nat}{t:TypeId}:∀(vs:List Value) (w:World) (ca:Array Value) (o i:Nat),w.heap[b]? =some (.cells ca t (0,0))→o+i+vs.length≤ca.size→vs.all kM=true→
  ∃w',(storeCells ⟨b,o,none⟩ vs i).run P w= .ok () w'∧Keeps [b] w w'∧w'.heap[b]? =some (.cells (qQm ca (o+i) vs) t (0,0))
 |[],w,ca,o,i,hb,_,_=>⟨w,by simp[storeCells],.refl,hb⟩
 |v::vs,w,ca,o,i,hb,hl,h1=>by
  simp only[pB,aF] at h1;simp[bT] at hl;obtain⟨w1,r1,k1,b1⟩:=qE2 (P:=P) (o:=o+i) hb O1 h1.1;obtain⟨w2,r2,k2,b2⟩:=qCo (P:=P) vs w1 _ o (i+1) b1 (by grind) h1.2;exact mDd
section
variable {P:Program}{n:FrK}{w0 w:World}{M:List Nat}{L:List Ent}{F:Fr}{d:Option Tmp}{ty:TypeId}{pos:String}{aft:Array Edge}{g:Option (Nat×Bool)}{x y:Operand}
theorem vL{α:Type}(enc:α→List Value)(l:List α)(i:Nat)(xv:α){t e gb k:Nat}{v:Value}(hp:Hp w0 M w L)(j:Nat)(hj:L[j]? =some (qG enc e k (Ad gb) c l))(sa:SVL (Ad gb) c l)(hi:i<l.length)
  (hx:ev n F x= .pointer (some ⟨gb,0+i*k,none⟩)) (hy:ev n F y=v) (hk:∀x,(enc x).length=k) (hv:v.cells.toList=enc xv) (h1:(enc xv).all kM=true) (hz:TSize P t k):
  StepF P n ⟨d,.store t x y,ty,pos,aft,g⟩ F w (fun u w'=>u=undef∧Hp w0 M w' (L.set j (qG enc e k (Ad gb) c (l.set i xv)))):=by
 obtain⟨o,ho,ca,rfl,hg,eV⟩:=hp.has j _ hj gb O;have hg:_=c*k:=hg;have el:=sa.cap;have h7:l=l.take i++l[i]::l.drop (i+1):=by rw[lZ,eO]
 have hA:((l.take i).flatMap enc).length=i*k:=by
  rw[zR enc k hk,bV,eM O1]
 have qc:l.flatMap enc=(l.take i).flatMap enc++(enc l[i]++(l.drop (i+1)).flatMap enc):=by
  conv=>lhs;rw[h7]
  rw[iS,mV]
 have hT:(l.set i xv).flatMap enc=(l.take i).flatMap enc++(enc xv++(l.drop (i+1)).flatMap enc):=by
  rw[pQ,if_pos hi,iS,mV]
 have hh:ca.toList=(l.take i).flatMap enc++(enc l[i]++((l.drop (i+1)).flatMap enc++ca.toList.drop (l.length*k))):=by
  have h2:=(eO (l.length*k) ca.toList).symm;have hl:ca.toList.take (l.length*k)=l.flatMap enc:=eV;rw[hl,qc] at h2;refine h2.trans ?_;rw[bQ,bQ]
 have yw:=by
  exact mEs
 obtain⟨w',hr,nv,jn⟩:=qCo (P:=P) _ w _ (0+i*k) 0 ho (by grind) h1;simp[fH] at hr;refine wE ?_ ⟨O,hp.o8 hj nv ?_⟩
 ·have nz:v.cells.size=k:=by rw[←xB,hv,hk]
  have uu:=hz.run (w:=w);simp only[execOp,Instr.storeAt,hx,hy,Instr.sureAddr,storeVar,bJ,dV,aK,uu,nz,hv];simp[hr]
 intro b1 jm;have jm:b1=gb:=by
  exact mC3
 subst jm;refine⟨.inl O,_,jn,_,O,?_,?_⟩
 ·rw[qG4,hg];rfl
 have h3:=qJ2 (enc xv) _ _ _ _ hh (by grind);have h4:=by
  have:=zR enc k hk (l.set i xv);rw[hT,fZ,←bQ] at this;exact this
 grind
end
theorem Dn.aD3{m:Nat}{V V':Nat→Value}{F0 F:Fr}(h:Dn b m V F0 D F)(hi:i<m)(hV:∀j,j<m→j≠i→V' j=V j):Dn b m V' F0 (fun j=>D j||Nat.beq j i) (F.put (b+i) (V' i)):=by
 refine⟨fun j hj hD=>?_,fun s hs=>?_⟩
 ·by_cases xd:j=i
  ·subst xd;simp[Fr.put]
  exact mC8
 exact mBp
def ClP(pa:Nat→List Nat)(D:Nat→Bool):Prop:=∀a b,D a=true→b∈pa a→D b=true
theorem ClP.add{q:Nat}(h:ClP pa D)(hq:∀p∈pa q,D p=true):ClP pa (fun j=>D j||Nat.beq j q):=by
 intro a b ha hb;rcases fQ _ _▸ha with h1|h1
 ·show(D b||_)=true
  rw[h a b h1 hb];rfl
 have:=bF h1;grind
theorem ClP.not(h:ClP pa D)(hb:D b=false)(hm:b∈pa a):D a=false:=by
 cases ha:D a
 ·rfl
 rw[h a b ha hm] at hb;cases hb
theorem uL{ops:Array Oper}(h:qPg ops i D=true)(k:Nat)(hk:((jA ops i).after.toList.any fun e=>Region.binds .any e&&Nat.beq e.on k)=true):D k=true:=by
 exact mCl
theorem al0:∀p∈([]:List Nat),D p=true:=O4
theorem al1(ha:D a=true):∀p∈[a],D p=true:=fun p h=>by
 rcases bE.1 h with rfl|h
 ·exact ha
 cases h
theorem al2(ha:D a=true)(hb:D b=true):∀p∈[a,b],D p=true:=fun p h=>by
 rcases bE.1 h with rfl|h
 ·exact ha
 exact al1 hb p h
theorem al3(ha:D a=true)(hb:D b=true)(hc:D c=true):∀p∈[a,b,c],D p=true:=fun p h=>by
 rcases bE.1 h with rfl|h
 ·exact ha
 exact al2 hb hc p h
end Go.Eng
namespace Go.Proofs.YtplkndjlfkkjlaaGreatDoor
open List (range range' replicate)
open Tryz
section
open Go.Eng Go.Dig Go.Sha Go.Lag Go.Grp Go.Sp
variable{D:Nat→Bool}{i:Nat}{l:List (Nat×Nat)}{w:World}{b a:Nat}{F:Fr}{w0:World}{M:List Nat}{x c:Ent}{B:List Ent}
theorem qGm{P:Program}{n:FrK}{c:Code}{Q:Exit→Fr→World→Prop}(h:∀F0,F0=F→WP P n c Q F0 w):WP P n c Q F w:=h F O
theorem Dn.aD3{m:Nat}{V V':Nat→Value}{F0:Fr}(h:Dn b m V F0 D F)(hi:i<m)(hV:∀j,j<m→j≠i→V' j=V j):Dn b m V' F0 (fun j=>D j||Nat.beq j i) (F.put (b+i) (V' i)):=by
 refine⟨fun j hj hD=>?_,fun s hs=>?_⟩
 ·by_cases xd:j=i
  ·subst xd;simp[Fr.put]
  exact mC8
 exact mBp
theorem uL{ops:Array Oper}(h:qPg ops i D=true)(k:Nat)(hk:((jA ops i).after.toList.any fun e=>Region.binds .any e&&Nat.beq e.on k)=true):D k=true:=by
 exact mCl
theorem al0:∀p∈([]:List Nat),D p=true:=O4
theorem al1(ha:D a=true):∀p∈[a],D p=true:=fun p h=>by
 rcases bE.1 h with rfl|h
 ·exact ha
 cases h
theorem al2(ha:D a=true)(hb:D b=true):∀p∈[a,b],D p=true:=fun p h=>by
 rcases bE.1 h with rfl|h
 ·exact ha
 exact al1 hb p h
theorem al3{c:Nat}(ha:D a=true)(hb:D b=true)(hc:D c=true):∀p∈[a,b,c],D p=true:=fun p h=>by
 rcases bE.1 h with rfl|h
 ·exact ha
 exact al2 hb hc p h
theorem Hp.in2{a b:Ent}(h:Hp w0 M w (x::a::b::c::B)):Hp w0 M w (a::b::x::B):=
 (h.perm (((iM a x _).trans ((iM b x _).cons a)).trans (((iM c x B).cons b).cons a))).sub (((List.Sublist.cons c (nV _)).cons_cons b).cons_cons a)
theorem Hp.in3{a b d:Ent}(h:Hp w0 M w (x::a::b::c::d::B)):Hp w0 M w (a::b::c::x::B):=
 (h.perm (((iM a x _).trans ((iM b x _).cons a)).trans ((((iM c x _).cons b).cons a).trans ((((iM d x B).cons c).cons b).cons a)))).sub ((((List.Sublist.cons d (nV _)).cons_cons c).cons_cons b).cons_cons a)
def tvP:Nat→List Nat
 |2=>[1]
 |3=>[2]
 |4=>[0,3]
 |7=>[6]
 |8=>[7]
 |9=>[5,8,4]
 |10=>range 10
 |11=>range 11
 |_=>[]
def tvC(D:Nat→Bool):Prop:=∀a b,D a=true→b∈tvP a→D b=true
theorem tvC.add{q:Nat}(h:tvC D)(hq:∀p∈tvP q,D p=true):tvC (fun j=>D j||Nat.beq j q):=by
 intro a b ha hb;rcases fQ _ _▸ha with h1|h1
 ·show(D b||_)=true
  rw[h a b h1 hb];rfl
 have:=bF h1;grind
def tvV(s1:Option Addr)(n1 c1:Nat)(s2:Option Addr)(n2 c2:Nat)(pb x y nb:Nat)(t1:Option Addr)(d1 nb2:Nat)(t2:Option Addr)(d2:Nat):Nat→Value:=
 qE [.slice s1 n1 c1,.pointer (Ad pb),Iv (x:Int),.slice (Ad nb) 1 1,.slice t1 (n1+1) d1,.slice s2 n2 c2,.pointer (some ⟨pb,1,none⟩),Iv (y:Int),.slice (Ad nb2) 1 1,.slice t2 (n2+1) d2]
def tvL(B:List Ent)(X Y:List Nat)(x y:Nat)(s1:Option Addr)(c1:Nat)(s2:Option Addr)(c2 nb:Nat)(t1:Option Addr)(d1 nb2:Nat)(t2:Option Addr)(d2:Nat)(b3 b4 b8 b9:Bool):List Ent:=
 (bif b4 then qG eN 3 1 t1 d1 (X++[x]) else qG eN 3 1 s1 c1 X)::(bif b9 then qG eN 3 1 t2 d2 (Y++[y]) else qG eN 3 1 s2 c2 Y)::(bif b3 then blk nb 1 (qE [Iv (x:Int)]) 3 else qG eN 3 1 none 0 [])::(bif b8 then blk nb2 1 (qE [Iv (y:Int)]) 3 else qG eN 3 1 none 0 [])::B
def tvI(w3:World)(F0:Fr)(B:List Ent)(X Y:List Nat)(pb x y:Nat)(s1:Option Addr)(c1:Nat)(s2:Option Addr)(c2:Nat)(D:Nat→Bool)(F:Fr)(w':World):Prop:=
 ∃(nb:Nat) (t1:Option Addr) (d1:Nat) (nb2:Nat) (t2:Option Addr) (d2:Nat) (G:Fr),Dn 41 10 (tvV s1 X.length c1 s2 Y.length c2 pb x y nb t1 d1 nb2 t2 d2) F0 D G∧
  F=(bif D 11 then(G.put 6 (.slice t1 (X.length+1) d1)).put 7 (.slice t2 (Y.length+1) d2) else bif D 10 then G.put 6 (.slice t1 (X.length+1) d1) else G)∧tvC D∧(D 4=true→SVL t1 d1 (X++[x]))∧(D 9=true→SVL t2 d2 (Y++[y]))∧
  Hp w3 [] w' (tvL B X Y x y s1 c1 s2 c2 nb t1 d1 nb2 t2 d2 (D 3) (D 4) (D 8) (D 9))
section
variable {w3:World}{F0:Fr}{B:List Ent}{X Y:List Nat}{pb x y:Nat}{s1:Option Addr}{c1:Nat}{s2:Option Addr}{c2:Nat}{D:Nat→Bool}{F:Fr}{w':World}{q nb:Nat}{t1:Option Addr}{d1 nb2:Nat}{t2:Option Addr}{d2:Nat}
theorem tvI.mk(na:Nat)(te:Option Addr)(db:Nat)(nf:Nat)(tc:Option Addr)(da:Nat)(hq:q<10)(hg:Dn 41 10 (tvV s1 X.length c1 s2 Y.length c2 pb x y nb t1 d1 nb2 t2 d2) F0 D F)
  (hV:∀j,j<10→j≠q→tvV s1 X.length c1 s2 Y.length c2 pb x y na te db nf tc da j=tvV s1 X.length c1 s2 Y.length c2 pb x y nb t1 d1 nb2 t2 d2 j) (hP:tvC D) (us:∀p∈tvP q,D p=true) (ze:D 10=false) (zd:D 11=false) (b3 b4 b8 b9:Bool)
  (e3:(D 3||Nat.beq 3 q)=b3) (e4:(D 4||Nat.beq 4 q)=b4) (e8:(D 8||Nat.beq 8 q)=b8) (e9:(D 9||Nat.beq 9 q)=b9) (h4:b4=true→SVL te db (X++[x])) (h9:b9=true→SVL tc da (Y++[y]))
  (hp:Hp w3 [] w' (tvL B X Y x y s1 c1 s2 c2 na te db nf tc da b3 b4 b8 b9)):
  tvI w3 F0 B X Y pb x y s1 c1 s2 c2 (fun j=>D j||Nat.beq j q) (F.put (41+q) (tvV s1 X.length c1 s2 Y.length c2 pb x y na te db nf tc da q)) w':=by
 have f1:Nat.beq 10 q=_:=jJ O1;have f2:Nat.beq 11 q=_:=jJ O1;subst e3 e4 e8 e9;refine⟨_,_,_,_,_,_,_,Dn.aD3 hg hq hV,?_,hP.add us,h4,h9,hp⟩;grind
theorem tvI.pure(hq:q<10)(n3:q≠3)(n4:q≠4)(n8:q≠8)(n9:q≠9)(hg:Dn 41 10 (tvV s1 X.length c1 s2 Y.length c2 pb x y nb t1 d1 nb2 t2 d2) F0 D F)(hP:tvC D)(ze:D 10=false)(zd:D 11=false)
  (h4:D 4=true→SVL t1 d1 (X++[x])) (h9:D 9=true→SVL t2 d2 (Y++[y])) (hp:Hp w3 [] w' (tvL B X Y x y s1 c1 s2 c2 nb t1 d1 nb2 t2 d2 (D 3) (D 4) (D 8) (D 9))) (us:∀p∈tvP q,D p=true):
  tvI w3 F0 B X Y pb x y s1 c1 s2 c2 (fun j=>D j||Nat.beq j q) (F.put (41+q) (tvV s1 X.length c1 s2 Y.length c2 pb x y nb t1 d1 nb2 t2 d2 q)) w':=by
 have g:∀a,q≠a→(D a||Nat.beq a q)=D a:=fun a h=>by rw[jJ O1,dI]
 exact tvI.mk nb t1 d1 _ t2 d2 hq hg (fun _ _ _=>O) hP us ze zd _ _ _ _ (g 3 n3) (g 4 n4) (g 8 n8) (g 9 n9) h4 h9 hp
theorem tvI.fin{G:Fr}(hq:10≤q)(hg:Dn 41 10 (tvV s1 X.length c1 s2 Y.length c2 pb x y nb t1 d1 nb2 t2 d2) F0 D G)(hP:tvC D)(us:∀p∈tvP q,D p=true)
  (h4:D 4=true→SVL t1 d1 (X++[x])) (h9:D 9=true→SVL t2 d2 (Y++[y])) (hp:Hp w3 [] w' (tvL B X Y x y s1 c1 s2 c2 nb t1 d1 nb2 t2 d2 (D 3) (D 4) (D 8) (D 9)))
  (hF:F=bif (D 11||Nat.beq 11 q) then(G.put 6 (.slice t1 (X.length+1) d1)).put 7 (.slice t2 (Y.length+1) d2) else bif (D 10||Nat.beq 10 q) then G.put 6 (.slice t1 (X.length+1) d1) else G):
  tvI w3 F0 B X Y pb x y s1 c1 s2 c2 (fun j=>D j||Nat.beq j q) F w':=by
 have g:∀a,a<10→(D a||Nat.beq a q)=D a:=fun a h=>by rw[jJ O1,dI]
 refine⟨nb,t1,d1,_,t2,d2,G,hg.congr O1,hF,hP.add us,fun h=>h4 (by grind),fun h=>h9 (by grind),?_⟩;grind
theorem qPv{k:Nat}{na:Nat}{te:Option Addr}{db nf:Nat}{tc:Option Addr}{da:Nat}(h3:k≠3→na=nb)(h4:k≠4→te=t1∧db=d1)(h8:k≠8→nf=nb2)(h9:k≠9→tc=t2∧da=d2):
  ∀j,j<10→j≠k→tvV s1 X.length c1 s2 Y.length c2 pb x y na te db nf tc da j=tvV s1 X.length c1 s2 Y.length c2 pb x y nb t1 d1 nb2 t2 d2 j:=by
 intro j hj xr
 match j,hj,xr with
 |0,_,_=>rfl
 |1,_,_=>rfl
 |2,_,_=>rfl
 |3,_,h=>rw[h3 O1];rfl
 |4,_,h=>obtain⟨e1,e2⟩:=h4 (fun e=>h e.symm);rw[e1,e2];rfl
 |5,_,_=>rfl
 |6,_,_=>rfl
 |7,_,_=>rfl
 |8,_,h=>rw[h8 O1];rfl
 |9,_,h=>obtain⟨e1,e2⟩:=h9 (fun e=>h e.symm);rw[e1,e2];rfl
 |j+10,h,_=>omega
end
def eP2(p:Nat×Nat):List Value:=[Iv (p.1:Int),Iv (p.2:Int)]
def xsI(l:List (Nat×Nat))(i:Nat):List Nat:=(l.take i).map (·.1)
def ysI(l:List (Nat×Nat))(i:Nat):List Nat:=(l.take i).map (·.2)
theorem jBw(h:i<l.length):xsI l (i+1)=xsI l i++[(l[i]).1]:=by
 unfold xsI;rw[aG h,dR];rfl
theorem jBv(h:i<l.length):ysI l (i+1)=ysI l i++[(l[i]).2]:=by
 unfold ysI;rw[aG h,dR];rfl
theorem qPl(h:i≤l.length):(xsI l i).length=i:=by
 unfold xsI;grind
theorem qPk(h:i≤l.length):(ysI l i).length=i:=by
 unfold ysI;grind
def inP(l:List (Nat×Nat))(i:Nat):Int→Bool:=inL (l.map (·.1)) i
attribute [local irreducible] PV StepF wpl wpd WP Ret
attribute [local irreducible] Fit ofN uY hv scP atP Mb inL fac uB inP
set_option maxHeartbeats 4000000 in
theorem p73(nd:Nat)(l:List (Nat×Nat))(s:Option Addr)(c:Nat)(w:World)(hs:SlAt w 2 eP2 s l)(hP:Pts (l.map (·.1)))(hm:∀p∈l,Mb p.2)(h1:1≤nd)(h2:nd≤l.length)(hl:l.length≤1000000):
  Rt 150 [Iv (nd:Int),.slice s l.length c,.func (.func 147) #[] #[]] w (fun v w'=>(∃t1 d1 t2 d2,v= .tuple #[.slice t1 nd d1,.slice t2 nd d2,.bool true]∧SlAt w' 1 eN t1 (xsI l nd)∧SlAt w' 1 eN t2 (ysI l nd))∧Keeps [] w w'):=by
 have h8:(l.map (·.1)).length=_:=aM _;have hz:uE (inP l 0)=fun _=>none:=by unfold inP;exact qTw _
 refine tW func150 ntmps150 fun hp=>?_;refine qA ?_;refine qH O O1 (fun _=>qA (tF (yS kInt hp) fun w1 mb hp=>?_));rw[←hz] at hp;have hp:=(hp.k4 eN 3 1).k4 eN 3 1;have hp:Hp w [] w1 [qG eN 3 1 _ 0 (xsI l 0),qG eN 3 1 _ 0 (ysI l 0),_]:=hp;refine qA (qQ ([6,7,8,11]++range' 17 41) (fun(X:Nat×(Option _×Nat)×(Option _×Nat)) F=>((F.put 17 (.int _ (X.1))).put 6 (.slice X.2.1.1 (xsI l X.1).length X.2.1.2)).put 7 (.slice X.2.2.1 (ysI l X.1).length X.2.2.2))
  (fun X w'=>X.1<nd∧SVL X.2.1.1 X.2.1.2 (xsI l X.1)∧SVL X.2.2.1 X.2.2.2 (ysI l X.1)∧Hp w [] w' [qG eN 3 1 X.2.1.1 X.2.1.2 (xsI l X.1),qG eN 3 1 X.2.2.1 X.2.2.2 (ysI l X.1),yA _ mb (uE (inP l X.1))]) (fun X=>nd-X.1) (0,(none,0),(none,0))
  (qB (qB (qB (Same.eq .refl) O) O) O) ⟨O1,SVL.nil,SVL.nil,hp⟩ ?_)
 clear hp;rintro u0 ⟨i,⟨s1,c1⟩,⟨s2,c2⟩⟩ w2 ⟨hi,s7,s8,hp⟩;dsimp only at hi s7 s8 hp⊢;refine qA ?_;refine qH O (fun h=>?_) O1;have hg:i<l.length:=O1;have hH:i<(l.map (·.1)).length:=O1;obtain⟨b0,o0,hs0,yq⟩:=hs.base O1;have yp:=yq i _ (aA hg);have h3:=jDr hP hH;have ya:=qYr hP.nd hH;have h5:=qTx hH;have ul:=hm _ (bX hg);have hE:=jBw hg;have hK:=jBv hg;have ht:=qPl (l:=l) (i:=i) O1;have fv:=qPk (l:=l) (i:=i) O1;rw[mF] at h3 ya h5;have ya:inP l i (l[i].1:Nat)=false:=by unfold inP;exact ya
 have h5:(fun a=>decide (a=((l[i].1):Int))||inP l i a)=inP l (i+1):=by unfold inP;exact h5
 generalize l[i]=p at yp h3 ul hE hK ya h5;obtain⟨x,y⟩:=p;dsimp only at h3 ul hE hK ya h5;refine qA (tR (qL O O O O (fun j v hv=>hp.j7 (yp j v hv))) ?_);refine tQ fun w3 pb hp=>?_;refine tS fun w4 hp=>?_;have hp:=hp.norm 0 [.int _ x,.int _ y] O O;refine gA4 ?_;refine jM (wlp (qAq hp 3 O O O (xG O).1 (xG (t:=162) O).2.1 (xG (t:=162) O).2.2) ((qBv _ _).trans (aQ _ ya)) ?_);refine gAe ?_;refine qAd ?_;refine tC (p89 x _ h3.1 h3.2) fun w5 hp=>?_;refine qAd (tR (yT O O) ?_);refine gAe ?_;refine qAd ?_;refine qAd ?_;refine tC (p69 y _ ul) fun w6 hp=>?_;refine qAd (tR (yT O O) ?_);refine qR ?_;refine tJ (tO (qAk hp 3 O O O O (xG O).1 (xG (t:=162) O).2.1) fun w7 hp=>?_);rw[h5] at hp;refine qA (qGm ?_);intro F0 hy;have f6:F0 6= .slice s1 (xsI l i).length c1:=by rw[hy];rfl
 have f7:F0 7= .slice s2 (ysI l i).length c2:=by rw[hy];rfl
 have f11:F0 11= .pointer (Ad pb):=by rw[hy];rfl
 generalize xsI l i=X at*
 generalize ysI l i=Y at*
 obtain⟨B,hB⟩:∃B:List _,B=[blk pb 2 (qE [Iv x,Iv y]) 85,yA kInt mb (uE (inP l (i+1)))]:=⟨_,O⟩;have hp:Hp w [] w7 (tvL B X Y x y s1 c1 s2 c2 0 none 0 0 none 0 false false false false):=by
  rw[hB];exact((hp.k4 eN 3 1).k4 eN 3 1).k5 [3,4,0,1,2,5] _ O O
 have hQ:∀a b c d,(a::b::c::d::B)[4]? =some (blk pb 2 (qE [Iv x,Iv y]) 85):=by intro a b c d;rw[hB];rfl
 refine qFs jG O3 (tvI w F0 B X Y pb x y s1 c1 s2 c2) ⟨0,_,0,0,_,0,F0,Dn.start,O,by intro a b h;grind,O4,O4,hp.N⟩ ?_ ?_
 ·rintro q D F hx hq h7 hA ⟨nb,t1,d1,nb2,t2,d2,G,hn,h6,hh,h4,h9,hp⟩;have hq:q<12:=hq;have tg:∀a,D q=false→q∈_→D a=_:=fun a hb hm=>by
   cases ha:D a
   ·rfl
   rw[hh a q ha hm] at hb;cases hb
  by_cases hM:q<10
  ·have ze:=tg 10 h7 (aO.2 hM);have zd:=tg 11 h7 (aO.2 O1);have hF:F=G:=by rw[h6,zd,ze];rfl
   clear h6 tg;subst hF;have nxt:=fun q (hq:q<10) n3 n4 n8 n9 us=>tvI.pure hq n3 n4 n8 n9 hn hh ze zd h4 h9 hp us
   match q,hM with
   |0,_=>exact zI qP ((hn.old 6 O O).trans f6) (nxt 0 O2 O2 O2 O2 O2 al0)
   |1,_=>exact zI (xF O ((hn.old 11 O O).trans f11)) O (nxt 1 O2 O2 O2 O2 O2 al0)
   |2,_=>
    have a1:=uL hA 1 O;exact zI (qS O (hn.slot 1 a1 O O) (hp.cell 4 (hQ _ _ _ _) O)) O (nxt 2 O2 O2 O2 O2 O2 (al1 a1))
   |3,_=>
    have a2:=uL hA 2 O;refine jH8 (jC (cs:=[.int _ x]) hp O O (aQ (fun v=>[_]) (hn.slot 2 a2 O O)) O O O O) ?_;rintro _ w' ⟨na,rfl,hp'⟩;exact tvI.mk (q:=3) na t1 d1 nb2 t2 d2 O2 hn (qPv O1 (fun _=>⟨O,O⟩) (fun _=>O) (fun _=>⟨O,O⟩)) hh (al1 a2) ze zd true (D 4) (D 8) (D 9) (oQ _) (dI _) (dI _) (dI _) h4 h9 (Hp.in2 hp')
   |4,_=>
    have a0:=uL hA 0 O;have a3:=uL hA 3 O;rw[h7,a3] at hp;refine jH8 (jV eN X x hp 0 2 O O O O O O (fun _=>O) (hn.slot 0 a0 O O) (hn.slot 3 a3 O O) O s7 O O O1) ?_;rintro u w' ⟨te,db,hu,hj,hp'⟩;rw[aY] at hu;subst hu;exact tvI.mk (q:=4) nb te db nb2 t2 d2 O2 hn (qPv (fun _=>O) O1 (fun _=>O) (fun _=>⟨O,O⟩)) hh (al2 a0 a3) ze zd true true (D 8) (D 9) (by grind) (oQ _) (dI _) (dI _) (fun _=>hj) h9 hp'
   |5,_=>exact zI qP ((hn.old 7 O O).trans f7) (nxt 5 O2 O2 O2 O2 O2 al0)
   |6,_=>exact zI (xF O ((hn.old 11 O O).trans f11)) O (nxt 6 O2 O2 O2 O2 O2 al0)
   |7,_=>
    have a6:=uL hA 6 O;exact zI (qS O (hn.slot 6 a6 O O) (hp.cell 4 (hQ _ _ _ _) O)) O (nxt 7 O2 O2 O2 O2 O2 (al1 a6))
   |8,_=>
    have a7:=uL hA 7 O;refine jH8 (jC (cs:=[.int _ y]) hp O O (aQ (fun v=>[_]) (hn.slot 7 a7 O O)) O O O O) ?_;rintro _ w' ⟨na,rfl,hp'⟩;exact tvI.mk (q:=8) nb t1 d1 na t2 d2 O2 hn (qPv (fun _=>O) (fun _=>⟨O,O⟩) O1 (fun _=>⟨O,O⟩)) hh (al1 a7) ze zd (D 3) (D 4) true (D 9) (dI _) (dI _) (oQ _) (dI _) h4 h9 (Hp.in3 hp')
   |9,_=>
    have a4:=uL hA 4 O;have a5:=uL hA 5 O;have a8:=uL hA 8 O;rw[h7,a8] at hp;refine jH8 (jV eN Y y hp 1 3 O O O O O O (fun _=>O) (hn.slot 5 a5 O O) (hn.slot 8 a8 O O) O s8 O O O1) ?_;rintro u w' ⟨tc,da,hu,hj,hp'⟩;rw[aY] at hu;subst hu;exact tvI.mk nb t1 d1 nb2 tc da O2 hn (qPv O1 (fun _=>⟨O,O⟩) O1 O1) hh (al3 a5 a8 a4) ze zd _ (D 4) true true (dI _) (dI _) (by grind) (oQ _) h4 (fun _=>hj) hp'
   |j+10,h=>omega
  rcases(show q=10∨q=11 by omega) with rfl|rfl
  ·have zd:=tg 11 h7 (aO.2 O2);have hF:F=G:=by rw[h6,zd,h7];rfl
   subst hF;have a0:=uL hA 0 O;have a1:=uL hA 1 O;have a2:=uL hA 2 O;have a3:=uL hA 3 O;have a4:=uL hA 4 O;have a9:=uL hA 9 O;have a5:=hh 9 5 a9 O2;have a8:=hh 9 8 a9 O2;have a7:=hh 8 7 a8 O2;have a6:=hh 7 6 a7 O2;have fs:∀p∈tvP 10,D p=true:=by
    intro p hp;have hp:p<10:=aO.1 hp
    match p,hp with
    |0,_=>exact a0
    |1,_=>exact a1
    |2,_=>exact a2
    |3,_=>exact a3
    |4,_=>exact a4
    |5,_=>exact a5
    |6,_=>exact a6
    |7,_=>exact a7
    |8,_=>exact a8
    |9,_=>exact a9
    |j+10,h=>omega
   refine zI qY (hn.slot 4 a4 O O) (tvI.fin O1 hn hh fs h4 h9 hp ?_);have e1:(D 11||Nat.beq 11 10)=false:=by rw[zd];rfl
   have e2:(D 10||Nat.beq 10 10)=_:=oQ _;rw[e1,e2];rfl
  have aa:=uL hA 10 O;have hF:F=G.put 6 (.slice t1 (X.length+1) d1):=by rw[h6,h7,aa];rfl
  subst hF;have a9:=hh 10 9 aa O2;have fs:∀p∈tvP 11,D p=true:=by
   intro p hp;have hp:p<11:=aO.1 hp;rcases(show p=10∨p<10 by omega) with rfl|h
   ·omega
   exact hh 10 p aa (aO.2 h)
  refine zI qY (hn.slot 9 a9 O O) (tvI.fin O2 hn hh fs h4 h9 hp ?_);have e1:(D 11||Nat.beq 11 11)=_:=oQ _;rw[e1];rfl
 rintro D F w8 hD ⟨nb,t1,d1,nb2,t2,d2,G,hn,h6,hh,h4,h9,hp⟩;have e:∀j,j<12→D j=_:=hD;rw[e 11 O2] at h6;rw[e 3 O2,e 4 O2,e 8 O2,e 9 O2] at hp;have hJ:=h4 (e 4 O2);have hL:=h9 (e 9 O2);have jr:Hp w [] w8 [qG eN 3 1 t1 d1 (X++[x]),qG eN 3 1 t2 d2 (Y++[y]),yA kInt mb (uE (inP l (i+1)))]:=by
  rw[hB] at hp;exact hp.k5 [0,1,5] _ O O
 rw[←hE] at hJ jr;rw[←hK] at hL jr;clear hp;have hS:=qPl (l:=l) (i:=i+1) O1;have hT:=qPk (l:=l) (i:=i+1) O1;have hG:=hn.same.eq;rw[sBv] at h6;rw[h6,hG];subst hy hB;have hp:=jr;have ex:X.length+1=(xsI l (i+1)).length:=O1;have ey:Y.length+1=(ysI l (i+1)).length:=O1;rw[ex,ey];refine gA4 ?_;refine jM ?_;refine jM ?_;refine qR (qH O (fun hq=>?_) (fun hq=>?_))
 ·have ln:i+1=nd:=O1;have s1:=qZ hp 0 O hJ (fun _=>O);have s2:=qZ hp 1 O hL (fun _=>O);rw[hS,hT];rw[ln] at s1 s2⊢;refine qA ?_;exact qDj O O O O ⟨_,O,⟨t1,d1,t2,d2,O,s1,s2⟩,hp.C⟩
 have ln:i+1<nd:=O1;refine gA7 ?_;exact⟨(i+1,(t1,d1),(t2,d2)),qB O5 O,⟨ln,hJ,hL,hp⟩,O1⟩
end
section
open Go.Eng Go.Dig Go.Sha Go.Lag Go.Grp Go.Sp
variable{ws:List Nat}{i:Nat}
structure KyV where
 s1:Option Addr
 c1:Nat
 cs:List Nat
 s2:Option Addr
 c2:Nat
 rs:List NRow
variable{k:KyV}
def eKy(k:KyV):List Value:=[.slice k.s1 k.cs.length k.c1,.slice k.s2 k.rs.length k.c2]
structure KyAt(w:World)(k:KyV):Prop where
 cs:SlAt w 1 eN k.s1 k.cs
 rs:RowsAt w k.s2 k.rs
theorem KyAt.j5{w w':World}{k:KyV}(h:KyAt w k)(hk:Keeps [] w w'):KyAt w' k:=⟨h.cs.j6 hk,h.rs.j5 hk⟩
structure WsOk(ws:List Nat):Prop where
 ne:1≤ws.length
 len:ws.length≤13
 pos:∀x∈ws,1≤x
 max:∀x∈ws,x≤20
 sum:ws.sum≤60
theorem jJ0:∀{ws:List Nat},1≤ws.length→(∀x∈ws,1≤x)→1≤ws.sum
 |[],h,_=>by cases h
 |w::ws,_,h=>by
  have:=h w dO;grind
theorem WsOk.sp(h:WsOk ws):1≤ws.sum:=jJ0 h.ne h.pos
structure KyOk(k:KyV)(ws:List Nat):Prop where
 rows:qLk k.rs=qNt 1 ws
 wo:WsOk ws
 nd:k.cs.length=ndN ws.sum
 mb:∀a∈k.cs,Mb a
theorem KyOk.len(h:KyOk k ws):k.rs.length=ws.length:=by
 have:=aQ List.length h.rows;unfold qLk at this;rwa[aM,qT7] at this
theorem KyOk.row(h:KyOk k ws)(hi:i<k.rs.length):(k.rs[i]).l=range' (1+(ws.take i).sum) (ws.getD i 0):=by
 have hw:i<ws.length:=by rw[←h.len];exact hi
 have h1:=qLt ws 1 i hw;rw[←h.rows] at h1;unfold qLk at h1;grind
theorem KyOk.sum{k:KyV}{ws:List Nat}(h:KyOk k ws):qIx k.rs=ws.sum:=by
 have e:(qLk k.rs).map List.length=k.rs.map fun r=>r.l.length:=by
  unfold qLk;rw[iP];rfl
 unfold qIx;rw[←e,h.rows,qT6]
theorem jK3(n:Nat):1≤ndN n:=by unfold ndN;omega
theorem jE9{n:Nat}(h:1≤n):ndN n≤n:=by unfold ndN;omega
theorem jFb{l:List Nat}(h:i<l.length):l.getD i 0∈l:=by grind
theorem qNo(ws:List Nat)(i:Nat):(ws.take (i+1)).sum=(ws.take i).sum+ws.getD i 0:=by
 by_cases h:i<ws.length
 ·rw[qNn h,qGb]
 rw[bR O1,bR O1,aC,fD O1];rfl
attribute [local irreducible] PV StepF wpl wpd WP Ret
attribute [local irreducible] Fit ofN uY hv scP atP Mb inL fac uB inP
theorem p32(nd:Nat)(l:List (Nat×Nat))(s:Option Addr)(c:Nat)(w:World)(hs:SlAt w 2 eP2 s l)(hP:Pts (l.map (·.1)))(hm:∀p∈l,Mb p.2)(h1:1≤nd)(h2:nd≤l.length)(hl:l.length≤1000000):
  Rk 89 [Iv (nd:Int),.slice s l.length c] w (.tuple #[Iv (lfu (xsI l nd) (ysI l nd):Int),.bool true]):=by
 have hx:=qPl h2;have hy:=qPk h2;have hg:Pts (xsI l nd):=by
  unfold xsI;rw[pA];exact⟨hP.nd.sublist (sA4 _ _),fun x hx=>hP.bd x (gF hx)⟩
 have uk:∀y∈ysI l nd,y≤9223372036854775807:=by
  intro y hy;unfold ysI at hy;obtain⟨p,hp,rfl⟩:=bD.1 hy;have:=qH2 (hm p (gF hp));omega
 refine tW func89 ntmps89 fun hp=>?_;refine tL (p73 nd l s c _ hs hP hm h1 h2 hl) ?_;rintro _ w1 ⟨⟨t1,d1,t2,d2,rfl,hq,h5⟩,hk⟩;have hp:=hp.call hk;refine gA3 ?_
 (apply wls;exact qC O jSs O (by
  have:=p47 _ _ t1 t2 d1 d2 w1 hq h5 hg O1 O1 uk;rw[hx,hy] at this
  exact this);rintro _ w2 ⟨rfl,hk⟩;have hp:=hp.call hk)
 refine qA ?_;exact mDl
theorem p28(k:KyV)(ws:List Nat)(w:World)(hk:KyAt w k)(ho:KyOk k ws):Rk 85 [.agg (eKy k).toArray] w (.bool true):=by
 have hQ:=ho.len;have hh:=fun{i:Nat} (h:i<_)=>ho.row h
 have h7:=ho.wo.sp;have h3:=ho.wo.sum;have xx:=ho.wo.pos;have hx:=ho.wo.len;have ln:=ho.nd;have ul:=ho.mb;have h4:=jE9 h7;clear ho;obtain⟨s1,c1,cs,s2,c2,rs⟩:=k;obtain⟨nz,hm⟩:=hk;dsimp only at hQ hh ln ul nz hm;have hE:eKy ⟨s1,c1,cs,s2,c2,rs⟩=[.slice s1 cs.length c1,.slice s2 rs.length c2]:=O;rw[hE];clear hE;refine tW func85 ntmps85 fun hp=>?_;refine qR ?_;refine tQ fun w1 kb hp=>?_;refine qA (qQ ([2,3,5,7]++range' 14 20) (fun(i:Nat) F=>(F.put 14 (.int _ i)).put 3 (.int _ (1+(ws.take i).sum:Nat)))
  (fun i w'=>i≤rs.length∧Hp w [] w' [blk kb 2 _ 76]) (fun i=>rs.length-i) 0 (qB (qB (Same.eq .refl) O) O) ⟨O1,hp⟩ ?_)
 clear hp;rintro u0 i w2 ⟨hi,hp⟩;have yw:=qEz ws i;refine tI (fun h=>?_) fun h=>?_
 ·have hl:i<rs.length:=O1;obtain⟨b0,o0,hs0,yq⟩:=hm.at_.base O1;have yp:=yq i _ (aA hl) 0 _ O;have hn:=hh hl;have bm:=hm.row _ (bX hl);have yx:=qNo ws i;have ht:=qEz ws (i+1);have jg:=xx _ (jFb (i:=i) O1);generalize rs[i]=r at yp hn bm;generalize ws.getD i 0=m at hn yx jg;obtain⟨sr,cr,lr⟩:=r;dsimp only at hn bm;have e2:lr.length=m:=by rw[hn,List.length_range']
  have yp:w.cell? _=some (.slice sr lr.length cr):=yp;refine qA ?_;refine qH O O1 (fun _=>qA (qQ ([2,3,7]++range' 23 10) (fun(j:Nat) F=>(F.put 23 (.int _ j)).put 3 (.int _ (1+(ws.take i).sum+j:Nat)))
   (fun j w'=>j≤lr.length∧Hp w [] w' _) (fun j=>lr.length-j) 0 (qB (qB (Same.eq .refl) O) O) ⟨O1,hp⟩ ?_))
  clear hp;rintro u1 j w3 ⟨hj,hp⟩;refine tI (fun h=>?_) fun h=>?_
  ·have bB:j<lr.length:=O1;obtain⟨b1,o1,hg,sY⟩:=bm.base O1;have zu:=sY j _ (aA bB) 0 _ O;have hz:lr[j]=1+(ws.take i).sum+j:=by
    have:lr[j]? =some (1+(ws.take i).sum+1*j):=by rw[hn,List.getElem?_range' O1]
    rw[aA bB] at this;have:=gM this;omega
   rw[hz] at zu;refine qA ?_;refine xD O (fun h=>absurd h O4) (fun _=>tM (1+(ws.take i).sum+(j+1)) ?_);refine gA8 ?_;exact mA8
  obtain rfl:j=lr.length:=O1;have e1:1+(ws.take i).sum+lr.length=1+(ws.take (i+1)).sum:=O1;rw[e1];exact mF3
 obtain rfl:i=rs.length:=O1;have e1:(ws.take rs.length).sum=ws.sum:=by rw[hQ,dE]
 rw[e1];clear yw e1;refine gA1 ?_;refine tN (ws.sum) ?_;refine tY fun hp=>?_;refine tP (fun w hp=>qP) ?_;refine wdp O (fun w hp=>zQ O O) (qV (aB O1)) (tP (fun w hp=>qP) ?_);apply yG;exact O;exact O;exact O;intro w hp;exact qP;exact fI O;apply yG;exact O;exact O;exact O;intro w hp;exact xJ O O;exact qV (aB O1);refine tP (fun w hp=>yT O O) ?_;refine tP (fun w hp=>qP) (xA ?_);refine tG (p46 _ _ h7 O1) fun w4 hp=>?_;apply yG;exact O;exact O;exact O;intro w hp;exact kB O O;exact qV (ndf O1);refine tP (fun w hp=>yT O O) (qU ?_);refine qR ?_;refine tJ (qQ ([2,10]++range' 53 8) (fun(i:Nat) F=>F.put 53 (.int _ i))
  (fun i w'=>i≤cs.length∧Hp w [] w' _) (fun i=>cs.length-i) 0 (qB (Same.eq .refl) O) ⟨O1,hp⟩ ?_)
 (repeat clear hp);rintro u2 q w5 ⟨hq,hp⟩;refine tI (fun h=>?_) fun h=>?_
 ·have hl:q<cs.length:=O1;obtain⟨b0,o0,hs0,yq⟩:=nz.base O1;have yp:=yq q _ (aA hl) 0 _ O;have hy:=ul _ (bX hl);generalize cs[q]=a at yp hy;refine tD (p69 a _ hy) fun w6 hp=>?_;refine gA3 ?_;refine tN (q+1) ?_;refine qA ?_;exact mA8
 exact mA0
end
section
open Go.Eng Go.Dig Go.Sha Go.Lag Go.Grp Go.Sp
variable{ws:List Nat}{rs:List NRow}{i:Nat}
structure Mem where
 id:Nat
 wt:Nat
 pb:Nat
def qUx(ms:List Mem):List Nat:=ms.map Mem.wt
structure MsOk(ms:List Mem):Prop where
 nd:(ms.map Mem.id).Nodup
 wo:WsOk (qUx ms)
 ib:∀m∈ms,m.id≤1000000
 pb:∀m∈ms,m.pb<2305843009213691579
theorem MsOk.len{ms:List Mem}(h:MsOk ms):1≤ms.length∧ms.length≤13:=by
 have h1:=h.wo.ne;have h2:=h.wo.len;unfold qUx at h1 h2;grind
def plW(ws:List Nat)(i j k:Nat):List Nat:=if k<i then range' (1+(ws.take k).sum) (ws.getD k 0) else if k=i then range' (1+(ws.take i).sum) j else[]
structure PtI(ws:List Nat)(i j:Nat)(rs:List NRow):Prop where
 len:rs.length=ws.length
 row:∀k (h:k<rs.length),rs[k].l=plW ws i j k
 svl:∀r∈rs,SVL r.s r.c r.l
theorem PtI.zero(ws:List Nat):PtI ws 0 0 (replicate ws.length ⟨none,0,[]⟩):=by
 refine⟨lG,fun k h=>?_,fun r hr=>?_⟩
 ·unfold plW;simp
 rw[List.eq_of_mem_replicate hr];exact SVL.nil
theorem PtI.step{j:Nat}(h:PtI ws i j rs)(hi:i<rs.length){s':Option Addr}{c':Nat}(hv:SVL s' c' (rs[i].l++[1+(ws.take i).sum+j])):PtI ws i (j+1) (rs.set i ⟨s',c',rs[i].l++[1+(ws.take i).sum+j]⟩):=by
 refine⟨by rw[fZ];exact h.len,fun k hk=>?_,fun r hr=>?_⟩
 ·rw[List.getElem_set];split
  ·rename_i e
   subst e;rw[h.row];unfold plW;rw[if_neg O1,if_pos O,if_neg O1,if_pos O,List.range'_concat];simp
  rw[h.row];unfold plW;grind
 rcases sAy hr with hr|rfl
 ·exact h.svl r hr
 exact hv
theorem PtI.next(h:PtI ws i (ws.getD i 0) rs):PtI ws (i+1) 0 rs:=by
 refine⟨h.len,fun k hk=>?_,h.svl⟩;rw[h.row];unfold plW;grind
theorem PtI.done(h:PtI ws ws.length 0 rs):qLk rs=qNt 1 ws:=by
 unfold qLk;apply eF;intro k;by_cases hk:k<ws.length
 ·have hg:k<rs.length:=by rw[h.len];exact hk
  rw[qLt ws 1 k hk,dF,aA hg,eC,h.row];unfold plW;grind
 rw[fD (by rw[aM,h.len];omega),fD (by rw[qT7];omega)]
attribute [local irreducible] PV StepF wpl wpd WP Ret
attribute [local irreducible] Fit ofN uY hv scP atP Mb inL fac uB inP
end
open Go.Eng Go.Dig Go.Sha Go.Lag Go.Grp Go.Sp
attribute [local irreducible] PV StepF wpl wpd WP Ret
attribute [local irreducible] Fit ofN uY hv scP atP Mb inL fac uB inP lfu
end Go.Proofs.YtplkndjlfkkjlaaGreatDoor
namespace Go.Eng
open List (range range' replicate)
def lay:List (Nat×Nat)→Nat→Nat→List (Nat×Value)→Bool
 |[],_,_,[]=>true
 |(o',sz)::pl,i,o,(j,v)::ps=>Nat.beq j i&&(Nat.beq o' o&&(Nat.beq v.cells.size sz&&lay pl (i+1) (o+sz) ps))
 |_,_,_,_=>false
theorem qU1(place:Nat→Option (Nat×Nat)):∀(ps:List (Nat×Value)) (pl:List (Nat×Nat)) (i o:Nat) (pre rest:List Value),(∀j x,pl[j]? =some x→place (i+j)=some x)→lay pl i o ps=true→pre.length=o→
  rest.length=(pl.map (·.2)).sum→Instr.fill place (pre++rest).toArray ps=some (pre++ps.flatMap fun p=>p.2.cells.toList).toArray
 |[],[],i,o,pre,rest,_,_,_,hr=>by
  exact mEt
 |[],_::_,_,_,_,_,_,h,_,_=>by simp[lay] at h
 |_::_,[],_,_,_,_,_,h,_,_=>by simp[lay] at h
 |(j,v)::ps,(o',sz)::pl,i,o,pre,rest,hp,h,hpre,hr=>by
  simp only[lay,aF] at h;obtain⟨h1,h2,h3,h4⟩:=h;have h1:=bF h1;have h2:=bF h2;subst h1 h2;rw[dY,rU] at hr;have xv:=hp 0 _ O;have sa:v.cells.toList.length=sz:=by simpa using h3
  have hz:v.cells.zipIdx.foldl (fun cs x=>cs.setIfInBounds (o'+x.2) x.1) (pre++rest).toArray=(pre++v.cells.toList++rest.drop sz).toArray:=by
   rw[←nG,xS];have e:=qDt v.cells.toList (pre++rest) o' 0;rw[iF,←hpre,qHw v.cells.toList pre rest O1,sa] at e;rw[←hpre];exact e
  simp only[Instr.fill,xv];have:=qU1 _ ps pl _ _ (pre++v.cells.toList) (rest.drop sz) (fun q x hq=>by
   have:=hp (q+1) x (by grind)
   rwa[show j+1+q=j+(q+1) by omega]) h4 (by grind) (by grind)
  grind
theorem qVm{P:Program}{n:FrK}{w:World}{F:Fr}{d:Option Tmp}{ty:TypeId}{pos:String}{aft:Array Edge}{g:Option (Nat×Bool)}{t:TypeId}{fs:Array Field}{ps:Array (Nat×Operand)}{zs:List Value}{pl:List (Nat×Nat)}{vs:List (Nat×Value)}
  (ht:P.underlying t=some (.struct fs)) (hz:TZero P t (.agg zs.toArray)) (xv:∀w,(fs.mapM (fun f=>do pure (f.offset,←sizeOf f.type):Field→Sem (Nat×Nat))).run P w= .ok pl.toArray w) (hl:zs.length=(pl.map (·.2)).sum)
  (hg:(ps.toList.map fun p=>(p.1,ev n F p.2))=vs) (hh:lay pl 0 0 vs=true):PV P n w F ⟨d,.build t ps,ty,pos,aft,g⟩ (.agg (vs.flatMap fun p=>p.2.cells.toList).toArray):=by
 refine qB6 ht hz O xv ?_;have h:=qU1 (pl.toArray[·]?) vs pl 0 0 [] zs (fun j x hx=>by grind) hh O hl;have e:(ps.map fun(i,x)=>(i,ev n F x)).toList=vs:=by rw[vH,hg]
 rw[e];exact h
end Go.Eng
namespace Go.Proofs.YtplkndjlfkkjlaaGreatDoor
open List (range range' replicate)
open Tryz
section
open Go.Eng Go.Dig Go.Sha Go.Lag Go.Grp Go.Sp
def rdT(r:Int):ByteArray:=(⟨#[114,111,117,110,100,47]⟩:ByteArray)++dec r
def bsR(r:Int):Nat:=elP (bl (rdT r))
theorem qN9(r:Int):Mb (bsR r):=jTc _
theorem jHc{r:Int}(h0:-9223372036854775808≤r)(h1:r≤9223372036854775807):(dec r).size≤20:=by
 unfold dec Lib.itoa;split
 ·have:=qIo 18 r.natAbs O1;show(45::Lib.decDigits _).length≤20
  grind
 have:=qIo 18 r.toNat O1;show(Lib.decDigits _).length≤20
 omega
def ePt(r:Int)(p:Nat×Nat):List Value:=[Iv (p.1:Int),Iv ((bsR r^p.2%gP:Nat):Int),Iv (pfC p.2 4 (bsR r):Int),Iv (pfZ p.2 4 (bsR r):Int)]
def qD0(c:List Nat)(xs:List Nat):List (Nat×Nat):=xs.map fun x=>(x,vl c x)
structure PkOk(k:KyV)(ws c:List Nat):Prop where
 ko:KyOk k ws
 pk:k.cs=pws 4 c
 cb:∀a∈c,a<1152921504606845789
attribute [local irreducible] PV StepF wpl wpd WP Ret
attribute [local irreducible] Fit ofN uY hv scP atP Mb inL fac uB inP lfu elP pfC pfZ bsR dec
theorem p18(r:Int)(w:World)(hT:Tabs w)(h0:-9223372036854775808≤r)(h1:r≤9223372036854775807):Rk 29 [Iv r] w (Iv (bsR r:Int)):=by
 have hd:=jHc h0 h1;have hs:=qS4 ⟨#[114,111,117,110,100,47]⟩ (dec r);have h6:(⟨#[114,111,117,110,100,47]⟩:ByteArray).size=6:=O;refine tW func29 ntmps29 fun hp=>?_;refine tD (p60 r _ O1 h0 h1) fun w1 hp=>?_;refine tR (qCq O O O1) ?_;refine tC (p59 (rdT r) _ (hT.j5 hp.C) (by unfold rdT;omega)) fun w2 hp=>?_;refine tV ?_;exact⟨_,O,by unfold bsR;rfl,hp.C⟩
theorem p7(x y:Nat)(r:Int)(w:World)(hT:Tabs w)(h0:-9223372036854775808≤r)(h1:r≤9223372036854775807)(hg:1≤x)(en:x≤60)(hy:y<1152921504606845789):
  Rk 28 [.agg #[Iv (x:Int),Iv (y:Int)],Iv r] w (.agg (ePt r (x,y)).toArray):=by
 have hb:=qN9 r;have oo:=qH2 hb;refine tW func28 ntmps28 fun hp=>?_;refine qR ?_;refine tQ fun w1 b2 hp=>tF (qKi hp (qJ O)) fun w2 b4 hp=>?_;refine qA ?_;refine xD O (fun h=>absurd h (by grind)) (fun _=>tD (p18 r _ (hT.j5 hp.C) h0 h1) fun w3 hp=>?_);refine qA ?_;refine jU jG O3 (fun w'=>Hp _ _ w' _) hp.N ?_;have hp:=hp.N;refine tH (qM1 (bsR r) y 2305843009213691579 _ O1 O1 O2 O2) fun w4 hp=>?_;refine tH (p26 y 4 _ _ (hT.j5 hp.C) hy jKf hb) fun w5 hp=>wdp O (fun w hp=>qVm (pl:=[(0,1),(1,1),(2,2)]) Tryz.underlying82 (qJ O) (fun w=>O3) O O O) (fA4 O) ?_;apply xH;exact O;exact O;exact qKg hp 0 O O O O (qD O) O;rintro _ gj ⟨rfl,hp⟩;refine qU (qA ?_);exact mA2
theorem qT8(c xs:List Nat):(qD0 c xs).length=xs.length:=aM _
theorem p31(k:KyV)(ws c:List Nat)(x:Nat)(r:Int)(w:World)(hT:Tabs w)(h0:-9223372036854775808≤r)(h1:r≤9223372036854775807)(hk:KyAt w k)(ho:PkOk k ws c)(hg:1≤x)(en:x≤ws.sum):
  Rk 88 [.agg (eKy k).toArray,Iv r,.agg (ePt r (x,vl c x)).toArray] w (.bool true):=by
 have ye:=ho.ko.len;have hq:=ho.ko.wo.len;have h3:=ho.ko.wo.sum;have zk:=ho.ko.sum;have ul:=ho.ko.mb;have bo:=ho.pk;have hP:k.cs.length≤60:=by
  have:=jE9 ho.ko.wo.sp;have:=ho.ko.nd;omega
 have iz:atP k.cs x=4^vl c x%gP:=by rw[bo];exact jYg jKf c x
 have sa:vl c x<1152921504606845789:=jM4;have hj:=fun{w':World} (h:Keeps [] w w')=>hk.j5 h
 obtain⟨s1,c1,cs,s2,c2,rs⟩:=k;obtain⟨nz,hm⟩:=hk;dsimp only at ye zk ul hP iz nz hm;have hE:eKy ⟨s1,c1,cs,s2,c2,rs⟩=[.slice s1 cs.length c1,.slice s2 rs.length c2]:=O;have hn:ePt r (x,vl c x)=[.int _ x,.int _ (bsR r^vl c x%gP:Nat),.int _ (pfC (vl c x) 4 _),.int _ (pfZ (vl c x) 4 _)]:=O;rw[hE,hn];clear hE hn;refine tW func88 ntmps88 fun hp=>?_;refine qR ?_;refine tQ fun w1 b3 hp=>tF (jMa hp O) fun w2 b5 hp=>?_;refine qA ?_;have hh:qIx (rs.take 0)=0:=by simp[qIx]
 refine qQ ([7,9]++range' 13 9) (fun(i:Nat) F=>(F.put 13 (.int _ i)).put 7 (.int _ (qIx (rs.take i))))
  (fun i w'=>i≤rs.length∧Hp w [] w' [blk b5 4 _ 82,blk b3 2 _ 76]) (fun i=>rs.length-i) 0 (qB (qB (Same.eq .refl) O) (by rfl)) ⟨O1,hp⟩ ?_
 clear hp;rintro u0 i w3 ⟨hi,hp⟩;have yw:=qDy rs i;refine tI (fun h=>?_) fun h=>?_
 ·have hl:i<rs.length:=O1;obtain⟨b0,o0,hs0,yq⟩:=hm.at_.base O1;have yp:=yq i _ (aA hl) 0 _ O;have xy:=jAe hl;have ht:=qDy rs (i+1);generalize rs[i]=q at yp xy;refine tM (qIx (rs.take i)+q.l.length) ?_;rw[←xy];exact mF3
 obtain rfl:i=rs.length:=O1;refine qA ?_;refine xD O (fun h=>absurd h (by grind)) (fun _=>tY fun hp=>?_);refine tH (p45 cs x s1 c1 _ (nz.j6 hp.C) O1 O1 (fun a ha=>qH2 (ul a ha))) fun w4 hp=>?_;rw[iz];refine tH (p18 r _ (hT.j5 hp.C) h0 h1) fun w5 hp=>?_;refine tH (p72 _ 4 _ _ (hT.j5 hp.C) sa jKf (qN9 r)) fun w6 hp=>?_;refine qX (qU ?_);exact mA0
theorem p30(k:KyV)(ws c:List Nat)(x kb rb:Nat)(r:Int)(w:World)(hT:Tabs w)(h0:-9223372036854775808≤r)(h1:r≤9223372036854775807)(hk:KyAt w k)(ho:PkOk k ws c)(hg:1≤x)(en:x≤ws.sum)
  (hh:∀j v,(eKy k)[j]? =some v→w.cell? ⟨kb,0+j,none⟩=some v) (hj:w.cell? ⟨rb,0,none⟩=some (Iv r)):
  Rk 87 [.agg (ePt r (x,vl c x)).toArray,.pointer (Ad kb),.pointer (Ad rb)] w (.bool true):=by
 have hl:=fun w' h=>p31 k ws c x r w' (hT.j5 h) h0 h1 (hk.j5 h) ho hg en
 refine tW func87 ntmps87 fun hp=>?_;refine qR (tF (jMa hp O) fun w1 b3 hp=>?_);refine qA (tR (qL O O O O (fun j v hv=>hp.j7 (hh j v hv))) ?_);refine tD (hl _ hp.C) fun w2 hp=>?_;exact mA0
theorem p29(k:KyV)(ws c xs:List Nat)(kb rb:Nat)(r:Int)(s:Option Addr)(cc:Nat)(w:World)(hT:Tabs w)(h0:-9223372036854775808≤r)(h1:r≤9223372036854775807)(hk:KyAt w k)(ho:PkOk k ws c)(hj:∀x∈xs,1≤x∧x≤ws.sum)
  (hm:∀j v,(eKy k)[j]? =some v→w.cell? ⟨kb,0+j,none⟩=some v) (hn:w.cell? ⟨rb,0,none⟩=some (Iv r)) (hs:SlAt w 4 (ePt r) s (qD0 c xs)) (hl:xs.length≤100000):
  Rt 86 [.slice s xs.length cc,.func (.func 87) #[] #[.pointer (Ad kb),.pointer (Ad rb)]] w (fun v w'=>(∃s' c',v= .tuple #[.slice s' xs.length c',Zs]∧SlAt w' 4 (ePt r) s' (qD0 c xs))∧Keeps [] w w'):=by
 have xv:=qT8 c xs;refine tW func86 ntmps86 fun hp=>?_;refine qA ?_;have hp:=hp.k4 (ePt r) 82 4;have eV:∀i,i≤xs.length→((qD0 c xs).take i).length=i:=fun i hi=>by grind
 have hp:Hp w [] w [qG _ 82 4 _ 0 ((qD0 c xs).take 0)]:=hp;refine kS ([4,5,7]++range' 10 16) (fun(i:Nat) s c' F=>((F.put 10 (.int _ i)).put 4 (.slice s ((qD0 c xs).take i).length c')).put 5 (.slice _ 0 0))
  (fun i s c' w'=>i≤xs.length∧SVL s c' ((qD0 c xs).take i)∧Hp w [] w' [qG _ 82 4 s c' ((qD0 c xs).take i)]) (fun i _ _=>xs.length-i) 0 _ 0 (qB (qB (qB (Same.eq .refl) O) O) O) ⟨O1,SVL.nil,hp⟩ ?_
 (repeat clear hp);rintro u0 i s1 c1 w2 ⟨hi,gv,hp⟩;have hz:=eV i hi;refine tI (fun h=>?_) fun h=>?_
 ·have hg:i<xs.length:=O1;have hy:i<(qD0 c xs).length:=O1;obtain⟨b0,o0,hs0,yq⟩:=hs.base O1;have yp:=yq i _ (aA hy);have li:=hj _ (bX hg);have ht:(qD0 c xs)[i]=(xs[i],vl c xs[i]):=by simp[qD0]
  have hq:=aG hy;rw[ht] at yp hq;have hh:=fun w' h=>p30 k ws c _ kb rb r w' (hT.j5 h) h0 h1 (hk.j5 h) ho li.1 li.2 (fun j v hv=>h.cell (hm j v hv) O4) (h.cell hn O4)
  generalize xs[i]=x at yp hq hh;refine qA (wlp (qL O O O O (fun j v hv=>hp.j7 (yp j v hv))) (fA4 O) ?_);refine tF (qKi hp (qJ O)) fun w3 pb hp=>tO (qKg hp 0 O O O O (qD O) O) fun w4 hp=>?_;refine tD (hh _ hp.C) fun w5 hp=>?_;refine qA (jB O ?_);refine qA ?_;refine tF (jC (cs:=ePt r (x,vl c x)) hp O O O O O O O) fun w6 nb hp=>tFb (jV _ _ _ hp 2 0 O O O O O O (fun _=>O) O O O gv O O O1) fun w7 s' c'⟨hx,hp⟩=>?_;rw[←hq] at hx hp;rw[←hq];refine gA7 ?_;exact⟨_,s',c',qB O5 O,⟨O1,hx,hp.H.H⟩,O1⟩
 obtain rfl:i=xs.length:=O1;have fs:(qD0 c xs).take xs.length=qD0 c xs:=by rw[←xv,dE]
 rw[fs] at gv hp⊢;refine qA ?_;exact xU O O O ⟨_,O,⟨s1,c1,by rw[xv];rfl,qZ hp 0 O gv (fun _=>O)⟩,hp.C⟩
end
section
open Go.Eng Go.Dig Go.Sha Go.Lag Go.Grp Go.Sp
def shL(b:Nat)(c xs:List Nat):List (Nat×Nat):=xs.map fun x=>(x,b^vl c x%gP)
theorem jJb(b:Nat)(c xs:List Nat):(shL b c xs).length=xs.length:=aM _
theorem qXm(b:Nat)(c xs:List Nat):(shL b c xs).map (·.1)=xs:=by
 unfold shL;rw[iP];exact List.map_id' xs
theorem jHk{b:Nat}(hb:Mb b){c xs:List Nat}{nd:Nat}(hP:Pts xs)(ln:1≤nd)(hn:nd≤xs.length)(hc:c.length≤nd):lfu (xsI (shL b c xs) nd) (ysI (shL b c xs) nd)=b^vl c 0%gP:=by
 have e1:xsI (shL b c xs) nd=xs.take nd:=by
  unfold xsI;rw[pA,qXm]
 have e2:ysI (shL b c xs) nd=pws b ((xs.take nd).map (vl c)):=by
  unfold ysI shL pws;rw[←pA,iP,iP];rfl
 have hl:(xs.take nd).length=nd:=by rw[bV];omega
 rw[e1,e2,jKg hb];rw[jF6 ⟨hP.nd.sublist (sA4 _ _),fun x hx=>hP.bd x (gF hx)⟩ (by grind) O1]
theorem jKx{l:List Value}{i:Nat}{v:Value}(h:l[i]? =some v):qE l i=v:=by
 rw[uA,aC,h];rfl
attribute [local irreducible] PV StepF wpl wpd WP Ret
attribute [local irreducible] Fit ofN uY hv scP atP Mb inL fac uB inP lfu elP pfC pfZ bsR dec
set_option maxHeartbeats 4000000 in
theorem p9(k:KyV)(ws c xs:List Nat)(r:Int)(s:Option Addr)(cc:Nat)(w:World)(hT:Tabs w)(h0:-9223372036854775808≤r)(h1:r≤9223372036854775807)(hk:KyAt w k)(ho:PkOk k ws c)(hh:∀x∈xs,1≤x∧x≤ws.sum)(ln:xs.Nodup)
  (hs:SlAt w 4 (ePt r) s (qD0 c xs)) (hl:k.cs.length≤xs.length) (qt:xs.length≤1000) (hc:c.length=k.cs.length):
  Rk 27 [.agg (eKy k).toArray,Iv r,.slice s xs.length cc] w (.tuple #[Iv ((bsR r^vl c 0%gP:Nat):Int),Zs,Iv 0]):=by
 have hb:=qN9 r
 have hP:Pts xs:=⟨ln,fun x hx=>by
  have h1:=hh x hx;have h2:=ho.ko.wo.sum;have h3:gQ=1152921504606845789:=O
  omega⟩
 have h7:1≤k.cs.length:=by rw[ho.ko.nd];exact jK3 _
 have hD:=jHk (c:=c) hb hP h7 hl O1;have bm:=jJb (bsR r) c xs;have h8:=qXm (bsR r) c xs;have xv:=qT8 c xs;have h9:=fun w' jc=>p28 k ws w' jc ho.ko
 have hz:uE (inL xs 0)=_:=qTw _
 have hE:eKy k=[_,_]:=O;have hF:∀(j:Nat) (v:Value),(eKy k)[j]? =_→[_,_][j]? =some v:=fun j v h=>h
 rw[hE] at h9⊢;refine tW func27 ntmps27 fun hp=>?_;refine qR ?_;refine tQ fun w1 kb hp=>?_;refine tQ fun w2 rb hp=>?_;refine tL (h9 _ (hk.j5 hp.C)) ?_;rintro _ w3 ⟨rfl,hm⟩;have hp:=hp.call hm;refine gA3 ?_;refine tK (p29 k ws c xs kb rb r s cc _ (hT.j5 hp.C) h0 h1 (hk.j5 hp.C) ho hh (fun j v hv=>hp.cells 1 _ O O (fun j v hv=>by rw[fH];exact jKx hv) j v (hF j v hv)) (hp.cell 0 O O) (hs.j6 hp.C) O1) ?_;rintro _ w4 ⟨⟨s',c',rfl,hj⟩,hm⟩;have hp:=hp.call hm;have qs:=hp.C;have ck:w4.cell? ⟨kb,0+0,_⟩=some (.slice _ _ k.c1):=hp.cell 1 O O;clear hp hm;have hp:=Hp.start (M:=[]) (w:=w4);refine qA (qQ ([7,12]++range' 28 10) (fun _ F=>(F.put 28 (.int _ 0)).put 7 (.slice _ 0 0)) (fun _ w'=>w4=w') (fun _=>0) () (qB (qB (Same.eq .refl) O) O) O ?_);rintro u0 ⟨⟩ _ rfl;refine qA ?_;refine qH O O1 (fun _=>qA (tF (yS kInt hp) fun w5 mb hp=>?_));rw[←hz] at hp;have hp:=hp.k4 eP2 85 2;have eV:∀i,i≤xs.length→((shL (bsR r) c xs).take i).length=i:=fun i hi=>by grind
 have hp:Hp w4 [] w5 [qG _ 85 2 _ 0 ((shL (bsR r) c xs).take 0),_]:=hp;refine qA (kS ([14,16]++range' 41 21) (fun(i:Nat) s c' F=>(F.put 41 (.int _ i)).put 14 (.slice s ((shL (bsR r) c xs).take i).length c'))
  (fun i s c' w'=>i≤xs.length∧SVL s c' ((shL (bsR r) c xs).take i)∧Hp w4 [] w' [qG _ 85 2 s c' ((shL _ c xs).take i),yA _ mb (uE (inL xs i))]) (fun i _ _=>xs.length-i) 0 _ 0 (qB (qB (Same.eq .refl) O) O) ⟨O1,SVL.nil,hp⟩ ?_)
 (repeat clear hp);rintro u1 i s1 c1 w6 ⟨hi,gv,hp⟩;have h6:=eV i hi;refine tI (fun h=>?_) fun h=>?_
 ·have hg:i<xs.length:=O1;have hy:i<(qD0 c xs).length:=O1;have hH:i<(shL (bsR r) c xs).length:=O1;obtain⟨b0,o0,hs0,yq⟩:=hj.base O1;have yp:=yq i _ (aA hy);have ht:(qD0 c xs)[i]=(xs[i],vl c xs[i]):=by simp[qD0]
  have h4:(shL _ c xs)[i]=(xs[i],bsR r^vl c xs[i]%gP):=by simp[shL]
  have hq:=aG hH;have ya:=qYr ln hg;have h5:=qTx hg;rw[ht] at yp;rw[h4] at hq;generalize xs[i]=x at yp hq ya h5;refine qA (wlp (qL O O O O (fun j v hv=>hp.j7 (yp j v hv))) (fA4 O) ?_);refine tF (qKi hp (qJ O)) fun w7 pb hp=>tO (qKg hp 0 O O O O (qD O) O) fun w8 hp=>?_;have hp:=hp.norm 0 [.int _ x,.int _ (bsR r^vl c x%gP:Nat),.int _ (pfC (vl c x) 4 _),.int _ (pfZ (vl c x) 4 _)] O O;refine gA4 ?_;refine jM (wlp (qAq hp 2 O O O (xG O).1 (xG (t:=162) O).2.1 (xG (t:=162) O).2.2) ((qBv _ _).trans (aQ _ ya)) ?_);refine jM ?_;refine qR (jB O ?_);refine qA (tO (qAk hp 2 O O O O (xG O).1 (xG (t:=162) O).2.1) fun w9 hp=>?_);rw[h5] at hp;refine qA ?_;refine tF (jC (cs:=eP2 (x,bsR r^vl c x%gP)) hp O O O O O O O) fun ur nb hp=>tFb (jV _ _ _ hp 2 0 O O O O O O (fun _=>O) O O O gv O O O1) fun gg s3 c3⟨hn,hp⟩=>?_;rw[←hq] at hn hp;rw[←hq];refine gA7 ?_;exact⟨_,s3,c3,qB O5 O,⟨O1,hn,hp.H.H⟩,O1⟩
 obtain rfl:i=xs.length:=O1;have fs:(shL (bsR r) c xs).take xs.length=shL (bsR r) c xs:=by rw[←bm,dE]
 rw[fs] at gv hp⊢;have oa:=qZ hp 0 O gv (fun _=>O);clear h6;refine qA ?_;refine qH O O1 (fun _=>qA ?_)
 (apply wls;exact qC O jXe O (p32 _ _ s1 c1 _ oa (by grind) (fun p hp=>by
  obtain⟨x,_,rfl⟩:=bD.1 hp
  exact qMd hb _) h7 O1 O1);rintro _ gh ⟨rfl,hm⟩;have hp:=hp.call hm)
 rw[hD];refine qA ?_;exact qDj O O O O ⟨_,O,O,qs.trans hp.C O4⟩
end
open Go.Eng Go.Dig Go.Sha Go.Lag Go.Grp Go.Sp
theorem jZo:vl [5,2] 0=5:=O3
theorem jJc{a:Nat}(h:Mb a):1≤a:=h.1
theorem jO5:∀a∈pws 4 [5,2],Mb a:=by
 intro a ha;obtain⟨x,_,rfl⟩:=bD.1 ha;exact qMd jKf x
attribute [local irreducible] PV StepF wpl wpd WP Ret
attribute [local irreducible] Fit ofN uY hv scP atP Mb inL fac uB inP lfu elP pfC pfZ bsR dec
set_option maxHeartbeats 4000000 in
theorem p4(w:World)(hT:Tabs w):Rk 5 [] w (.bool true):=by
 have ht:=jO5;obtain⟨r,hr⟩:∃r:Int,r=3:=⟨3,O⟩;have hn:Iv r=Iv 3:=by rw[hr]
 have hy:=qMd (qN9 r) 5;have oo:=qH2 (qN9 r);have h18:=fun w h=>by
  have:=p18 r w h O1 O1;rwa[hn] at this
 have hz:=fun w h=>by
  have:=p7 1 7 r w h O1 O1 O2 O2 O2;rwa[hn] at this
 have h6:=fun w h=>by
  have:=p7 2 9 r w h O1 O1 O2 O2 O2;rwa[hn] at this
 have h9:∀(k:KyV) (s:Option _) (w:World),Tabs w→KyAt w k→PkOk k _ _→SlAt w 4 _ s _→k.cs.length=2→Ret _ 27 [_,_,.slice s 2 2] w _:=fun k s w h hk hp hs hl=>by
  have:=p9 k [2,2] [5,2] [1,2] r s 2 w h O1 O1 hk hp O2 O2 (by exact hs) (by grind) O2 (by rw[hl];rfl);rw[hn,jZo] at this;omega
 clear hn hr;generalize yh:bsR r=B at*
 refine tW func5 ntmps5 fun hp=>?_;refine tD (qM1 4 5 2305843009213691579 _ O2 O2 O2 O2) fun w1 hp=>?_;refine tC (qM1 4 2 2305843009213691579 _ O2 O2 O2 O2) fun w2 hp=>?_;obtain⟨c5,hq⟩:∃c5,c5=4^5%2305843009213691579:=⟨_,O⟩;obtain⟨c2,qp⟩:∃c2,c2=4^2%2305843009213691579:=⟨_,O⟩;have nz:[c5,c2]=pws 4 [5,2]:=by rw[hq,qp];rfl
 rw[←hq,←qp];rw[←nz] at ht;refine tF (jC (cs:=[c5,c2].flatMap eN) hp O O O O O O O) fun w3 ba hp=>tF (jC (cs:=[1,2].flatMap eN) hp O O O O O O O) fun w4 be hp=>tF (jC (cs:=[3,4].flatMap eN) hp O O O O O O O) fun w5 bc hp=>tF (jC (cs:=[⟨Ad be,2,[1,2]⟩,⟨_,2,[3,4]⟩].flatMap eNR) hp O O O O O O O) fun w6 bf hp=>qA ?_;refine tQ fun w7 b1 hp=>?_;refine tS fun w8 hp=>?_;have hp:=hp.norm 0 [.slice _ 2 2,.slice _ 2 2] O O;have px:∀{W:World} {A:List Ent},Hp w [] W (A++[blk b1 2 (qE [.slice (Ad ba) 2 2,.slice (Ad bf) 2 2]) 76,blk bf ([(⟨Ad be,2,[1,2]⟩:NRow),⟨Ad bc,2,[3,4]⟩].flatMap eNR).length (qE ([(⟨Ad be,2,[1,2]⟩:NRow),⟨Ad bc,2,[3,4]⟩].flatMap eNR)) 22,blk bc ([3,4].flatMap eN).length (qE ([3,4].flatMap eN)) 3,blk be ([1,2].flatMap eN).length (qE ([1,2].flatMap eN)) 3,blk ba ([c5,c2].flatMap eN).length (qE ([c5,c2].flatMap eN)) 3])→
   KyAt W (⟨Ad ba,2,[c5,c2],Ad bf,2,[⟨Ad be,2,[1,2]⟩,⟨Ad bc,2,[3,4]⟩]⟩:KyV):=fun{W A} h=>by
  have h:=h.sub (bZ A _);refine⟨qAa _ h 4 O (fun _=>O),qAa _ h 1 O (fun _=>O),fun r hr=>?_⟩;rcases bE.1 hr with rfl|hr
  ·exact qAa _ h 3 O (fun _=>O)
  rw[iN.1 hr];exact qAa _ h 2 O (fun _=>O)
 have h5:PkOk ⟨Ad ba,2,[c5,c2],Ad bf,2,[⟨Ad be,2,[1,2]⟩,⟨Ad bc,2,[3,4]⟩]⟩ [2,2] _:=
  ⟨⟨O,⟨O2,O2,O2,O2,O2⟩,by show 2=ndN 4;decide,ht⟩,nz,O2⟩
 refine qR ?_;refine tX fun hp=>?_;refine tH (hz _ (hT.j5 hp.C)) fun w9 hp=>?_;refine tH (h6 _ (hT.j5 hp.C)) fun ur hp=>?_;apply wds;exact O;exact jC (cs:=[_,_].flatMap (ePt r)) hp O O O O O O O;rintro _ gg ⟨bP,rfl,hp⟩;refine⟨hp.H,tG (h9 ⟨Ad ba,2,[c5,c2],Ad bf,2,[⟨Ad be,2,[1,2]⟩,⟨Ad bc,2,[3,4]⟩]⟩ _ _ (hT.j5 hp.C) (px (A:=[_]) hp) h5 (qAa _ hp 0 O (fun _=>O)) O) fun gh hp=>?_⟩;obtain⟨W,hW⟩:∃W,W=B^5%gP:=⟨_,O⟩;rw[←hW] at hy⊢;refine qX (qU ?_);refine qA ?_;refine tF (jC (cs:=[.int _ 2,.int _ 50]) hp O O O O O O O) fun gm tb hp=>qA ?_;refine tQ fun gj b5 hp=>?_;refine tS fun gn hp=>?_;refine qR (wlp (qL (vs:=drL tb) O O O O (hp.j4 (k:=13) (o:=0) 0 O O)) O ?_);refine tC (p17 tb _ ⟨hp.cell 1 O O,hp.cell 1 O O⟩) fun hg hp=>?_;refine qA ?_;refine tQ fun hx b6 hp=>?_;refine tS fun hh hp=>?_;have o1:=jJc hy;refine jL ?_;have h3:decide (0<(W:Int))=_:=aD O1;first|rw[h3]|rw[hWd2]
 refine tE (h18 _ (hT.j5 hp.C)) fun hj hp=>?_;refine tC (qM1 B 5 2305843009213691579 _ O1 O2 O2 O2) fun hm hp=>?_;have h4:B^5%2305843009213691579=W:=hW.symm;rw[h4];apply vX;exact O;exact O;exact zW O O;exact qV (aD O);exact mA0
end Go.Proofs.YtplkndjlfkkjlaaGreatDoor
namespace Go.Lp
open List (range range' replicate)
section
variable{n:Nat}{f:Nat→Rat}
def sm:Nat→(Nat→Rat)→Rat
 |0,_=>0
 |n+1,f=>sm n f+f n
theorem jF{f g:Nat→Rat}:∀{n:Nat},(∀j,j<n→f j=g j)→sm n f=sm n g
 |0,_=>rfl
 |n+1,h=>by simp[sm];rw[jF (fun j hj=>h j O1),h n O1]
theorem qKh:∀(n:Nat),sm n (fun _=>0)=0
 |0=>rfl
 |n+1=>by simp[sm];rw[qKh];grind
theorem vM(h:∀j,j<n→f j=0):sm n f=0:=(jF h).trans (qKh n)
theorem qBd(f g:Nat→Rat):∀(n:Nat),sm n (fun j=>f j+g j)=sm n f+sm n g
 |0=>by simp[sm];grind
 |n+1=>by simp[sm];rw[qBd];grind
theorem qLd(f g:Nat→Rat):∀(n:Nat),sm n (fun j=>f j-g j)=sm n f-sm n g
 |0=>by simp[sm];grind
 |n+1=>by simp[sm];rw[qLd];grind
theorem yF(c:Rat)(f:Nat→Rat):∀(n:Nat),sm n (fun j=>c*f j)=c*sm n f
 |0=>by simp only[sm];grind
 |n+1=>by simp[sm];rw[yF];grind
theorem wX(f:Nat→Rat){e:Nat}:∀{n:Nat},e<n→sm n f=f e+sm n (fun j=>if j=e then 0 else f j)
 |n+1,h=>by
  by_cases he:e=n
  ·have:sm e (fun j=>if j=e then 0 else f j)=_:=jF fun j hj=>by rw[if_neg O1]
   simp[sm,if_true];grind
  have:=wX f (e:=e) (n:=n) O1;simp[sm];grind
theorem xY{e:Nat}(f:Nat→Rat)(h:e<n):sm n (fun j=>if j=e then f j else 0)=f e:=by
 rw[wX _ h,vM (fun j _=>by grind)];grind
theorem qJu{f g:Nat→Rat}:∀{n:Nat},(∀j,j<n→f j≤g j)→sm n f≤sm n g
 |0,_=>by simp[sm]
 |n+1,h=>by
  have h1:=qJu (n:=n) (fun j hj=>h j O1);simp only[sm];grind
theorem qIz(h:∀j,j<n→0≤f j):0≤sm n f:=by
 have:=qJu h;rwa[qKh] at this
theorem qV2{f:Nat→Rat}:∀{n:Nat},0<sm n f→∃j,j<n∧0<f j
 |0,h=>by simp[sm] at h
 |n+1,h=>by
  by_cases hn:0<f n
  ·grind
  obtain⟨j,h1,h2⟩:=qV2 (f:=f) (n:=n) (by simp[sm] at h;grind);grind
theorem qQ2(f:Nat→Nat→Rat)(n:Nat):∀(m:Nat),sm m (fun i=>sm n (fun j=>f i j))=sm n (fun j=>sm m (fun i=>f i j))
 |0=>by simp[sm];rw[qKh]
 |m+1=>by
  simp[sm];rw[qQ2,←qBd]
structure Tb where
 m:Nat
 n:Nat
 B:Nat→Int
 N:Nat→Int
 A:Nat→Nat→Rat
 b:Nat→Rat
 g:Nat→Rat
def Tb.row(t:Tb)(r e j:Nat):Rat:=(if j=e then 1 else t.A r j)*(1/t.A r e)
def Tb.pv(t:Tb)(r e:Nat):Tb where
 m:=t.m
 n:=t.n
 B:=fun i=>if i=r then t.N e else t.B i
 N:=fun j=>if j=e then t.B r else t.N j
 A:=fun i j=>if i=r then t.row r e j else(if j=e then 0 else t.A i j)-t.A i e*t.row r e j
 b:=fun i=>if i=r then t.b r*(1/t.A r e) else t.b i-t.A i e*(t.b r*(1/t.A r e))
 g:=fun j=>(if j=e then 0 else t.g j)-t.g e*t.row r e j
def Tb.sat(t:Tb)(x:Int→Rat):Prop:=∀i,i<t.m→x (t.B i)=t.b i-sm t.n (fun j=>t.A i j*x (t.N j))
section
variable {t:Tb}{r e:Nat}{x:Int→Rat}
theorem jCx{N:Nat→Int}{v:Int}(he:e<n)(a:Nat→Rat):sm n (fun j=>a j*x (if j=e then v else N j))=a e*x v+sm n (fun j=>if j=e then 0 else a j*x (N j)):=by
 rw[wX _ he];grind
theorem qR0(he:e<t.n):sm t.n (fun j=>t.row r e j*x (if j=e then t.B r else t.N j))=1/t.A r e*x (t.B r)+1/t.A r e*sm t.n (fun j=>if j=e then 0 else t.A r j*x (t.N j)):=by
 rw[jCx he,←yF];congr 1
 ·simp[Tb.row]
 exact jF fun j _=>by by_cases hj:j=e<;>simp[Tb.row]<;>grind
theorem qY9(he:e<t.n)(a:Nat→Rat):sm t.n (fun j=>((if j=e then 0 else a j)-a e*t.row r e j)*x (if j=e then t.B r else t.N j))
  =sm t.n (fun j=>if j=e then 0 else a j*x (t.N j))-a e*(1/t.A r e*x (t.B r)+1/t.A r e*sm t.n (fun j=>if j=e then 0 else t.A r j*x (t.N j))):=by
 rw[←qR0 he,←yF,←qLd,jCx he,wX (fun j=>(if j=e then 0 else a j*x _)-a e*(t.row r e j*x _)) he];grind
theorem qLq(hr:r<t.m)(he:e<t.n)(hA:t.A r e≠0):(t.pv r e).sat x↔t.sat x:=by
 have hinv:t.A r e*(1/t.A r e)=1:=by grind
 have old:∀i,sm _ (fun j=>t.A i j*x (t.N j))=_:=fun i=>wX _ he
 have e1:=qR0 (r:=r) (x:=x) he;have e2:=fun i=>qY9 (r:=r) (x:=x) he (t.A i)
 unfold Tb.sat;constructor
 ·intro h i hi;have hz:=h r hr;simp[Tb.pv,if_true] at hz;by_cases hy:i=r
  ·subst hy;grind
  have xt:=h i hi;simp[Tb.pv,if_neg hy] at xt;grind
 intro h i hi;have hz:=h r hr;rw[old] at hz;by_cases hy:i=r
 ·simp[Tb.pv,if_true];grind
 have xt:=h i hi;simp[Tb.pv,if_neg hy];grind
def Tb.val(t:Tb)(φ:(Int→Rat)→Rat)(k:Rat):Prop:=∀x,t.sat x→φ x=k+sm t.n (fun j=>t.g j*x (t.N j))
theorem qQg{φ:(Int→Rat)→Rat}{k:Rat}(hr:r<t.m)(he:e<t.n)(hA:t.A r e≠0)(h:t.val φ k):(t.pv r e).val φ (k+t.g e*(t.b r*(1/t.A r e))):=by
 intro x hx;have hX:=(qLq hr he hA).1 hx;have h1:=h x hX;have h2:=hx r hr;simp[Tb.pv,if_true] at h2⊢;rw[qR0 he] at h2;rw[qY9 he,h1,wX _ he];grind
end
end
section
variable{v:Int}{x:Int→Rat}
structure Tb.ok(t:Tb)(V:Int→Prop):Prop where
 bb:∀i k,i<t.m→k<t.m→t.B i=t.B k→i=k
 nn:∀j k,j<t.n→k<t.n→t.N j=t.N k→j=k
 bn:∀i j,i<t.m→j<t.n→t.B i≠t.N j
 cov:∀v,V v↔(∃i,i<t.m∧t.B i=v)∨(∃j,j<t.n∧t.N j=v)
def Tb.n6(t:Tb)(v:Int):Prop:=∃i,i<t.m∧t.B i=v
def Tb.p8(t:Tb)(v:Int):Prop:=∃j,j<t.n∧t.N j=v
section
variable {t:Tb}{V:Int→Prop}{r e:Nat}
theorem Tb.ok.not(h:t.ok V)(h1:t.n6 v)(h2:t.p8 v):False:=by
 obtain⟨i,hi,rfl⟩:=h1;obtain⟨j,hj,e⟩:=h2;exact h.bn i j hi hj e.symm
theorem Tb.ok.or(h:t.ok V)(hv:V v):t.n6 v∨t.p8 v:=(h.cov v).1 hv
theorem qLs(hr:r<t.m)(v:Int):(t.pv r e).n6 v↔v=t.N e∨∃i,i<t.m∧i≠r∧t.B i=v:=by
 constructor
 ·rintro⟨i,hi,hv⟩;by_cases hy:i=r
  ·simp[Tb.pv,if_pos hy] at hv;omega
  simp[Tb.pv,if_neg hy] at hv;exact .inr ⟨i,hi,hy,hv⟩
 rintro(rfl|⟨i,hi,hy,rfl⟩)
 ·exact⟨r,hr,by simp[Tb.pv]⟩
 exact⟨i,hi,by simp[Tb.pv,hy]⟩
theorem qLr(he:e<t.n)(v:Int):(t.pv r e).p8 v↔v=t.B r∨∃j,j<t.n∧j≠e∧t.N j=v:=by
 constructor
 ·rintro⟨j,hj,hv⟩;by_cases hg:j=e
  ·simp[Tb.pv,if_pos hg] at hv;omega
  simp[Tb.pv,if_neg hg] at hv;exact .inr ⟨j,hj,hg,hv⟩
 rintro(rfl|⟨j,hj,hg,rfl⟩)
 ·exact⟨e,he,by simp[Tb.pv]⟩
 exact⟨j,hj,by simp[Tb.pv,hg]⟩
theorem qXv(h:t.ok V)(hr:r<t.m)(he:e<t.n):(t.pv r e).ok V:=by
 have h1:=h.bb;have h2:=h.nn;have h3:=h.bn;refine⟨?_,?_,?_,?_⟩
 ·intro i k hi hk nw;simp[Tb.pv] at hi hk nw;grind
 ·intro i k hi hk nw;simp[Tb.pv] at hi hk nw;grind
 ·intro i j hi hj nu;simp[Tb.pv] at hi hj nu;grind
 intro v;rw[h.cov];show _↔(t.pv r e).n6 v∨(t.pv r e).p8 v
 rw[qLs hr,qLr he];grind
theorem qD4(h:t.ok V)(f:Nat→Rat):∃x:Int→Rat,t.sat x∧(∀j,j<t.n→x (t.N j)=f j)∧(∀i,i<t.m→x (t.B i)=t.b i-sm t.n (fun j=>t.A i j*f j)):=by
 classical
 obtain⟨x,hx⟩:∃x:Int→Rat,x=fun v=>if hb:∃i,i<t.m∧t.B i=v then t.b hb.choose-sm t.n (fun j=>t.A hb.choose j*f j)
   else if hn:∃j,j<t.n∧t.N j=v then f hn.choose else 0:=⟨_,O⟩
 have h1:∀j,j<t.n→x (t.N j)=f j:=by
  intro j hj;have hb:¬∃i,i<t.m∧t.B i=t.N j:=fun⟨i,hi,e⟩=>h.bn i j hi hj e
  have hn:∃k,k<t.n∧t.N k=t.N j:=⟨j,hj,O⟩;rw[hx];simp only[dif_neg hb,dif_pos hn];rw[h.nn _ _ hn.choose_spec.1 hj hn.choose_spec.2]
 have h2:∀i,i<t.m→x (t.B i)=t.b i-sm t.n (fun j=>t.A i j*f j):=by
  intro i hi;have hb:∃k,k<t.m∧t.B k=t.B i:=⟨i,hi,O⟩;rw[hx];simp only[dif_pos hb];rw[h.bb _ _ hb.choose_spec.1 hi hb.choose_spec.2]
 refine⟨x,fun i hi=>?_,h1,h2⟩;rw[h2 i hi];congr 1;exact jF fun j hj=>by grind
theorem qGd(h:t.ok V):∃x:Int→Rat,t.sat x∧(∀v,t.p8 v→x v=0)∧(∀i,i<t.m→x (t.B i)=t.b i):=by
 obtain⟨x,h1,h2,h3⟩:=qD4 h (fun _=>0);refine⟨x,h1,?_,fun i hi=>?_⟩
 ·rintro v ⟨j,hj,rfl⟩;grind
 rw[h3 i hi,vM (fun j _=>by grind)];grind
theorem qLi(hx:t.sat x)(h0:∀v,t.p8 v→x v=0):∀i,i<t.m→x (t.B i)=t.b i:=by
 intro i hi;rw[hx i hi,vM (fun j hj=>by rw[h0 _ ⟨j,hj,O⟩];grind)];grind
theorem qBt{φ:(Int→Rat)→Rat}{k:Rat}(hv:t.val φ k)(hx:t.sat x)(h0:∀v,t.p8 v→x v=0):φ x=k:=by
 rw[hv x hx,vM (fun j hj=>by rw[h0 _ ⟨j,hj,O⟩];grind)];grind
structure Bland(t:Tb)(r e:Nat):Prop where
 he:e<t.n
 pos:0<t.g e
 least:∀j,j<t.n→0<t.g j→t.N e≤t.N j
 hr:r<t.m
 piv:0<t.A r e
 ratio:∀i,i<t.m→0<t.A i e→t.b r*t.A i e≤t.b i*t.A r e∧(t.b r*t.A i e=t.b i*t.A r e→t.B r≤t.B i)
def Tb.feas(t:Tb):Prop:=∀i,i<t.m→0≤t.b i
theorem Bland.ne(h:Bland t r e):t.A r e≠0:=by have:=h.piv;grind
theorem qWv(h:Bland t r e)(hf:t.feas):(t.pv r e).feas:=by
 intro i hi;have hp:=h.piv;have h1:=pL.2 hp;have yh:=hf r h.hr;have h3:0≤_*(t.A r e)⁻¹:=iA yh (by grind);by_cases hy:i=r
 ·simp only[Tb.pv,if_pos hy];grind
 simp only[Tb.pv,if_neg hy];have jh:=hf i hi;by_cases ha:0<t.A i e
 ·have h4:=(h.ratio i hi ha).1;have h5:0≤(t.b i*t.A r e-t.b r*t.A i e)*(t.A r e)⁻¹:=iA (by grind) (by grind);have h6:(t.b i*t.A r e-t.b r*t.A i e)*(t.A r e)⁻¹=t.b i-t.A i e*(t.b r*(1/t.A r e)):=by grind
  grind
 have h5:0≤(-t.A i e)*_:=iA (by grind) h3;grind
end
structure Run(V:Int→Prop)(φ:(Int→Rat)→Rat)(T:Nat→Tb)(R E:Nat→Nat)(k:Nat):Prop where
 ok:(T 0).ok V
 feas:(T 0).feas
 val:∃c,(T 0).val φ c
 step:∀s,s<k→Bland (T s) (R s) (E s)∧T (s+1)=(T s).pv (R s) (E s)
section
variable {V:Int→Prop}{φ:(Int→Rat)→Rat}{T:Nat→Tb}{R E:Nat→Nat}{k:Nat}
theorem Run.all(h:Run V φ T R E k):∀s,s≤k→(T s).ok V∧(T s).feas∧(∀x,(T s).sat x↔(T 0).sat x)∧∃c,(T s).val φ c
 |0,_=>⟨h.ok,h.feas,fun _=>.rfl,h.val⟩
 |s+1,hs=>by
  obtain⟨h1,h2,h3,c,h4⟩:=h.all s O1;obtain⟨hb,e⟩:=h.step s O1;rw[e];exact⟨qXv h1 hb.hr hb.he,qWv hb h2,fun x=>(qLq hb.hr hb.he hb.ne).trans (h3 x),_,qQg hb.hr hb.he hb.ne h4⟩
theorem Run.part(h:Run V φ T R E k)(a b:Nat)(hb:a+b≤k):Run V φ (fun s=>T (a+s)) (fun s=>R (a+s)) (fun s=>E (a+s)) b:=by
 obtain⟨h1,h2,_,h4⟩:=h.all a O1;exact⟨h1,h2,h4,fun s hs=>h.step _ O1⟩
def qX1(T:Nat→Tb)(R E:Nat→Nat)(k:Nat)(v:Int):Prop:=∃s,s<k∧(v=(T s).N (E s)∨v=(T s).B (R s))
theorem Run.stays(h:Run V φ T R E k){v:Int}(hv:V v)(hf:¬qX1 T R E k v):∀s,s≤k→((T s).n6 v↔(T 0).n6 v)
 |0,_=>.rfl
 |s+1,hs=>by
  rw[←h.stays hv hf s O1];obtain⟨hb,e⟩:=h.step s O1;rw[e,qLs hb.hr];constructor
  ·rintro(rfl|⟨i,hi,_,rfl⟩)
   ·exact absurd ⟨s,O1,.inl O⟩ hf
   exact⟨i,hi,O⟩
  rintro⟨i,hi,rfl⟩;refine .inr ⟨i,hi,?_,O⟩;rintro rfl;exact hf ⟨s,O1,.inr O⟩
theorem qU2:∀(k:Nat),0<k→∃q,qX1 T R E k q∧∀v,qX1 T R E k v→v≤q
 |1,_=>by
  refine⟨max ((T 0).N (E 0)) ((T 0).B (R 0)),⟨0,O1,O1⟩,?_⟩;rintro v ⟨s,hs,hv⟩;grind
 |k+2,_=>by
  obtain⟨q,⟨s,hs,hq⟩,h2⟩:=qU2 (k+1) O1;have h3:∀v,qX1 T R E (k+2) v→v≤q∨v=(T (k+1)).N (E (k+1))∨v=(T (k+1)).B (R (k+1)):=by
   rintro v ⟨s,hs,hv⟩;by_cases hk:s=k+1
   ·grind
   exact .inl (h2 v ⟨s,O1,hv⟩)
  refine⟨max q (max ((T (k+1)).N (E (k+1))) ((T (k+1)).B (R (k+1)))),?_,fun v hv=>by grind⟩;by_cases yw:max ((T (k+1)).N (E (k+1))) ((T (k+1)).B (R (k+1)))≤q
  ·rw[show max q _=q from by omega];exact⟨s,O1,hq⟩
  exact⟨k+1,O1,O1⟩
theorem Run.left(h:Run V φ T R E k){v:Int}:∀s u,s≤u→u≤k→(T s).n6 v→¬(T u).n6 v→∃p,s≤p∧p<u∧v=(T p).B (R p)
 |s,0,hs,_,h1,h2=>by
  grind
 |s,u+1,hs,hu,h1,h2=>by
  by_cases gy:s=u+1
  ·grind
  by_cases hb:(T u).n6 v
  ·obtain⟨oo,e⟩:=h.step u O1;rw[e,qLs oo.hr] at h2;obtain⟨i,hi,rfl⟩:=hb;grind
  obtain⟨p,h3,h4,h5⟩:=h.left s u O1 O1 h1 hb;grind
theorem Run.aC1(h:Run V φ T R E k){v:Int}:∀s u,s≤u→u≤k→¬(T s).n6 v→(T u).n6 v→∃p,s≤p∧p<u∧v=(T p).N (E p)
 |s,0,hs,_,h1,h2=>by
  grind
 |s,u+1,hs,hu,h1,h2=>by
  by_cases gy:s=u+1
  ·grind
  by_cases hb:(T u).n6 v
  ·obtain⟨p,h3,h4,h5⟩:=h.aC1 s u O1 O1 h1 hb;grind
  obtain⟨oo,e⟩:=h.step u O1;rw[e,qLs oo.hr] at h2;rcases h2 with h2|⟨i,hi,_,hv⟩
  ·grind
  exact absurd ⟨i,hi,hv⟩ hb
theorem Run.aC7(h:Run V φ T R E k)(hk:0<k)(hK:∀v,V v→((T k).n6 v↔(T 0).n6 v)):False:=by
 have hc:∀s,∃c,s≤k→(T s).val φ c:=fun s=>by
  by_cases hs:s≤k
  ·obtain⟨_,_,_,c,h4⟩:=h.all s hs;grind
  exact⟨0,fun h=>absurd h hs⟩
 obtain⟨c,hc⟩:∃c:Nat→Rat,∀s,s≤k→(T s).val φ (c s):=⟨fun s=>(hc s).choose,fun s=>(hc s).choose_spec⟩;have ua:∀s,s≤k→∀d,(T s).val φ d→d=c s:=by
  intro s hs d hd;obtain⟨x,h1,h2,_⟩:=qGd (h.all s hs).1;rw[←qBt hd h1 h2,←qBt (hc s hs) h1 h2]
 have h5:∀s,s<k→c (s+1)=c s+(T s).g (E s)*((T s).b (R s)*(1/(T s).A (R s) (E s))):=by
  intro s hs;obtain⟨hb,e⟩:=h.step s hs;have:=qQg hb.hr hb.he hb.ne (hc s O1);rw[←e] at this;exact(ua (s+1) O1 _ this).symm
 have x4:∀s,s<k→0≤(T s).b (R s)*(1/(T s).A (R s) (E s)):=by
  intro s hs;obtain⟨hb,_⟩:=h.step s hs;have h1:=pL.2 hb.piv;have:=iA ((h.all s O1).2.1 _ hb.hr) (show 0≤((T s).A (R s) (E s))⁻¹by grind);grind
 have xh:∀s,s<k→c s≤c (s+1):=by
  intro s hs;have h1:=h5 s hs;have h2:=iA (show 0≤(T s).g (E s) from by have:=(h.step s hs).1.pos;grind) (x4 s hs);grind
 have hY:∀s u,s≤u→u≤k→c s≤c u:=by
  intro s u gy;induction u with
  |zero=>
   grind
  |succ u ih=>
   grind
 obtain⟨X,hJ,hZ,xj⟩:=qGd h.ok;have hN:∀s,s≤k→∀v,(T s).p8 v→V v:=fun s hs v hv=>((h.all s hs).1.cov v).2 (.inr hv)
 have u0:c k=c 0:=by
  have hz:∀v,(T k).p8 v→X v=0:=by
   intro v hv;have hV:=hN k O1 v hv;rcases h.ok.or hV with hb|hn
   ·exact absurd ((hK v hV).2 hb) (fun hb=>(h.all k O1).1.not hb hv)
   exact hZ v hn
  rw[←qBt (hc k O1) (((h.all k O1).2.2.1 X).2 hJ) hz,←qBt (hc 0 O1) hJ hZ]
 have fs:∀s,s≤k→c s=c 0:=by
  intro s hs;have h1:=hY 0 s O1 hs;have h2:=hY s k hs O1;grind
 have ix:∀s,s<k→(T s).b (R s)=0:=by
  intro s hs;have h1:=h5 s hs;rw[fs (s+1) O1,fs s O1] at h1;obtain⟨hb,_⟩:=h.step s hs;have h2:=hb.pos;have h3:=hb.piv;have h4:(T s).g (E s)*((T s).b (R s)*(1/(T s).A (R s) (E s)))=0:=by grind
  grind
 have hF:∀s,s≤k→(∀v,(T s).p8 v→X v=0):=by
  intro s;induction s with
  |zero=>grind
  |succ s ih=>
   intro hs v hv;have ih:=ih O1;obtain⟨hb,e⟩:=h.step s O1;rw[e,qLr hb.he] at hv;rcases hv with rfl|⟨j,hj,_,rfl⟩
   ·rw[qLi (((h.all s O1).2.2.1 X).2 hJ) ih _ hb.hr];grind
   exact ih _ ⟨j,hj,O⟩
 obtain⟨q,hq,xi⟩:=qU2 (T:=T) (R:=R) (E:=E) k hk;have hU:V q:=by
  obtain⟨s,hs,hq⟩:=hq;obtain⟨hb,_⟩:=h.step s hs;rcases hq with rfl|rfl
  ·exact((h.all s O1).1.cov _).2 (.inr ⟨_,hb.he,O⟩)
  exact((h.all s O1).1.cov _).2 (.inl ⟨_,hb.hr,O⟩)
 have xa:∀s,s<k→(T (s+1)).n6 ((T s).N (E s))∧¬(T s).n6 ((T s).N (E s)):=by
  intro s hs;obtain⟨hb,e⟩:=h.step s hs;refine⟨by rw[e,qLs hb.hr];omega,fun ht=>(h.all s O1).1.not ht ⟨_,hb.he,O⟩⟩
 have xf:∀s,s<k→¬(T (s+1)).n6 ((T s).B (R s))∧(T s).n6 ((T s).B (R s)):=by
  intro s hs;obtain⟨hb,e⟩:=h.step s hs;refine⟨fun ht=>(h.all (s+1) O1).1.not ht (by rw[e,qLr hb.he];exact .inl O),⟨_,hb.hr,O⟩⟩
 have xb:(∃s,s<k∧q=(T s).B (R s))∧(∃u,u<k∧q=(T u).N (E u)):=by
  obtain⟨s,hs,h9⟩:=hq;rcases h9 with h9|h9
  ·refine⟨?_,s,hs,h9⟩;obtain⟨h1,h2⟩:=xa s hs;rw[←h9] at h1 h2;by_cases uq:(T k).n6 q
   ·have:=(hK q hU).1 uq;obtain⟨p,_,hp,e⟩:=h.left 0 s O1 O1 this h2;grind
   obtain⟨p,_,hp,e⟩:=h.left _ k O1 O1 h1 uq;grind
  refine⟨⟨s,hs,h9⟩,?_⟩;obtain⟨h1,h2⟩:=xf s hs;rw[←h9] at h1 h2;by_cases uq:(T k).n6 q
  ·obtain⟨p,_,hp,e⟩:=h.aC1 _ k O1 O1 h1 uq;grind
  have h0:¬(T 0).n6 q:=fun h0=>uq ((hK q hU).2 h0)
  obtain⟨p,_,hp,e⟩:=h.aC1 0 s O1 O1 h0 h2;exact⟨p,O1,e⟩
 obtain⟨⟨s,hs,h9⟩,u,hu,xk⟩:=xb;obtain⟨hm,_⟩:=h.step s hs;obtain⟨h6,_⟩:=h.step u hu;obtain⟨hQ,_,hX,_⟩:=h.all s O1;obtain⟨hT,_,xc,_⟩:=h.all u O1;obtain⟨y,hh,eo,hD⟩:=qD4 hQ (fun j=>if j=E s then 1 else 0);have xd:∀i,i<(T s).m→y ((T s).B i)=(T s).b i-(T s).A i (E s):=by
  intro i hi;rw[hD i hi,←xY (fun j=>(T s).A i j) hm.he];congr 1;exact jF fun j _=>by by_cases hj:j=E s<;>simp[hj]
 have s7:φ y=c 0+(T s).g (E s):=by
  rw[hc s O1 y hh,fs s O1,←xY (fun j=>(T s).g j) hm.he];congr 1;exact jF fun j hj=>by rw[eo j hj];by_cases hj:j=E s<;>simp[hj]
 have xe:=(xc y).2 ((hX y).1 hh);have s8:=hc u O1 y xe;rw[fs u O1,s7] at s8;have hx:=hm.pos;obtain⟨j,hj,xx⟩:=qV2 (show 0<sm (T u).n (fun j=>(T u).g j*y ((T u).N j)) by grind);have hM:(T u).p8 _:=⟨j,hj,O⟩;have hH:=hN u O1 _ hM;have xg:=hF u O1 _ hM;have pe:¬(T u).n6 _:=fun hb=>hT.not hb hM
 have yw:∀v,v=(T u).N j→qX1 T R E k v→v≠q→(T u).g j≤0:=by
  intro v hv hf xr;by_cases hg:0<(T u).g j
  ·have h1:=h6.least j hj hg;grind
  grind
 rcases hQ.or hH with hB|⟨j',hP,hL⟩
 ·
  obtain⟨i,hi,hS⟩:=hB;have h7:=xd i hi;have h8:=qLi ((hX X).2 hJ) (hF s O1) i hi;rw[hS,xg] at h8;rw[hS,←h8] at h7;have hf:qX1 T R E k ((T u).N j):=by
   refine bG fun hE=>pe ?_
   rw[h.stays hH hE u O1,←h.stays hH hE s O1];exact⟨i,hi,hS⟩
  by_cases uw:(T u).N j=q
  ·have hy:=hQ.bb i _ hi hm.hr O1;have hl:=hT.nn j _ hj h6.he O1;have h1:=hm.piv;have h2:=h6.pos;have h3:=oH h1 h2;rw[h7] at xx;grind
  have hA:0<(T s).A i (E s):=by
   refine bG fun hA=>?_
   have:=iA (show 0≤-(T u).g j by grind) (show 0≤-(T s).A i (E s) by grind);rw[h7] at xx;grind
  have h1:=(hm.ratio i hi hA).2 (by grind);grind
 have h7:=eo j' hP;rw[hL] at h7;by_cases hl:j'=E s
 ·rw[if_pos hl] at h7;have hf:qX1 T R E k ((T u).N j):=⟨s,hs,.inl (by grind)⟩;rw[h7] at xx;grind
 rw[if_neg hl] at h7;rw[h7] at xx;grind
end
end
section
theorem jDz:∀(M:Nat) (l:List Nat),l.Nodup→(∀x∈l,x<M)→l.length≤M
 |0,l,_,h=>by
  cases l with
  |nil=>simp
  |cons x l=>exact absurd (h x O4) O1
 |M+1,l,hn,h=>by
  have h1:=jDz M _ (hn.erase M) (fun x hx=>by
   grind)
  grind
theorem jF7{f:Nat→Nat}{k M:Nat}(h:∀s,s≤k→f s<M)(hi:∀s u,s<u→u≤k→f s≠f u):k<M:=by
 have:=jDz M ((range (k+1)).map f) (by
  rw[dZ,nU];refine(nH).imp_of_mem ?_;grind) (by
  grind)
 grind
open Classical in
noncomputable def qRu(p:Int→Prop):List Int→Nat
 |[]=>0
 |v::l=>2*qRu p l+(if p v then 1 else 0)
theorem qRt(p:Int→Prop):∀l,qRu p l<2^l.length
 |[]=>by simp[qRu]
 |v::l=>by
  have:=qRt p l;simp only[qRu,bT,dD];grind
theorem qL0{p q:Int→Prop}:∀{l},qRu p l=qRu q l→∀v∈l,(p v↔q v)
 |[],_,_,h=>by cases h
 |v::l,h,u,hu=>by
  simp[qRu] at h;by_cases hp:p v<;>by_cases hq:q v<;>simp only[hp,hq,if_true,iW] at h
  ·rcases bE.1 hu with rfl|hu
   ·grind
   exact qL0 O1 u hu
  ·omega
  ·omega
  rcases bE.1 hu with rfl|hu
  ·grind
  exact qL0 O1 u hu
theorem Run.len{V:Int→Prop}{φ:(Int→Rat)→Rat}{T:Nat→Tb}{R E:Nat→Nat}{k:Nat}(h:Run V φ T R E k)(l:List Int)(hl:∀v,V v→v∈l):k<2^l.length:=by
 refine jF7 (f:=fun s=>qRu (T s).n6 l) (fun s _=>qRt _ _) ?_;intro s u gy hg he;have hp:=h.part s (u-s) O1;refine hp.aC7 O1 fun v hv=>?_
 have:=qL0 he v (hl v hv);grind
end
section
variable{M:Nat}
open Classical in
noncomputable def ct(p:Nat→Prop):Nat→Nat
 |0=>0
 |n+1=>ct p n+(if p n then 1 else 0)
theorem jN5(p:Nat→Prop):∀n,ct p n≤n
 |0=>by simp[ct]
 |n+1=>by
  have:=jN5 p n;simp only[ct];grind
theorem qZe{p:Nat→Prop}:∀{n},ct p n=0→∀i,i<n→¬p i
 |0,_,i,hi=>O1
 |n+1,h,i,hi=>by
  simp only[ct] at h;by_cases hp:p n
  ·grind
  by_cases hg:i=n
  ·grind
  exact qZe (by simp only[hp,iW] at h;omega) i O1
theorem qRs{p q:Nat→Prop}:∀{n},(∀i,i<n→q i→p i)→ct q n≤ct p n
 |0,_=>by simp[ct]
 |n+1,h=>by
  have h1:=qRs (n:=n) (fun i hi=>h i O1);simp only[ct];grind
theorem jN4{p q:Nat→Prop}:∀{n i0:Nat},(∀i,i<n→q i→p i)→i0<n→p i0→¬q i0→ct q n<ct p n
 |n+1,i0,h,hi,hp,hq=>by
  simp[ct];by_cases he:i0=n
  ·have:=qRs (n:=i0) (fun i hi=>h i O1);grind
  have h1:=jN4 (n:=n) (fun i hi=>h i O1) O1 hp hq;grind
def Ov(D M:Nat)(a:Rat):Prop:=∃x:Int,a*D=x∧x.natAbs≤M
structure Tb.q4(t:Tb)(M:Nat):Prop where
 ex:∃D:Nat,0<D∧D≤M∧(∀i,i<t.m→Ov D M (t.b i))∧∀i j,i<t.m→j<t.n→Ov D M (t.A i j)
theorem qD1{x y:Int}(hx:x.natAbs≤M)(hy:y.natAbs≤M):(x*y).natAbs≤M*M:=by
 rw[oE];exact cF hx hy
theorem Ov.le{D M':Nat}{a:Rat}(h:Ov D M a)(hm:M≤M'):Ov D M' a:=by
 obtain⟨x,h1,h2⟩:=h;exact⟨x,h1,O1⟩
theorem Tb.q4.le{t:Tb}{M M':Nat}(h:t.q4 M)(hm:M≤M'):t.q4 M':=by
 obtain⟨D,h1,h2,h3,h4⟩:=h.ex;exact⟨D,h1,O1,fun i hi=>(h3 i hi).le hm,fun i j hi hj=>(h4 i j hi hj).le hm⟩
section
variable {D M:Nat}{p:Int}{a b c q:Rat}
theorem qJ3(h:D≤M):Ov D M 1:=by
 refine⟨D,?_,O1⟩;have:(D:Int)=(D:Rat):=O;grind
theorem qI6:Ov D M 0:=by
 refine⟨0,?_,O4⟩;simp
theorem jN6{s:Int}(hp:(p.natAbs:Int)=s*p):((D*p.natAbs:Nat):Rat)=(D:Rat)*((s:Rat)*(p:Rat)):=by
 have:((D*_:Nat):Rat)=((D*p.natAbs:Nat):Int):=O;rw[this,bU,hp,nQ,nQ];rfl
theorem jV9(p:Int):∃s:Int,(s=1∨s= -1)∧(p.natAbs:Int)=s*p:=by
 grind
theorem jE4(hD:0<D)(hg:D≤M)(mw:p≠0)(hq:q*D=p)(ha:Ov D M a):Ov (D*p.natAbs) (2*(M*M)) (a*(1/q)):=by
 obtain⟨x,hx,hj⟩:=ha;obtain⟨s,hs,hh⟩:=jV9 p;have hp':(p:Rat)≠0:=by
  intro h;exact mw (by exact_mod_cast h)
 refine⟨s*(x*D),?_,?_⟩
 ·rw[jN6 hh];have:(D:Int)=(D:Rat):=O;grind
 have h1:(s*(x*D)).natAbs=(x*D).natAbs:=by rcases hs with rfl|rfl<;>simp
 have:=qD1 (y:=D) hj O1;omega
theorem qTg(hD:0<D)(mw:p≠0)(hg:p.natAbs≤M)(hq:q*D=p)(ha:Ov D M a)(hb:Ov D M b)(hc:Ov D M c):Ov (D*p.natAbs) (2*(M*M)) (a-b*(c*(1/q))):=by
 obtain⟨x,hx,hj⟩:=ha;obtain⟨y,hy,hm⟩:=hb;obtain⟨z,hz,hl⟩:=hc;obtain⟨s,hs,hh⟩:=jV9 p;have hp':(p:Rat)≠0:=by
  intro h;exact mw (by exact_mod_cast h)
 refine⟨s*(x*p-y*z),?_,?_⟩
 ·rw[jN6 hh];grind
 have h1:(s*(x*p-y*z)).natAbs=(x*p-y*z).natAbs:=by rcases hs with rfl|rfl<;>simp
 have h2:=qD1 hj hg;have h3:=qD1 hm hl;omega
end
theorem jOo{t:Tb}{r e:Nat}(h:t.q4 M)(hr:r<t.m)(he:e<t.n)(hA:t.A r e≠0):(t.pv r e).q4 (2*(M*M)):=by
 obtain⟨D,hD,hg,hb,hm⟩:=h.ex;obtain⟨p,hp,hh⟩:=hm r e hr he;have mw:p≠0:=by
  rintro rfl;have h1:(D:Rat)≠0:=by
   intro h;have:D=0:=by exact_mod_cast h
   omega
  have h2:((0:Int):Rat)=0:=O;rw[h2] at hp;grind
 have one:=qJ3 hg;have zero:Ov D M 0:=qI6;refine⟨D*p.natAbs,iU hD O1,?_,?_,?_⟩
 ·have:=cF hg hh;omega
 ·intro i hi;by_cases hy:i=r
  ·simp[Tb.pv,if_pos hy];exact jE4 hD hg mw hp (hb r hr)
  simp[Tb.pv,if_neg hy];exact qTg hD mw hh hp (hb i hi) (hm i e hi he) (hb r hr)
 intro i j hi hj;have xa:Ov D M (if j=e then 1 else t.A r j):=by
  by_cases hl:j=e
  ·grind
  rw[if_neg hl];exact hm r j hr hj
 by_cases hy:i=r
 ·simp[Tb.pv,if_pos hy];exact jE4 hD hg mw hp xa
 simp[Tb.pv,if_neg hy];refine qTg hD mw hh hp ?_ (hm i e hi he) xa;by_cases hl:j=e
 ·grind
 rw[if_neg hl];exact hm i j hi hj
def gr:Nat→Nat→Nat
 |M,0=>M
 |M,k+1=>gr (2*(M*M)) k
theorem qYv:∀{k M M':Nat},M≤M'→gr M k≤gr M' k
 |0,_,_,h=>h
 |k+1,M,M',h=>qYv (k:=k) (by have:=cF h h;omega)
theorem qYw:∀{k M:Nat},M≤gr M k
 |0,_=>bM _
 |k+1,M=>bL (by
  rcases dH M with h|h
  ·omega
  have:=dK M h;omega) (qYw (k:=k))
theorem qYu{k:Nat}:gr M k≤gr M (k+1):=qYv (by
 rcases dH M with h|h
 ·omega
 have:=dK M h;omega)
section
variable {t u:Tb}{V:Int→Prop}
theorem qOc(ht:t.ok V){x y:Int→Rat}(hx:t.sat x)(hy:t.sat y)(h:∀v,t.p8 v→x v=y v):∀v,V v→x v=y v:=by
 intro v hv;rcases ht.or hv with⟨i,hi,rfl⟩|hn
 ·rw[hx i hi,hy i hi];congr 1;exact jF fun j hj=>by rw[h _ ⟨j,hj,O⟩]
 grind
theorem jV6(ht:t.ok V):∀(d M:Nat) (u:Tb),u.ok V→(∀x,u.sat x↔t.sat x)→u.q4 M→ct (fun i=>u.p8 (t.B i)) t.m≤d→
  ∃u':Tb,u'.ok V∧(∀x,u'.sat x↔t.sat x)∧u'.q4 (gr M d)∧(∀v,V v→(u'.n6 v↔t.n6 v)):=by
 intro d;induction d with
 |zero=>
  intro M u hu hs hb hc;have h0:=qZe (Nat.le_zero.1 hc);refine⟨u,hu,hs,hb,fun v hv=>⟨fun l2=>?_,fun⟨i,hi,e⟩=>?_⟩⟩
  ·rcases ht.or hv with h|⟨j,hj,rfl⟩
   ·exact h
   obtain⟨x,hg,en,_⟩:=qD4 ht (fun _=>0);obtain⟨y,hx,eo,_⟩:=qD4 ht (fun k=>if k=j then 1 else 0)
   have:=qOc hu ((hs x).2 hg) ((hs y).2 hx) (by
    intro v' hm;have hz:=(hu.cov v').2 (.inr hm);rcases ht.or hz with⟨i,hi,rfl⟩|⟨j',hj',rfl⟩
    ·grind
    rw[en j' hj',eo j' hj',if_neg];rintro rfl
    exact hu.not l2 hm) _ hv
   grind
  rcases hu.or hv with h|h
  ·exact h
  grind
 |succ d ih=>
  intro M u hu hs hb hc;by_cases hex:∃i,i<t.m∧u.p8 (t.B i)
  ·obtain⟨i,hi,e,he,hy⟩:=hex;have h6:=(hu.cov _).2 (.inr ⟨e,he,O⟩);obtain⟨r,hr,hA,h5⟩:∃r,r<u.m∧u.A r e≠0∧t.p8 (u.B r):=by
    refine bG fun hn=>?_
    obtain⟨x,hg,en,hh⟩:=qD4 hu (fun _=>0);obtain⟨y,hx,eo,hD⟩:=qD4 hu (fun k=>if k=e then 1 else 0)
    have:=qOc ht ((hs x).1 hg) ((hs y).1 hx) (by
     intro v' hm;have hz:=(ht.cov v').2 (.inr hm);rcases hu.or hz with⟨k,hk,rfl⟩|⟨j',hj',rfl⟩
     ·grind
     rw[en j' hj',eo j' hj',if_neg];rintro rfl
     exact ht.not ⟨i,hi,hy.symm⟩ hm) _ h6
    grind
   have hl:=jN4 (p:=fun i=>u.p8 _) (q:=fun i=>(u.pv r e).p8 _) (by
    intro k hk hq;rw[qLr he] at hq;rcases hq with hq|⟨j,hj,_,hq⟩
    ·exact absurd h5 (ht.not ⟨k,hk,hq⟩)
    ·exact⟨j,hj,hq⟩) hi ⟨e,he,hy⟩ (by
    rw[qLr he];rintro(hq|⟨j,hj,hje,hq⟩)
    ·exact ht.not ⟨i,hi,hq⟩ h5
    exact hje (hu.nn j e hj he O1))
   exact ih _ _ (qXv hu hr he) (fun x=>(qLq hr he hA).trans (hs x)) (jOo hb hr he hA) O1
  have h0:ct (fun i=>u.p8 (t.B i)) t.m≤d:=by
   have h1:ct (fun i=>u.p8 (t.B i)) t.m≤ct (fun _=>False) t.m:=qRs fun i hi h=>hex ⟨i,hi,h⟩
   have h2:∀n,ct (fun _=>False) n=0:=by
    intro n;induction n with
    |zero=>rfl
    |succ n ih=>simp[ct,ih]
   rw[h2] at h1;omega
  obtain⟨u',h1,h2,h3,h4⟩:=ih M u hu hs hb h0;exact⟨u',h1,h2,h3.le qYu,h4⟩
theorem qV9(ht:t.ok V)(hu:u.ok V)(hs:∀x,u.sat x↔t.sat x)(hB:∀v,V v→(u.n6 v↔t.n6 v))(hb:u.q4 M):t.q4 M:=by
 obtain⟨D,hD,hg,h1,h2⟩:=hb.ex;have row:∀i,i<t.m→∃k,_∧_:=fun i hi=>(hB _ ((ht.cov _).2 (.inl ⟨i,hi,O⟩))).2 ⟨i,hi,O⟩
 have free:∀v,V v→(t.p8 v↔u.p8 v):=by
  intro v hv;constructor
  ·intro h;rcases hu.or hv with h'|h'
   ·exact absurd ((hB v hv).1 h') (fun h'=>ht.not h' h)
   exact h'
  intro h;rcases ht.or hv with h'|h'
  ·exact absurd ((hB v hv).2 h') (fun h'=>hu.not h' h)
  exact h'
 have base:∀i k,i<t.m→k<u.m→u.B k=t.B i→u.b k=t.b i:=by
  intro i k hi hk e;obtain⟨x,hh,en,hm⟩:=qGd ht;rw[←hm i hi,←e,qLi ((hs x).2 hh) (fun v hv=>en v ((free v ((hu.cov v).2 (.inr hv))).2 hv)) k hk]
 refine⟨D,hD,hg,fun i hi=>?_,fun i j hi hj=>?_⟩
 ·grind
 obtain⟨k,hk,e⟩:=row i hi;have hH:=(ht.cov _).2 (.inr ⟨j,hj,O⟩);obtain⟨l,hl,el⟩:=(free _ hH).1 ⟨j,hj,O⟩;have:t.A i j=u.A k l:=by
  obtain⟨y,hn,eo,hx⟩:=qD4 ht (fun q=>if q=j then 1 else 0);have e1:=hx i hi;have e2:=(hs y).2 hn k hk;rw[jF (g:=fun q=>if q=j then t.A i q else 0) (fun q _=>by grind),xY (fun q=>t.A i q) hj] at e1;have e3:sm u.n (fun q=>u.A k q*y (u.N q))=sm u.n (fun q=>if q=l then u.A k q else 0):=by
   refine jF fun q hq=>?_
   by_cases hy:q=l
   ·grind
   rw[if_neg hy];obtain⟨p,hp,ep⟩:=(free _ ((hu.cov _).2 (.inr ⟨q,hq,O⟩))).2 ⟨q,hq,O⟩;rw[←ep,eo p hp,if_neg]
   ·grind
   rintro rfl;exact hy (hu.nn q l hq hl O1)
  rw[e3,xY (fun q=>u.A k q) hl,e,e1,base i k hi hk e] at e2;grind
 grind
theorem jN7(ht:t.ok V)(hu:u.ok V)(hs:∀x,u.sat x↔t.sat x)(hb:u.q4 M):t.q4 (gr M t.m):=by
 obtain⟨u',h1,h2,h3,h4⟩:=jV6 ht t.m M u hu hs hb (jN5 _ _);exact qV9 ht h1 h2 h4 h3
end
end
section
variable{n e j:Nat}{a b c d:Rat}{M:Nat}{x:Int→Rat}{V':Int→Prop}
section
variable {t u:Tb}{V:Int→Prop}{r e:Nat}{φ:(Int→Rat)→Rat}{k:Rat}
theorem qEq(hb:0<b)(hd:0<d):a/b≤c/d↔a*d≤c*b:=by
 have h1:=pL.2 hb;have h2:=pL.2 hd;constructor
 ·intro h;have:=dQ h (show 0≤b*d by have:=oH hb hd;grind);have e1:b*d*(a/b)=a*d:=by grind
  have e2:b*d*(c/d)=c*b:=by grind
  grind
 intro h;have:=dQ h (show 0≤b⁻¹*d⁻¹by have:=oH h1 h2;grind);have e1:b⁻¹*d⁻¹*(a*d)=a/b:=by grind
 have e2:b⁻¹*d⁻¹*(c*b)=c/d:=by grind
 grind
theorem qKc(hb:0<b)(hd:0<d):a/b=c/d↔a*d=c*b:=by
 grind
theorem qTj(ht:t.ok V)(hf:t.feas)(hv:t.val φ k)(he:e<t.n)(hg:0<t.g e)(hA:∀i,i<t.m→t.A i e≤0)(K:Rat):
  ∃x,t.sat x∧(∀v,V v→0≤x v)∧K<φ x:=by
 obtain⟨θ,h0,h1⟩:∃θ:Rat,0≤θ∧K<k+t.g e*θ:=by
  by_cases hK:K<k
  ·exact⟨0,mX,by grind⟩
  have h2:=pL.2 hg;have h3:=iA (show 0≤K-k+1 by grind) (show 0≤(t.g e)⁻¹by grind);have e1:t.g e*((K-k+1)*(t.g e)⁻¹)=K-k+1:=by grind
  grind
 obtain⟨x,hh,en,hl⟩:=qD4 ht (fun j=>if j=e then θ else 0);refine⟨x,hh,?_,?_⟩
 ·intro v hV;rcases ht.or hV with⟨i,hi,rfl⟩|⟨j,hj,rfl⟩
  ·rw[hl i hi,jF (g:=fun j=>if j=e then t.A i j*θ else 0) (fun j _=>by grind),xY _ he];have:=hf i hi;have:=iA (show 0≤-t.A i e by grind) h0;grind
  grind
 rw[hv x hh,jF (g:=fun j=>if j=e then t.g j*θ else 0) (fun j hj=>by grind),xY _ he];exact h1
theorem jJz(ht:t.ok V)(hv:t.val φ k)(hg:∀j,j<t.n→t.g j≤0){y:Int→Rat}(hy:t.sat y)(ug:∀v,V v→0≤y v):φ y≤k:=by
 rw[hv y hy]
 have:=qIz (f:=fun j=>-(t.g j*y (t.N j))) (fun j hj=>by
  have:=iA (show 0≤-t.g j by grind) (ug _ ((ht.cov _).2 (.inr ⟨j,hj,O⟩)))
  grind)
 have h2:sm t.n (fun j=>-(t.g j*y (t.N j)))= -sm t.n (fun j=>t.g j*y (t.N j)):=by
  rw[jF (g:=fun j=>(-1)*(t.g j*y (t.N j))) (fun j _=>by grind),yF];grind
 grind
theorem qYy(ht:t.ok V)(hv:t.val φ k){s:Rat}{v0:Int}(hφ:∀x,φ x=s*x v0)(hs:s=1∨s= -1)(h0:V v0){D:Nat}(hD:D≤M)(hA:∀i j,i<t.m→j<t.n→Ov D M (t.A i j)):∀j,j<t.n→Ov D M (t.g j):=by
 intro j hj;obtain⟨x,hg,en,hh⟩:=qGd ht;obtain⟨y,hl,eo,hm⟩:=qD4 ht (fun q=>if q=j then 1 else 0);have e1:=qBt hv hg en;have e2:=hv y hl;rw[jF (g:=fun q=>if q=j then t.g q else 0) (fun q hq=>by grind),xY _ hj,hφ] at e2;have neg:∀{a:Rat},Ov D M a→Ov D M (-a):=by
  rintro a ⟨p,h1,h2⟩;refine⟨-p,?_,O1⟩;rw[Rat.intCast_neg];grind
 have key:Ov D M (y v0-x v0):=by
  rcases ht.or h0 with⟨i,hi,rfl⟩|⟨q,hq,rfl⟩
  ·rw[hh i hi,hm i hi,jF (g:=fun q=>if q=j then t.A i q else 0) (fun q hq=>by grind),xY _ hj];grind
  rw[en _ ⟨q,hq,O⟩,eo q hq];by_cases hq:q=j
  ·rw[if_pos hq];have:(1:Rat)-0=1:=by grind
   rw[this];exact qJ3 hD
  rw[if_neg hq];have:(0:Rat)-0=0:=by grind
  rw[this];exact qI6
 grind
inductive Climb (t:Tb):Tb→Nat→Prop
 |refl:Climb t t 0
 |step {u:Tb} {k r e:Nat}:Climb t u k→Bland u r e→Climb t (u.pv r e) (k+1)
theorem Climb.run(ht:t.ok V)(hf:t.feas)(hv:t.val φ k)(h:Climb t u n):∃T R E,T 0=t∧T n=u∧Run V φ T R E n:=by
 induction h with
 |refl=>exact⟨fun _=>t,fun _=>0,fun _=>0,O,O,ht,hf,⟨k,hv⟩,fun s hs=>O1⟩
 | @step u n r e _ hb ih=>
  obtain⟨T,R,E,h1,h2,h3⟩:=ih;refine⟨fun s=>if s≤n then T s else u.pv r e,fun s=>if s<n then R s else r,fun s=>if s<n then E s else e,by simp[h1],if_neg O1,⟨by grind,by grind,by grind,fun s hs=>?_⟩⟩;by_cases e8:s<n
  ·have:=h3.step s e8;grind
  grind
structure Climbed(V:Int→Prop)(φ:(Int→Rat)→Rat)(t u:Tb):Prop where
 ok:u.ok V
 feas:u.feas
 sat:∀x,u.sat x↔t.sat x
 val:∃c,u.val φ c
 m:u.m=t.m
 n:u.n=t.n
theorem Climb.mn(h:Climb t u n):u.m=t.m∧u.n=t.n:=by
 induction h with
 |refl=>omega
 |step _ _ ih=>exact ih
theorem Climb.fin(ht:t.ok V)(hf:t.feas)(hv:t.val φ k)(h:Climb t u n):Climbed V φ t u:=by
 obtain⟨T,R,E,h1,h2,h3⟩:=h.run ht hf hv;obtain⟨a,b,c,d⟩:=h3.all n O1;rw[h2] at a b c d;rw[h1] at c;exact⟨a,b,c,d,h.mn.1,h.mn.2⟩
theorem Climb.len(ht:t.ok V)(hf:t.feas)(hv:t.val φ k){n:Nat}(h:Climb t u n)(l:List Int)(hl:∀v,V v→v∈l):n<2^l.length:=by
 obtain⟨T,R,E,_,_,h3⟩:=h.run ht hf hv;exact h3.len l hl
def Tb.ext(t:Tb):Tb where
 m:=t.m
 n:=t.n+1
 B:=t.B
 N:=fun j=>if j=t.n then-1 else t.N j
 A:=fun i j=>if j=t.n then-1 else t.A i j
 b:=t.b
 g:=fun j=>if j=t.n then-1 else t.g j
theorem jQ5(ht:t.ok V)(hV:¬V (-1)):t.ext.ok (fun v=>V v∨v= -1):=by
 have hB:∀i,i<t.m→_≠-1:=fun i hi e=>hV (e▸(ht.cov _).2 (.inl ⟨i,hi,O⟩))
 have hN:∀i,i<t.n→_≠-1:=fun i hi e=>hV (e▸(ht.cov _).2 (.inr ⟨i,hi,O⟩))
 refine⟨ht.bb,?_,?_,?_⟩
 ·intro j k hj hk e;simp[Tb.ext] at hj hk e;by_cases h1:j=t.n<;>by_cases h2:k=t.n<;>simp[h1,h2,if_true,iW] at e⊢
  ·grind
  ·grind
  exact ht.nn j k O1 O1 e
 ·intro i j hi hj e;simp[Tb.ext] at hi hj e;by_cases h1:j=t.n<;>simp[h1,if_true,iW] at e
  ·grind
  exact ht.bn i j hi O1 e
 intro v;constructor
 ·rintro(h|rfl)
  ·rcases ht.or h with⟨i,hi,rfl⟩|⟨j,hj,rfl⟩
   ·exact .inl ⟨i,hi,O⟩
   exact .inr ⟨j,show j<t.n+1 by omega,by simp only[Tb.ext];omega⟩
  exact .inr ⟨_,show t.n<t.n+1 by omega,by simp[Tb.ext]⟩
 rintro(⟨i,hi,rfl⟩|⟨j,hj,rfl⟩)
 ·exact .inl ((ht.cov _).2 (.inl ⟨i,hi,O⟩))
 simp only[Tb.ext] at hj⊢;by_cases h1:j=t.n
 ·omega
 rw[if_neg h1];exact .inl ((ht.cov _).2 (.inr ⟨j,O1,O⟩))
theorem qRc(a:Nat→Rat)(c:Rat)(x:Int→Rat):sm (t.n+1) (fun j=>(if j=t.n then c else a j)*x (if j=t.n then-1 else t.N j))=sm t.n (fun j=>a j*x (t.N j))+c*x (-1):=by
 simp[sm,if_true];congr 1;exact jF fun j hj=>by grind
theorem qZ1:t.ext.sat x↔∀i,i<t.m→x (t.B i)=t.b i-(sm t.n (fun j=>t.A i j*x (t.N j))+(-1)*x (-1)):=by
 simp[Tb.ext];constructor
 ·intro h i hi;have:=h i hi;rw[qRc] at this;omega
 intro h i hi;rw[qRc];grind
theorem jL0(hg:∀j,j<t.n→t.g j=0):t.ext.val (fun x=>(-1)*x (-1)) 0:=by
 intro x _;simp[Tb.ext];rw[qRc,vM (fun j hj=>by grind)];grind
theorem jFm(hn:t.b r<0)(hl:∀i,i<t.m→t.b r≤t.b i):(t.ext.pv r t.n).feas:=by
 intro i hi;have hi:i<t.m:=hi;have h2:(1:Rat)/(-1)= -1:=by grind
 by_cases hy:i=r
 ·simp only[Tb.pv,Tb.ext,if_pos hy,if_true,h2];grind
 simp only[Tb.pv,Tb.ext,if_neg hy,if_true,h2];grind
theorem jL1(h:t.q4 M):t.ext.q4 M:=by
 obtain⟨D,hD,hg,h1,h2⟩:=h.ex;refine⟨D,hD,hg,h1,fun i j hi hj=>?_⟩;simp[Tb.ext] at hi hj⊢;by_cases xa:j=t.n
 ·obtain⟨x,e1,e2⟩:=qJ3 hg;refine⟨-x,?_,O1⟩;grind
 grind
def skip(e j:Nat):Nat:=if j<e then j else j+1
def Tb.del(t:Tb)(e:Nat):Tb where
 m:=t.m
 n:=t.n-1
 B:=t.B
 N:=fun j=>t.N (skip e j)
 A:=fun i j=>t.A i (skip e j)
 b:=t.b
 g:=fun j=>t.g (skip e j)
theorem qXi(f:Nat→Rat){e:Nat}:∀{n:Nat},e≤n→sm n (fun j=>f (skip e j))+f e=sm (n+1) f
 |0,h=>by
  obtain rfl:e=0:=O1;simp[sm]
 |n+1,h=>by
  by_cases he:e=n+1
  ·subst he;have:sm _ (fun j=>f (skip (n+1) j))=_:=jF fun j hj=>by simp[skip];rw[if_pos hj]
   rw[this];rfl
  have:=qXi f (e:=e) (n:=n) O1;have h2:sm (n+1) (fun j=>f (skip e j))=sm n (fun j=>f (skip e j))+f (n+1):=by
   have:skip e n=n+1:=by simp only[skip];rw[if_neg O1]
   simp only[sm,this]
  have h3:sm (n+1+1) f=_+_:=O;grind
theorem qE1(h:j<n-1):skip e j<n:=by simp[skip];grind
theorem qXj:skip e j≠e:=by simp only[skip];grind
theorem jCz{k:Nat}(h:skip e j=skip e k):j=k:=by
 simp[skip] at h;grind
theorem jJ7(he:e<n)(h:j<n)(xr:j≠e):∃k,k<n-1∧skip e k=j:=by
 by_cases h1:j<e
 ·exact⟨j,O1,by simp only[skip];grind⟩
 exact⟨j-1,O1,by simp[skip];grind⟩
theorem jTd(ht:t.ok V')(he:e<t.n)(hV:∀v,V v↔V' v∧v≠t.N e):(t.del e).ok V:=by
 refine⟨ht.bb,fun j k hj hk h=>jCz (ht.nn _ _ (qE1 hj) (qE1 hk) h),fun i j hi hj=>ht.bn _ _ hi (qE1 hj),fun v=>?_⟩;rw[hV,ht.cov];constructor
 ·rintro⟨⟨i,hi,rfl⟩|⟨j,hj,rfl⟩,hne⟩
  ·exact .inl ⟨i,hi,O⟩
  obtain⟨k,hk,e1⟩:=jJ7 he hj (fun h=>hne (by rw[h]));exact .inr ⟨k,hk,by simp[Tb.del];rw[e1]⟩
 rintro(⟨i,hi,rfl⟩|⟨j,hj,rfl⟩)
 ·exact⟨.inl ⟨i,hi,O⟩,ht.bn _ _ hi he⟩
 exact⟨.inr ⟨_,qE1 hj,O⟩,fun h=>qXj (ht.nn _ _ (qE1 hj) he h)⟩
theorem jL6(ht:t.ok V')(he:e<t.n):(t.del e).sat x↔t.sat (fun v=>if v=t.N e then 0 else x v):=by
 have key:∀i,i<t.m→sm (t.n-1) (fun j=>t.A i (skip e j)*x (t.N (skip e j)))=sm t.n (fun j=>t.A i j*(if t.N j=t.N e then 0 else x (t.N j))):=by
  intro i hi;obtain⟨n,hn⟩:∃n,t.n=n+1:=⟨t.n-1,O1⟩;have h1:=qXi (fun j=>t.A i j*(if t.N j=t.N e then 0 else x (t.N j))) (e:=e) (n:=n) O1;rw[hn,←h1];simp only[if_true,pE];have h2:sm n (fun j=>t.A i (skip e j)*x (t.N (skip e j)))=sm n (fun j=>t.A i (skip e j)*(if t.N (skip e j)=t.N e then 0 else x (t.N (skip e j)))):=jF fun j hj=>by
   rw[if_neg fun h=>qXj (ht.nn _ _ (qE1 O1) he h)]
  rw[h2];grind
 constructor
 ·intro h i hi;have:=h i hi;simp[Tb.del] at this;simp[];rw[if_neg (ht.bn i e hi he),←key i hi];omega
 intro h i hi;have:=h i hi;simp[] at this;rw[if_neg (ht.bn i e hi he),←key i hi] at this;exact this
end
end
section
variable{t:Tb}{V:Int→Prop}
def pick(B:Nat→Int)(b:Nat→Rat):Nat→Int→Rat
 |0,_=>0
 |i+1,v=>if B i=v then b i else pick B b i v
theorem qQq{B:Nat→Int}{b:Nat→Rat}:∀{m i:Nat},(∀i k,i<m→k<m→B i=B k→i=k)→i<m→pick B b m (B i)=b i
 |m+1,i,hinj,hi=>by
  simp only[pick];by_cases h:B m=B i
  ·rw[if_pos h,hinj m i O1 hi h]
  rw[if_neg h];have:i≠m:=fun e=>h (by rw[e])
  exact qQq (fun a c ha hc=>hinj a c O1 O1) O1
theorem qKm{B:Nat→Int}{b:Nat→Rat}{v:Int}:∀{m:Nat},(∀i,i<m→B i≠v)→pick B b m v=0
 |0,_=>rfl
 |m+1,h=>by
  simp[pick];rw[if_neg (h m O1)];exact qKm (fun i hi=>h i O1)
theorem qKl{B:Nat→Int}{b:Nat→Rat}{D M:Nat}{v:Int}:∀{m:Nat},(∀i,i<m→Ov D M (b i))→Ov D M (pick B b m v)
 |0,_=>qI6
 |m+1,h=>by
  simp[pick];split
  ·grind
  exact qKl (fun i hi=>h i O1)
theorem qOa(f:Nat→Rat)(n:Nat):∀(m:Nat),sm (n+m) f=sm n f+sm m (fun i=>f (n+i))
 |0=>by simp[sm,iF];grind
 |m+1=>by
  have:=qOa f n m;simp[sm];grind
theorem qXr{N:Nat→Int}{c:Nat→Rat}{G:Int→Rat}{L:Nat}:∀{n:Nat},(∀i k,i<n→k<n→N i=N k→i=k)→(∀j,j<n→0≤N j∧N j<L)→
  sm n (fun j=>c j*G (N j))=sm L (fun v=>pick N c n (v:Int)*G (v:Int))
 |0,_,_=>by
  simp only[sm,pick];rw[vM (fun j _=>by grind)]
 |n+1,hinj,hr=>by
  have ih:=qXr (c:=c) (G:=G) (n:=n) (fun i k hi hk=>hinj i k O1 O1) (fun j hj=>hr j O1);obtain⟨h0,h1⟩:=hr n O1;obtain⟨q,hq⟩:∃q:Nat,N n=q:=⟨(N n).toNat,O1⟩;have hg:q<L:=O1;have hz:pick N c n _=0:=qKm fun i hi e=>by
   have:=hinj i n O1 O1 (by rw[e,hq]);omega
  have e1:=wX (fun v=>pick N c (n+1) v*G v) hg;have e3:sm L (fun v=>if v=q then 0 else pick N c (n+1) v*_)=sm L (fun v=>if v=q then 0 else _*G v):=jF fun v _=>by
   by_cases hv:v=q
   ·simp[hv]
   simp[if_neg hv,pick];rw[if_neg O1]
  have e4:pick N c (n+1) q=c n:=by simp only[pick];rw[if_pos hq]
  show sm n _+c n*G _=_
  grind
def T0(m n:Nat)(A:Nat→Nat→Rat)(B:Nat→Rat):Tb where
 m:=m
 n:=n
 B:=fun i=>(n:Int)+i
 N:=fun j=>j
 A:=A
 b:=B
 g:=fun _=>0
def V0(m n:Nat)(v:Int):Prop:=0≤v∧v<(n:Int)+m
section
variable {m n:Nat}{A:Nat→Nat→Rat}{B:Nat→Rat}{u:Tb}{k:Rat}
theorem jNb:(T0 m n A B).ok (V0 m n):=by
 refine⟨?_,?_,?_,?_⟩
 ·intro i k _ _ h;simp only[T0] at h;omega
 ·intro i k _ _ h;simp[T0] at h;omega
 ·intro i j _ hj h;simp[T0] at h hj;omega
 intro v;simp[V0,T0];constructor
 ·intro h;by_cases hv:v<n
  ·exact .inr ⟨v.toNat,O1,O1⟩
  exact .inl ⟨(v-n).toNat,O1,O1⟩
 grind
theorem jU6:¬V0 m n (-1):=by simp only[V0];omega
theorem qUv(z:Nat→Rat):∃y:Int→Rat,(T0 m n A B).sat y∧(∀j,j<n→y (j:Int)=z j)∧∀i,i<m→y ((n:Int)+i)=B i-sm n (fun j=>A i j*z j):=by
 obtain⟨y,h1,h2,h3⟩:=qD4 (jNb (m:=m) (n:=n) (A:=A) (B:=B)) z;exact⟨y,h1,h2,h3⟩
structure Feas(m n:Nat)(A:Nat→Nat→Rat)(B:Nat→Rat)(x:Nat→Rat):Prop where
 nn:∀j,j<n→0≤x j
 row:∀i,i<m→sm n (fun j=>A i j*x j)≤B i
theorem jLy{x:Nat→Rat}(h:Feas m n A B x):∃y:Int→Rat,(T0 m n A B).sat y∧(∀v,V0 m n v→0≤y v)∧∀j,j<n→y (j:Int)=x j:=by
 obtain⟨y,h1,h2,h3⟩:=qUv (m:=m) (n:=n) (A:=A) (B:=B) x;refine⟨y,h1,fun v hv=>?_,h2⟩;simp[V0] at hv;by_cases hg:v<n
 ·obtain⟨q,rfl⟩:∃q:Nat,v=q:=⟨v.toNat,O1⟩;rw[h2 q O1];exact h.nn q O1
 obtain⟨q,rfl⟩:∃q:Nat,v=n+q:=⟨(v-n).toNat,O1⟩;have:=h.row q O1;grind
theorem qZ0{y:Int→Rat}(h:(T0 m n A B).sat y)(h0:∀v,V0 m n v→0≤y v):Feas m n A B (fun j=>y (j:Int)):=by
 refine⟨fun j hj=>h0 _ (by simp only[V0];omega),fun i hi=>?_⟩;have h1:=h i hi;have h2:=h0 (n+i) (by simp only[V0];omega);simp[T0] at h1;grind
theorem jNz(hn:0<n)(hu:u.ok (V0 m n))(hf:u.feas)(hs:∀x,u.sat x↔(T0 m n A B).sat x)(hv:u.val (fun x=>x 0) k)(hg:∀j,j<u.n→u.g j≤0)(X Y:Nat→Rat)
  (hX:∀v,v<n→X v=pick u.B u.b u.m (v:Int)) (hY:∀i,i<m→Y i=pick u.N (fun j=>-u.g j) u.n ((n:Int)+i)):
  Feas m n A B X∧(∀i,i<m→0≤Y i)∧(∀j,j<n→(if j=0 then 1 else 0)≤sm m (fun i=>A i j*Y i))∧X 0=sm m (fun i=>B i*Y i):=by
 obtain⟨x,hh,en,hl⟩:=qGd hu;have mA:∀v,V0 m n v→x v=pick u.B u.b u.m v:=by
  intro v hV;rcases hu.or hV with⟨i,hi,rfl⟩|hN
  ·rw[hl i hi,qQq hu.bb hi]
  rw[en v hN,qKm];intro i hi e;exact hu.not ⟨i,hi,e⟩ hN
 have q2:∀v,V0 m n v→0≤x v:=by
  intro v hV;rcases hu.or hV with⟨i,hi,rfl⟩|hN
  ·rw[hl i hi];exact hf i hi
  rw[en v hN];exact mX
 have hx:=qZ0 ((hs x).1 hh) q2;have ht:∀v,v<n→X v=x v:=fun v hv=>by rw[hX v hv,mA _ (by simp only[V0];omega)]
 have hk:=qBt hv hh en;have hN:∀j,j<u.n→0≤u.N j∧u.N j<(n+m:Nat):=fun j hj=>by
  have:=(hu.cov _).2 (.inr ⟨j,hj,O⟩);simp[V0] at this;omega
 have xx:∀v,0≤pick u.N (fun j=>-u.g j) u.n v:=by
  intro v;by_cases h:∃j,j<u.n∧u.N j=v
  ·obtain⟨j,hj,rfl⟩:=h;rw[qQq hu.nn hj];grind
  rw[qKm (fun j hj e=>h ⟨j,hj,e⟩)];exact mX
 have ident:∀z:Nat→Rat,z 0=k-(sm n (fun q=>pick u.N (fun j=>-u.g j) u.n q*z q)+sm m (fun i=>Y i*(B i-sm n (fun j=>A i j*z j)))):=by
  intro z;obtain⟨y,hm,eo,hD⟩:=qUv (m:=m) (n:=n) (A:=A) (B:=B) z;have h1:=hv y ((hs y).2 hm);simp only[] at h1;have h0:y 0=z 0:=eo 0 hn;rw[h0] at h1;have h2:sm u.n (fun j=>u.g j*y (u.N j))= -sm u.n (fun j=>(-u.g j)*y (u.N j)):=by
   rw[jF (f:=fun j=>u.g j*y (u.N j)) (g:=fun j=>(-1)*((-u.g j)*y (u.N j))) (fun j _=>by grind),yF];grind
  rw[h2,qXr hu.nn hN,qOa] at h1;rw[h1];have e1:sm n (fun v=>pick u.N (fun j=>-u.g j) u.n (v:Int)*y (v:Int))=sm n (fun q=>pick u.N (fun j=>-u.g j) u.n (q:Int)*z q):=jF fun q hq=>by grind
  have e2:sm m (fun i=>pick u.N (fun j=>-u.g j) u.n ((n+i:Nat):Int)*y ((n+i:Nat):Int))=sm m (fun i=>Y i*(B i-sm n (fun j=>A i j*z j))):=jF fun i hi=>by
   grind
  rw[e1,e2];grind
 have hy:k=sm m (fun i=>B i*Y i):=by
  have:=ident (fun _=>0);rw[vM (fun q _=>by grind)] at this;have e:sm m (fun i=>Y i*(B i-sm n (fun j=>A i j*0)))=sm m (fun i=>B i*Y i):=jF fun i _=>by
   rw[vM (fun q _=>by grind)];grind
  rw[e] at this;grind
 refine⟨⟨fun j hj=>by rw[ht j hj];exact q2 _ (by simp only[V0];omega),fun i hi=>?_⟩,fun i hi=>by grind,fun j hj=>?_,?_⟩
 ·rw[jF (fun j hj=>by rw[ht j hj])];exact hx.row i hi
 ·have h1:=ident (fun q=>if q=j then 1 else 0);have e1:sm n (fun q=>pick u.N (fun j=>-u.g j) u.n q*(if q=j then 1 else 0))=pick u.N (fun j=>-u.g j) u.n j:=by
   rw[jF (g:=fun q=>if q=j then pick u.N (fun j=>-u.g j) u.n (q:Int) else 0) (fun q _=>by grind),xY (fun q=>pick u.N (fun j=>-u.g j) u.n (q:Int)) hj]
  have e2:sm m (fun i=>Y i*(B i-sm n (fun q=>A i q*(if q=j then 1 else 0))))=sm m (fun i=>B i*Y i)-sm m (fun i=>A i j*Y i):=by
   rw[←qLd];refine jF fun i _=>?_
   rw[jF (g:=fun q=>if q=j then A i q else 0) (fun q _=>by grind),xY (fun q=>A i q) hj];grind
  grind
 grind
theorem first(ht:t.ok V)(hV:¬V (-1))(hu:u.ok (fun v=>V v∨v= -1))(hf:u.feas)(hs:∀x,u.sat x↔t.ext.sat x)(hv:u.val (fun x=>(-1)*x (-1)) k)(hg:∀j,j<u.n→u.g j≤0)
  (hx:∃x:Int→Rat,t.sat x∧∀v,V v→0≤x v):∀r,r<u.m→u.B r= -1→u.b r=0∧∃e,e<u.n∧u.A r e≠0:=by
 intro r hr hB;obtain⟨x,hh,hn⟩:=hx;have hq:∀v,V v→v≠-1:=fun v h e=>hV (e▸h)
 have key:∀c,∀z,(∀v,v≠-1→¬t.n6 v→z v=x v)→z (-1)=c→(∀i,i<t.m→z (t.B i)=x (t.B i)+c)→t.ext.sat z:=by
  intro c z h1 h2 h3;rw[qZ1];intro i hi;rw[h3 i hi,hh i hi,h2];have:sm t.n (fun j=>t.A i j*z (t.N j))=sm t.n (fun j=>t.A i j*x (t.N j)):=jF fun j hj=>by
   rw[h1 _ (hq _ ((ht.cov _).2 (.inr ⟨j,hj,O⟩))) (fun h=>ht.not h ⟨j,hj,O⟩)]
  rw[this];grind
 classical
 have mk:∀c,t.ext.sat (fun v=>if v= -1 then c else if t.n6 v then x v+c else x v):=by
  intro c;refine key c _ (fun v h1 h2=>by grind) O4 (fun i hi=>?_);have h1:t.B i≠-1:=hq _ ((ht.cov _).2 (.inl ⟨i,hi,O⟩));have h2:t.n6 (t.B i):=⟨i,hi,O⟩;simp[h1,h2]
 constructor
 ·have h0:=mk 0
  have h1:=jJz hu hv hg ((hs _).2 h0) (by
   grind)
  obtain⟨y,hl,eo,hD⟩:=qGd hu;have h2:=qBt hv hl eo;have h4:=hf r hr;grind
 refine bG fun j0=>?_
 have hz:=fun e he=>bG fun h=>j0 ⟨e,he,h⟩
 have val:∀z,t.ext.sat z→z (-1)=u.b r:=by
  intro z hm;have:=(hs z).2 hm r hr;rw[hB,vM (fun j hj=>by grind)] at this;grind
 have h1:=val _ (mk 0);have h2:=val _ (mk 1);grind
theorem jO4(ht:t.ok V)(hV:¬V (-1))(hu:u.ok (fun v=>V v∨v= -1))(hf:u.feas)(hs:∀x,u.sat x↔t.ext.sat x){e:Nat}(he:e<u.n)(hN:u.N e= -1):
  (u.del e).ok V∧(u.del e).feas∧∀x,(u.del e).sat x↔t.sat x:=by
 refine⟨jTd hu he (fun v=>?_),hf,fun x=>?_⟩
 ·grind
 rw[jL6 hu he,hN,hs,qZ1];have hB:∀i,i<t.m→_≠-1:=fun i hi e=>hV (e▸(ht.cov _).2 (.inl ⟨i,hi,O⟩))
 have hg:∀i,i<t.n→_≠-1:=fun i hi e=>hV (e▸(ht.cov _).2 (.inr ⟨i,hi,O⟩))
 have key:∀i,i<t.m→sm _ (fun j=>t.A i j*(if _= -1 then 0 else x (t.N j)))=_:=fun i hi=>jF fun j hj=>by rw[if_neg (hg j hj)]
 constructor
 ·intro h i hi;grind
 intro h i hi;rw[key i hi,h i hi];grind
end
end
section
variable{Y:Nat→Rat}{t:Rat}{x:Nat→Rat}{κ:Nat→Nat}{F:(Nat→Nat)→Prop}
structure Sr where
 nc:Nat
 S:Nat→Nat
 K:Nat
 κ:Nat→Nat→Nat
 dec:Nat→Bool
 p:Nat→Rat
def Sr.A(s:Sr)(c j:Nat):Rat:=if c=s.nc then(if j=0 then 0 else 1) else if j=0 then(if s.dec c then 0 else(s.S c:Rat)) else-(s.κ (j-1) c:Rat)
def Sr.B(s:Sr)(c:Nat):Rat:=if c=s.nc then 1 else if s.dec c then-((s.S c:Rat)*s.p c) else 0
structure Sr.W(s:Sr)(v:Rat)(w:Nat→Rat):Prop where
 v0:0≤v
 nn:∀k,k<s.K→0≤w k
 one:sm s.K w≤1
 ge:∀c,c<s.nc→(s.S c:Rat)*(if s.dec c then s.p c else v)≤sm s.K (fun k=>w k*(s.κ k c:Rat))
theorem qDf(f:Nat→Rat):∀n,sm (n+1) f=f 0+sm n (fun k=>f (k+1))
 |0=>by simp[sm];grind
 |n+1=>by
  have:=qDf f n;show sm _ f+f _=_
  rw[this];simp[sm];grind
section
variable {s:Sr}{v:Rat}{w:Nat→Rat}
theorem Sr.row(c:Nat)(x:Nat→Rat):sm (s.K+1) (fun j=>s.A c j*x j)=if c=s.nc then sm s.K (fun k=>x (k+1)) else(if s.dec c then 0 else(s.S c:Rat)*x 0)-sm s.K (fun k=>x (k+1)*(s.κ k c:Rat)):=by
 rw[qDf];by_cases hc:c=s.nc
 ·simp only[Sr.A,if_pos hc,if_true];grind
 simp only[Sr.A,if_neg hc,if_true];rw[jF (g:=fun k=>(-1)*(x (k+1)*(s.κ k c))) (fun k _=>by grind),yF];grind
theorem Sr.W.feas(h:s.W v w):Feas (s.nc+1) (s.K+1) s.A s.B (fun j=>if j=0 then v else w (j-1)):=by
 refine⟨fun j hj=>?_,fun c hc=>?_⟩
 ·by_cases h0:j=0
  ·simp[h0,if_true];exact h.v0
  simp[h0,iW];exact h.nn _ O1
 rw[Sr.row];by_cases hg:c=s.nc
 ·simp only[if_pos hg,Sr.B];exact h.one
 simp only[if_neg hg,Sr.B,if_true];have:=h.ge c O1;grind
theorem Sr.z7(h:Feas (s.nc+1) (s.K+1) s.A s.B x):s.W (x 0) (fun k=>x (k+1)):=by
 refine⟨h.nn 0 O1,fun k hk=>h.nn _ O1,?_,fun c hc=>?_⟩
 ·have:=h.row s.nc O1;rw[Sr.row] at this;simpa[Sr.B] using this
 have:=h.row c O1;rw[Sr.row,if_neg O1] at this;simp[Sr.B,if_neg (show¬c=s.nc by omega)] at this;grind
theorem Sr.W.aC9(h:s.W v w){c:Nat}(hc:c<s.nc)(hd:s.dec c=false)(hS:0<s.S c)(hκ:∀k,k<s.K→s.κ k c≤s.S c):v≤1:=by
 have h1:=h.ge c hc;have h2:sm _ (fun k=>w k*(s.κ k c))≤sm _ (fun k=>(s.S c)*w k):=qJu fun k hk=>by
  have h3:(s.κ k c:Rat)≤(s.S c):=by exact_mod_cast hκ k hk
  have:=dQ h3 (h.nn k hk);grind
 rw[yF] at h2;have l3:0<(s.S c:Rat):=by exact_mod_cast hS
 have h4:=dQ h.one (show 0≤(s.S c:Rat) by grind);refine bG fun hv=>?_
 have:=oH l3 (show 0<v-1 by grind);grind
theorem weak{m n:Nat}{A:Nat→Nat→Rat}{B:Nat→Rat}(hn:0<n)(hx:Feas m n A B x)(hY:∀i,i<m→0≤Y i)(hd:∀j,j<n→(if j=0 then 1 else 0)≤sm m (fun i=>A i j*Y i)):x 0≤sm m (fun i=>B i*Y i):=by
 have h1:sm n (fun j=>(if j=0 then 1 else 0)*x j)≤sm n (fun j=>sm m (fun i=>A i j*Y i)*x j):=qJu fun j hj=>by
  have:=dQ (hd j hj) (hx.nn j hj);grind
 have h2:sm n (fun j=>(if j=0 then 1 else 0)*x j)=x 0:=by
  rw[jF (g:=fun j=>if j=0 then x j else 0) (fun j _=>by grind),xY x hn]
 have h3:sm n (fun j=>sm m (fun i=>A i j*Y i)*x j)=sm m (fun i=>sm n (fun j=>A i j*x j)*Y i):=by
  have e1:∀j,sm m (fun i=>A i j*Y i)*x j=sm m (fun i=>A i j*x j*Y i):=fun j=>by
   rw[jF (f:=fun i=>A i j*x j*Y i) (g:=fun i=>x j*(A i j*Y i)) (fun i _=>by grind),yF];grind
  have e2:∀i,sm n (fun j=>A i j*x j)*Y i=sm n (fun j=>A i j*x j*Y i):=fun i=>by
   rw[jF (f:=fun j=>A i j*x j*Y i) (g:=fun j=>Y i*(A i j*x j)) (fun j _=>by grind),yF];grind
  rw[jF (fun j _=>e1 j),jF (f:=fun i=>sm n (fun j=>A i j*x j)*Y i) (fun i _=>e2 i)];exact(qQ2 (fun i j=>A i j*x j*Y i) n m).symm
 have h4:sm m (fun i=>sm n (fun j=>A i j*x j)*Y i)≤sm m (fun i=>B i*Y i):=qJu fun i hi=>by
  have:=dQ (hx.row i hi) (hY i hi);grind
 grind
def Sr.tot(s:Sr)(y:Nat→Rat):Rat:=sm s.nc (fun c=>if s.dec c then 0 else(s.S c:Rat)*y c)
def Sr.n0(s:Sr)(y:Nat→Rat):Rat:=sm s.nc (fun c=>if s.dec c then(s.S c:Rat)*(y c*s.p c) else 0)
def Sr.price(s:Sr)(y:Nat→Rat)(κ:Nat→Nat):Rat:=sm s.nc (fun c=>(κ c:Rat)*y c)
structure Sr.Lv(s:Sr)(F:(Nat→Nat)→Prop)(v:Rat)(y:Nat→Rat):Prop where
 nn:∀c,c<s.nc→0≤y c
 one:s.tot y=1
 le:∀κ,F κ→s.price y κ≤v+s.n0 y
 ex:∃κ,F κ∧s.price y κ=v+s.n0 y
structure Sr.Du(s:Sr)(t:Rat)(Y:Nat→Rat):Prop where
 nn:∀c,c≤s.nc→0≤Y c
 tot:1≤s.tot Y
 kind:∀k,k<s.K→s.price Y (s.κ k)≤Y s.nc
 val:t=Y s.nc-s.n0 Y
theorem Sr.du(hY:∀i,i<s.nc+1→0≤Y i)(hd:∀j,j<s.K+1→(if j=0 then 1 else 0)≤sm (s.nc+1) (fun i=>s.A i j*Y i))(ht:t=sm (s.nc+1) (fun i=>s.B i*Y i)):s.Du t Y:=by
 refine⟨fun c hc=>hY c O1,?_,fun k hk=>?_,?_⟩
 ·have:=hd 0 O1;simp[if_true,sm] at this;have e1:s.A s.nc 0=0:=by simp[Sr.A]
  rw[e1,jF (g:=fun c=>if s.dec c then 0 else(s.S c)*Y c) (fun c hc=>by
   simp[Sr.A,if_neg (show¬c=s.nc by omega),if_true]
   grind)] at this
  unfold Sr.tot;grind
 ·have:=hd (k+1) O1;simp only[sm] at this;have e1:s.A s.nc (k+1)=1:=by simp[Sr.A]
  rw[e1,jF (g:=fun c=>(-1)*((s.κ k c)*Y c)) (fun c hc=>by
   simp[Sr.A,if_neg (show¬c=s.nc by omega),if_neg (show¬k+1=0 by omega),pE];grind),yF] at this
  unfold Sr.price;grind
 rw[ht];simp[sm];have e1:s.B s.nc=1:=by simp[Sr.B]
 rw[e1,jF (g:=fun c=>(-1)*(if s.dec c then(s.S c)*(Y c*s.p c) else 0)) (fun c hc=>by
  simp[Sr.B,if_neg (show¬c=s.nc by omega)]
  grind),yF]
 unfold Sr.n0;grind
theorem qV3(f:Nat→Rat)(a:Rat)(n:Nat):sm n (fun j=>f j/a)=sm n f/a:=by
 rw[jF (g:=fun j=>a⁻¹*f j) (fun j _=>by grind),yF];grind
theorem Sr.Du.new(h:s.Du t Y)(hp:Y s.nc/s.tot Y<s.price (fun c=>Y c/s.tot Y) κ):∀k,k<s.K→∃c,c<s.nc∧κ c≠s.κ k c:=by
 intro k hk;refine bG fun hn=>?_
 have he:=fun c hc=>bG fun h=>hn ⟨c,hc,h⟩
 have hT:0<s.tot Y:=by have:=h.tot;grind
 have e1:s.price (fun c=>Y c/s.tot Y) κ=s.price Y (s.κ k)/s.tot Y:=by
  unfold Sr.price;rw[jF (g:=fun c=>(s.κ k c:Rat)*Y c/s.tot Y) (fun c hc=>by grind)];exact qV3 (fun c=>(s.κ k c:Rat)*Y c) _ _
 have h2:=h.kind k hk
 have h3:=(qEq hT hT).2 (show s.price Y (s.κ k)*s.tot Y≤Y s.nc*s.tot Y by
  have:=dQ h2 (show 0≤s.tot Y by grind)
  grind)
 grind
theorem Sr.aB5(Y:Nat→Rat)(a:Rat):s.tot (fun c=>Y c/a)=s.tot Y/a:=by
 unfold Sr.tot;rw[←qV3];grind
theorem Sr.aB0(Y:Nat→Rat)(a:Rat):s.n0 (fun c=>Y c/a)=s.n0 Y/a:=by
 unfold Sr.n0;rw[←qV3];grind
theorem Sr.aA9(y:Nat→Rat)(t:Rat):sm s.nc (fun c=>y c*((s.S c:Rat)*(if s.dec c then s.p c else t)))=s.n0 y+t*s.tot y:=by
 unfold Sr.n0 Sr.tot;rw[←yF,←qBd];grind
theorem Sr.aA2(y w:Nat→Rat):sm s.K (fun k=>w k*s.price y (s.κ k))=sm s.nc (fun c=>y c*sm s.K (fun k=>w k*(s.κ k c:Rat))):=by
 have a1:∀k,w k*s.price y (s.κ k)=sm _ (fun c=>w k*(s.κ k c)*y c):=fun k=>by
  unfold Sr.price;rw[←yF];exact jF fun c _=>by grind
 have a2:∀c,y c*sm _ (fun k=>w k*(s.κ k c))=sm s.K (fun k=>w k*(s.κ k c)*y c):=fun c=>by
  rw[←yF];exact jF fun k _=>by grind
 rw[jF (fun k _=>a1 k),jF (fun c _=>a2 c)];exact qQ2 _ _ _
theorem Sr.Du.level{w:Nat→Rat}(h:s.Du t Y)(hw:s.W t w)(hF:∀k,k<s.K→F (s.κ k)){mc:Rat}(hκ:F κ)(hm:s.price (fun c=>Y c/s.tot Y) κ=mc)
  (yw:∀κ,F κ→s.price (fun c=>Y c/s.tot Y) κ≤mc) (ja:mc≤Y s.nc/s.tot Y):
  mc-s.n0 (fun c=>Y c/s.tot Y)=t∧s.Lv F t (fun c=>Y c/s.tot Y):=by
 have x0:=h.val;have hl:=h.tot;have ma:=s.aB5 Y (s.tot Y);have hg:=s.aB0 Y (s.tot Y);have hh:=h.nn;generalize s.tot Y=T at*
 have hT:0<T:=by grind
 have hj:=pL.2 hT;have q2:∀c,c<s.nc→0≤Y c/T:=fun c hc=>by
  have:=iA (hh c O1) (show 0≤T⁻¹by grind);grind
 have ma:s.tot (fun c=>Y c/T)=1:=by rw[ma];grind
 have e1:Y s.nc/T-s.n0 (fun c=>Y c/T)=t/T:=by rw[hg,x0];grind
 have h0:=hw.v0;have e2:t/T≤t:=by
  have h3:T⁻¹*T=1:=by grind
  have h4:=iA (show 0≤T-1 by grind) (show 0≤T⁻¹by grind);have h5:(T-1)*T⁻¹=1-T⁻¹:=by grind
  rw[h5] at h4;have h2:=iA h0 h4;have h6:t*(1-T⁻¹)=t-t/T:=by grind
  rw[h6] at h2;grind
 obtain⟨y,hy⟩:∃y:Nat→Rat,y=fun c=>Y c/T:=⟨_,O⟩
 rw[←hy] at hm yw ma e1⊢;have q2:∀c,c<_→0≤y c:=fun c hc=>by rw[hy];exact q2 c hc
 have mz:0≤mc:=by
  rw[←hm];unfold Sr.price;refine qIz fun c hc=>iA ?_ (q2 c hc)
  have:(0:Rat)≤((κ c:Nat):Rat):=by exact_mod_cast bN _
  exact this
 have e3:sm s.K (fun k=>w k*s.price y (s.κ k))≤mc:=by
  have h1:sm s.K (fun k=>w k*s.price y (s.κ k))≤sm s.K (fun k=>mc*w k):=qJu fun k hk=>by
   have:=dQ (yw _ (hF k hk)) (hw.nn k hk);grind
  rw[yF] at h1;have h2:=dQ hw.one mz;grind
 have e5:=qJu fun c hc=>
  dQ (hw.ge c hc) (q2 c hc)
 rw[Sr.aA9,ma] at e5;rw[Sr.aA2] at e3;have x0:mc-s.n0 y=t:=by grind
 exact⟨x0,q2,ma,fun κ hκ=>by grind,κ,hκ,by grind⟩
def Sr.next(s:Sr)(v:Rat)(y:Nat→Rat):Sr:={s with dec:=fun c=>s.dec c||decide (0<y c),p:=fun c=>if s.dec c then s.p c else if 0<y c then v else s.p c}
theorem Sr.W.next(h:s.W v w)(y:Nat→Rat):(s.next v y).W v w:=by
 refine⟨h.v0,h.nn,h.one,fun c hc=>?_⟩;have h1:=h.ge c hc;have key:(if(s.next v y).dec c then(s.next v y).p c else v)=(if s.dec c then s.p c else v):=by
  simp only[Sr.next];by_cases hd:s.dec c=true
  ·simp[hd]
  by_cases hy:0<y c<;>simp[hd,hy]
 rw[key];exact h1
theorem Sr.Lv.some{y:Nat→Rat}(h:s.Lv F v y):∃c,c<s.nc∧s.dec c=false∧0<y c:=by
 obtain⟨c,hc,hp⟩:=qV2 (show 0<sm s.nc (fun c=>if s.dec c then 0 else(s.S c)*y c) by
  have:=h.one;unfold Sr.tot at this
  grind)
 refine⟨c,hc,?_,?_⟩
 ·grind
 have:=h.nn c hc;by_cases h0:y c=0
 ·grind
 grind
end
end
section
variable{a b:List Rat}
def prv(n:Nat)(q:Nat→Rat)(best:(Nat→Rat)→Rat):List (Rat×(Nat→Rat))→(Nat→Bool)→Option Rat→Prop
 |[],dec,_=>∀i,i<n→dec i=true
 |(v,y)::ls,dec,last=>(∀i,i<n→0≤y i)∧sm n (fun i=>if dec i then 0 else y i)=1∧best y-sm n (fun i=>if dec i then y i*q i else 0)=v∧
  (∀u,last=some u→u≤v)∧(∀i,i<n→dec i=true∨y i=0∨q i=v)∧prv n q best ls (fun i=>dec i||decide (0<y i)) (some v)
section
variable {n:Nat}{p q:Nat→Rat}{best:(Nat→Rat)→Rat}
theorem jDu:∀(ls:List (Rat×(Nat→Rat))) (dec:Nat→Bool) (v:Rat),prv n p best ls dec (some v)→∀i,i<n→dec i=false→v≤p i
 |[],dec,v,hp,i,hi,hd=>by
  have:=hp i hi;grind
 |(u,y)::ls,dec,v,hp,i,hi,hd=>by
  obtain⟨h1,_,_,h4,h5,h6⟩:=hp;have uy:=h4 v O;by_cases hy:0<y i
  ·grind
  exact pZ uy (jDu ls _ u h6 i hi (by grind))
theorem qQn(hh:∀y:Nat→Rat,(∀i,i<n→0≤y i)→sm n (fun i=>y i*q i)≤best y):∀(ls:List (Rat×(Nat→Rat))) (dec:Nat→Bool) (last:Option Rat),prv n p best ls dec last→(∀i,i<n→dec i=true→q i=p i)→
  (∀i,i<n→q i=p i)∨∃(D:Nat→Bool) (v:Rat) (k:Nat),(∀i,i<n→D i=true→q i=p i)∧(∀i,i<n→D i=false→v≤p i)∧k<n∧D k=false∧q k<v
 |[],dec,_,hp,h=>.inl fun i hi=>h i hi (hp i hi)
 |(v,y)::ls,dec,last,hp,h=>by
  obtain⟨h1,h2,h3,h4,h5,h6⟩:=hp;by_cases hex:∃k,k<n∧dec k=false∧q k<v
  ·obtain⟨k,hk,bw,hg⟩:=hex;refine .inr ⟨_,v,k,h,fun i hi hd=>?_,hk,bw,hg⟩;by_cases hy:0<y i
   ·grind
   exact jDu ls _ v h6 i hi (by grind)
  have x4:∀i,i<n→_=_→v≤q i:=fun i hi hd=>by
   refine bG fun hl=>hex ⟨i,hi,hd,by grind⟩
  have hm:=hh y h1;have e1:sm n (fun i=>y i*q i)=sm n (fun i=>if dec i then y i*p i else 0)+sm n (fun i=>if dec i then 0 else y i*q i):=by
   rw[←qBd];refine jF fun i hi=>?_
   cases hd:dec i
   ·grind
   rw[h i hi hd];simp;grind
  have e2:sm n (fun i=>if dec i then 0 else y i*(q i-v))=sm n (fun i=>if dec i then 0 else y i*q i)-v*1:=by
   rw[←h2,←yF,←qLd];exact jF fun i _=>by grind
  have q2:∀i,i<n→0≤(if dec i then 0 else y i*_):=fun i hi=>by
   cases hd:dec i
   ·have:=iA (h1 i hi) (show 0≤q i-v by grind);exact mCe
   simp
  have yw:sm n (fun i=>if dec i then 0 else y i*(q i-v))≤0:=by rw[e2];grind
  have hz:∀i,i<n→(if dec i then 0 else y i*(q i-v))=0:=by
   intro i hi;have e3:=wX (fun i=>if dec i then 0 else y i*(q i-v)) hi;have h7:0≤sm n (fun j=>if j=i then 0 else(if dec j then 0 else y j*(q j-v))):=qIz fun j hj=>by
    grind
   have h8:=q2 i hi;rw[e3] at yw;grind
  refine qQn hh ls _ _ h6 (fun i hi hd=>?_);by_cases hn:dec i=true
  ·grind
  have hy:=by simpa[hn] using hd
  rcases h5 i hi with h|h|h
  ·grind
  ·grind
  grind
end
def kZ(l:List Rat)(t:Rat):Nat:=l.countP (fun x=>decide (x≤t))
theorem qEa(h:a.Perm b)(t:Rat):kZ a t=kZ b t:=h.countP_eq _
theorem qDe{t:Rat}:∀{a:List Rat},a.Pairwise (·≤·)→∀(i:Nat) (x:Rat),a[i]? =some x→(x≤t↔i<kZ a t)
 |[],_,i,x,h=>by grind
 |y::a,hs,i,x,h=>by
  obtain⟨h1,h2⟩:=bO.1 hs;simp only[kZ,iR];cases i with
  |zero=>
   obtain rfl:y=x:=by grind
   by_cases hy:y≤t
   ·simp[hy]
   have:List.countP (fun x=>decide (x≤t)) a=0:=by
    rw[List.countP_eq_zero];intro z hz;have:=h1 z hz;simp;grind
   grind
  |succ i=>
   have hx:=by simpa using h
   have ih:=qDe (t:=t) h2 i x hx;simp[kZ] at ih;by_cases hy:y≤t
   ·grind
   have l1:=aI hx;grind
theorem qV1{t:Rat}(ha:a.Pairwise (·≤·))(hb:b.Pairwise (·≤·))(hl:a.length=b.length)(hg:∀u,u<t→kZ a u=kZ b u)(ht:kZ b t<kZ a t):
  ∃i,a.take i=b.take i∧∃x y,a[i]? =some x∧b[i]? =some y∧x<y:=by
 have oo:kZ b t<b.length:=by
  have:kZ a t≤a.length:=lJ;omega
 have oq:kZ b t<a.length:=O1;refine⟨_,?_,_,_,aA oq,aA oo,?_⟩
 ·apply eF;intro j;rw[nL,nL];by_cases hj:j<kZ b t
  ·have hm:j<a.length:=O1;have hh:j<b.length:=O1;have pa:=fun u=>qDe (t:=u) ha j _ (aA hm)
   have pb:=fun u=>qDe (t:=u) hb j _ (aA hh)
   have ab:=fun h=>(pb _).2 (by rw[←hg _ h];exact(pa _).1 mX)
   have ba:=fun h=>(pa _).2 (by rw[hg _ h];exact(pb _).1 mX)
   grind
  grind
 have a1:=(qDe (t:=t) ha _ _ (aA oq)).2 ht;have b1:¬b[kZ b t]≤t:=fun h=>by
  have:=(qDe hb _ _ (aA oo)).1 h;omega
 grind
theorem qUe{p q:Nat→Rat}{u:Rat}:∀{n:Nat},(∀i,i<n→(q i≤u↔p i≤u))→kZ ((range n).map q) u=kZ ((range n).map p) u
 |0,_=>rfl
 |n+1,h=>by
  have h1:=qUe (n:=n) (fun i hi=>h i O1);simp only[kZ,fW,dR,lL,dY,rA,iR,sBp] at h1⊢;grind
theorem qZf{p q:Nat→Rat}{u:Rat}:∀{n k:Nat},(∀i,i<n→p i≤u→q i≤u)→k<n→q k≤u→¬p k≤u→kZ ((range n).map p) u<kZ ((range n).map q) u
 |n+1,k,h,hk,hq,hp=>by
  simp only[kZ,fW,dR,lL,dY,rA,iR,sBp];by_cases hg:k=n
  ·have:List.countP (fun x=>decide (x≤u)) ((range k).map p)≤List.countP (fun x=>decide (x≤u)) ((range k).map q):=by
    rw[sBq,sBq];refine List.countP_mono_left fun i hi=>?_
    simp only[Function.comp,dL];exact h i (by grind)
   grind
  have ih:=qZf (n:=n) (fun i hi=>h i O1) O1 hq hp;simp only[kZ] at ih;grind
theorem jEo{q:Nat→Rat}{D:Nat→Bool}:∀{n k:Nat},k<n→D k=false→∃j,j<n∧D j=false∧∀i,i<n→D i=false→q j≤q i
 |n+1,k,hk,hd=>by
  by_cases hex:∃k,k<n∧D k=false
  ·obtain⟨k',nv,hg⟩:=hex;obtain⟨j,hj,hh,hm⟩:=jEo (q:=q) nv hg;grind
  grind
theorem jEx{n:Nat}{p q:Nat→Rat}{D:Nat→Bool}{v:Rat}{k:Nat}(h1:∀i,i<n→D i=true→q i=p i)(h2:∀i,i<n→D i=false→v≤p i)(hk:k<n)(bw:D k=false)(hg:q k<v)
   (ha:a.Pairwise (·≤·)) (hb:b.Pairwise (·≤·)) (pa:a.Perm ((range n).map q)) (pb:b.Perm ((range n).map p)):
  ∃i,a.take i=b.take i∧∃x y,a[i]? =some x∧b[i]? =some y∧x<y:=by
 obtain⟨j,hj,hh,hm⟩:=jEo (q:=q) hk bw;refine qV1 (t:=q j) ha hb (by rw[pa.length_eq,pb.length_eq];simp) (fun u hu=>?_) ?_
 ·rw[qEa pa,qEa pb];refine qUe fun i hi=>?_
  grind
 rw[qEa pa,qEa pb];refine qZf (fun i hi h=>?_) hj mX ?_
 ·grind
 grind
end
def cnt(cl:Nat→Nat):Nat→Nat→Nat
 |0,_=>0
 |n+1,c=>cnt cl n c+(if cl n=c then 1 else 0)
theorem qLe(cl:Nat→Nat)(f:Nat→Rat)(nc:Nat):∀{n:Nat},(∀i,i<n→cl i<nc)→sm n (fun i=>f (cl i))=sm nc (fun c=>(cnt cl n c:Rat)*f c)
 |0,_=>by
  simp only[sm,cnt]
  rw[vM (fun c _=>by
   simp)]
 |n+1,h=>by
  have ih:=qLe cl f nc (n:=n) (fun i hi=>h i O1);simp only[sm,cnt];rw[ih,←xY f (h n O1),←qBd];refine jF fun c _=>?_
  by_cases hc:c=cl n
  ·subst hc;grind
  rw[if_neg hc,if_neg O1,iF];grind
def jX(cl:Nat→Nat)(P:List Nat)(c:Nat):Nat:=P.countP (fun i=>decide (cl i=c))
def ps(y:Nat→Rat):List Nat→Rat
 |[]=>0
 |i::P=>y i+ps y P
theorem qF8(cl:Nat→Nat)(f:Nat→Rat)(nc:Nat):∀{P:List Nat},(∀i∈P,cl i<nc)→ps (fun i=>f (cl i)) P=sm nc (fun c=>(jX cl P c:Rat)*f c)
 |[],_=>by
  simp only[ps,jX,sBp]
  rw[vM (fun c _=>by
   simp)]
 |i::P,h=>by
  have ih:=qF8 cl f nc (P:=P) (fun i hi=>h i (by simp[hi]));simp[ps];rw[ih,←xY f (h i O4),←qBd];refine jF fun c _=>?_
  simp only[jX,iR];by_cases hc:c=cl i
  ·subst hc;grind
  have:¬_=c:=fun e=>hc e.symm
  simp only[this,sBk,if_neg hc];grind
def jE:List (List Nat×Rat)→Nat→Rat
 |[],_=>0
 |(P,w)::m,i=>(if i∈P then w else 0)+jE m i
def qAi:List (List Nat×Rat)→Rat
 |[]=>0
 |(_,w)::m=>w+qAi m
theorem jDs{y:Nat→Rat}{n:Nat}(w:Rat):∀{P:List Nat},P.Nodup→(∀i∈P,i<n)→sm n (fun i=>y i*(if i∈P then w else 0))=w*ps y P
 |[],_,_=>by
  simp only[ps];rw[vM (fun i _=>O4)];grind
 |j::P,hn,h=>by
  obtain⟨h1,h2⟩:=lS.1 hn;have ih:=jDs (y:=y) w h2 (fun i hi=>h i (by simp[hi]));simp only[ps];have hj:=h j O4;have e:w*(y j+ps y P)=y j*w+w*ps y P:=by grind
  rw[e,←ih,←xY (fun i=>y i*w) hj,←qBd];grind
theorem qVx{y:Nat→Rat}{n:Nat}{M:Rat}:∀{m:List (List Nat×Rat)},(∀x∈m,x.1.Nodup∧(∀i∈x.1,i<n)∧0≤x.2∧ps y x.1≤M)→sm n (fun i=>y i*jE m i)≤M*qAi m
 |[],_=>by
  simp only[jE,qAi];rw[vM (fun i _=>by grind)];simp
 |(P,w)::m,h=>by
  obtain⟨h1,h2,h3,h4⟩:=h (P,w) O4;have ih:=qVx (m:=m) (fun x hx=>h x (by simp[hx]));simp only[jE,qAi];have e:sm n (fun i=>y i*((if i∈P then w else 0)+jE m i))=sm n (fun i=>y i*(if i∈P then w else 0))+sm n (fun i=>y i*jE m i):=by
   rw[←qBd];exact jF fun i _=>by grind
  rw[e,jDs w h1 h2];have h5:=dQ h4 h3;grind
end Go.Lp
namespace Go.Qu
open List (range range' replicate)
section
variable{T:List Nat}{b:Bool}
structure Q where
 N:Nat
 q:List (Int×Int)
 inn:Nat→Nat→Bool
structure St where
 next:Nat
 left:Nat
 cs:List Int
variable{s t:St}
def Q.rest(f:Q)(k:Nat):Nat→Nat
 |0=>0
 |d+1=>f.rest k d+(if f.inn (f.N-(d+1)) k then 1 else 0)
def Q.p5(f:Q)(next left:Nat):Nat→List (Int×Int)→List Int→Option (List Int)
 |_,[],cs=>some cs
 |k,(lo,hi)::qs,cs=>
  if cs.getD k 0= -1 then f.p5 next left (k+1) qs cs
  else if hi<cs.getD k 0∨cs.getD k 0+(min (f.rest k (f.N-next)) left:Nat)<lo then none
  else f.p5 next left (k+1) qs (if lo≤cs.getD k 0∧cs.getD k 0+(min (f.rest k (f.N-next)) left:Nat)≤hi then cs.set k (-1) else cs)
def Q.tidy(f:Q)(s:St):Option St:=
 if s.left>f.N-s.next then none else(f.p5 s.next s.left 0 f.q s.cs).map fun cs=>{s with cs:=cs}
def Q.add(f:Q)(i:Nat):Nat→List Int→List Int
 |0,cs=>cs
 |k+1,cs=>let c:=f.add i k cs
  if f.inn i k&&decide (c.getD k 0≠-1) then c.set k (c.getD k 0+1) else c
def Q.k9(f:Q)(s:St)(take:Bool):Option St:=
 f.tidy (if take then{next:=s.next+1,left:=s.left-1,cs:=f.add s.next f.q.length s.cs} else{s with next:=s.next+1})
structure Q.Cmp(f:Q)(s:St)(T:List Nat):Prop where
 srt:T.Pairwise (·<·)
 ge:∀i∈T,s.next≤i
 lt:∀i∈T,i<f.N
 len:T.length=s.left
 quo:∀k lh,f.q[k]? =some lh→s.cs.getD k 0= -1∨(lh.1≤s.cs.getD k 0+(T.countP (fun i=>f.inn i k):Nat)∧s.cs.getD k 0+(T.countP (fun i=>f.inn i k):Nat)≤lh.2)
structure Q.Td(f:Q)(s:St):Prop where
 left:s.left≤f.N-s.next
 quo:∀k lh,f.q[k]? =some lh→s.cs.getD k 0= -1∨¬(lh.1≤s.cs.getD k 0∧s.cs.getD k 0+(min (f.rest k (f.N-s.next)) s.left:Nat)≤lh.2)∧¬(lh.2<s.cs.getD k 0∨s.cs.getD k 0+(min (f.rest k (f.N-s.next)) s.left:Nat)<lh.1)
 cl:f.q.length≤s.cs.length
section
variable {f:Q}
theorem qQb(k:Nat):∀(d:Nat) (T:List Nat),T.Pairwise (·<·)→(∀i∈T,f.N-d≤i)→(∀i∈T,i<f.N)→T.countP (fun i=>f.inn i k)≤f.rest k d
 |0,[],_,_,_=>O4
 |0,i::T,_,h1,h2=>by
  have a:=h1 i O4;grind
 |d+1,[],_,_,_=>O4
 |d+1,i::T,hs,h1,h2=>by
  obtain⟨hq,h5⟩:=bO.1 hs;have a:=h1 i O4;by_cases hi:i=f.N-(d+1)
  ·have:=qQb k d T h5 (fun j hj=>by grind) (fun j hj=>h2 j (by simp[hj]));simp only[iR,Q.rest];grind
  have:=qQb k d _ hs (fun j hj=>by
   grind) h2
  simp only[Q.rest];omega
theorem qPx{next left:Nat}:∀(qs:List (Int×Int)) (k:Nat) (cs ca:List Int),f.p5 next left k qs cs=some ca→ca.length=cs.length
 |[],k,cs,ca,h=>by simp[Q.p5,sA1] at h;rw[h]
 |(lo,hi)::qs,k,cs,ca,h=>by
  simp only[Q.p5] at h;split at h
  ·exact qPx qs _ _ _ h
  split at h
  ·cases h
  have:=qPx qs _ _ _ h;grind
theorem qIj(cs:List Int)(k j:Nat)(v:Int)(h:k<cs.length):(cs.set k v).getD j 0=if j=k then v else cs.getD j 0:=by
 grind
theorem qDb{next left:Nat}:∀(qs:List (Int×Int)) (k:Nat) (cs:List Int),k+qs.length≤cs.length→
  match f.p5 next left k qs cs with
  |none=>∃j lh,qs[j]? =some lh∧cs.getD (k+j) 0≠-1∧(lh.2<cs.getD (k+j) 0∨cs.getD (k+j) 0+(min (f.rest (k+j) (f.N-next)) left:Nat)<lh.1)
  |some cs'=>(∀j,(j<k∨k+qs.length≤j)→cs'.getD j 0=cs.getD j 0)∧∀j lh,qs[j]? =some lh→
    (cs.getD (k+j) 0= -1∧cs'.getD (k+j) 0= -1)∨(¬(lh.2<cs.getD (k+j) 0∨cs.getD (k+j) 0+(min (f.rest (k+j) (f.N-next)) left:Nat)<lh.1)∧
     ((lh.1≤cs.getD (k+j) 0∧cs.getD (k+j) 0+(min (f.rest (k+j) (f.N-next)) left:Nat)≤lh.2∧cs'.getD (k+j) 0= -1)∨
     (¬(lh.1≤cs.getD (k+j) 0∧cs.getD (k+j) 0+(min (f.rest (k+j) (f.N-next)) left:Nat)≤lh.2)∧cs'.getD (k+j) 0=cs.getD (k+j) 0)))
 |[],k,cs,_=>by simp[Q.p5]
 |(lo,hi)::qs,k,cs,hl=>by
  simp[bT] at hl;simp only[Q.p5];by_cases h1:cs.getD k 0= -1
  ·rw[if_pos h1];have ih:=qDb (next:=next) (left:=left) qs (k+1) cs O1;cases hr:f.p5 next left (k+1) qs cs with
   |none=>
    rw[hr] at ih;obtain⟨j,lh,e1,e2,e3⟩:=ih;have e:k+1+j=k+(j+1):=O1;rw[e] at e2 e3;exact⟨_,lh,by grind,e2,e3⟩
   |some cs'=>
    rw[hr] at ih;obtain⟨i1,i2⟩:=ih;refine⟨fun j hj=>i1 j (by grind),fun j lh hj=>?_⟩;cases j with
    |zero=>grind
    |succ j=>
     grind
  rw[if_neg h1];by_cases h2:hi<cs.getD k 0∨cs.getD k 0+(min (f.rest k (f.N-next)) left)<lo
  ·rw[if_pos h2];exact⟨0,_,O,h1,h2⟩
  rw[if_neg h2];obtain⟨ca,hg⟩:∃ca,ca=(if lo≤cs.getD k 0∧cs.getD k 0+(min (f.rest k (f.N-next)) left)≤hi then cs.set k (-1) else cs):=⟨_,O⟩;rw[←hg];have zh:ca.length=cs.length:=by rw[hg];split<;>simp
  have hh:∀j,j≠k→ca.getD j 0=cs.getD j 0:=by
   intro j hj;rw[hg];split
   ·grind
   rfl
  have ih:=qDb (next:=next) (left:=left) qs (k+1) ca O1;cases hr:f.p5 next left (k+1) qs ca with
  |none=>
   rw[hr] at ih;obtain⟨j,lh,e1,e2,e3⟩:=ih;have e:k+1+j=k+(j+1):=O1;rw[e,hh _ O1] at e2 e3;exact⟨_,lh,by grind,e2,e3⟩
  |some cs'=>
   rw[hr] at ih;obtain⟨i1,i2⟩:=ih;refine⟨fun j hj=>(i1 j (by grind)).trans (hh j (by grind)),fun j lh hj=>?_⟩;cases j with
   |zero=>
    grind
   |succ j=>
    grind
theorem qPc(h1:T.Pairwise (·<·))(h2:∀i∈T,s.next≤i)(h3:∀i∈T,i<f.N)(h4:T.length=s.left)(k:Nat):T.countP (fun i=>f.inn i k)≤min (f.rest k (f.N-s.next)) s.left:=by
 have a:=qQb k (f.N-s.next) T h1 (fun i hi=>by grind) h3;grind
theorem uK{a b:Nat}:∀{T:List Nat},T.Pairwise (·<·)→(∀i∈T,a≤i)→(∀i∈T,i<b)→T.length≤b-a
 |[],_,_,_=>O4
 |i::T,hs,h1,h2=>by
  obtain⟨hq,h5⟩:=bO.1 hs;have:=uK (a:=i+1) h5 (hq) (fun j hj=>h2 j (by simp[hj]));have:=h1 i O4;grind
theorem qIw(hl:f.q.length≤s.cs.length)(h:f.tidy s=none)(T:List Nat):¬f.Cmp s T:=by
 intro hc;unfold Q.tidy at h;split at h
 ·have:=uK hc.srt hc.ge hc.lt;have:=hc.len;omega
 have hs:=qDb (f:=f) (next:=s.next) (left:=s.left) f.q 0 s.cs O1;cases hr:f.p5 _ _ 0 _ _ with
 |some cs=>rw[hr] at h;simp at h
 |none=>
  rw[hr] at hs;obtain⟨j,lh,e1,e2,e3⟩:=hs;rw[fH] at e2 e3;have:=qPc hc.srt hc.ge hc.lt hc.len j;rcases hc.quo j lh e1 with h|h
  ·omega
  omega
theorem wJ(hl:f.q.length≤s.cs.length)(h:f.tidy s=some t):t.next=s.next∧t.left=s.left∧t.cs.length=s.cs.length∧f.Td t∧∀T,f.Cmp t T↔f.Cmp s T:=by
 unfold Q.tidy at h;split at h
 ·cases h
 rename_i hle
 have hs:=qDb (f:=f) (next:=s.next) (left:=s.left) f.q 0 s.cs O1;cases hr:f.p5 s.next s.left 0 f.q s.cs with
 |none=>grind
 |some cs=>
  rw[hr] at h hs;have hQ:=qPx _ _ _ _ hr;obtain rfl:{s with cs:=cs}=t:=by grind
  obtain⟨_,h2⟩:=hs;simp only[fH] at h2;refine⟨O,O,hQ,⟨by grind,fun k lh hk=>?_,by grind⟩,fun T=>?_⟩
  ·grind
  constructor
  ·intro hc;refine⟨hc.srt,hc.ge,hc.lt,hc.len,fun k lh hk=>?_⟩;have hq:=hc.quo k lh hk;have hg:=qPc hc.srt hc.ge hc.lt hc.len k;grind
  intro hc;refine⟨hc.srt,hc.ge,hc.lt,hc.len,fun k lh hk=>?_⟩;have hq:=hc.quo k lh hk;grind
theorem Q.Td.fin(h:f.Td s)(h0:s.left=0):f.Cmp s []:=by
 refine⟨.nil,O4,O4,by simp[h0],fun k lh hk=>?_⟩;rcases h.quo k lh hk with h|h
 ·omega
 omega
theorem qGl(i:Nat):∀(k:Nat) (cs:List Int),(f.add i k cs).length=cs.length
 |0,cs=>rfl
 |k+1,cs=>by
  simp only[Q.add];split
  ·rw[fZ,qGl]
  exact qGl i k cs
theorem qNi(i:Nat):∀(k:Nat) (cs:List Int),k≤cs.length→∀j,(f.add i k cs).getD j 0=if j<k∧f.inn i j=true∧cs.getD j 0≠-1 then cs.getD j 0+1 else cs.getD j 0
 |0,cs,_,j=>by simp[Q.add]
 |k+1,cs,hk,j=>by
  have ih:=qNi i k cs O1;have hl:=qGl (f:=f) i k cs;have ia:=ih k;simp only[Q.add,ia];grind
def Q.Nn(f:Q)(s:St):Prop:=∀k,k<f.q.length→s.cs.getD k 0= -1∨0≤s.cs.getD k 0
theorem qPz(b:Bool)(hl:f.q.length≤s.cs.length):f.q.length≤(if b then{next:=s.next+1,left:=s.left-1,cs:=f.add s.next f.q.length s.cs} else{s with next:=s.next+1}:St).cs.length:=by
 cases b
 ·exact hl
 show f.q.length≤(f.add _ _ _).length
 rw[qGl];exact hl
theorem qPb(T:List Nat):f.Cmp {s with next:=s.next+1} T↔f.Cmp s T∧s.next∉T:=by
 constructor
 ·intro h;have h2:=h.ge;simp[] at h2;exact⟨⟨h.srt,fun i hi=>by grind,h.lt,h.len,h.quo⟩,fun hm=>by grind⟩
 rintro⟨h,hm⟩;refine⟨h.srt,fun i hi=>?_,h.lt,h.len,h.quo⟩;have:=h.ge i hi;grind
theorem qUi(hl:f.q.length≤s.cs.length)(hn:f.Nn s)(hN:s.next<f.N)(h0:0<s.left)(T:List Nat):f.Cmp {next:=s.next+1,left:=s.left-1,cs:=f.add s.next f.q.length s.cs} T↔f.Cmp s (s.next::T):=by
 have key:∀k lh,f.q[k]? =some lh→(((f.add s.next f.q.length s.cs).getD k 0= -1∨(lh.1≤(f.add s.next f.q.length s.cs).getD k 0+(T.countP (fun i=>f.inn i k))∧(f.add s.next f.q.length s.cs).getD k 0+(T.countP (fun i=>f.inn i k))≤lh.2))↔
   (s.cs.getD k 0= -1∨(lh.1≤s.cs.getD k 0+((s.next::T).countP (fun i=>f.inn i k))∧s.cs.getD k 0+((s.next::T).countP (fun i=>f.inn i k))≤lh.2))):=by
  intro k lh hk;have hU:k<f.q.length:=(aH.1 hk).1;have q2:=hn k hU;rw[qNi s.next f.q.length s.cs hl k,iR];by_cases hi:f.inn s.next k=true
  ·grind
  rw[if_neg (fun h=>hi h.2.1)];simp only[hi];simp
 constructor
 ·intro h;have h2:=h.ge;have h4:=h.len;simp[] at h2 h4;refine⟨bO.2 ⟨h2,h.srt⟩,fun i hi=>?_,fun i hi=>?_,by grind,fun k lh hk=>(key k lh hk).1 (h.quo k lh hk)⟩
  ·grind
  rcases bE.1 hi with rfl|hi
  ·exact hN
  exact h.lt i hi
 intro h;obtain⟨h1,h2⟩:=bO.1 h.srt;have h4:=h.len;simp[bT] at h4;exact⟨h2,h1,fun i hi=>h.lt i (by simp[hi]),by grind,fun k lh hk=>(key k lh hk).2 (h.quo k lh hk)⟩
theorem qKe(hl:f.q.length≤s.cs.length)(hn:f.Nn s)(h:f.tidy s=some t):f.Nn t:=by
 intro k hk;unfold Q.tidy at h;split at h
 ·cases h
 have hs:=qDb (f:=f) (next:=s.next) (left:=s.left) f.q 0 s.cs O1;cases hr:f.p5 _ _ 0 _ _ with
 |none=>rw[hr] at h;simp at h
 |some cs=>
  rw[hr] at h hs;obtain rfl:{s with cs:=cs}=t:=by grind
  have:=hs.2 k _ (aA hk);simp only[fH] at this;rcases this with⟨_,b⟩|⟨a,⟨_,_,b⟩|⟨c,b⟩⟩
  ·exact .inl b
  ·exact .inl b
  rw[b];exact hn k hk
theorem jNt(b:Bool)(hl:f.q.length≤s.cs.length)(hn:f.Nn s):f.Nn (if b then{next:=s.next+1,left:=s.left-1,cs:=f.add s.next f.q.length s.cs} else{s with next:=s.next+1}:St):=by
 cases b
 ·exact hn
 intro k hk;show(f.add _ _ _).getD k 0= -1∨0≤(f.add _ _ _).getD k 0
 rw[qNi _ _ _ hl];have:=hn k hk;omega
structure Q.Ok(f:Q)(s:St):Prop where
 td:f.Td s
 nn:f.Nn s
 nx:s.next≤f.N
theorem Q.Ok.lt(h:f.Ok s)(h0:0<s.left):s.next<f.N:=by have:=h.td.left;omega
theorem wW(h:f.Ok s)(h0:0<s.left)(hs:f.k9 s b=some t):f.Ok t∧t.next=s.next+1∧t.left=(if b then s.left-1 else s.left)∧t.cs.length=s.cs.length∧∀T,f.Cmp t T↔(if b then f.Cmp s (s.next::T) else f.Cmp s T∧s.next∉T):=by
 have hl:=h.td.cl;have hg:=h.lt h0;obtain⟨e1,e2,e3,e4,e5⟩:=wJ (qPz b hl) hs;have q2:=qKe (qPz b hl) (jNt b hl h.nn) hs;cases b
 ·simp[eE,iW] at e1 e2 e3 e5⊢;exact⟨⟨e4,q2,O1⟩,e1,e2,e3,fun T=>(e5 T).trans (qPb T)⟩
 simp[if_true] at e1 e2 e3 e5⊢;exact⟨⟨e4,q2,O1⟩,e1,e2,by rw[e3,qGl],fun T=>(e5 T).trans (qUi hl h.nn hg h0 T)⟩
theorem qLb(h:f.Ok s)(h0:0<s.left)(hs:f.k9 s b=none):∀T,¬(if b then f.Cmp s (s.next::T) else f.Cmp s T∧s.next∉T):=by
 have hl:=h.td.cl;have hg:=h.lt h0;intro T hT;have:=qIw (qPz b hl) hs T;cases b
 ·exact this ((qPb T).2 hT)
 exact this ((qUi hl h.nn hg h0 T).2 hT)
theorem qIr(h:f.Cmp s T):(s.next∉T)∨∃T',T=s.next::T':=by
 cases T with
 |nil=>simp
 |cons i T=>
  by_cases hi:i=s.next
  ·grind
  have h1:=(bO.1 h.srt).1;have h2:=h.ge i O4;grind
def vs(w:Nat→Nat):List Nat→Nat
 |[]=>0
 |i::T=>w i+vs w T
def Q.best(f:Q)(w:Nat→Nat):Nat→St→Nat×Bool×Bool
 |0,s=>if s.left=0 then(0,false,true) else(0,false,false)
 |d+1,s=>
  if s.left=0 then(0,false,true) else
  let a:Nat×Bool×Bool:=match f.k9 s false with
   |some t=>((f.best w d t).1,false,(f.best w d t).2.2)
   |none=>(0,false,false)
  match f.k9 s true with
   |some t=>if(f.best w d t).2.2&&(!a.2.2||decide (a.1<(f.best w d t).1+w s.next)) then((f.best w d t).1+w s.next,true,true) else a
   |none=>a
def Q.o7(f:Q)(w:Nat→Nat):Nat→St→List Nat
 |0,_=>[]
 |d+1,s=>
  if s.left=0 then[] else
  match f.k9 s (f.best w (d+1) s).2.1 with
  |some t=>if(f.best w (d+1) s).2.1 then s.next::f.o7 w d t else f.o7 w d t
  |none=>[]
structure Q.BestOk(f:Q)(w:Nat→Nat)(s:St)(r:Nat×Bool×Bool)(T:List Nat):Prop where
 no:r.2.2=false→∀T,¬f.Cmp s T
 cmp:r.2.2=true→f.Cmp s T
 val:r.2.2=true→vs w T=r.1
 max:r.2.2=true→∀T',f.Cmp s T'→vs w T'≤r.1
theorem qIu(w:Nat→Nat):∀(d:Nat) (s:St),f.Ok s→f.N-s.next=d→f.BestOk w s (f.best w d s) (f.o7 w d s)
 |0,s,h,hd=>by
  have h0:s.left=0:=by have:=h.td.left;omega
  exact mBk
 |d+1,s,h,hd=>by
  by_cases h0:s.left=0
  ·exact mBk
  have hh:0<s.left:=O1
  obtain⟨a,ha⟩:∃a:Nat×Bool×Bool,a=(match f.k9 s false with
   |some t=>((f.best w d t).1,false,(f.best w d t).2.2)
   |none=>(0,false,false)):=⟨_,O⟩
  have hA:a.2.1=false∧(a.2.2=false→∀T,f.Cmp s T→¬s.next∉T)∧(a.2.2=true→∃t,f.k9 s false=some t∧f.Cmp s (f.o7 w d t)∧vs w (f.o7 w d t)=a.1∧∀T',f.Cmp s T'→s.next∉T'→vs w T'≤a.1):=by
   cases hs:f.k9 s false with
   |none=>
    rw[hs] at ha;rw[ha];refine⟨O,fun _ T hT hm=>?_,fun h=>(by cases h)⟩;have:=qLb h hh hs T;grind
   |some t=>
    rw[hs] at ha;obtain⟨o1,o2,o3,_,o5⟩:=wW h hh hs;have ih:=qIu w d t o1 O1;rw[ha];refine⟨O,fun j0 T hT hm=>ih.no j0 T ((o5 T).2 ⟨hT,hm⟩),fun hy=>⟨t,O,((o5 _).1 (ih.cmp hy)).1,ih.val hy,fun T' hg hm=>ih.max hy T' ((o5 T').2 ⟨hg,hm⟩)⟩⟩
  obtain⟨pz,py,ht⟩:=hA;have hB:∀t,f.k9 s true=some t→((f.best w d t).2.2=false→∀T,¬f.Cmp s (s.next::T))∧((f.best w d t).2.2=true→f.Cmp s (s.next::f.o7 w d t)∧vs w (f.o7 w d t)=(f.best w d t).1∧∀T',f.Cmp s (s.next::T')→vs w T'≤(f.best w d t).1):=by
   intro t hs;obtain⟨o1,o2,o3,_,o5⟩:=wW h hh hs;simp only[if_true] at o3 o5;have ih:=qIu w d t o1 O1;exact⟨fun j0 T hT=>ih.no j0 T ((o5 T).2 hT),fun hy=>⟨(o5 _).1 (ih.cmp hy),ih.val hy,fun T' hg=>ih.max hy T' ((o5 T').2 hg)⟩⟩
  have hn:f.o7 w (d+1) s=match f.k9 s (f.best w (d+1) s).2.1 with
   |some t=>if(f.best w (d+1) s).2.1 then s.next::f.o7 w d t else f.o7 w d t
   |none=>[]:=by rw[Q.o7,if_neg h0]
  have na:∀r,r=a→f.best w (d+1) s=r→(∀T,f.Cmp s (s.next::T)→a.2.2=true∧vs w T+w s.next≤a.1)→f.BestOk w s (f.best w (d+1) s) (f.o7 w (d+1) s):=by
   rintro r rfl hr yw;rw[hn,hr,pz];refine⟨fun j0 T hT=>?_,fun hy=>?_,fun hy=>?_,fun hy T' hg=>?_⟩
   ·rcases qIr hT with hm|⟨T',rfl⟩
    ·grind
    grind
   ·grind
   ·grind
   obtain⟨t,_,_,_,e4⟩:=ht hy;rcases qIr hg with hm|⟨T'',rfl⟩
   ·grind
   have:=(yw T'' hg).2;simp only[vs];omega
  cases hs:f.k9 s true with
  |none=>
   have hr:f.best w (d+1) s=a:=by rw[Q.best,if_neg h0,←ha,hs]
   refine na a O hr fun T hT=>?_
   have:=qLb h hh hs T;grind
  |some t=>
   obtain⟨vk,hj⟩:=hB t hs;by_cases hc:((f.best w d t).2.2&&(!a.2.2||decide (a.1<(f.best w d t).1+w s.next)))=true
   ·have hr:f.best w (d+1) s=((f.best w d t).1+w s.next,true,true):=by
     rw[Q.best,if_neg h0,←ha,hs];simp only[];rw[if_pos hc]
    simp[aF,fQ,lA,dL] at hc;obtain⟨hy,hq⟩:=hc;obtain⟨b1,b2,b3⟩:=hj hy;rw[hn,hr];simp[hs,if_true];refine⟨fun h=>(by cases h),fun _=>b1,fun _=>by simp[vs];omega,fun _ T' hg=>?_⟩;rcases qIr hg with hm|⟨T'',rfl⟩
    ·rcases hq with j0|hl
     ·grind
     cases hay:a.2.2
     ·grind
     grind
    have:=b3 _ hg;simp only[vs];omega
   have hr:f.best w (d+1) s=a:=by
    rw[Q.best,if_neg h0,←ha,hs];simp only[];rw[if_neg hc]
   grind
end
end
open Go.Lp
variable{P a b T:List Nat}{w:Nat→Nat}{y:Nat→Rat}{n:Nat}
structure PF(n:Nat)(q:List (Int×Int))(inn:Nat→Nat→Bool)(size:Nat)(P:List Nat):Prop where
 srt:P.Pairwise (·<·)
 lt:∀i∈P,i<n
 len:P.length=size
 quo:∀k lh,q[k]? =some lh→lh.1≤((P.countP (fun i=>inn i k):Nat):Int)∧((P.countP (fun i=>inn i k):Nat):Int)≤lh.2
def Q.of(n:Nat)(q:List (Int×Int))(inn:Nat→Nat→Bool)(ord:Nat→Nat):Q:={N:=n,q:=q,inn:=fun i k=>inn (ord i) k}
def s0(size:Nat)(m:Nat):St:={next:=0,left:=size,cs:=replicate m 0}
theorem qVb(size m k:Nat):(s0 size m).cs.getD k 0=0:=by
 simp[s0,aC,nE];grind
section
variable {n:Nat}{q:List (Int×Int)}{inn:Nat→Nat→Bool}{size m:Nat}{ord:Nat→Nat}
theorem qHn(T:List Nat):(Q.of n q inn ord).Cmp (s0 size m) T↔PF n q (fun i k=>inn (ord i) k) size T:=by
 constructor
 ·intro h;refine⟨h.srt,h.lt,h.len,fun k lh hk=>?_⟩;have:=h.quo k lh hk;rw[qVb] at this;simp only[Q.of] at this;omega
 intro h;refine⟨h.srt,fun i _=>bN _,h.lt,h.len,fun k lh hk=>.inr ?_⟩;have:=h.quo k lh hk;rw[qVb];simp only[Q.of];omega
theorem jMb:(Q.of n q inn ord).Nn (s0 size m):=fun k _=>by rw[qVb];omega
def qE7(ord:Nat→Nat)(T:List Nat):List Nat:=(T.map ord).mergeSort
theorem qQf(l:List Nat)(hn:l.Nodup):l.mergeSort.Pairwise (·<·):=by
 have h1:=List.pairwise_mergeSort (le:=fun a b=>decide (a≤b)) (fun a b c h1 h2=>by grind) (fun a b=>by grind) l;have h2:l.mergeSort.Nodup:=(List.mergeSort_perm l _).nodup_iff.2 hn;refine h1.imp₂ (fun a b h3 h4=>?_) h2;grind
theorem PF.nodup(h:PF n q inn size P):P.Nodup:=by
 exact h.srt.imp O1
theorem jAh(ha:a.Pairwise (·<·))(hb:b.Pairwise (·<·))(hp:a.Perm b):a=b:=by
 refine sBa O1 ha hb hp
end
section
variable {n:Nat}{q:List (Int×Int)}{inn:Nat→Nat→Bool}{size:Nat}{ord:Nat→Nat}
theorem qOu(hg:∀i j,i<n→j<n→ord i=ord j→i=j)(hT:T.Nodup)(hl:∀i∈T,i<n):(T.map ord).Nodup:=by
 rw[dZ] at hT⊢;rw[nU];refine hT.imp_of_mem fun ha hb jz e=>jz (hg _ _ (hl _ ha) (hl _ hb) e)
theorem qEr(hp:(T.map ord).Perm P)(k:Nat):P.countP (fun i=>inn i k)=T.countP (fun i=>inn (ord i) k):=by
 rw[←hp.countP_eq,sBq];rfl
theorem PF.panel(hg:∀i j,i<n→j<n→ord i=ord j→i=j)(hl:∀i,i<n→ord i<n)(h:PF n q (fun i k=>inn (ord i) k) size T):PF n q inn size (qE7 ord T)∧(T.map ord).Perm (qE7 ord T):=by
 have hp:(T.map _).Perm (qE7 ord T):=(List.mergeSort_perm _ _).symm;refine⟨⟨qQf _ (qOu hg h.nodup h.lt),fun i hi=>?_,?_,fun k lh hk=>?_⟩,hp⟩
 ·obtain⟨j,hj,rfl⟩:=bD.1 (hp.mem_iff.2 hi);exact hl j (h.lt j hj)
 ·rw[←hp.length_eq,aM];exact h.len
 rw[qEr hp];exact h.quo k lh hk
theorem PF.o7(hg:∀i j,i<n→j<n→ord i=ord j→i=j)(hh:∀i,i<n→∃j,j<n∧ord j=i)(h:PF n q inn size P):∃T,PF n q (fun i k=>inn (ord i) k) size T∧(T.map ord).Perm P:=by
 obtain⟨T,hT⟩:∃T,T=(range n).filter (fun i=>decide (ord i∈P)):=⟨_,O⟩;have hs:T.Pairwise (·<·):=by rw[hT];exact nH.filter _
 have hm:∀i,i∈T↔i<n∧ord i∈P:=fun i=>by grind
 have hl:T.Nodup:=by rw[dZ];exact hs.imp (fun h=>O1)
 have hp:=by
  refine(oF (qOu hg hl (fun i hi=>((hm i).1 hi).1)) h.nodup).2 fun x=>?_
  rw[bD];constructor
  ·grind
  intro hx;obtain⟨j,hj,rfl⟩:=hh x (h.lt x hx);exact⟨j,(hm j).2 ⟨hj,hx⟩,O⟩
 refine⟨T,⟨hs,fun i hi=>((hm i).1 hi).1,?_,fun k lh hk=>?_⟩,hp⟩
 ·rw[←h.len,←hp.length_eq,aM]
 rw[←qEr hp];exact h.quo k lh hk
theorem qX4(h:a.Perm b):vs w a=vs w b:=by
 induction h with
 |nil=>rfl
 |cons x _ ih=>simp[vs,ih]
 |swap x y l=>simp[vs];omega
 |trans _ _ h1 h2=>omega
theorem qUy{w:Nat→Nat}:∀(T:List Nat),vs (fun i=>w (ord i)) T=vs w (T.map ord)
 |[]=>rfl
 |i::T=>by simp[vs,dY,qUy]
theorem jJr(h:a.Perm b):ps y a=ps y b:=by
 induction h with
 |nil=>rfl
 |cons x _ ih=>simp[ps,ih]
 |swap x y l=>simp[ps];grind
 |trans _ _ h1 h2=>grind
theorem qWw(hh:∀i j,i<n→j<n→ord i=ord j→i=j)(hg:∀i,i<n→ord i<n)(hj:∀i,i<n→∃j,j<n∧ord j=i){m:Nat}(hm:q.length≤m){t:St}
  (ht:(Q.of n q inn ord).tidy (s0 size m)=some t) (hn:((Q.of n q inn ord).best (fun i=>w (ord i)) n t).2.2=true):
  PF n q inn size (qE7 ord ((Q.of n q inn ord).o7 (fun i=>w (ord i)) n t))∧(((Q.of n q inn ord).o7 (fun i=>w (ord i)) n t).map ord).Perm (qE7 ord ((Q.of n q inn ord).o7 (fun i=>w (ord i)) n t))∧
  ∀P,PF n q inn size P→vs w P≤vs w (qE7 ord ((Q.of n q inn ord).o7 (fun i=>w (ord i)) n t)):=by
 have hl:(Q.of n q inn ord).q.length≤(s0 size m).cs.length:=by simp only[Q.of,s0,lG];exact hm
 obtain⟨e1,e2,e3,e4,e5⟩:=wJ hl ht;have hq:(Q.of n q _ _).Ok t:=⟨e4,qKe hl jMb ht,by rw[e1];exact bN _⟩;have hb:=qIu (fun i=>w (ord i)) n t hq (by rw[e1];exact sAc _);have hc:=(qHn _).1 ((e5 _).1 (hb.cmp hn));obtain⟨h1,h2⟩:=hc.panel hh hg;refine⟨h1,h2,fun P hP=>?_⟩;obtain⟨T,hT,hx⟩:=hP.o7 hh hj;have h3:=hb.max hn T ((e5 T).2 ((qHn T).2 hT));have h4:=hb.val hn;rw[←h4,qUy,qUy (ord:=ord),qX4 hx,qX4 h2] at h3;exact h3
end
theorem jNp:∀{P:List Nat},P.Pairwise (·<·)→(∀i∈P,i<n)→vs (fun i=>2^(n-1-i)) P<2^n:=by
 have key:∀(P:List _) (k:Nat),P.Pairwise (·<·)→(∀i∈P,k≤i)→(∀i∈P,i<n)→vs (fun i=>2^(n-1-i)) P+1≤2^(n-k):=by
  intro P;induction P with
  |nil=>simp only[vs];grind
  |cons i P ih=>
   intro k hs h1 h2;obtain⟨hq,h5⟩:=bO.1 hs;have hi:=h2 i O4;have hk:=h1 i O4;have:=ih (i+1) h5 (hq) (fun j hj=>h2 j (by simp[hj]));have e:n-i=(n-1-i)+1:=O1;have e2:n-(i+1)=n-1-i:=O1;rw[e2] at this;have h3:2^(n-i)≤2^(n-k):=aR O2 O1;rw[e,dD] at h3;simp only[vs];omega
 intro P hs h;have:=key P 0 hs O1 h;grind
theorem jA9{a:Nat→Nat}{C:Nat}{least:Rat}(hC:0<C)(ha:∀i,i<n→(a i:Rat)=C*(y i-least))(hw:∀i,i<n→w i=a i*2^n+2^(n-1-i))
  {P':List Nat} (hP:P.Pairwise (·<·)) (hh:∀i∈P,i<n) (hm:∀i∈P',i<n) (hl:P.length=P'.length) (hv:vs w P'≤vs w P):ps y P'≤ps y P:=by
 have split:∀P,(∀i∈P,i<n)→vs w P=vs a P*2^n+vs (fun i=>2^(n-1-i)) P:=by
  intro P;induction P with
  |nil=>simp[vs]
  |cons i P ih=>
   simp[vs];grind
 have price:∀P:List Nat,(∀i∈P,i<n)→(vs a P:Rat)=C*(ps y P-(P.length:Rat)*least):=by
  intro P;induction P with
  |nil=>
   simp only[vs,ps,mO];grind
  |cons i P ih=>
   simp only[vs,ps,bT];grind
 have yw:vs a P'≤vs a P:=by
  rw[split P hh,split P' hm] at hv;have h1:=jNp hP hh;refine bG fun hg=>?_
  have h2:(vs a P+1)*2^n≤vs a P'*2^n:=aL _ O1;rw[fE] at h2;omega
 have h3:(vs a P':Rat)≤(vs a P):=by exact_mod_cast yw
 rw[price P hh,price P' hm,hl] at h3;have hj:(0:Rat)<C:=by exact_mod_cast hC
 refine bG fun hg=>?_
 have:=oH hj (show 0<ps y P'-ps y P by grind);grind
end Go.Qu
namespace Go.Lp
open List (range range' replicate)
section
open Go.Qu
variable{y:Nat→Rat}{s:Sr}
noncomputable def vU(G:List Nat→Prop)(y:Nat→Rat):Rat:=
 open Classical in if h:∃P,G P∧∀P',G P'→ps y P'≤ps y P then ps y h.choose else 0
theorem qJn{G:List Nat→Prop}{P:List Nat}(h1:G P)(h2:∀P',G P'→ps y P'≤ps y P):vU G y=ps y P:=by
 have h:∃P,G P∧∀P',G P'→ps y P'≤ps y P:=⟨P,h1,h2⟩;unfold vU;grind
structure Sr.Eqv(s s':Sr):Prop where
 nc:s.nc=s'.nc
 S:s.S=s'.S
 dec:s.dec=s'.dec
 p:s.p=s'.p
theorem Sr.Eqv.refl:s.Eqv s:=⟨O,O,O,O⟩
theorem Sr.Eqv.trans{a b c:Sr}(h:a.Eqv b)(h':b.Eqv c):a.Eqv c:=⟨h.nc.trans h'.nc,h.S.trans h'.S,h.dec.trans h'.dec,h.p.trans h'.p⟩
theorem Sr.Eqv.symm{a b:Sr}(h:a.Eqv b):b.Eqv a:=⟨h.nc.symm,h.S.symm,h.dec.symm,h.p.symm⟩
theorem Sr.Eqv.next{s s':Sr}(h:s.Eqv s')(v:Rat)(y:Nat→Rat):(s.next v y).Eqv (s'.next v y):=by
 refine⟨h.nc,h.S,?_,?_⟩<;>simp[Sr.next,h.dec,h.p]
theorem Sr.Eqv.lv{s':Sr}(h:s.Eqv s'){F:(Nat→Nat)→Prop}{v:Rat}(hl:s.Lv F v y):s'.Lv F v y:=by
 obtain⟨h1,h2,h3,h4⟩:=hl;have e1:s'.tot y=s.tot y:=by unfold Sr.tot;rw[h.nc,h.S,h.dec]
 have e2:s'.n0 y=s.n0 y:=by unfold Sr.n0;rw[h.nc,h.S,h.dec,h.p]
 have e3:∀κ,s'.price y κ=s.price y κ:=fun κ=>by unfold Sr.price;rw[h.nc]
 exact⟨fun c hc=>h1 c (by rw[h.nc];exact hc),by grind,fun κ hκ=>by grind,by
  grind⟩
def Sr.run(F:(Nat→Nat)→Prop):Sr→List (Rat×(Nat→Rat))→Option Rat→Sr→Prop
 |s,[],_,s'=>s.Eqv s'
 |s,(v,y)::ls,last,s'=>s.Lv F v y∧(∀u,last=some u→u≤v)∧Sr.run F (s.next v y) ls (some v) s'
theorem Sr.run.eqv{F:(Nat→Nat)→Prop}:∀{ls:List (Rat×(Nat→Rat))} {s t s' t':Sr} {last:Option Rat},s.run F ls last s'→s.Eqv t→s'.Eqv t'→t.run F ls last t'
 |[],_,_,_,_,_,h,h1,h2=>h1.symm.trans (h.trans h2)
 |(_,_)::_,_,_,_,_,_,h,h1,h2=>⟨h1.lv h.1,h.2.1,h.2.2.eqv (h1.next _ _) h2⟩
def qYm:List (Rat×(Nat→Rat))→Option Rat→Option Rat
 |[],last=>last
 |(v,_)::ls,_=>qYm ls (some v)
theorem qMi(v:Rat)(y:Nat→Rat):∀(ls:List (Rat×(Nat→Rat))) (last:Option Rat),qYm (ls++[(v,y)]) last=some v
 |[],_=>rfl
 |(_,_)::ls,_=>qMi v y ls _
theorem Sr.run.snoc{F:(Nat→Nat)→Prop}{v:Rat}{y:Nat→Rat}:∀{ls:List (Rat×(Nat→Rat))} {s s':Sr} {last:Option Rat},s.run F ls last s'→s'.Lv F v y→(∀u,qYm ls last=some u→u≤v)→s.run F (ls++[(v,y)]) last (s'.next v y)
 |[],_,_,_,h,hl,hu=>⟨h.symm.lv hl,hu,h.next _ _⟩
 |(_,_)::_,_,_,_,h,hl,hu=>⟨h.1,h.2.1,h.2.2.snoc hl hu⟩
structure Cls(n:Nat)(cl:Nat→Nat)(s:Sr)(G:List Nat→Prop)(F:(Nat→Nat)→Prop):Prop where
 lt:∀i,i<n→cl i<s.nc
 S:∀c,c<s.nc→s.S c=cnt cl n c
 g:∀P,G P→F (jX cl P)∧∀i∈P,i<n
 f:∀κ,F κ→∃P,G P∧∀c,c<s.nc→jX cl P c=κ c
section
variable {n:Nat}{cl:Nat→Nat}{G:List Nat→Prop}{F:(Nat→Nat)→Prop}{s s':Sr}
theorem Cls.next(h:Cls n cl s G F)(v:Rat)(y:Nat→Rat):Cls n cl (s.next v y) G F:=⟨h.lt,h.S,h.g,h.f⟩
theorem jDa:∀{ls:List (Rat×(Nat→Rat))} {s:Sr} {last:Option Rat},s.run F ls last s'→∀c,s.dec c=true→s'.dec c=true∧s'.p c=s.p c
 |[],s,last,h,c,hd=>⟨by rw[←h.dec];exact hd,by rw[h.p]⟩
 |(v,y)::ls,s,last,h,c,hd=>by
  have:=jDa h.2.2 c (by simp[Sr.next,hd]);refine⟨this.1,this.2.trans ?_⟩;simp[Sr.next,hd]
theorem qXp:∀{ls:List (Rat×(Nat→Rat))} {s:Sr} {last:Option Rat},Cls n cl s G F→s.run F ls last s'→(∀c,c<s'.nc→s'.dec c=true)→
  prv n (fun i=>s'.p (cl i)) (vU G) (ls.map fun l=>(l.1,fun i=>l.2 (cl i))) (fun i=>s.dec (cl i)) last
 |[],s,last,hc,h,ha=>fun i hi=>by
  rw[h.dec];exact ha _ (by rw[←h.nc];exact hc.lt i hi)
 |(v,y)::ls,s,last,hc,h,ha=>by
  obtain⟨h1,h2,h3⟩:=h;have ih:=qXp (hc.next v y) h3 ha;have hj:∀i,i<n→s.dec (cl i)=true→s'.p _=s.p (cl i):=fun i _ hd=>by
   have:=(jDa h3 (cl i) (by simp[Sr.next,hd])).2;rw[this];simp[Sr.next,hd]
  have ya:∀i,i<n→s.dec (cl i)=false→0<y (cl i)→s'.p _=v:=fun i _ hd hy=>by
   have:=(jDa h3 (cl i) (by simp[Sr.next,hy])).2;rw[this];simp[Sr.next,hd,hy]
  refine⟨fun i hi=>h1.nn _ (hc.lt i hi),?_,?_,h2,fun i hi=>?_,?_⟩
  ·have:=qLe cl (fun c=>if s.dec c then 0 else y c) _ hc.lt;rw[this];have e:=h1.one;rw[←e];refine jF fun c bA=>?_
   rw[hc.S c bA];grind
  ·obtain⟨κ,hκ,hp⟩:=h1.ex;obtain⟨P,hP,hh⟩:=hc.f κ hκ;have price:∀P,G P→ps _ P=s.price y _:=fun P hP=>by
    rw[qF8 cl y _ (fun i hi=>hc.lt i ((hc.g P hP).2 i hi))];rfl
   have e1:s.price y (jX cl P)=s.price y κ:=by
    unfold Sr.price;exact jF fun c bA=>by grind
   have e2:vU G (fun i=>y (cl i))=v+s.n0 y:=by
    rw[qJn hP,price P hP,e1,hp];intro P' hg;rw[price P' hg,price P hP,e1,hp];exact h1.le _ (hc.g P' hg).1
   have e3:sm n (fun i=>if s.dec (cl i) then y (cl i)*s'.p (cl i) else 0)=s.n0 y:=by
    rw[jF (g:=fun i=>(fun c=>if s.dec c then y c*s.p c else 0) (cl i)) (fun i hi=>by
     grind),qLe cl (fun c=>if s.dec c then y c*s.p c else 0) s.nc hc.lt]
    unfold Sr.n0;refine jF fun c bA=>?_
    rw[hc.S c bA];cases s.dec c<;>simp
   grind
  ·cases hd:s.dec (cl i)
   ·right;by_cases hy:0<y (cl i)
    ·grind
    have:=h1.nn _ (hc.lt i hi);grind
   grind
  exact ih
end
end
section
variable{S q p x b N:Nat}
def qAg(S q p N:Nat):Bool:=decide (((N*S/60:Nat)-(p*q:Nat):Int).emod S<q)
def jLd:Bool:=(range 6).all fun b=>b==0||(range (b+1)).all fun t=>(range 6).all fun S=>S==0||(range (S+1)).all fun q=>(range S).all fun p=>
 (decide (((t*S:Nat)-(p*q*b:Nat):Int).emod (b*S:Nat)<(q*b:Nat)))==qAg S q p (t*(60/b))
theorem qWr:jLd=true:=by decide+kernel
def jHs:Bool:=(range 6).all fun S=>S==0||(range (S+1)).all fun q=>(range S).all fun p=>(range' 0 60).countP (fun N=>qAg S q p N)*S==60*q
theorem qUk:jHs=true:=by decide+kernel
def jTl:Bool:=(range 6).all fun S=>S==0||(range (S+1)).all fun q=>(range 60).all fun N=>(range S).countP (fun p=>qAg S q p N)==q
theorem jBl:jTl=true:=by decide+kernel
def jTm:Bool:=(range 6).all fun S=>S==0||(60/S)*S==60
theorem jBm:jTm=true:=by decide+kernel
theorem vJ{n:Nat}{f:Nat→Bool}(h:(range n).all f=true){i:Nat}(hi:i<n):f i=true:=by
 grind
theorem qI7{b:Bool}(h:(x==0||b)=true)(hx:0<x):b=true:=by
 grind
theorem qTn{t:Nat}(hb:0<b)(hh:b≤5)(ht:t≤b)(hS:0<S)(hg:S≤5)(hq:q≤S)(hp:p<S):
  decide (((t*S:Nat)-(p*q*b:Nat):Int).emod (b*S:Nat)<(q*b:Nat))=qAg S q p (t*(60/b)):=by
 have h1:=qI7 (vJ qWr O1) hb;exact eq_of_beq (vJ (vJ (qI7 (vJ (vJ h1 (i:=t) O1) O1) hS) O1) hp)
theorem jLa(hS:0<S)(hg:S≤5)(hq:q≤S)(hp:p<S):(range' 0 60).countP (fun N=>qAg S q p N)*S=60*q:=by
 exact eq_of_beq (vJ (vJ (qI7 (vJ qUk O1) hS) O1) hp)
theorem jKd(hS:0<S)(hg:S≤5)(hq:q≤S)(hN:N<60):(range S).countP (fun p=>qAg S q p N)=q:=by
 exact eq_of_beq (vJ (vJ (qI7 (vJ jBl O1) hS) O1) hN)
theorem jY1(hS:0<S)(hg:S≤5):(60/S)*S=60:=eq_of_beq (qI7 (vJ jBm O1) hS)
theorem jB4{N':Nat}(hS:0<S)(hg:S≤5)(h1:N≤x)(h2:x<N')(hh:N'≤60)(j0:∀a,0<a→a<S→¬(N<a*(60/S)∧a*(60/S)<N')):qAg S q p x=qAg S q p N:=by
 have hd:=jY1 hS hg;obtain⟨D,hD⟩:∃D,D=60/S:=⟨_,O⟩;rw[←hD] at hd j0;have key:x*S/60=N*S/60:=by
  have yw:N*S/60≤x*S/60:=Nat.div_le_div_right (aL _ h1);refine bG fun xr=>?_
  have hl:N*S/60<x*S/60:=O1;obtain⟨a,ha⟩:∃a,a=x*S/60:=⟨_,O⟩;rw[←ha] at hl;have h3:a*60≤x*S:=by rw[ha];exact oY _ _
  have h4:N*S<a*60:=by
   have:=Nat.lt_mul_of_div_lt (cJ hl (bM a)) (by omega:0<60);omega
  have h5:a<S:=by
   refine bG fun h=>?_
   have:S*60≤a*60:=aL _ O1;have:x*S≤59*S:=aL _ O1;omega
  refine j0 a O1 h5 ⟨?_,?_⟩
  ·refine mH (a:=S) ?_;rw[fK,hd];exact h4
  refine bY ?_ h2;refine Nat.le_of_mul_le_mul_right (a:=a*D) (b:=x) (c:=S) ?_ hS;rw[fK,hd];exact h3
 unfold qAg;rw[key]
def qNr(f:Nat→Bool):List Nat→Nat
 |x::y::cs=>(if f x then y-x else 0)+qNr f (y::cs)
 |_=>0
theorem qQc{a c:Nat}(h1:a≤b)(h2:b≤c)(f:Nat→Bool):(range' a (c-a)).countP f=(range' a (b-a)).countP f+(range' b (c-b)).countP f:=by
 have:=rX (s:=a) (m:=b-a) (n:=c-b);grind
theorem qIp{f:Nat→Bool}{v:Bool}:∀(n a:Nat),(∀x,a≤x→x<a+n→f x=v)→(range' a n).countP f=if v then n else 0
 |0,a,_=>O4
 |n+1,a,h=>by
  rw[sBf,iR,qIp n _ (fun x h1 h2=>h x O1 O1),h a O1 O1];grind
theorem qLh(f:Nat→Bool):∀(cs:List Nat) (x last:Nat),(x::cs).Pairwise (·<·)→(x::cs).getLast? =some last→(∀pre a b ou,x::cs=pre++a::b::ou→∀z,a≤z→z<b→f z=f a)→qNr f (x::cs)=(range' x (last-x)).countP f
 |[],x,last,_,hl,_=>by
  obtain rfl:x=last:=by grind
  simp[qNr]
 |y::cs,x,last,hs,hl,hc=>by
  obtain⟨h1,h2⟩:=bO.1 hs;have ft:=h1 y O4;have hg:=by rw[List.getLast?_cons_cons] at hl;exact hl
  have ih:=qLh f cs y _ h2 hg (fun pre a b ou e=>hc (x::pre) a b _ (by rw[e];rfl));have fv:y≤last:=by
   rcases bE.1 (rY hg) with h|h
   ·omega
   have:=(bO.1 h2).1 last h;omega
  rw[qQc O1 fv];simp[qNr];rw[ih,qIp _ x (fun z h3 h4=>hc [] x y cs O z h3 O1)]
theorem part(hS:0<S)(hg:S≤5)(hq:q≤S)(hp:p<S){cs:List Nat}(hs:(0::cs).Pairwise (·<·))(hl:(0::cs).getLast? =some 60)(hm:0<q→q<S→∀a,0<a→a<S→a*(60/S)∈0::cs):
  qNr (fun N=>qAg S q p N) (0::cs)*S=60*q:=by
 have yw:∀b,b∈0::cs→b≤60:=by
  intro b hb;have:∀(l:List Nat) (last:Nat),l.Pairwise (·<·)→l.getLast? =some last→∀b∈l,b≤last:=by
   intro l;induction l with
   |nil=>simp
   |cons x l ih=>
    intro last hs hl b hb;cases l with
    |nil=>
     grind
    |cons y l=>
     obtain⟨h1,h2⟩:=bO.1 hs;grind
  exact this _ 60 hs hl b hb
 rw[qLh _ cs 0 60 hs hl ?_]
 ·exact jLa hS hg hq hp
 intro pre a b ou e z h1 h2;by_cases hh:q=0
 ·subst hh;have:∀N,qAg S 0 p N=_:=fun N=>by
   unfold qAg;rw[fA];have h:0≤(((N*S/60:Nat)-(p*0:Nat):Int)).emod S:=gK _ O1;omega
  grind
 by_cases hj:q=S
 ·subst hj;have:∀N,qAg q q p N=true:=fun N=>by
   unfold qAg;rw[decide_eq_true_iff];exact gI _ O1
  grind
 refine jB4 hS hg h1 h2 (yw b (by grind)) fun c sY qp ⟨h3,h4⟩=>?_
 have lp:=hm O1 O1 c sY qp;rw[e] at lp hs;rw[eY] at hs;obtain⟨s1,s2,s3⟩:=hs;obtain⟨s4,s5⟩:=bO.1 s2;obtain⟨s6,s7⟩:=bO.1 s5;rcases fO.1 lp with h|h
 ·have:=s3 _ h a O4;omega
 rcases bE.1 h with h|h
 ·omega
 grind
end
variable{k:Nat}{a:Rat}{j:Nat}{b:Rat}{n:Nat}
def sg(b:Bool)(n:Nat):Int:=if b then-(n:Int) else n
def sgn(q:Rat):Bool:=decide (q.num<0)
theorem qBe(q:Rat):q.num=sg (sgn q) q.num.natAbs:=by
 unfold sg sgn;grind
theorem qV7(b:Bool)(n:Nat):(sg b n).natAbs=n:=by unfold sg;omega
theorem jD3(a b:Bool)(m n:Nat):sg a m*sg b n=sg (a !=b) (m*n):=by
 unfold sg;grind
theorem qFy(b:Bool)(m n:Nat):sg b m*(n:Int)=sg b (m*n):=by
 unfold sg;grind
section
variable {b:Bool}{n d:Nat}
theorem jEi(hd:0<d):(mkRat (sg b n) d).num=sg b (n/Nat.gcd n d):=by
 rw[Rat.num_mkRat,if_neg O1,qV7,pT];have hg:=sBd n d;have hp:=lP n hd;generalize Nat.gcd n d=g at*
 obtain⟨k,rfl⟩:=hg;rw[Nat.mul_div_cancel_left k hp];have hh:(g:Int)≠0:=O1;unfold sg;cases b
 ·simp[eE,iW,bU];exact sBb _ hh
 simp[if_true,bU];rw[←Int.mul_neg];exact sBb _ hh
theorem jEk(hd:0<d):(mkRat (sg b n) d).den=d/Nat.gcd n d:=by
 rw[Rat.den_mkRat,if_neg O1,qV7,pT]
theorem jP6(hd:0<d):sgn (mkRat (sg b n) d)=(b&&decide (n/Nat.gcd n d≠0)):=by
 unfold sgn;rw[jEi hd];unfold sg;grind
theorem jEl(hd:0<d):(mkRat (sg b n) d).num.natAbs=n/Nat.gcd n d:=by rw[jEi hd,qV7]
end
section
variable {a b:Rat}
theorem jEj:a*b=mkRat (sg (sgn a !=sgn b) (a.num.natAbs*b.num.natAbs)) (a.den*b.den):=by
 rw[←jD3,←qBe,←qBe,←Rat.mkRat_mul_mkRat,rB,rB]
theorem jO2{s:Bool}{m:Nat}:sg s m+sg s n=sg s (m+n):=by
 unfold sg;grind
theorem qK0(h:sgn a=sgn b):a+b=mkRat (sg (sgn a) (a.num.natAbs*b.den+b.num.natAbs*a.den)) (a.den*b.den):=by
 rw[Rat.add_def',←jO2];congr 1;have h1:=qBe a;have h2:=qBe b;rw[←h] at h2;have e1:sg (sgn a) (a.num.natAbs*b.den)=a.num*b.den:=by rw[←qFy,←h1]
 have e2:sg (sgn a) (b.num.natAbs*a.den)=b.num*a.den:=by rw[←qFy,←h2]
 omega
theorem qRz{x y:Bool}(h:x≠y):y= !x:=by cases x<;>cases y<;>simp at h⊢
theorem qFd(h:sgn a≠sgn b)(yw:b.num.natAbs*a.den≤a.num.natAbs*b.den):a+b=mkRat (sg (sgn a) (a.num.natAbs*b.den-b.num.natAbs*a.den)) (a.den*b.den):=by
 rw[Rat.add_def'];have h1:=qBe a;have h2:=qBe b;have h3:=qRz h;rw[h3] at h2;have e1:a.num*b.den=sg (sgn a) (a.num.natAbs*b.den):=by rw[←qFy,←h1]
 have e2:b.num*a.den=sg (!sgn a) (b.num.natAbs*a.den):=by rw[←qFy,←h2]
 rw[e1,e2];unfold sg;grind
theorem qIc(h:sgn a≠sgn b)(yw:a.num.natAbs*b.den≤b.num.natAbs*a.den):a+b=mkRat (sg (sgn b) (b.num.natAbs*a.den-a.num.natAbs*b.den)) (a.den*b.den):=by
 rw[Rat.add_comm,bW a.den];exact qFd (fun e=>h e.symm) yw
theorem qSa(h:b≠0):0<b.num.natAbs:=by
 have:b.num≠0:=fun e=>h (Rat.num_eq_zero.1 e)
 omega
theorem jEh(h:b≠0):a/b=mkRat (sg (sgn a !=sgn b) (a.num.natAbs*b.den)) (a.den*b.num.natAbs):=by
 have e:b⁻¹=mkRat (sg (sgn b) b.den) b.num.natAbs:=by
  rw[Rat.inv_def];have h1:=qBe b
  conv=>lhs;rw[h1]
  rw[←Rat.divInt_ofNat];unfold sg;cases sgn b
  ·simp
  simp only[if_true];rw[Rat.divInt_neg']
 rw[Rat.div_def,e]
 conv=>lhs;lhs;rw[←rB a,qBe]
 rw[Rat.mkRat_mul_mkRat,jD3]
theorem jK2:sgn (-a)=(!sgn a&&decide (a.num.natAbs≠0)):=by
 unfold sgn;rw[Rat.neg_num];grind
theorem qYc:(-a).num.natAbs=a.num.natAbs:=O4
theorem qYb:(-a).den=a.den:=O
theorem qV5:sgn a=true↔a<0:=by
 unfold sgn;rw[dL,Rat.lt_iff];simp
theorem qV6:sgn a=false↔0≤a:=by
 unfold sgn;simp
def wH(a b:Rat):Int:=if a<b then-1 else if a=b then 0 else 1
def qAm(a:Rat):Int:=if a=0 then 0 else if a<0 then-1 else 1
theorem jHp(h:sgn a≠sgn b):wH a b=if sgn a then-1 else 1:=by
 unfold wH;cases ha:sgn a
 ·have hb:sgn b=true:=by have:=qRz h;rw[ha] at this;exact this
  have h1:=qV6.1 ha;have h2:=qV5.1 hb;grind
 have hb:sgn b=false:=by have:=qRz h;rw[ha] at this;exact this
 have h1:=qV5.1 ha;have h2:=qV6.1 hb;grind
theorem jHm(h:sgn a=sgn b):wH a b=if sgn a then(-(if a.num.natAbs*b.den<b.num.natAbs*a.den then-1 else if a.num.natAbs*b.den=b.num.natAbs*a.den then 0 else 1)) else(if a.num.natAbs*b.den<b.num.natAbs*a.den then-1 else if a.num.natAbs*b.den=b.num.natAbs*a.den then 0 else 1):=by
 have h1:=qBe a;have h2:=qBe b;rw[←h] at h2;have hl:=Rat.lt_iff a b;have hg:a=b↔a.num*b.den=b.num*a.den:=by
  constructor
  ·grind
  intro e;have h3:=(Rat.le_iff a b).2 O1;have h4:=(Rat.le_iff b a).2 O1;grind
 have e1:a.num*b.den=sg (sgn a) (a.num.natAbs*b.den):=by rw[←qFy,←h1]
 have e2:b.num*a.den=sg (sgn a) (b.num.natAbs*a.den):=by rw[←qFy,←h2]
 rw[e1,e2] at hl hg;unfold wH;generalize a.num.natAbs*b.den=x at*
 generalize b.num.natAbs*a.den=y at*
 unfold sg at hl hg;grind
end
def BQ(k:Nat)(q:Rat):Prop:=q.num.natAbs<2^k∧q.den<2^k
theorem BQ.mono{k':Nat}{q:Rat}(h:BQ k q)(hk:k≤k'):BQ k' q:=
 ⟨cJ h.1 (aR O2 hk),cJ h.2 (aR O2 hk)⟩
theorem BQ.mk{d:Nat}{b:Bool}(hd:0<d)(h1:n<2^k)(h2:d<2^k):BQ k (mkRat (sg b n) d):=by
 refine⟨?_,?_⟩
 ·rw[jEl hd];exact bY (fR _ _) h1
 rw[jEk hd];exact bY (fR _ _) h2
theorem yD{a b:Nat}(h1:a<2^j)(h2:b<2^k):a*b<2^(j+k):=by
 rw[dW];exact rK h1 h2
theorem qE6{a b:Nat}(h1:a<2^k)(h2:b<2^k):a+b<2^(k+1):=by
 omega
theorem BQ.mul(h1:BQ j a)(h2:BQ k b):BQ (j+k) (a*b):=by
 rw[jEj];exact BQ.mk (iU a.den_pos b.den_pos) (yD h1.1 h2.1) (yD h1.2 h2.2)
theorem BQ.neg(h:BQ k a):BQ k (-a):=by
 refine⟨?_,?_⟩
 ·rw[qYc];exact h.1
 exact h.2
theorem BQ.add(h1:BQ j a)(h2:BQ k b):BQ (j+k+1) (a+b):=by
 have e1:=yD h1.1 h2.2;have e2:=yD h2.1 h1.2;have e3:=yD h1.2 h2.2;rw[oM] at e2;have e4:=qE6 e1 e2;have hd:=iU a.den_pos b.den_pos;by_cases h:sgn a=sgn b
 ·rw[qK0 h];exact BQ.mk hd e4 O1
 by_cases yw:b.num.natAbs*a.den≤a.num.natAbs*b.den
 ·rw[qFd h yw];exact BQ.mk hd O1 O1
 rw[qIc h O1];exact BQ.mk hd O1 O1
theorem BQ.sub(h1:BQ j a)(h2:BQ k b):BQ (j+k+1) (a-b):=by
 rw[nN];exact h1.add h2.neg
theorem BQ.div(h1:BQ j a)(h2:BQ k b)(hb:b≠0):BQ (j+k) (a/b):=by
 rw[jEh hb];exact BQ.mk (iU a.den_pos (qSa hb)) (yD h1.1 h2.2) (yD h1.2 h2.1)
theorem BQ.zero(hk:1≤k):BQ k 0:=by
 have:2^1≤2^k:=aR O2 hk;refine⟨?_,?_⟩
 ·show 0<_;omega
 show 1<_;omega
theorem BQ.one(hk:1≤k):BQ k 1:=by
 have:2^1≤2^k:=aR O2 hk;refine⟨?_,?_⟩
 ·show 1<_;omega
 show 1<_;omega
end Go.Lp
namespace Go.Proofs.YtplkndjlfkkjlaaGreatDoor
open List (range range' replicate)
open Tryz
section
open Go.Eng Go.Dig Go.Lp
variable{q:Rat}{k j:Nat}
def RVs(s:Bool)(n d:Nat):Value:=.agg #[.bool s,.string (ofN n),.string (ofN d)]
def QV(q:Rat):Value:=RVs (sgn q) q.num.natAbs q.den
def eQ(q:Rat):List Value:=[.bool (sgn q),.string (ofN q.num.natAbs),.string (ofN q.den)]
theorem BQ.fn(h:BQ k q)(hk:k≤1000000000000):Fit q.num.natAbs:=Fit.of h.1 hk
theorem BQ.fd(h:BQ k q)(hk:k≤1000000000000):Fit q.den:=Fit.of h.2 hk
theorem s0(h:q.num.natAbs=0):sgn q=false:=by
 unfold sgn;grind
theorem jNc{s:Bool}{n d:Nat}(hd:0<d):RVs (s&&decide (n/Nat.gcd n d≠0)) (n/Nat.gcd n d) (d/Nat.gcd n d)=QV (mkRat (sg s n) d):=by
 unfold QV;rw[jP6 hd,jEl hd,jEk hd]
theorem jMp(n:Nat):(!decide (ofN n=⟨#[]⟩))=decide (n≠0):=by
 have h:=qC9 n 0;rw[qI8] at h;grind
theorem jIj(n:Nat):decide (ofN n=⟨#[]⟩)=decide (n=0):=by
 have h:=qC9 n 0;exact h
attribute [local irreducible] PV StepF wpl wpd WP Ret
attribute [local irreducible] Fit
theorem r40(x:Nat)(w:World):Rk 40 [.string (ofN x)] w (.bool true):=by
 have he:=qC9 x 0;refine tW func40 ntmps40 fun hp=>?_;refine gA1 ?_;refine gA1 ?_;by_cases h0:x=0
 ·subst h0;exact mE6
 obtain⟨hg,hb⟩:=qKs h0;refine wlp (xV O O) (qV (he.trans (aB h0))) (jM ?_);refine qAd ?_;apply vX;exact O;exact O;exact zY (i:=0) O O O hg;exact fI O;apply vX;exact O;exact O;exact kB O O;exact qV (ndt hb);exact mE6
theorem zBg(s:Bool)(n d:Nat)(w:World)(hn:Fit n)(hd:Fit d)(hh:0<d)(hg:Nat.gcd n d=1)(hs:n=0→s=false):Rk 124 [RVs s n d] w (.bool true):=by
 have hl:=qC9 n 0;refine tW func124 ntmps124 fun hp=>?_;refine vK fun w b hp=>?_
 refine tC (r40 n _) fun w1 hp=>?_;refine tE (r40 d _) fun w2 hp=>?_;refine jL ?_;refine qH O (fun h=>absurd (qQx (n:=0) h) O1) (fun _=>qR ?_);refine jM ?_;refine jM ?_;by_cases h0:n=0
 ·have hj:=hs h0;subst h0;subst hj;refine gAa ?_;refine tC (c84 0 d _ hn hd) fun w3 hp=>?_;rw[hg];exact mA0
 refine wlp (xV O O) (qV (hl.trans (aB h0))) (jL ?_);refine tJ ?_;refine tC (c84 n d _ hn hd) fun w3 hp=>?_;rw[hg];exact mA0
structure FQ(q:Rat):Prop where
 n:Fit q.num.natAbs
 d:Fit q.den
theorem BQ.fq(h:BQ k q)(hk:k≤1000000000000):FQ q:=⟨BQ.fn h hk,BQ.fd h hk⟩
theorem jMg(w:World)(h:FQ q):Rk 124 [QV q] w (.bool true):=zBg _ _ _ w h.n h.d q.den_pos q.reduced s0
theorem r51(w:World)(h:FQ q):Rk 51 [QV q] w (.bool true):=by
 refine tW func51 ntmps51 fun hp=>?_;refine vK fun w b hp=>?_
 refine tC (jMg _ h) fun w1 hp=>?_;exact mA0
theorem r80(w:World)(h:FQ q):Rk 80 [QV q] w (QV q):=by
 refine tW func80 ntmps80 fun hp=>?_;refine qSk fun w _ b hp=>?_
 refine tC (jMg _ h) fun w1 hp=>?_;refine qA (qN O ?_);refine qBs fun w hp=>?_
 exact mA2
theorem r41(s:Bool)(n d:Nat)(w:World)(hn:Fit n)(hd:Fit d)(hh:0<d):Rk 41 [.bool s,.string (ofN n),.string (ofN d)] w (QV (mkRat (sg s n) d)):=by
 have ux:=lP n hh;have hg:=hd.le (lM hh (mU n d));rw[←jNc hh];refine tW func41 ntmps41 fun hp=>?_;refine vK fun w b hp=>?_
 refine tC (c84 n d _ hn hd) fun w1 hp=>?_;refine tD (c24 _ _ _ hn hg ux) fun w2 hp=>?_;refine tD (c24 _ _ _ hd hg ux) fun w3 hp=>?_;cases s
 ·refine jL ?_;refine qBs fun w hp=>?_
  exact mA2
 refine qBs fun w hp=>?_
 exact zJ O O O O (hp.j4 0 O O) ⟨_,O,by rw[←jMp];rfl,hp.C⟩
theorem jP5(q:Rat):RVs (!sgn q&&decide (q.num.natAbs≠0)) q.num.natAbs q.den=QV (-q):=by
 unfold QV;rw[jK2,qYc,qYb]
theorem jVm(q:Rat)(w:World):Rk 242 [QV q] w (QV (-q)):=by
 rw[←jP5];unfold QV;generalize sgn q=s;generalize q.num.natAbs=n;generalize q.den=d;have hz:=jMp n;generalize decide (n≠0)=z at*
 refine tW func242 ntmps242 fun hp=>?_;cases s
 ·refine qSk fun w _ b hp=>?_
  exact zJ O O O O (hp.j4 0 O O) ⟨_,O,by rw[←hz];rfl,hp.C⟩
 refine qSk fun w _ b hp=>?_
 refine jL ?_;refine qBs fun w hp=>?_
 exact mA2
theorem qQk{P:Program}{n:FrK}{F:Fr}{w:World}{d:Option Tmp}{ty:TypeId}{pos:String}{aft:Array Edge}{g:Option (Nat×Bool)}{x y:Operand}{t t':Nat}{a b:Bool}(ht:P.underlying t=some .bool)(hx:ev n F x= .bool a)(hy:ev n F y= .bool b):PV P n w F ⟨d,.binOp .eql t x y t',ty,pos,aft,g⟩ (.bool (a==b)):=by
 have h:=qRe (w:=w) (a:=a) (b:=b) ht;unfold PV;simp[execOp,hx,hy,eqGuard,binOp,h]
theorem qS2(a b:Bool):(a==b)=decide (a=b):=by grind
theorem jLk(a b:Bool):(a !=b)= !decide (a=b):=by grind
theorem qR9{a b:Nat}(h1:a<2^j)(h2:b<2^k)(hk:j+k≤1000000000000):Fit (a*b):=Fit.of (yD h1 h2) hk
theorem jW1{a b:Rat}(w:World)(ha:BQ j a)(hb:BQ k b)(hk:j+k+1≤1000000000000):Rk 115 [QV a,QV b] w (QV (a+b)):=by
 have fa:=BQ.fq ha O1;have fb:=BQ.fq hb O1;have f1:=qR9 ha.1 hb.2 O1;have f2:=qR9 hb.1 ha.2 O1;have f3:=qR9 ha.2 hb.2 O1;have f4:=by
  have h1:=yD ha.1 hb.2;have h2:=yD hb.1 ha.2;rw[oM k j] at h2;exact Fit.of (qE6 h1 h2) O1
 have hd:=iU a.den_pos b.den_pos;have e1:=qK0 (a:=a) (b:=b);have e2:=qFd (a:=a) (b:=b);have e3:=qIc (a:=a) (b:=b);unfold QV at*
 obtain⟨fg,fe⟩:=fa;obtain⟨ff,fc⟩:=fb;generalize hs:a+b=s at*
 generalize sgn a=sa at*
 generalize sgn b=sb at*
 generalize a.num.natAbs=na at*
 generalize b.num.natAbs=nb at*
 generalize a.den=da at*
 generalize b.den=db at*
 clear ha hb hs;refine tW func115 ntmps115 fun hp=>?_;refine jC5 fun w _ _ b hp=>?_
 refine tX fun hp=>?_;refine tH (c18 na db _ fg fc) fun w1 hp=>?_;refine tH (c18 nb da _ ff fe) fun w2 hp=>?_;refine qX (qU ?_);refine tD (c18 da db _ fe fc) fun w3 hp=>?_;refine qA (wlp (qQk Tryz.underlying4 O O) (qV (qS2 sa sb)) ?_);refine tI (fun h=>?_) fun h=>?_
 ·rw[e1 h];refine qA ?_;refine jU jG O3 (fun w'=>Hp _ _ w' _) hp.N ?_;have hp:=hp.N;refine tH (c17 _ _ _ f1 f2) fun w4 hp=>?_;refine tH (r41 sa _ _ _ f4 f3 hd) fun w5 hp=>?_;refine tS fun w6 hp=>qU ?_;exact mD6
 refine tD (c49 _ _ _ f1 f2) fun w4 hp=>?_;refine tI (fun h2=>?_) fun h2=>?_
 ·rw[e2 h h2];refine tD (r41 sa (na*db-nb*da) _ _ (f1.le O1) f3 hd) fun w5 hp=>?_;refine qBs fun w hp=>?_
  exact mA2
 rw[e3 h O1];refine tD (c49 _ _ _ f2 f1) fun w5 hp=>?_;refine tD (r41 sb (nb*da-na*db) _ _ (f2.le O1) f3 hd) fun w6 hp=>?_;refine qBs fun w hp=>?_
 exact mA2
end
section
open Go.Eng Go.Dig Go.Lp
variable{w:World}{p:Rat}{j k:Nat}{q:Rat}{t:Nat}{n:FrK}{F:Fr}{d:Option Tmp}{ty:TypeId}{pos:String}{aft:Array Edge}{g:Option (Nat×Bool)}{x y:Operand}{t':Nat}{a b:Rat}
theorem jBe{P:Program}{a b:ByteArray}(ht:P.underlying t=some .string)(k:Nat):(Op.equalIn (k+1) t (.string a) (.string b)).run P w= .ok (decide (a=b)) w:=by
 unfold Op.equalIn;simp[jQ ht];exact qGj a b
theorem qKp(hg:(isAgg t).run Tryz.prog w= .ok false w)(xs:Array Value)(o:Nat)(v:Value)(h:xs[o]? =some v):(part t xs o).run Tryz.prog w= .ok v w:=by
 simp[part,hg,h]
theorem jX3(a a':Bool)(b b' c c':ByteArray)(w:World):(Op.equal 49 (.agg #[.bool a,.string b,.string c]) (.agg #[.bool a',.string b',.string c'])).run Tryz.prog w= .ok ((a==a')&&(decide (b=b')&&decide (c=c'))) w:=by
 show(Op.equalIn (9998+1+1) 49 _ _).run _ w=_
 have h4:=fun(x y)=>qP5 (w:=w) (a:=x) (b:=y) Tryz.underlying4 9998
 have hg:=fun(x y)=>jBe (w:=w) (a:=x) (b:=y) Tryz.underlying34 9998
 have g4:(isAgg 4).run Tryz.prog w= .ok false w:=O3;have g23:(isAgg 34).run Tryz.prog w= .ok false w:=O3;have p0:=fun x (y z)=>qKp g4 #[.bool x,.string y,.string z] 0 _ O
 have p1:=fun x (y z)=>qKp g23 #[.bool x,.string y,.string z] 1 _ O
 have p2:=fun x (y z)=>qKp g23 #[.bool x,.string y,.string z] 2 _ O
 rw[Op.equalIn];simp[p0,p1,p2,h4,hg];grind
theorem jD8(a b:Rat):((sgn a==sgn b)&&(decide (ofN a.num.natAbs=ofN b.num.natAbs)&&decide (ofN a.den=ofN b.den)))=decide (a=b):=by
 rw[qC9,qC9,qS2];by_cases h:a=b
 ·grind
 rw[aB h];by_cases h1:sgn a=sgn b<;>by_cases h2:a.num.natAbs=b.num.natAbs<;>by_cases h3:a.den=b.den<;>simp[h1,h2,h3];refine h (Rat.ext ?_ h3);rw[qBe,qBe b,h1,h2]
theorem jOn
  (hx:ev n F x=QV a) (hy:ev n F y=QV b):PV Tryz.prog n w F ⟨d,.binOp .eql 49 x y t',ty,pos,aft,g⟩ (.bool (decide (a=b))):=by
 exact mB8
theorem qVg
  (hx:ev n F x=QV a) (hy:ev n F y=QV b):PV Tryz.prog n w F ⟨d,.binOp .neq 49 x y t',ty,pos,aft,g⟩ (.bool (!decide (a=b))):=by
 exact mB8
attribute [local irreducible] PV StepF wpl wpd WP Ret
attribute [local irreducible] Fit
theorem jVn(w:World)(h:FQ p):Rk 234 [QV p] w (QV (-p)):=by
 refine tW func234 ntmps234 fun hp=>?_;refine qSk fun w _ b hp=>?_
 refine tC (r80 _ h) fun w1 hp=>?_;refine tD (jVm p _) fun w2 hp=>?_;refine qBs fun w hp=>?_
 exact mA2
theorem r44(w:World)(aa:BQ j p)(lw:BQ k q)(hk:j+k+1≤1000000000000):Rk 44 [QV p,QV q] w (QV (p+q)):=by
 refine tW func44 ntmps44 fun hp=>?_;refine jC5 fun w _ _ b hp=>?_
 refine jU jG O3 (fun w'=>Hp _ _ w' _) hp.N ?_;have hp:=hp.N;refine tH (r80 _ (BQ.fq aa O1)) fun w1 hp=>?_;refine tH (r80 _ (BQ.fq lw O1)) fun w2 hp=>?_;refine tH (jW1 _ aa lw O1) fun w3 hp=>?_;refine tS fun w4 hp=>qU ?_;exact mD6
theorem qKa(w:World)(aa:BQ j p)(lw:BQ k q)(hk:j+k+1≤1000000000000):Rk 168 [QV p,QV q] w (QV (p-q)):=by
 rw[nN];refine tW func168 ntmps168 fun hp=>?_;refine jC5 fun w _ _ b hp=>?_
 refine jU jG O3 (fun w'=>Hp _ _ w' _) hp.N ?_;have hp:=hp.N;refine tH (r80 _ (BQ.fq aa O1)) fun w1 hp=>?_;refine tH (r80 _ (BQ.fq lw O1)) fun w2 hp=>?_;refine tH (jVm q _) fun w3 hp=>?_;refine tH (jW1 _ aa lw.neg O1) fun w4 hp=>?_;refine tS fun w5 hp=>qU ?_;exact mD6
theorem r24(w:World)(aa:BQ j p)(lw:BQ k q)(hk:j+k≤1000000000000):Rk 24 [QV p,QV q] w (QV (p*q)):=by
 have fa:=BQ.fq aa O1;have fb:=BQ.fq lw O1;have f1:=qR9 aa.1 lw.1 hk;have f2:=qR9 aa.2 lw.2 hk;have hd:=iU p.den_pos q.den_pos;rw[jEj];refine tW func24 ntmps24 fun hp=>?_;refine jC5 fun w _ _ b hp=>?_
 refine jU jG O3 (fun w'=>Hp _ _ w' _) hp.N ?_;have hp:=hp.N;refine tH (r80 _ fa) fun w1 hp=>?_;refine tH (r80 _ fb) fun w2 hp=>?_;refine tS fun w3 hp=>?_;refine tS fun w4 hp=>qU ?_;refine qA ?_;refine jU jG O3 (fun w'=>Hp _ _ w' _) hp.N ?_;have hp:=hp.N;refine qX (wdp O (fun w hp=>qQj Tryz.underlying4 O O) O ?_);refine tH (c18 _ _ _ fa.n fb.n) fun w5 hp=>?_;refine tH (c18 _ _ _ fa.d fb.d) fun w6 hp=>?_;refine tH (r41 _ _ _ _ f1 f2 hd) fun w7 hp=>?_;refine tS fun w8 hp=>qU ?_;exact mD6
end
section
open Go.Eng Go.Dig Go.Lp
variable{q:Rat}{j k:Nat}{p:Rat}
theorem jOh(z:Int):QV (z:Rat)=RVs (decide (z<0)) z.natAbs 1:=O
theorem qQi{P:Program}{n:FrK}{F:Fr}{w:World}{d:Option Tmp}{ty:TypeId}{pos:String}{aft:Array Edge}{g:Option (Nat×Bool)}{x:Operand}{t:Nat}{k:IntKind}{a:Int}(hx:ev n F x= .int k a):PV P n w F ⟨d,.unOp .neg t x,ty,pos,aft,g⟩ (.int k (k.wrap (-a))):=by
 unfold PV;simp[execOp,hx,Op.unary,Op.intArith]
theorem zCy(P Q:Prop)[Decidable P][Decidable Q]:IntKind.i64.wrap (-(if P then-1 else if Q then 0 else 1))= -(if P then-1 else if Q then 0 else 1):=by
 by_cases h:P
 ·simp only[h,if_true];rfl
 by_cases h2:Q<;>simp[h,h2,if_true]<;>rfl
attribute [local irreducible] PV StepF wpl wpd WP Ret
attribute [local irreducible] Fit
theorem qQe(w:World)(ha:BQ j p)(hq:BQ k q)(hh:q≠0)(hk:j+k≤1000000000000):Rk 237 [QV p,QV q] w (.tuple #[QV (p/q),.bool true]):=by
 have fa:=BQ.fq ha O1;have fb:=BQ.fq hq O1;have f1:=qR9 ha.1 hq.2 hk;have f2:=qR9 ha.2 hq.1 hk;have hn:=qSa hh;have hd:=iU p.den_pos hn;have he:=jIj q.num.natAbs;rw[jEh hh];refine tW func237 ntmps237 fun hp=>?_;refine jC5 fun w _ _ b hp=>?_
 refine jU jG O3 (fun w'=>Hp _ _ w' _) hp.N ?_;have hp:=hp.N;refine tH (r80 _ fa) fun w1 hp=>?_;refine tH (r80 _ fb) fun w2 hp=>?_;refine tS fun w3 hp=>?_;refine tS fun w4 hp=>qU ?_;refine gA1 ?_;refine jM (wlp (xV O O) (qV (he.trans (aB O1))) ?_);refine qR ?_;refine tJ ?_;refine jU jG O3 (fun w'=>Hp _ _ w' _) hp.N ?_;have hp:=hp.N;refine qX (wdp O (fun w hp=>qQj Tryz.underlying4 O O) O ?_);refine tH (c18 _ _ _ fa.n fb.d) fun w5 hp=>?_;refine tH (c18 _ _ _ fa.d fb.n) fun w6 hp=>?_;refine tH (r41 _ _ _ _ f1 f2 hd) fun w7 hp=>?_;refine tS fun w8 hp=>?_;(repeat(apply wdp;exact O;(intro w hp;exact qY);exact O));refine qU (qA ?_);exact mD7
theorem r52(w:World)(h:FQ q):Rk 52 [QV q] w (Iv (qAm q)):=by
 have he:=jIj q.num.natAbs;have hz:q=0↔q.num.natAbs=0:=by rw[←Rat.num_eq_zero];omega
 refine tW func52 ntmps52 fun hp=>?_;refine vK fun w b hp=>?_
 refine tC (r80 _ h) fun w1 hp=>?_;refine tS fun w2 hp=>?_;refine gA1 ?_;refine jM (wlp (xV O O) (qV he) ?_);refine tI (fun h0=>?_) fun h0=>?_
 ·rw[show qAm q=0 from if_pos (hz.2 h0)];exact mA0
 have e0:¬q=0:=fun e=>h0 (hz.1 e)
 refine qA (xD O (fun h1=>?_) (fun h1=>?_))
 ·rw[show qAm q= -1 from(if_neg e0).trans (if_pos (qV5.1 h1))];exact mA0
 rw[show qAm q=1 from(if_neg e0).trans (if_neg (by have:=qV6.1 h1;grind))];exact mA0
theorem r53(w:World)(ha:BQ j p)(hq:BQ k q)(hk:j+k≤1000000000000):Rk 53 [QV p,QV q] w (Iv (wH p q)):=by
 have fa:=BQ.fq ha O1;have fb:=BQ.fq hq O1;have f1:=qR9 ha.1 hq.2 hk;have f2:=qR9 hq.1 ha.2 O1;have hd:=jHp (a:=p) (b:=q);have hs:=jHm (a:=p) (b:=q);refine tW func53 ntmps53 fun hp=>?_;refine qSk fun w _ b hp=>?_
 refine jU jG O3 (fun w'=>Hp _ _ w' _) hp.N ?_;have hp:=hp.N;refine tH (r80 _ fa) fun w1 hp=>?_;refine tH (r80 _ fb) fun w2 hp=>?_;refine tS fun w3 hp=>?_;refine tS fun w4 hp=>qU ?_;have hp:=hp.norm 0 (eQ q) O O;have hp:=hp.norm 1 (eQ p) O O;refine qA (tR (jOn O O) ?_);refine tI (fun h=>?_) fun h=>?_
 ·rw[show wH p q=0 from(if_neg (by grind)).trans (if_pos h)];exact mA0
 refine qA (wlp (qQj Tryz.underlying4 O O) (qV (jLk _ _)) ?_);refine qA (xI O (fun h1=>?_) (fun h1=>?_))
 ·rw[hd h1];refine qA (xD O (fun h2=>?_) (fun h2=>?_))
  ·rw[h2];exact mA0
  rw[h2];exact mA0
 rw[hs h1];refine tY fun hp=>?_;refine tH (c18 _ _ _ fa.n fb.d) fun w5 hp=>?_;refine tH (c18 _ _ _ fb.n fa.d) fun w6 hp=>?_;refine tH (c47 _ _ _ f1 f2) fun w7 hp=>?_;refine qX (qU ?_);refine qA (xD O (fun h2=>?_) (fun h2=>?_))
 ·rw[h2];refine qA (wlp (qQi O) (qF (zCy _ _)) ?_);exact mA0
 rw[h2];exact mA0
theorem zBh(w:World):Rk 120 [] w (QV 0):=by
 refine tW func120 ntmps120 fun hp=>?_;refine vK fun w b hp=>?_
 exact mA2
theorem r25(z:Int)(w:World)(h1:-9223372036854775808<z)(h2:z≤9223372036854775807):Rk 25 [Iv z] w (QV (z:Rat)):=by
 rw[jOh];refine tW func25 ntmps25 fun hp=>?_;refine vK fun w b hp=>qH O (fun h=>?_) (fun h=>?_)
 ·have e1:(-(z+1)).toNat=z.natAbs-1:=O1;refine gA1 ?_;refine tA ?_;refine wlp (qQi O) (qF (qK O1 O1)) (tC (c13 (-(z+1)) _ O1) fun w1 hp=>?_);rw[e1];refine tD (c17 (z.natAbs-1) 1 _ (Fit.small O1) (Fit.small O2)) fun w2 hp=>?_;rw[show z.natAbs-1+1=z.natAbs by omega,aD h];refine qBs fun w hp=>?_
  exact mA2
 have e1:z.toNat=z.natAbs:=O1;rw[aB h];refine tD (c13 z _ O1) fun w1 hp=>?_;rw[e1];refine qBs fun w hp=>?_
 exact mA2
theorem qQd(n:Nat)(w:World)(h2:n≤9223372036854775807):Rk 25 [Iv (n:Int)] w (QV (n:Rat)):=r25 n w O1 O1
theorem r9(s:Bool)(n d:Nat)(w:World)(hn:Fit n)(hd:Fit d)(hh:0<d):Rk 9 [.bool s,.string (ofN n),.string (ofN d)] w (.tuple #[QV (mkRat (sg s n) d),.bool true]):=by
 refine tW func9 ntmps9 fun hp=>?_;refine vK fun w b hp=>?_
 refine tC (r40 n _) fun w1 hp=>?_;refine tE (r40 d _) fun w2 hp=>?_;refine jL ?_;refine qH O (fun h=>absurd (qQx (n:=0) h) O1) (fun _=>tD (r41 s n d _ hn hd hh) fun w3 hp=>?_);refine qBs fun w hp=>?_
 exact mD7
end
open Go.Eng Go.Dig Go.Lp
variable{α:Type}{i g c n:Nat}{f:Nat→α}
def lm(n:Nat)(f:Nat→α):List α:=(range n).map f
section
variable {α:Type}{n:Nat}{f g:Nat→α}
theorem qT:(lm n f).length=n:=by simp[lm]
theorem yI(h:i<n):(lm n f)[i]? =some (f i):=by simp[lm,h]
theorem jH(h:∀i,i<n→f i=g i):lm n f=lm n g:=by
 exact lV fun i hi=>h i (aO.1 hi)
theorem vF(x:α):(lm n f).set i x=lm n (fun j=>if j=i then x else f j):=by
 apply eF;intro j;rw[iB,qT];by_cases nu:i=j
 ·subst nu;by_cases hi:i<n
  ·rw[if_pos O,if_pos hi,yI hi,if_pos O]
  rw[if_pos O,if_neg hi,fD (by rw[qT];omega)]
 rw[if_neg nu];by_cases hj:j<n
 ·rw[yI hj,yI hj,if_neg O1]
 rw[fD (by rw[qT];omega),fD (by rw[qT];omega)]
theorem lm_succ:lm (n+1) f=lm n f++[f n]:=by simp[lm,fW]
end
structure TA where
 tb:Nat
 gB:Nat
 cB:Nat
 gN:Nat
 cN:Nat
 gC:Nat
 cC:Nat
 gR:Nat
 cR:Nat
 gG:Nat
 cG:Nat
 rg:Nat→Nat
 rc:Nat→Nat
def qAf(p:Nat×Nat×Nat):List Value:=[.slice (some ⟨p.1,0,none⟩) p.2.1 p.2.2]
def jIy(a:TA)(t:Tb):List Value:=[.slice (some ⟨a.gB,0,none⟩) t.m a.cB,.slice (some ⟨a.gN,0,none⟩) t.n a.cN,.slice (some ⟨a.gC,0,none⟩) t.m a.cC,.slice (some ⟨a.gR,0,none⟩) t.m a.cR,.slice (some ⟨a.gG,0,none⟩) t.n a.cG]
def qHx(a:TA)(t:Tb):List Ent:=lm t.m (fun i=>qG eQ 49 3 (some ⟨a.rg i,0,none⟩) (a.rc i) (lm t.n (t.A i)))
def zB(a:TA)(t:Tb):List Ent:=[blk a.tb 5 (qE (jIy a t)) 308,qG eI 3 1 (some ⟨a.gB,0,none⟩) a.cB (lm t.m t.B),qG eI 3 1 (some ⟨a.gN,0,none⟩) a.cN (lm t.n t.N),
 qG qAf 43 1 (some ⟨a.gC,0,none⟩) a.cC (lm t.m fun i=>(a.rg i,t.n,a.rc i)),qG eQ 49 3 (some ⟨a.gR,0,none⟩) a.cR (lm t.m t.b),qG eQ 49 3 (some ⟨a.gG,0,none⟩) a.cG (lm t.n t.g)]++qHx a t
structure TAok(a:TA)(t:Tb):Prop where
 cB:t.m≤a.cB∧a.cB≤maxLen
 cN:t.n≤a.cN∧a.cN≤maxLen
 cC:t.m≤a.cC∧a.cC≤maxLen
 cR:t.m≤a.cR∧a.cR≤maxLen
 cG:t.n≤a.cG∧a.cG≤maxLen
 rc:∀i,i<t.m→t.n≤a.rc i∧a.rc i≤maxLen
theorem vZ(h:n≤c∧c≤maxLen):SVL (Ad g) c (lm n f):=.inr ⟨g,c,by rw[qT],by rw[qT];omega,h.2⟩
theorem jT(q:Rat):(eQ q).length=3:=O
structure TabAt(a:TA)(t:Tb)(w:World):Prop where
 B:∀i,i<t.m→w.cell? ⟨a.gB,0+i*1,none⟩=some (Iv (t.B i))
 N:∀j,j<t.n→w.cell? ⟨a.gN,0+j*1,none⟩=some (Iv (t.N j))
 H:∀i,i<t.m→w.cell? ⟨a.gC,0+i*1,none⟩=some (.slice (some ⟨a.rg i,0,none⟩) t.n (a.rc i))
 b:∀i,i<t.m→∀k v,(eQ (t.b i))[k]? =some v→w.cell? ⟨a.gR,0+i*3+k,none⟩=some v
 g:∀j,j<t.n→∀k v,(eQ (t.g j))[k]? =some v→w.cell? ⟨a.gG,0+j*3+k,none⟩=some v
 A:∀i j,i<t.m→j<t.n→∀k v,(eQ (t.A i j))[k]? =some v→w.cell? ⟨a.rg i,0+j*3+k,none⟩=some v
section
variable {w0 w:World}{M:List Nat}{a:TA}{t:Tb}
theorem qGh{L:List Ent}{enc:α→List Value}{e k:Nat}(hp:Hp w0 M w L)(hm:qG enc e k (Ad g) c (lm n f)∈L)(hc:n≤c∧c≤maxLen)(hk:∀x,(enc x).length=k)(hi:i<n):
  ∀j v,(enc (f i))[j]? =some v→w.cell? ⟨g,0+i*k+j,none⟩=some v:=by
 obtain⟨b,o,hs,h⟩:=qB8 hp hm (vZ hc) hk i (f i) (yI hi);grind
theorem TabAt.of(X:List Ent)(hp:Hp w0 M w (X++zB a t))(ok:TAok a t):TabAt a t w:=by
 have mem:∀{p:Ent},p∈_→p∈X++zB a t:=aU _
 refine⟨fun i hi=>?_,fun i hi=>?_,fun i hi=>?_,fun i hi=>?_,fun i hi=>?_,fun i j hi hj=>?_⟩
 ·exact qGh hp (mem (aI (i:=1) O)) ok.cB (fun _=>O) hi 0 _ O
 ·exact qGh hp (mem (aI (i:=2) O)) ok.cN (fun _=>O) hi 0 _ O
 ·exact qGh hp (mem (aI (i:=3) O)) ok.cC (fun _=>O) hi 0 _ O
 ·exact qGh hp (mem (aI (i:=4) O)) ok.cR jT hi
 ·exact qGh hp (mem (aI (i:=5) O)) ok.cG jT hi
 have hm:_∈zB a t:=aU _ (bD.2 ⟨i,aO.2 hi,O⟩);exact qGh hp (mem hm) (ok.rc i hi) jT hj
end
end Go.Proofs.YtplkndjlfkkjlaaGreatDoor
namespace Go.Lp
open List (range range' replicate)
def Tb.sA(t:Tb)(i j:Nat)(q:Rat):Tb:={t with A:=fun i' j'=>if i'=i then(if j'=j then q else t.A i' j') else t.A i' j'}
def Tb.sb(t:Tb)(i:Nat)(q:Rat):Tb:={t with b:=fun i'=>if i'=i then q else t.b i'}
def Tb.sg(t:Tb)(j:Nat)(q:Rat):Tb:={t with g:=fun j'=>if j'=j then q else t.g j'}
def Tb.sB(t:Tb)(i:Nat)(z:Int):Tb:={t with B:=fun i'=>if i'=i then z else t.B i'}
def Tb.sN(t:Tb)(j:Nat)(z:Int):Tb:={t with N:=fun j'=>if j'=j then z else t.N j'}
end Go.Lp
namespace Go.Proofs.YtplkndjlfkkjlaaGreatDoor
open List (range range' replicate)
open Tryz
open Go.Eng Go.Dig Go.Lp
variable{α:Type}{z:Int}
section
variable {n:FrK}{w0 w:World}{M:List Nat}{F:Fr}{d:Option Tmp}{ty:TypeId}{pos:String}{aft:Array Edge}{g:Option (Nat×Bool)}{x y:Operand}{a:TA}{t:Tb}{i j:Nat}{q:Rat}
theorem qG0(X Y:List α)(k:Nat)(v:α):(X++Y).set (X.length+k) v=X++Y.set k v:=by
 simp
theorem qGa(X Y:List α)(k:Nat):(X++Y)[X.length+k]? =Y[k]?:=by
 grind
theorem jJ2(X:List Ent)(hp:Hp w0 M w (X++zB a t))(ok:TAok a t)(hi:i<t.m)(hj:j<t.n)(hx:ev n F x= .pointer (some ⟨a.rg i,0+j*3,none⟩))(hy:ev n F y=QV q):
  StepF Tryz.prog n ⟨d,.store 49 x y,ty,pos,aft,g⟩ F w (fun u w'=>u=undef∧Hp w0 M w' (X++zB a (t.sA i j q))):=by
 have hL:(X++zB a t)[X.length+(i+6)]? =some (qG eQ 49 3 (some ⟨a.rg i,0,none⟩) (a.rc i) (lm t.n (t.A i))):=by
  rw[qGa];show(qHx a t)[i]? =_
  exact yI hi
 refine StepF.mono (vL eQ _ j q hp _ hL (vZ (ok.rc i hi)) (by rw[qT];exact hj) hx hy jT O O (qD O)) ?_;have e:(X++zB a t).set (X.length+(i+6)) (qG eQ 49 3 (some ⟨a.rg i,0,none⟩) (a.rc i) ((lm t.n (t.A i)).set j q))=X++zB a (t.sA i j q):=by
  rw[qG0];congr 1;have e2:(qHx a t).set i (qG eQ 49 3 (some ⟨a.rg i,0,none⟩) (a.rc i) ((lm t.n (t.A i)).set j q))=qHx a (t.sA i j q):=?_
  ·show[_,_,_,_,_,_]++(qHx a t).set i _=_
   rw[e2];rfl
  unfold qHx;rw[vF];show lm t.m _=lm t.m _
  refine jH fun i' _=>?_
  simp only[Tb.sA];by_cases xt:i'=i
  ·rw[if_pos xt,vF,xt];simp
  simp[xt]
 grind
theorem jV4(X:List Ent)(hp:Hp w0 M w (X++zB a t))(ok:TAok a t)(hi:i<t.m)(hx:ev n F x= .pointer (some ⟨a.gR,0+i*3,none⟩))(hy:ev n F y=QV q):
  StepF Tryz.prog n ⟨d,.store 49 x y,ty,pos,aft,g⟩ F w (fun u w'=>u=undef∧Hp w0 M w' (X++zB a (t.sb i q))):=by
 have hL:(X++zB a t)[X.length+4]? =some (qG eQ 49 3 (some ⟨a.gR,0,none⟩) a.cR (lm t.m t.b)):=by
  rw[qGa];rfl
 refine StepF.mono (vL eQ _ i q hp _ hL (vZ ok.cR) (by rw[qT];exact hi) hx hy jT O O (qD O)) ?_;exact mB4
theorem jJ1(X:List Ent)(hp:Hp w0 M w (X++zB a t))(ok:TAok a t)(hj:j<t.n)(hx:ev n F x= .pointer (some ⟨a.gG,0+j*3,none⟩))(hy:ev n F y=QV q):
  StepF Tryz.prog n ⟨d,.store 49 x y,ty,pos,aft,g⟩ F w (fun u w'=>u=undef∧Hp w0 M w' (X++zB a (t.sg j q))):=by
 have hL:(X++zB a t)[X.length+5]? =some (qG eQ 49 3 (some ⟨a.gG,0,none⟩) a.cG (lm t.n t.g)):=by
  rw[qGa];rfl
 refine StepF.mono (vL eQ _ j q hp _ hL (vZ ok.cG) (by rw[qT];exact hj) hx hy jT O O (qD O)) ?_;exact mB4
theorem jZh(X:List Ent)(hp:Hp w0 M w (X++zB a t))(ok:TAok a t)(hi:i<t.m)(hx:ev n F x= .pointer (some ⟨a.gB,0+i*1,none⟩))(hy:ev n F y=Iv z):
  StepF Tryz.prog n ⟨d,.store 3 x y,ty,pos,aft,g⟩ F w (fun u w'=>u=undef∧Hp w0 M w' (X++zB a (t.sB i z))):=by
 have hL:(X++zB a t)[X.length+1]? =some (qG eI 3 1 (some ⟨a.gB,0,none⟩) a.cB (lm t.m t.B)):=by
  rw[qGa];rfl
 refine StepF.mono (zL eI _ i z hp _ hL (vZ ok.cB) (by rw[qT];exact hi) hx hy (fun _=>O) O O (qD O)) ?_;exact mB4
theorem jZg(X:List Ent)(hp:Hp w0 M w (X++zB a t))(ok:TAok a t)(hj:j<t.n)(hx:ev n F x= .pointer (some ⟨a.gN,0+j*1,none⟩))(hy:ev n F y=Iv z):
  StepF Tryz.prog n ⟨d,.store 3 x y,ty,pos,aft,g⟩ F w (fun u w'=>u=undef∧Hp w0 M w' (X++zB a (t.sN j z))):=by
 have hL:(X++zB a t)[X.length+2]? =some (qG eI 3 1 (some ⟨a.gN,0,none⟩) a.cN (lm t.n t.N)):=by
  rw[qGa];rfl
 refine StepF.mono (zL eI _ j z hp _ hL (vZ ok.cN) (by rw[qT];exact hj) hx hy (fun _=>O) O O (qD O)) ?_;exact mB4
end
end Go.Proofs.YtplkndjlfkkjlaaGreatDoor
