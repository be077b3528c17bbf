/- Merged texts of ours; conditions are the hypotheses of each law. -/
import Derived.Test.YtplkndjlfkkjlaaGreatDoorP0
import Derived.Shelf.Strconv.Itoa3
import Derived.Shelf.Strings.OnBuilder
import Derived.Shelf.LaysM
import Derived.Shelf.Strings.Repeat
namespace Go.Eng
open List (range range' replicate)
open Go.Proofs.Tryz
variable{F:Fr}{G:World→Prop}{K:Act→World→Prop}{P:Program}{aft:Array Edge}{d i:Nat}{l:List Nat}{n:ky}{op:Op}{ops:Array Oper}{r:Value}{st:Bool}{ty:TypeId}{w wG:World}
def xE(ops:Array Oper)(i j:Nat):Bool:=((Region.before ops).getD i 0).testBit j
def FI(ops:Array Oper)(i:Nat)(rest:List Nat):List Nat:=rest.filter fun x=>zC (jA ops x).op&& !xE ops x i
def Be(P:Program)(ops:Array Oper)(nd:Oper→Bool)(G:World→Prop)(K:Act→World→Prop):Nat→List Nat→Act→World→Prop
 |0,_,a,w=>K a w
 |_+1,[],a,w=>K a w
 |n+1,i::rest,a,w=>
  if zC (jA ops i).op then∀x∈i::FI ops i rest,qh P ops (jA ops x) a w (fun a' w'=>(nd (jA ops x)=true→G w')∧Be P ops nd G K n ((i::rest).filter (· !=x)) a' w')
  else∃v,YV P ops G (jA ops i) a v∧Be P ops nd G K n rest (a.put (jA ops i).dst v) w
def N9(ops:Array Oper)(j i:Nat):Bool:=
 xE ops i j||(if zC (jA ops j).op&&zC (jA ops i).op then(range ops.size).all fun x=>!xE ops i x||decide (x<j) else Gq ops (jA ops j) (jA ops i))
def uP(P:Program)(ops:Array Oper)(nd:Oper→Bool):Bool:=
 (range ops.size).all fun i=>(jA ops i).after.all (fun e=>!Region.binds .any e||decide (e.on<i))&&
  (!zC (jA ops i).op||nd (jA ops i)||(range ops.size).all fun j=>zC (jA ops j).op||wl P (jA ops j).op||xE ops i j)&&
  (range i).all fun j=>N9 ops j i
section
variable{nd:Oper→Bool}{Q:Exit→Act→World→Prop}
theorem qEg(h:uP P ops nd=true){i}(hi:i<ops.size):∀e∈(jA ops i).after.toList,Region.binds .any e=true→e.on<i:=by
 simp only[uP,dO,aJ] at h;have h1:=(h i O6).1.1;rw[dQ] at h1;grind
theorem qRn(h:uP P ops nd=true){i j}(hi:i<ops.size)(hj:j<ops.size)(he:zC (jA ops i).op=true)(hp:zC (jA ops j).op=false)(hh:wl P (jA ops j).op=false):nd (jA ops i)=true∨xE ops i j=true:=by
 simp only[uP,dO,aJ] at h;grind
theorem qIm(h:uP P ops nd=true){i j}(hi:i<ops.size)(hj:j<i):N9 ops j i=true:=by
 simp only[uP,dO,aJ] at h;grind
theorem Ts(h:uP P ops nd=true){i j}(hi:i<ops.size)(hj:j<i)(hb:xE ops i j=false)(hm:¬(zC (jA ops j).op=true∧zC (jA ops i).op=true)):Gq ops (jA ops j) (jA ops i)=true:=by
 have:=qIm h hi hj;unfold N9 at this;grind
theorem jB1(h:uP P ops nd=true){i j}(hi:i<ops.size)(hj:j<i)(hb:xE ops i j=false)(h1:zC (jA ops j).op=true)(h2:zC (jA ops i).op=true):∀x,x<ops.size→j≤x→xE ops i x=false:=by
 have:=qIm h hi hj;unfold N9 at this;grind
theorem qVv{o o'}(h:Gq ops o o'=true):o.apart ops o'=true∧LC o.op=true∧LC o'.op=true:=by
 simp only[Gq,aJ] at h;grind
structure Ao(ops:Array Oper)(p i:Oper):Prop where
 ei:∀(a:Act) (v:Value),execOp (a.put p.dst v).eval i=execOp a.eval i
 ep:∀(a:Act) (v:Value),execOp (a.put i.dst v).eval p=execOp a.eval p
 wi:∀(a:Act) (v:Value),Region.wanted i (yielded ops (a.put p.dst v).tmps)=Region.wanted i (yielded ops a.tmps)
 wq:∀(a:Act) (v:Value),Region.wanted p (yielded ops (a.put i.dst v).tmps)=Region.wanted p (yielded ops a.tmps)
 hc:∀(a:Act) (v u:Value),(a.put p.dst v).put i.dst u=(a.put i.dst u).put p.dst v
theorem Ao.of{p i}(h:Gq ops p i=true):Ao ops p i:=by
 have⟨hL,h7,hF⟩:=qVv h;have⟨h1,h2,h3⟩:=Oper.apart_spec hL;exact⟨fun a v=>execOp_put _ (NT hF) a _ v h1,fun a v=>execOp_put _ (NT h7) a _ v h3,fun a v=>wanted_put _ a _ v h1,fun a v=>wanted_put _ a _ v h3,fun a v u=>Act.put_comm a v u h2⟩
theorem Ao.symm{p i}(h:Ao ops p i):Ao ops i p:=⟨h.ep,h.ei,h.wq,h.wi,fun a v u=>(h.hc a u v).symm⟩
theorem jW8(hD:G wG)(hm:uP P ops nd=true)(i)(dx:i<ops.size):∀(n:Nat) (l:List Nat) (a:Act) (w:World),l.length=n+1→(∀x∈l,x<ops.size)→Be P ops nd G K (n+1) l a w→i∈l→l.Pairwise (·<·)→
  (∀j∈l,xE ops i j=false)→
  if zC (jA ops i).op then qh P ops (jA ops i) a w (fun a' w'=>(nd (jA ops i)=true→G w')∧Be P ops nd G K n (l.filter (· !=i)) a' w')
  else∃v,YV P ops G (jA ops i) a v∧Be P ops nd G K n (l.filter (· !=i)) (a.put (jA ops i).dst v) w:=by
 intro n;induction n with
 |zero=>
  intro l a w hQ hl h hi hs hb
  match l,hQ with
  |[p],_=>
   have:=by simpa using hi
   subst this;simp only[Be] at h;by_cases he:zC (jA ops i).op=true
   ·rw[if_pos he] at h⊢;exact h i O4
   rw[if_neg he] at h⊢;exact h
 |succ n ih=>
  intro l a w hQ hl h hi hs hb
  match l,hQ with
  |p::rest,hQ=>
   have xi:=by simpa using hQ
   have⟨hq,h4⟩:=bQ.1 hs;have df:=TL hs;by_cases hp:p=i
   ·have hf:(p::rest).filter (· !=p)=rest:=by
     rw[oN];simp only[Rw,fA,iX];exact qJa (pL.1 df).1
    rw[Be] at h;grind
   have ht:i∈rest:=by
    rcases aP.1 hi with e|e
    ·omega
    exact e
   have hg:=hq i ht;have x5:=hb p O4;have hf:(p::rest).filter (· !=i)=p::rest.filter (· !=i):=by
    rw[oN,if_pos O6]
   have hT:∀x∈rest,x<_:=fun x hx=>hl x (by simp[hx])
   have ye:∀j∈rest,_=_:=fun j hj=>hb j (by simp[hj])
   rw[Be] at h;by_cases h6:zC (jA ops p).op=true
   ·rw[if_pos h6] at h;by_cases hz:zC (jA ops i).op=true
    ·rw[if_pos hz]
     exact h i (by
      unfold FI;grind)
    have hL:=by simpa using hz
    rw[if_neg hz];have hF:∀x∈p::FI ops p rest,x∈p::rest∧x≠i∧zC (jA ops x).op=true∧Ao ops (jA ops x) (jA ops i):=by
     intro x hx;have zz:x∈p::rest∧zC (jA ops x).op=true∧(x=p∨(x∈rest∧xE ops x p=false)):=by
      rcases aP.1 hx with rfl|hx
      ·grind
      unfold FI at hx;rw[iG] at hx;simp only[aJ,lV] at hx;exact⟨O6,hx.2.1,.inr ⟨hx.1,hx.2.2⟩⟩
     have⟨v1,h3,h7⟩:=zz;have hM:x≠i:=by
      rintro rfl;rw[hL] at h3;cases h3
     refine⟨v1,hM,h3,?_⟩;rcases Nat.lt_or_gt_of_ne hM with hE|hE
     ·exact Ao.of (Ts hm dx hE (hb x v1) O6)
     rcases h7 with rfl|⟨hK,b4⟩
     ·omega
     have hP:=jB1 hm (hl x v1) (hq x hK) b4 h6 h3 i dx O1;exact(Ao.of (Ts hm (hl x v1) hE hP O6)).symm
    have key:∀x∈p::FI ops p rest,∀u w',Be P ops nd G K (n+1) ((p::rest).filter (· !=x)) (a.put (jA ops x).dst u) w'→
      ∃v,YV P ops G (jA ops i) a v∧Be P ops nd G K n (((p::rest).filter (· !=x)).filter (· !=i)) ((a.put (jA ops x).dst u).put (jA ops i).dst v) w':=by
     intro x hx u w' hr;have⟨v1,hM,h3,ha⟩:=hF x hx;have b3:=TP df v1
     have:=ih _ (a.put (jA ops x).dst u) w' O1 (fun y hy=>hl y (iG.1 hy).1) hr (by
      grind) (hs.filter _) (fun j hj=>hb j (iG.1 hj).1)
     rw[if_neg hz] at this;have⟨v,hv,h5⟩:=this;exact⟨v,hv.congr (ha.ei a u).symm (ha.wi a u).symm,h5⟩
    have hex:∃v,YV P ops G (jA ops i) a v:=by
     have h0:=h p O4;cases hwp:Region.wanted (jA ops p) (yielded ops a.tmps)
     ·have⟨_,hr⟩:=h0.2 hwp;grind
     have⟨u,w',_,hr⟩:=(h0.1 hwp).out;have⟨v,hv,_⟩:=key p O4 _ _ hr;exact⟨v,hv⟩
    have⟨v,hv⟩:=hex;refine⟨v,hv,?_⟩;rw[hf,Be,if_pos h6];have b3:FI ops p (rest.filter (· !=i))=FI ops p rest:=by
     unfold FI;rw[mM];apply nX;intro y _;by_cases hS:y=i
     ·grind
     simp[hS]
    rw[b3];intro x hx;have⟨v1,hM,h3,ha⟩:=hF x hx;have az:((p::rest).filter (· !=x)).filter (· !=i)=(p::rest.filter (· !=i)).filter (· !=x):=by
     rw[←hf,mM,mM];apply nX;intro y _;rw[Bool.and_comm]
    have hH:∀u w',((nd (jA ops x)=true→G w')∧Be P ops nd G K (n+1) ((p::rest).filter (· !=x)) (a.put (jA ops x).dst u) w')→
      (nd (jA ops x)=true→G w')∧Be P ops nd G K n ((p::rest.filter (· !=i)).filter (· !=x)) ((a.put (jA ops i).dst v).put (jA ops x).dst u) w':=by
     rintro u w' ⟨h8,hr⟩;have⟨v',hn,h5⟩:=key x hx _ _ hr;have:=hv.aD4 hD hn;subst this;rw[az,ha.hc] at h5;exact⟨h8,h5⟩
    refine⟨fun hw=>?_,fun hw=>?_⟩
    ·rw[ha.wq] at hw;exact(((h x hx).1 hw).congr (ha.ep a v)).mono hH
    rw[ha.wq] at hw;exact hH _ _ ((h x hx).2 hw)
   have hJ:=by simpa using h6
   rw[if_neg h6] at h;have⟨vp,h9,hr⟩:=h;have hh:=ih _ _ w xi hT hr ht h4 ye;have ha:=Ao.of (Ts hm dx hg x5 O6);rw[hf];by_cases hz:zC (jA ops i).op=true
   ·rw[if_pos hz] at hh⊢;have key:∀u w',((nd (jA ops i)=true→G w')∧Be P ops nd G K n (rest.filter (· !=i)) ((a.put (jA ops p).dst vp).put (jA ops i).dst u) w')→
      (nd (jA ops i)=true→G w')∧Be P ops nd G K (n+1) (p::rest.filter (· !=i)) (a.put (jA ops i).dst u) w':=by
     rintro u w' ⟨h8,h5⟩;refine⟨h8,?_⟩;rw[Be,if_neg h6];rw[ha.hc] at h5;exact⟨vp,h9.congr (ha.ep a u) (ha.wq a u),h5⟩
    refine⟨fun hw=>?_,fun hw=>?_⟩
    ·exact((hh.1 (by rw[ha.wi];exact hw)).congr (ha.ei a vp).symm).mono key
    exact key _ _ (hh.2 (by rw[ha.wi];exact hw))
   rw[if_neg hz] at hh⊢;have⟨v,hv,h5⟩:=hh;refine⟨v,hv.congr (ha.ei a vp).symm (ha.wi a vp).symm,?_⟩;rw[Be,if_neg h6];rw[ha.hc] at h5;exact⟨vp,h9.congr (ha.ep a v) (ha.wq a v),h5⟩
theorem qWy(hD:G wG)(ht:uP P ops nd=true)(hK:∀a w,K a w→Q .normal a w):∀(fuel:Nat) (listed:Array Bool) (a:Act) (w:World),listed.size=ops.size→(left ops listed).length≤fuel→
  (∀i,i<ops.size→listed.getD i true=true→∀j,((Region.before ops).getD i 0).testBit j=true→listed.getD j false=true)→
  (∀j∈left ops listed,zC (jA ops j).op=false→wl P (jA ops j).op=false→G w)→Be P ops nd G K (left ops listed).length (left ops listed) a w→wpAny P .any ops Q fuel listed a w:=by
 intro fuel;have done:∀(listed:Array _) (a:Act) (w:World),left ops listed=[]→Be P ops nd G K (left ops listed).length (left ops listed) a w→Q .normal a w:=by
  intro listed a w hl h;rw[hl] at h;exact hK _ _ h
 have xf:∀(listed:Array _) i,i∈Region.ready .any ops listed↔i<ops.size∧listed.getD i true=false∧∀e∈(jA ops i).after.toList,Region.binds .any e=true→listed.getD e.on false=true:=by
  intro listed i;simp only[Region.ready,iG,aR,aJ,lV];constructor
  ·exact UR
  rintro⟨h1,h2,h3⟩;refine⟨h1,h2,?_⟩;rw[bD h1];simp only[fD,iY];rw[dQ];intro e he;cases hb:Region.binds .any e
  ·rfl
  exact Uw
 induction fuel with
 |zero=>
  exact mBa
 |succ fuel ih=>
  intro listed a w hq hQ hP hG h;refine⟨fun xl=>?_,fun i hi=>?_⟩
  ·cases hl:left ops listed with
   |nil=>grind
   |cons i0 rest=>
    exfalso;have hm:i0∈left ops listed:=by rw[hl];simp
    have⟨h1,h2⟩:=zZ.1 hm;have:i0∈Region.ready .any ops listed:=by
     refine(xf listed i0).2 ⟨h1,h2,fun e he hb=>?_⟩;have ha:=qEg ht h1 e he hb;have hs:=yN ops listed;rw[hl] at hs;by_cases hx:listed.getD e.on true=false
     ·have xe:_∈left ops _:=zZ.2 ⟨O1,hx⟩;rw[hl] at xe;rcases aP.1 xe with e1|e1
      ·omega
      have:=(bQ.1 hs).1 _ e1;omega
     have hY:listed.getD e.on true=true:=by simpa using hx
     exact mDl
    grind
  have⟨h1,h2,h3⟩:=(xf _ i).1 hi;have hm:=zZ.2 ⟨h1,h2⟩;have xo:∀j,((Region.before ops).getD i 0).testBit j=true→listed.getD j false=true:=by
   intro j hb;have⟨e,he,hy,hX⟩:=vR h1 hb;have hl:=h3 e he hy;rcases hX with rfl|hX
   ·exact hl
   have ha:=qEg ht h1 e he hy;exact mCk
  have e6:∀j∈left ops listed,xE ops i j=false:=by
   intro j hj;cases hb:xE ops i j
   ·rfl
   exfalso;have⟨xc,hU⟩:=zZ.1 hj;exact mCa
  obtain⟨n,hn⟩:∃n,(left ops listed).length=n+1:=by
   cases hl:left _ _ with
   |nil=>grind
   |cons x y=>simp
  have b3:=TP (TL (yN _ _)) hm;have h4:(left ops (listed.setIfInBounds i true)).length=n:=by
   rw[uV h1 hq];omega
  rw[hn] at h;have xd:=jW8 hD ht i h1 n _ a w hn (fun x hx=>(zZ.1 hx).1) h hm (yN _ _) e6;have xi:(left ops (listed.setIfInBounds i true)).length≤fuel:=O1;have xn:∀k,k<ops.size→(listed.setIfInBounds i true).getD k true=true→∀j,((Region.before ops).getD k 0).testBit j=true→(listed.setIfInBounds i true).getD j false=true:=by
   intro k hk hS j hb;have hT:∀(d:Bool) x,(listed.setIfInBounds i true).getD x d=if x=i then true else listed.getD x d:=by
    intro d x;simp only[aO,iS];by_cases hx:x=i
    ·grind
    rw[if_neg (fun e=>hx e.symm),if_neg hx]
   rw[hT] at hS⊢;split
   ·rfl
   by_cases xh:k=i
   ·grind
   rw[if_neg xh] at hS;exact hP k hk hS j hb
  have xg:∀j∈left ops (listed.setIfInBounds i true),j∈left ops listed∧j≠i:=by
   intro j hj;rw[uV h1 hq] at hj;simpa using hj
  have xk:=fun j hj=>hG j (xg j hj).1
  have hE:zC (jA ops i).op=true→∀w',(nd (jA ops i)=true→G w')→∀j∈left ops (listed.setIfInBounds i true),zC (jA ops j).op=false→wl P (jA ops j).op=false→G w':=by
   intro hz w' hg j hj xp xq;have⟨xc,_⟩:=xg j hj;rcases qRn ht h1 (zZ.1 xc).1 hz xp xq with hb|hb
   ·grind
   rw[e6 j xc] at hb;cases hb
  have xb:∀a' w',(∀j∈left ops (listed.setIfInBounds i true),zC (jA ops j).op=false→wl P (jA ops j).op=false→G w')→Be P ops nd G K n ((left ops listed).filter (· !=i)) a' w'→wpAny P .any ops Q fuel (listed.setIfInBounds i true) a' w':=by
   intro a' w' hg hh;rw[←uV h1 hq] at hh;exact ih _ a' w' O6 xi xn hg (by rw[h4];exact hh)
  have xj:ops[i]? =some (jA ops i):=by simp[jA,bD h1]
  unfold wpOp;simp[xj];by_cases hz:zC (jA ops i).op=true
  ·rw[if_pos hz] at xd;cases hw:Region.wanted _ _
   ·have⟨hg,hh⟩:=xd.2 hw;grind
   exact .inl ((xd.1 hw).wp fun v w' ⟨hg,hh⟩=>xb _ _ (hE hz _ hg) hh)
  rw[if_neg hz] at xd;have⟨v,hv,hh⟩:=xd;rcases hv with⟨hw,hr⟩|⟨hw,rfl⟩
  ·simp only[hw,if_true];refine .inl (Step.wp (R:=fun u w'=>u=v∧w'=w) (.inl ⟨v,w,?_,O,O⟩) ?_)
   ·cases hwl:wl P (jA ops i).op
    ·grind
    exact SK hwl (hr wG hD)
   rintro u w' ⟨rfl,rfl⟩;exact xb _ _ xk hh
  grind
theorem jC3{id a}(hm:P.follows .mixedOrders=true)(ha:uP P ops nd=true)(G)(hG:G w.drew)
  (h:Be P ops nd G (fun a w=>Q .normal a w) ops.size (range ops.size) a w.drew):(Code.region id ops true).wp P Q a w:=by
 refine wp_region_any hm ?_;have e1:left ops (Array.replicate ops.size false)=range ops.size:=by
  unfold left;rw[mD];intro i hi;have:i<ops.size:=by simpa using hi
  simp[aO,this]
 refine qWy (K:=fun a w=>Q _ a w) hG ha (fun _ _ h=>h) _ _ a _ O4 ?_ ?_ (fun _ _ _ _=>hG) ?_
 ·grind
 ·intro i hi hl;simp[hi] at hl
 rw[e1,cZ];exact h
end
def CE(P:Program)(n:ky)(ops:Array Oper)(st:Bool)(G:World→Prop)(l:List Nat)(Q:Exit→Fr→World→Prop)(F:Fr)(w:World):Prop:=
 Be P ops (ET st) G (fun a w=>up n Q .normal a w) l.length l (act n F) w
def DN(P:Program)(n:ky)(ops:Array Oper)(st:Bool)(G:World→Prop)(x:Nat)(l:List Nat)(Q:Exit→Fr→World→Prop)(F:Fr)(w:World):Prop:=
 qh P ops (jA ops x) (act n F) w (fun a' w'=>(ET st (jA ops x)=true→G w')∧Be P ops (ET st) G (fun a w=>up n Q .normal a w) l.length l a' w')
section
variable{Q:Exit→Fr→World→Prop}{rest:List Nat}
variable{pos:String}
theorem HU{id:Nat}{l:List Oper}(st:Bool)(is:List Nat)(hm:P.follows .mixedOrders=true)(ha:uP P l.toArray (ET st)=true)(hl:range l.length=is)(G:World→Prop)(hG:G w.drew)
  (h:CE P n l.toArray st G is Q F w.drew) (hr:n.ro=none:=by rfl):WP P n (.region id l.toArray true) Q F w:=by
 subst hl;unfold WP;rw[ky.k5 hr];refine rJ.2 (jC3 hm ha G hG ?_);unfold CE at h;rw[cZ] at h;exact h
theorem yZ(h:Q .normal F w):CE P n ops st G [] Q F w:=⟨F,O,h⟩
theorem C8{v}(ho:jA ops i=⟨some d,op,ty,pos,aft,none⟩)(he:zC op=false)(hp:∀w,G w→PV P n w F ⟨some d,op,ty,pos,aft,none⟩ r)(hv:r=v)(h:CE P n ops st G rest Q (F.put d v) w):CE P n ops st G (i::rest) Q F w:=by
 subst hv;unfold CE;simp only[cF,Be];rw[ho,if_neg (by simp[he])];refine⟨r,.inl ⟨by simp[Region.wanted],fun w hw=>?_⟩,?_⟩
 ·rw[zF];exact hp w hw
 rw[zN];exact h
theorem xO(he:zC (jA ops i).op=true)(hf:FI ops i rest=[])(h:DN P n ops st G i ((i::rest).filter (· !=i)) Q F w)(hn:Nat.beq ((i::rest).filter (· !=i)).length rest.length=true):CE P n ops st G (i::rest) Q F w:=by
 unfold CE;simp only[cF,Be];rw[if_pos he,hf];intro x hx;have:=by simpa using hx
 subst this;exact Uu
theorem BP(k:Nat)(he:zC (jA ops i).op=true)(hf:FI ops i rest=[k])(hn:Nat.beq ((i::rest).filter (· !=i)).length rest.length=true)(dq:Nat.beq ((i::rest).filter (· !=k)).length rest.length=true)
  (h:DN P n ops st G i ((i::rest).filter (· !=i)) Q F w) (h2:DN P n ops st G k ((i::rest).filter (· !=k)) Q F w):CE P n ops st G (i::rest) Q F w:=by
 unfold CE;simp only[cF,Be];rw[if_pos he,hf];intro x hx;have:=by simpa using hx
 rcases this with rfl|rfl
 ·exact Uu
 unfold DN at h2;rw[bV dq] at h2;exact h2
theorem Au{R}(ho:jA ops i=⟨some d,op,ty,pos,aft,none⟩)(hs:gx P n ⟨some d,op,ty,pos,aft,none⟩ F w R)(h:∀v w',R v w'→G w'∧CE P n ops st G l Q (F.put d v) w'):DN P n ops st G i l Q F w:=by
 unfold DN;rw[ho];refine⟨fun _=>Step.mono hs fun v w' hr=>?_,fun hw=>?_⟩
 ·rw[zN];exact PZ
 simp[Region.wanted] at hw
theorem zGz{R}(ho:jA ops i=⟨none,op,ty,pos,aft,none⟩)(hn:ET false ⟨none,op,ty,pos,aft,none⟩=false)(hs:gx P n ⟨none,op,ty,pos,aft,none⟩ F w R)(h:∀v w',R v w'→CE P n ops false G l Q F w'):DN P n ops false G i l Q F w:=by
 unfold DN;rw[ho];refine⟨fun _=>Step.mono hs fun v w' hr=>?_,fun hw=>?_⟩
 ·exact⟨fun hh=>O6,h v w' hr⟩
 simp[Region.wanted] at hw
end
variable{b k m n:Nat}{α:Type}
def val(b:Nat):List Nat→Nat
 |[]=>0
 |d::l=>d+b*val b l
def Bd(b:Nat)(l:List Nat):Prop:=∀d∈l,d<b
theorem Bd.nil:Bd b []:=by intro d h;cases h
theorem Bd.cons{b d l}(h:d<b)(hl:Bd b l):Bd b (d::l):=by
 intro x hx;rcases aP.1 hx with rfl|hx
 ·exact h
 exact hl x hx
theorem Bd.head(h:Bd b (d::l)):d<b:=h d O4
theorem Bd.tail{b d l}(h:Bd b (d::l)):Bd b l:=fun x hx=>h x (by simp[hx])
theorem Bd.app{m}(h:Bd b l)(h2:Bd b m):Bd b (l++m):=by
 intro x hx;rcases fK.1 hx with hx|hx
 ·exact h x hx
 exact h2 x hx
theorem Bd.left{m}(h:Bd b (l++m)):Bd b l:=fun x hx=>h x (by simp[hx])
theorem Bd.right{m}(h:Bd b (l++m)):Bd b m:=fun x hx=>h x (by simp[hx])
theorem Bd.get(h:Bd b l)(hi:i<l.length):l[i]<b:=h _ (bX hi)
theorem Bd.take{b l}(h:Bd b l)(i):Bd b (l.take i):=fun x hx=>h x (gE hx)
theorem Bd.drop{b l}(h:Bd b l)(i):Bd b (l.drop i):=fun x hx=>h x (List.mem_of_mem_drop hx)
theorem Bd.set{b i d l}(h:Bd b l)(hd:d<b):Bd b (l.set i d):=by
 intro x hx;rcases pB hx with hx|hx
 ·exact h x hx
 omega
theorem vT(b l m):val b (l++m)=val b l+b^l.length*val b m:=by
 induction l with
 |nil=>simp[val]
 |cons d l ih=>
  simp[mL,val,ih,cF,dU];grind
theorem qDv(b d):val b [d]=d:=by simp[val]
theorem kK(h:Bd b l):val b l<b^l.length:=by
 induction l with
 |nil=>simp[val]
 |cons d l ih=>
  have h1:=ih h.tail;have h2:=h.head;simp only[val,cF,dU];have h3:b*(_+1)≤_:=dJ b h1;grind
theorem PI(b n):val b (replicate n 0)=0:=by
 induction n with
 |zero=>rfl
 |succ n ih=>rw[nE,val,ih];simp
theorem wS(hb:0<b)(n):Bd b (replicate n 0):=by
 intro d hd;grind
theorem PM(b l i)(hi:i≤l.length):val b l=val b (l.take i)+b^i*val b (l.drop i):=by
 have h:=vT b (l.take i) (l.drop i);rw[dP,cJ,eM hi] at h;exact h
theorem qGv(b:Nat)(l:List Nat)(i:Nat)(hi:i<l.length):val b (l.take (i+1))=val b (l.take i)+b^i*l[i]:=by
 rw[aF,vT,cJ,eM O1,qDv]
theorem Kh(b l i d)(hi:i<l.length):val b (l.set i d)+b^i*l[i]=val b l+b^i*d:=by
 induction l generalizing i with
 |nil=>grind
 |cons x l ih=>
  cases i with
  |zero=>simp[val];omega
  |succ i=>
   simp[List.set_cons_succ,val,List.getElem_cons_succ,dU];grind
def dg(b n:Nat):Nat→List Nat
 |0=>[]
 |m+1=>n%b::dg b (n/b) m
theorem Mh(b m):∀n,(dg b n m).length=m:=by
 induction m with
 |zero=>intro n;rfl
 |succ m ih=>simp[dg,ih]
theorem LL(hb:0<b)(m):∀n,Bd b (dg b n m):=by
 induction m with
 |zero=>intro n;exact .nil
 |succ m ih=>intro n;exact .cons (dY _ hb) (ih _)
theorem NY(b m):∀n,val b (dg b n m)=n%b^m:=by
 induction m with
 |zero=>simp[dg,val,nI]
 |succ m ih=>
  intro n;simp[dg,val,ih,dU];rw[dC _ b,Nat.mod_mul]
theorem OR(h:d<b):(d+b*n)%b=d∧(d+b*n)/b=n:=by
 have hb:0<b:=O1;exact⟨by rw[lK,aZ h],by rw[oD _ _ hb,iB h,gF]⟩
theorem wP(h:Bd b l):l=dg b (val b l) l.length:=by
 induction l with
 |nil=>rfl
 |cons d l ih=>
  simp only[val,cF,dg];rw[(OR h.head).1,(OR h.head).2,←ih h.tail]
theorem OM(b m):∀n i,i<m→(dg b n m)[i]? =some (n/b^i%b):=by
 induction m with
 |zero=>omega
 |succ m ih=>
  intro n i h;cases i with
  |zero=>simp[dg]
  |succ i=>
   simp[dg,List.getElem?_cons_succ];rw[ih _ i O1,fN,dU,dC]
def kO(l:List Nat):List Nat:=(l.reverse.dropWhile (·==0)).reverse
theorem qEy(l):kO (l++[0])=kO l:=by
 simp[kO]
theorem qH9(h:d≠0):kO (l++[d])=l++[d]:=by
 simp[kO,h]
def IR(b:Nat):Nat→Nat→List Nat
 |0,_=>[]
 |k+1,n=>if n=0 then[] else n%b::IR b k (n/b)
def jY(b n:Nat):List Nat:=IR b n n
theorem jHa(hb:1<b):∀(n k m:Nat),n≤k→n≤m→IR b k n=IR b m n:=by
 intro n;induction n using Nat.strongRecOn with
 |_ n ih=>
  intro k m hk hm;by_cases h:n=0
  ·subst h;cases k<;>cases m<;>simp[IR]
  obtain⟨k,rfl⟩:∃k',k=k'+1:=⟨k-1,O1⟩;obtain⟨m,rfl⟩:∃m',m=m'+1:=⟨m-1,O1⟩;simp only[IR,if_neg h];have hl:=pM (Rx h) hb;grind
theorem TS(b):jY b 0=[]:=O
section
variable(hb:1<b)
include hb
theorem L2(h:n≠0):jY b n=n%b::jY b (n/b):=by
 obtain⟨k,rfl⟩:∃k,n=k+1:=⟨n-1,O1⟩;unfold jY;simp only[IR,if_neg h];have hl:=pM (Rx h) hb;rw[jHa hb _ k _ O1 (aS _)]
theorem yX(n):val b (jY b n)=n:=by
 induction n using Nat.strongRecOn with
 |_ n ih=>
  by_cases h:n=0
  ·subst h;rfl
  rw[L2 hb h,val,ih _ (pM O1 hb)];exact Nat.mod_add_div n b
theorem vQ(n):Bd b (jY b n):=by
 induction n using Nat.strongRecOn with
 |_ n ih=>
  by_cases h:n=0
  ·subst h;exact .nil
  rw[L2 hb h];exact .cons (dY _ O1) (ih _ (pM O1 hb))
theorem wO:jY b n=[]↔n=0:=by
 constructor
 ·intro h;have:=yX hb n;rw[h] at this;exact this.symm
 rintro rfl;rfl
theorem O0(n):∀l d,jY b n=l++[d]→d≠0:=by
 induction n using Nat.strongRecOn with
 |_ n ih=>
  intro l d h;by_cases h0:n=0
  ·subst h0;rw[TS] at h;simp at h
  rw[L2 hb h0] at h;cases l with
  |nil=>
   simp[mC,sO] at h;have⟨h1,h2⟩:=h;have h3:=(wO hb).1 h2;have h5:n<b:=by
    rcases Nat.div_eq_zero_iff.1 h3 with h6|h6
    ·omega
    exact h6
   rw[←h1,aZ h5];exact h0
  |cons x l=>
   simp[mL,sO] at h;exact ih _ (pM O1 hb) l d h.2
theorem jL3(h:Bd b l)(hl:∀m d,l=m++[d]→d≠0):l=jY b (val b l):=by
 induction l with
 |nil=>rfl
 |cons d l ih=>
  have ha:∀m e,l=m++[e]→e≠0:=fun m e he=>hl (d::m) e O6
  have xr:d+b*val b l≠0:=by
   intro h0;have hd:d=0:=O1;have hv:val b l=0:=by
    have:b*val b l=0:=O1;rcases Nat.mul_eq_zero.1 this with h2|h2
    ·omega
    exact h2
   cases hl2:l with
   |nil=>
    subst hl2;exact hl [] d O hd
   |cons x t=>
    have:=ih h.tail ha;rw[hv,TS,hl2] at this;grind
  rw[val,L2 hb xr,(OR h.head).1,(OR h.head).2,←ih h.tail ha]
omit hb in
theorem Tz(l:List α):l=[]∨∃m d,l=m++[d]:=by
 rcases iQ l with h|⟨m,d,h⟩
 ·grind
 grind
theorem qDw:Bd b l→kO l=jY b (val b l):=by
 intro h;generalize hn:l.length=n;induction n generalizing l with
 |zero=>
  have:=aX hn;subst this;rfl
 |succ n ih=>
  rcases Tz l with rfl|⟨m,d,rfl⟩
  ·grind
  by_cases hd:d=0
  ·subst hd;rw[qEy,ih h.left O6,vT];simp[val]
  rw[qH9 hd];refine jL3 hb h ?_;intro m' d' e;have:=List.append_inj' e O;grind
theorem TT{x y}(h:(jY b x).length<(jY b y).length):x<y:=by
 rcases Tz (jY b y) with hy|⟨m,d,hy⟩
 ·grind
 have h1:=kK (vQ hb x);rw[yX hb] at h1;have h2:=yX hb y;rw[hy,vT] at h2;have h3:=O0 hb y m d hy;have h4:(jY b x).length≤m.length:=by rw[hy] at h;simp at h;omega
 have h5:_≤b^_:=bG O1 h4;have h6:_*1≤b^m.length*val b [d]:=dJ _ (by simp[val];omega);omega
theorem vI(h:(jY b n).length≤k):n<b^k:=by
 have h1:=kK (vQ hb n);rw[yX hb] at h1;exact dK h1 (bG O1 h)
theorem PN(h:n<b^k):(jY b n).length≤k:=by
 induction k generalizing n with
 |zero=>
  have:=by simpa using h
  subst this;simp[TS]
 |succ k ih=>
  by_cases h0:n=0
  ·grind
  rw[L2 hb h0,cF];have:n/b<b^k:=by
   rw[eO O1];rwa[dU] at h
  grind
theorem jIw(h:n<b^m):kO (dg b n m)=jY b n:=by
 rw[qDw hb (LL O1 m n),NY,aZ h]
end
section
attribute [local irreducible] PV gx kq kn WP km
variable{c c' j o:Nat}
theorem yV(b n i:Nat):n%b^(i+1)=n%b^i+b^i*(n/b^i%b):=Nat.mod_pow_succ
theorem qMy(hb:1<b){n i}(hi:i<(jY b n).length):(jY b n)[i]=n/b^i%b:=by
 have h1:=by
  have:=wP (vQ hb n);rwa[yX hb] at this
 have h2:=OM b _ n i hi;grind
theorem SO{x y z V:Nat}(h:V+c*b^i=x%b^i+y%b^i)(hz:z+b*c'=c+x/b^i%b+y/b^i%b):(V+b^i*z)+c'*b^(i+1)=x%b^(i+1)+y%b^(i+1):=by
 rw[yV,yV,dU];grind
theorem qDd{x y z V:Nat}(h:V+y%b^i=x%b^i+c*b^i)(hz:z+c+y/b^i%b=x/b^i%b+b*c'):(V+b^i*z)+y%b^(i+1)=x%b^(i+1)+c'*b^(i+1):=by
 rw[yV,yV,dU];grind
theorem qXb{x y V:Nat}(h:V+y%b^n=x%b^n+c*b^n)(hx:x<b^n)(hy:y≤x)(hV:V<b^n):V=x-y:=by
 rw[aZ hx,aZ O1] at h;cases c with
 |zero=>omega
 |succ c=>
  grind
theorem Mg(b x i:Nat):x/b^i=b*(x/b^(i+1))+x/b^i%b:=by
 rw[dU,←fN];exact(iT _ _).symm
theorem qCs{x y}(hb:0<b)(h:x/b^(i+1)=y/b^(i+1))(hd:x/b^i%b<y/b^i%b):x<y:=by
 have h1:x/b^i<y/b^i:=by
  rw[Mg b x i,Mg b y i,h];omega
 have hp:0<b^i:=gU hb;have h2:=pG y (b^i);have h3:=pE x hp;have h4:b^i*(_+1)≤_:=dJ _ h1;grind
theorem jEe{V V' y z old P:Nat}(h:V+c*b^(i+j)=P+d*(y%b^j)*b^i)(hz:z+b*c'=c+d*(y/b^j%b)+old)(hs:V'+b^(i+j)*old=V+b^(i+j)*z):
  V'+c'*b^(i+(j+1))=P+d*(y%b^(j+1))*b^i:=by
 rw[yV];grind
theorem jK4{x y:Nat}:x%b^(i+1)*y=x%b^i*y+(x/b^i%b)*y*b^i:=by
 rw[yV,eL];grind
theorem jK5{e:Nat}(hc:c<b)(hd:d<b)(he:e<b)(ho:o<b):c+d*e+o<b*b:=by
 have h1:d*e≤(b-1)*(b-1):=dE O1 O1;obtain⟨m,rfl⟩:∃m,b=m+1:=⟨b-1,O1⟩;grind
theorem qSn(hb:0<b){k}(hv:val b l<b^k){i}(hi:i<l.length)(xh:k≤i):l[i]=0:=by
 have h1:=PM b l i O1;have h2:=aT hi;rw[h2,val,iJ] at h1;have h3:=bG hb xh;by_cases h4:l[i]=0
 ·exact h4
 have h5:b^i*1≤b^i*l[i]:=dJ _ O1;omega
def ki(n:Nat):ByteArray:=⟨((jY 256 n).reverse.map UInt8.ofNat).toArray⟩
theorem qI9(n):(ki n).size=(jY 256 n).length:=by
 show(((jY 256 n).reverse.map UInt8.ofNat).toArray).size=_
 simp
theorem qI8:ki 0=⟨#[]⟩:=O
theorem Ss(h:ki m=ki n):m=n:=by
 have h1:(jY 256 m).reverse.map UInt8.ofNat=(jY 256 n).reverse.map UInt8.ofNat:=by
  have:=aK (fun a:ByteArray=>a.data.toList) h;simpa[ki] using this
 have key:∀k,((jY 256 k).reverse.map UInt8.ofNat).map UInt8.toNat=(jY 256 k).reverse:=by
  intro k;rw[iU]
  conv=>rhs;rw[←Nl (jY 256 k).reverse]
  apply lF;intro d hd;have ha:d<256:=vQ O2 k d O6;simp;omega
 have h2:=aK (List.map UInt8.toNat) h1;rw[key,key] at h2;have h3:=List.reverse_inj.1 h2;have:=aK (val 256) h3;rwa[yX O2,yX O2] at this
variable{a h t t':Nat}{d:Option Tmp}{g:Option (Nat×Bool)}{q:IntKind}{s:Option Addr}{y:Operand}
section
variable{pos:String}{x:Operand}
theorem NJ{e:Nat}(ht:CQ t=some (e,k))(hx:ev n F x= .slice s m c)(hy:ev n F y= .int q h)(hh:h≤c):
  PV prog n w F ⟨d,.slice t x none (some y) none,ty,pos,aft,g⟩ (.slice s h c):=Mf (zK ht).1 (zK ht).2 hx hy hh
theorem kD(h:FE t=some q)(h':FE t'=some .u64)(hx:ev n F x= .int .u32 (a:Int))(ha:a<4294967296):PV prog n w F ⟨d,.convert t t' x,ty,pos,aft,g⟩ (.int .u64 (a:Int)):=by
 have:=zX (w:=w) (d:=d) (ty:=ty) (pos:=pos) (aft:=aft) (g:=g) h h' hx;rwa[wU O1] at this
theorem vB{k:IntKind}(h:FE t=some q)(h':FE t'=some .u32)(hx:ev n F x= .int k (a:Int)):PV prog n w F ⟨d,.convert t t' x,ty,pos,aft,g⟩ (.int .u32 ((a%4294967296:Nat):Int)):=by
 have:=zX (w:=w) (d:=d) (ty:=ty) (pos:=pos) (aft:=aft) (g:=g) h h' hx;rwa[SH] at this
theorem kC{k:IntKind}(h:FE t=some q)(h':FE t'=some .u8)(hx:ev n F x= .int k (a:Int)):PV prog n w F ⟨d,.convert t t' x,ty,pos,aft,g⟩ (.int .u8 ((a%256:Nat):Int)):=by
 have:=zX (w:=w) (d:=d) (ty:=ty) (pos:=pos) (aft:=aft) (g:=g) h h' hx;rwa[jNo] at this
end
def eW(d:Nat):List Value:=[.int .u32 (d:Int)]
theorem uM(l):kO l<+:l:=by
 unfold kO;have h:=List.dropWhile_suffix (l:=l.reverse) (·==0);grind
theorem c66(l:List Nat)(s:Option Addr)(c:Nat)(w:World)(hc:l.length≤c)(hm:c≤maxLen)(hs:ig w 1 eW s l):
  Rk 132 [.slice s l.length c] w (.slice s (kO l).length c):=by
 have ha:c≤9223372036854775807:=by unfold maxLen at hm;omega
 refine tW func132 ntmps132 fun hp=>?_;refine qA ?_;refine qQ ([0]++List.range' 3 17) (fun k F=>F.put 0 (.slice s k c)) (fun k w'=>k≤l.length∧kO (l.take k)=kO l∧Hp w [] w' []) (fun k=>k) _ (qB (ka.eq .refl) O) ⟨O1,O4,hp⟩ ?_;clear hp;rintro u k w1 ⟨hk,ht,hp⟩;rcases dG k with h0|h0
 ·subst h0;refine E0 ?_;refine qM O O ⟨_,O,HO ?_,hp.Z⟩;rw[←ht];rfl
 have hl:k-1<l.length:=O1;have hh:k-1<k:=O1;have⟨b0,o0,hs0,yk⟩:=hs.base O1;have yl:=yk _ _ (aA hl) 0 _ O;have hg:=aF hl;rw[show k-1+1=k from by omega] at hg;refine Cj ?_;refine ke (xJ O O) (qV (aD O1)) (jL ?_);refine tN (k-1) ?_;refine jL (qH O (fun h=>?_) (fun h=>?_))
 ·have hz:l[k-1]=0:=O1;refine tM (k-1) ?_;refine tR (NJ O O O O1) ?_;refine qA ?_;refine⟨_,qB O5 O,⟨O1,?_,hp⟩,O1⟩;rw[hg,hz,qEy] at ht;exact ht
 have hz:l[k-1]≠0:=O1;refine qA ?_;refine qM O O ⟨_,O,HO ?_,hp.Z⟩;rw[hg,qH9 hz,←hg] at ht;grind
variable{w' w0:World}
def dN(x:Nat):List Nat:=jY 4294967296 x
theorem HK(x):Bd 4294967296 (dN x):=vQ O2 x
theorem EE{x}(h:i<(dN x).length):(dN x)[i]=x/4294967296^i%4294967296:=qMy O2 h
theorem qP8{x}(h:(dN x).length≤i):x/4294967296^i%4294967296=0:=(by rw[iB (vI O2 h),yY])
theorem CU{x}(h:(dN x).length≤i):x<4294967296^i:=vI O2 h
theorem Vs{x}(h:x<4294967296^i):(dN x).length≤i:=PN O2 h
theorem N4:dN 0=[]:=O
theorem jHg{x}:dN x=[]↔x=0:=wO O2
theorem Zp(h:Bd 4294967296 l):kO l=dN (val 4294967296 l):=qDw O2 h
structure DA(w:World)(x:Nat)(s:Option Addr)(c:Nat):Prop where
 cap:(dN x).length≤c
 max:c≤maxLen
 at_:ig w 1 eW s (dN x)
theorem DA.j1{x}(h:DA w x s c)(hk:ax [] w w'):DA w' x s c:=⟨h.cap,h.max,h.at_.i7 hk⟩
theorem DA.zero(w):DA w 0 none 0:=⟨by simp[N4],O4,by intro i x hx;simp[N4] at hx⟩
theorem DA.len{x}(h:DA w x s c):(dN x).length≤9223372036854775807:=by
 have h1:=h.cap;have h2:=h.max;unfold maxLen at h2;omega
theorem JN{z g x}(hp:Hp w0 [] w [qG eW 208 1 (Ad g) c z])(hv:kg (Ad g) c z)(hc:c≤maxLen)(hb:Bd 4294967296 z)(hx:val 4294967296 z=x):
  Rt 132 [.slice (Ad g) z.length c] w (fun v w'=>∃s' c',v= .slice s' (dN x).length c'∧DA w' x s' c'∧ax [] w0 w'):=by
 have hs:=qZ hp 0 O hv (fun _=>O);refine km.mono (c66 z _ c w hv.cap hc hs) ?_;rintro v w' ⟨rfl,hk⟩;have e:kO z=dN x:=by rw[Zp hb,hx]
 refine⟨_,_,HO (by rw[e]),⟨?_,hc,?_⟩,hp.Z.trans hk O4⟩
 ·rw[←e];exact bF (uM z).length_le hv.cap
 rw[←e];exact(hs.pre (uM z)).i7 hk
theorem I0{d}(h:a<2^k):a|||(d*2^k)=a+d*2^k:=by
 rw[rU,dC,←XK h d,oT]
theorem c58(x:Nat)(s:Option Addr)(c:Nat)(w:World)(hx:x<18446744073709551616)(hd:DA w x s c):
  Rk 248 [.slice s (dN x).length c] w (.int .u64 (x:Int)):=by
 have qq:_≤2:=Vs O1;refine tW func248 ntmps248 fun hp=>?_;refine qA ?_;refine qQ [3,4,5,8,9,10,11,12,13,14,15,16,17,18,19,20] (fun(i:Nat) F=>(F.put 3 (.int _ (x%4294967296^i:Nat))).put 8 (.int _ i)) (fun i w'=>i≤(dN x).length∧Hp w [] w' []) (fun i=>(dN x).length-i) 0 (qB (qB (ka.eq .refl) (qF O1)) O) ⟨O1,hp⟩ ?_;clear hp;rintro u i w1 ⟨hi,hp⟩;refine tI (fun h2=>?_) fun h2=>?_
 ·have hl:i<(dN x).length:=O1;have⟨b0,o0,hs0,yk⟩:=hd.at_.base O1;have yl:=yk i _ (aA hl) 0 _ O;have h3:=(HK x).get hl;have hg:=EE hl;generalize (dN x)[i]=di at yl h3 hg;have eb:4294967296^i=2^(32*i):=by rw[lG]
  have hj:x%4294967296^i<2^(32*i):=by rw[←eb];exact dY _ (gU O2)
  have hh:x%4294967296^i<_:=bW (JJ _ _) hx;have hn:=yV 4294967296 x i;rw[←hg] at hn;have ha:x%4294967296^(i+1)=x%4294967296^i+di*2^(32*i):=by rw[hn,eb,dC (2^(32*i)) di]
  have ys:di*2^(32*i)<18446744073709551616:=by
   have:=JJ x (4294967296^(i+1));omega
  refine tM (32*i) (tR (H3 O O O1 ys) ?_);refine ke (Ke O O hh ys) (qF (b:=(x%4294967296^(i+1):Nat)) (by rw[I0 hj,ha])) (tB ?_);refine qA ?_;exact P9
 refine qA ?_;refine qM O O ⟨_,O,qF ?_,hp.Z⟩;rw[aZ (CU O1)]
theorem QD(x:Nat)(w:World)(hx:x<18446744073709551616):
  Rt 65 [.int .u64 (x:Int)] w (fun v w'=>∃s' c',v= .slice s' (dN x).length c'∧DA w' x s' c'∧ax [] w w'):=by
 refine tW func65 ntmps65 fun hp=>?_;refine qA ?_;refine ke (xP O O O2) (qF (b:=(x/4294967296:Nat)) O) (ke (vB O O O) (qF (b:=(x/4294967296:Nat)) O1) ?_);refine tF (jC hp O O O O O O O) fun w1 nb hp=>?_;have hp:Hp w [] w1 [qG eW 208 1 _ 2 [_,_]]:=hp.rowOf 0 1 2 O O;have hv:kg _ 2 [x%4294967296,x/4294967296]:=.inr ⟨nb,2,O,aS _,by unfold maxLen;omega⟩;have hb:Bd 4294967296 [x%4294967296,x/4294967296]:=.cons O1 (.cons O1 .nil);refine tK (JN hp hv (by unfold maxLen;omega) hb (x:=x) (by simp only[val];omega)) ?_;rintro _ w2 ⟨s',c',rfl,hd,hk⟩;refine tV ?_;exact⟨_,O,s',c',O,hd,hk⟩
theorem K3(x y:Nat)(s s2:Option Addr)(c c2:Nat)(w:World)(hx:DA w x s c)(hy:DA w y s2 c2):
  Rk 73 [.slice s (dN x).length c,.slice s2 (dN y).length c2] w (Iv (if x<y then-1 else if x=y then 0 else 1)):=by
 have gY:=hx.len;refine tW func73 ntmps73 fun hp=>?_;refine qA (xI O (fun h=>?_) (fun h=>?_))
 ·refine tI (fun h2=>?_) fun h2=>?_
  ·have hl:=TT (b:=4294967296) O2 (by
    have:(dN x).length<(dN y).length:=O1
    exact this)
   exact KL
  have hl:=TT (b:=4294967296) O2 (by
   have:(dN y).length<(dN x).length:=O1
   exact this)
  exact KL
 refine Ae ?_;refine qQ ([4,5]++List.range' 19 22) (fun(i:Nat) F=>F.put 5 (.int _ (i-1))) (fun i w'=>i≤(dN x).length∧x/4294967296^i=y/4294967296^i∧Hp w [] w' []) (fun i=>i) _ (qB (ka.eq .refl) O) ⟨O1,?_,hp⟩ ?_
 ·rw[iB (CU O1),iB (CU O1)]
 clear hp;rintro u i w1 ⟨hi,he,hp⟩;refine tI (fun h2=>?_) fun h2=>?_
 ·obtain⟨j,rfl⟩:∃j,i=j+1:=⟨i-1,O1⟩;have hl:j<(dN x).length:=O1;have tv:j<(dN y).length:=O1;have⟨b0,o0,hs0,yk⟩:=hx.at_.base O1;have yl:=yk j _ (aA hl) 0 _ O;have⟨b1,o1,hq,vx⟩:=hy.at_.base O1;have eg:=vx j _ (aA tv) 0 _ O;have hg:=EE hl;have ee:=EE tv;generalize (dN x)[j]=dx at yl hg;generalize (dN y)[j]=dy at eg ee;have ej:(j+1:Nat)-1=(j:Int):=O1;rw[ej];refine qR ?_;refine tX fun hp=>?_;refine qX (qU ?_);refine qA (xI O (fun h=>?_) (fun h=>?_))
  ·refine qR ?_;refine tX fun hp=>?_;refine qX (qU ?_);refine tI (fun h3=>?_) fun h3=>?_
   ·have hh:=qCs O2 he O1;exact KL
   have hh:=qCs O2 he.symm O1;exact KL
  refine Ae ?_;refine⟨j,qB O5 O,⟨O1,?_,hp⟩,O1⟩;rw[Mg,Mg 4294967296 y j,he,←hg,←ee];omega
 obtain rfl:i=0:=O1;have ha:=by simpa using he
 exact KL
variable{M:List Nat}
section
variable{L:List kr}{pos:String}{x:Operand}
theorem yE(enc:α→List Value)(x0:α){t e ba m:Nat}{kl kc:IntKind}{z:Value}(hp:Hp w0 M w L)(ht:CQ t=some (e,1))(hz:wT e=some z)(x5:GW e=some ba)
  (hx:ev n F x= .int kl m) (hy:ev n F y= .int kc m) (ha:enc x0=[z]) (h1:kM z=true) (hm:(ba+1)*m<281000000000000) (hb:Nat.ble ba 1000=true):
  gx prog n ⟨d,.makeSlice t x y,ty,pos,aft,g⟩ F w (fun u w'=>∃b,u= .slice (Ad b) m m∧kg (Ad b) m (replicate m x0)∧Hp w0 M w' (qG enc e 1 (Ad b) m (replicate m x0)::L)):=
 jCo _ x0 hp (zK ht).1 (zK ht).2 (qJ hz) (Kz x5) hx hy ha h1 hm hb
end
theorem take_set{l:List Nat}{i d:Nat}(h:i<l.length):(l.set i d).take (i+1)=l.take i++[d]:=by
 rw[aF O6,rS];congr 1
 ·rw[mZ O6]
 simp
theorem yM{d:Nat}(h:i<l.length):val b ((l.set i d).take (i+1))=val b (l.take i)+b^i*d:=by
 rw[take_set h,vT,cJ,eM O1,qDv]
theorem c44(x y:Nat)(s s2:Option Addr)(c c2:Nat)(w:World)(hx:DA w x s c)(hy:DA w y s2 c2)(gY:(dN x).length≤10000000000000)(ic:(dN y).length≤10000000000000):
  Rt 122 [.slice s (dN x).length c,.slice s2 (dN y).length c2] w (fun v w'=>∃s' c',v= .slice s' (dN (x+y)).length c'∧DA w' (x+y) s' c'∧ax [] w w'):=by
 refine tW func122 ntmps122 fun hp=>?_;refine qA (EV (fun F w1=>∃x' y' s s2 c c2,x'+y'=x+y∧(dN y').length≤(dN x').length∧(dN x').length≤10000000000000∧DA w x' s c∧DA w y' s2 c2∧Hp w [] w1 []∧CH F [(0,.slice s (dN x').length c),(1,.slice s2 (dN y').length c2)]) ?_ ?_)
 ·refine qH O (fun h=>?_) (fun h=>?_)
  ·refine qA ?_;exact⟨y,x,s2,s,c2,c,O1,O1,O1,hy,hx,hp,O,O,trivial⟩
  refine qA ?_;exact⟨x,y,s,s2,c,c2,O,O1,O1,hx,hy,hp,O,O,trivial⟩
 clear hp hx hy gY ic;rintro F w1 ⟨x',y',s,s2,c,c2,hj,ys,gY,hx,hy,hp,hF⟩;rw[←hj];have hz:(dN x').length<(dN x').length+1:=O1;refine yL _ hF ?_;intro F0;clear hF;refine tM ((dN x').length+1) ?_;refine tF (yE eW 0 hp O O O O O O O O1 O) fun w2 g⟨hv,hp⟩=>qA (kS ([6,7]++List.range' 21 29) (fun(i cy:Nat) z F=>(F.put 21 (.int _ i)).put 6 (.int _ cy))
  (fun i cy z w'=>i≤(dN x').length∧z.length=(dN x').length+1∧Bd 4294967296 z∧cy<2∧val 4294967296 (z.take i)+cy*4294967296^i=x'%4294967296^i+y'%4294967296^i∧kg _ _ z∧Hp w [] w' [qG eW 208 1 _ _ z])
  (fun i _ _=>(dN x').length-i) 0 0 _ (qB (qB (ka.eq .refl) O) O) ⟨O1,O4,wS O2 _,O1,by simp[val,nI],hv,hp⟩ ?_)
 clear hp hv;rintro u i cy z w3 ⟨hi,x1,x2,eu,x0,hv,hp⟩;refine tI (fun h2=>?_) fun h2=>?_
 ·have hl:i<(dN x').length:=O1;have dv:i<(dN x').length+1:=O1;have xz:i<z.length:=O1;have⟨b0,o0,hs0,yk⟩:=hx.at_.base O1;have yl:=yk i _ (aA hl) 0 _ O;have ha:=(HK x').get hl;have hg:=EE hl;generalize (dN x')[i]=dx at yl ha hg;refine KV ?_;refine qA ?_;obtain⟨dy,hh,hn⟩:∃dy,dy=y'/4294967296^i%4294967296∧dy<4294967296:=⟨_,O,dY _ O2⟩;refine qH O (fun h3=>?_) (fun h3=>?_)
  ·have hm:i<(dN y').length:=O1;have⟨b1,o1,hq,vx⟩:=hy.at_.base O1;have eg:=vx i _ (aA hm) 0 _ O;have ee:=EE hm;rw[←hh] at ee;rw[ee] at eg;refine KV ?_;refine qA (tO (zL eW z i _ hp 0 O hv xz O O (fun _=>O) O O (qD O)) fun w4 hp=>?_);refine Qr ?_;refine⟨i+1,_,_,qB O5 O,⟨O1,?_,?_,?_,?_,hv.set _ _,hp⟩,O1⟩
   ·grind
   ·exact x2.set O1
   ·omega
   rw[yM xz];exact SO x0 O1
  have ht:dy=0:=by rw[hh];exact qP8 O1
  refine qA (tO (zL eW z i _ hp 0 O hv xz O O (fun _=>O) O O (qD O)) fun w4 hp=>?_);refine Qr ?_;refine⟨i+1,_,_,qB O5 O,⟨O1,?_,?_,?_,?_,hv.set _ _,hp⟩,O1⟩
  ·grind
  ·exact x2.set O1
  ·omega
  rw[yM xz];exact SO x0 O1
 obtain rfl:i=(dN x').length:=O1;have xz:(dN x').length<z.length:=O1;refine qA (tO (zL eW z _ _ hp 0 O hv xz O O (fun _=>O) O O (qD O)) fun w4 hp=>?_);have hv:=hv.set (dN x').length (cy%4294967296);have hb:Bd 4294967296 (z.set (dN x').length (cy%4294967296)):=x2.set O1;have hV:val 4294967296 (z.set (dN x').length (cy%4294967296))=x'+y':=by
  have h1:=yM (b:=4294967296) (d:=cy%4294967296) xz;rw[bJ O6] at h1;rw[h1,aZ (show cy<4294967296 by omega),dC,x0,aZ (CU (aS _)),aZ (CU ys)]
 refine qA ?_;refine AB (qC O Py (by rw[fW,x1];rfl) (JN hp hv (by unfold maxLen;omega) hb hV)) fun w2 s' c'⟨hd,hk⟩=>tV ?_;exact⟨_,O,s',c',O,hd,hk⟩
theorem c72(x y:Nat)(s s2:Option Addr)(c c2:Nat)(w:World)(hx:DA w x s c)(hy:DA w y s2 c2)(gY:(dN x).length≤10000000000000)(hj:y≤x):
  Rt 176 [.slice s (dN x).length c,.slice s2 (dN y).length c2] w (fun v w'=>∃s' c',v= .slice s' (dN (x-y)).length c'∧DA w' (x-y) s' c'∧ax [] w w'):=by
 have ic:=hy.len;refine tW func176 ntmps176 fun hp=>?_;refine qA ?_;refine tF (yE eW 0 hp O O O O O O O O1 O) fun w2 g⟨hv,hp⟩=>qA (kS ([6,7,8]++List.range' 14 29) (fun(i cy:Nat) z F=>(F.put 14 (.int _ i)).put 6 (.int _ cy))
  (fun i cy z w'=>i≤(dN x).length∧z.length=(dN x).length∧Bd 4294967296 z∧cy<2∧val 4294967296 (z.take i)+y%4294967296^i=x%4294967296^i+cy*4294967296^i∧kg _ _ z∧Hp w [] w' [qG eW 208 1 _ _ z])
  (fun i _ _=>(dN x).length-i) 0 0 _ (qB (qB (ka.eq .refl) O) O) ⟨O1,O4,wS O2 _,O1,by simp[val,nI],hv,hp⟩ ?_)
 clear hp hv;rintro u i cy z w3 ⟨hi,x1,x2,eu,x0,hv,hp⟩;refine tI (fun h2=>?_) fun h2=>?_
 ·have hl:i<(dN x).length:=O1;have xz:i<z.length:=O1;have⟨b0,o0,hs0,yk⟩:=hx.at_.base O1;have yl:=yk i _ (aA hl) 0 _ O;have ha:=(HK x).get hl;have hg:=EE hl;generalize (dN x)[i]=dx at yl ha hg;refine qA ?_;refine tR (H5 O O O1) ?_;refine qA ?_;obtain⟨dy,hh,hn⟩:∃dy,dy=y/4294967296^i%4294967296∧dy<4294967296:=⟨_,O,dY _ O2⟩;refine qH O (fun h3=>?_) (fun h3=>?_)
  ·have hm:i<(dN y).length:=O1;have⟨b1,o1,hq,vx⟩:=hy.at_.base O1;have eg:=vx i _ (aA hm) 0 _ O;have ee:=EE hm;rw[←hh] at ee;rw[ee] at eg;refine qA ?_;refine tR (H5 O O O1) ?_;refine qA (tO (zL eW z i _ hp 0 O hv xz O O (fun _=>O) O O (qD O)) fun w4 hp=>?_);refine qA ?_;refine tR (xP (b:=63) O O O2) ?_;refine Ae ?_;refine⟨i+1,_,_,qB O5 O,⟨O1,?_,?_,?_,?_,hv.set _ _,hp⟩,O1⟩
   ·grind
   ·exact x2.set O1
   ·unfold D8;omega
   rw[yM xz];exact qDd x0 (by unfold D8;omega)
  have ht:dy=0:=by rw[hh];exact qP8 O1
  refine qA (tO (zL eW z i _ hp 0 O hv xz O O (fun _=>O) O O (qD O)) fun w4 hp=>?_);refine qA ?_;refine tR (xP (b:=63) O O O2) ?_;refine Ae ?_;refine⟨i+1,_,_,qB O5 O,⟨O1,?_,?_,?_,?_,hv.set _ _,hp⟩,O1⟩
  ·grind
  ·exact x2.set O1
  ·unfold D8;omega
  rw[yM xz];exact qDd x0 (by unfold D8;omega)
 obtain rfl:i=(dN x).length:=O1;have hV:=by
  rw[bJ O1] at x0;refine qXb x0 (CU (aS _)) hj ?_;have:=kK x2;rwa[x1] at this
 refine qA ?_;refine AB (qC O Py (by rw[x1];rfl) (JN hp hv (by unfold maxLen;omega) x2 hV)) fun w2 s' c'⟨hd,hk⟩=>tV ?_;exact⟨_,O,s',c',O,hd,hk⟩
theorem c46(x y:Nat)(s s2:Option Addr)(c c2:Nat)(w:World)(hx:DA w x s c)(hy:DA w y s2 c2)(gY:(dN x).length≤10000000000000)(ic:(dN y).length≤10000000000000):
  Rt 143 [.slice s (dN x).length c,.slice s2 (dN y).length c2] w (fun v w'=>∃s' c',v= .slice s' (dN (x*y)).length c'∧DA w' (x*y) s' c'∧ax [] w w'):=by
 refine tW func143 ntmps143 fun hp=>?_;refine tM ((dN x).length+(dN y).length) ?_;refine tF (yE eW 0 hp O O O O O O O O1 O) fun w2 g⟨hv,hp⟩=>qA (kT ([6,7,8,9,10]++List.range' 19 46) (fun(i:Nat) _z F=>F.put 19 (.int _ i))
  (fun i z w'=>i≤(dN x).length∧z.length=(dN x).length+(dN y).length∧Bd 4294967296 z∧val 4294967296 z=x%4294967296^i*y∧kg _ _ z∧Hp w [] w' [qG eW 208 1 _ _ z])
  (fun i _=>(dN x).length-i) 0 _ (qB (ka.eq .refl) O) ⟨O1,O4,wS O2 _,by simp[PI,nI],hv,hp⟩ ?_)
 clear hp hv;rintro u i z w3 ⟨hi,x1,x2,x0,hv,hp⟩;refine tI (fun h2=>?_) fun h2=>?_
 ·have hl:i<(dN x).length:=O1;have⟨b0,o0,hs0,yk⟩:=hx.at_.base O1;have yl:=yk i _ (aA hl) 0 _ O;have ha:=(HK x).get hl;have hg:=EE hl;generalize (dN x)[i]=dx at yl ha hg;have fe:z[i+(dN y).length]? =some 0:=by
   have h1:i+(dN y).length<z.length:=O1;rw[aA h1];congr 1;refine qSn (b:=4294967296) O2 (k:=i+(dN y).length) ?_ h1 (aS _);rw[x0,eK];exact oQ (dY _ (gU O2)) (CU (aS _))
  refine qA (kS ([8,9,10]++List.range' 26 30) (fun(j cy:Nat) _z F=>(F.put 26 (.int _ j)).put 8 (.int _ cy))
   (fun j cy z w'=>j≤(dN y).length∧z.length=(dN x).length+(dN y).length∧Bd 4294967296 z∧cy<4294967296∧val 4294967296 z+cy*4294967296^(i+j)=x%4294967296^i*y+dx*(y%4294967296^j)*4294967296^i∧z[i+(dN y).length]? =some 0∧kg _ _ z∧Hp w [] w' [qG eW 208 1 _ _ z])
   (fun j _ _=>(dN y).length-j) 0 0 z (qB (qB (ka.eq .refl) O) O) ⟨O1,x1,x2,O1,O6,fe,hv,hp⟩ ?_)
  clear hp hv x1 x2 x0 fe z;rintro u2 j cy z w4 ⟨hj,x1,x2,eu,x0,fe,hv,hp⟩;refine tI (fun h3=>?_) fun h3=>?_
  ·have bw:j<(dN y).length:=O1;have zn:i+j<(dN x).length+(dN y).length:=O1;have hh:i+j<z.length:=O1;have⟨b1,o1,hq,vx⟩:=hy.at_.base O1;have eg:=vx j _ (aA bw) 0 _ O;have ek:=(HK y).get bw;have ee:=EE bw;generalize (dN y)[j]=dy at eg ek ee;have x3:=zS hp 0 O hv (fun _=>O) (aA hh) 0 _ O;have yd:=x2.get hh;have hT:=fun d=>Kh 4294967296 z _ d hh
   generalize z[i+j]=old at x3 yd hT;have yc:=jK5 eu ha ek yd;have hmul:dx*dy<18446744073709551616:=O1;refine qA (tR (OW O O hmul) ?_);refine tM (i+j) ?_;refine KV ?_;refine tR (uU O O O1) ?_;refine tM (i+j) ?_;refine qA (tO (zL eW z _ _ hp 0 O hv hh O O (fun _=>O) O O (qD O)) fun w4 hp=>?_);refine Qr ?_;refine⟨j+1,_,_,qB O5 O,⟨O1,?_,?_,?_,?_,?_,hv.set _ _,hp⟩,O1⟩
   ·grind
   ·exact x2.set O1
   ·omega
   ·exact jEe x0 O6 (hT _)
   grind
  obtain rfl:j=(dN y).length:=O1;have zn:i+(dN y).length<(dN x).length+(dN y).length:=O1;have hh:i+(dN y).length<z.length:=O1;refine tM (i+(dN y).length) ?_;refine qA (tO (zL eW z _ _ hp 0 O hv hh O O (fun _=>O) O O (qD O)) fun w4 hp=>?_);refine Ae ?_;refine⟨i+1,_,qB O5 O,⟨O1,?_,?_,?_,hv.set _ _,hp⟩,O1⟩
  ·grind
  ·exact x2.set O1
  have h1:=Kh 4294967296 z _ (cy%4294967296) hh;have h0:=by
   rw[aA hh] at fe;simpa using fe
  rw[h0,Nat.mul_zero,fY,aZ eu,dC,x0,aZ (CU (aS _))] at h1;rw[aZ eu,h1,jK4,←hg]
 rw[aZ (CU O1)] at x0;exact mBi
variable{p:Nat}
def bs(l:List Nat):ByteArray:=⟨(l.map UInt8.ofNat).toArray⟩
theorem JV(n):ki n=bs (jY 256 n).reverse:=O
theorem LM(l):(bs l).size=l.length:=by
 show((l.map UInt8.ofNat).toArray).size=_
 simp
theorem jYa(h:Bd 256 l){i}(hi:i<l.length):CK (bs l) i=(l[i]:Int):=by
 have h1:=h.get hi;unfold CK bs;simp only[bH,aA hi,fD,iY];simp;omega
theorem jLi(l k):(bs l).extract k (bs l).size=bs (l.drop k):=by
 apply ByteArray.ext;rw[ByteArray.data_extract,LM];simp[bs];rw[bJ O4]
theorem jTs:bs l=⟨#[]⟩↔l=[]:=by
 constructor
 ·intro h;have:=aK ByteArray.size h;rw[LM] at this;exact aX this
 rintro rfl;rfl
theorem qRx(ns:List Int):∀r:ByteArray,(ns.foldl (fun r n=>r.push (UInt8.ofNat n.toNat)) r).data=r.data++(ns.map fun n=>UInt8.ofNat n.toNat).toArray:=by
 induction ns with
 |nil=>simp
 |cons n ns ih=>
  intro r;rw[iF,ih,ByteArray.data_push];simp
theorem qN8(l:List Nat):kN (l.map fun(d:Nat)=>(d:Int))=bs l:=by
 apply ByteArray.ext;unfold kN;rw[qRx];simp[bs]
theorem qHu{x}(h:x<256^m):(dg 256 x m).reverse.dropWhile (·==0)=(jY 256 x).reverse:=by
 rw[←jIw O2 h];simp[kO]
section
variable{pos:String}{x:Operand}
theorem qLz(ht:GV t=true)(hx:ev n F x= .string (bs l))(hy:ev n F y= .int q k)(hl:k≤l.length):
  PV prog n w F ⟨d,.slice t x (some y) none none,ty,pos,aft,g⟩ (.string (bs (l.drop k))):=by
 rw[←jLi];exact Z7 (wV ht) hx hy (by rw[LM];exact hl)
theorem NZ{k:IntKind}(h:GV t=true)(hx:ev n F x= .string (bs l))(hy:ev n F y= .int k i)(hb:Bd 256 l)(hi:i<l.length):PV prog n w F ⟨d,.index t x y,ty,pos,aft,g⟩ (.int .u8 (l[i]:Int)):=by
 rw[←jYa hb hi];exact zY h hx hy (by rw[LM];exact hi)
theorem PO{q}(h:GV p=true)(hx:ev n F x= .string (bs l)):PV prog n w F ⟨d,.call ⟨.builtin .len,#[x],#[p]⟩,q,pos,aft,g⟩ (Iv l.length):=by
 have:=uZ (q:=q) (w:=w) (d:=d) (pos:=pos) (aft:=aft) (g:=g) h hx;rwa[LM] at this
end
theorem qO2(h:l≠[])(h0:l[0]'(lB.2 h)=0):l.dropWhile (·==0)=(l.drop 1).dropWhile (·==0):=by
 cases l with
 |nil=>simp
 |cons a l=>
  subst h0;simp
theorem qO3(h:l≠[])(h0:l[0]'(lB.2 h)≠0):l.dropWhile (·==0)=l:=by
 cases l with
 |nil=>simp
 |cons a l=>
  simp at h0;simp[h0]
theorem c93(l:List Nat)(w:World)(hb:Bd 256 l)(hl:l.length≤9223372036854775807):
  Rt 270 [.string (bs l),.int .u8 0] w (fun v w'=>v= .string (bs (l.dropWhile (·==0)))∧ax [] w w'):=by
 refine tW func270 ntmps270 fun hp=>?_;refine qA (qQ ([0]++List.range' 5 11) (fun m F=>F.put 0 (.string (bs m))) (fun m w'=>Bd 256 m∧m.length≤9223372036854775807∧m.dropWhile _=l.dropWhile (·==0)∧Hp w [] w' []) (fun m=>m.length) l (qB (ka.eq .refl) O) ⟨hb,hl,O,hp⟩ ?_);clear hp hb hl;rintro u m w1 ⟨hb,hl,he,hp⟩;rw[←he];clear he;by_cases h0:m=[]
 ·subst h0;refine E0 ?_;exact Fq
 have xx:=lB.2 h0;refine qR ?_;refine jM (tR (PO O O) ?_);refine ke (xJ O O) (qV (aD O1)) (jL ?_);apply vX;rfl;rfl;exact NZ O O O hb xx;exact fI O;refine jL (qH O (fun h=>?_) (fun h=>?_))
 ·have hz:m[0]=0:=O1;refine qA ?_;refine tR (qLz (k:=1) O O O O1) ?_;refine qA ?_;exact⟨_,qB O5 O,⟨hb.drop 1,O6,(qO2 h0 hz).symm,hp⟩,O6⟩
 have hz:m[0]≠0:=O1;refine qA ?_;refine qM O O ⟨_,O,?_,hp.Z⟩;rw[qO3 h0 hz];rfl
theorem c87(l w)(hb:Bd 256 l)(hl:l.length≤9223372036854775807):
  Rt 190 [.string (bs l),.string ⟨#[0]⟩] w (fun v w'=>v= .string (bs (l.dropWhile (·==0)))∧ax [] w w'):=by
 refine tW func190 ntmps190 fun hp=>?_;by_cases h0:l=[]
 ·subst h0;exact Mk
 have xr:¬_=_:=fun e=>h0 (jTs.1 e)
 refine AP ?_;refine qR ?_;refine jM (ke (xV O O) (qV (aB xr)) ?_);refine jL (qN O ?_);refine AP ?_;refine jM (ke (zW O O) (qV (aD O)) ?_);refine jM ?_;refine BT ?_;apply vX;rfl;rfl;exact NZ (l:=[0]) (i:=0) O O O (.cons O2 .nil) O2;exact fI O;apply vX;rfl;rfl;exact zQ O O;exact qV (b:=true) O;refine jL (jB O ?_);refine Cj ?_;refine ke (NZ O O O (.cons O2 .nil) O2) (qF (b:=0) O) (tC (c93 l _ hb hl) fun w2 hp=>?_);exact nj
theorem c65(l w)(hb:Bd 256 l)(hl:l.length≤9223372036854775807):
  Rt 131 [.string (bs l)] w (fun v w'=>v= .string (bs (l.dropWhile (·==0)))∧ax [] w w'):=by
 refine tW func131 ntmps131 fun hp=>?_;refine tD (c87 l _ hb hl) fun w2 hp=>?_;exact nj
variable{q r:Nat}
theorem I8(k:Nat)(h:i≤9223372036854775807):IntKind.i64.wrap ((i:Int).tdiv (k:Int))=((i/k:Nat):Int):=by
 rw[XI O1,←Int.natCast_ediv];have h1:=Int.ofNat_le.2 (iH i k);have h0:(0:Int)≤(i/k:Nat):=Ry _;exact qK O1 O1
theorem L9(i k:Nat):(i:Int).tmod (k:Int)=((i%k:Nat):Int):=by
 grind
theorem jCb(h:q<l.length):b^q*l[q]≤val b l:=by
 have h1:=PM b l q O1;rw[aT h,val,iJ] at h1;omega
theorem RN(i):256^i=4294967296^(i/4)*2^(8*(i%4)):=by
 conv=>lhs;rw[←iT i 4,eK,lG]
 rw[lG]
theorem zBz(h:r<4):2^(8*r)≤16777216:=by
 have:2^(8*r)≤2^24:=bG O2 O1;omega
theorem jHw{d}(hr:r<4)(hd:d<256):(d+1)*2^(8*r)≤4294967296:=by
 have h1:=zBz hr;have h2:(d+1)*_≤256*_:=dE O1 h1;omega
theorem Bd.rev(h:Bd b l):Bd b l.reverse:=fun d hd=>h d O6
def NS(st:ByteArray)(x:Nat):Prop:=∃br:List Nat,st=bs br∧Bd 256 br∧br.length≤10000000000000∧x=val 256 br.reverse
theorem NS.aB4{x}(hl:(jY 256 x).length≤10000000000000):NS (ki x) x:=
 ⟨_,JV x,Bd.rev (vQ O2 x),O6,by rw[mX,yX O2]⟩
theorem jYb{br x}(hb:Bd 256 br)(hn:br.length=n)(hx:x=val 256 br.reverse)(hi:i<n)(h2:n-1-i<br.length):br[n-1-i]=x/256^i%256:=by
 have h:=wP (Bd.rev hb);have h3:=OM 256 n x i hi;grind
theorem Ms(st:ByteArray)(x:Nat)(w:World)(xy:NS st x):
  Rt 74 [.string st] w (fun v w'=>∃s' c',v= .slice s' (dN x).length c'∧DA w' x s' c'∧ax [] w w'):=by
 obtain⟨br,rfl,yg,hl,yh⟩:=xy;obtain⟨n,ya⟩:∃n,br.length=n:=⟨_,O⟩;have hx:x<256^n:=by
  rw[yh,←ya,←sZ];exact kK (Bd.rev yg)
 have x5:∀{i:Nat},i<n→∀(h2:_<_),_=_:=jYb yg ya yh
 rw[ya] at hl;clear yh;obtain⟨m,hm⟩:∃m,m=(n+3)/4:=⟨_,O⟩;refine tW func74 ntmps74 fun hp=>?_;refine AP ?_;refine qR ?_;refine jM (ke (PO O O) (qF (by rw[ya])) ?_);refine tN (n+3) ?_;refine ke (Gr O O O2) (qF (b:=m) (by rw[hm];exact I8 4 O1)) (tF (yE eW 0 hp O O O O O O O O1 O) fun w2 g⟨hv,hp⟩=>?_);refine jM ?_;refine qR ?_;refine jM (ke (PO O O) (qF (by rw[ya])) ?_);refine qA (kT ([4]++List.range' 12 23) (fun(i:Nat) _z F=>F.put 12 (.int _ i))
  (fun i z w'=>i≤n∧z.length=m∧Bd 4294967296 z∧val 4294967296 z=x%256^i∧kg _ m z∧Hp w [] w' [qG eW 208 1 _ m z])
  (fun i _=>n-i) 0 _ (qB (ka.eq .refl) O) ⟨O1,O4,wS O2 _,by simp[PI,nI],hv,hp⟩ ?_)
 clear hp hv;rintro u i z w3 ⟨hi,x1,x2,x0,hv,hp⟩;refine tI (fun h2=>?_) fun h2=>?_
 ·have ha:i<n:=O1;have x6:i/4<m:=O1;have xz:i/4<z.length:=O1;have hr:i%4<4:=O1;have yf:n-1-i<br.length:=O1;have x3:=zS hp 0 O hv (fun _=>O) (aA xz) 0 _ O;have x7:=jCb (b:=4294967296) xz;have yd:=x2.get xz;have hT:=fun d=>Kh 4294967296 z _ d xz
  have hd:=x5 ha yf;have yi:=yg.get yf;generalize hq:z[i/4]=old at x3 x7 yd hT;generalize ye:br[n-1-i]=dd at hd yi;have hold:=by
   have h1:val 4294967296 z<256^i:=by rw[x0];exact dY _ (gU O2)
   rw[RN] at h1;exact XE (bW x7 h1)
  have yc:=jHw hr yi;have x8:dd*2^(8*(i%4))<4294967296:=by
   rw[eL] at yc;omega
  have x4:old+dd*2^(8*(i%4))<4294967296:=by
   rw[eL] at yc;omega
  refine qA ?_;refine jU jG O3 (fun w'=>Hp w [] w' _) hp.U ?_;have hp:=hp.U;refine qX ?_;refine kp O (fun w hp=>Gr O O O2) (qF (I8 4 O1)) (tP (fun w hp=>zA O O O O x6) ?_);refine kp O (fun w hp=>qS O O (zS hp 0 O hv (fun _=>O) (aA _) 0 _ O)) (qF (by rw[hq])) (tP (fun w hp=>qP) ?_);refine tP (fun w hp=>qP) (kp O (fun w hp=>PO O O) (qF (by rw[ya])) ?_);refine tN (n-1) ?_;refine qX ?_;refine tN (n-1-i) (kp O (fun w hp=>NZ O O O yg _) (qF (by rw[ye])) ?_);refine kp O (fun w hp=>vB O O O) (qF (b:=dd) O1) (qX ?_);refine kp O (fun w hp=>GX O O O2) (qF (L9 i 4)) (tN (8*(i%4)) ?_);refine kp O (fun w hp=>S6 O O O1) (qF O1) (kp O (fun w hp=>SA O O yd x8) (qF (by rw[I0 hold])) ?_);refine tP (fun w hp=>zA O O O O x6) ?_;apply xH;rfl;rfl;exact zL eW z _ _ hp 0 O hv xz O O (fun _=>O) O O (qD O);rintro _ w4 ⟨rfl,hp⟩;refine qU (tB ?_);refine qA ?_;refine⟨i+1,_,qB O5 O,⟨O1,?_,x2.set x4,?_,hv.set _ _,hp⟩,O1⟩
  ·grind
  have h1:=hT (old+dd*2^(8*(i%4)));rw[iJ,x0] at h1;rw[yV,←hd];have h3:256^i*dd=4294967296^(i/4)*(dd*2^(8*(i%4))):=by rw[RN];ac_rfl
  omega
 obtain rfl:i=n:=O1;rw[aZ hx] at x0;exact mBi
theorem GC(x w)(hl:(jY 256 x).length≤10000000000000):
  Rt 74 [.string (ki x)] w (fun v w'=>∃s' c',v= .slice s' (dN x).length c'∧DA w' x s' c'∧ax [] w w'):=Ms _ x w (NS.aB4 hl)
def eB(d:Nat):List Value:=[.int .u8 (d:Int)]
theorem Th(b m):∀n,dg b n (m+1)=dg b n m++[n/b^m%b]:=by
 induction m with
 |zero=>simp[dg]
 |succ m ih=>
  intro n;rw[dg,ih,fN,dU,dC];rfl
theorem ZJ{d:Nat}(h:k<l.length):(l.set k d).drop k=d::l.drop (k+1):=by
 rw[aT O6,pC O1];simp
theorem jLh(x i):x/4294967296^(i/4)%4294967296/2^(8*(i%4))%256=x/256^i%256:=by
 have e:4294967296=2^(8*(i%4))*2^(8*(4-i%4)):=by
  rw[←eK,show 8*(i%4)+8*(4-i%4)=32 from by omega]
 have h1:x/4294967296^(i/4)%4294967296/2^(8*(i%4))=x/4294967296^(i/4)/2^(8*(i%4))%2^(8*(4-i%4)):=by
  conv=>lhs;arg 1;arg 2;rw[e]
  exact XH _ _ _
 have h2:256∣2^(8*(4-i%4)):=by
  rw[show(256:Nat)=2^8 from O];exact Nat.pow_dvd_pow 2 O1
 rw[h1,Nat.mod_mod_of_dvd _ h2,fN,←RN]
section
variable{L:List kr}{pos:String}{x:Operand}
theorem qKn{z}(hp:Hp w0 M w L)(ht:CQ t=some (5,1))(yj:GV t'=true)(hx:ev n F x= .slice (Ad b) m c)(hl:z.length=m)(hi:L[0]? =some (qG eB 5 1 (Ad b) c z))(hv:kg (Ad b) c z):
  PV prog n w F ⟨d,.convert t t' x,ty,pos,aft,g⟩ (.string (bs z)):=by
 rw[←qN8];refine RO (zK ht).1 (Pz O) (wV yj) hx O6 ?_;intro j v hj;simp only[iU,bH,Option.map_eq_some_iff] at hj;obtain⟨q,hq,rfl⟩:=hj;have:=zS hp 0 hi hv (fun _=>O) hq 0 _ O;grind
end
theorem Ju(x:Nat)(s:Option Addr)(c:Nat)(w:World)(hd:DA w x s c)(hl:(dN x).length≤10000000000000):
  Rk 64 [.slice s (dN x).length c] w (.string (ki x)):=by
 have hx:=CU (aS (dN x).length);obtain⟨m,hm⟩:∃m,m=4*(dN x).length:=⟨_,O⟩;have yo:x<256^m:=by
  rw[hm,lG];exact hx
 refine tW func64 ntmps64 fun hp=>?_;refine tM m ?_;refine tF (yE eB 0 hp O O O O O O O O1 O) fun w2 g⟨hv,hp⟩=>qA (kT ([4]++List.range' 11 21) (fun(i:Nat) _z F=>F.put 11 (.int _ i))
  (fun i z w'=>i≤m∧z.length=m∧Bd 256 z∧z.drop (m-i)=(dg 256 x i).reverse∧kg _ m z∧Hp w [] w' [qG eB 5 1 _ m z])
  (fun i _=>m-i) 0 _ (qB (ka.eq .refl) O) ⟨O1,O4,wS O2 _,by simp[dg],hv,hp⟩ ?_)
 clear hp hv;rintro u i z w3 ⟨hi,x1,x2,x0,hv,hp⟩;refine tI (fun h2=>?_) fun h2=>?_
 ·have hq:i/4<(dN x).length:=O1;have hk:m-1-i<m:=O1;have yn:m-1-i<z.length:=O1;have⟨b0,o0,hs0,yk⟩:=hd.at_.base O1;have yl:=yk _ _ (aA hq) 0 _ O;have hg:=EE hq;generalize (dN x)[i/4]=dx at yl hg;have x5:=jLh x i;rw[←hg] at x5;refine tM (m-1) ?_;refine tM (m-1-i) ?_;refine qA ?_;refine ke (Gr O O O2) (qF (I8 4 O1)) (qA ?_);refine ke (GX O O O2) (qF (L9 i 4)) (tN (8*(i%4)) ?_);refine tR (xP O O (by show 8*(i%4)≤32;omega)) (ke (kC O O O) (qF (by rw[x5])) ?_);refine qA (tO (zL eB z _ _ hp 0 O hv yn O O (fun _=>O) O O (qD O)) fun w4 hp=>?_);refine Ae ?_;refine⟨i+1,_,qB O5 O,⟨O1,?_,x2.set O1,?_,hv.set _ _,hp⟩,O1⟩
  ·grind
  rw[show m-(i+1)=m-1-i from O1,ZJ yn,Th,lC,←x0,show m-1-i+1=m-i from by omega];rfl
 obtain rfl:i=m:=O1;rw[gZ,Ro] at x0;have yp:z.length≤9223372036854775807:=O1;refine qA (tR (qKn hp O O O x1 O hv) ?_);refine tC (c65 z _ x2 yp) fun w4 hp=>?_;refine qA ?_;refine qM O O ⟨_,O,?_,hp.Z⟩;rw[JV,←qHu yo,x0];rfl
section
theorem Vv{x}(h:x<2^k)(hk:k≤10000000000000):(dN x).length≤10000000000000:=
 bF (Vs (dK h (uX O2 k))) hk
def Fit(x:Nat):Prop:=∃k,k≤1000000000000∧x<2^k
theorem Fit.of{x}(h:x<2^k)(hk:k≤1000000000000):Fit x:=⟨k,hk,h⟩
theorem Fit.le{x y}(h:Fit y)(hk:x≤y):Fit x:=by
 have⟨k,h1,h2⟩:=h;exact⟨k,h1,O1⟩
theorem Fit.d32{x}(h:Fit x):(dN x).length≤10000000000000:=by
 have⟨k,h1,h2⟩:=h;exact Vv h2 O1
theorem Fit.d8{x}(h:Fit x):(jY 256 x).length≤10000000000000:=by
 have⟨k,h1,h2⟩:=h;exact(bF (PN O2 (dK h2 (uX O2 k))) O1)
theorem Fit.add{x y}(hx:Fit x)(hy:Fit y):(dN (x+y)).length≤10000000000000:=by
 have⟨k,h1,h2⟩:=hx;have⟨q,h3,h4⟩:=hy;refine Vv (k:=max k q+1) ?_ O1;have h5:2^k≤2^max k q:=bG O2 O1;have h6:2^q≤2^max k q:=bG O2 O1;omega
theorem Fit.mul{x y}(hx:Fit x)(hy:Fit y):(dN (x*y)).length≤10000000000000:=by
 have⟨k,h1,h2⟩:=hx;have⟨q,h3,h4⟩:=hy;refine Vv (k:=k+q) ?_ O1;rw[eK];exact oQ h2 h4
theorem Fit.small{x}(h:x<18446744073709551616):Fit x:=Fit.of (k:=64) O1 O2
attribute [local irreducible] Fit
theorem Aw(a w)(h2:a≤9223372036854775807):Rk 18 [Iv a] w (.string (ki a.toNat)):=by
 refine tW func18 ntmps18 fun hp=>?_;refine tI (fun h=>?_) fun h=>?_
 ·refine qA ?_;refine qM O O ⟨_,O,?_,hp.Z⟩;rw[show a.toNat=0 from by omega];rfl
 obtain⟨x,rfl⟩:∃x:Nat,a=x:=⟨a.toNat,O1⟩;have hx:x<18446744073709551616:=O1;refine qR ?_;refine jM (ke (zX O O O) (qF (wU hx)) ?_);refine tK (QD x _ hx) ?_;rintro _ w1 ⟨s,c,rfl,hd,hk⟩;have hp:=hp.V hk;refine tC (Ju x s c _ hd (Fit.small hx).d32) fun w2 hp=>?_;exact nj
theorem NS.self{x}(h:Fit x):NS (ki x) x:=NS.aB4 h.d8
theorem Xw(sx sy x y w)(hx:NS sx x)(hy:NS sy y):Rk 21 [.string sx,.string sy] w (Iv (if x<y then-1 else if x=y then 0 else 1)):=by
 refine tW func21 ntmps21 fun hp=>?_;refine tL (Ms sx x _ hx) ?_;rintro _ w1 ⟨s,c,rfl,hd,hk⟩;have hp:=hp.V hk;refine tL (Ms sy y _ hy) ?_;rintro _ w2 ⟨s2,c2,rfl,yq,hk⟩;have hp:=hp.V hk;have hd:=hd.j1 hk;refine tD (K3 x y s s2 c c2 _ hd yq) fun w3 hp=>?_;exact nj
theorem BY(x y w)(hx:Fit x)(hy:Fit y):Rk 21 [.string (ki x),.string (ki y)] w (Iv (if x<y then-1 else if x=y then 0 else 1)):=Xw _ _ x y w (NS.self hx) (NS.self hy)
theorem Eh(x y w)(hx:Fit x)(hy:Fit y):Rk 48 [.string (ki x),.string (ki y)] w (.string (ki (x+y))):=by
 refine tW func48 ntmps48 fun hp=>?_;refine tL (GC x _ hx.d8) ?_;rintro _ w1 ⟨s,c,rfl,hd,hk⟩;have hp:=hp.V hk;refine tL (GC y _ hy.d8) ?_;rintro _ w2 ⟨s2,c2,rfl,yq,hk⟩;have hp:=hp.V hk;have hd:=hd.j1 hk;refine tL (c44 x y s s2 c c2 _ hd yq hx.d32 hy.d32) ?_;rintro _ w3 ⟨s3,c3,rfl,yr,hk⟩;have hp:=hp.V hk;refine tD (Ju _ s3 c3 _ yr (hx.add hy)) fun w4 hp=>?_;exact nj
theorem Bc(x y w)(hx:Fit x)(hy:Fit y):Rk 81 [.string (ki x),.string (ki y)] w (.string (ki (x*y))):=by
 refine tW func81 ntmps81 fun hp=>?_;refine tL (GC x _ hx.d8) ?_;rintro _ w1 ⟨s,c,rfl,hd,hk⟩;have hp:=hp.V hk;refine tL (GC y _ hy.d8) ?_;rintro _ w2 ⟨s2,c2,rfl,yq,hk⟩;have hp:=hp.V hk;have hd:=hd.j1 hk;refine tL (c46 x y s s2 c c2 _ hd yq hx.d32 hy.d32) ?_;rintro _ w3 ⟨s3,c3,rfl,yr,hk⟩;have hp:=hp.V hk;refine tD (Ju _ s3 c3 _ yr (hx.mul hy)) fun w4 hp=>?_;exact nj
theorem Xx(sx sy x y w)(yt:NS sx x)(yu:NS sy y)(hx:Fit x)(_hy:Fit y):Rk 107 [.string sx,.string sy] w (.tuple #[.string (ki (x-y)),.bool (decide (y≤x))]):=by
 refine tW func107 ntmps107 fun hp=>?_;refine tL (Ms sx x _ yt) ?_;rintro _ w1 ⟨s,c,rfl,hd,hk⟩;have hp:=hp.V hk;refine tL (Ms sy y _ yu) ?_;rintro _ w2 ⟨s2,c2,rfl,yq,hk⟩;have hp:=hp.V hk;have hd:=hd.j1 hk;refine tL (K3 x y s s2 c c2 _ hd yq) ?_;rintro _ w3 ⟨rfl,hk⟩;have hp:=hp.V hk;have hd:=hd.j1 hk;have yq:=yq.j1 hk;refine tI (fun h=>?_) fun h=>?_
 ·refine qA ?_;refine xU O O O ⟨_,O,?_,hp.Z⟩;rw[show x-y=0 from O1,aB (show¬y≤x by omega)];rfl
 have ys:y≤x:=by
  split at h
  ·omega
  omega
 refine tL (c72 x y s s2 c c2 _ hd yq hx.d32 ys) ?_;rintro _ w4 ⟨s3,c3,rfl,yr,hk⟩;have hp:=hp.V hk;refine tD (Ju _ s3 c3 _ yr (hx.le O1).d32) fun w5 hp=>?_;refine qA ?_;refine xU O O O ⟨_,O,?_,hp.Z⟩;rw[aD ys];rfl
theorem MD(x y w)(hx:Fit x)(hy:Fit y):Rk 107 [.string (ki x),.string (ki y)] w (.tuple #[.string (ki (x-y)),.bool (decide (y≤x))]):=Xx _ _ x y w (NS.self hx) (NS.self hy) hx hy
end
theorem jDh{x d}(hd:0<d)(hr:r=x/b^(j+1)%d):(r*b+x/b^j%b)/d+b*(x/b^(j+1)/d)=x/b^j/d∧(r*b+x/b^j%b)%d=x/b^j%d:=by
 have h1:=Mg b x j;generalize x/b^(j+1)=y at*
 generalize x/b^j%b=e at*
 have h2:x/b^j=(r*b+e)+d*(b*(y/d)):=by
  rw[h1,hr];have:=iT y d;have h3:b*y=b*(d*(y/d)+y%d):=by rw[this]
  rw[h3,iJ,dC (y%d) b,←gO,←gO,dC b d];omega
 rw[h2,oD _ _ hd,lK];omega
theorem jJj{e d:Nat}(hr:r<d)(he:e<b):(r*b+e)/d<b:=by
 rw[eO O1];have:(r+1)*b≤d*b:=aL b hr;grind
theorem jD2{e}(hr:r<q)(hq:q<4294967296)(he:e<4294967296):r*4294967296+e<18446744073709551616:=O1
section
variable{pos:String}{x:Operand}
theorem S3(hx:ev n F x= .int .u64 (a:Int))(hy:ev n F y= .int .u64 (b:Int))(hb:0<b)(ha:a<18446744073709551616):PV prog n w F ⟨d,.binOp .quo t x y t',ty,pos,aft,g⟩ (.int .u64 ((a/b:Nat):Int)):=by
 have h:=Gr (P:=prog) (w:=w) (d:=d) (ty:=ty) (pos:=pos) (aft:=aft) (g:=g) (t:=t) (t':=t') hx hy O1;rwa[XI O1,←Int.natCast_ediv,wU (bW (iH a b) ha)] at h
theorem S4(hx:ev n F x= .int .u64 (a:Int))(hy:ev n F y= .int .u64 (b:Int))(hb:0<b):PV prog n w F ⟨d,.binOp .rem t x y t',ty,pos,aft,g⟩ (.int .u64 ((a%b:Nat):Int)):=mCf
end
theorem c74(x q:Nat)(s:Option Addr)(c:Nat)(w:World)(hx:DA w x s c)(hl:(dN x).length≤10000000000000)(hq:0<q)(yv:q<4294967296):
  Rt 192 [.slice s (dN x).length c,.int .u32 (q:Int)] w (fun v w'=>∃s' c',v= .tuple #[.slice s' (dN (x/q)).length c',.int .u32 ((x%q:Nat):Int)]∧DA w' (x/q) s' c'∧ax [] w w'):=by
 refine tW func192 ntmps192 fun hp=>?_;refine qA ?_;refine tF (yE eW 0 hp O O O O O O O O1 O) fun w2 g⟨hv,hp⟩=>tB ?_;refine qA ?_;refine kS ([7,8]++List.range' 15 24) (fun(k r:Nat) _z F=>(F.put 8 (.int _ (k-1))).put 7 (.int _ r))
  (fun k r z w'=>k≤(dN x).length∧z.length=(dN x).length∧Bd 4294967296 z∧r=x/4294967296^k%q∧val 4294967296 (z.drop k)=x/4294967296^k/q∧kg _ _ z∧Hp w [] w' [qG eW 208 1 _ _ z])
  (fun k _ _=>k) _ 0 _ (qB (qB (ka.eq .refl) O) O) ⟨O1,O4,wS O2 _,?_,?_,hv,hp⟩ ?_
 ·rw[iB (CU O1),yY]
 ·rw[iB (CU O1),Nat.zero_div,List.drop_of_length_le O4];rfl
 clear hp hv;rintro u k r z w3 ⟨hi,x1,x2,hr,x0,hv,hp⟩;refine tI (fun h2=>?_) fun h2=>?_
 ·obtain⟨j,rfl⟩:∃j,k=j+1:=⟨k-1,O1⟩;have ha:j<(dN x).length:=O1;have xz:j<z.length:=O1;have yx:r<q:=by rw[hr];exact dY _ hq
  have⟨b0,o0,hs0,yk⟩:=hx.at_.base O1;have yl:=yk j _ (aA ha) 0 _ O;have h3:=(HK x).get ha;have hg:=EE ha;generalize (dN x)[j]=dx at yl h3 hg;have⟨hh,h4⟩:=jDh hq hr;rw[←hg] at hh h4;have yw:=jJj yx h3;have x8:r*2^32<18446744073709551616:=by
   have h:=jD2 (e:=0) yx yv O2;rw[fY] at h;rw[show(2:Nat)^32=4294967296 from by decide];exact h
  have yz:=jD2 yx yv h3;have yy:dx<18446744073709551616:=O1;have ej:(j+1:Nat)-1=(j:Int):=O1;rw[ej];refine qA (tR (H3 (b:=32) O O O2 x8) ?_);refine qA (ke (Ke O O x8 yy) (qF (b:=(r*4294967296+dx:Nat)) (by rw[rU,I0 h3,oT])) ?_);refine qA (tR (S3 O O hq yz) ?_);refine ke (vB O O O) (qF (by rw[aZ yw])) (qA ?_);refine tO (zL eW z j _ hp 0 O hv xz O O (fun _=>O) O O (qD O)) fun w4 hp=>qA (tR (S4 O O hq) ?_);refine Ae ?_;refine⟨j,_,_,qB O5 O,⟨O1,?_,x2.set yw,h4,?_,hv.set _ _,hp⟩,O1⟩
  ·grind
  rw[ZJ xz,val,x0];omega
 obtain rfl:k=0:=O1;rw[Nw,Nat.div_one] at hr x0;have yx:r<q:=by rw[hr];exact dY _ hq
 refine qA ?_;refine AB (qC O Py (by rw[x1];rfl) (JN hp hv (by unfold maxLen;omega) x2 x0)) fun w2 s' c'⟨hd,hk⟩=>qA ?_;refine xU (v:=.slice s' _ c') (v':=.int _ (r%4294967296:Nat)) O O O ⟨_,O,s',c',?_,hd,hk⟩;grind
def Eg:ByteArray:=⟨#[0,1,2,2,3,3,3,3,4,4,4,4,4,4,4,4,5,5,5,5,5,5,5,5,5,5,5,5,5,5,5,5,6,6,6,6,6,6,6,6,6,6,6,6,6,6,6,6,6,6,6,6,6,6,6,6,6,6,6,6,6,6,6,6,7,7,7,7,7,7,7,7,7,7,7,7,7,7,7,7,7,7,7,7,7,7,7,7,7,7,7,7,7,7,7,7,7,7,7,7,7,7,7,7,7,7,7,7,7,7,7,7,7,7,7,7,7,7,7,7,7,7,7,7,7,7,7,7,8,8,8,8,8,8,8,8,8,8,8,8,8,8,8,8,8,8,8,8,8,8,8,8,8,8,8,8,8,8,8,8,8,8,8,8,8,8,8,8,8,8,8,8,8,8,8,8,8,8,8,8,8,8,8,8,8,8,8,8,8,8,8,8,8,8,8,8,8,8,8,8,8,8,8,8,8,8,8,8,8,8,8,8,8,8,8,8,8,8,8,8,8,8,8,8,8,8,8,8,8,8,8,8,8,8,8,8,8,8,8,8,8,8,8,8,8,8,8,8,8,8,8,8,8,8,8,8]⟩
theorem jKl:∀i:Fin 256,i.val≠0→∃t:Fin 9,CK Eg i.val=(t.val:Int)∧0<t.val∧2^(t.val-1)≤i.val∧i.val<2^t.val:=by decide+kernel
theorem jKm(h:i<256)(h0:i≠0):∃t:Nat,CK Eg i=(t:Int)∧0<t∧t≤8∧2^(t-1)≤i∧i<2^t:=by
 have⟨t,h1,h2,h3,h4⟩:=jKl ⟨i,h⟩ h0;grind
theorem qOw:Eg.size=256:=by decide+kernel
theorem jB6{x x'}(h:x'=x/2^n)(h1:2^(t-1)≤x')(h2:x'<2^t)(ht:0<t):2^(n+t-1)≤x∧x<2^(n+t):=by
 have hp:0<2^n:=gU O2;subst h;constructor
 ·have:=(nV hp).1 h1;rwa[←eK,show t-1+n=n+t-1 from by omega] at this
 have:=(eO hp).1 h2;grind
theorem c90(x:Nat)(w:World)(h0:0<x)(hx:x<4294967296):
  Rt 329 [.int .u32 (x:Int)] w (fun v w'=>∃t:Nat,v=Iv (t:Int)∧0<t∧t≤32∧2^(t-1)≤x∧x<2^t∧ax [] w w'):=by
 refine tW func329 ntmps329 fun hp=>?_;refine qA (EV (fun F w1=>∃x' n:Nat,x'=x/2^n∧0<x'∧x'<65536∧n≤16∧Hp w [] w1 []∧CH F [(0,.int .u32 x'),(2,Iv n)]) ?_ ?_)
 ·refine qH O (fun h=>?_) (fun h=>?_)
  ·refine qA ?_;refine ke (xP O O O2) (qF (b:=(x/65536:Nat)) O) (qA ?_);exact⟨_,16,O,O1,O1,O1,hp,O,O,trivial⟩
  refine qA ?_;exact⟨x,0,O4,h0,O1,O1,hp,O,O,trivial⟩
 clear hp;rintro F w1 ⟨x1,n1,e1,za,y2,y0,hp,hF⟩;refine yL _ hF ?_;intro F0;clear hF;refine qA (EV (fun F w1=>∃x' n:Nat,x'=x/2^n∧0<x'∧x'<256∧n≤24∧Hp w [] w1 []∧CH F [(0,.int .u32 x'),(2,Iv n)]) ?_ ?_)
 ·refine qH O (fun h=>?_) (fun h=>?_)
  ·refine qA ?_;refine ke (xP O O O2) (qF (b:=(x1/256:Nat)) O) (tM (n1+8) ?_);refine qA ?_;refine⟨_,_,?_,O1,O1,O1,hp,O,O,trivial⟩;rw[e1,eK,←fN]
  refine qA ?_;exact⟨x1,n1,e1,za,O1,O1,hp,O,O,trivial⟩
 rintro F w1 ⟨x1,n1,e1,za,y2,y0,hp,hF⟩;refine yL _ hF ?_;intro F0;have⟨t,ht,zb,zc,hl,hu⟩:=jKm y2 O1;refine Cj ?_;refine ke (kC O O O) (qF (b:=x1) O1) (ke (zY (s:=Eg) O O O (by rw[qOw];omega)) (qF ht) ?_);refine ke (zX O O O) (qF (qK O1 O1)) (tN (n1+t) ?_);refine qA ?_;have⟨q1,q2⟩:=jB6 e1 hl hu zb;exact qM O O ⟨_,O,_,O,O1,O1,q1,q2,hp.Z⟩
theorem c75(x:Nat)(w:World)(h0:0<x)(hx:x<4294967296):
  Rt 249 [.int .u32 (x:Int)] w (fun v w'=>∃s:Nat,v=Iv (s:Int)∧s≤31∧2147483648≤x*2^s∧x*2^s<4294967296∧ax [] w w'):=by
 refine tW func249 ntmps249 fun hp=>?_;refine tL (c90 x _ h0 hx) ?_;rintro _ w1 ⟨t,rfl,zb,ht,hl,hu,hk⟩;have hp:=hp.V hk;refine tN (32-t) ?_;refine qA ?_;refine qM O O ⟨_,O,_,O,O1,?_,?_,hp.Z⟩
 ·have:=aL (2^(32-t)) hl;rwa[←eK,show t-1+(32-t)=31 from by omega] at this
 have:=(oF (gU (n:=32-t) (by decide:0<2))).2 hu;rwa[←eK,show t+(32-t)=32 from by omega] at this
attribute [local irreducible] Fit
variable{T:Nat}
theorem jAk{s e}(hs:s≤31):∃q,e*2^s%4294967296=q*2^s∧q<2^(32-s):=by
 refine⟨e%2^(32-s),?_,O1⟩;have e1:4294967296=2^(32-s)*2^s:=by rw[←eK,show 32-s+s=32 from by omega]
 rw[e1,Nat.mul_mod_mul_right]
theorem jJ9{s e}(hs:s≤31)(he:e<4294967296):e*2^s<9223372036854775808:=by
 have h1:2^s≤_:=bG O2 hs;have h2:e*2^s≤4294967295*_:=dE O1 h1;omega
theorem jJ8{s old}(hs:s≤31)(hq:q<2^(32-s))(ho:old<2^s):old+q*2^s<4294967296:=by
 have h1:(q+1)*2^s≤_:=aL _ hq;rw[←eK,show 32-s+s=32 from O1,eL] at h1;omega
theorem jD1{V V1 V2 x s old}(h:V=x%b^i*2^s)(hT:q+b*(T/b)=T)(hx:T=x/b^i%b*2^s)(h1:V1+b^i*old=V+b^i*(old+q))(h2:V2+b^(i+1)*0=V1+b^(i+1)*(T/b)):V2=x%b^(i+1)*2^s:=by
 rw[yV,eL];grind
theorem c76(x k:Nat)(s:Option Addr)(c:Nat)(w:World)(hx:DA w x s c)(hl:(dN x).length≤10000000000000)(hk:k≤31):
  Rt 250 [.slice s (dN x).length c,Iv (k:Int)] w (fun v w'=>∃g,v= .slice (Ad g) ((dN x).length+1) ((dN x).length+1)∧kg (Ad g) ((dN x).length+1) (dg 4294967296 (x*2^k) ((dN x).length+1))∧Hp w [] w' [qG eW 208 1 (Ad g) ((dN x).length+1) (dg 4294967296 (x*2^k) ((dN x).length+1))]):=by
 have dr:(dN x).length<(dN x).length+1:=O1;refine tW func250 ntmps250 fun hp=>?_;refine tM ((dN x).length+1) ?_;refine tF (yE eW 0 hp O O O O O O O O1 O) fun w2 g⟨hv,hp⟩=>qA (kT ([6,7,8]++List.range' 15 25) (fun(i:Nat) _z F=>F.put 15 (.int _ i))
  (fun i z w'=>i≤(dN x).length∧z.length=(dN x).length+1∧Bd 4294967296 z∧val 4294967296 z=x%4294967296^i*2^k∧kg _ _ z∧Hp w [] w' [qG eW 208 1 _ _ z])
  (fun i _=>(dN x).length-i) 0 _ (qB (ka.eq .refl) O) ⟨O1,O4,wS O2 _,by simp[PI,nI],hv,hp⟩ ?_)
 clear hp hv;rintro u i z w3 ⟨hi,x1,x2,x0,hv,hp⟩;refine tI (fun h2=>?_) fun h2=>?_
 ·have ha:i<(dN x).length:=O1;have dv:i<(dN x).length+1:=O1;have tv:i+1<(dN x).length+1:=O1;have xz:i<z.length:=O1;have dz:i+1<z.length:=O1;have dS:val 4294967296 z<4294967296^i*2^k:=by
   rw[x0];exact(oF (gU O2)).2 (dY _ (gU O2))
  have hold:=XE (bW (jCb xz) dS);have xb:=by
   refine qSn (b:=4294967296) O2 (k:=i+1) (dK dS ?_) dz (aS _);rw[dU];exact dJ _ (bF (bG O2 hk) O2)
  have⟨b0,o0,hs0,yk⟩:=hx.at_.base O1;have yl:=yk i _ (aA ha) 0 _ O;have h3:=(HK x).get ha;have hg:=EE ha;generalize (dN x)[i]=dx at yl h3 hg;have x3:=zS hp 0 O hv (fun _=>O) (aA xz) 0 _ O;have yd:=x2.get xz;have hh:=fun d=>Kh 4294967296 z i d xz
  generalize z[i]=old at x3 yd hh hold;have⟨q,hq,yv⟩:=jAk (e:=dx) hk;have hT:=jJ9 hk h3;have dt:=jJ8 hk yv hold;have x8:dx*2^k<18446744073709551616:=O1;have dw:dx*2^k/4294967296<4294967296:=by
   generalize dx*2^k=T at hT;omega
  refine qA (tR (H3 O O O1 x8) ?_);refine qA ?_;refine ke (SA O O yd O1) (qF (by rw[hq,I0 hold])) (qA ?_);refine tO (zL eW z i _ hp 0 O hv xz O O (fun _=>O) O O (qD O)) fun w4 hp=>?_;have hv:=hv.set i (old+q*2^k);have ec:(z.set i (old+q*2^k)).length=(dN x).length+1:=by rw[fW,x1]
  have eb:i+1<(z.set i (old+q*2^k)).length:=O1;have dy:=fun d=>Kh 4294967296 _ _ d eb
  have dq:(z.set i _)[i+1]=0:=by
   rw[List.getElem_set_ne O1];exact xb
  rw[dq] at dy;refine Ck ?_;refine ke (xP O O O2) (qF (b:=(dx*2^k/4294967296:Nat)) O) (ke (vB O O O) (qF (by rw[aZ dw])) ?_);refine qA (tO (zL eW _ _ _ hp 0 O hv eb O O (fun _=>O) O O (qD O)) fun w5 hp=>?_);refine Ae ?_;refine⟨i+1,_,qB O5 O,⟨O1,?_,(x2.set dt).set dw,?_,hv.set _ _,hp⟩,O1⟩
  ·grind
  refine jD1 x0 ?_ (by rw[hg]) (hh _) (dy _);omega
 rw[aZ (CU O1)] at x0;have hz:z=dg 4294967296 (x*2^k) ((dN x).length+1):=by rw[←x0,←x1];exact wP x2
 subst hz;exact Us
theorem HN(h:Bd b l){i}(hi:i<l.length):l[i]=val b l/b^i%b:=by
 have h1:=OM b _ (val b l) i hi;rw[←wP h,aA hi] at h1;grind
theorem jAj{V}(hk:k≤31):(V/4294967296^i%4294967296+V/4294967296^(i+1)%4294967296*2^32)/2^k%4294967296=V/2^k/4294967296^i%4294967296:=by
 have h1:V/4294967296^i%4294967296+V/4294967296^(i+1)%4294967296*2^32=V/4294967296^i%(4294967296*4294967296):=by
  rw[Nat.mod_mul,dU,←fN,dC (_%_) (2^32)]
 have e:4294967296*4294967296=2^k*(2^(32-k)*4294967296):=by
  rw[←gO,←eK,show k+(32-k)=32 from by omega]
 rw[h1,e,XH,Nat.mod_mul_left_mod,fN,fN,dC]
theorem qZa(z:List Nat)(h:z.take i=dg b n i)(hi:i<z.length):(z.set i (n/b^i%b)).take (i+1)=dg b n (i+1):=by
 rw[take_set hi,h,Th]
theorem c80(l:List Nat)(k:Nat)(s:Option Addr)(c:Nat)(w:World)(hs:ig w 1 eW s l)(hb:Bd 4294967296 l)(hl:l.length≤10000000000000)(hk:k≤31):
  Rt 254 [.slice s l.length c,Iv (k:Int)] w (fun v w'=>∃g,v= .slice (Ad g) l.length l.length∧kg (Ad g) l.length (dg 4294967296 (val 4294967296 l/2^k) l.length)∧Hp w [] w' [qG eW 208 1 (Ad g) l.length (dg 4294967296 (val 4294967296 l/2^k) l.length)]):=by
 refine tW func254 ntmps254 fun hp=>?_;refine qA ?_;refine tF (yE eW 0 hp O O O O O O O O1 O) fun w2 g⟨hv,hp⟩=>qA (kT ([6,7]++List.range' 13 30) (fun(i:Nat) _z F=>F.put 13 (.int _ i))
  (fun i z w'=>i≤l.length∧z.length=l.length∧z.take i=dg 4294967296 (val 4294967296 l/2^k) i∧kg _ _ z∧Hp w [] w' [qG eW 208 1 _ _ z])
  (fun i _=>l.length-i) 0 _ (qB (ka.eq .refl) O) ⟨O1,O4,O,hv,hp⟩ ?_)
 clear hp hv;rintro u i z w3 ⟨hi,x1,x0,hv,hp⟩;refine tI (fun h2=>?_) fun h2=>?_
 ·have ha:i<l.length:=O1;have xz:i<z.length:=O1;obtain⟨b0,o0,hs0,yk⟩:=hs.base O1;have yl:=yk i _ (aA ha) 0 _ O;have hh:=hb.get ha;have hg:=HN hb ha;generalize l[i]=dx at yl hh hg;have ej:=jAj (V:=val 4294967296 l) (i:=i) hk;rw[←hg] at ej;have el:dx<2^32:=hh;have yy:dx<18446744073709551616:=O1;refine tM (i+1) ?_;refine tI (fun h3=>?_) fun h3=>?_
  ·have tv:i+1<l.length:=O1;have eg:=yk _ _ (aA tv) 0 _ O;have ek:=hb.get tv;have ee:=HN hb tv;generalize l[i+1]=dy at eg ek ee;rw[←ee] at ej;have x8:dy*2^32<18446744073709551616:=by
    rw[show(2:Nat)^32=4294967296 from by decide];omega
   refine tM (i+1) ?_;refine qA (tR (H3 (b:=32) O O O2 x8) ?_);refine ke (Ke O O yy x8) (qF (by rw[I0 el])) (qA ?_);exact mAv
  have eh:val 4294967296 l/4294967296^(i+1)%4294967296=0:=by
   have h4:=kK hb;rw[show l.length=i+1 from by omega] at h4;rw[iB h4,yY]
  rw[eh,Nat.zero_mul,fY] at ej;refine qA ?_;exact mAv
 obtain rfl:i=l.length:=O1;have hz:z=dg 4294967296 (val 4294967296 l/2^k) l.length:=by rw[←x0,bJ O1]
 subst hz;exact Us
variable{G cy:Nat}
theorem Kf{A m C:List Nat}{d:Nat}(hi:i<m.length):(A++m++C).set (A.length+i) d=A++m.set i d++C:=by
 grind
theorem LP{A m C:List Nat}(hi:i<m.length):(A++m++C)[A.length+i]? =some m[i]:=by
 grind
def Tl(m m0:List Nat)(i:Nat):Prop:=m.drop i=m0.drop i
theorem Tl.get{m m0}(h:Tl m m0 i)(hi:i<m.length)(dx:i<m0.length):m[i]=m0[i]:=by
 unfold Tl at h;rw[aT hi,aT dx] at h;grind
theorem Tl.set{m m0 i d}(h:Tl m m0 i)(hi:i<m.length)(dx:i<m0.length):Tl (m.set i d) m0 (i+1):=by
 unfold Tl at*
 rw[aT hi,aT dx] at h;rw[pC O1];grind
theorem jAc{V u v bo z en bg lo:Nat}(h:V+G*(v%b^i)=u%b^i+(cy+bo)*b^i)(hT:T=cy+G*(v/b^i%b))(si:lo+b*en=T)(hz:z+lo+bo=u/b^i%b+b*bg):
  (V+b^i*z)+G*(v%b^(i+1))=u%b^(i+1)+(en+bg)*b^(i+1):=by
 rw[yV,yV,dU];grind
variable{X Y:Type}
theorem jI8{Q c}{Z T:Type}(S)(H:X→Y→Z→T→Fr→Fr)(I:X→Y→Z→T→World→Prop)(μ:X→Y→Z→T→Nat)(x0 y0 z0 t0)(h0:F=H x0 y0 z0 t0 (Fr.k7 S F F))(hi:I x0 y0 z0 t0 w)
  (round:∀(u:Fr) (x:X) (y:Y) (z:Z) (t:T) (w:World),I x y z t w→WP P n c (D9 (fun F' w'=>∃x' y' z' t',F'=H x' y' z' t' (Fr.k7 S F' F)∧I x' y' z' t' w'∧μ x' y' z' t'<μ x y z t) Q) (H x y z t (Fr.k7 S u F)) w):WP P n (.loop c) Q F w:=by
 refine qQ S (fun x=>H x.1 x.2.1 x.2.2.1 x.2.2.2) (fun x=>I x.1 x.2.1 x.2.2.1 x.2.2.2) (fun x=>μ x.1 x.2.1 x.2.2.1 x.2.2.2) (x0,y0,z0,t0) h0 hi ?_;intro u x w hI;refine L8 (round u _ _ _ _ w hI) ?_;simp
section
variable{L:List kr}{pos:String}{x:Operand}
theorem OZ(enc:α→List Value)(l i)(xv:α){t e gb c off v}(hp:Hp w0 M w L)(j)(hj:L[j]? =some (qG enc e 1 (Ad gb) c l))(eo:kg (Ad gb) c l)(hi:i<l.length)
  (hx:ev n F x= .pointer (some ⟨gb,off,none⟩)) (er:off=i) (hy:ev n F y=v) (hk:∀x,(enc x).length=1) (hv:enc xv=[v]) (h1:kM v=true) (hz:kz P t 1):
  gx P n ⟨d,.store t x y,ty,pos,aft,g⟩ F w (fun u w'=>u=undef∧Hp w0 M w' (L.set j (qG enc e 1 (Ad gb) c (l.set i xv)))):=
 zL _ l i xv hp j hj eo hi O6 hy hk hv h1 hz
theorem S2(hx:ev n F x= .int .u64 (a:Int))(hy:ev n F y= .int .u64 (b:Int))(ha:a<18446744073709551616)(hb:b=2^k-1)(hk:k≤64):PV P n w F ⟨d,.binOp .and t x y t',ty,pos,aft,g⟩ (.int .u64 ((a%2^k:Nat):Int)):=by
 have et:b<18446744073709551616:=by
  have h2:2^k≤2^64:=bG O2 hk;have h3:0<2^k:=gU O2;have h4:(2:Nat)^64=18446744073709551616:=O2;omega
 have h1:(BitVec.ofInt 64 a&&&BitVec.ofInt 64 b).toNat=a%2^k:=by
  rw[rM,kG 64 a ha,kG 64 b et,hb,rN]
 have h3:=wU (bW (JJ a (2^k)) ha);simp only[PV,execOp,hx,hy,eqGuard,binOp,Op.intBits];show Sem.run P (pure (Next.value (Value.int _ (IntKind.u64.wrap ((BitVec.ofInt 64 a&&&BitVec.ofInt 64 b).toNat))))) w=_
 rw[h1,h3];rfl
end
theorem jCf{d}(hc:cy<4294967296)(hG:G≤4294967296)(hd:d<4294967296):cy+G*d<18446744073709551616:=by
 have:G*d≤_*4294967295:=dE hG O1;omega
theorem jCg{V u v bo zn B:Nat}(h:V+G*(v%b^n)=u%b^n+(cy+bo)*b^n)(hv:v<b^n)(hu:u<b^(n+1))(hz:zn+cy+bo=u/b^n%b+b*B):(V+b^n*zn)+G*v=u+B*b^(n+1):=by
 have h1:=yV b u n;rw[aZ hu] at h1;rw[aZ hv] at h;grind
theorem jJp{V v}(hb:0<b)(h:V+cy*b^n=m%b^n+v%b^n)(hV:V<b^n)(hv:v<b^n)(hm:m<b^(n+1)):V+b^n*((m/b^n%b+cy)%b)=(m+v)%b^(n+1):=by
 have h1:=yV b m n;rw[aZ hm] at h1;rw[aZ hv] at h;have e:m+v=V+b^n*(m/b^n%b+cy):=by
  rw[iJ,dC (b^n) cy];omega
 have hp:0<b^n:=O1;rw[e,yV,lK,aZ hV,oD _ _ hp,iB hV,gF]
theorem c78(A m C vl:List Nat)(G g c cu cv:Nat)(sv:Option Addr)(w:World)(o:Obj)(ho:w.heap[g]? =some o)(e3:(qG eW 208 1 (Ad g) c (A++m++C)).2 o)(eo:kg (Ad g) c (A++m++C))
  (hs:ig w 1 eW sv vl) (xr:∀b o,sv=some ⟨b,o,none⟩→b≠g) (ez:Bd 4294967296 m) (e0:Bd 4294967296 vl) (tu:m.length=vl.length+1) (hG:G≤4294967296) (hl:vl.length≤10000000000000):
  Rt 252 [.slice (some ⟨g,0+A.length*1,none⟩) (vl.length+1) cu,.slice sv vl.length cv,.int .u64 (G:Int)] w (fun v w'=>∃z B,v= .bool (decide (((B:Nat):Int)=1))∧B≤1∧z.length=m.length∧Bd 4294967296 z∧val 4294967296 z+G*val 4294967296 vl=val 4294967296 m+B*4294967296^(vl.length+1)∧ax [g] w w'∧∃o,w'.heap[g]? =some o∧(qG eW 208 1 (Ad g) c (A++z++C)).2 o):=by
 have e1:=kK e0;have e4:=kK ez;rw[tu] at e4;refine km.j6 func252 O ntmps252 O ?_;have hp:Hp w [g] w [qG eW 208 1 (some _) c _]:=Hp.k9 Hp.start O4 ho e3 O4;refine qA (jI8 ([7,8,9,10,11]++List.range' 15 31) (fun(i cy bo:Nat) _z F=>((F.put 15 (.int _ i)).put 7 (.int _ cy)).put 8 (.int _ bo))
  (fun i cy bo z w'=>i≤vl.length∧z.length=vl.length+1∧Bd 4294967296 z∧Tl z m i∧cy<4294967296∧bo<2∧val 4294967296 (z.take i)+G*(val 4294967296 vl%4294967296^i)=val 4294967296 m%4294967296^i+(cy+bo)*4294967296^i∧kg _ c (A++z++C)∧Hp w _ w' [qG eW 208 1 _ c (A++z++C)])
  (fun i _ _ _=>vl.length-i) 0 0 0 m (qB (qB (qB (ka.eq .refl) O) O) O) ⟨O1,tu,ez,O,O2,O2,by simp[val,nI],eo,hp⟩ ?_)
 clear hp eo ho e3;rintro u i cy bo z w3 ⟨hi,x1,x2,ew,eu,e8,x0,hv,hp⟩;refine tI (fun h2=>?_) fun h2=>?_
 ·have ha:i<vl.length:=O1;have hh:i<vl.length+1:=O1;have xz:i<z.length:=O1;have x6:i<m.length:=O1;have⟨b0,o0,hs0,yk⟩:=hs.base O1;have e6:=xr b0 o0 hs0;have yl:=hp.H (yk i _ (aA ha) 0 _ O) O6;have h3:=e0.get ha;have hg:=HN e0 ha;generalize vl[i]=dv at yl h3 hg;have x3:=zS hp 0 O hv (fun _=>O) (LP xz) 0 _ O;have e2:=ew.get xz x6;have ey:=HN ez x6;have yd:=x2.get xz;rw[←e2] at ey;generalize z[i]=du at x3 ey yd;have x3:w3.cell? ⟨g,0+A.length*1+i*1,none⟩=some (.int .u32 du):=by
   exact mDw
  have hT:=jCf eu hG h3;have e9:G*dv<18446744073709551616:=O1;have vj:∃T,T=cy+G*dv:=⟨_,O⟩;have⟨T,e7⟩:=vj;refine qA (tR (OW O O e9) ?_);refine ke (uU O O hT) (qF (b:=T) (by rw[e7])) ?_;rw[←e7] at hT;refine qA (ke (S2 (k:=32) O O hT O O2) (qF (b:=(T%4294967296:Nat)) O) ?_);refine tR (H5 O O O1) (qA ?_);refine tR (H5 O O O1) ?_;have hD:∃D z0,D=D8 (D8 du (T%4294967296)) bo∧z0=D%4294967296:=⟨_,_,O,O⟩;have⟨D,z0,e5,eh⟩:=hD;rw[←e5];unfold D8 at e5;refine qA ?_;refine tO (OZ eW _ (A.length+i) _ hp 0 O hv O6 O O1 O (fun _=>O) O O (qD O)) fun w4 hp=>?_;have hv:=hv.set (A.length+i) (D%4294967296);rw[Kf xz] at hv;simp only[List.set_cons_zero] at hp;rw[Kf xz,←eh] at hp;rw[←eh] at hv;refine qA ?_;refine ke (xP O O O2) (qF (b:=(D/9223372036854775808:Nat)) O) (qA ?_);refine ke (xP O O O2) (qF (b:=(T/4294967296:Nat)) O) (tB ?_);refine qA ?_;refine⟨_,_,_,_,qB O5 O,⟨O1,?_,x2.set O1,ew.set xz x6,O1,O1,?_,hv,hp⟩,O1⟩
  ·grind
  rw[yM xz];refine jAc x0 (T:=T) (lo:=T%4294967296) O6 O1 ?_;omega
 obtain rfl:i=vl.length:=O1;have hh:vl.length<vl.length+1:=O1;have xz:vl.length<z.length:=O1;have x6:vl.length<m.length:=O1;have x3:=zS hp 0 O hv (fun _=>O) (LP xz) 0 _ O;have e2:=ew.get xz x6;have ey:=HN ez x6;have yd:=x2.get xz;rw[←e2] at ey;generalize z[vl.length]=du at x3 ey yd;have x3:w3.cell? ⟨g,0+A.length*1+vl.length*1,none⟩=some (.int .u32 du):=by
  exact mDe
 refine qA ?_;refine tR (H5 O O O1) (qA ?_);refine tR (H5 O O O1) ?_;have hD:∃D z0,D=D8 (D8 du cy) bo∧z0=D%4294967296:=⟨_,_,O,O⟩;have⟨D,z0,e5,eh⟩:=hD;rw[←e5];unfold D8 at e5;refine qA ?_;refine tO (OZ eW _ (A.length+vl.length) _ hp 0 O hv O6 O O1 O (fun _=>O) O O (qD O)) fun w4 hp=>?_;rw[Kf xz,←eh] at hp;refine qA ?_;refine ke (xP O O O2) (qF (b:=(D/9223372036854775808:Nat)) O) (qA ?_);refine qM O O ⟨_,O,_,_,O,O1,?_,x2.set O1,?_,hp.Z,hp.N 0 _ O g O⟩
 ·grind
 have h1:=yM (b:=4294967296) (d:=z0) xz;rw[bJ O6] at h1;rw[h1];refine jCg x0 e1 e4 ?_;omega
theorem c79(A m C vl:List Nat)(g c cu cv:Nat)(sv:Option Addr)(w:World)(o:Obj)(ho:w.heap[g]? =some o)(e3:(qG eW 208 1 (Ad g) c (A++m++C)).2 o)(eo:kg (Ad g) c (A++m++C))
  (hs:ig w 1 eW sv vl) (xr:∀b o,sv=some ⟨b,o,none⟩→b≠g) (ez:Bd 4294967296 m) (e0:Bd 4294967296 vl) (tu:m.length=vl.length+1) (hl:vl.length≤10000000000000):
  Rt 253 [.slice (some ⟨g,0+A.length*1,none⟩) (vl.length+1) cu,.slice sv vl.length cv] w (fun _ w'=>∃z,z.length=m.length∧Bd 4294967296 z∧val 4294967296 z=(val 4294967296 m+val 4294967296 vl)%4294967296^(vl.length+1)∧ax [g] w w'∧∃o,w'.heap[g]? =some o∧(qG eW 208 1 (Ad g) c (A++z++C)).2 o):=by
 have e1:=kK e0;have e4:=kK ez;rw[tu] at e4;refine km.j6 func253 O ntmps253 O ?_;have hp:Hp w [g] w [qG eW 208 1 (some _) c _]:=Hp.k9 Hp.start O4 ho e3 O4;refine qA (kS ([4,5,6]++List.range' 9 23) (fun(i cy:Nat) _z F=>(F.put 9 (.int _ i)).put 4 (.int _ cy))
  (fun i cy z w'=>i≤vl.length∧z.length=vl.length+1∧Bd 4294967296 z∧Tl z m i∧cy<2∧val 4294967296 (z.take i)+cy*4294967296^i=val 4294967296 m%4294967296^i+val 4294967296 vl%4294967296^i∧kg _ c (A++z++C)∧Hp w _ w' [qG eW 208 1 _ c (A++z++C)])
  (fun i _ _=>vl.length-i) 0 0 m (qB (qB (ka.eq .refl) O) O) ⟨O1,tu,ez,O,O2,by simp[val,nI],eo,hp⟩ ?_)
 clear hp eo ho e3;rintro u i cy z w3 ⟨hi,x1,x2,ew,eu,x0,hv,hp⟩;refine tI (fun h2=>?_) fun h2=>?_
 ·have ha:i<vl.length:=O1;have hh:i<vl.length+1:=O1;have xz:i<z.length:=O1;have x6:i<m.length:=O1;have⟨b0,o0,hs0,yk⟩:=hs.base O1;have e6:=xr b0 o0 hs0;have yl:=hp.H (yk i _ (aA ha) 0 _ O) O6;have h3:=e0.get ha;have hg:=HN e0 ha;generalize vl[i]=dv at yl h3 hg;have x3:=zS hp 0 O hv (fun _=>O) (LP xz) 0 _ O;have e2:=ew.get xz x6;have ey:=HN ez x6;have yd:=x2.get xz;rw[←e2] at ey;generalize z[i]=du at x3 ey yd;have x3:w3.cell? ⟨g,0+A.length*1+i*1,none⟩=some (.int .u32 du):=by
   exact mDw
  refine KV ?_;refine tR (uU O O O1) ?_;refine qA ?_;refine tO (OZ eW _ (A.length+i) _ hp 0 O hv O6 O O1 O (fun _=>O) O O (qD O)) fun w4 hp=>?_;have hv:=hv.set (A.length+i) ((cy+(du+dv))%4294967296);rw[Kf xz] at hv;rw[Kf xz] at hp;refine Qr ?_;refine⟨_,_,_,qB O5 O,⟨O1,?_,x2.set O1,ew.set xz x6,O1,?_,hv,hp⟩,O1⟩
  ·grind
  rw[yM xz];refine SO x0 ?_;omega
 obtain rfl:i=vl.length:=O1;have hh:vl.length<vl.length+1:=O1;have xz:vl.length<z.length:=O1;have x6:vl.length<m.length:=O1;have x3:=zS hp 0 O hv (fun _=>O) (LP xz) 0 _ O;have e2:=ew.get xz x6;have ey:=HN ez x6;have yd:=x2.get xz;rw[←e2] at ey;generalize z[vl.length]=du at x3 ey yd;have x3:w3.cell? ⟨g,0+A.length*1+vl.length*1,none⟩=some (.int .u32 du):=by
  exact mDe
 refine qA ?_;refine ke (xW O O) (qF (by rw[aZ (show cy<4294967296 by omega)])) (qA ?_);refine tO (OZ eW _ (A.length+vl.length) _ hp 0 O hv O6 O O1 O (fun _=>O) O O (qD O)) fun w4 hp=>?_;rw[Kf xz] at hp;refine qA ?_;refine xK O ⟨_,O,_,?_,x2.set O1,?_,hp.Z,hp.N 0 _ O g O⟩
 ·grind
 have h1:=yM (b:=4294967296) (d:=(du+cy)%4294967296) xz;rw[bJ O6] at h1;have hV:=by
  have:=kK (x2.take vl.length);rwa[cJ,eM O1] at this
 rw[h1,ey];exact jJp O2 x0 hV e1 e4
variable{X Y u2 u3 v1 v2:Nat}
theorem ZK{_b P u v:Nat}(hq:q=u/v)(hu:u<(u3+1)*P)(hv:v2*P≤v)(h:u3<G*v2):q+1≤G:=by
 subst hq;have h1:(u3+1)*P≤_:=aL P h;have h2:G*v2*P≤G*v:=by rw[gO];exact dJ G hv
 have h3:u<G*v:=O1
 exact(eO (by
  grind)).2 h3
theorem jFp{P u v}(hq:q=u/v)(eH:0<v)(hu:u3*P≤u)(hv:v≤(v2+1)*P)(h:(G-1)*(v2+1)≤u3):G≤q+1:=by
 have h1:(G-1)*v≤_:=dJ _ hv;have h2:=aL P h;rw[gO] at h2;have h3:G-1≤u/v:=(nV eH).2 O1;omega
theorem jX1{rest}(hT:G*v1+rest=T)(hG:G≤b)(th:0<v1)(h:G*v2≤rest*b+u2):(G-1)*(v1*b+v2+1)≤T*b+u2:=by
 have e1:(G-1)*(v1*b+v2+1)≤G*(v1*b+v2):=by
  rcases dG G with h0|h0
  ·grind
  obtain⟨k,rfl⟩:∃k,G=k+1:=⟨G-1,O1⟩;simp only[nN];rw[iJ,eL,rW,mH];have h1:1*b≤v1*b:=aL b th;omega
 have e2:G*(v1*b+v2)=G*v1*b+G*v2:=by rw[iJ,gO]
 rw[←hT,eL];omega
theorem jX0{rest}(hT:G*v1+rest=T)(hG:G≤b+1)(tg:v2<b)(h:b≤rest):(G-1)*(v1*b+v2+1)≤T*b+u2:=by
 have h1:(G-1)*(v1*b+v2+1)≤_*(v1*b+b):=dJ _ O1;have h2:(G-1)*(v1*b+b)=(G-1)*v1*b+(G-1)*b:=by rw[iJ,gO]
 have h3:(G-1)*v1*b≤G*v1*b:=aL _ (aL _ O1);have h4:(G-1)*b≤rest*b:=aL _ O1;rw[←hT,eL];omega
theorem jFr{P U Ua}(hU:U=Ua+X*P)(eR:Ua<P):U<(X+1)*P∧X*P≤U:=by
 grind
theorem jQ6{P U V:Nat}(h1:X*P≤U)(h2:V≤Y*P)(h3:U<V*b):X<Y*b:=by
 have h4:=aL b h2;rw[pP] at h4;exact mN (bW h1 O1)
theorem jFq{B}(eU:G*v1+r=T)(hd:q+1≤G)(hB:G≤B):q≤G-1∧G-1≤B∧(G-1)*v1+(r+v1)=T:=by
 obtain⟨j,rfl⟩:∃j,G=j+1:=⟨G-1,O1⟩;grind
theorem jWz{u:Nat}(eU:G*v1+r=T)(hX:X=G*v2)(hY:Y=r*b+u)(h:Y<X):T*b+u<G*(v1*b+v2):=by
 rw[iJ,←gO,←hX,←eU,eL];omega
theorem jV8(hr:r≤4294967295):r*2^32<18446744073709551616:=by
 omega
theorem jWk{v}(hG:G≤4294967295)(hv:v<4294967296):G*v<18446744073709551616:=by
 have:G*v≤_*4294967295:=dE hG O1;omega
theorem jBd{un u1}(hT:T=un*4294967296+u1)(tj:u1<4294967296)(eV:un≤v1)(th:2147483648≤v1)(hv:v1<4294967296):T/v1≤4294967297:=by
 have:T/v1<4294967298:=by
  rw[eO O1];omega
 omega
theorem jL2{P u v:Nat}(hq:q=u/v)(hu:u<(u3+1)*P)(eZ:u3=T*4294967296+u2)(tk:u2<4294967296)(hv:(v1*4294967296+v2)*P≤v)(th:0<v1):q≤T/v1:=by
 have h1:=pE T th;have h2:u3<(T/v1+1)*(v1*4294967296+v2):=by
  rw[iJ,←gO,dC (T/v1+1) v1];generalize v1*(T/v1+1)=X at h1;have:=bL ((T/v1+1)*v2);omega
 have:=ZK (_b:=0) hq hu hv h2;omega
theorem jNx(hb:Bd 4294967296 l)(hl:l.length=k+3)(h1:k<l.length)(h2:k+1<l.length)(h3:k+2<l.length):val 4294967296 l=val 4294967296 (l.take k)+4294967296^k*(l[k]+4294967296*(l[k+1]+4294967296*l[k+2]))∧val 4294967296 (l.take k)<4294967296^k:=by
 have e:=PM 4294967296 l k O1;rw[aT h1,aT h2,aT h3,List.drop_of_length_le O1] at e;have ha:=kK (hb.take k);rw[cJ,eM O1] at ha;refine⟨?_,ha⟩;rw[e];simp[val]
theorem jNy(hb:Bd 4294967296 l)(h1:k<l.length)(h2:k+1<l.length):val 4294967296 (l.take (k+2))=val 4294967296 (l.take k)+4294967296^k*(l[k]+4294967296*l[k+1])∧val 4294967296 (l.take k)<4294967296^k:=by
 have e1:=qGv 4294967296 l k h1;have e2:=qGv 4294967296 l _ h2;have hl:=kK (hb.take k);grind
theorem c77(m vl:List Nat)(k cu cv:Nat)(su sv:Option Addr)(w:World)(hm:ig w 1 eW su m)(hs:ig w 1 eW sv vl)(ez:Bd 4294967296 m)(e0:Bd 4294967296 vl)(tu:m.length=k+3)(eo:vl.length=k+3)(hk:k≤10000000000000)
  (hl:val 4294967296 m<val 4294967296 (vl.take (k+2))*4294967296) (fe:∀h:k+1<vl.length,2147483648≤vl[k+1]):
  Rt 251 [.slice su (k+3) cu,.slice sv (k+3) cv] w (fun v w'=>∃G,v= .int .u64 ((G:Nat):Int)∧val 4294967296 m/val 4294967296 (vl.take (k+2))≤G∧G≤val 4294967296 m/val 4294967296 (vl.take (k+2))+1∧ax [] w w'):=by
 have k0:k<k+3:=O1;have k1:k+1<k+3:=O1;have k2:k+2<k+3:=O1;have um:=jNx ez tu O1 O1 O1;have vm:=jNy e0 (k:=k) O1 O1;have fe:=fe O1;have⟨b0,o0,hs0,yk⟩:=hm.base O1;have gv:=yk k _ (aA O1) 0 _ O;have gh:=yk (k+1) _ (aA O1) 0 _ O;have gj:=yk (k+2) _ (aA O1) 0 _ O;have bi:=ez.get (i:=k) O1;have bj:=ez.get (i:=k+1) O1;have bm:=ez.get (i:=k+2) O1;have⟨b1,o1,ha,vx⟩:=hs.base O1;have gl:=vx k _ (aA O1) 0 _ O;have gu:=vx (k+1) _ (aA O1) 0 _ O;have bh:=e0.get (i:=k) O1;have bk:=e0.get (i:=k+1) O1;generalize m[k]'_=u0 at um gv bi;generalize m[k+1]'_=u1 at um gh bj;generalize m[k+2]'_=u2 at um gj bm;generalize vl[k]'_=v0 at vm gl bh;generalize vl[k+1]'_=v1 at vm gu bk fe;generalize val 4294967296 m=U at*
 generalize val 4294967296 _=V at*
 generalize val 4294967296 _=Ua at*
 generalize val 4294967296 _=Va at*
 have hP:∃P,P=4294967296^k:=⟨_,O⟩;have⟨P,gb⟩:=hP;have fg:0<P:=by rw[gb];exact gU O2
 rw[←gb] at um vm;have⟨hU,eR⟩:=um;have⟨hV,gm⟩:=vm;obtain⟨T,hT⟩:∃T,T=u2*4294967296+u1:=⟨_,O⟩;have e3:u0+4294967296*(u1+4294967296*u2)=T*4294967296+u0:=O1;have e2:v0+4294967296*v1=v1*4294967296+v0:=O1;rw[e3,dC] at hU;rw[e2,dC] at hV;have⟨fh,fs⟩:=jFr hU eR;have⟨gg,gd⟩:=jFr hV gm;have fx:=oV gg;have ft:0<V:=O1;have eV:u2≤v1:=by
  have h1:=jQ6 fs fx hl;omega
 have uu:=(eO ft).2 (by rw[dC];exact hl);obtain⟨q,hq⟩:∃q,q=U/V:=⟨_,O⟩;rw[←hq] at uu⊢;have fw:=jBd hT bj eV fe bk;have gn:=jL2 hq fh O bi gd O1;have gq:T<18446744073709551616:=O1;have fv:0<v1:=O1;have x8:u2*2^32<18446744073709551616:=by
  rw[show(2:Nat)^32=4294967296 from by decide];omega
 refine tW func251 ntmps251 fun hp=>?_;refine tM (k+2) ?_;refine tY fun hp=>?_;refine qX (tP (fun w hp=>H3 (b:=32) O O O2 x8) ?_);refine qX ?_;refine tN (k+1) ?_;refine qX ?_;refine kp O (fun w hp=>Ke O O x8 O1) (qF (b:=T) (by rw[rU,I0 bj,hT,oT])) (qX ?_);refine qU (tY fun hp=>?_);refine qX ?_;refine tN (k+1) ?_;refine qX ?_;refine tP (fun w hp=>S3 O O fv gq) (qX ?_);refine tN (k+1) ?_;refine qX ?_;refine tP (fun w hp=>S4 O O fv) ?_;refine qX (qU ?_);refine qA (kT ([7,8]++List.range' 41 34) (fun(G r:Nat) F=>(F.put 7 (.int _ G)).put 8 (.int _ r))
  (fun G r w'=>q≤G∧G≤4294967297∧G*v1+r=T∧Hp w [] w' []) (fun G _=>G) _ _ (qB (qB (ka.eq .refl) O) O) ⟨gn,fw,by rw[dC];exact iT T v1,hp⟩ ?_)
 clear hp;rintro u G r w1 ⟨fo,fp,eU,hp⟩;refine tI (fun h=>?_) fun h=>?_
 ·have hr:r≤4294967295:=O1;have down:=fun hd=>jFq (q:=q) eU hd fp
  have fy:=jV8 hr;refine tY fun hp=>?_;by_cases fm:G≤4294967295
  ·have hmul:=jWk fm bh;obtain⟨X,hX⟩:∃X,X=G*v0:=⟨_,O⟩;rw[←hX] at hmul;obtain⟨Y,hY⟩:∃Y,Y=r*4294967296+u0:=⟨_,O⟩;refine tP (fun w hp=>qP) ?_;refine kp O (fun w hp=>uG O O) (qV (aD O1)) (xA ?_);refine tN k ?_;refine xA ?_;apply yG;rfl;rfl;rfl;intro w hp;exact OW O O O1;exact qF (b:=X) (by rw[hX]);refine xA ?_;apply yG;rfl;rfl;rfl;intro w hp;exact H3 (b:=32) O O O2 fy;exact fI O;refine xA ?_;refine tN k ?_;refine xA ?_;apply yG;exact O;exact O;exact O;intro w hp;exact Ke O O fy O1;exact qF (b:=Y) (by rw[rU,I0 bi,hY,oT]);refine xA (qU ?_);refine tI (fun h3=>?_) fun h3=>?_
   ·have ff:=jFp hq ft fs fx (jX1 eU O1 fv O1);refine tV ?_;exact⟨_,O,G,O,fo,ff,hp.Z⟩
   have fu:=by
    exact ZK (_b:=0) hq fh gd (jWz (b:=4294967296) eU hX hY O1)
   have⟨fc,yq,yr⟩:=down fu;refine qA ?_;exact mBf
  have⟨fc,yq,yr⟩:=down O1;refine tP (fun w hp=>qP) ?_;refine kp O (fun w hp=>uG O O) (qV (aB O1)) (xA ?_);refine qU (qA ?_);refine tJ ?_;exact mBf
 have ff:=jFp hq ft fs fx (jX0 eU fp bh O1);refine tV ?_;exact⟨_,O,G,O,fo,ff,hp.Z⟩
theorem jP4{y s}(ht:y/4294967296^n%4294967296=t)(hy:y<4294967296^(n+1))(hs:s≤31)(h1:2147483648≤t*2^s)(h2:t*2^s<4294967296):2147483648≤y*2^s/4294967296^n∧y*2^s<4294967296^(n+1):=by
 have hp:0<4294967296^n:=O1;have hl:y/4294967296^n<4294967296:=by
  rw[eO hp,dC,←dU];exact hy
 rw[aZ hl] at ht;rw[dU];generalize 4294967296^n=P at*
 have h3:t*P≤y:=by rw[←ht];exact pG y P
 have h4:y<P*(t+1):=by rw[←ht];exact pE y hp
 constructor
 ·refine bF h1 ?_;rw[nV hp,pP];exact aL _ h3
 have e:4294967296=2^(32-s)*2^s:=by rw[←eK,show 32-s+s=32 from by omega]
 have h5:=by
  rw[e] at h2;exact mN h2
 rw[e,←gO];exact(oF (gU O2)).2 (dK h4 (dJ _ h5))
theorem jO3{U:List Nat}(h:j+n≤U.length):∃A m C,U=A++m++C∧A.length=j∧m.length=n:=by
 refine⟨U.take j,(U.drop j).take n,(U.drop j).drop n,?_,O6,O6⟩;rw[bU,dP,dP]
theorem Y8{A m C}:val b (A++m++C)=val b A+b^A.length*val b m+b^A.length*b^m.length*val b C:=by
 rw[vT,vT,aY,eK]
theorem jL4{A m C v}(hb:0<b)(hm:m.length=n+1)(hv:v<b^n)(h:val b (A++m++C)<v*b^(A.length+1)):val b C=0∧val b m<v*b∧val b (A++m++C)=val b A+b^A.length*val b m:=by
 have e:=Y8 (b:=b) (A:=A) (m:=m) (C:=C);rw[hm] at e;have hC:val b C=0:=by
  rcases dG (val b C) with h0|h0
  ·exact h0
  have h1:b^A.length*b^(n+1)*1≤b^A.length*b^(n+1)*val b C:=dJ _ h0;have h2:v*b^(A.length+1)≤b^A.length*b^(n+1):=by
   rw[dU,dU,←gO,←gO,dC v];exact aL _ (dJ _ (oV hv))
  omega
 rw[hC,Nat.mul_zero,fY] at e;refine⟨hC,?_,e⟩;rw[e,dU,←gO,pP] at h;have h3:val b m*b^A.length<v*b*b^A.length:=by
  have:b^A.length*val b m=val b m*b^A.length:=dC _ _;omega
 exact mN h3
theorem jH9{A v M Z}(hA:Bd b A)(hv:0<v)(hz:Z=M%v)(hq:q=M/v):val b A+b^A.length*Z+v*(b^A.length*q)=val b A+b^A.length*M∧val b A+b^A.length*Z<v*b^A.length:=by
 have h1:=kK hA;have h2:=iT M v;rw[←hz,←hq] at h2;have h3:Z<v:=by rw[hz];exact dY _ hv
 generalize b^A.length=P at*
 constructor
 ·grind
 have h4:P*(Z+1)≤P*v:=dJ P h3;grind
theorem zDb{Z v M}(hv:0<v)(hq:q=M/v)(h1:q≤G)(h:Z+G*v=M):G=q∧Z=M%v:=by
 have h2:G≤M/v:=(nV hv).2 O1;have h4:=iT M v;grind
theorem zDa{Z v M P}(hv:0<v)(hq:q=M/v)(h1:G≤q+1)(hZ:Z<P)(tr:v≤P)(h:Z+G*v=M+P):G=q+1∧(Z+v)%P=M%v:=by
 have h2:M<G*v:=O1;have h3:=(eO hv).2 h2;have h4:G=q+1:=O1;refine⟨h4,?_⟩;have h5:=iT M v;rw[←hq,dC] at h5;rw[h4,eL,mH] at h;have h6:Z+v=P+M%v:=O1;rw[h6,Nat.add_mod_left,aZ O1]
theorem jL5{x y R Q}(hy:0<y)(h:R+y*2^t*Q=x*2^t)(hR:R<y*2^t):Q=x/y∧R/2^t=x%y:=by
 have hp:0<2^t:=gU O2;have gy:0<y*2^t:=O1;have h1:(R+y*2^t*Q)/(y*2^t)=Q:=by rw[oD _ _ gy,iB hR,gF]
 rw[h,Nat.mul_div_mul_right _ _ hp] at h1;have h2:(R+y*2^t*Q)%(y*2^t)=R:=by rw[lK,aZ hR]
 rw[h,Nat.mul_mod_mul_right] at h2;refine⟨h1.symm,?_⟩;rw[←h2,Nat.mul_div_cancel _ hp]
theorem Hp.aB9{L}(h:Hp w0 M w L)(i){g c l l'}(hi:L[i]? =some (qG eW 208 1 (Ad g) c l))(hk:ax [g] w w')
  (ho:∃o,w'.heap[g]? =some o∧(qG eW 208 1 (Ad g) c l').2 o):Hp w0 M w' (L.set i (qG eW 208 1 (Ad g) c l')):=
 h.p3 hi hk (by
  intro q hq;have:q=g:=by
   have h2:(some g:Option Nat)=some q:=hq;simpa[eq_comm] using h2
  subst this
  exact⟨.inl O,ho⟩)
theorem jIc{g A m C}(h:ig w 1 eW (Ad g) (A++m++C)):ig w 1 eW (some ⟨g,0+A.length*1,none⟩) m:=by
 intro i x hx;have hl:=(aI.1 hx).1;have hg:=LP (A:=A) (C:=C) hl;rw[←aA,hx] at hg;have⟨b,o,hs,hc⟩:=h _ x hg;grind
theorem zGe(x y s s2 c c2 w)(hx:DA w x s c)(hy:DA w y s2 c2)(ys:y≤x)(hl:2<(dN x).length)(gY:(dN x).length≤10000000000000)(ic:(dN y).length=1):
  Rt 172 [.slice s (dN x).length c,.slice s2 (dN y).length c2] w (fun v w'=>∃s' c' s3 c3,v= .tuple #[.slice s' (dN (x/y)).length c',.slice s3 (dN (x%y)).length c3]∧DA w' (x/y) s' c'∧DA w' (x%y) s3 c3∧ax [] w w'):=by
 have gz:y<4294967296:=CU (i:=1) O1;have gS:0<y:=by
  rcases dG y with h|h
  ·subst h;simp[N4] at ic
  exact h
 have hm:x%y<y:=dY _ gS;have zu:x%y<4294967296:=O1;have ie:0<(dN y).length:=O1;have⟨b0,o0,hs0,yk⟩:=hy.at_.base ie;have yl:=yk 0 _ (aA ie) 0 _ O;have hg:=EE ie;rw[Nw,Nat.div_one,aZ gz] at hg;rw[hg] at yl;refine tW func172 ntmps172 fun hp=>?_;refine tL (K3 x y s s2 c c2 _ hx hy) ?_;rintro _ w1 ⟨rfl,hk⟩;have hp:=hp.V hk;refine ke (zQ O O) (qV (aB O1)) (qA ?_);refine tJ ?_;refine qH O O1 (fun _=>qA ?_);refine qH O (fun _=>?_) O1;refine tL (c74 x y s c _ (hx.j1 hp.Z) gY gS gz) ?_;rintro _ w2 ⟨s3,c3,rfl,yr,hk⟩;have hp:=hp.V hk;refine tL (QD (x%y) _ O1) ?_;rintro _ w5 ⟨s4,c4,rfl,ia,hk⟩;have hp:=hp.V hk;have yr:=yr.j1 hk;refine qA ?_;exact xU O O O ⟨_,O,s3,c3,s4,c4,O,yr,ia,hp.Z⟩
theorem qSm{d}(hj:j<l.length)(h0:l[j]=0):val b (l.set j d)=val b l+b^j*d:=by
 have:=Kh b l j d hj;grind
theorem qGx{d:Nat}(h:l.take (j+1)=replicate (j+1) 0):(l.set j d).take j=replicate j 0:=by
 rw[rS,mZ O6];have:=aK (List.take j) h;grind
theorem jIi(h:l.take (j+1)=replicate (j+1) 0)(hj:j<l.length):l[j]=0:=by
 have h1:(l.take (j+1))[j]? =some l[j]:=by rw[pN,if_pos O1,aA hj]
 grind
theorem jHb(b v n):(dg b v (n+1)).take n=dg b v n:=by
 rw[Th,Ru (Mh b n v)]
theorem qPs(_hb:0<b)(hl:n≤l.length)(h:val b l<b^n):val b (l.take n)=val b l:=by
 have e:=PM b l n hl;rcases dG (val b (l.drop n)) with h0|h0
 ·grind
 have:b^n*1≤_:=dJ _ h0;omega
theorem KT:prog.underlying 137=some (.slice 208)∧kz prog 208 1:=zK O
theorem zGd(x y k e:Nat)(s s2:Option Addr)(c c2:Nat)(w:World)(hx:DA w x s c)(hy:DA w y s2 c2)(ys:y≤x)(gY:(dN x).length=k+2+e)(ic:(dN y).length=k+2)(hl:2<k+2+e)(jw:k+2+e≤10000000000000):
  Rt 172 [.slice s (k+2+e) c,.slice s2 (k+2) c2] w (fun v w'=>∃s' c' s3 c3,v= .tuple #[.slice s' (dN (x/y)).length c',.slice s3 (dN (x%y)).length c3]∧DA w' (x/y) s' c'∧DA w' (x%y) s3 c3∧ax [] w w'):=by
 have gS:0<y:=by
  rcases dG y with h|h
  ·subst h;simp[N4] at ic
  exact h
 have mi:k+1<k+2:=O1;have jo:k+1<(dN y).length:=O1;have je:=K3 x y s s2 c c2 w hx hy;rw[gY,ic] at je;have⟨b0,o0,hs0,yk⟩:=hy.at_.base O1;have yl:=yk _ _ (aA jo) 0 _ O;have hg:=EE jo;have fm:=(HK y).get jo;have il:0<(dN y)[k+1]:=by
  have tz:=O0 (b:=4294967296) O2 y ((dN y).take (k+1)) (dN y)[k+1] (by
   show dN y=_
   rw[←aF,bJ O1])
  omega
 generalize (dN y)[k+1]=t at yl hg fm il;have jy:y<_^(k+1+1):=CU O1;refine tW func172 ntmps172 fun hp=>?_;refine tL je ?_;rintro _ w1 ⟨rfl,hk⟩;have hp:=hp.V hk;refine ke (zQ O O) (qV (aB O1)) (qA ?_);refine tJ ?_;refine qH O O1 (fun _=>qA ?_);refine qH O O1 (fun _=>tM (k+1) ?_);refine tL (c75 t _ il fm) ?_;rintro _ w2 ⟨sh,rfl,x8,iq,jk,hk⟩;have hp:=hp.V hk;have⟨y0,dq⟩:=jP4 hg.symm jy x8 iq jk;have jt:=c76 x sh s c w2 (hx.j1 hp.Z) O1 x8;rw[gY] at jt;refine tL jt ?_;rintro _ w3 ⟨gu,rfl,io,jz⟩;have hp:=hp.C jz;have jn:=c76 y sh s2 c2 w3 (hy.j1 hp.Z) O1 x8;rw[ic] at jn;refine tL jn ?_;rintro _ w4 ⟨gv,rfl,e1,vg⟩;have hp:=hp.C vg;clear je jt jn jz vg;obtain⟨v,ja⟩:∃v,v=y*2^sh:=⟨_,O⟩;rw[←ja] at y0 dq e1 hp;have eH:0<v:=by rw[ja];exact iP gS (gU O2)
 obtain⟨VL,iu⟩:∃VL,VL=dg 4294967296 v (k+2+1):=⟨_,O⟩;obtain⟨vl,eo⟩:∃vl,vl=VL.take (k+2):=⟨_,O⟩;have jj:vl=dg 4294967296 v (k+2):=by rw[eo,iu,jHb]
 have lE:VL.length=k+3:=by rw[iu,Mh]
 have lh:vl.length=k+2:=by rw[jj,Mh]
 have l3:Bd 4294967296 VL:=by rw[iu];exact LL O2 _ _
 have ln:Bd 4294967296 vl:=by rw[jj];exact LL O2 _ _
 have jf:val 4294967296 vl=v:=by rw[jj,NY,aZ dq]
 have fe:∀h,2147483648≤VL[k+1]:=by
  intro h;have h1:=OM 4294967296 (k+2+1) v (k+1) O1;rw[←iu,aA h] at h1;have h2:VL[k+1]=v/4294967296^(k+1)%4294967296:=by simpa using h1
  have h3:v/4294967296^(k+1)<4294967296:=by
   rw[eO (gU O2),dC,←dU];exact dq
  rw[h2,aZ h3];exact y0
 rw[←iu] at e1 hp;obtain⟨U0,iv⟩:∃U0,U0=dg 4294967296 (x*2^sh) (k+2+e+1):=⟨_,O⟩;have lx:U0.length=k+2+e+1:=by rw[iv,Mh]
 have jd:Bd 4294967296 U0:=by rw[iv];exact LL O2 _ _
 have jr:x<_^(k+2+e):=CU O1;have jh:val 4294967296 U0=x*2^sh:=by
  rw[iv,NY,aZ];rw[dU];exact oQ jr (bW (bG O2 x8) O2)
 have j0:val 4294967296 U0<v*4294967296^(e+1):=by
  have h1:=kK jd;rw[jh] at h1⊢;have h2:4294967296^(k+1)≤y:=by
   have:=pG y (4294967296^(k+1));have h3:1≤y/4294967296^(k+1):=by
    rcases dG (y/4294967296^(k+1)) with h0|h0
    ·omega
    exact h0
   have h4:1*4294967296^(k+1)≤y/4294967296^(k+1)*4294967296^(k+1):=aL _ h3;omega
  rw[ja,pP];refine(oF (gU O2)).2 (dK jr ?_);rw[show k+2+e=(k+1)+(e+1) from O1,eK];exact aL _ h2
 rw[←iv] at io hp;clear iv hg fm il yl hs0 yk jy jr iq jk;refine tM e ?_;refine tN (e+1) ?_;refine tF (yE eW 0 hp O O O O O O O O1 O) fun w5 gq⟨ih,hp⟩=>?_;have hp:Hp w [] w5 [_,_,_]:=hp;refine tM e ?_;refine qA ?_;refine kS ([14,15]++List.range' 75 43) (fun(j:Nat) (_U _z) F=>F.put 14 (.int _ (j-1)))
  (fun j U z w'=>j≤e+1∧U.length=k+2+e+1∧Bd 4294967296 U∧z.length=e+1∧Bd 4294967296 z∧z.take j=replicate j 0∧val 4294967296 U+v*val 4294967296 z=x*2^sh∧val 4294967296 U<v*4294967296^j∧kg _ _ U∧kg _ _ z∧Hp w [] w' [qG eW 208 1 _ _ z,_,qG eW 208 1 _ _ U])
  (fun j _ _=>j) _ U0 _ (qB (ka.eq .refl) (qF O1)) ⟨O1,lx,jd,O4,wS O2 _,O4,by rw[PI,jh];simp,j0,io,ih,hp⟩ ?_
 clear hp io ih lx jd jh j0;rintro u j U z w6 ⟨hj,mh,iz,x1,x2,eh,dt,fh,io,ih,hp⟩;refine tI (fun h2=>?_) fun h2=>?_
 ·obtain⟨j,rfl⟩:∃j',j=j'+1:=⟨j-1,O1⟩;obtain⟨A,m,C,rfl,hA,tu⟩:=jO3 (U:=U) (j:=j) (n:=k+3) O1;subst hA;have ej:(A.length+1:Nat)-1=(A.length:Int):=O1;rw[ej];have zu:=iz.left.right;have jc:=iz.left.left;have mf:=iz.right;have⟨i1,l6,me⟩:=jL4 O2 tu dq fh;have mm:A.length<e+1:=O1;have jg:A.length<z.length:=O1;have jv:=jIi eh jg;have ij:=qZ hp 1 O e1 (fun _=>O);have ji:=qZ hp 2 O io (fun _=>O);have iw:=c77 m VL k (k+2+e+1-A.length) (k+2+1) _ _ w6 (jIc ji) ij zu l3 tu lE O1 O6 fe;rw[←eo,jf] at iw;obtain⟨M,hM⟩:∃M,M=val 4294967296 m:=⟨_,O⟩;obtain⟨q,hq⟩:∃q,q=M/v:=⟨_,O⟩;rw[←hM] at iw l6 me;rw[←hq] at iw;have ii:q<4294967296:=by rw[hq];exact(eO eH).2 O1
  refine tM (A.length+(k+2)) ?_;refine tN (A.length+(k+2)+1) ?_;refine ke (Mi KT.1 KT.2 O O O O1 O1 O1) (HO (m':=k+3) O1) (tL iw ?_);rintro _ w7 ⟨G,rfl,fo,fp,hk⟩;have hp:=hp.V hk;refine qA ?_;refine jW jG O3 (fun _=>True) trivial ?_;have hp:=hp.U;have ij:=qZ hp 1 O e1 (fun _=>O);have jl:ig w7.drew 1 eW (Ad gv) vl:=by rw[eo];exact OK ij _
  have l4:gv≠gu:=fun h=>hp.dis 1 2 _ _ O O O2 gv O (by rw[h];rfl)
  have xr:∀b o,(Ad gv:Option Addr)=some ⟨b,o,none⟩→b≠gu:=by
   rintro b o h;cases h;exact l4
  have⟨o1,jm,lY⟩:=hp.N 2 _ O gu O;have ju:=c78 A m C vl G gu _ (k+2+e+1-A.length) (k+2+1) _ _ o1 jm lY io jl xr zu ln O1 O1 O1;rw[lh] at ju;refine qX ?_;refine tN (A.length+(k+2)) ?_;refine tN (A.length+(k+2)+1) ?_;refine kp O (fun w hp=>Mi KT.1 KT.2 O O O O1 O1 O1) (HO (m':=k+2+1) O1) (qX ?_);refine tP (fun w hp=>TQ O O O O1) (qX ?_);refine tK ju ?_;rintro _ w8 ⟨zz,B,rfl,hB,lw,ix,it,hk,ho⟩;have hp:=Hp.aB9 hp 2 O hk ho;refine⟨trivial,qX (qU ?_)⟩;have lu:=kK ix;rw[lw,tu] at lu;rw[jf,←hM] at it;have key:∀z2:List Nat,z2.length=k+3→Bd 4294967296 z2→val 4294967296 z2=M%v→Bd 4294967296 (A++z2++C)∧val 4294967296 (A++z2++C)=val 4294967296 A+4294967296^A.length*(M%v):=by
   intro z2 h1 h2 h3;refine⟨(jc.app h2).app mf,?_⟩;rw[Y8,i1,h3];simp
  have⟨ld,ma⟩:=jH9 jc eH O hq;refine qH O (fun lX=>?_) (fun l0=>?_)
  ·obtain rfl:B=1:=O1;rw[mH] at it;obtain⟨rfl,iy⟩:=zDa eH hq fp lu (oV (dK dq (bG O2 O1))) it;refine qA ?_;refine ke (H5 (b:=1) O O O2) (qF (b:=q) (by unfold D8;omega)) (qA ?_);refine jW jG O3 (fun _=>True) trivial ?_;have hp:=hp.U;have ij:=qZ hp 1 O e1 (fun _=>O);have jl:ig w8.drew 1 eW (Ad gv) vl:=by rw[eo];exact OK ij _
   have⟨o2,ir,l2⟩:=hp.N 2 _ O gu O;have ly:kg (Ad gu) (k+2+e+1) (A++zz++C):=by
    unfold kg at*
    rwa[show(A++zz++C).length=(A++m++C).length from by grind]
   have lp:=c79 A zz C vl gu _ (k+2+e+1-A.length) (k+2+1) _ _ o2 ir l2 ly jl xr ix ln O1 O1;rw[lh,jf,iy] at lp;refine qX ?_;refine tN (A.length+(k+2)) ?_;refine tN (A.length+(k+2)+1) ?_;refine kp O (fun w hp=>Mi KT.1 KT.2 O O O O1 O1 O1) (HO (m':=k+2+1) O1) (qX ?_);refine tP (fun w hp=>TQ O O O O1) (qX ?_);refine tK lp ?_;rintro _ w9 ⟨z2,ml,mg,mc,hk,ho⟩;have hp:=Hp.aB9 hp 2 O hk ho;refine⟨trivial,qX (qU ?_)⟩;have⟨js,jp⟩:=key z2 O1 mg mc;refine qA (tO (zL eW z A.length _ hp 0 O ih jg O O (fun _=>O) O O (qD O)) fun uy hp=>?_);rw[aZ ii] at hp;refine Ae ?_;refine⟨A.length,_,_,qB O5 O,⟨O1,?_,js,O6,x2.set ii,qGx eh,?_,?_,?_,ih.set _ _,hp⟩,O1⟩
   ·grind
   ·rw[qSm _ jv,jp,iJ];omega
   ·omega
   unfold kg at*
   grind
  obtain rfl:B=0:=O1;rw[Nat.zero_mul,fY] at it;obtain⟨rfl,iy⟩:=zDb eH hq fo it;have ik:∃z2,z2=zz:=⟨_,O⟩;have⟨z2,lz⟩:=ik;rw[←lz] at hp iy lw ix;have⟨js,jp⟩:=key z2 O1 ix iy;refine qA (tO (zL eW z A.length _ hp 0 O ih jg O O (fun _=>O) O O (qD O)) fun uy hp=>?_);rw[aZ ii] at hp;refine Ae ?_;refine⟨_,_,_,qB O5 O,⟨O1,?_,js,O6,x2.set ii,qGx eh,?_,?_,?_,ih.set _ _,hp⟩,O1⟩
  ·grind
  ·rw[qSm _ jv,jp,iJ];omega
  ·omega
  unfold kg at*
  grind
 obtain rfl:j=0:=O1;rw[Nw,rW] at fh;rw[ja] at dt;have⟨hQ,hR⟩:=jL5 gS dt O1;have li:=qPs (n:=k+2) O2 O1 (Ln fh dq);obtain⟨V,hV⟩:∃V,V=U.take (k+2):=⟨_,O⟩;have l1:V.length=k+2:=by rw[hV,cJ,eM O1]
 have l9:Bd 4294967296 V:=by rw[hV];exact iz.take _
 rw[←hV] at li;rw[←li] at hR;have jq:kO z=dN (x/y):=by rw[Zp x2,hQ]
 refine tY fun hp=>?_;have lf:=qZ hp 0 O ih (fun _=>O);have lj:=c66 z _ (e+1) _ O1 (by unfold maxLen;omega) lf;rw[x1,jq] at lj;refine qX ?_;refine tK lj ?_;rintro _ w7 ⟨rfl,hk⟩;have hp:=hp.V hk;refine⟨hp,?_⟩;have fc:DA w7 (x/y) (Ad gq) (e+1):=⟨by rw[←jq,←x1];exact(uM z).length_le,by unfold maxLen;omega,by rw[←jq];exact(lf.i7 hk).pre (uM z)⟩;have ji:ig w7 1 eW (Ad gu) V:=by rw[hV];exact OK (qZ hp 2 O io (fun _=>O)) _
 have jx:=c80 V sh _ (k+2+e+1) _ ji l9 O1 x8;rw[l1,hR] at jx;refine qX ?_;refine tP (fun w hp=>TQ O O O O1) (qX ?_);refine tK jx ?_;rintro _ w8 ⟨gr,rfl,im,zp⟩;refine⟨hp.V zp.Z,?_⟩;have ls:=JN zp im (by unfold maxLen;omega) (LL O2 _ _) (x:=x%y) (by rw[NY,aZ];exact Ln (dY _ gS) (CU O1));rw[Mh] at ls;refine tK ls ?_;rintro _ w9 ⟨s',c',rfl,yq,zw⟩;have hp:=hp.V zw;have fc:=fc.j1 zw;refine⟨hp,qX (qU ?_)⟩;refine qA ?_;exact xU O O O ⟨_,O,_,_,_,_,O,fc,yq,hp.Z⟩
theorem c54(x y s s2 c c2 w)(hx:DA w x s c)(hy:DA w y s2 c2)(gS:0<y)(gY:(dN x).length≤10000000000000):
  Rt 172 [.slice s (dN x).length c,.slice s2 (dN y).length c2] w (fun v w'=>∃s' c' s3 c3,v= .tuple #[.slice s' (dN (x/y)).length c',.slice s3 (dN (x%y)).length c3]∧DA w' (x/y) s' c'∧DA w' (x%y) s3 c3∧ax [] w w'):=by
 by_cases h1:x<y
 ·exact(by rw[iB h1,aZ h1];refine tW func172 ntmps172 fun hp=>?_;refine tD (K3 x y s s2 c c2 _ hx hy) fun w1 hp=>?_;rw[if_pos h1];refine qA (jB O ?_);refine qA ?_;exact xU O O O ⟨_,O,_,0,s,c,O,DA.zero _,hx.j1 hp.Z,hp.Z⟩)
 by_cases h2:(dN x).length≤2
 ·exact(by have mo:x<18446744073709551616:=CU h2;have mq:y<18446744073709551616:=O1;refine tW func172 ntmps172 fun hp=>?_;refine tL (K3 x y s s2 c c2 _ hx hy) ?_;rintro _ w1 ⟨rfl,hk⟩;have hp:=hp.V hk;refine ke (zQ O O) (qV (aB O1)) (qA ?_);refine tJ ?_;refine qH O (fun _=>?_) O1;refine tL (c58 x s c _ mo (hx.j1 hp.Z)) ?_;rintro _ w2 ⟨rfl,hk⟩;have hp:=hp.V hk;refine tL (c58 y s2 c2 _ mq (hy.j1 hp.Z)) ?_;rintro _ w3 ⟨rfl,hk⟩;have hp:=hp.V hk;refine tY fun hp=>?_;refine qX (tP (fun w hp=>S3 O O gS mo) ?_);refine tK (QD _ _ (bW (iH x y) mo)) ?_;rintro _ w4 ⟨s3,c3,rfl,yr,hk⟩;have hp:=hp.V hk;refine⟨hp,qX (tP (fun w hp=>S4 O O gS) ?_)⟩;refine tK (QD _ _ (bW (JJ x y) mo)) ?_;rintro _ w5 ⟨s4,c4,rfl,ia,hk⟩;have hp:=hp.V hk;have yr:=yr.j1 hk;refine⟨hp,qX (qU ?_)⟩;refine qA ?_;exact xU O O O ⟨_,O,s3,c3,s4,c4,O,yr,ia,hp.Z⟩)
 have mr:(dN y).length≠0:=by
  intro h;have:=jHg.1 (aX h);omega
 by_cases h3:(dN y).length=1
 ·exact zGe x y s s2 c c2 w hx hy O1 O1 gY h3
 have ys:(dN y).length≤(dN x).length:=by
  rcases lU (dN x).length (dN y).length with h|h
  ·exact absurd (TT O2 (show(jY 4294967296 x).length<(jY 4294967296 y).length from h)) h1
  exact h
 obtain⟨k,hk⟩:∃k,(dN y).length=k+2:=⟨(dN y).length-2,O1⟩;obtain⟨e,he⟩:∃e,(dN x).length=k+2+e:=⟨(dN x).length-(k+2),O1⟩;have:=zGd x y k e s s2 c c2 w hx hy O1 he hk O1 O1;grind
variable{R:Ending→World→Prop}{v2:Value}
theorem qQ9{fn u v}(h:fn.results= #[.tmp t,.tmp u,.tmp v])(tmps w):(results fn tmps).run P w= .ok (.tuple #[tmps.getD t undef,tmps.getD u undef,tmps.getD v undef]) w:=by
 simp[results,h]
theorem PH{fn u x v v'}(h:fn.results= #[.tmp t,.tmp u,.tmp x])(hv:ev n F (.tmp t)=v)(hn:ev n F (.tmp u)=v')(tg:ev n F (.tmp x)=v2)(hr:R (.returned (.tuple #[v,v',v2])) w):Gh P n fn R .ret F w:=by
 refine⟨_,?_,hr⟩;rw[qQ9 h];rw[←hv,←hn,←tg,←zF];rfl
theorem qTy(x y):Nat.gcd x y=Nat.gcd y (x%y):=by
 rw[rA,Nat.gcd_rec,rA]
theorem RF{y}:(dN y).length=0↔y=0:=by
 rw[List.length_eq_zero_iff];exact jHg
theorem Fit.div{x y}(h:Fit x):Fit (x/y):=h.le (iH x y)
theorem Fit.mod{x y}(h:Fit x):Fit (x%y):=h.le (JJ x y)
theorem ME(x y w)(hx:Fit x)(hy:Fit y)(gS:0<y):Rk 103 [.string (ki x),.string (ki y)] w (.tuple #[.string (ki (x/y)),.string (ki (x%y)),.bool true]):=by
 have zg:¬(dN y).length=0:=by rw[RF];omega
 refine tW func103 ntmps103 fun hp=>?_;refine tL (GC y _ hy.d8) ?_;rintro _ w1 ⟨s,c,rfl,hd,hk⟩;have hp:=hp.V hk;refine qA ?_;refine qH O O1 (fun _=>tL (GC x _ hx.d8) ?_);rintro _ w2 ⟨s2,c2,rfl,yq,hk⟩;have hp:=hp.V hk;have hd:=hd.j1 hk;refine tL (c54 x y s2 s c2 c _ yq hd gS hx.d32) ?_;rintro _ w3 ⟨s3,c3,s4,c4,rfl,yr,ia,hk⟩;have hp:=hp.V hk;refine tL (Ju _ s3 c3 _ yr hx.div.d32) ?_;rintro _ w4 ⟨rfl,hk⟩;have hp:=hp.V hk;have ia:=ia.j1 hk;refine tD (Ju _ s4 c4 _ ia hx.mod.d32) fun w5 hp=>?_;refine qA ?_;exact PH O O O O ⟨_,O,O,hp.Z⟩
theorem MC(x y w)(hx:Fit x)(hy:Fit y):Rk 104 [.string (ki x),.string (ki y)] w (.string (ki (Nat.gcd x y))):=by
 refine tW func104 ntmps104 fun hp=>?_;refine tL (GC x _ hx.d8) ?_;rintro _ w1 ⟨s,c,rfl,hd,hk⟩;have hp:=hp.V hk;refine tL (GC y _ hy.d8) ?_;rintro _ w2 ⟨s2,c2,rfl,yq,hk⟩;have hp:=hp.V hk;have hd:=hd.j1 hk;refine qA (kS ([5,6,7,8]++List.range' 13 11) (fun(X Y) p F=>(F.put 5 (.slice p.1 (dN X).length p.2.1)).put 6 (.slice p.2.2.1 (dN Y).length p.2.2.2))
  (fun X Y p w'=>Nat.gcd X Y=Nat.gcd x y∧Fit X∧Fit Y∧DA w' X p.1 p.2.1∧DA w' Y p.2.2.1 p.2.2.2∧Hp w [] w' []) (fun _ Y _=>Y) x y (s,c,s2,c2) (qB (qB (ka.eq .refl) O) O) ⟨O,hx,hy,hd,yq,hp⟩ ?_)
 clear hp hd yq;rintro u X Y ⟨s,c,s2,c2⟩ w3 ⟨hg,hX,hY,hd,yq,hp⟩;have hd:DA w3 X s c:=hd;have yq:DA w3 Y s2 c2:=yq;have hz:=RF (y:=Y);refine tI (fun h=>?_) fun h=>?_
 ·have mu:0<Y:=O1;refine tL (c54 X Y s s2 c c2 _ hd yq mu hX.d32) ?_;rintro _ w4 ⟨s3,c3,s4,c4,rfl,yr,ia,hk⟩;have hp:=hp.V hk;have yq:=yq.j1 hk;refine qA ?_;exact⟨Y,_,(s2,c2,s4,c4),qB O5 O,⟨by rw[←qTy,hg],hY,hX.mod,yq,ia,hp⟩,dY _ mu⟩
 obtain rfl:Y=0:=O1;rw[Nat.gcd_zero_right] at hg;subst hg;refine tD (Ju _ s c _ hd hX.d32) fun w5 hp=>?_;exact nj
def ch:Nat→Nat→Nat
 |_,0=>1
 |0,_+1=>0
 |n+1,k+1=>ch n k+ch n (k+1)
def uO:Nat→Nat
 |0=>1
 |n+1=>(n+1)*uO n
theorem IU(n):ch n 0=1:=by cases n<;>rfl
theorem Lr:∀(n k:Nat),n<k→ch n k=0
 |_,0,h=>O1
 |0,k+1,_=>rfl
 |n+1,k+1,h=>by
  rw[ch,Lr n k O1,Lr n _ O1]
theorem Yq:∀n,ch n n=1
 |0=>rfl
 |n+1=>by rw[ch,Yq,Lr n _ O1]
theorem Fl:∀n,0<uO n
 |0=>O2
 |n+1=>iP O1 (Fl n)
theorem J9:∀(n k:Nat),k≤n→ch n k*uO k*uO (n-k)=uO n
 |n,0,_=>by rw[IU];simp[uO]
 |0,k+1,h=>O1
 |n+1,k+1,h=>by
  rw[ch,Nat.add_sub_add_right];rcases lU k n with hk|hk
  ·have h1:=J9 n k O1;have h2:=J9 n (k+1) O1;obtain⟨m,hm⟩:∃m,n-k=m+1:=⟨n-k-1,O1⟩;have zd:n-(k+1)=m:=O1;rw[hm] at h1⊢;rw[zd] at h2;rw[eL,eL];have e1:ch n k*uO (k+1)*uO (m+1)=(k+1)*(ch n k*uO k*uO (m+1)):=by
    rw[uO]
    ac_rfl
   have e2:ch n (k+1)*uO (k+1)*uO (m+1)=(m+1)*(ch n (k+1)*uO (k+1)*uO m):=by
    rw[show uO (m+1)=(m+1)*uO m from O]
    ac_rfl
   rw[e1,e2,h1,h2,←eL,show uO (n+1)=(n+1)*uO n from O];grind
  have:k=n:=O1;subst this;rw[Yq,Lr k _ O1,gZ];simp[uO]
theorem jLe(h:k≤n):ch n (n-k)=ch n k:=by
 have h1:=J9 n k h;have h2:=J9 n (n-k) O1;have hp:0<uO k*uO (n-k):=iP (Fl _) (Fl _);refine XG hp ?_;grind
def D6(m:Nat):Nat→Nat
 |0=>1
 |k+1=>D6 m k*(m+(k+1))
theorem qOd(m):∀k,D6 m k*uO m=uO (m+k)
 |0=>by simp[D6]
 |k+1=>by
  have:=qOd m k;rw[D6,show m+(k+1)=(m+k)+1 from O1,show uO (m+k+1)=(m+k+1)*uO _ from O,←this]
  ac_rfl
theorem jJe(h:k≤n):D6 (n-k) k=ch n k*uO k:=by
 have h1:=qOd (n-k) k;rw[show n-k+k=n from O1,←J9 n k h] at h1;exact XG (Fl _) h1
theorem jDd(h:k≤n):D6 (n-k) k/uO k=ch n k:=by
 rw[jJe h];exact Nat.mul_div_cancel _ (Fl k)
theorem Tm:∀n,D6 0 n=uO n
 |0=>rfl
 |n+1=>by
  rw[D6,Tm,show uO (n+1)=(n+1)*uO n from O,dC];simp
theorem Vz(n k):ch (n+1) (k+1)=ch n k+ch n (k+1):=O
theorem Rl(h:k≤n):0<ch n k:=by
 have h1:=J9 n k h;have h2:=Fl n;grind
theorem OL:∀(n k:Nat),ch n k≤2^n
 |n,0=>by rw[IU];grind
 |0,k+1=>by simp[ch]
 |n+1,k+1=>by
  have h1:=OL n k;have h2:=OL n (k+1);rw[ch,dU];omega
theorem Y5(m):∀n,m+n≤128→D6 m n≤2^(7*n)
 |0,_=>by simp[D6]
 |n+1,h=>by
  have h1:=Y5 m n O1;rw[D6,Nat.mul_succ,eK];exact dE h1 O1
theorem S9(h:m+n≤128):Fit (D6 m n):=by
 refine Fit.of (k:=7*n+1) (bW (Y5 m n h) (gK O2 O1)) O1
theorem Jp(h:n≤128):Fit (uO n):=by
 rw[←Tm];exact S9 O1
theorem Xy(h:n≤3000):Fit (ch n k):=Fit.of (k:=n+1) (bW (OL n k) (gK O2 O1)) O1
def AO(n k:Int):Nat:=if n<0∨n>1000∨k<0∨k>n then 0 else ch n.toNat k.toNat
theorem Gx(h:n≤1000):AO n k=ch n k:=by
 unfold AO;by_cases hk:k≤n
 ·grind
 rw[if_pos O1,Lr n k O1]
theorem jHt{n k}(h:n<0∨n>1000∨k<0∨k>n):AO n k=0:=if_pos h
theorem c36(n:Nat)(m f my w)(he:qI prog f)(mz:m+n≤100)
  (hc:∀(i:Nat) (w':World),ax [] w w'→1≤i→i≤n→Rt f ([Iv (i:Int)]++my.toList) w' (fun v w2=>v=Iv ((m+i:Nat):Int)∧ax [] w' w2)):
  Rk 173 [Iv (n:Int),.func (.func f) #[] my] w (.string (ki (D6 m n))):=by
 refine tW func173 ntmps173 fun hp=>?_;refine tD (Aw 1 _ O2) fun w1 hp=>?_;refine qA (qQ [5,6,9,10,11,12,13,14,15,16,17,18,19] (fun i F=>(F.put 5 (.string (ki (D6 m i)))).put 9 (.int _ i)) (fun i w'=>i≤n∧Hp w [] w' []) (fun i=>n-i) 0 (qB (qB (ka.eq .refl) O) O) ⟨O1,hp⟩ ?_);clear hp;rintro u i w2 ⟨hi,hp⟩;refine tI (fun h2=>?_) fun h2=>?_
 ·refine tM (i+1) ?_;apply Ax;exact qC O he O (hc _ _ hp.Z O1 O1);rintro _ w3 ⟨rfl,hk⟩;have hp:=hp.V hk;refine tD (Aw (m+(i+1):Nat) _ O1) fun w4 hp=>?_;refine tD (Bc (D6 m i) (m+(i+1)) _ (S9 O1) (Fit.small O1)) fun w5 hp=>?_;exact If
 obtain rfl:i=n:=O1;exact nj
theorem c37(a b i p q w)(hp:w.cell? ⟨p,0,none⟩=some (Iv a))(hq:w.cell? ⟨q,0,none⟩=some (Iv b))(h:0≤b∧b≤a∧0≤i∧i≤b∧a≤1000):
  Rk 174 [Iv i,.pointer (Ad p),.pointer (Ad q)] w (Iv (a-b+i)):=by
 refine tW func174 ntmps174 fun hp=>?_;refine tB ?_;refine tB ?_;exact nj
theorem c42(i w):Rk 175 [Iv i] w (Iv i):=by
 refine tW func175 ntmps175 fun hp=>?_;exact nj
theorem Ik(n:Nat)(w:World)(hn:n≤100):Rk 106 [Iv (n:Int)] w (.string (ki (uO n))):=by
 refine tW func106 ntmps106 fun hp=>?_;refine jL ?_;refine qH O O1 (fun _=>tD (c36 n 0 175 _ _ jSi O1 (fun i w' _ _ _=>km.mono (c42 i w') (fun v w2 h=>⟨O6,h.2⟩))) fun w1 hp=>?_);refine tV ?_;exact⟨_,O,by rw[Tm];rfl,hp.Z⟩
theorem Bz(n k:Int)(w:World)(hn:n≤100∨n>1000):Rk 105 [Iv n,Iv k] w (.string (ki (AO n k))):=by
 refine tW func105 ntmps105 fun hp=>?_;refine GM fun w _ b hp=>xD O (fun h=>?_) (fun h=>?_)
 ·have hz:AO n k=0:=jHt O6;refine tL (Aw 0 _ O2) ?_;rintro _ w1 ⟨rfl,hk⟩;have hp:=hp.V hk;refine tV ?_;exact⟨_,O,by rw[hz];rfl,hp.Z⟩
 have h0:0≤k∧k≤n∧n≤100:=by simp at h;omega
 obtain⟨N,rfl⟩:∃N:Nat,n=N:=⟨n.toNat,O1⟩;obtain⟨K,rfl⟩:∃K:Nat,k=K:=⟨k.toNat,O1⟩;rw[Gx O1];obtain⟨K',ni⟩:∃K':Nat,K'=min K (N-K):=⟨_,O⟩;have nh:ch N K=ch N K':=by
  rw[ni];rcases Nat.le_total K (N-K) with h|h
  ·grind
  rw[Nat.min_eq_right h,jLe O1]
 refine tM (N-K) ?_;refine ke (Gt O O) (qF (b:=K') O1) (Cc fun w hp=>?_)
 have hq:w.cell? ⟨_,0,_⟩=some (.int _ _):=hp.J 0 O O;have ng:w.cell? ⟨_,0,_⟩=some (.int _ _):=hp.J 1 O O;refine tC (c36 K' (N-K') 174 _ _ jSj O1 (fun i w' hk h1 h2=>km.mono (c37 N K' i _ _ w' (hk.cell ng O4) (hk.cell hq O4) O1) (fun v w2 h=>⟨O6,h.2⟩))) fun w1 hp=>?_;refine tD (Ik K' _ O1) fun w2 hp=>?_;apply Ax;exact qC O qMx O (ME _ _ _ (S9 O1) (Jp O1) (Fl _));rintro _ w3 ⟨rfl,hk⟩;have hp:=hp.V hk;rw[jDd O1,←nh];exact nj
end
variable{a:Nat}{bt:Nat→Nat}
def rr(x n:Nat):Nat:=(x/2^n)|||(x*2^(32-n)%4294967296)
def g0(x:Nat):Nat:=(rr x 7^^^rr x 18)^^^(x/2^3)
def g1(y:Nat):Nat:=(rr y 17^^^rr y 19)^^^(y/2^10)
def f1(e:Nat):Nat:=(rr e 6^^^rr e 11)^^^rr e 25
def f0(a:Nat):Nat:=(rr a 2^^^rr a 13)^^^rr a 22
def wg(e f g:Nat):Nat:=(e&&&f)^^^((4294967295-e)&&&g)
def mj(a b c:Nat):Nat:=((a&&&b)^^^(a&&&c))^^^(b&&&c)
theorem uQ(ha:a<4294967296)(hb:b<4294967296):a^^^b<4294967296:=Nat.xor_lt_two_pow (n:=32) ha hb
theorem jMo(ha:a<4294967296)(hb:b<4294967296):a|||b<4294967296:=Nat.or_lt_two_pow (n:=32) ha hb
theorem Je(ha:a<4294967296):a&&&b<4294967296:=bW Nat.and_le_left ha
theorem qJg(ha:a<4294967296):a/2^n<4294967296:=bW (iH a _) ha
theorem EC(a):a%4294967296<4294967296:=O1
theorem vV{x}(h:x<4294967296)(n):rr x n<4294967296:=jMo (qJg h) (EC _)
structure St where
 a:Nat
 b:Nat
 c:Nat
 d:Nat
 e:Nat
 f:Nat
 g:Nat
 h:Nat
structure Ok(s:St):Prop where
 a:s.a<4294967296
 b:s.b<4294967296
 c:s.c<4294967296
 d:s.d<4294967296
 e:s.e<4294967296
 f:s.f<4294967296
 g:s.g<4294967296
 h:s.h<4294967296
def t1(k w:Nat)(s:St):Nat:=(((s.h+f1 s.e)%4294967296+wg s.e s.f s.g)%4294967296+k)%4294967296+w
def T1(k w:Nat)(s:St):Nat:=t1 k w s%4294967296
def T2(s:St):Nat:=(f0 s.a+mj s.a s.b s.c)%4294967296
def Nx(k w:Nat)(s:St):St:=⟨(T1 k w s+T2 s)%4294967296,s.a,s.b,s.c,(s.d+T1 k w s)%4294967296,s.e,s.f,s.g⟩
theorem Ok.rnd{s}(h:Ok s)(k w):Ok (Nx k w s):=⟨EC _,h.a,h.b,h.c,EC _,h.e,h.f,h.g⟩
def wp(bt:Nat→Nat)(j:Nat):Nat→Nat
 |0=>0
 |k+1=>(wp bt j k*2^8%4294967296)|||bt (4*j+k)
theorem jLz(hb:∀k,bt k<256)(j):∀k,wp bt j k<4294967296
 |0=>by simp[wp]
 |k+1=>jMo (EC _) O6
theorem qY7(k x b)(h:b<2^k):(x*2^k)|||b=x*2^k+b:=by
 have:=Nat.shiftLeft_add_eq_or_of_lt h x;rw[Nat.shiftLeft_eq] at this;omega
def wf(bt:Nat→Nat)(n:Nat):Nat:=
 if n<16 then wp bt n 4 else(((wf bt (n-16)+g0 (wf bt (n-15)))%4294967296+wf bt (n-7))%4294967296+g1 (wf bt (n-2)))%4294967296
termination_by n
decreasing_by all_goals omega
theorem Vp(bt){n}(h:n<16):wf bt n=wp bt n 4:=by rw[wf,if_pos h]
theorem Vo(bt){n}(h:16≤n):wf bt n=(((wf bt (n-16)+g0 (wf bt (n-15)))%4294967296+wf bt (n-7))%4294967296+g1 (wf bt (n-2)))%4294967296:=by rw[wf,if_neg O1]
theorem jUv(hb:∀k,bt k<256)(n):wf bt n<4294967296:=by
 rcases lU n 16 with h|h
 ·rw[Vp bt h];exact jLz hb _ _
 rw[Vo bt h];omega
def K64:List Nat:=[0x428a2f98,0x71374491,0xb5c0fbcf,0xe9b5dba5,0x3956c25b,0x59f111f1,0x923f82a4,0xab1c5ed5,
 0xd807aa98,0x12835b01,0x243185be,0x550c7dc3,0x72be5d74,0x80deb1fe,0x9bdc06a7,0xc19bf174,
 0xe49b69c1,0xefbe4786,0x0fc19dc6,0x240ca1cc,0x2de92c6f,0x4a7484aa,0x5cb0a9dc,0x76f988da,
 0x983e5152,0xa831c66d,0xb00327c8,0xbf597fc7,0xc6e00bf3,0xd5a79147,0x06ca6351,0x14292967,
 0x27b70a85,0x2e1b2138,0x4d2c6dfc,0x53380d13,0x650a7354,0x766a0abb,0x81c2c92e,0x92722c85,
 0xa2bfe8a1,0xa81a664b,0xc24b8b70,0xc76c51a3,0xd192e819,0xd6990624,0xf40e3585,0x106aa070,
 0x19a4c116,0x1e376c08,0x2748774c,0x34b0bcb5,0x391c0cb3,0x4ed8aa4a,0x5b9cca4f,0x682e6ff3,
 0x748f82ee,0x78a5636f,0x84c87814,0x8cc70208,0x90befffa,0xa4506ceb,0xbef9a3f7,0xc67178f2]
def kf(i:Nat):Nat:=K64.getD i 0
def Dt(bt:Nat→Nat)(s:St):Nat→St
 |0=>s
 |i+1=>Nx (kf i) (wf bt i) (Dt bt s i)
theorem Ok.rds{s}(h:Ok s)(bt):∀i,Ok (Dt bt s i)
 |0=>h
 |i+1=>(Ok.rds h bt i).rnd _ _
def Ek(s r:St):St:=⟨(s.a+r.a)%4294967296,(s.b+r.b)%4294967296,(s.c+r.c)%4294967296,(s.d+r.d)%4294967296,(s.e+r.e)%4294967296,(s.f+r.f)%4294967296,(s.g+r.g)%4294967296,(s.h+r.h)%4294967296⟩
theorem Ok.addS(s r):Ok (Ek s r):=⟨EC _,EC _,EC _,EC _,EC _,EC _,EC _,EC _⟩
def Mu(bt:Nat→Nat)(s:St):St:=Ek s (Dt bt s 64)
def Dz:St:=⟨0x6a09e667,0xbb67ae85,0x3c6ef372,0xa54ff53a,0x510e527f,0x9b05688c,0x1f83d9ab,0x5be0cd19⟩
theorem Ok.ini:Ok Dz:=⟨O2,O2,O2,O2,O2,O2,O2,O2⟩
def hs(m:List Nat):Nat→St
 |0=>Dz
 |i+1=>Mu (fun k=>m.getD (64*i+k) 0) (hs m i)
theorem Ok.hs(m):∀i,Ok (hs m i)
 |0=>Ok.ini
 |_+1=>Ok.addS _ _
def IQ(n:Nat):List Nat:=(range 8).map fun i=>n/2^(56-8*i)%256
def Mw(n:Nat):Nat:=(119-n%64)%64
def Lt(s:List Nat):List Nat:=replicate (Mw s.length) 0++IQ (s.length*8)
def pad(s:List Nat):List Nat:=s++128::Lt s
theorem SY(n):(IQ n).length=8:=by simp[IQ]
theorem YL(n):∀d∈IQ n,d<256:=by
 intro d hd;unfold IQ at hd;grind
theorem YX(s):(pad s).length=s.length+9+Mw s.length:=by
 simp[pad,Lt,aY,cF,lM,SY];omega
theorem jJw(s):(pad s).length%64=0:=by
 rw[YX];unfold Mw;omega
def wd(s:St)(j:Nat):Nat:=[s.a,s.b,s.c,s.d,s.e,s.f,s.g,s.h].getD j 0
def fin(s:List Nat):St:=hs (pad s) ((pad s).length/64)
def DO(s:List Nat)(i:Nat):Nat:=wd (fin s) (i/4)/2^(24-i%4*8)%256
theorem qQ3(s i):DO s i<256:=dY _ O2
def Nh(s:List Nat):List Nat:=(range 32).map (DO s)
theorem jJa(s):(Nh s).length=32:=by simp[Nh]
variable{d:Option Tmp}{f:Fr}{g:Option (Nat×Bool)}{t t':Nat}{w':World}{y:Operand}
section
def u(x:Nat):Value:=.int .u32 (x:Int)
def sv(s:St):List Value:=[u s.a,u s.b,u s.c,u s.d,u s.e,u s.f,u s.g,u s.h]
structure Ai(w:World):Prop where
 first:∀j v,(sv Dz)[j]? =some v→w.cell? ⟨0,0+j,none⟩=some v
 pow:∃t r,w.heap[2]? =some (.cells (Lib.pow10Tab.map fun z=>Value.int .u64 z).toArray t r)
 cons:∀i,i<64→w.cell? ⟨1,0+i*1,none⟩=some (u (kf i))
theorem Ai.j1(h:Ai w)(hk:ax [] w w'):Ai w':=
 ⟨fun j v hv=>hk.cell (h.first j v hv) O4,by
  have⟨t,r,hb⟩:=h.pow
  exact⟨t,r,(hk.block 2 O6 O4).trans hb⟩,fun i hi=>hk.cell (h.cons i hi) O4⟩
theorem O9(h:a≤b):Nat.ble a b=true:=nU h
theorem KE{g}(h:∀i,i<m→f i=g i):bu b m f t=bu b m g t:=by
 have:(Array.ofFn (n:=m) fun i=>f i)=Array.ofFn (n:=m) fun i=>g i:=by
  apply rH
  ·simp
  intro i h1 h2;simp only[nM];exact h i (by simpa using h1)
 unfold bu GS;rw[this]
section
variable{n:ky}{pos:String}{x:Operand}
theorem jOk{k a}(hx:ev n F x= .int k a):PV P n w F ⟨d,.unOp .neg t x,ty,pos,aft,g⟩ (.int k (k.wrap (-a))):=by
 simp[PV,execOp,hx,Op.unary,Op.intArith]
theorem jDw(hx:ev n F x= .int .u32 (a:Int))(ha:a<4294967296):PV P n w F ⟨d,.unOp .xor t x,ty,pos,aft,g⟩ (u (4294967295-a)):=by
 have h1:(BitVec.ofInt 32 4294967295^^^BitVec.ofInt 32 a).toNat=4294967295-a:=by
  rw[show BitVec.ofInt 32 (4294967295:Int)=BitVec.allOnes 32 from O,BitVec.allOnes_xor,BitVec.toNat_not,kG 32 a ha]
 have h3:=NW (show 4294967295-a<2^32 by omega);simp only[PV,execOp,hx,Op.unary,Op.intBits];show Sem.run P (pure (Next.value (Value.int _ (IntKind.u32.wrap ((BitVec.ofInt 32 4294967295^^^BitVec.ofInt 32 a).toNat))))) w=_
 rw[h1,h3];rfl
theorem YY(hx:ev n F x= .int .u32 (a:Int))(hy:ev n F y= .int .u32 (b:Int))(ha:a<4294967296)(hb:b<4294967296):PV P n w F ⟨d,.binOp .or t x y t',ty,pos,aft,g⟩ (u (a|||b)):=SA hx hy ha hb
theorem uH(hx:ev n F x= .int .u32 (a:Int))(hy:ev n F y= .int .u32 (b:Int))(ha:a<4294967296)(hb:b<4294967296):PV P n w F ⟨d,.binOp .xor t x y t',ty,pos,aft,g⟩ (u (a^^^b)):=by
 have h1:(BitVec.ofInt 32 a^^^BitVec.ofInt 32 b).toNat=a^^^b:=by
  rw[BitVec.toNat_xor,kG 32 a ha,kG 32 b hb]
 have h2:a^^^b<2^32:=O1;have h3:=NW h2;simp only[PV,execOp,hx,hy,eqGuard,binOp,Op.intBits];show Sem.run P (pure (Next.value (Value.int _ (IntKind.u32.wrap ((BitVec.ofInt 32 a^^^BitVec.ofInt 32 b).toNat))))) w=_
 rw[h1,h3];rfl
theorem L4(hx:ev n F x= .int .u32 (a:Int))(hy:ev n F y= .int .u32 (b:Int))(ha:a<4294967296)(hb:b<4294967296):PV P n w F ⟨d,.binOp .and t x y t',ty,pos,aft,g⟩ (u (a&&&b)):=by
 have h1:(BitVec.ofInt 32 a&&&BitVec.ofInt 32 b).toNat=a&&&b:=by
  rw[rM,kG 32 a ha,kG 32 b hb]
 have h2:a&&&b<2^32:=O1;have h3:=NW h2;simp only[PV,execOp,hx,hy,eqGuard,binOp,Op.intBits];show Sem.run P (pure (Next.value (Value.int _ (IntKind.u32.wrap ((BitVec.ofInt 32 a&&&BitVec.ofInt 32 b).toNat))))) w=_
 rw[h1,h3];rfl
end
attribute [local irreducible] PV gx kq kn WP km
theorem zC2(x n:Nat)(w:World)(hx:x<4294967296)(h1:1≤n)(h2:n≤31):
  Rk 374 [u x,Iv (-(n:Int))] w (u (rr x n)):=by
 refine tW func374 ntmps374 fun hp=>?_;refine AP ?_;refine AP ?_;refine ke (zX O O O) (qF (b:=(18446744073709551616-n:Nat)) (by rw[oW];omega)) (ke (S2 (k:=5) O O O1 O O2) (qF (b:=(32-n:Nat)) O1) ?_);refine qA ?_;refine ke (S6 O O O1) (qF O) (qA ?_);refine ke (jN O O) (qF (b:=n) (by rw[oW];omega)) (ke (xP O O (by show n≤32;omega)) (qF O) ?_);refine ke (YY O O (EC _) (qJg hx)) (qF (b:=(rr x n:Nat)) (by rw[rU];rfl)) (tV ?_);exact FM
theorem Gc(x n:Nat)(w:World)(hx:x<4294967296)(h1:1≤n)(h2:n≤31):
  Rk 342 [u x,Iv (n:Int)] w (u (rr x n)):=by
 refine tW func342 ntmps342 fun hp=>?_;refine AP ?_;refine Cj ?_;refine ke (jOk O) (qF (qK O1 O1)) (tC (zC2 x n _ hx h1 h2) fun w1 hp=>?_);exact nj
end
section
open Go.Shelf
def qH3:Go.Shelf.Ren:=⟨fun|156=>195|165=>276|166=>277|169=>279|240=>340|241=>341|276=>372|277=>373|n=>n,fun|31=>62|9=>9|3=>3|4=>4|0=>0|20=>20|72=>350|76=>353|70=>348|37=>190|75=>352|127=>409|164=>431|5=>5|80=>356|n=>n,fun|n=>n⟩
theorem jB9:Go.Proofs.Lays.n156 prog qH3:={
 mixed:=O3
 f156:=func195.trans (aK _ O3)
 f165:=func276.trans (aK _ O3)
 f166:=func277.trans (aK _ O3)
 f169:=func279.trans (aK _ O3)
 f240:=func340.trans (aK _ O3)
 f241:=func341.trans (aK _ O3)
 f276:=func372.trans (aK _ O3)
 f277:=func373.trans (aK _ O3)
 t0:=underlying0
 a0:=isAgg0
 z0:=sizeOf0
 v0:=zeroValue0
 t3:=underlying3
 a3:=isAgg3
 z3:=sizeOf3
 v3:=zeroValue3
 t4:=underlying4
 a4:=isAgg4
 z4:=sizeOf4
 v4:=zeroValue4
 t9:=underlying9
 a9:=isAgg9
 z9:=sizeOf9
 v9:=zeroValue9
 t20:=underlying20
 a20:=isAgg20
 z20:=sizeOf20
 v20:=zeroValue20
 t31:=underlying62
 a31:=isAgg62
 z31:=sizeOf62
 v31:=zeroValue62
 t37:=underlying190
 a37:=isAgg190
 z37:=sizeOf190
 v37:=zeroValue190
 t70:=underlying348
 a70:=isAgg348
 z70:=sizeOf348
 v70:=zeroValue348
 t72:=underlying350
 a72:=isAgg350
 z72:=sizeOf350
 v72:=zeroValue350
 t75:=underlying352
 a75:=isAgg352
 z75:=sizeOf352
 v75:=zeroValue352
 t76:=underlying353
 a76:=isAgg353
 z76:=sizeOf353
 v76:=zeroValue353
 t127:=underlying409
 a127:=isAgg409
 z127:=sizeOf409
 v127:=zeroValue409
 t164:=underlying431
 a164:=isAgg431
 z164:=sizeOf431
 v164:=zeroValue431}
theorem qGs:Proofs.Builder.Extra prog qH3:={
 sizeBuilder:=O3
 liesBuilder:=O3
 t5:=underlying5
 a5:=isAgg5
 z5:=sizeOf5
 v5:=zeroValue5
 infoByte:=O3
 cellsByte:=O3
 sizeByte:=O3
 neB5:=O2}
def qMl:Go.Shelf.Ren:=⟨fun|171=>92|243=>156|246=>205|283=>286|284=>287|285=>288|286=>289|129=>144|317=>343|318=>344|319=>345|320=>346|337=>375|338=>376|n=>n,fun|3=>3|9=>9|2=>2|4=>4|171=>362|0=>0|53=>139|37=>190|5=>5|173=>364|212=>414|51=>208|20=>20|213=>415|46=>156|232=>283|233=>447|n=>n,fun|17=>2|18=>6|19=>7|n=>n⟩
theorem qW5:Go.Proofs.LaysM.n171 prog qMl:={
 mixed:=O3
 f129:=func144.trans (aK _ O3)
 f171:=func92.trans (aK _ O3)
 f243:=func156.trans (aK _ O3)
 f246:=func205.trans (aK _ O3)
 f283:=func286.trans (aK _ O3)
 f284:=func287.trans (aK _ O3)
 f285:=func288.trans (aK _ O3)
 f286:=func289.trans (aK _ O3)
 f317:=func343.trans (aK _ O3)
 f318:=func344.trans (aK _ O3)
 f319:=func345.trans (aK _ O3)
 f320:=func346.trans (aK _ O3)
 f337:=func375.trans (aK _ O3)
 f338:=func376.trans (aK _ O3)
 t0:=underlying0
 a0:=isAgg0
 z0:=sizeOf0
 v0:=zeroValue0
 t2:=underlying2
 a2:=isAgg2
 z2:=sizeOf2
 v2:=zeroValue2
 t3:=underlying3
 a3:=isAgg3
 z3:=sizeOf3
 v3:=zeroValue3
 t4:=underlying4
 a4:=isAgg4
 z4:=sizeOf4
 v4:=zeroValue4
 t5:=underlying5
 a5:=isAgg5
 z5:=sizeOf5
 v5:=zeroValue5
 t9:=underlying9
 a9:=isAgg9
 z9:=sizeOf9
 v9:=zeroValue9
 t20:=underlying20
 a20:=isAgg20
 z20:=sizeOf20
 v20:=zeroValue20
 t37:=underlying190
 a37:=isAgg190
 z37:=sizeOf190
 v37:=zeroValue190
 t46:=underlying156
 a46:=isAgg156
 z46:=sizeOf156
 v46:=zeroValue156
 t51:=underlying208
 a51:=isAgg208
 z51:=sizeOf208
 v51:=zeroValue208
 t53:=underlying139
 a53:=isAgg139
 z53:=sizeOf139
 v53:=zeroValue139
 t171:=underlying362
 a171:=isAgg362
 z171:=sizeOf362
 v171:=zeroValue362
 t173:=underlying364
 a173:=isAgg364
 z173:=sizeOf364
 v173:=zeroValue364
 t212:=underlying414
 a212:=isAgg414
 z212:=sizeOf414
 v212:=zeroValue414
 t213:=underlying415
 a213:=isAgg415
 z213:=sizeOf415
 t232:=underlying283
 a232:=isAgg283
 z232:=sizeOf283
 v232:=zeroValue283
 t233:=underlying447
 a233:=isAgg447
 z233:=sizeOf447
 v233:=zeroValue447
 g17:=O3
 g18:=O3
 g19:=O3
 i0:=O3
 i2:=O3
 i3:=O3
 i4:=O3
 i5:=O3
 i9:=O3
 i20:=O3
 i37:=O3
 i46:=O3
 i51:=O3
 i53:=O3
 i171:=O3
 i173:=O3
 i212:=O3
 i232:=O3
 i233:=O3
 m17:=O3
 m18:=O3
 m19:=O3}
def qH4:Go.Shelf.Ren:=⟨fun|105=>193|212=>274|99=>275|165=>276|166=>277|170=>278|169=>279|263=>337|264=>338|206=>339|240=>340|241=>341|276=>372|277=>373|n=>n,fun|9=>9|3=>3|4=>4|20=>20|0=>0|46=>156|109=>345|5=>5|72=>350|76=>353|51=>208|146=>405|53=>139|148=>407|70=>348|37=>190|75=>352|127=>409|164=>431|80=>356|n=>n,fun|n=>n⟩
theorem jBa:Go.Proofs.Lays.n105 prog qH4:={
 mixed:=O3
 f99:=func275.trans (aK _ O3)
 f105:=func193.trans (aK _ O3)
 f165:=func276.trans (aK _ O3)
 f166:=func277.trans (aK _ O3)
 f169:=func279.trans (aK _ O3)
 f170:=func278.trans (aK _ O3)
 f206:=func339.trans (aK _ O3)
 f212:=func274.trans (aK _ O3)
 f240:=func340.trans (aK _ O3)
 f241:=func341.trans (aK _ O3)
 f263:=func337.trans (aK _ O3)
 f264:=func338.trans (aK _ O3)
 f276:=func372.trans (aK _ O3)
 f277:=func373.trans (aK _ O3)
 t0:=underlying0
 a0:=isAgg0
 z0:=sizeOf0
 v0:=zeroValue0
 t3:=underlying3
 a3:=isAgg3
 z3:=sizeOf3
 v3:=zeroValue3
 t4:=underlying4
 a4:=isAgg4
 z4:=sizeOf4
 v4:=zeroValue4
 t5:=underlying5
 a5:=isAgg5
 z5:=sizeOf5
 v5:=zeroValue5
 t9:=underlying9
 a9:=isAgg9
 z9:=sizeOf9
 v9:=zeroValue9
 t20:=underlying20
 a20:=isAgg20
 z20:=sizeOf20
 v20:=zeroValue20
 t37:=underlying190
 a37:=isAgg190
 z37:=sizeOf190
 v37:=zeroValue190
 t46:=underlying156
 a46:=isAgg156
 z46:=sizeOf156
 v46:=zeroValue156
 t51:=underlying208
 a51:=isAgg208
 z51:=sizeOf208
 v51:=zeroValue208
 t53:=underlying139
 a53:=isAgg139
 z53:=sizeOf139
 v53:=zeroValue139
 t70:=underlying348
 a70:=isAgg348
 z70:=sizeOf348
 v70:=zeroValue348
 t72:=underlying350
 a72:=isAgg350
 z72:=sizeOf350
 v72:=zeroValue350
 t75:=underlying352
 a75:=isAgg352
 z75:=sizeOf352
 v75:=zeroValue352
 t76:=underlying353
 a76:=isAgg353
 z76:=sizeOf353
 v76:=zeroValue353
 t109:=underlying345
 a109:=isAgg345
 z109:=sizeOf345
 v109:=zeroValue345
 t127:=underlying409
 a127:=isAgg409
 z127:=sizeOf409
 v127:=zeroValue409
 t146:=underlying405
 a146:=isAgg405
 z146:=sizeOf405
 v146:=zeroValue405
 t148:=underlying407
 a148:=isAgg407
 z148:=sizeOf407
 v148:=zeroValue407
 t164:=underlying431
 a164:=isAgg431
 z164:=sizeOf431
 v164:=zeroValue431}
theorem qGt:Proofs.Builder.Extra prog qH4:={
 sizeBuilder:=O3
 liesBuilder:=O3
 t5:=underlying5
 a5:=isAgg5
 z5:=sizeOf5
 v5:=zeroValue5
 infoByte:=O3
 cellsByte:=O3
 sizeByte:=O3
 neB5:=O2}
open Go.RowKit Go.Lib Go.Sort
theorem qW4(w k os):ax [] w (grow (w.drewN k) os):=by
 refine⟨O,O,O,?_,fun j hj _=>?_⟩
 ·simp
 show(w.heap++os)[j]? =w.heap[j]?
 grind
theorem jIx(hT:Ai w){nm}(h:prog.globalNamed nm=some 2):Lib.TabIs prog w nm .u64 Lib.pow10Tab:=by
 have⟨t,r,hb⟩:=hT.pow;unfold Lib.TabIs World.var?;grind
def dec(n:Int):ByteArray:=⟨(Lib.itoa n).toArray⟩
theorem PR(n w)(hT:Ai w)(h0:-9223372036854775808≤n)(h1:n≤9223372036854775807):Rk 92 [Iv n] w (.string (dec n)):=by
 refine(Proofs.Any.strconv_Itoa qW5 n h0 h1 w (jIx hT O3)).mono ?_;rintro e w' ⟨rfl,k,os,rfl⟩;exact⟨_,O,O,qW4 _ _ _⟩
theorem zCb(s:ByteArray)(c:Nat)(w:World)(hc:c≤9223372036854775807)(hl:s.size*c≤140737488355328):Rk 193 [.string s,Iv (c:Int)] w (.string ⟨(Lib.repeatL s.data.toList c).toArray⟩):=by
 refine(Proofs.Any.strings_Repeat jBa qGt s c w hc hl).mono ?_;rintro e w' ⟨rfl,h⟩;exact⟨_,O,O,.y9 h⟩
theorem Xz(xs sep bk o c w)(hs:ig w 1 eS (some ⟨bk,o,none⟩) xs)(np:bk<w.heap.size)(hN:xs.length≤1000000)(tx:xs.length≤c)
  (hQ:(Lib.join (xs.map (·.data.toList)) sep.data.toList).length≤140737488355328):
  Rt 195 [.slice (some ⟨bk,o,none⟩) xs.length c,.string sep] w (fun v w'=>v= .string ⟨(Lib.join (xs.map (·.data.toList)) sep.data.toList).toArray⟩∧ax [] w w'):=by
 refine(Proofs.Any.strings_Join jB9 qGs bk o c xs _ w ?_ np O1 tx hQ).mono ?_
 ·intro j x hx;obtain⟨b,o',he,h⟩:=hs j x hx;have h2:=h 0 _ O;grind
 rintro e w' ⟨rfl,h⟩;exact⟨_,O,O,.y9 h⟩
end
variable{R:Ending→World→Prop}{o p:Nat}{v2:Value}
section
theorem Kw(m n):decide (ki m=ki n)=decide (m=n):=by
 by_cases h:m=n
 ·grind
 rw[aB h,aB (fun e=>h (Ss e))]
theorem jYz:ki 1=⟨#[1]⟩:=O
theorem qKs(h:n≠0):0<(ki n).size∧CK (ki n) 0≠0:=by
 rcases Tz (jY 256 n) with h0|⟨m,d,h1⟩
 ·exact absurd ((wO O2).1 h0) h
 have h2:=O0 O2 n m d h1;have h3:d<256:=vQ O2 n d O6;refine⟨by rw[qI9,h1];simp,?_⟩;unfold CK ki;rw[h1];simp;omega
theorem uN{fn:Func}{ty:Nat}{vs:List Value}(h:fn.results= #[.cell p ty,.tmp t])(h1:FJ ty=some k)(hz:ED ty=some k)(hx:ev n F (.tmp p)= .pointer (some ⟨b,o,none⟩))(tg:ev n F (.tmp t)=v2)(hl:vs.length=k)
  (hc:∀(j:Nat) (v:Value),vs[j]? =some v→w.cell? ⟨b,o+j,none⟩=some v):(results fn (act n F).tmps).run prog w= .ok (.tuple #[.agg vs.toArray,v2]) w:=by
 have⟨q,hq,uu⟩:=Mc h1;have hk:=qD hz;subst hl;have:=vN (P:=prog) b o vs 0 #[] (fun j v hv=>by simpa using hc j v hv);have hY:(act n F).tmps.getD p undef= .pointer (some ⟨b,o,none⟩):=by
  rw[←hx,←zF];rfl
 have nq:=by simpa using hY
 have nt:(act n F).tmps.getD t undef=v2:=by
  rw[←tg,←zF];rfl
 have nr:=by simpa using nt
 simp[results,h,nq,nr,asAddr,loadVar,L6 hq uu,loadCells,hk.run,this]
theorem yP{fn:Func}{ty:Nat}(h:fn.results= #[.cell p ty,.tmp t])(h1:FJ ty=some k)(hz:ED ty=some k)(hx:ev n F (.tmp p)= .pointer (some ⟨b,o,none⟩))(tg:ev n F (.tmp t)=v2)
  (hc:∀(j:Nat) (v:Value),((range k).map fun j=>f (o+j))[j]? =some v→w.cell? ⟨b,o+j,none⟩=some v) (hr:R (.returned (.tuple #[.agg ((range k).map fun j=>f (o+j)).toArray,v2])) w):Gh prog n fn R .ret F w:=
 ⟨_,uN h h1 hz hx tg O4 hc,hr⟩
attribute [local irreducible] PV gx kq kn WP km
attribute [local irreducible] Fit
end
section
def Af(x:Nat):Prop:=∃k,k≤4000∧x<2^k
theorem Af.of{x}(h:x<2^k)(hk:k≤4000):Af x:=⟨k,hk,h⟩
theorem Af.fit{x}(h:Af x):Fit x:=by
 obtain⟨k,h1,h2⟩:=h;exact⟨k,O1,h2⟩
theorem Af.le{x y}(h:Af y)(hk:x≤y):Af x:=by
 have⟨k,h1,h2⟩:=h;exact⟨k,h1,O1⟩
theorem Af.d8{x}(h:Af x):(jY 256 x).length≤100000:=by
 have⟨k,h1,h2⟩:=h;exact bF (PN O2 (dK h2 (uX O2 k))) O1
theorem Af.small{x}(h:x<18446744073709551616):Af x:=Af.of (k:=64) O1 O2
theorem Af.div{x y}(h:Af x):Af (x/y):=h.le (iH x y)
theorem Af.mod{x y}(h:Af x):Af (x%y):=h.le (JJ x y)
def QG(st:ByteArray)(x:Nat):Prop:=∃br:List Nat,st=bs br∧Bd 256 br∧br.length≤100000∧x=val 256 br.reverse
theorem QG.ns{st x}(h:QG st x):NS st x:=by
 have⟨br,h1,h2,h3,h4⟩:=h;exact⟨br,h1,h2,O1,h4⟩
theorem QG.self{x}(h:Af x):QG (ki x) x:=
 ⟨_,JV x,Bd.rev (vQ O2 x),by rw[sZ];exact h.d8,by rw[mX,yX O2]⟩
section
variable{pos:String}{x:Operand}
end
attribute [local irreducible] PV gx kq kn WP km
attribute [local irreducible] Af
end
section
def eD(d:Nat):List Value:=[Iv (d:Int)]
attribute [local irreducible] PV gx kq kn WP km
attribute [local irreducible] Af
end
section
section
variable{pos:String}{x:Operand}{a b:ByteArray}
end
attribute [local irreducible] PV gx kq kn WP km
attribute [local irreducible] Af
end
attribute [local irreducible] PV gx kq kn WP km Fit
section
theorem qY2{pos:String}{x}(hx:ev n F x=Iv (a:Int))(hy:ev n F y=Iv (b:Int))(hb:0<b):PV prog n w F ⟨d,.binOp .rem t x y t',ty,pos,aft,g⟩ (Iv ((a%b:Nat):Int)):=mCf
attribute [local irreducible] Af
end
section
attribute [local irreducible] Af
end
section
attribute [local irreducible] Af
end
section
attribute [local irreducible] Af val
end
section
attribute [local irreducible] Af ki
end
section
def u8(x:Nat):Value:=.int .u8 (x:Int)
def wA(bt:Nat→Nat)(i:Nat):Fr:=fun j=>u (wp bt j (min 4 (i-4*j)))
def wB(bt:Nat→Nat)(i:Nat):Fr:=fun j=>if j<i then u (wf bt j) else u 0
theorem qMp(v m){j}(h:j<m):qE (replicate m v) j=v:=by
 rw[uA,aC,nG,if_pos h];rfl
theorem jIt(bt j)(h:j<64):qE (replicate 64 (u 0)) j=wA bt 0 j:=by
 rw[qMp _ _ h];unfold wA;rw[Nat.zero_sub,Nat.min_zero];rfl
theorem jV0(bt i):wA bt i (0+i/4*1)=u (wp bt (i/4) (i%4)):=by
 unfold wA;grind
theorem jIu:uT (wA bt i) (0+i/4*1) [u ((wp bt (i/4) (i%4)*2^8%4294967296)|||bt i)]=wA bt (i+1):=by
 funext j;show(Fr.put _ _ _) j=_
 unfold Fr.put;by_cases h:j=0+i/4*1
 ·rw[h,Nat.beq_refl];show _=u _
  rw[show min 4 _=i%4+1 by omega,show 0+i/4*1=i/4 by omega];show u _=u ((wp bt _ _*2^8%4294967296)|||bt _)
  grind
 rw[jJ h];show u _=u _
 grind
theorem jNn(bt j)(_:j<64):wA bt 64 j=wB bt 16 j:=by
 unfold wA wB;by_cases h:j<16
 ·rw[if_pos h,Vp bt h,show min 4 _=4 by omega]
 rw[if_neg h,show min 4 _=0 by omega];rfl
theorem jM3(bt){i k}(h:k<i):wB bt i (0+k*1)=u (wf bt k):=by
 unfold wB;grind
theorem jIs{v}(hv:v=u (wf bt i)):uT (wB bt i) (0+i*1) [v]=wB bt (i+1):=by
 subst hv;funext j;show(Fr.put _ _ _) j=_
 unfold Fr.put wB;by_cases h:j=0+i*1
 ·subst h;simp
 rw[jJ h];grind
attribute [local irreducible] rr
theorem jWe(s st bt w)(hs:Ok s)(hb:∀k,bt k<256)(xy:∀k,k<64→CK st k=(bt k:Int))(ha:64≤st.size)(hT:Ai w):
  Rk 284 [.agg (sv s).toArray,.string st] w (.agg (sv (Mu bt s)).toArray):=by
 have n4:=jLz hb
 have n2:=jUv hb
 refine tW func284 ntmps284 fun hp=>?_;refine qR (tF (kW (cs:=sv s) (m:=8) hp O O O) fun w1 sb hp=>?_);refine tF (zE (cs:=replicate 8 (u 0)) (m:=8) hp (qJ O) O O) fun w2 rb hp=>qR (tF (zE (cs:=replicate 64 (u 0)) (m:=64) hp (qJ O) O O) fun w3 wb hp=>?_);rw[KE (jIt bt)] at hp;refine qA (qQ ([6]++List.range' 23 17) (fun(i:Nat) F=>F.put 23 (.int _ i))
  (fun i w'=>i≤64∧Hp w [] w' [bu wb 64 (wA bt i) 410,bu rb 8 _ 359,bu sb 8 _ 359]) (fun i=>64-i) 0
  (qB (ka.eq .refl) O) ⟨O1,hp⟩ ?_)
 clear hp;rintro u0 i w4 ⟨hi,hp⟩;refine tI (fun h=>?_) fun h=>?_
 ·have hi:i<64:=O1;have n0:=hb i;have hF:=xy i hi;have n9:i<st.size:=O1;have hq:i/4<64:=O1;have nu:∀w',Hp w [] w' [bu wb 64 (wA bt i) 410,bu rb 8 (qE (replicate 8 (u 0))) 359,bu sb 8 (qE (sv s)) 359]→w'.cell? ⟨wb,0+i/4*1,none⟩=some (u (wp bt (i/4) (i%4))):=by
   intro w' hp;rw[hp.J 0 O (yQ O1),jV0]
  refine qA ?_;refine jU jG O3 (fun w'=>Hp w [] w' _) hp.U ?_;have hp:=hp.U;refine qX ?_;refine kp O (fun w hp=>Gr O O O2) (qF (I8 4 O1)) (qX ?_);refine kp O (fun w hp=>Gr O O O2) (qF (I8 4 O1)) (tP (fun w hp=>jS O O O hq) ?_);refine kp O (fun w hp=>qS O O (nu w hp)) (qF O) (kp O (fun w hp=>S6 (b:=8) O O O2) (qF O) ?_);refine tP (fun w hp=>qP) (tP (fun w hp=>qP) ?_);refine kp O (fun w hp=>zY O O O n9) (qF hF) (kp O (fun w hp=>vB O O O) (qF (b:=(bt i:Nat)) O1) ?_);refine kp O (fun w hp=>YY O O (EC _) O1) (qF O) (tP (fun w hp=>jS O O O hq) ?_);apply xH;rfl;rfl;exact zH (cs:=[u _]) hp 0 O O O O (qD O) (O9 O6) O;rintro _ w5 ⟨rfl,hp⟩;rw[jIu] at hp;exact Mn
 obtain rfl:i=64:=O1;clear h hi;rw[KE (jNn bt)] at hp;refine qA (qQ ([7,8,9,10,11]++List.range' 40 43) (fun(i:Nat) F=>F.put 7 (.int _ i))
  (fun i w'=>16≤i∧i≤64∧Hp w [] w' [bu wb 64 (wB bt i) 410,_,_]) (fun i=>64-i) 16
  (qB (ka.eq .refl) O) ⟨O1,O1,hp⟩ ?_)
 clear hp;rintro u1 i w4 ⟨n8,hi,hp⟩;refine tI (fun h=>?_) fun h=>?_
 ·have hi:i<64:=O1;have nu:∀k,k<i→∀w',Hp w [] w' [bu wb 64 (wB bt i) 410,bu rb 8 (qE (replicate 8 (u 0))) 359,bu sb 8 (qE (sv s)) 359]→w'.cell? ⟨wb,0+k*1,none⟩=some (u (wf bt k)):=by
   intro k hk w' hp;rw[hp.J 0 O (yQ O1),jM3 bt hk]
  have hX:=n2 (i-15);have hY:=n2 (i-2);have nz:=Vo bt n8;refine qA ?_;refine jU jG O3 (fun w'=>Hp w [] w' _) hp.U ?_;have hp:=hp.U;refine tP (fun w hp=>qP) ?_;refine tN (i-15) ?_;refine tP (fun w hp=>jS O O O O1) ?_;refine tP (fun w hp=>qS O O (nu _ O1 w hp)) (tP (fun w hp=>qP) ?_);refine tN (i-2) ?_;refine tP (fun w hp=>jS O O O O1) ?_;refine tP (fun w hp=>qS O O (nu _ O1 w hp)) (tP (fun w hp=>qY) ?_);refine tP (fun w hp=>qY) (qU ?_);refine qR ?_;refine tR qP (tK (Gc _ 7 _ hX O2 O2) ?_);rintro _ w5 ⟨rfl,hk⟩;have hp:=hp.V hk;clear hk;refine tR qP (tK (Gc _ 18 _ hX O2 O2) ?_);rintro _ w5 ⟨rfl,hk⟩;have hp:=hp.V hk;refine tR (uH O O (vV hX _) (vV hX _)) (tR qP ?_);refine tR (xP (b:=3) O O O2) ?_;refine tR (uH O O (uQ (vV hX _) (vV hX _)) O1) ?_;refine tR qY (qR ?_);refine tR qP (tK (Gc _ 17 _ hY O2 O2) ?_);rintro _ w5 ⟨rfl,hk⟩;have hp:=hp.V hk;refine tR qP (tK (Gc _ 19 _ hY O2 O2) ?_);rintro _ w5 ⟨rfl,hk⟩;have hp:=hp.V hk;refine tR (uH O O (vV hY _) (vV hY _)) (tR qP ?_);refine tR (xP (b:=10) O O O2) ?_;refine tR (uH O O (uQ (vV hY _) (vV hY _)) O1) ?_;refine tR qY (qR ?_);refine jU jG O3 (fun w'=>Hp w [] w' _) hp.U ?_;have hp:=hp.U;refine tP (fun w hp=>qP) (tP (fun w hp=>qP) ?_);refine tN (i-16) ?_;refine tP (fun w hp=>jS O O O O1) ?_;refine tP (fun w hp=>qS O O (nu _ O1 w hp)) (tP (fun w hp=>qP) ?_);refine tP (fun w hp=>xW O O) (tP (fun w hp=>qP) ?_);refine tN (i-7) ?_;refine tP (fun w hp=>jS O O O O1) ?_;refine tP (fun w hp=>qS O O (nu _ O1 w hp)) (tP (fun w hp=>xW O O) ?_);refine tP (fun w hp=>qP) (tP (fun w hp=>xW O O) ?_);refine tP (fun w hp=>jS O O O hi) ?_;apply xH;rfl;rfl;exact zH hp 0 O O O (aK (fun x=>[u x]) nz.symm) (qD O) (O9 O6) O;rintro _ w6 ⟨rfl,hp⟩;rw[jIs O] at hp;refine qU (tB ?_);refine qA ?_;exact⟨i+1,qB O5 O,⟨O1,O1,hp⟩,O1⟩
 obtain rfl:i=64:=O1;clear h hi n8;refine qR ?_;refine jW jG O3 (fun w'=>Hp w [] w' _) hp.U ?_;have hp:=hp.U;refine tP (fun w hp=>jS (i:=0) O O O O2) ?_;refine tP (fun w hp=>qS O O (hp.J 2 O O)) (tP (fun w hp=>jS (i:=1) O O O O2) ?_);refine tP (fun w hp=>qS O O (hp.J 2 O O)) (tP (fun w hp=>jS (i:=2) O O O O2) ?_);refine tP (fun w hp=>qS O O (hp.J 2 O O)) (tP (fun w hp=>jS (i:=3) O O O O2) ?_);refine tP (fun w hp=>qS O O (hp.J 2 O O)) (tP (fun w hp=>qY) ?_);refine tP (fun w hp=>qY) (tP (fun w hp=>qY) ?_);refine tP (fun w hp=>qY) (qU ?_);refine qR ?_;refine jW jG O3 (fun w'=>Hp w [] w' _) hp.U ?_;have hp:=hp.U;refine tP (fun w hp=>jS (i:=4) O O O O2) ?_;refine tP (fun w hp=>qS O O (hp.J 2 O O)) (tP (fun w hp=>jS (i:=5) O O O O2) ?_);refine tP (fun w hp=>qS O O (hp.J 2 O O)) (tP (fun w hp=>jS (i:=6) O O O O2) ?_);refine tP (fun w hp=>qS O O (hp.J 2 O O)) (tP (fun w hp=>jS (i:=7) O O O O2) ?_);refine tP (fun w hp=>qS O O (hp.J 2 O O)) (tP (fun w hp=>qY) ?_);refine tP (fun w hp=>qY) (tP (fun w hp=>qY) ?_);refine tP (fun w hp=>qY) (qU ?_);refine qR ?_;refine qA (qQ ((List.range' 12 11)++range' 99 63) (fun i F=>((((((((F.put 12 (u (Dt bt s i).a)).put 13 (u (Dt bt s i).b)).put 14 (u (Dt bt s i).c)).put 15 (u (Dt bt s i).d)).put 16 (u (Dt bt s i).e)).put 17 (u (Dt bt s i).f)).put 18 (u (Dt bt s i).g)).put 19 (u (Dt bt s i).h)).put 99 (.int _ i))
  (fun i w'=>i≤64∧Hp w [] w' _) (fun i=>64-i) 0
  (qB (qB (qB (qB (qB (qB (qB (qB (qB (ka.eq .refl) O) O) O) O) O) O) O) O) O) ⟨O1,hp⟩ ?_)
 clear hp;rintro u2 i w4 ⟨hi,hp⟩;have hr:=hs.rds bt i;have nv:Dt bt s (i+1)=Nx _ _ _:=O;have tw:∀h:i=64,Mu bt s=Ek s (Dt bt s i):=fun h=>by subst h;rfl
 generalize Dt bt s i=r at hr nv tw⊢;refine tI (fun h=>?_) fun h=>?_
 ·have hi:i<64:=O1;have nu:∀w',Hp w [] w' [bu wb 64 (wB bt 64) 410,bu rb 8 (qE (replicate 8 (u 0))) 359,bu sb 8 (qE (sv s)) 359]→w'.cell? ⟨wb,0+i*1,none⟩=some (u (wf bt i)):=by
   intro w' hp;rw[hp.J 0 O (yQ O1),jM3 bt hi]
  have ny:=hr.e;have nw:=hr.a;refine qA ?_;refine jW jG O3 (fun w'=>Hp w [] w' _) hp.U ?_;have hp:=hp.U;refine tP (fun w hp=>qP) (tP (fun w hp=>qP) ?_);refine tK (Gc _ 6 _ ny O2 O2) ?_;rintro _ w5 ⟨rfl,hk⟩;have hp:=hp.V hk;clear hk;refine⟨hp,tP (fun w hp=>qP) (tK (Gc _ 11 _ ny O2 O2) ?_)⟩;rintro _ w5 ⟨rfl,hk⟩;have hp:=hp.V hk;clear hk;refine⟨hp,tP (fun w hp=>uH O O (vV ny _) (vV ny _)) (tP (fun w hp=>qP) ?_)⟩;refine tK (Gc _ 25 _ ny O2 O2) ?_;rintro _ w5 ⟨rfl,hk⟩;have hp:=hp.V hk;clear hk;refine⟨hp,tP (fun w hp=>uH O O (uQ (vV ny _) (vV ny _)) (vV ny _)) (tP (fun w hp=>xW O O) ?_)⟩;refine tP (fun w hp=>qP) (tP (fun w hp=>qP) ?_);refine tP (fun w hp=>L4 O O hr.e hr.f) (tP (fun w hp=>qP) ?_);refine tP (fun w hp=>jDw O ny) (tP (fun w hp=>qP) ?_);refine tP (fun w hp=>L4 O O (bW (Lo _ _) O2) hr.g) ?_;refine tP (fun w hp=>uH O O (Je hr.e) (Je (bW (Lo _ _) O2))) (tP (fun w hp=>xW O O) ?_);refine tP (fun w hp=>qP) (tP (fun w hp=>jS O O O hi) ?_);refine tP (fun w hp=>qS O O ((hT.j1 hp.Z).cons i hi)) (tP (fun w hp=>xW O O) ?_);refine tP (fun w hp=>qP) (tP (fun w hp=>jS O O O hi) ?_);refine tP (fun w hp=>qS O O (nu _ hp)) (tP (fun w hp=>xW O O) ?_);refine kp O (fun w hp=>qY) (qF (b:=(T1 (kf i) (wf bt i) r:Nat)) O) (qU ?_);refine qR ?_;refine tR qP (tK (Gc _ 2 _ nw O2 O2) ?_);rintro _ w5 ⟨rfl,hk⟩;have hp:=hp.V hk;clear hk;refine tR qP (tK (Gc _ 13 _ nw O2 O2) ?_);rintro _ w5 ⟨rfl,hk⟩;have hp:=hp.V hk;clear hk;refine tR (uH O O (vV nw _) (vV nw _)) (tR qP ?_);refine tK (Gc _ 22 _ nw O2 O2) ?_;rintro _ w5 ⟨rfl,hk⟩;have hp:=hp.V hk;clear hk;refine tR (uH O O (uQ (vV nw _) (vV nw _)) (vV nw _)) (tR qP ?_);refine tR qP (tR (L4 O O hr.a hr.b) ?_);refine tR qP (tR qP ?_);refine tR (L4 O O hr.a hr.c) (tR (uH O O (Je hr.a) (Je hr.a)) ?_);refine tR qP (tR qP ?_);refine tR (L4 O O hr.b hr.c) (tR (uH O O (uQ (Je hr.a) (Je hr.a)) (Je hr.b)) ?_);refine tR (xW O O) ?_;refine ke qY (qF (b:=(T2 r:Nat)) O) (qR ?_);refine tR qP (tR qP ?_);refine tR qP (tR qY ?_);refine tR qY (tR qY ?_);refine qR ?_;refine tR qP (tR qP ?_);refine tR (xW O O) ?_;refine tR qY (qR ?_);refine tR qP (tR qP ?_);refine tR qP (tR qY ?_);refine tR qY (tR qY ?_);refine qR ?_;refine tR qP (tR qP ?_);refine tR (xW O O) ?_;refine tR qY (tB ?_);refine qA ?_;refine⟨i+1,?_,⟨O1,hp⟩,O1⟩;rw[nv];exact qB (qB (qB (qB (qB O5 O) O) O) O) O
 have hi:i=64:=O1;rw[tw hi];clear h tw nv hi;refine qR ?_;refine tR (jS (i:=0) O O O O2) ?_;refine tR (qS O O (hp.J 2 O O)) (tR qP ?_);refine tR (xW O O) (tR (jS (i:=1) O O O O2) ?_);refine tR (qS O O (hp.J 2 O O)) (tR qP ?_);refine tR (xW O O) (tR (jS (i:=2) O O O O2) ?_);refine tR (qS O O (hp.J 2 O O)) (tR qP ?_);refine tR (xW O O) (tR (jS (i:=3) O O O O2) ?_);refine tR (qS O O (hp.J 2 O O)) (tR qP ?_);refine tR (xW O O) (tR (jS (i:=4) O O O O2) ?_);refine tR (qS O O (hp.J 2 O O)) (tR qP ?_);refine tR (xW O O) (tR (jS (i:=5) O O O O2) ?_);refine tR (qS O O (hp.J 2 O O)) (tR qP ?_);refine tR (xW O O) (tR (jS (i:=6) O O O O2) ?_);refine tR (qS O O (hp.J 2 O O)) (tR qP ?_);refine tR (xW O O) (tR (jS (i:=7) O O O O2) ?_);refine tR (qS O O (hp.J 2 O O)) (tR qP ?_);refine tR (xW O O) ?_;refine ke (qQt O O O O O O) (O:_=Value.agg (sv (Ek s r)).toArray) (tO (zH (cs:=sv _) hp 1 O O O O (qD O) O O) fun w6 hp=>?_);refine qA ?_;exact Uy
end
variable{h:Nat}{q':IntKind}
def bl(s:ByteArray):List Nat:=s.data.toList.map UInt8.toNat
theorem vG(s):(bl s).length=s.size:=by
 unfold bl;simp
theorem jYe(s):∀d∈bl s,d<256:=by
 intro d hd;obtain⟨x,_,rfl⟩:=bM.1 hd;exact x.toNat_lt
theorem jN8(s i):CK s i=(((bl s).getD i 0:Nat):Int):=by
 unfold CK bl;rw[aC,bH];cases s.data.toList[i]?<;>rfl
theorem YE(h:∀d∈l,d<256)(i:Nat):l.getD i 0<256:=by
 rw[aC];cases hx:l[i]? with
 |none=>decide
 |some v=>exact h v (aG hx)
theorem Kj(a b):bl (a++b)=bl a++bl b:=by
 unfold bl;simp
theorem NO(s a b):bl (s.extract a b)=((bl s).take b).drop a:=by
 unfold bl;rw[ByteArray.data_extract,Array.toList_extract,List.extract_eq_take_drop,←pI,←List.map_drop,List.drop_take]
section
variable{n:ky}{pos:String}{x z:Operand}
theorem Z6{l:Nat}{q:IntKind}{s:ByteArray}(ht:P.underlying t=some .string)(hx:ev n F x= .string s)(hy:ev n F y= .int q l)(hz:ev n F z= .int q' h)(hl:l≤h)(hh:h≤s.size):
  PV P n w F ⟨d,.slice t x (some y) (some z) none,ty,pos,aft,g⟩ (.string (s.extract l h)):=by
 have hb:=yO (P:=P) (w:=w) (c:=.sliceB) hy hl;have et:=yO (P:=P) (w:=w) (c:=.sliceAlen) hz hh;simp[PV,execOp,Instr.sliceAt,Instr.slice,hx,jQ ht,Instr.sliceBounds,hb,et]
theorem qTe{e}(h:JR t=some (m,e,k))(hx:ev n F x= .pointer (Ad b)):PV prog n w F ⟨d,.slice t x none none none,ty,pos,aft,g⟩ (.slice (Ad b) m m):=by
 have h1:=(KD h).1;have h2:=(KD h).2;simp[PV,execOp,Instr.sliceAt,hx,Instr.sureAddr,jQ h1,Instr.sliceBounds,h2.run,yC]
end
def cB(g:Nat→Nat)(i:Nat):Fr:=fun j=>if j<i then u8 (g j) else u8 0
theorem Yp(g m j)(h:j<m):qE (replicate m (u8 0)) j=cB g 0 j:=by
 rw[qMp _ _ h];unfold cB;simp
theorem Yo{g}:uT (cB g i) (0+i*1) [u8 (g i)]=cB g (i+1):=by
 funext j;show(Fr.put _ _ _) j=_
 unfold Fr.put cB;by_cases h:j=0+i*1
 ·subst h;simp
 rw[jJ h];grind
theorem qNa(ns)(h:∀d∈ns,d<256):bl (kN (ns.map fun(x:Nat)=>(x:Int)))=ns:=by
 rw[qN8];show((ns.map UInt8.ofNat)).map _=ns
 rw[iU];exact(lF (fun d hd=>by show(UInt8.ofNat d).toNat=id d;rw[nO];grind)).trans (Nl _)
theorem jHu(g m):∀(j:Nat) (v:Value),((((range m).map g).map fun(x:Nat)=>(x:Int)).map (Value.int .u8))[j]? =some v→cB g m (0+j)=v:=by
 intro j v hj;rw[bH,bH,bH] at hj;by_cases h:j<m
 ·rw[mE h] at hj;unfold cB;rw[gF,if_pos h];simpa[u8] using hj
 grind
theorem zCa(m:Nat)(w:World)(hm:m<18446744073709551616):Rt 285 [.int .u64 (m:Int)] w (fun v w'=>∃s,v= .string s∧bl s=IQ m∧ax [] w w'):=by
 refine tW func285 ntmps285 fun hp=>?_;refine qA (tF (zE (cs:=replicate 8 (u8 0)) (m:=8) hp (qJ O) O O) fun w1 b hp=>?_);rw[KE (Yp (fun i=>m/2^(56-8*i)%256) 8)] at hp;refine qA (qQ (List.range' 4 13) (fun(i:Nat) F=>F.put 5 (.int _ i))
  (fun i w'=>i≤8∧Hp w [] w' [bu b 8 (cB _ i) 412]) (fun i=>8-i) 0
  (qB (ka.eq .refl) O) ⟨O1,hp⟩ ?_)
 clear hp;rintro u0 i w2 ⟨hi,hp⟩;refine tI (fun h=>?_) fun h=>?_
 ·have hi:i<8:=O1;refine tM (8*i) ?_;refine tN (56-8*i) ?_;refine ke (xP O O (by show 56-8*i≤64;omega)) (qF O) (tR (kC O O O) ?_);refine tR (jS O O O hi) (tO (zH (cs:=[u8 _]) hp 0 O O O O (qD O) (O9 (by show 0+i*1+1≤8;omega)) O) fun w3 hp=>?_);rw[Yo] at hp;exact If
 obtain rfl:i=8:=O1;refine qR (tR (qTe O O) ?_);refine tR (jOy (ns:=(IQ m).map _) O O O O (by rw[aH,SY]) (hp.cells 0 _ O O (jHu _ 8))) ?_;refine tV ?_;exact⟨_,O,_,O,qNa _ (YL m),hp.Z⟩
section
theorem jFn(s){a b j}(h:a+j<b):CK (s.extract a b) j=(((bl s).getD (a+j) 0:Nat):Int):=by
 rw[jN8,NO,aC,aC,nP,List.getElem?_take_of_lt h]
theorem jP0(l){i}(h:i<l.length):(pad l).getD i 0=l.getD i 0:=by
 unfold pad;grind
theorem jE1(l){k}(h:k≤l.length):(pad l).drop k=l.drop k++128::Lt l:=by
 unfold pad;grind
theorem jCh(l):∀d∈Lt l,d<256:=by
 intro d hd;rcases fK.1 hd with h|h
 ·grind
 exact YL _ d h
theorem jOz(h:∀d∈l,d<256):∀d∈pad l,d<256:=by
 intro d hd;rcases fK.1 hd with h2|h2
 ·grind
 rcases aP.1 h2 with rfl|h3
 ·decide
 exact jCh l d h3
theorem jTu(c):bl ⟨(Lib.repeatL (ByteArray.mk #[0]).data.toList c).toArray⟩=replicate c 0:=by
 induction c with
 |zero=>rfl
 |succ c ih=>
  show([0]++Lib.repeatL [0] c).map _=_
  rw[dR,nE];exact aK _ ih
theorem qQl(f s):∀i,i<8→uT f 0 (sv s) i=qE (sv s) i
 |0,_=>rfl
 |1,_=>rfl
 |2,_=>rfl
 |3,_=>rfl
 |4,_=>rfl
 |5,_=>rfl
 |6,_=>rfl
 |7,_=>rfl
 |i+8,h=>O1
theorem jV2(s):∀i,i<8→qE (sv s) (0+i*1)=u (wd s i)
 |0,_=>rfl
 |1,_=>rfl
 |2,_=>rfl
 |3,_=>rfl
 |4,_=>rfl
 |5,_=>rfl
 |6,_=>rfl
 |7,_=>rfl
 |i+8,h=>O1
theorem jTp(g m):(range m).map (fun j=>cB g m (0+j))=((range m).map g).map u8:=by
 rw[iU];refine lF fun j hj=>?_
 unfold cB;grind
theorem jU0{a b:List Value}(h:a=b):Value.agg a.toArray= .agg b.toArray:=by rw[h]
attribute [local irreducible] hs pad wd DO
def hv(s:ByteArray):List Value:=(Nh (bl s)).map u8
theorem zCk(s:ByteArray)(w:World)(hT:Ai w)(hg:s.size≤1099511627776):
  Rk 204 [.string s] w (.agg (hv s).toArray):=by
 have hl:=vG s;have ha:=jYe s;have xv:=jOz ha;have od:=jJw (bl s);have oh:=YX (bl s);have ot:Mw (bl s).length=_%64:=O;have hf:fin (bl s)=hs _ _:=O;refine tW func204 ntmps204 fun hp=>?_;refine qA (tF (zE (cs:=replicate 32 (u8 0)) (m:=32) hp (qJ O) O O) fun w1 ob hp=>?_);refine qR (ke (qL O O O O (hT.j1 hp.Z).first) O ?_);refine tF (zE (cs:=replicate 8 (u 0)) (m:=8) hp (qJ O) O O) fun w2 sb hp=>tO (zH (cs:=sv _) hp 0 O O O O (qD O) O O) fun w3 hp=>?_;have hp:Hp w [] w3 [bu sb 8 _ 359,bu ob 32 _ 284]:=hp;have h0:Dz=hs (pad (bl s)) 0:=by rw[hs]
 rw[KE (qQl _ _),h0] at hp;refine qA ?_;refine ke (Gr O O O2) (qF (I8 64 O1)) (tN (s.size/64*64) ?_);refine qA (qQ ([5]++List.range' 15 12) (fun k F=>F.put 5 (.int _ (64*k:Nat)))
  (fun k w'=>k≤s.size/64∧Hp w [] w' [bu sb 8 (qE (sv (hs _ k))) 359,_]) (fun k=>s.size/64-k) 0
  (qB (ka.eq .refl) O) ⟨O1,hp⟩ ?_)
 clear hp;rintro u0 k w4 ⟨hk,hp⟩;refine tI (fun h=>?_) fun h=>?_
 ·refine qA ?_;have hn:hs (pad (bl s)) (k+1)=Mu (fun j=>(pad (bl s)).getD (64*k+j) 0) (hs (pad (bl s)) k):=by rw[hs]
  refine jU jG O3 (fun w'=>Hp w [] w' _) hp.U ?_;have hp:=hp.U;refine qX ?_;refine tN (64*k+64) ?_;refine tP (fun w hp=>Z6 (wV O) O O O O1 O1) ?_;apply Ag;rfl;exact qC O jG6 O (jWe _ _ (fun j=>(pad _).getD (64*k+j) 0) _ (Ok.hs _ _) (fun j=>YE xv _) (fun j hj=>(jFn s O1).trans (by rw[jP0 _ O1])) (by rw[←vG,NO,fR,cJ];omega) (hT.j1 hp.Z));exact mB0
 obtain rfl:k=s.size/64:=O1;clear h hk;refine qA ?_;have e1:(s.extract (s.size/64*64) s.size).size=s.size-s.size/64*64:=by rw[ByteArray.size_extract,Nat.min_self]
 refine tR (Z7 (wV O) O O O1) ?_;obtain⟨r1,oe⟩:∃r1,s.extract (s.size/64*64) s.size++⟨#[128]⟩=r1:=⟨_,O⟩;refine ke (GY O O (by show _+1≤_;omega)) (aK _ oe) ?_;have oa:bl r1=(bl s).drop (s.size/64*64)++[128]:=by
  rw[←oe,Kj,NO,bJ O1];rfl
 have hh:r1.size=s.size-s.size/64*64+1:=by
  rw[←vG,oa,aY,fR,hl];rfl
 clear oe e1;refine tM (120-r1.size) (ke (GX O O O2) (qF (L9 _ 64)) ?_);refine tK (zCb ⟨#[0]⟩ ((120-r1.size)%64) _ O1 (by show 1*_≤_;omega)) ?_;rintro _ w7 ⟨rfl,zw⟩;have hp:=hp.V zw;clear zw;have og:=jTu ((120-r1.size)%64);generalize (ByteArray.mk _)=r3 at og⊢;refine jM ?_;refine jM ?_;refine ke (zX O O O) (qF (b:=s.size) (by rw[oW];omega)) (tR (OW (b:=8) O O O1) ?_);refine tK (zCa (s.size*8) _ O1) ?_;rintro _ w8 ⟨r4,rfl,oi,zw⟩;have hp:=hp.V zw;clear zw;have oj:r3.size=(120-r1.size)%64:=by rw[←vG,og,lM]
 have ol:r4.size=8:=by rw[←vG,oi,SY]
 refine tR (GY O O O1) ?_;have oo:(r3++r4).size=r3.size+r4.size:=by rw[←vG,Kj,aY,vG,vG]
 obtain⟨r,hr⟩:∃r,r1++(r3++r4)=r:=⟨_,O⟩;refine ke (GY O O O1) (aK _ hr) ?_;have hb:bl r=(pad (bl s)).drop (64*(s.size/64)):=by
  rw[←hr,Kj,Kj,oa,og,oi,jE1 _ O1,dC 64,bU];unfold Lt Mw;rw[hl,show(120-r1.size)%64=(119-s.size%64)%64 by omega];rfl
 have om:r.size=(pad (bl s)).length-64*(s.size/64):=by rw[←vG,hb,fR]
 clear hr oo oj ol og oi oa hh;obtain⟨N,hN⟩:∃N,(pad (bl s)).length/64=N:=⟨_,O⟩;rw[hN] at hf;have oq:(pad (bl s)).length=64*N:=O1;refine qA (qQ ([7]++List.range' 44 13) (fun(k:Nat) F=>F.put 7 (Iv (64*k:Nat)))
  (fun k w'=>k≤N-s.size/64∧Hp w [] w' [bu sb 8 (qE (sv (hs (pad (bl s)) (s.size/64+k)))) 359,_]) (fun k=>N-s.size/64-k) 0
  (qB (ka.eq .refl) O) ⟨O1,hp⟩ ?_)
 clear hp;rintro u1 k w9 ⟨hk,hp⟩;refine tI (fun h=>?_) fun h=>?_
 ·refine qA ?_;have hn:hs (pad (bl s)) (s.size/64+(k+1))=Mu (fun j=>(pad (bl s)).getD (64*(s.size/64+k)+j) 0) (hs (pad (bl s)) (s.size/64+k)):=by
   rw[←Np,hs]
  refine jU jG O3 (fun w'=>Hp w [] w' _) hp.U ?_;have hp:=hp.U;refine qX ?_;refine tN (64*k+64) ?_;refine tP (fun w hp=>Z6 (wV O) O O O O1 O1) ?_;apply Ag;rfl;exact qC O jG6 O (jWe _ _ _ _ (Ok.hs _ _) (fun j=>YE xv _) (fun j hj=>(jFn r O1).trans (by rw[hb,aC,aC,nP,show 64*(s.size/64)+(64*k+j)=64*(s.size/64+k)+j by omega])) (by rw[←vG,NO,fR,cJ,vG];omega) (hT.j1 hp.Z));exact mB0
 have hk:s.size/64+k=N:=O1;rw[hk,←hf] at hp;clear h hk;refine qR (tF (zE (cs:=replicate 32 (u8 0)) (m:=32) hp (qJ O) O O) fun uy oc hp=>?_);rw[KE (Yp (DO (bl s)) 32)] at hp;refine qA (qQ ([9]++List.range' 57 16) (fun(i:Nat) F=>F.put 57 (.int _ i))
  (fun i w'=>i≤32∧Hp w [] w' [bu _ 32 (cB _ i) 284,_,_]) (fun i=>32-i) 0
  (qB (ka.eq .refl) O) ⟨O1,hp⟩ ?_)
 clear hp;rintro u2 i uz ⟨hi,hp⟩;refine tI (fun h=>?_) fun h=>?_
 ·have hi:i<32:=O1;have hq:i/4<8:=O1;refine qA ?_;refine ke (Gr O O O2) (qF (I8 4 O1)) (tR (jS O O O hq) ?_);refine ke (qS O O (hp.J 1 O (yQ O1))) (jV2 _ _ hq) (qA ?_);refine ke (GX O O O2) (qF (L9 i 4)) (tN (i%4*8) ?_);refine tN (24-i%4*8) ?_;refine tR (xP O O (by show _≤32;omega)) (ke (kC O O O) (qF (b:=(DO (bl s) i:Nat)) (by unfold DO;rfl)) ?_);refine tR (jS O O O hi) (tO (zH (cs:=[u8 _]) hp 0 O O O O (qD O) (O9 (by show 0+i*1+1≤32;omega)) O) fun hm hp=>?_);rw[Yo] at hp;exact If
 obtain rfl:i=32:=O1;refine qR (ke (vO O O O (hp.j2 0 O O)) (jU0 (jTp _ 32)) ?_);refine tO (zH (cs:=hv s) hp 2 O O O O (qD O) O O) fun u5 hp=>qA ?_;exact zJ O O O O (hp.j2 2 O O) ⟨_,O,O,hp.Z⟩
end
section
theorem Y0:∀(vs:List Value) (f:Fr) (o i:Nat),i<o→uT f o vs i=f i
 |[],_,_,_,_=>rfl
 |v::vs,f,o,i,h=>by
  show uT _ _ vs i=f i
  rw[Y0 vs _ _ _ O1];unfold Fr.put;rw[jJ O1];rfl
theorem qE5:∀(vs:List Value) (f:Fr) (o j:Nat) (v:Value),vs[j]? =some v→uT f o vs (o+j)=v
 |[],_,_,_,_,h=>O6
 |x::vs,f,o,0,v,h=>by
  show uT _ _ vs _=v
  rw[Y0 vs _ _ _ O1];unfold Fr.put;rw[fY,Nat.beq_refl];grind
 |x::vs,f,o,j+1,v,h=>by
  rw[show o+(j+1)=o+1+j by omega];exact qE5 vs _ _ _ _ O6
def sA(s r:St)(i:Nat):Fr:=fun j=>if j<i then u (wd (Ek s r) j) else u (wd s j)
attribute [local irreducible] rr
end
section
attribute [local irreducible] hs pad wd DO
end
section
theorem OQ:∀(k x:Nat),x<10^(k+1)→(Lib.decDigits x).length≤k+1
 |0,x,h=>by
  rw[Lib.decDigits,dif_pos O1];simp
 |k+1,x,h=>by
  rw[Lib.decDigits];split
  ·simp
  have h2:=OQ k (x/10) O1;grind
def uY(x:Nat):ByteArray:=⟨(Lib.decDigits x).toArray⟩
theorem jL7(x:Nat):uY x=dec (x:Int):=by
 unfold uY dec Lib.itoa;simp
attribute [local irreducible] Af ki
end
variable{r:Nat}
def Pr(p:Nat):Prop:=2≤p∧∀d,d∣p→d=1∨d=p
theorem Pr.cop(h:Pr p)(ha:¬p∣a):Nat.Coprime a p:=by
 rcases h.2 (Nat.gcd a p) (lZ a p) with h1|h1
 ·exact h1
 exact absurd (h1▸oY a p) ha
theorem Pr.mul(h:Pr p)(hd:p∣a*b):p∣a∨p∣b:=by
 by_cases ha:p∣a
 ·omega
 exact .inr (Nat.Coprime.dvd_of_dvd_mul_left (h.cop ha).symm hd)
theorem qJx(hr:2≤r)(h:b^m%r=1)(k):b^(m*k)%r=1:=by
 rw[lG,rX,h,Nat.one_pow,aZ O1]
def PP:Nat→Nat→Nat→Nat→Nat
 |0,_,_,m=>1%m
 |f+1,a,n,m=>if n=0 then 1%m else if n%2=1 then a*PP f (a*a%m) (n/2) m%m else PP f (a*a%m) (n/2) m
theorem Sy(m):∀(f a n:Nat),n<2^f→PP f a n m=a^n%m
 |0,a,n,h=>by
  have:=by simpa using h
  subst this;rfl
 |f+1,a,n,h=>by
  have ih:=Sy m f (a*a%m) (n/2) O1;have ow:(a*a%m)^(n/2)%m=a^(2*(n/2))%m:=by
   rw[←rX,lG,Nat.pow_two]
  rw[PP];by_cases h0:n=0
  ·rw[if_pos h0,h0];rfl
  rw[if_neg h0];by_cases h1:n%2=1
  ·rw[if_pos h1,ih,ow,Rs,←Nat.pow_succ'];grind
  grind
variable{M a b:Int}
def wa:List Int→Int→Int
 |[],_=>0
 |a::c,x=>a+x*wa c x
def pr(f:Int→Int):List Int→Int
 |[]=>1
 |x::l=>f x*pr f l
def sm(f:Int→Int):List Int→Int
 |[]=>0
 |x::l=>f x+sm f l
theorem qBd(f g):∀l:List Int,sm (fun x=>f x+g x) l=sm f l+sm g l
 |[]=>rfl
 |x::l=>by simp[sm,qBd];omega
theorem yF(c f):∀l:List Int,sm (fun x=>c*f x) l=c*sm f l
 |[]=>by simp[sm]
 |x::l=>by simp only[sm,yF c f l,Int.mul_add]
theorem jF{f g}:∀{l:List Int},(∀x∈l,f x=g x)→sm f l=sm g l
 |[],_=>rfl
 |x::l,h=>by
  simp[sm];rw[h x fX,jF fun y hy=>h y (fE _ hy)]
def Cg(M a b:Int):Prop:=M∣a-b
theorem Cg.refl{M a}:Cg M a a:=⟨0,O4⟩
theorem Cg.of_eq(h:a=b):Cg M a b:=h▸Cg.refl
theorem Cg.symm(h:Cg M a b):Cg M b a:=by
 have⟨k,hk⟩:=h;exact⟨-k,O6⟩
theorem Cg.trans{c}(h:Cg M a b)(h2:Cg M b c):Cg M a c:=mEb
theorem Cg.add{c d}(h:Cg M a b)(h2:Cg M c d):Cg M (a+c) (b+d):=mEb
theorem Cg.neg(h:Cg M a b):Cg M (-a) (-b):=by
 have⟨k,hk⟩:=h;exact⟨-k,O6⟩
theorem Cg.sub{M a b c d}(h:Cg M a b)(h2:Cg M c d):Cg M (a-c) (b-d):=h.add h2.neg
theorem Cg.mul{c d}(h:Cg M a b)(h2:Cg M c d):Cg M (a*c) (b*d):=by
 have⟨k,hk⟩:=h;have⟨q,hq⟩:=h2;refine⟨k*c+b*q,?_⟩;grind
theorem Cg.mod:Cg M (a%M) a:=⟨-(a/M),by have:=Int.mul_ediv_add_emod a M;grind⟩
theorem Cg.eq(h:Cg M a b):a%M=b%M:=by
 have⟨k,hk⟩:=h;have:a=b+M*k:=O1;rw[this,Int.add_mul_emod_self_left]
theorem Cg.aC4(h:a%M=b%M):Cg M a b:=(Cg.mod.symm.trans (Cg.of_eq h)).trans Cg.mod
theorem RH{M a b}(h:Cg M a b):∀n:Nat,Cg M (a^n) (b^n)
 |0=>.of_eq O4
 |n+1=>by
  rw[Lm,Lm];exact(RH h n).mul h
def Un(M d:Int):Prop:=∃u,Cg M (u*d) 1
theorem Un.one:Un M 1:=⟨1,.refl⟩
theorem Un.mul{M a b}(h:Un M a)(h2:Un M b):Un M (a*b):=by
 have⟨u,hu⟩:=h;have⟨v,hv⟩:=h2;refine⟨u*v,?_⟩;have:u*v*(a*b)=(u*a)*(v*b):=by ac_rfl
 rw[this];exact hu.mul hv
variable{c:Nat}
def gP:Nat:=2305843009213691579
def gQ:Nat:=1152921504606845789
def Mb(a:Nat):Prop:=1≤a∧a<gP∧a^gQ%gP=1
theorem gP2:2≤gP:=O2
theorem gQ2:2≤gQ:=O2
theorem jEr{a}(h:a^gQ%gP=1):Mb (a%gP):=by
 have h1:(a%gP)^gQ%gP=1:=by rw[←rX];exact h
 refine⟨?_,dY _ (by have:=gP2;omega),h1⟩;apply bZ;intro h0;have h0:a%gP=0:=O1;rw[h0,Nat.zero_pow (by have:=gQ2;omega)] at h1;rw[yY] at h1;omega
theorem LB{a}(ha:Mb a)(n):Mb (a^n%gP):=jEr (by
 rw[←lG,dC,lG,rX,ha.2.2,Nat.one_pow]
 decide)
theorem Vq:Mb 4:=⟨O2,O2,by
 rw[←Sy gP 64 4 gQ O2]
 decide+kernel⟩
theorem YA{a}(ha:Mb a)(n):a^(n%gQ)%gP=a^n%gP:=by
 have h1:a^n=a^(gQ*(n/gQ))*a^(n%gQ):=by rw[←eK,iT]
 rw[h1,pQ,qJx gP2 ha.2.2,mH,Nk]
theorem Sf{a}(ha:Mb a){m n}(h:m%gQ=n%gQ):a^m%gP=a^n%gP:=by rw[←YA ha m,h,YA ha n]
theorem Y9{g x}(hg:Mb g)(hc:c≤gQ):(g^((k+c*x%gQ)%gQ)%gP)*((g^x%gP)^(gQ-c)%gP)%gP=g^k%gP:=by
 have e1:_=g^(k+c*x)%gP:=Sf hg (by rw[Nk,Nat.add_mod_mod]);rw[e1,←rX,←lG,←pQ,←eK];refine Sf hg ?_;have e2:k+c*x+x*(gQ-c)=k+gQ*x:=by
  rw[Nat.mul_sub,dC c x,dC gQ x];have:=dJ x hc;omega
 rw[e2,lK]
def KN(l:List (Nat×Nat))(acc:Nat):Nat:=l.foldl (fun acc p=>acc*(p.1^p.2%gP)%gP) acc
theorem YP{b}:∀(l:List (Nat×Nat)) (e:Nat),KN (l.map fun p=>(b^p.1%gP,p.2)) (b^e%gP)%gP=b^(e+(l.map fun p=>p.1*p.2).sum)%gP
 |[],e=>by simp[KN]
 |p::l,e=>by
  have ih:=YP (b:=b) l (e+p.1*p.2);have e1:b^e%gP*((b^p.1%gP)^p.2%gP)%gP=b^(e+p.1*p.2)%gP:=by
   rw[←rX,←lG,←pQ,←eK]
  show KN _ (b^e%gP*((b^p.1%gP)^p.2%gP)%gP)%gP=_
  grind
variable{X Y:Nat}{z:Int}
section
theorem jKj:∀i:Fin 256,∃t:Fin 9,CK Eg i.val=(t.val:Int)∧i.val<2^t.val:=by decide+kernel
theorem jKk(h:i<256):∃t:Nat,CK Eg i=(t:Int)∧t≤8∧i<2^t:=by
 have⟨t,h1,h2⟩:=jKj ⟨i,h⟩;grind
theorem jEv{x x'}(h:x'=x/2^n)(h2:x'<2^t):x<2^(n+t):=by
 have hp:0<2^n:=gU O2;subst h;have:=(eO hp).1 h2;grind
theorem jCd(a m:Int)(hm:1≤m):(a.tmod m<0∧a.tmod m+m=a%m)∨(0≤a.tmod m∧a.tmod m=a%m):=by
 have h1:=iN a (show m≠0 by omega);have h2:=iE a (show 0<m by omega);grind
theorem jEf{x y:Nat}(hx:x<m)(hy:y<m)(h:m≤x+y):(x+y)%m=x+y-m:=by
 rw[Nat.mod_eq_sub_mod h,aZ O1]
def DH(X Y m c i:Nat):Nat:=X*(Y/2^(c-i))%m
theorem jHe(h:Y<2^c):DH X Y m c 0=0:=by
 unfold DH;rw[Nv,iB h,Nat.mul_zero,yY]
theorem jL8(X Y m c:Nat):DH X Y m c c=X*Y%m:=by
 unfold DH;simp
theorem Yv(h:i<c):Y/2^(c-1-i)=2*(Y/2^(c-i))+Y/2^(c-1-i)%2:=by
 have e:c-i=(c-1-i)+1:=O1;rw[e,dU,←fN];omega
theorem jBh(h:i<c)(hb:Y/2^(c-1-i)%2=0):DH X Y m c (i+1)=(DH X Y m c i+DH X Y m c i)%m:=by
 have h1:=Yv (Y:=Y) h;unfold DH;rw[show c-(i+1)=c-1-i by omega,h1,←Nat.two_mul,Rs];grind
theorem jBg(h:i<c)(hb:Y/2^(c-1-i)%2=1):DH X Y m c (i+1)=((DH X Y m c i+DH X Y m c i)%m+X)%m:=by
 have h1:=Yv (Y:=Y) h;unfold DH;rw[show c-(i+1)=c-1-i by omega,h1,←Nat.two_mul,Rs,Nat.mod_add_mod];grind
theorem jTe(hm:0<m):DH X Y m c i<m:=dY _ hm
attribute [local irreducible] DH
theorem jWi(x:Nat)(w:World)(hx:x<18446744073709551616):
  Rt 144 [.int .u64 (x:Int)] w (fun v w'=>∃t:Nat,v=Iv (t:Int)∧t≤64∧x<2^t∧ax [] w w'):=by
 refine tW func144 ntmps144 fun hp=>?_;refine qA (EV (fun F w1=>∃x' n:Nat,x'=x/2^n∧x'<4294967296∧n≤32∧Hp w [] w1 []∧CH F [(0,.int .u64 x'),(2,Iv n)]) ?_ ?_)
 ·refine qH O (fun h=>?_) (fun h=>?_)
  ·refine qA ?_;refine ke (xP O O O2) (qF (b:=(x/4294967296:Nat)) O) (qA ?_);exact⟨_,32,O,O1,O1,hp,O,O,trivial⟩
  refine qA ?_;exact⟨x,0,O4,O1,O1,hp,O,O,trivial⟩
 clear hp;rintro F w1 ⟨x1,n1,e1,y2,y0,hp,hF⟩;refine yL _ hF ?_;intro F0;clear hF;refine qA (EV (fun F w1=>∃x' n:Nat,x'=x/2^n∧x'<65536∧n≤48∧Hp w [] w1 []∧CH F [(0,.int .u64 x'),(2,Iv n)]) ?_ ?_)
 ·refine qH O (fun h=>?_) (fun h=>?_)
  ·refine qA ?_;refine ke (xP O O O2) (qF (b:=(x1/65536:Nat)) O) (tM (n1+16) ?_);exact mDt
  exact mEp
 clear hp e1 y2 y0 x1 n1;rintro F w1 ⟨x1,n1,e1,y2,y0,hp,hF⟩;refine yL _ hF ?_;intro F0;clear hF;refine qA (EV (fun F w1=>∃x' n:Nat,x'=x/2^n∧x'<256∧n≤56∧Hp w [] w1 []∧CH F [(0,.int .u64 x'),(2,Iv n)]) ?_ ?_)
 ·refine qH O (fun h=>?_) (fun h=>?_)
  ·refine qA ?_;refine ke (xP O O O2) (qF (b:=(x1/256:Nat)) O) (tM (n1+8) ?_);exact mDt
  exact mEp
 rintro F w1 ⟨x1,n1,e1,y2,y0,hp,hF⟩;refine yL _ hF ?_;intro F0;have⟨t,ht,zc,hu⟩:=jKk y2;refine Cj ?_;refine ke (kC O O O) (qF (b:=x1) O1) (ke (zY (s:=Eg) O O O (by rw[qOw];omega)) (qF ht) ?_);refine ke (zX O O O) (qF (qK O1 O1)) (tN (n1+t) ?_);refine tV ?_;exact⟨_,O,_,O,O1,jEv e1 hu,hp.Z⟩
theorem Fo(a m:Int)(w:World)(ha:-9223372036854775808≤a)(oy:a≤9223372036854775807)(hm:1≤m)(zd:m≤9223372036854775807):
  Rk 84 [Iv a,Iv m] w (Iv (a%m)):=by
 have h1:=iN a (show m≠0 by omega);have hc:=jCd a m hm;refine tW func84 ntmps84 fun hp=>?_;refine qA ?_;refine tR (GX O O O1) ?_;refine tI (fun h=>?_) fun h=>?_
 ·refine qA ?_;refine ke (qO O O) (qF (b:=a%m) (by rw[qK O1 O1];omega)) (tV ?_);exact FM
 exact KL
theorem TV(x y m:Nat)(w:World)(hx:x<m)(hy:y<m)(hm:m≤9223372036854775807):
  Rt 145 [.int .u64 (x:Int),.int .u64 (y:Int),.int .u64 (m:Int)] w (fun v w'=>v= .int .u64 (((x+y)%m:Nat):Int)∧ax [] w w'):=by
 refine tW func145 ntmps145 fun hp=>?_;refine KV ?_;refine tI (fun h=>?_) fun h=>?_
 ·have e:=jEf hx hy O1;refine qA (ke (jN O O) (qF (b:=((x+y)%m:Nat)) (by rw[e,show(x+y:Nat)-(m:Int)=(x+y-m:Nat) by omega,wU O1])) ?_);exact nj
 have e:_%m=x+y:=aZ O1;rw[e];exact nj
theorem I1(a:Int){m:Nat}(hm:1≤m):∃X:Nat,a%(m:Int)=X∧X<m:=
 ⟨(a%m).toNat,by
  have h1:=iN a (show(m:Int)≠0 by omega);omega,by
  have h2:=iE a (show 0<(m:Int) by omega)
  omega⟩
theorem J0(h:z=X)(hX:X<18446744073709551616):IntKind.u64.wrap z=(X:Int):=by rw[h,wU hX]
theorem Gu(a b:Int)(m:Nat)(w:World)(ha:-9223372036854775808≤a)(oy:a≤9223372036854775807)(hb:-9223372036854775808≤b)(et:b≤9223372036854775807)(hm:1≤m)(zd:m≤9223372036854775807):
  Rk 83 [Iv a,Iv b,Iv (m:Int)] w (Iv (a*b%(m:Int))):=by
 have⟨X,hX,o2⟩:=I1 a hm;have⟨Y,hY,o5⟩:=I1 b hm;have o0:a*b%m=(X*Y%m:Nat):=by
  rw[Int.mul_emod,hX,hY];exact(iI (X*Y) m).symm
 rw[o0];refine tW func83 ntmps83 fun hp=>?_;refine qA ?_;refine qH O O1 (fun _=>tD (Fo a m _ ha oy O1 O1) fun w1 hp=>ke (zX O O O) (qF (J0 hX O1)) ?_);refine tD (Fo b m _ hb et O1 O1) fun w2 hp=>ke (zX O O O) (qF (J0 hY O1)) ?_;refine jM ?_;refine ke (zX O O O) (qF (J0 O O1)) (tL (jWi Y _ O1) ?_);rintro _ w3 ⟨c,rfl,hc,o9,hk⟩;have hp:=hp.V hk;have h0:=jHe (X:=X) (m:=m) o9;have zq:=jL8 X Y m c;refine qA ?_;refine qQ ([10,12]++List.range' 28 20) (fun i F=>(F.put 10 (.int _ (DH X Y m c i))).put 28 (.int _ i)) (fun i w'=>i≤c∧Hp w [] w' []) (fun i=>c-i) 0 (qB (qB (ka.eq .refl) (by show Value.int _ 0=_;rw[h0];rfl)) O) ⟨O1,hp⟩ ?_;clear hp h0;rintro u i w4 ⟨hi,hp⟩;refine tI (fun h=>?_) fun h=>?_
 ·have o3:i<c:=O1;have hd:=jTe (X:=X) (Y:=Y) (m:=m) (c:=c) (i:=i) O1;have hs0:=jBh (X:=X) (Y:=Y) (m:=m) o3;have hg:=jBg (X:=X) (Y:=Y) (m:=m) o3;have et:Y/2^(c-1-i)%2<2:=O1;have o1:Y/2^(c-1-i)≤Y:=iH _ _;refine tD (TV _ _ m _ hd hd zd) fun w5 hp=>?_;have yq:(DH X Y m c i+DH X Y m c i)%m<m:=dY _ O1;refine tM (c-1) ?_;refine tM (c-1-i) ?_;refine tR (xP O O (by show _≤64;omega)) ?_;generalize Y/2^(c-1-i)=z at hs0 hg et o1;refine tR (S2 (k:=1) O O O1 O O2) ?_;refine tI (fun hq=>?_) fun hq=>?_
  ·have hs:=hg O1;refine tD (TV _ X m _ yq o2 zd) fun w6 hp=>?_;rw[←hs];exact Jm
  have hs:=hs0 O1;rw[←hs];exact Jm
 obtain rfl:i=c:=O1;rw[zq];have hl:X*Y%m<m:=dY _ O1;refine tV ?_;exact⟨_,O,qF (qK O1 O1),hp.Z⟩
end
theorem jYf(h:n<9223372036854775808):NK (n:Int) 1=((n%2:Nat):Int):=by
 unfold NK;have h1:(BitVec.ofInt 64 n&&&BitVec.ofInt 64 1).toNat=n%2:=by
  rw[rM,show(1:Int)=((1:Nat):Int) from O,kG 64 n O1,kG 64 1 O2,Nat.and_one_is_mod]
 rw[h1,qK O1 O1]
theorem ZV(a:Int)(k:Nat):a^(2*k)=(a*a)^k:=by rw[Int.pow_mul,Lm,Lm,Int.pow_zero,Nj]
def Em(a:Int)(n m:Nat)(x:Nat×Int×Int):Prop:=x.2.2*x.2.1^x.1%(m:Int)=a^n%(m:Int)
theorem Em.start(a n)(m:Nat):Em a n m (n,a,1%(m:Int)):=by
 unfold Em;rw[Int.mul_emod,Int.emod_emod,←Int.mul_emod,Nj]
theorem Em.even{x p}(h:Em a n m (k,x,p))(hk:k%2=0):Em a n m (k/2,x*x%(m:Int),p):=by
 unfold Em at*
 rw[←h];have e:x^k=(x*x)^(k/2):=by rw[←ZV];congr 1;omega
 exact(Cg.refl.mul (RH Cg.mod _)).eq.trans (by rw[e])
theorem Em.odd{x p}(h:Em a n m (k,x,p))(hk:k%2=1):Em a n m (k/2,x*x%(m:Int),p*x%(m:Int)):=by
 unfold Em at*
 rw[←h];have e:p*x^k=p*x*(x*x)^(k/2):=by
  rw[←ZV];have e2:k=2*(k/2)+1:=O1
  conv=>lhs;rw[e2,Lm]
  ac_rfl
 rw[e];exact(Cg.mod.mul (RH Cg.mod _)).eq
theorem Em.done{x p}(h:Em a n m (0,x,p))(hp:p%(m:Int)=p):p=a^n%(m:Int):=by
 unfold Em at h;grind
theorem p49(a b:Int)(m:Nat)(w:World)(ha:-9223372036854775808≤a)(oy:a≤9223372036854775807)(hb:-9223372036854775808≤b)(et:b≤9223372036854775807)(hm:1≤m)(zd:m≤9223372036854775807):
  Rk 152 [Iv a,Iv b,Iv (m:Int)] w (Iv ((a+b)%(m:Int))):=by
 have⟨X,hX,o2⟩:=I1 a hm;have⟨Y,hY,o5⟩:=I1 b hm;have o0:(a+b)%m=((X+Y)%m:Nat):=by
  rw[Int.add_emod,hX,hY];exact(iI (X+Y) m).symm
 rw[o0];have hl:(X+Y)%m<m:=dY _ O1;refine tW func152 ntmps152 fun hp=>?_;refine qA ?_;refine qH O O1 (fun _=>tD (Fo a m _ ha oy O1 O1) fun w1 hp=>ke (zX O O O) (qF (J0 hX O1)) ?_);refine tD (Fo b m _ hb et O1 O1) fun w2 hp=>ke (zX O O O) (qF (J0 hY O1)) ?_;refine jM ?_;refine ke (zX O O O) (qF (J0 O O1)) (tC (TV X Y m _ o2 o5 zd) fun w3 hp=>?_);exact mEl
theorem zCn(a b)(m:Nat)(w)(ha:-9223372036854775808≤a)(oy:a≤9223372036854775807)(hb:-9223372036854775808≤b)(et:b≤9223372036854775807)(hm:1≤m)(zd:m≤9223372036854775807):
  Rk 282 [Iv a,Iv b,Iv (m:Int)] w (Iv ((a-b)%(m:Int))):=by
 have h1:=iN a (show(m:Int)≠0 by omega);have h2:=iE a (show 0<(m:Int) by omega);have h3:=iN b (show(m:Int)≠0 by omega);have h4:=iE b (show 0<(m:Int) by omega);have o0:=(Int.sub_emod a b m);rw[o0];refine tW func282 ntmps282 fun hp=>?_;refine qA ?_;refine qH O O1 (fun _=>tD (Fo a m _ ha oy O1 O1) fun w1 hp=>?_);refine tD (Fo b m _ hb et O1 O1) fun w2 hp=>?_;refine ke (jN O O) (qF (qK O1 O1)) (tD (Fo (a%m-b%m) m _ O1 O1 O1 O1) fun w3 hp=>?_);exact nj
theorem TX(a b:Int)(m mb:Nat)(w:World)(oP:w.cell? ⟨mb,0,none⟩=some (Iv (m:Int)))(ha:-9223372036854775808≤a)(oy:a≤9223372036854775807)(hb:-9223372036854775808≤b)(et:b≤9223372036854775807)(hm:1≤m)(zd:m≤9223372036854775807):
  Rk 82 [Iv a,Iv b,.pointer (Ad mb)] w (Iv (a*b%(m:Int))):=by
 refine tW func82 ntmps82 fun hp=>?_;refine tD (Gu a b m _ ha oy hb et hm zd) fun w1 hp=>?_;exact nj
theorem p16(a:Int)(n m:Nat)(w:World)(ha:-9223372036854775808≤a)(oy:a≤9223372036854775807)(hn:n≤9223372036854775807)(hm:1≤m)(zd:m≤9223372036854775807):
  Rk 26 [Iv a,Iv (n:Int),Iv (m:Int)] w (Iv (a^n%(m:Int))):=by
 have oX:0<(m:Int):=O1;have h3:∀z:Int,0≤z%m∧_:=fun z=>⟨iN z O1,iE z oX⟩
 refine tW func26 ntmps26 fun hp=>?_;refine qR ?_;refine tQ fun w1 mb hp=>?_;refine jM ?_;refine AP ?_;refine ke (zQ O O) (qV (aB O1)) (jM ?_);refine BT ?_;apply vX;rfl;rfl;exact zQ O O;exact qV (aB O1);refine tR (yT O O) (qR ?_);refine tJ ?_;refine tK (Fo 1 m _ O2 O2 O1 O1) ?_;rintro _ w2 ⟨rfl,hk⟩;have hp:=hp.V hk;have hp:Hp w [] w2 [bu mb 1 (qE [.int _ m]) 3]:=hp;refine qA (qQ ([0,1,8]++List.range' 18 15) (fun X F=>((F.put 0 (.int _ X.2.1)).put 1 (.int _ (X.1))).put 8 (.int _ X.2.2))
  (fun X w'=>X.1≤n∧Em a n m X∧(-9223372036854775808≤X.2.1∧X.2.1≤9223372036854775807)∧X.2.2%m=X.2.2∧Hp w [] w' _) (fun X=>X.1) _
  (qB (qB (qB (ka.eq .refl) O) O) O) ⟨O1,.start a n m,⟨ha,oy⟩,Int.emod_emod _ _,hp⟩ ?_)
 clear hp;rintro u ⟨k,x,p⟩ w3 ⟨hk,hI,hx,od,hp⟩;dsimp only at hk hx od hp⊢;have oS:=h3 p;rw[od] at oS;have pc:=h3 (x*x);have pa:=h3 (p*x);refine tI (fun h=>?_) fun h=>?_
 ·have rf:0<k:=O1;refine qA ?_;refine ke (Y1 O O) (qF (jYf O1)) (tI (fun h1=>?_) fun h1=>?_)
  ·have zy:k%2=1:=O1;refine tD (TX p x m mb _ (hp.J 0 O O) O1 O1 hx.1 hx.2 hm zd) fun w4 hp=>?_;refine tD (TX x x m mb _ (hp.J 0 O O) hx.1 hx.2 hx.1 hx.2 hm zd) fun w5 hp=>?_;refine qA ?_;refine ke (xP O O O2) (qF (b:=(k/2:Nat)) O) (qA ?_);exact⟨_,qB O5 O,⟨O1,hI.odd zy,⟨O6,O6⟩,Int.emod_emod _ _,hp⟩,O1⟩
  have zy:k%2=0:=O1;refine tD (TX x x m mb _ (hp.J 0 O O) hx.1 hx.2 hx.1 hx.2 hm zd) fun w5 hp=>?_;refine qA ?_;refine ke (xP O O O2) (qF (b:=(k/2:Nat)) O) (qA ?_);exact⟨_,qB O5 O,⟨O1,hI.even zy,⟨O6,O6⟩,od,hp⟩,O1⟩
 obtain rfl:k=0:=O1;have he:=hI.done od;refine tV ?_;exact⟨_,O,qF he,hp.Z⟩
theorem FA(a n m:Nat)(w:World)(oy:a≤9223372036854775807)(hn:n≤9223372036854775807)(hm:1≤m)(zd:m≤9223372036854775807):
  Rk 26 [Iv (a:Int),Iv (n:Int),Iv (m:Int)] w (Iv ((a^n%m:Nat):Int)):=
 (p16 _ n m w O1 O1 hn hm zd).mono fun v w' ⟨hv,hk⟩=>⟨O6,hk⟩
theorem Ic(a:Nat)(w:World)(h:Mb a):Rk 147 [Iv (a:Int)] w (.bool true):=by
 have⟨h1,h2,h3⟩:=h;have hP:gP=2305843009213691579:=O;have h16:∀w,km _ 26 [_,.int _ 1152921504606845789,.int _ 2305843009213691579] w _:=fun w=>by
  have h4:=FA a gQ gP w O1 O2 O2 O2;rw[h3] at h4;exact h4
 refine tW func147 ntmps147 fun hp=>?_;refine AP ?_;refine AP ?_;refine ke (vE O O) (qV (aD O1)) (jM ?_);refine BT ?_;apply vX;rfl;rfl;exact uG O O;exact qV (aD O1);refine tR (kL O O) ?_;refine jM ?_;refine BT ?_;refine tC (h16 _) fun w1 hp=>?_;apply vX;rfl;rfl;exact zW O O;exact qV (aD O1);exact nj
variable{q:Nat}
structure CN(a:Int)(m x y:Nat)(s t:Int):Prop where
 gcd:Nat.gcd x y=1
 cs:Cg (m:Int) (s*a) (x:Int)
 ct:Cg (m:Int) (t*a) (y:Int)
 bd:x*t.natAbs+y*s.natAbs=m
 sg:(0≤s∧t≤0)∨(s≤0∧0≤t)
 xm:x≤m
 ym:y≤m
 sm:s.natAbs≤m
 tm:t.natAbs≤m
theorem CN.start(hm:1≤m)(hr:a%(m:Int)=r)(pf:r<m)(hg:Nat.gcd m r=1):CN a m m r 0 1:=by
 refine⟨hg,?_,?_,O4,O1,O1,O1,O1,O1⟩
 ·exact⟨-1,O1⟩
 rw[Nj,←hr];exact Cg.mod.symm
theorem jLu{s t:Int}(h:(0≤s∧t≤0)∨(s≤0∧0≤t)):(s-q*t).natAbs=s.natAbs+q*t.natAbs:=by
 rcases h with⟨h1,h2⟩|⟨h1,h2⟩
 ·obtain⟨S,rfl⟩:∃S:Nat,s=S:=⟨s.toNat,O1⟩;obtain⟨T,rfl⟩:∃T:Nat,t= -T:=⟨(-t).toNat,O1⟩;rw[Int.mul_neg,Int.sub_neg,Int.natAbs_neg,lR,lR,←dM,←pK,lR]
 grind
theorem CN.next{x y:Nat}{s t:Int}(h:CN a m x y s t)(hy:0<y):CN a m y (x%y) t (s-(x/y:Nat)*t)∧((x/y:Nat)*t.natAbs)≤m:=by
 have hd:=iT x y;have ha:=jLu (q:=x/y) h.sg;have h3:y*(s-(x/y:Nat)*t).natAbs+x%y*t.natAbs=m:=by
  rw[ha,←h.bd,iJ,←gO];have:x*t.natAbs=(y*(x/y))*t.natAbs+x%y*t.natAbs:=by rw[←eL,hd]
  omega
 have ys:(s-(x/y:Nat)*t).natAbs≤m:=by
  have:1*(s-(x/y:Nat)*t).natAbs≤y*(s-(x/y:Nat)*t).natAbs:=aL _ hy;omega
 refine⟨⟨?_,h.ct,?_,h3,?_,h.ym,bF O1 h.xm,h.tm,ys⟩,O1⟩
 ·rw[rA,←Nat.gcd_rec,rA];exact h.gcd
 ·have e1:(s-(x/y:Nat)*t)*a=s*a-(x/y:Nat)*(t*a):=by rw[Int.sub_mul,Int.mul_assoc]
  have e2:(x%y:Nat)=(x:Int)-(x/y:Nat)*y:=by
   have h9:(x:Int)=((x/y*y+x%y:Nat):Int):=by rw[dC,hd]
   rw[pK,dM] at h9;generalize ((x/y:Nat):Int)*(y:Int)=z at h9⊢;omega
  rw[e1,e2];exact h.cs.sub (Cg.refl.mul h.ct)
 rcases h.sg with⟨h1,h2⟩|⟨h1,h2⟩
 ·have h9:(x/y:Nat)*t≤0:=Int.mul_nonpos_of_nonneg_of_nonpos (Ry _) h2;omega
 grind
theorem CN.done{x s t}(h:CN a m x 0 s t):x=1∧Cg (m:Int) (s*a) 1:=by
 have:=h.gcd;rw[Nat.gcd_zero_right] at this;subst this;exact⟨O,h.cs⟩
theorem YG(h:k≤9223372036854775807):IntKind.i64.wrap (k:Int)=(k:Int):=qK O1 O1
theorem tdn{x y:Nat}:(x:Int).tdiv (y:Int)=((x/y:Nat):Int):=O4
theorem zCm(a:Int)(m:Nat)(w:World)(ha:-9223372036854775808≤a)(oy:a≤9223372036854775807)(hm:2≤m)(zd:m≤4611686018427387904)(hg:∀r:Nat,a%(m:Int)=r→Nat.gcd m r=1):
  Rt 283 [Iv a,Iv (m:Int)] w (fun v w'=>(∃z:Nat,v= .tuple #[Iv (z:Int),.bool true]∧z<m∧Cg (m:Int) ((z:Int)*a) 1)∧ax [] w w'):=by
 have⟨r,hr,pf⟩:=I1 a (m:=m) O1;have hI:=CN.start O1 hr pf (hg r hr);refine tW func283 ntmps283 fun hp=>?_;refine qA ?_;refine qH O O1 (fun _=>tD (Fo a m _ ha oy O1 O1) fun w1 hp=>?_);rw[hr];refine qA (qQ ([6,7,8,9,10]++List.range' 17 15) (fun X F=>(((F.put 6 (.int _ (X.1))).put 7 (.int _ (X.2.1))).put 8 (.int _ X.2.2.1)).put 9 (.int _ X.2.2.2))
  (fun X w'=>CN a m X.1 X.2.1 X.2.2.1 X.2.2.2∧Hp w [] w' []) (fun X=>X.2.1) (m,r,0,1) (qB (qB (qB (qB (ka.eq .refl) O) O) O) O) ⟨hI,hp⟩ ?_)
 clear hp hI;rintro u ⟨x,y,s,t⟩ w2 ⟨hI,hp⟩;dsimp only at hI hp⊢;have v1:=hI.xm;have ph:=hI.ym;have pg:=hI.sm;refine tI (fun h=>?_) fun h=>?_
 ·have hy:0<y:=O1;have⟨pj,pm⟩:=hI.next hy;have hl:=dY x hy;have pp:=pj.tm;have hq:x/y≤x:=iH _ _;have pn:((x/y:Nat)*t).natAbs=(x/y)*t.natAbs:=by rw[oH,lR]
  have uu:-9223372036854775808≤(x/y:Nat)*t∧(x/y:Nat)*t≤9223372036854775807:=by
   rw[←pn] at pm;generalize ((x/y:Nat):Int)*t=z at pm;omega
  have yv:-9223372036854775808≤s-(x/y:Nat)*t∧s-(x/y:Nat)*t≤9223372036854775807:=by
   generalize s-((x/y:Nat):Int)*t=z at pp;omega
  refine qA ?_;refine ke (Gr O O O1) (qF (b:=(x/y:Nat)) (by exact YG O1)) (tY fun hp=>?_);refine qX ?_;refine kp O (fun w hp=>GX O O O1) (qF (L9 x y)) (qX ?_);refine qU (qA ?_);refine ke (vD O O) (qF (qK uu.1 uu.2)) (ke (jN O O) (qF (qK yv.1 yv.2)) ?_);refine qA ?_;exact⟨(y,x%y,t,s-(x/y:Nat)*t),qB O5 O,⟨pj,hp⟩,hl⟩
 obtain rfl:y=0:=O1;obtain⟨rfl,hc⟩:=hI.done;obtain⟨z,hz,pq⟩:=I1 s O1;refine qR ?_;refine jM (ke (kB O O) (qV (b:=false) O) ?_);refine qR ?_;refine tJ ?_;refine tC (Fo s m _ O1 O1 O1 O1) fun w3 hp=>?_;refine qA ?_;rw[hz];refine xU O O O ⟨_,O,⟨z,O,pq,?_⟩,hp.Z⟩;rw[←hz];exact(Cg.mod.mul .refl).trans hc
variable{a:Nat}{n:ky}
section
def nB(g:Nat→Nat):Nat→Nat
 |0=>0
 |k+1=>nB g k*2^8+g k
theorem Vw{g:Nat→Nat}(h:∀i,g i<256):∀k,nB g k<256^k
 |0=>by simp[nB]
 |k+1=>by
  have h1:=Vw h k;have h2:=h k;show nB g k*2^8+g k<256^k*256
  omega
theorem jAu(h:k≤7):256^k≤72057594037927936:=bG O2 h
def GQ(l:List Nat):Nat:=nB (DO l) 8%9223372036854775808
def BI(l:List Nat):Nat:=GQ ([115,47]++l)%1152921504606845789
def Ii(l:List Nat):Nat:=1+GQ ([101,47]++l)%2305843009213691578
def He(l:List Nat):Nat:=Ii l*Ii l%2305843009213691579
theorem jD6(l:List Nat):BI l<1152921504606845789:=dY _ O2
theorem So(l:List Nat):GQ l<9223372036854775808:=dY _ O2
theorem jWp(s:ByteArray){i:Nat}(h:i<32):qE (hv s) i=u8 (DO (bl s) i):=by
 rw[uA];unfold hv Nh;grind
theorem Zv(s:ByteArray):(hv s).length=32:=by
 unfold hv;rw[aH,jJa]
theorem jJq(f:Fr)(s:ByteArray)(i:Nat)(h:i<32):uT f 0 (hv s) i=qE (hv s) i:=by
 have h2:(hv s)[i]? =some (qE (hv s) i):=by
  rw[uA,aC,aA (by exact h)];rfl
 have:=qE5 _ f 0 i _ h2;grind
section
variable{pos:String}{x:Operand}
theorem jDx(hx:ev n F x= .int .u64 (a:Int))(hy:ev n F y= .int .u64 9223372036854775808)(ha:a<18446744073709551616):PV P n w F ⟨d,.binOp .andNot t x y t',ty,pos,aft,g⟩ (.int .u64 ((a%9223372036854775808:Nat):Int)):=by
 have h1:(BitVec.ofInt 64 a&&& ~~~BitVec.ofInt 64 9223372036854775808).toNat=a%9223372036854775808:=by
  rw[rM,kG 64 a ha,show(~~~BitVec.ofInt 64 (9223372036854775808:Int)).toNat=2^63-1 from O2,rN]
 have h3:=wU (show a%9223372036854775808<18446744073709551616 by omega);simp only[PV,execOp,hx,hy,eqGuard,binOp,Op.intBits];show Sem.run P (pure (Next.value (Value.int _ (IntKind.u64.wrap ((BitVec.ofInt 64 _&&& ~~~BitVec.ofInt 64 9223372036854775808).toNat))))) w=_
 rw[h1,h3];rfl
end
attribute [local irreducible] DO hv
theorem jWh(s:ByteArray)(w:World)(hT:Ai w)(ha:s.size≤1099511627776):
  Rk 155 [.string s] w (Iv (GQ (bl s):Int)):=by
 have hg:=qQ3 (bl s);refine tW func155 ntmps155 fun hp=>?_;refine qR ?_;refine tR qY (qR ?_);refine tR qP (tC (zCk s _ O1 ha) fun w1 hp=>?_);refine tF (zE (cs:=replicate 32 (u8 0)) (m:=32) hp (qJ O) O O) fun w2 b hp=>tO (zH (cs:=hv s) hp 0 O O O O (by rw[Zv];exact qD O) (by rw[Zv];rfl) (by unfold hv;rfl)) fun w3 hp=>?_;have hp:Hp w [] w3 [bu b 32 _ 284]:=hp;rw[KE (jJq _ s)] at hp;refine qA (qQ ([4,5]++range' 8 11) (fun i F=>(F.put 4 (.int _ (nB (DO (bl s)) i:Nat))).put 8 (.int _ i))
  (fun i w'=>i≤8∧Hp w [] w' _) (fun i=>8-i) 0
  (qB (qB (ka.eq .refl) O) O) ⟨O1,hp⟩ ?_)
 clear hp;rintro u0 i w4 ⟨hi,hp⟩;refine tI (fun h=>?_) fun h=>?_
 ·have h7:=jAu (show i≤7 by omega);have hn:=Vw hg i;have p2:=hg i;have hX:=qY7 8 (nB (DO (bl s)) i) _ p2;refine Cj ?_;refine AP ?_;refine tR (H3 (b:=8) O O O2 O1) (jM ?_);refine tR (jS O O O O1) ?_;refine ke (qS O O (hp.J 0 O (yQ O1))) (jWp s O1) ?_;rw[show 0+i*1=i by omega];refine ke (zX O O O) (qF (wU O1)) (ke (Ke O O O1 O1) (qF (b:=(nB (DO (bl s)) (i+1):Nat)) (by rw[hX];rfl)) ?_);exact If
 obtain rfl:i=8:=O1;have h8:=Vw hg 8;refine qA (ke (jDx O O O1) (qF (b:=(GQ (bl s):Nat)) O) ?_);have h9:=So (bl s);exact mEl
theorem zCr(s:ByteArray)(w:World)(hT:Ai w)(ha:s.size≤1000000000000):
  Rk 203 [.string s] w (Iv (BI (bl s):Int)):=by
 have h9:=So ([115,47]++bl s);have et:bl (⟨#[115,47]⟩++s)=[115,47]++bl s:=by rw[Kj];rfl
 have h4:(⟨#[115,47]⟩++s).size=2+s.size:=by rw[←vG,et,aY,vG];rfl
 refine tW func203 ntmps203 fun hp=>?_;refine qR ?_;refine tR qY (qR ?_);refine tR qP ?_;refine tR (GY O O O6) ?_;apply Ax;exact qC O jGy O (jWh _ _ O1 O1);rintro _ w1 ⟨rfl,hk⟩;have hp:=hp.V hk;refine tC (Fo (GQ ([115,47]++bl s)) 1152921504606845789 _ O1 O1 O2 O2) fun w2 hp=>?_;refine tV ?_;exact⟨_,O,aK _ (iI _ _).symm,hp.Z⟩
theorem p59(s:ByteArray)(w:World)(hT:Ai w)(ha:s.size≤1000000000000):
  Rk 91 [.string s] w (Iv (He (bl s):Int)):=by
 have h9:=So ([101,47]++bl s);have et:bl (⟨#[101,47]⟩++s)=[101,47]++bl s:=by rw[Kj];rfl
 have h4:(⟨#[101,47]⟩++s).size=2+s.size:=by rw[←vG,et,aY,vG];rfl
 have hx:(Ii (bl s))=1+(GQ ([101,47]++bl s):Int)%2305843009213691578:=by unfold Ii;omega
 refine tW func91 ntmps91 fun hp=>?_;refine qR ?_;refine tR qY (qR ?_);refine tR qP ?_;refine tR (GY O O O6) ?_;apply Ax;exact qC O jGy O (jWh _ _ O1 O1);rintro _ w1 ⟨rfl,hk⟩;have hp:=hp.V hk;refine tC (Fo (GQ ([101,47]++bl s)) 2305843009213691578 _ O1 O1 O2 O2) fun w2 hp=>ke (qO O O) (qF (b:=(Ii (bl s))) (by rw[hx];exact qK O1 O1)) ?_;refine tD (Gu (Ii (bl s)) (Ii (bl s)) 2305843009213691579 _ O1 O1 O1 O1 O2 O2) fun w3 hp=>?_;refine tV ?_;exact⟨_,O,aK (Value.int _) (by unfold He;omega),hp.Z⟩
end
section
theorem qN1{x:Nat}(h:x≤9223372036854775807):(uY x).size≤19:=OQ 18 x O1
attribute [local irreducible] Af ki uY hv
end
variable{S:List Nat}{b:Nat}
def vl(c:List Nat)(x:Nat):Nat:=c.foldr (fun a r=>(r*x%gQ+a)%gQ) 0
def Rn(c:List Nat):List Int:=c.map fun(n:Nat)=>(n:Int)
theorem cgN(h:a%gQ=b%gQ):Cg (gQ:Int) a b:=Cg.aC4 O1
theorem qTm(a:Nat):Cg (gQ:Int) ((a%gQ:Nat):Int) a:=cgN (Nk _ _)
theorem jM4{c:List Nat}{x:Nat}:vl c x<gQ:=by
 have h0:0<gQ:=O2;cases c with
 |nil=>exact h0
 |cons a c=>exact dY _ h0
def Il(x:Nat):List Nat→Nat→Nat→Nat
 |[],acc,_=>acc
 |c::cs,acc,p=>Il x cs (acc*(c^p%gP)%gP) (p*x%gQ)
def Cl(cs:List Nat)(x:Nat):Nat:=Il x cs 1 1
def Ia(b:Nat)(c:List Nat):List Nat:=c.map fun e=>b^e%gP
def Eo(S:List Nat):Prop:=S=[1,2]
theorem Eo.nd(h:Eo S):S.Nodup:=by rw[h];decide
theorem Eo.bd(h:Eo S):∀x∈S,1≤x∧x<gQ:=by rw[h];decide
def DC(_:List Nat)(x:Nat):Nat:=if x=1 then 2 else gQ-1
theorem jFk{x:Nat}:DC S x<gQ:=by unfold DC;split<;>decide
def Fs(S ns:List Nat):Nat:=KN (ns.zip (S.map (DC S))) 1
theorem jEw:∀(l:List (Nat×Nat)) {acc:Nat},acc<gP→KN l acc<gP
 |[],_,h=>h
 |p::l,_,_=>jEw l (dY _ O2)
variable{s:Option Addr}{β:Type}
def eN(x:Nat):List Value:=[Iv (x:Int)]
def fz{α β:Type}(f:α→β)(d:β)(l:List α)(i:Nat):List β:=(l.take i).map f++replicate (l.length-i) d
theorem jKv{f:α→β}{d:β}{l:List α}:fz f d l 0=replicate l.length d:=by simp[fz]
theorem jQ0{f:α→β}{d:β}{l:List α}:fz f d l l.length=l.map f:=by simp[fz]
theorem jFg{f:α→β}{d:β}{l:List α}(h:i≤l.length):(fz f d l i).length=l.length:=by
 simp[fz,aY,aH,cJ,lM];omega
theorem jPz{f:α→β}{d:β}{l:List α}(h:i<l.length):(fz f d l i).set i (f l[i])=fz f d l (i+1):=by
 unfold fz;have e:((l.take i).map f).length=i:=by rw[aH,cJ];omega
 rw[lP _ _ O1,e,gZ,show l.length-i=(l.length-(i+1))+1 by omega,nE,List.set_cons_zero,aF h,dR,bU];rfl
theorem jIz{l:List α}{l':List β}(h:kg s c l)(e:l'.length=l.length):kg s c l':=by
 unfold kg at*
 grind
def Qe(ns:List Nat):ByteArray:=⟨(Lib.join ((ns.map uY).map (·.data.toList)) [47]).toArray⟩
def GJ(wd:ByteArray)(ns:List Nat):ByteArray:=(wd++(⟨#[47]⟩:ByteArray))++Qe ns
theorem qOv:∀ns:List Nat,(∀x∈ns,x≤9223372036854775807)→Lib.lens ((ns.map uY).map (·.data.toList))≤19*ns.length
 |[],_=>aS _
 |x::ns,h=>by
  have h1:=qOv ns fun y hy=>h y (fE _ hy)
  have h2:(uY x).data.toList.length≤19:=qN1 (h x fX);unfold Lib.lens at*
  grind
theorem qOz(ns:List Nat)(h:∀x∈ns,x≤9223372036854775807):(Lib.join ((ns.map uY).map (·.data.toList)) [47]).length≤20*ns.length:=by
 cases ns with
 |nil=>exact aS _
 |cons x ns=>
  have h1:=qOv _ h;rw[fG,fG,Lib.join_length,aH,aH];grind
theorem R3(a b:ByteArray):(a++b).size=a.size+b.size:=O4
theorem jF4(ns:List Nat)(h:∀x∈ns,x≤9223372036854775807):(Qe ns).size≤20*ns.length:=qOz ns h
def Bq(x g h:Nat):Nat:=BI (bl (GJ ⟨#[110,111,110,99,101]⟩ [x,g,h]))
def Bi(x g h:Nat):Nat:=BI (bl (GJ ⟨#[101,113,117,97,108]⟩ [g,g^x%gP,h,h^x%gP,g^Bq x g h%gP,h^Bq x g h%gP]))
def CX(x g h:Nat):Nat:=(Bq x g h+Bi x g h*x%gQ)%gQ
def PQ(x g h:Nat):List Value:=[Iv (Bi x g h:Int),Iv (CX x g h:Int)]
attribute [local irreducible] ki uY hv BI Lib.join Bq Bi CX
theorem TW(wd:ByteArray)(ns:List Nat)(s:Option Addr)(c:Nat)(w:World)(hT:Ai w)(hs:ig w 1 eN s ns)(qe:wd.size≤100)(hn:ns.length≤100)(hb:∀x∈ns,x≤9223372036854775807):
  Rt 153 [.string wd,.slice s ns.length c] w (fun v w'=>v=Iv (BI (bl (GJ wd ns)):Int)∧ax [] w w'):=by
 refine tW func153 ntmps153 fun hp=>?_;refine qA ?_;refine tF (yE eS ⟨#[]⟩ hp O O O O O O O O1 O) fun w1 b⟨hv,hp⟩=>?_;refine qA ?_;have hv:∀i,i≤ns.length→kg (Ad b) ns.length (fz uY ⟨#[]⟩ ns i):=fun i hi=>jIz hv (by rw[jFg hi,lM])
 refine qQ ([6,7]++range' 13 11) (fun(i:Nat) F=>F.put 13 (Iv (i:Int)))
  (fun i w'=>i≤ns.length∧Hp w [] w' [qG eS 9 1 (Ad b) ns.length (fz uY ⟨#[]⟩ ns i)]) (fun i=>ns.length-i) 0 (qB (ka.eq .refl) O) ⟨bL _,by rw[jKv];exact hp⟩ ?_
 clear hp;rintro u0 i w2 ⟨hi,hp⟩;refine tI (fun h=>?_) fun h=>?_
 ·have hl:i<ns.length:=O1;have qf:i<(fz uY ⟨#[]⟩ ns i).length:=by rw[jFg hi];exact hl
  have⟨b0,o0,hs0,yk⟩:=hs.base O1;have yl:=yk i _ (aA hl) 0 _ O;have n0:=hb _ (bX hl);have ha:=jPz (f:=uY) (d:=⟨#[]⟩) hl;generalize ns[i]=x at yl n0 ha;refine tD (PR (x:Int) _ (hT.j1 hp.Z) O1 O1) fun w3 hp=>?_;rw[←jL7];refine qA ?_;refine tO (zL eS _ i (uY x) hp 0 O (hv i hi) qf O O (fun _=>O) O O (qD O)) fun w4 hp=>?_;rw[ha] at hp;refine Ck ?_;exact P9
 obtain rfl:i=ns.length:=O1;have hv:=hv _ (aS _);rw[jQ0] at hp hv;have hj:=qOz ns hb;have qg:=jF4 ns hb;have qd:=qZ hp 0 O hv (fun _=>O);refine qA ?_;refine tR (GY O O (by show _+1≤_;omega)) ?_;refine qA ?_
 (apply Ax;exact qC O jSb O (by
  have:=Xz (ns.map uY) ⟨#[47]⟩ b 0 ns.length w2 qd (hp.lt (i:=0) O O) (by rw[aH];omega) (by rw[aH];exact aS _) (bF hj O1);rw[aH] at this
  exact this))
 rintro _ w5 ⟨rfl,hk⟩;have hp:=hp.V hk;have h2:=R3 wd (⟨#[47]⟩:ByteArray);have h3:(⟨#[47]⟩:ByteArray).size=1:=O;have h4:=R3 (wd++(⟨#[47]⟩:ByteArray)) (Qe ns);refine ke (GY O O (by show _+(Qe ns).size≤_;omega)) (aK Value.string (show _=GJ wd ns from O)) ?_;refine tC (zCr (GJ wd ns) _ (hT.j1 hp.Z) (by unfold GJ;omega)) fun w6 hp=>?_;exact nj
end Go.Eng
