/- Merged texts of ours; conditions are the hypotheses of each law. -/
import Derived.Test.YtplkndjlfkkjlaaGreatDoorP4
namespace Go.Proofs.YtplkndjlfkkjlaaGreatDoor
open List (range range' replicate)
open Tryz
section
open Go.Eng Go.Dig
variable{j:Nat}{P:List Int}{x:Int}{S:List Int}{w:World}{b c:Nat}{l:List Int}{w0:World}{M:List Nat}{L:List Ent}
def qBx(w:World)(b c:Nat)(l:List Int):Prop:=∃o,w.heap[b]? =some o∧qLm 3 1 c l.length (l.flatMap eI) o
theorem Hp.aC2{w':World}{l':List Int}(hp:Hp w0 M w L)(i:Nat)(hi:L[i]? =some (qG eI 3 1 (Ad b) c l))(hk:Keeps [b] w w')(ho:qBx w' b c l'):
  Hp w0 M w' (L.set i (qG eI 3 1 (Ad b) c l')):=
 hp.o8 hi hk (by
  intro q hq;have:(some b)=_:=hq;have:q=b:=by simpa[eq_comm] using this
  subst this
  exact⟨.inl O,ho⟩)
theorem Hp.y8(hp:Hp w0 M w L)(i:Nat)(hi:L[i]? =some (qG eI 3 1 (Ad b) c l)):qBx w b c l:=hp.has i _ hi b O
theorem Hp.ofRow(h:qBx w b c l):Hp w [b] w [qG eI 3 1 (Ad b) c l]:=by
 exact mBj
def qHo(a b:Int):Int:=if a<b then-1 else if b<a then 1 else 0
def qD2(c:Int→Int):List Int→Int→List Int
 |[],x=>[x]
 |y::r,x=>if c x<c y then y::qD2 c r x else x::y::r
def svI(c:Int→Int):List Int→List Int
 |[]=>[]
 |x::r=>qD2 c (svI c r) x
def srt(c:Int→Int)(l:List Int):List Int:=(svI c l.reverse).reverse
theorem qJ6(c:Int→Int)(x:Int):∀r:List Int,(qD2 c r x).Perm (x::r)
 |[]=>.refl _
 |y::r=>by
  rw[qD2];split
  ·exact((qJ6 c x r).cons y).trans (.swap x y r)
  simp
theorem qSq(c:Int→Int):∀r:List Int,(svI c r).Perm r
 |[]=>.refl _
 |x::r=>(qJ6 c x _).trans ((qSq c r).cons x)
theorem qF1(c:Int→Int)(l:List Int):(srt c l).Perm l:=
 (rC _).trans ((qSq c _).trans (rC _))
theorem qXf(c:Int→Int)(l:List Int):(srt c l).length=l.length:=(qF1 c l).length_eq
theorem qSu(c:Int→Int)(l:List Int)(x:Int):srt c (l++[x])=(qD2 c (srt c l).reverse x).reverse:=by
 unfold srt;rw[lD,iY];rfl
theorem qXe(c:Int→Int)(x:Int):srt c [x]=[x]:=O
theorem qP1{c:Int→Int}(hj:j<P.length)(h:¬c x<c P[j]):(qD2 c (P.take (j+1)).reverse x).reverse=P.take (j+1)++[x]:=by
 rw[aG hj,lD];show(qD2 c (P[j]::(P.take j).reverse) x).reverse=_
 rw[qD2,if_neg h];simp
theorem qYo{c:Int→Int}(hj:j<P.length)(h:c x<c P[j]):(qD2 c (P.take (j+1)).reverse x).reverse=(qD2 c (P.take j).reverse x).reverse++[P[j]]:=by
 rw[aG hj,lD];show(qD2 c (P[j]::(P.take j).reverse) x).reverse=_
 rw[qD2,if_pos h];simp
def mv(P:List Int)(x:Int)(j:Nat)(S:List Int):List Int:=P.take j++x::(P.drop j++S)
theorem jEc:(mv P x j S).length=P.length+S.length+1:=by
 unfold mv;grind
theorem jMr(hj:j≤P.length):(mv P x j S)[j]? =some x:=by
 unfold mv;grind
theorem qOs(hj:j<P.length):(mv P x (j+1) S)[j]? =some P[j]:=by
 unfold mv;grind
theorem qYd(hj:j<P.length):((mv P x (j+1) S).set (j+1) P[j]).set j x=mv P x j S:=by
 unfold mv;rw[aG hj,bQ,aX hj];grind
def phi(j:Nat):Nat:=bif Nat.beq j 15 then 16 else j
theorem qFa(h:j<16):phi j≠15∧phi j≠17∧phi j<17:=by
 unfold phi;by_cases hj:j=15
 ·subst hj;decide
 grind
theorem nbp{i:Nat}(h:j<16)(hi:i<15):Nat.beq (phi j) i=Nat.beq j i:=by
 unfold phi;by_cases hj:j=15
 ·subst hj;show Nat.beq 16 i=Nat.beq 15 i
  rw[jJ O1,jJ O1]
 rw[jJ hj];rfl
def swV(b ln cc q:Nat)(x y:Int):Nat→Value:=qE [.slice (Ad b) ln cc,Iv ((q+1:Nat):Int),.slice (Ad b) ln cc,Iv ((q+1:Nat):Int),Iv (q:Int),.slice (Ad b) ln cc,Iv ((q+1:Nat):Int),Iv (q:Int),.pointer (some ⟨b,0+q*1,none⟩),Iv y,.slice (Ad b) ln cc,Iv ((q+1:Nat):Int),.pointer (some ⟨b,0+(q+1)*1,none⟩),Iv x,.pointer (some ⟨b,0+(q+1)*1,none⟩),.pointer (some ⟨b,0+q*1,none⟩)]
attribute [local irreducible] PV StepF wpl wpd WP Ret
attribute [local irreducible] Fit
theorem jO8(a:Int)(w:World):Rk 327 [Iv a] w (.bool false):=by
 refine tW func327 ntmps327 fun hp=>?_;refine tV ?_;exact⟨_,O,(by show Value.bool _= .bool _;simp),hp.C⟩
theorem jVk(a b:Int)(w:World):Rk 244 [Iv a,Iv b] w (Iv (qHo a b)):=by
 refine tW func244 ntmps244 fun hp=>?_;refine tD (jO8 a _) fun w1 hp=>?_;refine tD (jO8 b _) fun w2 hp=>?_;refine gA3 ?_;refine tJ (qH O (fun h=>?_) (fun h=>?_))
 ·refine tV ?_;exact⟨_,O,by unfold qHo;rw[if_pos h];rfl,hp.C⟩
 refine tI (fun h2=>?_) fun h2=>?_
 ·refine tV ?_;exact⟨_,O,by unfold qHo;rw[if_neg h,if_pos h2];rfl,hp.C⟩
 refine tV ?_;exact⟨_,O,by unfold qHo;rw[if_neg h,if_neg h2];rfl,hp.C⟩
def jA4(gf:FuncId)(dy:Array Value)(c:Int→Int)(l:List Int)(M:List Nat)(w:World):Prop:=∀W,Keeps M w W→∀x∈l,∀y∈l,Rt gf ([Iv x,Iv y]++dy.toList) W (fun v W'=>v=Iv (qHo (c x) (c y))∧Keeps [] W W')
theorem jZr(l:List Int)(c:Int→Int)(b cc:Nat)(gf:FuncId)(hg:qI Tryz.prog gf)(dy:Array Value)(w:World)(hr:qBx w b cc l)(hc:l.length≤cc)(qa:cc≤maxLen)(hC:jA4 gf dy c l [b] w)(h20:l.length<20):
  Rt 367 [.slice (Ad b) l.length cc,Iv 0,Iv (l.length:Int),.func (.func gf) #[] dy] w (fun _ w'=>Keeps [b] w w'∧qBx w' b cc (srt c l)):=by
 have uv:∀z:List Int,z.length=l.length→SVL _ cc z:=fun z hz=>.inr ⟨b,cc,by rw[hz],O1,qa⟩
 refine Ret.j9 func367 O ntmps367 O ?_;have hp:=Hp.ofRow hr;refine tM (0+1) ?_;refine qA (kT [8,9,12,13,14,15,16,17,18,19,20,21,22,23,24,25,26,27,28,29,30,31,32,33,34,35,36,37,38,39,40,41,42,43,44,45,46,47,48,49,50,51,52] (fun i _z F=>F.put 8 (.int _ (i+1:Nat)))
  (fun i z w'=>(i+1≤l.length∨i=0)∧z=srt c (l.take (i+1))++l.drop (i+1)∧Hp w _ w' [qG eI 3 1 _ cc z]) (fun i _=>l.length-i) 0 l (qB (Same.eq .refl) O) ⟨.inr O,?_,hp⟩ ?_)
 ·cases l with
  |nil=>rfl
  |cons x l=>simp[qXe]
 (repeat clear hp);rintro u i z w1 ⟨hi,hz,hp⟩;refine tI (fun h=>?_) fun h=>?_
 ·have hl:i+1<l.length:=O1;obtain⟨Pf,hP⟩:∃Pf,Pf=srt c (l.take (i+1)):=⟨_,O⟩;obtain⟨S,hS⟩:∃S,S=l.drop (i+1+1):=⟨_,O⟩;have h3:Pf.length=i+1:=by rw[hP,qXf,bV];omega
  have hU:S.length=l.length-(i+1+1):=by rw[hS,fJ]
  have hT:∀y∈Pf,y∈l:=by
   intro y hy;rw[hP] at hy;exact gF ((qF1 c _).mem_iff.1 hy)
  have nh:=bX hl;have e8:=qSu c (l.take (i+1)) l[i+1];rw[←aG,←hP] at e8;rw[←hP,aX hl,←hS] at hz;generalize hx:l[i+1]=x at nh e8 hz;have zv:z=mv Pf x (i+1) S:=by
   rw[hz];unfold mv;rw[←h3,dE,iQ];rfl
  subst zv;clear hz;refine qA (qQ [9,18,19,20,21,22,23,24,25,26,27,28,29,30,31,32,33,34,35,36,37,38,39,40,41,42,43,44,45,46,47,48,49,50,51,52] (fun(j:Nat) F=>F.put 9 (.int _ j))
   (fun j w'=>j≤i+1∧(qD2 c _ x).reverse=(qD2 c (Pf.take j).reverse x).reverse++Pf.drop j∧Hp w _ w' [qG eI 3 1 _ cc (mv Pf x j S)]) (fun j=>j) _ (qB (Same.eq .refl) O) ⟨O1,by rw[←h3,dE,iQ,bH],hp⟩ ?_)
  (repeat clear hp);rintro u2 j w2 ⟨hj,hH,hp⟩;have x2:(mv Pf x j S).length=l.length:=by rw[jEc];omega
  have gq:=uv _ x2;refine qA ?_;refine jW jG O3 (fun w'=>Hp w _ w' _) hp.N ?_;have hp:=hp.N;refine tP (fun w hp=>qP) (tP (fun w hp=>qP) ?_);rcases dH j with h0|h0
  ·subst h0;refine xA ?_;apply qIv;exact O;exact O;exact O;exact O;exact hp;exact mCc
  obtain⟨q,rfl⟩:∃q,j=q+1:=⟨j-1,O1⟩;have hm:q<Pf.length:=O1;have h7:=jMr (P:=Pf) (x:=x) (j:=q+1) (S:=S) O1;have zt:=qOs (x:=x) (S:=S) hm;have qb:=qYd (x:=x) (S:=S) hm;have h6:=qYo (c:=c) (x:=x) hm;have xy:=qP1 (c:=c) (x:=x) hm;have ni:=hT _ (bX hm);have ey:=aX hm;generalize Pf[q]=y at zt qb h6 xy ni ey;have xz:q+1<l.length:=O1;have zn:q<l.length:=O1;have hJ:q+1<(mv Pf x (q+1) S).length:=O1;refine wdp O (fun w hp=>xJ O O) (qV (aD O1)) (xA ?_);apply yG;exact O;exact O;exact O;intro w hp;exact qS O O (zS hp 0 O gq (fun _=>O) h7 0 _ O);exact fI O;refine xA ?_;refine tN q ?_;refine xA ?_;apply yG;exact O;exact O;exact O;intro w hp;exact qS O O (zS hp 0 O gq (fun _=>O) zt 0 _ O);exact fI O;apply qHt;exact O;exact O;exact O;exact qC O hg O (hC _ hp.C x nh y ni);rintro _ w3 ⟨rfl,hk⟩;have hp:=hp.call hk;refine⟨hp,?_⟩;by_cases bA:c x<c y
  ·have e1:qHo _ _= -1:=if_pos bA;rw[e1];refine xA (qU ?_);refine jB O (qA ?_);refine qGm ?_;intro F0 hq;have hn:F0 0= .slice (Ad b) l.length cc:=by rw[hq];rfl
   have ht:F0 9=Iv (q+1:Nat):=by rw[hq];rfl
   refine qFs jG O3 (fun D F w'=>Dn 37 16 (swV b l.length cc q x y) F0 (fun j=>D (phi j)) F∧(D 15=true→D 9=true∧D 13=true)∧(D 17=true→D 15=true)∧(D 15=false→Hp w _ w' _)∧(D 15=true→D 17=false→Hp w [b] w' [qG eI 3 1 (Ad b) cc ((mv Pf x (q+1) S).set (q+1) y)])∧(D 17=true→Hp w [b] w' [qG eI 3 1 (Ad b) cc (((mv Pf x (q+1) S).set (q+1) y).set q x)])) ⟨Dn.start,O4,O4,fun _=>hp.N,O4,O4⟩ ?_ ?_
   ·rintro i D F w4 hi h8 hA ⟨hD,hK,hE,mw,ed,lj⟩;have hM:=gq.set (q+1) y;have hL:q<((mv Pf x (q+1) S).set (q+1) y).length:=by rw[fZ];omega
    have nf:∀j,j<16→Nat.beq _ 15=_:=fun j hj=>jJ (qFa hj).1
    have na:∀j,j<16→Nat.beq _ 17=_:=fun j hj=>jJ (qFa hj).2.1
    have ng:∀j,j<16→(D (phi j)||Nat.beq (phi j) 16)=(D (phi j)||Nat.beq j 15):=by
     intro j hj;by_cases h:j=15
     ·subst h;rfl
     have e1:phi j=j:=by unfold phi;rw[jJ h];rfl
     exact mCv
    have h15:(D 9=false∨D 13=false)→D 15=false:=by
     intro h;cases h5:D 15
     ·rfl
     exact mBt
    have nxt:∀i,i<15→i≠9999→Dn 37 16 (swV b l.length cc q x y) F0 (fun j=>D (phi j)||Nat.beq (phi j) i) (F.put (37+i) (swV b l.length cc q x y i))∧((D 15||Nat.beq 15 i)=true→(D 9||Nat.beq 9 i)=true∧(D 13||Nat.beq 13 i)=true)∧((D 17||Nat.beq 17 i)=true→(D 15||Nat.beq 15 i)=true)∧((D 15||Nat.beq 15 i)=false→Hp w [b] w4 [qG eI 3 1 (Ad b) cc (mv Pf x (q+1) S)])∧((D 15||Nat.beq 15 i)=true→(D 17||Nat.beq 17 i)=false→Hp w [b] w4 [qG eI 3 1 (Ad b) cc ((mv Pf x (q+1) S).set (q+1) y)])∧((D 17||Nat.beq 17 i)=true→Hp w [b] w4 [qG eI 3 1 (Ad b) cc (((mv Pf x (q+1) S).set (q+1) y).set q x)]):=by
     exact mA7
    match i,hi with
    |0,_=>
     exact mCy
    |1,_=>
     exact mCz
    |2,_=>
     exact mD0
    |3,_=>
     exact mD1
    |4,_=>
     exact mAh
    |5,_=>
     exact mD2
    |6,_=>
     exact mD3
    |7,_=>
     exact mAl
    |8,_=>
     exact mAi
    |9,_=>
     exact mBh
    |10,_=>
     exact mCs
    |11,_=>
     exact mCt
    |12,_=>
     exact mAg
    |13,_=>
     exact mBf
    |14,_=>
     exact mA3
    |15,_=>
     have hA:(D 14&&(D 9&&(D 0&&(D 1&&(true&&(true&&(true&&(D 5&&(D 6&&(D 7&&(D 8&&(D 9&&(true&&(true&&(true&&(D 13&&true))))))))))))))))=_:=hA;simp[aF,eX,rZ] at hA;have h9:=hA.2.1;have h13:D 13=true:=by simp[hA]
     refine qU9 (zL eI _ _ y (mw h8) 0 O gq hJ (hD.slot 14 hA.1 O O) (hD.slot 9 h9 O O) (fun _=>O) O O (qD O)) ?_;exact mAa
    |16,_=>
     have hA:(D 2&&(D 4&&(D 0&&(D 1&&(D 2&&(D 3&&(D 4&&(D 5&&(D 6&&(D 7&&(D 8&&(D 9&&(D 10&&(D 11&&(D 12&&(D 13&&(D 14&&(D 15&&true))))))))))))))))))=_:=hA;simp[aF,eX] at hA;have h4:D 15=true:=by simp[hA]
     exact mAv
    |17,_=>
     have hA:(D 16&&(D 13&&(D 15&&(D 0&&(D 1&&(D 2&&(D 3&&(D 4&&(D 5&&(D 6&&(D 7&&(D 8&&(D 9&&(D 10&&(D 11&&(D 12&&(D 13&&(D 14&&(D 15&&true)))))))))))))))))))=_:=hA;simp[aF,eX] at hA;have h4:D 15=true:=by simp[hA]
     have h13:D 13=true:=by simp[hA]
     refine qU9 (zL eI _ q x (ed h4 h8) 0 O hM hL (hD.slot 15 hA.1 O O) (hD.slot 13 h13 O O) (fun _=>O) O O (qD O)) ?_;exact mAe
    |i+18,hi=>exact absurd hi O4
   exact mAk
  have e1:¬qHo (c x) (c y)<0:=by
   unfold qHo;rw[if_neg bA];split<;>decide
  apply yG;exact O;exact O;exact O;intro w hp;exact zQ O O;exact qV (aB e1);exact mCa
 have uu:z=srt c l:=by
  rw[hz];rcases hi with hi|hi
  ·grind
  exact mE5
 exact mEb
theorem jZz(l:List Int)(c:Int→Int)(b cc:Nat)(gf:FuncId)(hg:qI Tryz.prog gf)(dy:Array Value)(w:World)(hr:qBx w b cc l)(hc:l.length≤cc)(qa:cc≤maxLen)(hC:jA4 gf dy c l [b] w)(h20:l.length<20):
  Rt 332 [.slice (Ad b) l.length cc,Iv (l.length:Int),.func (.func gf) #[] dy] w (fun _ w'=>Keeps [b] w w'∧qBx w' b cc (srt c l)):=by
 refine tW func332 ntmps332 fun hp=>?_;refine qA (qQ [7,8,11,12,13,14,15,16,17,18,19,20,21,22] (fun _ F=>(F.put 7 (.int _ 0)).put 8 (.int _ 20)) (fun _ w'=>w'=w) (fun _=>0) () (qB (qB (Same.eq .refl) O) O) O ?_);rintro u ⟨⟩ _ rfl;refine qA ?_;refine qH O O1 (fun _=>tL (jZr l c b cc gf hg _ _ hr hc qa hC h20) ?_);exact mA6
theorem zAj(l:List Int)(c:Int→Int)(b cc:Nat)(gf:FuncId)(hg:qI Tryz.prog gf)(dy:Array Value)(w:World)(hr:qBx w b cc l)(hc:l.length≤cc)(qa:cc≤maxLen)(hC:jA4 gf dy c l [b] w)(h20:l.length<20):
  Rt 265 [.slice (Ad b) l.length cc,.func (.func gf) #[] dy] w (fun _ w'=>Keeps [b] w w'∧qBx w' b cc (srt c l)):=by
 refine Ret.j9 func265 O ntmps265 O (tL (jZz l c b cc gf hg _ _ hr hc qa hC h20) ?_);exact mC4
end
open Go.Eng Go.Dig Go.Lp Go.Qu
def orI(a b:Int):Int:=IntKind.i64.wrap ((BitVec.ofInt 64 a|||BitVec.ofInt 64 b).toNat:Int)
theorem jOj{P:Program}{n:FrK}{w:World}{F:Fr}{d:Option Tmp}{ty:TypeId}{pos:String}{aft:Array Edge}{g:Option (Nat×Bool)}{x y:Operand}{t t':Nat}{a b:Int}(hx:ev n F x=Iv a)(hy:ev n F y=Iv b):
  PV P n w F ⟨d,.binOp .or t x y t',ty,pos,aft,g⟩ (Iv (orI a b)):=by
 simp only[PV,execOp,hx,hy,eqGuard,binOp,Op.intBits];rfl
theorem jE0{n:Nat}{l:List Int}(h:l.Perm (lm n fun i:Nat=>(i:Int))):∃o:List Nat,l=o.map (fun x:Nat=>(x:Int))∧o.Perm (range n)∧o.length=n∧∀x∈o,x<n:=by
 have hm:∀x∈l,∃k:Nat,k<n∧_:=fun x hx=>by
  obtain⟨k,hk,e⟩:=bD.1 (h.mem_iff.1 hx);exact⟨k,aO.1 hk,e.symm⟩
 have e1:l=(l.map Int.toNat).map (fun x:Nat=>(x:Int)):=by
  rw[iP]
  conv=>lhs;rw[←sBs l]
  refine lV fun x hx=>?_
  obtain⟨k,_,rfl⟩:=hm x hx;simp
 refine⟨_,e1,?_,?_,fun x hx=>?_⟩
 ·have e2:(lm n fun i=>(i:Int)).map Int.toNat=range n:=by
   unfold lm;rw[iP]
   conv=>rhs;rw[←sBs (range n)]
   exact lV fun x _=>O4
  grind
 ·rw[aM,h.length_eq,qT]
 obtain⟨y,hy,rfl⟩:=bD.1 hx;obtain⟨k,hk,rfl⟩:=hm y hy;omega
theorem jY0(o:List Nat):(o.map fun x:Nat=>(x:Int)).flatMap eI=o.flatMap eN:=by
 rw[oR];rfl
theorem qI5{s:Option Addr}{c:Nat}(o:List Nat):qG eI 3 1 s c (o.map fun x:Nat=>(x:Int))=qG eN 3 1 s c o:=by
 unfold qG;rw[jY0,aM]
attribute [local irreducible] PV StepF wpl wpd WP Ret
attribute [local irreducible] Fit
theorem jVp(n:Nat)(W:World)(hn:n≤1000):
  Rt 224 [Iv (n:Int)] W (fun v w'=>∃b,v= .slice (Ad b) n n∧SVL (Ad b) n (lm n fun i:Nat=>(i:Int))∧Hp W [] w' [qG eI 3 1 (Ad b) n (lm n fun i:Nat=>(i:Int))]):=by
 refine tW func224 ntmps224 fun hp=>?_;refine qA ?_;refine tF (yE eI 0 hp O O O O O O O O1 O) fun w1 b⟨hv,hp⟩=>?_;rw[qAn] at hp hv;rw[qMf (f:=fun i=>(i:Int))] at hp;refine qA (qQ ([4]++range' 9 8) (fun(k:Nat) F=>F.put 9 (.int _ k)) (fun k w'=>k≤n∧Hp W [] w' [qG eI 3 1 _ n (lm n fun i=>if i<k then i else 0)]) (fun k=>n-k) 0 (qB (Same.eq .refl) O) ⟨O1,hp⟩ ?_);clear hp;rintro u k w2 ⟨hk,hp⟩;refine tI (fun h=>?_) fun h=>?_
 ·have hl:k<n:=O1;refine qA (tO (zL eI _ k k hp 0 O (jZ hv (by rw[qT,qT])) (by rw[qT];omega) O O (fun _=>O) O O (qD O)) fun w3 hp=>?_);rw[qTq] at hp;exact mB9
 obtain rfl:n=k:=O1;rw[qMe (f:=fun i=>(i:Int))] at hp;refine tV ?_;exact⟨_,O,b,O,jZ hv (by rw[qT,qT]),hp⟩
theorem zA4(n gm mb cm x y:Nat)(mk:Nat→Int)(W:World)(hb:W.cell? ⟨mb,0,none⟩=some (.slice (Ad gm) n cm))(hs:SlAt W 1 eI (Ad gm) (lm n mk))(hx:x<n)(hy:y<n):
  Rk 324 [Iv (x:Int),Iv (y:Int),.pointer (Ad mb)] W (Iv (qHo (mk x) (mk y))):=by
 have h1:W.cell? ⟨gm,0+x*1,_⟩=_:=zM hs hx 0 _ O;have h2:W.cell? ⟨gm,0+y*1,_⟩=_:=zM hs hy 0 _ O;refine tW func324 ntmps324 fun hp=>?_;refine tY fun hp=>?_;refine tH (jVk _ _ _) fun w1 hp=>?_;refine qX (qU ?_);exact mA0
set_option maxHeartbeats 1000000 in
theorem zAr(d:DW)(s:Option Addr)(c:Nat)(l:List EW)(W:World)(hD:DE d s l W)(h19:l.length<20):
  Rt 238 [d.v,.slice s l.length c] W (fun v w'=>∃(b:Nat) (o:List Nat),v= .slice (Ad b) o.length o.length∧o.Perm (range l.length)∧o.length=l.length∧(∀x∈o,x<l.length)∧SVL (Ad b) o.length o∧Hp W [] w' [qG eN 3 1 (Ad b) o.length o]):=by
 have hm:=hD.lq;refine tW func238 ntmps238 fun hp=>?_;refine qR ?_;refine tQ fun w1 bd hp=>?_;have hp:=hp.norm 0 d.L O O;refine qA ?_;refine tF (yE eI 0 hp O O O O O O O O1 O) fun w2 gm⟨xf,hp⟩=>tQ fun w3 mb hp=>?_;refine tS fun w4 hp=>?_;have hp:=hp.norm 0 [.slice _ _ _] O O;rw[qAn] at hp xf;have sa:∀f:Nat→Int,SVL _ _ (lm _ f):=fun f=>jZ xf (by rw[qT,qT])
 have hp:Hp W [] w4 [blk mb 1 _ 22,_,blk bd 13 _ 28]:=hp;refine qA (qQ ([6,7,8,9]++range' 16 25) (fun(k:Nat) F=>F.put 16 (.int _ k)) (fun k w'=>k≤l.length∧∃mk,Hp W [] w' [_,qG eI 3 1 _ _ (lm _ mk),_]) (fun k=>l.length-k) 0 (qB (Same.eq .refl) O) ⟨O1,_,hp⟩ ?_);clear hp;rintro u k w5 ⟨hk,mk,hp⟩;refine tI (fun h=>?_) fun h=>?_
 ·have hl:k<l.length:=O1;obtain⟨e,he⟩:∃e,l[k]? =some e:=⟨_,aA hl⟩;obtain⟨be,oe,hM,h8⟩:=hD.e k e he;have x4:=hD.g e (aI he);have oj:=hD.lg e (aI he);refine qA (wlp (qL O O O O (fun j v hv=>hp.j7 (h8 j v hv))) (O:_=e.v) ?_);refine tF (zE (cs:=[_,_,_,_,_,_]) (m:=6) hp (qJ O) O O) fun w6 b7 hp=>tT fun w7 hp=>?_;have hp:=hp.norm 0 (eEn e) O O;refine qR (wlp (qL O O O O (hp.j3 3 O O)) (O:_=d.v) ?_);refine wlp (qL O O O O (hp.j3 0 O O)) (O:_=e.v) (tK (jOe d e _ (hD.q.j6 hp.C) (x4.j6 hp.C) hm oj) ?_);rintro _ w8 ⟨b',rfl,hj,hpo⟩;have hp:=hp.H.join hpo;clear hpo;have hp:Hp W [] w8 [_,_,_,_]:=hp;refine qA (qQ ([8,9]++range' 25 15) (fun(q:Nat) F=>F.put 25 (.int _ q)) (fun q w'=>q≤d.Q.length∧∃mk,Hp W [] w' [_,_,qG eI 3 1 _ _ (lm _ mk),_]) (fun q=>d.Q.length-q) 0 (qB (Same.eq .refl) O) ⟨O1,mk,hp⟩ ?_);clear hp;rintro u2 q w9 ⟨hq,mk,hp⟩;refine tI (fun h2=>?_) fun h2=>?_
  ·have hh:q<d.Q.length:=O1;have cB:w9.cell? ⟨b',0+q*1,_⟩=_:=zM (qZ hp 0 O hj (fun _=>O)) hh 0 _ O;refine qA ?_;cases hb:inB d e q with
   |false=>
    refine gA2 ?_;exact⟨q+1,qB O5 O,⟨O1,mk,hp⟩,O1⟩
   |true=>
    refine jB O ?_;refine jU jG O3 (fun w'=>Hp W [] w' _) hp.N ?_;have hp:=hp.N;refine qX ?_;refine wdp O (fun w hp=>qS O O (zM (qZ hp 2 O (sa _) (fun _=>O)) hl 0 _ O)) O (qX ?_);refine tP (fun w hp=>qJ1 O O O1) (tP (fun w hp=>jOj O O) ?_);refine qX ?_;apply xH;exact O;exact O;exact zL eI _ k _ hp 2 O (sa _) (by rw[qT];omega) O O (fun _=>O) O O (qD O);rintro _ ur ⟨rfl,hp⟩;refine qU ?_;rw[vF] at hp;refine gA0 ?_;exact⟨q+1,qB O5 O,⟨O1,_,hp⟩,O1⟩
  refine gA0 ?_;exact⟨k+1,qB O5 O,⟨O1,mk,hp.H⟩,O1⟩
 refine tL (jVp l.length _ O1) ?_;rintro _ w6 ⟨b,rfl,hg,hpo⟩;have hp:=hp.join hpo;clear hpo;have hp:Hp W [] w6 [_,_,_,_]:=hp;refine qA ?_;have hn:(lm _ fun i=>(i:Int)).length=l.length:=qT;have h3:mb∉[b]:=by
  have:=hp.y4 (i:=1) (j:=0) O O O2;exact mCe
 have h4:gm∉[b]:=by
  have:=hp.y4 (i:=2) (j:=0) O O O2;exact mCe
 have cM:w6.cell? ⟨mb,0,_⟩=some (.slice _ _ l.length):=hp.cell 1 O O;have sM:=qZ hp 2 O (sa mk) (fun _=>O);have hC:jA4 324 #[.pointer (Ad mb)] (fun z=>mk z.toNat) (lm l.length fun i:Nat=>(i:Int)) [b] w6:=fun W' hH x hx y hy=>by
  obtain⟨x',hX,rfl⟩:=bD.1 hx;obtain⟨y',er,rfl⟩:=bD.1 hy;have:=zA4 _ gm mb _ x' y' mk W' (hH.cell cM h3) (SlAt.y3 sM hH h4) (aO.1 hX) (aO.1 er);exact mCe
 have call:=zAj _ _ b _ 324 jQp _ w6 (Hp.y8 hp 0 O) O1 (by unfold maxLen;omega) hC O1;rw[hn] at call;refine tK call ?_;rintro _ w7 ⟨hk,jp⟩;have hp:=Hp.aC2 hp 0 O hk jp;obtain⟨o,vx,vw,ht,hz⟩:=jE0 (qF1 (fun z=>mk z.toNat) (lm l.length _));refine qA ?_;have hp:=hp.sub (dT [_] _);rw[vx,qI5,←ht] at hp;exact qM O O ⟨_,O,b,o,by rw[ht];rfl,vw,ht,hz,by rw[ht];exact jZ hg O1,hp⟩
end Go.Proofs.YtplkndjlfkkjlaaGreatDoor
namespace Go.Eng
open List (range range' replicate)
def KeepsC(w w':World):Prop:=∀(x:Addr) (v:Value),w.cell? x=some v→w'.cell? x=some v
theorem KeepsC.of{w w':World}{m:Nat}(hk:Keeps [m] w w')(hm:∀(x:Addr) (v:Value),w.cell? x=some v→x.block≠m):KeepsC w w':=fun x v h=>hk.cell h (by grind)
theorem KeepsC.o6{α:Type}{w w':World}{k:Nat}{enc:α→List Value}{s:Option Addr}{l:List α}(h:KeepsC w w')(hs:SlAt w k enc s l):SlAt w' k enc s l:=fun i x hx=>by
 obtain⟨b,o,e,hc⟩:=hs i x hx;exact⟨b,o,e,fun j v hv=>h _ _ (hc j v hv)⟩
end Go.Eng
namespace Go.Proofs.YtplkndjlfkkjlaaGreatDoor
open List (range range' replicate)
open Tryz
open Go.Eng Go.Dig Go.Lp Go.Qu
variable{s:St}{w:World}{g:K14→Option Value}{t:St}
theorem qFf{m:Nat}{w0:World}{M:List Nat}{L:List Ent}(hp:Hp w0 M w L)(i:Nat)(hi:L[i]? =some (zV kSt m g)):∀(x:Addr) (v:Value),w.cell? x=some v→x.block≠m:=fun x v hx e=>by
 obtain⟨o,ho,l,clock,rfl,_⟩:=hp.has i _ hi m O;rw[←e] at ho;simp[World.cell?,ho] at hx
theorem SeAt.l8{a:SeA}{d:DW}{f:Q}{w':World}(h:SeAt a d f w)(hk:KeepsC w w'):SeAt a d f w':=
 ⟨hk _ _ h.h0,hk _ _ h.h1,hk _ _ h.h2,hk.o6 h.q,hk.o6 h.hI,fun i hi=>hk.o6 (h.rI i hi),hk.o6 h.hR,fun i hi=>hk.o6 (h.rR i hi),h.fq,h.lq,h.lN⟩
structure SI(f:Q)(s:St):Prop where
 ok:f.Ok s
 c:s.cs.length=12
 l:s.left≤40
 n:s.next≤40
 b:∀k,-1≤s.cs.getD k 0∧s.cs.getD k 0≤s.next
theorem SI.aA8{f:Q}(h:SI f s):StB s:=⟨h.n,h.l,h.c,fun k=>by have:=h.b k;have:=h.n;omega⟩
theorem jCe{f:Q}(hl:f.q.length≤s.cs.length)(h:f.tidy s=some t):∀k,t.cs.getD k 0= -1∨t.cs.getD k 0=s.cs.getD k 0:=by
 intro k;unfold Q.tidy at h;split at h
 ·cases h
 have hs:=qDb (f:=f) (next:=s.next) (left:=s.left) f.q 0 s.cs O1;cases hr:f.p5 _ _ 0 _ _ with
 |none=>rw[hr] at h;simp at h
 |some cs=>
  rw[hr] at h hs;obtain rfl:{s with cs:=cs}=t:=by grind
  by_cases hk:k<f.q.length
  ·have:=hs.2 k _ (aA hk);grind
  grind
theorem SI.k9{f:Q}{s t:St}{b:Bool}(h:SI f s)(hN:f.N≤40)(h0:0<s.left)(hs:f.k9 s b=some t):SI f t∧t.next=s.next+1:=by
 obtain⟨h1,h2,h3,h4,_⟩:=wW h.ok h0 hs;have hg:=h.ok.lt h0;have hl:=h.ok.td.cl;refine⟨⟨h1,by rw[h4];exact h.c,?_,O1,fun k=>?_⟩,h2⟩
 ·have:=h.l;grind
 have hb:=h.b k;rcases jCe (qPz b hl) hs k with e|e
 ·omega
 rw[e];cases b
 ·grind
 simp only[if_true];rcases jNa _ _ _ hl k with e2|e2<;>rw[e2]<;>omega
open Classical in
noncomputable def qDo(f:Q)(s:St):Bool:=decide (∃T,f.Cmp s T)
noncomputable def qEu(f:Q)(s:St)(b:Bool):Bool:=match f.k9 s b with
 |some t=>qDo f t
 |none=>false
theorem qIh{f:Q}:qDo f s=true↔∃T,f.Cmp s T:=by
 unfold qDo;simp
theorem qP3{f:Q}(h:f.Ok s)(h0:s.left=0):qDo f s=true:=qIh.2 ⟨[],h.td.fin h0⟩
theorem qTh{f:Q}{b:Bool}(h:f.Ok s)(h0:0<s.left):qEu f s b=true↔∃T,(if b then f.Cmp s (s.next::T) else f.Cmp s T∧s.next∉T):=by
 unfold qEu;cases hs:f.k9 s b with
 |none=>
  simp only[eE,false_iff];rintro⟨T,hT⟩;exact qLb h h0 hs T hT
 |some t=>
  rw[qIh];have:=(wW h h0 hs).2.2.2.2;grind
theorem qJ8{f:Q}(h:f.Ok s)(h0:0<s.left):qDo f s=(qEu f s true||qEu f s false):=by
 rw[iG,fQ,qIh,qTh h h0,qTh h h0];constructor
 ·rintro⟨T,hT⟩;rcases qIr hT with hn|⟨T',rfl⟩
  ·grind
  grind
 grind
def stK(s:St)(h:s.cs.length=12):K14:=⟨stZ s,by simp[stZ,h]⟩
def RightM(f:Q)(g:K14→Option Value):Prop:=∀(t:St) (h:t.cs.length=12) (v:Value),SI f t→g (stK t h)=some v→v= .bool (qDo f t)
theorem qXd(h:stZ s=stZ t):s=t:=by
 cases s;cases t;simp[stZ,sH] at h;grind
theorem RightM.put{f:Q}(h:RightM f g)(hc:s.cs.length=12):RightM f (fun x=>if x=stK s hc then some (.bool (qDo f s)) else g x):=by
 intro t ht v hS hg;simp[] at hg;by_cases e:stK t ht=stK s hc
 ·have:=qXd (aQ Subtype.val e);grind
 rw[if_neg e] at hg;exact h t ht v hS hg
attribute [local irreducible] PV StepF wpl wpd WP Ret
attribute [local irreducible] Fit
set_option maxRecDepth 20000 in
set_option maxHeartbeats 2000000 in
theorem jOd(a:SeA)(d:DW)(f:Q)(kb fb sa mp:Nat):∀(n:Nat) (s:St) (g:K14→Option Value) (W:World),f.N-s.next=n→SI f s→SeAt a d f W→W.cell? ⟨kb,0,none⟩=some (.map (some mp))→W.cell? ⟨fb,0,none⟩=some (.pointer (some ⟨a.sb,0,none⟩))→
  W.cell? ⟨sa,0,none⟩=some (.func (.func 225) #[] #[.pointer (Ad kb),.pointer (Ad fb),.pointer (Ad sa)])→RightM f g→Hp W [mp] W [zV kSt mp g]→
  Rt 225 [.agg (i8L (stZ s)).toArray,.pointer (Ad kb),.pointer (Ad fb),.pointer (Ad sa)] W (fun v w'=>v= .bool (qDo f s)∧∃g',RightM f g'∧Hp W [mp] w' [zV kSt mp g']):=by
 intro n;induction n using Nat.strongRecOn with
 |_ n ih=>
 intro s g W hn hI hS ck cf cs hg hp;have h14:(i8L (stZ s)).length=14:=by rw[vC];simp[stZ,hI.c]
 have hN:=hS.lN;have mT:Tryz.prog.underlying 296=some (.map 293 4):=O3;have hm:∀{w':World} {L:List _},Hp W _ w' L→KeepsC W w':=fun h=>KeepsC.of h.keeps (qFf hp 0 O)
 refine Ret.j9 func225 O ntmps225 O (qR ?_);refine tF (kW (cs:=i8L _) hp O O h14) fun w1 b4 hp=>?_;have hp:Hp W _ w1 [blk b4 14 _ 293,_]:=hp;refine tI (fun h=>?_) fun h=>?_
 ·have h0:s.left=0:=O1;refine qA ?_;exact qM (v:=.bool _) O O ⟨_,O,by rw[qP3 hI.ok h0],g,hg,hp.H⟩
 have h0:0<s.left:=O1;have hl:=hI.ok.lt h0;have hz:∀k,s.cs.getD k 0≤39:=fun k=>by have:=hI.b k;omega
 have h4:=hm hp;have ce:=h4 _ _ ck;refine qR (wlp (qS O O ce) O ?_);refine wlp (qL O O O h14 (hp.j3 0 O h14)) O (wlp (qH0 (a:=stK s hI.c) hp 1 O O O mT (qJ O)) O ?_);cases hgs:g (stK s hI.c) with
 |some v=>
  obtain rfl:=hg s _ v hI hgs;refine qA (jB O ?_);refine tV ?_;exact⟨_,O,O,g,hg,hp.H⟩
 |none=>
  refine gA3 ?_;refine tF (jC (cs:=[.bool _,.bool _]) hp O O O O O O O) fun w2 bs hp=>?_;have hp:Hp W _ w2 [blk bs 2 _ 4,_,_]:=hp;refine qA ?_;obtain⟨fo,h5⟩:∃fo:Nat→Bool,fo=fun k=>(decide (1≤k)&&qEu f s true)||(decide (2≤k)&&qEu f s false):=⟨_,O⟩
  have ff:fo 0=false:=by rw[h5];rfl
  have fc:fo 2=qDo f s:=by rw[h5,qJ8 hI.ok h0];rfl
  have fe:∀k,k<2→fo (k+1)=(fo k||qEu f s (decide (k=0))):=fun k hk=>by
   grind
  refine qQ ([8,10,11,12]++range' 26 20) (fun k F=>(F.put 8 (.bool (fo k))).put 26 (.int _ k)) (fun k w'=>k≤2∧∃g',RightM f g'∧Hp W _ w' [_,_,zV _ mp g']) (fun k=>2-k) 0 (qB (qB (Same.eq .refl) (by rw[ff];rfl)) O) ⟨O1,g,hg,hp⟩ ?_;clear hp;rintro u k w3 ⟨hk,g',h6,hp⟩;refine tI (fun h2=>?_) fun h2=>?_
  ·have zj:k<2:=O1;have cT:w3.cell? ⟨bs,0+k*1,none⟩=some (.bool (decide (k=0))):=by
    rcases(show k=0∨k=1 by omega) with rfl|rfl
    ·exact hp.cell 0 O O
    exact hp.cell 0 O O
   have h3:=hm hp;have ci:=h3 _ _ cf;have cg:=h3 _ _ cs;refine gA4 ?_;refine jM ?_;refine qR ?_;refine jM (wlp (qL O O O h14 (hp.j3 1 O h14)) O ?_);refine tL (jAr a d f s _ _ (hS.l8 h3) hI.aA8 hz hl h0) ?_;rintro v w4 ⟨hv,qs⟩;have hp:=hp.call qs;obtain⟨l,zh,rfl,oy⟩:=qHa hv (fun t ht=>(hI.k9 hN h0 ht).1.c);have hh:(i8L l).length=14:=by rw[vC];exact zh
   refine qA (tF (zE (cs:=i8L (replicate 14 0)) (m:=14) hp (qJ O) O O) fun w5 be hp=>?_);refine tO (zH (cs:=i8L l) hp 0 O O O O (by rw[hh];exact qD O) (by rw[hh];rfl) (vY _)) fun w6 hp=>?_;have hp:=hp.norm 0 _ O (yJ _ _ hh);have hp:Hp W _ w6 [blk _ 14 _ 293,_,_,_]:=hp;have hy:=hm hp;have cc:=hy _ _ cs;have ea:=fe k zj;cases ho:f.k9 s (decide (k=0)) with
   |none=>
    have e:fo (k+1)=fo k:=by
     rw[ea];unfold qEu;rw[ho,dI]
    exact mDj
   |some t=>
    obtain⟨hx,hq⟩:=hI.k9 hN h0 ho;obtain rfl:=oy t ho;have e:fo (k+1)=(fo k||qDo f t):=by
     rw[ea];unfold qEu;rw[ho]
    cases hf:fo k with
    |true=>
     rw[hf,Bool.true_or] at e;exact mDj
    |false=>
     rw[hf,oZ] at e;refine jL (jB O ?_);refine qR (wlp (qS O O cc) O ?_);refine wlp (qL O O O hh (hp.j3 0 O hh)) O ?_;have hj:=Hp.l5 (A:=[_,_,_]) hp;refine tK (ih _ O1 t g' _ O hx (hS.l8 hy) (hy _ _ ck) (hy _ _ cf) cc h6 hj) ?_;rintro _ w7 ⟨rfl,g2,zt,lj⟩;have hp:=Hp.back (A:=[_,_,_]) hp lj;refine gA0 ?_;exact⟨k+1,qB (qB O5 (by rw[e];rfl)) O,⟨O1,g2,zt,hp.H⟩,O1⟩
  obtain rfl:k=2:=O1;rw[fc];have h3:=hm hp;have ca:=h3 _ _ ck;refine qR (wlp (qS O O ca) O ?_);refine wlp (qL O O O h14 (hp.j3 1 O h14)) O (qA ?_);refine tO (qLc (a:=stK s hI.c) hp 2 O O O O mT) fun w4 hp=>tV ?_;exact⟨_,O,O,_,h6.put _,hp.H.H⟩
end Go.Proofs.YtplkndjlfkkjlaaGreatDoor
namespace Go.Eng
open List (range range' replicate)
section
variable{B:Nat}{M:List Nat}{W W':World}{id:Nat}{α:Type}
structure KB(B:Nat)(M:List Nat)(W W':World):Prop where
 size:W.heap.size≤W'.heap.size
 block:∀k,B≤k→k<W.heap.size→k∉M→W'.heap[k]? =W.heap[k]?
theorem KB.of(h:Keeps M W W'):KB B M W W':=⟨h.size,fun k _ h1 h2=>h.block k h1 h2⟩
theorem KB.trans{B:Nat}{M M':List Nat}{W W' W2:World}(h:KB B M W W')(h2:KB B M' W' W2)(hm:∀k,k∈M'→k<W.heap.size→k∈M):KB B M W W2:=
 ⟨bL h.size h2.size,fun k hb hk hn=>(h2.block k hb (by have:=h.size;omega) (fun hx=>hn (hm k hx hk))).trans (h.block k hb hk hn)⟩
theorem KB.cell(h:KB B M W W'){x:Addr}{v:Value}(hc:W.cell? x=some v)(hb:B≤x.block)(hm:x.block∉M):W'.cell? x=some v:=by
 have hl:x.block<W.heap.size:=by
  refine bG fun hn=>?_
  have:W.heap[x.block]? =none:=Array.getElem?_eq_none O1;simp[World.cell?,this] at hc
 unfold World.cell? at hc⊢;rw[h.block _ hb hl hm];exact hc
theorem Priv.of(h:Keeps M W W')(hm:∀m∈M,B≤m)(hb:B≤W.heap.size):Priv B W W':=
 ⟨h.os,h.tape,h.output,h.size,fun k hk=>h.block k O1 (fun hx=>by grind)⟩
theorem Priv.trans{B:Nat}{W W' W2:World}(h:Priv B W W')(h2:Priv B W' W2):Priv B W W2:=
 ⟨h2.os.trans h.os,h2.tape.trans h.tape,h2.output.trans h.output,bL h.size h2.size,fun k hk=>(h2.block k hk).trans (h.block k hk)⟩
theorem Priv.drew(B:Nat)(W:World):Priv B W W.drew:=⟨O,O,O,bM _,fun _ _=>O⟩
section
variable {P:Program}{n:FrK}{ops:Array Oper}{Q:Exit→Fr→World→Prop}{F:Fr}{w:World}{fuel i j:Nat}{listed:Array Bool}{K:Fr→World→Prop}{op:Op}{ty:TypeId}{pos:String}{aft:Array Edge}{d:Nat}
def qSd(P:Program)(n:FrK)(ops:Array Oper)(fuel:Nat)(listed:Array Bool)(Q:Exit→Fr→World→Prop)(F:Fr)(w:World):Prop:=wpAnyIn n.n7 0 P .any ops (up n Q) fuel listed (act n F) w
def WOp(P:Program)(n:FrK)(ops:Array Oper)(i:Nat)(K:Fr→World→Prop)(Q:Exit→Fr→World→Prop)(F:Fr)(w:World):Prop:=wpOpIn n.n7 0 P ops (up n Q) i (fun a w=>∃F',a=act n F'∧K F' w) (act n F) w
theorem qS7(h:Region.ready .any ops listed=[])(hq:Q .normal F w):qSd P n ops fuel listed Q F w:=by
 cases fuel with
 |zero=>exact⟨h,F,O,hq⟩
 |succ k=>exact⟨fun _=>⟨F,O,hq⟩,fun i hi=>(by rw[h] at hi;cases hi)⟩
theorem qB1(i:Nat)(h:Region.ready .any ops listed=[i])(hi:WOp P n ops i (fun F w=>qSd P n ops fuel (listed.setIfInBounds i true) Q F w) Q F w):qSd P n ops (fuel+1) listed Q F w:=by
 refine⟨fun e=>(by grind),fun k hk=>?_⟩;rw[h] at hk;obtain rfl:k=i:=by grind
 refine wpOpIn_mono ?_ hi;exact mEa
theorem qZy(i j:Nat)(h:Region.ready .any ops listed=[i,j])(hi:WOp P n ops i (fun F w=>qSd P n ops fuel (listed.setIfInBounds i true) Q F w) Q F w)(hj:WOp P n ops j (fun F w=>qSd P n ops fuel (listed.setIfInBounds j true) Q F w) Q F w):qSd P n ops (fuel+1) listed Q F w:=by
 refine⟨fun e=>(by grind),fun k hk=>?_⟩;rw[h] at hk;have hk:=by simpa using hk
 rcases hk with rfl|rfl
 ·refine wpOpIn_mono ?_ hi;exact mEa
 refine wpOpIn_mono ?_ hj;exact mEa
theorem jK0{R:Value→World→Prop}(ho:ops[i]? =some ⟨some d,op,ty,pos,aft,none⟩)(hs:StepF P n ⟨some d,op,ty,pos,aft,none⟩ F w R)(h:∀v w',R v w'→K (F.put d v) w'):WOp P n ops i K Q F w:=by
 unfold WOp wpOpIn;rw[ho];refine Step.wpIn hs fun v w' hr=>⟨_,?_,h v w' hr⟩
 rw[zN];rfl
theorem jB0{r:Value}(ho:ops[i]? =some ⟨some d,op,ty,pos,aft,none⟩)(hs:PV P n w F ⟨some d,op,ty,pos,aft,none⟩ r)(h:K (F.put d r) w):WOp P n ops i K Q F w:=by
 refine jK0 (R:=fun u w'=>u=r∧w'=w) ho (.inl ⟨r,w,?_,O,O⟩) ?_
 ·rw[zF];exact hs
 grind
theorem zCw{m l:Nat}{x:Operand}{args:Array Operand}{ts:Array TypeId}{vs:List Value}{R:Ending→World→Prop}(ho:ops[i]? =some ⟨some d,.call ⟨.value x,args,ts⟩,ty,pos,aft,none⟩)
  (hx:ev (FrK.of m) F x= .func (.yield l) #[] #[]) (n2:args.toList.map (ev (FrK.of m) F)=vs) (hy:YieldAt Fence.wide 0 P l vs.toArray w R)
  (h:∀e w',R e w'→∃v,e= .returned v∧K (F.put d v) w'):WOp P (FrK.of m) ops i K Q F w:=by
 obtain⟨fn,tmps,assign,body,pu,pw⟩:=hy;unfold WOp wpOpIn;rw[ho];refine⟨fun _ _=>trivial,?_⟩;have ha:args.map (ev (FrK.of m) F)=vs.toArray:=by
  rw[←n2];apply sBw;rw[rQ]
 have hex:(execOp (ev (FrK.of m) F) ⟨some d,.call ⟨.value x,args,ts⟩,ty,pos,aft,none⟩).run P w= .ok (.round l fn tmps assign body) w:=by
  exact mBb
 rw[sA7 _ _ _ O4,zF,hex];refine⟨fun h=>(by cases h),RoundIn.mono pw ?_⟩;intro e w' hr;obtain⟨v,rfl,h2⟩:=h e w' hr;refine⟨_,?_,h2⟩;rw[zN];rfl
theorem jU5{l:List Oper}(k:Nat)(hl:l.length=k)(hm:P.follows .mixedOrders=true)(h:qSd P n l.toArray k (Array.replicate k false) Q F w.drew):WP P n (.region id l.toArray true) Q F w:=by
 subst hl;refine wpIn_region_any hm ?_;simpa[qSd] using h
end
def ItS(P:Program)(g:FuncId)(lb:List Value)(enc:α→Value)(X:α→World→Prop)(b:Bool)(w:World):Prop:=
 ∀(l:Nat) (J:World→Prop) (Z:World→Prop),l<w.heap.size→(∀(a:Addr) (v:Value),w.cell? a=some v→a.block≠l)→
  (∀x W1,J W1→X x W1→YieldAt Fence.wide 0 P l #[enc x] W1 fun e W'=>e= .returned (.bool false)∧Z W'∧KB w.heap.size [] W1 W')→
  (∀W W',J W→Priv w.heap.size W W'→J W')→J w→
  Ret P g (.func (.yield l) #[] #[]::lb) w (fun _ W'=>if b then Z W' else J W')
section
variable {P:Program}{QA:Exit→Act→World→Prop}{F:Fr}{w:World}
theorem jI9{p sz:Nat}{ds:List Deferred}{assign body:Code}{oS:Operand}{gf:FuncId}{lb:List Value}
  (hg:ev ⟨sz,ds,none⟩ F oS= .func (.func gf) #[] lb.toArray) (eg:qI P gf)
  (enc:α→Value) (b:Bool) (X:World→α→World→Prop) (M:List Nat) (hM:∀k∈M,k<w.heap.size)
  (I:World→Prop) (hI:∀W W',I W→Priv w.heap.size W W'→I W') (h0:I w)
  (Z:α→World→Prop) (hZ:∀x l o o' W,w.heap.size≤l→Z x W→W.heap[l]? =some (.loop o)→Z x (W.putObj l (.loop o')))
  (ph:∀W1,Keeps [] w W1→W1.heap.size=w.heap.size+2→ItS P gf lb enc (X W1) b W1) (F1:α→Fr)
  (pf:∀(l:Nat) (x:α) (W:World),WP P ⟨sz,[],some l⟩ assign (fun e F' W'=>e= .normal∧F'=F1 x∧W'=W) (F.put p (enc x)) W)
  (pj:∀(l:Nat) (x:α) (W1 W W0:World),Keeps [] w W1→I W→X W1 x W0→KeepsC W0 W→W0.heap.size≤W.heap.size→WP P ⟨sz,[],some l⟩ body (fun e _ W'=>e= .ret∧Z x W'∧Keeps M W W') (F1 x) W)
  (pa:∀(D:Nat) (W:World),w.heap.size≤D→b=false→I W→W.heap[D]? =some (.deferred (some []))→QA .normal (act ⟨sz,{target:=.collected D,args:=#[]}::ds,none⟩ F) W)
  (hq:∀(D:Nat) (x:α) (W:World),w.heap.size≤D→b=true→Z x W→W.heap[D]? =some (.deferred (some []))→QA .ret (act ⟨sz,{target:=.collected D,args:=#[]}::ds,none⟩ F) W):
  WPA P ⟨sz,ds,none⟩ (.block id (.rangeFunc oS #[p] assign body)) QA F w:=by
 unfold WPA;rw[FrK.k8 O];refine sAi (wpIn_rangeFunc ?_);intro fn oC;obtain⟨rec,oz⟩:∃rec:LoopState→Option _→Loop,rec=fun st pe=>{state:=st,pending:=pe,fn,tmps:=(act ⟨sz,ds,none⟩ F).tmps,params:=#[p],assign,body,defers:=w.heap.size}:=⟨_,O⟩
 obtain⟨W1,o1⟩:∃W1,(w.alloc (.deferred (some []))).alloc (.loop (rec .ready none))=W1:=⟨_,O⟩;have oP:W1.heap[w.heap.size+1]? =some (.loop (rec .ready none)):=by
  exact mAn
 have pc:W1.heap[w.heap.size]? =some (.deferred (some [])):=by
  exact mBa
 have o0:Keeps [] w W1:=by
  exact mCh
 have hj:W1.heap.size=w.heap.size+2:=by rw[←o1];simp
 have pd:Priv _ w W1:=⟨o0.os,o0.tape,o0.output,o0.size,fun k hk=>o0.block k hk O4⟩
 refine⟨w.heap.size+1,[{target:=.collected w.heap.size,args:=#[]}],W1,{target:=.fn (.func gf) lb.toArray,args:=#[.func (.yield (w.heap.size+1)) #[] #[]]},W1,gf,
  #[.func (.yield (w.heap.size+1)) #[] #[]]++lb.toArray,W1,?_,?_,fun _ _=>trivial,?_,fun h=>(by cases h),?_⟩
 ·exact mBq
 ·exact mC1
 ·exact mAx
 have hc:=ph W1 o0 hj (w.heap.size+1) (fun W=>I W∧W.heap[w.heap.size+1]? =some _∧W.heap[w.heap.size]? =some _)
  (fun W=>∃x,Z x W∧W.heap[w.heap.size+1]? =some (.loop (rec .done (some .ret)))∧W.heap[w.heap.size]? =some (.deferred (some []))) O1 (fun a v hc e=>by simp[World.cell?,e,oP] at hc) ?_ ?_ ⟨hI _ _ h0 pd,oP,pc⟩
 ·have e:(#[.func (.yield (w.heap.size+1)) #[] #[]]++lb.toArray)=(.func (.yield (w.heap.size+1)) #[] #[]::lb).toArray:=O4;rw[e];refine pS.2 (sAs hc ?_);rintro e W2 ⟨v,rfl,h⟩;cases b with
  |false=>
   obtain⟨hi,hl,hk⟩:I W2∧W2.heap[w.heap.size+1]? =some _∧W2.heap[w.heap.size]? =some _:=h;exact⟨none,_,by have:=run_endLoop (P:=P) hl (by grind);rw[oz] at this;omega,pa _ _ O1 O (hI _ _ hi (Priv.put _ _ O1)) ((World.putObj_heap_other O1).trans hk)⟩
  |true=>
   obtain⟨x,hz,hl,hk⟩:∃x,Z x W2∧W2.heap[w.heap.size+1]? =some _∧W2.heap[w.heap.size]? =some _:=h;exact⟨some _,_,by have:=run_endLoop (P:=P) hl (by grind);rw[oz] at this;omega,wpIn_ret (hq _ x _ O1 O (hZ x _ _ _ _ O1 hz hl) ((World.putObj_heap_other O1).trans hk))⟩
 ·rintro x W ⟨hi,hl,hk⟩ hX;have hh:=(aT.1 hl).1;have hy:=run_yield (P:=P) (args:=#[enc x]) hl (by grind);rw[oz] at hy;rw[←oz] at hy;have pg:((#[p]).zip #[enc x]).foldl (fun tmps (t,a)=>tmps.setIfInBounds t a) (act ⟨sz,ds,none⟩ F).tmps=(act ⟨sz,[],some (w.heap.size+1)⟩ (F.put p (enc x))).tmps:=by
   exact mDp
  refine⟨fn,_,assign,body,by rw[oz] at hy;exact hy,?_⟩;rw[pg];refine roundIn_of_wpIn oC (lC (pf _ x W) ?_);rintro e a1 w1 ⟨F',rfl,rfl,rfl,rfl⟩;refine⟨_,run_beginRound hl (by rw[oz]),?_⟩;obtain⟨W2,o2⟩:∃W2,W2=w1.putObj (w.heap.size+1) (.loop {rec .ready none with state:=.busy}):=⟨_,O⟩;have oy:W2.heap[w.heap.size+1]? =some (.loop {rec .ready none with state:=.busy}):=by rw[o2];exact World.putObj_heap_same hh
  have uq:W2.heap[w.heap.size]? =some (.deferred (some [])):=by rw[o2];exact(World.putObj_heap_other O1).trans hk
  have oK:I W2:=by rw[o2];exact hI _ _ hi (Priv.put _ _ O1)
  have o3:Keeps [w.heap.size+1] w1 W2:=by rw[o2];exact yR _ _ _
  rw[←o2];refine lC (pj _ x W1 W2 w1 o0 oK hX (KeepsC.of o3 fun a v hc e=>by simp[World.cell?,e,hl] at hc) o3.size) ?_;rintro e a3 W3 ⟨F3,rfl,rfl,hn,ox⟩;have zj:=(aT.1 oy).1;have o9:=(ox.block _ zj (fun hm=>by grind)).trans oy;have yv:=(ox.block _ O1 (fun hm=>by grind)).trans uq;have hr:=run_endRound (P:=P) (some .ret) o9;refine⟨_,_,hr,O,⟨x,hZ x _ _ _ _ O1 hn o9,?_,(World.putObj_heap_other O1).trans yv⟩,?_⟩
  ·exact mC2
  refine⟨bL o3.size (bL ox.size O4),fun k hb hk _=>?_⟩;exact(World.putObj_heap_other O1).trans ((ox.block k (cJ hk o3.size) (fun hm=>by grind)).trans (o3.block k hk (by grind)))
 rintro W W' ⟨hi,hl,hk⟩ hp;exact⟨hI _ _ hi (hp.mono O1),(hp.block _ O1).trans hl,(hp.block _ O1).trans hk⟩
end
end
def jY5(ops:Array Oper):Bool:=
 let z:=Array.replicate 5 false
 let r:=Region.ready .any ops
 decide (r z=[0,1])&&decide (r (z.setIfInBounds 0 true)=[1])&&decide (r (z.setIfInBounds 1 true)=[0,2])&&decide (r ((z.setIfInBounds 0 true).setIfInBounds 1 true)=[2])&&
 decide (r ((z.setIfInBounds 1 true).setIfInBounds 0 true)=[2])&&decide (r ((z.setIfInBounds 1 true).setIfInBounds 2 true)=[0])&&
 decide (r (((z.setIfInBounds 0 true).setIfInBounds 1 true).setIfInBounds 2 true)=[3])&&decide (r (((z.setIfInBounds 1 true).setIfInBounds 0 true).setIfInBounds 2 true)=[3])&&decide (r (((z.setIfInBounds 1 true).setIfInBounds 2 true).setIfInBounds 0 true)=[3])&&
 decide (r ((((z.setIfInBounds 0 true).setIfInBounds 1 true).setIfInBounds 2 true).setIfInBounds 3 true)=[4])&&decide (r ((((z.setIfInBounds 1 true).setIfInBounds 0 true).setIfInBounds 2 true).setIfInBounds 3 true)=[4])&&decide (r ((((z.setIfInBounds 1 true).setIfInBounds 2 true).setIfInBounds 0 true).setIfInBounds 3 true)=[4])&&
 decide (r (((((z.setIfInBounds 0 true).setIfInBounds 1 true).setIfInBounds 2 true).setIfInBounds 3 true).setIfInBounds 4 true)=[])&&decide (r (((((z.setIfInBounds 1 true).setIfInBounds 0 true).setIfInBounds 2 true).setIfInBounds 3 true).setIfInBounds 4 true)=[])&&decide (r (((((z.setIfInBounds 1 true).setIfInBounds 2 true).setIfInBounds 0 true).setIfInBounds 3 true).setIfInBounds 4 true)=[])
section
variable {P:Program}{n:FrK}{Q:Exit→Fr→World→Prop}{F:Fr}{w:World}
theorem WOp.mono{ops:Array Oper}{i:Nat}{K K':Fr→World→Prop}(h:WOp P n ops i K Q F w)(hk:∀F w,K F w→K' F w):WOp P n ops i K' Q F w:=by
 refine wpOpIn_mono ?_ h;grind
theorem zGt{id:Nat}{l:List Oper}(K:Fr→World→Prop)(hm:P.follows .mixedOrders=true)(hc:jY5 l.toArray=true)(hl:l.length=5)
  (h1:WOp P n l.toArray 0 (fun F w=>WOp P n l.toArray 1 (fun F w=>WOp P n l.toArray 2 K Q F w) Q F w) Q F w.drew)
  (h2:WOp P n l.toArray 1 (fun F w=>WOp P n l.toArray 0 (fun F w=>WOp P n l.toArray 2 K Q F w) Q F w∧WOp P n l.toArray 2 (fun F w=>WOp P n l.toArray 0 K Q F w) Q F w) Q F w.drew)
  (hK:∀F w,K F w→WOp P n l.toArray 3 (fun F w=>WOp P n l.toArray 4 (fun F w=>Q .normal F w) Q F w) Q F w):WP P n (.region id l.toArray true) Q F w:=by
 simp[jY5,aF,dL] at hc;obtain⟨⟨⟨⟨⟨⟨⟨⟨⟨⟨⟨⟨⟨⟨c1,c2⟩,c3⟩,c4⟩,c5⟩,c6⟩,c7⟩,c8⟩,c9⟩,n4⟩,n3⟩,c12⟩,c13⟩,ca⟩,c15⟩:=hc;refine jU5 5 hl hm (qZy 0 1 c1 ?_ ?_)
 ·refine h1.mono fun F w h=>qB1 1 c2 (h.mono fun F w h=>qB1 2 c4 (h.mono fun F w h=>qB1 3 c7 ((hK _ _ h).mono fun F w h=>qB1 4 n4 (h.mono fun F w h=>qS7 c13 h))))
 refine h2.mono fun F w h=>qZy 0 2 c3 (h.1.mono fun F w h=>qB1 2 c5 (h.mono fun F w h=>qB1 3 c8 ((hK _ _ h).mono fun F w h=>qB1 4 n3 (h.mono fun F w h=>qS7 ca h))))
  (h.2.mono fun F w h=>qB1 0 c6 (h.mono fun F w h=>qB1 3 c9 ((hK _ _ h).mono fun F w h=>qB1 4 c12 (h.mono fun F w h=>qS7 c15 h))))
end
end Go.Eng
namespace Go.Proofs.YtplkndjlfkkjlaaGreatDoor
open List (range range' replicate)
open Tryz
open Go.Eng Go.Dig Go.Lp Go.Qu
variable{w:World}{α:Type}{c:Nat}{l:List α}
theorem slN{s:Option Addr}{o:List Nat}(h:SlAt w 1 eN s o):SlAt w 1 eI s (o.map fun x:Nat=>(x:Int)):=fun i x hx=>by
 rw[dF] at hx;obtain⟨y,hy,rfl⟩:=Option.map_eq_some_iff.1 hx;exact h i y hy
abbrev Itm:=Option Addr×Nat×List Nat
def eIt(x:Itm):Value:=.slice x.1 x.2.2.length x.2.1
theorem jCj(h:SVL none c l):l=[]:=by
 rcases h with⟨_,e⟩|⟨_,_,e,_⟩
 ·grind
 cases e
theorem jCi{b o:Nat}(h:SVL (some ⟨b,o,none⟩) c l):o=0:=by
 rcases h with⟨e,_⟩|⟨_,_,e,_⟩
 ·cases e
 grind
theorem jAy{f:Q}{s:St}{b:Bool}(h:qEu f s b=true):∃t,f.k9 s b=some t∧qDo f t=true:=by
 unfold qEu at h;grind
structure G4(b9 b6 sob vb:Nat)(l9 l6:List Value)(vs vv:Value)(w:World):Prop where
 c9:∀(j:Nat) (v:Value),l9[j]? =some v→w.cell? ⟨b9,0+j,none⟩=some v
 c6:∀(j:Nat) (v:Value),l6[j]? =some v→w.cell? ⟨b6,0+j,none⟩=some v
 cs:w.cell? ⟨sob,0,none⟩=some vs
 cv:w.cell? ⟨vb,0,none⟩=some vv
theorem G4.kb{b9 b6 sa vb:Nat}{l9 l6:List Value}{vs vv:Value}{w':World}{B:Nat}{M:List Nat}(h:G4 b9 b6 sa vb l9 l6 vs vv w)(hk:KB B M w w')(h9:B≤b9)(h6:B≤b6)(hs:B≤sa)(hv:B≤vb)
  (m9:b9∉M) (m6:b6∉M) (ms:sa∉M) (mv:vb∉M):G4 b9 b6 sa vb l9 l6 vs vv w':=
 ⟨fun j v e=>hk.cell (h.c9 j v e) h9 m9,fun j v e=>hk.cell (h.c6 j v e) h6 m6,hk.cell h.cs hs ms,hk.cell h.cv hv mv⟩
structure XP(B:Nat)(C:List Nat→Prop)(x:Itm)(W:World):Prop where
 c:C x.2.2
 sv:SVL x.1 x.2.1 x.2.2
 sl:SlAt W 1 eN x.1 x.2.2
 hi:∀b o,x.1=some ⟨b,o,none⟩→B≤b
attribute [local irreducible] PV StepF wpl wpd WP Ret
attribute [local irreducible] Fit WOp
set_option maxRecDepth 20000 in
set_option maxHeartbeats 4000000 in
theorem zAz(a:SeA)(d:DW)(f:Q)(yb fb sa vb kb mp l B:Nat)(W0:World)(C:List Nat→Prop)(Z:World→Prop)(hS:SeAt a d f W0)(hB:B≤W0.heap.size)(xk:B≤mp)(xl:∀(x:Addr) (v:Value),W0.cell? x=some v→x.block≠mp)
  (cy:W0.cell? ⟨yb,0,none⟩=some (.func (.yield l) #[] #[])) (cf:W0.cell? ⟨fb,0,none⟩=some (.pointer (some ⟨a.sb,0,none⟩)))
  (cs:W0.cell? ⟨sa,0,none⟩=some (.func (.func 225) #[] #[.pointer (Ad kb),.pointer (Ad fb),.pointer (Ad sa)])) (ck:W0.cell? ⟨kb,0,none⟩=some (.map (some mp)))
  (hH:B≤sa) (sh:B≤vb)
  (cv:W0.cell? ⟨vb,0,none⟩=some (.func (.func 227) #[] #[.pointer (Ad yb),.pointer (Ad fb),.pointer (Ad sa),.pointer (Ad vb)])):
  ∀(n:Nat) (s:St) (g:K14→Option Value) (pre:List Nat) (sc:Option Addr) (c:Nat) (W:World),f.N-s.next=n→SI f s→Keeps [mp] W0 W→(∀k∈zG [qG eN 3 1 sc c pre],W0.heap.size≤k)→RightM f g→(∀T,f.Cmp s T→C (pre++T))→pre.length≤s.next→SVL sc c pre→
  Hp W (zG [qG eN 3 1 sc c pre,zV kSt mp g]) W [qG eN 3 1 sc c pre,zV kSt mp g]→
  (∀x W1,Priv B W W1→XP B C x W1→YieldAt Fence.wide 0 Tryz.prog l #[eIt x] W1 fun e W'=>e= .returned (.bool false)∧Z W'∧KB B [] W1 W')→
  Rt 227 [.agg (i8L (stZ s)).toArray,.slice sc pre.length c,.pointer (Ad yb),.pointer (Ad fb),.pointer (Ad sa),.pointer (Ad vb)] W
   (fun v w'=>v= .bool (!qDo f s)∧KB B (zG [qG eN 3 1 sc c pre,zV kSt mp g]) W w'∧if qDo f s then Z w' else Priv B W w'):=by
 intro n;induction n using Nat.strongRecOn with
 |_ n ih=>
 intro s g pre sc c W hn hI xc ee hg hC xv hv hp hY;have h14:(i8L (stZ s)).length=14:=by rw[vC];simp[stZ,hI.c]
 have hN:=hS.lN;obtain⟨M,hM⟩:∃M,M=zG [qG eN 3 1 sc c pre,zV kSt mp g]:=⟨_,O⟩;have xi:∀k∈M,_∨_:=fun k hk=>by
  rw[hM] at hk;obtain⟨p,hp',hb⟩:=xX.1 hk;rcases bE.1 hp' with rfl|hp'
  ·exact .inr (ee k (xX.2 ⟨_,O4,hb⟩))
  obtain rfl:=iN.1 hp';exact .inl (gM hb).symm
 have xp:=bL hB xc.size;rw[←hM] at hp⊢
 have xe:∀{w':World} {L:List _},Hp W M w' L→Keeps _ W0 w':=fun h=>xc.trans h.keeps (fun k hk=>by
  grind)
 have kc:∀{w':World} {L:List _},Hp W M w' L→KeepsC W0 w':=fun h=>KeepsC.of (xe h) xl
 have hX:∀{w':World} {L:List _},Hp W M w' L→Priv B W w':=fun h=>Priv.of h.keeps (fun k hk=>by grind) xp
 refine Ret.j9 func227 O ntmps227 O (qR ?_);refine tF (kW (cs:=i8L _) hp O O h14) fun w1 b6 hp=>?_;have hp:Hp W M w1 [blk b6 14 _ 293,_,_]:=hp;refine tI (fun h=>?_) fun h=>?_
 ·have h0:s.left=0:=O1;have hh:=qP3 hI.ok h0;rw[hh];refine qR ?_;have hp:=hp.N;have hK:=kc hp;have bm:=qZ hp 1 O hv (fun _=>O);have hJ:Rt 159 [.slice sc pre.length c] w1.drew (fun v w'=>∃x:Itm,v=eIt x∧XP B C x w'∧Keeps [] w1.drew w'):=by
   have:=jOg _ sc c w1.drew (slN bm) (by rw[aM];have:=hI.n;omega) (fun e=>by
    subst e;rw[jCj hv]
    rfl)
   rw[aM] at this;refine this.mono ?_;rintro v w' ⟨s',c',rfl,hy,hp'⟩;rw[qI5] at hp';have xg:SVL s' c' pre:=jZ hy O4;refine⟨(s',c',pre),O,⟨by have:=hC [] (hI.ok.td.fin h0);grind,xg,qZ hp' 0 O xg (fun _=>O),fun b o e=>?_⟩,hp'.C⟩;have e:s'=some ⟨b,o,none⟩:=e;subst e;obtain rfl:=jCi xg;have:=hp'.p6 (i:=0) (b:=b) O;have:=hp.C.size;omega
  refine zGt (fun F' w2=>F' 16= .func (.yield l) #[] #[]∧∃x:Itm,F' 18=eIt x∧XP B C x w2∧Keeps [] w1.drew w2) jG O3 O ?_ ?_ ?_
  ·refine jB0 O (qS O O (hK _ _ cy)) (jB0 O qP ?_);refine jK0 O (qC O qMw O hJ) ?_;exact mF6
  ·refine jB0 O qP ⟨?_,?_⟩
   ·refine jB0 O (qS O O (hK _ _ cy)) (jK0 O (qC O qMw O hJ) ?_);exact mF6
   refine jK0 O (qC O qMw O hJ) ?_;rintro _ w2 ⟨x,rfl,hx,hk⟩;exact jB0 O (qS O O (kc (hp.call hk) _ _ cy)) ⟨O,x,O,hx,hk⟩
  rintro F' w2 ⟨ea,x,eb,hx,hk⟩;have lj:=hp.call hk;refine zCw O ea (aQ (fun v=>[v]) eb) (hY x w2 (hX lj) hx) ?_;rintro e w3 ⟨rfl,hz,h7⟩;refine⟨_,O,jB0 O qY (qR ?_)⟩;exact qM O O ⟨_,O,O,(KB.of lj.C).trans h7 O4,hz⟩
 have h0:0<s.left:=O1;have hj:=hI.ok.lt h0;have hF:∀k,s.cs.getD k 0≤39:=fun k=>by have:=hI.b k;omega
 have hK:=kc hp;refine qR (wlp (qS O O (hK _ _ cf)) O ?_);refine wlp (qL O O O h14 (hp.j3 0 O h14)) O (tK (jAr a d f s _ _ (hS.l8 hK) hI.aA8 hF hj h0) ?_);rintro v w4 ⟨gY,qs⟩;have hp:=hp.call qs;obtain⟨lt,zh,rfl,oy⟩:=qHa gY (fun t ht=>(hI.k9 hN h0 ht).1.c);have h3:(i8L lt).length=14:=by rw[vC];exact zh
 refine qA (tF (zE (cs:=i8L (replicate 14 0)) (m:=14) hp (qJ O) O O) fun w5 b9 hp=>?_);refine tO (zH (cs:=i8L lt) hp 0 O O O O (by rw[h3];exact qD O) (by rw[h3];rfl) (vY _)) fun w6 hp=>?_;have hp:=hp.norm 0 _ O (yJ _ _ h3);have hp:Hp W M w6 [blk b9 14 _ 293,_,_,_]:=hp;refine qA ?_;have notM:∀(x:Addr) (v:Value),_=_→x.block∉M:=fun x v hx hm=>by
  rcases xi _ hm with e|e
  ·exact xl x v hx e
  have:=iZ W0 x hx;omega
 have fresh:∀{w':World} {L:List _},Hp W M w' L→∀(i:Nat) (b:Nat) (p:Ent),_=_→p.1=_→b∉M→_≤b:=fun h i b p hi hb hm=>by
  rcases h.own i p hi b hb with e|e
  ·exact e
  grind
 have m9:b9∉M:=by rw[hM];exact Hp.u9 (A:=[blk b9 14 (qE (i8L lt)) 293,blk b6 14 (qE (i8L (stZ s))) 293]) (B:=[qG eN 3 1 sc c pre,zV kSt mp g]) hp (p:=blk b9 14 (qE (i8L lt)) 293) O4 O
 have m6:b6∉M:=by rw[hM];exact Hp.u9 (A:=[blk b9 14 (qE (i8L lt)) 293,blk b6 14 (qE (i8L (stZ s))) 293]) (B:=[qG eN 3 1 sc c pre,zV kSt mp g]) hp (p:=blk b6 14 (qE (i8L (stZ s))) 293) O4 O
 have h9:=fresh hp 0 b9 _ O O m9;have h6:=fresh hp 1 b6 _ O O m6;refine qR ?_;have hp:=hp.N;have hE:=kc hp;have xa:∀k,k∈[mp]→k∈M:=fun k hk=>by
  rw[hM];obtain rfl:=iN.1 hk;exact xX.2 ⟨zV kSt k g,O4,O⟩
 have hG:G4 b9 b6 _ vb _ _ _ _ _:=
  ⟨hp.j3 0 O h3,hp.j3 1 O h14,hE _ _ cs,hE _ _ cv⟩
 have gb:∀{w1 w2:World} {K:List Nat},G4 b9 b6 _ vb (i8L lt) (i8L (stZ s)) _ _ w1→KB B K w1 w2→b9∉K→b6∉K→sa∉K→vb∉K→G4 b9 b6 _ vb _ _ (.func (.func 225) #[] #[.pointer (Ad kb),.pointer (Ad fb),.pointer (Ad sa)]) (.func (.func 227) #[] #[.pointer (Ad yb),.pointer (Ad fb),.pointer (Ad sa),.pointer (Ad vb)]) w2:=
  fun h hk a1 a2 a3 a4=>h.kb hk O1 O1 hH sh a1 a2 a3 a4
 have gd:∀{w1 w2:World},G4 b9 b6 _ vb _ _ _ _ w1→Keeps _ w1 w2→G4 b9 b6 _ vb _ _ _ _ w2:=
  fun h hk=>gb h (KB.of hk) (fun e=>m9 (xa _ e)) (fun e=>m6 (xa _ e)) (fun e=>notM _ _ cs (xa _ e)) (fun e=>notM _ _ cv (xa _ e))
 cases hoT:qEu f s true with
 |true=>
  obtain⟨t,ho,hU⟩:=jAy hoT;obtain⟨hD,h8⟩:=hI.k9 hN h0 ho;obtain rfl:=oy t ho;have hh:qDo f s=true:=by rw[qJ8 hI.ok h0,hoT];rfl
  rw[hh];rw[ho];refine jW jG O3 _ hG (xA ?_);apply yG;exact O;exact O;exact O;intro w' hk;exact qS O O hk.cs;exact O;apply yG;exact O;exact O;exact O;intro w' hk;exact qL O O O h3 hk.c9;exact O;have h4:=Hp.l5 (A:=[_,_,_]) hp;refine tK (jOd a d f kb fb _ mp _ t g _ O hD (hS.l8 hE) (hE _ _ ck) (hE _ _ cf) (hE _ _ cs) hg h4) ?_;rintro _ w7 ⟨rfl,g2,zt,lj⟩;have hp:=Hp.back (A:=[_,_,_]) hp lj;have hp:Hp W M w7 [_,_,_,_]:=hp;have hQ:=gd hG lj.C;refine⟨hQ,?_⟩;rw[hU];refine xA ?_;apply yG;exact O;exact O;exact O;intro w' hk;exact qS O O hk.cv;exact O;apply yG;exact O;exact O;exact O;intro w' hk;exact qL O O O h3 hk.c9;exact O;refine xA ?_;apply yG;exact O;exact O;exact O;intro w' hk;exact qS O O (hk.c6 0 _ O);exact O;apply yG;exact O;exact O;exact O;intro w' hk;exact zX O O O;exact qF (qK O1 O1);apply qHt;exact O;exact O;exact O;exact jC (cs:=[.int _ s.next]) hp O O O O O O O;rintro _ w8 ⟨bs,rfl,hp⟩;have hp:Hp W M w8 [blk bs 1 _ 3,_,_,_,_]:=hp;refine⟨⟨hp.j3 1 O h3,hp.j3 2 O h14,kc hp _ _ cs,kc hp _ _ cv⟩,?_⟩;apply qHt;exact O;exact O;exact O;exact jV eN _ _ hp 3 0 O O O O O O (fun _=>O) O O O hv O O O1;rintro _ w9 ⟨s',c',rfl,hy,hp⟩;have hp:Hp W M w9 [_,_,_,_,_]:=hp;have xj:G4 b9 b6 _ vb _ _ _ _ w9:=⟨hp.j3 1 O h3,hp.j3 2 O h14,kc hp _ _ cs,kc hp _ _ cv⟩;refine⟨xj,?_⟩;have h4:=Hp.l5 (A:=[_,_,_]) hp;have xb:∀k∈zG _,_∨_:=fun k hk=>by
   obtain⟨p,hp',hb⟩:=xX.1 hk;exact hp.q6 (aU [_,_,_] hp') k hb
  have a9:=Hp.u9 (A:=[_,_,_]) hp (p:=blk b9 14 (qE (i8L (stZ t))) 293) O4 O;have a6:=Hp.u9 (A:=[_,_,_]) hp (p:=blk b6 14 (qE (i8L (stZ s))) 293) O4 O;have aW:∀(x:Addr) (v:Value),W0.cell? x=some v→x.block∉zG [qG eN 3 1 s' c' (pre++[s.next]),zV kSt mp g2]:=fun x v hx hk=>by
   rcases xb _ hk with e|e
   ·have:=iZ W0 x hx;have:=xc.size;omega
   grind
  have xq:∀k∈zG [qG eN 3 1 s' c' (pre++[s.next])],W0.heap.size≤k:=fun k hk=>by
   obtain⟨p,hp',hb⟩:=xX.1 hk;obtain rfl:=iN.1 hp';have uq:k∈zG [qG eN 3 1 s' c' (pre++[s.next]),zV kSt mp g2]:=xX.2 ⟨_,O4,hb⟩;rcases xb k uq with e|e
   ·exact bL xc.size e
   rcases xi k e with e|e
   ·subst e;exact absurd O (hp.dis 3 4 _ _ O O O2 k hb)
   exact e
  obtain⟨s1,s2,s3,s4,s5⟩:=wW hI.ok h0 ho;have xd:∀T,f.Cmp t T→C ((pre++[_])++T):=fun T hT=>by
   have:=hC _ (by simpa using(s5 T).1 hT);exact mCe
  refine tK (ih _ O1 t g2 _ s' c' w9 O hD (xe hp) xq zt xd (by simp;omega) hy h4 (fun x W1 hq hx=>hY x W1 ((hX hp).trans hq) hx)) ?_;rintro _ ur ⟨rfl,h7,hz⟩;rw[hU] at hz⊢;refine⟨gb xj h7 a9 a6 (aW _ _ cs) (aW _ _ cv),xA (qU ?_)⟩;refine jB O ?_;refine qA ?_
  exact qM O O ⟨_,O,O,(KB.of hp.C).trans h7 (fun k hk hl=>by
   grind),hz⟩
 |false=>
  refine qAy (fun F' w'=>∃g2,RightM f g2∧qAb F' [(1,.slice sc pre.length c),(3,.pointer (Ad fb)),(4,.pointer (Ad sa)),(5,.pointer (Ad vb)),(6,.pointer (Ad b6)),(43,.bool false)]∧
   Hp W M w' [blk b9 14 (qE (i8L lt)) 293,blk b6 14 (qE (i8L (stZ s))) 293,qG eN 3 1 sc c pre,zV kSt mp g2]) ?_ ?_
  ·refine jW jG O3 _ hG ?_;cases ho:f.k9 s true with
   |none=>
    refine xA (qIv O O O O hG ?_);refine xA (qIv O O O O hG ?_);refine qIv O O O O hG (qIv O O O O hG ?_);refine xA (qU ?_);exact⟨g,hg,⟨O,O,O,O,O,O,trivial⟩,hp⟩
   |some t=>
    obtain⟨hD,h8⟩:=hI.k9 hN h0 ho;obtain rfl:=oy t ho;have hU:qDo f t=false:=by
     unfold qEu at hoT;rw[ho] at hoT;exact hoT
    refine xA ?_;apply yG;exact O;exact O;exact O;intro w' hk;exact qS O O hk.cs;exact O;apply yG;exact O;exact O;exact O;intro w' hk;exact qL O O O h3 hk.c9;exact O;have h4:=Hp.l5 (A:=[_,_,_]) hp;refine tK (jOd a d f kb fb _ mp _ t g _ O hD (hS.l8 hE) (hE _ _ ck) (hE _ _ cf) (hE _ _ cs) hg h4) ?_;rintro _ w7 ⟨rfl,g2,zt,lj⟩;have hp:=Hp.back (A:=[_,_,_]) hp lj;have hQ:=gd hG lj.C;refine⟨hQ,?_⟩;rw[hU];refine xA (qIv O O O O hQ ?_);refine qIv O O O O hQ (qIv O O O O hQ ?_);refine xA (qU ?_);exact⟨g2,zt,⟨O,O,O,O,O,O,trivial⟩,hp⟩
  clear hp hG gd gb h9 h6 m9 m6 hE oy;rintro F' w7 ⟨g2,zt,xu,hp⟩;refine yL _ xu fun F0=>?_
  clear xu;have hp:=hp.H;refine qR (qN O ?_);have xh:=kc hp;refine qR (wlp (qS O O (xh _ _ cf)) O ?_);refine wlp (qL O O O h14 (hp.j3 0 O h14)) O (tK (jAr a d f s _ _ (hS.l8 xh) hI.aA8 hF hj h0) ?_);rintro v w8 ⟨hP,h5⟩;have hp:=hp.call h5;obtain⟨lf,xf,rfl,xn⟩:=qHa hP (fun t ht=>(hI.k9 hN h0 ht).1.c);have hL:(i8L lf).length=14:=by rw[vC];exact xf
  refine qA (tF (zE (cs:=i8L (replicate 14 0)) (m:=14) hp (qJ O) O O) fun w9 be hp=>?_);refine tO (zH (cs:=i8L lf) hp 0 O O O O (by rw[hL];exact qD O) (by rw[hL];rfl) (vY _)) fun ur hp=>?_;have hp:=hp.norm 0 _ O (yJ _ _ hL);have hp:Hp W M _ [blk _ 14 _ 293,_,_,_]:=hp;refine qA ?_;have hV:=kc hp;have hh:qDo f s=qEu f s false:=by rw[qJ8 hI.ok h0,hoT];rfl
  rw[hh];cases ho:f.k9 s false with
  |none=>
   have e:qEu f s false=false:=by
    unfold qEu;rw[ho]
   rw[e];exact mEy
  |some t=>
   obtain⟨hD,h8⟩:=hI.k9 hN h0 ho;obtain rfl:=xn t ho;have e:qEu f s false=qDo f t:=by
    unfold qEu;rw[ho]
   rw[e];refine jL ?_;apply vX;exact O;exact O;exact qS O O (hV _ _ cs);exact O;apply vX;exact O;exact O;exact qL O O O hL (hp.j3 0 O hL);exact O;have h4:=Hp.l5 (A:=[_,_,_]) hp;refine tK (jOd a d f kb fb _ mp _ t g2 _ O hD (hS.l8 hV) (hV _ _ ck) (hV _ _ cf) (hV _ _ cs) zt h4) ?_;rintro _ gg ⟨rfl,g3,hZ,lj⟩;have hp:=Hp.back (A:=[_,_,_]) hp lj;have hp:Hp W M _ [_,_,_,_]:=hp;cases hU:qDo f t with
   |false=>
    exact mEy
   |true=>
    refine jL (jB O ?_);have xo:=kc hp;refine qR (wlp (qS O O (xo _ _ cv)) O ?_);refine wlp (qL O O O hL (hp.j3 0 O hL)) O (jM ?_);have h4:=Hp.l5 (A:=[_,_]) hp;have xb:zG [qG eN 3 1 sc c pre,zV kSt mp g3]=M:=by rw[hM];rfl
    obtain⟨s1,s2,s3,s4,s5⟩:=wW hI.ok h0 ho;refine tK (ih _ O1 t g3 _ sc c _ O hD (xe hp) ee hZ (fun T hT=>hC T ((by simpa using(s5 T).1 hT:_∧_).1)) O1 hv h4 (fun x W1 hq hx=>hY x W1 ((hX hp).trans hq) hx)) ?_;rintro _ gh ⟨rfl,h7,hz⟩;rw[hU] at hz⊢;rw[xb] at h7;refine qA ?_;exact qM O O ⟨_,O,O,(KB.of hp.C).trans h7 (fun k hk _=>hk),hz⟩
end Go.Proofs.YtplkndjlfkkjlaaGreatDoor
namespace Go.Eng
open List (range range' replicate)
variable{w:World}{m:Nat}{g:Value→Prop}{w':World}
section
variable {P:Program}{n:FrK}{Q:Exit→Fr→World→Prop}{F:Fr}{w:World}{ops:Array Oper}{rest:List Nat}{st:Bool}{G:World→Prop}{i:Nat}
theorem jUw(k m:Nat)(he:zC (jA ops i).op=true)(hf:qCf ops i rest=[k,m])(hn:Nat.beq ((i::rest).filter (· !=i)).length rest.length=true)(zi:Nat.beq ((i::rest).filter (· !=k)).length rest.length=true)(rm:Nat.beq ((i::rest).filter (· !=m)).length rest.length=true)
  (h:wpb P n ops st G i ((i::rest).filter (· !=i)) Q F w) (h2:wpb P n ops st G k ((i::rest).filter (· !=k)) Q F w) (h3:wpb P n ops st G m ((i::rest).filter (· !=m)) Q F w):wpe P n ops st G (i::rest) Q F w:=by
 unfold wpe;simp only[bT,wpE];rw[if_pos he,hf];intro x hx;have:=by simpa using hx
 rcases this with rfl|rfl|rfl
 ·unfold wpb at h;exact mDm
 ·unfold wpb at h2;rw[bF zi] at h2;exact h2
 unfold wpb at h3;rw[bF rm] at h3;exact h3
end
def KeepsV(g:Value→Prop)(w w':World):Prop:=∀(x:Addr) (v:Value),g v→w.cell? x=some v→w'.cell? x=some v
theorem jC1{P:Program}{n:FrK}{Q:Exit→Fr→World→Prop}{F:Fr}{ops:Array Oper}{st:Bool}{G:World→Prop}{l0:List Nat}(l1:List Nat)(R:Fr→World→Prop)(hl:∀F w,R F w→wpe P n ops st G l1 Q F w)(h:(∀F w,R F w→wpe P n ops st G l1 Q F w)→wpe P n ops st G l0 Q F w):wpe P n ops st G l0 Q F w:=h hl
theorem qCk{w0:World}{M:List Nat}{L:List Ent}(hp:Hp w0 M w L)(i:Nat){b t:Nat}{f:Fr}(hi:L[i]? =some (blk b m f t)){x:Addr}{v:Value}(hx:w.cell? x=some v)(hb:x.block=b):∃j,j<m∧v=f j:=by
 obtain⟨o,ho,rfl⟩:=hp.has i _ hi b O;rw[←hb] at ho;simp only[World.cell?,ho] at hx;split at hx
 ·cases hx
 obtain⟨hl,e⟩:=aT.1 hx;refine⟨_,by simpa using hl,?_⟩;rw[←e];simp
theorem KeepsV.of(hk:Keeps [m] w w')(hm:∀(x:Addr) (v:Value),w.cell? x=some v→x.block=m→¬g v):KeepsV g w w':=fun x v hg h=>hk.cell h (by
 grind)
theorem KeepsV.o6{α:Type}{k:Nat}{enc:α→List Value}{s:Option Addr}{l:List α}(h:KeepsV g w w')(hg:∀x,∀v∈enc x,g v)(hs:SlAt w k enc s l):SlAt w' k enc s l:=fun i x hx=>by
 obtain⟨b,o,e,hc⟩:=hs i x hx;exact⟨b,o,e,fun j v hv=>h _ _ (hg x v (aI hv)) (hc j v hv)⟩
end Go.Eng
namespace Go.Proofs.YtplkndjlfkkjlaaGreatDoor
open List (range range' replicate)
open Tryz
section
open Go.Eng Go.Dig Go.Lp Go.Qu
variable{d:DW}{l:List EW}{o:List Nat}{t:St}
def gV:Value→Prop
 | .slice _ _ _=>True
 | .bool _=>True
 | .string _=>True
 | .int .i64 _=>True
 |_=>False
theorem SeAt.v8{a:SeA}{f:Q}{w w':World}(h:SeAt a d f w)(hk:KeepsV gV w w'):SeAt a d f w':=
 ⟨hk _ _ trivial h.h0,hk _ _ trivial h.h1,hk _ _ trivial h.h2,hk.o6 (by intro x v hv;simp[eQu] at hv;rcases hv with rfl|rfl|rfl<;>trivial) h.q,hk.o6 (by intro x v hv;simp[jO] at hv;subst hv;trivial) h.hI,
  fun i hi=>hk.o6 (by intro x v hv;simp[eBo] at hv;subst hv;trivial) (h.rI i hi),hk.o6 (by intro x v hv;simp[jO] at hv;subst hv;trivial) h.hR,fun i hi=>hk.o6 (by intro x v hv;simp[eI] at hv;subst hv;trivial) (h.rR i hi),h.fq,h.lq,h.lN⟩
structure BgR(f:Q)(d:DW)(a:SeA)(pa:Option Addr)(lst:List Int)(ot:Option St)(w:World):Prop where
 len:lst.length=14
 yes:∀t,ot=some t→pa=some ⟨a.sb,0,none⟩∧lst=stZ t∧f.tidy (st0 d)=some t∧SeAt a d f w
 no:ot=none→∀T,¬f.Cmp (st0 d) T
theorem BgR.j5{f:Q}{d:DW}{a:SeA}{pa:Option Addr}{la:List Int}{ot:Option St}{w w':World}(h:BgR f d a pa la ot w)(hk:Keeps [] w w'):BgR f d a pa la ot w':=
 ⟨h.len,fun t ht=>let⟨a,b,c,d⟩:=h.yes t ht;⟨a,b,c,d.j5 hk⟩,h.no⟩
theorem BgR.v8{f:Q}{d:DW}{a:SeA}{pa:Option Addr}{la:List Int}{ot:Option St}{w w':World}(h:BgR f d a pa la ot w)(hk:KeepsV gV w w'):BgR f d a pa la ot w':=
 ⟨h.len,fun t ht=>let⟨a,b,c,d⟩:=h.yes t ht;⟨a,b,c,d.v8 hk⟩,h.no⟩
theorem jCv(hq:d.Q.length≤12)(ho:o.length≤40)(hz:d.sz≤o.length)(h:(qOf d l o).tidy (st0 d)=some t):SI (qOf d l o) t∧∀T,(qOf d l o).Cmp t T↔(qOf d l o).Cmp (st0 d) T:=by
 have hl:(qOf d l o).q.length≤(st0 d).cs.length:=by
  show(d.Q.map (·.2)).length≤12
  rw[aM];exact hq
 obtain⟨h1,h2,h3,h4,h5⟩:=wJ hl h;have hh:∀k,(st0 d).cs.getD k 0=0:=fun k=>by
  show(replicate 12 0).getD k 0=0
  grind
 refine⟨⟨?_,by rw[h3];rfl,by rw[h2];show d.sz.toNat≤40;omega,by rw[h1];exact bN _,fun k=>?_⟩,h5⟩
 ·exact⟨h4,qKe hl (fun k _=>.inr (by grind)) h,by rw[h1];exact bN _⟩
 rw[h1];rcases jCe hl h k with e|e<;>rw[e]
 ·omega
 grind
open Classical in
noncomputable def qR6(d:DW)(l:List EW)(o:List Nat):Bool:=decide (∃T,(qOf d l o).Cmp (st0 d) T)
theorem qMn:qR6 d l o=true↔∃T,(qOf d l o).Cmp (st0 d) T:=by
 unfold qR6;simp
theorem jKr(h:∀T,¬(qOf d l o).Cmp (st0 d) T):qR6 d l o=false:=by
 rw[Bool.eq_false_iff];exact fun e=>let⟨T,hT⟩:=qMn.1 e;h T hT
theorem jKq(h:∀T,(qOf d l o).Cmp t T↔(qOf d l o).Cmp (st0 d) T):qR6 d l o=qDo (qOf d l o) t:=by
 rw[iG,qMn,qIh];grind
theorem jFh:Instr.fill ((#[(0,1),(1,1),(2,12)]:Array (Nat×Nat))[·]?) (i8L (replicate 14 0)).toArray []=some (i8L (replicate 14 0)).toArray:=O
attribute [local irreducible] PV StepF wpl wpd WP Ret
attribute [local irreducible] Fit
theorem jVq(d:DW)(s so:Option Addr)(c co m n:Nat)(W:World)(hz:0≤d.sz)(uu:(n:Int)<d.sz):
  Rk 223 [d.v,.slice s n c,.slice so m co] W (.tuple #[.pointer none,.agg (i8L (replicate 14 0)).toArray,.bool false]):=by
 refine tW func223 ntmps223 fun hp=>?_;refine qR ?_;refine tQ fun w1 bd hp=>?_;refine wlp qY (O:_=Value.pointer _) (tF (zE (cs:=i8L (replicate 14 0)) (m:=14) hp (qJ O) O O) fun w2 b7 hp=>?_);have d1:decide (d.sz<0)=_:=aB O1;have d2:decide (d.sz>n)=_:=aD O1;refine jL ?_;rw[d1];refine jL ?_;rw[d2];refine jB O ?_;refine qR ?_;refine wlp (qB6 Tryz.underlying293 (qJ O) O (fun w=>O3) (by rw[vH];exact jFh)) O (qA ?_);refine tO (zH (cs:=i8L _) hp 0 O O O O (qD O) O (vY _)) fun w6 hp=>?_;refine qA ?_;exact⟨_,qA0 O O O O O O O (hp.j3 0 O O),⟨_,O,O,hp.C⟩⟩
theorem qEl(d:DW)(s so:Option Addr)(c co:Nat)(l:List EW)(o:List Nat)(W:World)(hD:DE d s l W)(ho:SlAt W 1 eN so o)(hL:o.length=l.length)(hF:∀x∈o,x<l.length)(hz:0≤d.sz):
  Rt 223 [d.v,.slice s l.length c,.slice so o.length co] W (fun v w'=>∃a pa la ot,v= .tuple #[.pointer pa,.agg (i8L la).toArray,.bool ot.isSome]∧BgR (qOf d l o) d a pa la ot w'∧Keeps [] W w'∧∀i,i<o.length→W.heap.size≤a.gi i):=by
 by_cases uu:d.sz≤l.length
 ·refine(zB0 d s so c co l o W hD ho hL hF hz uu).mono ?_;rintro v w' ⟨a,la,rfl,h1,h2,h3,hk,ew⟩;exact⟨a,_,_,_,O,⟨h1,fun t ht=>⟨O,h2 t ht,ht,h3⟩,fun hn=>qIw (by show(d.Q.map (·.2)).length≤12;rw[aM];exact hD.lq) hn⟩,hk,ew⟩
 refine(jVq d s so c co _ _ W hz O1).mono ?_;rintro v w' ⟨rfl,hk⟩;refine⟨⟨0,none,0,_,0,0,fun _=>none,fun _=>0⟩,_,_,none,O,⟨O,fun t ht=>(by cases ht),fun _ T hT=>?_⟩,hk,fun _ _=>bM _⟩;have h1:=uK hT.srt hT.ge hT.lt;have h2:=hT.len;have h3:(st0 d).left=d.sz.toNat:=O;have h4:(qOf d l o).N=o.length:=O;omega
theorem qT2(n:Nat)(W:World)(hn:n≤1000):
  Rt 224 [Iv (n:Int)] W (fun v w'=>∃b,v= .slice (Ad b) (range n).length n∧SVL (Ad b) n (range n)∧Hp W [] w' [qG eN 3 1 (Ad b) n (range n)]):=by
 refine(jVp n W hn).mono ?_;rintro v w' ⟨b,rfl,hv,hp⟩;refine⟨b,O4,jZ hv (by rw[qT,dA]),?_⟩;rw[show lm n _=(range n).map _ from O,qI5] at hp;exact hp
theorem zBa(d:DW)(s:Option Addr)(n c:Nat)(W:World):
  Rt 161 [d.v,.slice s n c] W (fun v w'=>∃db lb,v= .func (.func 222) #[] #[.pointer (Ad db),.pointer (Ad lb)]∧Hp W [] w' [blk lb 1 (qE [.slice s n c]) 29,blk db 13 (qE d.L) 28]):=by
 refine tW func161 ntmps161 fun hp=>?_;refine qR ?_;refine tQ fun w1 db hp=>?_;refine tQ fun w2 lb hp=>?_;refine tV ?_;exact⟨_,O,_,_,O,hp⟩
set_option maxRecDepth 20000 in
set_option maxHeartbeats 4000000 in
theorem zB1(d:DW)(s:Option Addr)(c db lb:Nat)(l:List EW)(W:World)(hD:DE d s l W)(hd:∀(j:Nat) (v:Value),d.L[j]? =some v→W.cell? ⟨db,0+j,none⟩=some v)(hl:W.cell? ⟨lb,0,none⟩=some (.slice s l.length c))(oi:d.kd=3)(hz:0≤d.sz):
  ItS Tryz.prog 222 [.pointer (Ad db),.pointer (Ad lb)] eIt (fun x w=>XP W.heap.size (fun T=>(qOf d l (range l.length)).Cmp (st0 d) T) x w) (qR6 d l (range l.length)) W:=by
 intro ll J Z eu qt hY hJ qu;have yw:=hD.le;have hq:=hD.lq;refine tW func222 ntmps222 fun hp=>?_;refine qR ?_;refine tQ fun w1 b3 hp=>?_;have hp:Hp W [] w1 [blk b3 1 (qE [.func _ _ _]) 194]:=hp;have h1:=hp.C;refine qR (wlp (qL O O O O (fun j v e=>h1.cell (hd j v e) O4)) (O:_=d.v) ?_);refine wlp (qS O O (h1.cell hl O4)) O (tK (jOf d s _ c _ hq yw) ?_);rintro _ w2 ⟨rfl,hk⟩;have hp:=hp.call hk;rw[aD oi];refine qA (qN O ?_);refine qR (qAy (fun F' w'=>∃a pa la ot b4 b5,BgR (qOf d l (range l.length)) d a pa la ot w'∧qAb F' [(3,.pointer (Ad b3)),(4,.pointer (Ad b4)),(5,.pointer (Ad b5)),(6,.bool ot.isSome)]∧
   Hp W [] w' [blk b5 14 (qE (i8L la)) 293,blk b4 1 (qE [.pointer pa]) 289,blk b3 1 (qE [.func (.yield ll) #[] #[]]) 194]) ?_ ?_)
 ·refine qCm true [0,1,2,3,4,5,6,7,8,9,10,11,12,13,14] jG O3 O (fun w'=>Keeps [] W w') hp.N.C ?_;have hp:=hp.N;have h2:=hp.C;apply wep;exact O;exact O;intro w' hk;exact qL O O O O (fun j v e=>hk.cell (hd j v e) O4);exact(O:_=d.v);apply wep;exact O;exact O;intro w' hk;exact qS O O (hk.cell hl O4);exact O;apply wep;exact O;exact O;intro w' hk;exact qS O O (hk.cell hl O4);exact O;refine zP (jC1 [12,13,14] (fun F' w'=>∃a pa la ot b4 b5,BgR (qOf d l (range l.length)) d a pa la ot w'∧qAb F' [(3,.pointer (Ad b3)),(4,.pointer (Ad b4)),(5,.pointer (Ad b5)),(21,.pointer pa),(22,.agg (i8L la).toArray),(23,.bool ot.isSome)]∧
   Hp W [] w' [blk b5 14 (qE (i8L (replicate 14 0))) 293,blk b4 1 (qE [.pointer none]) 289,blk b3 1 (qE [.func (.yield ll) #[] #[]]) 194]) ?_ (fun leaf=>?_))
  ·rintro F' w5 ⟨a,pa,la,ot,b4,b5,hm,xu,hp⟩;have hh:(i8L la).length=14:=by rw[vC];exact hm.len
   rw[qG3 xu];refine xO O O3 ?_ O;have hg:=hp.k6 1 O;apply qDu;exact O;exact jD hg 0 O O O O (qD O) O;rintro _ w6 ⟨rfl,hy⟩
   have hm:=hm.v8 (KeepsV.of hy.C fun x v hx e=>by
    obtain⟨j,hj,rfl⟩:=qCk hp 1 O hx e;obtain rfl:j=0:=O1
    exact fun h=>h)
   have hp:=hp.j8 1 O hy;refine⟨hp.C,xO O O3 ?_ O⟩;have hg:=hp.k6 0 O;apply qDu;exact O;exact zH (cs:=i8L _) hg 0 O O O O (by rw[hh];exact qD O) (by rw[hh];rfl) (vY _);rintro _ w7 ⟨rfl,hy⟩
   have hm:=hm.v8 (KeepsV.of hy.C fun x v hx e=>by
    obtain⟨j,hj,rfl⟩:=qCk hp 0 O hx e;rw[jF9 (by grind)]
    exact fun h=>h)
   have hp:=hp.j8 0 O hy;have hp:=hp.norm 0 _ O (yJ _ _ hh);refine⟨hp.C,zP (yZ ?_)⟩;exact⟨a,pa,_,ot,b4,b5,hm,⟨O,O,O,O,trivial⟩,hp⟩
  refine jUw 10 11 O O3 O O O ?_ ?_ ?_
  ·skip
   refine tK (qT2 l.length _ O1) ?_;rintro _ w4 ⟨bo,rfl,h3,hpo⟩;have hp:Hp W [] _ [_,_]:=hp.join hpo;refine⟨hp.C,jUw 10 11 O O3 O O O ?_ ?_ ?_⟩
   ·skip
    refine tK (qEl d s _ c _ l _ _ (hD.j5 hp.C) (qZ hp 0 O h3 (fun _=>O)) (dA ..) (fun x hx=>aO.1 hx) hz) ?_;rintro _ w5 ⟨a,pa,la,ot,rfl,hm,gl,_⟩;have hp:=hp.call gl;refine⟨hp.C,zP (qD7 11 O O3 O O ?_ ?_)⟩
    ·apply wbs;exact O;exact zT (Hp.start (M:=[])) (qJ O) O;rintro _ ur ⟨b4,rfl,hpo⟩;have hm:=hm.j5 hpo.C;have hp:Hp W [] _ [blk b4 1 _ 289,_,_]:=hp.join hpo;refine⟨hp.C,xO O O3 ?_ O⟩;exact mAo
    apply wbs;exact O;exact zE (cs:=i8L (replicate 14 0)) (m:=14) (Hp.start (M:=[])) (qJ O) O O;rintro _ gg ⟨b5,rfl,hpo⟩;have hm:=hm.j5 hpo.C;have hp:Hp W [] _ [blk b5 14 _ 293,_,_]:=hp.join hpo;refine⟨hp.C,xO O O3 ?_ O⟩;exact mAr
   ·skip
    apply wbs;exact O;exact zT (Hp.start (M:=[])) (qJ O) O;rintro _ ur ⟨b4,rfl,hpo⟩;have hp:Hp W [] _ [blk b4 1 _ 289,_,_]:=hp.join hpo;refine⟨hp.C,qD7 11 O O3 O O ?_ ?_⟩
    ·refine tK (qEl d s _ c _ l _ _ (hD.j5 hp.C) (qZ hp 1 O h3 (fun _=>O)) (dA ..) (fun x hx=>aO.1 hx) hz) ?_;rintro _ w5 ⟨a,pa,la,ot,rfl,hm,gl,_⟩;have hp:=hp.call gl;refine⟨hp.C,zP (xO O O3 ?_ O)⟩;exact mAo
    apply wbs;exact O;exact zE (cs:=i8L (replicate 14 0)) (m:=14) (Hp.start (M:=[])) (qJ O) O O;rintro _ gg ⟨b5,rfl,hpo⟩;have hp:Hp W [] _ [blk b5 14 _ 293,_,_,_]:=hp.join hpo;refine⟨hp.C,xO O O3 (tK (qEl d s _ c _ l _ _ (hD.j5 hp.C) (qZ hp 2 O h3 (fun _=>O)) (dA ..) (fun x hx=>aO.1 hx) hz) ?_) O⟩;rintro _ w5 ⟨a,pa,la,ot,rfl,hm,gl,_⟩;have hp:=hp.call gl;refine⟨hp.C,zP ?_⟩;exact leaf _ _ ⟨a,pa,_,ot,b4,b5,hm,⟨O,O,O,O,O,O,trivial⟩,(hp.k5 [0,1,3] [_,_,_] O2 O)⟩
   skip
   apply wbs;exact O;exact zE (cs:=i8L (replicate 14 0)) (m:=14) (Hp.start (M:=[])) (qJ O) O O;rintro _ gg ⟨b5,rfl,hpo⟩;have hp:Hp W [] _ [blk b5 14 _ 293,_,_]:=hp.join hpo;refine⟨hp.C,qD7 10 O O3 O O ?_ ?_⟩
   ·refine tK (qEl d s _ c _ l _ _ (hD.j5 hp.C) (qZ hp 1 O h3 (fun _=>O)) (dA ..) (fun x hx=>aO.1 hx) hz) ?_;rintro _ w5 ⟨a,pa,la,ot,rfl,hm,gl,_⟩;have hp:=hp.call gl;refine⟨hp.C,zP (xO O O3 ?_ O)⟩;exact mAr
   apply wbs;exact O;exact zT (Hp.start (M:=[])) (qJ O) O;rintro _ ur ⟨b4,rfl,hpo⟩;have hp:Hp W [] _ [blk b4 1 _ 289,_,_,_]:=hp.join hpo;refine⟨hp.C,xO O O3 (tK (qEl d s _ c _ l _ _ (hD.j5 hp.C) (qZ hp 2 O h3 (fun _=>O)) (dA ..) (fun x hx=>aO.1 hx) hz) ?_) O⟩;rintro _ w5 ⟨a,pa,la,ot,rfl,hm,gl,_⟩;have hp:=hp.call gl;refine⟨hp.C,zP ?_⟩;exact leaf _ _ ⟨a,pa,_,ot,b4,b5,hm,⟨O,O,O,O,O,O,trivial⟩,(hp.k5 [1,0,3] [_,_,_] O2 O)⟩
  ·skip
   apply wbs;exact O;exact zT (Hp.start (M:=[])) (qJ O) O;rintro _ ur ⟨b4,rfl,hpo⟩;have hp:Hp W [] _ [blk b4 1 _ 289,_]:=hp.join hpo;refine⟨hp.C,qD7 11 O O3 O O ?_ ?_⟩
   ·skip
    refine tK (qT2 l.length _ O1) ?_;rintro _ w4 ⟨bo,rfl,h3,hpo⟩;have hp:Hp W [] _ [_,_,_]:=hp.join hpo;refine⟨hp.C,qD7 11 O O3 O O ?_ ?_⟩
    ·refine tK (qEl d s _ c _ l _ _ (hD.j5 hp.C) (qZ hp 0 O h3 (fun _=>O)) (dA ..) (fun x hx=>aO.1 hx) hz) ?_;rintro _ w5 ⟨a,pa,la,ot,rfl,hm,gl,_⟩;have hp:=hp.call gl;refine⟨hp.C,zP (xO O O3 ?_ O)⟩;apply wbs;exact O;exact zE (cs:=i8L (replicate 14 0)) (m:=14) (Hp.start (M:=[])) (qJ O) O O;rintro _ gg ⟨b5,rfl,hpo⟩;have hm:=hm.j5 hpo.C;have hp:Hp W [] _ [blk b5 14 _ 293,_,_,_]:=hp.join hpo;refine⟨hp.C,?_⟩;exact mCw
    apply wbs;exact O;exact zE (cs:=i8L (replicate 14 0)) (m:=14) (Hp.start (M:=[])) (qJ O) O O;rintro _ gg ⟨b5,rfl,hpo⟩;have hp:Hp W [] _ [blk b5 14 _ 293,_,_,_]:=hp.join hpo;refine⟨hp.C,xO O O3 (tK (qEl d s _ c _ l _ _ (hD.j5 hp.C) (qZ hp 1 O h3 (fun _=>O)) (dA ..) (fun x hx=>aO.1 hx) hz) ?_) O⟩;rintro _ w5 ⟨a,pa,la,ot,rfl,hm,gl,_⟩;have hp:=hp.call gl;refine⟨hp.C,zP ?_⟩;exact mCw
   apply wbs;exact O;exact zE (cs:=i8L (replicate 14 0)) (m:=14) (Hp.start (M:=[])) (qJ O) O O;rintro _ gg ⟨b5,rfl,hpo⟩;have hp:Hp W [] _ [blk b5 14 _ 293,_,_]:=hp.join hpo;refine⟨hp.C,xO O O3 (tK (qT2 l.length _ O1) ?_) O⟩;rintro _ w4 ⟨bo,rfl,h3,hpo⟩;have hp:Hp W [] _ [_,_,_,_]:=hp.join hpo;refine⟨hp.C,xO O O3 (tK (qEl d s _ c _ l _ _ (hD.j5 hp.C) (qZ hp 0 O h3 (fun _=>O)) (dA ..) (fun x hx=>aO.1 hx) hz) ?_) O⟩;rintro _ w5 ⟨a,pa,la,ot,rfl,hm,gl,_⟩;have hp:=hp.call gl;refine⟨hp.C,zP ?_⟩;exact leaf _ _ ⟨a,pa,_,ot,b4,b5,hm,⟨O,O,O,O,O,O,trivial⟩,(hp.k5 [1,2,3] [_,_,_] O2 O)⟩
  skip
  apply wbs;exact O;exact zE (cs:=i8L (replicate 14 0)) (m:=14) (Hp.start (M:=[])) (qJ O) O O;rintro _ gg ⟨b5,rfl,hpo⟩;have hp:Hp W [] _ [blk b5 14 _ 293,_]:=hp.join hpo;refine⟨hp.C,qD7 10 O O3 O O ?_ ?_⟩
  ·skip
   refine tK (qT2 l.length _ O1) ?_;rintro _ w4 ⟨bo,rfl,h3,hpo⟩;have hp:Hp W [] _ [_,_,_]:=hp.join hpo;refine⟨hp.C,qD7 10 O O3 O O ?_ ?_⟩
   ·refine tK (qEl d s _ c _ l _ _ (hD.j5 hp.C) (qZ hp 0 O h3 (fun _=>O)) (dA ..) (fun x hx=>aO.1 hx) hz) ?_;rintro _ w5 ⟨a,pa,la,ot,rfl,hm,gl,_⟩;have hp:=hp.call gl;refine⟨hp.C,zP (xO O O3 ?_ O)⟩;apply wbs;exact O;exact zT (Hp.start (M:=[])) (qJ O) O;rintro _ ur ⟨b4,rfl,hpo⟩;have hm:=hm.j5 hpo.C;have hp:Hp W [] _ [blk b4 1 _ 289,_,_,_]:=hp.join hpo;refine⟨hp.C,?_⟩;exact mCx
   apply wbs;exact O;exact zT (Hp.start (M:=[])) (qJ O) O;rintro _ ur ⟨b4,rfl,hpo⟩;have hp:Hp W [] _ [blk b4 1 _ 289,_,_,_]:=hp.join hpo;refine⟨hp.C,xO O O3 (tK (qEl d s _ c _ l _ _ (hD.j5 hp.C) (qZ hp 1 O h3 (fun _=>O)) (dA ..) (fun x hx=>aO.1 hx) hz) ?_) O⟩;rintro _ w5 ⟨a,pa,la,ot,rfl,hm,gl,_⟩;have hp:=hp.call gl;refine⟨hp.C,zP ?_⟩;exact mCx
  apply wbs;exact O;exact zT (Hp.start (M:=[])) (qJ O) O;rintro _ ur ⟨b4,rfl,hpo⟩;have hp:Hp W [] _ [blk b4 1 _ 289,_,_]:=hp.join hpo;refine⟨hp.C,xO O O3 (tK (qT2 l.length _ O1) ?_) O⟩;rintro _ w4 ⟨bo,rfl,h3,hpo⟩;have hp:Hp W [] _ [_,_,_,_]:=hp.join hpo;refine⟨hp.C,xO O O3 (tK (qEl d s _ c _ l _ _ (hD.j5 hp.C) (qZ hp 0 O h3 (fun _=>O)) (dA ..) (fun x hx=>aO.1 hx) hz) ?_) O⟩;rintro _ w5 ⟨a,pa,la,ot,rfl,hm,gl,_⟩;have hp:=hp.call gl;refine⟨hp.C,zP ?_⟩;exact leaf _ _ ⟨a,pa,_,ot,b4,b5,hm,⟨O,O,O,O,O,O,trivial⟩,(hp.k5 [2,1,3] [_,_,_] O2 O)⟩
 clear hp h1;rintro F' w3 ⟨a,pa,la,ot,b4,b5,hm,xu,hp⟩;refine yL _ xu fun F0=>?_
 clear xu;cases ot with
 |none=>
  have hb:=jKr (hm.no O);rw[hb];refine qA (jB O ?_);refine qA ?_;exact qG1 O ⟨_,O,hJ _ _ qu (Priv.of hp.C O4 O1)⟩
 |some t=>
  obtain⟨rfl,rfl,ht,hS⟩:=hm.yes t O
  obtain⟨hI,hC⟩:=jCv hq (by grind) (by
   refine bG fun hn=>?_
   have:(qOf d l (range l.length)).tidy (st0 d)=none:=by
    unfold Q.tidy;rw[if_pos];show d.sz.toNat>(range l.length).length-0
    omega
   grind) ht
  have h14:(i8L (stZ t)).length=14:=by rw[vC];exact hm.len
  refine qA (qN O ?_);refine qR (tF (qJs kSt (Hp.start (M:=[]))) fun w4 mp hpo=>?_);have hS:=hS.j5 hpo.C;have hp:=hp.join hpo;clear hpo;refine tF (zT (Hp.start (M:=[])) (qJ O) O) fun w5 kb hpo=>?_;have hS:=hS.j5 hpo.C;have hp:=hp.join hpo;clear hpo;have hp:Hp W [] w5 [blk kb 1 _ 296,_,_,_,_]:=hp;have hg:=hp.k6 0 O;refine tO (jD hg 0 O O O O (qD O) O) fun w6 hy=>?_
  have hS:=hS.v8 (KeepsV.of hy.C fun x v hx e=>by
   obtain⟨j,hj,rfl⟩:=qCk hp 0 O hx e;obtain rfl:j=0:=O1
   exact fun h=>h)
  have hp:=hp.j8 0 O hy;have hp:=hp.norm 0 [.map _] O O;refine qR (tF (zT (Hp.start (M:=[])) (qJ O) O) fun w7 sa hpo=>?_);have hS:=hS.j5 hpo.C;have hp:=hp.join hpo;clear hpo;refine qR (wlp kY (O:_=Value.func (.func 225) #[] #[.pointer _,.pointer _,.pointer _]) ?_);have hg:=hp.k6 0 O;refine tO (jD hg 0 O O O O (qD O) O) fun w8 hy=>?_
  have hS:=hS.v8 (KeepsV.of hy.C fun x v hx e=>by
   obtain⟨j,hj,rfl⟩:=qCk hp 0 O hx e;obtain rfl:j=0:=O1
   exact fun h=>h)
  have hp:=hp.j8 0 O hy;have hp:=hp.norm 0 [.func _ _ _] O O;refine qR (tF (zT (Hp.start (M:=[])) (qJ O) O) fun w9 vb hpo=>?_);have hS:=hS.j5 hpo.C;have hp:=hp.join hpo;clear hpo;refine qR (wlp kY (O:_=Value.func (.func 227) #[] #[.pointer _,.pointer _,.pointer _,.pointer _]) ?_);have hg:=hp.k6 0 O;refine tO (jD hg 0 O O O O (qD O) O) fun ur hy=>?_
  have hS:=hS.v8 (KeepsV.of hy.C fun x v hx e=>by
   obtain⟨j,hj,rfl⟩:=qCk hp 0 O hx e;obtain rfl:j=0:=O1
   exact fun h=>h)
  have hp:=hp.j8 0 O hy;have hp:=hp.norm 0 [.func _ _ _] O O;have hp:Hp W [] _ ([blk vb 1 _ 301,blk _ 1 _ 297,_,_,_,_]++[_,_]):=(hp.k4 eN 3 1).k5 [1,2,3,5,6,7,0,4] _ O2 O;have nb:=fun i b p hi hb=>(hp.own i p hi b hb).resolve_right O4
  refine qR ?_;refine wlp (qS O O (hp.cell 0 O O)) (O:_=Value.func _ _ _) (wlp (qL O O O h14 (hp.j3 3 O h14)) O ?_)
  (apply wls;exact qC O qWi O (zAz a d _ b3 b4 _ vb kb mp ll _ _ _ Z hS hp.C.size (nb 7 mp _ O O) (qFf hp 7 O) (hp.cell 5 O O) (hp.cell 4 O O) (hp.cell 1 O O) (hp.cell 2 O O) (nb 1 _ _ O O) (nb 0 vb _ O O) (hp.cell 0 O O)
   _ t _ [] _ 0 _ O hI .refl (fun k hk=>by obtain⟨p,hp,hb⟩:=xX.1 hk;obtain rfl:=iN.1 hp;cases hb) (fun _ _ v _ e=>by cases e) (fun T hT=>(hC T).1 hT) (bN _) SVL.nil hp.l5 (fun x W1 us hx=>hY x W1 (hJ _ _ qu ((Priv.of hp.C O4 O1).trans us)) hx));rintro _ gg ⟨rfl,_,uu⟩)
  refine qA ?_;refine xK O ⟨_,O,?_⟩;rw[jKq hC];cases hb:qDo (qOf d l (range l.length)) t with
  |true=>
   grind
  |false=>
   rw[hb] at uu;exact hJ _ _ qu ((Priv.of hp.C O4 O1).trans uu)
end
section
open Go.Eng Go.Dig Go.Lp Go.Qu
variable{w:World}{n:FrK}{F:Fr}{fn:Func}{p t ty te b b2:Nat}{v v2:Value}{D:Nat}
theorem qVf(h:fn.results= #[.cell p ty,.cell t te])(h1:qM5 ty=true)(h2:qM5 te=true)
  (hx:ev n F (.tmp p)= .pointer (Ad b)) (hy:ev n F (.tmp t)= .pointer (Ad b2)) (hc:w.cell? ⟨b,0,none⟩=some v) (qp:w.cell? ⟨b2,0,none⟩=some v2):
  (results fn (act n F).tmps).run Tryz.prog w= .ok (.tuple #[v,v2]) w:=by
 obtain⟨q,hq,tc⟩:=qM4 h1;obtain⟨q2,yz,gS⟩:=qM4 h2;have hX:(act n F).tmps.getD p undef= .pointer (Ad b):=by
  rw[←hx,←zF];rfl
 have en:=by simpa using hX
 have er:(act n F).tmps.getD t undef= .pointer (Ad b2):=by
  rw[←hy,←zF];rfl
 have eo:=by simpa using er
 simp[results,h,en,eo,asAddr,loadVar,qQ6 hq tc,qQ6 yz gS,Sem.run,hc,qp]
theorem qHe{o o':Obj}(hD:w.heap[D]? =some o)(ho:∀c t i,o≠.cells c t i):KeepsC w (w.putObj D o'):=KeepsC.of (yR w D o') fun x v hx e=>by
 cases o with
 |cells c t i=>exact ho c t i O
 |_=>simp[World.cell?,e,hD] at hx
theorem qLo{R:Ending→World→Prop}(h:fn.results= #[.cell p ty,.cell t te])(h1:qM5 ty=true)(h2:qM5 te=true)
  (hx:ev n F (.tmp p)= .pointer (Ad b)) (hy:ev n F (.tmp t)= .pointer (Ad b2)) (pn:n.ds=[{target:=.collected D,args:=#[]}]) (hD:w.heap[D]? =some (.deferred (some [])))
  (hc:w.cell? ⟨b,0,none⟩=some v) (qp:w.cell? ⟨b2,0,none⟩=some v2) (hr:R (.returned (.tuple #[v,v2])) (w.putObj D (.deferred none))):
  bodyPostM Fence.wide 0 Tryz.prog fn R .ret (act n F) w:=by
 show LeavesInM _ 0 _ fn _ R n.ds _ w
 rw[pn];have hk:KeepsC w (w.putObj D (.deferred none)):=qHe hD O4;exact⟨O4,.inl ⟨D,_,O,run_takeDeferred hD,_,qVf h h1 h2 hx hy (hk _ _ hc) (hk _ _ qp),hr⟩⟩
attribute [local irreducible] PV StepF wpl wpd WP Ret
attribute [local irreducible] Fit
set_option maxHeartbeats 2000000 in
theorem r95(d:DW)(s:Option Addr)(c:Nat)(l:List EW)(W:World)(hD:DE d s l W)(oi:d.kd=3)(hz:0≤d.sz):
  Rt 95 [d.v,.slice s l.length c] W (fun v w'=>Keeps [] W w'∧((qR6 d l (range l.length)=false∧v= .tuple #[Zs,.bool false])∨
   ∃x:Itm,qR6 d l (range l.length)=true∧v= .tuple #[eIt x,.bool true]∧(qOf d l (range l.length)).Cmp (st0 d) x.2.2∧SVL x.1 x.2.1 x.2.2∧SlAt w' 1 eN x.1 x.2.2)):=by
 refine Ret.q9 func95 O ntmps95 O ?_;have hp:=Hp.start (M:=[]) (w:=W);refine qB2 (qR ?_);refine tQ fun w1 b2 hp=>?_;have hp:=hp.norm 0 d.L O O;refine tQ fun w2 b4 hp=>?_;refine tQ fun w3 b5 hp=>?_;refine qA (qFt ?_);refine qR (wlp (qL O O O O (hp.j3 2 O O)) (O:_=d.v) ?_);refine tL (zBa d s _ c _) ?_;rintro _ w4 ⟨db,lb,rfl,hpo⟩;have hp:=hp.join hpo;clear hpo;have hp:Hp W [] w4 [_,_,blk b5 1 _ 4,blk b4 1 _ 22]:=hp.k5 [0,1,2,3] _ O2 O;refine qA (qBr [(4,.pointer _),(5,.pointer _),(9,.func _ _ _)] ⟨O,O,O,trivial⟩ ?_);intro F0;have h4:=(aT.1 (hp.has 3 _ O b4 O).choose_spec.1).1;have h5:=(aT.1 (hp.has 2 _ O b5 O).choose_spec.1).1;have eu:=(aT.1 (hp.has 0 _ O lb O).choose_spec.1).1;have eL:=(aT.1 (hp.has 1 _ O db O).choose_spec.1).1;have pa:∀{W1 W2:World} {u v:Value},Hp W [] W1 _→Priv _ W1 W2→Hp W [] W2 [blk lb 1 (qE [.slice s l.length c]) 29,blk db 13 (qE d.L) 28,blk b5 1 (qE [u]) 4,blk b4 1 (qE [v]) 22]:=fun h us=>by
  refine h.v6 us hp.C.size ?_;intro p jo b hb;simp[bE,mE,sAt] at jo;rcases jo with rfl|rfl|rfl|rfl<;>cases hb<;>assumption
 refine jI9 O jRw eIt (qR6 d l (range l.length)) (fun W1 x w=>XP W1.heap.size (fun T=>(qOf d l (range l.length)).Cmp (st0 d) T) x w) [b5,b4] ?_
  _ (fun W1 W2 h us=>pa h us) hp
  (fun x W'=>Hp W [] W' [blk lb 1 (qE [.slice s l.length c]) 29,blk db 13 (qE d.L) 28,blk b5 1 (qE [.bool true]) 4,blk b4 1 (qE [eIt x]) 22]∧(qOf d l (range l.length)).Cmp (st0 d) x.2.2∧SVL x.1 x.2.1 x.2.2∧SlAt W' 1 eN x.1 x.2.2) ?_ ?_
  (fun x=>((F0.x5 [(4,.pointer (Ad b4)),(5,.pointer (Ad b5)),(9,.func (.func 222) #[] #[.pointer (Ad db),.pointer (Ad lb)])]).put 10 (eIt x)).put 6 (eIt x)) ?_ ?_ ?_ ?_
 ·grind
 ·rintro x ll o o' W1 yw ⟨h1,h2,h3,h4⟩ ho;exact⟨pa h1 (Priv.put _ _ yw),h2,h3,(qHe ho O4).o6 h4⟩
 ·intro W1 hk hg;exact zB1 d s c db lb l W1 (hD.j5 (hp.C.trans hk O4)) (fun j v e=>hk.cell (hp.j3 1 O O j v e) O4) (hk.cell (hp.cell 0 O O) O4) oi hz
 ·intro ll x W1;refine qA ?_;exact⟨O,O,O⟩
 ·rintro ll x W1 W2 W0 e7 hI hx hh hg;have hq:=hh.o6 hx.sl;have hb:=fun b o e=>bL e7.size (hx.hi b o e)
  refine qR ?_;refine wlp qP (O:_=eIt x) ?_;have hj:=Hp.l5 (A:=[_,_]) hI;refine tO (jD hj 1 O O O O (qD O) O) fun w5 hj=>?_;refine tO (jD hj 0 O O O O (qD O) O) fun w6 hj=>?_;have hl:=Hp.back (A:=[_,_]) hI hj;refine qA ?_
  exact⟨O,⟨hl,hx.c,hx.sv,hq.j5 hj.C (fun _ b o e=>by
   intro hm;have hm:b∈[b5,b4]:=hm;grind)⟩,hj.C⟩
 ·intro D W1 ht hb hI q7;refine qFu O O (qSc ?_);have hj:=Hp.l5 (A:=[_,_]) hI;have hy:=(aT.1 q7).1;refine qR (tO (jD hj 1 O O O O (qD O) O) fun w5 hj=>?_);refine tO (jD hj 0 O O O O (qD O) O) fun w6 hj=>?_;have hl:=Hp.back (A:=[_,_]) hI hj
  have hn:=(hj.C.block D hy (fun hm=>by
   have hm:D∈[b5,b4]:=hm;grind)).trans q7
  refine qA ?_;exact qLo O O O O O O hn (hl.cell 3 O O) (hl.cell 2 O O) ⟨_,O,hl.C.trans (yR w6 D _) (fun k hk=>by
   have:=by simpa using hk
   have:=hp.C.size
   omega),.inl ⟨hb,O⟩⟩
 rintro D x W1 ht hb ⟨h1,h2,h3,h4⟩ q7;exact qLo O O O O O O q7 (h1.cell 3 O O) (h1.cell 2 O O) ⟨_,O,h1.keeps.trans (yR W1 D _) (fun k hk=>by
  have:=by simpa using hk
  have:=hp.C.size
  omega),.inr ⟨x,hb,O,h2,h3,(qHe q7 O4).o6 h4⟩⟩
end
section
open Go.Eng Go.Dig Go.Lp Go.Qu
variable{f:Nat→Rat}{n κ i:Nat}
def qCj(f:Nat→Rat):Nat→Nat
 |0=>1
 |k+1=>qCj f k*((f k).den/Nat.gcd (qCj f k) (f k).den)
def qBf(f:Nat→Rat)(n i:Nat):Nat:=qCj f n/(f i).den*(f i).num.natAbs
theorem qN5(f:Nat→Rat):∀k,0<qCj f k
 |0=>Nat.one_pos
 |k+1=>iU (qN5 f k) (Nat.div_pos (lM (f k).den_pos (mU _ _)) (lP _ (f k).den_pos))
theorem qUf(f:Nat→Rat):∀k i,i<k→(f i).den∣qCj f k
 |k+1,i,h=>by
  rcases dJ.1 h with h|rfl
  ·exact sA8 (qUf f k i h) (Nat.dvd_mul_right _ _)
  obtain⟨g,hg⟩:∃g,g=Nat.gcd (qCj f i) (f i).den:=⟨_,O⟩;have hd:(f i).den/g*g=(f i).den:=by rw[hg];exact Nat.div_mul_cancel (mU _ _)
  obtain⟨a,ha⟩:g∣qCj f i:=by rw[hg];exact sBd _ _
  refine⟨a,?_⟩;show qCj f i*((f i).den/Nat.gcd _ _)=_
  grind
theorem qZg{f:Nat→Rat}{κ n:Nat}(h:∀i,i<n→BQ κ (f i)):∀k,k≤n→qCj f k≤2^(κ*k)
 |0,_=>by simp[qCj]
 |k+1,hk=>by
  have h1:=qZg h k O1;have h2:_/Nat.gcd (qCj f k) (f k).den≤_:=bL (fR _ _) (oN (h k hk).2);rw[Nat.mul_succ,dW];exact cF h1 h2
theorem qIq(h:∀i,i<n→BQ κ (f i)){k:Nat}(hk:k≤n):qCj f k<2^(κ*n+1):=by
 refine bY (qZg h k hk) (iD O2 ?_);have:=dK κ hk;omega
theorem qQz(h:∀i,i<n→BQ κ (f i))(hi:i<n):qBf f n i<2^(κ*n+1+κ):=
 yD (bY (fR _ _) (qIq h O1)) (h i hi).1
theorem qY8(hi:i<n)(h0:0≤f i):((qBf f n i:Nat):Rat)=f i*(qCj f n:Nat):=by
 obtain⟨c,hc⟩:=qUf f n i hi;unfold qBf;rw[hc,Nat.mul_div_cancel_left _ (f i).den_pos];have hn:=Int.natAbs_of_nonneg (Rat.num_nonneg.2 h0);have h1:f i=((f i).num)/((f i).den):=by rw[←gE,rB]
 have h2:((f i).num.natAbs:Nat)=((f i).num:Rat):=by rw[←hn];rfl
 have h3:(((f i).den):Rat)≠0:=by
  have:=(f i).den_pos;exact fun e=>by
   have:=pM.1 e;omega
 grind
theorem jO1{q:Rat}(h:0≤q):sgn q=false:=by
 have:=Rat.num_nonneg.2 h;unfold sgn;grind
def eQ0:List Value:=[.bool false,.string ⟨#[]⟩,.string ⟨#[]⟩]
def eSt(n:Nat):List Value:=[.string (ofN n)]
attribute [local irreducible] PV StepF wpl wpd WP Ret
attribute [local irreducible] Fit
theorem zBm(x:Nat)(q:Rat)(W:World)(hx:Fit x)(hq:FQ q)(hm:Fit (x*(q.den/Nat.gcd x q.den))):Rt 102 [.string (ofN x),QV q] W (fun v w'=>v= .string (ofN (x*(q.den/Nat.gcd x q.den)))∧Keeps [] W w'):=by
 have ux:0<Nat.gcd x _:=lP _ q.den_pos;have hg:Fit (Nat.gcd x _):=hq.d.le (lM q.den_pos (mU _ _));refine tW func102 ntmps102 fun hp=>?_;refine vK fun w b hp=>?_
 refine tX fun hp=>?_;refine tH (c84 x _ _ hx hq.d) fun w1 hp=>?_;refine tG (c24 _ _ _ hq.d hg ux) fun w2 hp=>?_;refine qX (qU ?_);refine tD (c18 x _ _ hx hq.d.div) fun w3 hp=>?_;exact mA0
theorem zBn(n:Nat)(f:Nat→Rat)(s:Option Addr)(c κ:Nat)(W:World)(hs:SlAt W 3 eQ s (lm n f))(hb:∀i,i<n→BQ κ (f i))(hn:n≤1000)(hκ:κ*n+κ+1≤1000000000000):
  Rk 101 [.slice s n c,.string (ofN 1),.func (.func 102) #[] #[]] W (.string (ofN (qCj f n))):=by
 refine tW func101 ntmps101 fun hp=>?_;refine qA (qQ ([1,8]++range' 11 9) (fun k F=>(F.put 1 (.string (ofN (qCj f k)))).put 11 (.int _ k)) (fun k w'=>k≤n∧Hp W [] w' []) (fun k=>n-k) 0 (qB (qB (Same.eq .refl) O) O) ⟨O1,hp⟩ ?_);clear hp;rintro u k w2 ⟨hk,hp⟩;refine tI (fun h=>?_) fun h=>?_
 ·have hl:k<n:=O1;obtain⟨bs,os,hg,hc⟩:=jR hs hl;have hc:=fun j v e=>hp.j7 (hc j v e)
  have hB:=qIq hb (show k+1≤n by omega);refine qA (tR (qL O O O O hc) ?_);refine vK fun w b hp=>?_
  refine tD (zBm _ _ _ (Fit.of (qIq hb hk) O1) (BQ.fq (hb k hl) O1) (Fit.of hB O1)) fun w3 hp=>?_;exact mAm
 obtain rfl:n=k:=O1;exact mA0
theorem r33(n:Nat)(f:Nat→Rat)(s:Option Addr)(c κ:Nat)(W:World)(hs:SlAt W 3 eQ s (lm n f))(hb:∀i,i<n→BQ κ (f i))(h0:∀i,i<n→0≤f i)(hn:n≤1000)(hκ:κ*n+κ+1≤1000000000000):
  Rt 33 [.slice s n c] W (fun v w'=>∃g,v= .tuple #[.string (ofN (qCj f n)),.slice (Ad g) n n,.bool true]∧SVL (Ad g) n (lm n (qBf f n))∧Hp W [] w' [qG eSt 34 1 (Ad g) n (lm n (qBf f n))]):=by
 refine tW func33 ntmps33 fun hp=>?_;refine qA (qQ ([6]++range' 16 12) (fun(k:Nat) F=>F.put 16 (.int _ k)) (fun k w'=>k≤n∧Hp W [] w' []) (fun k=>n-k) 0 (qB (Same.eq .refl) O) ⟨O1,hp⟩ ?_);clear hp;rintro u k w2 ⟨hk,hp⟩;refine tI (fun h=>?_) fun h=>?_
 ·have hl:k<n:=O1;obtain⟨bs,os,hg,hc⟩:=jR hs hl;have hc:=fun j v e=>hp.j7 (hc j v e)
  have hh:=jO1 (h0 k hl);refine qA (tR (qL O O O O hc) ?_);refine vK fun w b hp=>?_
  refine tD (r51 _ (BQ.fq (hb k hl) O1)) fun w3 hp=>?_;refine jL ?_;rw[hh];exact mF2
 obtain rfl:n=k:=O1;refine tD (zBn n f s c κ _ (hs.j6 hp.C) hb hn hκ) fun w3 hp=>?_;refine qA ?_;refine tF (yE eSt 0 hp O O O O O O O O1 O) fun w4 g⟨hv,hp⟩=>?_;rw[qAn] at hp hv;rw[qMf (f:=qBf f n)] at hp;refine qA (qQ ([9,10,11,12,13]++range' 35 21) (fun(k:Nat) F=>F.put 35 (.int _ k)) (fun k w'=>k≤n∧Hp W [] w' [qG _ 34 1 _ n (lm n fun i=>if i<k then qBf f n i else 0)]) (fun k=>n-k) 0 (qB (Same.eq .refl) O) ⟨O1,hp⟩ ?_);clear hp;rintro u k w5 ⟨hk,hp⟩;refine tI (fun h=>?_) fun h=>?_
 ·have hl:k<n:=O1;obtain⟨bs,os,hg,hc⟩:=jR hs hl;have hc:=fun j v e=>hp.j7 (hc j v e)
  subst hg;have hB:=qIq hb (bM n);refine qA (tR (qL O O O O hc) ?_);refine vK fun w b hp=>?_
  refine tD (c24 _ _ _ (Fit.of hB O1) (BQ.fd (hb k hl) O1) (f k).den_pos) fun w6 hp=>?_;refine tD (c18 _ _ _ (Fit.of hB O1).div (BQ.fn (hb k hl) O1)) fun w7 hp=>?_;refine qA (tO (zL _ _ k (qBf f n k) hp 1 O (jZ hv (by rw[qT,qT])) (by rw[qT];omega) O O (fun _=>O) O O (qD O)) fun w8 hp=>?_);rw[qTq] at hp;exact mAm
 obtain rfl:n=k:=O1;rw[qMe] at hp;refine qA ?_;exact qDj O O O O ⟨_,O,g,O,jZ hv (by rw[qT,qT]),hp⟩
theorem qLf{f:Nat→Rat}{κ n:Nat}(h:∀i,i<n→BQ κ (f i)):∀k,k≤n→BQ (1+k*(κ+1)) (sm k f)
 |0,_=>⟨by show(0:Rat).num.natAbs<_;simp,by show(0:Rat).den<_;simp⟩
 |k+1,hk=>by
  have:=(qLf h k O1).add (h k O1);refine this.mono ?_;grind
theorem zBi(n:Nat)(f:Nat→Rat)(s:Option Addr)(c κ:Nat)(W:World)(hs:SlAt W 3 eQ s (lm n f))(hb:∀i,i<n→BQ κ (f i))(hn:n≤1000)(hκ:2+(n+1)*(κ+1)≤1000000000000):
  Rk 119 [.slice s n c,QV 0,.func (.func 44) #[] #[]] W (QV (sm n f)):=by
 refine tW func119 ntmps119 fun hp=>?_;refine qR ?_;refine tQ fun w1 b4 hp=>?_;have hp:=hp.norm 0 (eQ 0) O O;refine tQ fun w2 b6 hp=>?_;refine qA (qQ ([8]++range' 11 9) (fun(k:Nat) F=>F.put 11 (.int _ k)) (fun k w'=>k≤n∧Hp W [] w' [blk b6 3 (qE (eQ0)) 49,blk b4 3 (qE (eQ (sm k f))) 49]) (fun k=>n-k) 0 (qB (Same.eq .refl) O) ⟨O1,hp⟩ ?_);clear hp;rintro u k w3 ⟨hk,hp⟩;refine tI (fun h=>?_) fun h=>?_
 ·have hl:k<n:=O1;obtain⟨bs,os,hg,hc⟩:=jR hs hl;have hc:=fun j v e=>hp.j7 (hc j v e)
  have hj:1+k*(κ+1)+κ+1≤1000000000000:=by
   have:k*(κ+1)≤n*(κ+1):=aL _ hk;rw[lO] at hκ;omega
  refine qA (tR (qL O O O O hc) ?_);refine tQ fun w4 b8 hp=>?_;refine tS fun w5 hp=>?_;refine tD (r44 _ (qLf hb k hk) (hb k hl) hj) fun w6 hp=>?_;refine tS fun w7 hp=>?_;exact mAm
 obtain rfl:n=k:=O1;refine tT fun w4 hp=>?_;exact mD6
theorem r46(n:Nat)(f:Nat→Rat)(s:Option Addr)(c κ:Nat)(W:World)(hs:SlAt W 3 eQ s (lm n f))(hb:∀i,i<n→BQ κ (f i))(hn:n≤1000)(hκ:2+(n+1)*(κ+1)≤1000000000000):
  Rk 46 [.slice s n c] W (QV (sm n f)):=by
 refine tW func46 ntmps46 fun hp=>?_;refine qR ?_;refine tQ fun w1 b2 hp=>?_;refine tD (zBh _) fun w2 hp=>?_;refine tC (zBi n f s c κ _ (hs.j6 hp.C) hb hn hκ) fun w3 hp=>?_;refine tS fun w4 hp=>?_;exact mD6
end
open Go.Eng Go.Dig Go.Lp Go.Qu
theorem qTu{x:Int}:∀{r:List Int},r.Pairwise (fun a b=>b≤a)→(qD2 id r x).Pairwise (fun a b=>b≤a)
 |[],_=>by simp[qD2]
 |y::r,h=>by
  obtain⟨h1,h2⟩:=bO.1 h;rw[qD2];split
  ·rename_i hc
   have hc:x<y:=hc;refine bO.2 ⟨fun z hz=>?_,qTu h2⟩;rcases bE.1 ((qJ6 id x r).mem_iff.1 hz) with rfl|hz
   ·omega
   grind
  refine bO.2 ⟨fun z hz=>?_,h⟩;grind
theorem qXa:∀r:List Int,(svI id r).Pairwise (fun a b=>b≤a)
 |[]=>.nil
 |x::r=>qTu (qXa r)
theorem jJ4(l:List Int):(srt id l).Pairwise (·≤·):=List.pairwise_reverse.2 (qXa _)
theorem jNv{l o:List Nat}(h:o.Pairwise (·<·))(hp:l.Perm o):srt id (l.map fun x:Nat=>(x:Int))=o.map fun x:Nat=>(x:Int):=by
 refine sBa O1 (jJ4 _) ?_ ((qF1 id _).trans (hp.map _));grind
attribute [local irreducible] PV StepF wpl wpd WP Ret
attribute [local irreducible] Fit
theorem jZt(a b:Int)(w:World):Rk 362 [Iv a,Iv b] w (.bool (decide (a<b))):=by
 refine tW func362 ntmps362 fun hp=>?_;refine tD (jO8 a _) fun w1 hp=>?_;exact mE6
theorem jZu(l:List Int)(b cc:Nat)(w:World)(hr:qBx w b cc l)(hc:l.length≤cc)(qa:cc≤maxLen)(h20:l.length<20):
  Rt 356 [.slice (Ad b) l.length cc,Iv 0,Iv (l.length:Int)] w (fun _ w'=>Keeps [b] w w'∧qBx w' b cc (srt id l)):=by
 have uv:∀z:List Int,z.length=l.length→SVL _ cc z:=fun z hz=>.inr ⟨b,cc,by rw[hz],O1,qa⟩
 refine Ret.j9 func356 O ntmps356 O ?_;have hp:=Hp.ofRow hr;refine tM (0+1) ?_;refine qA (kT [6,7,10,11,12,13,14,15,16,17,18,19,20,21,22,23,24,25,26,27,28,29,30,31,32,33,34,35,36,37,38,39,40,41,42,43,44,45,46,47,48] (fun i _z F=>F.put 6 (.int _ (i+1:Nat)))
  (fun i z w'=>(i+1≤l.length∨i=0)∧z=srt id (l.take (i+1))++l.drop (i+1)∧Hp w _ w' [qG eI 3 1 _ cc z]) (fun i _=>l.length-i) 0 l (qB (Same.eq .refl) O) ⟨.inr O,?_,hp⟩ ?_)
 ·cases l with
  |nil=>rfl
  |cons x l=>simp[qXe]
 (repeat clear hp);rintro u i z w1 ⟨hi,hz,hp⟩;refine tI (fun h=>?_) fun h=>?_
 ·have hl:i+1<l.length:=O1;obtain⟨Pf,hP⟩:∃Pf,Pf=srt id (l.take (i+1)):=⟨_,O⟩;obtain⟨S,hS⟩:∃S,S=l.drop (i+1+1):=⟨_,O⟩;have h3:Pf.length=i+1:=by rw[hP,qXf,bV];omega
  have hU:S.length=l.length-(i+1+1):=by rw[hS,fJ]
  have hT:∀y∈Pf,y∈l:=by
   intro y hy;rw[hP] at hy;exact gF ((qF1 id _).mem_iff.1 hy)
  have nh:=bX hl;have e8:=qSu id (l.take (i+1)) l[i+1];rw[←aG,←hP] at e8;rw[←hP,aX hl,←hS] at hz;generalize hx:l[i+1]=x at nh e8 hz;have zv:z=mv Pf x (i+1) S:=by
   rw[hz];unfold mv;rw[←h3,dE,iQ];rfl
  subst zv;clear hz;refine qA (qQ [7,16,17,18,19,20,21,22,23,24,25,26,27,28,29,30,31,32,33,34,35,36,37,38,39,40,41,42,43,44,45,46,47,48] (fun(j:Nat) F=>F.put 7 (.int _ j))
   (fun j w'=>j≤i+1∧(qD2 id _ x).reverse=(qD2 id (Pf.take j).reverse x).reverse++Pf.drop j∧Hp w _ w' [qG eI 3 1 _ cc (mv Pf x j S)]) (fun j=>j) _ (qB (Same.eq .refl) O) ⟨O1,by rw[←h3,dE,iQ,bH],hp⟩ ?_)
  (repeat clear hp);rintro u2 j w2 ⟨hj,hH,hp⟩;have x2:(mv Pf x j S).length=l.length:=by rw[jEc];omega
  have gq:=uv _ x2;refine qA ?_;refine jW jG O3 (fun w'=>Hp w _ w' _) hp.N ?_;have hp:=hp.N;refine tP (fun w hp=>qP) (tP (fun w hp=>qP) ?_);rcases dH j with h0|h0
  ·subst h0;refine xA ?_;apply qIv;exact O;exact O;exact O;exact O;exact hp;exact mCc
  obtain⟨q,rfl⟩:∃q,j=q+1:=⟨j-1,O1⟩;have hm:q<Pf.length:=O1;have h7:=jMr (P:=Pf) (x:=x) (j:=q+1) (S:=S) O1;have zt:=qOs (x:=x) (S:=S) hm;have qb:=qYd (x:=x) (S:=S) hm;have h6:=qYo (c:=id) (x:=x) hm;have xy:=qP1 (c:=id) (x:=x) hm;have ni:=hT _ (bX hm);have ey:=aX hm;generalize Pf[q]=y at zt qb h6 xy ni ey;have xz:q+1<l.length:=O1;have zn:q<l.length:=O1;have hJ:q+1<(mv Pf x (q+1) S).length:=O1;refine wdp O (fun w hp=>xJ O O) (qV (aD O1)) (xA ?_);apply yG;exact O;exact O;exact O;intro w hp;exact qS O O (zS hp 0 O gq (fun _=>O) h7 0 _ O);exact fI O;refine xA ?_;refine tN q ?_;refine xA ?_;apply yG;exact O;exact O;exact O;intro w hp;exact qS O O (zS hp 0 O gq (fun _=>O) zt 0 _ O);exact fI O;refine tG (jZt x y _) fun w3 hp=>?_;by_cases bA:x<y
  ·rw[aD bA];refine xA (qU ?_);refine jB O (qA ?_);refine qGm ?_;intro F0 hn;have hh:F0 0= .slice (Ad b) l.length cc:=by rw[hn];rfl
   have ht:F0 7=Iv (q+1:Nat):=by rw[hn];rfl
   refine qFs jG O3 (fun D F w'=>Dn 33 16 (swV b l.length cc q x y) F0 (fun j=>D (phi j)) F∧(D 15=true→D 9=true∧D 13=true)∧(D 17=true→D 15=true)∧(D 15=false→Hp w _ w' _)∧(D 15=true→D 17=false→Hp w [b] w' [qG eI 3 1 (Ad b) cc ((mv Pf x (q+1) S).set (q+1) y)])∧(D 17=true→Hp w [b] w' [qG eI 3 1 (Ad b) cc (((mv Pf x (q+1) S).set (q+1) y).set q x)])) ⟨Dn.start,O4,O4,fun _=>hp.N,O4,O4⟩ ?_ ?_
   ·rintro i D F w4 hi h8 hA ⟨hD,hK,hE,mw,ed,lj⟩;have hM:=gq.set (q+1) y;have hL:q<((mv Pf x (q+1) S).set (q+1) y).length:=by rw[fZ];omega
    have nf:∀j,j<16→Nat.beq _ 15=_:=fun j hj=>jJ (qFa hj).1
    have na:∀j,j<16→Nat.beq _ 17=_:=fun j hj=>jJ (qFa hj).2.1
    have ng:∀j,j<16→(D (phi j)||Nat.beq (phi j) 16)=(D (phi j)||Nat.beq j 15):=by
     intro j hj;by_cases h:j=15
     ·subst h;rfl
     have e1:phi j=j:=by unfold phi;rw[jJ h];rfl
     exact mCv
    have h15:(D 9=false∨D 13=false)→D 15=false:=by
     intro h;cases h5:D 15
     ·rfl
     exact mBt
    have nxt:∀i,i<15→i≠9999→Dn 33 16 (swV b l.length cc q x y) F0 (fun j=>D (phi j)||Nat.beq (phi j) i) (F.put (33+i) (swV b l.length cc q x y i))∧((D 15||Nat.beq 15 i)=true→(D 9||Nat.beq 9 i)=true∧(D 13||Nat.beq 13 i)=true)∧((D 17||Nat.beq 17 i)=true→(D 15||Nat.beq 15 i)=true)∧((D 15||Nat.beq 15 i)=false→Hp w [b] w4 [qG eI 3 1 (Ad b) cc (mv Pf x (q+1) S)])∧((D 15||Nat.beq 15 i)=true→(D 17||Nat.beq 17 i)=false→Hp w [b] w4 [qG eI 3 1 (Ad b) cc ((mv Pf x (q+1) S).set (q+1) y)])∧((D 17||Nat.beq 17 i)=true→Hp w [b] w4 [qG eI 3 1 (Ad b) cc (((mv Pf x (q+1) S).set (q+1) y).set q x)]):=by
     exact mA7
    match i,hi with
    |0,_=>
     exact zI qP ((hD.old 0 O O).trans hh) (nxt 0 O2 O2)
    |1,_=>
     exact zI qP ((hD.old 7 O O).trans ht) (nxt 1 O2 O2)
    |2,_=>
     exact zI qP ((hD.old 0 O O).trans hh) (nxt 2 O2 O2)
    |3,_=>
     exact zI qP ((hD.old 7 O O).trans ht) (nxt 3 O2 O2)
    |4,_=>
     exact mAh
    |5,_=>
     exact zI qP ((hD.old 0 O O).trans hh) (nxt 5 O2 O2)
    |6,_=>
     exact zI qP ((hD.old 7 O O).trans ht) (nxt 6 O2 O2)
    |7,_=>
     exact mAl
    |8,_=>
     exact mAi
    |9,_=>
     exact mBh
    |10,_=>
     exact zI qP ((hD.old 0 O O).trans hh) (nxt 10 O2 O2)
    |11,_=>
     exact zI qP ((hD.old 7 O O).trans ht) (nxt 11 O2 O2)
    |12,_=>
     exact mAg
    |13,_=>
     exact mBf
    |14,_=>
     exact mA3
    |15,_=>
     have hA:(D 14&&(D 9&&(D 0&&(D 1&&(true&&(true&&(true&&(D 5&&(D 6&&(D 7&&(D 8&&(D 9&&(true&&(true&&(true&&(D 13&&true))))))))))))))))=_:=hA;simp[aF,eX,rZ] at hA;have h9:=hA.2.1;have h13:D 13=true:=by simp[hA]
     refine qU9 (zL eI _ _ y (mw h8) 0 O gq hJ (hD.slot 14 hA.1 O O) (hD.slot 9 h9 O O) (fun _=>O) O O (qD O)) ?_;rintro _ w' ⟨rfl,hp'⟩;exact⟨hD.congr (fun j hj=>by grind),fun _=>⟨by simp[h9],by grind⟩,fun h=>O4,fun h=>by simp at h,fun _ _=>hp',fun h=>absurd (hE (by simpa using h)) (by grind)⟩
    |16,_=>
     have hA:(D 2&&(D 4&&(D 0&&(D 1&&(D 2&&(D 3&&(D 4&&(D 5&&(D 6&&(D 7&&(D 8&&(D 9&&(D 10&&(D 11&&(D 12&&(D 13&&(D 14&&(D 15&&true))))))))))))))))))=_:=hA;simp[aF,eX] at hA;have h4:D 15=true:=by simp[hA]
     exact mAv
    |17,_=>
     have hA:(D 16&&(D 13&&(D 15&&(D 0&&(D 1&&(D 2&&(D 3&&(D 4&&(D 5&&(D 6&&(D 7&&(D 8&&(D 9&&(D 10&&(D 11&&(D 12&&(D 13&&(D 14&&(D 15&&true)))))))))))))))))))=_:=hA;simp[aF,eX] at hA;have h4:D 15=true:=by simp[hA]
     have h13:D 13=true:=by simp[hA]
     refine qU9 (zL eI _ q x (ed h4 h8) 0 O hM hL (hD.slot 15 hA.1 O O) (hD.slot 13 h13 O O) (fun _=>O) O O (qD O)) ?_;rintro _ w' ⟨rfl,hp'⟩;exact⟨hD.congr (fun j hj=>by grind),fun _=>⟨by simp[hA],by simp[hA]⟩,fun _=>by grind,fun h=>by grind,fun _ h=>by simp at h,fun _=>hp'⟩
    |i+18,hi=>exact absurd hi O4
   rintro D F w4 hD ⟨hg,_,_,_,_,lj⟩;have hp:=lj (hD 17 O2);rw[qb] at hp;have hF:=hg.same.eq;rw[hF];subst hn;refine tM q ?_;refine qA ?_;refine⟨q,qB O5 O,⟨O1,?_,hp⟩,O1⟩;grind
  rw[aB bA];exact mCa
 have uu:z=srt id l:=by
  rw[hz];rcases hi with hi|hi
  ·grind
  exact mE5
 exact mEb
theorem zA3(l:List Int)(b cc:Nat)(k:Int)(w:World)(hr:qBx w b cc l)(hc:l.length≤cc)(qa:cc≤maxLen)(hg:l.length≤12):
  Rt 325 [.slice (Ad b) l.length cc,Iv 0,Iv (l.length:Int),Iv k] w (fun _ w'=>Keeps [b] w w'∧qBx w' b cc (srt id l)):=by
 refine tW func325 ntmps325 fun hp=>?_;refine qA (qQ ([1,2,3]++range' 8 126) (fun _ F=>((F.put 1 (.int _ 0)).put 2 (.int _ _)).put 3 (.int _ k)) (fun _ w'=>w'=w) (fun _=>0) () (qB (qB (qB (Same.eq .refl) O) O) O) O ?_);rintro u ⟨⟩ _ rfl;refine tM (l.length) ?_;refine qA ?_;refine qH O (fun _=>?_) O1;refine tL (jZu l b cc _ hr hc qa O1) ?_;rintro v w1 ⟨hk,jp⟩;refine qA ?_;exact qG1 O ⟨_,O,hk,jp⟩
theorem zA2(x:Nat)(w:World)(hx:x<2^64):Rt 326 [.int .u64 (x:Int)] w (fun v w'=>∃t:Nat,v=Iv (t:Int)∧Keeps [] w w'):=by
 refine tW func326 ntmps326 fun hp=>?_;refine gA3 ?_;refine tK (jWi x _ O1) ?_;rintro _ w1 ⟨t,rfl,_,_,hk⟩;have hp:=hp.call hk;refine tV ?_;exact⟨_,O,t,O,hp.C⟩
theorem zAo(l:List Int)(b cc:Nat)(w:World)(hr:qBx w b cc l)(hc:l.length≤cc)(qa:cc≤maxLen)(hg:l.length≤12):
  Rt 241 [.slice (Ad b) l.length cc] w (fun _ w'=>Keeps [b] w w'∧qBx w' b cc (srt id l)):=by
 refine tW func241 ntmps241 fun hp=>?_;refine gA4 ?_;refine gA1 ?_;refine gA4 ?_;refine jM ?_;refine wlp (zX O O O) (qF (wU (m:=l.length) O1)) ?_;refine tK (zA2 l.length _ O1) ?_;rintro _ w1 ⟨t,rfl,my⟩;have hp:=hp.call my;refine tL (zA3 l b cc _ _ (by obtain⟨o,ho,hr⟩:=hr;exact⟨o,(my.block b (aT.1 ho).1 O4).trans ho,hr⟩) hc qa hg) ?_;rintro v w2 ⟨hk,jp⟩;refine qA ?_;exact xK O ⟨_,O,hp.C.after hk,jp⟩
end Go.Proofs.YtplkndjlfkkjlaaGreatDoor
namespace Go.Eng
open List (range range' replicate)
section
variable {P:Program}{n:FrK}{w0 w:World}{M:List Nat}{L:List Ent}{F:Fr}{d:Option Tmp}{ty:TypeId}{pos:String}{aft:Array Edge}{g:Option (Nat×Bool)}{x y:Operand}
theorem qNy(zs:List Value):∀(m:Nat),(madeCells zs.toArray (m*zs.length)).toList=(replicate m zs).flatten:=by
 have hg:∀i k,i<k*zs.length→(madeCells zs.toArray (k*zs.length)).toList[i]? =zs[i%zs.length]?:=fun i k h=>by
  have hz:0<zs.length:=by
   rcases dH zs.length with e|e
   ·grind
   exact e
  have hm:=dG i hz;simp[madeCells,h,hm]
 intro m;induction m with
 |zero=>simp[madeCells]
 |succ m ih=>
  rw[rW,List.flatten_append,←ih];apply eF;intro i;have hl:(madeCells zs.toArray (m*zs.length)).toList.length=m*zs.length:=by simp[sAv]
  have oy:(madeCells zs.toArray ((m+1)*zs.length)).toList.length=(m+1)*zs.length:=by simp[sAv]
  rcases iL i (m*zs.length) with h|h
  ·grind
  rw[gZ O1,hl];simp only[List.flatten_cons,List.flatten_nil,bH];rcases iL i ((m+1)*zs.length) with h2|h2
  ·rw[hg i _ h2];rw[lO] at h2;obtain⟨j,rfl⟩:∃j,i=m*zs.length+j:=⟨i-m*zs.length,O1⟩;rw[bW,Nat.mul_add_mod,aN O1,pN]
  grind
theorem jCn{α:Type}(enc:α→List Value)(x0:α){t e ba m k:Nat}{kl kc:IntKind}{z:Value}(hp:Hp w0 M w L)(ht:P.underlying t=some (.slice e))(hs:TSize P e k)(hz:TZero P e z)(x3:TBytes P e ba)
  (hx:ev n F x= .int kl m) (hy:ev n F y= .int kc m) (hj:z.cells=(enc x0).toArray) (hk:(enc x0).length=k) (hm:(ba+1)*m<281000000000000):
  StepF P n ⟨d,.makeSlice t x y,ty,pos,aft,g⟩ F w (fun u w'=>∃b,u= .slice (Ad b) m m∧SVL (Ad b) m (replicate m x0)∧Hp w0 M w' (qG enc e k (Ad b) m (replicate m x0)::L)):=by
 obtain⟨inf,hh,hD⟩:=x3.ex;have p2:=by
  exact mBx
 have xz:=by
  exact mCu
 rw[fE,lR] at hm;have hg:inf.bytes*(m:Int)≤281474976710656:=by
  exact mBv
 have hr:=run_make w t e _ z ht hh xz kl kc m m O1 O1 hg O1;have hQ:(replicate m x0).length=m:=O4;have hl:(replicate m x0).flatMap enc=(replicate m (enc x0)).flatten:=by
  rw[List.flatMap_def,List.map_replicate]
 refine xN (w':=w.alloc (.cells (madeCells z.cells (m*k)) e)) ?_ ⟨w.heap.size,O,?_,?_⟩
 ·rw[p2] at hr;simp[execOp,hx,hy,hr]
 ·exact .inr ⟨_,m,O,O1,by unfold maxLen;omega⟩
 unfold qG;rw[hl,hQ];refine hp.alloc _ ⟨_,O,by simp[jAm,sAv],?_⟩;rw[hj,←hk,qNy,bR];simp[hk]
end
end Go.Eng
namespace Go.Proofs.YtplkndjlfkkjlaaGreatDoor
open List (range range' replicate)
open Tryz
open Go.Eng Go.Dig Go.Lp Go.Qu
variable{n:Nat}{α:Type}{k:Nat}
section
variable {n:FrK}{w0 w:World}{M:List Nat}{L:List Ent}{F:Fr}{d:Option Tmp}{ty:TypeId}{pos:String}{aft:Array Edge}{g:Option (Nat×Bool)}{x y:Operand}
theorem qLg(enc:α→List Value)(x0:α){t e ba m:Nat}{kl kc:IntKind}{z:Value}(hp:Hp w0 M w L)(ht:qDg t=some (e,k))(hz:wT e=some z)(x3:qEh e=some ba)
  (hx:ev n F x= .int kl m) (hy:ev n F y= .int kc m) (hj:z.cells=(enc x0).toArray) (hk:(enc x0).length=k) (hm:(ba+1)*m<281000000000000):
  StepF Tryz.prog n ⟨d,.makeSlice t x y,ty,pos,aft,g⟩ F w (fun u w'=>∃b,u= .slice (Ad b) m m∧SVL (Ad b) m (replicate m x0)∧Hp w0 M w' (qG enc e k (Ad b) m (replicate m x0)::L)):=
 jCn _ x0 hp (zK ht).1 (zK ht).2 (qJ hz) (qBp x3) hx hy hj hk hm
end
def eOQ:Option Rat→List Value
 |none=>eQ0
 |some q=>eQ q
theorem qKx(q:Option Rat):(eOQ q).length=3:=by cases q<;>rfl
theorem qTf{s:Option Addr}{c:Nat}(f:Nat→Rat):qG eOQ 49 3 s c (lm n fun i=>some (f i))=qG eQ 49 3 s c (lm n f):=by
 unfold qG lm;rw[oR,oR,aM,aM];rfl
theorem qW0{f g:Nat→α}:(lm n fun i=>if i<k then f i else g i).set k (f k)=lm n fun i=>if i<k+1 then f i else g i:=by
 rw[vF];grind
theorem jV7(h:n≤40):IntKind.i64.wrap (1*2^min ((n:Int)).toNat IntKind.i64.bits)=((2^n:Nat):Int):=by
 have h1:_≤2^40:=aR O2 h;have h2:min ((n:Int)).toNat IntKind.i64.bits=n:=by
  show min ((n:Int)).toNat 64=n
  omega
 rw[h2,sA3];have h3:((2:Int)^n)=(2^n:Nat):=O4;rw[h3];have h4:_≤1099511627776:=h1;generalize 2^n=m at h4;exact qK O1 O1
def yK(y:Nat→Rat):Nat→Rat
 |0=>0
 |k+1=>if k=0∨y k<yK y k then y k else yK y k
theorem qR3{y:Nat→Rat}{κ n:Nat}(h:∀i,i<n→BQ κ (y i))(h1:1≤κ):∀k,k≤n→BQ κ (yK y k)
 |0,_=>BQ.zero h1
 |k+1,hk=>by
  unfold yK;split
  ·grind
  exact qR3 h h1 k O1
theorem qKu{y:Nat→Rat}:∀k i,i<k→yK y k≤y i
 |k+1,i,h=>by
  unfold yK;by_cases hc:k=0∨y k<yK y k
  ·rw[if_pos hc];rcases dJ.1 h with h|rfl
   ·have:=qKu (y:=y) k i h;grind
   simp
  rw[if_neg hc];rcases dJ.1 h with h|rfl
  ·exact qKu k i h
  grind
def qB4(y:Nat→Rat)(n i:Nat):Nat:=qBf (fun i=>y i-yK y n) n i*2^n+2^(n-1-i)
attribute [local irreducible] PV StepF wpl wpd WP Ret
attribute [local irreducible] Fit
set_option maxHeartbeats 1000000 in
theorem zAq(n:Nat)(y:Nat→Rat)(s:Option Addr)(c κ:Nat)(W:World)(hs:SlAt W 3 eQ s (lm n y))(hb:∀i,i<n→BQ κ (y i))(hh:1≤κ)(hn:n≤40)(hκ:(κ+κ+1)*(n+2)+n+20≤1000000000000):
  Rt 239 [.slice s n c] W (fun v w'=>∃g,v= .slice (Ad g) n n∧SVL (Ad g) n (lm n (qB4 y n))∧Hp W [] w' [qG eSt 34 1 (Ad g) n (lm n (qB4 y n))]):=by
 have h3:=qR3 hb hh
 have hq:=fun i hi=>(hb i hi).sub (h3 n O1)
 have h6:∀i,i<n→0≤y i-yK y n:=fun i hi=>by
  have:=qKu (y:=y) n i hi;grind
 rw[iC] at hκ;have ht:∀i,i<n→Fit _:=fun i hi=>Fit.of (qQz hq hi) O1
 have h5:∀k,k≤40→Fit (2^k):=fun k hk=>Fit.of (k:=k+1) (iD O2 O1) O1
 have h4:∀k,k≤40→2^k≤1099511627776:=fun k hk=>aR O2 hk
 have hz:∀i,i<n→Fit _:=fun i hi=>Fit.of (yD (qQz hq hi) (iD O2 (oT n))) O1
 refine tW func239 ntmps239 fun hp=>?_;refine tD (wM _) fun w1 hp=>?_;refine tQ fun w2 b3 hp=>?_;refine tS fun w3 hp=>?_;have hp:=hp.norm 0 (eQ 0) O O;refine qA (qQ ([4,5]++range' 18 15) (fun(k:Nat) F=>F.put 18 (.int _ k)) (fun k w'=>k≤n∧Hp W [] w' [blk b3 3 (qE (eQ (yK y k))) 49]) (fun k=>n-k) 0 (qB (Same.eq .refl) O) ⟨O1,hp⟩ ?_);clear hp;rintro u k w4 ⟨hk,hp⟩;refine tI (fun h=>?_) fun h=>?_
 ·have hl:k<n:=O1;obtain⟨bs,os,hm,hc⟩:=jR hs hl;have hc:=fun j v e=>hp.j7 (hc j v e)
  subst hm;refine qA (tR (qL O O O O hc) ?_);refine tQ fun w5 b5 hp=>?_;refine qR ?_;refine tR qY (tS fun w6 hp=>?_);have hp:=hp.norm 0 (eQ _) O O;have hp:Hp W [] w6 [blk b5 3 _ 49,_]:=hp;refine qR ?_;refine tR qP ?_;rcases dH k with h0|h0
  ·refine wlp (zW O O) (qV (aD O1)) (jL ?_);refine jB O (qBs fun w hp=>?_)
   have e:yK y (k+1)=y k:=by
    show(if k=0∨_ then _ else _)=_
    rw[if_pos (.inl h0)]
   exact mEe
  refine wlp (zW O O) (qV (aB O1)) (tE (r53 _ (hb k hl) (h3 k O1) O1) fun w7 hp=>?_);by_cases bA:y k<yK y k
  ·have d1:=aD (jHn bA);refine jL ?_;rw[d1];refine jB O ?_;refine qBs fun w hp=>?_
   have e:yK y (k+1)=y k:=by
    show(if k=0∨_ then _ else _)=_
    rw[if_pos (.inr bA)]
   exact mEe
  have d1:decide (wH (y k) (yK y k)<0)=_:=aB (by have:=jHo bA;omega);refine jL ?_;rw[d1];refine qN O ?_;have e:yK y (k+1)=yK y k:=by
   show(if k=0∨_ then _ else _)=_
   rw[if_neg (by grind)]
  rw[←e] at hp;exact mAm
 obtain rfl:n=k:=O1;refine qA ?_;refine tF (qLg eOQ none hp O O O O O O O O1) fun w4 g⟨hv,hp⟩=>?_;rw[qAn] at hp hv;have sc:∀f:Nat→Option Rat,SVL _ n (lm n f):=fun f=>jZ hv (by rw[qT,qT])
 rw[qMf (f:=fun i=>some (y i-yK y n))] at hp;have hp:=hp;refine qA (qQ ([7,8]++range' 38 12) (fun(k:Nat) F=>F.put 38 (.int _ k)) (fun k w'=>k≤n∧Hp W [] w' [qG _ 49 3 _ n (lm n fun i=>if i<k then some (y i-yK y n) else none),_]) (fun k=>n-k) 0 (qB (Same.eq .refl) O) ⟨O1,hp⟩ ?_);clear hp;rintro u k w5 ⟨hk,hp⟩;refine tI (fun h=>?_) fun h=>?_
 ·have hl:k<n:=O1;obtain⟨bs,os,hm,hc⟩:=jR hs hl;have hc:=fun j v e=>hp.j7 (hc j v e)
  refine qA (tR (qL O O O O hc) ?_);refine tQ fun w6 b8 hp=>?_;refine tR qY (tS fun w7 hp=>?_);refine tD (qKa _ (hb k hl) (h3 n O1) O1) fun w8 hp=>?_;refine qA (tO (vL _ _ k (some _) hp 1 O (sc _) (by rw[qT];omega) O O qKx O O (qD O)) fun w9 hp=>?_);rw[qTq] at hp;exact mAm
 obtain rfl:n=k:=O1;rw[qMe,qTf] at hp;have hR:=qZ hp 0 O (jZ hv (by rw[qT,qT])) (fun _=>O);refine tL (r33 n _ _ _ _ _ hR hq h6 O1 O1) ?_;rintro _ w6 ⟨ga,rfl,h7,hy⟩;have hp:=hp.join hy;clear hy;have hp:=hp.sub (dT _ _);refine qA ?_;have h9:=h4 n hn;refine wlp (qJ1 O O O1) (qF (jV7 hn)) (tC (c13 (2^n:Nat) _ O1) fun w7 hp=>?_);rw[nT];refine qA ?_;have sa:∀f:Nat→Nat,SVL _ n (lm n f):=fun f=>jZ h7 (by rw[qT,qT])
 have hj:Hp W [] w7 [qG eSt 34 1 (Ad ga) n (lm n fun i=>if i<0 then qB4 y n i else qBf (fun i=>y i-yK y n) n i)]:=by
  rw[jH (g:=qBf (fun i=>y i-yK y n) n) (fun i _=>if_neg (gT i))];exact hp
 clear hp;refine qQ ([13,14]++range' 62 20) (fun(k:Nat) F=>F.put 62 (.int _ k)) (fun k w'=>k≤n∧Hp W [] w' [qG _ 34 1 _ n (lm n fun i=>if i<k then qB4 y n i else qBf _ n i)]) (fun k=>n-k) 0 (qB (Same.eq .refl) O) ⟨O1,hj⟩ ?_;clear hj;rintro u k w8 ⟨hk,hp⟩;refine tI (fun h=>?_) fun h=>?_
 ·have hl:k<n:=O1;have hg:(lm n fun i=>if i<k then qB4 y n i else qBf (fun i=>y i-yK y n) n i)[k]? =some (qBf (fun i=>y i-yK y n) n k):=by
   rw[yI hl,if_neg (Nat.lt_irrefl _)]
  have hx:=zS hp 0 O (sa _) (fun _=>O) hg 0 _ O;have h8:=h4 (n-1-k) O1;refine qA ?_;refine jU jG O3 (fun w'=>Hp W [] w' _) hp.N ?_;have hp:=hp.N;refine tH (c18 _ _ _ (ht k hl) (h5 n hn)) fun w9 hp=>?_;refine qX ?_;refine tN (n-1) ?_;refine qX ?_;refine tN (n-1-k) ?_;refine wdp O (fun w hp=>qJ1 O O O1) (qF (jV7 O1)) (tG (c13 (2^(n-1-k):Nat) _ O1) fun ur hp=>?_);refine tG (c17 _ _ _ (hz k hl) (h5 (n-1-k) O1)) fun gg hp=>?_;refine qX ?_;apply xH;exact O;exact O;exact zL _ _ k (qB4 y n k) hp 0 O (sa _) (by grind) O O (fun _=>O) O O (qD O);rintro _ gh ⟨rfl,hp⟩;refine qU ?_;rw[qW0] at hp;exact mB9
 obtain rfl:n=k:=O1;have e:(lm n fun i=>if i<n then qB4 y n i else qBf (fun i=>y i-yK y n) n i)=_:=jH fun i hi=>if_pos hi
 rw[e] at hp;refine tV ?_;exact⟨_,O,ga,O,sa _,hp⟩
end Go.Proofs.YtplkndjlfkkjlaaGreatDoor
namespace Go.Qu
open List (range range' replicate)
theorem qZu{f:Q}{w:Nat→Nat}{B:Nat}(hw:∀i,i<f.N→w i≤B):∀(d:Nat) (s:St),f.N-s.next=d→(f.best w d s).1≤d*B
 |0,s,_=>by
  rw[Q.best];grind
 |d+1,s,hd=>by
  have hn:∀b t,f.k9 s b=some t→t.next=_+1:=fun b t h=>by
   unfold Q.k9 at h;have hx:∀{u v:St},f.tidy u=some v→v.next=u.next:=fun{u v} h=>by
    unfold Q.tidy at h;split at h
    ·cases h
    cases hr:f.p5 _ _ 0 _ _ with
    |none=>rw[hr] at h;cases h
    |some cs=>rw[hr] at h;cases h;rfl
   rw[hx h];cases b<;>rfl
  have ih:=fun b t h=>qZu hw d t (by rw[hn b t h];omega)
  have hg:=hw s.next O1;rw[lO];by_cases h0:s.left=0
  ·rw[Q.best,if_pos h0];omega
  cases hf:f.k9 s false with
  |none=>
   cases hs:f.k9 s true with
   |none=>
    simp only[Q.best,if_neg h0,hf,hs];omega
   |some t=>
    simp only[Q.best,if_neg h0,hf,hs];grind
  |some u=>
   have hu:=ih _ _ hf;cases hs:f.k9 s true with
   |none=>
    simp only[Q.best,if_neg h0,hf,hs];omega
   |some t=>
    simp only[Q.best,if_neg h0,hf,hs];grind
end Go.Qu
namespace Go.Proofs.YtplkndjlfkkjlaaGreatDoor
open List (range range' replicate)
open Tryz
open Go.Eng Go.Dig Go.Lp Go.Qu
variable{w:Nat→Nat}{s:St}
def Bst(f:Q)(w:Nat→Nat)(s:St):Nat×Bool×Bool:=f.best w (f.N-s.next) s
def qGu(f:Q)(w:Nat→Nat)(s:St):Nat×Bool×Bool:=match f.k9 s false with
 |some t=>((Bst f w t).1,false,(Bst f w t).2.2)
 |none=>(0,false,false)
theorem jIe{f:Q}(h0:s.left=0):Bst f w s=(0,false,true):=by
 unfold Bst;cases f.N-s.next<;>rw[Q.best,if_pos h0]
theorem qUw{f:Q}(h:f.Ok s)(h0:0<s.left):Bst f w s=match f.k9 s true with
  |some t=>if(Bst f w t).2.2&&(!(qGu f w s).2.2||decide ((qGu f w s).1<(Bst f w t).1+w s.next)) then((Bst f w t).1+w s.next,true,true) else qGu f w s
  |none=>qGu f w s:=by
 have hl:=h.lt h0;obtain⟨d,hd⟩:∃d,f.N-s.next=d+1:=⟨f.N-s.next-1,O1⟩;have hB:∀b t,f.k9 s b=_→Bst f w t=_:=fun b t ht=>by
  unfold Bst;rw[(wW h h0 ht).2.1,show f.N-(s.next+1)=d by omega]
 show f.best w _ s=_
 have hh:¬s.left=0:=O1;rw[hd];unfold qGu;cases hf:f.k9 s false with
 |none=>
  cases hs:f.k9 s _ with
  |none=>simp[Q.best,if_neg hh,hf,hs]
  |some t=>simp[Q.best,if_neg hh,hf,hs,hB _ _ hs]
 |some u=>
  cases hs:f.k9 s _ with
  |none=>simp[Q.best,if_neg hh,hf,hs,hB _ _ hf]
  |some t=>simp[Q.best,if_neg hh,hf,hs,hB _ _ hs,hB _ _ hf]
def eA(r:Nat×Bool×Bool):List Value:=[.string (ofN r.1),.bool r.2.1,.bool r.2.2]
def aV(r:Nat×Bool×Bool):Value:=.agg (eA r).toArray
def RightB(f:Q)(w:Nat→Nat)(g:K14→Option Value):Prop:=∀(t:St) (h:t.cs.length=12) (v:Value),SI f t→g (stK t h)=some v→v=aV (Bst f w t)
theorem RightB.put{f:Q}{g:K14→Option Value}(h:RightB f w g)(hc:s.cs.length=12):RightB f w (fun x=>if x=stK s hc then some (aV (Bst f w s)) else g x):=by
 intro t ht v hS hg;simp[] at hg;by_cases e:stK t ht=stK s hc
 ·have:=qXd (aQ Subtype.val e);grind
 rw[if_neg e] at hg;exact h t ht v hS hg
structure BA where
 kb:Nat
 fb:Nat
 bb:Nat
 wb:Nat
 ob:Nat
 mp:Nat
 gw:Nat
 cw:Nat
 go:Nat
 co:Nat
def BA.fn(b:BA):Value:=.func (.func 240) #[] #[.pointer (some ⟨b.kb,0,none⟩),.pointer (some ⟨b.fb,0,none⟩),.pointer (some ⟨b.bb,0,none⟩),.pointer (some ⟨b.wb,0,none⟩),.pointer (some ⟨b.ob,0,none⟩)]
structure BsAt(b:BA)(a:SeA)(d:DW)(f:Q)(n:Nat)(wv:Nat→Nat)(o:List Nat)(w:World):Prop where
 hs:SeAt a d f w
 hk:w.cell? ⟨b.kb,0,none⟩=some (.map (some b.mp))
 hf:w.cell? ⟨b.fb,0,none⟩=some (.pointer (some ⟨a.sb,0,none⟩))
 hb:w.cell? ⟨b.bb,0,none⟩=some b.fn
 hw:w.cell? ⟨b.wb,0,none⟩=some (.slice (some ⟨b.gw,0,none⟩) n b.cw)
 ho:w.cell? ⟨b.ob,0,none⟩=some (.slice (some ⟨b.go,0,none⟩) o.length b.co)
 hW:SlAt w 1 eSt (some ⟨b.gw,0,none⟩) (lm n wv)
 hO:SlAt w 1 eN (some ⟨b.go,0,none⟩) o
theorem BsAt.l8{b:BA}{a:SeA}{d:DW}{f:Q}{n:Nat}{wv:Nat→Nat}{o:List Nat}{w w':World}(h:BsAt b a d f n wv o w)(hk:KeepsC w w'):BsAt b a d f n wv o w':=
 ⟨h.hs.l8 hk,hk _ _ h.hk,hk _ _ h.hf,hk _ _ h.hb,hk _ _ h.hw,hk _ _ h.ho,hk.o6 h.hW,hk.o6 h.hO⟩
attribute [local irreducible] PV StepF wpl wpd WP Ret
attribute [local irreducible] Fit
set_option maxRecDepth 20000 in
set_option maxHeartbeats 4000000 in
theorem zAp(b:BA)(a:SeA)(d:DW)(f:Q)(n K:Nat)(wv:Nat→Nat)(o:List Nat)(hS:o.length=f.N)(hF:∀x∈o,x<n)(hw:∀i,i<n→wv i≤2^K)(hK:K≤1000000000000-10):∀(m:Nat) (s:St) (g:K14→Option Value) (W:World),f.N-s.next=m→SI f s→BsAt b a d f n wv o W→RightB f (fun i=>wv (o.getD i 0)) g→Hp W [b.mp] W [zV kSt b.mp g]→
  Rt 240 [.agg (i8L (stZ s)).toArray,.pointer (some ⟨b.kb,0,none⟩),.pointer (some ⟨b.fb,0,none⟩),.pointer (some ⟨b.bb,0,none⟩),.pointer (some ⟨b.wb,0,none⟩),.pointer (some ⟨b.ob,0,none⟩)] W (fun v w'=>v=aV (Bst f (fun i=>wv (o.getD i 0)) s)∧∃g',RightB f (fun i=>wv (o.getD i 0)) g'∧Hp W [b.mp] w' [zV kSt b.mp g']):=by
 intro m;induction m using Nat.strongRecOn with
 |_ m ih=>
 intro s g W hm hI hB hg hp;have h14:(i8L (stZ s)).length=14:=by rw[vC];simp[stZ,hI.c]
 have hN:=hB.hs.lN;have h6:∀i,i<_→∃x,_=_∧o.getD i 0=x∧x<n:=fun i hi=>⟨_,aA hi,by grind,hF _ (bX hi)⟩
 have hM:∀t,(Bst f (fun i=>wv (o.getD i 0)) t).1<2^(K+7):=fun t=>by
  have h1:=qZu (f:=f) (fun i hi=>by
   obtain⟨x,_,e,hx⟩:=h6 i O1;show wv (o.getD i 0)≤_
   rw[e]
   exact hw x hx) _ t O
  have h2:(f.N-t.next)*2^K≤40*2^K:=aL _ O1;have h3:=nR K;rw[dW];show(f.best _ _ _).1<_
  omega
 have je:∀i,i<n→_<2^(K+1):=fun i hi=>bY (hw i hi) (iD O2 O1)
 have mT:Tryz.prog.underlying 314=some (.map 293 317):=O3;have hq:∀{w':World} {L:List _},Hp W _ w' L→KeepsC W w':=fun h=>KeepsC.of h.keeps (qFf hp 0 O)
 refine Ret.j9 func240 O ntmps240 O (qR ?_);refine tF (kW (cs:=i8L _) hp O O h14) fun w1 b6 hp=>tQ fun w2 b7 hp=>?_;have hp:Hp W _ w2 [blk b7 3 (qE (eA (0,false,false))) 317,blk b6 14 _ 293,_]:=hp;refine tI (fun h=>?_) fun h=>?_
 ·have h0:s.left=0:=O1;refine tT fun w3 hp=>?_;refine qA ?_;exact zJ O O O O (hp.j4 0 O O) ⟨_,O,by rw[jIe h0];rfl,g,hg,hp.H.H⟩
 have h0:0<s.left:=O1;have hl:=hI.ok.lt h0;have h7:∀k,s.cs.getD k 0≤39:=fun k=>by have:=hI.b k;omega
 have hL:=hq hp;have ci:=hL _ _ hB.hk;refine qR (wlp (qS O O ci) (O:_=Value.map (some b.mp)) ?_);refine wlp (qL O O O h14 (hp.j3 1 O h14)) O (wlp (qH0 hp 2 O O O mT (qJ O)) (O:_=Value.tuple #[(g (stK s hI.c)).getD (aV (0,false,false)),_]) ?_);cases hgs:g (stK s hI.c) with
 |some v=>
  obtain rfl:=hg s hI.c v hI hgs;refine qA ?_;refine tQ fun w3 b8 hp=>?_;refine tS fun w4 hp=>?_;refine qA (jB O ?_);refine tT fun w5 hp=>?_;refine qA ?_;exact zJ O O O O (hp.j4 1 O O) ⟨_,O,O,g,hg,hp.H.H.H⟩
 |none=>
  refine qA ?_;refine tQ fun w3 b8 hp=>?_;refine tS fun w4 hp=>?_;have hp:=hp.norm 0 (eA _) O O;refine gA3 ?_;refine tQ fun w5 ba hp=>?_;have hp:Hp W _ w5 [blk _ 3 (qE (eA (0,false,false))) 317,blk b8 3 _ 317,_,_,_]:=hp;have hp:=hp.k5 [0,2,3,4] [_,_,_,_] O2 O;have hD:=hq hp;have ca:=hD _ _ hB.hf;refine qR (wlp (qS O O ca) (O:_=Value.pointer (some ⟨a.sb,0,none⟩)) ?_);refine wlp (qL O O O h14 (hp.j3 2 O h14)) O (tK (jAr a d f s _ _ (hB.hs.l8 hD) hI.aA8 h7 hl h0) ?_);rintro v w6 ⟨hv,bu⟩;have hp:=hp.call bu;obtain⟨l,zh,rfl,oy⟩:=qHa hv (fun t ht=>(hI.k9 hN h0 ht).1.c);have hh:(i8L l).length=14:=by rw[vC];exact zh
  refine qA (tF (zE (cs:=i8L (replicate 14 0)) (m:=14) hp (qJ O) O O) fun w7 be hp=>?_);refine tO (zH (cs:=i8L l) hp 0 O O O O (by rw[hh];exact qD O) (by rw[hh];rfl) (vY _)) fun w8 hp=>?_;have hp:=hp.norm 0 _ O (yJ _ _ hh);have hp:Hp W _ w8 [blk _ 14 _ 293,_,_,_,_]:=hp;refine qA (qAy (fun F' w'=>∃g',RightB f (fun i=>wv (o.getD i 0)) g'∧qAb F' [(1,.pointer (some ⟨b.kb,0,none⟩)),(2,.pointer (some ⟨b.fb,0,none⟩)),(3,.pointer (some ⟨b.bb,0,none⟩)),(4,.pointer (some ⟨b.wb,0,none⟩)),(5,.pointer (some ⟨b.ob,0,none⟩)),(6,.pointer (Ad b6)),(7,.pointer (Ad b7)),(10,.pointer (Ad ba))]∧
   Hp W [b.mp] w' [blk ba 3 (qE (eA (qGu f (fun i=>wv (o.getD i 0)) s))) 317,blk b7 3 (qE (eA (0,false,false))) 317,blk b6 14 (qE (i8L (stZ s))) 293,zV kSt b.mp g']) ?_ ?_)
  ·cases ho:f.k9 s false with
   |none=>
    have e:qGu f (fun i=>wv (o.getD i 0)) s=(0,false,false):=by
     unfold qGu;rw[ho]
    refine tJ ?_;rw[e];exact⟨g,hg,⟨O,O,O,O,O,O,O,O,trivial⟩,hp.H⟩
   |some t=>
    obtain⟨h4,hz⟩:=hI.k9 hN h0 ho;obtain rfl:=oy t ho;have e:qGu f (fun i=>wv (o.getD i 0)) s=((Bst f (fun i=>wv (o.getD i 0)) t).1,false,(Bst f (fun i=>wv (o.getD i 0)) t).2.2):=by
     unfold qGu;rw[ho]
    refine jB O ?_;have hE:=hq hp;have ce:=hE _ _ hB.hb;refine qR (wlp (qS O O ce) O ?_);refine wlp (qL O O O hh (hp.j3 0 O hh)) O ?_;have hj:=Hp.l5 (A:=[_,_,_,_]) hp;refine tK (ih _ O1 t g _ O h4 (hB.l8 hE) hg hj) ?_;rintro _ w9 ⟨rfl,g2,zt,lj⟩;have hp:=Hp.back (A:=[_,_,_,_]) hp lj;refine tQ fun ur bf hp=>?_;refine tS fun gg hp=>?_;refine tT fun gh hp=>?_;have hp:=hp.k5 [2,3,4,5] [_,_,_,_] O2 O;refine qA ?_;rw[e];exact⟨g2,zt,⟨O,O,O,O,O,O,O,O,trivial⟩,hp⟩
  clear hp hD ca;rintro F' w' ⟨g3,hZ,xu,hp⟩;refine yL _ xu fun F0=>?_
  clear xu hg hgs;obtain⟨al,oq⟩:∃al,al=qGu f (fun i=>wv (o.getD i 0)) s:=⟨_,O⟩;have xy:=qUw (w:=fun i=>wv (o.getD i 0)) hI.ok h0;have hP:al.1<2^(K+7):=by
   rw[oq];unfold qGu;split
   ·grind
   exact nR _
  rw[←oq] at hp xy;have hD:=hq hp;have ca:=hD _ _ hB.hf;refine qR (wlp (qS O O ca) (O:_=Value.pointer (some ⟨a.sb,0,none⟩)) ?_);refine wlp (qL O O O h14 (hp.j3 2 O h14)) O (tK (jAr a d f s _ _ (hB.hs.l8 hD) hI.aA8 h7 hl h0) ?_);rintro v w6 ⟨hv,bu⟩;have hp:=hp.call bu;obtain⟨l,zh,rfl,oy⟩:=qHa hv (fun t ht=>(hI.k9 hN h0 ht).1.c);have hh:(i8L l).length=14:=by rw[vC];exact zh
  refine qA (tF (zE (cs:=i8L (replicate 14 0)) (m:=14) hp (qJ O) O O) fun w7 bc hp=>?_);refine tO (zH (cs:=i8L l) hp 0 O O O O (by rw[hh];exact qD O) (by rw[hh];rfl) (vY _)) fun w8 hp=>?_;have hp:=hp.norm 0 _ O (yJ _ _ hh);have hp:Hp W _ w8 [blk _ 14 _ 293,_,_,_,_]:=hp;refine qA (qAy (fun F' w'=>∃g',RightB f (fun i=>wv (o.getD i 0)) g'∧qAb F' [(1,.pointer (some ⟨b.kb,0,none⟩)),(6,.pointer (Ad b6)),(7,.pointer (Ad b7)),(10,.pointer (Ad ba))]∧
   Hp W [b.mp] w' [blk ba 3 (qE (eA (Bst f (fun i=>wv (o.getD i 0)) s))) 317,blk b7 3 (qE (eA (0,false,false))) 317,blk b6 14 (qE (i8L (stZ s))) 293,zV kSt b.mp g']) ?_ ?_)
  ·cases ho:f.k9 s true with
   |none=>
    rw[ho] at xy;refine tJ ?_;rw[xy];exact⟨g3,hZ,⟨O,O,O,O,trivial⟩,hp.H⟩
   |some t=>
    obtain⟨h4,hz⟩:=hI.k9 hN h0 ho;obtain rfl:=oy t ho;rw[ho] at xy;simp only[] at xy;refine jB O ?_;have hE:=hq hp;have ce:=hE _ _ hB.hb;refine qR (wlp (qS O O ce) O ?_);refine wlp (qL O O O hh (hp.j3 0 O hh)) O ?_;have hj:=Hp.l5 (A:=[_,_,_,_]) hp;refine tK (ih _ O1 t g3 _ O h4 (hB.l8 hE) hZ hj) ?_;rintro _ w9 ⟨rfl,g2,zt,lj⟩;have hp:=Hp.back (A:=[_,_,_,_]) hp lj;have hy:=hM t;generalize Bst f _ t=r at xy hy;refine tQ fun ur bg hp=>?_;refine tS fun gg hp=>?_;have hp:=hp.norm 0 (eA r) O O;have hp:Hp W _ _ [blk _ 3 _ 317,_,_,_,_,_]:=hp;obtain⟨x,hn,en,h5⟩:=h6 s.next O1;have cO:∀{w':World} {L:List _},Hp W _ w' L→w'.cell? ⟨_,0+_,_⟩=_:=fun h=>by
     obtain⟨b',o',e,hc⟩:=(hq h).o6 hB.hO _ x hn;cases e;exact hc 0 _ O
    have cW:∀{w':World} {L:List _},Hp W _ w' L→w'.cell? ⟨_,0+x*1,_⟩=_:=fun h=>zM ((hq h).o6 hB.hW) h5 0 _ O
    have e8:s.next<o.length:=O1;have hJ:wv (o.getD s.next 0)=wv x:=by rw[en]
    simp only[hJ] at xy;have hH:=Fit.of (qE6 O1 (cJ (je x h5) (aR O2 O1))) O1;refine tY fun hp=>?_;refine qX (wdp O (fun w hp=>qS O O ((hq hp) _ _ hB.hw)) O ?_);refine wdp O (fun w hp=>qS O O ((hq hp) _ _ hB.ho)) O (qX ?_);refine wdp O (fun w hp=>qS O O (cO hp)) O (qX ?_);refine wdp O (fun w hp=>qS O O (cW hp)) O (tG (c17 _ _ _ (Fit.of hy O1) (Fit.of (je x h5) O1)) fun gh hp=>?_);refine qX (qU ?_);refine qR ?_;cases hrk:r.2.2 with
    |false=>
     rw[hrk] at xy;have cf:gh.cell? ⟨bg,0+2,none⟩=some (.bool false):=by
      rw[←hrk];exact hp.cell 0 O O
     refine gAa ?_;exact mBi
    |true=>
     rw[hrk] at xy;simp only[Bool.true_and] at xy;have cf:gh.cell? ⟨bg,0+2,none⟩=some (.bool true):=by
      rw[←hrk];exact hp.cell 0 O O
     refine wlp (xF O O) (O:_=Value.pointer (some ⟨_,0+2,_⟩)) (tR (qS O O cf) ?_);cases hak:al.2.2 with
     |false=>
      rw[hak] at xy;have cg:gh.cell? ⟨ba,0+2,none⟩=some (.bool false):=by
       rw[←hak];exact hp.cell 2 O O
      refine jL (jB O ?_);refine tT fun gm hp=>?_;refine qA ?_;exact mBi
     |true=>
      rw[hak] at xy;simp only[Bool.not_true,oZ] at xy;have cg:gh.cell? ⟨ba,0+2,none⟩=some (.bool true):=by
       rw[←hak];exact hp.cell 2 O O
      refine tE (c47 _ _ _ hH (Fit.of hP O1)) fun gm hp=>?_;by_cases bA:al.1<r.1+wv x
      ·rw[if_pos (aD bA)] at xy;rw[if_neg O1,if_neg O1];refine jL (jB O ?_);refine tT fun gj hp=>?_;refine qA ?_;exact mBi
      rw[if_neg (by grind)] at xy;have d1:decide ((if r.1+wv x<al.1 then(-1) else if r.1+wv x=al.1 then 0 else 1)>0)=false:=by
       refine aB ?_;split
       ·decide
       rw[if_pos O1];decide
      refine jL ?_;rw[d1];refine tJ ?_;exact mBi
  rintro F' w' ⟨g4,hQ,xu,hp⟩;refine yL _ xu fun F0=>?_
  have h9:=hQ.put hI.c;have h8:=hq hp;have cc:=h8 _ _ hB.hk;refine qR (wlp (qS O O cc) O ?_);refine wlp (qL O O O h14 (hp.j3 2 O h14)) O (qA ?_);refine tO (qLc (a:=stK s hI.c) hp 3 O O O O mT) fun w4 hp=>tT fun w5 hp=>?_;refine qA ?_;exact zJ O O O O (hp.j4 1 O O) ⟨_,O,O,_,h9,hp.H.H.H⟩
end Go.Proofs.YtplkndjlfkkjlaaGreatDoor
namespace Go.Eng
open List (range range' replicate)
section
variable {P:Program}{n:FrK}{w:World}{F:Fr}{d:Option Tmp}{ty:TypeId}{pos:String}{aft:Array Edge}{g:Option (Nat×Bool)}{x:Operand}
theorem qOh{s:TypeId}{fs:Array Field}{f:Field}{i:Nat}{vs:Array Value}{v:Value}(hs:P.underlying s=some (.struct fs))(hf:fs[i]? =some f)(hx:ev n F x= .agg vs)(hp:∀w,(part f.type vs f.offset).run P w= .ok v w):
  PV P n w F ⟨d,.field s x i,ty,pos,aft,g⟩ v:=by
 simp[PV,execOp,Instr.field,hx,jQ hs,hf,asAgg,hp]
end
end Go.Eng
namespace Go.Qu
open List (range range' replicate)
open Go.Lp
theorem qXz(y:Nat→Rat)(x:Nat):∀A:List Nat,ps y (A++[x])=ps y A+y x
 |[]=>by simp[lT,ps];grind
 |a::A=>by
  show y a+ps y (A++[x])=y a+ps y A+y x
  rw[qXz];grind
theorem qY0{y:Nat→Rat}{κ n:Nat}(h:∀i,i<n→BQ κ (y i)):∀(A:List Nat),(∀i∈A,i<n)→BQ (1+A.length*(κ+1)) (ps y A)
 |[],_=>BQ.zero O4
 |a::A,hA=>by
  refine((h a (hA a O4)).add (qY0 h A fun i hi=>hA i (by simp[hi]))).mono ?_;rw[bT,lO];omega
end Go.Qu
namespace Go.Proofs.YtplkndjlfkkjlaaGreatDoor
open List (range range' replicate)
open Tryz
section
open Go.Eng Go.Dig Go.Lp Go.Qu
variable{w:Nat→Nat}{s:St}
def Wy(f:Q)(w:Nat→Nat)(s:St):List Nat:=f.o7 w (f.N-s.next) s
theorem jLv{f:Q}(h0:s.left=0):Wy f w s=[]:=by
 unfold Wy;cases f.N-s.next with
 |zero=>rfl
 |succ d=>rw[Q.o7,if_pos h0]
theorem jLw{f:Q}(h:f.Ok s)(h0:0<s.left)(hn:(Bst f w s).2.2=true):∃t,f.k9 s (Bst f w s).2.1=some t∧(Bst f w t).2.2=true∧Wy f w s=if(Bst f w s).2.1 then s.next::Wy f w t else Wy f w t:=by
 have hl:=h.lt h0;obtain⟨d,hd⟩:∃d,f.N-s.next=d+1:=⟨f.N-s.next-1,O1⟩;have hN:∀b t,f.k9 s b=some t→f.N-t.next=d:=fun b t ht=>by
  rw[(wW h h0 ht).2.1];omega
 have hw:∀t,f.k9 s (Bst f w s).2.1=some t→Wy f w s=if(Bst f w s).2.1 then s.next::Wy f w t else Wy f w t:=fun t ht=>by
  unfold Wy;rw[hN _ _ ht];unfold Bst at ht⊢;rw[hd] at ht⊢;simp[Q.o7,if_neg (show¬s.left=0 by omega),ht]
 have xy:=qUw (w:=w) h h0;have hA:(qGu f w s).2.1=false∧((qGu f w s).2.2=true→∃t,f.k9 s false=some t∧(Bst f w t).2.2=true):=by
  unfold qGu;cases hf:f.k9 s false with
  |none=>simp
  |some t=>simp
 grind
def FsP(d:DW)(l:List EW)(P:List Nat):Prop:=PF l.length (d.Q.map (·.2)) (fun i k=>inB d (l.getD i default) k) d.sz.toNat P
def gW:Value→Prop
 | .slice _ _ _=>True
 | .pointer _=>True
 | .func _ _ _=>True
 | .map _=>True
 | .int .i64 _=>True
 |_=>False
theorem qE0{α:Type}{w w':World}{M:List Nat}{k:Nat}{enc:α→List Value}{s:Option Addr}{l:List α}(h:SlAt w k enc s l)(hk:Keeps M w w')(hg:∀(x:Addr) (v:Value),gW v→w.cell? x=some v→x.block∉M)(he:∀x,∀v∈enc x,gW v):SlAt w' k enc s l:=fun i x hx=>by
 obtain⟨b,o,e,hc⟩:=h i x hx;exact⟨b,o,e,fun j v hv=>hk.cell (hc j v hv) (hg _ v (he x v (aI hv)) (hc j v hv))⟩
theorem BsAt.y3{b:BA}{a:SeA}{d:DW}{f:Q}{n:Nat}{wv:Nat→Nat}{o:List Nat}{w w':World}{M:List Nat}(h:BsAt b a d f n wv o w)(hk:Keeps M w w')(hq:SlAt w' 3 eQu d.sQ d.Q)(hI:∀i,i<f.N→d.Q.length≠0→a.gi i∉M)(hh:b.gw∉M)
  (hg:∀(x:Addr) (v:Value),gW v→w.cell? x=some v→x.block∉M):BsAt b a d f n wv o w':=by
 have hc:∀{x:Addr} {v:Value},gW v→w.cell? x=_→_=_:=fun h1 h2=>hk.cell h2 (hg _ _ h1 h2)
 exact⟨⟨hc trivial h.hs.h0,hc trivial h.hs.h1,hc trivial h.hs.h2,hq,qE0 h.hs.hI hk hg (by intro x v hv;simp[jO] at hv;subst hv;trivial),fun i hi=>(h.hs.rI i hi).j5 hk (fun xr b o e=>by cases e;exact hI i hi (fun e0=>xr (by rw[e0];rfl))),qE0 h.hs.hR hk hg (by intro x v hv;simp[jO] at hv;subst hv;trivial),
  fun i hi=>qE0 (h.hs.rR i hi) hk hg (by intro x v hv;simp[eI] at hv;subst hv;trivial),h.hs.fq,h.hs.lq,h.hs.lN⟩,
  hc trivial h.hk,hc trivial h.hf,hc trivial h.hb,hc trivial h.hw,hc trivial h.ho,SlAt.y3 h.hW hk hh,qE0 h.hO hk hg (by intro x v hv;simp[eN] at hv;subst hv;trivial)⟩
attribute [local irreducible] PV StepF wpl wpd WP Ret
attribute [local irreducible] Fit
set_option maxRecDepth 20000 in
set_option maxHeartbeats 8000000 in
theorem jVu(d:DW)(s sp:Option Addr)(c cp κ:Nat)(l:List EW)(y:Nat→Rat)(W:World)(hD:DE d s l W)(oi:d.kd=3)(zv:0<d.sz)(xv:l.length≤12)(hs:SlAt W 3 eQ sp (lm l.length y))(hb:∀i,i<l.length→BQ κ (y i))(hK:1≤κ)(hκ:(κ+κ+1)*(l.length+2)+l.length+20≤1000000000000):
  Rt 167 [d.v,.slice s l.length c,.slice sp l.length cp] W (fun v w'=>
   (∃sP cP P,v= .tuple #[.slice sP P.length cP,QV (ps y P),.bool true]∧FsP d l P∧(∀P',FsP d l P'→ps y P'≤ps y P)∧SVL sP cP P∧Hp W [] w' [qG eN 3 1 sP cP P])∨
   (v= .tuple #[Zs,.agg eQ0.toArray,.bool false]∧(∀P,¬FsP d l P)∧Keeps [] W w')):=by
 have hL:=hD.lq;have yw:=hD.le;have hz:0≤d.sz:=O1;refine tW func167 ntmps167 fun hp=>?_;refine qR ?_;refine tQ fun w1 bd hp=>?_;have hp:=hp.norm 0 d.L O O;refine qR ?_;refine wlp qY (O:_=Value.slice _ 0 0) (tQ fun w2 b7 hp=>?_);have hp:Hp W [] w2 [blk b7 3 (qE eQ0) 49,blk bd 13 _ 28]:=hp;refine qR ?_;refine tR qY (qR ?_);refine wlp (qL O O O O (hp.j3 1 O O)) (O:_=d.v) (wlp qP (O:_=Value.slice s _ c) ?_);refine tC (jOf d s _ c _ hL yw) fun w3 hp=>?_;rw[aD oi];have d1:(!decide (l.length=(l.length:Int)))=false:=O4;refine jL ?_;rw[d1];refine jL (qN O ?_);refine qR (wlp (qL O O O O (hp.j3 1 O O)) (O:_=d.v) ?_);refine wlp qP (O:_=Value.slice s _ c) (tK (zAr d s c l _ (hD.j5 hp.C) O1) ?_);rintro _ w4 ⟨bo,o,rfl,yn,ya,xu,hY,hpo⟩;have hp:=hp.join hpo;clear hpo;refine tQ fun w5 b9 hp=>?_;refine tS fun w6 hp=>?_;have hp:=hp.norm 0 [.slice _ _ _] O O;have hp:Hp W [] w6 [blk b9 1 _ 22,_,_,_]:=hp;refine qR (wlp (qL O O O O (hp.j3 3 O O)) (O:_=d.v) ?_);refine wlp qP (O:_=Value.slice s _ c) (wlp (qS O O (hp.cell 0 O O)) (O:_=Value.slice _ _ _) ?_);refine tK (qEl d s _ c _ l o _ (hD.j5 hp.C) (qZ hp 1 O hY (fun _=>O)) ya xu hz) ?_;rintro _ w7 ⟨a,pa,la,ot,rfl,hH,x4,ew⟩;have ew:=fun i hi=>cJ (hp.aC8 _ (aI (i:=2) O) b7 O) (ew i hi);have x2:=hp.call x4;clear hp;have h9:(i8L la).length=14:=by rw[vC];exact hH.len
 have c9:w7.cell? ⟨b9,0,_⟩=some (.slice _ _ o.length):=x2.cell 0 O O;have cO:=qZ x2 1 O hY (fun _=>O);have hp:=Hp.start (M:=[]) (w:=w7);refine qA ?_;refine tQ fun w8 ba hp=>tF (zE (cs:=i8L (replicate 14 0)) (m:=14) hp (qJ O) O O) fun w9 be hp=>?_;have hp:Hp w7 [] w9 [blk _ 14 _ 293,blk _ 1 _ 289]:=hp;refine tS fun ur hp=>?_;have hp:=hp.norm 1 [.pointer pa] O O;refine tO (zH (cs:=i8L _) hp 0 O O O O (by rw[h9];exact qD O) (by rw[h9];rfl) (vY _)) fun gg hp=>?_;have hp:=hp.norm 0 _ O (yJ _ _ h9);have hp:Hp w7 [] _ [_,_]:=hp;refine qA ?_;have hF:∀P,FsP d l P↔PF o.length _ _ _ P:=fun P=>by rw[ya];rfl
 have xl:∀i j,i<_→j<_→o.getD i 0=o.getD j 0→i=j:=fun i j hi hj e=>by
  have hn:=yn.nodup_iff.2 sBe;rw[aC,aC,aA hi,aA hj] at e;exact(oU hn).1 e
 have ht:∀i,i<_→o.getD i 0<o.length:=fun i hi=>by
  rw[aC,aA hi,ya];exact xu _ (bX hi)
 have x1:∀i,i<o.length→∃j,j<o.length∧o.getD j 0=i:=fun i hi=>by
  have:i∈o:=yn.mem_iff.2 (aO.2 O1);obtain⟨j,hj,e⟩:=sAa this;exact⟨j,hj,by rw[aC,aA hj];exact e⟩
 have zm:(d.Q.map (·.2)).length≤12:=by rw[aM];exact hL
 cases hot:ot with
 |none=>
  subst hot;have j0:∀P,¬FsP d l P:=fun P hP=>by
   obtain⟨T,hT,_⟩:=((hF P).1 hP).o7 xl x1;exact hH.no O T ((qHn (inn:=fun i k=>inB d (l.getD i _) k) T).2 hT)
  refine jB O ?_;have hQ:=x2.join hp;refine qA (tO (qW hQ 4 O O O O (qD O) O) fun gh hQ=>?_);refine qA ?_;exact⟨_,qA0 O O O O O O O (hQ.j3 4 O O),⟨_,O,.inr ⟨O,j0,hQ.C⟩⟩⟩
 |some t0=>
  subst hot;obtain⟨rfl,rfl,zf,hS⟩:=hH.yes t0 O
  obtain⟨yg,vc⟩:=jCv hL O1 (by
   refine bG fun hn=>?_
   have:(qOf d l o).tidy (st0 d)=none:=by
    unfold Q.tidy;rw[if_pos];show d.sz.toNat>o.length-0
    omega
   grind) zf
  have hN:(qOf d l o).N=o.length:=O;have u4:_=0:=(wJ (by show(d.Q.map _).length≤12;omega) zf).1;have vm:_=d.sz.toNat:=(wJ (by show(d.Q.map _).length≤12;omega) zf).2.1;refine tJ ?_;refine tK (zAq _ y sp cp κ _ ((hs.j6 x2.C).j6 hp.C) hb hK O1 hκ) ?_;rintro _ gh ⟨gw,rfl,zg,hpo⟩;have hp:=hp.join hpo;clear hpo;refine tQ fun gm bc hp=>?_;refine tS fun gj hp=>?_;have hp:=hp.norm 0 [.slice _ _ _] O O;refine qR (tF (qJs kSt hp) fun gn mp hp=>?_);refine tQ fun hJ kb hp=>?_;refine tS fun hU hp=>?_;have hp:=hp.norm 0 [.map _] O O;refine qR ?_;refine tQ fun hV bg hp=>?_;refine qR (wlp kY (O:_=Value.func (.func 240) #[] #[.pointer _,.pointer _,.pointer _,.pointer _,.pointer _]) ?_);refine tS fun xb hp=>?_;obtain⟨B,hB⟩:∃B:BA,B=⟨kb,ba,bg,bc,b9,mp,gw,l.length,bo,o.length⟩:=⟨_,O⟩;have oC:B.fn= .func (.func 240) #[] #[.pointer (Ad kb),.pointer (Ad ba),.pointer (Ad bg),.pointer (Ad bc),.pointer (Ad b9)]:=by rw[hB];rfl
  have hp:=hp.norm 0 [B.fn] O (by rw[oC];rfl);have hp:Hp w7 [] _ ([blk _ 1 _ 315,blk kb 1 _ 314,blk _ 1 _ 36,_,_,_]++[_]):=hp.k5 [0,1,3,4,5,6,2] _ O2 O;have zd:=(hp.own 4 _ O _ O).resolve_right O4;have zr:=(hp.own 6 _ O mp O).resolve_right O4;have oj:∀i,i<o.length→d.Q.length≠0→_<_:=fun i hi xr=>(hS.rI i hi).lt (fun _=>O) O2 (fun e=>xr (by have:=aQ List.length e;rwa[qT] at this)) O
  have xz:BsAt B a d (qOf d l o) l.length (qB4 y l.length) o xb:=by
   rw[hB];refine⟨hS.j5 hp.C,hp.cell 1 O O,hp.cell 5 O O,?_,hp.cell 2 O O,hp.j7 c9,qZ hp 3 O zg (fun _=>O),cO.j6 hp.C⟩;exact(hp.cell (o:=0) 0 O O).trans (aQ some oC)
  have yu:B.mp=mp:=by rw[hB]
  have xt:∀(t:St) (g:K14→Option Value) (Wc:World),SI (qOf d l o) t→BsAt B a d (qOf d l o) l.length (qB4 y l.length) o Wc→RightB (qOf d l o) (fun i=>qB4 y l.length (o.getD i 0)) g→Hp Wc [mp] Wc [zV kSt mp g]→
    Rt 240 ([.agg (i8L (stZ t)).toArray]++[.pointer (Ad kb),.pointer (Ad ba),.pointer (Ad bg),.pointer (Ad bc),.pointer (Ad b9)]) Wc (fun v w'=>v=aV (Bst (qOf d l o) (fun i=>qB4 y l.length (o.getD i 0)) t)∧∃g',RightB (qOf d l o) (fun i=>qB4 y l.length (o.getD i 0)) g'∧Hp Wc [mp] w' [zV kSt mp g']):=fun t g Wc h1 h2 h3 h4=>by
   have xe:=fun i hi=>(hb i hi).sub (qR3 hb hK _ (bM _))
   have yf:=hκ;rw[iC] at yf;have x0:∀i,i<l.length→qB4 y l.length i≤2^(((κ+κ+1)*l.length+1+(κ+κ+1))+(l.length+1)+1):=fun i hi=>by
    refine oN (qE6 (yD (qQz xe hi) (iD O2 O1)) (iD O2 O1))
   have:=zAp B a d _ _ _ _ o O xu x0 O1 _ t g Wc O h1 h2 h3 (by grind);rw[yu] at this;grind
  refine qR ?_;refine wlp (qS O O (hp.cell 0 O O)) oC ?_;refine wlp (qL O O O h9 (hp.j3 4 O h9)) (O:_=Value.agg (i8L (stZ t0)).toArray) ?_;have hE:=Hp.l5 hp;refine tK (xt t0 _ _ yg xz (fun _ _ _ _ e=>by cases e) hE) ?_;rintro _ xk ⟨rfl,g0,ux,lj⟩;have xz:=xz.l8 (KeepsC.of lj.C (qFf hp 6 O));have hp:=Hp.back hp lj;clear lj hE;have hQ:=x2.join hp;clear hp
  have hQ:Hp W [] _ [_,_,_,_,_,_,_,
   _,_,_,_]:=hQ
  obtain⟨f,hf⟩:∃f,f=qOf d l o:=⟨_,O⟩;obtain⟨wv,xx⟩:∃wv:Nat→Nat,wv=fun i=>qB4 y l.length (o.getD i 0):=⟨_,O⟩
  have z1:f.N=o.length:=by rw[hf];rfl
  rw[←hf,←xx] at ux xt;rw[←hf] at xz yg vc zf;rw[←hf,←xx];cases hok0:(Bst f wv t0).2.2 with
  |false=>
   have j0:∀P,¬FsP d l P:=fun P hP=>by
    obtain⟨T,hT,_⟩:=((hF P).1 hP).o7 xl x1;have h1:f.Cmp (st0 d) T:=by
     rw[hf];exact(qHn (n:=o.length) (q:=(qOf d l o).q) (inn:=fun i k=>inB d (l.getD i default) k) (ord:=fun i=>o.getD i 0) (size:=d.sz.toNat) (m:=12) T).2 hT
    exact(qIu wv _ t0 yg.ok O).no hok0 T ((vc T).2 h1)
   refine wlp (qOh Tryz.underlying317 O O (fun w=>O3)) (aQ Value.bool hok0) (qA ?_);refine jB O (qA ?_);refine tO (qW hQ 9 O O O O (qD O) O) fun xc hQ=>?_;refine qA ?_;exact⟨_,qA0 (vs:=eQ0) O O O O O O O (hQ.j3 9 O O),⟨_,O,.inr ⟨O,j0,hQ.C⟩⟩⟩
  |true=>
   refine wlp (qOh Tryz.underlying317 O O (fun w=>O3)) (aQ Value.bool hok0) (qA ?_);refine tJ ?_;refine tK (wM _) ?_;rintro _ xc ⟨rfl,yx⟩;have xz:=xz.l8 (fun _ _ h=>yx.cell h O4);have hQ:=hQ.call yx;have zj:gw≠b7:=hQ.y4 (i:=3) (j:=9) O O O2;have zc:gw≠be:=hQ.y4 (i:=3) (j:=4) O O O2;have zl:gw≠mp:=hQ.y4 (i:=3) (j:=6) O O O2;have zq:=hQ.y4 (i:=9) (j:=6) O O O2;have yj:∀(x:Addr) (v:Value),gW v→xc.cell? x=some v→x.block∉[be,b7,mp]:=fun x v hv hx hm=>by
    simp[bE,mE,sAt] at hm;rcases hm with e|e|e
    ·obtain⟨j,hj,rfl⟩:=qCk hQ 4 O hx e;rw[jF9 (by have:=h9;rw[vC] at this;omega)] at hv;exact hv
    ·obtain⟨j,hj,rfl⟩:=qCk hQ 9 O hx e;rcases(show j=0∨j=1∨j=2 by omega) with rfl|rfl|rfl<;>exact hv
    exact qFf hQ 6 O x v hx e
   have zo:∀i,i<f.N→d.Q.length≠0→a.gi i∉[be,b7,mp]:=fun i hi xr hm=>by
    have h7:=ew i O1;have h8:=oj i O1 xr;simp[bE,mE,sAt] at hm;omega
   have xo:=hQ.k4 eN 3 1;have xo:Hp W [] _ [_,_,_,_]:=xo.k5 [0,5,10,7] _ O2 O;have hp:=Hp.l5 (A:=[]) xo;have hM:zG [qG eN 3 1 none 0 [],blk be 14 (qE (i8L (stZ t0))) 293,blk b7 3 (qE eQ0) 49,zV kSt mp g0]=[be,b7,mp]:=O;rw[hM] at hp;have yo:∀{w':World} {L:List Ent},Hp xc [be,b7,mp] w' L→BsAt B a d f l.length (qB4 y l.length) o w':=fun{w' L} h=>by
    refine xz.y3 h.keeps ?_ zo (by rw[hB];simp[zc,zj,zl]) yj;have hb:=Hp.back (A:=[]) (B':=[]) xo (by exact h.sub (List.nil_sublist _));exact hD.q.j6 hb.keeps
   clear hQ xz yj;refine tS fun yp hp=>?_;have hp:=hp.norm 2 (eQ (ps y [])) O O;have hp:Hp _ _ _ [_,_,_,_]:=hp;have oa:∀{w':World} {L:List Ent},Hp xc [be,b7,mp] w' L→SlAt w' 3 eQ sp (lm l.length y):=fun h=>by
    have hb:=Hp.back (A:=[]) (B':=[]) xo (by exact h.sub (List.nil_sublist _));exact hs.j6 hb.keeps
   obtain⟨Z0,za⟩:∃Z0,Z0=Wy f wv t0:=⟨_,O⟩;have zp:d.sz.toNat≤o.length:=by
    have:=yg.ok.td.left;omega
   refine qA (qQ ([6,15]++range' 53 34) (fun z F=>F.put 6 (.slice z.2.2.1 (z.2.1.map fun i=>o.getD i 0).length z.2.2.2))
    (fun z w'=>SI f z.1∧(Bst f wv z.1).2.2=true∧Z0=z.2.1++Wy f wv z.1∧z.2.1.length+z.1.left≤o.length∧(∀i∈z.2.1,i<o.length)∧SVL z.2.2.1 z.2.2.2 (z.2.1.map fun i=>o.getD i 0)∧∃g,RightB f wv g∧Hp xc [be,b7,mp] w' [qG eN 3 1 z.2.2.1 z.2.2.2 (z.2.1.map fun i=>o.getD i 0),blk be 14 (qE (i8L (stZ z.1))) 293,blk b7 3 (qE (eQ (ps y (z.2.1.map fun i=>o.getD i 0)))) 49,zV kSt mp g])
    (fun z=>f.N-z.1.next) (t0,[],none,0) (qB (Same.eq .refl) O) ⟨yg,hok0,by grind,by grind,O4,SVL.nil,g0,ux,hp⟩ ?_)
   clear hp;rintro u ⟨t,A,sA,cA⟩ yi ⟨hI,h6,hZ,yd,yq,xi,g,hg,hp⟩;have h9:(i8L (stZ t)).length=14:=by rw[vC];simp[stZ,hI.c]
   have hp:Hp xc [be,b7,mp] yi ([qG eN 3 1 sA cA (A.map _),blk be 14 (qE (i8L (stZ t))) 293,blk b7 3 (qE (eQ (ps y (A.map _)))) 49]++_):=hp;simp only[] at hZ yd yq xi h6 hI⊢;refine tI (fun h=>?_) fun h=>?_
   ·have h0:0<t.left:=O1;have yv:=hI.ok.lt h0;obtain⟨t',xy,zi,yt⟩:=jLw (w:=wv) hI.ok h0 h6;obtain⟨xh,xg⟩:=hI.k9 O1 h0 xy;have yc:=yo hp;refine qR ?_;refine wlp (qS O O (by have:=yc.hb;grind)) (O:_=Value.func (.func 240) #[] #[.pointer (Ad kb),.pointer (Ad ba),.pointer (Ad bg),.pointer (Ad bc),.pointer (Ad b9)]) ?_;refine wlp (qL (vs:=i8L (stZ t)) O O O h9 (hp.j3 1 O h9)) (O:_=Value.agg (i8L (stZ t)).toArray) ?_;have hE:=Hp.l5 hp;refine tK (xt t g _ hI yc hg hE) ?_;rintro _ ye ⟨rfl,g2,zt,lj⟩;have hp:=Hp.back hp lj;clear lj hE yc;generalize Bst f wv t=r at xy yt;obtain⟨rv,rt,ro⟩:=r;simp[] at xy yt;refine tQ fun yy bf hp=>?_;refine tS fun y0 hp=>?_;have hp:=hp.norm 0 (eA _) O O;have hp:Hp _ _ _ [blk _ 3 _ 317,_,_,_,_]:=hp;obtain⟨x,hx⟩:∃x,x=o.getD t.next 0:=⟨_,O⟩;have ze:t.next<o.length:=O1;have yk:o[t.next]? =some x:=by rw[hx,aC,aA ze];rfl
    have e1:x<l.length:=by
     obtain⟨hh,e⟩:=aH.1 yk;rw[←e];exact xu _ (bX hh)
    have ce:∀{w':World} {L:List Ent},Hp xc [be,b7,mp] w' L→w'.cell? ⟨bo,0+t.next*1,none⟩=some (Iv (x:Int)):=fun h=>by
     have hO:=(yo h).hO;rw[hB] at hO;obtain⟨b',o',e,hc⟩:=hO _ x yk;cases e;exact hc 0 _ O
    have cc:∀{w':World} {L:List Ent},Hp xc [be,b7,mp] w' L→w'.cell? ⟨b9,0,none⟩=some (.slice (Ad bo) o.length o.length):=fun h=>by
     have:=(yo h).ho;grind
    have ea:(A++[t.next]).map (fun i=>o.getD i 0)=A.map (fun i=>o.getD i 0)++[x]:=by rw[dR,hx];rfl
    refine qA (uD ([6]++range' 61 18) (fun(z:List Nat×Option Addr×Nat) F=>F.put 6 (.slice z.2.1 (z.1.map fun i=>o.getD i 0).length z.2.2))
     (fun z w'=>z.1=A++(if rt then[t.next] else[])∧SVL z.2.1 z.2.2 (z.1.map fun i=>o.getD i 0)∧Hp xc [be,b7,mp] w' [blk bf 3 (qE (eA (rv,rt,ro))) 317,qG eN 3 1 z.2.1 z.2.2 (z.1.map fun i=>o.getD i 0),blk be 14 (qE (i8L (stZ t))) 293,blk b7 3 (qE (eQ (ps y (z.1.map fun i=>o.getD i 0)))) 49,zV kSt mp g2]) ?_ ?_)
    ·cases rt with
     |false=>
      refine tJ ?_;exact⟨(A,sA,cA),qB O5 O,O4,xi,hp⟩
     |true=>
      obtain⟨bs,os,xa,_⟩:=jR hs e1;have cY:∀{w':World} {L:List _},Hp _ _ w' L→∀(j:Nat) (v:Value),_=_→_=_:=fun h=>by
       obtain⟨b',o',e,hc⟩:=jR (oa h) e1;cases xa.symm.trans e;exact hc
      have vf:BQ (1+A.length*(κ+1)) (ps y (A.map fun i=>o.getD i 0)):=by
       have:=qY0 hb (A.map fun i=>o.getD i 0) (fun i hi=>by
        obtain⟨q,hq,rfl⟩:=bD.1 hi;have:=ht q (yq q hq)
        omega)
       rwa[aM] at this
      have sh:A.length*(κ+1)≤l.length*(κ+κ+1):=cF O1 O1;have yf:=hκ;rw[iC,bW] at yf;refine jB O ?_;have cg:=cc hp;have ci:=ce hp;refine qA ?_;refine tF (jC (cs:=[Iv (x:Int)]) hp O O O O O O O) fun yz nb hp=>tFb (jV eN (A.map fun i=>o.getD i 0) x hp 2 0 O O O O O O (fun _=>O) O O O xi O O (by rw[aM];omega)) fun zw s' c'⟨h5,hp⟩=>?_;have hp:=hp.H;rw[←ea] at h5 hp⊢;have hp:Hp _ _ _ [_,_,_,_,_]:=hp;refine qA ?_;refine jU jG O3 (fun w'=>Hp xc _ w' _) hp.N ?_;have hp:=hp.N;clear cg ci;refine tP (fun w hp=>qL (vs:=eQ (ps y (A.map fun i=>o.getD i 0))) O O O O (hp.j3 3 O O)) (wdp O (fun w hp=>qP) (O:_=Value.slice sp l.length cp) ?_);refine wdp O (fun w hp=>qS O O (cc hp)) O (qX ?_);refine wdp O (fun w hp=>qS O O (ce hp)) O (qX ?_);refine tP (fun w hp=>qL (vs:=eQ (y x)) O O O O (cY hp)) (tG (r44 _ vf (hb x e1) O1) fun zz hp=>?_);refine tS fun zy hp=>qU ?_;have hp:=hp.norm 3 (eQ (ps y ((A++[_]).map _))) O (by rw[ea,qXz];rfl);exact⟨(A++[t.next],s',c'),qB O5 O,O,h5,hp⟩
    clear hp xi;rintro u2 ⟨A',sa,ca⟩ zu ⟨yl,xw,hp⟩;simp only[] at yl xw;have hp:Hp _ _ _ [_,qG eN 3 1 sa ca (A'.map _),_,blk b7 3 (qE (eQ (ps y (A'.map _)))) 49,_]:=hp;have yc:=yo hp;have cf:=yc.hf;rw[hB] at cf;have xn:∀k,t.cs.getD k 0≤39:=fun k=>by have:=hI.b k;omega
    refine qR (wlp (qS O O cf) O ?_);refine wlp (qL (vs:=i8L (stZ t)) O O O h9 (hp.j3 2 O h9)) (O:_=Value.agg (i8L (stZ t)).toArray) (tL (jAr a d f t rt _ yc.hs hI.aA8 xn yv h0) ?_);rintro v se ⟨hv,zn⟩;have hp:=hp.call zn;rw[xy] at hv;have hX:(i8L (stZ t')).length=14:=by rw[vC];simp[stZ,xh.c]
    refine qA ?_;refine tO (zH (m:=14) (o:=0) (cs:=i8L (stZ t')) hp 2 O O O O (by rw[hX];exact qD O) (by rw[hX];rfl) (vY _)) fun zx hp=>?_;have hp:=hp.norm 2 (i8L (stZ t')) O (yJ _ _ hX);refine qA ?_;have y2:=(wW hI.ok h0 xy).2.2.1;refine⟨(t',A',sa,ca),qB O5 O,⟨xh,zi,?_,?_,?_,xw,g2,zt,hp.H⟩,by grind⟩
    ·rw[hZ,yt,yl];cases rt<;>simp
    ·rw[y2,yl];cases rt
     ·grind
     simp;omega
    intro i hi;rw[yl] at hi;rcases fO.1 hi with hi|hi
    ·exact yq i hi
    cases rt
    ·simp at hi
    have:=by simpa using hi
    omega
   have h0:t.left=0:=O1;rw[jLv h0,bH] at hZ
   have qe:=qWw (n:=o.length) (q:=(qOf d l o).q) (inn:=fun i k=>inB d (l.getD i default) k) (ord:=fun i=>o.getD i 0) (size:=d.sz.toNat) xl ht x1 (m:=12) zm (w:=qB4 y l.length) (t:=t0) (by rw[hf] at zf;exact zf) (by
    have:=hok0;unfold Bst at this;rw[hf,u4,xx] at this
    exact this)
   have yh:(Q.of o.length (qOf d l o).q (fun i k=>inB d (l.getD i default) k) (fun i=>o.getD i 0)).o7 (fun i=>qB4 y l.length (o.getD i 0)) o.length t0=A:=by
    rw[←hZ,za];unfold Wy;rw[hf,u4,xx];rfl
   rw[yh] at qe;obtain⟨P,hP⟩:∃P,P=qE7 (fun i=>o.getD i 0) A:=⟨_,O⟩;rw[←hP] at qe;obtain⟨jm,sd,jq⟩:=qe;have xd:P.length=A.length:=by rw[←sd.length_eq,aM]
   have hy:=jm.len;have xr:(A.map fun i=>o.getD i 0)≠[]:=fun e=>by
    have:=aQ List.length e;grind
   obtain⟨gp,rfl⟩:=xi.addr xr;refine qA ?_;have xp:=jNv jm.srt sd;have xf:=hp;rw[←qI5] at xf;have xf:Hp _ _ _ [_,_,_,_]:=xf;have x3:=xi.cap;have zb:cA≤maxLen:=by
    rcases xi with⟨h,_⟩|⟨g',cap,h,_,hm⟩
    ·cases h
    cases h;exact hm
   have call:=zAo _ gp cA _ (Hp.y8 xf 0 O) (by grind) zb (by grind);rw[aM] at call;refine tK call ?_;rintro _ sc ⟨zh,zk⟩;have hp:=Hp.aC2 xf 0 O zh zk;rw[xp] at hp;have xj:ps y (A.map fun i=>o.getD i 0)=ps y P:=jJr sd;have hp:Hp _ _ _ [_,_,_,_]:=hp;rw[xj,qI5] at hp;refine qA (kU true jG O3 (fun w'=>Hp xc _ w' _) hp.N ?_);have hp:=hp.N;refine qX ?_;apply qSl;exact O;exact qW hp 2 O O O O (qD O) O;rintro _ sf ⟨rfl,hp⟩;have hp:=hp.norm 2 (eQ _) O O;refine⟨hp,qX (qU ?_)⟩;refine qA ?_;have yr:=Hp.back (A:=[]) xo (by exact hp);have yr:=yr.sub (dT [_] _);refine⟨_,qA0 (vs:=eQ (ps y P)) O O O O O O O (hp.j3 2 O O),⟨_,O,.inl ⟨Ad gp,cA,P,?_,(hF P).2 jm,fun P' xq=>?_,jZ xi (by rw[aM,xd]),yr⟩⟩⟩
   ·rw[aM,xd];rfl
   have ys:=(hF P').1 xq;refine jA9 (n:=l.length) (w:=qB4 y l.length) (C:=qCj (fun i=>y i-yK y l.length) l.length) (least:=yK y l.length) (qN5 _ _) (fun i hi=>?_) (fun i _=>O) jm.srt (fun i hi=>by have:=jm.lt i hi;omega) (fun i hi=>by have:=ys.lt i hi;omega) (by rw[hy,ys.len]) (jq P' ys);have hl:=qKu (y:=y) _ i hi;rw[qY8 hi (show 0≤y i-yK y l.length by grind)];grind
end
open Go.Eng Go.Dig Go.Lp Go.Qu
variable{d:DW}{l:List EW}{P:List Nat}{i:Nat}
def cnP(d:DW)(l:List EW)(P:List Nat)(i k:Nat):Nat:=(P.take i).countP fun x=>inB d (l.getD x default) k
theorem qUh{x:Nat}(h:P[i]? =some x)(k:Nat):cnP d l P (i+1) k=cnP d l P i k+if inB d (l.getD x default) k then 1 else 0:=by
 obtain⟨hi,e⟩:=aH.1 h;unfold cnP;rw[aG hi,lL,e];simp
theorem jHl{k:Nat}:cnP d l P i k≤P.length:=by
 refine bL lJ ?_;grind
attribute [local irreducible] PV StepF wpl wpd WP Ret
attribute [local irreducible] Fit
set_option maxHeartbeats 2000000 in
theorem jVz(d:DW)(s sP:Option Addr)(c cP:Nat)(l:List EW)(P:List Nat)(W:World)(hD:DE d s l W)(oi:d.kd=3)(hz:0≤d.sz)(hF:FsP d l P)(hs:SlAt W 1 eN sP P):
  Rk 123 [d.v,.slice s l.length c,.slice sP P.length cP] W (.bool true):=by
 have hm:=hD.lq;have yw:=hD.le;have ht:=hF.len;have h7:P.length≤l.length:=by
  exact mDk
 refine tW func123 ntmps123 fun hp=>?_;refine qR ?_;refine tQ fun w1 bd hp=>?_;have hp:=hp.norm 0 d.L O O;refine qR ?_;refine tR qY (qR ?_);refine wlp (qL O O O O (hp.j3 0 O O)) (O:_=d.v) (wlp qP (O:_=Value.slice s _ c) ?_);refine tC (jOf d s _ c _ hm yw) fun w3 hp=>?_;rw[aD oi];have d1:(!decide (P.length=d.sz))=false:=by
  have:(P.length:Int)=d.sz:=O1;simp[this]
 refine jL ?_;rw[d1];refine gAa ?_;refine tF (yE eI 0 hp O O O O O O O O1 O) fun w4 g⟨hv,hp⟩=>?_;rw[qAn] at hp hv;have sa:∀f:Nat→Int,SVL _ _ (lm _ f):=fun f=>jZ hv (by rw[qT,qT])
 have hp:Hp W [] w4 [qG eI 3 1 _ _ (lm _ fun j=>(cnP d l P 0 j)),blk bd 13 _ 28]:=hp;refine qA (qQ ([6,8,10,11,12]++range' 32 35) (fun k F=>(F.put 8 (.int _ (if k=0 then-1 else(P.getD (k-1) 0:Nat)))).put 32 (.int _ k)) (fun k w'=>k≤P.length∧Hp W [] w' [qG eI 3 1 _ _ (lm _ fun j=>(cnP d l P k j)),_]) (fun k=>P.length-k) 0 (qB (qB (Same.eq .refl) O) O) ⟨O1,hp⟩ ?_);clear hp;rintro u k w5 ⟨hk,hp⟩;refine tI (fun h=>?_) fun h=>?_
 ·have hl:k<P.length:=O1;obtain⟨x,hx⟩:∃x,P[k]? =some x:=⟨_,aA hl⟩;have e1:=hF.lt x (aI hx);obtain⟨bs,os,hn,hc⟩:=hs k x hx;have yq:w5.cell? ⟨bs,os+k*1,_⟩=_:=hp.j7 (hc 0 _ O);obtain⟨e,he⟩:∃e,l[x]? =some e:=⟨_,aA e1⟩;have h6:l.getD x default=e:=by rw[aC,he];rfl
  obtain⟨be,oe,hM,h8⟩:=hD.e x e he;have x4:=hD.g e (aI he);have oj:=hD.lg e (aI he);have u0:(if k=0 then(-1:Int) else(P.getD (k-1) 0:Nat))<x:=by
   split
   ·omega
   have h1:=hF.srt;rw[dP] at h1;have:=h1 (k-1) k O1 hl O1;obtain⟨h2,h3⟩:=aH.1 hx;rw[aC,aA O1];show((P[k-1]:Nat):Int)<_
   omega
  generalize (if k=0 then(-1:Int) else(P.getD (k-1) 0:Nat))=last at u0;have d2:decide (x≤last)=_:=aB O1;have d3:decide ((x:Int)≥l.length)=_:=aB O1;refine jL ?_;rw[d2];refine jL ?_;rw[d3];refine gAa ?_;refine jW jG O3 (fun w'=>Hp W [] w' _) hp.N ?_;have hp:=hp.N;refine wdp O (fun w hp=>qL O O O O (hp.j3 1 O O)) (O:_=d.v) (wdp O (fun w hp=>qP) (O:_=Value.slice s _ c) ?_);refine qX ?_;refine wdp O (fun w hp=>qL O O O O (fun j v hv=>hp.j7 (h8 j v hv))) (O:_=e.v) (tK (jOe d e _ (hD.q.j6 hp.C) (x4.j6 hp.C) hm oj) ?_);rintro _ w8 ⟨b',rfl,hH,hpo⟩;have lj:=hp.join hpo;refine⟨hp.call hpo.C,?_⟩;clear hpo hp;have hp:Hp W [] w8 [_,_,_]:=lj;clear lj;refine qX (qU ?_);refine qA ?_;have hp:Hp W [] w8 [qG eBo 4 1 (Ad b') d.Q.length (lm d.Q.length (inB d e)),qG eI 3 1 (Ad g) d.Q.length (lm d.Q.length fun j=>(cnP d l P k j+if j<0∧inB d e j then 1 else 0:Nat)),blk bd 13 (qE d.L) 28]:=by
   rw[jH (g:=fun j=>(cnP d l P k j:Int)) (fun j _=>O4)];exact hp
  refine qQ ([11,12]++range' 53 13) (fun(q:Nat) F=>F.put 53 (.int _ q)) (fun q w'=>q≤d.Q.length∧Hp W [] w' [_,qG eI 3 1 _ _ (lm _ fun j=>(cnP d l P k j+if j<q∧inB d e j then 1 else 0:Nat)),_]) (fun q=>d.Q.length-q) 0 (qB (Same.eq .refl) O) ⟨O1,hp⟩ ?_;clear hp;rintro u2 q w9 ⟨hq,hp⟩;refine tI (fun h2=>?_) fun h2=>?_
  ·have h4:q<d.Q.length:=O1;have cB:w9.cell? ⟨b',0+q*1,_⟩=_:=zM (qZ hp 0 O hH (fun _=>O)) h4 0 _ O;have cC:w9.cell? ⟨g,0+q*1,none⟩=some (Iv (cnP d l P k q)):=by
    have:=zM (qZ hp 1 O (sa _) (fun _=>O)) h4 0 _ O;exact mEw
   refine qA ?_;cases hb:inB d e q with
   |false=>
    refine qN O ?_
    rw[jH (g:=fun j=>((cnP d l P k j+if j<q+1∧inB d e j then 1 else 0:Nat):Int)) (fun j _=>by
     grind)] at hp
    refine gA0 ?_;exact⟨q+1,qB O5 O,⟨O1,hp⟩,O1⟩
   |true=>
    refine jB O ?_;have hP:=jHl (d:=d) (l:=l) (P:=P) (i:=k) (k:=q);refine tM (cnP d l P k q+1) ?_;refine qA (tO (zL eI _ q _ hp 1 O (sa _) (by rw[qT];omega) O O (fun _=>O) O O (qD O)) fun ur hp=>?_);have hp:Hp W [] _ [_,_,_]:=hp
    rw[vF,jH (g:=fun j=>((cnP d l P k j+if j<q+1∧inB d e j then 1 else 0:Nat):Int)) (fun j _=>by
     grind)] at hp
    refine gA0 ?_;exact⟨q+1,qB O5 O,⟨O1,hp⟩,O1⟩
  obtain rfl:d.Q.length=q:=O1
  rw[jH (g:=fun j=>(cnP d l P _ j:Int)) (fun j hj=>by
   rw[qUh hx,h6]
   grind)] at hp
  refine gA0 ?_;refine⟨k+1,qB (qB O5 ?_) O,⟨O1,hp.H⟩,O1⟩;rw[if_neg O1,pE,aC,hx];rfl
 obtain rfl:P.length=k:=O1;refine qA (qQ ([6,13,14]++range' 70 22) (fun(q:Nat) F=>F.put 70 (.int _ q)) (fun q w'=>q≤d.Q.length∧Hp W [] w' _) (fun q=>d.Q.length-q) 0 (qB (Same.eq .refl) O) ⟨O1,hp⟩ ?_);clear hp;rintro u2 q w9 ⟨hq,hp⟩;refine tI (fun h2=>?_) fun h2=>?_
 ·have h4:q<d.Q.length:=O1;obtain⟨qu,hh⟩:∃qu,d.Q[q]? =some qu:=⟨_,aA h4⟩;obtain⟨bq,oq,gu,hy⟩:=hD.q q qu hh;have h5:=fun j v hv=>hp.j7 (hy j v hv)
  have h9:=hF.quo q qu.2 (by grind);have hg:cnP d l P P.length q=P.countP fun x=>inB d (l.getD x default) q:=by
   unfold cnP;rw[dE]
  refine qA (tR (qL (vs:=eQu qu) O O O O h5) ?_);refine vK fun w b hp=>?_
  refine tX fun hp=>?_;have d2:decide ((cnP d l P P.length q)<qu.2.1)=_:=aB O1;have d3:decide ((cnP d l P P.length q)>qu.2.2)=_:=aB O1;refine qX ?_;refine wdp O (fun w hp=>qS O O (zM (qZ hp 1 O (sa _) (fun _=>O)) h4 0 _ O)) O (xA ?_);rw[d2];refine xA ?_;apply yG;exact O;exact O;exact O;intro w hp;exact qS O O (zM (qZ hp 1 O (sa _) (fun _=>O)) h4 0 _ O);exact O;refine xA ?_;rw[d3];refine qU ?_;refine gA2 ?_;exact⟨q+1,qB O5 O,⟨O1,hp.H⟩,O1⟩
 exact mA0
end Go.Proofs.YtplkndjlfkkjlaaGreatDoor
namespace Go.Eng
open List (range range' replicate)
theorem qP4(place:Nat→Option (Nat×Nat))(tl:List Value):∀(ps:List (Nat×Value)) (pl:List (Nat×Nat)) (i o:Nat) (pre rest:List Value),(∀j x,pl[j]? =some x→place (i+j)=some x)→lay pl i o ps=true→pre.length=o→
  rest.length=(pl.map (·.2)).sum→Instr.fill place (pre++(rest++tl)).toArray ps=some (pre++((ps.flatMap fun p=>p.2.cells.toList)++tl)).toArray
 |[],[],i,o,pre,rest,_,_,_,hr=>by
  exact mEt
 |[],_::_,_,_,_,_,_,h,_,_=>by simp[lay] at h
 |_::_,[],_,_,_,_,_,h,_,_=>by simp[lay] at h
 |(j,v)::ps,(o',sz)::pl,i,o,pre,rest,hp,h,hpre,hr=>by
  simp only[lay,aF] at h;obtain⟨h1,h2,h3,h4⟩:=h;have h1:=bF h1;have h2:=bF h2;subst h1 h2;rw[dY,rU] at hr;have xv:=hp 0 _ O;have sa:v.cells.toList.length=sz:=by simpa using h3
  have hz:v.cells.zipIdx.foldl (fun cs x=>cs.setIfInBounds (o'+x.2) x.1) (pre++(rest++tl)).toArray=(pre++v.cells.toList++(rest.drop sz++tl)).toArray:=by
   rw[←nG,xS];have e:=qDt v.cells.toList (pre++(rest++tl)) o' 0;rw[iF,←hpre,qHw v.cells.toList pre (rest++tl) (by grind),sa,List.drop_append_of_le_length O1] at e;rw[←hpre];exact e
  simp only[Instr.fill,xv];have:=qP4 _ tl ps pl _ _ (pre++v.cells.toList) (rest.drop sz) (fun q x hq=>by
   have:=hp (q+1) x (by grind)
   rwa[show j+1+q=j+(q+1) by omega]) h4 (by grind) (by grind)
  grind
theorem qE4{P:Program}{n:FrK}{w:World}{F:Fr}{d:Option Tmp}{ty:TypeId}{pos:String}{aft:Array Edge}{g:Option (Nat×Bool)}{t:TypeId}{fs:Array Field}{ps:Array (Nat×Operand)}{zs tl:List Value}{pl pl':List (Nat×Nat)}{vs:List (Nat×Value)}
  (ht:P.underlying t=some (.struct fs)) (hz:TZero P t (.agg (zs++tl).toArray)) (xv:∀w,(fs.mapM (fun f=>do pure (f.offset,←sizeOf f.type):Field→Sem (Nat×Nat))).run P w= .ok (pl++pl').toArray w) (hl:zs.length=(pl.map (·.2)).sum)
  (hg:(ps.toList.map fun p=>(p.1,ev n F p.2))=vs) (hh:lay pl 0 0 vs=true):PV P n w F ⟨d,.build t ps,ty,pos,aft,g⟩ (.agg ((vs.flatMap fun p=>p.2.cells.toList)++tl).toArray):=by
 refine qB6 ht hz O xv ?_
 have h:=qP4 ((pl++pl').toArray[·]?) tl vs pl 0 0 [] zs (fun j x hx=>by
  grind) hh O hl
 have e:(ps.map fun(i,x)=>(i,ev n F x)).toList=vs:=by rw[vH,hg]
 rw[e];exact h
theorem qHq(ns:List Int):∀r:ByteArray,(ns.foldl (fun r n=>r.push (UInt8.ofNat n.toNat)) r).data.toList=r.data.toList++ns.map fun n=>UInt8.ofNat n.toNat:=by
 induction ns with
 |nil=>simp
 |cons n ns ih=>
  intro r;rw[iO,ih];simp
theorem qFq(ns:List Int):(kN ns).data.toList=ns.map fun n=>UInt8.ofNat n.toNat:=by
 unfold kN;rw[qHq];simp
section
variable {P:Program}{n:FrK}{w:World}{F:Fr}{d:Option Tmp}{ty:TypeId}{pos:String}{aft:Array Edge}{g:Option (Nat×Bool)}{x:Operand}
theorem jJn{t t' e:Nat}(ht:P.underlying t=some (.slice e))(he:P.underlying e=some (.int .u8))(yo:P.underlying t'=some .string)(hx:ev n F x=Zs):PV P n w F ⟨d,.convert t t' x,ty,pos,aft,g⟩ (.string (kN [])):=by
 simp only[PV,execOp,convert,hx,bJ,jQ ht,jQ yo,aK,jQ he];rfl
end
end Go.Eng
namespace Go.Qu
open List (range range' replicate)
open Go.Lp
variable{i n:Nat}
def ksF{κ:Type}[DecidableEq κ](key:Nat→κ):Nat→List κ
 |0=>[]
 |i+1=>if key i∈ksF key i then ksF key i else ksF key i++[key i]
def clF{κ:Type}[DecidableEq κ](key:Nat→κ)(i:Nat):Nat:=(ksF key (i+1)).idxOf (key i)
section
variable {κ:Type}[DecidableEq κ]{key:Nat→κ}
theorem qIg:∀(i j:Nat),j<i→key j∈ksF key i
 |i+1,j,h=>by
  unfold ksF;rcases dJ.1 h with h|rfl
  ·have:=qIg i j h;grind
  grind
theorem qYn{x:κ}:∀{i j:Nat},i≤j→x∈ksF key i→(ksF key j).idxOf x=(ksF key i).idxOf x:=by
 intro i j h hx;induction j with
 |zero=>
  grind
 |succ j ih=>
  rcases iL j i with xd|xd
  ·grind
  have hm:x∈ksF key j:=by
   clear ih h;induction j with
   |zero=>
    grind
   |succ j ih2=>
    rcases iL j i with hg|hg
    ·grind
    unfold ksF;grind
  show(if key j∈ksF _ j then ksF _ j else ksF _ j++[_]).idxOf x=_
  grind
theorem qN6(h:i<n):clF key i=(ksF key n).idxOf (key i):=(qYn O1 (qIg _ i O1)).symm
theorem qHp(h:i<n):clF key i<(ksF key n).length:=by
 rw[qN6 h];exact sAe (qIg n i h)
theorem jTk{j:Nat}:clF key i=clF key j↔key i=key j:=by
 constructor
 ·intro e;rw[qN6 (n:=i+j+1) O1,qN6 (n:=i+j+1) O1] at e;have h1:=qIg (key:=key) (i+j+1) i O1;have e1:=List.getElem_idxOf (sAe h1);grind
 intro e;rw[qN6 (n:=i+j+1) O1,qN6 (n:=i+j+1) O1,e]
theorem qIs(h:key i∈ksF key i):clF key i=(ksF key i).idxOf (key i)∧ksF key (i+1)=ksF key i:=by
 refine⟨qYn O1 h,?_⟩;show(if _ then _ else _)=_
 grind
theorem qRw(h:key i∉ksF key i):clF key i=(ksF key i).length∧ksF key (i+1)=ksF key i++[key i]:=by
 have e:ksF key (i+1)=ksF key i++[key i]:=by
  show(if _ then _ else _)=_
  rw[if_neg h]
 unfold clF;grind
theorem qMj:∀i:Nat,(ksF key i).length≤i
 |0=>bM _
 |i+1=>by
  have:=qMj i;unfold ksF;grind
def kmF(key:Nat→κ)(i:Nat):κ→Option Value:=fun k=>if k∈ksF key i then some (Iv ((ksF key i).idxOf k:Nat)) else none
theorem jF2:kmF key 0=fun _=>none:=by
 funext k;unfold kmF;rw[if_neg (by simp[ksF])]
theorem jKo(h:key i∉ksF key i):(fun k=>if k=key i then some (Iv (clF key i:Nat)) else kmF key i k)=kmF key (i+1):=by
 obtain⟨e1,e2⟩:=qRw h;unfold kmF;grind
theorem jF3(h:key i∈ksF key i):kmF key i=kmF key (i+1):=by
 unfold kmF;rw[(qIs h).2]
theorem jKn(h:key i∈ksF key i):kmF key i (key i)=some (Iv (clF key i:Nat)):=by
 unfold kmF;rw[if_pos h,(qIs h).1]
theorem jPg(h:key i∉ksF key i):kmF key i (key i)=none:=by
 unfold kmF;grind
theorem jPe{c:Nat}(h:c<(ksF key n).length):∃i,i<n∧clF key i=c:=by
 induction n with
 |zero=>exact absurd h (by simp[ksF])
 |succ n ih=>
  by_cases hm:key n∈ksF key n
  ·rw[(qIs hm).2] at h;grind
  obtain⟨e1,e2⟩:=qRw hm;grind
end
theorem qRv(cl:Nat→Nat)(c:Nat):∀n,cnt cl n c≤n
 |0=>bM _
 |n+1=>by
  have:=qRv cl c n;simp only[cnt];grind
theorem qUg{cl:Nat→Nat}{c:Nat}:∀{n:Nat},(∀i,i<n→cl i≠c)→cnt cl n c=0
 |0,_=>rfl
 |n+1,h=>by
  simp only[cnt];rw[qUg fun i hi=>h i O1,if_neg (h n O1)]
theorem qZh{cl:Nat→Nat}{c:Nat}:∀{n:Nat} (i:Nat),i<n→cl i=c→0<cnt cl n c
 |n+1,i,hi,e=>by
  simp[cnt];rcases dJ.1 hi with h|rfl
  ·have:=qZh i h e;omega
  grind
end Go.Qu
namespace Go.Lp
open List (range range' replicate)
open Go.Qu
variable{c M D k:Nat}{P:List Nat}{q:Nat}{a:Rat}{s:Sr}
theorem jFa:∀(k M:Nat),gr M k≤(2*M)^(2^k)
 |0,M=>by
  show M≤(2*M)^1
  grind
 |k+1,M=>by
  have:=jFa k (2*(M*M));refine bL this ?_;rw[show 2*(2*(M*M))=(2*M)^2 by grind,←iJ,dD,bW _ 2];omega
theorem jWq{b m:Nat}(hM:M<2^b)(hm:m≤6):gr M m<2^(64*(b+1)):=by
 have h1:=jFa m M;have h2:2*M<2^(b+1):=by rw[dD];omega
 have h3:2^m≤64:=aR O2 hm;refine bY h1 ?_;rw[bW 64,iJ];rcases dH (2*M) with e|e
 ·rw[e,Nat.zero_pow (nR _)];exact gJ O1
 exact bY (aR e h3) (Nat.pow_lt_pow_left h2 O2)
def csF:Nat→Nat
 |0=>1
 |k+1=>csF k+64*(csF k+4)
theorem jHj(h:k≤4):csF k≤89253121:=by
 have:k=0∨k=1∨k=2∨k=3∨k=4:=O1;rcases this with rfl|rfl|rfl|rfl|rfl<;>decide
theorem qW3{cl:Nat→Nat}{n:Nat}(hs:P.Pairwise (·<·))(hn:∀i∈P,i<n)(c:Nat):jX cl P c≤cnt cl n c:=by
 have e:∀n,cnt cl n c=(range n).countP fun i=>decide (cl i=c):=fun n=>by
  induction n with
  |zero=>rfl
  |succ n ih=>
   rw[fW,lL,←ih];simp[cnt]
 rw[e];unfold jX;have xh:P.Sublist (range n):=by
  have hx:∀(n:Nat) (P:List Nat),P.Pairwise (·<·)→(∀i∈P,i<n)→P.Sublist (range n):=by
   intro n;induction n with
   |zero=>
    intro P _ h;cases P with
    |nil=>simp
    |cons x P=>exact absurd (h x O4) O1
   |succ n ih=>
    intro P hs hn;rw[fW];rcases iV P with rfl|⟨Q,x,rfl⟩
    ·simp
    rw[mM] at hs hn⊢;rw[eY] at hs;have hx:=hn x O4;rcases dJ.1 hx with h|rfl
    ·refine(ih _ (eY.2 hs) (fun i hi=>?_)).trans (dT _ _);grind
    exact(ih Q hs.1 (fun i hi=>hs.2.2 i hi x O4)).append (.refl _)
  exact hx n P hs hn
 grind
theorem jE3(h:D≤M)(hq:q≤5):Ov D (5*M) (q:Rat):=by
 refine⟨(q*D:Nat),?_,?_⟩
 ·rw[iK,mQ]
 exact cF hq h
theorem qM2(h:Ov D M a):Ov D M (-a):=by
 obtain⟨x,h1,h2⟩:=h;refine⟨-x,?_,O1⟩;grind
theorem jJy(h:Ov D M a)(hq:q≤5):Ov D (5*M) ((q:Rat)*a):=by
 obtain⟨x,h1,h2⟩:=h;refine⟨q*x,?_,?_⟩
 ·rw[nQ,←h1,iK];grind
 rw[oE];have:=cF hq h2;grind
theorem Sr.q4{s:Sr}{D M:Nat}(hD:0<D)(hg:D≤M)(hS:∀c,c<s.nc→s.S c≤5)(hκ:∀k,k<s.K→∀c,c<s.nc→s.κ k c≤5)(hp:∀c,c<s.nc→s.dec c=true→Ov D M (s.p c)):(T0 (s.nc+1) (s.K+1) s.A s.B).q4 (5*M):=by
 have z:Ov D (5*M) 0:=qI6;have o1:Ov D (5*M) 1:=qJ3 O1;refine⟨D,hD,O1,fun i hi=>?_,fun i j hi hj=>?_⟩
 ·show Ov D _ (s.B i)
  unfold Sr.B;split
  ·exact o1
  split
  ·rename_i h1 h2
   have hi:i<_+1:=hi;exact qM2 (jJy (hp i O1 h2) (hS i O1))
  exact z
 show Ov D _ (s.A i j)
 have hi:i<_+1:=hi;have hj:j<s.K+1:=hj;unfold Sr.A;split
 ·grind
 split
 ·split
  ·exact z
  exact jE3 hg (hS i O1)
 exact qM2 (jE3 hg (hκ _ O1 i O1))
def Sr.o4(s:Sr)(κ:Nat→Nat):Sr:={s with K:=s.K+1,κ:=fun j=>if j=s.K then κ else s.κ j}
theorem Sr.W.o4{s:Sr}{v:Rat}{w:Nat→Rat}(h:s.W v w)(κ:Nat→Nat):(s.o4 κ).W v (fun k=>if k=s.K then 0 else w k):=by
 have e1:∀f:Nat→Rat,sm (s.K+1) (fun k=>(if k=s.K then 0 else w k)*f k)=sm s.K (fun k=>w k*f k):=fun f=>by
  show sm _ _+(if s.K=s.K then 0 else w _)*f _=_
  rw[if_pos O,jF (fun k hk=>by rw[if_neg O1])];grind
 refine⟨h.v0,fun k hk=>?_,?_,fun c hc=>?_⟩
 ·split
  ·simp
  exact h.nn k (by have hk:k<s.K+1:=hk;omega)
 ·show sm _ _+(if s.K=s.K then 0 else w _)≤1
  rw[if_pos O,jF (fun k hk=>by rw[if_neg O1])];have:=h.one;grind
 show(s.S c)*(if s.dec c then s.p c else v)≤sm (s.K+1) (fun k=>(if k=s.K then 0 else w k)*((if k=s.K then κ else s.κ k) c))
 have:=h.ge c hc;refine pZ this ?_;have e2:=e1 (fun k=>((if k=s.K then κ else s.κ k) c));rw[e2,jF (g:=fun k=>w k*((if k=s.K then κ else s.κ k) c)) (fun k hk=>by grind)];simp
def Sr.nd(s:Sr):Nat:=(range s.nc).countP s.dec
theorem Sr.nd_lt(hc:c<s.nc)(hd:s.dec c=false):s.nd<s.nc:=by
 have h1:(range s.nc).countP s.dec≤_:=lJ;rw[dA] at h1;rcases iL ((range s.nc).countP s.dec) s.nc with h|h
 ·exact h
 have e:(range s.nc).countP s.dec=(range s.nc).length:=by rw[dA];omega
 rw[List.countP_eq_length] at e;grind
theorem qP9{p q:Nat→Bool}:∀(l:List Nat),(∀x∈l,p x=true→q x=true)→(∃x∈l,p x=false∧q x=true)→l.countP p<l.countP q
 |[],_,⟨x,hx,_⟩=>by cases hx
 |y::l,h,hex=>by
  have h1:l.countP p≤_:=List.countP_mono_left fun x hx=>h x (by simp[hx])
  rw[iR,iR];have hy:=h y O4;by_cases hg:∃x∈l,p x=false∧q x=true
  ·have:=qP9 l (fun x hx=>h x (by simp[hx])) hg;grind
  grind
theorem Sr.aB8{v:Rat}{y:Nat→Rat}(hc:c<s.nc)(hd:s.dec c=false)(hy:0<y c):s.nd<(s.next v y).nd:=by
 show(range _).countP _<(range s.nc).countP (fun c=>s.dec c||decide _)
 refine qP9 _ (fun x _ hx=>by grind) ⟨c,aO.2 hc,hd,?_⟩;grind
structure Inv(n:Nat)(cl:Nat→Nat)(G:List Nat→Prop)(s0 s:Sr)(lv:List (Rat×(Nat→Rat))):Prop where
 n5:n≤5
 nc:s.nc≤n
 cls:Cls n cl s G (fun κ=>∃P,G P∧∀c,c<s.nc→jX cl P c=κ c)
 pos:∀c,c<s.nc→0<s.S c
 gs:∀P,G P→P.Pairwise (·<·)∧∀i∈P,i<n
 K1:1≤s.K
 kF:∀k,k<s.K→∃P,G P∧∀c,c<s.nc→jX cl P c=s.κ k c
 kd:∀j k,j<k→k<s.K→∃c,c<s.nc∧s.κ k c≠s.κ j c
 wt:∃v w,s.W v w∧∀u,qYm lv none=some u→u≤v
 ov:∃D M,0<D∧D≤M∧M<2^csF lv.length∧∀c,c<s.nc→s.dec c=true→Ov D M (s.p c)
 dc:lv.length≤s.nd
 run:s0.run (fun κ=>∃P,G P∧∀c,c<s.nc→jX cl P c=κ c) lv none s
 yb:∀x∈lv,∀q,q<s.nc→BQ 34273200056 (x.2 q)
section
variable {n:Nat}{cl:Nat→Nat}{G:List Nat→Prop}{s0 s:Sr}{lv:List (Rat×(Nat→Rat))}
theorem Inv.S5(h:Inv n cl G s0 s lv)(hc:c<s.nc):s.S c≤5:=by
 rw[h.cls.S c hc];have:=qRv cl c n;have:=h.n5;omega
theorem Inv.κS(h:Inv n cl G s0 s lv)(hk:k<s.K)(hc:c<s.nc):s.κ k c≤s.S c:=by
 obtain⟨P,hP,e⟩:=h.kF k hk;rw[←e c hc,h.cls.S c hc];exact qW3 (h.gs P hP).1 (h.gs P hP).2 c
theorem Inv.K32(h:Inv n cl G s0 s lv):s.K≤32:=by
 have hex:∀k,∃P,k<s.K→G P∧_:=fun k=>by
  by_cases hk:k<s.K
  ·obtain⟨P,hP⟩:=h.kF k hk;exact⟨P,fun _=>hP⟩
  exact⟨[],fun nv=>absurd nv hk⟩
 obtain⟨f,hf⟩:=Classical.axiomOfChoice hex;have hl:((range n).map (fun i:Nat=>(i:Int))).length=n:=O4;have key:s.K-1<2^n:=by
  refine jF7 (f:=fun k=>qRu (fun v=>v.toNat∈f k∧0≤v) ((range n).map fun i:Nat=>(i:Int))) (fun k _=>?_) (fun j k ht hk he=>?_)
  ·have:=qRt (fun v=>v.toNat∈f k∧0≤v) ((range n).map fun i:Nat=>i);grind
  have he:=qL0 he;obtain⟨g1,g2⟩:=hf j O1;obtain⟨g3,g4⟩:=hf k O1;have lp:∀i,i∈f j↔i∈f k:=fun i=>by
   by_cases hi:i<n
   ·have:=he i (bD.2 ⟨i,aO.2 hi,O⟩);grind
   exact⟨fun hm=>absurd ((h.gs _ g1).2 i hm) hi,fun hm=>absurd ((h.gs _ g3).2 i hm) hi⟩
  have e:f j=f k:=by
   have zc:(f j).Nodup:=by
    rw[dZ];exact(h.gs _ g1).1.imp fun h=>O1
   have zi:(f k).Nodup:=by
    rw[dZ];exact(h.gs _ g3).1.imp fun h=>O1
   exact jAh (h.gs _ g1).1 (h.gs _ g3).1 ((oF zc zi).2 lp)
  obtain⟨c,hc,xr⟩:=h.kd j k ht O1;exact xr (by grind)
 have h5:=h.n5;have:2^n≤2^5:=aR O2 h5;omega
theorem Inv.o4(h:Inv n cl G s0 s lv){P:List Nat}(hP:G P)(ya:∀k,k<s.K→∃c,c<s.nc∧jX cl P c≠s.κ k c):Inv n cl G s0 (s.o4 (jX cl P)) lv:=by
 have hh:∀j,j<s.K→(s.o4 (jX cl P)).κ j=_:=fun j hj=>if_neg O1
 have hg:(s.o4 _).κ _=jX cl P:=if_pos O;obtain⟨v,w,hw,hu⟩:=h.wt;refine⟨h.n5,h.nc,⟨h.cls.lt,h.cls.S,h.cls.g,h.cls.f⟩,h.pos,h.gs,Nat.le_succ_of_le h.K1,fun k hk=>?_,fun j k ht hk=>?_,⟨v,_,hw.o4 _,hu⟩,h.ov,h.dc,h.run.eqv .refl ⟨O,O,O,O⟩,h.yb⟩
 ·rcases dJ.1 hk with hk|rfl
  ·rw[hh k hk];exact h.kF k hk
  rw[hg];grind
 rw[hh j (by have hk:k<s.K+1:=hk;omega)];rcases dJ.1 hk with hk|rfl
 ·rw[hh k hk];exact h.kd j k ht hk
 rw[hg];exact ya j ht
end
section
variable {n:Nat}{cl:Nat→Nat}{G:List Nat→Prop}{s0 s:Sr}{lv:List (Rat×(Nat→Rat))}
theorem Inv.feas(h:Inv n cl G s0 s lv):∃x,Feas (s.nc+1) (s.K+1) s.A s.B x:=by
 obtain⟨v,w,hw,_⟩:=h.wt;exact⟨_,hw.feas⟩
theorem Inv.le1(h:Inv n cl G s0 s lv)(hc:c<s.nc)(hd:s.dec c=false){x:Nat→Rat}(hx:Feas (s.nc+1) (s.K+1) s.A s.B x):x 0≤1:=
 (Sr.z7 hx).aC9 hc hd (h.pos c hc) (fun _ hk=>h.κS hk hc)
theorem Inv.price(h:Inv n cl G s0 s lv){P:List Nat}(hP:G P)(y:Nat→Rat):ps (fun i=>y (cl i)) P=s.price y (jX cl P):=by
 rw[qF8 cl y _ (fun i hi=>h.cls.lt i ((h.cls.g P hP).2 i hi))];rfl
variable {X Y:Nat→Rat}
theorem Inv.du(ho:Opt (s.nc+1) (s.K+1) s.A s.B X Y):s.Du (X 0) Y:=Sr.du ho.pos ho.dual ho.val
theorem Inv.tot(ho:Opt (s.nc+1) (s.K+1) s.A s.B X Y):s.tot Y≠0:=by
 have:=(Inv.du ho).tot;grind
theorem Inv.more(h:Inv n cl G s0 s lv)(ho:Opt (s.nc+1) (s.K+1) s.A s.B X Y)(hP:G P)(hg:Y s.nc/s.tot Y<ps (fun i=>Y (cl i)/s.tot Y) P):Inv n cl G s0 (s.o4 (jX cl P)) lv:=by
 refine h.o4 hP ((Inv.du ho).new ?_);rw[←h.price hP _];omega
theorem Inv.level(h:Inv n cl G s0 s lv)(ho:Opt (s.nc+1) (s.K+1) s.A s.B X Y)(h8:(X 0).num.natAbs<2^(64*(csF lv.length+4))∧(X 0).den<2^(64*(csF lv.length+4)))(uk:∀q,q<s.nc→BQ 34273200056 (Y q/s.tot Y)){P:List Nat}(hP:G P)
  (hl:∀P',G P'→ps (fun i=>Y (cl i)/s.tot Y) P'≤ps (fun i=>Y (cl i)/s.tot Y) P) (ja:ps (fun i=>Y (cl i)/s.tot Y) P≤Y s.nc/s.tot Y):
  ps (fun i=>Y (cl i)/s.tot Y) P-s.n0 (fun c=>Y c/s.tot Y)=X 0∧(s.next (X 0) fun c=>Y c/s.tot Y).W (X 0) (fun k=>X (k+1))∧Inv n cl G s0 (s.next (X 0) fun c=>Y c/s.tot Y) (lv++[(X 0,fun c=>Y c/s.tot Y)])∧s.nd<(s.next (X 0) fun c=>Y c/s.tot Y).nd:=by
 have sq:=Inv.du ho;have hW:=Sr.z7 ho.feas;have us:∀P,G P→_=_:=fun P hP=>h.price hP (fun c=>Y c/s.tot Y)
 have hk:∀κ,∀P,(∀c,c<_→jX cl P c=_)→s.price _ (jX cl P)=s.price (fun c=>Y c/s.tot Y) κ:=fun κ P e=>by
  exact jF fun c hc=>by rw[e c hc]
 obtain⟨h1,h2⟩:=sq.level hW (F:=fun κ=>∃P,G P∧∀c,c<s.nc→jX cl P c=κ c) h.kF ⟨P,hP,fun _ _=>O⟩ (us P hP).symm (fun κ ⟨P',hj,e⟩=>by
  grind) ja
 obtain⟨y,hy⟩:∃y:Nat→Rat,y=fun c=>Y c/s.tot Y:=⟨_,O⟩
 have uk:∀q,q<_→BQ 34273200056 (y q):=fun q hq=>by rw[hy];exact uk q hq
 rw[←hy] at h1 h2⊢;have hm:=hW.next y;obtain⟨c,hc,hd,hn⟩:=h2.some;have ln:=Sr.aB8 (v:=X 0) hc hd hn;obtain⟨v,w,hw,hu⟩:=h.wt;have hL:=by
  have:=weak (sAf _) hw.feas ho.pos ho.dual;rw[←ho.val] at this;exact mCe
 refine⟨h1,hm,⟨h.n5,h.nc,h.cls.next _ _,h.pos,h.gs,h.K1,h.kF,h.kd,⟨_,_,hm,fun u hu=>?_⟩,?_,?_,h.run.snoc h2 (fun u h3=>pZ (hu u h3) hL),fun x hx=>(fO.1 hx).elim (h.yb x) (fun hx=>by obtain rfl:=iN.1 hx;exact uk)⟩,ln⟩
 ·rw[qMi] at hu;grind
 ·obtain⟨D,M,hD,hg,hM,hp⟩:=h.ov;have ht:0<2^(64*(csF lv.length+4)):=O1;refine⟨_,_,iU hD (X 0).den_pos,cF hg (oN h8.2),?_,fun c hc hd=>?_⟩
  ·rw[aY];show _<2^(csF _+64*(csF _+4))
   rw[dW];exact Nat.mul_lt_mul_of_pos_right hM ht
  show Ov _ _ (if s.dec c then s.p c else if 0<y c then X 0 else s.p c)
  by_cases hh:s.dec c=true
  ·obtain⟨x,e1,e2⟩:=hp c hc hh;refine⟨x*((X 0).den),?_,?_⟩
   ·rw[nQ,←e1,mQ,iK];grind
   rw[oE,lK];exact cF e2 O1
  have hn:0<y c:=by
   have hd:(s.dec c||decide (0<y c))=true:=hd;rw[fQ] at hd;rcases hd with hd|hd
   ·grind
   exact iT hd
  refine⟨(X 0).num*D,?_,?_⟩
  ·rw[nQ,mQ,iK];have h3:X 0=((X 0).num)/((X 0).den):=by rw[←gE,rB]
   have h4:(((X 0).den):Rat)≠0:=by
    have:=(X 0).den_pos;exact fun e=>by
     have:=pM.1 e;omega
   grind
  rw[oE,lK,bW];exact cF hg O1
 have:=h.dc;grind
end
end Go.Lp
namespace Go.Proofs.YtplkndjlfkkjlaaGreatDoor
open List (range range' replicate)
open Tryz
open Go.Eng Go.Dig Go.Lp Go.Qu
def qAt(d:DW)(e:EW)(q:Nat):List Nat:=lm q fun k=>if inB d e k then 49 else 48
def xT(d:DW)(l:List EW)(i:Nat):ByteArray:=kN ((qAt d (l.getD i default) d.Q.length).map fun x:Nat=>(x:Int))
theorem qOy(d:DW)(e:EW)(q:Nat):qAt d e (q+1)=qAt d e q++[if inB d e q then 49 else 48]:=by
 unfold qAt lm;rw[fW,dR];rfl
theorem jKp{d:DW}{l:List EW}{i j:Nat}(h:xT d l i=xT d l j){k:Nat}(hk:k<d.Q.length):inB d (l.getD i default) k=inB d (l.getD j default) k:=by
 have hx:∀i,(xT d l i).data.toList[k]? =some (UInt8.ofNat (((if inB d _ k then 49 else 48:Nat):Int)).toNat):=fun i=>by
  unfold xT qAt;rw[qFq,dF,dF,yI hk];rfl
 have h1:=hx i;rw[h,hx] at h1;cases ha:inB d _ k<;>cases hb:inB d _ k<;>rw[ha,hb] at h1<;>first|rfl|grind
theorem qEb{n:FrK}{w0 w:World}{M:List Nat}{L:List Ent}{F:Fr}{d:Option Tmp}{ty:TypeId}{pos:String}{aft:Array Edge}{g:Option (Nat×Bool)}{x:Operand}{t cap:Nat}{l:List Nat}{s:Option Addr}(hp:Hp w0 M w L)(i:Nat)(hi:L[i]? =some (qG eB 5 1 s cap l))(hv:SVL s cap l)(ht:qDg t=some (5,1))(hx:ev n F x= .slice s l.length cap):
  PV Tryz.prog n w F ⟨d,.convert t 9 x,ty,pos,aft,g⟩ (.string (kN (l.map fun x:Nat=>(x:Int)))):=by
 have hs:=qZ hp i hi hv (fun _=>O);rcases hv with⟨h,h0⟩|⟨b,cap',h,_⟩
 ·have hl:=aZ h0;subst hl;cases h;exact jJn (zK ht).1 Tryz.underlying5 Tryz.underlying9 hx
 cases h;refine qVo (zK ht).1 Tryz.underlying5 Tryz.underlying9 hx O4 (fun j v hv=>?_);rw[iP,dF] at hv;cases hj:l[j]? with
 |none=>grind
 |some y=>
  obtain⟨b',o',e,hc⟩:=hs j y hj;have:=hc 0 _ O;grind
def fC(d:DW)(v:List Value):List Value:=d.L++v
attribute [local irreducible] PV StepF wpl wpd WP Ret
attribute [local irreducible] Fit
set_option maxRecDepth 20000 in
set_option maxHeartbeats 4000000 in
theorem r96(d:DW)(s:Option Addr)(c:Nat)(l:List EW)(W:World)(hD:DE d s l W):
  Rt 96 [d.v,.slice s l.length c] W (fun v w'=>∃fb sC cC sP cP sS cS gD gX,v= .pointer (Ad fb)∧SVL sC cC (lm l.length (clF (xT d l)))∧SVL sP cP (lm l.length fun i=>cnt (clF (xT d l)) i (clF (xT d l) i))∧SVL sS cS (lm (ksF (xT d l) l.length).length (cnt (clF (xT d l)) l.length))∧
   SVL (Ad gD) (ksF (xT d l) l.length).length (lm (ksF (xT d l) l.length).length fun _=>false)∧SVL (Ad gX) (ksF (xT d l) l.length).length (lm (ksF (xT d l) l.length).length fun _=>(none:Option Rat))∧
   Hp W [] w' [qG eOQ 49 3 (Ad gX) (ksF (xT d l) l.length).length (lm (ksF (xT d l) l.length).length fun _=>none),qG eBo 4 1 (Ad gD) (ksF (xT d l) l.length).length (lm (ksF (xT d l) l.length).length fun _=>false),
    blk fb 22 (qE (fC d [.slice s l.length c,.slice sC l.length cC,.slice sP l.length cP,.slice sS (ksF (xT d l) l.length).length cS,Zs,.slice (Ad gD) (ksF (xT d l) l.length).length (ksF (xT d l) l.length).length,.slice (Ad gX) (ksF (xT d l) l.length).length (ksF (xT d l) l.length).length,Zs,Zs])) 179,
    qG eN 3 1 sC cC (lm l.length (clF (xT d l))),qG eN 3 1 sP cP (lm l.length fun i=>cnt (clF (xT d l)) i (clF (xT d l) i)),qG eN 3 1 sS cS (lm (ksF (xT d l) l.length).length (cnt (clF (xT d l)) l.length))]):=by
 have ht:=hD.lq;have yw:=hD.le;obtain⟨key,h9⟩:∃key,key=xT d l:=⟨_,O⟩;rw[←h9];obtain⟨cl,hP⟩:∃cl,cl=clF key:=⟨_,O⟩;rw[←hP];have mT:Tryz.prog.underlying 192=some (.map 9 3):=O3;refine tW func96 ntmps96 fun hp=>?_;refine qR ?_;refine tQ fun w1 bd hp=>?_;have hp:=hp.norm 0 d.L O O;refine qR ?_;refine wlp qY (O:_=Value.pointer _) (qR ?_);refine wlp (qL O O O O (hp.j3 0 O O)) (O:_=d.v) (wlp qP (O:_=Value.slice s _ c) ?_);refine wlp (qE4 (zs:=[_,_,_,_,_,_,_,_,_,_,_,_,_,_]) (pl:=[(0,13),(13,1)]) (pl':=[(14,1),(15,1),(16,1),(17,1),(18,1),(19,1),(20,1),(21,1)]) Tryz.underlying179 (qJ O) (fun w=>O3) O O O) (O:_=Value.agg (fC d [.slice s _ c,_,_,_,_,_,_,_,_]).toArray) (tF (kW (cs:=fC d _) (m:=22) hp O O O) fun w2 fb hp=>?_);refine qA ?_;refine tF (yS kStr hp) fun w3 mp hp=>?_;have hp:=((hp.k4 eN 3 1).k4 eN 3 1).k4 eN 3 1;have hp:Hp W [] w3 [qG eN 3 1 none 0 (lm 0 cl),qG eN 3 1 none 0 (lm 0 fun i=>cnt cl i (cl i)),qG eN 3 1 none 0 (lm (ksF key 0).length (cnt cl 0)),yA kStr mp (kmF key 0),blk fb 22 (qE (fC d [.slice s l.length c,Zs,Zs,Zs,Zs,Zs,Zs,Zs,Zs])) 179,blk bd 13 (qE d.L) 28]:=by
  rw[jF2];exact hp
 refine qA (qQ ([8,9,11,12,13]++range' 21 86) (fun(z:Nat×(Option Addr×Nat)×(Option Addr×Nat)×(Option Addr×Nat)) F=>F.put 21 (Iv (z.1:Int)))
  (fun z w'=>z.1≤l.length∧SVL z.2.1.1 z.2.1.2 (lm z.1 cl)∧SVL z.2.2.1.1 z.2.2.1.2 (lm z.1 fun i=>cnt cl i (cl i))∧SVL z.2.2.2.1 z.2.2.2.2 (lm (ksF key z.1).length (cnt cl z.1))∧Hp W [] w' [qG eN 3 1 z.2.1.1 z.2.1.2 (lm z.1 cl),qG eN 3 1 z.2.2.1.1 z.2.2.1.2 (lm z.1 _),qG eN 3 1 z.2.2.2.1 z.2.2.2.2 (lm (ksF key z.1).length (cnt cl z.1)),yA kStr mp (kmF key z.1),
   blk fb 22 (qE (fC d [_,.slice z.2.1.1 z.1 z.2.1.2,.slice z.2.2.1.1 z.1 z.2.2.1.2,.slice z.2.2.2.1 (ksF key z.1).length z.2.2.2.2,_,_,_,_,_])) 179,_]) (fun z=>l.length-z.1) (0,(none,0),(none,0),(none,0)) (qB (Same.eq .refl) O) ⟨O1,SVL.nil,SVL.nil,SVL.nil,hp⟩ ?_)
 clear hp;rintro u ⟨i,⟨sC,cC⟩,⟨sP,cP⟩,⟨sS,cS⟩⟩ w4 ⟨hi,hK,ue,hE,hp⟩;simp[] at hi hK ue hE;have hp:Hp W [] w4 [qG eN 3 1 sC cC (lm i cl),qG eN 3 1 sP cP (lm i _),qG eN 3 1 sS cS (lm (ksF _ i).length (cnt cl i)),yA _ mp (kmF _ i),blk fb 22 (qE (fC d [_,.slice sC i cC,.slice sP i cP,.slice sS (ksF _ i).length cS,_,_,_,_,_])) 179,_]:=hp;have xe:=qMj (key:=key) i;refine tI (fun h=>?_) fun h=>?_
 ·have hl:i<l.length:=by
   have:(i:Int)<(l.length:Int):=h;omega
  obtain⟨e,he⟩:∃e,l[i]? =some e:=⟨_,aA hl⟩;have hJ:l.getD i default=e:=by rw[aC,he];rfl
  obtain⟨be,oe,hM,h8⟩:=hD.e i e he;have x4:=hD.g e (aI he);have oj:=hD.lg e (aI he);have h3:key i=kN ((qAt d e d.Q.length).map fun x:Nat=>x):=by rw[h9];unfold xT;rw[hJ]
  refine qA (wlp (qL O O O O (fun j v hv=>hp.j7 (h8 j v hv))) (O:_=e.v) ?_);refine tF (zE (cs:=[_,_,_,_,_,_]) (m:=6) hp (qJ O) O O) fun w6 b8 hp=>tS fun w7 hp=>?_;have hp:=hp.norm 0 (eEn e) O O;have hp:=hp.k4 eB 5 1;have hp:Hp W [] w7 [qG eB 5 1 _ 0 (qAt d e 0),blk b8 6 _ 94,_,_,_,_,_,_]:=hp;refine qA (qQ ([9,11]++range' 28 16) (fun z F=>(F.put 9 (.slice z.2.1 (qAt d e z.1).length z.2.2)).put 28 (.int _ (z.1)))
   (fun z w'=>z.1≤d.Q.length∧SVL z.2.1 z.2.2 (qAt d e z.1)∧Hp W [] w' [qG eB 5 1 z.2.1 z.2.2 (qAt d e z.1),_,_,_,_,_,_,_]) (fun z=>d.Q.length-z.1) (0,none,0) (qB (qB (Same.eq .refl) O) O) ⟨O1,SVL.nil,hp⟩ ?_)
  clear hp;rintro u2 ⟨q,s9,c9⟩ w8 ⟨hq,hQ,hp⟩;simp[] at hq hQ;have hp:Hp W [] w8 [qG eB 5 1 s9 c9 (qAt d e q),_,_,_,_,_,_,_]:=hp;have hU:(qAt d e q).length=q:=qT;refine tI (fun h2=>?_) fun h2=>?_
  ·have h7:q<d.Q.length:=by
    have:(q:Int)<(d.Q.length:Int):=h2;omega
   obtain⟨qu,hn⟩:∃qu,d.Q[q]? =some qu:=⟨_,aA h7⟩;have hz:inB d e q=qA8 e.G qu.1:=by
    unfold inB;rw[aC,hn];rfl
   obtain⟨bq,oq,gu,h5⟩:=hD.q q qu hn;have hH:=fun j v hv=>hp.j7 (h5 j v hv)
   refine qA (tR (qL O O O O hH) ?_);refine vK fun w b hp=>?_
   have hp:=hp.norm 0 (eQu qu) O O;refine tL (jVv _ _ _ _ _ (x4.j6 hp.C) oj) ?_;rintro _ w9 ⟨rfl,hk⟩;have hp:=hp.call hk;rw[←hz];refine qA ?_;cases hb:inB d e q with
   |true=>
    have hV:qAt d e q++[49]=qAt d e (q+1):=by rw[qOy,hb];rfl
    refine jB O (qA ?_);refine tF (jC (cs:=[.int _ 49]) hp O O O O O O O) fun ur nb hp=>tFb (jV eB (qAt d e q) 49 hp 2 0 O O O O O O (fun _=>O) O O O hQ O O O1) fun gg s' c'⟨hg,hp⟩=>?_;exact mCk
   |false=>
    have hV:qAt d e q++[48]=qAt d e (q+1):=by rw[qOy,hb];rfl
    refine tJ ?_;refine tF (jC (cs:=[.int _ 48]) hp O O O O O O O) fun ur nb hp=>tFb (jV eB (qAt d e q) 48 hp 2 0 O O O O O O (fun _=>O) O O O hQ O O O1) fun gg s' c'⟨hg,hp⟩=>?_;exact mCk
  obtain rfl:d.Q.length=q:=by
   omega
  have hX:cl i=clF key i:=by rw[hP]
  have hU:(qAt d e d.Q.length).length=_:=qT;refine qR ?_;refine wlp qP (O:_=Value.map _) (wlp qP (O:_=Value.slice s9 (qAt d e d.Q.length).length c9) ?_);refine wlp (qEb hp 0 O hQ O O) (aQ _ h3.symm) ?_;refine wlp (qHz hp 5 O O O mT Tryz.underlying9 (qJ O)) (O:_=Value.tuple #[(kmF key i (key i)).getD (Iv 0),.bool (kmF key i (key i)).isSome]) ?_;have yp:cl i<(ksF key (i+1)).length:=by rw[hX];exact qHp O1
  have xd:=qMj (key:=key) (i+1);refine qA (uD ([12]++range' 53 18) (fun(z:Option Addr×Nat) F=>F.put 12 (Iv (cl i:Int))) (fun z w'=>SVL z.1 z.2 (lm (ksF key (i+1)).length (cnt cl i))∧Hp W [] w' [qG eB 5 1 s9 c9 (qAt d e d.Q.length),blk b8 6 (qE (eEn e)) 94,qG eN 3 1 sC cC (lm i cl),qG eN 3 1 sP cP (lm i fun i=>cnt cl i (cl i)),qG eN 3 1 z.1 z.2 (lm (ksF key (i+1)).length (cnt cl i)),yA kStr mp (kmF key (i+1)),blk fb 22 (qE (fC d [.slice s l.length c,.slice sC i cC,.slice sP i cP,.slice z.1 (ksF key (i+1)).length z.2,Zs,Zs,Zs,Zs,Zs])) 179,blk bd 13 (qE d.L) 28]) ?_ ?_)
  ·by_cases hm:key i∈ksF key i
   ·rw[jKn hm];rw[jF3 hm,←(qIs hm).2] at hp;rw[←(qIs hm).2] at hE;refine tJ ?_;exact⟨(sS,cS),qB O5 (by rw[hX];rfl),hE,hp⟩
   rw[jPg hm];obtain⟨zc,zi⟩:=qRw hm;have xb:(ksF key (i+1)).length=(ksF key i).length+1:=by rw[zi,aY];rfl
   have yq:cnt cl i (ksF key i).length=0:=qUg fun j hj e=>by
    have:=qHp (key:=key) hj;rw[hP] at e;omega
   have xc:lm (ksF key i).length (cnt cl i)++[0]=lm (ksF key (i+1)).length (cnt cl i):=by rw[xb,lm_succ,yq]
   refine jB O (qA ?_);refine wlp (qEb hp 0 O hQ O O) (aQ _ h3.symm) (qA ?_);refine tO (qIy hp 5 O O O O mT Tryz.underlying9) fun w9 hp=>?_;have hp:Hp W [] w9 [_,_,_,_,_,yA _ mp (fun k=>if k=_ then some (.int _ _) else kmF _ i k),_,_]:=hp;have ea:(fun k=>if k=key i then some (Iv ((ksF key i).length)) else kmF key i k)=kmF key (i+1):=by
    rw[←jKo hm,zc]
   rw[ea] at hp;refine qA ?_;refine tF (jC (cs:=[.int _ 0]) hp O O O O O O O) fun ur nb hp=>tFb (jV eN _ 0 hp 5 0 O O O O O O (fun _=>O) (by rw[qT];rfl) O O hE O O (by rw[qT];omega)) fun gg sa ca⟨hF,hp⟩=>?_;have hp:=hp.H;rw[xc] at hF hp⊢;rw[qT];refine qA (tO (jD hp 6 O O O O (qD O) O) fun gh hp=>?_);refine qA ?_;exact⟨(sa,ca),qB O5 (by rw[hX,zc];rfl),hF,hp⟩
  clear hp hE;rintro u3 ⟨sa,ca⟩ gm ⟨hF,hp⟩;simp[] at hF;have hp:Hp W [] _ [_,_,_,_,qG eN 3 1 sa ca _,_,blk fb 22 (qE (fC d [_,_,_,.slice sa _ ca,_,_,_,_,_])) 179,_]:=hp;have hp:=hp.H.H;refine qA ?_;refine tF (jC (cs:=[.int _ _]) hp O O O O O O O) fun gj nb hp=>tFb (jV eN _ _ hp 1 0 O O O O O O (fun _=>O) (by rw[qT];rfl) O O hK O O (by rw[qT];omega)) fun gn sc cf⟨hZ,hp⟩=>?_;have hp:=hp.H;have hp:Hp W [] _ [_,_,_,_,_,_]:=hp;rw[←lm_succ] at hZ hp⊢;rw[qT];refine tT fun hh hp=>?_;have hp:=hp.norm 4 (fC d [.slice s _ c,.slice _ _ _,.slice sP i cP,.slice _ _ _,.slice _ 0 0,.slice _ 0 0,.slice _ 0 0,.slice _ 0 0,.slice _ 0 0]) O O;have hp:Hp W [] _ [_,_,_,_,_,_]:=hp;have xa:lm (ksF key (i+1)).length (cnt cl i)≠[]:=fun e=>by
   have:=aQ List.length e;rw[qT,mO] at this;omega
  obtain⟨gS,rfl⟩:=hF.addr xa;have cc:∀{w':World} {L:List _},Hp W [] w' L→_=some (qG eN 3 1 _ _ _)→w'.cell? ⟨gS,0+_,_⟩=_:=fun h1 h2=>zM (qZ h1 2 h2 hF (fun _=>O)) yp 0 _ O
  refine qA ?_;have q1:=hp;have cj:hh.cell? ⟨fb,0+15,_⟩=some (.slice sP i cP):=hp.cell 4 O O;have cg:hh.cell? ⟨fb,0+16,_⟩=some (.slice _ _ ca):=hp.cell 4 O O;have ce:=cc hp O;have ap:=hp.k7 (i:=1) O (j:=4) O O1 O;have aa:gS∉zG _:=hp.k7 (i:=1) O (j:=2) O O1 O;have hp:=q1.k6 1 O;refine xL 16 O jG O3 (fun w'=>Keeps _ _ w') hp.N.C ?_;have hp:=hp.N;refine qX ?_;apply wdp;exact O;intro w hk;exact qS O O (hk.cell cj ap);exact O;refine qX ?_;apply wdp;exact O;intro w hk;exact qS O O (hk.cell cg ap);exact O;refine qX ?_;apply wdp;exact O;intro w hk;exact qS O O (hk.cell ce aa);exact O;apply wds;exact O;exact jC (cs:=[.int _ _]) hp O O O O O O O;rintro _ hx ⟨nb2,rfl,hp⟩;refine⟨hp.C,?_⟩;apply wds;exact O;exact jV eN (lm i fun i=>cnt cl i (cl i)) (cnt cl i (cl i)) hp 1 0 O O O O O O (fun _=>O) (by rw[qT];rfl) O O ue O O (by rw[qT];omega);rintro _ hy ⟨sd,ci,rfl,hY,hp⟩;refine⟨hp.C,?_⟩;have hp:=hp.H;rw[←lm_succ] at hY⊢;rw[qT];have hp:Hp _ _ _ [_]:=hp;rw[←lm_succ] at hp;refine qX (qU ?_);have hp:=q1.j8 1 O hp;refine StepF.mono (jD hp 4 O O O O (qD O) O) ?_;rintro _ h4 ⟨rfl,hp⟩;have hp:=hp.norm 4 (fC d [.slice s _ c,.slice _ _ _,.slice _ _ _,.slice _ _ _,.slice _ 0 0,.slice _ 0 0,.slice _ 0 0,.slice _ 0 0,.slice _ 0 0]) O O;have hp:Hp W [] _ [_,_,_,_,_,_]:=hp;have ce:=cc hp O;have xf:=qRv cl (cl i) i;refine tM (cnt cl i (cl i)+1) ?_;refine qA (tO (zL eN _ _ _ hp 2 O hF (by rw[qT];omega) O O (fun _=>O) O O (qD O)) fun h6 hp=>?_);have hp:Hp W [] _ [_,_,_,_,_,_]:=hp;have hT:(lm (ksF key (i+1)).length (cnt cl i)).set (cl i) (cnt cl i (cl i)+1)=lm (ksF key (i+1)).length (cnt cl (i+1)):=by
   rw[vF];refine jH fun j _=>?_
   show _=cnt cl i j+if cl i=j then 1 else 0
   by_cases hj:j=cl i
   ·grind
   rw[if_neg hj,if_neg (fun e=>hj e.symm)];rfl
  rw[hT] at hp;refine gA0 ?_;exact⟨(i+1,(sc,cf),(sd,ci),(Ad gS,ca)),qB O5 O,⟨O1,hZ,hY,jZ hF (by grind),hp⟩,O1⟩
 obtain rfl:l.length=i:=by
  omega
 refine qA ?_;refine tF (yE eBo _ hp O O O O O O O O1 O) fun w5 gD⟨hS,hp⟩=>?_;rw[qAn] at hp hS;refine tT fun w6 hp=>?_;refine qA ?_;refine tF (qLg eOQ none hp O O O O O O O O1) fun w7 gX⟨hL,hp⟩=>?_;rw[qAn] at hp hL;refine qA (tO (jD hp 6 O O O O (qD O) O) fun w8 hp=>?_);refine qA ?_;exact qM O O ⟨_,O,fb,sC,cC,sP,cP,sS,cS,gD,gX,O,hK,ue,hE,hS,hL,hp.k5 [0,1,6,2,3,4] _ O2 O⟩
end Go.Proofs.YtplkndjlfkkjlaaGreatDoor
namespace Go.Eng
open List (range range' replicate)
theorem Hp.z6{α:Type}{enc:α→List Value}{w0 w:World}{M:List Nat}{L:List Ent}(hp:Hp w0 M w L)(i:Nat){b k e:Nat}(x:α)(hi:L[i]? =some (blk b k (qE (enc x)) e))(hk:(enc x).length=k):Hp w0 M w (L.set i (qG enc e k (Ad b) 1 [x])):=by
 refine hp.y5 hi fun o ho=>?_
 subst ho;refine⟨_,O,by simp[jAm],?_⟩;have h1:=Go.Eng.frL (enc x);rw[hk] at h1;have h2:(Array.ofFn (n:=k) fun i=>qE (enc x) i).toList=enc x:=by
  refine Eq.trans ?_ h1;apply eF;intro j;by_cases hj:j<k
  ·simp[hj]
  simp[hj]
 rw[h2,show[x].length*k=k from lR k,bR O1];simp
theorem qKf{α:Type}{b:Nat}(x:α):SVL (Ad b) 1 [x]:=.inr ⟨b,1,O,bM _,O2⟩
end Go.Eng
namespace Go.Lp
open List (range range' replicate)
theorem qTs(cl:Nat→Nat){P:List Nat}{i x:Nat}(h:P[i]? =some x)(c:Nat):jX cl (P.take (i+1)) c=jX cl (P.take i) c+if cl x=c then 1 else 0:=by
 obtain⟨hi,e⟩:=aH.1 h;unfold jX;rw[aG hi,lL,e];simp
theorem jB8(cl:Nat→Nat)(P:List Nat)(c:Nat):jX cl P c≤P.length:=lJ
end Go.Lp
namespace Go.Proofs.YtplkndjlfkkjlaaGreatDoor
open List (range range' replicate)
open Tryz
open Go.Eng Go.Dig Go.Lp Go.Qu
variable{w:World}{s:Sr}{w0:World}{M:List Nat}
structure FrS where
 d:DW
 sE:Option Addr
 cE:Nat
 n:Nat
 cl:Nat→Nat
 plc:Nat→Nat
variable{c:FrS}
structure FrA where
 fb:Nat
 sC:Option Addr
 cC:Nat
 sP:Option Addr
 cP:Nat
 sS:Option Addr
 cS:Nat
 gD:Nat
 gX:Nat
 sK:Option Addr
 cK:Nat
 gk:Nat→Nat
 sW:Option Addr
 nW:Nat
 cW:Nat
 sL:Option Addr
 cL:Nat
 lr:Nat→Option Addr×Nat
variable{a:FrA}
def lv0:Rat×(Nat→Rat):=(0,fun _=>0)
def FrA.C(a:FrA)(c:FrS)(nc K nl:Nat):List Value:=fC c.d [.slice c.sE c.n c.cE,.slice a.sC c.n a.cC,.slice a.sP c.n a.cP,.slice a.sS nc a.cS,.slice a.sK K a.cK,.slice (some ⟨a.gD,0,none⟩) nc nc,.slice (some ⟨a.gX,0,none⟩) nc nc,.slice a.sW a.nW a.cW,.slice a.sL nl a.cL]
def kH(gk:Nat→Nat)(nc K:Nat):List (Option Addr×Nat×Nat):=lm K fun j=>(some ⟨gk j,0,none⟩,nc,nc)
def qGr(gk:Nat→Nat)(nc:Nat)(κ:Nat→Nat→Nat)(j:Nat):Ent:=qG eN 3 1 (some ⟨gk j,0,none⟩) nc (lm nc (κ j))
def eLH(x:Rat×Option Addr×Nat×Nat):List Value:=eQ x.1++[.slice x.2.1 x.2.2.1 x.2.2.2]
def lH(lr:Nat→Option Addr×Nat)(n:Nat)(lv:List (Rat×(Nat→Rat))):List (Rat×Option Addr×Nat×Nat):=lm lv.length fun j=>((lv.getD j lv0).1,(lr j).1,n,(lr j).2)
def qDi(lr:Nat→Option Addr×Nat)(n:Nat)(lv:List (Rat×(Nat→Rat)))(j:Nat):Ent:=qG eQ 49 3 (lr j).1 (lr j).2 (lm n (lv.getD j lv0).2)
def pO(s:Sr)(c:Nat):Option Rat:=if s.dec c then some (s.p c) else none
def frL(a:FrA)(c:FrS)(s:Sr)(lv:List (Rat×(Nat→Rat))):List Ent:=[blk a.fb 22 (qE (a.C c s.nc s.K lv.length)) 179,qG eN 3 1 a.sC a.cC (lm c.n c.cl),qG eN 3 1 a.sP a.cP (lm c.n c.plc),qG eN 3 1 a.sS a.cS (lm s.nc s.S),qG jO 22 1 a.sK a.cK (kH a.gk s.nc s.K),
 qG eBo 4 1 (some ⟨a.gD,0,none⟩) s.nc (lm s.nc s.dec),qG eOQ 49 3 (some ⟨a.gX,0,none⟩) s.nc (lm s.nc (pO s)),qG eLH 204 4 a.sL a.cL (lH a.lr c.n lv)]++(lm s.K (qGr a.gk s.nc s.κ)++lm lv.length (qDi a.lr c.n lv))
structure FrOk(a:FrA)(c:FrS)(s:Sr)(lv:List (Rat×(Nat→Rat))):Prop where
 C:SVL a.sC a.cC (lm c.n c.cl)
 P:SVL a.sP a.cP (lm c.n c.plc)
 S:SVL a.sS a.cS (lm s.nc s.S)
 K:SVL a.sK a.cK (kH a.gk s.nc s.K)
 D:SVL (some ⟨a.gD,0,none⟩) s.nc (lm s.nc s.dec)
 X:SVL (some ⟨a.gX,0,none⟩) s.nc (lm s.nc (pO s))
 L:SVL a.sL a.cL (lH a.lr c.n lv)
 k:∀j,j<s.K→SVL (some ⟨a.gk j,0,none⟩) s.nc (lm s.nc (s.κ j))
 l:∀j,j<lv.length→SVL (a.lr j).1 (a.lr j).2 (lm c.n (lv.getD j lv0).2)
structure FrR(a:FrA)(c:FrS)(s:Sr)(w:World):Prop where
 hd:∀(j:Nat) (v:Value),c.d.L[j]? =some v→w.cell? ⟨a.fb,0+j,none⟩=some v
 h13:w.cell? ⟨a.fb,0+13,none⟩=some (.slice c.sE c.n c.cE)
 h14:w.cell? ⟨a.fb,0+14,none⟩=some (.slice a.sC c.n a.cC)
 h15:w.cell? ⟨a.fb,0+15,none⟩=some (.slice a.sP c.n a.cP)
 h16:w.cell? ⟨a.fb,0+16,none⟩=some (.slice a.sS s.nc a.cS)
 h17:w.cell? ⟨a.fb,0+17,none⟩=some (.slice a.sK s.K a.cK)
 h18:w.cell? ⟨a.fb,0+18,none⟩=some (.slice (some ⟨a.gD,0,none⟩) s.nc s.nc)
 h19:w.cell? ⟨a.fb,0+19,none⟩=some (.slice (some ⟨a.gX,0,none⟩) s.nc s.nc)
 h20:w.cell? ⟨a.fb,0+20,none⟩=some (.slice a.sW a.nW a.cW)
 C:SlAt w 1 eN a.sC (lm c.n c.cl)
 P:SlAt w 1 eN a.sP (lm c.n c.plc)
 S:SlAt w 1 eN a.sS (lm s.nc s.S)
 K:SlAt w 1 jO a.sK (kH a.gk s.nc s.K)
 k:∀j,j<s.K→SlAt w 1 eN (some ⟨a.gk j,0,none⟩) (lm s.nc (s.κ j))
 D:SlAt w 1 eBo (some ⟨a.gD,0,none⟩) (lm s.nc s.dec)
 X:SlAt w 3 eOQ (some ⟨a.gX,0,none⟩) (lm s.nc (pO s))
theorem FrR.j5{w':World}(h:FrR a c s w)(hk:Keeps [] w w'):FrR a c s w':=
 ⟨fun j v e=>hk.cell (h.hd j v e) O4,hk.cell h.h13 O4,hk.cell h.h14 O4,hk.cell h.h15 O4,hk.cell h.h16 O4,hk.cell h.h17 O4,hk.cell h.h18 O4,hk.cell h.h19 O4,hk.cell h.h20 O4,
  h.C.j6 hk,h.P.j6 hk,h.S.j6 hk,h.K.j6 hk,fun j hj=>(h.k j hj).j6 hk,h.D.j6 hk,h.X.j6 hk⟩
theorem qFb{α:Type}{L:List Ent}{e k c:Nat}{enc:α→List Value}{s:Option Addr}{l:List α}(hp:Hp w0 M w L)(hm:qG enc e k s c l∈L)(hv:SVL s c l)(hk:∀x,(enc x).length=k):SlAt w k enc s l:=by
 obtain⟨i,hi⟩:=fG hm;exact qZ hp i hi hv hk
theorem FrR.of{lv:List (Rat×(Nat→Rat))}{Y:List Ent}(hp:Hp w0 M w (frL a c s lv++Y))(ok:FrOk a c s lv):FrR a c s w:=by
 have hp:=hp.sub (dT _ _);refine⟨fun j v e=>?_,hp.cell 0 O O,hp.cell 0 O O,hp.cell 0 O O,hp.cell 0 O O,hp.cell 0 O O,hp.cell 0 O O,hp.cell 0 O O,hp.cell 0 O O,qZ hp 1 O ok.C (fun _=>O),qZ hp 2 O ok.P (fun _=>O),qZ hp 3 O ok.S (fun _=>O),qZ hp 4 O ok.K (fun _=>O),fun j hj=>?_,qZ hp 5 O ok.D (fun _=>O),qZ hp 6 O ok.X qKx⟩
 ·refine hp.j3 0 O O j v ?_;show(c.d.L++_)[j]? =some v
  grind
 exact qFb hp (aU _ (dB _ (bD.2 ⟨j,aO.2 hj,O⟩))) (ok.k j hj) (fun _=>O)
attribute [local irreducible] PV StepF wpl wpd WP Ret
attribute [local irreducible] Fit
set_option maxHeartbeats 2000000 in
theorem r97(a:FrA)(c:FrS)(s:Sr)(lv:List (Rat×(Nat→Rat)))(P:List Nat)(sQ:Option Addr)(cQ:Nat)(M:List Nat)(W:World)(ok:FrOk a c s lv)(hp:Hp W M W (frL a c s lv))(hs:SlAt W 1 eN sQ P)(hP:∀i∈P,i<c.n)(hg:∀i,i<c.n→c.cl i<s.nc)
  (h4:s.nc≤1000) (h3:P.length≤1000) (hK:s.K≤100000):
  Rt 97 [.pointer (some ⟨a.fb,0,none⟩),.slice sQ P.length cQ] W (fun _ w'=>∃sK cK gk,FrOk {a with sK:=sK,cK:=cK,gk:=gk} c (s.o4 (jX c.cl P)) lv∧Hp W M w' (frL {a with sK:=sK,cK:=cK,gk:=gk} c (s.o4 (jX c.cl P)) lv)):=by
 have hR:=FrR.of (by rw[bH];exact hp) ok;have mw:=hp;refine tW func97 ntmps97 fun hp=>?_;have h16:=hR.h16;have h14:=hR.h14;refine qA ?_;refine tF (yE eN 0 hp O O O O O O O O1 O) fun w1 g⟨hv,hp⟩=>?_;rw[qAn] at hp hv;have sa:∀f:Nat→Nat,SVL _ _ (lm _ f):=fun f=>jZ hv (by rw[qT,qT])
 have hp:Hp W [] w1 [qG eN 3 1 _ _ (lm _ (jX c.cl (P.take 0)))]:=hp;refine qA (qQ ([6]++range' 15 17) (fun(k:Nat) F=>F.put 15 (.int _ k)) (fun k w'=>k≤P.length∧Hp W [] w' [qG eN 3 1 _ _ (lm _ (jX _ (P.take k)))]) (fun k=>P.length-k) 0 (qB (Same.eq .refl) O) ⟨O1,hp⟩ ?_);clear hp;rintro u k w2 ⟨hk,hp⟩;refine tI (fun h=>?_) fun h=>?_
 ·have hl:k<P.length:=O1;obtain⟨x,hx⟩:∃x,P[k]? =some x:=⟨_,aA hl⟩;have ht:=hP x (aI hx);have h8:=hg x ht;obtain⟨bs,os,hh,hc⟩:=hs k x hx;have yq:w2.cell? ⟨bs,os+k*1,_⟩=_:=hp.j7 (hc 0 _ O);obtain⟨bc,oc,xq,bA⟩:=jR hR.C ht;have sY:w2.cell? ⟨bc,oc+x*1,_⟩=_:=hp.j7 (bA 0 _ O);have qp:w2.cell? ⟨g,0+_,_⟩=_:=zM (qZ hp 0 O (sa _) (fun _=>O)) h8 0 _ O;have yw:=jB8 c.cl (P.take k) (c.cl x);rw[bV] at yw;have h5:=hp.j7 h14;refine tM (jX c.cl (P.take k) (c.cl x)+1) ?_;refine qA (tO (zL eN _ _ _ hp 0 O (sa _) (by rw[qT];omega) O O (fun _=>O) O O (qD O)) fun w3 hp=>?_);have hT:(lm s.nc (jX c.cl (P.take k))).set (c.cl x) (jX c.cl (P.take k) (c.cl x)+1)=lm s.nc (jX c.cl (P.take (k+1))):=by
   rw[vF];refine jH fun j _=>?_
   rw[qTs c.cl hx j];by_cases hj:j=c.cl x
   ·grind
   rw[if_neg hj,if_neg (fun e=>hj e.symm)];rfl
  rw[hT] at hp;exact mB9
 obtain rfl:P.length=k:=O1;rw[dE] at hp;have hp:=mw.join hp;have hp:=hp;have h7:(kH a.gk s.nc _).length=s.K:=qT;refine qA ?_;refine tF (jC (cs:=[.slice _ _ _]) hp O O O O O O O) fun w3 nb hp=>tFb (jV jO _ (some _,s.nc,s.nc) hp 6 0 O O O O O O (fun _=>O) (by rw[h7];rfl) O O ok.K O O O1) fun w4 sc ca⟨hz,hp⟩=>?_;have hp:=hp.H;obtain⟨gb,h9⟩:∃gb:Nat→Nat,gb=fun j=>if j=s.K then g else a.gk j:=⟨_,O⟩
 have h6:∀j,j<s.K→gb j=a.gk j:=fun j hj=>by grind
 have hq:gb s.K=g:=by rw[h9];exact if_pos O
 have hn:∀j,j<s.K→(s.o4 (jX c.cl P)).κ j=_:=fun j hj=>if_neg O1
 have hm:(s.o4 _).κ _=jX c.cl P:=if_pos O;have eH:kH a.gk s.nc s.K++[((Ad g),s.nc,s.nc)]=kH gb s.nc (s.K+1):=by
  unfold kH;rw[lm_succ,hq,jH (f:=fun j=>((some ⟨a.gk j,0,none⟩:Option Addr),s.nc,s.nc)) (g:=fun j=>((some ⟨gb j,0,none⟩:Option Addr),s.nc,s.nc)) (fun j hj=>by grind)]
 have eR:lm s.K (qGr a.gk s.nc s.κ)++[qG eN 3 1 (Ad g) s.nc (lm s.nc (jX c.cl P))]=lm (s.K+1) (qGr gb s.nc (s.o4 (jX c.cl P)).κ):=by
  rw[lm_succ];congr 1
  ·exact jH fun j hj=>by unfold qGr;grind
  unfold qGr;rw[hq,hm]
 have hy:(kH a.gk s.nc s.K++[((Ad g:Option Addr),s.nc,s.nc)]).length=s.K+1:=by rw[aY,h7];rfl
 rw[hy];rw[eH] at hz;refine tT fun w5 hp=>?_;have hp:=hp.norm 1 ({a with sK:=sc,cK:=ca,gk:=gb}.C c _ _ _) O O
 have hp:Hp W M w5 ([_]++([_,_,_,_,_,
  _,_,_]++_)):=hp
 rw[eH] at hp;have hp:=hp.perm (eP);rw[bQ,bQ] at hp;have hp:=hp.perm ((rG _ (eP)).append_left _);rw[←bQ (lm _ _),eR] at hp;refine qA ?_
 exact xK O ⟨_,O,sc,ca,gb,⟨ok.C,ok.P,ok.S,hz,ok.D,ok.X,ok.L,fun j hj=>by
  show SVL (some ⟨gb j,0,_⟩) s.nc (lm s.nc _)
  rcases dJ.1 (show j<s.K+1 from hj) with h|rfl
  ·rw[h6 j h,hn j h];exact ok.k j h
  grind,ok.l⟩,hp⟩
end Go.Proofs.YtplkndjlfkkjlaaGreatDoor
