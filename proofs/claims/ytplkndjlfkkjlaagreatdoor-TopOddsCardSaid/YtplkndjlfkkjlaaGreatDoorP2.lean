/- Merged texts of ours; conditions are the hypotheses of each law. -/
import Derived.Test.YtplkndjlfkkjlaaGreatDoorP1
import Derived.OrdersIn
namespace Go.Eng
open List (range range' replicate)
open Go.Proofs.Tryz
set_option maxHeartbeats 4000000
variable{a:Nat}
section
theorem qW9:gP=2305843009213691579:=O
theorem IZ:gQ=1152921504606845789:=O
theorem JY(b e):b^e%gP<2305843009213691579:=dY _ O2
theorem Gl(h:Mb a):a<2305843009213691579:=h.2.1
theorem jMn(x g h):Bq x g h<1152921504606845789∧Bi x g h<1152921504606845789∧CX x g h<1152921504606845789:=⟨jD6 _,jD6 _,dY _ O2⟩
attribute [local irreducible] PV gx kq kn WP km
attribute [local irreducible] Fit ki uY hv BI Lib.join Bq Bi CX Mb
theorem p71(x k g xb kb:Nat)(w:World)(hx:x<1152921504606845789)(hk:k<1152921504606845789)(hg:g<2305843009213691579)(h1:w.cell? ⟨xb,0,none⟩=some (Iv (x:Int)))(h2:w.cell? ⟨kb,0,none⟩=some (Iv (k:Int))):
  Rk 154 [Iv (g:Int),.pointer (Ad xb),.pointer (Ad kb)] w (.tuple #[Iv ((g^x%gP:Nat):Int),Iv ((g^k%gP:Nat):Int)]):=by
 refine tW func154 ntmps154 fun hp=>?_;refine tY fun hp=>?_;refine tH (FA g x 2305843009213691579 _ O1 O1 O2 O2) fun w1 hp=>?_;refine tH (FA g k 2305843009213691579 _ O1 O1 O2 O2) fun w2 hp=>?_;refine qX (qU ?_);refine qR ?_;exact xU O O O ⟨_,O,O,hp.Z⟩
theorem p26(x g h:Nat)(w:World)(hT:Ai w)(hx:x<1152921504606845789)(hg:Mb g)(hh:Mb h):
  Rk 90 [Iv (x:Int),Iv (g:Int),Iv (h:Int)] w (.agg (PQ x g h).toArray):=by
 have qj:=Gl hg;have qk:=Gl hh;have⟨hS,hP,x1⟩:=jMn x g h;have hz:CX x g h=(Bq x g h+Bi x g h*x%gQ)%gQ:=by unfold CX;rfl
 have ze:Bq x g h=BI (bl (GJ ⟨#[110,111,110,99,101]⟩ [x,g,h])):=by unfold Bq;rfl
 have re:Bi x g h=BI (bl (GJ ⟨#[101,113,117,97,108]⟩ [g,g^x%gP,h,h^x%gP,g^Bq x g h%gP,h^Bq x g h%gP])):=by unfold Bi;rfl
 refine tW func90 ntmps90 fun hp=>?_;refine vK fun w b hp=>?_
 refine tC (Ic g _ hg) fun w1 hp=>?_;refine jM ?_;refine jM ?_;refine BT ?_;refine tC (Ic h _ hh) fun w2 hp=>?_;refine BT (tR (yT O O) ?_);refine qR ?_;refine tJ ?_;refine tC (p49 x 0 1152921504606845789 _ O1 O1 O2 O2 O2 O2) fun w3 hp=>?_;have e1:((x:Int)+0)%(1152921504606845789:Nat)=x:=O1;rw[e1];refine vK fun w b hp=>?_
 refine tF (jC (cs:=[x,g,h].flatMap eN) hp O O O O O O O) fun w6 nb hp=>?_;have qd:ig w6 1 eN _ _:=G7 _ hp 0 O (fun _=>O)
 (apply Ax;exact qC O RI O (TW _ _ _ 3 _ (hT.j1 hp.Z) qd O2 O4 (by
  intro y hy;rcases aP.1 hy with rfl|hy
  ·omega
  grind));rintro _ w7 ⟨rfl,hk⟩;have hp:=hp.V hk)
 rw[←ze];have hp:=hp.E;refine vK fun w b hp=>?_
 refine tC (p71 x _ g _ _ _ hx hS qj (hp.J 1 O O) (hp.J 0 O O)) fun w8 hp=>?_;refine tD (p71 x _ h _ _ _ hx hS qk (hp.J 1 O O) (hp.J 0 O O)) fun w9 hp=>?_;refine qA ?_;have b1:=JY g x;have b2:=JY h x;have b3:=JY g (Bq x g h);have b4:=JY h (Bq x g h);refine tF (jC (cs:=[g,_,h,_,_,_].flatMap eN) hp O O O O O O O) fun uy nb hp=>?_;have qd:ig _ 1 eN _ _:=G7 _ hp 0 O (fun _=>O)
 (apply Ax;exact qC O RI O (TW ⟨#[101,113,117,97,108]⟩ [g,g^x%gP,h,h^x%gP,g^Bq x g h%gP,h^Bq x g h%gP] (Ad nb) 6 _ (hT.j1 hp.Z) qd O2 O4 (by
  intro y hy;simp[aP,List.not_mem_nil,HA] at hy
  omega));rintro _ uz ⟨rfl,hk⟩;have hp:=hp.V hk)
 rw[←re];have hp:=hp.E;refine qA ?_;refine jU jG O3 (fun w'=>Hp _ _ w' _) hp.U ?_;have hp:=hp.U;refine tH (Gu (Bi x g h) x 1152921504606845789 _ O1 O1 O1 O1 O2 O2) fun u0 hp=>?_;have e3:(Bi x g h:Nat)*(x:Int)%(1152921504606845789:Nat)=(Bi x g h*x%gQ:Nat):=by rw[iI,dM,IZ]
 refine tG (p49 (Bq x g h) (Bi x g h*x%gQ:Nat) 1152921504606845789 _ O1 O1 O1 O1 O2 O2) fun u5 hp=>?_;have e5:((Bq x g h:Nat)+(Bi x g h*x%gQ:Nat))%(1152921504606845789:Nat)=(CX x g h:Int):=by
  rw[hz,←pK];exact(iI _ _).symm
 rw[e5];refine qX ?_;refine tS fun u2 hp=>qU ?_;refine qA ?_;exact zJ O O O O (hp.j2 2 O O) ⟨_,O,O,hp.Z⟩
theorem jWg(b a c z pb:Nat)(w:World)(hb:b<2305843009213691579)(ha:a<2305843009213691579)(hc:c<1152921504606845789)(hz:z<1152921504606845789)(h1:w.cell? ⟨pb,0,none⟩=some (Iv (c:Int)))(h2:w.cell? ⟨pb,1,none⟩=some (Iv (z:Int))):
  Rt 197 [Iv (b:Int),Iv (a:Int),.pointer (Ad pb)] w (fun v w'=>v= .int .i64 (((b^z%gP)*(a^(gQ-c)%gP)%gP:Nat):Int)∧ax [] w w'):=by
 rw[qW9,IZ];refine tW func197 ntmps197 fun hp=>?_;refine tY fun hp=>?_;refine tH (FA b z 2305843009213691579 _ O1 O1 O2 O2) fun w1 hp=>?_;refine qX ?_;refine tN (1152921504606845789-c) ?_;refine tG (FA a (1152921504606845789-c) 2305843009213691579 _ O1 O1 O2 O2) fun w2 hp=>?_;apply Ag;rfl;exact qC O qH5 O (Gu _ _ 2305843009213691579 _ O1 O1 O1 O1 O2 O2);rintro _ w3 ⟨rfl,hk⟩;have hp:=hp.V hk;refine⟨hp,qX (qU ?_)⟩;refine qR ?_;refine qM O O ⟨_,O,aK (Value.int _) ?_,hp.Z⟩;omega
theorem p72(x g h:Nat)(w:World)(hT:Ai w)(hx:x<1152921504606845789)(hg:Mb g)(hh:Mb h):
  Rk 148 [Iv (g:Int),Iv ((g^x%gP:Nat):Int),Iv (h:Int),Iv ((h^x%gP:Nat):Int),.agg (PQ x g h).toArray] w (.bool true):=by
 have qj:=Gl hg;have qk:=Gl hh;have ha:=LB hg x;have hb:=LB hh x;have qm:=Gl ha;have zr:=Gl hb;have⟨hS,hP,x1⟩:=jMn x g h;have hz:CX x g h=(Bq x g h+Bi x g h*x%gQ)%gQ:=by unfold CX;rfl
 have re:Bi x g h=BI (bl (GJ ⟨#[101,113,117,97,108]⟩ [g,g^x%gP,h,h^x%gP,g^Bq x g h%gP,h^Bq x g h%gP])):=by unfold Bi;rfl
 have s1:=Y9 (x:=x) (k:=Bq x g h) (c:=Bi x g h) hg (by rw[IZ];omega);have s2:=Y9 (x:=x) (k:=Bq x g h) (c:=Bi x g h) hh (by rw[IZ];omega);rw[←hz] at s1 s2;have b3:=JY g (Bq x g h);have b4:=JY h (Bq x g h);have hV:PQ x g h=[Iv (Bi x g h),Iv (CX x g h)]:=by unfold PQ;rfl
 rw[hV];generalize e1:g^x%gP=a at*
 generalize e2:h^x%gP=a2 at*
 generalize g^Bq x g h%gP=r at*
 generalize h^Bq x g h%gP=s at*
 generalize Bi x g h=c at*
 generalize CX x g h=z at*
 clear hz hV;refine tW func148 ntmps148 fun hp=>?_;refine vK fun w b hp=>?_
 refine tK (Ic g _ hg) ?_;rintro _ w1 ⟨rfl,hk⟩;have hp:=hp.V hk;refine jM ?_;refine jM ?_;refine BT ?_;refine tK (Ic a _ ha) ?_;rintro _ w2 ⟨rfl,hk⟩;have hp:=hp.V hk;refine BT (tR (yT O O) ?_);refine jM ?_;refine BT ?_;refine tK (Ic h _ hh) ?_;rintro _ w3 ⟨rfl,hk⟩;have hp:=hp.V hk;refine BT (tR (yT O O) ?_);refine jM ?_;refine BT ?_;refine tK (Ic a2 _ hb) ?_;rintro _ w4 ⟨rfl,hk⟩;have hp:=hp.V hk;refine BT (tR (yT O O) ?_);refine qR (qN O ?_);refine Cj ?_;refine ke (zQ O O) (qV (aB O1)) (jM ?_);refine Hd ?_;apply vX;rfl;rfl;exact xJ O O;exact qV (aB O1);refine tR (yT O O) ?_;refine jM ?_;refine Hd ?_;apply vX;rfl;rfl;exact zQ O O;exact qV (aB O1);refine tR (yT O O) ?_;refine jM ?_;refine Hd ?_;apply vX;rfl;rfl;exact xJ O O;exact qV (aB O1);refine tR (yT O O) (qR ?_);refine tJ ?_;refine tX fun hp=>?_;refine qX ?_;refine tK (jWg g a c z _ _ qj qm hP x1 (hp.J 0 O O) (hp.J 0 O O)) ?_;rintro _ w5 ⟨rfl,hk⟩;have hp:=hp.V hk;refine⟨hp,?_⟩;rw[s1];refine qX ?_;refine tK (jWg h a2 c z _ _ qk zr hP x1 (hp.J 0 O O) (hp.J 0 O O)) ?_;rintro _ w6 ⟨rfl,hk⟩;have hp:=hp.V hk;refine⟨hp,?_⟩;rw[s2];apply Ag;rfl;exact jC (cs:=[g,a,h,a2,r,s].flatMap eN) hp O O O O O O O;rintro _ w7 ⟨nb,rfl,zo⟩;refine⟨zo.E,?_⟩;have qd:ig w7 1 eN _ _:=G7 _ zo 0 O (fun _=>O)
 (apply Ag;rfl;exact qC O RI O (TW _ _ _ 6 _ (hT.j1 zo.Z) qd O2 O4 (by
  grind));rintro _ w8 ⟨rfl,hk⟩;have hp:=(zo.V hk).tail;refine⟨hp,?_⟩)
 rw[←re];refine kp O (fun w hp=>zW O O) (qV (aD O)) (qX ?_);refine qU (tV ?_);exact FM
end
variable{F:Fr}{M:List Nat}{P:Program}{QA:Exit→Act→World→Prop}{W' w w0:World}{assign body:Code}{b p q sz:Nat}{ds:List Deferred}{gf:FuncId}{lb:List Value}{n:ky}{qz:Operand}{α:Type}
def MK{α:Type}(P:Program)(g:FuncId)(lb:List Value)(enc qp:α→Value)(xs:List α)(M:List Nat)(w:World):Prop:=
 ∀(l:Nat) (J:List α→World→Prop),l<w.heap.size→(∀(a:Addr) (v:Value),w.cell? a=some v→a.block≠l)→
  (∀pre x W1,J pre W1→(∃qo,xs=pre++x::qo)→YieldAt Fence.wide 0 P l #[enc x,qp x] W1 fun e W'=>e= .returned (.bool true)∧J (pre++[x]) W'∧ax (l::M) W1 W')→
  (∀pre W W',J pre W→mw w.heap.size W W'→J pre W')→J [] w→
  km P g (.func (.yield l) #[] #[]::lb) w (fun _ W'=>J xs W')
section
variable{Q:Exit→Fr→World→Prop}
theorem jUo(t:Array Value)(p q:Nat)(v u:Value):((#[p,q]:Array Nat).zip #[v,u]).foldl (fun tmps (t,a)=>tmps.setIfInBounds t a) t=(t.setIfInBounds p v).setIfInBounds q u:=by
 simp
theorem qNk{id}
  (hg:ev ⟨sz,ds,none⟩ F qz= .func (.func gf) #[] lb.toArray) (eg:qI P gf)
  (enc qp:α→Value) (xs:List α) (M:List Nat) (hM:∀k∈M,k<w.heap.size)
  (I:List α→World→Prop) (hI:∀pre W W',I pre W→mw w.heap.size W W'→I pre W') (h0:I [] w)
  (Bk:∀W1,ax [] w W1→W1.heap.size=w.heap.size+2→MK P gf lb enc qp xs M W1) (F1:α→Fr)
  (q7:∀(l:Nat) (x:α) (W:World),WP P ⟨sz,[],some l⟩ assign (fun e F' W'=>e= .normal∧F'=F1 x∧W'=W) ((F.put p (enc x)).put q (qp x)) W)
  (q3:∀(l:Nat) (pre:List α) (x:α) (W:World),(∃qo,xs=pre++x::qo)→I pre W→WP P ⟨sz,[],some l⟩ body (fun e _ W'=>e= .normal∧I (pre++[x]) W'∧ax M W W') (F1 x) W)
  (q1:∀(D:Nat) (W:World),w.heap.size≤D→I xs W→W.heap[D]? =some (.deferred (some []))→QA .normal (act ⟨sz,{target:=.collected D,args:=#[]}::ds,none⟩ F) W):
  BZ P ⟨sz,ds,none⟩ (.block id (.rangeFunc qz #[p,q] assign body)) QA F w:=by
 unfold BZ;rw[ky.k5 O];refine JK (wpIn_rangeFunc ?_);intro fn rb;obtain⟨rec,qs⟩:∃rec:LoopState→Option _→Loop,rec=fun st pe=>{state:=st,pending:=pe,fn,tmps:=(act ⟨sz,ds,none⟩ F).tmps,params:=#[p,q],assign,body,defers:=w.heap.size}:=⟨_,O⟩
 obtain⟨W1,va⟩:∃W1,(w.alloc (.deferred (some []))).alloc (.loop (rec .ready none))=W1:=⟨_,O⟩;have qy:W1.heap[w.heap.size+1]? =some (.loop (rec .ready none)):=by
  exact P8
 have q2:W1.heap[w.heap.size]? =some (.deferred (some [])):=by
  exact P5
 have qt:ax [] w W1:=by
  exact PU
 have hh:W1.heap.size=w.heap.size+2:=by rw[←va];simp
 have ti:mw _ w W1:=⟨qt.os,qt.tape,qt.output,qt.size,fun k hk=>qt.block k hk O4⟩
 refine⟨w.heap.size+1,[{target:=.collected w.heap.size,args:=#[]}],W1,{target:=.fn (.func gf) lb.toArray,args:=#[.func (.yield (w.heap.size+1)) #[] #[]]},W1,gf,
  #[.func (.yield (w.heap.size+1)) #[] #[]]++lb.toArray,W1,?_,?_,fun _ _=>trivial,?_,fun h=>(by cases h),?_⟩
 ·exact P1
 ·exact PX
 ·exact P7
 have hc:=Bk W1 qt hh (w.heap.size+1) (fun pre W=>I pre W∧W.heap[w.heap.size+1]? =some _∧W.heap[w.heap.size]? =some _) O1 (fun a v hc e=>by simp[World.cell?,e,qy] at hc) ?_ ?_ ⟨hI _ _ _ h0 ti,qy,q2⟩
 ·exact UW
 ·rintro pre x W ⟨hi,hl,hk⟩ qw;have ha:=(aM.1 hl).1;have hy:=run_yield (P:=P) (args:=#[enc x,qp x]) hl O6;rw[qs] at hy;rw[←qs] at hy;have aa:((#[p,q]).zip #[enc x,qp x]).foldl (fun tmps (t,a)=>tmps.setIfInBounds t a) (act ⟨sz,ds,none⟩ F).tmps=(act ⟨sz,[],some (w.heap.size+1)⟩ ((F.put p (enc x)).put q (qp x))).tmps:=by
   exact mAm
  refine⟨fn,_,assign,body,by rw[qs] at hy;exact hy,?_⟩;rw[aa];refine roundIn_of_wpIn rb (lA (q7 _ x W) ?_);rintro e a1 w1 ⟨F',rfl,rfl,rfl,rfl⟩;refine⟨_,run_beginRound hl (by rw[qs]),?_⟩;obtain⟨W2,qu⟩:∃W2,W2=w1.putObj (w.heap.size+1) (.loop {rec .ready none with state:=.busy}):=⟨_,O⟩;have qq:W2.heap[w.heap.size+1]? =some (.loop {rec .ready none with state:=.busy}):=by rw[qu];exact World.putObj_heap_same ha
  have zw:W2.heap[w.heap.size]? =some (.deferred (some [])):=by rw[qu];exact(World.putObj_heap_other O1).trans hk
  have ac:I pre W2:=by rw[qu];exact hI _ _ _ hi (mw.put _ _ O1)
  have qv:ax [w.heap.size+1] w1 W2:=by rw[qu];exact yR _ _ _
  rw[←qu];refine lA (q3 _ _ x W2 qw ac) ?_;rintro e a3 W3 ⟨F3,rfl,rfl,ab,zx⟩;have tv:=(aM.1 qq).1;have qx:=(zx.block _ tv (fun hm=>O6)).trans qq;have yr:=(zx.block _ O1 (fun hm=>O6)).trans zw;have hr:=run_endRound (P:=P) none qx;refine⟨_,_,hr,O,⟨hI _ _ _ ab (mw.put _ _ O1),?_,(World.putObj_heap_other O1).trans yr⟩,?_⟩
  ·exact PW
  exact mAz
 exact UM
end
theorem ax.o8{W B}(h:ax M W W')(hB:B≤W.heap.size)(hM:∀k∈M,B≤k):mw B W W':=
 ⟨h.os,h.tape,h.output,h.size,fun k hk=>h.block k O1 (fun hm=>O6)⟩
theorem Jd{c}(S)(hS:CH F S)(h:∀F0:Fr,BZ P n c QA (F0.v6 S) w):BZ P n c QA F w:=by
 rw[Px hS];exact h F
theorem L0{n':ky}{y:Code}(hr:n'.ro=none)(h5:n.ro=none)(h:BZ P n y QA F w):(Exit.then (fun a w=>y.wpIn n'.n6 0 P QA a w) QA) .normal (act n F) w:=by
 rw[ky.k5 hr];unfold BZ at h;rw[ky.k5 h5] at h;exact h
theorem Hp.y6{W}{φ:Obj→Prop}(h:∃o,W.heap[b]? =some o∧φ o):Hp W [b] W [(some b,φ)]:=UG
theorem Hp.p6{L}(h:Hp w0 [] w L){i b:Nat}{φ:Obj→Prop}(hi:L[i]? =some (some b,φ)):w0.heap.size≤b∧b<w.heap.size:=by
 refine⟨?_,h.lt hi O⟩;rcases h.own i _ hi b rfl with h|h
 ·exact h
 cases h
theorem Hp.ne{L}(h:Hp w0 [] w L){i j a b:Nat}{φ ψ:Obj→Prop}(hi:L[i]? =some (some a,φ))(hj:L[j]? =some (some b,ψ))(zn:i≠j):a≠b:=by
 rintro rfl;exact h.dis i j _ _ hi hj zn a O O
variable{G:World→Prop}{K:Act→World→Prop}{ops:Array Oper}{wG:World}
section
variable{nd:Oper→Bool}{Q:Exit→Act→World→Prop}
theorem qS6(hD:G wG)(ht:EX P ops nd=true)(hK:∀a w,K a w→Q .normal a w):∀(fuel:Nat) (listed:Array Bool) (a:Act) (w:World),listed.size=ops.size→(left ops listed).length≤fuel→
  (∀i,i<ops.size→listed.getD i true=true→∀j,((Region.before ops).getD i 0).testBit j=true→listed.getD j false=true)→
  (∀j∈left ops listed,zC (jA ops j).op=false→wl P (jA ops j).op=false→G w)→AA P ops nd G K ((left ops listed).map (jA ops)) a w→wpAnyIn n.n6 0 P .any ops Q fuel listed a w:=by
 intro fuel;have done:∀(listed:Array _) (a:Act) (w:World),left ops listed=[]→AA P ops nd G K ((left ops listed).map (jA ops)) a w→Q .normal a w:=by
  intro listed a w hl h;rw[hl] at h;exact hK _ _ h
 have xf:∀(listed:Array _) i,i∈Region.ready .any ops listed↔i<ops.size∧listed.getD i true=false∧∀e∈(jA ops i).after.toList,Region.binds .any e=true→listed.getD e.on false=true:=by
  intro listed i;simp only[Region.ready,iG,aR,aJ,lV];constructor
  ·exact UR
  rintro⟨h1,h2,h3⟩;refine⟨h1,h2,?_⟩;rw[bD h1];simp only[fD,iY];rw[dQ];intro e he;cases hb:Region.binds .any e
  ·rfl
  exact Uw
 induction fuel with
 |zero=>
  exact mBa
 |succ fuel ih=>
  intro listed a w hq hQ hP hG h;refine⟨fun xl=>?_,fun i hi=>?_⟩
  ·cases hl:left ops listed with
   |nil=>grind
   |cons i0 rest=>
    exfalso;have hm:i0∈left ops listed:=by rw[hl];simp
    have⟨h1,h2⟩:=zZ.1 hm;have:i0∈Region.ready .any ops listed:=by
     refine(xf listed i0).2 ⟨h1,h2,fun e he hb=>?_⟩;have ha:=kJ ht h1 e he hb;have hs:=yN ops listed;rw[hl] at hs;by_cases hx:listed.getD e.on true=false
     ·have xe:_∈left ops _:=zZ.2 ⟨O1,hx⟩;rw[hl] at xe;rcases aP.1 xe with e1|e1
      ·omega
      have:=(bQ.1 hs).1 _ e1;omega
     have hY:listed.getD e.on true=true:=by simpa using hx
     exact mDl
    grind
  have⟨h1,h2,h3⟩:=(xf listed i).1 hi;have hm:i∈left ops listed:=zZ.2 ⟨h1,h2⟩;have xo:∀j,((Region.before ops).getD i 0).testBit j=true→listed.getD j false=true:=by
   intro j hb;have⟨e,he,hy,hX⟩:=vR h1 hb;have hl:=h3 e he hy;rcases hX with rfl|hX
   ·exact hl
   have ha:=kJ ht h1 e he hy;exact mCk
  have xd:=jW9 (P:=P) (G:=G) (K:=K) hD i (left ops listed) a w h hm (yN _ _) (by
   intro j hj hZ;rcases qK3 ht h1 hZ with hb|hb
   ·have⟨xc,hU⟩:=zZ.1 hj;grind
   exact hb)
  have xi:(left ops (listed.setIfInBounds i true)).length≤fuel:=by
   rw[uV h1 hq];have:((left ops listed).filter (· !=i)).length<(left ops listed).length:=by
    rw[oA];exact⟨i,hm,O4⟩
   omega
  have xn:∀k,k<ops.size→(listed.setIfInBounds i true).getD k true=true→∀j,((Region.before ops).getD k 0).testBit j=true→(listed.setIfInBounds i true).getD j false=true:=by
   intro k hk hS j hb;have hT:∀(d:Bool) x,(listed.setIfInBounds i true).getD x d=if x=i then true else listed.getD x d:=by
    intro d x;simp only[aO,iS];by_cases hx:x=i
    ·grind
    rw[if_neg (fun e=>hx e.symm),if_neg hx]
   rw[hT] at hS⊢;split
   ·rfl
   by_cases xh:k=i
   ·grind
   rw[if_neg xh] at hS;exact hP k hk hS j hb
  have xb:∀a' w',(∀j∈left ops (listed.setIfInBounds i true),zC (jA ops j).op=false→wl P (jA ops j).op=false→G w')→AA P ops nd G K (((left ops listed).filter (· !=i)).map (jA ops)) a' w'→wpAnyIn n.n6 0 P .any ops Q fuel (listed.setIfInBounds i true) a' w':=by
   intro a' w' hg hh;rw[←uV h1 hq] at hh;exact ih _ a' w' O6 xi xn hg hh
  have xg:∀j∈left ops (listed.setIfInBounds i true),j∈left ops listed∧j≠i:=by
   intro j hj;rw[uV h1 hq] at hj;simpa using hj
  have xk:=fun j hj=>hG j (xg j hj).1
  have hE:zC (jA ops i).op=true→∀w',(nd (jA ops i)=true→G w')→∀j∈left ops (listed.setIfInBounds i true),zC (jA ops j).op=false→wl P (jA ops j).op=false→G w':=by
   intro hz w' hg j hj xp xq;have⟨xc,hU⟩:=zZ.1 (xg j hj).1;rcases qK4 ht h1 xc hz xp xq with hn|hb
   ·grind
   exfalso;exact mCa
  have xj:ops[i]? =some (jA ops i):=by simp[jA,bD h1]
  unfold wpOpIn;simp[xj];by_cases hz:zC (jA ops i).op=true
  ·rw[if_pos hz] at xd;cases hw:Region.wanted _ _
   ·have⟨hg,hh⟩:=xd.2 hw;exact⟨fun _ _=>trivial,xb _ _ O1 hh⟩
   exact Step.wpIn (xd.1 hw) fun v w' ⟨hg,hh⟩=>xb _ _ (hE hz _ hg) hh
  rw[if_neg hz] at xd;have⟨v,hv,hh⟩:=xd;rcases hv with⟨hw,hr⟩|⟨hw,rfl⟩
  ·simp only[hw,if_true];refine Step.wpIn (R:=fun u w'=>u=v∧w'=w) (.inl ⟨v,w,?_,O,O⟩) ?_
   ·cases hwl:wl P (jA ops i).op
    ·grind
    exact SK hwl (hr wG hD)
   rintro u w' ⟨rfl,rfl⟩;exact xb _ _ xk hh
  simp only[hw,fA,iX];exact⟨fun _ _=>trivial,xb _ _ xk hh⟩
end
theorem kU{Q:Exit→Fr→World→Prop}{id:Nat}{l:List Oper}(st:Bool)(hm:P.follows .mixedOrders=true)(ha:EX P l.toArray (ET st)=true)(G:World→Prop)(hG:G w.drew)
  (h:kn P n l.toArray st G l Q F w.drew):WP P n (.region id l.toArray true) Q F w:=by
 refine wpIn_region_any hm (qS6 (K:=fun a w=>up n Q _ a w) hG ha (fun _ _ h=>h) _ _ _ _ O4 ?_ ?_ (fun _ _ _ _=>hG) ?_)
 ·unfold left;grind
 ·intro i hi hl;have xt:=by simpa using hi
  simp[xt] at hl
 have e1:left l.toArray (Array.replicate l.toArray.size false)=range l.toArray.size:=by
  unfold left;rw[mD];intro i hi;have:i<l.length:=by simpa using hi
  simp[aO,this]
 have e2:(range l.toArray.size).map (jA l.toArray)=l:=by
  apply oO
  ·simp
  intro i h1 h2;simp[jA,aO,h2]
 rw[e1,e2];exact h
variable{R:Ending→World→Prop}{X:Type}{t:Nat}{w':World}
section
variable{A B B':List kr}
def zG(L:List kr):List Nat:=L.filterMap (·.1)
theorem xX{L}:b∈zG L↔∃p∈L,p.1=some b:=by
 unfold zG;simp
theorem Hp.k6(h:Hp w0 M w (A++B)):Hp w (zG B) w B:=by
 refine .aA4 .refl (fun p hp b hb=>.inr (xX.2 ⟨p,hp,hb⟩)) (fun p hp=>h.r6 (aQ _ hp)) ?_;have:=h.v8;grind
theorem Hp.back(h:Hp w0 M w (A++B))(h':Hp w (zG B) w' B'):Hp w0 M w' (A++B'):=by
 have hd:=h.v8;rw[fO] at hd;have hl:∀p∈A++B,∀b,p.1=_→b<_:=fun p hp b hb=>by
  have⟨o,ho,_⟩:=h.r6 hp b hb;exact(aM.1 ho).1
 have ae:∀p∈A,∀b,p.1=_→b∉zG B:=fun p hp b hb hm=>by
  have⟨q,hq,ii⟩:=xX.1 hm;exact hd.2.2 p hp q hq b hb ii
 refine .aA4 (h.keeps.trans h'.keeps (fun k hk=>?_)) ?_ ?_ ?_
 ·have⟨q,hq,ii⟩:=xX.1 hk;exact h.q0 (aQ _ hq) k ii
 ·intro p hp b hb;rcases fK.1 hp with hp|hp
  ·exact h.q0 (dD _ hp) b hb
  rcases h'.q0 hp b hb with h1|h1
  ·exact .inl (bF h.keeps.size h1)
  have⟨q,hq,ii⟩:=xX.1 h1;exact h.q0 (aQ _ hq) b ii
 ·intro p hp b hb;rcases fK.1 hp with hp|hp
  ·have⟨o,ho,hpo⟩:=h.r6 (dD _ hp) b hb;refine⟨o,?_,hpo⟩;rw[h'.keeps.block b (hl p (dD _ hp) b hb) (ae p hp b hb)];exact ho
  exact h'.r6 hp b hb
 rw[fO];refine⟨hd.1,h'.v8,fun p hp q hq b hb ii=>?_⟩;rcases h'.q0 hq b ii with h1|h1
 ·have:=hl p (dD _ hp) b hb;omega
 grind
theorem Hp.swap{L L'}(h:Hp w0 M w (L++L')):Hp w0 M w (L'++L):=h.perm eF
end
def U2(D:Nat):Deferred:={target:=.collected D,args:=#[]}
def xR(D:Nat):kr:=(some D,fun o=>o= .deferred (some []))
theorem Hp.aC3{W L B D}(h:Hp w0 M W L)(h0:w0.heap.size≤D)(hL:∀p∈L,∀b,p.1=some b→b<B)(hB:B≤D)(hD:W.heap[D]? =some (.deferred (some []))):Hp w0 M W (xR D::L):=by
 refine .aA4 h.keeps ?_ ?_ ?_
 ·intro p hp b hb;rcases aP.1 hp with rfl|hp
  ·obtain rfl:D=b:=by simpa[xR] using hb
   omega
  exact h.q0 hp b hb
 ·intro p hp b hb;rcases aP.1 hp with rfl|hp
  ·obtain rfl:D=b:=by simpa[xR] using hb
   exact⟨_,hD,O⟩
  exact h.r6 hp b hb
 rw[bQ];refine⟨fun p hp b hb ud=>?_,h.v8⟩;obtain rfl:D=b:=by simpa[xR] using hb
 grind
theorem qIe{fn tmps}{R:Ending→World→Prop}{w0 M v}:∀(Ds:List Nat) (L:List kr) (w:World),Hp w0 M w (Ds.map xR++L)→(∀w',Hp w0 M w' L→(results fn tmps).run P w'= .ok v w'∧R (.returned v) w')→
  LeavesInM Fence.wide 0 P fn tmps R (Ds.map U2) .returning w
 |[],L,w,h,hr=>by
  have⟨h1,h2⟩:=hr w h;exact⟨v,h1,h2⟩
 |D::Ds,L,w,h,hr=>by
  have hD:w.heap[D]? =some (.deferred (some [])):=by
   have⟨o,ho,e⟩:=h.r6 (dD _ (bM.2 ⟨D,fX,O⟩)) D O;rw[ho];exact aK some e
  refine⟨O4,.inl ⟨D,_,O,run_takeDeferred hD,?_⟩⟩;have hl:=(aM.1 hD).1;have h':Hp w0 M (w.putObj D (.deferred none)) ((some D,fun _=>True)::(Ds.map xR++L)):=by
   have:=h.p3 (i:=0) (p:=xR D) (q:=(some D,fun _=>True)) (w':=w.putObj D (.deferred none)) O (yR w D _) (fun b hb=>by
    obtain rfl:D=b:=O6
    exact⟨.inl O,_,World.putObj_heap_same hl,trivial⟩)
   exact this
  exact qIe Ds L _ h'.tail hr
theorem qOe{fn v L}(Ds:List Nat)(h:fn.results= #[.tmp t])(hv:ev n F (.tmp t)=v)(af:n.ds=Ds.map U2)(hp:Hp w0 M w (Ds.map xR++L))(hr:∀w',Hp w0 M w' L→R (.returned v) w'):
  bodyPostM Fence.wide 0 P fn R .ret (act n F) w:=by
 show LeavesInM _ 0 P fn _ R n.ds _ w
 rw[af];refine qIe Ds L w hp fun w' hp'=>⟨?_,hr w' hp'⟩
 exact Ut
theorem jIa{c}(I:X→List Deferred→Fr→World→Prop)(μ:X→Nat)(x0)(h0:I x0 ds F w)
  (round:∀(x:X) (ds:List Deferred) (F:Fr) (w:World),I x ds F w→BZ P ⟨sz,ds,none⟩ c (Exit.then (fun a' w'=>∃x' da F',a'=act ⟨sz,da,none⟩ F'∧I x' da F' w'∧μ x'<μ x) QA) F w):
  BZ P ⟨sz,ds,none⟩ (.loop c) QA F w:=by
 refine YO (n:=⟨sz,ds,_⟩) (fun m a w=>∃x da F',a=act ⟨sz,da,_⟩ F'∧I x da F' w∧μ x=m) _ ⟨x0,ds,F,O,h0,O⟩ ?_;rintro m a w ⟨x,da,F',rfl,hi,rfl⟩;have:=round x _ F' w hi;refine lA this ?_;intro e a1 w1 he;cases e<;>first|exact he|skip
 have⟨x',ah,F'',e1,e2,e3⟩:=he;exact⟨_,e3,x',_,_,e1,e2,O⟩
theorem uD{x K Q}(S)(H:X→Fr→Fr)(R:X→World→Prop)(h:WP P n x (D9 (fun F' w'=>∃a,F'=H a (Fr.k7 S F' F)∧R a w') Q) F w)
  (h2:∀(u:Fr) (a:X) (w':World),R a w'→K (H a (Fr.k7 S u F)) w'):WP P n x (D9 K Q) F w:=by
 refine L8 h ?_;intro e F' w' h;cases e with
 |normal=>
  have⟨a,h3,h4⟩:=h;have:=h2 F' a w' h4;rw[←h3] at this;exact this
 |_=>exact h
variable{aft:Array Edge}{args:Array Operand}{i j m:Nat}{l:List Nat}{op:Op}{st want:Bool}{ts:Array TypeId}{ty:TypeId}
section
variable{Q:Exit→Fr→World→Prop}
variable{pos:String}
theorem FH{R}(ho:jA ops i=⟨none,op,ty,pos,aft,none⟩)(hs:gx P n ⟨none,op,ty,pos,aft,none⟩ F w R)(h:∀v w',R v w'→G w'∧CE P n ops st G l Q F w'):DN P n ops st G i l Q F w:=by
 unfold DN;rw[ho];refine⟨fun _=>Step.mono hs fun v w' hr=>?_,fun hw=>?_⟩
 ·exact PZ
 simp[Region.wanted] at hw
end
theorem jZa{Q rest d l e x pos vs}
  (hj:yW ops j=some e) (hc:ev (ky.of m) F (.tmp e)= .bool want)
  (hx:ev (ky.of m) F x= .func (.yield l) #[] #[]) (di:args.toList.map (ev (ky.of m) F)=vs) (hy:YieldAt Fence.wide 0 P l vs.toArray w R)
  (h:∀e w',R e w'→∃v,e= .returned v∧kq P (ky.of m) ops rest Q (F.put d v) w'):
  kq P (ky.of m) ops (⟨some d,.call ⟨.value x,args,ts⟩,ty,pos,aft,some (j,want)⟩::rest) Q F w:=by
 obtain⟨fn,tmps,assign,body,ai,aj⟩:=hy;unfold kq wpListIn;rw[vS O hj hc];simp[RA,if_true];refine⟨fun _ _=>trivial,?_⟩;have ha:args.map (ev (ky.of m) F)=vs.toArray:=by
  rw[←di];apply Ni;rw[rP]
 have hex:(execOp (ev (ky.of m) F) ⟨some d,.call ⟨.value x,args,ts⟩,ty,pos,aft,some (j,want)⟩).run P w= .ok (.round l fn tmps assign body) w:=by
  exact UJ
 rw[Nq _ _ _ O4,zF,hex];refine⟨fun h=>(by cases h),RoundIn.mono aj ?_⟩;intro e w' hr;obtain⟨v,rfl,h2⟩:=h e w' hr;show wpListIn _ 0 P _ _ _ ((act _ F).put (some d) v) w'
 rw[zN];exact h2
section
variable{Q:Exit→Fr→World→Prop}
theorem qUu{id}
  (hg:ev ⟨sz,ds,none⟩ F qz= .func (.func gf) #[] lb.toArray) (eg:qI P gf)
  (enc qp:α→Value) (xs:List α) (M:List Nat) (hM:∀k∈M,k<w.heap.size)
  (I:List α→World→Prop) (hI:∀pre W W',I pre W→mw w.heap.size W W'→I pre W') (h0:I [] w)
  (Bk:∀W1,ax [] w W1→W1.heap.size=w.heap.size+2→MK P gf lb enc qp xs M W1) (A:Nat→List α→α→Fr→World→Prop)
  (q7:∀(l:Nat) (pre:List α) (x:α) (W:World),(∃qo,xs=pre++x::qo)→I pre W→w.heap.size≤l→l<W.heap.size→WP P ⟨sz,[],some l⟩ assign (fun e F' W'=>e= .normal∧A l pre x F' W'∧ax [] W W') ((F.put p (enc x)).put q (qp x)) W)
  (hA:∀(l:Nat) (pre:List α) (x:α) (F':Fr) (W W':World),w.heap.size≤l→A l pre x F' W→ax [l] W W'→A l pre x F' W')
  (q3:∀(l:Nat) (pre:List α) (x:α) (F':Fr) (W:World),(∃qo,xs=pre++x::qo)→A l pre x F' W→WP P ⟨sz,[],some l⟩ body (fun e _ W'=>e= .normal∧I (pre++[x]) W'∧ax M W W') F' W)
  (q1:∀(D:Nat) (W:World),w.heap.size≤D→I xs W→W.heap[D]? =some (.deferred (some []))→QA .normal (act ⟨sz,{target:=.collected D,args:=#[]}::ds,none⟩ F) W):
  BZ P ⟨sz,ds,none⟩ (.block id (.rangeFunc qz #[p,q] assign body)) QA F w:=by
 unfold BZ;rw[ky.k5 O];refine JK (wpIn_rangeFunc ?_);intro fn rb;obtain⟨rec,qs⟩:∃rec:LoopState→Option _→Loop,rec=fun st pe=>{state:=st,pending:=pe,fn,tmps:=(act ⟨sz,ds,none⟩ F).tmps,params:=#[p,q],assign,body,defers:=w.heap.size}:=⟨_,O⟩
 obtain⟨W1,va⟩:∃W1,(w.alloc (.deferred (some []))).alloc (.loop (rec .ready none))=W1:=⟨_,O⟩;have qy:W1.heap[w.heap.size+1]? =some (.loop (rec .ready none)):=by
  exact P8
 have q2:W1.heap[w.heap.size]? =some (.deferred (some [])):=by
  exact P5
 have qt:ax [] w W1:=by
  exact PU
 have hh:W1.heap.size=w.heap.size+2:=by rw[←va];simp
 have ti:mw _ w W1:=⟨qt.os,qt.tape,qt.output,qt.size,fun k hk=>qt.block k hk O4⟩
 refine⟨w.heap.size+1,[{target:=.collected w.heap.size,args:=#[]}],W1,{target:=.fn (.func gf) lb.toArray,args:=#[.func (.yield (w.heap.size+1)) #[] #[]]},W1,gf,
  #[.func (.yield (w.heap.size+1)) #[] #[]]++lb.toArray,W1,?_,?_,fun _ _=>trivial,?_,fun h=>(by cases h),?_⟩
 ·exact P1
 ·exact PX
 ·exact P7
 have hc:=Bk W1 qt hh (w.heap.size+1) (fun pre W=>I pre W∧W.heap[w.heap.size+1]? =some _∧W.heap[w.heap.size]? =some _) O1 (fun a v hc e=>by simp[World.cell?,e,qy] at hc) ?_ ?_ ⟨hI _ _ _ h0 ti,qy,q2⟩
 ·exact UW
 ·rintro pre x W ⟨hi,hl,hk⟩ qw;have ha:=(aM.1 hl).1;have hy:=run_yield (P:=P) (args:=#[enc x,qp x]) hl O6;rw[qs] at hy;rw[←qs] at hy;have aa:((#[p,q]).zip #[enc x,qp x]).foldl (fun tmps (t,a)=>tmps.setIfInBounds t a) (act ⟨sz,ds,none⟩ F).tmps=(act ⟨sz,[],some (w.heap.size+1)⟩ ((F.put p (enc x)).put q (qp x))).tmps:=by
   exact mAm
  refine⟨fn,_,assign,body,by rw[qs] at hy;exact hy,?_⟩;rw[aa];refine roundIn_of_wpIn rb (lA (q7 _ _ x W qw hi O1 ha) ?_);rintro e a1 w1 ⟨F',rfl,rfl,al,vf⟩;have dr:=(vf.block _ ha O4).trans hl;have zy:=(vf.block _ O1 O4).trans hk;have dv:=(aM.1 dr).1;refine⟨_,run_beginRound dr (by rw[qs]),?_⟩;obtain⟨W2,qu⟩:∃W2,W2=w1.putObj (w.heap.size+1) (.loop {rec .ready none with state:=.busy}):=⟨_,O⟩;have qq:W2.heap[w.heap.size+1]? =some (.loop {rec .ready none with state:=.busy}):=by rw[qu];exact World.putObj_heap_same dv
  have zw:W2.heap[w.heap.size]? =some (.deferred (some [])):=by rw[qu];exact(World.putObj_heap_other O1).trans zy
  have qv:ax [w.heap.size+1] w1 W2:=by rw[qu];exact yR _ _ _
  have ak:=hA _ _ _ _ _ _ O1 al qv;rw[←qu];refine lA (q3 _ _ x F' W2 qw ak) ?_;rintro e a3 W3 ⟨F3,rfl,rfl,ab,zx⟩;have tv:=(aM.1 qq).1;have qx:=(zx.block _ tv (fun hm=>O6)).trans qq;have yr:=(zx.block _ O1 (fun hm=>O6)).trans zw;have hr:=run_endRound (P:=P) none qx;refine⟨_,_,hr,O,⟨hI _ _ _ ab (mw.put _ _ O1),?_,(World.putObj_heap_other O1).trans yr⟩,?_⟩
  ·exact PW
  have s0:ax ((w.heap.size+1)::M) W w1:=⟨vf.os,vf.tape,vf.output,vf.size,fun k hk _=>vf.block k hk O4⟩;have s1:=s0.trans qv (fun k hk=>.inr O6);have s2:=s1.trans zx (fun k hk=>.inr (by simp[hk]));exact s2.trans (yR W3 _ _) (fun k hk=>.inr O6)
 exact UM
end
variable{ef:Nat→Bool}
def wy(is:List Nat)(listed:Array Bool):List Nat:=is.filter fun i=>!listed.getD i true
section
variable{nd:Oper→Bool}{Q:Exit→Act→World→Prop}
end
section
variable{Q:Exit→Fr→World→Prop}{rest:List Nat}
variable{d:Nat}{pos:String}
end
section
attribute [local irreducible] PV gx kq kn WP km Fit
section
def CV(x:Nat):Nat→Nat
 |0=>1
 |i+1=>CV x i*x%gQ
theorem jDj(x i:Nat):CV x i<1152921504606845789:=by
 cases i with
 |zero=>exact(by decide:1<1152921504606845789)
 |succ i=>exact dY _ O2
def G8(x:Nat)(p:Nat):Nat→Nat
 |0=>p
 |i+1=>G8 x p i*x%gQ
theorem Z8(x p:Nat):∀i,G8 x (p*x%gQ) i=G8 x p (i+1)
 |0=>rfl
 |i+1=>by
  show G8 x _ i*x%gQ=G8 x p _*x%gQ
  rw[Z8 x p i]
theorem Y3(x:Nat):∀i,G8 x 1 i=CV x i
 |0=>rfl
 |i+1=>by
  show G8 x 1 i*x%gQ=CV x i*x%gQ
  rw[Y3 x i]
theorem ZD(x c:Nat):∀(l:List Nat) (acc p:Nat),Il x (l++[c]) acc p=Il x l acc p*(c^G8 x p l.length%gP)%gP
 |[],acc,p=>rfl
 |a::l,acc,p=>by
  show Il x (l++[c]) _ _=Il x l _ _*(c^G8 x p (l.length+1)%gP)%gP
  rw[ZD,Z8]
def E4(cs:List Nat)(x i:Nat):Nat:=Il x (cs.take i) 1 1
theorem jHz{cs:List Nat}{x:Nat}(h:i<cs.length):E4 cs x (i+1)=E4 cs x i*(cs[i]^CV x i%gP)%gP:=by
 unfold E4;rw[aF,ZD,Y3,cJ,eM O1]
theorem jLn(cs:List Nat)(x:Nat):E4 cs x cs.length=Cl cs x:=by
 unfold E4 Cl;simp
theorem Zt(x:Nat):∀(l:List Nat) (acc p:Nat),acc<gP→Il x l acc p<gP
 |[],_,_,h=>h
 |_::l,_,_,_=>Zt x l _ _ (dY _ O2)
theorem jTy(cs:List Nat)(x i:Nat):E4 cs x i<2305843009213691579:=Zt x _ _ _ O2
theorem TH{n:Nat}(h:i<n):∃qo,range n=range i++i::qo:=by
 refine⟨range' (i+1) (n-(i+1)),?_⟩;rw[List.range_eq_range',List.range_eq_range',show n=i+(1+(n-(i+1))) by omega,←rY,←rY];grind
theorem Tu{n:Nat}{pre qo:List Nat}{x:Nat}(h:range n=pre++x::qo):pre=range x∧x<n:=by
 have h1:(range n)[pre.length]? =some x:=by rw[h,fQ (aS _),gZ];rfl
 have h3:(range n).take pre.length=pre:=by rw[h,Ru O]
 grind
attribute [local irreducible] ki uY hv BI CV E4 Cl
theorem zCp(n x nb xb:Nat)(M:List Nat)(w:World)(h1:w.cell? ⟨nb,0,none⟩=some (Iv (n:Int)))(h2:w.cell? ⟨xb,0,none⟩=some (Iv (x:Int)))(hn:n≤1000000)(hx:x≤9223372036854775807)
  (au:nb∉M) (aq:xb∉M) (av:∀k∈M,k<w.heap.size):
  MK prog 280 [.pointer (Ad nb),.pointer (Ad xb)] (fun i:Nat=>Iv (i:Int)) (fun i:Nat=>Iv (CV x i:Int)) (range n) M w:=by
 intro ll J rh an hY hJ ap;have y0:nb≠ll:=an _ _ h1;have dq:xb≠ll:=an _ _ h2;have vx:nb∉ll::M:=by simp;exact⟨y0,au⟩
 have u6:xb∉ll::M:=by simp;exact⟨dq,aq⟩
 have ar:∀{pre:List _} {W W':World},J _ W→_≤_→ax [] W W'→J pre W':=fun h hs hk=>hJ _ _ _ h (ax.o8 hk hs O4)
 refine km.j6 func280 O ntmps280 O (qA ?_);refine qQ ([4,5]++range' 7 12) (fun(i:Nat) F=>(F.put 7 (.int _ i)).put 4 (.int _ (CV x i)))
  (fun i W=>i≤n∧J (range i) W∧ax (ll::M) w W) (fun i=>n-i) 0 (qB (qB (ka.eq .refl) O) (by unfold CV;rfl)) ⟨O1,ap,.refl⟩ ?_
 rintro u0 i W ⟨hi,am,hk⟩;have xv:=jDj x i;have d1:=hk.cell h1 vx;refine tI (fun h=>?_) fun h=>?_
 ·have hl:i<n:=O1;refine qA ?_;apply Lf;rfl;rfl;exact hY _ i _ am (TH hl);rintro _ W1 ⟨rfl,aw,zy⟩;refine⟨_,O,?_⟩;have zw:=hk.trans zy (fun k hk=>.inr hk);have d2:=zw.cell h2 u6;rw[←eX] at aw;refine AL ?_;refine tK (Gu (CV x i) x 1152921504606845789 _ O1 O1 O1 O1 O2 O2) ?_;rintro _ W2 ⟨rfl,zx⟩;have ao:=ar aw zw.size zx;have vz:=zw.trans zx O4;have e1:(CV x i:Nat)*x%(1152921504606845789:Nat)=(CV x (i+1):Int):=by
   rw[←dM,←iI]
   conv=>rhs;unfold CV
   rfl
  rw[e1];refine Ck ?_;exact⟨_,qB O5 O,⟨O1,ao,vz⟩,O1⟩
 obtain rfl:i=n:=O1;exact PS
theorem p91(n x:Nat)(w:World):Rt 198 [Iv (n:Int),Iv (x:Int)] w (fun v w'=>∃nb xb,v= .func (.func 280) #[] #[.pointer (Ad nb),.pointer (Ad xb)]∧Hp w [] w' [bu xb 1 (qE [Iv (x:Int)]) 3,bu nb 1 (qE [Iv (n:Int)]) 3]):=by
 refine tW func198 ntmps198 fun hp=>?_;refine GM fun w _ b hp=>?_
 exact qM O O ⟨_,O,_,_,O,hp⟩
def VC(pb b2 nb xb:Nat)(s:Option Addr)(m c n x:Nat)(acc:Nat):List kr:=
 [bu pb 1 (qE [Iv (acc:Int)]) 3,bu b2 1 (qE [.slice s m c]) 22,bu nb 1 (qE [Iv (n:Int)]) 3,bu xb 1 (qE [Iv (x:Int)]) 3]
theorem p45(cs:List Nat)(x:Nat)(s:Option Addr)(c:Nat)(w:World)(hs:ig w 1 eN s cs)(hl:cs.length≤1000000)(hx:x≤9223372036854775807)(u1:∀a∈cs,a<2305843009213691579):
  Rk 149 [.slice s cs.length c,Iv (x:Int)] w (Iv (Cl cs x:Int)):=by
 have az:cs≠[]→∀b o,s=some ⟨b,o,_⟩→b<_:=fun h b o e=>hs.lt (fun _=>O) O2 h e
 refine km.q5 func149 O ntmps149 O ?_;have hp:=Hp.start (M:=[]) (w:=w);refine EU (qR ?_);refine tQ fun w1 b2 hp=>?_;refine qA (EU ?_);refine qR ?_;refine tQ fun w2 pb hp=>?_;refine tS fun w3 hp=>?_;have hp:=hp.I 0 [.int _ 1] O O;refine qA (Ki ?_);refine tL (p91 _ x _) ?_;rintro _ w4 ⟨nb,xb,rfl,hpo⟩;have hp:=hp.C hpo;clear hpo;have za:E4 cs x 0=1:=by unfold E4;rfl
 have hp:Hp w [] w4 (VC pb b2 nb xb s cs.length c cs.length x (E4 cs x 0)):=by rw[za];exact hp.j4 [2,3,1,0] _ O O
 have n4:=hp.p6 (i:=0) O;have a8:=hp.p6 (i:=1) O;have bo:=hp.p6 (i:=2) O;have bp:=hp.p6 (i:=3) O;have dq:=hp.ne (i:=1) (j:=0) O O O2;have a1:=hp.ne (i:=2) (j:=0) O O O2;have yt:=hp.ne (i:=3) (j:=0) O O O2;refine qA (Jd [(2,.pointer _),(5,.pointer _),(11,.func _ _ _)] ⟨O,O,O,trivial⟩ ?_);intro F0;refine qNk O jR7 (fun i:Nat=>Iv i) (fun i=>Iv (CV x i)) (range cs.length) [pb] ?_
  (fun pre W=>Hp w [] W (VC pb b2 nb xb s _ c _ x (E4 cs x pre.length))) ?_ hp ?_
  (fun i=>((((F0.v6 [(2,.pointer (Ad b2)),(5,.pointer (Ad pb)),(11,.func (.func 280) #[] #[.pointer (Ad nb),.pointer (Ad xb)])]).put 12 (Iv i)).put 13 (Iv (CV x i))).put 6 (Iv i)).put 7 (Iv (CV x i))) ?_ ?_ ?_
 ·grind
 ·intro pre W W' h zp;refine h.o8 zp hp.Z.size ?_;intro p od b hb;simp[VC,aP,mJ,HA] at od;rcases od with rfl|rfl|rfl|rfl
  ·have:(some pb)=_:=hb;grind
  ·have:(some b2)=_:=hb;grind
  ·have:(some nb)=_:=hb;grind
  have:(some xb)=_:=hb;grind
 ·intro W1 hk ha;refine zCp _ x nb xb _ W1 (hk.cell (hp.J 2 O O) O4) (hk.cell (hp.J 3 O O) O4) hl hx O6 O6 ?_;grind
 ·intro ll i W;refine qA ?_;simp
 ·rintro ll pre i W ⟨qo,qw⟩ ay;obtain⟨rfl,sa⟩:=Tu qw;rw[aY,cZ,List.length_singleton] at*
  have xv:=jDj x i;have qm:=jTy cs x i;have xy:=jHz (x:=x) sa;have⟨b0,o0,hs0,yk⟩:=hs.base O1;have yl:=yk i _ (aA sa) 0 _ O;have hP:=u1 _ (bX sa);generalize cs[i]=a at yl hP xy;have yl:W.cell? ⟨b0,o0+i*1,_⟩=_:=ay.j3 yl;have oP:b0∉[pb]:=by
   have:=az O6 b0 o0 hs0;simp;omega
  have c2:W.cell? ⟨b2,0,_⟩=some (.slice s _ c):=ay.J 1 O O;have ng:=Hp.y6 (ay.N 0 _ O pb O);generalize E4 cs x i=acc at ng qm xy;have aW:b2∉[pb]:=by simpa using dq
  refine qR (kU false jG O3 (fun w'=>Hp W _ w' _) ng.U ?_);have hp:=ng.U;refine qX ?_;refine tP (fun w hp=>qS O O (hp.H c2 aW)) ?_;refine qX ?_;refine tP (fun w hp=>qS O O (hp.H yl oP)) (qX ?_);refine tK (FA a (CV x i) 2305843009213691579 _ O1 O1 O2 O2) ?_;rintro _ w5 ⟨rfl,hk⟩;have hp:=hp.V hk;refine⟨hp,?_⟩;apply Ag;rfl;exact qC O qH5 O (Gu acc _ 2305843009213691579 _ O1 O1 O1 O1 O2 O2);rintro _ w6 ⟨rfl,hk⟩;have hp:=hp.V hk;refine⟨hp,?_⟩;have e1:acc*(a^CV x i%2305843009213691579:Nat)%(2305843009213691579:Nat)=(E4 cs x (i+1):Int):=by
   rw[xy,←dM,←iI];rfl
  rw[e1];refine tS fun w7 hp=>?_;refine qU ?_;exact⟨O,ay.p3 (i:=0) O hp.Z (fun b hb=>by
   cases hb
   exact⟨.inl O,hp.N 0 _ O pb O⟩),hp.Z⟩
 intro D W hD ay a7;rw[cZ,jLn] at ay
 have a6:ax [] w (W.putObj D (.deferred none)):=(ay.Z).trans (yR W D _) (fun k hk=>by
  grind)
 exact mDf
end
variable{d:Option Tmp}{g:Option (Nat×Bool)}{t':Nat}{y:Operand}
section
def yB(y k:Nat):Nat:=y/2^(56-8*k)%256
def sB(y:Nat)(g:Nat→Nat)(k:Nat):Nat:=if k<8 then yB y k^^^g k else g k
section
variable{pos:String}{x z:Operand}
end
attribute [local irreducible] ki uY hv BI
end
section
structure DlV where
 s1:Option Addr
 c1:Nat
 cs:List Nat
 pt:Nat
 s2:Option Addr
 c2:Nat
 bx:List ByteArray
structure Jz(w:World)(d:DlV):Prop where
 cs:ig w 1 eN d.s1 d.cs
 bx:ig w 1 eS d.s2 d.bx
theorem Jz.j1{d:DlV}(h:Jz w d)(hk:ax [] w w'):Jz w' d:=⟨h.cs.i7 hk,h.bx.i7 hk⟩
attribute [local irreducible] ki uY hv BI Cl Mb
end
variable{S ws:List Nat}
def Iu(S:List Nat)(i:Nat):Nat→Nat
 |0=>1
 |j+1=>if j=i then Iu S i j else Iu S i j*S.getD j 0
def GF(S:List Nat)(i x:Nat):Nat→Int
 |0=>1
 |j+1=>if j=i then GF S i x j else GF S i x j*((S.getD j 0:Nat)-(x:Int))
structure AD(S:List Nat)(i x j a b:Nat):Prop where
 p:a%gQ=Iu S i j%gQ
 q:Cg (gQ:Int) (b:Int) (GF S i x j)
theorem AD.zero{x:Nat}:AD S i x 0 1 1:=⟨O,.refl⟩
theorem AD.same{x:Nat}(h:AD S i x i a b)(_:i<S.length):AD S i x (i+1) a b:=⟨by rw[Iu,if_pos O];exact h.p,by rw[GF,if_pos O];exact h.q⟩
theorem AD.next{x:Nat}(h:AD S i x j a b)(hj:j<S.length)(xr:j≠i){a' b':Nat}(h1:a'%gQ=a*S[j]%gQ)(h2:Cg (gQ:Int) (b':Int) ((b:Int)*((S[j]:Int)-(x:Int)))):AD S i x (j+1) a' b':=by
 have e:S.getD j 0=S[j]:=by simp[hj]
 exact⟨by rw[Iu,if_neg xr,e,h1,pQ,h.p,←pQ],by rw[GF,if_neg xr,e];exact h2.trans (h.q.mul .refl)⟩
theorem MO:((gQ:Nat):Int)=1152921504606845789:=O
theorem AD.fin(hS:Eo S){i a b:Nat}(hi:i<S.length)(h:AD S i S[i] S.length a b)(hb:b<gQ):(i=0∧a%gQ=2∧b=1)∨(i=1∧a%gQ=1∧b=gQ-1):=by
 obtain rfl:S=[1,2]:=hS
 have hp:=h.p;have⟨k,hk⟩:=h.q;have hg:gQ=1152921504606845789:=O
 match i,hi with
 |0,_=>
  have e1:Iu [1,2] 0 2=2:=O2
  have e2:GF [1,2] 0 1 2=1:=O2
  left;refine⟨O,?_,?_⟩
  ·rw[hp];exact aK (·%gQ) e1
  have hk:(b:Int)-GF [1,2] 0 1 2=gQ*k:=hk
  rw[e2,MO] at hk;rw[hg] at hb;omega
 |1,_=>
  have e1:Iu [1,2] 1 2=1:=O2
  have e2:GF [1,2] 1 2 2= -1:=O2
  right;refine⟨O,?_,?_⟩
  ·rw[hp];exact aK (·%gQ) e1
  have hk:(b:Int)-GF [1,2] 1 2 2=gQ*k:=hk
  rw[e2,MO] at hk;rw[hg] at hb⊢;omega
theorem AD.cop(hS:Eo S){i a b:Nat}(hi:i<S.length)(h:AD S i S[i] S.length a b)(hb:b<gQ):Nat.gcd gQ b=1:=by
 rcases h.fin hS hi hb with⟨_,_,rfl⟩|⟨_,_,rfl⟩<;>decide+kernel
theorem AD.done(hS:Eo S){i a b z:Nat}(hi:i<S.length)(h:AD S i S[i] S.length a b)(hb:b<gQ)(hz:Cg (gQ:Int) ((z:Int)*(b:Int)) 1):a*z%gQ=DC S S[i]:=by
 have hf:=h.fin hS hi hb;obtain rfl:S=[1,2]:=hS;have⟨k,hk⟩:=hz;have hg:gQ=1152921504606845789:=O
 rcases hf with⟨rfl,ha,rfl⟩|⟨rfl,ha,rfl⟩
 ·rw[MO] at hk;have hz:z%gQ=1:=by rw[hg];omega
  rw[pQ,ha,hz];rfl
 have hz:z%gQ=gQ-1:=by
  have e:((gQ-1:Nat):Int)=1152921504606845788:=O
  rw[e,MO] at hk;rw[hg];omega
 rw[pQ,ha,hz];rfl
def Gg(k:Nat):List Nat→List (List Nat)
 |[]=>[]
 |w::ws=>range' k w::Gg (k+w) ws
theorem Z4(ws:List Nat):∀k,(Gg k ws).length=ws.length:=by
 induction ws with
 |nil=>intro k;rfl
 |cons w ws ih=>simp[Gg,ih]
theorem S7:∀(ws:List Nat) (k i:Nat) (h:i<ws.length),(Gg k ws)[i]? =some (range' (k+(ws.take i).sum) ws[i])
 |w::ws,k,0,_=>by simp[Gg]
 |w::ws,k,i+1,h=>by
  have:=S7 ws (k+w) i O6;simp[Gg,List.getElem?_cons_succ,List.take_succ_cons,No,List.getElem_cons_succ];grind
theorem Z5:∀(ws:List Nat) (k:Nat),((Gg k ws).map List.length).sum=ws.sum
 |[],_=>rfl
 |w::ws,k=>by simp[Gg,Z5]
theorem TJ:∀(ws:List Nat) (i:Nat),(ws.take i).sum≤ws.sum
 |[],i=>O4
 |w::ws,0=>O4
 |w::ws,i+1=>by
  have:=TJ ws i;grind
theorem qNn(h:i<ws.length):(ws.take (i+1)).sum=(ws.take i).sum+ws[i]:=by
 rw[aF h,List.sum_append];simp
def G9(n:Nat):Nat:=(n-1)/3+1
variable{s:Option Addr}
structure A9 where
 s:Option Addr
 c:Nat
 l:List Nat
def Qz(r:A9):List Value:=[.slice r.s r.l.length r.c]
structure CL(w:World)(s:Option Addr)(rs:List A9):Prop where
 at_:ig w 1 Qz s rs
 row:∀r∈rs,ig w 1 eN r.s r.l
theorem CL.j1{rs:List A9}(h:CL w s rs)(hk:ax [] w w'):CL w' s rs:=⟨h.at_.i7 hk,fun r hr=>(h.row r hr).i7 hk⟩
def IT(rs:List A9):List (List Nat):=rs.map A9.l
def EQ(rs:List A9):Nat:=(rs.map fun r=>r.l.length).sum
theorem jAe{rs:List A9}(h:i<rs.length):EQ (rs.take (i+1))=EQ (rs.take i)+rs[i].l.length:=by
 unfold EQ;rw[aF h,dR,List.sum_append];simp
theorem TM:∀(rs:List A9) (i:Nat),EQ (rs.take i)≤EQ rs
 |[],i=>O4
 |r::rs,0=>by simp[EQ]
 |r::rs,i+1=>by
  have:=TM rs i;simp only[EQ,List.take_succ_cons,fG,No] at*
  omega
def CI(l:List Nat)(i:Nat):Int→Bool:=fun a=>decide (a∈Rn (l.take i))
theorem ZS(l:List Nat):uE (CI l 0)=fun _=>none:=PL _ fun a=>by simp[CI,Rn]
theorem ZR(h:i<l.length):(fun a=>decide (a=(l[i]:Int))||CI l i a)=CI l (i+1):=by
 funext a;unfold CI Rn;rw[aF h,dR,iA];grind
theorem YH(hn:l.Nodup){i:Nat}(h:i<l.length):CI l i (l[i]:Int)=false:=by
 refine aB fun hm=>?_
 have⟨x,hx,he⟩:=bM.1 hm;rw[lL] at hx;rw[eJ,dX] at hn;grind
attribute [local irreducible] ki uY hv BI Cl Mb CI
theorem p89(x:Nat)(w:World)(h1:1≤x)(h2:x<1152921504606845789):Rk 199 [Iv (x:Int)] w (.bool true):=by
 refine tW func199 ntmps199 fun hp=>?_;refine AP ?_;refine AP ?_;refine ke (vE O O) (qV (aD O1)) (jM ?_);refine BT ?_;apply vX;rfl;rfl;exact uG O O;exact qV (aD O1);exact nj
theorem p92(n:Nat)(w:World)(h1:1≤n)(h2:n≤1000000):Rt 196 [Iv (n:Int)] w (fun v w'=>v=Iv (((n-1)/3:Nat):Int)∧ax [] w w'):=by
 refine tW func196 ntmps196 fun hp=>?_;refine qA ?_;refine qH O O1 (fun _=>tM (n-1) ?_);refine ke (Gr O O O2) (qF (b:=((n-1)/3:Nat)) (by rw[show(3:Int)=(3:Nat) from O,tdn];exact YG O1)) (tV ?_);exact FM
theorem p46(n:Nat)(w:World)(h1:1≤n)(h2:n≤1000000):Rk 146 [Iv (n:Int)] w (Iv (G9 n:Int)):=by
 refine tW func146 ntmps146 fun hp=>?_;refine qA ?_;refine qH O O1 (fun _=>tD (p92 n _ h1 h2) fun w3 hp=>?_);refine ke (qO O O) (qF (b:=(G9 n)) (by unfold G9;rw[qK O1 O1];omega)) (tV ?_);exact FM
end
variable{S:List Nat}
section
def uB(S:List Nat)(i:Nat):Nat:=DC S (S.getD i 0)
theorem ZM(S:List Nat)(i:Nat):uB S i<1152921504606845789:=jFk
theorem ZL(h:i<S.length):uB S i=DC S S[i]:=by
 unfold uB;grind
theorem Vx(h:Eo S){i:Nat}(hi:i<S.length):1≤S[i]∧S[i]<1152921504606845789:=h.bd _ (bX hi)
def Gy(st:Nat→Nat→Nat)(a:Nat)(i:Nat):Nat:=(range i).foldl st a
theorem jFi(st:Nat→Nat→Nat)(a i:Nat):Gy st a (i+1)=st (Gy st a i) i:=by
 unfold Gy;rw[eX,List.foldl_append];rfl
def jIb(kf nb:Nat)(S:List Nat)(st:Nat→Nat→Nat)(M:List Nat)(w:World):Prop:=
 ∀W,ax M w W→∀i acc,i<S.length→acc<2305843009213691579→st acc i<2305843009213691579∧Rt kf [Iv (acc:Int),Iv (i:Int),Iv (uB S i:Int),.pointer (Ad nb)] W (fun v W'=>v=Iv (st acc i:Int)∧ax [] W W')
attribute [local irreducible] PV gx kq kn WP km
attribute [local irreducible] Fit ki uY hv BI Cl Mb CI DC uB
theorem zCo(S:List Nat)(s:Option Addr)(c pb:Nat)(M:List Nat)(w:World)(h1:w.cell? ⟨pb,0,none⟩=some (.slice s S.length c))(hs:ig w 1 eN s S)(hP:Eo S)(hl:S.length≤1000000)
  (au:pb∉M) (b8:S≠[]→∀b o,s=some ⟨b,o,none⟩→b∉M) (av:∀k∈M,k<w.heap.size):
  MK prog 281 [.pointer (Ad pb)] (fun i:Nat=>Iv (i:Int)) (fun i:Nat=>Iv (uB S i:Int)) (range S.length) M w:=by
 intro ll J rh an hY hJ ap;have y0:pb≠ll:=an _ _ h1;have vx:pb∉ll::M:=by simp;exact⟨y0,au⟩
 have bz:S≠[]→∀b o,s=some ⟨b,o,none⟩→b∉ll::M:=by
  intro h b o e;obtain⟨x,l',rfl⟩:∃x l',S=x::l':=by cases S with|nil=>grind|cons x l'=>simp
  have⟨b',o',e',b2⟩:=hs 0 x O;have bv:=an _ _ (b2 0 _ O);rw[e] at e';cases e';simp;exact⟨bv,b8 O4 b o e⟩
 have ar:∀{pre:List _} {W W':World},J _ W→_≤_→ax [] W W'→J pre W':=fun h hs hk=>hJ _ _ _ h (ax.o8 hk hs O4)
 refine km.j6 func281 O ntmps281 O (qA ?_);refine qQ ([3,4,5,6,7,8,9,10]++range' 13 37) (fun(i:Nat) F=>F.put 13 (.int _ i))
  (fun i W=>i≤S.length∧J (range i) W∧ax (ll::M) w W) (fun i=>S.length-i) 0 (qB (ka.eq .refl) O) ⟨O1,ap,.refl⟩ ?_
 rintro u0 i W ⟨hi,am,hk⟩;have d1:=hk.cell h1 vx;have dS:=hs.j1 hk bz;refine tI (fun h=>?_) fun h=>?_
 ·have hh:i<S.length:=O1;have⟨b0,o0,hs0,yk⟩:=dS.base O1;have yl:=yk i _ (aA hh) 0 _ O;have b4:=Vx hP hh;have b6:=ZL hh;have b3:=ZM S i;have bA:=fun a b h hb=>AD.cop (a:=a) (b:=b) hP hh h hb
  have q1:=fun a b z h hb hz=>AD.done (a:=a) (b:=b) (z:=z) hP hh h hb hz
  have xr:∀j (hj:j<S.length),j≠i→S[j]≠S[i]:=fun j hj zn e=>by
   have hn:=hP.nd;rw[eJ,dX] at hn;grind
  generalize S[i]=x at yl b4 b6 bA q1 xr;refine qA (qQ ([5,6,7,8]++range' 20 17) (fun(X:Nat×Nat×Nat) F=>((F.put 20 (.int _ (X.1))).put 5 (.int _ (X.2.1))).put 6 (.int _ (X.2.2)))
   (fun X W=>X.1≤S.length∧X.2.1<1152921504606845789∧X.2.2<1152921504606845789∧AD S i x X.1 X.2.1 X.2.2∧J _ W∧ax _ w W) (fun X=>S.length-X.1) (0,1,1) (qB (qB (qB (ka.eq .refl) O) O) O) ⟨O1,O2,O2,AD.zero,am,hk⟩ ?_)
  clear am hk d1 dS yk yl hs0;rintro u1 ⟨j,a,b⟩ W1 ⟨hj,ha,hb,hF,am,hk⟩;dsimp only at hj ha hb hF am hk⊢;have d1:=hk.cell h1 vx;have dS:=hs.j1 hk bz;refine tI (fun h=>?_) fun h=>?_
  ·have bw:j<S.length:=O1;have⟨b1,o1,hq,bB⟩:=dS.base O1;have eg:=bB j _ (aA bw) 0 _ O;have gz:=Vx hP bw;refine qA (xI O (fun zn=>?_) (fun zn=>?_))
   ·have hZ:j≠i:=O1;have yt:=fun a' b' h1 h2=>hF.next (a':=a') (b':=b') bw hZ h1 h2
    generalize S[j]=y at eg gz yt;refine tL (Gu a y 1152921504606845789 _ O1 O1 O1 O1 O2 O2) ?_;rintro _ W2 ⟨rfl,zx⟩;have e1:(a:Nat)*(y:Int)%(1152921504606845789:Nat)=(a*y%gQ:Nat):=by rw[iI,dM,IZ]
    rw[e1];have am:=ar am hk.size zx;have hk:=hk.trans zx O4;refine tL (zCn y x 1152921504606845789 _ O1 O1 O1 O1 O2 O2) ?_;rintro _ W3 ⟨rfl,zx⟩;have am:=ar am hk.size zx;have hk:=hk.trans zx O4;have⟨d,hd,b9⟩:=I1 (y-x) (m:=1152921504606845789) O2;rw[hd];refine tK (Gu b d 1152921504606845789 _ O1 O1 O1 O1 O2 O2) ?_;rintro _ W4 ⟨rfl,zx⟩;have e2:(b:Nat)*(d:Int)%(1152921504606845789:Nat)=(b*d%gQ:Nat):=by rw[iI,dM,IZ]
    rw[e2];have am:=ar am hk.size zx;have hk:=hk.trans zx O4;have oy:a*y%gQ<1152921504606845789:=O1;have et:b*d%gQ<1152921504606845789:=O1
    have b7:=yt (a*y%gQ) (b*d%gQ) (Nk _ _) (by
     refine(qTm _).trans ?_;rw[dM];refine Cg.refl.mul ?_;rw[←hd]
     exact Cg.mod)
    refine Fv ?_;exact⟨(j+1,a*y%gQ,b*d%gQ),qB O5 O,⟨O1,oy,et,b7,am,hk⟩,O1⟩
   have hZ:j=i:=O1;subst hZ;have b7:=hF.same bw;refine Fv ?_;exact⟨(j+1,a,b),qB O5 O,⟨O1,ha,hb,b7,am,hk⟩,O1⟩
  obtain rfl:j=S.length:=O1;have hg:=bA a b hF hb;refine qA ?_
  (apply Ax;exact qC O jR4 O (zCm (b:Int) 1152921504606845789 _ O1 O1 O2 O2 (by
   intro r hr;have:r=b:=O1;rw[this]
   exact hg));rintro _ W2 ⟨⟨z,rfl,x1,hz⟩,zx⟩)
  have am:=ar am hk.size zx;have hk:=hk.trans zx O4;have tw:=q1 a b z hF hb hz;rw[←b6] at tw;refine tL (Gu a z 1152921504606845789 _ O1 O1 O1 O1 O2 O2) ?_;rintro _ W3 ⟨rfl,zx⟩;have e1:(a:Nat)*z%(1152921504606845789:Nat)=(uB S i:Int):=by rw[←tw,iI,dM,IZ]
  rw[e1];have am:=ar am hk.size zx;have hk:=hk.trans zx O4;apply Lf;rfl;rfl;exact hY _ i _ am (TH hh);rintro _ W4 ⟨rfl,aw,zy⟩;refine⟨_,O,?_⟩;have zw:=hk.trans zy (fun k hk=>.inr hk);rw[←eX] at aw;refine Mz ?_;exact⟨_,qB O5 O,⟨O1,aw,zw⟩,O1⟩
 obtain rfl:i=S.length:=O1;exact PS
theorem p94(s:Option Addr)(m c:Nat)(w:World):Rt 201 [.slice s m c] w (fun v w'=>∃pb,v= .func (.func 281) #[] #[.pointer (Ad pb)]∧Hp w [] w' [bu pb 1 (qE [.slice s m c]) 22]):=by
 refine tW func201 ntmps201 fun hp=>?_;refine vK fun w b hp=>?_
 exact qM O O ⟨_,O,_,O,hp⟩
theorem p93(kf nb pb c a0:Nat)(S:List Nat)(s:Option Addr)(st:Nat→Nat→Nat)(w:World)(he:qI prog kf)(h1:w.cell? ⟨pb,0,none⟩=some (.slice s S.length c))(hs:ig w 1 eN s S)(hP:Eo S)(hl:S.length≤1000000)
  (ha:a0<2305843009213691579) (xy:jIb kf nb S st [] w):
  Rk 200 [.func (.func 281) #[] #[.pointer (Ad pb)],Iv (a0:Int),.func (.func kf) #[] #[.pointer (Ad nb)]] w (Iv (Gy st a0 S.length:Int)):=by
 have az:S≠[]→∀b o,s=some ⟨b,o,_⟩→b<_:=fun h b o e=>hs.lt (fun _=>O) O2 h e
 have ti:pb<_:=iL w _ h1;refine km.q5 func200 O ntmps200 O ?_;have hp:=Hp.start (M:=[]) (w:=w);refine EU (qR ?_);refine tQ fun w1 ab hp=>?_;refine tQ fun w2 fb hp=>?_;refine qA (Ki ?_);refine qA ?_;have za:Gy st a0 0=a0:=O;have hp:Hp w [] w2 [bu ab 1 (qE [Iv (Gy st a0 0)]) 3,bu fb 1 (qE [.func (.func kf) #[] #[.pointer (Ad nb)]]) 74]:=by rw[za];exact hp.j4 [1,0] _ O O
 have bK:=hp.p6 (i:=0) O;have n2:=hp.p6 (i:=1) O;have b1:=hp.ne (i:=1) (j:=0) O O O2;refine Jd [(4,.pointer _),(5,.pointer _),(9,.func _ _ _)] ⟨O,O,O,trivial⟩ ?_;intro F0;refine qNk O jR6 (fun i:Nat=>Iv i) (fun i=>Iv (uB S i)) (range S.length) [ab] ?_
  (fun pre W=>Gy st a0 pre.length<2305843009213691579∧Hp w [] W [bu ab 1 (qE [.int _ (Gy st a0 pre.length)]) 3,_]) ?_ ⟨ha,hp⟩ ?_
  (fun i=>((((F0.v6 [(4,.pointer (Ad ab)),(5,.pointer (Ad fb)),(9,.func (.func 281) #[] #[.pointer (Ad pb)])]).put 10 (Iv i)).put 11 (Iv (uB S i))).put 7 (Iv i)).put 8 (Iv (uB S i))) ?_ ?_ ?_
 ·grind
 ·rintro pre W W' ⟨hb,h⟩ zp;refine⟨hb,h.o8 zp hp.Z.size ?_⟩;intro p od b hb;simp[aP,mJ,HA] at od;rcases od with rfl|rfl
  ·have:(some ab)=_:=hb;grind
  have:(some fb)=_:=hb;grind
 ·intro W1 hk hg;have zy:=hp.Z.trans hk O4;refine zCo S s c pb _ W1 (zy.cell h1 O4) (hs.i7 zy) hP hl O6 ?_ ?_
  ·grind
  grind
 ·intro ll i W;refine qA ?_;simp
 ·rintro ll pre i W ⟨qo,qw⟩ ⟨bE,ay⟩;obtain⟨rfl,sa⟩:=Tu qw;rw[aY,cZ,List.length_singleton] at*
  have bI:=jFi st a0 i;have c5:W.cell? ⟨fb,0,_⟩=some (.func _ _ _):=ay.J 1 O O;have ng:=Hp.y6 (ay.N 0 _ O ab O);have xy:=fun W' (hk:ax [] W W')=>xy W' (ay.Z.trans hk O4) i _ sa bE
  have hp:Hp W _ W [bu ab 1 _ 3]:=ng;have hs0:=xy W .refl;refine qR (tR (JX underlying74 O O c5) ?_);refine tR (qS O O (hp.J 0 O O)) (jM ?_);refine jM ?_;apply Ax;exact qC O he O hs0.2;rintro _ w5 ⟨rfl,hk⟩;have hp:=hp.V hk;rw[←bI];refine tS fun w7 hp=>?_;refine qA ?_;exact⟨O,⟨O1,ay.p3 (i:=0) O hp.Z (fun b hb=>by
   cases hb
   exact⟨.inl O,hp.N 0 _ O ab O⟩)⟩,hp.Z⟩
 rintro D W hD ⟨_,ay⟩ a7;rw[cZ] at ay
 have a6:ax [] w (W.putObj D (.deferred none)):=(ay.Z).trans (yR W D _) (fun k hk=>by
  grind)
 exact mDf
def Qd(S ns:List Nat)(acc i:Nat):Nat:=acc*(ns.getD i 0^uB S i%gP)%gP
theorem TC(h:i<l.length):l.getD i 0=l[i]:=by
 grind
theorem p95(S ns:List Nat)(s:Option Addr)(c nb:Nat)(w:World)(h1:w.cell? ⟨nb,0,none⟩=some (.slice s ns.length c))(hs:ig w 1 eN s ns)(hl:ns.length=S.length)(hb:∀x∈ns,x≤9223372036854775807):jIb 202 nb S (Qd S ns) [] w:=by
 intro W hk i acc hi ha;refine⟨dY _ O2,?_⟩;have d1:=hk.cell h1 O4;have dS:=hs.i7 hk;have bR:i<ns.length:=O1;have⟨b0,o0,hs0,yk⟩:=dS.base O1;have yl:=yk i _ (aA bR) 0 _ O;have b3:=ZM S i;have n0:=hb _ (bX bR);have xy:Qd S ns acc i=acc*(ns[i]^uB S i%gP)%gP:=by unfold Qd;rw[TC bR]
 generalize ns[i]=x at yl n0 xy;refine tW func202 ntmps202 fun hp=>?_;refine tD (FA x (uB S i) 2305843009213691579 _ O1 O1 O2 O2) fun w5 hp=>?_;refine tC (Gu acc (x^uB S i%2305843009213691579:Nat) 2305843009213691579 _ O1 O1 O1 O1 O2 O2) fun w6 hp=>?_;refine qA ?_;refine qM O O ⟨_,O,?_,hp.Z⟩;rw[xy,←dM,←iI];rfl
theorem qEm(st:Nat→Nat×Nat→Nat):∀(l:List (Nat×Nat)) (a:Nat),l.foldl st a=(range l.length).foldl (fun acc i=>st acc (l.getD i (0,0))) a:=by
 intro l;induction l with
 |nil=>simp
 |cons p l ih=>
  intro a;rw[iF,ih,cF,List.range_succ_eq_map,iF,List.foldl_map];rfl
theorem qSg{ns:List Nat}(hl:ns.length=S.length){i:Nat}(h:i<S.length):(ns.zip (S.map (DC S))).getD i (0,0)=(ns.getD i 0,uB S i):=by
 rw[aC,aA O6,ZL h,TC O1];simp
theorem qHk{f g:Nat→Nat→Nat}:∀(l:List Nat) (a:Nat),(∀acc i,i∈l→f acc i=g acc i)→l.foldl f a=l.foldl g a
 |[],_,_=>rfl
 |x::l,a,h=>by
  rw[iF,iF,h a x fX];exact qHk l _ fun acc i hi=>h _ i (fE _ hi)
theorem jKi{ns:List Nat}(hl:ns.length=S.length):Gy (Qd S ns) 1 S.length=Fs S ns:=by
 unfold Fs KN Gy;have e:(ns.zip (S.map (DC S))).length=S.length:=by rw[List.length_zip,aH];omega
 rw[qEm,e];refine qHk _ _ fun acc i hi=>?_
 rw[qSg hl O6];rfl
theorem p47(S ns:List Nat)(s s2:Option Addr)(c c2:Nat)(w:World)(hs:ig w 1 eN s S)(h4:ig w 1 eN s2 ns)(hP:Eo S)(hl:S.length≤1000000)(hn:ns.length=S.length)(hb:∀x∈ns,x≤9223372036854775807):
  Rk 151 [.slice s S.length c,.slice s2 ns.length c2] w (Iv (Fs S ns:Int)):=by
 rw[←jKi hn];refine tW func151 ntmps151 fun hp=>?_;refine qR ?_;refine tQ fun w1 nb hp=>?_;refine tL (p94 s _ c _) ?_;rintro _ w2 ⟨pb,rfl,hpo⟩;have hp:=hp.C hpo;refine tD (p93 202 nb pb c 1 S s _ _ jS5 (hp.J 0 O O) (hs.i7 hp.Z) hP hl O2 (p95 S ns s2 c2 nb _ (hp.J 1 O O) (h4.i7 hp.Z) hn hb)) fun w3 hp=>?_;exact nj
end
variable{D:Nat→Bool}{F0:Fr}{K:Fr→World→Prop}{R:Value→World→Prop}
def Yx(ops:Array Oper):Bool:=(range ops.size).all fun i=>(jA ops i).after.toList.all fun e=>!Region.binds .any e||decide (e.on<i)
def Lw(ops:Array Oper)(i:Nat)(D:Nat→Bool):Bool:=(jA ops i).after.toList.all fun e=>!Region.binds .any e||D e.on
section
variable{Q:Exit→Act→World→Prop}
theorem qX0(hq:Yx ops=true)(I:(Nat→Bool)→Act→World→Prop)
  (hn:∀(i:Nat) (D:Nat→Bool) (a:Act) (w:World),i<ops.size→D i=false→Lw ops i D=true→I D a w→qh P ops (jA ops i) a w (fun a' w'=>I (fun j=>D j||Nat.beq j i) a' w'))
  (tw:∀(D:Nat→Bool) (a:Act) (w:World),(∀i,i<ops.size→D i=true)→I D a w→Q .normal a w):
  ∀(fuel:Nat) (listed:Array Bool) (a:Act) (w:World),listed.size=ops.size→(left ops listed).length≤fuel→I (fun i=>listed.getD i false) a w→wpAny P .any ops Q fuel listed a w:=by
 have ht:∀i,i<ops.size→∀e∈(jA ops i).after.toList,Region.binds .any e=true→e.on<i:=by
  intro i hi e he hb;have h1:=dO.1 hq i O6;have h2:=dO.1 h1 e he;rw[hb] at h2;simpa using h2
 have hh:∀(listed:Array _) (i:Nat),listed.size=ops.size→i<ops.size→listed.getD i true=listed.getD i false:=by
  intro listed i hg hi;simp[aO,hg,hi]
 have done:∀(listed:Array _) (a:Act) (w:World),listed.size=ops.size→left ops listed=[]→I (fun i=>listed.getD i false) a w→Q .normal a w:=by
  intro listed a w hg hl h;refine tw _ a w (fun i hi=>?_) h;have:¬i∈left ops listed:=by rw[hl];simp
  rw[zZ] at this;rw[←hh listed i hg hi];cases hx:listed.getD i true
  ·grind
  rfl
 have xf:∀(listed:Array Bool) i,i∈Region.ready .any ops listed↔i<ops.size∧listed.getD i true=false∧∀e∈(jA ops i).after.toList,Region.binds .any e=true→listed.getD e.on false=true:=by
  intro listed i;simp only[Region.ready,iG,aR,aJ,lV];constructor
  ·exact UR
  rintro⟨h1,h2,h3⟩;refine⟨h1,h2,?_⟩;rw[bD h1];simp only[fD,iY];rw[dQ];intro e he;cases hb:Region.binds .any e
  ·rfl
  exact Uw
 intro fuel;induction fuel with
 |zero=>
  intro listed a w hg hQ h;have hl:left ops listed=[]:=aX O1;refine⟨?_,done _ _ _ hg hl h⟩;rw[lQ];intro i hi;have:=(xf _ i).1 hi;have hm:=zZ.2 ⟨this.1,this.2.1⟩;grind
 |succ fuel ih=>
  intro listed a w hg hQ h;refine⟨fun xl=>?_,fun i hi=>?_⟩
  ·cases hl:left ops listed with
   |nil=>grind
   |cons i0 rest=>
    exfalso;have hm:i0∈left ops listed:=by rw[hl];simp
    have⟨h1,h2⟩:=zZ.1 hm;have:i0∈Region.ready .any ops listed:=by
     refine(xf listed i0).2 ⟨h1,h2,fun e he hb=>?_⟩;have ha:=ht i0 h1 e he hb;have hs:=yN ops listed;rw[hl] at hs;by_cases hx:listed.getD e.on true=false
     ·have xe:_∈left ops _:=zZ.2 ⟨O1,hx⟩;rw[hl] at xe;rcases aP.1 xe with e1|e1
      ·omega
      have:=(bQ.1 hs).1 _ e1;omega
     rw[←hh listed e.on hg O1];simpa using hx
    grind
  have⟨h1,h2,h3⟩:=(xf _ i).1 hi;have hm:=zZ.2 ⟨h1,h2⟩;have hD:listed.getD i false=false:=by rw[←hh listed i hg h1];exact h2
  have hA:Lw ops i (fun i=>listed.getD i false)=true:=by
   unfold Lw;rw[dO];intro e he;cases hb:Region.binds .any e
   ·rfl
   simpa using h3 e he hb
  have xi:(left ops (listed.setIfInBounds i true)).length≤fuel:=by
   rw[uV h1 hg];have:=TP (TL (yN ops listed)) hm;omega
  have hT:(fun j=>(fun i=>listed.getD i false) j||Nat.beq j i)=(fun j=>(listed.setIfInBounds i true).getD j false):=by
   funext j;by_cases hj:j=i
   ·subst hj;simp[hg,h1]
   have:Nat.beq j i=false:=jJ hj;simp only[this,dL,aO,iS];rw[if_neg (fun e=>hj e.symm)]
  have xy:=hn i _ a w h1 hD hA h;rw[hT] at xy;have xj:ops[i]? =some (jA ops i):=by simp[jA,bD h1]
  have xb:=fun a' w' h=>ih _ a' w' O6 xi h
  unfold wpOp;simp[xj];cases hw:Region.wanted _ _
  ·exact xb _ _ (xy.2 hw)
  exact .inl ((xy.1 hw).wp fun v w' h=>xb _ _ h)
end
section
variable{Q:Exit→Fr→World→Prop}
def Qo(P:Program)(n:ky)(ops:Array Oper)(o:Oper)(F:Fr)(w:World)(K:Fr→World→Prop):Prop:=qh P ops o (act n F) w (fun a' w'=>∃F',a'=act n F'∧K F' w')
theorem L1{id:Nat}{l:List Oper}(hm:P.follows .mixedOrders=true)(hq:Yx l.toArray=true)(I:(Nat→Bool)→Fr→World→Prop)(h0:I (fun _=>false) F w.drew)
  (hn:∀(i:Nat) (D:Nat→Bool) (F:Fr) (w:World),i<l.length→D i=false→Lw l.toArray i D=true→I D F w→Qo P n l.toArray (jA l.toArray i) F w (fun F' w'=>I (fun j=>D j||Nat.beq j i) F' w'))
  (tw:∀(D:Nat→Bool) (F:Fr) (w:World),(∀i,i<l.length→D i=true)→I D F w→Q .normal F w) (hr:n.ro=none:=by rfl):WP P n (.region id l.toArray true) Q F w:=by
 unfold WP;rw[ky.k5 hr];refine rJ.2 (wp_region_any hm (qX0 hq (fun D a w=>∃F',a=act n F'∧I D F' w) ?_ ?_ _ _ _ _ O4 ?_ ⟨F,O,?_⟩))
 ·rintro i D a w hi hD hA ⟨F',rfl,hI⟩;exact hn i D F' w O1 hD hA hI
 ·rintro D a w hD ⟨F',rfl,hI⟩;exact⟨F',O,tw D F' w (fun i hi=>hD i O1) hI⟩
 ·unfold left;grind
 have:(fun i=>(Array.replicate l.toArray.size false).getD i false)=(fun _=>false):=by
  funext i;simp only[aO];rw[Array.getElem?_replicate];split<;>rfl
 rw[this];exact h0
variable{d:Nat}{pos:String}
theorem KQ(hs:gx P n ⟨some d,op,ty,pos,aft,none⟩ F w R)(h:∀v w',R v w'→K (F.put d v) w'):Qo P n ops ⟨some d,op,ty,pos,aft,none⟩ F w K:=
 ⟨fun _=>Step.mono hs fun v w' hr=>⟨_,by rw[zN];rfl,h v w' hr⟩,fun hw=>by simp[Region.wanted] at hw⟩
theorem zI{r v:Value}(hp:PV P n w F ⟨some d,op,ty,pos,aft,none⟩ r)(hv:r=v)(h:K (F.put d v) w):Qo P n ops ⟨some d,op,ty,pos,aft,none⟩ F w K:=by
 refine KQ (R:=fun u w'=>u=r∧w'=w) (.inl ⟨r,w,?_,O,O⟩) ?_
 ·rw[zF];exact hp
 grind
end
theorem qMm:∀{S:List Nat} {i:Nat},i∈S→Ft S i=true
 |[],_,h=>by cases h
 |d::S,i,h=>by
  simp only[Ft];rcases aP.1 h with rfl|h
  ·simp
  rw[qMm h];simp
structure Dn(b m:Nat)(V:Nat→Value)(F0:Fr)(D:Nat→Bool)(F:Fr):Prop where
 at_:∀j,j<m→D j=true→F (b+j)=V j
 out:∀s,s<b∨b+m≤s→F s=F0 s
theorem Dn.start{V:Nat→Value}:Dn b m V F0 (fun _=>false) F0:=⟨O4,fun _ _=>O⟩
theorem Dn.put{b m i:Nat}{V:Nat→Value}{F0 F:Fr}{D:Nat→Bool}(h:Dn b m V F0 D F)(hi:i<m):Dn b m V F0 (fun j=>D j||Nat.beq j i) (F.put (b+i) (V i)):=by
 refine⟨fun j hj hD=>?_,fun s hs=>?_⟩
 ·by_cases hZ:j=i
  ·subst hZ;simp[Fr.put]
  have h1:=jJ hZ;rw[h1,dL] at hD;have h2:Nat.beq (b+j) (b+i)=_:=jJ O1;simp[Fr.put,h2,oB];exact h.at_ j hj hD
 exact mBu
theorem Dn.same{V:Nat→Value}(h:Dn b m V F0 D F):ka (range' b m) F F0:=by
 intro s hs;refine h.out s ?_;rcases lU s b with h1|h1
 ·omega
 rcases lU s (b+m) with h2|h2
 ·rw[qMm (List.mem_range'_1.2 ⟨h1,h2⟩)] at hs;cases hs
 omega
theorem Dn.congr{V:Nat→Value}{D':Nat→Bool}(h:Dn b m V F0 D F)(hd:∀j,j<m→D' j=D j):Dn b m V F0 D' F:=⟨fun j hj h2=>h.at_ j hj O6,h.out⟩
theorem JP{pos:String}(hs:gx P n ⟨none,op,ty,pos,aft,none⟩ F w R)(h:∀v w',R v w'→K F w'):Qo P n ops ⟨none,op,ty,pos,aft,none⟩ F w K:=
 ⟨fun _=>Step.mono hs fun v w' hr=>⟨F,by rfl,h v w' hr⟩,fun hw=>by simp[Region.wanted] at hw⟩
theorem Dn.slot{V:Nat→Value}(h:Dn b m V F0 D F)(j:Nat)(hD:D j=true)(hj:Nat.blt j m=true)(hn:Nat.blt (b+j) n.sz=true):ev n F (.tmp (b+j))=V j:=by
 simp[ev,hn,Li];exact h.at_ j (Md hj) hD
theorem Dn.old{b m:Nat}{n:ky}{V:Nat→Value}{F0 F:Fr}{D:Nat→Bool}(h:Dn b m V F0 D F)(s:Nat)(hs:(Nat.blt s b||Nat.ble (b+m) s)=true)(hn:Nat.blt s n.sz=true):ev n F (.tmp s)=F0 s:=by
 simp[ev,hn,Li];refine h.out s ?_;rcases gJ _ _▸hs with h1|h1
 ·exact .inl (Md h1)
 exact .inr (fH h1)
variable{c:Nat}{d:Option Tmp}{g:Option (Nat×Bool)}{pa:Nat→List Nat}{y:Operand}
def HF(cx:Array Value)(o:Nat):List Value→Array Value
 |[]=>cx
 |v::vs=>HF (cx.setIfInBounds o v) (o+1) vs
theorem Pv:∀(vs:List Value) (cx:Array Value) (o:Nat),(HF cx o vs).size=cx.size
 |[],_,_=>rfl
 |v::vs,cx,o=>by
  show(HF _ _ vs).size=_
  rw[Pv,Array.size_setIfInBounds]
theorem Tt:∀(vs old A R:List Value) (cx:Array Value),cx.toList=A++(old++R)→old.length=vs.length→(HF cx A.length vs).toList=A++(vs++R)
 |[],[],A,R,cx,h,_=>h
 |[],u::old,_,_,_,_,hl=>by cases hl
 |v::vs,[],_,_,_,_,hl=>by cases hl
 |v::vs,u::old,A,R,cx,h,hl=>by
  have h1:(cx.setIfInBounds A.length v).toList=(A++[v])++(old++R):=by
   rw[oJ,h];simp
  have h2:=Tt vs _ _ R _ h1 O6;show(HF _ _ vs).toList=_
  grind
theorem PK{P:Program}{b:Nat}{t:TypeId}:∀(vs:List Value) (w:World) (cx:Array Value) (o i:Nat),w.heap[b]? =some (.cells cx t (0,0))→o+i+vs.length≤cx.size→vs.all kM=true→
  ∃w',(storeCells ⟨b,o,none⟩ vs i).run P w= .ok () w'∧ax [b] w w'∧w'.heap[b]? =some (.cells (HF cx (o+i) vs) t (0,0))
 |[],w,cx,o,i,hb,_,_=>⟨w,by simp[storeCells],.refl,hb⟩
 |v::vs,w,cx,o,i,hb,hl,h1=>by
  simp only[pJ,aJ] at h1;simp[cF] at hl;have⟨w1,r1,k1,b1⟩:=qE2 (P:=P) (o:=o+i) hb O1 h1.1;have⟨w2,r2,k2,b2⟩:=PK (P:=P) vs w1 _ o (i+1) b1 O6 h1.2;exact mDb
section
variable{L:List kr}{pos:String}{x:Operand}
theorem vL(enc:α→List Value)(l:List α)(i:Nat)(xv:α){t e gb c k:Nat}{v:Value}(hp:Hp w0 M w L)(j:Nat)(hj:L[j]? =some (qG enc e k (Ad gb) c l))(eo:kg (Ad gb) c l)(hi:i<l.length)
  (hx:ev n F x= .pointer (some ⟨gb,0+i*k,none⟩)) (hy:ev n F y=v) (hk:∀x,(enc x).length=k) (hv:v.cells.toList=enc xv) (h1:(enc xv).all kM=true) (hz:kz P t k):
  gx P n ⟨d,.store t x y,ty,pos,aft,g⟩ F w (fun u w'=>u=undef∧Hp w0 M w' (L.set j (qG enc e k (Ad gb) c (l.set i xv)))):=by
 obtain⟨o,ho,cx,rfl,ha,vu⟩:=hp.N j _ hj gb O;have ha:_=c*k:=ha;have tx:=eo.cap;have h7:l=l.take i++l[i]::l.drop (i+1):=by rw[nQ,dP]
 have hA:((l.take i).flatMap enc).length=i*k:=by
  rw[zR enc k hk,cJ,eM O1]
 have b3:l.flatMap enc=(l.take i).flatMap enc++(enc l[i]++(l.drop (i+1)).flatMap enc):=by
  conv=>lhs;rw[h7]
  rw[lD,nY]
 have hT:(l.set i xv).flatMap enc=(l.take i).flatMap enc++(enc xv++(l.drop (i+1)).flatMap enc):=by
  rw[List.set_eq_take_append_cons_drop,if_pos hi,lD,nY]
 have hg:cx.toList=(l.take i).flatMap enc++(enc l[i]++((l.drop (i+1)).flatMap enc++cx.toList.drop (l.length*k))):=by
  have h2:=(dP (l.length*k) cx.toList).symm;have hh:cx.toList.take (l.length*k)=l.flatMap enc:=vu;rw[hh,b3] at h2;refine h2.trans ?_;rw[bU,bU]
 have ys:=by
  have:(i+1)*k≤c*k:=aL k O1;rw[eL,mH] at this;exact this
 have⟨w',hr,pw,oc⟩:=PK (P:=P) _ w _ (0+i*k) 0 ho O6 h1;simp[gF] at hr;refine wE ?_ ⟨O,hp.p3 hj pw ?_⟩
 ·have u1:v.cells.size=k:=by rw[←wC,hv,hk]
  have ik:=hz.run (w:=w);simp only[execOp,Instr.storeAt,hx,hy,Instr.sureAddr,storeVar,bT,dZ,aN,ik,u1,hv];simp[hr]
 intro b1 oa;have oa:b1=gb:=by
  exact mE2
 subst oa;refine⟨.inl O,_,oc,_,O,?_,?_⟩
 ·rw[Pv,ha];rfl
 have h3:=Tt (enc xv) _ _ _ _ hg O6;have h4:=by
  have:=zR enc k hk (l.set i xv);rw[hT,fW,←bU] at this;exact this
 grind
end
theorem Dn.aD5{V V':Nat→Value}(h:Dn b m V F0 D F)(hi:i<m)(hV:∀j,j<m→j≠i→V' j=V j):Dn b m V' F0 (fun j=>D j||Nat.beq j i) (F.put (b+i) (V' i)):=by
 refine⟨fun j hj hD=>?_,fun s hs=>?_⟩
 ·by_cases hZ:j=i
  ·subst hZ;simp[Fr.put]
  exact mC8
 exact mBu
def MN(pa:Nat→List Nat)(D:Nat→Bool):Prop:=∀a b,D a=true→b∈pa a→D b=true
theorem MN.add(h:MN pa D)(hq:∀p∈pa q,D p=true):MN pa (fun j=>D j||Nat.beq j q):=by
 intro a b ha hb;rcases gJ _ _▸ha with h1|h1
 ·show(D b||_)=true
  rw[h a b h1 hb];rfl
 have:=bV h1;grind
theorem MN.not(h:MN pa D){a b:Nat}(hb:D b=false)(hm:b∈pa a):D a=false:=by
 cases ha:D a
 ·rfl
 rw[h a b ha hm] at hb;cases hb
theorem uL(h:Lw ops i D=true)(k:Nat)(hk:((jA ops i).after.toList.any fun e=>Region.binds .any e&&Nat.beq e.on k)=true):D k=true:=mDa
theorem QF:∀p∈([]:List Nat),D p=true:=O4
theorem MF(ha:D a=true):∀p∈[a],D p=true:=fun p h=>by
 rcases aP.1 h with rfl|h
 ·exact ha
 cases h
theorem al2(ha:D a=true)(hb:D b=true):∀p∈[a,b],D p=true:=fun p h=>by
 rcases aP.1 h with rfl|h
 ·exact ha
 exact MF hb p h
theorem al3(ha:D a=true)(hb:D b=true)(hc:D c=true):∀p∈[a,b,c],D p=true:=fun p h=>by
 rcases aP.1 h with rfl|h
 ·exact ha
 exact al2 hb hc p h
attribute [local irreducible] PV gx kq kn WP km Fit
variable{db k:Nat}{dp s1 s2 t2 tc:Option Addr}{l:List (Nat×Nat)}
section
theorem LZ{c:Code}{Q:Exit→Fr→World→Prop}(h:∀F0,F0=F→WP P n c Q F0 w):WP P n c Q F w:=h F O
theorem Hp.in2{x a b c:kr}{B:List kr}(h:Hp w0 M w (x::a::b::c::B)):Hp w0 M w (a::b::x::B):=
 (h.perm (((iR a x _).trans ((iR b x _).cons a)).trans (((iR c x B).cons b).cons a))).sub (((rB c (nZ _)).cons_cons b).cons_cons a)
theorem Hp.in3{x a b c d:kr}{B:List kr}(h:Hp w0 M w (x::a::b::c::d::B)):Hp w0 M w (a::b::c::x::B):=
 (h.perm (((iR a x _).trans ((iR b x _).cons a)).trans ((((iR c x _).cons b).cons a).trans ((((iR d x B).cons c).cons b).cons a)))).sub ((((rB d (nZ _)).cons_cons c).cons_cons b).cons_cons a)
def IH:Nat→List Nat
 |2=>[1]
 |3=>[2]
 |4=>[0,3]
 |7=>[6]
 |8=>[7]
 |9=>[5,8,4]
 |10=>range 10
 |11=>range 11
 |_=>[]
def II(D:Nat→Bool):Prop:=∀a b,D a=true→b∈IH a→D b=true
theorem II.add(h:II D)(hq:∀p∈IH q,D p=true):II (fun j=>D j||Nat.beq j q):=by
 intro a b ha hb;rcases gJ _ _▸ha with h1|h1
 ·show(D b||_)=true
  rw[h a b h1 hb];rfl
 have:=bV h1;grind
def F9(s1:Option Addr)(n1 c1:Nat)(s2:Option Addr)(n2 c2:Nat)(pb x y nb:Nat)(t1:Option Addr)(d1 nb2:Nat)(t2:Option Addr)(d2:Nat):Nat→Value:=
 qE [.slice s1 n1 c1,.pointer (Ad pb),Iv (x:Int),.slice (Ad nb) 1 1,.slice t1 (n1+1) d1,.slice s2 n2 c2,.pointer (some ⟨pb,1,none⟩),Iv (y:Int),.slice (Ad nb2) 1 1,.slice t2 (n2+1) d2]
def Lh(B:List kr)(X Y:List Nat)(x y:Nat)(s1:Option Addr)(c1:Nat)(s2:Option Addr)(c2 nb:Nat)(t1:Option Addr)(d1 nb2:Nat)(t2:Option Addr)(d2:Nat)(b3 b4 b8 b9:Bool):List kr:=
 (bif b4 then qG eN 3 1 t1 d1 (X++[x]) else qG eN 3 1 s1 c1 X)::(bif b9 then qG eN 3 1 t2 d2 (Y++[y]) else qG eN 3 1 s2 c2 Y)::(bif b3 then bu nb 1 (qE [Iv (x:Int)]) 3 else qG eN 3 1 none 0 [])::(bif b8 then bu nb2 1 (qE [Iv (y:Int)]) 3 else qG eN 3 1 none 0 [])::B
def D3(w3:World)(F0:Fr)(B:List kr)(X Y:List Nat)(pb x y:Nat)(s1:Option Addr)(c1:Nat)(s2:Option Addr)(c2:Nat)(D:Nat→Bool)(F:Fr)(w':World):Prop:=
 ∃(nb:Nat) (t1:Option Addr) (d1:Nat) (nb2:Nat) (t2:Option Addr) (d2:Nat) (G:Fr),Dn 41 10 (F9 s1 X.length c1 s2 Y.length c2 pb x y nb t1 d1 nb2 t2 d2) F0 D G∧
  F=(bif D 11 then(G.put 6 (.slice t1 (X.length+1) d1)).put 7 (.slice t2 (Y.length+1) d2) else bif D 10 then G.put 6 (.slice t1 (X.length+1) d1) else G)∧II D∧(D 4=true→kg t1 d1 (X++[x]))∧(D 9=true→kg t2 d2 (Y++[y]))∧
  Hp w3 [] w' (Lh B X Y x y s1 c1 s2 c2 nb t1 d1 nb2 t2 d2 (D 3) (D 4) (D 8) (D 9))
section
variable{w3:World}{B:List kr}{X Y:List Nat}{pb x y:Nat}{c1:Nat}{c2:Nat}{nb:Nat}{t1:Option Addr}{d1 nb2:Nat}{d2:Nat}
theorem D3.mk(na:Nat)(tc:Option Addr)(da:Nat)(nf:Nat)(dp:Option Addr)(db:Nat)(hq:q<10)(ha:Dn 41 10 (F9 s1 X.length c1 s2 Y.length c2 pb x y nb t1 d1 nb2 t2 d2) F0 D F)
  (hV:∀j,j<10→j≠q→F9 s1 X.length c1 s2 Y.length c2 pb x y na tc da nf dp db j=F9 s1 X.length c1 s2 Y.length c2 pb x y nb t1 d1 nb2 t2 d2 j) (hP:II D) (zp:∀p∈IH q,D p=true) (za:D 10=false) (y2:D 11=false) (b3 b4 b8 b9:Bool)
  (e3:(D 3||Nat.beq 3 q)=b3) (e4:(D 4||Nat.beq 4 q)=b4) (e8:(D 8||Nat.beq 8 q)=b8) (e9:(D 9||Nat.beq 9 q)=b9) (h4:b4=true→kg tc da (X++[x])) (h9:b9=true→kg dp db (Y++[y]))
  (hp:Hp w3 [] w' (Lh B X Y x y s1 c1 s2 c2 na tc da nf dp db b3 b4 b8 b9)):
  D3 w3 F0 B X Y pb x y s1 c1 s2 c2 (fun j=>D j||Nat.beq j q) (F.put (41+q) (F9 s1 X.length c1 s2 Y.length c2 pb x y na tc da nf dp db q)) w':=by
 have f1:Nat.beq 10 q=_:=jJ O1;have f2:Nat.beq 11 q=_:=jJ O1;subst e3 e4 e8 e9;refine⟨_,_,_,_,_,_,_,Dn.aD5 ha hq hV,?_,hP.add zp,h4,h9,hp⟩;grind
theorem D3.pure(hq:q<10)(n3:q≠3)(n4:q≠4)(n8:q≠8)(n9:q≠9)(ha:Dn 41 10 (F9 s1 X.length c1 s2 Y.length c2 pb x y nb t1 d1 nb2 t2 d2) F0 D F)(hP:II D)(za:D 10=false)(y2:D 11=false)
  (h4:D 4=true→kg t1 d1 (X++[x])) (h9:D 9=true→kg t2 d2 (Y++[y])) (hp:Hp w3 [] w' (Lh B X Y x y s1 c1 s2 c2 nb t1 d1 nb2 t2 d2 (D 3) (D 4) (D 8) (D 9))) (zp:∀p∈IH q,D p=true):
  D3 w3 F0 B X Y pb x y s1 c1 s2 c2 (fun j=>D j||Nat.beq j q) (F.put (41+q) (F9 s1 X.length c1 s2 Y.length c2 pb x y nb t1 d1 nb2 t2 d2 q)) w':=by
 have g:∀a,q≠a→(D a||Nat.beq a q)=D a:=fun a h=>by rw[jJ O1,dL]
 exact D3.mk nb t1 d1 _ t2 d2 hq ha (fun _ _ _=>O) hP zp za y2 _ _ _ _ (g 3 n3) (g 4 n4) (g 8 n8) (g 9 n9) h4 h9 hp
theorem D3.fin{G:Fr}(hq:10≤q)(ha:Dn 41 10 (F9 s1 X.length c1 s2 Y.length c2 pb x y nb t1 d1 nb2 t2 d2) F0 D G)(hP:II D)(zp:∀p∈IH q,D p=true)
  (h4:D 4=true→kg t1 d1 (X++[x])) (h9:D 9=true→kg t2 d2 (Y++[y])) (hp:Hp w3 [] w' (Lh B X Y x y s1 c1 s2 c2 nb t1 d1 nb2 t2 d2 (D 3) (D 4) (D 8) (D 9)))
  (hF:F=bif (D 11||Nat.beq 11 q) then(G.put 6 (.slice t1 (X.length+1) d1)).put 7 (.slice t2 (Y.length+1) d2) else bif (D 10||Nat.beq 10 q) then G.put 6 (.slice t1 (X.length+1) d1) else G):
  D3 w3 F0 B X Y pb x y s1 c1 s2 c2 (fun j=>D j||Nat.beq j q) F w':=by
 have g:∀a,a<10→(D a||Nat.beq a q)=D a:=fun a h=>by rw[jJ O1,dL]
 refine⟨nb,t1,d1,_,t2,d2,G,ha.congr O1,hF,hP.add zp,fun h=>h4 O6,fun h=>h9 O6,?_⟩;grind
theorem NV{na:Nat}{da nf:Nat}(h3:k≠3→na=nb)(h4:k≠4→tc=t1∧da=d1)(h8:k≠8→nf=nb2)(h9:k≠9→dp=t2∧db=d2):
  ∀j,j<10→j≠k→F9 s1 X.length c1 s2 Y.length c2 pb x y na tc da nf dp db j=F9 s1 X.length c1 s2 Y.length c2 pb x y nb t1 d1 nb2 t2 d2 j:=by
 intro j hj xr
 match j,hj,xr with
 |0,_,_=>rfl
 |1,_,_=>rfl
 |2,_,_=>rfl
 |3,_,h=>rw[h3 O1];rfl
 |4,_,h=>have⟨e1,e2⟩:=h4 (fun e=>h e.symm);rw[e1,e2];rfl
 |5,_,_=>rfl
 |6,_,_=>rfl
 |7,_,_=>rfl
 |8,_,h=>rw[h8 O1];rfl
 |9,_,h=>have⟨e1,e2⟩:=h9 (fun e=>h e.symm);rw[e1,e2];rfl
 |j+10,h,_=>omega
end
def Qy(p:Nat×Nat):List Value:=[Iv (p.1:Int),Iv (p.2:Int)]
def CD(l:List (Nat×Nat))(i:Nat):List Nat:=(l.take i).map (·.1)
def CC(l:List (Nat×Nat))(i:Nat):List Nat:=(l.take i).map (·.2)
theorem jBw(h:i<l.length):CD l (i+1)=CD l i++[(l[i]).1]:=by
 unfold CD;rw[aF h,dR];rfl
theorem jBv(h:i<l.length):CC l (i+1)=CC l i++[(l[i]).2]:=by
 unfold CC;rw[aF h,dR];rfl
theorem SM(h:i≤l.length):(CD l i).length=i:=by
 unfold CD;grind
theorem SN(h:i≤l.length):(CC l i).length=i:=by
 unfold CC;grind
def C0(l:List (Nat×Nat))(i:Nat):Int→Bool:=CI (l.map (·.1)) i
attribute [local irreducible] ki uY hv BI Cl Mb CI DC uB C0
theorem p73(nd:Nat)(l:List (Nat×Nat))(s:Option Addr)(c:Nat)(w:World)(hs:ig w 2 Qy s l)(hP:Eo (l.map (·.1)))(hm:∀p∈l,Mb p.2)(h1:1≤nd)(h2:nd≤l.length)(hl:l.length≤1000000):
  Rt 150 [Iv (nd:Int),.slice s l.length c,.func (.func 147) #[] #[]] w (fun v w'=>(∃t1 d1 t2 d2,v= .tuple #[.slice t1 nd d1,.slice t2 nd d2,.bool true]∧ig w' 1 eN t1 (CD l nd)∧ig w' 1 eN t2 (CC l nd))∧ax [] w w'):=by
 have cD:(l.map (·.1)).length=_:=aH _;have hz:uE (C0 l 0)=fun _=>none:=by unfold C0;exact ZS _
 refine tW func150 ntmps150 fun hp=>?_;refine qA ?_;refine qH O O1 (fun _=>qA (tF (yS AG hp) fun w1 mb hp=>?_));rw[←hz] at hp;have hp:=(hp.j7 eN 3 1).j7 eN 3 1;have hp:Hp w [] w1 [qG eN 3 1 _ 0 (CD l 0),qG eN 3 1 _ 0 (CC l 0),_]:=hp;refine qA (qQ ([6,7,8,11]++range' 17 41) (fun(X:Nat×(Option _×Nat)×(Option _×Nat)) F=>((F.put 17 (.int _ (X.1))).put 6 (.slice X.2.1.1 (CD l X.1).length X.2.1.2)).put 7 (.slice X.2.2.1 (CC l X.1).length X.2.2.2))
  (fun X w'=>X.1<nd∧kg X.2.1.1 X.2.1.2 (CD l X.1)∧kg X.2.2.1 X.2.2.2 (CC l X.1)∧Hp w [] w' [qG eN 3 1 X.2.1.1 X.2.1.2 (CD l X.1),qG eN 3 1 X.2.2.1 X.2.2.2 (CC l X.1),yA _ mb (uE (C0 l X.1))]) (fun X=>nd-X.1) (0,(none,0),(none,0))
  (qB (qB (qB (ka.eq .refl) O) O) O) ⟨O1,kg.nil,kg.nil,hp⟩ ?_)
 clear hp;rintro u0 ⟨i,⟨s1,c1⟩,⟨s2,c2⟩⟩ w2 ⟨hi,th,tg,hp⟩;dsimp only at hi th tg hp⊢;refine qA ?_;refine qH O (fun h=>?_) O1;have hg:i<l.length:=O1;have h8:i<(l.map (·.1)).length:=O1;have⟨b0,o0,hs0,yk⟩:=hs.base O1;have yl:=yk i _ (aA hg);have h3:=Vx hP h8;have x4:=YH hP.nd h8;have hy:=ZR h8;have zu:=hm _ (bX hg);have hx:=jBw hg;have hH:=jBv hg;have zz:=SM (l:=l) (i:=i) O1;have hJ:=SN (l:=l) (i:=i) O1;rw[mI] at h3 x4 hy;have x4:C0 l i (l[i].1:Nat)=false:=by unfold C0;exact x4
 have hy:(fun a=>decide (a=((l[i].1):Int))||C0 l i a)=C0 l (i+1):=by unfold C0;exact hy
 generalize l[i]=p at yl h3 zu hx hH x4 hy;have⟨x,y⟩:=p;dsimp only at h3 zu hx hH x4 hy;refine qA (tR (qL O O O O (fun j v hv=>hp.j3 (yl j v hv))) ?_);refine tQ fun w3 pb hp=>?_;refine tS fun w4 hp=>?_;have hp:=hp.I 0 [.int _ x,.int _ y] O O;refine Cj ?_;refine jM (ke (Dw hp 3 O O O (xG O).1 (xG (t:=162) O).2.1 (xG (t:=162) O).2.2) ((FK _ _).trans (aK _ x4)) ?_);refine jM ?_;refine Hd ?_;refine tC (p89 x _ h3.1 h3.2) fun w5 hp=>?_;refine BT (tR (yT O O) ?_);refine jM ?_;refine Hd ?_;refine BT ?_;refine tC (Ic y _ zu) fun w6 hp=>?_;refine BT (tR (yT O O) ?_);refine qR ?_;refine tJ (tO (G0 hp 3 O O O O (xG O).1 (xG (t:=162) O).2.1) fun w7 hp=>?_);rw[hy] at hp;refine qA (LZ ?_);intro F0 ht;have f6:F0 6= .slice s1 (CD l i).length c1:=by rw[ht];rfl
 have f7:F0 7= .slice s2 (CC l i).length c2:=by rw[ht];rfl
 have f11:F0 11= .pointer (Ad pb):=by rw[ht];rfl
 generalize CD l i=X at*
 generalize CC l i=Y at*
 obtain⟨B,hB⟩:∃B:List _,B=[bu pb 2 (qE [Iv x,Iv y]) 85,yA AG mb (uE (C0 l (i+1)))]:=⟨_,O⟩;have hp:Hp w [] w7 (Lh B X Y x y s1 c1 s2 c2 0 none 0 0 none 0 false false false false):=by
  rw[hB];exact((hp.j7 eN 3 1).j7 eN 3 1).j4 [3,4,0,1,2,5] _ O O
 have hL:∀a b c d,(a::b::c::d::B)[4]? =some (bu pb 2 (qE [Iv x,Iv y]) 85):=by intro a b c d;rw[hB];rfl
 refine L1 jG O3 (D3 w F0 B X Y pb x y s1 c1 s2 c2) ⟨0,_,0,0,_,0,F0,Dn.start,O,by intro a b h;grind,O4,O4,hp.U⟩ ?_ ?_
 ·rintro q D F vb hq h6 hA ⟨nb,t1,d1,nb2,t2,d2,G,hj,h5,hh,h4,h9,hp⟩;have hq:q<12:=hq;have ff:∀a,D q=false→q∈_→D a=_:=fun a hb hm=>by
   cases ha:D a
   ·rfl
   rw[hh a q ha hm] at hb;cases hb
  by_cases hK:q<10
  ·have za:=ff 10 h6 (aR.2 hK);have y2:=ff 11 h6 (aR.2 O1);have hF:F=G:=by rw[h5,y2,za];rfl
   clear h5 ff;subst hF;have na:=fun q (hq:q<10) n3 n4 n8 n9 zp=>D3.pure hq n3 n4 n8 n9 hj hh za y2 h4 h9 hp zp
   match q,hK with
   |0,_=>exact zI qP ((hj.old 6 O O).trans f6) (na 0 O2 O2 O2 O2 O2 QF)
   |1,_=>exact zI (xF O ((hj.old 11 O O).trans f11)) O (na 1 O2 O2 O2 O2 O2 QF)
   |2,_=>
    have a1:=uL hA 1 O;exact zI (qS O (hj.slot 1 a1 O O) (hp.J 4 (hL _ _ _ _) O)) O (na 2 O2 O2 O2 O2 O2 (MF a1))
   |3,_=>
    have a2:=uL hA 2 O;refine KQ (jC (cs:=[.int _ x]) hp O O (aK (fun v=>[_]) (hj.slot 2 a2 O O)) O O O O) ?_;rintro _ w' ⟨nf,rfl,hp'⟩;exact D3.mk (q:=3) nf t1 d1 nb2 t2 d2 O2 hj (NV O1 (fun _=>⟨O,O⟩) (fun _=>O) (fun _=>⟨O,O⟩)) hh (MF a2) za y2 true (D 4) (D 8) (D 9) (mY _) (dL _) (dL _) (dL _) h4 h9 (Hp.in2 hp')
   |4,_=>
    have a0:=uL hA 0 O;have a3:=uL hA 3 O;rw[h6,a3] at hp;refine KQ (jV eN X x hp 0 2 O O O O O O (fun _=>O) (hj.slot 0 a0 O O) (hj.slot 3 a3 O O) O th O O O1) ?_;rintro u w' ⟨tc,da,hu,hn,hp'⟩;rw[aY] at hu;subst hu;exact D3.mk (q:=4) nb tc da nb2 t2 d2 O2 hj (NV (fun _=>O) O1 (fun _=>O) (fun _=>⟨O,O⟩)) hh (al2 a0 a3) za y2 true true (D 8) (D 9) O6 (mY _) (dL _) (dL _) (fun _=>hn) h9 hp'
   |5,_=>exact zI qP ((hj.old 7 O O).trans f7) (na 5 O2 O2 O2 O2 O2 QF)
   |6,_=>exact zI (xF O ((hj.old 11 O O).trans f11)) O (na 6 O2 O2 O2 O2 O2 QF)
   |7,_=>
    have a6:=uL hA 6 O;exact zI (qS O (hj.slot 6 a6 O O) (hp.J 4 (hL _ _ _ _) O)) O (na 7 O2 O2 O2 O2 O2 (MF a6))
   |8,_=>
    have a7:=uL hA 7 O;refine KQ (jC (cs:=[.int _ y]) hp O O (aK (fun v=>[_]) (hj.slot 7 a7 O O)) O O O O) ?_;rintro _ w' ⟨nf,rfl,hp'⟩;exact D3.mk (q:=8) nb t1 d1 nf t2 d2 O2 hj (NV (fun _=>O) (fun _=>⟨O,O⟩) O1 (fun _=>⟨O,O⟩)) hh (MF a7) za y2 (D 3) (D 4) true (D 9) (dL _) (dL _) (mY _) (dL _) h4 h9 (Hp.in3 hp')
   |9,_=>
    have a4:=uL hA 4 O;have a5:=uL hA 5 O;have a8:=uL hA 8 O;rw[h6,a8] at hp;refine KQ (jV eN Y y hp 1 3 O O O O O O (fun _=>O) (hj.slot 5 a5 O O) (hj.slot 8 a8 O O) O tg O O O1) ?_;rintro u w' ⟨dp,db,hu,hn,hp'⟩;rw[aY] at hu;subst hu;exact D3.mk nb t1 d1 nb2 dp db O2 hj (NV O1 (fun _=>⟨O,O⟩) O1 O1) hh (al3 a5 a8 a4) za y2 _ (D 4) true true (dL _) (dL _) O6 (mY _) h4 (fun _=>hn) hp'
   |j+10,h=>omega
  rcases(show q=10∨q=11 by omega) with rfl|rfl
  ·have y2:=ff 11 h6 (aR.2 O2);have hF:F=G:=by rw[h5,y2,h6];rfl
   subst hF;have a0:=uL hA 0 O;have a1:=uL hA 1 O;have a2:=uL hA 2 O;have a3:=uL hA 3 O;have a4:=uL hA 4 O;have a9:=uL hA 9 O;have a5:=hh 9 5 a9 O2;have a8:=hh 9 8 a9 O2;have a7:=hh 8 7 a8 O2;have a6:=hh 7 6 a7 O2;have zq:∀p∈IH 10,D p=true:=by
    intro p hp;have hp:p<10:=aR.1 hp
    match p,hp with
    |0,_=>exact a0
    |1,_=>exact a1
    |2,_=>exact a2
    |3,_=>exact a3
    |4,_=>exact a4
    |5,_=>exact a5
    |6,_=>exact a6
    |7,_=>exact a7
    |8,_=>exact a8
    |9,_=>exact a9
    |j+10,h=>omega
   refine zI qY (hj.slot 4 a4 O O) (D3.fin O1 hj hh zq h4 h9 hp ?_);have e1:(D 11||Nat.beq 11 10)=false:=by rw[y2];rfl
   have e2:(D 10||Nat.beq 10 10)=_:=mY _;rw[e1,e2];rfl
  have aa:=uL hA 10 O;have hF:F=G.put 6 (.slice t1 (X.length+1) d1):=by rw[h5,h6,aa];rfl
  subst hF;have a9:=hh 10 9 aa O2;have zq:∀p∈IH 11,D p=true:=by
   intro p hp;have hp:p<11:=aR.1 hp;rcases(show p=10∨p<10 by omega) with rfl|h
   ·omega
   exact hh 10 p aa (aR.2 h)
  refine zI qY (hj.slot 9 a9 O O) (D3.fin O2 hj hh zq h4 h9 hp ?_);have e1:(D 11||Nat.beq 11 11)=_:=mY _;rw[e1];rfl
 rintro D F w8 hD ⟨nb,t1,d1,nb2,t2,d2,G,hj,h5,hh,h4,h9,hp⟩;have e:∀j,j<12→D j=_:=hD;rw[e 11 O2] at h5;rw[e 3 O2,e 4 O2,e 8 O2,e 9 O2] at hp;have h7:=h4 (e 4 O2);have hE:=h9 (e 9 O2);have oh:Hp w [] w8 [qG eN 3 1 t1 d1 (X++[x]),qG eN 3 1 t2 d2 (Y++[y]),yA AG mb (uE (C0 l (i+1)))]:=by
  rw[hB] at hp;exact hp.j4 [0,1,5] _ O O
 rw[←hx] at h7 oh;rw[←hH] at hE oh;clear hp;have hM:=SM (l:=l) (i:=i+1) O1;have hQ:=SN (l:=l) (i:=i+1) O1;have hG:=hj.same.eq;rw[Li] at h5;rw[h5,hG];subst ht hB;have hp:=oh;have ex:X.length+1=(CD l (i+1)).length:=O1;have ey:Y.length+1=(CC l (i+1)).length:=O1;rw[ex,ey];refine Hc ?_;refine jM ?_;refine qR (qH O (fun hq=>?_) (fun hq=>?_))
 ·have df:i+1=nd:=O1;have s1:=qZ hp 0 O h7 (fun _=>O);have s2:=qZ hp 1 O hE (fun _=>O);rw[hM,hQ];rw[df] at s1 s2⊢;refine qA ?_;exact PH O O O O ⟨_,O,⟨t1,d1,t2,d2,O,s1,s2⟩,hp.Z⟩
 have df:i+1<nd:=O1;refine Ck ?_;exact⟨(i+1,(t1,d1),(t2,d2)),qB O5 O,⟨df,h7,hE,hp⟩,O1⟩
end
variable{l ws:List Nat}{n:Nat}
section
structure Et where
 s1:Option Addr
 c1:Nat
 cs:List Nat
 s2:Option Addr
 c2:Nat
 rs:List A9
def Hh(k:Et):List Value:=[.slice k.s1 k.cs.length k.c1,.slice k.s2 k.rs.length k.c2]
structure Co(w:World)(k:Et):Prop where
 cs:ig w 1 eN k.s1 k.cs
 rs:CL w k.s2 k.rs
theorem Co.j1{w w':World}{k:Et}(h:Co w k)(hk:ax [] w w'):Co w' k:=⟨h.cs.i7 hk,h.rs.j1 hk⟩
structure Hl(ws:List Nat):Prop where
 ne:1≤ws.length
 len:ws.length≤13
 pos:∀x∈ws,1≤x
 max:∀x∈ws,x≤20
 sum:ws.sum≤60
theorem jJ0:∀{ws:List Nat},1≤ws.length→(∀x∈ws,1≤x)→1≤ws.sum
 |[],h,_=>by cases h
 |w::ws,_,h=>by
  have:=h w fX;grind
theorem Hl.sp(h:Hl ws):1≤ws.sum:=jJ0 h.ne h.pos
structure DJ(k:Et)(ws:List Nat):Prop where
 rows:IT k.rs=Gg 1 ws
 wo:Hl ws
 nd:k.cs.length=G9 ws.sum
 mb:∀a∈k.cs,Mb a
theorem DJ.len{k:Et}(h:DJ k ws):k.rs.length=ws.length:=by
 have:=aK List.length h.rows;unfold IT at this;rwa[aH,Z4] at this
theorem DJ.row{k:Et}(h:DJ k ws){i:Nat}(hi:i<k.rs.length):(k.rs[i]).l=range' (1+(ws.take i).sum) (ws.getD i 0):=by
 have hw:i<ws.length:=by rw[←h.len];exact hi
 have h1:=S7 ws 1 i hw;rw[←h.rows] at h1;unfold IT at h1;grind
theorem DJ.sum{k:Et}{ws:List Nat}(h:DJ k ws):EQ k.rs=ws.sum:=by
 have e:(IT k.rs).map List.length=k.rs.map fun r=>r.l.length:=by
  unfold IT;rw[iU];rfl
 unfold EQ;rw[←e,h.rows,Z5]
theorem jK3(n:Nat):1≤G9 n:=by unfold G9;omega
theorem jE9(h:1≤n):G9 n≤n:=by unfold G9;omega
theorem jFb(h:i<l.length):l.getD i 0∈l:=O6
theorem qNo(ws:List Nat)(i:Nat):(ws.take (i+1)).sum=(ws.take i).sum+ws.getD i 0:=by
 by_cases h:i<ws.length
 ·rw[qNn h,TC]
 rw[bJ O1,bJ O1,aC,bY O1];rfl
attribute [local irreducible] ki uY hv BI Cl Mb CI DC uB C0
theorem p32(nd:Nat)(l:List (Nat×Nat))(s:Option Addr)(c:Nat)(w:World)(hs:ig w 2 Qy s l)(hP:Eo (l.map (·.1)))(ha:Eo (CD l nd))(hm:∀p∈l,Mb p.2)(h1:1≤nd)(h2:nd≤l.length)(hl:l.length≤1000000):
  Rk 89 [Iv (nd:Int),.slice s l.length c] w (.tuple #[Iv (Fs (CD l nd) (CC l nd):Int),.bool true]):=by
 have hx:=SM h2;have hy:=SN h2
 have gz:∀y∈CC l nd,y≤9223372036854775807:=by
  intro y hy;unfold CC at hy;obtain⟨p,hp,rfl⟩:=bM.1 hy;have:=Gl (hm p (gE hp));omega
 refine tW func89 ntmps89 fun hp=>?_;refine tL (p73 nd l s c _ hs hP hm h1 h2 hl) ?_;rintro _ w1 ⟨⟨t1,d1,t2,d2,rfl,hq,h4⟩,hk⟩;have hp:=hp.V hk;refine AL ?_
 (apply Ax;exact qC O jSs O (by
  have:=p47 _ _ t1 t2 d1 d2 w1 hq h4 ha O1 O1 gz;rw[hx,hy] at this
  exact this);rintro _ w2 ⟨rfl,hk⟩;have hp:=hp.V hk)
 refine qA ?_;exact xU O O O ⟨_,O,O,hp.Z⟩
theorem p28(k:Et)(ws:List Nat)(w:World)(hk:Co w k)(ho:DJ k ws):Rk 85 [.agg (Hh k).toArray] w (.bool true):=by
 have hQ:=ho.len;have cY:=fun{i:Nat} (h:i<_)=>ho.row h
 have h7:=ho.wo.sp;have hz:=ho.wo.sum;have xx:=ho.wo.pos;have hm:=ho.wo.len;have df:=ho.nd;have zu:=ho.mb;have h3:=jE9 h7;clear ho;have⟨s1,c1,cs,s2,c2,rs⟩:=k;have⟨hg,hh⟩:=hk;dsimp only at hQ cY df zu hg hh;have hE:Hh ⟨s1,c1,cs,s2,c2,rs⟩=[.slice s1 cs.length c1,.slice s2 rs.length c2]:=O;rw[hE];clear hE;refine tW func85 ntmps85 fun hp=>?_;refine qR ?_;refine tQ fun w1 kb hp=>?_;refine qA (qQ ([2,3,5,7]++range' 14 20) (fun(i:Nat) F=>(F.put 14 (.int _ i)).put 3 (.int _ (1+(ws.take i).sum:Nat)))
  (fun i w'=>i≤rs.length∧Hp w [] w' [bu kb 2 _ 76]) (fun i=>rs.length-i) 0 (qB (qB (ka.eq .refl) O) O) ⟨O1,hp⟩ ?_)
 clear hp;rintro u0 i w2 ⟨hi,hp⟩;have ys:=TJ ws i;refine tI (fun h=>?_) fun h=>?_
 ·have hl:i<rs.length:=O1;have⟨b0,o0,hs0,yk⟩:=hh.at_.base O1;have yl:=yk i _ (aA hl) 0 _ O;have hn:=cY hl;have bz:=hh.row _ (bX hl);have yt:=qNo ws i;have se:=TJ ws (i+1);have n4:=xx _ (jFb (i:=i) O1);generalize rs[i]=r at yl hn bz;generalize ws.getD i 0=m at hn yt n4;have⟨sr,cr,lr⟩:=r;dsimp only at hn bz;have ht:lr.length=m:=by rw[hn,List.length_range']
  have yl:w.cell? _=some (.slice sr lr.length cr):=yl;refine qA ?_;refine qH O O1 (fun _=>qA (qQ ([2,3,7]++range' 23 10) (fun(j:Nat) F=>(F.put 23 (.int _ j)).put 3 (.int _ (1+(ws.take i).sum+j:Nat)))
   (fun j w'=>j≤lr.length∧Hp w [] w' _) (fun j=>lr.length-j) 0 (qB (qB (ka.eq .refl) O) O) ⟨O1,hp⟩ ?_))
  clear hp;rintro u1 j w3 ⟨hj,hp⟩;refine tI (fun h=>?_) fun h=>?_
  ·have bw:j<lr.length:=O1;have⟨b1,o1,ha,vx⟩:=bz.base O1;have eg:=vx j _ (aA bw) 0 _ O;have hy:lr[j]=1+(ws.take i).sum+j:=by
    have:lr[j]? =some (1+(ws.take i).sum+1*j):=by rw[hn,List.getElem?_range' O1]
    rw[aA bw] at this;have:=lI this;omega
   rw[hy] at eg;refine qA ?_;refine xD O (fun h=>absurd h O4) (fun _=>tM (1+(ws.take i).sum+(j+1)) ?_);refine Fv ?_;exact Ig
  obtain rfl:j=lr.length:=O1;have e1:1+(ws.take i).sum+lr.length=1+(ws.take (i+1)).sum:=O1;rw[e1];exact Jm
 obtain rfl:i=rs.length:=O1;have e1:(ws.take rs.length).sum=ws.sum:=by rw[hQ,dF]
 rw[e1];clear ys e1;refine AP ?_;refine tN (ws.sum) ?_;refine tY fun hp=>?_;refine tP (fun w hp=>qP) ?_;refine kp O (fun w hp=>zQ O O) (qV (aB O1)) (tP (fun w hp=>qP) ?_);apply yG;rfl;rfl;rfl;intro w hp;exact qP;exact fI O;apply yG;rfl;rfl;rfl;intro w hp;exact xJ O O;exact qV (aB O1);refine tP (fun w hp=>yT O O) ?_;refine tP (fun w hp=>qP) (xA ?_);refine tG (p46 _ _ h7 O1) fun w4 hp=>?_;apply yG;rfl;rfl;rfl;intro w hp;exact kB O O;exact qV (ndf O1);refine tP (fun w hp=>yT O O) (qU ?_);refine qR ?_;refine tJ (qQ ([2,10]++range' 53 8) (fun(i:Nat) F=>F.put 53 (.int _ i))
  (fun i w'=>i≤cs.length∧Hp w [] w' _) (fun i=>cs.length-i) 0 (qB (ka.eq .refl) O) ⟨O1,hp⟩ ?_)
 (repeat clear hp);rintro u2 q w5 ⟨hq,hp⟩;refine tI (fun h=>?_) fun h=>?_
 ·have hl:q<cs.length:=O1;have⟨b0,o0,hs0,yk⟩:=hg.base O1;have yl:=yk q _ (aA hl) 0 _ O;have hx:=zu _ (bX hl);generalize cs[q]=a at yl hx;refine tD (Ic a _ hx) fun w6 hp=>?_;refine AL ?_;refine tN (q+1) ?_;exact KJ
 exact nj
end
variable{rs:List A9}
section
structure Mem where
 id:Nat
 wt:Nat
 pb:Nat
def Zz(ms:List Mem):List Nat:=ms.map Mem.wt
structure MH(ms:List Mem):Prop where
 nd:(ms.map Mem.id).Nodup
 wo:Hl (Zz ms)
 ib:∀m∈ms,m.id≤1000000
 pb:∀m∈ms,m.pb<2305843009213691579
theorem MH.len{ms:List Mem}(h:MH ms):1≤ms.length∧ms.length≤13:=by
 have h1:=h.wo.ne;have h2:=h.wo.len;unfold Zz at h1 h2;grind
def KH(ws:List Nat)(i j k:Nat):List Nat:=if k<i then range' (1+(ws.take k).sum) (ws.getD k 0) else if k=i then range' (1+(ws.take i).sum) j else[]
structure GE(ws:List Nat)(i j:Nat)(rs:List A9):Prop where
 len:rs.length=ws.length
 row:∀k (h:k<rs.length),rs[k].l=KH ws i j k
 svl:∀r∈rs,kg r.s r.c r.l
theorem GE.zero(ws:List Nat):GE ws 0 0 (replicate ws.length ⟨none,0,[]⟩):=by
 refine⟨lM,fun k h=>?_,fun r hr=>?_⟩
 ·unfold KH;simp
 rw[XO hr];exact kg.nil
theorem GE.step{ws:List Nat}{i j:Nat}{rs:List A9}(h:GE ws i j rs)(hi:i<rs.length){s':Option Addr}{c':Nat}(hv:kg s' c' (rs[i].l++[1+(ws.take i).sum+j])):GE ws i (j+1) (rs.set i ⟨s',c',rs[i].l++[1+(ws.take i).sum+j]⟩):=by
 refine⟨by rw[fW];exact h.len,fun k hk=>?_,fun r hr=>?_⟩
 ·rw[List.getElem_set];split
  ·rename_i e
   subst e;rw[h.row];unfold KH;rw[if_neg O1,if_pos O,if_neg O1,if_pos O,List.range'_concat];simp
  rw[h.row];unfold KH;grind
 rcases pB hr with hr|rfl
 ·exact h.svl r hr
 exact hv
theorem GE.next(h:GE ws i (ws.getD i 0) rs):GE ws (i+1) 0 rs:=by
 refine⟨h.len,fun k hk=>?_,h.svl⟩;rw[h.row];unfold KH;grind
theorem GE.done(h:GE ws ws.length 0 rs):IT rs=Gg 1 ws:=by
 unfold IT;apply dI;intro k;by_cases hk:k<ws.length
 ·have ha:k<rs.length:=by rw[h.len];exact hk
  rw[S7 ws 1 k hk,bH,aA ha,fD,h.row];unfold KH;grind
 rw[bY (by rw[aH,h.len];omega),bY (by rw[Z4];omega)]
attribute [local irreducible] ki uY hv BI Cl Mb CI DC uB C0
end
section
attribute [local irreducible] ki uY hv BI Cl Mb CI DC uB C0 Fs
end
variable{fs:Array Field}{pl:List (Nat×Nat)}{zs:List Value}
def lay:List (Nat×Nat)→Nat→Nat→List (Nat×Value)→Bool
 |[],_,_,[]=>true
 |(o',sz)::pl,i,o,(j,v)::ps=>Nat.beq j i&&(Nat.beq o' o&&(Nat.beq v.cells.size sz&&lay pl (i+1) (o+sz) ps))
 |_,_,_,_=>false
theorem ZO(place:Nat→Option (Nat×Nat)):∀(ps:List (Nat×Value)) (pl:List (Nat×Nat)) (i o:Nat) (pre rest:List Value),(∀j x,pl[j]? =some x→place (i+j)=some x)→lay pl i o ps=true→pre.length=o→
  rest.length=(pl.map (·.2)).sum→Instr.fill place (pre++rest).toArray ps=some (pre++ps.flatMap fun p=>p.2.cells.toList).toArray
 |[],[],i,o,pre,rest,_,_,_,hr=>by
  exact mEh
 |[],_::_,_,_,_,_,_,h,_,_=>by simp[lay] at h
 |_::_,[],_,_,_,_,_,h,_,_=>by simp[lay] at h
 |(j,v)::ps,(o',sz)::pl,i,o,pre,rest,hp,h,hpre,hr=>by
  simp only[lay,aJ] at h;have⟨h1,h2,h3,h4⟩:=h;have h1:=bV h1;have h2:=bV h2;subst h1 h2;rw[fG,No] at hr;have xv:=hp 0 _ O;have eo:v.cells.toList.length=sz:=by simpa using h3
  have hz:v.cells.zipIdx.foldl (fun cs x=>cs.setIfInBounds (o'+x.2) x.1) (pre++rest).toArray=(pre++v.cells.toList++rest.drop sz).toArray:=by
   rw[←nJ,xB];have e:=PG v.cells.toList (pre++rest) o' 0;rw[fY,←hpre,OY v.cells.toList pre rest O1,eo] at e;rw[←hpre];exact e
  simp only[Instr.fill,xv];have:=ZO _ ps pl _ _ (pre++v.cells.toList) (rest.drop sz) (fun q x hq=>by
   have:=hp (q+1) x O6
   rwa[show j+1+q=j+(q+1) by omega]) h4 O6 O6
  grind
theorem qVm{n:ky}{pos:String}{t:TypeId}{ps:Array (Nat×Operand)}{vs:List (Nat×Value)}
  (ht:P.underlying t=some (.struct fs)) (hz:kx P t (.agg zs.toArray)) (xv:∀w,(fs.mapM (fun f=>do pure (f.offset,←sizeOf f.type):Field→Sem (Nat×Nat))).run P w= .ok pl.toArray w) (hl:zs.length=(pl.map (·.2)).sum)
  (dh:(ps.toList.map fun p=>(p.1,ev n F p.2))=vs) (ha:lay pl 0 0 vs=true):PV P n w F ⟨d,.build t ps,ty,pos,aft,g⟩ (.agg (vs.flatMap fun p=>p.2.cells.toList).toArray):=by
 refine Jg ht hz O xv ?_;have h:=ZO (pl.toArray[·]?) vs pl 0 0 [] zs (fun j x hx=>O6) ha O hl;have e:(ps.map fun(i,x)=>(i,ev n F x)).toList=vs:=by rw[vH,dh]
 rw[e];exact h
section
def JL(r:Int):ByteArray:=(⟨#[114,111,117,110,100,47]⟩:ByteArray)++dec r
def AY(r:Int):Nat:=He (bl (JL r))
def VI(bt:Nat→Nat)(n:Nat):List Nat:=Nat.rec [] (fun n l=>(if n<16 then wp bt n 4 else(((l.getD 15 0+g0 (l.getD 14 0))%4294967296+l.getD 6 0)%4294967296+g1 (l.getD 1 0))%4294967296)::l) n
theorem VM(bt):∀n i,i<n→(VI bt n).getD (n-1-i) 0=wf bt i
 |0,_,h=>O1
 |n+1,i,h=>by
  have ih:=VM bt n
  by_cases e:i=n
  ·subst e;rw[nN,gZ];show(if i<16 then _ else _)=_
   split
   ·rw[Vp bt ‹_›]
   rw[Vo bt O1,←ih (i-16) O1,←ih (i-15) O1,←ih (i-7) O1,←ih (i-2) O1,(by omega:i-1-(i-16)=15),(by omega:i-1-(i-15)=14),(by omega:i-1-(i-7)=6),(by omega:i-1-(i-2)=1)];rfl
  rw[(by omega:n+1-1-i=(n-1-i)+1)];exact ih i O1
def VK(bt:Nat→Nat)(s:St)(n:Nat):St:=Nat.rec s (fun i t=>Nx (kf i) ((VI bt 64).getD (63-i) 0) t) n
theorem VJ(bt s):∀n,n≤64→Dt bt s n=VK bt s n
 |0,_=>rfl
 |n+1,h=>by rw[Dt,VJ bt s n O1,←VM bt 64 n h];rfl
def JA:List Nat:=[101,47,114,111,117,110,100,47,51]
theorem zWe:fin JA=Ek Dz (Dt (fun k=>(pad JA).getD (64*0+k) 0) Dz 64):=O3
theorem zWf:Ek Dz (VK (fun k=>(pad JA).getD (64*0+k) 0) Dz 64)=⟨935775612,649345019,752144563,4081640723,1932725775,3857372436,2203515650,4013838956⟩:=O3
theorem zWg:fin JA=⟨935775612,649345019,752144563,4081640723,1932725775,3857372436,2203515650,4013838956⟩:=by rw[zWe,VJ _ _ _ O2,zWf]
theorem zWh{l s}(h:fin l=s):DO l=fun i=>wd s (i/4)/2^(24-i%4*8)%256:=by subst h;rfl
theorem zWi:Lib.itoa 3=[51]:=Lib.decDigits_one (i:=3) O2
theorem zWj:[101,47]++bl (JL 3)=JA:=by unfold JL dec;rw[zWi];rfl
theorem zWk:nB (DO JA) 8=4019125650583730171:=by rw[zWh zWg];decide+kernel
theorem zWm(x)(h:nB (DO ([101,47]++l)) 8=x):He l=(1+x%9223372036854775808%2305843009213691578)*(1+x%9223372036854775808%2305843009213691578)%2305843009213691579:=by unfold He Ii GQ;rw[h]
theorem zWn:AY 3=395959045349903426:=zWm (l:=bl (JL 3)) 4019125650583730171 (by rw[zWj,zWk])
theorem JS{r:Int}(h:r=3):Mb (AY r):=by
 rw[h,zWn];exact⟨O2,O2,by rw[←Sy gP 64 _ gQ O2];decide+kernel⟩
theorem jHc{r:Int}(h0:-9223372036854775808≤r)(h1:r≤9223372036854775807):(dec r).size≤20:=by
 unfold dec Lib.itoa;split
 ·have:=OQ 18 r.natAbs O1;show(45::Lib.decDigits _).length≤20
  grind
 have:=OQ 18 r.toNat O1;show(Lib.decDigits _).length≤20
 omega
def Gz(r:Int)(p:Nat×Nat):List Value:=[Iv (p.1:Int),Iv ((AY r^p.2%gP:Nat):Int),Iv (Bi p.2 4 (AY r):Int),Iv (CX p.2 4 (AY r):Int)]
def Dv(c:List Nat)(xs:List Nat):List (Nat×Nat):=xs.map fun x=>(x,vl c x)
structure E6(k:Et)(ws c:List Nat):Prop where
 ko:DJ k ws
 pk:k.cs=Ia 4 c
 cb:∀a∈c,a<1152921504606845789
attribute [local irreducible] ki uY hv BI Cl Mb CI DC uB C0 Fs He Bi CX AY dec
theorem TY(r:Int)(w:World)(hT:Ai w)(h0:-9223372036854775808≤r)(h1:r≤9223372036854775807):Rk 29 [Iv r] w (Iv (AY r:Int)):=by
 have hd:=jHc h0 h1;have hs:=R3 ⟨#[114,111,117,110,100,47]⟩ (dec r);have h6:(⟨#[114,111,117,110,100,47]⟩:ByteArray).size=6:=O;refine tW func29 ntmps29 fun hp=>?_;refine tD (PR r _ O1 h0 h1) fun w1 hp=>?_;refine tR (GY O O O1) ?_;refine tC (p59 (JL r) _ (hT.j1 hp.Z) (by unfold JL;omega)) fun w2 hp=>?_;refine tV ?_;exact⟨_,O,by unfold AY;rfl,hp.Z⟩
theorem p7(x y:Nat)(r:Int)(w:World)(hT:Ai w)(h0:-9223372036854775808≤r)(h1:r≤9223372036854775807)(h3:r=3)(ha:1≤x)(nq:x≤60)(hy:y<1152921504606845789):
  Rk 28 [.agg #[Iv (x:Int),Iv (y:Int)],Iv r] w (.agg (Gz r (x,y)).toArray):=by
 have hb:=JS h3;have zr:=Gl hb;refine tW func28 ntmps28 fun hp=>?_;refine qR ?_;refine tQ fun w1 b2 hp=>tF (OG hp (qJ O)) fun w2 b4 hp=>?_;refine qA ?_;refine xD O (fun h=>absurd h O6) (fun _=>tD (TY r _ (hT.j1 hp.Z) h0 h1) fun w3 hp=>?_);refine qA ?_;refine jU jG O3 (fun w'=>Hp _ _ w' _) hp.U ?_;have hp:=hp.U;refine tH (FA (AY r) y 2305843009213691579 _ O1 O1 O2 O2) fun w4 hp=>?_;refine tH (p26 y 4 _ _ (hT.j1 hp.Z) hy Vq hb) fun w5 hp=>kp O (fun w hp=>qVm (pl:=[(0,1),(1,1),(2,2)]) underlying82 (qJ O) (fun w=>O3) O O O) (Qw O) ?_;apply xH;rfl;rfl;exact OI hp 0 O O O O (qD O) O;rintro _ u2 ⟨rfl,hp⟩;refine qU (qA ?_);exact Ee
theorem Z3(c xs:List Nat):(Dv c xs).length=xs.length:=aH _
theorem p31(k:Et)(ws c:List Nat)(x:Nat)(r:Int)(w:World)(hT:Ai w)(h0:-9223372036854775808≤r)(h1:r≤9223372036854775807)(h3:r=3)(hk:Co w k)(ho:E6 k ws c)(hg:1≤x)(nq:x≤ws.sum)(ha:Cl (Ia 4 c) x=4^vl c x%gP):
  Rk 88 [.agg (Hh k).toArray,Iv r,.agg (Gz r (x,vl c x)).toArray] w (.bool true):=by
 have ya:=ho.ko.len;have ht:=ho.ko.wo.len;have hz:=ho.ko.wo.sum;have dt:=ho.ko.sum;have zu:=ho.ko.mb;have hm:=ho.pk;have hP:k.cs.length≤60:=by
  have:=jE9 ho.ko.wo.sp;have:=ho.ko.nd;omega
 have nu:Cl k.cs x=4^vl c x%gP:=by rw[hm];exact ha
 have eo:vl c x<1152921504606845789:=jM4;have hn:=fun{w':World} (h:ax [] w w')=>hk.j1 h
 have⟨s1,c1,cs,s2,c2,rs⟩:=k;have⟨u1,hh⟩:=hk;dsimp only at ya dt zu hP nu u1 hh;have hE:Hh ⟨s1,c1,cs,s2,c2,rs⟩=[.slice s1 cs.length c1,.slice s2 rs.length c2]:=O;have hq:Gz r (x,vl c x)=[.int _ x,.int _ (AY r^vl c x%gP:Nat),.int _ (Bi (vl c x) 4 _),.int _ (CX (vl c x) 4 _)]:=O;rw[hE,hq];clear hE hq;refine tW func88 ntmps88 fun hp=>?_;refine qR ?_;refine tQ fun w1 b3 hp=>tF (jMa hp O) fun w2 b5 hp=>?_;refine qA ?_;have hj:EQ (rs.take 0)=0:=by simp[EQ]
 refine qQ ([7,9]++range' 13 9) (fun(i:Nat) F=>(F.put 13 (.int _ i)).put 7 (.int _ (EQ (rs.take i))))
  (fun i w'=>i≤rs.length∧Hp w [] w' [bu b5 4 _ 82,bu b3 2 _ 76]) (fun i=>rs.length-i) 0 (qB (qB (ka.eq .refl) O) (by rfl)) ⟨O1,hp⟩ ?_
 clear hp;rintro u0 i w3 ⟨hi,hp⟩;have ys:=TM rs i;refine tI (fun h=>?_) fun h=>?_
 ·have hl:i<rs.length:=O1;have⟨b0,o0,hs0,yk⟩:=hh.at_.base O1;have yl:=yk i _ (aA hl) 0 _ O;have xy:=jAe hl;have se:=TM rs (i+1);generalize rs[i]=q at yl xy;refine tM (EQ (rs.take i)+q.l.length) ?_;rw[←xy];exact Jm
 obtain rfl:i=rs.length:=O1;refine qA ?_;refine xD O (fun h=>absurd h O6) (fun _=>tY fun hp=>?_);refine tH (p45 cs x s1 c1 _ (u1.i7 hp.Z) O1 O1 (fun a ha=>Gl (zu a ha))) fun w4 hp=>?_;rw[nu];refine tH (TY r _ (hT.j1 hp.Z) h0 h1) fun w5 hp=>?_;refine tH (p72 _ 4 _ _ (hT.j1 hp.Z) eo Vq (JS h3)) fun w6 hp=>?_;refine qX (qU ?_);exact nj
theorem p30(k:Et)(ws c:List Nat)(x kb rb:Nat)(r:Int)(w:World)(hT:Ai w)(h0:-9223372036854775808≤r)(h1:r≤9223372036854775807)(h3:r=3)(hk:Co w k)(ho:E6 k ws c)(hg:1≤x)(nq:x≤ws.sum)(ha:Cl (Ia 4 c) x=4^vl c x%gP)
  (hh:∀j v,(Hh k)[j]? =some v→w.cell? ⟨kb,0+j,none⟩=some v) (hj:w.cell? ⟨rb,0,none⟩=some (Iv r)):
  Rk 87 [.agg (Gz r (x,vl c x)).toArray,.pointer (Ad kb),.pointer (Ad rb)] w (.bool true):=by
 have hl:=fun w' h=>p31 k ws c x r w' (hT.j1 h) h0 h1 h3 (hk.j1 h) ho hg nq ha
 refine tW func87 ntmps87 fun hp=>?_;refine qR (tF (jMa hp O) fun w1 b3 hp=>?_);refine qA (tR (qL O O O O (fun j v hv=>hp.j3 (hh j v hv))) ?_);refine tD (hl _ hp.Z) fun w2 hp=>?_;exact nj
theorem p29(k:Et)(ws c xs:List Nat)(kb rb:Nat)(r:Int)(s:Option Addr)(cc:Nat)(w:World)(hT:Ai w)(h0:-9223372036854775808≤r)(h1:r≤9223372036854775807)(h3:r=3)(hk:Co w k)(ho:E6 k ws c)(hj:∀x∈xs,1≤x∧x≤ws.sum)(ha:∀x∈xs,Cl (Ia 4 c) x=4^vl c x%gP)
  (hm:∀j v,(Hh k)[j]? =some v→w.cell? ⟨kb,0+j,none⟩=some v) (hn:w.cell? ⟨rb,0,none⟩=some (Iv r)) (hs:ig w 4 (Gz r) s (Dv c xs)) (hl:xs.length≤100000):
  Rt 86 [.slice s xs.length cc,.func (.func 87) #[] #[.pointer (Ad kb),.pointer (Ad rb)]] w (fun v w'=>(∃s' c',v= .tuple #[.slice s' xs.length c',Zs]∧ig w' 4 (Gz r) s' (Dv c xs))∧ax [] w w'):=by
 have xv:=Z3 c xs;refine tW func86 ntmps86 fun hp=>?_;refine qA ?_;have hp:=hp.j7 (Gz r) 82 4;have vu:∀i,i≤xs.length→((Dv c xs).take i).length=i:=fun i hi=>O6
 have hp:Hp w [] w [qG _ 82 4 _ 0 ((Dv c xs).take 0)]:=hp;refine kS ([4,5,7]++range' 10 16) (fun(i:Nat) s c' F=>((F.put 10 (.int _ i)).put 4 (.slice s ((Dv c xs).take i).length c')).put 5 (.slice _ 0 0))
  (fun i s c' w'=>i≤xs.length∧kg s c' ((Dv c xs).take i)∧Hp w [] w' [qG _ 82 4 s c' ((Dv c xs).take i)]) (fun i _ _=>xs.length-i) 0 _ 0 (qB (qB (qB (ka.eq .refl) O) O) O) ⟨O1,kg.nil,hp⟩ ?_
 (repeat clear hp);rintro u0 i s1 c1 w2 ⟨hi,hx,hp⟩;have ht:=vu i hi;refine tI (fun h=>?_) fun h=>?_
 ·have hg:i<xs.length:=O1;have h4:i<(Dv c xs).length:=O1;have⟨b0,o0,hs0,yk⟩:=hs.base O1;have yl:=yk i _ (aA h4);have b4:=hj _ (bX hg);have hz:(Dv c xs)[i]=(xs[i],vl c xs[i]):=by simp[Dv]
  have hq:=aF h4;rw[hz] at yl hq;have hh:=fun w' h=>p30 k ws c _ kb rb r w' (hT.j1 h) h0 h1 h3 (hk.j1 h) ho b4.1 b4.2 (ha _ (bX hg)) (fun j v hv=>h.cell (hm j v hv) O4) (h.cell hn O4)
  generalize xs[i]=x at yl hq hh;refine qA (ke (qL O O O O (fun j v hv=>hp.j3 (yl j v hv))) (Qw O) ?_);refine tF (OG hp (qJ O)) fun w3 pb hp=>tO (OI hp 0 O O O O (qD O) O) fun w4 hp=>?_;refine tD (hh _ hp.Z) fun w5 hp=>?_;refine qA (jB O ?_);refine qA ?_;refine tF (jC (cs:=Gz r (x,vl c x)) hp O O O O O O O) fun w6 nb hp=>AB (jV _ _ _ hp 2 0 O O O O O O (fun _=>O) O O O hx O O O1) fun w7 s' c'⟨hy,hp⟩=>?_;rw[←hq] at hy hp;rw[←hq];refine Ck ?_;exact⟨_,s',c',qB O5 O,⟨O1,hy,hp.E.E⟩,O1⟩
 obtain rfl:i=xs.length:=O1;have zq:(Dv c xs).take xs.length=Dv c xs:=by rw[←xv,dF]
 rw[zq] at hx hp⊢;refine qA ?_;exact xU O O O ⟨_,O,⟨s1,c1,by rw[xv];rfl,qZ hp 0 O hx (fun _=>O)⟩,hp.Z⟩
end
section
def CF(b:Nat)(c xs:List Nat):List (Nat×Nat):=xs.map fun x=>(x,b^vl c x%gP)
theorem jJb(b:Nat)(c xs:List Nat):(CF b c xs).length=xs.length:=aH _
theorem qXm(b:Nat)(c xs:List Nat):(CF b c xs).map (·.1)=xs:=by
 unfold CF;rw[iU];exact List.map_id' xs
theorem jKx{l:List Value}{v:Value}(h:l[i]? =some v):qE l i=v:=by
 rw[uA,aC,h];rfl
attribute [local irreducible] ki uY hv BI Cl Mb CI DC uB C0 Fs He Bi CX AY dec
theorem p9(k:Et)(ws c xs:List Nat)(r:Int)(s:Option Addr)(cc:Nat)(w:World)(hT:Ai w)(h0:-9223372036854775808≤r)(h1:r≤9223372036854775807)(h3:r=3)(hk:Co w k)(ho:E6 k ws c)(hj:∀x∈xs,1≤x∧x≤ws.sum)(hP:Eo xs)(ha:∀x∈xs,Cl (Ia 4 c) x=4^vl c x%gP)(dq:k.cs.length=2)(hD:Fs (CD (CF (AY r) c xs) k.cs.length) (CC (CF (AY r) c xs) k.cs.length)=AY r^vl c 0%gP)
  (hs:ig w 4 (Gz r) s (Dv c xs)) (hl:k.cs.length≤xs.length) (an:xs.length≤1000) (hc:c.length=k.cs.length):
  Rk 27 [.agg (Hh k).toArray,Iv r,.slice s xs.length cc] w (.tuple #[Iv ((AY r^vl c 0%gP:Nat):Int),Zs,Iv 0]):=by
 have hb:=JS h3
 have df:=hP.nd
 have hH:1≤k.cs.length:=by rw[ho.ko.nd];exact jK3 _
 have bz:=jJb (AY r) c xs;have h6:=qXm (AY r) c xs;have xv:=Z3 c xs;have h8:=fun w' nw=>p28 k ws w' nw ho.ko
 have hz:uE (CI xs 0)=_:=ZS _
 have hE:Hh k=[_,_]:=O;have h9:∀(j:Nat) (v:Value),(Hh k)[j]? =_→[_,_][j]? =some v:=fun j v h=>h
 rw[hE] at h8⊢;refine tW func27 ntmps27 fun hp=>?_;refine qR ?_;refine tQ fun w1 kb hp=>?_;refine tQ fun w2 rb hp=>?_;refine tL (h8 _ (hk.j1 hp.Z)) ?_;rintro _ w3 ⟨rfl,hm⟩;have hp:=hp.V hm;refine AL ?_;refine tK (p29 k ws c xs kb rb r s cc _ (hT.j1 hp.Z) h0 h1 h3 (hk.j1 hp.Z) ho hj ha (fun j v hv=>hp.cells 1 _ O O (fun j v hv=>by rw[gF];exact jKx hv) j v (h9 j v hv)) (hp.J 0 O O) (hs.i7 hp.Z) O1) ?_;rintro _ w4 ⟨⟨s',c',rfl,ra⟩,hm⟩;have hp:=hp.V hm;have vz:=hp.Z;have ck:w4.cell? ⟨kb,0+0,_⟩=some (.slice _ _ k.c1):=hp.J 1 O O;clear hp hm;have hp:=Hp.start (M:=[]) (w:=w4);refine qA (qQ ([7,12]++range' 28 10) (fun _ F=>(F.put 28 (.int _ 0)).put 7 (.slice _ 0 0)) (fun _ w'=>w4=w') (fun _=>0) () (qB (qB (ka.eq .refl) O) O) O ?_);rintro u0 ⟨⟩ _ rfl;refine qA ?_;refine qH O O1 (fun _=>qA (tF (yS AG hp) fun w5 mb hp=>?_));rw[←hz] at hp;have hp:=hp.j7 Qy 85 2;have vu:∀i,i≤xs.length→((CF (AY r) c xs).take i).length=i:=fun i hi=>O6
 have hp:Hp w4 [] w5 [qG _ 85 2 _ 0 ((CF (AY r) c xs).take 0),_]:=hp;refine qA (kS ([14,16]++range' 41 21) (fun(i:Nat) s c' F=>(F.put 41 (.int _ i)).put 14 (.slice s ((CF (AY r) c xs).take i).length c'))
  (fun i s c' w'=>i≤xs.length∧kg s c' ((CF (AY r) c xs).take i)∧Hp w4 [] w' [qG _ 85 2 s c' ((CF _ c xs).take i),yA _ mb (uE (CI xs i))]) (fun i _ _=>xs.length-i) 0 _ 0 (qB (qB (ka.eq .refl) O) O) ⟨O1,kg.nil,hp⟩ ?_)
 (repeat clear hp);rintro u1 i s1 c1 w6 ⟨hi,hx,hp⟩;have ht:=vu i hi;refine tI (fun h=>?_) fun h=>?_
 ·have hg:i<xs.length:=O1;have h5:i<(Dv c xs).length:=O1;have hF:i<(CF (AY r) c xs).length:=O1;have⟨b0,o0,hs0,yk⟩:=ra.base O1;have yl:=yk i _ (aA h5);have h4:(Dv c xs)[i]=(xs[i],vl c xs[i]):=by simp[Dv]
  have h7:(CF _ c xs)[i]=(xs[i],AY r^vl c xs[i]%gP):=by simp[CF]
  have hq:=aF hF;have x4:=YH df hg;have hy:=ZR hg;rw[h4] at yl;rw[h7] at hq;generalize xs[i]=x at yl hq x4 hy;refine qA (ke (qL O O O O (fun j v hv=>hp.j3 (yl j v hv))) (Qw O) ?_);refine tF (OG hp (qJ O)) fun w7 pb hp=>tO (OI hp 0 O O O O (qD O) O) fun w8 hp=>?_;have hp:=hp.I 0 [.int _ x,.int _ (AY r^vl c x%gP:Nat),.int _ (Bi (vl c x) 4 _),.int _ (CX (vl c x) 4 _)] O O;refine Cj ?_;refine jM (ke (Dw hp 2 O O O (xG O).1 (xG (t:=162) O).2.1 (xG (t:=162) O).2.2) ((FK _ _).trans (aK _ x4)) ?_);refine jM ?_;refine qR (jB O ?_);refine qA (tO (G0 hp 2 O O O O (xG O).1 (xG (t:=162) O).2.1) fun w9 hp=>?_);rw[hy] at hp;refine qA ?_;refine tF (jC (cs:=Qy (x,AY r^vl c x%gP)) hp O O O O O O O) fun uy nb hp=>AB (jV _ _ _ hp 2 0 O O O O O O (fun _=>O) O O O hx O O O1) fun uz s3 c3⟨hn,hp⟩=>?_;rw[←hq] at hn hp;rw[←hq];refine Ck ?_;exact⟨_,s3,c3,qB O5 O,⟨O1,hn,hp.E.E⟩,O1⟩
 obtain rfl:i=xs.length:=O1;have zq:(CF (AY r) c xs).take xs.length=CF (AY r) c xs:=by rw[←bz,dF]
 rw[zq] at hx hp⊢;have qd:=qZ hp 0 O hx (fun _=>O);clear ht;refine qA ?_;refine qH O O1 (fun _=>qA ?_)
 (apply Ax;exact qC O jXe O (p32 _ _ s1 c1 _ qd (by rw[h6];exact hP) (by unfold CD;rw[pI,h6,dq,(hP:xs=_)];rfl) (fun p hp=>by
  obtain⟨x,_,rfl⟩:=bM.1 hp
  exact LB hb _) hH O1 O1);rintro _ hh ⟨rfl,hm⟩;have hp:=hp.V hm)
 rw[hD];refine qA ?_;exact PH O O O O ⟨_,O,O,vz.trans hp.Z O4⟩
end
section
attribute [local irreducible] ki uY hv BI Cl Mb CI DC uB C0 Fs He Bi CX AY dec
end
variable{f:Nat→Rat}{r:Nat}{φ:(Int→Rat)→Rat}
def wr:Nat→(Nat→Rat)→Rat
 |0,_=>0
 |n+1,f=>wr n f+f n
theorem wx{f g:Nat→Rat}:∀{n:Nat},(∀j,j<n→f j=g j)→wr n f=wr n g
 |0,_=>rfl
 |n+1,h=>by simp[wr];rw[wx (fun j hj=>h j O1),h n O1]
theorem OH:∀(n:Nat),wr n (fun _=>0)=0
 |0=>rfl
 |n+1=>by simp[wr];rw[OH];grind
theorem vM(h:∀j,j<n→f j=0):wr n f=0:=(wx h).trans (OH n)
theorem wu(f g:Nat→Rat):∀(n:Nat),wr n (fun j=>f j+g j)=wr n f+wr n g
 |0=>by simp[wr];grind
 |n+1=>by simp[wr];rw[wu];grind
theorem N1(f g:Nat→Rat):∀(n:Nat),wr n (fun j=>f j-g j)=wr n f-wr n g
 |0=>by simp[wr];grind
 |n+1=>by simp[wr];rw[N1];grind
theorem ww(c:Rat)(f:Nat→Rat):∀(n:Nat),wr n (fun j=>c*f j)=c*wr n f
 |0=>by simp only[wr];grind
 |n+1=>by simp[wr];rw[ww];grind
theorem wX(f:Nat→Rat){e:Nat}:∀{n:Nat},e<n→wr n f=f e+wr n (fun j=>if j=e then 0 else f j)
 |n+1,h=>by
  by_cases he:e=n
  ·have:wr e (fun j=>if j=e then 0 else f j)=_:=wx fun j hj=>by rw[if_neg O1]
   simp[wr,if_true];grind
  have:=wX f (e:=e) (n:=n) O1;simp[wr];grind
theorem xY{e:Nat}(f:Nat→Rat)(h:e<n):wr n (fun j=>if j=e then f j else 0)=f e:=by
 rw[wX _ h,vM (fun j _=>O6)];grind
theorem HM{f g:Nat→Rat}:∀{n:Nat},(∀j,j<n→f j≤g j)→wr n f≤wr n g
 |0,_=>by simp[wr]
 |n+1,h=>by
  have h1:=HM (n:=n) (fun j hj=>h j O1);simp only[wr];grind
theorem Tv(h:∀j,j<n→0≤f j):0≤wr n f:=by
 have:=HM h;rwa[OH] at this
theorem RX{f:Nat→Rat}:∀{n:Nat},0<wr n f→∃j,j<n∧0<f j
 |0,h=>by simp[wr] at h
 |n+1,h=>by
  by_cases hn:0<f n
  ·grind
  have⟨j,h1,h2⟩:=RX (f:=f) (n:=n) (by simp[wr] at h;grind);grind
theorem SE(f:Nat→Nat→Rat)(n:Nat):∀(m:Nat),wr m (fun i=>wr n (fun j=>f i j))=wr n (fun j=>wr m (fun i=>f i j))
 |0=>by simp[wr];rw[OH]
 |m+1=>by
  simp[wr];rw[SE,←wu]
structure Tb where
 m:Nat
 n:Nat
 B:Nat→Int
 N:Nat→Int
 A:Nat→Nat→Rat
 b:Nat→Rat
 g:Nat→Rat
def Tb.row(t:Tb)(r e j:Nat):Rat:=(if j=e then 1 else t.A r j)*(1/t.A r e)
def Tb.pv(t:Tb)(r e:Nat):Tb where
 m:=t.m
 n:=t.n
 B:=fun i=>if i=r then t.N e else t.B i
 N:=fun j=>if j=e then t.B r else t.N j
 A:=fun i j=>if i=r then t.row r e j else(if j=e then 0 else t.A i j)-t.A i e*t.row r e j
 b:=fun i=>if i=r then t.b r*(1/t.A r e) else t.b i-t.A i e*(t.b r*(1/t.A r e))
 g:=fun j=>(if j=e then 0 else t.g j)-t.g e*t.row r e j
def Tb.sat(t:Tb)(x:Int→Rat):Prop:=∀i,i<t.m→x (t.B i)=t.b i-wr t.n (fun j=>t.A i j*x (t.N j))
section
variable{t:Tb}{e:Nat}{x:Int→Rat}
theorem jCx{N:Nat→Int}{v:Int}(he:e<n)(a:Nat→Rat):wr n (fun j=>a j*x (if j=e then v else N j))=a e*x v+wr n (fun j=>if j=e then 0 else a j*x (N j)):=by
 rw[wX _ he];grind
theorem Sm(he:e<t.n):wr t.n (fun j=>t.row r e j*x (if j=e then t.B r else t.N j))=1/t.A r e*x (t.B r)+1/t.A r e*wr t.n (fun j=>if j=e then 0 else t.A r j*x (t.N j)):=by
 rw[jCx he,←ww];congr 1
 ·simp[Tb.row]
 exact wx fun j _=>by by_cases hj:j=e<;>simp[Tb.row]<;>grind
theorem YU(he:e<t.n)(a:Nat→Rat):wr t.n (fun j=>((if j=e then 0 else a j)-a e*t.row r e j)*x (if j=e then t.B r else t.N j))
  =wr t.n (fun j=>if j=e then 0 else a j*x (t.N j))-a e*(1/t.A r e*x (t.B r)+1/t.A r e*wr t.n (fun j=>if j=e then 0 else t.A r j*x (t.N j))):=by
 rw[←Sm he,←ww,←N1,jCx he,wX (fun j=>(if j=e then 0 else a j*x _)-a e*(t.row r e j*x _)) he];grind
theorem LI(hr:r<t.m)(he:e<t.n)(hA:t.A r e≠0):(t.pv r e).sat x↔t.sat x:=by
 have hinv:t.A r e*(1/t.A r e)=1:=O6
 have old:∀i,wr _ (fun j=>t.A i j*x (t.N j))=_:=fun i=>wX _ he
 have e1:=Sm (r:=r) (x:=x) he;have e2:=fun i=>YU (r:=r) (x:=x) he (t.A i)
 unfold Tb.sat;constructor
 ·intro h i hi;have h5:=h r hr;simp[Tb.pv,if_true] at h5;by_cases ht:i=r
  ·subst ht;grind
  have xt:=h i hi;simp[Tb.pv,if_neg ht] at xt;grind
 intro h i hi;have h5:=h r hr;rw[old] at h5;by_cases ht:i=r
 ·simp[Tb.pv,if_true];grind
 have xt:=h i hi;simp[Tb.pv,if_neg ht];grind
def Tb.val(t:Tb)(φ:(Int→Rat)→Rat)(k:Rat):Prop:=∀x,t.sat x→φ x=k+wr t.n (fun j=>t.g j*x (t.N j))
theorem NR{k:Rat}(hr:r<t.m)(he:e<t.n)(hA:t.A r e≠0)(h:t.val φ k):(t.pv r e).val φ (k+t.g e*(t.b r*(1/t.A r e))):=by
 intro x hx;have hY:=(LI hr he hA).1 hx;have h1:=h x hY;have h2:=hx r hr;simp[Tb.pv,if_true] at h2⊢;rw[Sm he] at h2;rw[YU he,h1,wX _ he];grind
end
variable{R:Nat→Nat}{T:Nat→Tb}{t:Tb}
structure Tb.ok(t:Tb)(V:Int→Prop):Prop where
 bb:∀i k,i<t.m→k<t.m→t.B i=t.B k→i=k
 nn:∀j k,j<t.n→k<t.n→t.N j=t.N k→j=k
 bn:∀i j,i<t.m→j<t.n→t.B i≠t.N j
 cov:∀v,V v↔(∃i,i<t.m∧t.B i=v)∨(∃j,j<t.n∧t.N j=v)
def Tb.l7(t:Tb)(v:Int):Prop:=∃i,i<t.m∧t.B i=v
def Tb.p8(t:Tb)(v:Int):Prop:=∃j,j<t.n∧t.N j=v
section
variable{V:Int→Prop}{e:Nat}
theorem Tb.ok.not(h:t.ok V){v}(h1:t.l7 v)(h2:t.p8 v):False:=by
 obtain⟨i,hi,rfl⟩:=h1;have⟨j,hj,e⟩:=h2;exact h.bn i j hi hj e.symm
theorem Tb.ok.or(h:t.ok V){v}(hv:V v):t.l7 v∨t.p8 v:=(h.cov v).1 hv
theorem LG(hr:r<t.m)(v):(t.pv r e).l7 v↔v=t.N e∨∃i,i<t.m∧i≠r∧t.B i=v:=by
 constructor
 ·rintro⟨i,hi,hv⟩;by_cases ht:i=r
  ·simp[Tb.pv,if_pos ht] at hv;omega
  simp[Tb.pv,if_neg ht] at hv;exact .inr ⟨i,hi,ht,hv⟩
 rintro(rfl|⟨i,hi,ht,rfl⟩)
 ·exact⟨r,hr,by simp[Tb.pv]⟩
 exact⟨i,hi,by simp[Tb.pv,ht]⟩
theorem LH(he:e<t.n)(v):(t.pv r e).p8 v↔v=t.B r∨∃j,j<t.n∧j≠e∧t.N j=v:=by
 constructor
 ·rintro⟨j,hj,hv⟩;by_cases ha:j=e
  ·simp[Tb.pv,if_pos ha] at hv;omega
  simp[Tb.pv,if_neg ha] at hv;exact .inr ⟨j,hj,ha,hv⟩
 rintro(rfl|⟨j,hj,ha,rfl⟩)
 ·exact⟨e,he,by simp[Tb.pv]⟩
 exact⟨j,hj,by simp[Tb.pv,ha]⟩
theorem NG(h:t.ok V)(hr:r<t.m)(he:e<t.n):(t.pv r e).ok V:=by
 have h1:=h.bb;have h2:=h.nn;have h3:=h.bn;refine⟨?_,?_,?_,?_⟩
 ·intro i k hi hk px;simp[Tb.pv] at hi hk px;grind
 ·intro i k hi hk px;simp[Tb.pv] at hi hk px;grind
 ·intro i j hi hj zn;simp[Tb.pv] at hi hj zn;grind
 intro v;rw[h.cov];show _↔(t.pv r e).l7 v∨(t.pv r e).p8 v
 rw[LG hr,LH he];grind
theorem Gp(h:t.ok V)(f:Nat→Rat):∃x:Int→Rat,t.sat x∧(∀j,j<t.n→x (t.N j)=f j)∧(∀i,i<t.m→x (t.B i)=t.b i-wr t.n (fun j=>t.A i j*f j)):=by
 classical
 obtain⟨x,hx⟩:∃x:Int→Rat,x=fun v=>if hb:∃i,i<t.m∧t.B i=v then t.b hb.choose-wr t.n (fun j=>t.A hb.choose j*f j)
   else if hn:∃j,j<t.n∧t.N j=v then f hn.choose else 0:=⟨_,O⟩
 have h1:∀j,j<t.n→x (t.N j)=f j:=by
  intro j hj;have hb:¬∃i,i<t.m∧t.B i=t.N j:=fun⟨i,hi,e⟩=>h.bn i j hi hj e
  have hn:∃k,k<t.n∧t.N k=t.N j:=⟨j,hj,O⟩;rw[hx];simp only[dif_neg hb,dif_pos hn];rw[h.nn _ _ hn.choose_spec.1 hj hn.choose_spec.2]
 have h2:∀i,i<t.m→x (t.B i)=t.b i-wr t.n (fun j=>t.A i j*f j):=by
  intro i hi;have hb:∃k,k<t.m∧t.B k=t.B i:=⟨i,hi,O⟩;rw[hx];simp only[dif_pos hb];rw[h.bb _ _ hb.choose_spec.1 hi hb.choose_spec.2]
 refine⟨x,fun i hi=>?_,h1,h2⟩;rw[h2 i hi];congr 1;exact wx fun j hj=>O6
theorem Ka(h:t.ok V):∃x:Int→Rat,t.sat x∧(∀v,t.p8 v→x v=0)∧(∀i,i<t.m→x (t.B i)=t.b i):=by
 have⟨x,h1,h2,h3⟩:=Gp h (fun _=>0);refine⟨x,h1,?_,fun i hi=>?_⟩
 ·rintro v ⟨j,hj,rfl⟩;grind
 rw[h3 i hi,vM (fun j _=>O6)];grind
theorem Ta{x}(hx:t.sat x)(h0:∀v,t.p8 v→x v=0):∀i,i<t.m→x (t.B i)=t.b i:=by
 intro i hi;rw[hx i hi,vM (fun j hj=>by rw[h0 _ ⟨j,hj,O⟩];grind)];grind
theorem Jc{k}(hv:t.val φ k){x}(hx:t.sat x)(h0:∀v,t.p8 v→x v=0):φ x=k:=by
 rw[hv x hx,vM (fun j hj=>by rw[h0 _ ⟨j,hj,O⟩];grind)];grind
structure Cz(t:Tb)(r e:Nat):Prop where
 he:e<t.n
 pos:0<t.g e
 least:∀j,j<t.n→0<t.g j→t.N e≤t.N j
 hr:r<t.m
 piv:0<t.A r e
 ratio:∀i,i<t.m→0<t.A i e→t.b r*t.A i e≤t.b i*t.A r e∧(t.b r*t.A i e=t.b i*t.A r e→t.B r≤t.B i)
def Tb.feas(t:Tb):Prop:=∀i,i<t.m→0≤t.b i
theorem Cz.ne(h:Cz t r e):t.A r e≠0:=by have:=h.piv;grind
theorem qWv(h:Cz t r e)(hf:t.feas):(t.pv r e).feas:=by
 intro i hi;have hp:=h.piv;have h1:=rZ.2 hp;have ye:=hf r h.hr;have h3:0≤_*(t.A r e)⁻¹:=iD ye O6;by_cases ht:i=r
 ·simp only[Tb.pv,if_pos ht];grind
 simp only[Tb.pv,if_neg ht];have n0:=hf i hi;by_cases ha:0<t.A i e
 ·have h4:=(h.ratio i hi ha).1;have h5:0≤(t.b i*t.A r e-t.b r*t.A i e)*(t.A r e)⁻¹:=iD O6 O6;have h6:(t.b i*t.A r e-t.b r*t.A i e)*(t.A r e)⁻¹=t.b i-t.A i e*(t.b r*(1/t.A r e)):=O6
  grind
 have h5:0≤(-t.A i e)*_:=iD O6 h3;grind
end
structure DY(V:Int→Prop)(φ:(Int→Rat)→Rat)(T:Nat→Tb)(R E:Nat→Nat)(k:Nat):Prop where
 ok:(T 0).ok V
 feas:(T 0).feas
 val:∃c,(T 0).val φ c
 step:∀s,s<k→Cz (T s) (R s) (E s)∧T (s+1)=(T s).pv (R s) (E s)
section
variable{V:Int→Prop}{E:Nat→Nat}
theorem DY.all(h:DY V φ T R E k):∀s,s≤k→(T s).ok V∧(T s).feas∧(∀x,(T s).sat x↔(T 0).sat x)∧∃c,(T s).val φ c
 |0,_=>⟨h.ok,h.feas,fun _=>.rfl,h.val⟩
 |s+1,hs=>by
  have⟨h1,h2,h3,c,h4⟩:=h.all s O1;have⟨hb,e⟩:=h.step s O1;rw[e];exact⟨NG h1 hb.hr hb.he,qWv hb h2,fun x=>(LI hb.hr hb.he hb.ne).trans (h3 x),_,NR hb.hr hb.he hb.ne h4⟩
theorem DY.part(h:DY V φ T R E k)(a b)(hb:a+b≤k):DY V φ (fun s=>T (a+s)) (fun s=>R (a+s)) (fun s=>E (a+s)) b:=by
 have⟨h1,h2,_,h4⟩:=h.all a O1;exact⟨h1,h2,h4,fun s hs=>h.step _ O1⟩
def IN(T:Nat→Tb)(R E:Nat→Nat)(k:Nat)(v:Int):Prop:=∃s,s<k∧(v=(T s).N (E s)∨v=(T s).B (R s))
theorem DY.stays(h:DY V φ T R E k){v}(hv:V v)(hf:¬IN T R E k v):∀s,s≤k→((T s).l7 v↔(T 0).l7 v)
 |0,_=>.rfl
 |s+1,hs=>by
  rw[←h.stays hv hf s O1];have⟨hb,e⟩:=h.step s O1;rw[e,LG hb.hr];constructor
  ·rintro(rfl|⟨i,hi,_,rfl⟩)
   ·exact absurd ⟨s,O1,.inl O⟩ hf
   exact⟨i,hi,O⟩
  rintro⟨i,hi,rfl⟩;refine .inr ⟨i,hi,?_,O⟩;rintro rfl;exact hf ⟨s,O1,.inr O⟩
theorem ZN:∀(k:Nat),0<k→∃q,IN T R E k q∧∀v,IN T R E k v→v≤q
 |1,_=>by
  refine⟨max ((T 0).N (E 0)) ((T 0).B (R 0)),⟨0,O1,O1⟩,?_⟩;rintro v ⟨s,hs,hv⟩;grind
 |k+2,_=>by
  have⟨q,⟨s,hs,hq⟩,h2⟩:=ZN (k+1) O1;have h3:∀v,IN T R E (k+2) v→v≤q∨v=(T (k+1)).N (E (k+1))∨v=(T (k+1)).B (R (k+1)):=by
   rintro v ⟨s,hs,hv⟩;by_cases hk:s=k+1
   ·grind
   exact .inl (h2 v ⟨s,O1,hv⟩)
  refine⟨max q (max ((T (k+1)).N (E (k+1))) ((T (k+1)).B (R (k+1)))),?_,fun v hv=>O6⟩;by_cases ys:max ((T (k+1)).N (E (k+1))) ((T (k+1)).B (R (k+1)))≤q
  ·rw[show max q _=q from by omega];exact⟨s,O1,hq⟩
  exact⟨k+1,O1,O1⟩
theorem DY.left(h:DY V φ T R E k){v}:∀s u,s≤u→u≤k→(T s).l7 v→¬(T u).l7 v→∃p,s≤p∧p<u∧v=(T p).B (R p)
 |s,0,hs,_,h1,h2=>by
  grind
 |s,u+1,hs,hu,h1,h2=>by
  by_cases ha:s=u+1
  ·grind
  by_cases hb:(T u).l7 v
  ·have⟨zr,e⟩:=h.step u O1;rw[e,LG zr.hr] at h2;obtain⟨i,hi,rfl⟩:=hb;grind
  have⟨p,h3,h4,h5⟩:=h.left s u O1 O1 h1 hb;grind
theorem DY.aB8(h:DY V φ T R E k){v}:∀s u,s≤u→u≤k→¬(T s).l7 v→(T u).l7 v→∃p,s≤p∧p<u∧v=(T p).N (E p)
 |s,0,hs,_,h1,h2=>by
  grind
 |s,u+1,hs,hu,h1,h2=>by
  by_cases ha:s=u+1
  ·grind
  by_cases hb:(T u).l7 v
  ·have⟨p,h3,h4,h5⟩:=h.aB8 s u O1 O1 h1 hb;grind
  have⟨zr,e⟩:=h.step u O1;rw[e,LG zr.hr] at h2;rcases h2 with h2|⟨i,hi,_,hv⟩
  ·grind
  exact absurd ⟨i,hi,hv⟩ hb
theorem DY.aC5(h:DY V φ T R E k)(hk:0<k)(hL:∀v,V v→((T k).l7 v↔(T 0).l7 v)):False:=by
 have hc:∀s,∃c,s≤k→(T s).val φ c:=fun s=>by
  by_cases hs:s≤k
  ·have⟨_,_,_,c,h4⟩:=h.all s hs;grind
  exact⟨0,fun h=>absurd h hs⟩
 obtain⟨c,hc⟩:∃c:Nat→Rat,∀s,s≤k→(T s).val φ (c s):=⟨fun s=>(hc s).choose,fun s=>(hc s).choose_spec⟩;have ua:∀s,s≤k→∀d,(T s).val φ d→d=c s:=by
  intro s hs d hd;have⟨x,h1,h2,_⟩:=Ka (h.all s hs).1;rw[←Jc hd h1 h2,←Jc (hc s hs) h1 h2]
 have hm:∀s,s<k→c (s+1)=c s+(T s).g (E s)*((T s).b (R s)*(1/(T s).A (R s) (E s))):=by
  intro s hs;have⟨hb,e⟩:=h.step s hs;have:=NR hb.hr hb.he hb.ne (hc s O1);rw[←e] at this;exact(ua (s+1) O1 _ this).symm
 have x7:∀s,s<k→0≤(T s).b (R s)*(1/(T s).A (R s) (E s)):=by
  intro s hs;have⟨hb,_⟩:=h.step s hs;have h1:=rZ.2 hb.piv;have:=iD ((h.all s O1).2.1 _ hb.hr) (show 0≤((T s).A (R s) (E s))⁻¹by grind);grind
 have xi:∀s,s<k→c s≤c (s+1):=by
  intro s hs;have h1:=hm s hs;have h2:=iD (show 0≤(T s).g (E s) from by have:=(h.step s hs).1.pos;grind) (x7 s hs);grind
 have hU:∀s u,s≤u→u≤k→c s≤c u:=by
  intro s u hH;induction u with
  |zero=>
   grind
  |succ u ih=>
   grind
 have⟨X,hF,hQ,xh⟩:=Ka h.ok;have hN:∀s,s≤k→∀v,(T s).p8 v→V v:=fun s hs v hv=>((h.all s hs).1.cov v).2 (.inr hv)
 have tz:c k=c 0:=by
  have hz:∀v,(T k).p8 v→X v=0:=by
   intro v hv;have hV:=hN k O1 v hv;rcases h.ok.or hV with hb|hn
   ·exact absurd ((hL v hV).2 hb) (fun hb=>(h.all k O1).1.not hb hv)
   exact hQ v hn
  rw[←Jc (hc k O1) (((h.all k O1).2.2.1 X).2 hF) hz,←Jc (hc 0 O1) hF hQ]
 have zq:∀s,s≤k→c s=c 0:=by
  intro s hs;have h1:=hU 0 s O1 hs;have h2:=hU s k hs O1;grind
 have oP:∀s,s<k→(T s).b (R s)=0:=by
  intro s hs;have h1:=hm s hs;rw[zq (s+1) O1,zq s O1] at h1;have⟨hb,_⟩:=h.step s hs;have h2:=hb.pos;have h3:=hb.piv;have h4:(T s).g (E s)*((T s).b (R s)*(1/(T s).A (R s) (E s)))=0:=O6
  grind
 have h9:∀s,s≤k→(∀v,(T s).p8 v→X v=0):=by
  intro s;induction s with
  |zero=>grind
  |succ s ih=>
   intro hs v hv;have ih:=ih O1;have⟨hb,e⟩:=h.step s O1;rw[e,LH hb.he] at hv;rcases hv with rfl|⟨j,hj,_,rfl⟩
   ·rw[Ta (((h.all s O1).2.2.1 X).2 hF) ih _ hb.hr];grind
   exact ih _ ⟨j,hj,O⟩
 have⟨q,hq,xg⟩:=ZN (T:=T) (R:=R) (E:=E) k hk;have hX:V q:=by
  have⟨s,hs,hq⟩:=hq;have⟨hb,_⟩:=h.step s hs;rcases hq with rfl|rfl
  ·exact((h.all s O1).1.cov _).2 (.inr ⟨_,hb.he,O⟩)
  exact((h.all s O1).1.cov _).2 (.inl ⟨_,hb.hr,O⟩)
 have xb:∀s,s<k→(T (s+1)).l7 ((T s).N (E s))∧¬(T s).l7 ((T s).N (E s)):=by
  intro s hs;have⟨hb,e⟩:=h.step s hs;refine⟨by rw[e,LG hb.hr];omega,fun ri=>(h.all s O1).1.not ri ⟨_,hb.he,O⟩⟩
 have xf:∀s,s<k→¬(T (s+1)).l7 ((T s).B (R s))∧(T s).l7 ((T s).B (R s)):=by
  intro s hs;have⟨hb,e⟩:=h.step s hs;refine⟨fun ri=>(h.all (s+1) O1).1.not ri (by rw[e,LH hb.he];exact .inl O),⟨_,hb.hr,O⟩⟩
 have hZ:(∃s,s<k∧q=(T s).B (R s))∧(∃u,u<k∧q=(T u).N (E u)):=by
  have⟨s,hs,hx⟩:=hq;rcases hx with hx|hx
  ·refine⟨?_,s,hs,hx⟩;have⟨h1,h2⟩:=xb s hs;rw[←hx] at h1 h2;by_cases zw:(T k).l7 q
   ·have:=(hL q hX).1 zw;have⟨p,_,hp,e⟩:=h.left 0 s O1 O1 this h2;grind
   have⟨p,_,hp,e⟩:=h.left _ k O1 O1 h1 zw;grind
  refine⟨⟨s,hs,hx⟩,?_⟩;have⟨h1,h2⟩:=xf s hs;rw[←hx] at h1 h2;by_cases zw:(T k).l7 q
  ·have⟨p,_,hp,e⟩:=h.aB8 _ k O1 O1 h1 zw;grind
  have h0:¬(T 0).l7 q:=fun h0=>zw ((hL q hX).2 h0)
  have⟨p,_,hp,e⟩:=h.aB8 0 s O1 O1 h0 h2;exact⟨p,O1,e⟩
 have⟨⟨s,hs,hx⟩,u,hu,xj⟩:=hZ;have⟨hy,_⟩:=h.step s hs;have⟨h7,_⟩:=h.step u hu;have⟨hK,_,hS,_⟩:=h.all s O1;have⟨hT,_,xc,_⟩:=h.all u O1;have⟨y,hh,nr,h8⟩:=Gp hK (fun j=>if j=E s then 1 else 0);have hY:∀i,i<(T s).m→y ((T s).B i)=(T s).b i-(T s).A i (E s):=by
  intro i hi;rw[h8 i hi,←xY (fun j=>(T s).A i j) hy.he];congr 1;exact wx fun j _=>by by_cases hj:j=E s<;>simp[hj]
 have th:φ y=c 0+(T s).g (E s):=by
  rw[hc s O1 y hh,zq s O1,←xY (fun j=>(T s).g j) hy.he];congr 1;exact wx fun j hj=>by rw[nr j hj];by_cases hj:j=E s<;>simp[hj]
 have xd:=(xc y).2 ((hS y).1 hh);have tg:=hc u O1 y xd;rw[zq u O1,th] at tg;have hE:=hy.pos;have⟨j,hj,xx⟩:=RX (show 0<wr (T u).n (fun j=>(T u).g j*y ((T u).N j)) by grind);have hJ:(T u).p8 _:=⟨j,hj,O⟩;have hD:=hN u O1 _ hJ;have xe:=h9 u O1 _ hJ;have ae:¬(T u).l7 _:=fun hb=>hT.not hb hJ
 have ys:∀v,v=(T u).N j→IN T R E k v→v≠q→(T u).g j≤0:=by
  intro v hv hf xr;by_cases hg:0<(T u).g j
  ·have h1:=h7.least j hj hg;grind
  grind
 rcases hK.or hD with hB|⟨j',zt,hP⟩
 ·
  have⟨i,hi,hM⟩:=hB;have h6:=hY i hi;have h5:=Ta ((hS X).2 hF) (h9 s O1) i hi;rw[hM,xe] at h5;rw[hM,←h5] at h6;have hf:IN T R E k ((T u).N j):=by
   refine bZ fun b1=>ae ?_
   rw[h.stays hD b1 u O1,←h.stays hD b1 s O1];exact⟨i,hi,hM⟩
  by_cases ha:(T u).N j=q
  ·have ht:=hK.bb i _ hi hy.hr O1;have hl:=hT.nn j _ hj h7.he O1;have h1:=hy.piv;have h2:=h7.pos;have h3:=pR h1 h2;rw[h6] at xx;grind
  have hA:0<(T s).A i (E s):=by
   refine bZ fun hA=>?_
   have:=iD (show 0≤-(T u).g j by grind) (show 0≤-(T s).A i (E s) by grind);rw[h6] at xx;grind
  have h1:=(hy.ratio i hi hA).2 O6;grind
 have h6:=nr j' zt;rw[hP] at h6;by_cases hl:j'=E s
 ·rw[if_pos hl] at h6;have hf:IN T R E k ((T u).N j):=⟨s,hs,.inl O6⟩;rw[h6] at xx;grind
 rw[if_neg hl] at h6;rw[h6] at xx;grind
end
variable{M:Nat}
theorem jDz:∀(M:Nat) (l:List Nat),l.Nodup→(∀x∈l,x<M)→l.length≤M
 |0,l,_,h=>by
  cases l with
  |nil=>simp
  |cons x l=>exact absurd (h x O4) O1
 |M+1,l,hn,h=>by
  have h1:=jDz M _ (hn.erase M) (fun x hx=>by
   grind)
  grind
theorem jF7{f:Nat→Nat}(h:∀s,s≤k→f s<M)(hi:∀s u,s<u→u≤k→f s≠f u):k<M:=by
 have:=jDz M ((range (k+1)).map f) (by
  rw[eJ,pW];refine(nK).imp_of_mem ?_;grind) (by
  grind)
 grind
open Classical in
noncomputable def GN(p:Int→Prop):List Int→Nat
 |[]=>0
 |v::l=>2*GN p l+(if p v then 1 else 0)
theorem Sa(p):∀l,GN p l<2^l.length
 |[]=>by simp[GN]
 |v::l=>by
  have:=Sa p l;simp only[GN,cF,dU];grind
theorem N3{p q}:∀{l},GN p l=GN q l→∀v∈l,(p v↔q v)
 |[],_,_,h=>by cases h
 |v::l,h,u,hu=>by
  simp[GN] at h;by_cases hp:p v<;>by_cases hq:q v<;>simp only[hp,hq,if_true,iX] at h
  ·rcases aP.1 hu with rfl|hu
   ·grind
   exact N3 O1 u hu
  ·omega
  ·omega
  rcases aP.1 hu with rfl|hu
  ·grind
  exact N3 O1 u hu
theorem DY.len{V:Int→Prop}{E:Nat→Nat}(h:DY V φ T R E k)(l:List Int)(hl:∀v,V v→v∈l):k<2^l.length:=by
 refine jF7 (f:=fun s=>GN (T s).l7 l) (fun s _=>Sa _ _) ?_;intro s u ha hg he;have hp:=h.part s (u-s) O1;refine hp.aC5 O1 fun v hv=>?_
 have:=N3 he v (hl v hv);grind
variable{D:Nat}{a b:Rat}
open Classical in
noncomputable def ct(p:Nat→Prop):Nat→Nat
 |0=>0
 |n+1=>ct p n+(if p n then 1 else 0)
theorem jN5(p):∀n,ct p n≤n
 |0=>by simp[ct]
 |n+1=>by
  have:=jN5 p n;simp only[ct];grind
theorem Yu{p}:∀{n},ct p n=0→∀i,i<n→¬p i
 |0,_,i,hi=>O1
 |n+1,h,i,hi=>by
  simp only[ct] at h;by_cases hp:p n
  ·grind
  by_cases bR:i=n
  ·grind
  exact Yu (by simp only[hp,iX] at h;omega) i O1
theorem Sb{p q}:∀{n},(∀i,i<n→q i→p i)→ct q n≤ct p n
 |0,_=>by simp[ct]
 |n+1,h=>by
  have h1:=Sb (n:=n) (fun i hi=>h i O1);simp only[ct];grind
theorem jN4{p q}:∀{n i0:Nat},(∀i,i<n→q i→p i)→i0<n→p i0→¬q i0→ct q n<ct p n
 |n+1,i0,h,hi,hp,hq=>by
  simp[ct];by_cases he:i0=n
  ·have:=Sb (n:=i0) (fun i hi=>h i O1);grind
  have h1:=jN4 (n:=n) (fun i hi=>h i O1) O1 hp hq;grind
def Ov(D M:Nat)(a:Rat):Prop:=∃x:Int,a*D=x∧x.natAbs≤M
structure Tb.q8(t:Tb)(M:Nat):Prop where
 ex:∃D:Nat,0<D∧D≤M∧(∀i,i<t.m→Ov D M (t.b i))∧∀i j,i<t.m→j<t.n→Ov D M (t.A i j)
theorem TN{x y:Int}(hx:x.natAbs≤M)(hy:y.natAbs≤M):(x*y).natAbs≤M*M:=by
 rw[oH];exact dE hx hy
theorem Ov.le{M'}(h:Ov D M a)(hm:M≤M'):Ov D M' a:=by
 have⟨x,h1,h2⟩:=h;exact⟨x,h1,O1⟩
theorem Tb.q8.le{t:Tb}{M M':Nat}(h:t.q8 M)(hm:M≤M'):t.q8 M':=by
 have⟨D,h1,h2,h3,h4⟩:=h.ex;exact⟨D,h1,O1,fun i hi=>(h3 i hi).le hm,fun i j hi hj=>(h4 i j hi hj).le hm⟩
section
variable{p:Int}{c q:Rat}
theorem J2(h:D≤M):Ov D M 1:=by
 refine⟨D,?_,O1⟩;have:(D:Int)=(D:Rat):=O;grind
theorem LR:Ov D M 0:=by
 refine⟨0,?_,O4⟩;simp
theorem jN6{s}(hp:(p.natAbs:Int)=s*p):((D*p.natAbs:Nat):Rat)=(D:Rat)*((s:Rat)*(p:Rat)):=by
 have:((D*_:Nat):Rat)=((D*p.natAbs:Nat):Int):=O;rw[this,dM,hp,nS,nS];rfl
theorem jV9(p):∃s:Int,(s=1∨s= -1)∧(p.natAbs:Int)=s*p:=by
 grind
theorem jE4(hD:0<D)(hg:D≤M)(oS:p≠0)(hq:q*D=p)(ha:Ov D M a):Ov (D*p.natAbs) (2*(M*M)) (a*(1/q)):=by
 have⟨x,hx,hj⟩:=ha;have⟨s,hs,hh⟩:=jV9 p;have hp':(p:Rat)≠0:=by
  intro h;exact oS (by exact_mod_cast h)
 refine⟨s*(x*D),?_,?_⟩
 ·rw[jN6 hh];have:(D:Int)=(D:Rat):=O;grind
 have h1:(s*(x*D)).natAbs=(x*D).natAbs:=by rcases hs with rfl|rfl<;>simp
 have:=TN (y:=D) hj O1;omega
theorem Z2(hD:0<D)(oS:p≠0)(hg:p.natAbs≤M)(hq:q*D=p)(ha:Ov D M a)(hb:Ov D M b)(hc:Ov D M c):Ov (D*p.natAbs) (2*(M*M)) (a-b*(c*(1/q))):=by
 have⟨x,hx,hj⟩:=ha;have⟨y,hy,hl⟩:=hb;have⟨z,hz,hm⟩:=hc;have⟨s,hs,hh⟩:=jV9 p;have hp':(p:Rat)≠0:=by
  intro h;exact oS (by exact_mod_cast h)
 refine⟨s*(x*p-y*z),?_,?_⟩
 ·rw[jN6 hh];grind
 have h1:(s*(x*p-y*z)).natAbs=(x*p-y*z).natAbs:=by rcases hs with rfl|rfl<;>simp
 have h2:=TN hj hg;have h3:=TN hl hm;omega
end
theorem jOo{e:Nat}(h:t.q8 M)(hr:r<t.m)(he:e<t.n)(hA:t.A r e≠0):(t.pv r e).q8 (2*(M*M)):=by
 have⟨D,hD,hg,hb,hl⟩:=h.ex;have⟨p,hp,ha⟩:=hl r e hr he;have oS:p≠0:=by
  rintro rfl;have h1:(D:Rat)≠0:=by
   intro h;have:D=0:=by exact_mod_cast h
   omega
  have h2:((0:Int):Rat)=0:=O;rw[h2] at hp;grind
 have one:=J2 hg;have zero:Ov D M 0:=LR;refine⟨D*p.natAbs,iP hD O1,?_,?_,?_⟩
 ·have:=dE hg ha;omega
 ·intro i hi;by_cases ht:i=r
  ·simp[Tb.pv,if_pos ht];exact jE4 hD hg oS hp (hb r hr)
  simp[Tb.pv,if_neg ht];exact Z2 hD oS ha hp (hb i hi) (hl i e hi he) (hb r hr)
 intro i j hi hj;have xc:Ov D M (if j=e then 1 else t.A r j):=by
  by_cases hh:j=e
  ·grind
  rw[if_neg hh];exact hl r j hr hj
 by_cases ht:i=r
 ·simp[Tb.pv,if_pos ht];exact jE4 hD hg oS hp xc
 simp[Tb.pv,if_neg ht];refine Z2 hD oS ha hp ?_ (hl i e hi he) xc;by_cases hh:j=e
 ·grind
 rw[if_neg hh];exact hl i j hi hj
def gr:Nat→Nat→Nat
 |M,0=>M
 |M,k+1=>gr (2*(M*M)) k
theorem YF:∀{k M M':Nat},M≤M'→gr M k≤gr M' k
 |0,_,_,h=>h
 |k+1,M,M',h=>YF (k:=k) (by have:=dE h h;omega)
theorem NB:∀{k M:Nat},M≤gr M k
 |0,_=>aS _
 |k+1,M=>bF (by
  rcases dG M with h|h
  ·omega
  have:=dJ M h;omega) (NB (k:=k))
theorem qYu:gr M k≤gr M (k+1):=YF (by
 rcases dG M with h|h
 ·omega
 have:=dJ M h;omega)
section
variable{u:Tb}{V:Int→Prop}
theorem qOc(ht:t.ok V){x y}(hx:t.sat x)(hy:t.sat y)(h:∀v,t.p8 v→x v=y v):∀v,V v→x v=y v:=by
 intro v hv;rcases ht.or hv with⟨i,hi,rfl⟩|hn
 ·rw[hx i hi,hy i hi];congr 1;exact wx fun j hj=>by rw[h _ ⟨j,hj,O⟩]
 grind
theorem jV6(ht:t.ok V):∀(d M:Nat) (u:Tb),u.ok V→(∀x,u.sat x↔t.sat x)→u.q8 M→ct (fun i=>u.p8 (t.B i)) t.m≤d→
  ∃u':Tb,u'.ok V∧(∀x,u'.sat x↔t.sat x)∧u'.q8 (gr M d)∧(∀v,V v→(u'.l7 v↔t.l7 v)):=by
 intro d;induction d with
 |zero=>
  intro M u hu hs hb hc;have h0:=Yu (Nat.le_zero.1 hc);refine⟨u,hu,hs,hb,fun v hv=>⟨fun hy=>?_,fun⟨i,hi,e⟩=>?_⟩⟩
  ·rcases ht.or hv with h|⟨j,hj,rfl⟩
   ·exact h
   have⟨x,hg,nq,_⟩:=Gp ht (fun _=>0);have⟨y,hh,nr,_⟩:=Gp ht (fun k=>if k=j then 1 else 0)
   have:=qOc hu ((hs x).2 hg) ((hs y).2 hh) (by
    intro v' ha;have hz:=(hu.cov v').2 (.inr ha);rcases ht.or hz with⟨i,hi,rfl⟩|⟨j',hj',rfl⟩
    ·grind
    rw[nq j' hj',nr j' hj',if_neg];rintro rfl
    exact hu.not hy ha) _ hv
   grind
  rcases hu.or hv with h|h
  ·exact h
  grind
 |succ d ih=>
  intro M u hu hs hb hc;by_cases hex:∃i,i<t.m∧u.p8 (t.B i)
  ·have⟨i,hi,e,he,hx⟩:=hex;have h6:=(hu.cov _).2 (.inr ⟨e,he,O⟩);obtain⟨r,hr,hA,h5⟩:∃r,r<u.m∧u.A r e≠0∧t.p8 (u.B r):=by
    refine bZ fun hn=>?_
    have⟨x,hg,nq,hm⟩:=Gp hu (fun _=>0);have⟨y,hh,nr,h8⟩:=Gp hu (fun k=>if k=e then 1 else 0)
    have:=qOc ht ((hs x).1 hg) ((hs y).1 hh) (by
     intro v' ha;have hz:=(ht.cov v').2 (.inr ha);rcases hu.or hz with⟨k,hk,rfl⟩|⟨j',hj',rfl⟩
     ·grind
     rw[nq j' hj',nr j' hj',if_neg];rintro rfl
     exact ht.not ⟨i,hi,hx.symm⟩ ha) _ h6
    grind
   have hl:=jN4 (p:=fun i=>u.p8 _) (q:=fun i=>(u.pv r e).p8 _) (by
    intro k hk hq;rw[LH he] at hq;rcases hq with hq|⟨j,hj,_,hq⟩
    ·exact absurd h5 (ht.not ⟨k,hk,hq⟩)
    ·exact⟨j,hj,hq⟩) hi ⟨e,he,hx⟩ (by
    rw[LH he];rintro(hq|⟨j,hj,hje,hq⟩)
    ·exact ht.not ⟨i,hi,hq⟩ h5
    exact hje (hu.nn j e hj he O1))
   exact ih _ _ (NG hu hr he) (fun x=>(LI hr he hA).trans (hs x)) (jOo hb hr he hA) O1
  have h0:ct (fun i=>u.p8 (t.B i)) t.m≤d:=by
   have h1:ct (fun i=>u.p8 (t.B i)) t.m≤ct (fun _=>False) t.m:=Sb fun i hi h=>hex ⟨i,hi,h⟩
   have h2:∀n,ct (fun _=>False) n=0:=by
    intro n;induction n with
    |zero=>rfl
    |succ n ih=>simp[ct,ih]
   rw[h2] at h1;omega
  have⟨u',h1,h2,h3,h4⟩:=ih M u hu hs hb h0;exact⟨u',h1,h2,h3.le qYu,h4⟩
theorem qV9(ht:t.ok V)(hu:u.ok V)(hs:∀x,u.sat x↔t.sat x)(hB:∀v,V v→(u.l7 v↔t.l7 v)){M}(hb:u.q8 M):t.q8 M:=by
 have⟨D,hD,hg,h1,h2⟩:=hb.ex;have row:∀i,i<t.m→∃k,_∧_:=fun i hi=>(hB _ ((ht.cov _).2 (.inl ⟨i,hi,O⟩))).2 ⟨i,hi,O⟩
 have free:∀v,V v→(t.p8 v↔u.p8 v):=by
  intro v hv;constructor
  ·intro h;rcases hu.or hv with h'|h'
   ·exact absurd ((hB v hv).1 h') (fun h'=>ht.not h' h)
   exact h'
  intro h;rcases ht.or hv with h'|h'
  ·exact absurd ((hB v hv).2 h') (fun h'=>hu.not h' h)
  exact h'
 have base:∀i k,i<t.m→k<u.m→u.B k=t.B i→u.b k=t.b i:=by
  intro i k hi hk e;have⟨x,ha,nq,hm⟩:=Ka ht;rw[←hm i hi,←e,Ta ((hs x).2 ha) (fun v hv=>nq v ((free v ((hu.cov v).2 (.inr hv))).2 hv)) k hk]
 refine⟨D,hD,hg,fun i hi=>?_,fun i j hi hj=>?_⟩
 ·grind
 have⟨k,hk,e⟩:=row i hi;have hn:=(ht.cov _).2 (.inr ⟨j,hj,O⟩);have⟨l,hl,el⟩:=(free _ hn).1 ⟨j,hj,O⟩;have:t.A i j=u.A k l:=by
  have⟨y,hh,nr,h8⟩:=Gp ht (fun q=>if q=j then 1 else 0);have e1:=h8 i hi;have e2:=(hs y).2 hh k hk;rw[wx (g:=fun q=>if q=j then t.A i q else 0) (fun q _=>O6),xY (fun q=>t.A i q) hj] at e1;have e3:wr u.n (fun q=>u.A k q*y (u.N q))=wr u.n (fun q=>if q=l then u.A k q else 0):=by
   refine wx fun q hq=>?_
   by_cases tt:q=l
   ·grind
   rw[if_neg tt];have⟨p,hp,ep⟩:=(free _ ((hu.cov _).2 (.inr ⟨q,hq,O⟩))).2 ⟨q,hq,O⟩;rw[←ep,nr p hp,if_neg]
   ·grind
   rintro rfl;exact tt (hu.nn q l hq hl O1)
  rw[e3,xY (fun q=>u.A k q) hl,e,e1,base i k hi hk e] at e2;grind
 grind
theorem jN7(ht:t.ok V)(hu:u.ok V)(hs:∀x,u.sat x↔t.sat x){M}(hb:u.q8 M):t.q8 (gr M t.m):=by
 have⟨u',h1,h2,h3,h4⟩:=jV6 ht t.m M u hu hs hb (jN5 _ _);exact qV9 ht h1 h2 h4 h3
end
section
variable{u:Tb}{V:Int→Prop}{e:Nat}{k:Rat}
theorem qEq{c d:Rat}(hb:0<b)(hd:0<d):a/b≤c/d↔a*d≤c*b:=by
 have h1:=rZ.2 hb;have h2:=rZ.2 hd;constructor
 ·intro h;have:=dT h (show 0≤b*d by have:=pR hb hd;grind);have e1:b*d*(a/b)=a*d:=O6
  have e2:b*d*(c/d)=c*b:=O6
  grind
 intro h;have:=dT h (show 0≤b⁻¹*d⁻¹by have:=pR h1 h2;grind);have e1:b⁻¹*d⁻¹*(a*d)=a/b:=O6
 have e2:b⁻¹*d⁻¹*(c*b)=c/d:=O6
 grind
theorem qKc{c d:Rat}(hb:0<b)(hd:0<d):a/b=c/d↔a*d=c*b:=by
 grind
theorem ZZ(ht:t.ok V)(hf:t.feas)(hv:t.val φ k)(he:e<t.n)(hg:0<t.g e)(hA:∀i,i<t.m→t.A i e≤0)(K):
  ∃x,t.sat x∧(∀v,V v→0≤x v)∧K<φ x:=by
 obtain⟨θ,h0,h1⟩:∃θ:Rat,0≤θ∧K<k+t.g e*θ:=by
  by_cases hK:K<k
  ·exact⟨0,pS,O6⟩
  have h2:=rZ.2 hg;have h3:=iD (show 0≤K-k+1 by grind) (show 0≤(t.g e)⁻¹by grind);have e1:t.g e*((K-k+1)*(t.g e)⁻¹)=K-k+1:=O6
  grind
 have⟨x,ha,nq,hm⟩:=Gp ht (fun j=>if j=e then θ else 0);refine⟨x,ha,?_,?_⟩
 ·intro v hV;rcases ht.or hV with⟨i,hi,rfl⟩|⟨j,hj,rfl⟩
  ·rw[hm i hi,wx (g:=fun j=>if j=e then t.A i j*θ else 0) (fun j _=>O6),xY _ he];have:=hf i hi;have:=iD (show 0≤-t.A i e by grind) h0;grind
  grind
 rw[hv x ha,wx (g:=fun j=>if j=e then t.g j*θ else 0) (fun j hj=>O6),xY _ he];exact h1
theorem jJz(ht:t.ok V)(hv:t.val φ k)(hg:∀j,j<t.n→t.g j≤0){y}(hy:t.sat y)(gS:∀v,V v→0≤y v):φ y≤k:=by
 rw[hv y hy]
 have:=Tv (f:=fun j=>-(t.g j*y (t.N j))) (fun j hj=>by
  have:=iD (show 0≤-t.g j by grind) (gS _ ((ht.cov _).2 (.inr ⟨j,hj,O⟩)))
  grind)
 have h2:wr t.n (fun j=>-(t.g j*y (t.N j)))= -wr t.n (fun j=>t.g j*y (t.N j)):=by
  rw[wx (g:=fun j=>(-1)*(t.g j*y (t.N j))) (fun j _=>O6),ww];grind
 grind
theorem YD(ht:t.ok V)(hv:t.val φ k){s v0}(hφ:∀x,φ x=s*x v0)(hs:s=1∨s= -1)(h0:V v0){D M}(hD:D≤M)(hA:∀i j,i<t.m→j<t.n→Ov D M (t.A i j)):∀j,j<t.n→Ov D M (t.g j):=by
 intro j hj;have⟨x,ha,nq,hm⟩:=Ka ht;have⟨y,hh,nr,h8⟩:=Gp ht (fun q=>if q=j then 1 else 0);have e1:=Jc hv ha nq;have e2:=hv y hh;rw[wx (g:=fun q=>if q=j then t.g q else 0) (fun q hq=>O6),xY _ hj,hφ] at e2;have neg:∀{a:Rat},Ov D M a→Ov D M (-a):=by
  rintro a ⟨p,h1,h2⟩;refine⟨-p,?_,O1⟩;rw[Rat.intCast_neg];grind
 have key:Ov D M (y v0-x v0):=by
  rcases ht.or h0 with⟨i,hi,rfl⟩|⟨q,hq,rfl⟩
  ·rw[hm i hi,h8 i hi,wx (g:=fun q=>if q=j then t.A i q else 0) (fun q hq=>O6),xY _ hj];grind
  rw[nq _ ⟨q,hq,O⟩,nr q hq];by_cases hq:q=j
  ·rw[if_pos hq];have:(1:Rat)-0=1:=O6
   rw[this];exact J2 hD
  rw[if_neg hq];have:(0:Rat)-0=0:=O6
  rw[this];exact LR
 grind
inductive An (t:Tb):Tb→Nat→Prop
 |refl:An t t 0
 |step {u:Tb} {k r e:Nat}:An t u k→Cz u r e→An t (u.pv r e) (k+1)
theorem An.run(ht:t.ok V)(hf:t.feas)(hv:t.val φ k){n}(h:An t u n):∃T R E,T 0=t∧T n=u∧DY V φ T R E n:=by
 induction h with
 |refl=>exact⟨fun _=>t,fun _=>0,fun _=>0,O,O,ht,hf,⟨k,hv⟩,fun s hs=>O1⟩
 | @step u n r e _ hb ih=>
  have⟨T,R,E,h1,h2,h3⟩:=ih;refine⟨fun s=>if s≤n then T s else u.pv r e,fun s=>if s<n then R s else r,fun s=>if s<n then E s else e,by simp[h1],if_neg O1,⟨O6,O6,O6,fun s hs=>?_⟩⟩;by_cases ha:s<n
  ·have:=h3.step s ha;grind
  grind
structure Hr(V:Int→Prop)(φ:(Int→Rat)→Rat)(t u:Tb):Prop where
 ok:u.ok V
 feas:u.feas
 sat:∀x,u.sat x↔t.sat x
 val:∃c,u.val φ c
 m:u.m=t.m
 n:u.n=t.n
theorem An.mn(h:An t u n):u.m=t.m∧u.n=t.n:=by
 induction h with
 |refl=>omega
 |step _ _ ih=>exact ih
theorem An.fin(ht:t.ok V)(hf:t.feas)(hv:t.val φ k){n}(h:An t u n):Hr V φ t u:=by
 have⟨T,R,E,h1,h2,h3⟩:=h.run ht hf hv;have⟨a,b,c,d⟩:=h3.all n O1;rw[h2] at a b c d;rw[h1] at c;exact⟨a,b,c,d,h.mn.1,h.mn.2⟩
theorem An.len(ht:t.ok V)(hf:t.feas)(hv:t.val φ k){n}(h:An t u n)(l:List Int)(hl:∀v,V v→v∈l):n<2^l.length:=by
 have⟨T,R,E,_,_,h3⟩:=h.run ht hf hv;exact h3.len l hl
def Tb.ext(t:Tb):Tb where
 m:=t.m
 n:=t.n+1
 B:=t.B
 N:=fun j=>if j=t.n then-1 else t.N j
 A:=fun i j=>if j=t.n then-1 else t.A i j
 b:=t.b
 g:=fun j=>if j=t.n then-1 else t.g j
theorem jQ5(ht:t.ok V)(hV:¬V (-1)):t.ext.ok (fun v=>V v∨v= -1):=by
 have hB:∀i,i<t.m→_≠-1:=fun i hi e=>hV (e▸(ht.cov _).2 (.inl ⟨i,hi,O⟩))
 have hN:∀i,i<t.n→_≠-1:=fun i hi e=>hV (e▸(ht.cov _).2 (.inr ⟨i,hi,O⟩))
 refine⟨ht.bb,?_,?_,?_⟩
 ·intro j k hj hk e;simp[Tb.ext] at hj hk e;by_cases h1:j=t.n<;>by_cases h2:k=t.n<;>simp[h1,h2,if_true,iX] at e⊢
  ·grind
  ·grind
  exact ht.nn j k O1 O1 e
 ·intro i j hi hj e;simp[Tb.ext] at hi hj e;by_cases h1:j=t.n<;>simp[h1,if_true,iX] at e
  ·grind
  exact ht.bn i j hi O1 e
 intro v;constructor
 ·rintro(h|rfl)
  ·rcases ht.or h with⟨i,hi,rfl⟩|⟨j,hj,rfl⟩
   ·exact .inl ⟨i,hi,O⟩
   exact .inr ⟨j,show j<t.n+1 by omega,by simp only[Tb.ext];omega⟩
  exact .inr ⟨_,show t.n<t.n+1 by omega,by simp[Tb.ext]⟩
 rintro(⟨i,hi,rfl⟩|⟨j,hj,rfl⟩)
 ·exact .inl ((ht.cov _).2 (.inl ⟨i,hi,O⟩))
 simp only[Tb.ext] at hj⊢;by_cases h1:j=t.n
 ·omega
 rw[if_neg h1];exact .inl ((ht.cov _).2 (.inr ⟨j,O1,O⟩))
theorem Sg(a:Nat→Rat)(c:Rat)(x:Int→Rat):wr (t.n+1) (fun j=>(if j=t.n then c else a j)*x (if j=t.n then-1 else t.N j))=wr t.n (fun j=>a j*x (t.N j))+c*x (-1):=by
 simp[wr,if_true];congr 1;exact wx fun j hj=>O6
theorem YB{x}:t.ext.sat x↔∀i,i<t.m→x (t.B i)=t.b i-(wr t.n (fun j=>t.A i j*x (t.N j))+(-1)*x (-1)):=by
 simp[Tb.ext];constructor
 ·intro h i hi;have:=h i hi;rw[Sg] at this;omega
 intro h i hi;rw[Sg];grind
theorem jL0(hg:∀j,j<t.n→t.g j=0):t.ext.val (fun x=>(-1)*x (-1)) 0:=by
 intro x _;simp[Tb.ext];rw[Sg,vM (fun j hj=>O6)];grind
theorem jFm(hn:t.b r<0)(hl:∀i,i<t.m→t.b r≤t.b i):(t.ext.pv r t.n).feas:=by
 intro i hi;have hi:i<t.m:=hi;have h2:(1:Rat)/(-1)= -1:=O6
 by_cases ht:i=r
 ·simp only[Tb.pv,Tb.ext,if_pos ht,if_true,h2];grind
 simp only[Tb.pv,Tb.ext,if_neg ht,if_true,h2];grind
theorem jL1(h:t.q8 M):t.ext.q8 M:=by
 have⟨D,hD,hg,h1,h2⟩:=h.ex;refine⟨D,hD,hg,h1,fun i j hi hj=>?_⟩;simp[Tb.ext] at hi hj⊢;by_cases xc:j=t.n
 ·have⟨x,e1,e2⟩:=J2 hg;refine⟨-x,?_,O1⟩;grind
 grind
def skip(e j:Nat):Nat:=if j<e then j else j+1
def Tb.del(t:Tb)(e:Nat):Tb where
 m:=t.m
 n:=t.n-1
 B:=t.B
 N:=fun j=>t.N (skip e j)
 A:=fun i j=>t.A i (skip e j)
 b:=t.b
 g:=fun j=>t.g (skip e j)
theorem Ze(f){e}:∀{n:Nat},e≤n→wr n (fun j=>f (skip e j))+f e=wr (n+1) f
 |0,h=>by
  obtain rfl:e=0:=O1;simp[wr]
 |n+1,h=>by
  by_cases he:e=n+1
  ·subst he;have:wr _ (fun j=>f (skip (n+1) j))=_:=wx fun j hj=>by simp[skip];rw[if_pos hj]
   rw[this];rfl
  have:=Ze f (e:=e) (n:=n) O1;have h2:wr (n+1) (fun j=>f (skip e j))=wr n (fun j=>f (skip e j))+f (n+1):=by
   have:skip e n=n+1:=by simp only[skip];rw[if_neg O1]
   simp only[wr,this]
  have h3:wr (n+1+1) f=_+_:=O;grind
theorem Ko{e}(h:j<n-1):skip e j<n:=by simp[skip];grind
theorem Zc{e}:skip e j≠e:=by simp only[skip];grind
theorem jCz{e k}(h:skip e j=skip e k):j=k:=by
 simp[skip] at h;grind
theorem jJ7{e}(he:e<n)(h:j<n)(xr:j≠e):∃k,k<n-1∧skip e k=j:=by
 by_cases h1:j<e
 ·exact⟨j,O1,by simp only[skip];grind⟩
 exact⟨j-1,O1,by simp[skip];grind⟩
theorem jTd{V'}(ht:t.ok V')(he:e<t.n)(hV:∀v,V v↔V' v∧v≠t.N e):(t.del e).ok V:=by
 refine⟨ht.bb,fun j k hj hk h=>jCz (ht.nn _ _ (Ko hj) (Ko hk) h),fun i j hi hj=>ht.bn _ _ hi (Ko hj),fun v=>?_⟩;rw[hV,ht.cov];constructor
 ·rintro⟨⟨i,hi,rfl⟩|⟨j,hj,rfl⟩,hne⟩
  ·exact .inl ⟨i,hi,O⟩
  have⟨k,hk,e1⟩:=jJ7 he hj (fun h=>hne (by rw[h]));exact .inr ⟨k,hk,by simp[Tb.del];rw[e1]⟩
 rintro(⟨i,hi,rfl⟩|⟨j,hj,rfl⟩)
 ·exact⟨.inl ⟨i,hi,O⟩,ht.bn _ _ hi he⟩
 exact⟨.inr ⟨_,Ko hj,O⟩,fun h=>Zc (ht.nn _ _ (Ko hj) he h)⟩
theorem jL6{V'}(ht:t.ok V')(he:e<t.n){x}:(t.del e).sat x↔t.sat (fun v=>if v=t.N e then 0 else x v):=by
 have key:∀i,i<t.m→wr (t.n-1) (fun j=>t.A i (skip e j)*x (t.N (skip e j)))=wr t.n (fun j=>t.A i j*(if t.N j=t.N e then 0 else x (t.N j))):=by
  intro i hi;obtain⟨n,hn⟩:∃n,t.n=n+1:=⟨t.n-1,O1⟩;have h1:=Ze (fun j=>t.A i j*(if t.N j=t.N e then 0 else x (t.N j))) (e:=e) (n:=n) O1;rw[hn,←h1];simp only[if_true,nN];have h2:wr n (fun j=>t.A i (skip e j)*x (t.N (skip e j)))=wr n (fun j=>t.A i (skip e j)*(if t.N (skip e j)=t.N e then 0 else x (t.N (skip e j)))):=wx fun j hj=>by
   rw[if_neg fun h=>Zc (ht.nn _ _ (Ko O1) he h)]
  rw[h2];grind
 constructor
 ·intro h i hi;have:=h i hi;simp[Tb.del] at this;simp[];rw[if_neg (ht.bn i e hi he),←key i hi];omega
 intro h i hi;have:=h i hi;simp[] at this;rw[if_neg (ht.bn i e hi he),←key i hi] at this;exact this
end
def pick(B:Nat→Int)(b:Nat→Rat):Nat→Int→Rat
 |0,_=>0
 |i+1,v=>if B i=v then b i else pick B b i v
theorem Sw{B b}:∀{m i:Nat},(∀i k,i<m→k<m→B i=B k→i=k)→i<m→pick B b m (B i)=b i
 |m+1,i,hinj,hi=>by
  simp only[pick];by_cases h:B m=B i
  ·rw[if_pos h,hinj m i O1 hi h]
  rw[if_neg h];have:i≠m:=fun e=>h (by rw[e])
  exact Sw (fun a c ha hc=>hinj a c O1 O1) O1
theorem OD{B b v}:∀{m:Nat},(∀i,i<m→B i≠v)→pick B b m v=0
 |0,_=>rfl
 |m+1,h=>by
  simp[pick];rw[if_neg (h m O1)];exact OD (fun i hi=>h i O1)
theorem OE{B b D M v}:∀{m:Nat},(∀i,i<m→Ov D M (b i))→Ov D M (pick B b m v)
 |0,_=>LR
 |m+1,h=>by
  simp[pick];split
  ·grind
  exact OE (fun i hi=>h i O1)
theorem qOa(f n):∀(m:Nat),wr (n+m) f=wr n f+wr m (fun i=>f (n+i))
 |0=>by simp[wr,fY];grind
 |m+1=>by
  have:=qOa f n m;simp[wr];grind
theorem Y4{N:Nat→Int}{c:Nat→Rat}{G:Int→Rat}{L:Nat}:∀{n:Nat},(∀i k,i<n→k<n→N i=N k→i=k)→(∀j,j<n→0≤N j∧N j<L)→
  wr n (fun j=>c j*G (N j))=wr L (fun v=>pick N c n (v:Int)*G (v:Int))
 |0,_,_=>by
  simp only[wr,pick];rw[vM (fun j _=>O6)]
 |n+1,hinj,hr=>by
  have ih:=Y4 (c:=c) (G:=G) (n:=n) (fun i k hi hk=>hinj i k O1 O1) (fun j hj=>hr j O1);have⟨h0,h1⟩:=hr n O1;obtain⟨q,hq⟩:∃q:Nat,N n=q:=⟨(N n).toNat,O1⟩;have ha:q<L:=O1;have hz:pick N c n _=0:=OD fun i hi e=>by
   have:=hinj i n O1 O1 (by rw[e,hq]);omega
  have e1:=wX (fun v=>pick N c (n+1) v*G v) ha;have e3:wr L (fun v=>if v=q then 0 else pick N c (n+1) v*_)=wr L (fun v=>if v=q then 0 else _*G v):=wx fun v _=>by
   by_cases hv:v=q
   ·simp[hv]
   simp[if_neg hv,pick];rw[if_neg O1]
  have e4:pick N c (n+1) q=c n:=by simp only[pick];rw[if_pos hq]
  show wr n _+c n*G _=_
  grind
def T0(m n:Nat)(A:Nat→Nat→Rat)(B:Nat→Rat):Tb where
 m:=m
 n:=n
 B:=fun i=>(n:Int)+i
 N:=fun j=>j
 A:=A
 b:=B
 g:=fun _=>0
def V0(m n:Nat)(v:Int):Prop:=0≤v∧v<(n:Int)+m
section
variable{A:Nat→Nat→Rat}{B:Nat→Rat}{u:Tb}{k:Rat}
theorem jNb:(T0 m n A B).ok (V0 m n):=by
 refine⟨?_,?_,?_,?_⟩
 ·intro i k _ _ h;simp only[T0] at h;omega
 ·intro i k _ _ h;simp[T0] at h;omega
 ·intro i j _ hj h;simp[T0] at h hj;omega
 intro v;simp[V0,T0];constructor
 ·intro h;by_cases hv:v<n
  ·exact .inr ⟨v.toNat,O1,O1⟩
  exact .inl ⟨(v-n).toNat,O1,O1⟩
 grind
theorem ZB(z:Nat→Rat):∃y:Int→Rat,(T0 m n A B).sat y∧(∀j,j<n→y (j:Int)=z j)∧∀i,i<m→y ((n:Int)+i)=B i-wr n (fun j=>A i j*z j):=by
 have⟨y,h1,h2,h3⟩:=Gp (jNb (m:=m) (n:=n) (A:=A) (B:=B)) z;exact⟨y,h1,h2,h3⟩
structure BL(m n:Nat)(A:Nat→Nat→Rat)(B:Nat→Rat)(x:Nat→Rat):Prop where
 nn:∀j,j<n→0≤x j
 row:∀i,i<m→wr n (fun j=>A i j*x j)≤B i
theorem jLy{x}(h:BL m n A B x):∃y:Int→Rat,(T0 m n A B).sat y∧(∀v,V0 m n v→0≤y v)∧∀j,j<n→y (j:Int)=x j:=by
 have⟨y,h1,h2,h3⟩:=ZB (m:=m) (n:=n) (A:=A) (B:=B) x;refine⟨y,h1,fun v hv=>?_,h2⟩;simp[V0] at hv;by_cases ha:v<n
 ·obtain⟨q,rfl⟩:∃q:Nat,v=q:=⟨v.toNat,O1⟩;rw[h2 q O1];exact h.nn q O1
 obtain⟨q,rfl⟩:∃q:Nat,v=n+q:=⟨(v-n).toNat,O1⟩;have:=h.row q O1;grind
theorem YC{y}(h:(T0 m n A B).sat y)(h0:∀v,V0 m n v→0≤y v):BL m n A B (fun j=>y (j:Int)):=by
 refine⟨fun j hj=>h0 _ (by simp only[V0];omega),fun i hi=>?_⟩;have h1:=h i hi;have h2:=h0 (n+i) (by simp only[V0];omega);simp[T0] at h1;grind
theorem jNz(hn:0<n)(hu:u.ok (V0 m n))(hf:u.feas)(hs:∀x,u.sat x↔(T0 m n A B).sat x)(hv:u.val (fun x=>x 0) k)(hg:∀j,j<u.n→u.g j≤0)(X Y:Nat→Rat)
  (hX:∀v,v<n→X v=pick u.B u.b u.m (v:Int)) (hY:∀i,i<m→Y i=pick u.N (fun j=>-u.g j) u.n ((n:Int)+i)):
  BL m n A B X∧(∀i,i<m→0≤Y i)∧(∀j,j<n→(if j=0 then 1 else 0)≤wr m (fun i=>A i j*Y i))∧X 0=wr m (fun i=>B i*Y i):=by
 have⟨x,ha,nq,hm⟩:=Ka hu;have pa:∀v,V0 m n v→x v=pick u.B u.b u.m v:=by
  intro v hV;rcases hu.or hV with⟨i,hi,rfl⟩|hN
  ·rw[hm i hi,Sw hu.bb hi]
  rw[nq v hN,OD];intro i hi e;exact hu.not ⟨i,hi,e⟩ hN
 have a1:∀v,V0 m n v→0≤x v:=by
  intro v hV;rcases hu.or hV with⟨i,hi,rfl⟩|hN
  ·rw[hm i hi];exact hf i hi
  rw[nq v hN];exact pS
 have ht:=YC ((hs x).1 ha) a1;have hl:∀v,v<n→X v=x v:=fun v hv=>by rw[hX v hv,pa _ (by simp only[V0];omega)]
 have hk:=Jc hv ha nq;have hN:∀j,j<u.n→0≤u.N j∧u.N j<(n+m:Nat):=fun j hj=>by
  have:=(hu.cov _).2 (.inr ⟨j,hj,O⟩);simp[V0] at this;omega
 have xx:∀v,0≤pick u.N (fun j=>-u.g j) u.n v:=by
  intro v;by_cases h:∃j,j<u.n∧u.N j=v
  ·obtain⟨j,hj,rfl⟩:=h;rw[Sw hu.nn hj];grind
  rw[OD (fun j hj e=>h ⟨j,hj,e⟩)];exact pS
 have ident:∀z:Nat→Rat,z 0=k-(wr n (fun q=>pick u.N (fun j=>-u.g j) u.n q*z q)+wr m (fun i=>Y i*(B i-wr n (fun j=>A i j*z j)))):=by
  intro z;have⟨y,hh,nr,h8⟩:=ZB (m:=m) (n:=n) (A:=A) (B:=B) z;have h1:=hv y ((hs y).2 hh);simp only[] at h1;have h0:y 0=z 0:=nr 0 hn;rw[h0] at h1;have h2:wr u.n (fun j=>u.g j*y (u.N j))= -wr u.n (fun j=>(-u.g j)*y (u.N j)):=by
   rw[wx (f:=fun j=>u.g j*y (u.N j)) (g:=fun j=>(-1)*((-u.g j)*y (u.N j))) (fun j _=>O6),ww];grind
  rw[h2,Y4 hu.nn hN,qOa] at h1;rw[h1];have e1:wr n (fun v=>pick u.N (fun j=>-u.g j) u.n (v:Int)*y (v:Int))=wr n (fun q=>pick u.N (fun j=>-u.g j) u.n (q:Int)*z q):=wx fun q hq=>O6
  have e2:wr m (fun i=>pick u.N (fun j=>-u.g j) u.n ((n+i:Nat):Int)*y ((n+i:Nat):Int))=wr m (fun i=>Y i*(B i-wr n (fun j=>A i j*z j))):=wx fun i hi=>by
   grind
  rw[e1,e2];grind
 have hx:k=wr m (fun i=>B i*Y i):=by
  have:=ident (fun _=>0);rw[vM (fun q _=>O6)] at this;have e:wr m (fun i=>Y i*(B i-wr n (fun j=>A i j*0)))=wr m (fun i=>B i*Y i):=wx fun i _=>by
   rw[vM (fun q _=>O6)];grind
  rw[e] at this;grind
 refine⟨⟨fun j hj=>by rw[hl j hj];exact a1 _ (by simp only[V0];omega),fun i hi=>?_⟩,fun i hi=>O6,fun j hj=>?_,?_⟩
 ·rw[wx (fun j hj=>by rw[hl j hj])];exact ht.row i hi
 ·have h1:=ident (fun q=>if q=j then 1 else 0);have e1:wr n (fun q=>pick u.N (fun j=>-u.g j) u.n q*(if q=j then 1 else 0))=pick u.N (fun j=>-u.g j) u.n j:=by
   rw[wx (g:=fun q=>if q=j then pick u.N (fun j=>-u.g j) u.n (q:Int) else 0) (fun q _=>O6),xY (fun q=>pick u.N (fun j=>-u.g j) u.n (q:Int)) hj]
  have e2:wr m (fun i=>Y i*(B i-wr n (fun q=>A i q*(if q=j then 1 else 0))))=wr m (fun i=>B i*Y i)-wr m (fun i=>A i j*Y i):=by
   rw[←N1];refine wx fun i _=>?_
   rw[wx (g:=fun q=>if q=j then A i q else 0) (fun q _=>O6),xY (fun q=>A i q) hj];grind
  grind
 grind
theorem first{V:Int→Prop}(ht:t.ok V)(hV:¬V (-1))(hu:u.ok (fun v=>V v∨v= -1))(hf:u.feas)(hs:∀x,u.sat x↔t.ext.sat x)(hv:u.val (fun x=>(-1)*x (-1)) k)(hg:∀j,j<u.n→u.g j≤0)
  (hx:∃x:Int→Rat,t.sat x∧∀v,V v→0≤x v):∀r,r<u.m→u.B r= -1→u.b r=0∧∃e,e<u.n∧u.A r e≠0:=by
 intro r hr hB;have⟨x,ha,hn⟩:=hx;have hq:∀v,V v→v≠-1:=fun v h e=>hV (e▸h)
 have key:∀c,∀z,(∀v,v≠-1→¬t.l7 v→z v=x v)→z (-1)=c→(∀i,i<t.m→z (t.B i)=x (t.B i)+c)→t.ext.sat z:=by
  intro c z h1 h2 h3;rw[YB];intro i hi;rw[h3 i hi,ha i hi,h2];have:wr t.n (fun j=>t.A i j*z (t.N j))=wr t.n (fun j=>t.A i j*x (t.N j)):=wx fun j hj=>by
   rw[h1 _ (hq _ ((ht.cov _).2 (.inr ⟨j,hj,O⟩))) (fun h=>ht.not h ⟨j,hj,O⟩)]
  rw[this];grind
 classical
 have mk:∀c,t.ext.sat (fun v=>if v= -1 then c else if t.l7 v then x v+c else x v):=by
  intro c;refine key c _ (fun v h1 h2=>O6) O4 (fun i hi=>?_);have h1:t.B i≠-1:=hq _ ((ht.cov _).2 (.inl ⟨i,hi,O⟩));have h2:t.l7 (t.B i):=⟨i,hi,O⟩;simp[h1,h2]
 constructor
 ·have h0:=mk 0
  have h1:=jJz hu hv hg ((hs _).2 h0) (by
   grind)
  have⟨y,hl,nr,h8⟩:=Ka hu;have h2:=Jc hv hl nr;have h4:=hf r hr;grind
 refine bZ fun hh=>?_
 have hz:=fun e he=>bZ fun h=>hh ⟨e,he,h⟩
 have val:∀z,t.ext.sat z→z (-1)=u.b r:=by
  intro z hm;have:=(hs z).2 hm r hr;rw[hB,vM (fun j hj=>O6)] at this;grind
 have h1:=val _ (mk 0);have h2:=val _ (mk 1);grind
theorem jO4{V:Int→Prop}(ht:t.ok V)(hV:¬V (-1))(hu:u.ok (fun v=>V v∨v= -1))(hf:u.feas)(hs:∀x,u.sat x↔t.ext.sat x){e:Nat}(he:e<u.n)(hN:u.N e= -1):
  (u.del e).ok V∧(u.del e).feas∧∀x,(u.del e).sat x↔t.sat x:=by
 refine⟨jTd hu he (fun v=>?_),hf,fun x=>?_⟩
 ·grind
 rw[jL6 hu he,hN,hs,YB];have hB:∀i,i<t.m→_≠-1:=fun i hi e=>hV (e▸(ht.cov _).2 (.inl ⟨i,hi,O⟩))
 have ha:∀i,i<t.n→_≠-1:=fun i hi e=>hV (e▸(ht.cov _).2 (.inr ⟨i,hi,O⟩))
 have key:∀i,i<t.m→wr _ (fun j=>t.A i j*(if _= -1 then 0 else x (t.N j)))=_:=fun i hi=>wx fun j hj=>by rw[if_neg (ha j hj)]
 constructor
 ·intro h i hi;grind
 intro h i hi;rw[key i hi,h i hi];grind
end
variable{Y:Nat→Rat}{t:Rat}
structure Sr where
 nc:Nat
 S:Nat→Nat
 K:Nat
 κ:Nat→Nat→Nat
 dec:Nat→Bool
 p:Nat→Rat
def Sr.A(s:Sr)(c j:Nat):Rat:=if c=s.nc then(if j=0 then 0 else 1) else if j=0 then(if s.dec c then 0 else(s.S c:Rat)) else-(s.κ (j-1) c:Rat)
def Sr.B(s:Sr)(c:Nat):Rat:=if c=s.nc then 1 else if s.dec c then-((s.S c:Rat)*s.p c) else 0
structure Sr.W(s:Sr)(v:Rat)(w:Nat→Rat):Prop where
 v0:0≤v
 nn:∀k,k<s.K→0≤w k
 one:wr s.K w≤1
 ge:∀c,c<s.nc→(s.S c:Rat)*(if s.dec c then s.p c else v)≤wr s.K (fun k=>w k*(s.κ k c:Rat))
theorem Kt(f):∀n,wr (n+1) f=f 0+wr n (fun k=>f (k+1))
 |0=>by simp[wr];grind
 |n+1=>by
  have:=Kt f n;show wr _ f+f _=_
  rw[this];simp[wr];grind
section
variable{s:Sr}{v:Rat}{w:Nat→Rat}
theorem Sr.row(c:Nat)(x:Nat→Rat):wr (s.K+1) (fun j=>s.A c j*x j)=if c=s.nc then wr s.K (fun k=>x (k+1)) else(if s.dec c then 0 else(s.S c:Rat)*x 0)-wr s.K (fun k=>x (k+1)*(s.κ k c:Rat)):=by
 rw[Kt];by_cases hc:c=s.nc
 ·simp only[Sr.A,if_pos hc,if_true];grind
 simp only[Sr.A,if_neg hc,if_true];rw[wx (g:=fun k=>(-1)*(x (k+1)*(s.κ k c))) (fun k _=>O6),ww];grind
theorem Sr.W.feas(h:s.W v w):BL (s.nc+1) (s.K+1) s.A s.B (fun j=>if j=0 then v else w (j-1)):=by
 refine⟨fun j hj=>?_,fun c hc=>?_⟩
 ·by_cases h0:j=0
  ·simp[h0,if_true];exact h.v0
  simp[h0,iX];exact h.nn _ O1
 rw[Sr.row];by_cases ha:c=s.nc
 ·simp only[if_pos ha,Sr.B];exact h.one
 simp only[if_neg ha,Sr.B,if_true];have:=h.ge c O1;grind
theorem Sr.aA0{x}(h:BL (s.nc+1) (s.K+1) s.A s.B x):s.W (x 0) (fun k=>x (k+1)):=by
 refine⟨h.nn 0 O1,fun k hk=>h.nn _ O1,?_,fun c hc=>?_⟩
 ·have:=h.row s.nc O1;rw[Sr.row] at this;simpa[Sr.B] using this
 have:=h.row c O1;rw[Sr.row,if_neg O1] at this;simp[Sr.B,if_neg (show¬c=s.nc by omega)] at this;grind
theorem Sr.W.aC7(h:s.W v w){c}(hc:c<s.nc)(hd:s.dec c=false)(hS:0<s.S c)(hκ:∀k,k<s.K→s.κ k c≤s.S c):v≤1:=by
 have h1:=h.ge c hc;have h2:wr _ (fun k=>w k*(s.κ k c))≤wr _ (fun k=>(s.S c)*w k):=HM fun k hk=>by
  have h3:(s.κ k c:Rat)≤(s.S c):=by exact_mod_cast hκ k hk
  have:=dT h3 (h.nn k hk);grind
 rw[ww] at h2;have ha:0<(s.S c:Rat):=by exact_mod_cast hS
 have h4:=dT h.one (show 0≤(s.S c:Rat) by grind);refine bZ fun hv=>?_
 have:=pR ha (show 0<v-1 by grind);grind
theorem Rm{A:Nat→Nat→Rat}{B x:Nat→Rat}(hn:0<n)(hx:BL m n A B x)(hY:∀i,i<m→0≤Y i)(hd:∀j,j<n→(if j=0 then 1 else 0)≤wr m (fun i=>A i j*Y i)):x 0≤wr m (fun i=>B i*Y i):=by
 have h1:wr n (fun j=>(if j=0 then 1 else 0)*x j)≤wr n (fun j=>wr m (fun i=>A i j*Y i)*x j):=HM fun j hj=>by
  have:=dT (hd j hj) (hx.nn j hj);grind
 have h2:wr n (fun j=>(if j=0 then 1 else 0)*x j)=x 0:=by
  rw[wx (g:=fun j=>if j=0 then x j else 0) (fun j _=>O6),xY x hn]
 have h3:wr n (fun j=>wr m (fun i=>A i j*Y i)*x j)=wr m (fun i=>wr n (fun j=>A i j*x j)*Y i):=by
  have e1:∀j,wr m (fun i=>A i j*Y i)*x j=wr m (fun i=>A i j*x j*Y i):=fun j=>by
   rw[wx (f:=fun i=>A i j*x j*Y i) (g:=fun i=>x j*(A i j*Y i)) (fun i _=>O6),ww];grind
  have e2:∀i,wr n (fun j=>A i j*x j)*Y i=wr n (fun j=>A i j*x j*Y i):=fun i=>by
   rw[wx (f:=fun j=>A i j*x j*Y i) (g:=fun j=>Y i*(A i j*x j)) (fun j _=>O6),ww];grind
  rw[wx (fun j _=>e1 j),wx (f:=fun i=>wr n (fun j=>A i j*x j)*Y i) (fun i _=>e2 i)];exact(SE (fun i j=>A i j*x j*Y i) n m).symm
 have h4:wr m (fun i=>wr n (fun j=>A i j*x j)*Y i)≤wr m (fun i=>B i*Y i):=HM fun i hi=>by
  have:=dT (hx.row i hi) (hY i hi);grind
 grind
def Sr.tot(s:Sr)(y:Nat→Rat):Rat:=wr s.nc (fun c=>if s.dec c then 0 else(s.S c:Rat)*y c)
def Sr.l5(s:Sr)(y:Nat→Rat):Rat:=wr s.nc (fun c=>if s.dec c then(s.S c:Rat)*(y c*s.p c) else 0)
def Sr.price(s:Sr)(y:Nat→Rat)(κ:Nat→Nat):Rat:=wr s.nc (fun c=>(κ c:Rat)*y c)
structure Sr.Lv(s:Sr)(F:(Nat→Nat)→Prop)(v:Rat)(y:Nat→Rat):Prop where
 nn:∀c,c<s.nc→0≤y c
 one:s.tot y=1
 le:∀κ,F κ→s.price y κ≤v+s.l5 y
 ex:∃κ,F κ∧s.price y κ=v+s.l5 y
structure Sr.Du(s:Sr)(t:Rat)(Y:Nat→Rat):Prop where
 nn:∀c,c≤s.nc→0≤Y c
 tot:1≤s.tot Y
 kind:∀k,k<s.K→s.price Y (s.κ k)≤Y s.nc
 val:t=Y s.nc-s.l5 Y
theorem Sr.du(hY:∀i,i<s.nc+1→0≤Y i)(hd:∀j,j<s.K+1→(if j=0 then 1 else 0)≤wr (s.nc+1) (fun i=>s.A i j*Y i))(ht:t=wr (s.nc+1) (fun i=>s.B i*Y i)):s.Du t Y:=by
 refine⟨fun c hc=>hY c O1,?_,fun k hk=>?_,?_⟩
 ·have:=hd 0 O1;simp[if_true,wr] at this;have e1:s.A s.nc 0=0:=by simp[Sr.A]
  rw[e1,wx (g:=fun c=>if s.dec c then 0 else(s.S c)*Y c) (fun c hc=>by
   simp[Sr.A,if_neg (show¬c=s.nc by omega),if_true]
   grind)] at this
  unfold Sr.tot;grind
 ·have:=hd (k+1) O1;simp only[wr] at this;have e1:s.A s.nc (k+1)=1:=by simp[Sr.A]
  rw[e1,wx (g:=fun c=>(-1)*((s.κ k c)*Y c)) (fun c hc=>by
   simp[Sr.A,if_neg (show¬c=s.nc by omega),if_neg (show¬k+1=0 by omega),nN];grind),ww] at this
  unfold Sr.price;grind
 rw[ht];simp[wr];have e1:s.B s.nc=1:=by simp[Sr.B]
 rw[e1,wx (g:=fun c=>(-1)*(if s.dec c then(s.S c)*(Y c*s.p c) else 0)) (fun c hc=>by
  simp[Sr.B,if_neg (show¬c=s.nc by omega)]
  grind),ww]
 unfold Sr.l5;grind
theorem RW(f a n):wr n (fun j=>f j/a)=wr n f/a:=by
 rw[wx (g:=fun j=>a⁻¹*f j) (fun j _=>O6),ww];grind
theorem Sr.Du.new(h:s.Du t Y){κ:Nat→Nat}(hp:Y s.nc/s.tot Y<s.price (fun c=>Y c/s.tot Y) κ):∀k,k<s.K→∃c,c<s.nc∧κ c≠s.κ k c:=by
 intro k hk;refine bZ fun hn=>?_
 have he:=fun c hc=>bZ fun h=>hn ⟨c,hc,h⟩
 have hT:0<s.tot Y:=by have:=h.tot;grind
 have e1:s.price (fun c=>Y c/s.tot Y) κ=s.price Y (s.κ k)/s.tot Y:=by
  unfold Sr.price;rw[wx (g:=fun c=>(s.κ k c:Rat)*Y c/s.tot Y) (fun c hc=>O6)];exact RW (fun c=>(s.κ k c:Rat)*Y c) _ _
 have h2:=h.kind k hk
 have h3:=(qEq hT hT).2 (show s.price Y (s.κ k)*s.tot Y≤Y s.nc*s.tot Y by
  have:=dT h2 (show 0≤s.tot Y by grind)
  grind)
 grind
theorem Sr.aB3(Y a):s.tot (fun c=>Y c/a)=s.tot Y/a:=by
 unfold Sr.tot;rw[←RW];grind
theorem Sr.aB1(Y a):s.l5 (fun c=>Y c/a)=s.l5 Y/a:=by
 unfold Sr.l5;rw[←RW];grind
theorem Sr.aB0(y t):wr s.nc (fun c=>y c*((s.S c:Rat)*(if s.dec c then s.p c else t)))=s.l5 y+t*s.tot y:=by
 unfold Sr.l5 Sr.tot;rw[←ww,←wu];grind
theorem Sr.aA3(y w:Nat→Rat):wr s.K (fun k=>w k*s.price y (s.κ k))=wr s.nc (fun c=>y c*wr s.K (fun k=>w k*(s.κ k c:Rat))):=by
 have a1:∀k,w k*s.price y (s.κ k)=wr _ (fun c=>w k*(s.κ k c)*y c):=fun k=>by
  unfold Sr.price;rw[←ww];exact wx fun c _=>O6
 have a2:∀c,y c*wr _ (fun k=>w k*(s.κ k c))=wr s.K (fun k=>w k*(s.κ k c)*y c):=fun c=>by
  rw[←ww];exact wx fun k _=>O6
 rw[wx (fun k _=>a1 k),wx (fun c _=>a2 c)];exact SE _ _ _
theorem Sr.Du.level{w F}(h:s.Du t Y)(hw:s.W t w)(hF:∀k,k<s.K→F (s.κ k)){ma κ}(hκ:F κ)(hm:s.price (fun c=>Y c/s.tot Y) κ=ma)
  (ys:∀κ,F κ→s.price (fun c=>Y c/s.tot Y) κ≤ma) (tw:ma≤Y s.nc/s.tot Y):
  ma-s.l5 (fun c=>Y c/s.tot Y)=t∧s.Lv F t (fun c=>Y c/s.tot Y):=by
 have x0:=h.val;have hj:=h.tot;have ha:=s.aB3 Y (s.tot Y);have hg:=s.aB1 Y (s.tot Y);have hh:=h.nn;generalize s.tot Y=T at*
 have hT:0<T:=O6
 have hl:=rZ.2 hT;have a1:∀c,c<s.nc→0≤Y c/T:=fun c hc=>by
  have:=iD (hh c O1) (show 0≤T⁻¹by grind);grind
 have ha:s.tot (fun c=>Y c/T)=1:=by rw[ha];grind
 have e1:Y s.nc/T-s.l5 (fun c=>Y c/T)=t/T:=by rw[hg,x0];grind
 have h0:=hw.v0;have e2:t/T≤t:=by
  have h3:T⁻¹*T=1:=O6
  have h4:=iD (show 0≤T-1 by grind) (show 0≤T⁻¹by grind);have h5:(T-1)*T⁻¹=1-T⁻¹:=O6
  rw[h5] at h4;have h2:=iD h0 h4;have h6:t*(1-T⁻¹)=t-t/T:=O6
  rw[h6] at h2;grind
 obtain⟨y,hy⟩:∃y:Nat→Rat,y=fun c=>Y c/T:=⟨_,O⟩
 rw[←hy] at hm ys ha e1⊢;have a1:∀c,c<_→0≤y c:=fun c hc=>by rw[hy];exact a1 c hc
 have oX:0≤ma:=by
  rw[←hm];unfold Sr.price;refine Tv fun c hc=>iD ?_ (a1 c hc)
  have:(0:Rat)≤((κ c:Nat):Rat):=by exact_mod_cast bL _
  exact this
 have e3:wr s.K (fun k=>w k*s.price y (s.κ k))≤ma:=by
  have h1:wr s.K (fun k=>w k*s.price y (s.κ k))≤wr s.K (fun k=>ma*w k):=HM fun k hk=>by
   have:=dT (ys _ (hF k hk)) (hw.nn k hk);grind
  rw[ww] at h1;have h2:=dT hw.one oX;grind
 have e5:=HM fun c hc=>
  dT (hw.ge c hc) (a1 c hc)
 rw[Sr.aB0,ha] at e5;rw[Sr.aA3] at e3;have x0:ma-s.l5 y=t:=O6
 exact⟨x0,a1,ha,fun κ hκ=>O6,κ,hκ,O6⟩
def Sr.next(s:Sr)(v:Rat)(y:Nat→Rat):Sr:={s with dec:=fun c=>s.dec c||decide (0<y c),p:=fun c=>if s.dec c then s.p c else if 0<y c then v else s.p c}
theorem Sr.W.next(h:s.W v w)(y):(s.next v y).W v w:=by
 refine⟨h.v0,h.nn,h.one,fun c hc=>?_⟩;have h1:=h.ge c hc;have key:(if(s.next v y).dec c then(s.next v y).p c else v)=(if s.dec c then s.p c else v):=by
  simp only[Sr.next];by_cases hd:s.dec c=true
  ·simp[hd]
  by_cases hy:0<y c<;>simp[hd,hy]
 rw[key];exact h1
theorem Sr.Lv.some{F y}(h:s.Lv F v y):∃c,c<s.nc∧s.dec c=false∧0<y c:=by
 have⟨c,hc,hp⟩:=RX (show 0<wr s.nc (fun c=>if s.dec c then 0 else(s.S c)*y c) by
  have:=h.one;unfold Sr.tot at this
  grind)
 refine⟨c,hc,?_,?_⟩
 ·grind
 have:=h.nn c hc;by_cases h0:y c=0
 ·grind
 grind
end
def prv(n:Nat)(q:Nat→Rat)(best:(Nat→Rat)→Rat):List (Rat×(Nat→Rat))→(Nat→Bool)→Option Rat→Prop
 |[],dec,_=>∀i,i<n→dec i=true
 |(v,y)::ls,dec,last=>(∀i,i<n→0≤y i)∧wr n (fun i=>if dec i then 0 else y i)=1∧best y-wr n (fun i=>if dec i then y i*q i else 0)=v∧
  (∀u,last=some u→u≤v)∧(∀i,i<n→dec i=true∨y i=0∨q i=v)∧prv n q best ls (fun i=>dec i||decide (0<y i)) (some v)
section
variable{p q:Nat→Rat}{best:(Nat→Rat)→Rat}
theorem jDu:∀(ls:List (Rat×(Nat→Rat))) (dec:Nat→Bool) (v:Rat),prv n p best ls dec (some v)→∀i,i<n→dec i=false→v≤p i
 |[],dec,v,hp,i,hi,hd=>by
  have:=hp i hi;grind
 |(u,y)::ls,dec,v,hp,i,hi,hd=>by
  have⟨h1,_,_,h4,h5,h6⟩:=hp;have io:=h4 v O;by_cases hy:0<y i
  ·grind
  exact rC io (jDu ls _ u h6 i hi O6)
theorem qQn(hg:∀y:Nat→Rat,(∀i,i<n→0≤y i)→wr n (fun i=>y i*q i)≤best y):∀(ls:List (Rat×(Nat→Rat))) (dec:Nat→Bool) (last:Option Rat),prv n p best ls dec last→(∀i,i<n→dec i=true→q i=p i)→
  (∀i,i<n→q i=p i)∨∃(D:Nat→Bool) (v:Rat) (k:Nat),(∀i,i<n→D i=true→q i=p i)∧(∀i,i<n→D i=false→v≤p i)∧k<n∧D k=false∧q k<v
 |[],dec,_,hp,h=>.inl fun i hi=>h i hi (hp i hi)
 |(v,y)::ls,dec,last,hp,h=>by
  have⟨h1,h2,h3,h4,h5,h6⟩:=hp;by_cases hex:∃k,k<n∧dec k=false∧q k<v
  ·have⟨k,hk,hn,ha⟩:=hex;refine .inr ⟨_,v,k,h,fun i hi hd=>?_,hk,hn,ha⟩;by_cases hy:0<y i
   ·grind
   exact jDu ls _ v h6 i hi O6
  have x7:∀i,i<n→_=_→v≤q i:=fun i hi hd=>by
   refine bZ fun hl=>hex ⟨i,hi,hd,O6⟩
  have hm:=hg y h1;have e1:wr n (fun i=>y i*q i)=wr n (fun i=>if dec i then y i*p i else 0)+wr n (fun i=>if dec i then 0 else y i*q i):=by
   rw[←wu];refine wx fun i hi=>?_
   cases hd:dec i
   ·grind
   rw[h i hi hd];simp;grind
  have e2:wr n (fun i=>if dec i then 0 else y i*(q i-v))=wr n (fun i=>if dec i then 0 else y i*q i)-v*1:=by
   rw[←h2,←ww,←N1];exact wx fun i _=>O6
  have a1:∀i,i<n→0≤(if dec i then 0 else y i*_):=fun i hi=>by
   cases hd:dec i
   ·have:=iD (h1 i hi) (show 0≤q i-v by grind);exact DT
   simp
  have ys:wr n (fun i=>if dec i then 0 else y i*(q i-v))≤0:=by rw[e2];grind
  have hz:∀i,i<n→(if dec i then 0 else y i*(q i-v))=0:=by
   intro i hi;have e3:=wX (fun i=>if dec i then 0 else y i*(q i-v)) hi;have h7:0≤wr n (fun j=>if j=i then 0 else(if dec j then 0 else y j*(q j-v))):=Tv fun j hj=>by
    grind
   have h8:=a1 i hi;rw[e3] at ys;grind
  refine qQn hg ls _ _ h6 (fun i hi hd=>?_);by_cases hh:dec i=true
  ·grind
  have hy:=by simpa[hh] using hd
  rcases h5 i hi with h|h|h
  ·grind
  ·grind
  grind
end
def qi(cl:Nat→Nat):Nat→Nat→Nat
 |0,_=>0
 |n+1,c=>qi cl n c+(if cl n=c then 1 else 0)
theorem Tc(cl:Nat→Nat)(f:Nat→Rat)(nc:Nat):∀{n:Nat},(∀i,i<n→cl i<nc)→wr n (fun i=>f (cl i))=wr nc (fun c=>(qi cl n c:Rat)*f c)
 |0,_=>by
  simp only[wr,qi]
  rw[vM (fun c _=>by
   simp)]
 |n+1,h=>by
  have ih:=Tc cl f nc (n:=n) (fun i hi=>h i O1);simp only[wr,qi];rw[ih,←xY f (h n O1),←wu];refine wx fun c _=>?_
  by_cases hc:c=cl n
  ·subst hc;grind
  rw[if_neg hc,if_neg O1,fY];grind
def jX(cl:Nat→Nat)(P:List Nat)(c:Nat):Nat:=P.countP (fun i=>decide (cl i=c))
def ps(y:Nat→Rat):List Nat→Rat
 |[]=>0
 |i::P=>y i+ps y P
theorem L5(cl:Nat→Nat)(f:Nat→Rat)(nc:Nat):∀{P:List Nat},(∀i∈P,cl i<nc)→ps (fun i=>f (cl i)) P=wr nc (fun c=>(jX cl P c:Rat)*f c)
 |[],_=>by
  simp only[ps,jX,List.countP_nil]
  rw[vM (fun c _=>by
   simp)]
 |i::P,h=>by
  have ih:=L5 cl f nc (P:=P) (fun i hi=>h i (by simp[hi]));simp[ps];rw[ih,←xY f (h i O4),←wu];refine wx fun c _=>?_
  simp only[jX,lS];by_cases hc:c=cl i
  ·subst hc;grind
  have:¬_=c:=fun e=>hc e.symm
  simp only[this,Ll,if_neg hc];grind
def jE:List (List Nat×Rat)→Nat→Rat
 |[],_=>0
 |(P,w)::m,i=>(if i∈P then w else 0)+jE m i
def Bv:List (List Nat×Rat)→Rat
 |[]=>0
 |(_,w)::m=>w+Bv m
theorem jDs{y n}(w):∀{P:List Nat},P.Nodup→(∀i∈P,i<n)→wr n (fun i=>y i*(if i∈P then w else 0))=w*ps y P
 |[],_,_=>by
  simp only[ps];rw[vM (fun i _=>O4)];grind
 |j::P,hn,h=>by
  have⟨h1,h2⟩:=pL.1 hn;have ih:=jDs (y:=y) w h2 (fun i hi=>h i (by simp[hi]));simp only[ps];have hj:=h j O4;have e:w*(y j+ps y P)=y j*w+w*ps y P:=O6
  rw[e,←ih,←xY (fun i=>y i*w) hj,←wu];grind
theorem Zw{y n M}:∀{m:List (List Nat×Rat)},(∀x∈m,x.1.Nodup∧(∀i∈x.1,i<n)∧0≤x.2∧ps y x.1≤M)→wr n (fun i=>y i*jE m i)≤M*Bv m
 |[],_=>by
  simp only[jE,Bv];rw[vM (fun i _=>O6)];simp
 |(P,w)::m,h=>by
  have⟨h1,h2,h3,h4⟩:=h (P,w) O4;have ih:=Zw (m:=m) (fun x hx=>h x (by simp[hx]));simp only[jE,Bv];have e:wr n (fun i=>y i*((if i∈P then w else 0)+jE m i))=wr n (fun i=>y i*(if i∈P then w else 0))+wr n (fun i=>y i*jE m i):=by
   rw[←wu];exact wx fun i _=>O6
  rw[e,jDs w h1 h2];have h5:=dT h4 h3;grind
variable{T:List Nat}{b:Bool}
structure Q where
 N:Nat
 q:List (Int×Int)
 inn:Nat→Nat→Bool
structure wj where
 next:Nat
 left:Nat
 cs:List Int
def Q.rest(f:Q)(k:Nat):Nat→Nat
 |0=>0
 |d+1=>f.rest k d+(if f.inn (f.N-(d+1)) k then 1 else 0)
def Q.p5(f:Q)(next left:Nat):Nat→List (Int×Int)→List Int→Option (List Int)
 |_,[],cs=>some cs
 |k,(lo,hi)::qs,cs=>
  if cs.getD k 0= -1 then f.p5 next left (k+1) qs cs
  else if hi<cs.getD k 0∨cs.getD k 0+(min (f.rest k (f.N-next)) left:Nat)<lo then none
  else f.p5 next left (k+1) qs (if lo≤cs.getD k 0∧cs.getD k 0+(min (f.rest k (f.N-next)) left:Nat)≤hi then cs.set k (-1) else cs)
def Q.tidy(f:Q)(s:wj):Option wj:=
 if s.left>f.N-s.next then none else(f.p5 s.next s.left 0 f.q s.cs).map fun cs=>{s with cs:=cs}
def Q.add(f:Q)(i:Nat):Nat→List Int→List Int
 |0,cs=>cs
 |k+1,cs=>let c:=f.add i k cs
  if f.inn i k&&decide (c.getD k 0≠-1) then c.set k (c.getD k 0+1) else c
def Q.k4(f:Q)(s:wj)(take:Bool):Option wj:=
 f.tidy (if take then{next:=s.next+1,left:=s.left-1,cs:=f.add s.next f.q.length s.cs} else{s with next:=s.next+1})
structure Q.Cmp(f:Q)(s:wj)(T:List Nat):Prop where
 srt:T.Pairwise (·<·)
 ge:∀i∈T,s.next≤i
 lt:∀i∈T,i<f.N
 len:T.length=s.left
 quo:∀k lh,f.q[k]? =some lh→s.cs.getD k 0= -1∨(lh.1≤s.cs.getD k 0+(T.countP (fun i=>f.inn i k):Nat)∧s.cs.getD k 0+(T.countP (fun i=>f.inn i k):Nat)≤lh.2)
structure Q.Td(f:Q)(s:wj):Prop where
 left:s.left≤f.N-s.next
 quo:∀k lh,f.q[k]? =some lh→s.cs.getD k 0= -1∨¬(lh.1≤s.cs.getD k 0∧s.cs.getD k 0+(min (f.rest k (f.N-s.next)) s.left:Nat)≤lh.2)∧¬(lh.2<s.cs.getD k 0∨s.cs.getD k 0+(min (f.rest k (f.N-s.next)) s.left:Nat)<lh.1)
 cl:f.q.length≤s.cs.length
section
variable{f:Q}
theorem SB(k):∀(d:Nat) (T:List Nat),T.Pairwise (·<·)→(∀i∈T,f.N-d≤i)→(∀i∈T,i<f.N)→T.countP (fun i=>f.inn i k)≤f.rest k d
 |0,[],_,_,_=>O4
 |0,i::T,_,h1,h2=>by
  have a:=h1 i O4;grind
 |d+1,[],_,_,_=>O4
 |d+1,i::T,hs,h1,h2=>by
  have⟨hq,h4⟩:=bQ.1 hs;have a:=h1 i O4;by_cases hi:i=f.N-(d+1)
  ·have:=SB k d T h4 (fun j hj=>O6) (fun j hj=>h2 j (by simp[hj]));simp only[lS,Q.rest];grind
  have:=SB k d _ hs (fun j hj=>by
   grind) h2
  simp only[Q.rest];omega
theorem SG{next left}:∀(qs:List (Int×Int)) (k:Nat) (cs c8:List Int),f.p5 next left k qs cs=some c8→c8.length=cs.length
 |[],k,cs,c8,h=>by simp[Q.p5,Option.some.injEq] at h;rw[h]
 |(lo,hi)::qs,k,cs,c8,h=>by
  simp only[Q.p5] at h;split at h
  ·exact SG qs _ _ _ h
  split at h
  ·cases h
  have:=SG qs _ _ _ h;grind
theorem qIj(cs:List Int)(k j:Nat)(v:Int)(h:k<cs.length):(cs.set k v).getD j 0=if j=k then v else cs.getD j 0:=by
 grind
theorem Ku{next left}:∀(qs:List (Int×Int)) (k:Nat) (cs:List Int),k+qs.length≤cs.length→
  match f.p5 next left k qs cs with
  |none=>∃j lh,qs[j]? =some lh∧cs.getD (k+j) 0≠-1∧(lh.2<cs.getD (k+j) 0∨cs.getD (k+j) 0+(min (f.rest (k+j) (f.N-next)) left:Nat)<lh.1)
  |some cs'=>(∀j,(j<k∨k+qs.length≤j)→cs'.getD j 0=cs.getD j 0)∧∀j lh,qs[j]? =some lh→
    (cs.getD (k+j) 0= -1∧cs'.getD (k+j) 0= -1)∨(¬(lh.2<cs.getD (k+j) 0∨cs.getD (k+j) 0+(min (f.rest (k+j) (f.N-next)) left:Nat)<lh.1)∧
     ((lh.1≤cs.getD (k+j) 0∧cs.getD (k+j) 0+(min (f.rest (k+j) (f.N-next)) left:Nat)≤lh.2∧cs'.getD (k+j) 0= -1)∨
     (¬(lh.1≤cs.getD (k+j) 0∧cs.getD (k+j) 0+(min (f.rest (k+j) (f.N-next)) left:Nat)≤lh.2)∧cs'.getD (k+j) 0=cs.getD (k+j) 0)))
 |[],k,cs,_=>by simp[Q.p5]
 |(lo,hi)::qs,k,cs,hl=>by
  simp[cF] at hl;simp only[Q.p5];by_cases h1:cs.getD k 0= -1
  ·rw[if_pos h1];have ih:=Ku (next:=next) (left:=left) qs (k+1) cs O1;cases hr:f.p5 next left (k+1) qs cs with
   |none=>
    rw[hr] at ih;have⟨j,lh,e1,e2,e3⟩:=ih;have e:k+1+j=k+(j+1):=O1;rw[e] at e2 e3;exact⟨_,lh,O6,e2,e3⟩
   |some cs'=>
    rw[hr] at ih;have⟨i1,i2⟩:=ih;refine⟨fun j hj=>i1 j O6,fun j lh hj=>?_⟩;cases j with
    |zero=>grind
    |succ j=>
     grind
  rw[if_neg h1];by_cases h2:hi<cs.getD k 0∨cs.getD k 0+(min (f.rest k (f.N-next)) left)<lo
  ·rw[if_pos h2];exact⟨0,_,O,h1,h2⟩
  rw[if_neg h2];obtain⟨ca,ha⟩:∃ca,ca=(if lo≤cs.getD k 0∧cs.getD k 0+(min (f.rest k (f.N-next)) left)≤hi then cs.set k (-1) else cs):=⟨_,O⟩;rw[←ha];have dr:ca.length=cs.length:=by rw[ha];split<;>simp
  have hg:∀j,j≠k→ca.getD j 0=cs.getD j 0:=by
   intro j hj;rw[ha];split
   ·grind
   rfl
  have ih:=Ku (next:=next) (left:=left) qs (k+1) ca O1;cases hr:f.p5 next left (k+1) qs ca with
  |none=>
   rw[hr] at ih;have⟨j,lh,e1,e2,e3⟩:=ih;have e:k+1+j=k+(j+1):=O1;rw[e,hg _ O1] at e2 e3;exact⟨_,lh,O6,e2,e3⟩
  |some cs'=>
   rw[hr] at ih;have⟨i1,i2⟩:=ih;refine⟨fun j hj=>(i1 j O6).trans (hg j O6),fun j lh hj=>?_⟩;cases j with
   |zero=>
    grind
   |succ j=>
    grind
theorem qPc{s:wj}(h1:T.Pairwise (·<·))(h2:∀i∈T,s.next≤i)(h3:∀i∈T,i<f.N)(h4:T.length=s.left)(k:Nat):T.countP (fun i=>f.inn i k)≤min (f.rest k (f.N-s.next)) s.left:=by
 have a:=SB k (f.N-s.next) T h1 (fun i hi=>O6) h3;grind
theorem uK{a b}:∀{T:List Nat},T.Pairwise (·<·)→(∀i∈T,a≤i)→(∀i∈T,i<b)→T.length≤b-a
 |[],_,_,_=>O4
 |i::T,hs,h1,h2=>by
  have⟨hq,h4⟩:=bQ.1 hs;have:=uK (a:=i+1) h4 (hq) (fun j hj=>h2 j (by simp[hj]));have:=h1 i O4;grind
theorem qIw{s:wj}(hl:f.q.length≤s.cs.length)(h:f.tidy s=none)(T:List Nat):¬f.Cmp s T:=by
 intro hc;unfold Q.tidy at h;split at h
 ·have:=uK hc.srt hc.ge hc.lt;have:=hc.len;omega
 have hs:=Ku (f:=f) (next:=s.next) (left:=s.left) f.q 0 s.cs O1;cases hr:f.p5 _ _ 0 _ _ with
 |some cs=>rw[hr] at h;simp at h
 |none=>
  rw[hr] at hs;have⟨j,lh,e1,e2,e3⟩:=hs;rw[gF] at e2 e3;have:=qPc hc.srt hc.ge hc.lt hc.len j;rcases hc.quo j lh e1 with h|h
  ·omega
  omega
theorem wJ{s t:wj}(hl:f.q.length≤s.cs.length)(h:f.tidy s=some t):t.next=s.next∧t.left=s.left∧t.cs.length=s.cs.length∧f.Td t∧∀T,f.Cmp t T↔f.Cmp s T:=by
 unfold Q.tidy at h;split at h
 ·cases h
 rename_i hle
 have hs:=Ku (f:=f) (next:=s.next) (left:=s.left) f.q 0 s.cs O1;cases hr:f.p5 s.next s.left 0 f.q s.cs with
 |none=>grind
 |some cs=>
  rw[hr] at h hs;have hQ:=SG _ _ _ _ hr;obtain rfl:{s with cs:=cs}=t:=O6
  have⟨_,h2⟩:=hs;simp only[gF] at h2;refine⟨O,O,hQ,⟨O6,fun k lh hk=>?_,O6⟩,fun T=>?_⟩
  ·grind
  constructor
  ·intro hc;refine⟨hc.srt,hc.ge,hc.lt,hc.len,fun k lh hk=>?_⟩;have hq:=hc.quo k lh hk;have ha:=qPc hc.srt hc.ge hc.lt hc.len k;grind
  intro hc;refine⟨hc.srt,hc.ge,hc.lt,hc.len,fun k lh hk=>?_⟩;have hq:=hc.quo k lh hk;grind
theorem Q.Td.fin{s}(h:f.Td s)(h0:s.left=0):f.Cmp s []:=by
 refine⟨.nil,O4,O4,by simp[h0],fun k lh hk=>?_⟩;rcases h.quo k lh hk with h|h
 ·omega
 omega
theorem J7(i):∀(k:Nat) (cs:List Int),(f.add i k cs).length=cs.length
 |0,cs=>rfl
 |k+1,cs=>by
  simp only[Q.add];split
  ·rw[fW,J7]
  exact J7 i k cs
theorem Lx(i):∀(k:Nat) (cs:List Int),k≤cs.length→∀j,(f.add i k cs).getD j 0=if j<k∧f.inn i j=true∧cs.getD j 0≠-1 then cs.getD j 0+1 else cs.getD j 0
 |0,cs,_,j=>by simp[Q.add]
 |k+1,cs,hk,j=>by
  have ih:=Lx i k cs O1;have hl:=J7 (f:=f) i k cs;have ia:=ih k;simp only[Q.add,ia];grind
def Q.Nn(f:Q)(s:wj):Prop:=∀k,k<f.q.length→s.cs.getD k 0= -1∨0≤s.cs.getD k 0
theorem NU{s:wj}(b:Bool)(hl:f.q.length≤s.cs.length):f.q.length≤(if b then{next:=s.next+1,left:=s.left-1,cs:=f.add s.next f.q.length s.cs} else{s with next:=s.next+1}:wj).cs.length:=by
 cases b
 ·exact hl
 show f.q.length≤(f.add _ _ _).length
 rw[J7];exact hl
theorem qPb{s}(T):f.Cmp {s with next:=s.next+1} T↔f.Cmp s T∧s.next∉T:=by
 constructor
 ·intro h;have h2:=h.ge;simp[] at h2;exact⟨⟨h.srt,fun i hi=>O6,h.lt,h.len,h.quo⟩,fun hm=>O6⟩
 rintro⟨h,hm⟩;refine⟨h.srt,fun i hi=>?_,h.lt,h.len,h.quo⟩;have:=h.ge i hi;grind
theorem ZE{s}(hl:f.q.length≤s.cs.length)(hn:f.Nn s)(hN:s.next<f.N)(h0:0<s.left)(T):f.Cmp {next:=s.next+1,left:=s.left-1,cs:=f.add s.next f.q.length s.cs} T↔f.Cmp s (s.next::T):=by
 have key:∀k lh,f.q[k]? =some lh→(((f.add s.next f.q.length s.cs).getD k 0= -1∨(lh.1≤(f.add s.next f.q.length s.cs).getD k 0+(T.countP (fun i=>f.inn i k))∧(f.add s.next f.q.length s.cs).getD k 0+(T.countP (fun i=>f.inn i k))≤lh.2))↔
   (s.cs.getD k 0= -1∨(lh.1≤s.cs.getD k 0+((s.next::T).countP (fun i=>f.inn i k))∧s.cs.getD k 0+((s.next::T).countP (fun i=>f.inn i k))≤lh.2))):=by
  intro k lh hk;have hS:k<f.q.length:=(aI.1 hk).1;have a1:=hn k hS;rw[Lx s.next f.q.length s.cs hl k,lS];by_cases hi:f.inn s.next k=true
  ·grind
  rw[if_neg (fun h=>hi h.2.1)];simp only[hi];simp
 constructor
 ·intro h;have h2:=h.ge;have h4:=h.len;simp[] at h2 h4;refine⟨bQ.2 ⟨h2,h.srt⟩,fun i hi=>?_,fun i hi=>?_,O6,fun k lh hk=>(key k lh hk).1 (h.quo k lh hk)⟩
  ·grind
  rcases aP.1 hi with rfl|hi
  ·exact hN
  exact h.lt i hi
 intro h;have⟨h1,h2⟩:=bQ.1 h.srt;have h4:=h.len;simp[cF] at h4;exact⟨h2,h1,fun i hi=>h.lt i (by simp[hi]),O6,fun k lh hk=>(key k lh hk).2 (h.quo k lh hk)⟩
theorem Ti{s t}(hl:f.q.length≤s.cs.length)(hn:f.Nn s)(h:f.tidy s=some t):f.Nn t:=by
 intro k hk;unfold Q.tidy at h;split at h
 ·cases h
 have hs:=Ku (f:=f) (next:=s.next) (left:=s.left) f.q 0 s.cs O1;cases hr:f.p5 _ _ 0 _ _ with
 |none=>rw[hr] at h;simp at h
 |some cs=>
  rw[hr] at h hs;obtain rfl:{s with cs:=cs}=t:=O6
  have:=hs.2 k _ (aA hk);simp only[gF] at this;rcases this with⟨_,b⟩|⟨a,⟨_,_,b⟩|⟨c,b⟩⟩
  ·exact .inl b
  ·exact .inl b
  rw[b];exact hn k hk
theorem jNt{s}(b:Bool)(hl:f.q.length≤s.cs.length)(hn:f.Nn s):f.Nn (if b then{next:=s.next+1,left:=s.left-1,cs:=f.add s.next f.q.length s.cs} else{s with next:=s.next+1}:wj):=by
 cases b
 ·exact hn
 intro k hk;show(f.add _ _ _).getD k 0= -1∨0≤(f.add _ _ _).getD k 0
 rw[Lx _ _ _ hl];have:=hn k hk;omega
structure Q.Ok(f:Q)(s:wj):Prop where
 td:f.Td s
 nn:f.Nn s
 nx:s.next≤f.N
theorem Q.Ok.lt{s}(h:f.Ok s)(h0:0<s.left):s.next<f.N:=by have:=h.td.left;omega
theorem wW{s t:wj}(h:f.Ok s)(h0:0<s.left)(hs:f.k4 s b=some t):f.Ok t∧t.next=s.next+1∧t.left=(if b then s.left-1 else s.left)∧t.cs.length=s.cs.length∧∀T,f.Cmp t T↔(if b then f.Cmp s (s.next::T) else f.Cmp s T∧s.next∉T):=by
 have hl:=h.td.cl;have ha:=h.lt h0;have⟨e1,e2,e3,e4,e5⟩:=wJ (NU b hl) hs;have a1:=Ti (NU b hl) (jNt b hl h.nn) hs;cases b
 ·simp[fA,iX] at e1 e2 e3 e5⊢;exact⟨⟨e4,a1,O1⟩,e1,e2,e3,fun T=>(e5 T).trans (qPb T)⟩
 simp[if_true] at e1 e2 e3 e5⊢;exact⟨⟨e4,a1,O1⟩,e1,e2,by rw[e3,J7],fun T=>(e5 T).trans (ZE hl h.nn ha h0 T)⟩
theorem Te{s:wj}(h:f.Ok s)(h0:0<s.left)(hs:f.k4 s b=none):∀T,¬(if b then f.Cmp s (s.next::T) else f.Cmp s T∧s.next∉T):=by
 have hl:=h.td.cl;have ha:=h.lt h0;intro T hT;have:=qIw (NU b hl) hs T;cases b
 ·exact this ((qPb T).2 hT)
 exact this ((ZE hl h.nn ha h0 T).2 hT)
theorem OP{s}(h:f.Cmp s T):(s.next∉T)∨∃T',T=s.next::T':=by
 cases T with
 |nil=>simp
 |cons i T=>
  by_cases hi:i=s.next
  ·grind
  have h1:=(bQ.1 h.srt).1;have h2:=h.ge i O4;grind
def vs(w:Nat→Nat):List Nat→Nat
 |[]=>0
 |i::T=>w i+vs w T
def Q.best(f:Q)(w:Nat→Nat):Nat→wj→Nat×Bool×Bool
 |0,s=>if s.left=0 then(0,false,true) else(0,false,false)
 |d+1,s=>
  if s.left=0 then(0,false,true) else
  let a:Nat×Bool×Bool:=match f.k4 s false with
   |some t=>((f.best w d t).1,false,(f.best w d t).2.2)
   |none=>(0,false,false)
  match f.k4 s true with
   |some t=>if(f.best w d t).2.2&&(!a.2.2||decide (a.1<(f.best w d t).1+w s.next)) then((f.best w d t).1+w s.next,true,true) else a
   |none=>a
def Q.o6(f:Q)(w:Nat→Nat):Nat→wj→List Nat
 |0,_=>[]
 |d+1,s=>
  if s.left=0 then[] else
  match f.k4 s (f.best w (d+1) s).2.1 with
  |some t=>if(f.best w (d+1) s).2.1 then s.next::f.o6 w d t else f.o6 w d t
  |none=>[]
structure Q.BestOk(f:Q)(w:Nat→Nat)(s:wj)(r:Nat×Bool×Bool)(T:List Nat):Prop where
 no:r.2.2=false→∀T,¬f.Cmp s T
 cmp:r.2.2=true→f.Cmp s T
 val:r.2.2=true→vs w T=r.1
 max:r.2.2=true→∀T',f.Cmp s T'→vs w T'≤r.1
theorem OO(w):∀(d:Nat) (s:wj),f.Ok s→f.N-s.next=d→f.BestOk w s (f.best w d s) (f.o6 w d s)
 |0,s,h,hd=>by
  have h0:s.left=0:=by have:=h.td.left;omega
  exact mBn
 |d+1,s,h,hd=>by
  by_cases h0:s.left=0
  ·exact mBn
  have hj:0<s.left:=O1
  obtain⟨a,ha⟩:∃a:Nat×Bool×Bool,a=(match f.k4 s false with
   |some t=>((f.best w d t).1,false,(f.best w d t).2.2)
   |none=>(0,false,false)):=⟨_,O⟩
  have hA:a.2.1=false∧(a.2.2=false→∀T,f.Cmp s T→¬s.next∉T)∧(a.2.2=true→∃t,f.k4 s false=some t∧f.Cmp s (f.o6 w d t)∧vs w (f.o6 w d t)=a.1∧∀T',f.Cmp s T'→s.next∉T'→vs w T'≤a.1):=by
   cases hs:f.k4 s false with
   |none=>
    rw[hs] at ha;rw[ha];refine⟨O,fun _ T hT hm=>?_,fun h=>(by cases h)⟩;have:=Te h hj hs T;grind
   |some t=>
    rw[hs] at ha;have⟨o1,o2,o3,_,o5⟩:=wW h hj hs;have ih:=OO w d t o1 O1;rw[ha];refine⟨O,fun hh T hT hm=>ih.no hh T ((o5 T).2 ⟨hT,hm⟩),fun hy=>⟨t,O,((o5 _).1 (ih.cmp hy)).1,ih.val hy,fun T' hg hm=>ih.max hy T' ((o5 T').2 ⟨hg,hm⟩)⟩⟩
  have⟨al,ak,hx⟩:=hA;have hB:∀t,f.k4 s true=some t→((f.best w d t).2.2=false→∀T,¬f.Cmp s (s.next::T))∧((f.best w d t).2.2=true→f.Cmp s (s.next::f.o6 w d t)∧vs w (f.o6 w d t)=(f.best w d t).1∧∀T',f.Cmp s (s.next::T')→vs w T'≤(f.best w d t).1):=by
   intro t hs;have⟨o1,o2,o3,_,o5⟩:=wW h hj hs;simp only[if_true] at o3 o5;have ih:=OO w d t o1 O1;exact⟨fun hh T hT=>ih.no hh T ((o5 T).2 hT),fun hy=>⟨(o5 _).1 (ih.cmp hy),ih.val hy,fun T' hg=>ih.max hy T' ((o5 T').2 hg)⟩⟩
  have hq:f.o6 w (d+1) s=match f.k4 s (f.best w (d+1) s).2.1 with
   |some t=>if(f.best w (d+1) s).2.1 then s.next::f.o6 w d t else f.o6 w d t
   |none=>[]:=by rw[Q.o6,if_neg h0]
  have na:∀r,r=a→f.best w (d+1) s=r→(∀T,f.Cmp s (s.next::T)→a.2.2=true∧vs w T+w s.next≤a.1)→f.BestOk w s (f.best w (d+1) s) (f.o6 w (d+1) s):=by
   rintro r rfl hr ys;rw[hq,hr,al];refine⟨fun hh T hT=>?_,fun hy=>?_,fun hy=>?_,fun hy T' hg=>?_⟩
   ·rcases OP hT with hm|⟨T',rfl⟩
    ·grind
    grind
   ·grind
   ·grind
   have⟨t,_,_,_,e4⟩:=hx hy;rcases OP hg with hm|⟨T'',rfl⟩
   ·grind
   have:=(ys T'' hg).2;simp only[vs];omega
  cases hs:f.k4 s true with
  |none=>
   have hr:f.best w (d+1) s=a:=by rw[Q.best,if_neg h0,←ha,hs]
   refine na a O hr fun T hT=>?_
   have:=Te h hj hs T;grind
  |some t=>
   have⟨lX,hn⟩:=hB t hs;by_cases hc:((f.best w d t).2.2&&(!a.2.2||decide (a.1<(f.best w d t).1+w s.next)))=true
   ·have hr:f.best w (d+1) s=((f.best w d t).1+w s.next,true,true):=by
     rw[Q.best,if_neg h0,←ha,hs];simp only[];rw[if_pos hc]
    simp[aJ,gJ,lV,dV] at hc;have⟨hy,ht⟩:=hc;have⟨b1,b2,b3⟩:=hn hy;rw[hq,hr];simp[hs,if_true];refine⟨fun h=>(by cases h),fun _=>b1,fun _=>by simp[vs];omega,fun _ T' hg=>?_⟩;rcases OP hg with hm|⟨T'',rfl⟩
    ·rcases ht with hh|hl
     ·grind
     cases hay:a.2.2
     ·grind
     grind
    have:=b3 _ hg;simp only[vs];omega
   have hr:f.best w (d+1) s=a:=by
    rw[Q.best,if_neg h0,←ha,hs];simp only[];rw[if_neg hc]
   grind
end
variable{inn:Nat→Nat→Bool}{ord:Nat→Nat}{q:List (Int×Int)}{size:Nat}
structure PF(n:Nat)(q:List (Int×Int))(inn:Nat→Nat→Bool)(size:Nat)(P:List Nat):Prop where
 srt:P.Pairwise (·<·)
 lt:∀i∈P,i<n
 len:P.length=size
 quo:∀k lh,q[k]? =some lh→lh.1≤((P.countP (fun i=>inn i k):Nat):Int)∧((P.countP (fun i=>inn i k):Nat):Int)≤lh.2
def Q.of(n:Nat)(q:List (Int×Int))(inn:Nat→Nat→Bool)(ord:Nat→Nat):Q:={N:=n,q:=q,inn:=fun i k=>inn (ord i) k}
def s0(size:Nat)(m:Nat):wj:={next:=0,left:=size,cs:=replicate m 0}
theorem RS(size m k):(s0 size m).cs.getD k 0=0:=by
 simp[s0,aC,nG];grind
theorem LY(T):(Q.of n q inn ord).Cmp (s0 size m) T↔PF n q (fun i k=>inn (ord i) k) size T:=by
 constructor
 ·intro h;refine⟨h.srt,h.lt,h.len,fun k lh hk=>?_⟩;have:=h.quo k lh hk;rw[RS] at this;simp only[Q.of] at this;omega
 intro h;refine⟨h.srt,fun i _=>bL _,h.lt,h.len,fun k lh hk=>.inr ?_⟩;have:=h.quo k lh hk;rw[RS];simp only[Q.of];omega
def I5(ord:Nat→Nat)(T:List Nat):List Nat:=(T.map ord).mergeSort
theorem qQf(l:List Nat)(hn:l.Nodup):l.mergeSort.Pairwise (·<·):=by
 have h1:=List.pairwise_mergeSort (le:=fun a b=>decide (a≤b)) (fun a b c h1 h2=>O6) (fun a b=>O6) l;have h2:l.mergeSort.Nodup:=(List.mergeSort_perm l _).nodup_iff.2 hn;refine h1.imp₂ (fun a b h3 h4=>?_) h2;grind
theorem PF.nodup{P}(h:PF n q inn size P):P.Nodup:=h.srt.imp O1
theorem qOu(hg:∀i j,i<n→j<n→ord i=ord j→i=j){T:List Nat}(hT:T.Nodup)(hl:∀i∈T,i<n):(T.map ord).Nodup:=by
 rw[eJ] at hT⊢;rw[pW];refine hT.imp_of_mem fun ha hb bE e=>bE (hg _ _ (hl _ ha) (hl _ hb) e)
theorem qEr{P:List Nat}(hp:(T.map ord).Perm P)(k:Nat):P.countP (fun i=>inn i k)=T.countP (fun i=>inn (ord i) k):=by
 rw[←hp.countP_eq,List.countP_map];rfl
theorem PF.panel(hg:∀i j,i<n→j<n→ord i=ord j→i=j)(hl:∀i,i<n→ord i<n){T:List Nat}(h:PF n q (fun i k=>inn (ord i) k) size T):PF n q inn size (I5 ord T)∧(T.map ord).Perm (I5 ord T):=by
 have hp:(T.map _).Perm (I5 ord T):=(List.mergeSort_perm _ _).symm;refine⟨⟨qQf _ (qOu hg h.nodup h.lt),fun i hi=>?_,?_,fun k lh hk=>?_⟩,hp⟩
 ·obtain⟨j,hj,rfl⟩:=bM.1 (hp.mem_iff.2 hi);exact hl j (h.lt j hj)
 ·rw[←hp.length_eq,aH];exact h.len
 rw[qEr hp];exact h.quo k lh hk
theorem PF.o6(hg:∀i j,i<n→j<n→ord i=ord j→i=j)(ha:∀i,i<n→∃j,j<n∧ord j=i){P:List Nat}(h:PF n q inn size P):∃T,PF n q (fun i k=>inn (ord i) k) size T∧(T.map ord).Perm P:=by
 obtain⟨T,hT⟩:∃T,T=(range n).filter (fun i=>decide (ord i∈P)):=⟨_,O⟩;have hs:T.Pairwise (·<·):=by rw[hT];exact nK.filter _
 have hm:∀i,i∈T↔i<n∧ord i∈P:=fun i=>O6
 have hh:T.Nodup:=by rw[eJ];exact hs.imp (fun h=>O1)
 have hp:=by
  refine(oG (qOu hg hh (fun i hi=>((hm i).1 hi).1)) h.nodup).2 fun x=>?_
  rw[bM];constructor
  ·grind
  intro hx;obtain⟨j,hj,rfl⟩:=ha x (h.lt x hx);exact⟨j,(hm j).2 ⟨hj,hx⟩,O⟩
 refine⟨T,⟨hs,fun i hi=>((hm i).1 hi).1,?_,fun k lh hk=>?_⟩,hp⟩
 ·rw[←h.len,←hp.length_eq,aH]
 rw[←qEr hp];exact h.quo k lh hk
theorem Zq{w a b}(h:a.Perm b):vs w a=vs w b:=by
 induction h with
 |nil=>rfl
 |cons x _ ih=>simp[vs,ih]
 |swap x y l=>simp[vs];omega
 |trans _ _ h1 h2=>omega
theorem RZ{w}:∀(T:List Nat),vs (fun i=>w (ord i)) T=vs w (T.map ord)
 |[]=>rfl
 |i::T=>by simp[vs,fG,RZ]
theorem jJr{y a b}(h:a.Perm b):ps y a=ps y b:=by
 induction h with
 |nil=>rfl
 |cons x _ ih=>simp[ps,ih]
 |swap x y l=>simp[ps];grind
 |trans _ _ h1 h2=>grind
theorem qWw(hh:∀i j,i<n→j<n→ord i=ord j→i=j)(ha:∀i,i<n→ord i<n)(hj:∀i,i<n→∃j,j<n∧ord j=i){m}(hm:q.length≤m){w t}
  (ht:(Q.of n q inn ord).tidy (s0 size m)=some t) (hg:((Q.of n q inn ord).best (fun i=>w (ord i)) n t).2.2=true):
  PF n q inn size (I5 ord ((Q.of n q inn ord).o6 (fun i=>w (ord i)) n t))∧(((Q.of n q inn ord).o6 (fun i=>w (ord i)) n t).map ord).Perm (I5 ord ((Q.of n q inn ord).o6 (fun i=>w (ord i)) n t))∧
  ∀P,PF n q inn size P→vs w P≤vs w (I5 ord ((Q.of n q inn ord).o6 (fun i=>w (ord i)) n t)):=by
 have hl:(Q.of n q inn ord).q.length≤(s0 size m).cs.length:=by simp only[Q.of,s0,lM];exact hm
 have⟨e1,e2,e3,e4,e5⟩:=wJ hl ht;have hn:(Q.of n q _ _).Ok t:=⟨e4,Ti hl (fun k _=>by rw[RS];omega) ht,by rw[e1];exact bL _⟩;have hb:=OO (fun i=>w (ord i)) n t hn (by rw[e1];exact Nv _);have hc:=(LY _).1 ((e5 _).1 (hb.cmp hg));have⟨h1,h2⟩:=hc.panel hh ha;refine⟨h1,h2,fun P hP=>?_⟩;have⟨T,hT,hq⟩:=hP.o6 hh hj;have h3:=hb.max hg T ((e5 T).2 ((LY T).2 hT));have h4:=hb.val hg;rw[←h4,RZ,RZ (ord:=ord),Zq hq,Zq h2] at h3;exact h3
theorem jNp:∀{P:List Nat},P.Pairwise (·<·)→(∀i∈P,i<n)→vs (fun i=>2^(n-1-i)) P<2^n:=by
 have key:∀(P:List _) (k:Nat),P.Pairwise (·<·)→(∀i∈P,k≤i)→(∀i∈P,i<n)→vs (fun i=>2^(n-1-i)) P+1≤2^(n-k):=by
  intro P;induction P with
  |nil=>simp only[vs];grind
  |cons i P ih=>
   intro k hs h1 h2;have⟨hq,h4⟩:=bQ.1 hs;have hi:=h2 i O4;have hk:=h1 i O4;have:=ih (i+1) h4 (hq) (fun j hj=>h2 j (by simp[hj]));have e:n-i=(n-1-i)+1:=O1;have e2:n-(i+1)=n-1-i:=O1;rw[e2] at this;have h3:2^(n-i)≤2^(n-k):=bG O2 O1;rw[e,dU] at h3;simp only[vs];omega
 intro P hs h;have:=key P 0 hs O1 h;grind
theorem jA9{y:Nat→Rat}{w a:Nat→Nat}{C:Nat}{least:Rat}(hC:0<C)(ha:∀i,i<n→(a i:Rat)=C*(y i-least))(hw:∀i,i<n→w i=a i*2^n+2^(n-1-i))
  {P P':List Nat} (hP:P.Pairwise (·<·)) (ua:∀i∈P,i<n) (hj:∀i∈P',i<n) (hl:P.length=P'.length) (hv:vs w P'≤vs w P):ps y P'≤ps y P:=by
 have split:∀P,(∀i∈P,i<n)→vs w P=vs a P*2^n+vs (fun i=>2^(n-1-i)) P:=by
  intro P;induction P with
  |nil=>simp[vs]
  |cons i P ih=>
   simp[vs];grind
 have price:∀P:List Nat,(∀i∈P,i<n)→(vs a P:Rat)=C*(ps y P-(P.length:Rat)*least):=by
  intro P;induction P with
  |nil=>
   simp only[vs,ps,mS];grind
  |cons i P ih=>
   simp only[vs,ps,cF];grind
 have ys:vs a P'≤vs a P:=by
  rw[split P ua,split P' hj] at hv;have h1:=jNp hP ua;refine bZ fun hg=>?_
  have h2:(vs a P+1)*2^n≤vs a P'*2^n:=aL _ O1;rw[eL] at h2;omega
 have h3:(vs a P':Rat)≤(vs a P):=by exact_mod_cast ys
 rw[price P ua,price P' hj,hl] at h3;have hh:(0:Rat)<C:=by exact_mod_cast hC
 refine bZ fun hg=>?_
 have:=pR hh (show 0<ps y P'-ps y P by grind);grind
variable{cl:Nat→Nat}{s':Sr}
noncomputable def vU(G:List Nat→Prop)(y:Nat→Rat):Rat:=
 open Classical in if h:∃P,G P∧∀P',G P'→ps y P'≤ps y P then ps y h.choose else 0
theorem Tj{G y P}(h1:G P)(h2:∀P',G P'→ps y P'≤ps y P):vU G y=ps y P:=by
 have h:∃P,G P∧∀P',G P'→ps y P'≤ps y P:=⟨P,h1,h2⟩;unfold vU;grind
structure Sr.Eqv(s s':Sr):Prop where
 nc:s.nc=s'.nc
 S:s.S=s'.S
 dec:s.dec=s'.dec
 p:s.p=s'.p
theorem Sr.Eqv.refl{s:Sr}:s.Eqv s:=⟨O,O,O,O⟩
theorem Sr.Eqv.trans{a b c:Sr}(h:a.Eqv b)(h':b.Eqv c):a.Eqv c:=⟨h.nc.trans h'.nc,h.S.trans h'.S,h.dec.trans h'.dec,h.p.trans h'.p⟩
theorem Sr.Eqv.symm{a b:Sr}(h:a.Eqv b):b.Eqv a:=⟨h.nc.symm,h.S.symm,h.dec.symm,h.p.symm⟩
theorem Sr.Eqv.next{s s':Sr}(h:s.Eqv s')(v:Rat)(y:Nat→Rat):(s.next v y).Eqv (s'.next v y):=by
 refine⟨h.nc,h.S,?_,?_⟩<;>simp[Sr.next,h.dec,h.p]
theorem Sr.Eqv.lv{s:Sr}(h:s.Eqv s'){F:(Nat→Nat)→Prop}{v:Rat}{y:Nat→Rat}(hl:s.Lv F v y):s'.Lv F v y:=by
 have⟨h1,h2,h3,h4⟩:=hl;have e1:s'.tot y=s.tot y:=by unfold Sr.tot;rw[h.nc,h.S,h.dec]
 have e2:s'.l5 y=s.l5 y:=by unfold Sr.l5;rw[h.nc,h.S,h.dec,h.p]
 have e3:∀κ,s'.price y κ=s.price y κ:=fun κ=>by unfold Sr.price;rw[h.nc]
 exact⟨fun c hc=>h1 c (by rw[h.nc];exact hc),O6,fun κ hκ=>O6,by
  grind⟩
def Sr.run(F:(Nat→Nat)→Prop):Sr→List (Rat×(Nat→Rat))→Option Rat→Sr→Prop
 |s,[],_,s'=>s.Eqv s'
 |s,(v,y)::ls,last,s'=>s.Lv F v y∧(∀u,last=some u→u≤v)∧Sr.run F (s.next v y) ls (some v) s'
theorem Sr.run.eqv{F:(Nat→Nat)→Prop}:∀{ls:List (Rat×(Nat→Rat))} {s t s' t':Sr} {last:Option Rat},s.run F ls last s'→s.Eqv t→s'.Eqv t'→t.run F ls last t'
 |[],_,_,_,_,_,h,h1,h2=>h1.symm.trans (h.trans h2)
 |(_,_)::_,_,_,_,_,_,h,h1,h2=>⟨h1.lv h.1,h.2.1,h.2.2.eqv (h1.next _ _) h2⟩
def ND:List (Rat×(Nat→Rat))→Option Rat→Option Rat
 |[],last=>last
 |(v,_)::ls,_=>ND ls (some v)
theorem qMi(v y):∀(ls:List (Rat×(Nat→Rat))) (last:Option Rat),ND (ls++[(v,y)]) last=some v
 |[],_=>rfl
 |(_,_)::ls,_=>qMi v y ls _
theorem Sr.run.snoc{F:(Nat→Nat)→Prop}{v:Rat}{y:Nat→Rat}:∀{ls:List (Rat×(Nat→Rat))} {s s':Sr} {last:Option Rat},s.run F ls last s'→s'.Lv F v y→(∀u,ND ls last=some u→u≤v)→s.run F (ls++[(v,y)]) last (s'.next v y)
 |[],_,_,_,h,hl,hu=>⟨h.symm.lv hl,hu,h.next _ _⟩
 |(_,_)::_,_,_,_,h,hl,hu=>⟨h.1,h.2.1,h.2.2.snoc hl hu⟩
structure K5(n:Nat)(cl:Nat→Nat)(s:Sr)(G:List Nat→Prop)(F:(Nat→Nat)→Prop):Prop where
 lt:∀i,i<n→cl i<s.nc
 S:∀c,c<s.nc→s.S c=qi cl n c
 g:∀P,G P→F (jX cl P)∧∀i∈P,i<n
 f:∀κ,F κ→∃P,G P∧∀c,c<s.nc→jX cl P c=κ c
section
variable{G:List Nat→Prop}{F:(Nat→Nat)→Prop}{s:Sr}
theorem K5.next(h:K5 n cl s G F)(v y):K5 n cl (s.next v y) G F:=⟨h.lt,h.S,h.g,h.f⟩
theorem Vy:∀{ls:List (Rat×(Nat→Rat))} {s:Sr} {last:Option Rat},s.run F ls last s'→∀c,s.dec c=true→s'.dec c=true∧s'.p c=s.p c
 |[],s,last,h,c,hd=>⟨by rw[←h.dec];exact hd,by rw[h.p]⟩
 |(v,y)::ls,s,last,h,c,hd=>by
  have:=Vy h.2.2 c (by simp[Sr.next,hd]);refine⟨this.1,this.2.trans ?_⟩;simp[Sr.next,hd]
theorem Y6:∀{ls:List (Rat×(Nat→Rat))} {s:Sr} {last:Option Rat},K5 n cl s G F→s.run F ls last s'→(∀c,c<s'.nc→s'.dec c=true)→
  prv n (fun i=>s'.p (cl i)) (vU G) (ls.map fun l=>(l.1,fun i=>l.2 (cl i))) (fun i=>s.dec (cl i)) last
 |[],s,last,hc,h,ha=>fun i hi=>by
  rw[h.dec];exact ha _ (by rw[←h.nc];exact hc.lt i hi)
 |(v,y)::ls,s,last,hc,h,ha=>by
  have⟨h1,h2,h3⟩:=h;have ih:=Y6 (hc.next v y) h3 ha;have hj:∀i,i<n→s.dec (cl i)=true→s'.p _=s.p (cl i):=fun i _ hd=>by
   have:=(Vy h3 (cl i) (by simp[Sr.next,hd])).2;rw[this];simp[Sr.next,hd]
  have x4:∀i,i<n→s.dec (cl i)=false→0<y (cl i)→s'.p _=v:=fun i _ hd hy=>by
   have:=(Vy h3 (cl i) (by simp[Sr.next,hy])).2;rw[this];simp[Sr.next,hd,hy]
  refine⟨fun i hi=>h1.nn _ (hc.lt i hi),?_,?_,h2,fun i hi=>?_,?_⟩
  ·have:=Tc cl (fun c=>if s.dec c then 0 else y c) _ hc.lt;rw[this];have e:=h1.one;rw[←e];refine wx fun c bv=>?_
   rw[hc.S c bv];grind
  ·have⟨κ,hκ,hp⟩:=h1.ex;have⟨P,hP,hh⟩:=hc.f κ hκ;have price:∀P,G P→ps _ P=s.price y _:=fun P hP=>by
    rw[L5 cl y _ (fun i hi=>hc.lt i ((hc.g P hP).2 i hi))];rfl
   have e1:s.price y (jX cl P)=s.price y κ:=by
    unfold Sr.price;exact wx fun c bv=>O6
   have e2:vU G (fun i=>y (cl i))=v+s.l5 y:=by
    rw[Tj hP,price P hP,e1,hp];intro P' hg;rw[price P' hg,price P hP,e1,hp];exact h1.le _ (hc.g P' hg).1
   have e3:wr n (fun i=>if s.dec (cl i) then y (cl i)*s'.p (cl i) else 0)=s.l5 y:=by
    rw[wx (g:=fun i=>(fun c=>if s.dec c then y c*s.p c else 0) (cl i)) (fun i hi=>by
     grind),Tc cl (fun c=>if s.dec c then y c*s.p c else 0) s.nc hc.lt]
    unfold Sr.l5;refine wx fun c bv=>?_
    rw[hc.S c bv];cases s.dec c<;>simp
   grind
  ·cases hd:s.dec (cl i)
   ·right;by_cases hy:0<y (cl i)
    ·grind
    have:=h1.nn _ (hc.lt i hi);grind
   grind
  exact ih
end
variable{S q t:Nat}
def Ed(S q p N:Nat):Bool:=decide (((N*S/60:Nat)-(p*q:Nat):Int).emod S<q)
def jLd:Bool:=(range 6).all fun b=>b==0||(range (b+1)).all fun t=>(range 6).all fun S=>S==0||(range (S+1)).all fun q=>(range S).all fun p=>
 (decide (((t*S:Nat)-(p*q*b:Nat):Int).emod (b*S:Nat)<(q*b:Nat)))==Ed S q p (t*(60/b))
theorem qWr:jLd=true:=by decide+kernel
def jHs:Bool:=(range 6).all fun S=>S==0||(range (S+1)).all fun q=>(range S).all fun p=>(range' 0 60).countP (fun N=>Ed S q p N)*S==60*q
theorem qUk:jHs=true:=by decide+kernel
def jTl:Bool:=(range 6).all fun S=>S==0||(range (S+1)).all fun q=>(range 60).all fun N=>(range S).countP (fun p=>Ed S q p N)==q
theorem jBl:jTl=true:=by decide+kernel
def jTm:Bool:=(range 6).all fun S=>S==0||(60/S)*S==60
theorem jBm:jTm=true:=by decide+kernel
theorem vJ{f}(h:(range n).all f=true){i}(hi:i<n):f i=true:=by
 grind
theorem LQ{x}(h:(x==0||b)=true)(hx:0<x):b=true:=by
 grind
theorem ZX{b}(hb:0<b)(hg:b≤5)(ht:t≤b)(hS:0<S)(ha:S≤5)(hq:q≤S)(hp:p<S):
  decide (((t*S:Nat)-(p*q*b:Nat):Int).emod (b*S:Nat)<(q*b:Nat))=Ed S q p (t*(60/b)):=by
 have h1:=LQ (vJ qWr O1) hb;exact eq_of_beq (vJ (vJ (LQ (vJ (vJ h1 (i:=t) O1) O1) hS) O1) hp)
theorem jKd{N}(hS:0<S)(ha:S≤5)(hq:q≤S)(hN:N<60):(range S).countP (fun p=>Ed S q p N)=q:=eq_of_beq (vJ (vJ (LQ (vJ jBl O1) hS) O1) hN)
theorem jB4{N N' x}(hS:0<S)(hg:S≤5)(h1:N≤x)(h2:x<N')(hj:N'≤60)(hh:∀a,0<a→a<S→¬(N<a*(60/S)∧a*(60/S)<N')):Ed S q p x=Ed S q p N:=by
 have hd:=(eq_of_beq (LQ (vJ jBm O1) hS));obtain⟨D,hD⟩:∃D,D=60/S:=⟨_,O⟩;rw[←hD] at hd hh;have key:x*S/60=N*S/60:=by
  have ys:N*S/60≤x*S/60:=Nat.div_le_div_right (aL _ h1);refine bZ fun xr=>?_
  have hl:N*S/60<x*S/60:=O1;obtain⟨a,ha⟩:∃a,a=x*S/60:=⟨_,O⟩;rw[←ha] at hl;have h3:a*60≤x*S:=by rw[ha];exact pG _ _
  have h4:N*S<a*60:=by
   have:=Nat.lt_mul_of_div_lt (dK hl (aS a)) (by omega:0<60);omega
  have h5:a<S:=by
   refine bZ fun h=>?_
   have:S*60≤a*60:=aL _ O1;have:x*S≤59*S:=aL _ O1;omega
  refine hh a O1 h5 ⟨?_,?_⟩
  ·refine mN (a:=S) ?_;rw[gO,hd];exact h4
  refine bW ?_ h2;refine XF (a:=a*D) (b:=x) (c:=S) ?_ hS;rw[gO,hd];exact h3
 unfold Ed;rw[key]
def GR(f:Nat→Bool):List Nat→Nat
 |x::y::cs=>(if f x then y-x else 0)+GR f (y::cs)
 |_=>0
theorem qQc{a b}(h1:a≤b)(h2:b≤c)(f):(range' a (c-a)).countP f=(range' a (b-a)).countP f+(range' b (c-b)).countP f:=by
 have:=rY (s:=a) (m:=b-a) (n:=c-b);grind
theorem qIp{f v}:∀(n a:Nat),(∀x,a≤x→x<a+n→f x=v)→(range' a n).countP f=if v then n else 0
 |0,a,_=>O4
 |n+1,a,h=>by
  rw[Rz,lS,qIp n _ (fun x h1 h2=>h x O1 O1),h a O1 O1];grind
theorem qLh(f):∀(cs:List Nat) (x last:Nat),(x::cs).Pairwise (·<·)→(x::cs).getLast? =some last→(∀pre a b qo,x::cs=pre++a::b::qo→∀z,a≤z→z<b→f z=f a)→GR f (x::cs)=(range' x (last-x)).countP f
 |[],x,last,_,hl,_=>by
  obtain rfl:x=last:=O6
  simp[GR]
 |y::cs,x,last,hs,hl,hc=>by
  have⟨h1,h2⟩:=bQ.1 hs;have ha:=h1 y O4;have rj:=by rw[List.getLast?_cons_cons] at hl;exact hl
  have ih:=qLh f cs y _ h2 rj (fun pre a b qo e=>hc (x::pre) a b _ (by rw[e];rfl));have hJ:y≤last:=by
   rcases aP.1 (sH rj) with h|h
   ·omega
   have:=(bQ.1 h2).1 last h;omega
  rw[qQc O1 hJ];simp[GR];rw[ih,qIp _ x (fun z h3 h4=>hc [] x y cs O z h3 O1)]
theorem QM(hS:0<S)(hg:S≤5)(hq:q≤S)(hp:p<S){cs}(hs:(0::cs).Pairwise (·<·))(hl:(0::cs).getLast? =some 60)(hm:0<q→q<S→∀a,0<a→a<S→a*(60/S)∈0::cs):
  GR (fun N=>Ed S q p N) (0::cs)*S=60*q:=by
 have ys:∀b,b∈0::cs→b≤60:=by
  intro b hb;have:∀(l:List Nat) (last:Nat),l.Pairwise (·<·)→l.getLast? =some last→∀b∈l,b≤last:=by
   intro l;induction l with
   |nil=>simp
   |cons x l ih=>
    intro last hs hl b hb;cases l with
    |nil=>
     grind
    |cons y l=>
     have⟨h1,h2⟩:=bQ.1 hs;grind
  exact this _ 60 hs hl b hb
 rw[qLh _ cs 0 60 hs hl ?_]
 ·exact(by exact eq_of_beq (vJ (vJ (LQ (vJ qUk O1) hS) O1) hp))
 intro pre a b qo e z h1 h2;by_cases hh:q=0
 ·subst hh;have:∀N,Ed S 0 p N=_:=fun N=>by
   unfold Ed;rw[fV];have h:0≤(((N*S/60:Nat)-(p*0:Nat):Int)).emod S:=iN _ O1;omega
  grind
 by_cases hj:q=S
 ·subst hj;have:∀N,Ed q q p N=true:=fun N=>by
   unfold Ed;rw[iW];exact iE _ O1
  grind
 refine jB4 hS hg h1 h2 (ys b O6) fun c vx u6 ⟨h3,h4⟩=>?_
 have ha:=hm O1 O1 c vx u6;rw[e] at ha hs;rw[fO] at hs;have⟨s1,s2,s3⟩:=hs;have⟨s4,s5⟩:=bQ.1 s2;have⟨s6,s7⟩:=bQ.1 s5;rcases fK.1 ha with h|h
 ·have:=s3 _ h a O4;omega
 rcases aP.1 h with h|h
 ·omega
 grind
def sg(b:Bool)(n:Nat):Int:=if b then-(n:Int) else n
def Ac(q:Rat):Bool:=decide (q.num<0)
theorem Fm(q):q.num=sg (Ac q) q.num.natAbs:=by
 unfold sg Ac;grind
theorem RT(b n):(sg b n).natAbs=n:=by unfold sg;omega
theorem jD3(a b m n):sg a m*sg b n=sg (a !=b) (m*n):=by
 unfold sg;grind
theorem Kg(b:Bool)(m n:Nat):sg b m*(n:Int)=sg b (m*n):=by
 unfold sg;grind
section
variable{d:Nat}
theorem jEi(hd:0<d):(mkRat (sg b n) d).num=sg b (n/Nat.gcd n d):=by
 rw[Rat.num_mkRat,if_neg O1,RT,rA];have hg:=oY n d;have hp:=nC n hd;generalize Nat.gcd n d=g at*
 obtain⟨k,rfl⟩:=hg;rw[Nat.mul_div_cancel_left k hp];have ha:(g:Int)≠0:=O1;unfold sg;cases b
 ·simp[fA,iX,dM];exact XN _ ha
 simp[if_true,dM];rw[←Int.mul_neg];exact XN _ ha
theorem jEk(hd:0<d):(mkRat (sg b n) d).den=d/Nat.gcd n d:=by
 rw[Rat.den_mkRat,if_neg O1,RT,rA]
theorem jP6(hd:0<d):Ac (mkRat (sg b n) d)=(b&&decide (n/Nat.gcd n d≠0)):=by
 unfold Ac;rw[jEi hd];unfold sg;grind
theorem jEl(hd:0<d):(mkRat (sg b n) d).num.natAbs=n/Nat.gcd n d:=by rw[jEi hd,RT]
end
section
variable{b:Rat}
theorem jEj:a*b=mkRat (sg (Ac a !=Ac b) (a.num.natAbs*b.num.natAbs)) (a.den*b.den):=by
 rw[←jD3,←Fm,←Fm,←Rat.mkRat_mul_mkRat,rD,rD]
theorem jO2{s}:sg s m+sg s n=sg s (m+n):=by
 unfold sg;grind
theorem qK0(h:Ac a=Ac b):a+b=mkRat (sg (Ac a) (a.num.natAbs*b.den+b.num.natAbs*a.den)) (a.den*b.den):=by
 rw[Rat.add_def',←jO2];congr 1;have h1:=Fm a;have h2:=Fm b;rw[←h] at h2;have e1:sg (Ac a) (a.num.natAbs*b.den)=a.num*b.den:=by rw[←Kg,←h1]
 have e2:sg (Ac a) (b.num.natAbs*a.den)=b.num*a.den:=by rw[←Kg,←h2]
 omega
theorem R8{x y}(h:x≠y):y= !x:=by cases x<;>cases y<;>simp at h⊢
theorem TF(h:Ac a≠Ac b)(ys:b.num.natAbs*a.den≤a.num.natAbs*b.den):a+b=mkRat (sg (Ac a) (a.num.natAbs*b.den-b.num.natAbs*a.den)) (a.den*b.den):=by
 rw[Rat.add_def'];have h1:=Fm a;have h2:=Fm b;have h3:=R8 h;rw[h3] at h2;have e1:a.num*b.den=sg (Ac a) (a.num.natAbs*b.den):=by rw[←Kg,←h1]
 have e2:b.num*a.den=sg (!Ac a) (b.num.natAbs*a.den):=by rw[←Kg,←h2]
 rw[e1,e2];unfold sg;grind
theorem qIc(h:Ac a≠Ac b)(ys:a.num.natAbs*b.den≤b.num.natAbs*a.den):a+b=mkRat (sg (Ac b) (b.num.natAbs*a.den-a.num.natAbs*b.den)) (a.den*b.den):=by
 rw[Rat.add_comm,dC a.den];exact TF (fun e=>h e.symm) ys
theorem qSa(h:b≠0):0<b.num.natAbs:=by
 have:b.num≠0:=fun e=>h (Rat.num_eq_zero.1 e)
 omega
theorem jEh(h:b≠0):a/b=mkRat (sg (Ac a !=Ac b) (a.num.natAbs*b.den)) (a.den*b.num.natAbs):=by
 have e:b⁻¹=mkRat (sg (Ac b) b.den) b.num.natAbs:=by
  rw[Rat.inv_def];have h1:=Fm b
  conv=>lhs;rw[h1]
  rw[←Rat.divInt_ofNat];unfold sg;cases Ac b
  ·simp
  simp only[if_true];rw[Rat.divInt_neg']
 rw[Rat.div_def,e]
 conv=>lhs;lhs;rw[←rD a,Fm]
 rw[Rat.mkRat_mul_mkRat,jD3]
theorem jK2:Ac (-a)=(!Ac a&&decide (a.num.natAbs≠0)):=by
 unfold Ac;rw[Rat.neg_num];grind
theorem YS:(-a).num.natAbs=a.num.natAbs:=O4
theorem qYb:(-a).den=a.den:=O
theorem RV:Ac a=true↔a<0:=by
 unfold Ac;rw[dV,Rat.lt_iff];simp
theorem RU:Ac a=false↔0≤a:=by
 unfold Ac;simp
def wH(a b:Rat):Int:=if a<b then-1 else if a=b then 0 else 1
def Bo(a:Rat):Int:=if a=0 then 0 else if a<0 then-1 else 1
theorem jHp(h:Ac a≠Ac b):wH a b=if Ac a then-1 else 1:=by
 unfold wH;cases ha:Ac a
 ·have hb:Ac b=true:=by have:=R8 h;rw[ha] at this;exact this
  have h1:=RU.1 ha;have h2:=RV.1 hb;grind
 have hb:Ac b=false:=by have:=R8 h;rw[ha] at this;exact this
 have h1:=RV.1 ha;have h2:=RU.1 hb;grind
theorem jHm(h:Ac a=Ac b):wH a b=if Ac a then(-(if a.num.natAbs*b.den<b.num.natAbs*a.den then-1 else if a.num.natAbs*b.den=b.num.natAbs*a.den then 0 else 1)) else(if a.num.natAbs*b.den<b.num.natAbs*a.den then-1 else if a.num.natAbs*b.den=b.num.natAbs*a.den then 0 else 1):=by
 have h1:=Fm a;have h2:=Fm b;rw[←h] at h2;have hl:=Rat.lt_iff a b;have ha:a=b↔a.num*b.den=b.num*a.den:=by
  constructor
  ·grind
  intro e;have h3:=(Rat.le_iff a b).2 O1;have h4:=(Rat.le_iff b a).2 O1;grind
 have e1:a.num*b.den=sg (Ac a) (a.num.natAbs*b.den):=by rw[←Kg,←h1]
 have e2:b.num*a.den=sg (Ac a) (b.num.natAbs*a.den):=by rw[←Kg,←h2]
 rw[e1,e2] at hl ha;unfold wH;generalize a.num.natAbs*b.den=x at*
 generalize b.num.natAbs*a.den=y at*
 unfold sg at hl ha;grind
end
def BQ(k:Nat)(q:Rat):Prop:=q.num.natAbs<2^k∧q.den<2^k
theorem BQ.mono{k k' q}(h:BQ k q)(hk:k≤k'):BQ k' q:=
 ⟨dK h.1 (bG O2 hk),dK h.2 (bG O2 hk)⟩
theorem BQ.mk{d}(hd:0<d)(h1:n<2^k)(h2:d<2^k):BQ k (mkRat (sg b n) d):=by
 refine⟨?_,?_⟩
 ·rw[jEl hd];exact bW (iH _ _) h1
 rw[jEk hd];exact bW (iH _ _) h2
theorem yD{a b}(h1:a<2^j)(h2:b<2^k):a*b<2^(j+k):=by
 rw[eK];exact oQ h1 h2
theorem PD{a b}(h1:a<2^k)(h2:b<2^k):a+b<2^(k+1):=by
 omega
theorem BQ.mul{b}(h1:BQ j a)(h2:BQ k b):BQ (j+k) (a*b):=by
 rw[jEj];exact BQ.mk (iP a.den_pos b.den_pos) (yD h1.1 h2.1) (yD h1.2 h2.2)
theorem BQ.neg(h:BQ k a):BQ k (-a):=by
 refine⟨?_,?_⟩
 ·rw[YS];exact h.1
 exact h.2
theorem BQ.add{b}(h1:BQ j a)(h2:BQ k b):BQ (j+k+1) (a+b):=by
 have e1:=yD h1.1 h2.2;have e2:=yD h2.1 h1.2;have e3:=yD h1.2 h2.2;rw[oT] at e2;have e4:=PD e1 e2;have hd:=iP a.den_pos b.den_pos;by_cases h:Ac a=Ac b
 ·rw[qK0 h];exact BQ.mk hd e4 O1
 by_cases ys:b.num.natAbs*a.den≤a.num.natAbs*b.den
 ·rw[TF h ys];exact BQ.mk hd O1 O1
 rw[qIc h O1];exact BQ.mk hd O1 O1
theorem BQ.sub{j k a b}(h1:BQ j a)(h2:BQ k b):BQ (j+k+1) (a-b):=by
 rw[nR];exact h1.add h2.neg
theorem BQ.div{b}(h1:BQ j a)(h2:BQ k b)(hb:b≠0):BQ (j+k) (a/b):=by
 rw[jEh hb];exact BQ.mk (iP a.den_pos (qSa hb)) (yD h1.1 h2.2) (yD h1.2 h2.1)
theorem BQ.zero(hk:1≤k):BQ k 0:=by
 have:2^1≤2^k:=bG O2 hk;refine⟨?_,?_⟩
 ·show 0<_;omega
 show 1<_;omega
theorem BQ.one(hk:1≤k):BQ k 1:=by
 have:2^1≤2^k:=bG O2 hk;refine⟨?_,?_⟩
 ·show 1<_;omega
 show 1<_;omega
end Go.Eng
