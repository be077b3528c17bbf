/- Merged texts of ours; conditions are the hypotheses of each law. -/
import Derived.Test.YtplkndjlfkkjlaaGreatDoorP5
namespace Go.Eng
open List (range range' replicate)
open Go.Proofs.Tryz
set_option maxHeartbeats 8000000
attribute [local irreducible] PV gx kq kn WP km Fit
variable{M:List Nat}{W':World}{b c db n:Nat}{l:List Int}
section
structure En where
 id:Int
 cls:Int
 fam:Int
 ws:Option Addr
 wc:Nat
 wl:List ByteArray
def eE(e:En):List Value:=[Iv e.id,Iv e.cls,Iv e.fam,Zs,.slice e.ws e.wl.length e.wc,Zs]
def QN(a b:En):Bool:=(!decide (a.fam=0))&&(decide (a.fam=b.fam)&&decide (a.cls=b.cls))
def Fx(l:List En)(x:Int):Int:=((l[x.toNat]?).map En.cls).getD 0
def C7(l:List En)(x y:Int):Bool:=match l[x.toNat]?,l[y.toNat]? with
 |some a,some b=>QN a b
 |_,_=>false
def fl(r:Int→Bool)(D R:List Int):List Int:=R.filter fun m=>!decide (m∈D)&&r m
def tl(r:Int→Int→Bool):List Int→List Int→List Int
 |[],_=>[]
 |n::Q,D=>if n∈D then tl r Q D else n::(fl (r n) (D++[n]) Q++tl r Q (D++[n]++fl (r n) (D++[n]) Q))
def Ew(l:List En)(ord:List Int):List Int:=tl (C7 l) (srt (Fx l) ord) []
theorem WO{r n Q D}(h:n∈D):tl r (n::Q) D=tl r Q D:=by rw[tl,if_pos h]
theorem WQ{r n Q D}(h:n∉D):tl r (n::Q) D=n::(fl (r n) (D++[n]) Q++tl r Q (D++[n]++fl (r n) (D++[n]) Q)):=by rw[tl,if_neg h]
theorem zOr(r D R m):fl r D (R++[m])=fl r D R++(if(!decide (m∈D)&&r m)=true then[m] else[]):=by
 unfold fl;grind
theorem zPf(r D):fl r D []=[]:=O
theorem zNt(r D A B):fl r D (A++B)=fl r D A++fl r D B:=mO ..
theorem zPg{r D R m}(h:m∈fl r D R):m∈R:=(iG.1 h).1
theorem Ld(h:CZ n l=true):l.length=n∧(∀x∈l,0≤x∧x<n)∧l.Nodup:=by
 unfold CZ at h;grind
def Bh(w:World)(b c:Nat)(z:List Bool):Prop:=∃o,w.heap[b]? =some o∧FB 4 1 c z.length (z.flatMap Ay) o
theorem Hp.of2{W qb cq cd Q z}(hq:Ba W qb cq Q)(hd:Bh W db cd z)(xr:qb≠db):
  Hp W [qb,db] W [qG Ay 4 1 (Ad db) cd z,qG eI 3 1 (Ad qb) cq Q]:=by
 have⟨o,ho,hr⟩:=hq;have⟨o2,ir,hJ⟩:=hd;have h1:Hp W [qb,db] W [qG eI 3 1 (Ad qb) cq Q]:=(Hp.start).k9 O4 ho hr (fun i p hi=>O6);refine h1.k9 (b:=db) O4 ir hJ (fun i p hi=>?_);cases i with
 |zero=>
  simp at hi;subst hi;intro e;have:(some qb)=_:=e;grind
 |succ i=>grind
theorem Ba.j1{W}(h:Ba W b c l)(hk:ax M W W')(hb:b∉M):Ba W' b c l:=mDp
theorem Bh.j1{W l}(h:Bh W b c l)(hk:ax M W W')(hb:b∉M):Bh W' b c l:=mDp
attribute [local irreducible] srt tl fl AQ
theorem zR7(a b w):Rk 267 [.agg (eE a).toArray,.agg (eE b).toArray] w (.bool (QN a b)):=by
 refine tW func267 ntmps267 fun hp=>?_;refine GM fun w _ b hp=>?_
 exact qM O O ⟨_,O,by simp[Bool.and_assoc];rfl,hp.Z⟩
theorem zR8(l s c lb)(x:Nat)(y:Nat)(w)(hb:w.cell? ⟨lb,0,none⟩=some (.slice s l.length c))(hs:ig w 6 eE s l)(hx:x<l.length)(hy:y<l.length):
  Rk 266 [Iv (x:Int),Iv (y:Int),.pointer (Ad lb)] w (Iv (D5 l[x].cls l[y].cls)):=by
 have⟨b0,o0,hs0,yk⟩:=hs.base O1;have h1:=yk x _ (aA hx) 1 _ O;have h2:=yk y _ (aA hy) 1 _ O;refine tW func266 ntmps266 fun hp=>?_;exact mDc
theorem zPu(s cc f w):Rt 367 [.slice s 0 cc,Iv 0,Iv 0,f] w (fun _ w'=>ax [] w w'):=by
 refine tW func367 ntmps367 fun hp=>?_;refine tM 1 ?_;refine qA (qQ ([8,9]++List.range' 12 41) (fun _ F=>F.put 8 (.int _ 1)) (fun _ w'=>w'=w) (fun _=>0) () (qB (ka.eq .refl) O) O ?_);rintro u ⟨⟩ _ rfl;refine qA ?_;refine qH O O1 (fun _=>qA ?_);exact xK O ⟨_,O,.refl⟩
theorem zPx(s cc lb w):Rt 265 [.slice s 0 cc,.func (.func 266) #[] #[.pointer (Ad lb)]] w (fun _ w'=>ax [] w w'):=by
 have ha:∀w,Rt 332 [.slice s 0 cc,Iv 0,.func (.func 266) #[] #[.pointer (Ad lb)]] w (fun _ w'=>ax [] w w'):=by
  intro w;refine km.j6 func332 O ntmps332 O ?_;refine qA ?_;refine qQ ([7,8]++List.range' 11 12) (fun(_:Unit) F=>(F.put 7 (Iv 0)).put 8 (Iv 20)) (fun _ w'=>w'=w) (fun _=>0) () (qB (qB (ka.eq .refl) O) O) O ?_;rintro u ⟨⟩ _ rfl;refine qA ?_;refine qH O (fun h=>absurd h O1) (fun _=>?_);refine tL (zPu s cc _ _) ?_;rintro v w1 hk;refine qA ?_;refine qQ ([6,7,8,9]++List.range' 28 35) (fun(_:Unit) F=>F.put 6 (Iv 20)) (fun _ w'=>w'=w1) (fun _=>0) () (qB (ka.eq .refl) O) O ?_;rintro u2 ⟨⟩ _ rfl;refine qA ?_;refine qH O (fun h=>absurd h O1) (fun _=>?_);refine qA ?_;exact xK O ⟨_,O,hk⟩
 refine km.j6 func265 O ntmps265 O (tL (ha _) ?_);rintro v w1 hk;refine qA ?_;exact xK O ⟨_,O,hk⟩
theorem zR9(l ord s so c co lb ob M w)
  (xe:w.cell? ⟨lb,0,none⟩=some (.slice s l.length c)) (vv:w.cell? ⟨ob,0,none⟩=some (.slice so ord.length co)) (hs:ig w 6 eE s l) (hD:ig w 1 eI so ord) (hO:CZ l.length ord=true) (h20:l.length<20) (xp:so=none→ord=[])
  (yk:lb∉M) (b8:l≠[]→∀b o,s=some ⟨b,o,none⟩→b∉M) (av:∀k∈M,k<w.heap.size):
  It prog 264 [.pointer (Ad ob),.pointer (Ad lb)] (fun x:Int=>Iv x) (Ew l ord) M w:=by
 intro ll J rh an hY hJ ap;have⟨yg,xo,yu⟩:=Ld hO;have xw:=HQ (Fx l) ord;have xy:=RG (Fx l) ord;have x2:Ew l ord=tl _ _ []:=O;have yz:lb<_:=iL w _ xe;have az:l≠[]→∀b o,s=some ⟨b,o,_⟩→b<_:=fun h b o e=>hs.lt (fun _=>O) O2 h e
 have yn:lb≠ll:=an _ _ xe;have bz:l≠[]→∀b o,s=some ⟨b,o,none⟩→b≠ll:=by
  intro h b o e;obtain⟨x,l',rfl⟩:∃x l',l=x::l':=by cases l with|nil=>grind|cons x l'=>simp
  have⟨b',o',e',b2⟩:=hs 0 x O;rw[e] at e';cases e';exact an _ _ (b2 0 _ O)
 refine tW func264 ntmps264 fun hp=>?_;refine tL (Qf _ so co _ hD O1 xp) ?_;rintro _ w1 ⟨sq,cq,rfl,ih,hpo⟩;have hp:=hp.C hpo;clear hpo;by_cases x0:ord=[]
 ·subst x0;have zg:=aX yg.symm;subst zg;refine tL (zPx sq cq lb _) ?_;rintro _ w2 hk;have hp:=hp.V hk;refine qA ?_;refine tF (yE Ay _ hp O O O (m:=0) O O O O O1 O) fun w3 db⟨xu,hp⟩=>qA (qQ ([6,7,9]++List.range' 20 50) (fun _ F=>F.put 20 (.int _ 0)) (fun _ w'=>w'=w3) (fun _=>0) () (qB (ka.eq .refl) O) O ?_);rintro u ⟨⟩ _ rfl;refine qA ?_;refine qH O (fun h=>absurd h O4) (fun _=>qA ?_);refine xK O ⟨_,O,?_⟩;have e:Ew [] []=[]:=by
   rw[x2];unfold srt tl;rfl
  rw[e];exact hJ _ _ _ ap (ax.o8 hp.Z O1 O4)
 have⟨qb,ow⟩:=ih.addr x0;subst ow;have x5:cq≤maxLen:=by
  rcases ih with⟨h,_⟩|⟨g,cap,h,_,h2⟩
  ·cases h
  cases h;exact h2
 have za:w.heap.size≤qb:=by
  rcases hp.own 0 _ rfl qb rfl with h|h
  ·exact h
  cases h
 have yv:l≠[]:=by rintro rfl;exact x0 (aX yg)
 have hC:My 266 #[.pointer (Ad lb)] (Fx l) ord [qb] w1:=by
  intro W hk x hx y hy;have⟨xr,ht⟩:=xo x hx;have⟨gS,hL⟩:=xo y hy;obtain⟨a,rfl⟩:∃a:Nat,x=a:=⟨x.toNat,O1⟩;obtain⟨b,rfl⟩:∃b:Nat,y=b:=⟨y.toNat,O1⟩;have ha:a<l.length:=O1;have hb:b<l.length:=O1;have zw:ax [qb] w W:=(show ax [qb] w w1 from⟨hp.Z.os,hp.Z.tape,hp.Z.output,hp.Z.size,fun k hk _=>hp.Z.block k hk O4⟩).trans hk (fun k hk=>.inr hk);have h:=zR8 l s c lb a b W (zw.cell xe O6) (hs.j1 zw (fun h bb o e=>O6)) ha hb;have e1:Fx l (a:Int)=l[a].cls:=by unfold Fx;rw[dW,aA ha];rfl
  have e2:Fx l (b:Int)=l[b].cls:=by unfold Fx;rw[dW,aA hb];rfl
  rw[e1,e2];exact h
 refine tL (XA _ _ qb cq 266 (fun _ _=>O3) _ _ (Hp.o7 hp 0 O) ih.cap x5 hC O1) ?_;rintro _ w2 ⟨zw,hH⟩;have hp:=Hp.y5 hp 0 O zw hH;generalize hQ:srt _ _=Q at xw xy x2 hp;have x8:=fun x hx=>xo x (xw.mem_iff.1 hx)
 have yc:=xw.nodup_iff.2 yu;rw[←xy];refine qA ?_;refine tF (yE Ay _ hp O O O O O O O O1 O) fun w3 db⟨xu,hp⟩=>?_;rw[←Re] at xu hp;have hp:Hp w [] w3 [_,_]:=hp;have zb:w.heap.size≤db:=by
  rcases hp.own 0 _ rfl db rfl with h|h
  ·exact h
  cases h
 have xj:qb≠db:=by
  rintro rfl;exact hp.dis 0 1 _ _ O O O2 qb O O
 have x4:kg _ cq Q:=.inr ⟨qb,cq,O,by rw[xy];exact ih.cap,x5⟩;have hz:∀D,kg _ _ (AQ _ D):=fun D=>.inr ⟨db,l.length,by rw[Fy],by rw[Fy];exact aS _,by unfold maxLen;omega⟩
 have yp:qb∉ll::M:=by
  intro hm;rcases aP.1 hm with h|h
  ·omega
  have:=av _ h;omega
 have yq:db∉ll::M:=by
  intro hm;rcases aP.1 hm with h|h
  ·omega
  have:=av _ h;omega
 have yt:lb∉ll::M:=by simp[yn,yk]
 have ys:l≠[]→∀b o,s=some ⟨b,o,none⟩→b∉ll::M:=fun h b o e=>O6
 have h7:lb∉[qb,db]:=by simp;omega
 have x3:l≠[]→∀b o,s=_→b∉[qb,db]:=fun h b o e=>by have:=az h b o e;simp;omega
 have hM:∀k∈[qb,db],w.heap.size≤k:=by simp;omega
 obtain⟨FX,xc⟩:∃FX:List _→World→Prop,FX=fun pre W=>w.heap.size≤W.heap.size∧Ba W qb cq Q∧Bh W db l.length (AQ l.length pre)∧W.cell? ⟨lb,0,none⟩=some (.slice s l.length c)∧ig W 6 eE s l∧J pre W:=⟨_,O⟩
 have yh:FX [] w3:=by
  rw[xc];exact⟨hp.Z.size,hp.N 1 _ O qb O,hp.N 0 _ O db O,hp.j3 xe,hs.i7 hp.Z,hJ _ _ _ ap (ax.o8 hp.Z (aS _) O4)⟩
 have yl:∀{pre:List _} {x:Int} {W W2 W3:World},FX pre W→Hp W [qb,db] W2 [qG Ay 4 1 (Ad db) l.length (AQ l.length (pre++[x])),qG eI 3 1 (Ad qb) cq Q]→J (pre++[x]) W3→ax (ll::M) W2 W3→FX (pre++[x]) W3:=by
  intro pre x W W2 W3 h h2 h3 hk;rw[xc] at h⊢;have⟨h4,_,_,h5,h6,_⟩:=h;exact⟨bF h4 (bF h2.keeps.size hk.size),Ba.j1 (h2.has 1 _ O qb O) hk yp,Bh.j1 (h2.has 0 _ O db O) hk yq,hk.cell (h2.keeps.cell h5 h7) yt,(h6.j1 h2.keeps x3).j1 hk ys,h3⟩
 have xt:∀{pre:List _} {W W2:World} {L:List _},FX pre W→Hp W [qb,db] W2 L→J pre W2:=by
  intro pre W W2 L h h2;rw[xc] at h;exact hJ _ _ _ h.2.2.2.2.2 (ax.o8 h2.keeps h.1 hM)
 have xz:∀{pre:List _} {W:World},FX pre W→Hp W [qb,db] W [qG Ay 4 1 (Ad db) l.length (AQ l.length pre),qG eI 3 1 (Ad qb) cq Q]:=by
  intro pre W h;rw[xc] at h;exact Hp.of2 h.2.1 h.2.2.1 xj
 have y2:∀{pre:List _} {W W2:World},FX pre W→Hp W [qb,db] W2 [qG Ay 4 1 (Ad db) l.length (AQ l.length pre),qG eI 3 1 (Ad qb) cq Q]→FX pre W2:=by
  intro pre W W2 h h2;have hj:=xt h h2;rw[xc] at h⊢;have⟨h4,_,_,h5,h6,_⟩:=h;exact⟨bF h4 h2.keeps.size,h2.has 1 _ O qb O,h2.has 0 _ O db O,h2.keeps.cell h5 h7,h6.j1 h2.keeps x3,hj⟩
 have yy:∀{pre:List _} {W:World},FX pre W→W.cell? ⟨lb,0,none⟩=some (.slice s l.length c):=by
  intro pre W h;rw[xc] at h;exact h.2.2.2.1
 have yi:∀{pre:List _} {W:World},FX pre W→ig W 6 eE s l:=by
  intro pre W h;rw[xc] at h;exact h.2.2.2.2.1
 have yr:∀{pre:List _} {W:World},FX pre W→J pre W:=by
  intro pre W h;rw[xc] at h;exact h.2.2.2.2.2
 clear xc;refine qA (kT ([6,7,9]++List.range' 20 50) (fun(i:Nat) _pre F=>F.put 20 (.int _ i)) (fun i pre w'=>i≤Q.length∧pre++tl (C7 l) (Q.drop i) pre=Ew l _∧FX pre w') (fun i _=>Q.length-i) 0 [] (qB (ka.eq .refl) O) ⟨O1,by rw[x2];simp,yh⟩ ?_);clear yh xu;(repeat clear hp);rintro u i pre w4 ⟨hi,ew,hF⟩;have hp:=xz hF;refine tI (fun h=>?_) fun h=>?_
 ·have hl:i<Q.length:=O1;have p2:=aA hl;have hZ:=aT hl;have xq:=by
   have:=yc.sublist (List.drop_sublist i Q);rw[hZ] at this;exact(pL.1 this).1
  have⟨ux,y0⟩:=x8 _ (bX hl);generalize Q[i]=nn at p2 hZ xq ux y0;obtain⟨k,rfl⟩:∃k:Nat,nn=k:=⟨nn.toNat,O1⟩;have hS:k<l.length:=O1;have xf:k<(AQ l.length pre).length:=by rw[Fy];exact hS
  have hK:=zS hp 1 O x4 (fun _=>O) p2 0 _ O;have hK:w4.cell? ⟨qb,0+i*1,_⟩=_:=hK;have re:=zS hp 0 O (hz _) (fun _=>O) (Hw _ hS) 0 _ O;have re:w4.cell? ⟨db,0+k*1,_⟩=_:=re;rw[hZ] at ew;refine tI (fun h2=>?_) fun h2=>?_
  ·rw[WO h2] at ew;refine Ck ?_;exact⟨_,_,qB O5 O,⟨O1,ew,hF⟩,O1⟩
  rw[WQ h2] at ew;refine qA (tO (zL _ _ k _ hp 0 O (hz _) xf O O (fun _=>O) O O (qD O)) fun w5 hp=>?_);rw[Le _ hS] at hp;refine qA ?_;apply Lf;rfl;rfl;exact hY _ k _ (xt hF hp) ⟨_,ew.symm⟩;rintro _ w6 ⟨rfl,ya,vy⟩;refine⟨_,O,?_⟩;have hF:=yl hF hp ya vy;refine qA (qN O ?_);clear hp;(repeat clear hp);obtain⟨R,hR⟩:∃R,R=Q.drop (i+1):=⟨_,O⟩;have xk:R.length=Q.length-(i+1):=by rw[hR,fR]
  have yj:R.Nodup:=by rw[hR];exact yc.sublist (List.drop_sublist _ _)
  have yx:∀x∈R,_∧_:=fun x hx=>x8 x (List.mem_of_mem_drop (hR▸hx))
  have x7:=x4.cap;rw[←hR] at ew xq hZ;obtain⟨ad,xn⟩:∃ad,ad=(some ⟨qb,if cq=i+1 then 0 else 0+(i+1)*1,none⟩:Option Addr):=⟨_,O⟩;have bz:Value.slice (some ⟨qb,if cq=i+1 then 0 else 0+(i+1)*1,none⟩) (Q.length-(i+1)) (cq-(i+1))= .slice ad R.length (cq-(i+1)):=by rw[xn,xk]
  have xg:∀{pre:List _} {W:World},FX pre W→ig W 1 eI ad R:=by
   intro pre W h;have:=ig.aA7 (qZ (xz h) 1 O x4 (fun _=>O)) x7 (i+1);rw[xn,hR];exact this
  obtain⟨DD,x6⟩:∃DD,DD=pre++[(k:Int)]:=⟨_,O⟩;have ew:DD++(fl (C7 l k) DD R++tl (C7 l) R (DD++fl (C7 l (k:Int)) DD R))=Ew l ord:=by
   rw[←ew,x6];simp
  rw[←x6] at hF;have⟨bE,oE,xi,_⟩:=(yi hF).base O1;refine tM (i+1) (ke (H0 (zK O).1 (zK (t:=22) O).2 O O O1 x7) bz ?_);refine qA (qQ ([9]++List.range' 41 28) (fun(j:Nat) F=>F.put 41 (.int _ j)) (fun j w'=>j≤R.length∧FX (DD++fl (C7 l k) DD (R.take j)) w') (fun j=>R.length-j) 0 (qB (ka.eq .refl) O) ⟨O1,by rw[List.take_zero,zPf,bO];exact hF⟩ ?_);clear hF ya vy;rintro u2 j w7 ⟨hj,hF⟩;have hp:=xz hF;refine tI (fun h3=>?_) fun h3=>?_
  ·have hV:j<R.length:=O1;have⟨b1,o1,hq,vx⟩:=(xg hF).base O1;have eg:=vx j _ (aA hV) 0 _ O;have vu:=aF hV;have hE:R=R.take j++R[j]::R.drop (j+1):=by
    rw[←aT hV,dP]
   have xh:R[j]∉R.take j:=by
    have h9:(R.take j++R.drop j).Nodup:=by rw[dP];exact yj
    rw[pX] at h9;intro hm;exact h9.2.2 _ hm _ O6 O
   have⟨oX,xd⟩:=yx _ (bX hV);generalize R[j]=mm at eg vu hE xh oX xd;obtain⟨q,rfl⟩:∃q:Nat,mm=q:=⟨mm.toNat,O1⟩;have tt:q<l.length:=O1;have eg:w7.cell? ⟨b1,o1+j*1,_⟩=_:=eg;have hh:=zOr (C7 l k) DD (R.take j) q;rw[←vu] at hh;obtain⟨T,hT⟩:∃T,T=fl (C7 l k) DD (R.take j):=⟨_,O⟩;have yf:(q:Int)∈DD++T↔(q:Int)∈DD:=by
    rw[fK];constructor
    ·rintro(h|h)
     ·exact h
     rw[hT] at h;exact absurd (zPg h) xh
    exact .inl
   rw[←hT] at hF hp hh;have hX:q<(AQ l.length (DD++T)).length:=by rw[Fy];exact tt
   have hP:=Hw (DD++T) tt;have yd:=yy hF;have yo:=yi hF;have⟨ba,oa,ye,xl⟩:=yo.base O1;rw[xi] at ye;cases ye;have xv:=x3 yv bE oE xi;have hn:=xl k _ (aA hS);have hg:=xl q _ (aA tt);have x1:C7 l (k:Int) (q:Int)=QN l[k] l[q]:=by
    unfold C7;rw[dW,dW,aA hS,aA tt]
   generalize l[k]=en at hn x1;generalize l[q]=em at hg x1;refine qA ?_;refine jW jG O3 (fun w'=>Hp w7 _ w' _) hp.U ?_;have hp:=hp.U;refine qX ?_;by_cases xx:(q:Int)∈DD
   ·refine kp O (fun w hp=>qS O O (zS hp 0 O (hz _) (fun _=>O) hP 0 _ O)) (qV (b:=true) (aD (yf.2 xx))) (xA ?_);apply ER;rfl;rfl;rfl;rfl;exact hp;exact mEq
   have yw:(q:Int)∉DD++T:=fun h=>xx (yf.1 h)
   refine kp O (fun w hp=>qS O O (zS hp 0 O (hz _) (fun _=>O) hP 0 _ O)) (qV (b:=false) (aB yw)) (tP (fun w hp=>qP) ?_);apply yG;rfl;rfl;rfl;intro w hp;exact qS O O (hp.H yd h7);exact fS O;apply yG;rfl;rfl;rfl;intro w hp;exact qP;exact fI O;apply yG;rfl;rfl;rfl;intro w hp;exact zA O O O xi hS;exact fP O;apply yG;rfl;rfl;rfl;intro w hp;exact qL O O O O (fun j v hv=>hp.H (hn j v hv) xv);exact KY O;apply yG;rfl;rfl;rfl;intro w hp;exact qS O O (hp.H yd h7);exact fS O;apply yG;rfl;rfl;rfl;intro w hp;exact qP;exact fI O;apply yG;rfl;rfl;rfl;intro w hp;exact zA O O O xi tt;exact fP O;apply yG;rfl;rfl;rfl;intro w hp;exact qL O O O O (fun j v hv=>hp.H (hg j v hv) xv);exact KY O;refine tG (zR7 en em _) fun w8 hp=>?_;rw[←x1];by_cases hU:C7 l k q=true
   ·rw[hU];rw[aB xx,hU] at hh;have hh:_=T++[_]:=hh;refine xA (qU ?_);refine qN O ?_;have xb:∃qo,Ew l ord=(DD++T)++(q:Int)::qo:=by
     have e1:fl (C7 l (k:Int)) DD R=(T++[(q:Int)])++fl (C7 l (k:Int)) DD (R.drop (j+1)):=by
      rw[←hh,←zNt,dP]
     refine⟨fl (C7 l (k:Int)) DD (R.drop (j+1))++tl (C7 l) R (DD++fl (C7 l (k:Int)) DD R),?_⟩;rw[←ew]
     conv=>lhs;rw[e1]
     simp[e1]
    refine qA (tO (zL Ay _ q true hp 0 O (hz _) hX O O (fun _=>O) O O (qD O)) fun w9 hp=>?_);rw[Le _ tt] at hp;refine qA ?_;apply Lf;rfl;rfl;exact hY _ q _ (xt hF hp) xb;rintro _ uy ⟨rfl,zc,h8⟩;refine⟨_,O,?_⟩;refine AL ?_;refine tN (j+1) ?_;exact mCm
   have hU:=by simpa using hU
   rw[hU];exact mEq
  refine Ck ?_;refine⟨_,_,qB O5 O,⟨O1,?_,hF⟩,O1⟩;grind
 have e:Q.drop i=[]:=mG O1;rw[e] at ew;have ew:pre=Ew l ord:=by
  rw[←ew];unfold tl;simp
 subst ew;refine qA ?_;exact xK O ⟨_,O,yr hF⟩
end
section
def eP(p:ByteArray×Int):List Value:=[.string p.1,Iv p.2]
def dB(d:DW)(kind:Int)(s:Option Addr)(m c:Nat):List Value:=[.string d.nm,Iv kind,Iv d.rd,Iv d.pr,Iv d.po,Iv d.pi,.slice d.sT d.mT d.cT,.bool d.ro,.slice s m c,Iv d.cl,Iv d.sz,.slice d.sQ d.Q.length d.cQ,.slice d.sB d.mB d.cB]
def Bj:ByteArray:=⟨#[]⟩
def AW(ps:List (ByteArray×Int))(a:ByteArray):Option Int:=if a=Bj then none else(ps.find? fun p=>decide (p.1=a)).map (·.2)
def mF(f:ByteArray→Option Int)(a:ByteArray):Option Value:=(f a).map fun x=>Iv x
theorem zNc(ps p a):AW (ps++[p]) a=if(AW ps p.1).isSome=false∧p.1≠Bj∧a=p.1 then some p.2 else AW ps a:=by
 unfold AW;by_cases ha:a=Bj
 ·grind
 rw[if_neg ha,if_neg ha,List.find?_append];by_cases hp:a=p.1
 ·subst hp;cases h:ps.find? _ with
  |none=>simp[ha]
  |some q=>simp
 grind
theorem zOg:mF (AW [])=fun _=>none:=by
 unfold mF AW;simp
theorem K8(f a):(mF f a).getD (Iv 0)=Iv ((f a).getD 0):=by
 unfold mF;simp
theorem WM(f a):(mF f a).isSome=(f a).isSome:=by
 unfold mF;simp
theorem BF:prog.underlying 192=some (.map 9 3)∧prog.underlying 9=some nk.kd∧kx prog 3 (Iv 0):=⟨underlying192,underlying9,qJ O⟩
attribute [local irreducible] srt tl fl AQ AW CZ
theorem zRc(s so m c mo co w):Rt 185 [.slice s m c,.slice so mo co] w (fun v w'=>∃lb ob,v= .func (.func 264) #[] #[.pointer (Ad ob),.pointer (Ad lb)]∧Hp w [] w' [bu ob 1 (qE [.slice so mo co]) 22,bu lb 1 (qE [.slice s m c]) 29]):=by
 refine tW func185 ntmps185 fun hp=>?_;refine qR ?_;refine tQ fun w1 lb hp=>?_;refine tQ fun w2 ob hp=>?_;refine tV ?_;exact⟨_,O,lb,ob,O,hp⟩
theorem zRd(nm kind ps s c w)(hs:ig w 2 eP s ps)(hl:ps.length≤9223372036854775806):
  Rt 184 [.agg (dB nm kind s ps.length c).toArray] w (fun v w'=>∃mb,v= .map (some mb)∧Hp w [] w' [yA nk mb (mF (AW ps))]):=by
 refine tW func184 ntmps184 fun hp=>?_;refine qR ?_;refine tQ fun w1 bx hp=>?_;refine qA (tF (yS nk hp) fun w2 mb hp=>?_);rw[←zOg] at hp;refine qA (qQ ([5,6,7]++List.range' 12 24) (fun(i:Nat) F=>F.put 12 (.int _ i)) (fun i w'=>i≤ps.length∧Hp w [] w' [yA _ mb (mF (AW (ps.take i)))]) (fun i=>ps.length-i) 0 (qB (ka.eq .refl) O) ⟨O1,hp.pick 0 O⟩ ?_);(repeat clear hp);rintro u i w3 ⟨hi,hp⟩;refine tI (fun h=>?_) fun h=>?_
 ·have hg:i<ps.length:=O1;have⟨b0,o0,hs0,yk⟩:=hs.base O1;have yl:=yk i _ (aA hg);have vu:=aF hg;generalize ps[i]=p at yl vu;have⟨pn,pv⟩:=p;have hh:=zNc (ps.take i) (pn,pv)
  rw[←vu] at hh;generalize ps.take i=T at*
  refine qA (tR (qL O O O O (fun j v hv=>hp.j3 (yl j v hv))) ?_);refine tQ fun w4 pb hp=>?_;refine tS fun w5 hp=>?_;have hp:=hp.I 0 [.string pn,.int _ pv] O O;have hp:Hp w [] w5 [bu pb 2 _ 130,_]:=hp;refine qA (tR (OX hp 1 O O O BF.1 BF.2.1 BF.2.2) ?_);rw[WM,K8];refine qA (xD O (fun h2=>?_) (fun h2=>?_))
  ·have u6:(AW T pn).isSome=false∧pn≠Bj:=by
    simp at h2;exact⟨O6,h2.2⟩
   refine qA (tO (J4 (v:=.int _ pv) hp 1 O O O O BF.1 BF.2.1) fun w6 hp=>?_);have hj:(fun x=>if x=pn then some (Iv pv) else mF (AW T) x)=mF (AW (ps.take (i+1))):=by
    funext a;unfold mF;rw[hh a];by_cases ha:a=pn
    ·grind
    rw[if_neg ha,if_neg (fun h=>ha h.2.2)]
   rw[hj] at hp;exact Mp
  have hj:mF (AW T)=mF (AW (ps.take (i+1))):=by
   funext a;unfold mF;rw[hh a,if_neg];rintro⟨h3,h4,_⟩;simp at h2;exact h4 (h2 (by simpa using h3))
  rw[hj] at hp;exact Mp
 have e:ps.take i=ps:=bJ O1;rw[e] at hp;refine tV ?_;exact⟨_,O,mb,O,hp⟩
end
variable{b2 j:Nat}{f:ByteArray→Bool}{w0:World}{ws:List ByteArray}
section
structure Jy(w:World)(s:Option Addr)(l:List En):Prop where
 at_:ig w 6 eE s l
 ws:∀e∈l,ig w 1 eS e.ws e.wl
 len:∀e∈l,e.wl.length≤1000000
theorem Jy.i7{w w' s l}(h:Jy w s l)(hk:ax [] w w'):Jy w' s l:=⟨h.at_.i7 hk,fun e he=>(h.ws e he).i7 hk,h.len⟩
abbrev AS:=(ByteArray→Option Int)×List ByteArray
def Hy(l:List En)(n:Int):List ByteArray:=((l[n.toNat]?).map En.wl).getD []
def Jv(f:ByteArray→Option Int)(w:ByteArray):Bool:=decide (0<(f w).getD 0)
def DL(l:List En)(S:AS)(n:Int):AS:=match (Hy l n).find? (Jv S.1) with
 |none=>S
 |some w=>(fun a=>if a=w then some ((S.1 w).getD 0-1) else S.1 a,S.2.set n.toNat w)
def F5(l:List En)(ps:List (ByteArray×Int)):AS:=(AW ps,replicate l.length Bj)
def Cm(l:List En)(ps:List (ByteArray×Int))(ord:List Int):List ByteArray:=((Ew l ord).foldl (DL l) (F5 l ps)).2
theorem zMi(l S n):(DL l S n).2.length=S.2.length:=by
 unfold DL;grind
theorem Rd(l):∀(t:List Int) (S:AS),(t.foldl (DL l) S).2.length=S.2.length
 |[],_=>rfl
 |n::t,S=>by rw[iF,Rd,zMi]
theorem Q3(r):∀(Q D:List Int),Q.Nodup→(tl r Q D).Perm (Q.filter fun m=>!decide (m∈D))
 |[],D,_=>by
  unfold tl;simp
 |n::Q,D,hn=>by
  have⟨xq,hQ⟩:=pL.1 hn;by_cases h:n∈D
  ·rw[WO h,List.filter_cons_of_neg (by simp[h])];exact Q3 r Q D hQ
  rw[WQ h,List.filter_cons_of_pos (by simp[h])];refine List.Perm.cons _ ((mQ _ (Q3 r Q _ hQ)).trans ?_);have e1:fl (r n) (D++[n]) Q=(Q.filter fun m=>!decide (m∈D)).filter (r n):=by
   unfold fl;rw[mM];apply nX;intro m hm;have:m≠n:=fun e=>xq (e▸hm)
   simp[this,Bool.and_comm]
  have e2:(Q.filter fun m=>!decide (m∈D++[n]++fl (r n) (D++[n]) Q))=(Q.filter fun m=>!decide (m∈D)).filter fun m=>!(r n m):=by
   rw[mM];apply nX;intro m hm;have h1:m≠n:=fun e=>xq (e▸hm)
   rw[e1];by_cases h2:m∈D
   ·simp[h2]
   cases h3:r n m
   ·grind
   simp[h1,h2,h3,hm]
  rw[e2,e1];exact List.filter_append_perm _ _
theorem zNb(l){ord}(h:ord.Nodup):(Ew l ord).Perm ord:=by
 have hn:=(HQ (Fx l) _).nodup_iff.2 h;have:=Q3 (C7 l) _ [] hn;have e:((srt (Fx l) ord).filter fun m=>!decide (m∈([])))=srt (Fx l) ord:=by
  rw[mD];intro a _;simp
 rw[e] at this;exact this.trans (HQ _ _)
theorem Rh{l S k}(h:(Hy l k).find? (Jv S.1)=none):DL l S k=S:=by
 unfold DL;rw[h]
theorem Ri{l S k w}(h:(Hy l k).find? (Jv S.1)=some w):DL l S k=(fun a=>if a=w then some ((S.1 w).getD 0-1) else S.1 a,S.2.set k.toNat w):=by
 unfold DL;rw[h]
theorem Xh(l S k w):((DL l S k).1 w).getD 0≤(S.1 w).getD 0:=by
 cases hf:(Hy l k).find? _ with
 |none=>rw[Rh hf];omega
 |some w0=>
  rw[Ri hf];grind
theorem WY(l w):∀(t:List Int) (S:AS),((t.foldl (DL l) S).1 w).getD 0≤(S.1 w).getD 0
 |[],_=>Int.le_refl _
 |n::t,S=>by
  exact Int.le_trans (WY l w t _) (Xh l S n w)
theorem zP9{ps B}(h:∀p∈ps,p.2≤B)(hB:0≤B)(w):(AW ps w).getD 0≤B:=by
 unfold AW;split
 ·exact hB
 cases hf:ps.find? _ with
 |none=>exact hB
 |some p=>grind
theorem zPd(f w x):(fun a=>if a=w then some (Iv x) else mF f a)=mF (fun a=>if a=w then some x else f a):=by
 unfold mF;grind
theorem zKs(h:∀x∈ws,f x=false):ws.find? f=none:=by
 grind
theorem zOs(hj:j<ws.length)(h:∀x∈ws.take j,f x=false)(hf:f ws[j]=true):ws.find? f=some ws[j]:=by
 have e:ws=ws.take j++ws[j]::ws.drop (j+1):=by rw[←aT hj,dP]
 grind
theorem Hp.aD3{W L b1}{φ ψ φ' ψ':Obj→Prop}(h:Hp w0 M W ((some b1,φ)::(some b2,ψ)::L))(hk:ax [b1,b2] W W')
  (h1:∃o,W'.heap[b1]? =some o∧φ' o) (h2:∃o,W'.heap[b2]? =some o∧ψ' o):Hp w0 M W' ((some b1,φ')::(some b2,ψ')::L):=by
 have hd:=h.v8;rw[bQ,bQ] at hd;refine .aA4 (h.keeps.trans hk ?_) ?_ ?_ ?_
 ·intro k pw;rcases aP.1 pw with rfl|pw
  ·exact h.own 0 _ O k O
  obtain rfl:k=b2:=O6
  exact h.own 1 _ O k O
 ·intro p hp b hb;rcases aP.1 hp with rfl|ng
  ·exact h.own 0 _ O b hb
  rcases aP.1 ng with rfl|zo
  ·exact h.own 1 _ O b hb
  exact h.q0 (fE _ (fE _ zo)) b hb
 ·intro p hp b hb;rcases aP.1 hp with rfl|ng
  ·grind
  rcases aP.1 ng with rfl|zo
  ·grind
  have⟨o,ho,hpo⟩:=h.r6 (fE _ (fE _ zo)) b hb;refine⟨o,?_,hpo⟩;rw[hk.block b (aM.1 ho).1 ?_]
  ·exact ho
  intro hm;rcases aP.1 hm with e|hm
  ·exact hd.1 p (fE _ zo) b (by rw[e]) hb
  have e:=by simpa using hm
  exact hd.2.1 p zo b (by rw[e]) hb
 rw[bQ,bQ];refine⟨fun p hp=>?_,hd.2.1,hd.2.2⟩;rcases aP.1 hp with rfl|hp
 ·exact hd.1 (some b2,ψ) fX
 exact hd.1 p (fE _ hp)
theorem Hp.aC9{W b1}{φ ψ:Obj→Prop}(h1:∃o,W.heap[b1]? =some o∧φ o)(h2:∃o,W.heap[b2]? =some o∧ψ o)(xr:b1≠b2):Hp W [b1,b2] W [(some b1,φ),(some b2,ψ)]:=by
 have⟨o,ho,hr⟩:=h1;have⟨o2,ir,hJ⟩:=h2;have h3:=(Hp.start (M:=[b1,b2])).k9 O4 ir hJ (fun i p hi=>O6);refine h3.k9 O4 ho hr (fun i p hi=>?_);grind
def QE(mb gb b7 b8 b4 ob lb m c mo co:Nat)(s so:Option Addr)(S:AS):List kr:=
 [yA nk mb (mF S.1),qG eS 9 1 (Ad gb) m S.2,bu b7 1 (qE [.map (some mb)]) 192,bu b8 1 (qE [.slice (Ad gb) m m]) 62,bu b4 1 (qE [.slice s m c]) 29,bu ob 1 (qE [.slice so mo co]) 22,bu lb 1 (qE [.slice s m c]) 29]
attribute [local irreducible] srt tl fl AQ AW CZ Ew
theorem zRj(nm:DW)(np:Nat)(l:List En)(ord:List Int)(s sP so:Option Addr)(c cP co:Nat)(w:World)(h4:ig w 1 eI so ord)(hl:l.length≤40)(ha:np≤12)(si:ord.length≤9223372036854775806):
  Rk 136 [.agg (dB nm 2 sP np cP).toArray,.slice s l.length c,.slice so ord.length co] w (.bool (CZ l.length ord)):=by
 refine tW func136 ntmps136 fun hp=>?_;refine qR ?_;refine tQ fun w1 bx hp=>?_;refine jM ?_;refine Cj ?_;refine ke (zW O O) (qV (aD O1)) (jM ?_);refine Hd ?_;apply vX;rfl;rfl;exact uG O O;exact qV (aD O1);refine tR (kL O O) ?_;refine jM ?_;refine Hd ?_;refine BT ?_;apply vX;rfl;rfl;exact uG O O;exact qV (aD O1);refine tR (kL O O) ?_;refine jM ?_;refine Hd ?_;refine BT ?_;refine tC (zRb l.length _ so co _ (h4.i7 hp.Z) si O1) fun w2 hp=>?_;exact nj
theorem VP(nm:DW)(ps:List (ByteArray×Int))(l:List En)(ord:List Int)(s sP so:Option Addr)(c cP co:Nat)(w:World)(hE:Jy w s l)(hP:ig w 2 eP sP ps)(h4:ig w 1 eI so ord)(h20:l.length<20)(hx:ps.length≤1000)(od:∀p∈ps,p.2≤9223372036854775807)(hO:CZ l.length ord=true)(xp:so=none→ord=[]):
  Rt 118 [.agg (dB nm 2 sP ps.length cP).toArray,.slice s l.length c,.slice so ord.length co] w (fun v w'=>∃gb,v= .slice (Ad gb) l.length l.length∧kg (Ad gb) l.length (Cm l ps ord)∧Hp w [] w' [qG eS 9 1 (Ad gb) l.length (Cm l ps ord)]):=by
 have az:l≠[]→∀b o,s=some ⟨b,o,_⟩→b<_:=fun h b o e=>hE.at_.lt (fun _=>O) O2 h e
 refine km.q5 func118 O ntmps118 O ?_;have hp:=Hp.start (M:=[]) (w:=w);refine EU (qR ?_);refine tQ fun w1 b3 hp=>?_;refine tQ fun w2 b4 hp=>?_;refine qA (EU ?_);refine tL (zRd nm 2 ps sP cP _ (hP.i7 hp.Z) O1) ?_;rintro _ w3 ⟨mb,rfl,hpo⟩;have hp:=hp.C hpo;clear hpo;refine tQ fun w4 b7 hp=>?_;refine tS fun w5 hp=>?_;have hp:=hp.I 0 [.map _] O O;refine qA (EU ?_);refine qA ?_;refine tF (yE eS Bj hp O O O O O O O O1 O) fun w6 gb⟨hT,hp⟩=>tQ fun w7 b8 hp=>?_;refine tS fun w8 hp=>?_;have hp:=hp.I 0 [.slice _ _ _] O O;refine qA (Ki ?_);refine tL (zRc s so _ c _ co _) ?_;rintro _ w9 ⟨lb,ob,rfl,hpo⟩;have hp:=hp.C hpo;clear hpo;have hQ:∀t:List _,(t.foldl (DL l) (F5 l ps)).2.length=l.length:=fun t=>by rw[Rd];simp[F5]
 have hp:Hp w [] w9 (QE mb gb b7 b8 b4 ob lb _ c _ co s so (F5 l ps)):=hp.j4 [5,3,4,2,6,0,1] _ O O;have x4:∀(i:Nat) (b:Nat) (φ:Obj→Prop),(QE mb gb b7 b8 b4 ob lb l.length c ord.length co s so (F5 l ps))[i]? =some (some b,φ)→w.heap.size≤b∧b<w9.heap.size:=by
  intro i b φ hi;refine⟨?_,hp.lt hi O⟩;rcases hp.own i _ hi b rfl with h|h
  ·exact h
  cases h
 have h5:=x4 0 mb _ O;have hF:=x4 1 gb _ O;have xd:=x4 2 b7 _ O;have xg:=x4 3 b8 _ O;have xb:=x4 4 b4 _ O;have xc:=x4 5 ob _ O;have xe:=x4 6 lb _ O;have hY:mb≠gb:=by rintro rfl;exact hp.dis 0 1 _ _ O O O2 mb O O
 have hL:b7∉[mb,gb]:=by
  intro hm;rcases aP.1 hm with e|hm
  ·exact hp.dis 2 0 _ _ O O O2 b7 O (by rw[e];rfl)
  have e:b7=gb:=by simpa using hm
  exact hp.dis 2 1 _ _ O O O2 b7 O (by rw[e];rfl)
 have hU:b8∉[mb,gb]:=by
  intro hm;rcases aP.1 hm with e|hm
  ·exact hp.dis 3 0 _ _ O O O2 b8 O (by rw[e];rfl)
  have e:b8=gb:=by simpa using hm
  exact hp.dis 3 1 _ _ O O O2 b8 O (by rw[e];rfl)
 have ma:b4∉[mb,gb]:=by
  intro hm;rcases aP.1 hm with e|hm
  ·exact hp.dis 4 0 _ _ O O O2 b4 O (by rw[e];rfl)
  have e:b4=gb:=by simpa using hm
  exact hp.dis 4 1 _ _ O O O2 b4 O (by rw[e];rfl)
 have hH:lb∉[mb,gb]:=by
  intro hm;rcases aP.1 hm with e|hm
  ·exact hp.dis 6 0 _ _ O O O2 lb O (by rw[e];rfl)
  have e:lb=gb:=by simpa using hm
  exact hp.dis 6 1 _ _ O O O2 lb O (by rw[e];rfl)
 refine qA (Jd [(4,.pointer _),(7,.pointer _),(8,.pointer _),(19,.func _ _ _)] ⟨O,O,O,O,trivial⟩ ?_);intro F0;refine jBs O zFd (fun x=>Iv x) (Ew l ord) [mb,gb] ?_ (fun pre W=>Hp w [] W (QE mb gb b7 b8 b4 ob lb _ c _ co s so (pre.foldl (DL l) (F5 l ps)))) ?_ hp ?_
  (fun x=>((F0.v6 [(4,.pointer (Ad b4)),(7,.pointer (Ad b7)),(8,.pointer (Ad b8)),(19,.func (.func 264) #[] #[.pointer (Ad ob),.pointer (Ad lb)])]).put 20 (Iv x)).put 9 (Iv x)) ?_ ?_ ?_
 ·grind
 ·intro pre W W' h zp;refine h.o8 zp hp.Z.size ?_;intro p od b hb;simp[QE,aP,mJ,HA] at od;rcases od with rfl|rfl|rfl|rfl|rfl|rfl|rfl
  ·have:(some mb)=_:=hb;grind
  ·have:(some gb)=_:=hb;grind
  ·have:(some b7)=_:=hb;grind
  ·have:(some b8)=_:=hb;grind
  ·have:(some b4)=_:=hb;grind
  ·have:(some ob)=_:=hb;grind
  have:(some lb)=_:=hb;grind
 ·intro W1 hk ha;have zy:=hp.Z.trans hk O4;refine zR9 l _ s so c co lb ob _ W1 (hk.cell (hp.J 6 O O) O4) (hk.cell (hp.J 5 O O) O4) (hE.at_.i7 zy) (h4.i7 zy) hO h20 xp hH ?_ ?_
  ·grind
  grind
 ·intro ll x W;refine qA ?_;simp
 ·rintro ll pre x W ⟨qo,qw⟩ ay;have v1:x∈ord:=(zNb l (Ld hO).2.2).mem_iff.1 O6;have⟨h9,hh⟩:=(Ld hO).2.1 x v1;obtain⟨k,rfl⟩:∃k:Nat,x=k:=⟨x.toNat,O1⟩;have hS:k<l.length:=O1;have hM:(pre++[(k:Int)]).foldl (DL l) (F5 l ps)=DL l (pre.foldl (DL l) (F5 l ps)) k:=by
   rw[List.foldl_append];rfl
  rw[hM];have hz:=hQ pre;have hK:∀a,((pre.foldl _ (F5 l ps)).1 a).getD 0≤_:=fun a=>Int.le_trans (WY l a _ _) (zP9 od O2 a)
  generalize pre.foldl _ _=S at ay hz hK;have hJ:Hy l k=l[k].wl:=by
   unfold Hy;rw[dW,aA hS];rfl
  have⟨bE,oE,xi,xl⟩:=hE.at_.base O1;have hg:=xl k _ (aA hS);have h6:=hE.ws _ (bX hS);have h3:=hE.len _ (bX hS);generalize l[k]=e at hg h6 h3 hJ;have xv:=az O6 bE oE xi;have xf:bE∉[mb,gb]:=by simp;omega
  have c4:W.cell? ⟨b4,0,_⟩=some (.slice s _ c):=ay.J 4 O O;have c7:W.cell? ⟨b7,0,_⟩=some (.map _):=ay.J 2 O O;have c8:W.cell? ⟨b8,0,_⟩=some (.slice _ _ l.length):=ay.J 3 O O;have ca:=ay.j3 (hg 4 _ O);have hV:_≠[]→∀b o,e.ws=some ⟨b,o,_⟩→b∉[mb,gb]:=fun h b o q=>by
   have:=h6.lt (fun _=>O) O2 h q;grind
  have h6:=h6.i7 ay.Z;have ht:kg _ _ _:=.inr ⟨gb,_,by rw[hz],by rw[hz];exact aS _,by unfold maxLen;omega⟩;have h8:k<S.2.length:=O1;have hp:=Hp.aC9 (ay.N 0 _ O mb O) (ay.N 1 _ O gb O) hY;refine qA (qQ ([11]++List.range' 27 17) (fun(j:Nat) F=>F.put 27 (.int _ j)) (fun j w'=>j≤e.wl.length∧(∀y∈e.wl.take j,Jv S.1 y=false)∧Hp W _ w' [yA _ mb _,qG eS 9 1 (some ⟨gb,0,_⟩) _ _]) (fun j=>e.wl.length-j) 0 (qB (ka.eq .refl) O) ⟨O1,O4,hp⟩ ?_);(repeat clear hp);rintro u j uy ⟨hj,hn,hp⟩;refine tI (fun h=>?_) fun h=>?_
  ·have hl:j<e.wl.length:=O1;have⟨b1,o1,hq,vx⟩:=h6.base O1;have eg:=vx j _ (aA hl) 0 _ O;have hX:=hV O6 b1 o1 hq;have vu:=aF hl;have b6:=zOs (f:=Jv S.1) hl hn
   generalize e.wl[j]=a at eg vu b6;have eg:W.cell? ⟨b1,o1+j*1,_⟩=_:=eg;have hZ:=hK a;refine qA (tR (qS O O (hp.H eg hX)) ?_);refine qA (tR (qS O O (hp.H c7 hL)) ?_);refine qA (ke (Dw hp 0 O O O BF.1 BF.2.1 BF.2.2) (K8 _ _) ?_);refine tI (fun h2=>?_) fun h2=>?_
   ·have xy:=Ri (by rw[hJ];exact b6 (aD h2));refine qA (tR (qS O O (hp.H c7 hL)) ?_);refine qA (ke (Dw hp 0 O O O BF.1 BF.2.1 BF.2.2) (K8 _ _) ?_);refine tA ?_;refine tO (J4 (v:=.int _ _) hp 0 O O O O BF.1 BF.2.1) fun uz hp=>?_;rw[zPd] at hp;refine qA (tR (qS O O (hp.H c8 hU)) ?_);refine qA (tO (zL eS _ k a hp 1 O ht h8 O O (fun _=>O) O O (qD O)) fun u0 hp=>?_);refine qA ?_;rw[xy];exact mDu
   refine Fv ?_;refine⟨_,qB O5 O,⟨O1,?_,hp⟩,O1⟩;intro y hy;rw[vu] at hy;rcases fK.1 hy with hy|hy
   ·grind
   rw[gT.1 hy];exact aB h2
  have hf:(Hy l k).find? (Jv S.1)=none:=by
   rw[hJ];refine zKs ?_;rwa[bJ O1] at hn
  refine qA ?_;rw[Rh hf];exact mDu
 intro D W hD ay a7;have a6:Hp w [] (W.putObj D (.deferred none)) [qG eS 9 1 (Ad gb) l.length (Cm l ps ord)]:=by
  refine Hp.o8 (B:=w9.heap.size) (ay.pick 1 O) (mw.put W _ hD) hp.Z.size ?_;intro p od b hb;rw[gT.1 od] at hb;have:(some gb:Option Nat)=some b:=hb;cases this;exact hF.2
 have qm:(Cm l ps ord).length=_:=hQ _;have h7:kg _ _ _:=.inr ⟨gb,_,by rw[qm],by rw[qm];exact aS _,by unfold maxLen;omega⟩;refine L0 O O (NN ?_);have hp:=ay;refine qA ?_;exact Z9 O O O a7 ⟨_,O,gb,O,h7,a6⟩
end
variable{i k o:Nat}{z:List Int}
section
def fi(l:List Int):Nat→Option Nat
 |0=>none
 |k+1=>if l.getD (k+1) 0<l.getD k 0 then fi l k else some k
def fj(l:List Int)(x:Int):Nat→Nat
 |0=>0
 |k+1=>if l.getD k 0<x then fj l x k else k
def swp(l:List Int)(i j:Nat):List Int:=(l.set i (l.getD j 0)).set j (l.getD i 0)
def Hk(l:List Int):Option (List Int):=match fi l (l.length-1) with
 |none=>none
 |some i=>some ((swp l i (fj l (l.getD i 0) l.length)).take (i+1)++((swp l i (fj l (l.getD i 0) l.length)).drop (i+1)).reverse)
theorem zOd(l i j):(swp l i j).length=l.length:=by simp[swp]
theorem MU{o'}(h:o=o'):Value.pointer (some ⟨b,o,none⟩)= .pointer (some ⟨b,o',none⟩):=by rw[h]
theorem QY(h:i<l.length):l[i]? =some (l.getD i 0):=by
 grind
def Bn(B z:List Int)(k:Nat):Prop:=z.length=B.length∧∀q,q<B.length→z[q]? =if q<k∨B.length-k≤q then B[B.length-1-q]? else B[q]?
theorem Bn.start(B):Bn B B 0:=⟨O,fun q hq=>O6⟩
theorem Bn.step{B z k}(h:Bn B z k)(hk:k<B.length-1-k){x y}(hx:z[k]? =some x)(hy:z[B.length-1-k]? =some y):Bn B ((z.set k y).set (B.length-1-k) x) (k+1):=by
 have⟨h1,h2⟩:=h;refine⟨by simp[h1],fun q hq=>?_⟩;rw[gM];grind
theorem Bn.done{B}(h:Bn B z k)(hk:B.length-1-k≤k)(hB:B≠[]):z=B.reverse:=by
 have⟨h1,h2⟩:=h;apply dI;grind
attribute [local irreducible] srt tl fl AQ AW CZ Ew
theorem r70(nm ps l ord s sP so c cP co w)(hE:Jy w s l)(hP:ig w 2 eP sP ps)(h4:ig w 1 eI so ord)(h20:l.length<20)(hh:ps.length≤12)(od:∀p∈ps,p.2≤9223372036854775807)(hO:CZ l.length ord=true)(xp:so=none→ord=[]):
  Rt 70 [.agg (dB nm 2 sP ps.length cP).toArray,.slice s l.length c,.slice so ord.length co] w (fun v w'=>∃gb,v= .tuple #[.slice (Ad gb) l.length l.length,.bool true]∧kg (Ad gb) l.length (Cm l ps ord)∧Hp w [] w' [qG eS 9 1 (Ad gb) l.length (Cm l ps ord)]):=by
 have h7:=(Ld hO).1;refine tW func70 ntmps70 fun hp=>?_;refine qR ?_;refine tQ fun w1 b3 hp=>?_;refine tL (zRj nm _ l _ s sP so c cP co _ (h4.i7 hp.Z) O1 hh O1) ?_;rintro _ w2 ⟨rfl,hk⟩;rw[hO];have hp:=hp.V hk;refine AL ?_;refine tK (VP nm ps l _ s sP so c cP co _ ⟨hE.at_.i7 hp.Z,fun e he=>(hE.ws e he).i7 hp.Z,hE.len⟩ (hP.i7 hp.Z) (h4.i7 hp.Z) h20 O1 od hO xp) ?_;rintro _ w3 ⟨gb,rfl,hv,hpo⟩;have hp:=hp.C hpo;refine qA ?_;exact xU O O O ⟨_,O,gb,O,hv,hp.pick 0 O⟩
theorem zRe(A B b c o m c' w)(hr:Ba w b c (A++B))(hc:(A++B).length≤c)(ha:c≤1000000)(hB:B≠[])(ho:o=A.length)(hm:m=B.length):
  Rt 183 [.slice (some ⟨b,o,none⟩) m c'] w (fun _ w'=>ax [b] w w'∧Ba w' b c (A++B.reverse)):=by
 have xx:0<B.length:=lB.2 hB;rw[aY] at hc;have ij:∀z:List Int,z.length=B.length→kg (Ad b) c (A++z):=fun z hz=>.inr ⟨b,c,by rw[aY,hz],by rw[aY,hz];omega,by unfold maxLen;omega⟩
 subst hm;refine km.j6 func183 O ntmps183 O ?_;have hp:=Hp.ofRow hr;refine tM (B.length-1) ?_;refine qA ?_;refine kT ([2,3]++List.range' 7 21) (fun(k:Nat) (_z:List Int) F=>(F.put 2 (Iv (k:Int))).put 3 (Iv ((B.length-1-k:Nat):Int)))
  (fun k z w'=>k≤B.length-1∧2*k≤B.length∧Bn B z k∧Hp w [b] w' [qG eI 3 1 (Ad b) c (A++z)]) (fun k _=>B.length-k) 0 B (qB (qB (ka.eq .refl) O) O) ⟨O1,O1,.start B,hp⟩ ?_
 (repeat clear hp);rintro u k z w1 ⟨hk,zw,hg,hp⟩;have x1:=hg.1;have hn:=ij z x1;refine tI (fun h=>?_) fun h=>?_
 ·have hl:k<B.length-1-k:=O1;have dr:k<B.length:=O1;have qq:B.length-1-k<B.length:=O1;obtain⟨x,hx⟩:∃x,z[k]? =some x:=⟨_,aA O1⟩;obtain⟨y,hy⟩:∃y,z[B.length-1-k]? =some y:=⟨_,aA O1⟩;have xy:=hg.step hl hx hy;have hj:(A++z)[A.length+k]? =some x:=by rw[fQ O1,iC];exact hx
  have hh:(A++z)[A.length+(B.length-1-k)]? =some y:=by rw[fQ O1,iC];exact hy
  have hq:A.length+k<(A++z).length:=by rw[aY];omega
  have ht:(A++z).set (A.length+k) y=A++z.set k y:=by rw[lP _ _ O1,iC]
  have dy:(A++z.set k y).set (A.length+(B.length-1-k)) x=A++(z.set k y).set (B.length-1-k) x:=by rw[lP _ _ O1,iC]
  have h4:A.length+(B.length-1-k)<(A++z.set k y).length:=by rw[aY,fW];omega
  have hJ:=ij (z.set k y) (by rw[fW];exact x1);refine qA ?_;refine jU jG O3 (fun w'=>Hp w [b] w' [qG eI 3 1 (Ad b) c (A++z)]) hp.U ?_;have hp:=hp.U;(repeat(apply kp;rfl;(intro w hp;exact qP);exact O));refine kp O (fun w hp=>zA O O O O qq) (MU (o':=0+(A.length+(B.length-1-k))*1) O1) ?_;refine tP (fun w hp=>qS O O (zS hp 0 O hn (fun _=>O) hh 0 _ O)) ?_;(repeat(apply kp;rfl;(intro w hp;exact qP);exact O));refine kp O (fun w hp=>zA O O O O dr) (MU (o':=0+(A.length+k)*1) O1) ?_;refine tP (fun w hp=>qS O O (zS hp 0 O hn (fun _=>O) hj 0 _ O)) ?_;refine kp O (fun w hp=>zA O O O O dr) (MU (o':=0+(A.length+k)*1) O1) ?_;apply xH;rfl;rfl;exact zL eI _ (A.length+k) y hp 0 O hn hq O O (fun _=>O) O O (qD O);rintro _ w3 ⟨rfl,hp⟩;refine kp O (fun w hp=>zA O O O O qq) (MU (o':=0+(A.length+(B.length-1-k))*1) O1) ?_;rw[ht] at hp;apply xH;rfl;rfl;exact zL eI _ (A.length+(B.length-1-k)) x hp 0 O hJ h4 O O (fun _=>O) O O (qD O);rintro _ w4 ⟨rfl,hp⟩;rw[dy] at hp;refine qU ?_;refine tM (k+1) ?_;refine tM (B.length-1-(k+1)) ?_;refine qA ?_;exact⟨k+1,_,qB O5 O,⟨O1,O1,xy,hp⟩,O1⟩
 have hz:=hg.done O1 hB;subst hz;exact UB
end
section
attribute [local irreducible] srt tl fl AQ AW CZ Ew
theorem zRm(l:List Int)(b c:Nat)(w:World)(hr:Ba w b c l)(hc:l.length≤c)(hg:c≤1000000):
  Rt 117 [.slice (Ad b) l.length c] w (fun v w'=>v= .bool (Hk l).isSome∧ax [b] w w'∧Ba w' b c ((Hk l).getD l)):=by
 have ij:∀z:List Int,z.length=l.length→kg _ c z:=fun z hz=>.inr ⟨b,c,by rw[hz],O1,by unfold maxLen;omega⟩
 have hh:=ij l O;have xl:fi l _=none→Hk l=none:=fun h=>by unfold Hk;rw[h]
 refine km.j6 func117 O ntmps117 O ?_;have hp:=Hp.ofRow hr;refine qA ?_;by_cases hl:l=[]
 ·have hn:Hk l=none:=by rw[hl];rfl
  have zg:l.length=0:=by rw[hl];rfl
  refine ke (jN O O) (qF (b:=-2) (by rw[zg];decide)) (qA ?_);refine qQ ([3]++List.range' 8 16) (fun _ F=>F.put 3 (.int _ _)) (fun _ w'=>Hp w _ w' _) (fun _=>0) () (qB (ka.eq .refl) O) hp ?_;rintro u ⟨⟩ w1 hp;exact mB2
 have xx:=lB.2 hl;refine ke (jN O O) (qF (b:=(l.length-1:Nat)-1) (by rw[qK O1 O1];omega)) (qA ?_);refine qQ ([3]++List.range' 8 16) (fun(k:Nat) F=>F.put 3 (.int _ (k-1))) (fun k w'=>k≤l.length-1∧fi l _=fi l k∧Hp w _ w' _) (fun k=>k) _ (qB (ka.eq .refl) O) ⟨O1,O,hp⟩ ?_;(repeat clear hp);rintro u k w1 ⟨hk,hj,hp⟩;rcases dG k with h0|h0
 ·subst h0;have hn:=xl hj;exact mB2
 obtain⟨i,rfl⟩:∃i,k=i+1:=⟨k-1,O1⟩;rw[show(i+1:Nat)-1=(i:Int) from by omega];have sa:i<l.length:=O1;have hx:i+1<l.length:=O1;have p2:=QY sa;have hy:=QY hx;refine qA ?_;refine jW jG O3 (fun w'=>Hp w _ w' _) hp.U ?_;have hp:=hp.U;refine tP (fun w hp=>qP) ?_;refine kp O (fun w hp=>vE O O) (qV (aD O1)) (xA ?_);apply yG;rfl;rfl;rfl;intro w hp;exact qS O O (zS hp 0 O hh (fun _=>O) p2 0 _ O);exact fI O;refine xA ?_;refine tN (i+1) ?_;refine xA ?_;apply yG;rfl;rfl;rfl;intro w hp;exact qS O O (zS hp 0 O hh (fun _=>O) hy 0 _ O);exact fI O;by_cases ha:l.getD (i+1) 0<l.getD i 0
 ·apply yG;rfl;rfl;rfl;intro w hp;exact xJ O O;exact qV (aD ha);refine xA (qU ?_);refine jB O (tB ?_);refine qA ?_;refine⟨i,qB O5 O,⟨O1,?_,hp⟩,O1⟩;rw[hj]
  conv=>lhs;unfold fi
  grind
 apply yG;rfl;rfl;rfl;intro w hp;exact xJ O O;exact qV (aB ha);refine xA (qU ?_);refine qN O ?_;have hj:fi l (l.length-1)=some i:=by
  rw[hj];unfold fi;rw[if_neg ha]
 have ht:Hk l=some ((swp l i (fj l (l.getD i 0) l.length)).take (i+1)++((swp l i (fj l (l.getD i 0) l.length)).drop (i+1)).reverse):=by
  unfold Hk;rw[hj]
 refine qA ?_;refine qH O O1 (fun _=>tM (l.length-1) ?_);refine qA (qQ ([4]++List.range' 29 11) (fun(m:Nat) F=>F.put 4 (.int _ m)) (fun m w'=>i+1≤m∧m<l.length∧fj l (l.getD i 0) _=fj l _ (m+1)∧Hp w _ w' _) (fun m=>m) _ (qB (ka.eq .refl) O) ⟨O1,O1,by rw[show l.length-1+1=l.length from by omega],hp⟩ ?_);(repeat clear hp);rintro u2 m w2 ⟨hm,zd,hq,hp⟩;have ey:=QY zd;refine qA ?_;refine jW jG O3 (fun w'=>Hp w _ w' _) hp.U ?_;have hp:=hp.U;refine qX ?_;refine tP (fun w hp=>qS O O (zS hp 0 O hh (fun _=>O) ey 0 _ O)) (qX ?_);refine tP (fun w hp=>qS O O (zS hp 0 O hh (fun _=>O) p2 0 _ O)) ?_;by_cases cD:l.getD m 0<l.getD i 0
 ·refine kp O (fun w hp=>zQ O O) (qV (aD cD)) (qU ?_);refine jB O ?_;have xr:m≠i+1:=by rintro rfl;exact ha cD
  refine tM (m-1) ?_;refine qA ?_;refine⟨_,qB O5 O,⟨O1,O1,?_,hp⟩,O1⟩;rw[hq,show m-1+1=m from by omega]
  conv=>lhs;unfold fj
  grind
 refine kp O (fun w hp=>zQ O O) (qV (aB cD)) (qU ?_);refine qN O ?_;have hq:fj l (l.getD i 0) l.length=m:=by
  rw[hq];unfold fj;rw[if_neg cD]
 rw[hq] at ht;have bz:=zOd l i m;have hJ:=ij (l.set i (l.getD m 0)) O4;have h4:m<(l.set i (l.getD m 0)).length:=by rw[fW];exact zd
 refine qA ?_;refine jU jG O3 (fun w'=>Hp w _ w' _) hp.U ?_;have hp:=hp.U;refine qX ?_;refine tP (fun w hp=>qS O O (zS hp 0 O hh (fun _=>O) ey 0 _ O)) (qX ?_);refine tP (fun w hp=>qS O O (zS hp 0 O hh (fun _=>O) p2 0 _ O)) (qX ?_);apply xH;rfl;rfl;exact zL eI _ i _ hp 0 O hh sa O O (fun _=>O) O O (qD O);rintro _ w3 ⟨rfl,hp⟩;refine tP (fun w hp=>zA O O O O zd) ?_;apply xH;rfl;rfl;exact zL eI _ m _ hp 0 O hJ h4 O O (fun _=>O) O O (qD O);rintro _ w4 ⟨rfl,hp⟩;have hp:Hp w _ w4 [qG eI 3 1 _ c (swp l i m)]:=hp;refine qU (tM (i+1) ?_);refine tR (H0 (zK O).1 (zK (t:=22) O).2 O O O1 hc) ?_;have h3:Ba w4 b c ((swp l i m).take (i+1)++(swp l i m).drop (i+1)):=by
  rw[dP];exact Hp.o7 hp 0 O
 apply Ax;exact qC O zFo O (zRe _ _ b c _ _ _ _ h3 O6 hg (by intro h0;have:=aK List.length h0;grind) O6 O6);rintro _ w5 ⟨vw,hF⟩;have hp:=Hp.y5 hp 0 O vw hF;refine tV ?_;exact⟨_,O,by rw[ht];rfl,hp.Z,O6⟩
end
variable{F:Fr}{P:Program}{aft:Array Edge}{d:Option Tmp}{et kt ty:TypeId}{g:Option (Nat×Bool)}{rb:List Nat}{w:World}{y:Operand}{α:Type}
section
def xa(x:List ByteArray)(k:Int):ByteArray:=(x[k.toNat]?).getD Bj
structure FZ(n:Nat):Prop where
 zero:Al n 0=CJ n
 next:∀t,t<uO n→Hk (Al n t)=if t+1<uO n then some (Al n (t+1)) else none
 ok:∀t,t<uO n→CZ n (Al n t)=true
def BG(m:Nat)(T:List (ByteArray×Int))(a:ByteArray):Option Int:=if a=Bj then some m else(T.findIdx? fun p=>decide (p.1=a)).map fun i=>(i:Int)
def Ht(ps:List (ByteArray×Int))(a:ByteArray):Nat:=((BG ps.length ps a).getD 0).toNat
theorem zNy(m:Nat):(fun x=>if x=Bj then some (Iv (m:Int)) else none)=mF (BG m []):=by
 unfold mF BG;simp
theorem zMy(m T p a):BG m (T++[p]) a=if(BG m T p.1).isSome=false∧a=p.1 then some (T.length:Int) else BG m T a:=by
 unfold BG;by_cases ha:a=Bj
 ·grind
 rw[if_neg ha,if_neg ha,List.findIdx?_append];by_cases hp:a=p.1
 ·subst hp;rw[if_neg ha];cases h:T.findIdx? _ with
  |none=>simp
  |some i=>simp
 grind
theorem zOx{ps a}(_h:a=Bj∨(AW ps a).isSome=true):Ht ps a<ps.length+1∧(BG ps.length ps a).getD 0=(Ht ps a:Int):=by
 have h0:0≤(BG ps.length ps a).getD 0∧(BG ps.length ps a).getD 0≤ps.length:=by
  unfold BG;by_cases ha:a=Bj
  ·grind
  rw[if_neg ha];cases hf:ps.findIdx? fun p=>decide (p.1=a) with
  |none=>simp
  |some i=>
   have:=(pU.1 hf).1;grind
 unfold Ht;omega
theorem Xj{l ps}:∀(T:List Int) (S:AS),(∀w,(S.1 w).getD 0≤(AW ps w).getD 0)→(∀y∈S.2,y=Bj∨(AW ps y).isSome=true)→∀y∈(T.foldl (DL l) S).2,y=Bj∨(AW ps y).isSome=true
 |[],S,_,h=>h
 |k::T,S,h0,h=>by
  refine Xj T _ (fun w=>Int.le_trans (Xh l S k w) (h0 w)) ?_;cases hf:(Hy l k).find? _ with
  |none=>rw[Rh hf];exact h
  |some w0=>
   rw[Ri hf];intro y hy;rcases pB hy with hy|hy
   ·grind
   subst hy;have ha:=List.find?_some hf;unfold Jv at ha;have ha:=by simpa using ha
   have:=h0 y;cases hs:AW ps y with
   |none=>grind
   |some v=>simp
theorem zPn(l ps ord):∀y∈Cm l ps ord,y=Bj∨(AW ps y).isSome=true:=by
 refine Xj _ _ (fun w=>Int.le_refl _) ?_;intro y hy;exact .inl (XO hy)
theorem QS(l ps ord):(Cm l ps ord).length=l.length:=by
 unfold Cm;rw[Rd];simp[F5]
theorem V5(l:List En)(ps:List (ByteArray×Int))(ord:List Int)(k:Nat):xa (Cm l ps ord) k=Bj∨(AW ps (xa (Cm l ps ord) k)).isSome=true:=by
 unfold xa;rw[dW];cases h:(Cm l ps _)[k]? with
 |none=>simp
 |some y=>exact zPn l ps _ y (aG h)
def A4(l:List En)(ps:List (ByteArray×Int))(o:List Int)(i:Nat):Nat:=Ht ps (xa (Cm l ps o) i)
def Bs(g:List Int→Nat→Nat)(os:List (List Int))(i j:Nat):Nat:=os.countP fun o=>decide (g o i=j)
def DZ(m:Nat)(g:List Int→Nat→Nat)(os:List (List Int))(i:Nat):List Int:=(range (m+1)).map fun j=>(Bs g os i j:Int)
def BV(n m:Nat)(g:List Int→Nat→Nat)(os:List (List Int))(o:List Int)(k:Nat):List (List Int):=(range n).map fun i=>DZ m g (if i<k then os++[o] else os) i
theorem Lc(m g os i):(DZ m g os i).length=m+1:=by simp[DZ]
theorem M5{m g os}(hj:j<m+1):(DZ m g os i)[j]? =some (Bs g os i j:Int):=by
 unfold DZ;grind
theorem zN2(g os o i j):Bs g (os++[o]) i j=Bs g os i j+if g o i=j then 1 else 0:=by
 unfold Bs;simp
theorem QT(g os i j):Bs g os i j≤os.length:=iK
theorem zMm{m g os o}(hg:g o i<m+1):(DZ m g os i).set (g o i) ((Bs g os i (g o i)+1:Nat):Int)=DZ m g (os++[o]) i:=by
 apply dI;intro j;rw[gM,Lc];by_cases hj:j<m+1
 ·rw[M5 hj,M5 hj,zN2];grind
 rw[if_neg O1,bY (by rw[Lc];omega),bY (by rw[Lc];omega)]
theorem Q0(n m g os o k):(BV n m g os o k).length=n:=by simp[BV]
theorem MZ{m g os o}(hi:i<n):(BV n m g os o k)[i]? =some (DZ m g (if i<k then os++[o] else os) i):=by
 unfold BV;grind
theorem zNj{m g os o}(hk:k<n):(BV n m g os o k).set k (DZ m g (os++[o]) k)=BV n m g os o (k+1):=by
 apply dI;intro i;rw[gM,Q0];by_cases hi:i<n
 ·rw[MZ hi,MZ hi];grind
 rw[if_neg O1,bY (by rw[Q0];omega),bY (by rw[Q0];omega)]
theorem zNk(n m g os o o'):BV n m g os o n=BV n m g (os++[o]) o' 0:=by
 apply lF;grind
theorem zMo(n m g os o o'):BV n m g os o 0=BV n m g os o' 0:=by
 unfold BV;simp
theorem zNi(n m g o):BV n m g [] o 0=replicate n (replicate (m+1) 0):=by
 unfold BV;apply oO
 ·simp
 intro i h1 h2;unfold DZ Bs;apply oO
 ·simp
 simp
def Bw(n t:Nat):List (List Int):=(range t).map (Al n)
theorem zNh(n):Bw n 0=[]:=O
theorem W8(n t):Bw n (t+1)=Bw n t++[Al n t]:=by simp[Bw,eX]
theorem Q1(n t):(Bw n t).length=t:=by simp[Bw]
theorem zQ6:uO 7=5040:=O
def BD(a b:Nat):Rat:=mkRat (sg false a) b
def Hv(l:List En)(ps:List (ByteArray×Int))(i:Nat):List Rat:=(range (ps.length+1)).map fun j=>BD (Bs (A4 l ps) (Bw l.length (uO l.length)) i j) (uO l.length)
theorem W7(l ps i):Hv l ps i=(range (ps.length+1)).map fun j=>BD (Bs (A4 l ps) (Bw l.length (uO l.length)) i j) (uO l.length):=O
def QP(l:List En)(ps:List (ByteArray×Int)):List (List Rat):=(range l.length).map (Hv l ps)
def Hg(m:Nat):Option Nat→List Value
 |none=>[Zs]
 |some b=>[.slice (Ad b) (m+1) (m+1)]
theorem QU(m x):(Hg m x).length=1:=by cases x<;>rfl
structure CM where
 s:Option Addr
 c:Nat
 l:List Rat
def Js(r:CM):List Value:=[.slice r.s r.l.length r.c]
def IG:CM:=⟨none,0,[]⟩
def K6(m b:Nat)(z:List Int):kr:=qG eI 3 1 (Ad b) (m+1) z
def BN(m:Nat)(rb:List Nat)(M:List (List Int)):List kr:=List.zipWith (K6 m) rb M
theorem zMk(m):BN m [] []=[]:=O
theorem Xq{m:Nat}{M:List (List Int)}(hb:rb[i]? =some b)(hz:M[i]? =some z):(BN m rb M)[i]? =some (K6 m b z):=by
 unfold BN;grind
theorem zMj{m M}(hb:rb[i]? =some b):(BN m rb M).set i (K6 m b z)=BN m rb (M.set i z):=by
 unfold BN;apply dI;grind
theorem zM5{m M}(h:rb.length=M.length):BN m (rb++[b]) (M++[z])=BN m rb M++[K6 m b z]:=by
 unfold BN;rw[List.zipWith_append h];rfl
def GH(rs:List CM):List kr:=rs.map fun r=>qG eQ 49 3 r.s r.c r.l
theorem zM4(rs r):GH (rs++[r])=GH rs++[qG eQ 49 3 r.s r.c r.l]:=by simp[GH]
theorem Rb{A}{z x:α}(hA:A.length=i)(h:i<n):(A++replicate (n-i) z).set i x=(A++[x])++replicate (n-(i+1)) z:=by
 obtain⟨k,hk⟩:∃k,n-i=k+1:=⟨n-i-1,O1⟩;rw[lP _ _ O1,hA,gZ,hk,show n-(i+1)=k from O1,nE];simp
theorem zM7{A}{z:α}(h:i<n):A++replicate (n-i) z=(A++[z])++replicate (n-(i+1)) z:=by
 obtain⟨k,hk⟩:∃k,n-i=k+1:=⟨n-i-1,O1⟩;grind
theorem zOl{A X}{z x:α}(hA:A.length=i):((A++[z])++X).set i x=(A++[x])++X:=by
 rw[bU,lP _ _ O1,hA,gZ,bU];rfl
theorem zOm{A X}{z:α}(hA:A.length=i):((A++[z])++X)[i]? =some z:=by
 grind
theorem Lb{A}{z:α}(hA:A.length=i)(h:i≤n):(A++replicate (n-i) z).length=n:=by
 grind
theorem M6{A}{z:α}:A++replicate (n-n) z=A:=by
 simp
section
variable[DecidableEq α]{K:Ar α}{n:ky}{L:List kr}{pos:String}{x z:Operand}
theorem M7{mt}{f:α→Option Value}{a:α}{v}(hp:Hp w0 M w L)(i)(hi:L[i]? =some (yA K b f))(hx:ev n F x= .map (some b))(hy:ev n F y=K.enc a)(hv:ev n F z=v)
  (hm:P.underlying mt=some (.map kt et)) (hk:P.underlying kt=some K.kd):
  gx P n ⟨d,.insert mt x y z,ty,pos,aft,g⟩ F w (fun u w'=>u=undef∧Hp w0 M w' (L.set i (yA K b (fun x=>if x=a then some v else f x)))):=by
 have⟨o,ho,hf⟩:=hp.N i _ hi b O;have⟨w',o',hr,pw,oc,ha⟩:=jJd K hm hk ho hf a v;refine wE ?_ ⟨O,hp.p3 hi (by simpa[yA] using pw) ?_⟩
 ·simp[execOp,hx,hy,hv,hr]
 intro b1 oa;have:b1=b:=by simpa[yA,eq_comm] using oa
 exact Ur
end
theorem RC(x y w)(hx:Fit x)(hy:Fit y)(h0:0<y):Rk 9 [.bool false,.string (ki x),.string (ki y)] w (.tuple #[QV (BD x y),.bool true]):=r9 _ x y w hx hy h0
attribute [local irreducible] srt tl fl AQ AW CZ Ew uO BG BV Bw BN DZ Bs Al Hv BD
theorem r45(nm:DW)(ps:List (ByteArray×Int))(l:List En)(s sP:Option Addr)(c cP:Nat)(w:World)(hE:Jy w s l)(hP:ig w 2 eP sP ps)(h7:l.length≤7)(h6:ps.length≤12)(od:∀p∈ps,p.2≤9223372036854775807)(nh:FZ l.length):
  Rt 45 [.agg (dB nm 2 sP ps.length cP).toArray,.slice s l.length c] w (fun v w'=>∃so co rs,v= .tuple #[.slice so rs.length co,Iv 0]∧ig w' 1 Js so rs∧(∀r∈rs,ig w' 3 eQ r.s r.l∧r.l.length≤r.c)∧rs.map CM.l=QP l ps∧ax [] w w'):=by
 have xj:=Fl l.length;have xd:=bF (QW h7) (Nat.le_of_eq zQ6);refine tW func45 ntmps45 fun hp=>?_;refine qR ?_;refine tQ fun w1 b2 hp=>?_;have hp:Hp w [] w1 [bu b2 13 (qE (dB nm 2 sP _ cP)) 28]:=hp;refine qA ?_;refine xI O O1 (fun _=>qA (xD O (fun h=>?_) (fun _=>?_)))
 ·grind
 refine qA (tF (yS nk hp) fun w2 cb hp=>?_);refine qA (tO (M7 (a:=Bj) (v:=.int _ ps.length) hp 0 O O O O BF.1 BF.2.1) fun w3 hp=>?_);have hp:Hp w [] w3 [_,_]:=hp;rw[zNy] at hp;refine qA (qQ ([7,8,9,10]++List.range' 45 19) (fun(i:Nat) F=>F.put 45 (.int _ i)) (fun i w'=>i≤ps.length∧Hp w [] w' [yA _ cb (mF (BG _ (ps.take i))),_]) (fun i=>ps.length-i) 0 (qB (ka.eq .refl) O) ⟨O1,hp⟩ ?_);(repeat clear hp);rintro u i w4 ⟨hi,hp⟩;refine tI (fun h=>?_) fun h=>?_
 ·have hl:i<ps.length:=O1;have⟨b0,o0,hs0,yk⟩:=hP.base O1;have yl:=yk i _ (aA hl);have vu:=aF hl;have hh:=zMy ps.length (ps.take i) ps[i]
  rw[←vu] at hh;have ew:(ps.take i).length=i:=by rw[cJ];omega
  rw[ew] at hh;generalize ps[i]=p at yl hh;have⟨pn,pv⟩:=p;clear vu;generalize BG _ _=f at hp hh;refine qA (tR (qL O O O O (fun j v hv=>hp.j3 (yl j v hv))) ?_);refine tQ fun w5 pb hp=>?_;refine tT fun w6 hp=>?_;have hp:=hp.I 0 [.string pn,.int _ pv] O O;have hp:Hp w [] w6 [bu pb 2 _ 130,_,_]:=hp;refine qA (tR (OX hp 1 O O O BF.1 BF.2.1 BF.2.2) ?_);rw[WM,K8];refine qA (xD O (fun h2=>?_) (fun h2=>?_))
  ·have h2:(f pn).isSome=false:=by simpa using h2
   refine qA (tO (J4 (v:=.int _ i) hp 1 O O O O BF.1 BF.2.1) fun w7 hp=>?_);have hJ:(fun x=>if x=pn then some (Iv i) else mF f x)=mF (BG ps.length (ps.take (i+1))):=by
    funext a;unfold mF;rw[hh a];by_cases ha:a=pn
    ·grind
    rw[if_neg ha,if_neg (fun h=>ha h.2)]
   rw[hJ] at hp;exact Mp
  have hJ:f=BG ps.length (ps.take (i+1)):=by
   funext a;rw[hh a,if_neg];rintro⟨h3,_⟩;simp at h2;exact absurd h2 O6
  rw[hJ] at hp;exact Mp
 have e:ps.take i=ps:=bJ O1;rw[e] at hp;clear e hi h;obtain⟨m,hm⟩:∃m,m=ps.length:=⟨_,O⟩;refine qA ?_;refine tF (yE (Hg m) none hp O O O O O O O O1 O) fun w5 ob⟨tq,hp⟩=>?_;have hp:Hp w [] w5 ([qG (Hg m) 22 1 (Ad ob) l.length (([]).map some++replicate (l.length-0) none),yA nk cb (mF (BG ps.length ps)),bu b2 13 (qE (dB nm 2 sP ps.length cP)) 28]++BN m [] []):=by
  rw[zMk];exact hp
 clear tq;refine qA (kT ([12]++List.range' 69 12) (fun(i:Nat) _rb F=>F.put 69 (.int _ i)) (fun i rb w'=>i≤l.length∧rb.length=i∧Hp w [] w' ([qG _ 22 1 _ _ (rb.map _++replicate (l.length-i) _),_,_]++BN m rb (replicate i (replicate (m+1) 0)))) (fun i _=>l.length-i) 0 [] (qB (ka.eq .refl) O) ⟨O1,O,hp⟩ ?_);(repeat clear hp);rintro u i rb w6 ⟨hi,hy,hp⟩;have xi:(rb.map some).length=i:=by rw[aH];exact hy
 have h8:=Lb (z:=none) xi hi;have tq:kg _ _ _:=.inr ⟨ob,_,by rw[h8],by rw[h8];exact aS _,by unfold maxLen;omega⟩;refine tI (fun h=>?_) fun h=>?_
 ·have hl:i<l.length:=O1;refine tM (m+1) ?_;refine tF (yE eI 0 hp O O O O O O O O1 O) fun w7 gb⟨xq,hp⟩=>qA (tO (zL _ _ i (some gb) hp 1 O tq O1 O O (QU m) O O (qD O)) fun w8 hp=>?_);rw[Rb xi hl] at hp;have hp:Hp w [] w8 ([qG (Hg m) 22 1 (Ad ob) l.length ((rb++[gb]).map some++replicate (l.length-(i+1)) none),yA nk cb (mF (BG ps.length ps)),bu b2 13 (qE (dB nm 2 sP ps.length cP)) 28]++BN m (rb++[gb]) (replicate (i+1) (replicate (m+1) 0))):=by
   rw[List.replicate_succ',zM5 O6,dR,←bU];exact hp.perm (oL _ _).symm
  refine Ck ?_;exact⟨_,_,qB O5 O,⟨O1,O6,hp⟩,O1⟩
 obtain rfl:i=l.length:=O1;clear hi h xi h8 tq;rw[M6,←zNi _ m (A4 l ps) []] at hp;have h8:(rb.map some).length=l.length:=by rw[aH];exact hy
 have tq:kg _ _ _:=.inr ⟨ob,_,by rw[h8],by rw[h8];exact aS _,by unfold maxLen;omega⟩;have xp:∀(k b:Nat),rb[k]? =some b→(rb.map some)[k]? =some _:=fun k b h=>by rw[bH,h];rfl
 have az:l≠[]→∀b o,s=some ⟨b,o,_⟩→b<_:=fun h b o e=>hE.at_.lt (fun _=>O) O2 h e
 refine tL (VO l.length _ O1) ?_;rintro _ w7 ⟨qb,rfl,ih,hpo⟩;have hp:=hp.C hpo;clear hpo;have hp:Hp w [] w7 ([qG eI 3 1 (Ad qb) l.length (Al l.length 0),qG (Hg m) 22 1 (Ad ob) l.length (rb.map some),yA nk cb (mF (BG ps.length ps)),bu b2 13 (qE (dB nm 2 sP ps.length cP)) 28]++BN m rb (BV l.length m (A4 l ps) (Bw l.length 0) [] 0)):=by
  rw[zNh,nh.zero];exact hp
 clear ih;refine qA (kT ([13,15,16,17]++List.range' 84 27) (fun(t:Nat) _z F=>(F.put 13 (.int _ t)).put 15 (.bool (decide (t<uO _))))
  (fun t z w'=>t≤uO l.length∧z.length=l.length∧(t<uO l.length→z=Al _ t)∧Hp w [] w' ([qG eI 3 1 _ _ z,_,_,_]++BN m rb (BV _ m _ (Bw _ t) [] 0))) (fun t _=>uO l.length-t) 0 _ (qB (qB (ka.eq .refl) O) (qV (aD xj).symm)) ⟨O1,M4 _ _,fun _=>O,hp⟩ ?_)
 (repeat clear hp);rintro u t z w8 ⟨ht,x1,hz,hp⟩;refine tI (fun h=>?_) fun h=>?_
 ·have hz:=hz h;subst hz;have hO:=nh.ok t h;have yt:=nh.next t h;have xr:=Q1 l.length t;have hV:=W8 l.length t;generalize Bw _ t=OS at hp xr hV;generalize xw:Al _ t=o at hp hO yt x1 hV;have ih:kg _ _ o:=.inr ⟨qb,_,by rw[x1],by rw[x1];exact aS _,by unfold maxLen;omega⟩;have h4:=qZ hp 0 O ih (fun _=>O);refine tM (t+1) ?_;refine qA ?_;have hX:=VP nm ps l o s sP _ c cP l.length w8 ⟨hE.at_.i7 hp.Z,fun e he=>(hE.ws e he).i7 hp.Z,hE.len⟩ (hP.i7 hp.Z) h4 O1 O1 od hO (fun h=>by cases h);rw[x1] at hX;refine tK hX ?_;rintro _ w9 ⟨ab,rfl,hH,hpo⟩;have hp:=hp.C hpo;clear hpo hX;have qm:=QS l ps o;have xe:∀k,k<l.length→(Cm l ps o)[k]? =some (xa (Cm l ps o) k):=by
   intro k hk;unfold xa;rw[dW,aA O1];rfl
  have hU:∀k,A4 l ps o k<m+1∧_=(A4 l ps o k:Int):=fun k=>by rw[hm];exact zOx (V5 l ps o k)
  generalize hA:Cm l ps o=A at hp hH qm xe hU;refine qA (qQ ([16,17]++List.range' 94 17) (fun(k:Nat) F=>F.put 94 (Iv (k:Int))) (fun k w'=>k≤l.length∧Hp w [] w' ([qG eS 9 1 (Ad ab) l.length A,qG eI 3 1 (Ad qb) l.length o,qG (Hg m) 22 1 (Ad ob) l.length (rb.map some),yA nk cb (mF (BG ps.length ps)),bu b2 13 (qE (dB nm 2 sP ps.length cP)) 28]++BN m rb (BV l.length m (A4 l ps) OS o k))) (fun k=>l.length-k) 0 (qB (ka.eq .refl) O) ⟨bL _,?_⟩ ?_)
  ·have e:BV _ m _ OS o 0=BV l.length m (A4 l ps) OS [] 0:=zMo _ _ _ _ _ _;grind
  (repeat clear hp);rintro u2 k uy ⟨hk,hp⟩;refine tI (fun h2=>?_) fun h2=>?_
  ·have hS:k<l.length:=O1;have hq:k<rb.length:=O1;have h5:=xe k hS;have⟨ey,xh⟩:=hU k;obtain⟨bk,np⟩:∃bk,rb[k]? =some bk:=⟨_,aA hq⟩;have hZ:=xp k bk np;have cY:=MZ (m:=m) (g:=A4 l ps) (os:=OS) (o:=o) (k:=k) hS;rw[if_neg O1] at cY;have hD:=Xq (m:=m) np cY;have ya:=Lc m (A4 l ps) OS k;have h9:=M5 (g:=A4 l ps) (os:=OS) (i:=k) ey;have hg:=QT (A4 l ps) OS k (A4 l ps o k);have xy:=zMm (os:=OS) ey;have xg:=zNj (m:=m) (g:=A4 l ps) (os:=OS) (o:=o) hS;have hx:=zMj (m:=m) (M:=BV l.length m (A4 l ps) OS o k) (z:=DZ m (A4 l ps) (OS++[o]) k) np;rw[xg] at hx;generalize xa A k=pl at h5 xh;generalize A4 l ps o k=j at ey xh h9 hg xy;generalize Bs _ OS k j=cn at h9 hg xy;generalize DZ m _ OS k=R at hD ya h9 xy;have im:kg _ _ R:=.inr ⟨bk,_,by rw[ya],by rw[ya];exact aS _,by unfold maxLen;omega⟩;refine qA (tR (qS O O (zS hp 0 O hH (fun _=>O) h5 0 _ O)) ?_);refine qA ?_;refine jU jG O3 (fun w'=>Hp _ _ w' _) hp.U ?_;have hp:=hp.U;refine qX ?_;refine tP (fun w hp=>qS O O (zS hp 2 O tq (QU m) hZ 0 _ O)) ?_;refine qX (kp O (fun w hp=>Dw hp 3 O O O BF.1 BF.2.1 BF.2.2) ((K8 _ _).trans (qF xh)) ?_);refine tP (fun w hp=>zA O O O O ey) ?_;refine tP (fun w hp=>qS O O (zS hp (k+5) hD im (fun _=>O) h9 0 _ O)) ?_;refine tN (cn+1) (tP (fun w hp=>zA O O O O ey) ?_);apply xH;rfl;rfl;exact zL eI R j _ hp (k+5) hD im O1 O O (fun _=>O) O O (qD O);rintro _ uz ⟨rfl,hp⟩;rw[xy] at hp;have hp:Hp w [] uz ([qG eS 9 1 (Ad ab) l.length A,qG eI 3 1 (Ad qb) l.length o,qG (Hg m) 22 1 (Ad ob) l.length (rb.map some),yA nk cb (mF (BG ps.length ps)),bu b2 13 (qE (dB nm 2 sP ps.length cP)) 28]++BN m rb (BV l.length m (A4 l ps) OS o (k+1))):=by
    rw[←hx];exact hp
   refine qU (tM (k+1) ?_);exact KJ
  obtain rfl:k=l.length:=O1;rw[zNk _ _ _ _ _ []] at hp;have hp:=hp.E;have hr:=Hp.o7 hp 0 O;have xk:=zRm o qb _ _ hr O1 O1;rw[x1,yt] at xk;clear hk h2 hH xe hU hA;refine tL xk ?_;rintro _ uz ⟨rfl,vw,hL⟩;have hp:=Hp.y5 hp 0 O vw hL;refine qA ?_;refine⟨_,_,qB O5 (qV ?_),⟨O1,?_,?_,by rw[hV];exact hp⟩,O1⟩
  ·grind
  ·by_cases iq:t+1<uO l.length
   ·rw[if_pos iq];exact M4 _ _
   grind
  grind
 obtain rfl:t=uO l.length:=O1;clear ht h hz;have hM:=fun i (hi:i<l.length)=>MZ (m:=m) (g:=A4 l ps) (os:=Bw l.length (uO l.length)) (o:=[]) (k:=0) hi
 have xo:∀i j,j<m+1→(DZ m (A4 l ps) (Bw l.length (uO l.length)) i)[j]? =_:=fun i j hj=>M5 hj
 have xn:=Lc m (A4 l ps) (Bw l.length (uO l.length))
 have xc:=QT (A4 l ps) (Bw l.length (uO l.length))
 rw[Q1] at xc;have hT:∀i,Hv l ps i=(range (m+1)).map _:=fun i=>by rw[hm];exact W7 l ps i
 generalize xv:BV _ m _ _ [] 0=MM at hp hM;generalize Bw _ _=OS at xo xn xc hT hM;clear xv;have hp:Hp w [] w8 ([_]++_):=(hp.z7 0).sub (List.Sublist.cons_cons _ (rB _ (rB _ (nZ _))));refine qA ?_;refine tF (yE Js IG hp O O O O O O O O1 O) fun w9 cg⟨tg,hp⟩=>?_;have hp:Hp w [] w9 ([qG Js 43 1 (Ad cg) l.length (([]:List CM)++replicate (l.length-0) IG),qG (Hg m) 22 1 (Ad ob) l.length (rb.map some)]++(BN m rb MM++GH [])):=by
  rw[show GH []=[] from O,bO];exact hp
 clear tg;refine qA (kT ([19,20,22,23,24]++List.range' 116 31) (fun(i:Nat) _rs F=>F.put 116 (Iv (i:Int)))
  (fun i rs w'=>i≤l.length∧rs.length=i∧rs.map CM.l=(range i).map (Hv l ps)∧(∀r∈rs,kg r.s r.c r.l)∧Hp w [] w' ([qG Js 43 1 _ l.length (rs++replicate (l.length-i) IG),_]++(BN m rb MM++GH rs))) (fun i _=>l.length-i) 0 [] (qB (ka.eq .refl) O) ⟨bL _,O,O,O4,hp⟩ ?_)
 (repeat clear hp);rintro u i rs uy ⟨hi,hx,pf,hQ,hp⟩;have tt:=Lb (z:=IG) hx hi;have ih:kg _ _ _:=.inr ⟨cg,_,by rw[tt],by rw[tt];exact aS _,by unfold maxLen;omega⟩;refine tI (fun h=>?_) fun h=>?_
 ·have hl:i<l.length:=O1;have hq:i<rb.length:=O1;obtain⟨bk,np⟩:∃bk,rb[i]? =some bk:=⟨_,aA hq⟩;have hZ:=xp i bk np;have cY:=hM i hl;rw[if_neg O1] at cY;have hD:=Xq (m:=m) np cY;have ya:=xn i;have h9:=xo i;have hg:=xc i;have hT:=hT i;generalize DZ m _ OS i=R at hD ya h9;generalize Bs _ OS i=cn at h9 hg hT;have im:kg _ _ R:=.inr ⟨bk,_,by rw[ya],by rw[ya];exact aS _,by unfold maxLen;omega⟩;have hD:(BN m rb MM++GH rs)[i]? =some (K6 m bk R):=by
   rw[XD (aI.1 hD).1];exact hD
  have hp:=hp.j7 eQ 49 3;rw[zM7 hl] at hp;have hp:Hp w [] uy ([qG eQ 49 3 none 0 ((range 0).map fun j=>BD (cn j) (uO l.length)),qG Js 43 1 _ _ ((rs++[⟨none,0,(range 0).map fun j=>BD (cn j) (uO l.length)⟩])++_),_]++_):=hp;clear tt ih;have tt:∀q:CM,((rs++[q])++replicate (_-(i+1)) IG).length=l.length:=fun q=>Lb O6 O1
  have ih:∀q,kg _ _ ((rs++[q])++_):=fun q=>.inr ⟨cg,_,by rw[tt],by rw[tt];exact aS _,by unfold maxLen;omega⟩
  refine qA ?_;refine tR (qS O O (zS hp 2 O tq (QU m) hZ 0 _ O)) ?_;refine qA (qQ ([22,23,24]++List.range' 123 23) (fun(X:Nat×Option Addr×Nat) F=>F.put 123 (Iv (X.1:Int)))
   (fun X w'=>X.1≤m+1∧kg X.2.1 X.2.2 ((range X.1).map fun j=>BD (cn j) (uO l.length))∧Hp w [] w' ([qG eQ 49 3 X.2.1 X.2.2 ((range X.1).map _),qG Js 43 1 (Ad cg) l.length ((rs++[⟨X.2.1,X.2.2,(range X.1).map fun j=>BD (cn j) (uO l.length)⟩])++replicate (l.length-(i+1)) IG),_]++(BN m rb MM++GH rs))) (fun X=>m+1-X.1) (0,none,0) (qB (ka.eq .refl) O) ⟨bL _,.nil,hp⟩ ?_)
  (repeat clear hp);rintro u2 ⟨j,s2,c2⟩ uz ⟨hj,sd,hp⟩;dsimp only at hj sd hp⊢;refine tI (fun h2=>?_) fun h2=>?_
  ·have xu:j<m+1:=O1;have xl:=h9 j xu;have xt:=hg j;have xf:(range (j+1)).map (fun j=>BD (cn j) (uO l.length))=(range j).map (fun j=>BD (cn j) (uO l.length))++[BD (cn j) (uO l.length)]:=by rw[eX,dR];rfl
   have hY:((range j).map fun j=>BD (cn j) (uO l.length)).length=j:=by rw[aH,cZ]
   generalize (range j).map _=T at sd hp xf hY;have hK:Fit (cn j):=Fit.small O1;have xb:Fit (uO l.length):=Fit.small O1;generalize cn j=q at xl xt xf hK;refine qA (tR (qS O O (zS hp (i+3) hD im (fun _=>O) xl 0 _ O)) ?_);refine tL (Aw q _ O1) ?_;rintro _ u0 ⟨rfl,hk⟩;rw[dW];have hp:=hp.V hk;refine tL (Aw (uO l.length) _ O1) ?_;rintro _ u5 ⟨rfl,hk⟩;rw[dW];have hp:=hp.V hk;refine tD (RC q _ _ hK xb xj) fun hn hp=>?_;refine qA ?_;refine tQ fun u4 pb hp=>?_;refine tS fun u3 hp=>?_;have hp:=hp.I 0 (eQ _) O O;have hp:Hp w [] _ ([bu pb 3 _ 49,_,_,_]++_):=hp;refine qA ?_;refine jU jG O3 (fun w'=>Hp _ _ w' _) hp.U ?_;have hp:=hp.U;refine qX ?_;refine tP (fun w hp=>qS O O (zS hp 2 O (ih _) (fun _=>O) (zOm hx) 0 _ O)) (qX ?_);apply Ag;rfl;exact jC hp O O O O O O O;rintro _ vb ⟨nb,rfl,hp⟩;refine⟨hp.E,?_⟩;apply Qh;rfl;rfl;exact jV eQ T _ hp 2 0 O O O O O O jT O O O sd O O O1;rintro _ vd ⟨s3,c3,rfl,hF,hp⟩;refine qX ?_;apply xH;rfl;rfl;exact zL _ _ i ⟨s3,c3,_⟩ hp 3 O (ih _) (by rw[tt];omega) O O (fun _=>O) O O (qD O);rintro _ vc ⟨rfl,hp⟩;rw[zOl hx] at hp;refine qU ?_;have hp:=hp.E.E;refine Fv ?_;refine⟨(j+1,s3,c3),qB O5 O,⟨O1,?_,?_⟩,O1⟩
   ·grind
   rw[xf];exact hp
  obtain rfl:j=m+1:=O1;rw[←hT] at sd hp;have hp:Hp w [] uz ([qG Js 43 1 (Ad cg) l.length ((rs++[⟨s2,c2,Hv l ps i⟩])++replicate (l.length-(i+1)) IG),qG (Hg m) 22 1 (Ad ob) l.length (rb.map some)]++(BN m rb MM++GH (rs++[⟨s2,c2,Hv l ps i⟩]))):=by
   rw[zM4,←bU,←bU];refine hp.perm ?_;rw[←bU];exact(oL _ _).symm
  refine Ck ?_;refine⟨i+1,rs++[⟨s2,c2,Hv l ps i⟩],qB O5 O,⟨O1,O6,?_,?_,hp⟩,O1⟩
  ·rw[dR,pf,eX,dR];rfl
  grind
 obtain rfl:i=l.length:=O1;rw[M6] at hp ih;have h4:=qZ hp 0 O ih (fun _=>O);have dn:∀r∈rs,ig uy 3 eQ r.s r.l∧r.l.length≤r.c:=fun r hr=>⟨Jf (e:=49) hp (aQ _ (aQ _ (List.mem_map_of_mem (f:=fun r:CM=>qG eQ 49 3 r.s r.c r.l) hr))) (hQ r hr) (fun _=>O),(hQ r hr).cap⟩
 refine qA ?_;refine xU O O O ⟨_,O,_,_,rs,by rw[hx];rfl,h4,dn,pf,hp.Z⟩
end
theorem MT{n k}(h:n≤60):AO n k≤2^60:=by
 unfold AO;split
 ·omega
 exact bF (OL _ _) (bG O2 O1)
def un(pool:Nat):Nat→Nat→Nat→List Int
 |0,_,_=>[]
 |_+1,0,_=>[]
 |P+1,m+1,r=>if r<ch P m then((pool-P:Nat):Int)::un pool P m r else un pool P (m+1) (r-ch P m)
theorem WR(pool P r):un pool P 0 r=[]:=by cases P<;>rfl
theorem IB(pool):∀(P m r:Nat),r<ch P m→(un pool P m r).length=m
 |P,0,r,_=>by rw[WR];rfl
 |0,m+1,r,h=>by simp[ch] at h
 |P+1,m+1,r,h=>by
  rw[un];split
  ·rename_i h2
   rw[cF,IB _ P m r h2]
  exact IB _ P _ _ (by rw[ch] at h;omega)
theorem zRl(pool pick P m r:Nat)(l:List Int)(bp bk bs bl:Nat)(s:Option Addr)(c:Nat)
  (hp:Hp w0 M w [bu bl 1 (qE [.string (ki r)]) 34,bu bs 1 (qE [.slice s l.length c]) 22,bu bk 1 (qE [Iv (pick:Int)]) 3,bu bp 1 (qE [Iv (pool:Int)]) 3,qG eI 3 1 s c l])
  (hv:kg s c l) (hP:P<pool) (ha:pool≤60) (hl:l.length+(m+1)=pick) (hm:pick≤60) (hr:Fit r):
  Rt 133 [Iv ((pool-P:Nat):Int),.pointer (Ad bp),.pointer (Ad bk),.pointer (Ad bs),.pointer (Ad bl)] w
   (fun _ w'=>(r<ch P m→∃s' c',kg s' c' (l++[((pool-P:Nat):Int)])∧Hp w0 M w' [bu bl 1 (qE [.string (ki r)]) 34,bu bs 1 (qE [.slice s' (l++[((pool-P:Nat):Int)]).length c']) 22,bu bk 1 (qE [Iv (pick:Int)]) 3,bu bp 1 (qE [Iv (pool:Int)]) 3,qG eI 3 1 s' c' (l++[((pool-P:Nat):Int)])])∧
    (¬r<ch P m→Hp w0 M w' [bu bl 1 (qE [.string (ki (r-ch P m))]) 34,bu bs 1 (qE [.slice s l.length c]) 22,bu bk 1 (qE [Iv (pick:Int)]) 3,bu bp 1 (qE [Iv (pool:Int)]) 3,qG eI 3 1 s c l])):=by
 have nh:_=ch P m:=Gx O1;have hK:Fit (ch P m):=Xy O1;refine km.j6 func133 O ntmps133 O (qA ?_);refine ke (jN O O) (qF (b:=P) (by rw[qK O1 O1];omega)) (tM (m+1) ?_);refine tN m ?_;refine tC (Bz P m _ O1) fun w1 hp=>?_;rw[nh];refine tD (MD r _ _ hr hK) fun w2 hp=>?_;refine tI (fun h=>?_) fun h=>?_
 ·refine Cc fun w hp=>?_
  exact xK O ⟨_,O,fun h2=>absurd h2 O1,fun _=>hp⟩
 refine qA ?_;refine tF (jC hp O O O O O O O) fun w3 nb hp=>AB (jV eI l (pool-P:Nat) hp 5 0 O O O O O O (fun _=>O) O O O hv O O O1) fun w4 s' c'⟨hn,hp⟩=>?_;have hp:=hp.E;refine Cc fun w hp=>?_
 exact xK O ⟨_,O,fun _=>⟨s',c',hn,hp⟩,fun h2=>absurd h2 O1⟩
theorem XY(N K:Nat)(n:Nat)(w:World)(hh:N≤60)(hm:K≤N)(ha:n<ch N K):
  Rt 67 [Iv (N:Int),Iv (K:Int),.string (ki n)] w (fun v w'=>∃s c,v= .tuple #[.slice s (un N N K n).length c,.bool true]∧kg s c (un N N K n)∧Hp w [] w' [qG eI 3 1 s c (un N N K n)]):=by
 have hz:_=ch N K:=Gx O1;have hK:Fit (AO N K):=Fit.of (k:=61) (bW (MT O1) O2) O2;have hn:Fit n:=hK.le O1;refine km.j6 func67 O ntmps67 O ?_;have hp:=(Hp.start (M:=[]) (w:=w)).j7 eI 3 1;refine qR ?_;refine tQ fun w1 bp hp=>?_;refine tQ fun w2 bk hp=>?_;have hp:Hp w [] w2 [bu bk 1 (qE [.int _ K]) 3,bu bp 1 (qE [.int _ _]) 3,_]:=hp;refine Cj ?_;refine AP ?_;refine ke (zQ O O) (qV (aB O1)) (jM ?_);refine BT ?_;apply vX;rfl;rfl;exact xJ O O;exact qV (aB O1);refine tE (Bz N K _ O1) fun w3 hp=>?_;refine tC (BY n _ _ hn hK) fun w4 hp=>?_;rw[if_pos O1];refine jL (qN O ?_);refine qR ?_;refine tQ fun w5 bs hp=>?_;refine AP ?_;refine tQ fun w6 bl hp=>?_;refine tS fun w7 hp=>?_;have hp:Hp w [] w7 [bu bl 1 _ 34,bu bs 1 (qE [.slice _ ([]:List Int).length 0]) 22,_,_,_]:=hp.I 0 [.string _] O O;refine qA ?_;refine qQ ([11]++List.range' 28 9) (fun(P:Nat) F=>F.put 11 (.int _ (N-P+1)))
  (fun P w'=>P≤N∧∃m r l s c,l.length+m=K∧r≤n∧r<ch P m∧l++un N P m r=un N N K n∧kg s c l∧Hp w [] w' [bu bl 1 (qE [.string (ki r)]) 34,bu bs 1 (qE [.slice s l.length c]) 22,_,_,qG eI 3 1 s c l])
  (fun P=>P) N (qB (ka.eq .refl) (qF O1)) ⟨O1,K,n,[],_,0,O4,O1,ha,O,kg.nil,hp⟩ ?_
 clear hp;rintro u P w8 ⟨hP,m,r,l,s,c,cD,nv,ht,hl,hv,hp⟩;refine tI (fun h3=>?_) fun h3=>?_
 ·obtain⟨m,rfl⟩:∃m',m=m'+1:=⟨m-1,O1⟩;obtain⟨P,rfl⟩:∃P',P=P'+1:=by
   cases P with
   |zero=>simp[ch] at ht
   |succ P=>simp
  have ev:(N:Int)-(P+1:Nat)+1=(N-P:Nat):=O1;rw[ev];rw[un] at hl;rw[ch] at ht;refine tL (zRl N K P m r l bp bk bs bl s c hp hv O1 O1 cD O1 (hn.le nv)) ?_;rintro _ w9 ⟨hA,hj⟩;by_cases hc:r<ch P m
  ·have⟨s',c',hg,hp⟩:=hA hc;rw[if_pos hc] at hl;refine Ae ?_;exact⟨P,qB O5 (qF O1),⟨O1,m,r,_,s',c',O6,nv,hc,O6,hg,hp⟩,O1⟩
  have hp:=hj hc;rw[if_neg hc] at hl;refine Ae ?_;exact⟨P,qB O5 (qF O1),⟨O1,_,_,_,s,c,O1,O1,O1,hl,hv,hp⟩,O1⟩
 obtain rfl:m=0:=O1;rw[WR,bO] at hl;subst hl;refine qA ?_;exact xU O O O ⟨_,O,s,c,O,hv,hp.j4 [4] _ O O⟩
variable{s:Option Addr}{w':World}
structure Wd(s:ByteArray):Prop where
 lo:1≤s.size
 hi:s.size≤30
 at_:∀i,i<s.size→97≤CK s i∧CK s i≤122
def eT(t:Int×Int):List Value:=[Iv t.1,Iv t.2]
def Hz(q:ByteArray×Int×Int):Value:=.agg (DU q).toArray
def F7(t:Int×Int):Value:=.agg (eT t).toArray
def F8(p:ByteArray×Int):Value:=.agg (eP p).toArray
def qOp(x:Int):Value:=Iv x
def M8(s:ByteArray):Value:=.string s
def mB{α:Type}[DecidableEq α](S:List α)(a:α):Bool:=decide (a∈S)
structure JD{α:Type}[DecidableEq α](K:Ar α)(kf:FuncId)(kb sb mb:Nat)(S:List α)(w:World):Prop where
 key:w.cell? ⟨kb,0,none⟩=some (.func (.func kf) #[] #[])
 seen:w.cell? ⟨sb,0,none⟩=some (.map (some mb))
 map:∃o,w.heap[mb]? =some o∧Fi K (uE fun a=>mB S a) o
section
variable[DecidableEq α]{K:Ar α}
theorem JD.j1{kf kb sb mb S}(h:JD K kf kb sb mb S w)(hk:ax [] w w'):JD K kf kb sb mb S w':=by
 refine⟨hk.cell h.key O4,hk.cell h.seen O4,?_⟩;have⟨o,ho,hm⟩:=h.map;exact⟨o,by rw[hk.block mb (aM.1 ho).1 O4];exact ho,hm⟩
theorem Xp{ks:List α}{k:α}(h:ks[i]? =some k):(fun a=>decide (a=k)||mB (ks.take i) a)=fun a=>mB (ks.take (i+1)) a:=by
 funext a;unfold mB;rw[kZ,h,iA];grind
theorem JC{ks:List α}{k:α}(hn:ks.Nodup)(h:ks[i]? =some k):mB (ks.take i) k=false:=by
 refine aB fun hm=>?_
 have⟨j,hj,e⟩:=lL.1 hm;have⟨hi,e2⟩:=aI.1 h;have:=(oU hn).1 (e.trans e2.symm);omega
theorem JD.step{kf:FuncId}{kb sb mb:Nat}{ks:List α}{k:α}{i:Nat}{w'}(h:ks[i]? =some k)(h1:w'.cell? ⟨kb,0,none⟩=some (.func (.func kf) #[] #[]))(h2:w'.cell? ⟨sb,0,none⟩=some (.map (some mb)))(h3:∃o,w'.heap[mb]? =some o∧Fi K (uE fun a=>decide (a=k)||mB (ks.take i) a) o):JD K kf kb sb mb (ks.take (i+1)) w':=by
 rw[Xp h] at h3;exact⟨h1,h2,h3⟩
end
theorem JI{enc:α→List Value}{l}(hs:ig w0 k enc s l)(hk:∀x,0<(enc x).length){mb}(hm:w0.heap.size≤mb)(xr:l≠[])(b o)(hb:s=some ⟨b,o,none⟩):b∉[mb]:=by
 have h0:=lB.2 xr;have⟨b',o',e1,e2⟩:=hs 0 _ (aA h0);have:=iL w0 _ (e2 0 _ (aA (hk _)));grind
theorem HE(n lo hi w)(h1:lo≤n)(h2:n≤hi):Rk 209 [Iv n,Iv lo,Iv hi] w (Iv 0):=by
 refine tW func209 ntmps209 fun hp=>?_;refine qA ?_;refine xD O (fun h=>absurd h O6) (fun h=>tV ?_);exact FM
theorem Qg(s w)(hw:Wd s):Rk 290 [.string s] w (.bool true):=by
 have h1:=hw.lo;have ha:=hw.hi;refine tW func290 ntmps290 fun hp=>?_;refine qA ?_;refine xD O (fun h=>absurd h O6) (fun h=>qA (qQ ([2,3]++List.range' 14 14) (fun(i:Nat) F=>F.put 14 (.int _ i)) (fun i w'=>i≤s.size∧Hp w [] w' []) (fun i=>s.size-i) 0 (qB (ka.eq .refl) O) ⟨O1,hp⟩ ?_));clear hp;rintro u i w ⟨hi,hp⟩;refine tI (fun h2=>?_) fun h2=>?_
 ·have hl:i<s.size:=O1;have hb:=hw.at_ i O1;refine qA ?_;refine xD O (fun h=>absurd h O6) (fun h=>tM (i+1) ?_);exact KJ
 exact nj
theorem zQv(f:FuncId)(my:Array Value)(he:qI prog f)(M:List Nat)(J:Nat→World→Prop)(s:Option Addr)(c:Nat)(l:List Int)(w:World)(hn:l.length≤1000000)
  (hs:ig w 1 eI s l) (hM:l≠[]→∀b o,s=some ⟨b,o,none⟩→b∉M) (h0:J 0 w) (xy:∀i w' ha,J i w'→ax [] w' ha→J i ha)
  (hP:∀i x w',l[i]? =some x→J i w'→Rt f (qOp x::my.toList) w' (fun v ha=>v= .bool true∧ax M w' ha∧J (i+1) ha)):
  Rt 347 [.slice s l.length c,.func (.func f) #[] my] w (fun v w'=>v= .bool true∧ax M w w'∧J l.length w'):=by
 refine tW func347 ntmps347 fun hp=>?_;refine qA (qQ ([4,6]++List.range' 9 9) (fun(i:Nat) F=>F.put 9 (.int _ i)) (fun i w'=>i≤l.length∧ax M w w'∧J i w') (fun i=>l.length-i) 0 (qB (ka.eq .refl) O) ⟨O1,.refl,h0⟩ ?_);clear hp;rintro u i w1 ⟨hi,hk,hJ⟩;have hp:=Hp.start (M:=[]) (w:=w1);refine tI (fun h=>?_) fun h=>?_
 ·exact mAg
 exact Mq
theorem zR5(x w):Rk 292 [qOp x] w (qOp x):=by
 refine tW func292 ntmps292 fun hp=>?_;exact nj
theorem zQu(x kb sb mb S w)(hJ:JD AG 292 kb sb mb S w)(y0:kb≠mb)(dq:sb≠mb)(hS:mB S x=false):
  Rt 348 [qOp x,.pointer (Ad kb),.pointer (Ad sb)] w (fun v w'=>v= .bool true∧ax [mb] w w'∧w'.cell? ⟨kb,0,none⟩=some (.func (.func 292) #[] #[])∧w'.cell? ⟨sb,0,none⟩=some (.map (some mb))∧∃o,w'.heap[mb]? =some o∧Fi AG (uE fun a=>decide (a=x)||mB S a) o):=by
 have⟨o,ho,hm⟩:=hJ.map;have fc:kb∉[mb]:=by simp[y0]
 have yq:sb∉[mb]:=by simp[dq]
 have zy:=hJ.key;have zw:=hJ.seen;refine km.j6 func348 O ntmps348 O ?_;have hp:Hp w [mb] w [yA _ mb _]:=Hp.start.k9 O4 ho hm O4;refine qA ?_;refine tR (JX underlying89 O O O1) ?_;refine tD (zR5 x _) fun w2 hp=>?_;refine qA (tR (qS O O (hp.H zw yq)) ?_);refine qA (ke (Dw hp 0 O O O (xG O).1 (xG (t:=162) O).2.1 (xG (t:=162) O).2.2) ((FK _ _).trans (aK _ hS)) ?_);refine qA ?_;refine tJ (tR (qS O O (hp.H zw yq)) ?_);refine qA (tO (G0 hp 0 O O O O (xG O).1 (xG (t:=162) O).2.1) fun w3 hp=>?_);exact mDq
theorem zR6(s:Option Addr)(c:Nat)(l:List Int)(w:World)(hn:l.length≤1000000)(hs:ig w 1 eI s l)(df:(l).Nodup):
  Rk 291 [.slice s l.length c,.func (.func 292) #[] #[]] w (.bool true):=by
 refine tW func291 ntmps291 fun hp=>?_;refine qA ?_;refine tQ fun w1 kb hp=>?_;refine qA (tF (yS AG hp) fun w2 mb hp=>?_);refine tQ fun w3 sb hp=>?_;refine tS fun w4 hp=>?_;refine qA ?_;have zy:w4.cell? ⟨kb,0,_⟩=some (.func _ _ _):=hp.J 2 O O;have zw:w4.cell? ⟨sb,0,_⟩=some (.map _):=hp.J 0 O O;have zx:=hp.N 1 _ O mb O;have y0:kb≠mb:=fun e=>hp.dis 2 1 _ _ O O O1 kb O (by rw[e];rfl)
 have dq:sb≠mb:=fun e=>hp.dis 0 1 _ _ O O O1 sb O (by rw[e];rfl)
 have h5:=by
  exact Ml
 have hF:=zQv 348 #[_,_] zEa _ (fun i w'=>JD _ 292 kb sb mb ((l).take i) w') s c l w4 hn (hs.i7 hp.Z) (JI hs (fun _=>show 0<1 by decide) h5)
  ⟨zy,zw,by exact zx⟩ (fun i w' ha h hk=>h.j1 hk)
  (fun i x w' hx hJ=>by
   have hg:=hx;refine(zQu x kb sb mb _ w' hJ y0 dq (JC df hg)).mono ?_;rintro v ha ⟨rfl,hk,h1,h2,h3⟩
   exact⟨O,hk,.step hg h1 h2 h3⟩)
 exact Mr
theorem VV(f:FuncId)(my:Array Value)(he:qI prog f)(M:List Nat)(J:Nat→World→Prop)(s:Option Addr)(c:Nat)(l:List (Int×Int))(w:World)(hn:l.length≤1000000)
  (hs:ig w 2 eT s l) (hM:l≠[]→∀b o,s=some ⟨b,o,none⟩→b∉M) (h0:J 0 w) (xy:∀i w' ha,J i w'→ax [] w' ha→J i ha)
  (hP:∀i x w',l[i]? =some x→J i w'→Rt f (F7 x::my.toList) w' (fun v ha=>v= .bool true∧ax M w' ha∧J (i+1) ha)):
  Rt 293 [.slice s l.length c,.func (.func f) #[] my] w (fun v w'=>v= .bool true∧ax M w w'∧J l.length w'):=by
 refine tW func293 ntmps293 fun hp=>?_;refine qA (qQ ([4,6]++List.range' 9 9) (fun(i:Nat) F=>F.put 9 (.int _ i)) (fun i w'=>i≤l.length∧ax M w w'∧J i w') (fun i=>l.length-i) 0 (qB (ka.eq .refl) O) ⟨O1,.refl,h0⟩ ?_);clear hp;rintro u i w1 ⟨hi,hk,hJ⟩;have hp:=Hp.start (M:=[]) (w:=w1);refine tI (fun h=>?_) fun h=>?_
 ·have hl:i<l.length:=O1;have hx:=aA hl;have hq:=hs.j1 hk hM;have⟨b0,o0,ra,yk⟩:=hq i _ hx;generalize l[i]=x at hx yk;refine qA (ke (qL O O O O O1) (O:_=F7 x) ?_);refine tQ fun w2 b6 hp=>?_;refine tS fun w3 hp=>?_;refine qR ?_;refine jM (ke (qL O O O O (hp.i6 0 O O)) (O:_=F7 x) ?_);exact UV
 exact Mq
theorem zR2(x w):Rk 296 [F7 x] w (Iv x.1):=by
 refine tW func296 ntmps296 fun hp=>?_;exact P2
theorem zQt(x kb sb mb S w)(hJ:JD AG 296 kb sb mb S w)(y0:kb≠mb)(dq:sb≠mb)(hS:mB S x.1=false):
  Rt 349 [F7 x,.pointer (Ad kb),.pointer (Ad sb)] w (fun v w'=>v= .bool true∧ax [mb] w w'∧w'.cell? ⟨kb,0,none⟩=some (.func (.func 296) #[] #[])∧w'.cell? ⟨sb,0,none⟩=some (.map (some mb))∧∃o,w'.heap[mb]? =some o∧Fi AG (uE fun a=>decide (a=x.1)||mB S a) o):=by
 have⟨o,ho,hm⟩:=hJ.map;have fc:kb∉[mb]:=by simp[y0]
 have yq:sb∉[mb]:=by simp[dq]
 have zy:=hJ.key;have zw:=hJ.seen;refine km.j6 func349 O ntmps349 O ?_;have hp:Hp w [mb] w [yA _ mb _]:=Hp.start.k9 O4 ho hm O4;refine qR ?_;refine tQ fun w1 b3 hp=>?_;refine qA (tR (JX underlying371 O O (hp.H zy fc)) ?_);refine ke (qL O O O O (hp.i6 0 O O)) (O:_=F7 x) (tC (zR2 x _) fun w2 hp=>?_);refine qA (tR (qS O O (hp.H zw yq)) ?_);refine qA (ke (Dw hp 1 O O O (xG O).1 (xG (t:=162) O).2.1 (xG (t:=162) O).2.2) ((FK _ _).trans (aK _ hS)) ?_);refine qA ?_;refine tJ (tR (qS O O (hp.H zw yq)) ?_);refine qA (tO (G0 hp 1 O O O O (xG O).1 (xG (t:=162) O).2.1) fun w3 hp=>?_);refine tV ?_;exact⟨_,O,O,hp.Z,hp.H zy fc,hp.H zw yq,hp.N 1 _ O mb O⟩
theorem zR3(s:Option Addr)(c:Nat)(l:List (Int×Int))(w:World)(hn:l.length≤1000000)(hs:ig w 2 eT s l)(df:(l.map Prod.fst).Nodup):
  Rk 295 [.slice s l.length c,.func (.func 296) #[] #[]] w (.bool true):=by
 refine tW func295 ntmps295 fun hp=>?_;refine qA ?_;refine tQ fun w1 kb hp=>?_;refine qA (tF (yS AG hp) fun w2 mb hp=>?_);refine tQ fun w3 sb hp=>?_;refine tS fun w4 hp=>?_;refine qA ?_;have zy:w4.cell? ⟨kb,0,_⟩=some (.func _ _ _):=hp.J 2 O O;have zw:w4.cell? ⟨sb,0,_⟩=some (.map _):=hp.J 0 O O;have zx:=hp.N 1 _ O mb O;have y0:kb≠mb:=fun e=>hp.dis 2 1 _ _ O O O1 kb O (by rw[e];rfl)
 have dq:sb≠mb:=fun e=>hp.dis 0 1 _ _ O O O1 sb O (by rw[e];rfl)
 have h5:=by
  exact Ml
 have hF:=VV 349 #[_,_] jQg _ (fun i w'=>JD AG 296 kb sb mb ((l.map _).take i) w') s c l w4 hn (hs.i7 hp.Z) (JI hs (fun _=>show 0<2 by decide) h5)
  ⟨zy,zw,by exact zx⟩ (fun i w' ha h hk=>h.j1 hk)
  (fun i x w' hx hJ=>by
   have hg:(l.map Prod.fst)[i]? =some (x.1):=by rw[bH,hx];rfl
   refine(zQt x kb sb mb _ w' hJ y0 dq (JC df hg)).mono ?_;rintro v ha ⟨rfl,hk,h1,h2,h3⟩
   exact⟨O,hk,.step hg h1 h2 h3⟩)
 exact Mr
theorem QK(f:FuncId)(my:Array Value)(he:qI prog f)(M:List Nat)(J:Nat→World→Prop)(s:Option Addr)(c:Nat)(l:List (ByteArray×Int))(w:World)(hn:l.length≤1000000)
  (hs:ig w 2 eP s l) (hM:l≠[]→∀b o,s=some ⟨b,o,none⟩→b∉M) (h0:J 0 w) (xy:∀i w' ha,J i w'→ax [] w' ha→J i ha)
  (hP:∀i x w',l[i]? =some x→J i w'→Rt f (F8 x::my.toList) w' (fun v ha=>v= .bool true∧ax M w' ha∧J (i+1) ha)):
  Rt 297 [.slice s l.length c,.func (.func f) #[] my] w (fun v w'=>v= .bool true∧ax M w w'∧J l.length w'):=by
 refine tW func297 ntmps297 fun hp=>?_;refine qA (qQ ([4,6]++List.range' 9 9) (fun(i:Nat) F=>F.put 9 (.int _ i)) (fun i w'=>i≤l.length∧ax M w w'∧J i w') (fun i=>l.length-i) 0 (qB (ka.eq .refl) O) ⟨O1,.refl,h0⟩ ?_);clear hp;rintro u i w1 ⟨hi,hk,hJ⟩;have hp:=Hp.start (M:=[]) (w:=w1);refine tI (fun h=>?_) fun h=>?_
 ·have hl:i<l.length:=O1;have hx:=aA hl;have hq:=hs.j1 hk hM;have⟨b0,o0,ra,yk⟩:=hq i _ hx;generalize l[i]=x at hx yk;refine qA (ke (qL O O O O O1) (O:_=F8 x) ?_);refine tQ fun w2 b6 hp=>?_;refine tS fun w3 hp=>?_;refine qR ?_;refine jM (ke (qL O O O O (hp.i6 0 O O)) (O:_=F8 x) ?_);exact UV
 exact Mq
theorem zQy(x w):Rk 301 [F8 x] w (.string x.1):=by
 refine tW func301 ntmps301 fun hp=>?_;exact P2
theorem zQs(x kb sb mb S w)(hJ:JD nk 301 kb sb mb S w)(y0:kb≠mb)(dq:sb≠mb)(hS:mB S x.1=false):
  Rt 350 [F8 x,.pointer (Ad kb),.pointer (Ad sb)] w (fun v w'=>v= .bool true∧ax [mb] w w'∧w'.cell? ⟨kb,0,none⟩=some (.func (.func 301) #[] #[])∧w'.cell? ⟨sb,0,none⟩=some (.map (some mb))∧∃o,w'.heap[mb]? =some o∧Fi nk (uE fun a=>decide (a=x.1)||mB S a) o):=by
 have⟨o,ho,hm⟩:=hJ.map;have fc:kb∉[mb]:=by simp[y0]
 have yq:sb∉[mb]:=by simp[dq]
 have zy:=hJ.key;have zw:=hJ.seen;refine km.j6 func350 O ntmps350 O ?_;have hp:Hp w [mb] w [yA _ mb _]:=Hp.start.k9 O4 ho hm O4;refine qR ?_;refine tQ fun w1 b3 hp=>?_;refine qA (tR (JX underlying375 O O (hp.H zy fc)) ?_);refine ke (qL O O O O (hp.i6 0 O O)) (O:_=F8 x) (tC (zQy x _) fun w2 hp=>?_);exact mAf
theorem zQz(s:Option Addr)(c:Nat)(l:List (ByteArray×Int))(w:World)(hn:l.length≤1000000)(hs:ig w 2 eP s l)(df:(l.map Prod.fst).Nodup):
  Rk 300 [.slice s l.length c,.func (.func 301) #[] #[]] w (.bool true):=by
 refine tW func300 ntmps300 fun hp=>?_;refine qA ?_;refine tQ fun w1 kb hp=>?_;refine qA (tF (yS nk hp) fun w2 mb hp=>?_);refine tQ fun w3 sb hp=>?_;refine tS fun w4 hp=>?_;refine qA ?_;have zy:w4.cell? ⟨kb,0,_⟩=some (.func _ _ _):=hp.J 2 O O;have zw:w4.cell? ⟨sb,0,_⟩=some (.map _):=hp.J 0 O O;have zx:=hp.N 1 _ O mb O;have y0:kb≠mb:=fun e=>hp.dis 2 1 _ _ O O O1 kb O (by rw[e];rfl)
 have dq:sb≠mb:=fun e=>hp.dis 0 1 _ _ O O O1 sb O (by rw[e];rfl)
 have h5:=by
  exact Ml
 have hF:=QK 350 #[.pointer (Ad kb),.pointer (Ad sb)] zE9 [mb] (fun i w'=>JD nk 301 kb sb mb ((l.map Prod.fst).take i) w') s c l w4 hn (hs.i7 hp.Z) (JI hs (fun _=>show 0<2 by decide) h5)
  ⟨zy,zw,by exact zx⟩ (fun i w' ha h hk=>h.j1 hk)
  (fun i x w' hx hJ=>by
   have hg:(l.map Prod.fst)[i]? =some (x.1):=by rw[bH,hx];rfl
   refine(zQs x kb sb mb _ w' hJ y0 dq (JC df hg)).mono ?_;rintro v ha ⟨rfl,hk,h1,h2,h3⟩
   exact⟨O,hk,.step hg h1 h2 h3⟩)
 exact Mr
theorem U6(f:FuncId)(my:Array Value)(he:qI prog f)(M:List Nat)(J:Nat→World→Prop)(s:Option Addr)(c:Nat)(l:List (ByteArray×Int×Int))(w:World)(hn:l.length≤1000000)
  (hs:ig w 3 DU s l) (hM:l≠[]→∀b o,s=some ⟨b,o,none⟩→b∉M) (h0:J 0 w) (xy:∀i w' ha,J i w'→ax [] w' ha→J i ha)
  (hP:∀i x w',l[i]? =some x→J i w'→Rt f (Hz x::my.toList) w' (fun v ha=>v= .bool true∧ax M w' ha∧J (i+1) ha)):
  Rt 302 [.slice s l.length c,.func (.func f) #[] my] w (fun v w'=>v= .bool true∧ax M w w'∧J l.length w'):=by
 refine tW func302 ntmps302 fun hp=>?_;refine qA (qQ ([4,6]++List.range' 9 9) (fun(i:Nat) F=>F.put 9 (.int _ i)) (fun i w'=>i≤l.length∧ax M w w'∧J i w') (fun i=>l.length-i) 0 (qB (ka.eq .refl) O) ⟨O1,.refl,h0⟩ ?_);clear hp;rintro u i w1 ⟨hi,hk,hJ⟩;have hp:=Hp.start (M:=[]) (w:=w1);refine tI (fun h=>?_) fun h=>?_
 ·have hl:i<l.length:=O1;have hx:=aA hl;have hq:=hs.j1 hk hM;have⟨b0,o0,ra,yk⟩:=hq i _ hx;generalize l[i]=x at hx yk;refine qA (ke (qL O O O O O1) (O:_=Hz x) ?_);refine tQ fun w2 b6 hp=>?_;refine tS fun w3 hp=>?_;refine qR ?_;refine jM (ke (qL O O O O (hp.i6 0 O O)) (O:_=Hz x) ?_);exact UV
 exact Mq
theorem zAe(x w):Rk 306 [Hz x] w (.string x.1):=by
 refine tW func306 ntmps306 fun hp=>?_;exact P2
theorem jZy(x kb sb mb S w)(hJ:JD nk 306 kb sb mb S w)(y0:kb≠mb)(dq:sb≠mb)(hS:mB S x.1=false):
  Rt 351 [Hz x,.pointer (Ad kb),.pointer (Ad sb)] w (fun v w'=>v= .bool true∧ax [mb] w w'∧w'.cell? ⟨kb,0,none⟩=some (.func (.func 306) #[] #[])∧w'.cell? ⟨sb,0,none⟩=some (.map (some mb))∧∃o,w'.heap[mb]? =some o∧Fi nk (uE fun a=>decide (a=x.1)||mB S a) o):=by
 have⟨o,ho,hm⟩:=hJ.map;have fc:kb∉[mb]:=by simp[y0]
 have yq:sb∉[mb]:=by simp[dq]
 have zy:=hJ.key;have zw:=hJ.seen;refine km.j6 func351 O ntmps351 O ?_;have hp:Hp w [mb] w [yA _ mb _]:=Hp.start.k9 O4 ho hm O4;refine qR ?_;refine tQ fun w1 b3 hp=>?_;refine qA (tR (JX underlying379 O O (hp.H zy fc)) ?_);refine ke (qL O O O O (hp.i6 0 O O)) (O:_=Hz x) (tC (zAe x _) fun w2 hp=>?_);exact mAf
theorem zAf(s:Option Addr)(c:Nat)(l:List (ByteArray×Int×Int))(w:World)(hn:l.length≤1000000)(hs:ig w 3 DU s l)(df:(l.map Prod.fst).Nodup):
  Rk 305 [.slice s l.length c,.func (.func 306) #[] #[]] w (.bool true):=by
 refine tW func305 ntmps305 fun hp=>?_;refine qA ?_;refine tQ fun w1 kb hp=>?_;refine qA (tF (yS nk hp) fun w2 mb hp=>?_);refine tQ fun w3 sb hp=>?_;refine tS fun w4 hp=>?_;refine qA ?_;have zy:w4.cell? ⟨kb,0,_⟩=some (.func _ _ _):=hp.J 2 O O;have zw:w4.cell? ⟨sb,0,_⟩=some (.map _):=hp.J 0 O O;have zx:=hp.N 1 _ O mb O;have y0:kb≠mb:=fun e=>hp.dis 2 1 _ _ O O O1 kb O (by rw[e];rfl)
 have dq:sb≠mb:=fun e=>hp.dis 0 1 _ _ O O O1 sb O (by rw[e];rfl)
 have h5:=by
  exact Ml
 have hF:=U6 351 #[_,_] jQf _ (fun i w'=>JD nk 306 kb sb mb ((l.map _).take i) w') s c l w4 hn (hs.i7 hp.Z) (JI hs (fun _=>show 0<3 by decide) h5)
  ⟨zy,zw,by exact zx⟩ (fun i w' ha h hk=>h.j1 hk)
  (fun i x w' hx hJ=>by
   have hg:(l.map Prod.fst)[i]? =some (x.1):=by rw[bH,hx];rfl
   refine(jZy x kb sb mb _ w' hJ y0 dq (JC df hg)).mono ?_;rintro v ha ⟨rfl,hk,h1,h2,h3⟩
   exact⟨O,hk,.step hg h1 h2 h3⟩)
 exact Mr
theorem UZ(f:FuncId)(my:Array Value)(he:qI prog f)(M:List Nat)(J:Nat→World→Prop)(s:Option Addr)(c:Nat)(l:List ByteArray)(w:World)(hn:l.length≤1000000)
  (hs:ig w 1 eS s l) (hM:l≠[]→∀b o,s=some ⟨b,o,none⟩→b∉M) (h0:J 0 w) (xy:∀i w' ha,J i w'→ax [] w' ha→J i ha)
  (hP:∀i x w',l[i]? =some x→J i w'→Rt f (M8 x::my.toList) w' (fun v ha=>v= .bool true∧ax M w' ha∧J (i+1) ha)):
  Rt 310 [.slice s l.length c,.func (.func f) #[] my] w (fun v w'=>v= .bool true∧ax M w w'∧J l.length w'):=by
 refine tW func310 ntmps310 fun hp=>?_;refine qA (qQ ([4,6]++List.range' 9 9) (fun(i:Nat) F=>F.put 9 (.int _ i)) (fun i w'=>i≤l.length∧ax M w w'∧J i w') (fun i=>l.length-i) 0 (qB (ka.eq .refl) O) ⟨O1,.refl,h0⟩ ?_);clear hp;rintro u i w1 ⟨hi,hk,hJ⟩;have hp:=Hp.start (M:=[]) (w:=w1);refine tI (fun h=>?_) fun h=>?_
 ·exact mAg
 exact Mq
theorem zAc(x w):Rk 312 [M8 x] w (M8 x):=by
 refine tW func312 ntmps312 fun hp=>?_;exact nj
theorem jZx(x kb sb mb S w)(hJ:JD nk 312 kb sb mb S w)(y0:kb≠mb)(dq:sb≠mb)(hS:mB S x=false):
  Rt 353 [M8 x,.pointer (Ad kb),.pointer (Ad sb)] w (fun v w'=>v= .bool true∧ax [mb] w w'∧w'.cell? ⟨kb,0,none⟩=some (.func (.func 312) #[] #[])∧w'.cell? ⟨sb,0,none⟩=some (.map (some mb))∧∃o,w'.heap[mb]? =some o∧Fi nk (uE fun a=>decide (a=x)||mB S a) o):=by
 have⟨o,ho,hm⟩:=hJ.map;have fc:kb∉[mb]:=by simp[y0]
 have yq:sb∉[mb]:=by simp[dq]
 have zy:=hJ.key;have zw:=hJ.seen;refine km.j6 func353 O ntmps353 O ?_;have hp:Hp w [mb] w [yA _ mb _]:=Hp.start.k9 O4 ho hm O4;refine tD (zAc x _) fun w2 hp=>?_;refine qA (tR (qS O O (hp.H zw yq)) ?_);refine qA (ke (Dw hp 0 O O O (kV O).1 (kV (t:=153) O).2.1 (kV (t:=153) O).2.2) ((FK _ _).trans (aK _ hS)) ?_);refine qA ?_;refine tJ (tR (qS O O (hp.H zw yq)) ?_);refine qA (tO (G0 hp 0 O O O O (kV O).1 (kV (t:=153) O).2.1) fun w3 hp=>?_);exact mDq
theorem XB(s:Option Addr)(c:Nat)(l:List ByteArray)(w:World)(hn:l.length≤1000000)(hs:ig w 1 eS s l)(df:(l).Nodup):
  Rk 311 [.slice s l.length c,.func (.func 312) #[] #[]] w (.bool true):=by
 refine tW func311 ntmps311 fun hp=>?_;refine qA ?_;refine tQ fun w1 kb hp=>?_;refine qA (tF (yS nk hp) fun w2 mb hp=>?_);refine tQ fun w3 sb hp=>?_;refine tS fun w4 hp=>?_;refine qA ?_;have zy:w4.cell? ⟨kb,0,_⟩=some (.func _ _ _):=hp.J 2 O O;have zw:w4.cell? ⟨sb,0,_⟩=some (.map _):=hp.J 0 O O;have zx:=hp.N 1 _ O mb O;have y0:kb≠mb:=fun e=>hp.dis 2 1 _ _ O O O1 kb O (by rw[e];rfl)
 have dq:sb≠mb:=fun e=>hp.dis 0 1 _ _ O O O1 sb O (by rw[e];rfl)
 have h5:=by
  exact Ml
 have hF:=UZ 353 #[_,_] jQe _ (fun i w'=>JD _ 312 kb sb mb ((l).take i) w') s c l w4 hn (hs.i7 hp.Z) (JI hs (fun _=>show 0<1 by decide) h5)
  ⟨zy,zw,by exact zx⟩ (fun i w' ha h hk=>h.j1 hk)
  (fun i x w' hx hJ=>by
   have hg:=hx;refine(jZx x kb sb mb _ w' hJ y0 dq (JC df hg)).mono ?_;rintro v ha ⟨rfl,hk,h1,h2,h3⟩
   exact⟨O,hk,.step hg h1 h2 h3⟩)
 exact Mr
variable{P:List (ByteArray×Int)}{T:List (Int×Int)}{d:DW}
def BM:List (Int×Int)→Int
 |[]=>0
 |t::l=>t.2+BM l
structure Ho(d:DW)(T:List (Int×Int)):Prop where
 po:1≤d.po∧d.po≤60
 pi:1≤d.pi∧d.pi≤10∧d.pi≤d.po
 l:1≤T.length∧T.length≤12
 tb:∀t∈T,0≤t.1∧t.1≤d.pi∧1≤t.2∧t.2≤100
 nd:(T.map Prod.fst).Nodup
 sum:BM T≤100
structure BOK(d:DW)(P:List (ByteArray×Int)):Prop where
 l:1≤P.length∧P.length≤12
 pb:∀p∈P,Wd p.1∧1≤p.2∧p.2≤1000
 nd:(P.map Prod.fst).Nodup
 cl:0≤d.cl∧d.cl≤9
structure POK(d:DW):Prop where
 sz:1≤d.sz∧d.sz≤40
 lq:d.Q.length≤12
 Q:∀q∈d.Q,Wd q.1∧0≤q.2.1∧q.2.1≤q.2.2∧q.2.2≤d.sz
 nd:(d.Q.map Prod.fst).Nodup
structure Hn(d:DW)(T:List (Int×Int))(P:List (ByteArray×Int))(B:List Int):Prop where
 nm:Wd d.nm
 rd:1≤d.rd∧d.rd≤1000000000
 pr:0≤d.pr∧d.pr≤1000000
 mT:d.mT=T.length
 mP:d.mP=P.length
 mB:d.mB=B.length
 bl:B.length≤40
 bn:B.Nodup
 kd:d.kd=1∨d.kd=2∨d.kd=3
 k1:d.kd=1→Ho d T
 k2:d.kd=2→BOK d P
 k3:d.kd=3→POK d
 z1:d.kd≠1→d.po=0∧d.pi=0∧T=[]∧d.ro=false
 z2:d.kd≠2→P=[]∧d.cl=0
 z3:d.kd≠3→d.sz=0∧d.Q=[]
structure BB(d:DW)(T:List (Int×Int))(P:List (ByteArray×Int))(B:List Int)(w:World):Prop where
 T:ig w 2 eT d.sT T
 P:ig w 2 eP d.sP P
 Q:ig w 3 DU d.sQ d.Q
 B:ig w 1 eI d.sB B
theorem BB.j1{B}(h:BB d T P B w)(hk:ax [] w w'):BB d T P B w':=⟨h.T.i7 hk,h.P.i7 hk,h.Q.i7 hk,h.B.i7 hk⟩
def QC(i:Nat):FuncId:=([206,207,208]++List.range' 210 9).getD i 0
def K0(i:Nat):Int:=[0,0,0,0,0,1,1,1,2,2,3,3].getD i 0
def clN(i:Nat):ByteArray:=[(⟨#[110,97,109,101]⟩:ByteArray),⟨#[107,105,110,100]⟩,⟨#[114,111,117,110,100]⟩,⟨#[112,114,105,99,101]⟩,⟨#[98,97,114]⟩,⟨#[112,111,111,108]⟩,⟨#[112,105,99,107]⟩,⟨#[116,105,101,114]⟩,⟨#[112,108,97,99,101]⟩,⟨#[99,108,97,115,115]⟩,⟨#[115,105,122,101]⟩,⟨#[113,117,111,116,97]⟩].getD i ⟨#[]⟩
structure VG(w:World)(cb:Nat):Prop where
 name:∀i,i<12→w.cell? ⟨cb,0+i*3+0,none⟩=some (.string (clN i))
 kind:∀i,i<12→w.cell? ⟨cb,0+i*3+1,none⟩=some (Iv (K0 i))
 fn:∀i,i<12→w.cell? ⟨cb,0+i*3+2,none⟩=some (.func (.func (QC i)) #[] #[])
theorem zMg(l t):BM (l++[t])=BM l+t.2:=by
 induction l with
 |nil=>simp[BM]
 |cons x l ih=>simp[mL,BM,ih];omega
theorem Xt{l:List (Int×Int)}{t:Int×Int}(h:l[i]? =some t):BM (l.take (i+1))=BM (l.take i)+t.2:=by
 rw[kZ,h];exact zMg _ _
theorem Q2:∀{l:List (Int×Int)},(∀t∈l,0≤t.2∧t.2≤100)→0≤BM l∧BM l≤100*l.length
 |[],_=>by simp[BM]
 |t::l,h=>by
  have h1:=Q2 (l:=l) (fun x hx=>h x (by simp[hx]));have h2:=h t O4;simp only[BM,cF];omega
theorem zBw(d){T P B}(w)(h:Hn d T P B):Rk 207 [d.v] w (Iv 0):=by
 have xh:=h.mT;have uc:=h.mP;rcases h.kd with hk|hk|hk
 ·have h2:=h.z2 O1;have h3:=h.z3 O1;have hpo:decide (d.po=0)=_:=aB (by have:=(h.k1 hk).po;omega);rw[h2.1] at uc;have hP:=h2.2;have ha:=h3.1;have hQ:=h3.2;have⟨nm,kd,rd,pr,po,pi,sT,mT,cT,ro,sP,mP,cP,cl,sz,sQ,cQ,Q,sB,mB,cB⟩:=d;subst hk uc hP ha hQ;refine tW func207 ntmps207 fun hp=>?_;refine qR ?_;refine tQ fun w1 b hp=>?_;refine jL ?_;rw[hpo];exact Mk
 ·have h1:=h.z1 O1;have h3:=h.z3 O1;have hl:decide ((d.mP:Int)=0)=_:=aB (by have:=(h.k2 hk).l;omega);rw[h1.2.2.1] at xh;have hpo:=h1.1;have hy:=h1.2.1;have py:=h1.2.2.2;have ha:=h3.1;have hQ:=h3.2;have⟨nm,kd,rd,pr,po,pi,sT,mT,cT,ro,sP,mP,cP,cl,sz,sQ,cQ,Q,sB,mB,cB⟩:=d;subst hk hpo hy xh py ha hQ;refine tW func207 ntmps207 fun hp=>?_;refine qR ?_;refine tQ fun w1 b hp=>?_;refine jL ?_;rw[hl];refine jL (qN O ?_);exact Mk
 have h1:=h.z1 O1;have h2:=h.z2 O1;have ha:decide (d.sz=0)=_:=aB (by have:=(h.k3 hk).sz;omega);rw[h1.2.2.1] at xh;rw[h2.1] at uc;have hpo:=h1.1;have hy:=h1.2.1;have py:=h1.2.2.2;have hP:=h2.2;have⟨nm,kd,rd,pr,po,pi,sT,mT,cT,ro,sP,mP,cP,cl,sz,sQ,cQ,Q,sB,mB,cB⟩:=d;subst hk hpo hy xh py uc hP;refine tW func207 ntmps207 fun hp=>?_;refine qR ?_;refine tQ fun w1 b hp=>?_;refine jL ?_;rw[ha];refine jL (qN O ?_);refine jL (qN O ?_);exact Mk
theorem zRt(d:DW)(w:World)(h:1≤d.pi∧d.pi≤10∧d.pi≤d.po):Rk 213 [d.v] w (Iv 0):=by
 refine tW func213 ntmps213 fun hp=>?_;refine qR ?_;refine tQ fun w1 b hp=>?_;refine qA ?_;apply Ax;exact qC O qEf O (HE _ _ _ _ h.1 O1);rintro _ w1 ⟨rfl,hk⟩;have hp:=hp.V hk;exact nj
theorem zBt(d:DW)(B:List Int)(w:World)(hm:d.mB=B.length)(hl:B.length≤40)(hn:B.Nodup)(hB:ig w 1 eI d.sB B):Rk 211 [d.v] w (Iv 0):=by
 refine tW func211 ntmps211 fun hp=>?_;refine qR ?_;refine tQ fun w1 b hp=>?_;have hc:w1.cell? ⟨b,0+12,_⟩=some (.slice _ _ d.cB):=hp.J 0 O O;rw[hm] at hc;refine qA ?_;refine qH O O1 (fun _=>tD (zR6 _ _ _ _ O1 (hB.i7 hp.Z) hn) fun w1 hp=>?_);exact KK
theorem zAh(q w)(h:Wd q.1):Rk 303 [Hz q] w (.bool true):=by
 refine tW func303 ntmps303 fun hp=>?_;refine vK fun w b hp=>?_
 refine tC (Qg _ _ h) fun w1 hp=>?_;exact nj
theorem zR1(p w)(h:Wd p.1):Rk 298 [F8 p] w (.bool true):=by
 refine tW func298 ntmps298 fun hp=>?_;refine vK fun w b hp=>?_
 refine tC (Qg _ _ h) fun w1 hp=>?_;exact nj
theorem zR0(p w)(h1:1≤p.2)(h2:p.2≤1000):Rk 299 [F8 p] w (.bool true):=by
 have d1:decide (p.2≥1)=_:=aD h1;have d2:=aD h2;refine tW func299 ntmps299 fun hp=>?_;refine qR ?_;refine tQ fun w1 b2 hp=>?_;refine jL ?_;rw[d1];refine jL ?_;rw[d2];exact Fq
theorem zAg(q db sz w)(hd:w.cell? ⟨db,0+10,none⟩=some (Iv sz))(h0:0≤q.2.1)(h1:q.2.1≤q.2.2)(h2:q.2.2≤sz):
  Rk 304 [Hz q,.pointer (Ad db)] w (.bool true):=by
 have d0:decide (q.2.1≥0)=_:=aD h0;have d1:=aD h1;have d2:=aD h2;refine tW func304 ntmps304 fun hp=>?_;refine qR ?_;refine tQ fun w1 b2 hp=>?_;refine jL ?_;rw[d0];refine jL ?_;rw[d1];refine jL ?_;rw[d2];exact Fq
theorem zR4(t sb db pi S w)(hb:∃o,w.heap[sb]? =some o∧GS 1 (qE [Iv S]) 3 o)(hd:w.cell? ⟨db,0+5,none⟩=some (Iv pi))(xr:db≠sb)(h0:0≤t.1)(h1:t.1≤pi)(h2:1≤t.2)(h3:t.2≤100)(hS:0≤S∧S≤10000):
  Rt 294 [F7 t,.pointer (Ad sb),.pointer (Ad db)] w (fun v w'=>v= .bool true∧ax [sb] w w'∧∃o,w'.heap[sb]? =some o∧GS 1 (qE [Iv (S+t.2)]) 3 o):=by
 have d0:decide (t.1≥0)=_:=aD h0;have d1:=aD h1;have d2:decide (t.2≥1)=_:=aD h2;have d3:=aD h3;have ng:=Hp.y6 hb;have fu:db∉[sb]:=by simp[xr]
 refine km.j6 func294 O ntmps294 O ?_;have hp:Hp w _ w [bu sb 1 _ 3]:=ng;refine qR ?_;refine tQ fun w1 b3 hp=>?_;refine tB ?_;refine tS fun w2 hp=>?_;refine jL ?_;rw[d0];refine jL ?_;apply vX;rfl;rfl;exact qS O O (hp.H hd fu);exact fI O;refine jL ?_;rw[d1];refine jL ?_;rw[d2];refine jL ?_;rw[d3];exact qM O O ⟨_,O,O,hp.Z,hp.N 1 _ O sb O⟩
theorem zRs(d:DW)(T:List (Int×Int))(w:World)(h:Ho d T)(hm:d.mT=T.length)(hT:ig w 2 eT d.sT T):Rk 214 [d.v] w (Iv 0):=by
 have h1:=h.l;refine tW func214 ntmps214 fun hp=>?_;refine qR ?_;refine tQ fun w1 db hp=>?_;have hp:=hp.I 0 d.L O O;have hp:Hp w [] w1 [bu db 13 _ 28]:=hp;have hc:w1.cell? ⟨db,0+6,_⟩=some (.slice _ _ d.cT):=hp.J 0 O O;rw[hm] at hc;refine qA ?_;refine xD O (fun h=>absurd h O6) (fun _=>qA ?_);refine tQ fun w2 sb hp=>?_;refine tS fun w3 hp=>?_;have hp:=hp.I 0 [.int _ 0] O O;have hp:Hp w [] w3 [bu sb 1 _ 3,_]:=hp;have xr:db≠sb:=fun e=>hp.dis 1 0 _ _ O O O1 db O (by rw[e];rfl)
 have az:=by
  have:=hp.own 0 _ O sb O;exact DT
 have hy:w3.cell? ⟨db,0+5,_⟩=some (.int _ _):=hp.J 1 O O;have hh:w3.cell? ⟨db,0+6,_⟩=some (.slice _ _ d.cT):=hp.J 1 O O;rw[hm] at hh;have ha:∀i,0≤BM (T.take i)∧BM (T.take i)≤10000:=fun i=>by
  have:=Q2 (l:=T.take i) (fun t ht=>by have:=h.tb t (gE ht);omega);grind
 have oj:=hT.i7 hp.Z;refine qA ?_
 (apply Ax;exact qC O jG3 O (VV 294 #[.pointer (Ad sb),.pointer (Ad db)] jR2 [sb] (fun i w'=>w'.cell? ⟨db,0+5,none⟩=some (Iv d.pi)∧∃o,w'.heap[sb]? =some o∧GS 1 (qE [Iv (BM (T.take i))]) 3 o) d.sT d.cT T _ O1 oj (JI hT (fun _=>show 0<2 by decide) az)
  ⟨hy,hp.N 0 _ O sb O⟩ (fun i w' hg hJ hk=>⟨hk.cell hJ.1 O4,by
   have⟨o,ho,hc⟩:=hJ.2
   exact⟨o,by rw[hk.block sb (aM.1 ho).1 O4];exact ho,hc⟩⟩) (fun i x w' hx hJ=>by
   have ht:=h.tb x (aG hx);refine(zR4 x sb db _ _ w' hJ.2 hJ.1 xr ht.1 ht.2.1 ht.2.2.1 ht.2.2.2 (ha i)).mono ?_;rintro v hg ⟨rfl,hk,h3⟩;refine⟨O,hk,hk.cell hJ.1 O6,?_⟩;rw[Xt hx]
   exact h3));rintro _ w4 ⟨rfl,vz,vi,h4⟩)
 have h5:=hp.Z.trans vz O6;have hj:=vz.cell hh O6;rw[dF] at h4;have u1:w4.cell? ⟨sb,0,none⟩=some (Iv (BM T)):=by
  obtain⟨o,ho,rfl⟩:=h4;exact JO ho O2
 have hp:=Hp.start (M:=[]) (w:=w4);have pg:=h.sum;have oP:=ha T.length;rw[dF] at oP;refine AL ?_;refine tC (zR3 _ _ T _ O1 (hT.i7 O1) h.nd) fun w5 hp=>?_;refine AL ?_;refine tC (HE _ _ _ _ oP.1 pg) fun w6 hp=>?_;refine tV ?_;exact⟨_,O,O,h5.trans hp.Z O4⟩
theorem zRr(d P w)(h:BOK d P)(hm:d.mP=P.length)(hP:ig w 2 eP d.sP P):Rk 215 [d.v] w (Iv 0):=by
 have h1:=h.l;refine tW func215 ntmps215 fun hp=>?_;refine qR ?_;refine tQ fun w1 db hp=>?_;have hc:w1.cell? ⟨db,0+8,_⟩=some (.slice _ _ d.cP):=hp.J 0 O O;rw[hm] at hc;refine qA ?_;refine xD O (fun h=>absurd h O6) (fun _=>tL (QK 298 _ (fun _ _=>O3) [] _ _ _ P _ O1 (hP.i7 hp.Z) (fun _ _ _ _=>O4) trivial (fun _ _ _ _ _=>trivial) (fun i x w' hx _=>(zR1 x w' (h.pb x (aG hx)).1).mono (fun v ha ⟨a,b⟩=>⟨a,b,trivial⟩))) ?_);rintro _ w2 ⟨rfl,hk,_⟩;have hp:=hp.V hk;refine qA (qN O ?_);have hc:=hk.cell hc O4;refine qA ?_
 (apply Ax;exact qC O (fun _ _=>O3) O (QK 299 _ (fun _ _=>O3) [] _ _ _ P _ O1 (hP.i7 hp.Z) (fun _ _ _ _=>O4) trivial (fun _ _ _ _ _=>trivial) (fun i x w' hx _=>by
  have hx:=h.pb x (aG hx)
  exact(zR0 x w' hx.2.1 hx.2.2).mono (fun v ha ⟨a,b⟩=>⟨a,b,trivial⟩)));rintro _ w3 ⟨rfl,hk,_⟩;have hp:=hp.V hk)
 refine qA (qN O ?_);have hc:=hk.cell hc O4;refine tD (zQz _ _ P _ O1 (hP.i7 hp.Z) h.nd) fun w4 hp=>?_;exact KK
theorem zBr(d w)(h:POK d)(hQ:ig w 3 DU d.sQ d.Q):Rk 218 [d.v] w (Iv 0):=by
 have hj:=h.lq;refine tW func218 ntmps218 fun hp=>?_;refine qR ?_;refine tQ fun w1 db hp=>?_;refine qA ?_;refine qH O O1 (fun _=>tL (U6 303 _ jQz [] _ _ _ _ _ O1 (hQ.i7 hp.Z) (fun _ _ _ _=>O4) trivial (fun _ _ _ _ _=>trivial) (fun i x w' hx _=>(zAh x w' (h.Q x (aG hx)).1).mono (fun v ha ⟨a,b⟩=>⟨a,b,trivial⟩))) ?_);rintro _ w2 ⟨rfl,hk,_⟩;have hp:=hp.V hk;refine AL ?_
 (apply Ax;exact qC O qWg O (U6 304 _ jQy [] (fun _ w'=>w'.cell? _=some (.int _ _)) _ _ _ _ O1 (hQ.i7 hp.Z) (fun _ _ _ _=>O4) (hp.J 0 O O) (fun _ _ _ h hk=>hk.cell h O4) (fun i x w' hx hJ=>by
  have⟨_,a,b,c⟩:=h.Q x (aG hx)
  exact(zAg x db _ w' hJ a b c).mono (fun v ha ⟨a,b⟩=>⟨a,b,b.cell hJ O4⟩)));rintro _ w3 ⟨rfl,hk,_⟩;have hp:=hp.V hk)
 refine AL ?_;refine tC (zAf _ _ _ _ O1 (hQ.i7 hp.Z) h.nd) fun w4 hp=>?_;exact KK
theorem jWf(w):Rt 157 [] w (fun v w'=>∃b,v= .slice (Ad b) 12 12∧ax [] w w'∧VG w' b):=by
 refine tW func157 ntmps157 fun hp=>?_;refine qA ?_;refine tF (jC hp O O O O O O O) fun w1 b hp=>qA ?_;refine qM O O ⟨_,O,b,O,hp.Z,?_,?_,?_⟩<;>
 ·intro i hi
  match i,hi with
  |0,_|1,_|2,_|3,_|4,_|5,_|6,_|7,_|8,_|9,_|10,_|11,_=>exact hp.J 0 O O
def VB(d:DW)(i:Nat):Bool:=decide (K0 i=0)||decide (K0 i=d.kd)
theorem qCl(d:DW){T P B}(i:Nat)(hg:i<12)(w:World)(hb:VB d i=true)(h:Hn d T P B)(hA:BB d T P B w):qI prog (QC i)∧Rt (QC i) [d.v] w (fun v w'=>v=Iv 0∧ax [] w w'):=by
 have hk:∀k,k≠0→(decide (k=0)||decide _)=true→d.kd=k:=fun k h0 h=>by simpa[h0,eq_comm] using h
 match i,hg with
 |0,_=>exact⟨(fun _ _=>O3),(by refine tW func206 ntmps206 fun hp=>?_;refine qR ?_;refine tQ fun w1 b hp=>?_;refine tD (Qg _ _ h.nm) fun w1 hp=>?_;refine qA ?_;refine tJ ?_;exact qM O O ⟨_,O,O,hp.Z⟩)⟩
 |1,_=>exact⟨(fun _ _=>O3),zBw d w h⟩
 |2,_=>exact⟨(fun _ _=>O3),(by refine tW func208 ntmps208 fun hp=>?_;refine qR ?_;refine tQ fun w1 b hp=>?_;refine tD (HE _ _ _ _ h.rd.1 h.rd.2) fun w1 hp=>?_;refine tV ?_;exact⟨_,O,O,hp.Z⟩)⟩
 |3,_=>exact⟨(fun _ _=>O3),(by refine tW func210 ntmps210 fun hp=>?_;refine qR ?_;refine tQ fun w1 b hp=>?_;refine tD (HE _ _ _ _ h.pr.1 h.pr.2) fun w1 hp=>?_;refine tV ?_;exact⟨_,O,O,hp.Z⟩)⟩
 |4,_=>exact⟨(fun _ _=>O3),zBt d B w h.mB h.bl h.bn hA.B⟩
 |5,_=>exact⟨(fun _ _=>O3),(by refine tW func212 ntmps212 fun hp=>?_;refine qR ?_;refine tQ fun w1 b hp=>?_;refine tD (HE _ _ _ _ (h.k1 (hk 1 O2 hb)).po.1 (h.k1 (hk 1 O2 hb)).po.2) fun w1 hp=>?_;refine tV ?_;exact⟨_,O,O,hp.Z⟩)⟩
 |6,_=>exact⟨(fun _ _=>O3),zRt d w (h.k1 (hk 1 O2 hb)).pi⟩
 |7,_=>exact⟨(fun _ _=>O3),zRs d T w (h.k1 (hk 1 O2 hb)) h.mT hA.T⟩
 |8,_=>exact⟨(fun _ _=>O3),zRr d P w (h.k2 (hk 2 O2 hb)) h.mP hA.P⟩
 |9,_=>exact⟨(fun _ _=>O3),(by refine tW func216 ntmps216 fun hp=>?_;refine qR ?_;refine tQ fun w1 b hp=>?_;refine tD (HE _ _ _ _ (h.k2 (hk 2 O2 hb)).cl.1 (h.k2 (hk 2 O2 hb)).cl.2) fun w1 hp=>?_;refine tV ?_;exact⟨_,O,O,hp.Z⟩)⟩
 |10,_=>exact⟨(fun _ _=>O3),(by refine tW func217 ntmps217 fun hp=>?_;refine qR ?_;refine tQ fun w1 b hp=>?_;refine tD (HE _ _ _ _ (h.k3 (hk 3 O2 hb)).sz.1 (h.k3 (hk 3 O2 hb)).sz.2) fun w1 hp=>?_;refine tV ?_;exact⟨_,O,O,hp.Z⟩)⟩
 |11,_=>exact⟨(fun _ _=>O3),zBr d w (h.k3 (hk 3 O2 hb)) hA.Q⟩
theorem RD(d){T P B}(w)(h:Hn d T P B)(hA:BB d T P B w):Rt 93 [d.v] w (fun v w'=>v= .tuple #[.string ⟨#[]⟩,Iv 0]∧ax [] w w'):=by
 refine tW func93 ntmps93 fun hp=>?_;refine qR ?_;refine tQ fun w1 db hp=>?_;have hp:=hp.I 0 d.L O O;refine tL (jWf _) ?_;rintro _ w2 ⟨cb,rfl,zw,hP⟩;have hp:=hp.V zw;have a8:=hp.Z;have hn:w2.cell? ⟨db,0+1,_⟩=some (.int _ _):=hp.J 0 O O;have hh:=hp.i6 0 O O;clear hp zw;refine qA (qQ ([2,3,5,6]++List.range' 9 24) (fun(i:Nat) F=>F.put 9 (.int _ i)) (fun i w'=>i≤12∧ax [] w2 w') (fun i=>12-i) 0 (qB (ka.eq .refl) O) ⟨O1,.refl⟩ ?_);rintro u i w ⟨hi,hk⟩;have hp:=Hp.u7 hk;refine tI (fun h2=>?_) fun h2=>?_
 ·have hl:i<12:=O1;have vx:=hP.name i hl;have u6:=hP.kind i hl;have ha:=hP.fn i hl;have hS:((!decide (K0 i=0))&&(!decide (K0 i=d.kd)))= !VB d i:=by simp[VB]
  refine qA (tR (qL (vs:=[.string (clN i),Iv (K0 i),.func (.func (QC i)) #[] #[]]) O O O O (fun j v hv=>hp.j3 (by match j,hv with|0,hv=>(cases hv;exact vx)|1,hv=>(cases hv;exact u6)|2,hv=>(cases hv;exact ha)))) ?_);refine tQ fun w4 b5 hp=>?_;refine tS fun w5 hp=>?_;have hp:=hp.I 0 [.string _,.int _ _,.func _ _ _] O O;refine qA (xD O (fun hg=>?_) (fun hg=>?_))
  ·refine Ck ?_;exact⟨_,qB O5 O,⟨O1,hp.Z⟩,O1⟩
  have hb:=by
   have h3:=hS.symm.trans hg;simpa using h3
  refine qA (ke (qL O O O O (fun j v hv=>hp.j3 (hh j v hv))) (O:_=d.v) ?_);have hq:=qCl d i hl _ hb h (hA.j1 (a8.trans hp.Z O4));apply Ax;exact qC O hq.1 O hq.2;rintro _ w6 ⟨rfl,vy⟩;have hp:=hp.V vy;refine Mz ?_;exact⟨_,qB O5 O,⟨O1,hp.Z⟩,O1⟩
 refine qA ?_;exact xU O (fT O) (fI O) ⟨_,O,O,a8.trans hk O4⟩
structure EN where
 e:EW
 Pk:List Int
 Ws:List ByteArray
def C5(p:Int):Int→List Int→Prop
 |_,[]=>True
 |b,x::l=>b<x∧x≤p∧C5 p x l
theorem K9{p}:∀{l:List Int} {b:Int} {i:Nat} {x:Int},C5 p b l→l[i]? =some x→(b::l).getD i 0<x∧x≤p
 |[],_,i,x,_,h=>O6
 |y::l,b,0,x,h,hx=>by
  cases hx;exact⟨h.1,h.2.1⟩
 |y::l,b,i+1,x,h,hx=>K9 (l:=l) (b:=y) (i:=i) h.2.2 hx
structure Jw(d:DW)(P:List (ByteArray×Int))(B:List Int)(x:EN):Prop where
 id:1≤x.e.id∧x.e.id≤1000000000
 bar:x.e.id∉B
 mP:x.e.mP=x.Pk.length
 mW:x.e.mW=x.Ws.length
 k1:d.kd=1→(x.Pk.length:Int)=d.pi∧C5 d.po 0 x.Pk
 k2:d.kd=2→0≤x.e.cl∧x.e.cl≤d.cl∧0≤x.e.fa∧x.e.fa≤1000000000∧x.Ws.length≤P.length∧(∀w∈x.Ws,w∈P.map Prod.fst)∧x.Ws.Nodup
 k3:d.kd=3→x.e.G.length≤12∧(∀g∈x.e.G,Wd g)∧x.e.G.Nodup
 z1:d.kd≠1→x.Pk=[]
 n1:d.kd≠1→x.e.sP=none∧x.e.cP=0
 n3:d.kd≠3→x.e.sG=none∧x.e.cG=0
 z2:d.kd≠2→x.e.cl=0∧x.e.fa=0∧x.Ws=[]
 z3:d.kd≠3→x.e.G=[]
structure E9(x:EN)(w:World):Prop where
 P:ig w 1 eI x.e.sP x.Pk
 W:ig w 1 eS x.e.sW x.Ws
 G:ig w 1 eS x.e.sG x.e.G
theorem E9.j1{x}(h:E9 x w)(hk:ax [] w w'):E9 x w':=⟨h.P.i7 hk,h.W.i7 hk,h.G.i7 hk⟩
structure Ak(d:DW)(T:List (Int×Int))(P:List (ByteArray×Int))(B:List Int)(s:Option Addr)(X:List EN)(w:World):Prop where
 d:BB d T P B w
 l:ig w 6 AR s (X.map EN.e)
 e:∀x∈X,E9 x w
theorem Ak.j1{d T P B s X w w'}(h:Ak d T P B s X w)(hk:ax [] w w'):Ak d T P B s X w':=⟨h.d.j1 hk,h.l.i7 hk,fun x hx=>(h.e x hx).j1 hk⟩
structure Aa(d:DW)(T:List (Int×Int))(P:List (ByteArray×Int))(B:List Int)(X:List EN):Prop where
 e:∀x∈X,Jw d P B x
 nd:(X.map fun x=>x.e.id).Nodup
 l:X.length≤40
 d:Hn d T P B
theorem Rc{enc:α→List Value}{l}(h:ig w k enc s l)(hs:s=none):l=[]:=by
 cases l with
 |nil=>rfl
 |cons x l'=>
  have⟨b,o,e,_⟩:=h 0 x O;grind
theorem zRp(d:DW)(x:EN)(w:World)(hl:(x.Pk.length:Int)=d.pi)(hi:C5 d.po 0 x.Pk)(hm:x.e.mP=x.Pk.length)(hb:d.pi≤10)(hP:ig w 1 eI x.e.sP x.Pk):Rk 219 [d.v,x.e.v] w (Iv 0):=by
 refine tW func219 ntmps219 fun hp=>?_;refine qR ?_;refine tQ fun w1 db hp=>?_;have hp:=hp.I 0 d.L O O;refine tQ fun w2 eb hp=>?_;have hp:=hp.I 0 (AR _) O O;have hp:Hp w [] w2 [bu eb 6 _ 94,bu db 13 _ 28]:=hp;have hc:w2.cell? ⟨eb,0+3,_⟩=some (.slice _ _ x.e.cP):=hp.J 0 O O;rw[hm] at hc;refine qA ?_;refine xI O O1 (fun _=>qA (qQ ([4,5,7]++List.range' 17 15) (fun i F=>(F.put 5 (.int _ ((0::x.Pk).getD i 0))).put 17 (.int _ i)) (fun i w'=>i≤x.Pk.length∧Hp w [] w' _) (fun i=>x.Pk.length-i) 0 (qB (qB (ka.eq .refl) O) O) ⟨O1,hp⟩ ?_));clear hp hc;rintro u i w3 ⟨xt,hp⟩;refine tI (fun h=>?_) fun h=>?_
 ·have ha:i<x.Pk.length:=O1;obtain⟨y,hy⟩:∃y,x.Pk[i]? =some y:=⟨_,aA ha⟩;have⟨b0,o0,hs0,yk⟩:=hP.base O1;have eu:=yk i y hy 0 _ O;have bR:=K9 hi hy;have yt:(0::x.Pk).getD (i+1) 0=y:=by rw[nF,aC,hy];rfl
  generalize (0::x.Pk).getD i 0=z at bR;refine qA ?_;refine xD O (fun h=>absurd h O6) (fun _=>tM (i+1) ?_);refine qA ?_;exact⟨_,qB (qB O5 (aK _ yt.symm)) O,⟨O1,hp⟩,O1⟩
 exact nj
theorem zQw(p wb y w)(hw:w.cell? ⟨wb,0,none⟩=some (.string y)):Rk 309 [F8 p,.pointer (Ad wb)] w (.bool (decide (p.1=y))):=by
 refine tW func309 ntmps309 fun hp=>?_;exact P2
theorem zQr(P s c wb y w)(hy:y∈P.map Prod.fst)(hs:ig w 2 eP s P)(hl:P.length≤12)(hw:w.cell? ⟨wb,0,none⟩=some (.string y)):
  Rt 352 [.slice s P.length c,.func (.func 309) #[] #[.pointer (Ad wb)]] w (fun v w'=>(∃z:Nat,v=Iv (z:Int))∧ax [] w w'):=by
 refine tW func352 ntmps352 fun hp=>?_;refine qA (qQ ([4,5]++List.range' 8 11) (fun(i:Nat) F=>F.put 8 (.int _ i)) (fun i w'=>i≤P.length∧(∀p∈P.take i,p.1≠y)∧ax [] w w') (fun i=>P.length-i) 0 (qB (ka.eq .refl) O) ⟨O1,O4,.refl⟩ ?_);clear hp;rintro u i w1 ⟨hi,xr,hk⟩;have hp:=Hp.u7 hk;refine tI (fun h=>?_) fun h=>?_
 ·have ha:i<P.length:=O1;obtain⟨p,hg⟩:∃p,P[i]? =some p:=⟨_,aA ha⟩;have⟨b0,o0,hs0,yk⟩:=hs.base O1;have hh:=yk i p hg;refine qA (ke (qL O O O O (fun j v hv=>hp.j3 (hh j v hv))) (O:_=F8 p) ?_);refine tC (zQw p wb y _ (hp.j3 hw)) fun w2 hp=>?_;refine tI (fun h2=>?_) fun h2=>?_
  ·refine tV ?_;exact⟨_,O,⟨i,O⟩,hp.Z⟩
  refine Ck ?_;refine⟨_,qB O5 O,⟨O1,fun q hq=>?_,hp.Z⟩,O1⟩;rw[kZ,hg] at hq;grind
 have⟨q,hq,e⟩:=bM.1 hy;exact absurd e (xr q O6)
theorem zQx(P:List (ByteArray×Int))(d:DW)(db:Nat)(y:ByteArray)(w:World)(hy:y∈P.map Prod.fst)(hm:d.mP=P.length)(hs:ig w 2 eP d.sP P)(hl:P.length≤12)(hd:w.cell? ⟨db,0+8,none⟩=some (.slice d.sP d.mP d.cP)):
  Rk 307 [.string y,.pointer (Ad db)] w (.bool true):=by
 have ha:∀(c wb:Nat) (w:World),ig w 2 eP d.sP P→w.cell? ⟨wb,0,none⟩=some (.string y)→Rk 308 [.slice d.sP P.length c,.func (.func 309) #[] #[.pointer (Ad wb)]] w (.bool true):=by
  intro c wb w hs hw;refine tW func308 ntmps308 fun hp=>?_;refine tL (zQr P d.sP c wb y _ hy hs hl hw) ?_;rintro _ w2 ⟨⟨z,rfl⟩,zw⟩;have hp:=hp.V zw;refine ke (vE O O) (qV (b:=true) (aD O1)) ?_;exact nj
 rw[hm] at hd;refine tW func307 ntmps307 fun hp=>?_;refine qR ?_;refine tQ fun w1 wb hp=>?_;refine tD (ha _ wb _ (hs.i7 hp.Z) (hp.J 0 O O)) fun w2 hp=>?_;exact nj
theorem zRo(d:DW)(P:List (ByteArray×Int))(x:EN)(w:World)(h:0≤x.e.cl∧x.e.cl≤d.cl∧0≤x.e.fa∧x.e.fa≤1000000000∧x.Ws.length≤P.length∧(∀w∈x.Ws,w∈P.map Prod.fst)∧x.Ws.Nodup)(hm:x.e.mW=x.Ws.length)(uc:d.mP=P.length)(hl:P.length≤12)(hP:ig w 2 eP d.sP P)(hW:ig w 1 eS x.e.sW x.Ws):
  Rk 220 [d.v,x.e.v] w (Iv 0):=by
 have⟨h1,h2,h3,h4,h5,h6,h7⟩:=h;refine tW func220 ntmps220 fun hp=>?_;refine qR ?_;refine tQ fun w1 db hp=>?_;refine tQ fun w2 eb hp=>?_;have hc:w2.cell? ⟨eb,0+4,_⟩=some (.slice _ _ x.e.cW):=hp.J 0 O O;rw[hm] at hc;refine qA ?_;refine xD O (fun h=>absurd h O6) (fun _=>qA ?_);refine qH O O1 (fun _=>tL (UZ 307 _ zEq [] (fun _ w'=>ig w' 2 eP d.sP P∧w'.cell? ⟨db,0+8,none⟩=some (.slice d.sP d.mP d.cP)) _ _ x.Ws _ O1 (hW.i7 hp.Z) (fun _ _ _ _=>O4) ⟨hP.i7 hp.Z,hp.J 1 O O⟩ (fun _ _ _ h hk=>⟨h.1.i7 hk,hk.cell h.2 O4⟩) (fun i y w' hy hJ=>(zQx P d db y w' (h6 y (aG hy)) uc hJ.1 hl hJ.2).mono (fun v ha ⟨a,b⟩=>⟨a,b,hJ.1.i7 b,b.cell hJ.2 O4⟩))) ?_);rintro _ w3 ⟨rfl,hk,_⟩;have hp:=hp.V hk;refine qA (qN O ?_);have hc:=hk.cell hc O4;refine tD (XB _ _ _ _ O1 (hW.i7 hp.Z) h7) fun w4 hp=>?_;exact KK
theorem zBq(e:EW)(w:World)(h:e.G.length≤12∧(∀g∈e.G,Wd g)∧e.G.Nodup)(hG:ig w 1 eS e.sG e.G):Rk 221 [e.v] w (Iv 0):=by
 refine tW func221 ntmps221 fun hp=>?_;refine qR ?_;refine tQ fun w1 eb hp=>?_;refine qA ?_;refine qH O O1 (fun _=>tL (UZ 290 _ qRh [] _ _ _ _ _ O1 (hG.i7 hp.Z) (fun _ _ _ _=>O4) trivial (fun _ _ _ _ _=>trivial) (fun i x w' hx _=>(Qg x w' (h.2.1 x (aG hx))).mono (fun v ha ⟨a,b⟩=>⟨a,b,trivial⟩))) ?_);rintro _ w2 ⟨rfl,hk,_⟩;have hp:=hp.V hk;refine AL ?_;refine tC (XB _ _ _ _ O1 (hG.i7 hp.Z) h.2.2) fun w4 hp=>?_;exact KK
theorem zBb(d:DW){T P B}(x:EN)(w:World)(hd:Hn d T P B)(he:Jw d P B x)(hA:BB d T P B w)(hE:E9 x w):Rk 158 [d.v,x.e.v] w (Iv 0):=by
 have hid:=he.id;have zr:=hd.bl;refine tW func158 ntmps158 fun hp=>?_;refine qR ?_;refine tQ fun w1 db hp=>?_;have hp:=hp.I 0 d.L O O;refine tQ fun w2 eb hp=>?_;have hp:=hp.I 0 (AR _) O O;have hp:Hp w [] w2 [bu eb 6 _ 94,bu db 13 _ 28]:=hp;refine qR ?_;refine tR qY (qR ?_);refine ke (qL O O O O (hp.i6 1 O O)) (O:_=d.v) (tC (RD d _ hd (hA.j1 hp.Z)) fun w3 hp=>?_);refine AL ?_;refine tC (HE _ _ _ _ hid.1 hid.2) fun w4 hp=>?_;refine qA (qN O ?_);have cB:w4.cell? ⟨db,0+12,_⟩=some (.slice _ _ d.cB):=hp.J 1 O O;rw[hd.mB] at cB;refine qR ?_;refine jM (tR (qS O O cB) ?_);refine tD (X4 B _ _ _ _ (hA.B.i7 hp.Z) O1) fun w5 hp=>?_;refine qR (qH O (fun h=>absurd h he.bar) (fun _=>?_));have cP:w5.cell? ⟨eb,0+3,_⟩=some (.slice _ _ x.e.cP):=hp.J 0 O O;have c1:w5.cell? ⟨eb,0+1,_⟩=some (.int _ _):=hp.J 0 O O;have c2:w5.cell? ⟨eb,0+2,_⟩=some (.int _ _):=hp.J 0 O O;have c4:w5.cell? ⟨eb,0+4,_⟩=some (.slice _ _ x.e.cW):=hp.J 0 O O;have c5:w5.cell? ⟨eb,0+5,_⟩=some (.slice _ _ x.e.cG):=hp.J 0 O O;have ck:w5.cell? ⟨db,0+1,_⟩=some (.int _ _):=hp.J 1 O O;rw[he.mP] at cP;rw[he.mW] at c4;rcases hd.kd with ze|ze|ze
 ·rw[ze] at ck;have hz:=he.z2 O1;rw[hz.1] at c1;rw[hz.2.1] at c2;rw[hz.2.2] at c4;rw[he.z3 O1] at c5;have zy:=he.k1 ze;refine jL (jB O ?_);refine jL (qN O ?_);refine qR (ke (qL O O O O (hp.i6 1 O O)) (O:_=d.v) ?_);refine ke (qL O O O O (hp.i6 0 O O)) (O:_=x.e.v) (tC (zRp d x _ zy.1 zy.2 he.mP (hd.k1 ze).pi.2.1 (hE.P.i7 hp.Z)) fun w6 hp=>?_);exact nj
 ·rw[ze] at ck;rw[he.z1 O1] at cP;rw[he.z3 O1] at c5;have zw:=he.k2 ze;refine qA ?_;refine tJ (jB O ?_);refine jL (qN O ?_);refine qR (ke (qL O O O O (hp.i6 1 O O)) (O:_=d.v) ?_);refine ke (qL O O O O (hp.i6 0 O O)) (O:_=x.e.v) (tC (zRo d P x _ zw he.mW hd.mP (hd.k2 ze).l.2 (hA.P.i7 hp.Z) (hE.W.i7 hp.Z)) fun w6 hp=>?_);exact nj
 rw[ze] at ck;have hz:=he.z2 O1;rw[hz.1] at c1;rw[hz.2.1] at c2;rw[hz.2.2] at c4;rw[he.z1 O1] at cP;refine jL (qN O ?_);refine jL (qN O ?_);refine jL (qN O ?_);refine qR (ke (qL O O O O (hp.i6 0 O O)) (O:_=x.e.v) ?_);refine tC (zBq _ _ (he.k3 ze) (hE.G.i7 hp.Z)) fun w6 hp=>?_;exact nj
theorem jVw(l s c w)(hn:l.length<1000000)(hs:ig w 1 eS s l):Rt 160 [.slice s l.length c] w (fun v w'=>(∃s' c',v= .slice s' l.length c')∧ax [] w w'):=by
 refine tW func160 ntmps160 fun hp=>?_;refine qA (tR (S8 (zK O).1 O O) ?_);refine qA (xD O (fun h=>?_) (fun h=>?_))
 ·have hs0:s=none:=by
   cases s with
   |none=>rfl
   |some a=>grind
  obtain rfl:=Rc hs hs0;refine tV ?_;exact⟨_,O,⟨_,0,O⟩,hp.Z⟩
 refine qA ?_;refine tF (jC (cs:=[]) hp O O O O O O O) fun w1 nb hp=>qA ?_;refine AB (TI eS l hp 0 O O O O O O (fun _=>O) O O O (hs.i7 hp.Z) (fun _=>O) hn) fun w2 s' c'⟨hv,hp⟩=>tV ?_;exact⟨_,O,⟨s',c',O⟩,hp.Z⟩
theorem XS(d){T P B}(s c X W)(hA:Ak d T P B s X W)(hK:Aa d T P B X):
  Rt 94 [d.v,.slice s X.length c] W (fun v w'=>(∃sA cA,v= .tuple #[.slice sA X.length cA,Zs])∧ax [] W w'):=by
 have hl:=hK.l;refine tW func94 ntmps94 fun hp=>?_;refine qR ?_;refine tQ fun w1 db hp=>?_;have hp:=hp.I 0 d.L O O;refine qA (tF (yS AG hp) fun w2 mb hp=>?_);have hp:Hp W [] w2 [yA AG mb (uE fun a=>mB ((X.map fun x=>x.e.id).take 0) a),bu db 13 (qE d.L) 28]:=by
  rw[PL _ (fun a=>(by simp[mB]))];exact hp
 have hp:=hp.j7 AR 94 6;have hp:=hp;refine qA (qQ ([6,7,9,10,11]++range' 15 52) (fun(z:Nat×Option _×Nat×List EW) F=>((F.put 15 (.int _ (z.1))).put 6 (.slice z.2.1 z.1 z.2.2.1)).put 7 (.slice _ 0 0)) (fun z w'=>z.1≤X.length∧z.2.2.2.length=z.1∧kg z.2.1 z.2.2.1 z.2.2.2∧Hp W [] w' [qG _ 94 6 z.2.1 z.2.2.1 z.2.2.2,yA _ mb (uE fun a=>mB ((X.map _).take z.1) a),_]) (fun z=>X.length-z.1) (0,none,0,[]) (qB (qB (qB (ka.eq .refl) O) O) O) ⟨O1,O,kg.nil,hp⟩ ?_);clear hp;rintro u ⟨i,sA,cA,A⟩ w3 ⟨hi,x1,xj,hp⟩;dsimp only at hi x1 xj hp⊢;refine tI (fun h=>?_) fun h=>?_
 ·have ha:i<X.length:=O1;obtain⟨x,hM⟩:∃x,X[i]? =some x:=⟨_,aA ha⟩;have v1:=aG hM;have hE:=hK.e x v1;have hq:=hA.e x v1;have zf:x.Pk.length≤10:=by
   by_cases h1:d.kd=1
   ·have:=(hE.k1 h1).1;have:=(hK.d.k1 h1).pi;omega
   rw[hE.z1 h1];simp
  have hx:x.Ws.length≤12:=by
   by_cases h1:d.kd=2
   ·have:=(hE.k2 h1).2.2.2.2.1;have:=(hK.d.k2 h1).l;omega
   rw[(hE.z2 h1).2.2];simp
  have uo:x.e.G.length≤12:=by
   by_cases h1:d.kd=3
   ·exact(hE.k3 h1).1
   rw[hE.z3 h1];simp
  obtain⟨be,oe,hm,hj⟩:=hA.l i _ (by rw[bH,hM];rfl);have xh:(X.map fun x=>x.e.id)[i]? =some x.e.id:=by rw[bH,hM];rfl
  have x4:=JC hK.nd xh;refine qA (ke (qL O O O O (fun j v hv=>hp.j3 (hj j v hv))) (O:_=x.e.v) ?_);refine tQ fun w4 eb hp=>?_;refine jM ?_;refine tS fun w5 hp=>?_;have hp:=hp.I 0 (AR _) O O;have hp:Hp W [] w5 [bu eb 6 _ 94,_,_,_]:=hp;refine qR (ke (qL O O O O (hp.i6 3 O O)) (O:_=d.v) ?_);refine ke (qL O O O O (hp.i6 0 O O)) (O:_=x.e.v) (tC (zBb d x _ hK.d hE (hA.d.j1 hp.Z) (hq.j1 hp.Z)) fun w6 hp=>?_);refine qA (uD (range' 29 10) (fun(_:Unit) F=>F) (fun _ w'=>Hp W [] w' [bu eb 6 (qE (AR x.e)) 94,qG AR 94 6 sA cA A,yA AG mb (uE fun a=>mB ((X.map fun x=>x.e.id).take i) a),bu db 13 (qE d.L) 28]) ?_ ?_)
  ·refine xD O (fun _=>?_) (fun _=>?_)
   ·refine qA (ke (Dw hp 2 O O O (xG O).1 (xG (t:=162) O).2.1 (xG (t:=162) O).2.2) ((FK _ _).trans (aK _ x4)) ?_);refine AL ?_;refine qH O O1 (fun _=>qA ?_);exact KM
   refine qA ?_;exact KM
  clear hp;rintro u2 ⟨⟩ w7 hp;refine qA ?_;refine tJ (tO (G0 hp 2 O O O O (xG O).1 (xG (t:=162) O).2.1) fun w8 hp=>?_);have hp:Hp W [] w8 [_,_,_,_]:=hp;rw[Xp xh] at hp;have c3:w8.drew.cell? ⟨eb,0+3,_⟩=some (.slice _ _ x.e.cP):=hp.U.J 0 O O;rw[hE.mP] at c3;have c4:w8.drew.cell? ⟨eb,0+4,_⟩=some (.slice _ _ x.e.cW):=hp.U.J 0 O O;rw[hE.mW] at c4;have c5:w8.drew.cell? ⟨eb,0+5,_⟩=some (.slice _ _ x.e.cG):=hp.U.J 0 O O;refine qR ?_;refine jU jG O3 (fun w'=>w'.cell? _=some _∧w'.cell? _=some _∧w'.cell? _=some _) ⟨c3,c4,c5⟩ ?_;have hp:=hp.U;refine qX ?_;apply kp;rfl;intro w hg;exact qS O O hg.1;exact fS O;refine tK (Qf _ _ _ _ (hq.P.i7 hp.Z) O1 (Rc hq.P)) ?_;rintro _ w9 ⟨s8,c8,rfl,_,ht⟩;have h5:=ht.Z;refine⟨⟨h5.cell c3 O4,h5.cell c4 O4,h5.cell c5 O4⟩,?_⟩;have hp:=hp.V h5;have c3:=h5.cell c3 O4;have c4:=h5.cell c4 O4;have c5:=h5.cell c5 O4;clear h5 ht;refine qX ?_;apply kp;rfl;intro w hg;exact qS O O hg.2.1;exact fS O;refine tK (jVw _ _ _ _ O1 (hq.W.i7 hp.Z)) ?_;rintro _ uy ⟨⟨s9,c9,rfl⟩,h5⟩;refine⟨⟨h5.cell c3 O4,h5.cell c4 O4,h5.cell c5 O4⟩,?_⟩;have hp:=hp.V h5;have c3:=h5.cell c3 O4;have c4:=h5.cell c4 O4;have c5:=h5.cell c5 O4;clear h5;refine qX ?_;apply kp;rfl;intro w hg;exact qS O O hg.2.2;exact fS O;refine tK (jVw _ _ _ _ O1 (hq.G.i7 hp.Z)) ?_;rintro _ uz ⟨⟨sa,p1,rfl⟩,h5⟩;refine⟨⟨h5.cell c3 O4,h5.cell c4 O4,h5.cell c5 O4⟩,?_⟩;have hp:=hp.V h5;clear c3 c4 c5 h5;refine qX ?_;refine tS fun u0 hp=>?_;refine qX ?_;refine tS fun u5 hp=>?_;refine qX ?_;refine tS fun hh hp=>?_;obtain⟨e2,hY⟩:∃e2:EW,e2=⟨x.e.id,x.e.cl,x.e.fa,s8,x.Pk.length,c8,s9,x.Ws.length,c9,sa,p1,x.e.G⟩:=⟨_,O⟩;have hp:=hp.I 0 (AR e2) O (by rw[hY];rfl);have hp:Hp W [] _ [_,_,_,_]:=hp;refine qU (qR ?_);refine jM (ke (qL O O O O (hp.i6 0 O O)) (O:_=e2.v) ?_);refine tF (jC (cs:=AR e2) hp O O O O O O O) fun u4 nb hp=>AB (jV _ A e2 hp 2 0 O O O O O O (fun _=>O) (by rw[x1];rfl) O O xj O O O1) fun u3 s' c'⟨hn,hp⟩=>?_;have hp:=hp.E.E;have dr:(A++[e2]).length=i+1:=by rw[aY,x1];rfl
  rw[dr];refine Ck ?_;exact⟨(i+1,s',c',A++[e2]),qB O5 O,⟨O1,dr,hn,hp⟩,O1⟩
 obtain rfl:i=X.length:=O1;refine qA ?_;exact xU O O O ⟨_,O,⟨sA,cA,O⟩,hp.Z⟩
theorem X8(d){T P B}(s c X W)(hA:Ak d T P B s X W)(hK:Aa d T P B X):
  Rk 31 [d.v,.slice s X.length c] W (Iv 0):=by
 refine tW func31 ntmps31 fun hp=>?_;refine qR ?_;refine tQ fun w1 db hp=>?_;refine tR qY (qR ?_);refine ke (qL O O O O (hp.i6 0 O O)) (O:_=d.v) (tC (RD d _ hK.d (hA.d.j1 hp.Z)) fun w2 hp=>?_);refine qA (qN O ?_);refine qR (ke (qL O O O O (hp.i6 0 O O)) (O:_=d.v) ?_);refine ke qP (O:_=Value.slice s _ c) (tK (XS d s c X _ (hA.j1 hp.Z) hK) ?_);exact mCj
def l8(x:Nat):Nat:=if x=0 then 0 else x.log2+1
def bN(y:Nat):Nat:=if y=0 then 0 else 8*((jY 256 y).length-1)+l8 (y/256^((jY 256 y).length-1))
theorem zQ3(x):x<2^l8 x:=by
 unfold l8;split
 ·omega
 exact Nat.lt_log2_self
theorem zQ4(y):y<2^bN y:=by
 unfold bN;split
 ·omega
 have h1:=zQ3 (y/256^((jY 256 y).length-1));generalize (jY 256 y).length-1=k at h1;have h0:0<256^k:=gU O2;have h2:=pE y h0;refine dK h2 ?_;rw[eK,lG];exact dJ _ h1
section
theorem zP6{y}(h:y≠0):CK (ki y) 0=((y/256^((jY 256 y).length-1):Nat):Int)∧y/256^((jY 256 y).length-1)<256:=by
 have hl:0<(jY 256 y).length:=lB.2 fun e=>h ((wO O2).1 e)
 have ha:y<256^_:=vI O2 (aS _);have hq:y/256^((jY 256 y).length-1)<256:=by
  have e:(jY 256 y).length-1+1=(jY 256 y).length:=O1;rw[eO (gU O2),←Nat.pow_succ',Nat.succ_eq_add_one,e];exact ha
 rw[JV,jYa (fun d hd=>vQ O2 y d (List.mem_reverse.1 hd)) O6,List.getElem_reverse];have:=qMy (b:=256) O2 (n:=y) (i:=(jY 256 y).length-1) O1;grind
attribute [local irreducible] ki
set_option maxRecDepth 20000 in
theorem zNg:∃f:Nat→Int,(∀x,x<256→f x=(l8 x:Int))∧∀(x:Nat) (w:World),x<256→Rk 177 [.int .u8 (x:Int)] w (Iv (f x)):=by
 apply Exists.intro;constructor
 case right=>
  intro x w h1;refine tW func177 ntmps177 fun hp=>?_;exact nj
 case left=>decide+kernel
theorem zPy(x:Nat)(w:World)(h:x<256):Rk 177 [.int .u8 (x:Int)] w (Iv (l8 x:Int)):=by
 have⟨f,h1,h2⟩:=zNg;grind
theorem zQ5{x}(h:x<256):l8 x≤8:=by
 unfold l8;split
 ·decide
 have:=Nat.log2_lt (k:=8) O1;omega
theorem V3(x:Nat)(w:World)(hx:Fit x):Rk 108 [.string (ki x)] w (Iv (bN x:Int)):=by
 refine tW func108 ntmps108 fun hp=>?_;refine tD (zBd x _ hx) fun w2 hp=>?_;refine jM ?_;refine qR ?_;refine jM (ke (xV O O) (qV (Vr x)) ?_);refine qR (qH O (fun h=>?_) (fun h=>?_))
 ·refine qA ?_;exact qM O O ⟨_,O,by rw[h];rfl,hp.Z⟩
 have hs:=(qKs h).1;have⟨hy,hg⟩:=zP6 h;have ha:=qI9 x;have hh:=hx.d8;have h8:=zQ5 hg;have hb:bN x=8*((jY 256 x).length-1)+l8 (x/256^((jY 256 x).length-1)):=by unfold bN;rw[if_neg h]
 generalize x/256^((jY 256 x).length-1)=y at hy hg hb h8;refine Cj ?_;refine tN ((ki x).size-1) ?_;refine tN (8*((ki x).size-1)) ?_;refine jM (ke (zY O O O hs) (qF hy) ?_);refine tC (zPy y _ hg) fun w3 hp=>?_;refine tN (bN x) ?_;exact nj
def AK(x:Nat):Int:=(bN (x-1):Int)
theorem zNo{x:Nat}(h:AK x=k):x≤2^k:=by
 have h1:=zQ4 (x-1);unfold AK at h;grind
theorem WC(x):0≤AK x:=Ry _
theorem QL(x w)(hx:Fit x):Rk 35 [.string (ki x)] w (Iv (AK x)):=by
 refine tW func35 ntmps35 fun hp=>?_;refine tD (Aw 1 _ O2) fun w2 hp=>?_;refine tC (MD x 1 _ hx (Fit.small O2)) fun w3 hp=>?_;refine tD (V3 (x-1) _ (hx.le O1)) fun w4 hp=>?_;exact nj
end
variable{F:List Nat→Prop}{m:List (List Nat×Rat)}{κ:Nat}
section
structure Cn where
 sP:Option Addr
 cP:Nat
 gp:Nat→Option Addr×Nat
 sN:Option Addr
 cN:Nat
 sL:Option Addr
 cL:Nat
def Cn.L(a:Cn)(k:Int)(T n nl:Nat)(b:Int):List Value:=[Iv k,.string (ki T),Iv b,.slice a.sP n a.cP,.slice a.sN n a.cN,.slice a.sL nl a.cL]
def Ab(m:List (List Nat×Rat)):Nat:=BR (wF m) m.length
def Ah(m:List (List Nat×Rat)):Nat→Nat:=CS (wF m) m.length
structure DI(a:Cn)(m:List (List Nat×Rat))(w:World):Prop where
 P:ig w 1 jO a.sP (EF a.gp m)
 p:∀j,j<m.length→ig w 1 eN (a.gp j).1 (pF m j)
 N:ig w 1 Hf a.sN (lm m.length (Ah m))
 cN:m.length≤a.cN
theorem DI.j1{a}(h:DI a m w)(hk:ax [] w w'):DI a m w':=⟨h.P.i7 hk,fun j hj=>(h.p j hj).i7 hk,h.N.i7 hk,h.cN⟩
theorem Aj.num(h:Aj F κ m){i}(hi:i<m.length):((Ah m i:Nat):Rat)=wF m i*(Ab m:Nat):=YW hi (Nm (h.get hi).2.1)
theorem Gm:0<Ab m:=SP _ _
theorem Aj.pos(h:Aj F κ m){i}(hi:i<m.length):Ah m i≠0:=fun e=>by
 have h1:=h.num hi;rw[e] at h1;have h2:(0:Rat)<(Ab m:Nat):=by exact_mod_cast Gm
 have h3:=pR (h.get hi).2.1 h2;grind
theorem Aj.tot(h:Aj F κ m):sN (Ah m) m.length=Ab m:=by
 have h1:=Lu (f:=Ah m) _ (fun i hi=>h.num hi);rw[SJ,h.sum] at h1;have h2:(sN (Ah m) m.length:Nat)=((Ab m):Rat):=O6
 exact_mod_cast h2
theorem Aj.v7(h:Aj F κ m)(hκ:κ≤6000000000):Fit (Ab m):=by
 have h1:Ab m<_:=LO (fun i hi=>(h.get hi).2.2) O1;have h2:=h.len;have h3:=dE hκ h2;exact Fit.of h1 O1
theorem Aj.y4(h:Aj F κ m)(hκ:κ≤6000000000){k}(hk:k≤m.length):Fit (sN (Ah m) k):=(h.v7 hκ).le (by rw[←h.tot];exact jVd _ hk)
theorem Aj.r5(h:Aj F κ m)(hκ:κ≤6000000000){k}(hk:k<m.length):Fit (Ah m k):=(h.y4 hκ hk).le (Rp _ _)
def Cw(m:List (List Nat×Rat))(e i:Nat):Nat:=if e∈pF m i then Ah m i else 0
theorem RM(e):∀k,sN (Cw m e) k≤sN (Ah m) k
 |0=>aS _
 |k+1=>by
  have:=RM e k;simp only[sN];have h2:Cw m e k≤Ah m k:=by
   unfold Cw;split
   ·omega
   exact bL _
  omega
theorem Aj.chan(h:Aj F κ m)(e):mkRat (sg false (sN (Cw m e) m.length)) (Ab m)=jE m e:=by
 have h1:=Lu (f:=Cw m e) (g:=fun i=>if e∈pF m i then wF m i else 0) _ (fun i hi=>by
  have h2:=h.num hi;by_cases hm:e∈pF m i
  ·simp[Cw,if_pos hm];exact h2
  simp only[Cw,if_neg hm];simp)
 rw[qO7] at h1;have h2:((Ab m):Rat)≠0:=by
  have:(0:Rat)<((Ab m:Nat):Rat):=by exact_mod_cast Gm
  grind
 show mkRat (sN (Cw m e) m.length:Nat) _=_
 rw[iO,gI,h1];grind
theorem Ak.de{B X}(h:Ak d T P B s X w)(hK:Aa d T P B X)(h3:d.kd=3)(hq:d.Q.length≤12):DE d s (X.map EN.e) w:=⟨h.d.Q,h.l,fun e he=>by
  obtain⟨x,hx,rfl⟩:=bM.1 he;exact(h.e x hx).G,hq,by rw[aH];exact hK.l,fun e he=>by
  obtain⟨x,hx,rfl⟩:=bM.1 he;have:=((hK.e x hx).k3 h3).1
  omega⟩
def BC(d:DW)(X:List EN):Nat:=if d.kd=1 then ch d.po.toNat d.pi.toNat else uO X.length
structure PlG(d:DW)(l:List EW)(m:List (List Nat×Rat))(lv:List (Rat×(Nat→Rat)))(p:Nat→Rat):Prop where
 mix:Aj (Aq d l) 5712200030 m
 prv:prv l.length p (vU (Aq d l)) lv (fun _=>false) none
 ch:∀i,i<l.length→jE m i=p i
 yb:∀x∈lv,∀i,i<l.length→BQ 34273200056 (x.2 i)
 ll:lv.length≤1000
abbrev Mx:=List (List Nat×Rat)
abbrev EJ:=List (Rat×(Nat→Rat))
structure Cy(d:DW)(X:List EN)(a:Cn)(N:Nat)(m:Mx)(lv:EJ)(w:World):Prop where
 fit:Fit N
 tot:d.kd≠3→N=BC d X∧m=[]∧lv=[]
 pan:d.kd=3→∃lr p,N=Ab m∧PlG d (X.map EN.e) m lv p∧DI a m w∧E7 a.sL lr (X.map EN.e).length lv w
theorem Cy.j1{d X a N m lv w w'}(h:Cy d X a N m lv w)(hk:ax [] w w'):Cy d X a N m lv w':=⟨h.fit,h.tot,fun h3=>by
  have⟨lr,p,h1,h4,h5,h6⟩:=h.pan h3
  exact⟨lr,p,h1,h4,h5.j1 hk,h6.j1 hk⟩⟩
def AU(a:Cn)(d:DW)(s:Option Addr)(c n0 N:Nat)(m:Mx)(lv:EJ):List Value:=a.L d.kd N m.length lv.length (AK N)++(d.L++[Value.slice s n0 c])
def AV(a:Cn)(d:DW)(s:Option Addr)(c n0 N:Nat)(m:Mx)(lv:EJ):List Value:=d.L++([Value.slice s n0 c]++a.L d.kd N m.length lv.length (AK N))
attribute [local irreducible] ki CS BR
theorem zBj(a d s l c κ nl b m W)(hD:DE d s l W)(ze:d.kd=3)(hz:0≤d.sz)(hM:Aj (Aq d l) κ m)(hκ:κ≤6000000000)(hA:DI a m W):
  Rk 113 [.agg (a.L 3 (Ab m) m.length nl b++(d.L++[Value.slice s l.length c])).toArray] W (.bool true):=by
 have hE:=hM.len;refine tW func113 ntmps113 fun hp=>?_;refine qR (tF (kW (cs:=a.L 3 _ _ nl b++(d.L++[_])) (m:=20) hp O O O) fun w1 sb hp=>?_);refine qR ?_;refine tR qY (qR ?_);refine jM (ke (qL O O O O (NX (hp.i6 0 O O))) O ?_);refine tQ fun w2 b3 hp=>?_;refine tS fun w3 hp=>?_;have hp:=hp.I 0 (a.L 3 _ _ nl b) O O;have hp:Hp W [] w3 [bu b3 6 _ 39,bu sb 20 _ 108]:=hp;refine qA ?_;refine xI O O1 (fun _=>tL (Aw 0 _ O2) ?_);rintro _ w4 ⟨rfl,hk⟩;have hp:=hp.V hk;refine qA (qQ ([2,4,5,6]++range' 20 24) (fun k F=>(F.put 4 (.string (ki (sN (Ah m) k)))).put 20 (.int _ k)) (fun k w'=>k≤m.length∧Hp W [] w' _) (fun k=>m.length-k) 0 (qB (qB (ka.eq .refl) O) O) ⟨O1,hp⟩ ?_);clear hp;rintro u k w5 ⟨hk,hp⟩;refine tI (fun h=>?_) fun h=>?_
 ·have hl:k<m.length:=O1;have⟨bn,on,ha,hg⟩:=jR hA.N hl;have hn:=hg 0 _ O;have⟨bp,op,h7,hh⟩:=jR hA.P hl;have hq:=hh 0 _ O;have cY:=hA.p k hl;have hF:=(hM.get hl).1;have eh:=aB (hM.pos hl);refine qA ?_;refine jW jG O3 (fun w'=>Hp W [] w' _) hp.U ?_;have hp:=hp.U;refine qX ?_;refine tK (jVr _ _ (hM.r5 hκ hl)) ?_;rintro _ w6 ⟨rfl,vy⟩;refine⟨hp.V vy,?_⟩;have hp:=hp.V vy;rw[eh];refine xA ?_;refine tK (UY d s _ c _ l _ _ (hD.j1 hp.Z) ze hz hF (cY.i7 hp.Z)) ?_;rintro _ w7 ⟨rfl,hj⟩;refine⟨hp.V hj,?_⟩;have hp:=hp.V hj;refine xA (qU ?_);refine tJ ?_;refine tC (Eh _ _ _ (hM.y4 hκ hk) (hM.r5 hκ hl)) fun w8 hp=>?_;exact FL
 obtain rfl:k=m.length:=O1;have hm:decide (Ab m=0)=_:=aB (by have:=Gm (m:=m);omega);rw[hM.tot];refine tD (jVr _ _ (hM.v7 hκ)) fun w6 hp=>?_;rw[hm];refine tE (BY _ _ _ (hM.v7 hκ) (hM.v7 hκ)) fun w7 hp=>?_;rw[if_neg O1,if_pos O];exact Hb
theorem X6(d){T P B}(s c X W)(hK:Aa d T P B X)(h3:d.kd≠3):Rk 34 [d.v,.slice s X.length c] W (.string (ki (BC d X))):=by
 have hl:=hK.l;refine tW func34 ntmps34 fun hp=>?_;refine qR ?_;refine tQ fun w1 db hp=>?_;refine tI (fun h=>?_) fun h=>?_
 ·have h1:=(hK.d.k1 h).po;have h2:=(hK.d.k1 h).pi;have hz:AO d.po d.pi=BC d X:=by
   exact mCy
  exact mEc
 have hz:uO X.length=BC d X:=by unfold BC;rw[if_neg h]
 exact mE8
theorem IF(x:Nat):(if x<x then(-1:Int) else if x=x then 0 else 1)=0:=O4
theorem X5(a:Cn)(d:DW){T P B}(s:Option Addr)(c N:Nat)(m:Mx)(lv:EJ)(X:List EN)(W:World)(hA:Ak d T P B s X W)(hK:Aa d T P B X)(hP:Cy d X a N m lv W):
  Rk 42 [.agg (AU a d s c X.length N m lv).toArray] W (.bool true):=by
 have yc:=hP.fit;refine tW func42 ntmps42 fun hp=>?_;refine qR (tF (kW (cs:=AU a d s c _ N m lv) (m:=20) hp O O O) fun w1 sb hp=>?_);have hp:Hp W [] w1 [bu sb 20 _ 108]:=hp;refine qR ?_;refine tR qY (qR ?_);refine jM (ke (qL O O O O (jB2 O (hp.i6 0 O O))) (O:_=d.v) ?_);refine tD (X8 d s c X _ (hA.j1 hp.Z) hK) fun w2 hp=>?_;have hm:(!decide (d.kd=d.kd))=false:=O4;refine jL ?_;rw[hm];refine jL ?_;refine tJ (uD (range' 22 13) (fun(_:Unit) F=>F) (fun _ w'=>Hp W [] w' [bu sb 20 (qE (AU a d s c X.length N m lv)) 108]) ?_ ?_)
 ·refine qH O (fun h3=>?_) (fun h3=>?_)
  ·obtain⟨lr,p,rfl,hG,ut,_⟩:=hP.pan h3;have ha:=hK.d.k3 h3;have eb:=zBj a d s _ c 5712200030 lv.length (AK (Ab m)) m w2 ((hA.j1 hp.Z).de hK h3 ha.lq) h3 (by have:=ha.sz;omega) hG.mix O2 (ut.j1 hp.Z);rw[aH] at eb;refine qR (ke (qL O O O O (hp.i6 0 O O)) O ?_);refine tC (show km _ 113 [.agg (AU a d s c _ _ m lv).toArray] _ _ by unfold AU;rw[h3];exact eb) fun w3 hp=>?_;refine AL ?_;exact KM
  have ec:=X6 d s c X w2.drew hK h3;rw[←(hP.tot h3).1] at ec;refine qR ?_;refine jW jG O3 (fun w'=>Hp W [] w' _) hp.U ?_;have hp:=hp.U;refine qX ?_;refine tK ec ?_;rintro _ w4 ⟨rfl,vz⟩;refine⟨hp.V vz,?_⟩;have hp:=hp.V vz;refine tK (BY N N _ yc yc) ?_;rintro _ w5 ⟨rfl,vw⟩;refine⟨hp.V vw,?_⟩;have hp:=hp.V vw;rw[IF];refine qX (qU ?_);refine tJ ?_;exact KM
 rintro u ⟨⟩ w6 hp;refine qA ?_;refine jW jG O3 (fun w'=>Hp W [] w' _) hp.U ?_;have hp:=hp.U;refine qX ?_;refine tK (QL N _ yc) ?_;rintro _ w4 ⟨rfl,vz⟩;refine⟨hp.V vz,?_⟩;have hp:=hp.V vz;exact mDm
theorem zOz(x y:Nat):decide ((if x<y then(-1:Int) else if x=y then 0 else 1)<0)=decide (x<y):=by
 grind
theorem XZ(a:Cn)(d:DW){T P B}(s:Option Addr)(c N x:Nat)(m:Mx)(lv:EJ)(X:List EN)(W:World)(hA:Ak d T P B s X W)(hK:Aa d T P B X)(hP:Cy d X a N m lv W)(hx:Fit x):
  Rk 66 [.agg (AU a d s c X.length N m lv).toArray,.string (ki x)] W (.bool (decide (x<N))):=by
 have yc:=hP.fit;refine tW func66 ntmps66 fun hp=>?_;refine qR (tF (kW (cs:=AU a d s c _ N m lv) (m:=20) hp O O O) fun w1 sb hp=>?_);refine tR qY (qR ?_);refine ke (qL O O O O (hp.i6 0 O O)) O (tC (X5 a d s c N m lv X _ (hA.j1 hp.Z) hK (hP.j1 hp.Z)) fun w3 hp=>?_);refine tE (BY x N _ hx yc) fun w4 hp=>?_;apply vX;rfl;rfl;exact zQ O O;exact qV (zOz x N);exact Hb
end
theorem qOo{D M}(i):∀m:List (List Nat×Rat),(∀x∈m,Ov D M x.2)→Ov D (m.length*M) (jE m i)
 |[],_=>⟨0,by show(0:Rat)*_=(0:Int);simp,bL _⟩
 |(P,w)::m,h=>by
  have⟨x,e1,e2⟩:=qOo i m (fun x hx=>h x (by simp[hx]));have⟨y,f1,f2⟩:=h (P,w) O4;show Ov D ((m.length+1)*M) ((if i∈P then w else 0)+jE m i)
  rw[iV];split
  ·refine⟨y+x,?_,O1⟩;grind
  refine⟨x,?_,O1⟩;grind
variable{D Mo cE:Nat}{X:Nat→Rat}{adds:List (List Nat×Rat)}{ma:MA}{sF:Sr}{v0:Rat}
section
theorem qSt:∀n,(Gj n).length=2^n
 |0=>rfl
 |n+1=>by
  show(Gj n++(Gj n).map _).length=_
  rw[aY,aH,qSt,dU];omega
theorem jJv{l:List EW}(hn:l.length≤5){m:List (List Nat×Rat)}(df:(m.map (·.1)).Nodup)(hF:∀x∈m,Aq d l x.1):m.length≤32:=by
 have h1:=rQ df (fun P hP=>by
  obtain⟨x,hx,rfl⟩:=bM.1 hP;have:=hF x hx
  exact Kr _ _ this.srt this.lt)
 rw[aH,qSt] at h1;have:_≤2^5:=bG O2 hn;omega
theorem jYc{K M a}(hK:K=k+30)(hD:0<D)(hg:D≤M)(hM:M<2^k*1073741824)(h:Ov D M a):BQ K a:=by
 subst hK;have e:2^30=1073741824:=O2;exact wQ hD hg O6 h
theorem jKc{Z}(h0:0<D)(h1:D≤Mo)(h2:Mo<Z):0<60*D∧60*D≤192*(60*(34*Mo))∧192*(60*(34*Mo))<Z*1073741824∧60*D≤32*(192*(60*(34*Mo)))∧32*(192*(60*(34*Mo)))<Z*1073741824:=O1
theorem Jx.mixG{l:List EW}{a:Cp}{c:Eu}{wz:Sr}{lv:List (Rat×(Nat→Rat))}(h:Jx d s cE l ma adds a c wz sF lv X v0 D Mo):Aj (Aq d l) 5712200030 (kE adds):=by
 have⟨_,m2,m3,_,m5⟩:=h.mx;have hE:=jJv h.inv.n5 m3 (fun x hx=>(m5 x hx).1);have⟨n1,n2,n3,n4,n5⟩:=jKc h.D0 h.DM h.hMo;refine⟨hE,fun x hx=>⟨(m5 x hx).1,(m5 x hx).2.1,jYc (k:=5712200000) O2 n1 n2 n3 (m5 x hx).2.2⟩,m3,m2,fun k i=>?_⟩;have⟨x,e1,e2⟩:=qOo (D:=60*D) (M:=192*(60*(34*Mo))) i ((kE adds).take k) (fun x hx=>(m5 x (gE hx)).2.2);exact jYc (k:=5712200000) O2 n1 n4 n5 ⟨x,e1,bF e2 (aL _ (bF (List.length_take_le' _ _) hE))⟩
attribute [local irreducible] ki
theorem r7(d){T P B}(s c X W)(hA:Ak d T P B s X W)(hK:Aa d T P B X)(hn:X.length≤5):
  Rt 7 [d.v,.slice s X.length c] W (fun v w'=>(d.kd=3∧(∀P,¬Aq d (X.map EN.e) P)∧v= .tuple #[.agg #[Iv 0,.string ⟨#[]⟩,Iv 0,Zs,Zs,Zs],Iv 16]∧ax [] W w')∨
   ∃(a:Cn) (N:Nat) (m:Mx) (lv:EJ),v= .tuple #[.agg (a.L d.kd N m.length lv.length (AK N)).toArray,Iv 0]∧Cy d X a N m lv w'∧ax [] W w'):=by
 have h5:(X.map EN.e).length≤5:=by rw[aH];exact hn
 have ys:=hK.l;refine tW func7 ntmps7 fun hp=>?_;refine qR ?_;refine tQ fun w1 b2 hp=>?_;have hp:=hp.I 0 d.L O O;refine tQ fun w2 b4 hp=>?_;have hp:Hp W [] w2 [bu b4 6 (qE [Iv 0,.string ⟨#[]⟩,Iv 0,Zs,Zs,Zs]) 39,bu b2 13 (qE d.L) 28]:=hp;refine qR ?_;refine tR qY ?_;refine qR ?_;refine ke (qL (vs:=d.L) O O O O (hp.i6 1 O O)) (O:_=d.v) ?_;refine ke qP (O:_=Value.slice s X.length c) ?_;refine tC (X8 d s c X _ (hA.j1 hp.Z) hK) fun w3 hp=>?_;refine AL ?_;refine tQ fun w4 b7 hp=>?_;refine tS fun w5 hp=>?_;have hp:=hp.I 0 [Iv d.kd,.string ⟨#[]⟩,Iv 0,Zs,Zs,Zs] O O;have hp:Hp W [] w5 [bu b7 6 (qE [Iv d.kd,.string ⟨#[]⟩,Iv 0,Zs,Zs,Zs]) 39,bu b4 6 (qE [Iv 0,.string ⟨#[]⟩,Iv 0,Zs,Zs,Zs]) 39,bu b2 13 (qE d.L) 28]:=hp;by_cases h3:d.kd=3
 ·have hg:=(hK.d.k3 h3).sz;have ra:=r32 d s c (X.map EN.e) w5 ((hA.j1 hp.Z).de hK h3 (hK.d.k3 h3).lq) h3 O1 h5;rw[show(X.map EN.e).length=X.length from aH ..] at ra;refine qA ?_;refine jB (c:=_) (by first|exact aK Value.bool (aD h3)|rfl) ?_;refine qR ?_;refine ke (qL (vs:=d.L) O O O O (hp.i6 2 O O)) (O:_=d.v) ?_;refine ke qP (O:_=Value.slice s X.length c) ?_;refine tK ra ?_;rintro _ w6 dj;rcases dj with⟨hno,rfl,hk6⟩|⟨ma,adds,a,cc,wz,sF,lv,Xr,v0,D,Mo,hR,rfl,hp6⟩
  ·have hp:=hp.V hk6;refine qA ?_;refine tQ fun w7 b8 hp=>?_;refine tT fun w8 hp=>?_;refine qA ?_;refine jB O ?_;refine tT fun w9 hp=>?_;have hp:=hp.I 2 [Iv 0,.string ⟨#[]⟩,Iv 0,Zs,Zs,Zs] O O;refine qA ?_;exact yP O O O O O (hp.j2 2 O O) ⟨_,O,.inl ⟨h3,hno,O,hp.Z⟩⟩
  have hp:=Hp.swap (hp.C hp6);clear hp6;have hG:=hR.mixG;have⟨hl,nh⟩:=hR.fair;have hy:=hR.mix;have xu:=hR.fr;have hh:cc.n=(X.map EN.e).length:=by rw[hR.cd]
  have ha:cc.cl=Ap (xT d (X.map EN.e)):=by rw[hR.cd]
  have gz:∀x∈ou cc.cl lv,∀i,i<(X.map EN.e).length→BQ 34273200056 (x.2 i):=fun x hx i hi=>by
   obtain⟨z,hz,rfl⟩:=bM.1 hx;rw[ha];exact hR.inv.yb z hz _ (hR.inv.cls.lt i hi)
  have rh:(ou cc.cl lv).length≤1000:=by
   rw[N8];have h1:=hR.inv.dc;have h2:sF.nd≤sF.nc:=by
    unfold Sr.nd;exact bF iK O4
   have h3:=hR.inv.nc;omega
  rw[←N8 (cl:=cc.cl) (lv:=lv)];rw[←ha] at hl nh;obtain⟨m,hm⟩:∃m,m=kE adds:=⟨_,O⟩;rw[←hm] at hp hG nh hy⊢;have hV:=hy.V;have hP:=hy.P;have zp:=hy.p;rw[qPr] at hV;rw[qQs] at hP;have jw:ES ma m=[qG jO 22 1 ma.sP ma.cP (EF ma.gp m),qG eQ 49 3 ma.sV ma.cV (lm m.length (wF m))]++lm m.length fun j=>qG eN 3 1 (ma.gp j).1 (ma.gp j).2 (pF m j):=by
   unfold ES;rw[qQs,qPr,aH];congr 1;exact jH fun j _=>by unfold wR;rw[Su]
  rw[jw] at hp;have hE:=hG.len;have hQ:5712200030*m.length≤5712200030*32:=dJ _ hE;have hL:qc a cc sF (ou cc.cl lv)=qc a cc sF (ou cc.cl lv):=O;obtain⟨R,h6⟩:∃R,R=(lm m.length fun j=>qG eN 3 1 (ma.gp j).1 (ma.gp j).2 (pF m j))++qc a cc sF (ou cc.cl lv):=⟨_,O⟩;have hp:Hp W [] w6 ([bu b7 6 (qE [Iv d.kd,.string ⟨#[]⟩,Iv 0,Zs,Zs,Zs]) 39,bu b4 6 (qE [Iv 0,.string ⟨#[]⟩,Iv 0,Zs,Zs,Zs]) 39,bu b2 13 (qE d.L) 28,qG jO 22 1 ma.sP ma.cP (EF ma.gp m),qG eQ 49 3 ma.sV ma.cV (lm m.length (wF m))]++R):=by
   rw[h6];exact hp
  refine qA ?_;refine tQ fun w7 b8 hp=>?_;refine tT fun w8 hp=>?_;have hp:=hp.I 0 (DR ma m.length a.sL (ou cc.cl lv).length a.cL) O O;have hp:Hp W [] w8 ([bu b8 3 (qE (DR ma m.length a.sL (ou cc.cl lv).length a.cL)) 45,bu b7 6 (qE [Iv d.kd,.string ⟨#[]⟩,Iv 0,Zs,Zs,Zs]) 39,bu b4 6 (qE [Iv 0,.string ⟨#[]⟩,Iv 0,Zs,Zs,Zs]) 39,bu b2 13 (qE d.L) 28,qG jO 22 1 ma.sP ma.cP (EF ma.gp m),qG eQ 49 3 ma.sV ma.cV (lm m.length (wF m))]++R):=hp;refine AL ?_;refine tK (X7 m.length (wF m) ma.sV ma.cV 5712200030 _ (qZ hp 5 O hV jT) (fun i hi=>(hG.get hi).2.2) (fun i hi=>Nm (hG.get hi).2.1) O1 O1) ?_;rintro _ w9 ⟨gN,rfl,xd,h7⟩;have hp:=hp.C h7;clear h7;have hp:Hp W [] w9 ([qG Hf 34 1 (Ad gN) m.length (lm m.length (Ah m)),bu b8 3 (qE (DR ma m.length a.sL (ou cc.cl lv).length a.cL)) 45,bu b7 6 (qE [Iv d.kd,.string ⟨#[]⟩,Iv 0,Zs,Zs,Zs]) 39,bu b4 6 (qE [Iv 0,.string ⟨#[]⟩,Iv 0,Zs,Zs,Zs]) 39,bu b2 13 (qE d.L) 28,qG jO 22 1 ma.sP ma.cP (EF ma.gp m),qG eQ 49 3 ma.sV ma.cV (lm m.length (wF m))]++R):=hp;have ht:=hG.v7 O2;refine tT fun uy hp=>?_;refine tT fun uz hp=>?_;refine tT fun u0 hp=>?_;refine tT fun u5 hp=>?_;obtain⟨pa,hq⟩:∃pa:Cn,pa=⟨ma.sP,ma.cP,ma.gp,Ad gN,m.length,a.sL,a.cL⟩:=⟨_,O⟩;have hp:=hp.I 2 (pa.L d.kd (Ab m) m.length (ou cc.cl lv).length 0) O (by rw[hq];rfl);refine tD (QL (Ab m) _ ht) fun u2 hp=>?_;refine tT fun u4 hp=>?_;have hp:=hp.I 2 (pa.L d.kd (Ab m) m.length (ou cc.cl lv).length (AK (Ab m))) O O;refine qR ?_;refine ke (qL (vs:=pa.L d.kd (Ab m) m.length (ou cc.cl lv).length (AK (Ab m))) O O O O (hp.i6 2 O O)) (O:_=Value.agg (pa.L d.kd (Ab m) m.length (ou cc.cl lv).length (AK (Ab m))).toArray) ?_;refine tS fun u3 hp=>?_;have hp:=hp.I 3 (pa.L d.kd (Ab m) m.length (ou cc.cl lv).length (AK (Ab m))) O O;refine qA ?_;refine yP O O O O O (hp.j2 3 O O) ⟨_,O,.inr ⟨pa,Ab m,m,ou cc.cl lv,O,⟨ht,fun h=>absurd h3 h,fun _=>⟨a.lr,_,O,⟨hG,hl,nh,gz,rh⟩,?_,?_⟩⟩,hp.Z⟩⟩
  ·have h4:Hp W [] u3 ([qG jO 22 1 ma.sP ma.cP (EF ma.gp m),qG eQ 49 3 ma.sV ma.cV (lm m.length (wF m))]++R):=hp.E.E.E.E.E;rw[hq];refine⟨Kk h4 (aG (i:=0) O) hP (fun _=>O),fun j hj=>Kk h4 (aQ _ (by rw[h6];exact dD _ (bM.2 ⟨j,aR.2 hj,O⟩))) (by have:=zp j (by rw[aH];exact hj);rwa[Su] at this) (fun _=>O),qZ hp 0 O xd (fun _=>O),aS _⟩
  have h4:Hp W [] u3 ([qG jO 22 1 ma.sP ma.cP (EF ma.gp m),qG eQ 49 3 ma.sV ma.cV (lm m.length (wF m))]++R):=hp.E.E.E.E.E;have h8:∀e∈qc a cc sF (ou cc.cl lv),e∈[qG jO 22 1 ma.sP ma.cP (EF ma.gp m),qG eQ 49 3 ma.sV ma.cV (lm m.length (wF m))]++R:=fun e he=>aQ _ (by rw[h6];exact aQ _ he)
  rw[hq,←hh];refine⟨Kk h4 (h8 _ (aG (i:=7) O)) xu.L (fun _=>O),fun j hj=>Kk h4 (h8 _ (aQ _ (aQ _ (bM.2 ⟨j,aR.2 hj,O⟩)))) (xu.l j hj) jT⟩
 obtain⟨N,hN⟩:∃N,N=BC d X:=⟨_,O⟩;have yi:Fit N:=by
  rw[hN];unfold BC;split
  ·rename_i h1
   have:=(hK.d.k1 h1).po;exact Xy O1
  exact Jp O1
 refine qA ?_;refine qN (c:=_) (by first|exact aK Value.bool (aB h3)|rfl) ?_;refine qR ?_;refine ke (qL (vs:=d.L) O O O O (hp.i6 2 O O)) (O:_=d.v) ?_;refine ke qP (O:_=Value.slice s X.length c) ?_;refine tC (X6 d s c X _ hK h3) fun w6 hp=>?_;rw[←hN];refine tT fun uy hp=>?_;obtain⟨pa,hq⟩:∃pa:Cn,pa=⟨none,0,fun _=>(none,0),none,0,none,0⟩:=⟨_,O⟩;have hp:=hp.I 0 (pa.L d.kd N 0 0 0) O (by rw[hq];rfl);refine tD (QL N _ yi) fun u2 hp=>?_;refine tT fun u4 hp=>?_;have hp:=hp.I 0 (pa.L d.kd N 0 0 (AK N)) O O;refine qR ?_;refine ke (qL (vs:=pa.L d.kd N 0 0 (AK N)) O O O O (hp.i6 0 O O)) (O:_=Value.agg (pa.L d.kd N 0 0 (AK N)).toArray) ?_;refine tS fun u3 hp=>?_;have hp:=hp.I 1 (pa.L d.kd N 0 0 (AK N)) O O;refine qA ?_;exact yP O O O O O (hp.j2 1 O O) ⟨_,O,.inr ⟨pa,N,[],[],O,⟨yi,fun _=>⟨hN,O,O⟩,fun h=>absurd h h3⟩,hp.Z⟩⟩
end
variable{S:List Int}{pool:Int}{r t:Nat}
section
def AE(pool b k:Int):Nat→Nat
 |0=>0
 |t+1=>AE pool b k t+AO (pool-(b+(t+1:Nat))) k
def DP(pool:Int)(l:List Int):Nat→Nat
 |0=>0
 |i+1=>DP pool l i+AE pool (if i=0 then 0 else l.getD (i-1) 0) ((l.length:Int)-i-1) (l.getD i 0-(if i=0 then 0 else l.getD (i-1) 0)-1).toNat
theorem MY{pool b k}(hp:pool≤60)(hb:0≤b):∀t,AE pool b k t≤t*2^60
 |0=>by simp[AE]
 |t+1=>by
  have h1:=MY (k:=k) hp hb t;have h2:=MT (n:=pool-(b+(t+1:Nat))) (k:=k) O1;rw[AE,eL,mH];omega
def RB(r:Nat)(b:Int):Prop:=r≤b.toNat*2^60
theorem RB.zero(b):RB 0 b:=bL _
theorem RB.fit{b k:Int}(h:RB r b)(hp:pool≤60)(hb:0≤b)(ht:b+t+1≤pool):Fit (r+AE pool b k t):=by
 have bR:=MY (k:=k) hp hb t;unfold RB at h;refine Fit.of (k:=67) ?_ O2;omega
theorem RB.next{b k li:Int}(h:RB r b)(hp:pool≤60)(hb:0≤b)(ht:b+t+1=li):RB (r+AE pool b k t) li:=by
 have bR:=MY (k:=k) hp hb t;unfold RB at*
 omega
theorem zMu{p b b'}(h:C5 p b l)(hb:b'≤b):C5 p b' l:=by
 cases l with
 |nil=>trivial
 |cons x l=>exact⟨by have:=h.1;omega,h.2⟩
theorem ID(pool):∀(P m r:Nat),P≤pool→C5 pool ((pool-P:Nat):Int) (un pool P m r)
 |0,_,_,_=>trivial
 |P+1,0,_,_=>trivial
 |P+1,m+1,r,h=>by
  rw[un];split
  ·exact⟨O1,O1,ID _ P m r O1⟩
  exact zMu (ID _ P _ _ O1) O1
def IL(pool:Int):Int→List Int→Nat
 |_,[]=>0
 |b,x::l=>AE pool b (l.length:Int) (x-b-1).toNat+IL pool x l
theorem Xv(pool b k):∀t,AE pool b k (t+1)=AO (pool-(b+1)) k+AE pool (b+1) k t
 |0=>by simp[AE]
 |t+1=>by
  rw[AE,Xv,AE];grind
theorem QR(pool)(hp:pool≤60):∀(P m r:Nat),P≤pool→r<ch P m→IL pool ((pool-P:Nat):Int) (un pool P m r)=r
 |0,0,r,_,h=>by
  have:=by simpa[ch] using h
  subst this;rfl
 |0,m+1,r,_,h=>by simp[ch] at h
 |P+1,0,r,_,h=>by
  have:=by simpa[ch] using h
  subst this;rfl
 |P+1,m+1,r,hP,h=>by
  rw[ch] at h;rw[un];split
  ·rename_i h1
   rw[IL,show(((pool-P:Nat):Int)-(pool-(P+1):Nat)-1).toNat=0 from O1,AE,gF];exact QR _ hp P m r O1 h1
  rename_i h1
  have h3:r-ch P m<ch P (m+1):=O1;have ih:=QR _ hp P _ _ O1 h3;have h4:=IB pool P _ _ h3;have h5:=ID pool P (m+1) (r-ch P m) O1;cases hl:un pool P (m+1) (r-ch P m) with
  |nil=>grind
  |cons y l=>
   rw[hl] at h4 h5 ih;rw[IL] at ih⊢;have hy:=h5.1;have rh:=by simpa using h4
   obtain⟨t,ht⟩:∃t,(y-(pool-(P+1):Nat)-1).toNat=t+1:=⟨(y-(pool-(P+1):Nat)-1).toNat-1,O1⟩;have e1:(pool-(P+1):Nat)+1=((pool-P:Nat):Int):=O1;have e2:pool-(pool-P:Nat)=(P:Int):=O1;rw[ht,Xv,e1,e2,rh,Gx O1];grind
theorem Xn(p b k t):AE p b k (t+1)=AE p b k t+AO (p-(b+(t+1:Nat))) k:=O
theorem Xg(pool l):∀(k i:Nat),i+k=l.length→DP pool l l.length=DP pool l i+IL pool (if i=0 then 0 else l.getD (i-1) 0) (l.drop i)
 |0,i,h=>by
  have:i=_:=O1;subst this;rw[lT];rfl
 |k+1,i,h=>by
  have hl:i<l.length:=O1;rw[Xg _ l k (i+1) O1,DP,aT hl,IL];grind
theorem zOh(pool l):DP pool l l.length=IL pool 0 l:=by
 have:=Xg pool l l.length 0 O1;rw[this];simp[DP]
theorem zPt{pool}(hp:pool≤60){m r}(h:r<ch pool m):DP pool (un pool pool m r) (un pool pool m r).length=r:=by
 have h1:=QR _ hp _ m r O1 h;rw[gZ] at h1;rw[zOh];exact h1
def By(x:Int×Nat×Nat):List Value:=[Iv x.1,.string (ki x.2.1),.string (ki x.2.2)]
def Cr(S:List Int)(i:Nat):Int:=((0:Int)::S).getD i 0
def JB(N:Nat)(S:List Int)(i:Nat):Nat:=AE N (Cr S i) ((S.length:Int)-1-i) (S.getD i 0-Cr S i-1).toNat
def Ev(N:Nat)(S:List Int)(i:Nat):Int×Nat×Nat:=(S.getD i 0,JB N S i,AO (N-S.getD i 0) ((S.length:Int)-1-i))
def B9(S:List Int)(i:Nat):Nat:=(S.drop (i+1)).countP fun y=>decide (y<S.getD i 0)
def Ey(S:List Int)(i:Nat):Int×Nat×Nat:=(S.getD i 0,B9 S i*uO (S.length-1-i),uO (S.length-1-i))
theorem WS{N:Nat}(hN:N≤60)(h0:0≤Cr S i)(h1:S.getD i 0≤N):∀t,t≤(S.getD i 0-Cr S i-1).toNat→Fit (AE N (Cr S i) ((S.length:Int)-1-i) t):=fun t ht=>by
 have h:=MY (pool:=N) (k:=S.length-1-i) O1 h0 t;refine Fit.of (k:=67) O1 O2
theorem WK(S i):B9 S i≤S.length:=bF iK O4
attribute [local irreducible] ki AE un
theorem zRh(a d){T}(s c n0 N x m lv W)(hL:Ho d T)(hx:x<ch d.po.toNat d.pi.toNat):
  Rt 139 [.agg (AU a d s c n0 N m lv).toArray,.string (ki x)] W (fun v w'=>∃s' c',v= .slice s' (un d.po.toNat d.po.toNat d.pi.toNat x).length c'∧ig w' 3 By s' (lm (un d.po.toNat d.po.toNat d.pi.toNat x).length (Ev d.po.toNat (un d.po.toNat d.po.toNat d.pi.toNat x)))∧ax [] W w'):=by
 obtain⟨po,hpo⟩:∃po:Nat,d.po=po:=⟨d.po.toNat,by have:=hL.po;omega⟩;obtain⟨pi,ha⟩:∃pi:Nat,d.pi=pi:=⟨d.pi.toNat,by have:=hL.pi;omega⟩;have h3:=hL.po;have a6:=hL.pi;rw[hpo,ha] at hx⊢;simp only[dW] at hx⊢;have h4:=IB po po pi x hx;have zh:=ID po po pi x O1;rw[gZ] at zh;refine tW func139 ntmps139 fun hp=>?_;refine qR (tF (kW (cs:=AU a d s c n0 N m lv) (m:=20) hp O O O) fun w1 sb hp=>?_);have hp:Hp W [] w1 [bu sb 20 _ 108]:=hp;have hg:∀{w L},Hp W [] w (L++[_])→w.cell? ⟨sb,0+6+4,_⟩=_∧w.cell? ⟨sb,0+6+5,_⟩=some (Iv (pi:Int)):=fun{w L} hp=>by
  have hb:=hp.N L.length (bu sb 20 (qE (AU a d s c n0 N m lv)) 108) (by rw[fQ (aS _),gZ];rfl) sb O;obtain⟨o,ho,rfl⟩:=hb;exact⟨(JO ho O2).trans (aK (fun z=>some (Iv z)) hpo),(JO ho O2).trans (aK (fun z=>some _) ha)⟩
 have⟨c4,c5⟩:=hg (L:=[]) hp;refine tL (XY po pi x _ O1 O1 hx) ?_;rintro _ w2 ⟨sS,cS,rfl,hh,zo⟩;have hp:=hp.C zo;clear zo;generalize un po po pi x=S at h4 zh hh hp⊢;have hp:Hp W [] w2 [_,_]:=hp;refine qA ?_;refine tF (VA By hp O O O O O O O1 O) fun w3 g⟨hv,hp⟩=>qA ?_;have hp:Hp W [] w3 [qG _ 146 3 _ _ (lm 0 (Ev po S)),_,_]:=hp;refine qQ ([7,8,9,10,11,12,13,14]++range' 31 44) (fun z F=>((F.put 7 (.slice z.2.1 z.1 z.2.2)).put 8 (.int _ (Cr S z.1))).put 31 (.int _ (z.1))) (fun z w'=>z.1≤S.length∧kg z.2.1 z.2.2 (lm z.1 (Ev po S))∧Hp W [] w' [qG _ 146 3 z.2.1 z.2.2 (lm z.1 _),_,_]) (fun z=>S.length-z.1) (0,some _,S.length) (qB (qB (qB (ka.eq .refl) O) O) O) ⟨O1,hv,hp⟩ ?_;clear hp hv c4 c5;rintro u ⟨i,s1,c1⟩ w4 ⟨hi,hv,hp⟩;dsimp only at hi hv hp⊢;refine tI (fun h=>?_) fun h=>?_
 ·have hl:i<S.length:=O1;obtain⟨y,hy⟩:∃y,S[i]? =some y:=⟨_,aA hl⟩;have o1:S.getD i 0=y:=by rw[aC,hy];rfl
  have bR:=K9 zh hy;have zg:0≤Cr S i:=by
   unfold Cr;cases i with
   |zero=>simp
   |succ i=>
    rw[nF];have hj:i<S.length:=O1;rw[aC,aA hj];have h0:∀{l:List Int} {b:Int} {p:Int} {q:Nat} {z:Int},0≤b→C5 p b l→l[q]? =some z→0≤z:=by
     intro l;induction l with
     |nil=>simp
     |cons t l ih=>
      intro b p q z hb hI hz;cases q with
      |zero=>cases hz;have:=hI.1;omega
      |succ q=>exact ih (by have:=hI.1;omega) hI.2.2 hz
    exact h0 O1 zh (aA _)
  have h6:Cr S i<y∧_:=bR;have h5:Cr S (i+1)=y:=by unfold Cr;rw[nF,o1]
  have hm:=WS (N:=po) O1 zg O1;rw[o1] at hm;obtain⟨b0,oP⟩:∃b0,b0=Cr S i:=⟨_,O⟩;obtain⟨k,hk⟩:∃k:Int,k=S.length-1-i:=⟨_,O⟩;rw[←oP] at h6 zg hm⊢;rw[←hk] at hm;have xy:Ev po S i=(y,AE po b0 k (y-b0-1).toNat,AO (po-y) k):=by unfold Ev JB;rw[o1,←oP,←hk]
  obtain⟨gS,rfl⟩:=hh.addr (fun e=>O6);have eu:=zS hp 1 O hh (fun _=>O) hy 0 _ O;have eu:w4.cell? ⟨gS,0+i*1,_⟩=_:=eu;have⟨c4,c5⟩:=hg (L:=[_,_]) hp;refine qA ?_;refine ke (jN O O) (qF (qK O1 O1)) (jM ?_);refine ke (jN O O) (qF (b:=k) (by rw[qK O1 O1];omega)) (tD (Aw 0 _ O2) fun w5 hp=>?_);refine qA ?_;refine ke (qO O O) (qF (qK O1 O1)) (qA ?_);have hp:=hp;refine qQ ([12,13]++range' 45 14) (fun t F=>(F.put 12 (.string (ki (AE po b0 k t)))).put 13 (.int _ (b0+1+t))) (fun t w'=>b0+1+t≤y∧Hp W [] w' _) (fun t=>(y-(b0+1+t)).toNat) 0 (qB (qB (ka.eq .refl) (aK (fun z=>Value.string _) (show 0=AE po b0 k 0 by unfold AE;rfl))) (qF O1)) ⟨O1,hp⟩ ?_;clear hp c4 c5 eu;rintro u2 t w6 ⟨ht,hp⟩;have hq:AE po b0 k (t+1)=AE po b0 k t+AO (po-(b0+1+t)) k:=by
   rw[Xn];congr 2;omega
  refine tI (fun h2=>?_) fun h2=>?_
  ·have⟨c4,c5⟩:=hg (L:=[_,_]) hp;have hE:=hm t O1;have h8:=hm (t+1) O1;rw[hq] at h8;refine qA ?_;refine ke (jN O O) (qF (qK O1 O1)) (tD (Bz (po-(b0+1+t)) k _ O1) fun w7 hp=>?_);refine tC (Eh _ _ _ hE (h8.le (Rp _ _))) fun w8 hp=>?_;exact mCg
  have h7:t=(y-b0-1).toNat:=O1;rw[h7];have⟨c4,c5⟩:=hg (L:=[_,_]) hp;refine qA ?_;refine ke (jN O O) (qF (qK O1 O1)) (tD (Bz (po-y) k _ O1) fun w7 hp=>?_);have hj:(lm i (Ev po S)).length=i:=qT;have eN:lm i (Ev po S)++[(y,AE po b0 k (y-b0-1).toNat,AO (po-y) k)]=lm (i+1) (Ev po S):=by rw[←xy];exact kh.symm
  refine AP ?_;refine Hc ?_;refine jM ?_;refine ke (uI O O O O) (O:_=Value.agg (By (y,AE po b0 k _,AO _ k)).toArray) (tF (jC (cs:=By _) hp O O O O O O O) fun w8 nb hp=>?_);refine AB (jV _ _ _ hp 1 0 O O O O O O (fun _=>O) (by rw[hj];rfl) O O hv O O O1) fun w9 s' c'⟨hn,hp⟩=>?_;have hp:=hp.E;rw[eN] at hp hn⊢;rw[qT];refine Ck ?_;exact⟨(i+1,s',c'),qB (qB O5 (aK _ h5.symm)) O,⟨O1,hn,hp⟩,O1⟩
 exact mD3
end
section
def AZ(f:Nat→Nat)(x:Nat):Nat→Nat→Nat
 |k,0=>k
 |k,n+1=>if x<sN f (k+1) then k else AZ f x (k+1) n
def IK(f:Nat→Nat)(n x:Nat):Int×Nat×Nat:=((AZ f x 0 n:Nat),sN f (AZ f x 0 n),f (AZ f x 0 n))
theorem IE(f x):∀(n k:Nat),sN f k≤x→x<sN f (k+n)→k≤AZ f x k n∧AZ f x k n<k+n∧sN f (AZ f x k n)≤x∧x<sN f (AZ f x k n+1)
 |0,k,h1,h2=>O6
 |n+1,k,h1,h2=>by
  unfold AZ;split
  ·omega
  have:=IE f x n (k+1) O1 O6;omega
attribute [local irreducible] ki Al uO B9
theorem zRg(a d s c n0 N x m lv W)(hn:n0≤40)(hx:x<uO n0):
  Rt 140 [.agg (AU a d s c n0 N m lv).toArray,.string (ki x)] W (fun v w'=>∃s' c',v= .slice s' (Al n0 x).length c'∧ig w' 3 By s' (lm (Al n0 x).length (Ey (Al n0 x)))∧ax [] W w'):=by
 have h4:=M4 n0 x;have us:Fit x:=(Jp (n:=n0) O1).le O1;refine tW func140 ntmps140 fun hp=>?_;refine qR (tF (kW (cs:=AU a d s c n0 N m lv) (m:=20) hp O O O) fun w1 sb hp=>?_);have hp:Hp W [] w1 [bu sb 20 _ 108]:=hp;refine tL (XW n0 _ x _ (NS.self us) us hn hx) ?_;rintro _ w2 ⟨sS,cS,rfl,hh,zo⟩;have hp:=hp.C zo;clear zo;generalize Al n0 x=S at h4 hh hp⊢;have hp:Hp W [] w2 [_,_]:=hp;refine qA ?_;refine tF (VA By hp O O O O O O O1 O) fun w3 g⟨hv,hp⟩=>qA ?_;have hp:Hp W [] w3 [qG _ 146 3 _ _ (lm 0 (Ey S)),_,_]:=hp;refine qQ ([7,8,9,10,12,13,14]++range' 28 38) (fun z F=>(F.put 7 (.slice z.2.1 z.1 z.2.2)).put 28 (.int _ (z.1))) (fun z w'=>z.1≤S.length∧kg z.2.1 z.2.2 (lm z.1 (Ey S))∧Hp W [] w' [qG _ 146 3 z.2.1 z.2.2 (lm z.1 _),_,_]) (fun z=>S.length-z.1) (0,some _,S.length) (qB (qB (ka.eq .refl) O) O) ⟨O1,hv,hp⟩ ?_;clear hp hv;rintro u ⟨i,s1,c1⟩ w4 ⟨hi,hv,hp⟩;dsimp only at hi hv hp⊢;refine tI (fun h=>?_) fun h=>?_
 ·have hl:i<S.length:=O1;obtain⟨y,hy⟩:∃y,S[i]? =some y:=⟨_,aA hl⟩;have hg:S.getD i 0=y:=by rw[aC,hy];rfl
  have xy:Ey S i=(y,B9 S i*uO (S.length-1-i),uO (S.length-1-i)):=by unfold Ey;rw[hg]
  have ys:=WK S i;obtain⟨gS,rfl⟩:=hh.addr (fun e=>O6);have ht:=hh.cap;have eu:=zS hp 1 O hh (fun _=>O) hy 0 _ O;have eu:w4.cell? ⟨gS,0+i*1,_⟩=_:=eu;obtain⟨ad,xn⟩:∃ad,ad=(some ⟨gS,if cS=i+1 then 0 else 0+(i+1)*1,none⟩:Option Addr):=⟨_,O⟩;obtain⟨R,hR⟩:∃R,R=S.drop (i+1):=⟨_,O⟩;have xk:R.length=S.length-(i+1):=by rw[hR,fR]
  have bz:Value.slice (some ⟨gS,if cS=i+1 then 0 else 0+(i+1)*1,none⟩) (S.length-(i+1)) (cS-(i+1))= .slice ad R.length (cS-(i+1)):=by rw[xn,xk]
  have xg:ig w4 1 eI ad R:=by
   rw[xn,hR];exact ig.aA7 (qZ hp 1 O hh (fun _=>O)) ht (i+1)
  have h5:B9 S i=R.countP fun y'=>decide (y'<y):=by rw[hR,←hg];unfold B9;rfl
  refine tM (i+1) (ke (H0 (zK O).1 (zK (t:=22) O).2 O O O1 ht) bz ?_);refine qA (qQ ([10,12]++range' 38 10) (fun j F=>(F.put 10 (.int _ ((R.take j).countP fun y'=>decide (y'<y):Nat))).put 38 (.int _ j)) (fun j w'=>j≤R.length∧w'=w4) (fun j=>R.length-j) 0 (qB (qB (ka.eq .refl) O) O) ⟨O1,O⟩ ?_);rintro u2 j _ ⟨hj,rfl⟩;have eg:(R.take j).countP (fun y'=>decide (y'<y))≤40:=bF iK O6;refine tI (fun h2=>?_) fun h2=>?_
  ·have hV:j<R.length:=O1;have⟨b1,o1,hq,vx⟩:=xg.base O1;obtain⟨z,hz⟩:∃z,R[j]? =some z:=⟨_,aA hV⟩;have yl:=vx j z hz 0 _ O;have vu:(R.take (j+1)).countP (fun y'=>decide (y'<y))=(R.take j).countP (fun y'=>decide (y'<y))+if z<y then 1 else 0:=by
    rw[kZ,hz,iM];simp[lS]
   generalize (R.take j).countP _=q at eg vu;refine tI (fun h3=>?_) fun h3=>?_
   ·rw[if_pos h3] at vu;refine tM (q+1) ?_;exact mCz
   rw[if_neg h3] at vu;exact mCz
  rw[bJ O1,←h5];have hE:Fit (uO (S.length-1-i)):=Jp O1;have hm:(lm i (Ey S)).length=i:=qT;have eN:lm i (Ey S)++[(y,B9 S i*uO (S.length-1-i),uO (S.length-1-i))]=lm (i+1) (Ey S):=by rw[←xy];exact kh.symm
  have h6:=fun w'=>Aw (B9 S i:Nat) w' O1
  simp[dW] at h6;refine tM (S.length-1) ?_;refine tM (S.length-1-i) ?_;refine tC (Ik (S.length-1-i) _ O1) fun w5 hp=>?_;refine tD (h6 _) fun w6 hp=>?_;refine tD (Bc (B9 S i) _ _ (Fit.small O1) hE) fun w7 hp=>?_;refine jM ?_;refine Hc ?_;refine jM ?_;refine ke (uI O O O O) (O:_=Value.agg (By (y,_*_,uO _)).toArray) (tF (jC (cs:=By _) hp O O O O O O O) fun w8 nb hp=>?_);refine AB (jV _ _ _ hp 1 0 O O O O O O (fun _=>O) (by rw[hm];rfl) O O hv O O O1) fun w9 s' c'⟨ha,hp⟩=>?_;have hp:=hp.E;rw[eN] at hp ha⊢;rw[qT];refine Ck ?_;exact⟨(i+1,s',c'),qB O5 O,⟨O1,ha,hp⟩,O1⟩
 exact mD3
theorem zPk(x y:Nat):decide ((if x<y then(-1:Int) else if x=y then 0 else 1)>0)=decide (y<x):=by
 grind
theorem zRi(f:Nat→Nat)(n x nb c:Nat)(s:Option Addr)(W:World)(hs:ig W 1 Hf s (lm n fun i=>sN f (i+1)))(hb:W.cell? ⟨nb,0,none⟩=some (.string (ki x)))(hx:x<sN f n)(hn:n≤32)(hf:∀i,i≤n→Fit (sN f i)):
  Rk 137 [.slice s n c,.func (.func 138) #[] #[.pointer (Ad nb)]] W (Iv ((AZ f x 0 n:Nat):Int)):=by
 have us:Fit x:=(hf n O1).le O1;have hg:∀(y:Nat) (w:World),Fit y→w.cell? ⟨nb,0,none⟩=some (.string (ki x))→Rk 138 [.string (ki y),.pointer (Ad nb)] w (.bool (decide (x<y))):=by
  intro y w hy hc;refine tW func138 ntmps138 fun hp=>?_;refine tD (BY y x _ hy us) fun w4 hp=>?_;refine ke (xJ O O) (qV (zPk y x)) ?_;exact nj
 have hL:(lm n fun i=>sN f (i+1)).length=n:=qT;refine tW func137 ntmps137 fun hp=>?_;refine qA (qQ ([4,5,6]++range' 9 10) (fun(k:Nat) F=>F.put 9 (.int _ k)) (fun k w'=>k≤n∧sN f k≤x∧AZ f x k (n-k)=AZ f x 0 n∧ax [] W w') (fun k=>n-k) 0 (qB (ka.eq .refl) O) ⟨O1,bL _,O,.refl⟩ ?_);clear hp;rintro u k w1 ⟨hk,ys,nu,ha⟩;have hp:=Hp.u7 ha;refine tI (fun h=>?_) fun h=>?_
 ·have hl:k<n:=O1;have⟨b0,o0,hs0,yk⟩:=hs.base O1;have hm:=yk k _ (yI hl) 0 _ O;rw[show n-k=(n-(k+1))+1 from O1,AZ] at nu;refine tD (hg (sN f (k+1)) _ (hf _ O1) (hp.j3 hb)) fun w2 hp=>?_;refine qR (qH O (fun h2=>?_) (fun h2=>?_))
  ·rw[if_pos h2] at nu;rw[←nu];exact nj
  rw[if_neg h2] at nu;refine KX ?_;exact⟨_,qB O5 O,⟨O1,O1,nu,hp.Z⟩,O1⟩
 obtain rfl:k=n:=O1;omega
end
section
def CB(d:DW)(n0:Nat)(m:Mx)(x:Nat):List (Int×Nat×Nat):=
 if d.kd=1 then lm (un d.po.toNat d.po.toNat d.pi.toNat x).length (Ev d.po.toNat (un d.po.toNat d.po.toNat d.pi.toNat x))
 else if d.kd=2 then lm (Al n0 x).length (Ey (Al n0 x))
 else[IK (Ah m) m.length x]
abbrev EL:List Value:=[Iv 0,.string ⟨#[]⟩,Iv 0,Zs,Zs,Zs,.string ⟨#[]⟩,Iv 0,Iv 0,Iv 0,Iv 0,Iv 0,Zs,.bool false,Zs,Iv 0,Iv 0,Zs,Zs,Zs]
def zQq(x:Int):Option Value:=if x=3 then some (.func (.func 71) #[] #[]) else if x=2 then some (.func (.func 140) #[] #[]) else if x=1 then some (.func (.func 139) #[] #[]) else none
attribute [local irreducible] ki Ah Ab
theorem XV(a d s c n0 x κ m lv){F}(W)(hM:Aj F κ m)(hκ:κ≤6000000000)(hA:DI a m W)(hx:x<Ab m):
  Rt 71 [.agg (AU a d s c n0 (Ab m) m lv).toArray,.string (ki x)] W (fun v w'=>∃s' c',v= .slice (some s') 1 c'∧ig w' 3 By (some s') [IK (Ah m) m.length x]∧ax [] W w'):=by
 obtain⟨f,hf⟩:∃f,f=Ah m:=⟨_,O⟩;obtain⟨n,hn⟩:∃n,n=m.length:=⟨_,O⟩;have h5:x<sN f n:=by rw[hf,hn,hM.tot];exact hx
 have yc:∀i,i≤n→Fit (sN f i):=fun i hi=>by rw[hf];exact hM.y4 hκ O1
 have hF:∀i,i<n→Fit (f i):=fun i hi=>by rw[hf];exact hM.r5 hκ O1
 have hE:=hM.len;have h7:=hA.N;have cD:(lm m.length (Ah m)).length=_:=qT;have⟨uu,yv,uw,uv⟩:=IE f x n 0 (bL _) O6;have h9:IK (Ah m) m.length x=(((AZ f x 0 n):Int),sN f (AZ f x 0 n),f (AZ f x 0 n)):=by rw[hf,hn];rfl
 rw[h9];rw[←hf,←hn] at h7;rw[←hn] at hE;refine tW func71 ntmps71 fun hp=>?_;refine qR (tF (kW (cs:=AU a d s c n0 _ m lv) (m:=20) hp O O O) fun w1 sb hp=>?_);refine tQ fun w2 nb hp=>?_;have hp:Hp W [] w2 [bu nb 1 (qE [.string _]) 34,bu sb 20 _ 108]:=hp;have ht:∀{w:World} {L:List _},Hp W [] w (L++[_])→w.cell? ⟨sb,0+0+4,_⟩=some (.slice _ n a.cN):=fun{w L} hp=>by
  obtain⟨o,ho,rfl⟩:=hp.N L.length (bu sb 20 (qE (AU a d s c n0 (Ab m) m lv)) 108) (by rw[fQ (aS _),gZ];rfl) sb O;rw[hn];exact JO ho O2
 have u6:=ht (L:=[_]) hp;refine qA ?_;refine tF (yE Hf 0 hp O O O O O (by show[_]=[_];rw[qI8]) O O1 O) fun w3 g⟨hv,hp⟩=>tD (Aw 0 _ O2) fun w4 hp=>?_;have hp:Hp W [] w4 ([qG _ 34 1 _ n (lm 0 (fun i=>sN f (i+1))++replicate (n-0) 0),_]++_):=hp;have hD:=ht hp;refine qA (qQ ([6,7,8]++range' 21 13) (fun k F=>(F.put 6 (.string (ki (sN f k)))).put 21 (.int _ k)) (fun k w'=>k≤n∧Hp W [] w' ([qG _ 34 1 _ n (lm k _++replicate (n-k) 0),_]++[_])) (fun k=>n-k) 0 (qB (qB (ka.eq .refl) O) O) ⟨O1,hp⟩ ?_);clear hp hv u6 hD;rintro u k w5 ⟨hk,hp⟩;have hh:(lm k fun i=>sN f (i+1)).length=k:=qT;have h8:=Lb (z:=0) hh hk;have hv:kg _ n _:=.inr ⟨g,n,by rw[h8],O1,by unfold maxLen;omega⟩;refine tI (fun h=>?_) fun h=>?_
 ·have hl:k<n:=O1;have⟨bn,on,ha,hg⟩:=jR h7 hl;have h6:=hg 0 _ O;have hT:=Rb (z:=0) (x:=sN f (k+1)) hh hl;rw[show lm k _++[_]=lm _ _ from kh.symm] at hT;refine tL (Eh _ _ _ (yc k hk) (hF k hl)) ?_;rintro _ w6 ⟨rfl,vy⟩;have hp:=hp.V vy;refine qA (tO (zL _ _ k (sN f (k+1)) hp 0 O hv O1 O O (fun _=>O) O O (qD O)) fun w7 hp=>?_);rw[hT] at hp;exact FL
 obtain rfl:k=n:=O1;rw[M6] at hp hv h8;have hs:=qZ hp 0 O hv (fun _=>O);have xi:w5.cell? ⟨nb,0,_⟩=some (.string _):=hp.J 1 O O;refine tL (zRi f k x nb k _ _ O1 xi h5 hE yc) ?_;rintro _ w6 ⟨rfl,vy⟩;have hp:=hp.V vy;generalize AZ f x 0 k=q at uu yv uw uv⊢;refine tL (Aw 0 _ O2) ?_;rintro _ w7 ⟨rfl,h4⟩;have hp:=hp.V h4;have hs:=(hs.i7 vy).i7 h4;refine qA (uD ([10]++range' 40 5) (fun(_:Unit) F=>F.put 10 (.string (ki (sN f q)))) (fun _ w'=>w'=w7) ?_ ?_)
 ·refine qH O (fun h3=>?_) (fun h3=>?_)
  ·obtain⟨q',rfl⟩:∃q',q=q'+1:=⟨q-1,O1⟩;have⟨b1,o1,hq,vx⟩:=hs.base O1;cases hq;have hz:w7.cell? ⟨g,0+_,_⟩=_:=vx q' _ (yI O1) 0 _ O;have hj:q'<k:=O1;refine tM q' ?_;refine qA ?_;exact⟨(),qB O5 O,O⟩
  obtain rfl:q=0:=O1;refine qA ?_;exact⟨(),qB O5 O,O⟩
 rintro u2 ⟨⟩ _ rfl;have hm:q<k:=O1;have⟨bn,on,ha,hg⟩:=jR h7 hm;have h6:=hg 0 _ O;have hH:=ht hp;refine tD (X3 _ _ (hF q hm)) fun w8 hp=>?_;refine ke (uI O O O O) (O:_=Value.agg (By (q,sN f q,f q)).toArray) (tF (jC (cs:=By _) hp O O O O O O O) fun w9 rb hp=>?_);refine qA ?_;refine qM O O ⟨_,O,_,1,O,fun i y hy=>?_,hp.Z⟩;have hi:=by
  have:=(aI.1 hy).1;exact DT
 subst hi;cases hy;exact⟨rb,0,O,fun j v hv=>by exact hp.i6 0 O O j v hv⟩
theorem r72(a d){T P B}(s c N x m lv X W)(hK:Aa d T P B X)(hP:Cy d X a N m lv W)(hx:x<N):
  Rt 72 [.agg (AU a d s c X.length N m lv).toArray,.string (ki x)] W (fun v w'=>∃s' c',v= .slice s' (CB d X.length m x).length c'∧ig w' 3 By s' (CB d X.length m x)∧ax [] W w'):=by
 have hD:prog.underlying 216=some (.map 3 215)∧prog.underlying 3=some AG.kd∧kx prog 215 .nilFunc:=⟨underlying216,underlying3,by unfold kx;kernel_rfl⟩;refine tW func72 ntmps72 fun hp=>?_;refine qR (tF (kW (cs:=AU a d s c _ N m lv) (m:=20) hp O O O) fun w1 sb hp=>?_);have hp:Hp W [] w1 [bu sb 20 _ 108]:=hp;refine qA (tF (yS AG hp) fun w2 mb hp=>?_);refine tO (M7 (v:=.func (.func 139) _ _) hp 0 O O O O hD.1 hD.2.1) fun w3 hp=>tO (M7 (v:=.func (.func 140) _ _) hp 0 O O O O hD.1 hD.2.1) fun w4 hp=>tO (M7 (v:=.func (.func 71) _ _) hp 0 O O O O hD.1 hD.2.1) fun w5 hp=>?_;have hp:Hp W [] w5 [yA _ mb zQq,_]:=hp;rcases hK.d.kd with hk|hk|hk
 ·have xy:CB d X.length m x=lm (un d.po.toNat d.po.toNat d.pi.toNat x).length (Ev d.po.toNat (un d.po.toNat d.po.toNat d.pi.toNat x)):=by unfold CB;rw[if_pos hk]
  have hN:=(hP.tot O1).1;unfold BC at hN;rw[if_pos hk] at hN;refine qA ?_;refine ke (Dw hp 0 O O O hD.1 hD.2.1 hD.2.2) (show _=Value.func _ _ _ by rw[hk];rfl) ?_;refine tL (zRh a d s c _ N x m lv _ (hK.d.k1 hk) O1) ?_;exact mCb
 ·have xy:CB d X.length m x=lm (Al X.length x).length (Ey (Al X.length x)):=by unfold CB;rw[if_neg O1,if_pos hk]
  have hN:=(hP.tot O1).1;unfold BC at hN;rw[if_neg O1] at hN;refine qA ?_;refine ke (Dw hp 0 O O O hD.1 hD.2.1 hD.2.2) (show _=Value.func _ _ _ by rw[hk];rfl) ?_;refine tL (zRg a d s c _ N x m lv _ hK.l O1) ?_;exact mCb
 have xy:CB d X.length m x=[IK (Ah m) m.length x]:=by unfold CB;rw[if_neg O1,if_neg O1]
 obtain⟨lr,p,rfl,hG,ut,_⟩:=hP.pan hk;refine qA ?_;refine ke (Dw hp 0 O O O hD.1 hD.2.1 hD.2.2) (show _=Value.func _ _ _ by rw[hk];rfl) ?_;refine tL (XV a d s c _ x 5712200030 m lv _ hG.mix O2 (ut.j1 hp.Z) hx) ?_;rintro _ w6 ⟨s',c',rfl,hs,vy⟩;have hp:=hp.V vy;refine qA ?_;rw[xy];exact qM O O ⟨_,O,_,c',O,hs,hp.Z⟩
theorem X9(a d){T P B}(s c N x m lv X W)(hA:Ak d T P B s X W)(hK:Aa d T P B X)(hP:Cy d X a N m lv W)(hx:Fit x):
  Rt 20 [.agg (a.L d.kd N m.length lv.length (AK N)).toArray,d.v,.slice s X.length c,.string (ki x)] W (fun v w'=>(if x<N then∃s' c',v= .tuple #[.slice s' (CB d X.length m x).length c',.bool true]∧ig w' 3 By s' (CB d X.length m x) else v= .tuple #[Zs,.bool false])∧ax [] W w'):=by
 refine tW func20 ntmps20 fun hp=>?_;refine qR ?_;refine tQ fun w1 b4 hp=>?_;refine tQ fun w2 b5 hp=>?_;refine tR qY (tR qY ?_);refine qR (ke (qL O O O O (hp.i6 1 O O)) O ?_);refine ke (qL O O O O (hp.i6 0 O O)) (O:_=d.v) (ke qP (O:_=Value.slice s _ c) ?_);refine ke (HS (zs:=EL) (pl:=[(0,6),(6,13),(19,1)]) (pl':=[]) underlying108 (qJ O) (fun w=>O3) O O O) (O:_=Value.agg (AU a d s c _ N m lv).toArray) (tF (zE (cs:=EL) (m:=20) hp (qJ O) O O) fun w4 sb hp=>?_);refine tO (zH (cs:=AU a d s c _ N m lv) hp 0 O O O O (qD O) O O) fun w5 hp=>?_;refine tD (XZ a d s c N x m lv X _ (hA.j1 hp.Z) hK (hP.j1 hp.Z) hx) fun w6 hp=>?_;refine qA (xI O (fun h=>?_) (fun h=>?_))
 ·exact mE5
 refine tL (r72 a d s c N x m lv X _ hK (hP.j1 hp.Z) h) ?_;rintro _ w7 ⟨s',c',rfl,hs,ha⟩;have hp:=hp.V ha;exact mDk
end
variable{X:List EN}
def V8(n:Nat):Bool:=decide (Al n 0=CJ n)&&(range (uO n)).all fun t=>decide (Hk (Al n t)=if t+1<uO n then some (Al n (t+1)) else none)&&CZ n (Al n t)
theorem La(h:V8 n=true):FZ n:=by
 unfold V8 at h;simp[aJ,dV,dO,aR] at h;exact⟨h.1,fun t ht=>(h.2 t ht).1,fun t ht=>(h.2 t ht).2⟩
theorem QQ:∀n,n≤4→FZ n
 |0,_=>La O3
 |1,_=>La O3
 |2,_=>La O3
 |3,_=>La O3
 |4,_=>La O3
 |n+5,h=>absurd h O1
def DG(x:EN):En:=⟨x.e.id,x.e.cl,x.e.fa,x.e.sW,x.e.cW,x.Ws⟩
theorem zQ7{B x}(h:Jw d P B x)(hk:d.kd=2):eE (DG x)=AR x.e:=by
 have h1:=h.n1 O1;have h3:=h.n3 O1;have h4:=h.mP;rw[h.z1 O1] at h4;unfold eE AR DG;rw[h1.1,h1.2,h3.1,h3.2,h4,h.z3 O1,h.mW];rfl
theorem Ak.ea{B}(h:Ak d T P B s X w)(hK:Aa d T P B X)(hk:d.kd=2):Jy w s (X.map DG):=by
 refine⟨fun i y hy=>?_,fun e he=>?_,fun e he=>?_⟩
 ·rw[bH] at hy;cases hx:X[i]? with
  |none=>grind
  |some x=>
   rw[hx] at hy;obtain rfl:=lI hy;rw[zQ7 (hK.e x (aG hx)) hk];exact h.l i _ O6
 ·obtain⟨x,hx,rfl⟩:=bM.1 he;exact(h.e x hx).W
 obtain⟨x,hx,rfl⟩:=bM.1 he;have:=((hK.e x hx).k2 hk).2.2.2.2.1;have:=(hK.d.k2 hk).l;show x.Ws.length≤_
 omega
theorem Hn.dB{d T P B}(h:Hn d T P B)(hk:d.kd=2):d.v= .agg (dB d 2 d.sP P.length d.cP).toArray:=by
 unfold DW.v DW.L _root_.Go.Eng.dB;rw[hk,h.mP]
variable{β:Type}
theorem Hp.aC8{enc:α→List Value}{L}(hp:Hp w0 M w L)(i){b k e}(hi:L[i]? =some (bu b 0 (qE []) e)):Hp w0 M w (L.set i (qG enc e k (Ad b) 0 ([]:List α))):=by
 refine hp.y1 hi fun o ho=>?_
 subst ho;exact⟨_,O,by simp[Jq],O4⟩
theorem zOe:kg (α:=α) (Ad b) 0 []:=.inr ⟨b,0,O,aS _,O2⟩
theorem zK4(f:α→β){l:List α}{k:Nat}{y:α}(hy:l[k]? =some y):(l.take k).map f++[f y]=(l.take (k+1)).map f:=by
 rw[kZ,hy,dR];rfl
section
def MP(b4 gb go gc x q pb po:Nat)(a:Cn)(sub:Value)(ml:Nat)(gp:Option Addr×Nat)(rl:Nat):Nat→Value
 |0=>.pointer (some ⟨b4,0+3,none⟩)
 |1=>.slice a.sP ml a.cP
 |2=>sub
 |3=>.string (ki x)
 |4=>.slice (some ⟨gb,go,none⟩) 1 gc
 |5=>.pointer (some ⟨gb,go+0*3,none⟩)
 |6=>.pointer (some ⟨gb,go+0*3+0,none⟩)
 |7=>Iv (q:Int)
 |8=>.pointer (some ⟨pb,po+q*1,none⟩)
 |9=>.slice gp.1 rl gp.2
 |10=>Iv (rl:Int)
 |_=>Iv 0
def A0(d:DW)(P:List (ByteArray×Int))(X:List EN)(m:Mx)(x:Nat):List ByteArray:=
 if d.kd=1 then(un d.po.toNat d.po.toNat d.pi.toNat x).map dec
 else if d.kd=2 then Cm (X.map DG) P (Al X.length x)
 else(pF m (AZ (Ah m) x 0 m.length)).map fun i=>dec ((X.map fun y=>y.e.id).getD i 0)
attribute [local irreducible] ki Ah Ab dec Cm Al un
theorem XX(l s c W)(hT:Ai W)(hs:ig W 1 eI s l)(hl:l.length≤1000)(hb:∀x∈l,0≤x∧x≤1000000000):
  Rt 68 [.slice s l.length c] W (fun v w'=>∃s' c',v= .slice s' (l.map dec).length c'∧ig w' 1 eS s' (l.map dec)∧ax [] W w'):=by
 refine tW func68 ntmps68 fun hp=>?_;refine qA ?_;refine tF (yE eS Bj hp O O O O O O O O1 O) fun w1 g⟨hv,hp⟩=>qA ?_;have hp:Hp W [] w1 [qG eS 9 1 _ _ ((l.take 0).map dec++replicate (_-0) _)]:=hp;refine qQ ([4,5]++range' 11 11) (fun(k:Nat) F=>F.put 11 (.int _ k)) (fun k w'=>k≤l.length∧Hp W [] w' [qG eS 9 1 _ _ ((l.take k).map _++replicate (l.length-k) _)]) (fun k=>l.length-k) 0 (qB (ka.eq .refl) O) ⟨O1,hp⟩ ?_;clear hp hv;rintro u k w2 ⟨hk,hp⟩;have hq:((l.take k).map dec).length=k:=by rw[aH,cJ];omega
 have h8:=Lb (z:=Bj) hq hk;have hv:kg _ _ _:=.inr ⟨g,_,by rw[h8],by rw[h8];exact aS _,by unfold maxLen;omega⟩;refine tI (fun h=>?_) fun h=>?_
 ·have ha:k<l.length:=O1;obtain⟨y,hy⟩:∃y,l[k]? =some y:=⟨_,aA ha⟩;have gz:=hb y (aG hy);have⟨b0,o0,hs0,yk⟩:=hs.base O1;have eu:=yk k y hy 0 _ O;have hg:=Rb (z:=Bj) (x:=dec y) hq ha;rw[show(l.take k).map _++[_]=(l.take _).map _ by rw[kZ,hy,dR];rfl] at hg;refine tD (PR y _ (hT.j1 hp.Z) O1 O1) fun w3 hp=>?_;refine qA (tO (zL eS _ k _ hp 0 O hv O1 O O (fun _=>O) O O (qD O)) fun w7 hp=>?_);rw[hg] at hp;exact FL
 obtain rfl:k=l.length:=O1;rw[M6,dF] at hp hv;have e:(l.map dec).length=_:=aH ..;refine tV ?_;exact⟨_,O,_,_,by rw[e];first|done|rfl,qZ hp 0 O hv (fun _=>O),hp.Z⟩
theorem r19(a:Cn)(d:DW){T:List (Int×Int)}{P:List (ByteArray×Int)}{B:List Int}(s:Option Addr)(c N x:Nat)(m:Mx)(lv:EJ)(X:List EN)(W:World)(hT:Ai W)(hA:Ak d T P B s X W)(hK:Aa d T P B X)(h4:X.length≤4)(hP:Cy d X a N m lv W)(hx:Fit x):
  Rt 19 [.agg (a.L d.kd N m.length lv.length (AK N)).toArray,d.v,.slice s X.length c,.string (ki x)] W (fun v w'=>(if x<N then∃s' c',v= .tuple #[.slice s' (A0 d P X m x).length c',.bool true]∧ig w' 1 eS s' (A0 d P X m x) else v= .tuple #[Zs,.bool false])∧ax [] W w'):=by
 refine tW func19 ntmps19 fun hp=>?_;refine qR ?_;refine tQ fun w1 b4 hp=>?_;have hp:=hp.I 0 (a.L _ N _ _ _) O O;refine tQ fun w2 b5 hp=>?_;have hp:=hp.I 0 d.L O O;have hp:Hp W [] w2 [bu b5 13 _ 28,bu b4 6 _ 39]:=hp;refine qR ?_;refine tR qY (tR qY ?_);refine qR (ke (qL O O O O (hp.i6 1 O O)) O ?_);refine ke (qL O O O O (hp.i6 0 O O)) (O:_=d.v) (ke qP (O:_=Value.slice s _ c) ?_);refine ke (HS (zs:=EL) (pl:=[(0,6),(6,13),(19,1)]) (pl':=[]) underlying108 (qJ O) (fun w=>O3) O O O) (O:_=Value.agg (AU a d s c _ N m lv).toArray) (tF (zE (cs:=EL) (m:=20) hp (qJ O) O O) fun w4 sb hp=>?_);refine tO (zH (cs:=AU a d s c _ N m lv) hp 0 O O O O (qD O) O O) fun w5 hp=>?_;have hp:=hp.I 0 (AU a d s c _ N m lv) O O;have hp:Hp W [] w5 [bu sb 20 _ 108,_,_]:=hp;refine qR (ke (qL O O O O (hp.i6 0 O O)) O ?_);refine tD (XZ a d s c N x m lv X _ (hA.j1 hp.Z) hK (hP.j1 hp.Z) hx) fun w6 hp=>?_;refine qA (xI O (fun h=>?_) (fun h=>?_))
 ·exact mE5
 rcases hK.d.kd with hk|hk|hk
 ·have xy:A0 d P X m x=(un d.po.toNat d.po.toNat d.pi.toNat x).map dec:=by unfold A0;rw[if_pos hk]
  have hN:=(hP.tot O1).1;unfold BC at hN;rw[if_pos hk] at hN;rw[xy];have hL:=hK.d.k1 hk;obtain⟨po,hpo⟩:∃po:Nat,d.po=po:=⟨d.po.toNat,by have:=hL.po;omega⟩;obtain⟨pi,hm⟩:∃pi:Nat,d.pi=pi:=⟨d.pi.toNat,by have:=hL.pi;omega⟩;have hX:=hL.po;have a6:=hL.pi;rw[hpo,hm] at hN⊢;simp only[dW] at hN⊢;have hJ:=IB po po pi x O1;have zh:=ID po po pi x O1;rw[gZ] at zh;have ce:w6.cell? ⟨b5,0+4,_⟩=some (.int _ _):=hp.J 1 O O;have cc:w6.cell? ⟨b5,0+5,_⟩=some (.int _ _):=hp.J 1 O O;have ck:w6.cell? ⟨b5,0+1,_⟩=some (.int _ _):=hp.J 1 O O;rw[hpo] at ce;rw[hm] at cc;rw[hk] at ck;refine qA (jB O ?_);refine tL (XY po pi x _ O1 O1 O1) ?_;rintro _ w7 ⟨sS,cS,rfl,ht,hY⟩;have hp:=hp.C hY;generalize un po po pi x=S at hJ zh ht hp⊢;have ha:=by
   have h0:∀{l:List Int} {b:Int},0≤b→C5 po b l→∀z∈l,0≤z∧z≤1000000000:=by
    intro l;induction l with
    |nil=>simp
    |cons t l ih=>
     intro b hb hI z hz;rcases aP.1 hz with rfl|hz
     ·have:=hI.1;have:=hI.2.1;omega
     exact ih (by have:=hI.1;omega) hI.2.2 z hz
   exact h0 (Int.le_refl 0) zh
  refine tL (XX S sS cS _ (hT.j1 hp.Z) (qZ hp 0 O ht (fun _=>O)) O1 ha) ?_;rintro _ w8 ⟨s',c',rfl,hs,hn⟩;have hp:=hp.V hn;exact mDk
 ·have xy:A0 d P X m x=Cm (X.map DG) P (Al X.length x):=by unfold A0;rw[if_neg O1,if_pos hk]
  have hN:=(hP.tot O1).1;unfold BC at hN;rw[if_neg O1] at hN;rw[xy];have hL:=hK.d.k2 hk;have ys:(X.map DG).length=_:=aH ..;have hO:=(QQ _ h4).ok x O1;have hQ:=M4 X.length x;have ck:w6.cell? ⟨b5,0+1,_⟩=some (.int _ _):=hp.J 1 O O;rw[hk] at ck;refine qA ?_;refine tJ (jB O ?_);refine tL (XW X.length _ x _ (NS.self hx) hx O1 O1) ?_;rintro _ w7 ⟨sS,cS,rfl,ht,hY⟩;have hp:=hp.C hY;clear hY;have hp:=hp;have xt:=qZ hp 0 O ht (fun _=>O);have eb:=r70 d P _ _ s _ sS c d.cP cS w7 ((hA.ea hK hk).i7 hp.Z) (hA.d.P.i7 hp.Z) xt O1 (by have:=hL.l;omega) (fun p hp=>by have:=hL.pb p hp;omega) O6 (Rc xt);rw[←hK.d.dB hk,ys] at eb;have qm:=QS (X.map DG) P (Al X.length x);rw[ys] at qm;refine tL eb ?_;rintro _ w8 ⟨gb,rfl,hV,xc⟩;have hp:=hp.C xc;refine qA ?_;exact xU O O O ⟨_,O,by rw[if_pos h];exact⟨_,_,by rw[qm];first|done|rfl,qZ hp 0 O hV (fun _=>O)⟩,hp.Z⟩
 obtain⟨lr,p,rfl,hG,ut,_⟩:=hP.pan hk;have hM:=hG.mix;obtain⟨uu,yv,uw,uv⟩:=IE _ x _ 0 (bL _) (by rw[gF,hM.tot];exact h);have xy:A0 d P X m x=(pF m (AZ (Ah m) x 0 m.length)).map fun i=>dec ((X.map fun y=>y.e.id).getD i 0):=by unfold A0;rw[if_neg O1,if_neg O1]
 rw[xy];have xd:IK _ m.length x=(((AZ _ x 0 _):Int),sN _ _,Ah m _):=O;generalize AZ _ x 0 _=q at uu yv uw uv xd⊢;have tt:q<m.length:=O1;have hF:=(hM.get tt).1;have xi:=fun i hi=>by have:=hF.lt i hi;rwa[aH] at this
 have xv:(pF m q).length≤4:=by
  exact mEd
 have ck:w6.cell? ⟨b5,0+1,_⟩=some (.int _ _):=hp.J 1 O O;rw[hk] at ck;refine AL ?_;refine tJ ?_;refine tF (jC (cs:=[]) hp O O O O O O O) fun w7 nb hp=>?_;have hp:=hp.aC8 (enc:=eI) (k:=1) 0 O;have hp:Hp W [] w7 [_,_,_,_]:=hp;refine qA ?_;have x1:(EF a.gp m).length=_:=qT;obtain⟨pb,po,xh,xb⟩:=ut.P.base O1;have xx:(EF a.gp m)[q]? =_:=yI tt;refine LZ ?_;intro F0 h7;have xp:F0 2= .slice s X.length c:=by rw[h7];rfl
 have xn:F0 3= .string (ki x):=by rw[h7];rfl
 have xu:F0 4= .pointer (Ad b4):=by rw[h7];rfl
 have xq:F0 10= .pointer (Ad sb):=by rw[h7];rfl
 have xo:F0 15= .slice (Ad nb) 0 0:=by rw[h7];rfl
 clear h7;refine L1 jG O3 (fun D F w'=>∃gb go gc,Dn 58 12 (MP b4 gb go gc x q pb po a (.agg (AU a d s c X.length (Ab m) m lv).toArray) m.length (a.gp q) (pF m q).length) F0 D F∧(D 5=true→D 4=true)∧(D 6=true→D 4=true)∧(D 4=true→ig w' 3 By (some ⟨gb,go,none⟩) [((q:Nat),sN (Ah m) q,Ah m q)])∧Hp W [] w' _) ⟨0,0,0,Dn.start,O4,O4,O4,hp.U⟩ ?_ ?_
 ·rintro i D F w8 hi hS hA ⟨gb,go,gc,hD,xr,xl,bz,hp⟩;have na:∀i,i<12→i≠4→((i=5∨i=6)→D 4=true)→∃gd gg gh,Dn 58 12 (MP b4 gd gg gh x q pb po a (.agg (AU a d s c X.length (Ab m) m lv).toArray) m.length (a.gp q) (pF m q).length) F0 (fun j=>D j||Nat.beq j i) (F.put (58+i) (MP b4 gb go gc x q pb po a (.agg (AU a d s c X.length (Ab m) m lv).toArray) m.length (a.gp q) (pF m q).length i))∧((fun j=>D j||Nat.beq j i) 5=true→(fun j=>D j||Nat.beq j i) 4=true)∧((fun j=>D j||Nat.beq j i) 6=true→(fun j=>D j||Nat.beq j i) 4=true)∧((fun j=>D j||Nat.beq j i) 4=true→ig w8 3 By (some ⟨gd,gg,none⟩) [(((q:Nat):Int),sN (Ah m) q,Ah m q)])∧Hp W [] w8 [qG eI 3 1 (Ad nb) 0 [],bu sb 20 (qE (AU a d s c X.length (Ab m) m lv)) 108,bu b5 13 (qE d.L) 28,bu b4 6 (qE (a.L d.kd (Ab m) m.length lv.length (AK (Ab m)))) 39]:=by
   intro i h1 h2 h3;refine⟨gb,go,gc,hD.put h1,fun h=>?_,fun h=>?_,fun h=>bz ?_,hp⟩
   ·show(D 4||Nat.beq 4 i)=true
    rcases gJ _ _▸h with h|h
    ·grind
    rw[h3 (.inl (bV h).symm)];rfl
   ·show(D 4||Nat.beq 4 i)=true
    rcases gJ _ _▸h with h|h
    ·grind
    rw[h3 (.inr (bV h).symm)];rfl
   have h:(D 4||Nat.beq 4 i)=true:=h;rw[jJ (fun e=>h2 e.symm),dL] at h;exact h
  match i,hi with
  |0,_=>exact zI (xF O ((hD.old 4 O O).trans xu)) O (na 0 O2 O2 O4)
  |1,_=>
   have hA:(D 0&&true)=_:=hA;simp[aJ,fJ] at hA;exact zI (qS O (hD.slot 0 hA O O) (hp.J 3 O O)) O (na 1 O2 O2 O4)
  |2,_=>exact zI (qL O O ((hD.old 10 O O).trans xq) O (hp.i6 1 O O)) O (na 2 O2 O2 O4)
  |3,_=>exact zI qP ((hD.old 3 O O).trans xn) (na 3 O2 O2 O4)
  |4,_=>
   have hA:(D 2&&(D 3&&true))=_:=hA;simp[aJ,fJ] at hA;refine KQ (jCs O zHf (hD.slot 2 hA.1 O O) (hD.slot 3 hA.2 O O) (XV a d s c _ x _ m lv w8 hM O2 (ut.j1 hp.Z) h)) ?_;rintro _ w9 ⟨s',c',rfl,ra,hH⟩;rw[xd] at ra;obtain⟨gd,gg,e,-⟩:=ra.base O4;obtain rfl:=lI e;have h5:D 5=false:=by
    cases h:D 5
    ·rfl
    rw[xr h] at hS;cases hS
   have h6:D 6=false:=by
    cases h:D 6
    ·rfl
    rw[xl h] at hS;cases hS
   have xz:Dn 58 12 (MP b4 gd gg c' x q pb po a (.agg (AU a d s c X.length (Ab m) m lv).toArray) m.length (a.gp q) (pF m q).length) F0 D F:=⟨fun j hj hU=>by
    have:=hD.at_ j hj hU;rw[this]
    match j,hj with
    |4,_=>grind
    |5,_=>grind
    |6,_=>grind
    |0,_=>rfl
    |1,_=>rfl
    |2,_=>rfl
    |3,_=>rfl
    |7,_=>rfl
    |8,_=>rfl
    |9,_=>rfl
    |10,_=>rfl
    |11,_=>rfl,hD.out⟩
   exact⟨_,_,c',xz.put O2,fun _=>mY _,fun _=>mY _,fun _=>ra,hp.V hH⟩
  |5,_=>
   have hA:(D 4&&true)=_:=hA;simp[aJ,fJ] at hA;exact zI (zA O (hD.slot 4 hA O O) O O O2) O (na 5 O2 O2 fun _=>hA)
  |6,_=>
   have hA:(D 5&&true)=_:=hA;simp[aJ,fJ] at hA;exact zI (xF O (hD.slot 5 hA O O)) O (na 6 O2 O2 fun _=>xr hA)
  |7,_=>
   have hA:(D 6&&true)=_:=hA;simp[aJ,fJ] at hA;obtain⟨b',o',e,b2⟩:=(bz (xl hA)) 0 _ O;cases e;exact zI (qS O (hD.slot 6 hA O O) (b2 0 _ O)) O (na 7 O2 O2 O4)
  |8,_=>
   have hA:(D 1&&(D 7&&true))=_:=hA;simp[aJ,fJ] at hA;exact zI (zA O (hD.slot 1 hA.1 O O) (hD.slot 7 hA.2 O O) xh tt) O (na 8 O2 O2 O4)
  |9,_=>
   have hA:(D 8&&true)=_:=hA;simp[aJ,fJ] at hA;obtain⟨b',o',e,b2⟩:=(ut.P.i7 hp.Z) q _ xx;rw[xh] at e;cases e;exact zI (qS O (hD.slot 8 hA O O) (b2 0 _ O)) O (na 9 O2 O2 O4)
  |10,_=>
   have hA:(D 9&&true)=_:=hA;simp[aJ,fJ] at hA;exact zI (GZ O (hD.slot 9 hA O O)) O (na 10 O2 O2 O4)
  |11,_=>exact zI qP O (na 11 O2 O2 O4)
  |i+12,hi=>exact absurd hi O4
 rintro D F w8 hD ⟨gb,go,gc,hh,_,_,_,hp⟩;refine yL [(2,.slice s _ c),(15,.slice _ 0 0),(67,.slice _ _ _),(68,.int _ _),(69,.int _ 0)] ⟨(hh.out 2 O2).trans xp,(hh.out 15 O2).trans xo,hh.at_ 9 O2 (hD 9 O2),hh.at_ 10 O2 (hD 10 O2),hh.at_ 11 O2 (hD 11 O2),trivial⟩ ?_;clear hh xp xn xu xq xo;intro F1;obtain⟨ia,xj⟩:∃ia:Nat→Int,ia=fun i=>(X.map fun y=>y.e.id).getD i 0:=⟨_,O⟩
 have hZ:=ut.p q tt;have xg:((pF m q).map fun i=>dec ((X.map fun y=>y.e.id).getD i 0))=((pF m q).map ia).map dec:=by rw[iU,xj];rfl
 have hid:∀i∈pF m q,∃z,z∈X∧_=_∧ia i=z.e.id:=fun i hi=>by
  have h1:=xi i hi;refine⟨_,bX h1,aA h1,?_⟩;grind
 have ha:∀z∈(pF m q).map ia,0≤z∧z≤1000000000:=fun z hz=>by
  obtain⟨i,hi,rfl⟩:=bM.1 hz;have⟨y,hy,_,e⟩:=hid i hi;have:=(hK.e y hy).id;omega
 rw[xg];clear xg xj;generalize pF m q=R at hZ hid ha xv xi⊢;refine qA ?_;refine kT ([15,17]++range' 69 13) (fun k st F=>(F.put 15 (.slice st.1 k st.2)).put 69 (.int _ k)) (fun k st w'=>k≤R.length∧kg st.1 st.2 ((R.take k).map ia)∧Hp W [] w' [qG eI 3 1 st.1 st.2 ((R.take k).map ia),_,_,_]) (fun k _=>R.length-k) 0 (some _,0) (by exact qB (qB (ka.eq .refl) O) O) ⟨O1,zOe,hp⟩ ?_;(repeat clear hp);rintro u k ⟨s1,c1⟩ w9 ⟨hk,hv,hp⟩;have hE:((R.take k).map ia).length=k:=by rw[aH,cJ];omega
 refine tI (fun h9=>?_) fun h9=>?_
 ·have hl:k<R.length:=O1;obtain⟨y,hy⟩:∃y,R[k]? =some y:=⟨_,aA hl⟩;have ph:=aG hy;have⟨z,x2,xf,x0⟩:=hid y ph;have xe:=xi y ph;have hg:=zK4 ia hy;have⟨b0,o0,hs0,yk⟩:=(hZ.i7 hp.Z).base O1;have eu:=yk k y hy 0 _ O;have eu:w9.cell? ⟨b0,o0+k*1,_⟩=_:=eu;have⟨b1,o1,hq,vx⟩:=(hA.l.i7 hp.Z).base O6;have x3:=vx y _ (by rw[bH,xf];rfl) 0 _ O;have x3:=x3;rw[←x0] at x3;refine qA ?_;refine tF (jC (cs:=[.int _ _]) hp O O O O O O O) fun uy nb2 hp=>AB (jV eI _ _ hp 1 0 O O O O O O (fun _=>O) (by rw[hE];rfl) O O hv O O O1) fun uz s2 c2⟨tg,hp⟩=>?_;have hp:=hp.E;have xw:((R.take k).map ia++[ia y]).length=k+1:=by rw[aY,hE];rfl
  rw[hg] at hp tg;refine KX ?_;refine⟨k+1,(s2,c2),qB (qB O5 (by first|rfl|exact aK (fun z=>Value.slice s2 z c2) xw|exact aK (fun z=>Value.slice s2 z c2) hL3)) O,⟨O1,tg,hp⟩,O1⟩
 obtain rfl:k=R.length:=O1;rw[dF] at hp hv;have xk:(R.map ia).length=_:=aH ..;have ec:=XX _ s1 c1 w9 (hT.j1 hp.Z) (qZ hp 0 O hv (fun _=>O)) O1 ha;rw[xk] at ec;refine tL ec ?_;rintro _ uy ⟨s',c',rfl,hs,h8⟩;have hp:=hp.V h8;refine qA ?_;exact xU O O O ⟨_,O,by rw[if_pos h];exact⟨s',c',by first|done|rfl,hs⟩,hp.Z⟩
end
section
def Hi(po pi m:Int):Nat:=AO pi m*AO (po-pi) (pi-m)
def F6(d:DW)(T:List (Int×Int))(i:Nat):Rat:=BD (Hi d.po d.pi ((T.map Prod.fst).getD i 0)) (AO d.po d.pi)
def CA(d:DW)(T:List (Int×Int))(P:List (ByteArray×Int))(X:List EN)(m:Mx)(e:Nat):Rat:=
 if d.kd=1 then wr T.length (F6 d T)
 else if d.kd=2 then wr P.length (fun j=>BD (Bs (A4 (X.map DG) P) (Bw X.length (uO X.length)) e j) (uO X.length))
 else jE m e
theorem IC{n k}(h:n≤60):AO n k<2^61:=bW (MT h) O2
theorem V7{po pi m}(h1:pi≤60)(h2:po-pi≤60):Hi po pi m<2^122:=by
 rw[show 122=61+61 from O,eK];exact oQ (IC h1) (IC h2)
theorem zOp(h:Ho d T)(i):BQ 122 (F6 d T i):=by
 have h1:=h.po;have h2:=h.pi;refine BQ.mk ?_ (V7 O1 O1) (Ln (IC O1) O2);exact mBo
theorem MS(h:n≤4):uO n≤24:=bF (QW h) O2
attribute [local irreducible] ki Ah Ab BD F6 Hi Bs A4 Bw uO
theorem zRn(d T W)(hk:d.kd=1)(hL:Ho d T)(hm:d.mT=T.length)(hT:ig W 2 eT d.sT T):Rk 114 [d.v] W (.bool true):=by
 have hpo:=hL.po;have hy:=hL.pi;have hl:=hL.l;refine tW func114 ntmps114 fun hp=>?_;refine qR ?_;refine tQ fun w1 db hp=>?_;have hp:=hp.I 0 d.L O O;have hp:Hp W [] w1 [bu db 13 _ 28]:=hp;have hc:w1.cell? ⟨db,0+6,_⟩=some (.slice _ _ d.cT):=hp.J 0 O O;rw[hm] at hc;refine qA ?_;refine xD O (fun h=>absurd h O6) (fun _=>qA ?_);refine qH O O1 (fun _=>qA (qQ ([2,3,5]++range' 38 17) (fun(i:Nat) F=>(F.put 38 (.int _ i)).put 3 (.int _ (BM (T.take i)))) (fun i w'=>i≤T.length∧ax [] w1 w') (fun i=>T.length-i) 0 (qB (qB (ka.eq .refl) O) O) ⟨O1,.refl⟩ ?_));have hq:=hT.i7 hp.Z;have h5:=hp.Z;clear hp hc;rintro u i w2 ⟨hi,zw⟩;have hp:=Hp.u7 zw;have h3:∀i,0≤BM (T.take i)∧BM (T.take i)≤10000:=fun i=>by
  have:=Q2 (l:=T.take i) (fun t ht=>by have:=hL.tb t (gE ht);omega);grind
 refine tI (fun h2=>?_) fun h2=>?_
 ·have ha:i<T.length:=O1;obtain⟨t,ht⟩:∃t,T[i]? =some t:=⟨_,aA ha⟩;have zi:=hL.tb t (aG ht);have⟨b0,o0,hs0,yk⟩:=hq.base O1;have hP:=yk i t ht;have xy:=Xt ht;have n0:=h3 i;refine qA (ke (qL O O O O (fun j v hv=>hp.j3 (hP j v hv))) (O:_=F7 t) ?_);refine tQ fun w4 pb hp=>?_;refine tS fun w5 hp=>?_;refine qA ?_;refine xD O (fun h=>absurd h O6) (fun _=>tB ?_);refine Ck ?_;exact⟨_,qB O5 (aK _ xy.symm),⟨O1,hp.Z⟩,O1⟩
 obtain rfl:i=T.length:=O1;have pg:=hL.sum;rw[dF];refine tV ?_;exact⟨_,O,qV (aD pg),h5.trans hp.Z O4⟩
theorem r43(d T i W)(hk:d.kd=1)(hL:Ho d T)(hm:d.mT=T.length)(hT:ig W 2 eT d.sT T)(hi:i<T.length):Rk 43 [d.v,Iv ((T.map Prod.fst).getD i 0)] W (.tuple #[QV (F6 d T i),.bool true]):=by
 have hpo:=hL.po;have ha:=hL.pi;obtain⟨y,hy⟩:∃y,y=(T.map Prod.fst).getD i 0:=⟨_,O⟩;have gz:0≤y∧y≤d.pi:=by
  rw[hy,aC,bH,aA hi];have:=hL.tb T[i] (bX hi);exact⟨this.1,this.2.1⟩
 have hq:F6 d T i=BD (Hi d.po d.pi y) (AO d.po d.pi):=by unfold F6;rw[←hy]
 have xx:0<AO d.po d.pi:=by
  exact mBo
 have hA:AO d.pi y*AO (d.po-d.pi) (d.pi-y)=Hi d.po d.pi y:=by unfold Hi;rfl
 have hE:Fit (AO d.pi y):=Fit.of (IC O1) O2;have h8:Fit (AO (d.po-d.pi) (d.pi-y)):=Fit.of (IC O1) O2;have hg:Fit (AO d.po d.pi):=Fit.of (IC O1) O2;have hh:Fit (Hi d.po d.pi y):=Fit.of (V7 O1 O1) O2;rw[hq,←hy];refine tW func43 ntmps43 fun hp=>?_;refine qR ?_;refine tQ fun w1 db hp=>?_;refine tQ fun w2 b4 hp=>?_;refine tR qY (qR ?_);refine ke (qL O O O O (hp.i6 1 O O)) (O:_=d.v) (tC (zRn d T _ hk hL hm (hT.i7 hp.Z)) fun w3 hp=>?_);refine qA ?_;refine xD O (fun h=>absurd h O6) (fun _=>qR ?_);refine jW jG O3 (fun w'=>Hp W [] w' _) hp.U ?_;have hp:=hp.U;refine qX ?_;refine tK (Bz d.pi y _ O1) ?_;rintro _ w4 ⟨rfl,vz⟩;refine⟨hp.V vz,?_⟩;have hp:=hp.V vz;refine qX ?_;refine tA ?_;refine qX ?_;refine tA ?_;refine tK (Bz (d.po-d.pi) _ _ O1) ?_;rintro _ w5 ⟨rfl,vw⟩;refine⟨hp.V vw,?_⟩;have hp:=hp.V vw;refine tK (Bc _ _ _ hE h8) ?_;rintro _ w6 ⟨rfl,vy⟩;refine⟨hp.V vy,?_⟩;have hp:=hp.V vy;rw[hA];refine qX (qU ?_);refine tD (Bz d.po _ _ O1) fun w7 hp=>?_;refine tC (RC _ _ _ hh hg xx) fun w8 hp=>?_;refine tT fun w9 hp=>?_;refine qA ?_;exact UA
theorem r10(a d){T P B}(s c N)(e:Nat)(m lv X W)(hA:Ak d T P B s X W)(hK:Aa d T P B X)(h4:X.length≤4)(hP:Cy d X a N m lv W)(hQ:e<X.length):
  Rk 10 [.agg (a.L d.kd N m.length lv.length (AK N)).toArray,d.v,.slice s X.length c,Iv (e:Int)] W (.tuple #[QV (CA d T P X m e),.bool true]):=by
 have d1:decide ((e:Int)<0)=_:=aB O1;have d2:decide ((e:Int)≥X.length)=_:=aB O1;refine tW func10 ntmps10 fun hp=>?_;refine qR ?_;refine tQ fun w1 b4 hp=>?_;have hp:=hp.I 0 (a.L _ N _ _ _) O O;refine tQ fun w2 b5 hp=>?_;have hp:=hp.I 0 d.L O O;refine tQ fun w3 b8 hp=>?_;have hp:Hp W [] w3 [bu b8 3 (qE DV) 49,bu b5 13 _ 28,bu b4 6 _ 39]:=hp;refine qR ?_;refine tR qY (qR ?_);refine ke (qL O O O O (hp.i6 2 O O)) O (ke (qL O O O O (hp.i6 1 O O)) (O:_=d.v) ?_);refine ke qP (O:_=Value.slice s _ c) (ke (HS (zs:=EL) (pl:=[(0,6),(6,13),(19,1)]) (pl':=[]) underlying108 (qJ O) (fun w=>O3) O O O) (O:_=Value.agg (AU a d s c _ N m lv).toArray) ?_);refine tF (zE (cs:=EL) (m:=20) hp (qJ O) O O) fun w4 sb hp=>tO (zH (cs:=AU a d s c _ N m lv) hp 0 O O O O (qD O) O O) fun w5 hp=>?_;have hp:=hp.I 0 (AU a d s c _ N m lv) O O;have hp:Hp W [] w5 [bu sb 20 _ 108,_,_,_]:=hp;refine jL ?_;rw[d1];refine jL ?_;rw[d2];refine tE (X5 a d s c N m lv X _ (hA.j1 hp.Z) hK (hP.j1 hp.Z)) fun w6 hp=>?_;refine jL (qN O ?_);have ck:w6.cell? ⟨b5,0+1,_⟩=some (.int _ _):=hp.J 2 O O;rcases hK.d.kd with hk|hk|hk
 ·have xy:CA d T P X m e=wr T.length (F6 d T):=by unfold CA;rw[if_pos hk]
  have hL:=hK.d.k1 hk;have rk:=fun i (_:i<T.length)=>zOp hL i
  have hY:=hL.l;rw[xy];rw[hk] at ck;refine qA (jB O ?_);refine tD (wM _) fun w7 hp=>?_;refine tQ fun w8 be hp=>?_;refine tS fun w9 hp=>?_;have hp:=hp.I 0 (eQ (wr 0 (F6 d T))) O O;have hp:Hp W [] w9 [bu _ 3 _ 49,_,_,_,_]:=hp;have cT:w9.cell? ⟨b5,0+6,_⟩=some (.slice _ _ d.cT):=hp.J 3 O O;rw[hK.d.mT] at cT;refine qA (qQ ([13,14,15]++range' 47 15) (fun(i:Nat) F=>F.put 47 (.int _ i)) (fun i w'=>i≤T.length∧Hp W [] w' [bu _ 3 (qE (eQ (wr i _))) 49,_,_,_,_]) (fun i=>T.length-i) 0 (qB (ka.eq .refl) O) ⟨O1,hp⟩ ?_);clear hp ck cT;rintro u i uy ⟨hi,hp⟩;refine tI (fun h2=>?_) fun h2=>?_
  ·have hl:i<T.length:=O1;obtain⟨t,ht⟩:∃t,T[i]? =some t:=⟨_,aA hl⟩;have hn:(T.map Prod.fst).getD i 0=t.1:=by rw[aC,bH,ht];rfl
   have⟨b0,o0,hs0,yk⟩:=hA.d.T.base O1;have h8:=yk i t ht;have ec:=fun w' h=>r43 d T i w' hk hL hK.d.mT h hl
   rw[hn] at ec;have h9:=HI rk i hi;refine qA (ke (qL O O O O (fun j v hv=>hp.j3 (h8 j v hv))) (O:_=F7 t) ?_);refine tQ fun uz pb hp=>?_;refine tS fun u0 hp=>?_;refine tD (ec _ (hA.d.T.i7 hp.Z)) fun u5 hp=>?_;refine qA ?_;refine tQ fun u2 qb hp=>?_;refine tS fun u4 hp=>?_;refine tR qY (qR ?_);refine ke (qL O O O O (hp.i6 2 O O)) (O:_=QV _) (ke (qL O O O O (hp.i6 0 O O)) (O:_=QV _) ?_);refine tC (Gb _ h9 (rk i hl) O1) fun u3 hp=>?_;refine tS fun vb hp=>?_;have hp:=hp.E.E;exact Jm
  obtain rfl:i=T.length:=O1;refine qR (ke (qL O O O O (hp.i6 0 O O)) (O:_=QV _) ?_);refine tS fun uz hp=>?_;refine qA ?_;exact yP O O O O O (hp.j2 2 O O) ⟨_,O,O,hp.Z⟩
 ·have xy:CA d T P X m e=wr P.length (fun j=>BD (Bs (A4 (X.map DG) P) (Bw X.length (uO X.length)) e j) (uO X.length)):=by unfold CA;rw[if_neg O1,if_pos hk]
  have hL:=hK.d.k2 hk;have ys:(X.map DG).length=_:=aH ..;have eb:=r45 d P _ s _ c d.cP w6 ((hA.ea hK hk).i7 hp.Z) (hA.d.P.i7 hp.Z) O1 hL.l.2 (fun p hp=>by have:=hL.pb p hp;omega) (by rw[ys];exact QQ _ h4);rw[←hK.d.dB hk,ys] at eb;rw[hk] at ck;rw[xy];refine qA ?_;refine tJ (jB O ?_);refine qR (ke (qL O O O O (hp.i6 2 O O)) (O:_=d.v) ?_);refine ke qP (O:_=Value.slice s _ c) (tK eb ?_);rintro _ w7 ⟨so,co,rs,rfl,hm,hj,pf,hz⟩;have hp:=hp.V hz;have ya:rs.length=X.length:=by
   have:=aK List.length pf;rw[aH] at this;rw[this];unfold QP;rw[aH,cZ,ys]
  obtain⟨r,hr⟩:∃r,rs[e]? =some r:=⟨_,aA O1⟩;have hZ:=by
   have h1:(rs.map CM.l)[e]? =some r.l:=by rw[bH,hr];rfl
   rw[pf] at h1;unfold QP at h1;rw[bH,mE O1] at h1;exact(lI h1).symm
  obtain⟨f,hf⟩:∃f:Nat→Rat,f=fun j=>BD (Bs (A4 (X.map DG) P) (Bw X.length (uO X.length)) e j) (uO X.length):=⟨_,O⟩
  rw[W7,ys] at hZ;have hZ:r.l=lm (P.length+1) f:=by rw[hZ,hf];rfl
  rw[←hf];have⟨hU,hD⟩:=hj r (aG hr);rw[hZ] at hU hD;rw[qT] at hD
  have hX:ig w7 3 eQ r.s (lm P.length f):=fun i y hy=>hU i y (by
   have hi:=by
    have:=(aI.1 hy).1;rwa[qT] at this
   rw[yI hi] at hy
   grind)
  have rk:∀i,i<P.length→BQ 8 (f i):=fun i _=>by
   rw[hf];have h1:Bs (A4 (X.map DG) P) (Bw X.length _) e i≤24:=bF (QT ..) (by rw[Q1];exact MS h4);have h2:=MS h4;unfold BD;exact BQ.mk (Fl _) O1 O1
  have⟨b1,o1,hq,vx⟩:=hm.base O1;have hJ:=vx e r hr 0 _ O;have cP:w7.cell? ⟨b5,0+8,_⟩=some (.slice _ _ d.cP):=hp.J 2 O O;rw[hK.d.mP] at cP;have zf:=hL.l;refine qA (qN O ?_);refine qR ?_;refine jU jG O3 (fun w'=>ax [] w7 w') ax.refl.drew ?_;have hp:=hp.U;have ze:ax [] w7 _:=ax.refl.drew;refine qX ?_;apply kp;rfl;intro w hg;exact zA O O O hq O1;exact fP O;apply kp;rfl;intro w hg;exact qS O O (hg.cell hJ O4);exact fS O;refine qX ?_;apply kp;rfl;intro w hg;exact qS O O (hg.cell cP O4);exact fS O;refine qX ?_;apply kp;rfl;intro w hg;exact NJ O O O O1;exact fS O;refine tK (RE _ f _ _ 8 _ (hX.i7 ze) rk O1 O1) ?_;rintro _ w8 ⟨rfl,h5⟩;refine⟨ze.trans h5 O4,?_⟩;have hp:=hp.V h5;refine tS fun w9 hp=>?_;refine qX (qU ?_);exact mE6
 obtain⟨lr,p,rfl,hG,ut,_⟩:=hP.pan hk;have hM:=hG.mix;have hE:=hM.len;have hκ:5712200030≤6000000000:=O2;have xy:CA d T P X m e=jE m e:=by unfold CA;rw[if_neg O1,if_neg O1]
 have hp:=hp;rw[xy];rw[hk] at ck;refine AL ?_;refine tJ ?_;refine tK (Aw 0 _ O2) ?_;rintro _ w7 ⟨rfl,hk⟩;have hp:=hp.V hk;have hp:=hp;refine qA (qQ ([18,19,20]++range' 87 16) (fun k F=>(F.put 18 (.string (ki (sN (Cw m e) k)))).put 87 (.int _ k)) (fun k w'=>k≤m.length∧Hp W [] w' _) (fun k=>m.length-k) 0 (qB (qB (ka.eq .refl) O) O) ⟨O1,hp⟩ ?_);clear hp;rintro u k w8 ⟨hk,hp⟩;refine tI (fun h=>?_) fun h=>?_
 ·have hl:k<m.length:=O1;have⟨bn,on,ha,hh⟩:=jR ut.N hl;have hH:=hh 0 _ O;have⟨bp,op,h7,hx⟩:=jR ut.P hl;have hT:=hx 0 _ O;have cY:=ut.p k hl;have hF:=(hM.get hl).1;have xv:(pF m k).length≤1000000:=by
   exact mEd
  have hV:=fun w' h=>X4 ((pF m k).map fun x:Nat=>x) (a.gp k).1 (a.gp k).2 e w' h O6
  rw[aH,jEp] at hV;have h6:=(hM.y4 hκ hk).le (RM e k);refine tD (hV _ (jV5 (cY.i7 hp.Z))) fun w9 hp=>?_;refine tI (fun h3=>?_) fun h3=>?_
  ·have e1:sN (Cw m e) (k+1)=sN (Cw m e) k+Ah m k:=by
    simp only[sN,Cw,if_pos h3]
   refine tD (Eh _ _ _ h6 (hM.r5 hκ hl)) fun uy hp=>?_;rw[←e1];exact FL
  have e1:sN (Cw m e) k=sN (Cw m e) (k+1):=by
   simp only[sN,Cw,if_neg h3,fY]
  refine KX ?_;exact⟨_,qB (qB O5 (aK (fun z=>Value.string _) e1)) O,⟨O1,hp⟩,O1⟩
 obtain rfl:k=m.length:=O1;have h6:=(hM.y4 hκ O1).le (RM e _);have hS:=r9 false (sN (Cw m e) m.length) (Ab m);rw[hM.chan] at hS;refine tD (X3 (Ab m) _ (hM.v7 hκ)) fun w9 hp=>?_;refine tC (hS _ h6 (hM.v7 hκ) Gm) fun uy hp=>?_;refine tT fun uz hp=>?_;exact mE6
end
def EZ(f:Nat→Nat):Nat→Nat
 |0=>0
 |k+1=>Nat.gcd (EZ f k) (f k)
theorem QX(f):∀k i,i<k→EZ f k∣f i
 |k+1,i,h=>by
  by_cases e:i=k
  ·rw[e];exact lZ _ _
  exact Nat.dvd_trans (oY _ _) (QX f k i O1)
theorem WI(f g):∀k,(∀i,i<k→g∣f i)→g∣sN f k
 |0,_=>Nat.dvd_zero _
 |k+1,h=>Nat.dvd_add (WI f g k (fun i hi=>h i O1)) (h k O1)
section
theorem WU{f t}:∀k,(∀i,i<k→(f i).den∣t)→BR f k∣t
 |0,_=>Nat.one_dvd _
 |k+1,h=>by
  have h1:=WU k (fun i hi=>h i O1);have h2:=Nat.lcm_dvd h1 (h k O1);show BR f k*((f k).den/Nat.gcd _ _)∣t
  rwa[←Nat.mul_div_assoc _ (lZ _ _)]
theorem Aj.gcd(h:Aj F κ m):EZ (Ah m) m.length=1:=by
 obtain⟨g,hg⟩:∃g,g=EZ (Ah m) m.length:=⟨_,O⟩;have hd:∀i,i<_→g∣Ah m i:=fun i hi=>by rw[hg];exact QX _ _ _ hi
 have⟨t,ht⟩:=WI _ g _ hd;rw[h.tot] at ht;have hp:=Gm (m:=m);have il:0<g:=by
  rcases dG g with e|e
  ·grind
  exact e
 have zb:0<t:=by
  rcases dG t with e|e
  ·grind
  exact e
 have h1:Ab m∣t:=WU _ fun i hi=>by
  have⟨q,hq⟩:=hd i hi;have h2:=h.num hi;rw[hq,ht] at h2;have h3:wF m i=mkRat q t:=by
   rw[iO];have e1:((g*q:Nat):Rat)=(g:Rat)*(q:Rat):=lJ _ _;have e2:((g*t:Nat):Rat)=(g:Rat)*(t:Rat):=lJ _ _;rw[e1,e2] at h2;have e3:(0:Rat)<(g:Rat):=by exact_mod_cast il
   have e4:(0:Rat)<(t:Rat):=by exact_mod_cast zb
   show wF m i=((q:Int):Rat)/((t:Nat):Rat)
   rw[gI];grind
  rw[h3];rw[Rat.den_mkRat];split
  ·omega
  exact Nat.div_dvd_of_dvd (oY ..)
 have h2:=rT zb h1;have h3:g*t≤1*t:=O1;have:=XF h3 zb;omega
abbrev EM:List Value:=[.string ⟨#[]⟩,Iv 0,Iv 0,Iv 0,Iv 0,Iv 0,Zs,.bool false,Zs,Iv 0,Iv 0,Zs,Zs,Zs,Iv 0,.string ⟨#[]⟩,Iv 0,Zs,Zs,Zs]
theorem Xl{A B C:List Value}(hk:A.length+B.length=k)(h:∀(j:Nat) (v:Value),(A++(B++C))[j]? =some v→w.cell? ⟨b,o+j,none⟩=some v):∀(j:Nat) (v:Value),C[j]? =some v→w.cell? ⟨b,o+k+j,none⟩=some v:=fun j v e=>by
 rw[Np];refine h _ v ?_;grind
attribute [local irreducible] ki Ah Ab
theorem X2(a d){T P B}(s c N m lv X W)(hA:Ak d T P B s X W)(hK:Aa d T P B X):
  Rk 60 [.agg (AV a d s c X.length N m lv).toArray] W (Iv 0):=by
 refine tW func60 ntmps60 fun hp=>?_;refine qR (tF (kW (cs:=AV a d s c _ N m lv) (m:=20) hp O O O) fun w1 cb hp=>?_);refine tR qY (qR ?_);refine jM (ke (qL O O O O (NX (hp.i6 0 O O))) (O:_=d.v) ?_);refine tC (RD d _ hK.d (hA.d.j1 hp.Z)) fun w2 hp=>?_;refine qA (qN O ?_);refine qR ?_;refine jM (ke (qL O O O O (NX (hp.i6 0 O O))) (O:_=d.v) ?_);refine jM ?_;refine ke (qS O O (hp.J 0 O O)) (O:_=Value.slice s _ c) (tK (XS d s c X _ (hA.j1 hp.Z) hK) ?_);exact mCj
theorem VR(a d){T P B}(s c N m lv X W)(hK:Aa d T P B X)(h3:d.kd≠3):
  Rk 128 [.agg (AV a d s c X.length N m lv).toArray] W (.string (ki (BC d X))):=by
 have hl:=hK.l;refine tW func128 ntmps128 fun hp=>?_;refine qR (tF (kW (cs:=AV a d s c _ N m lv) (m:=20) hp O O O) fun w1 cb hp=>?_);refine tI (fun h=>?_) fun h=>?_
 ·have h1:=(hK.d.k1 h).po;have h2:=(hK.d.k1 h).pi;have hz:AO d.po d.pi=BC d X:=by
   exact mCy
  exact mEc
 have hz:uO X.length=BC d X:=by unfold BC;rw[if_neg h]
 exact mE8
theorem X1(a:Cn)(d:DW){T:List (Int×Int)}{P:List (ByteArray×Int)}{B:List Int}(s:Option Addr)(c N:Nat)(m:Mx)(lv:EJ)(X:List EN)(W:World)(hf:Fit N):
  Rk 63 [.agg (AV a d s c X.length N m lv).toArray] W (.bool true):=by
 refine tW func63 ntmps63 fun hp=>?_;refine qR (tF (kW (cs:=AV a d s c _ N m lv) (m:=20) hp O O O) fun w1 cb hp=>?_);refine qA ?_;refine jW jG O3 (fun w'=>Hp W [] w' _) hp.U ?_;have hp:=hp.U;refine qX ?_;refine tK (Aw 1 _ O2) ?_;rintro _ w4 ⟨rfl,vz⟩;refine⟨hp.V vz,?_⟩;have hp:=hp.V vz;refine tK (MD N 1 _ hf (Fit.small O2)) ?_;rintro _ w5 ⟨rfl,vw⟩;refine⟨hp.V vw,?_⟩;have hp:=hp.V vw;refine qX (qU ?_);refine qR ?_;refine jW jG O3 (fun w'=>Hp W [] w' _) hp.U ?_;have hp:=hp.U;refine qX ?_;refine tK (V3 (N-1) _ (hf.le O1)) ?_;rintro _ w6 ⟨rfl,vy⟩;refine⟨hp.V vy,?_⟩;have hp:=hp.V vy;exact mDm
theorem r61(a:Cn)(d:DW){T:List (Int×Int)}{P:List (ByteArray×Int)}{B:List Int}(s:Option Addr)(c N:Nat)(m:Mx)(lv:EJ)(X:List EN)(W:World)(hK:Aa d T P B X)(hf:Fit N)(h3:d.kd≠3)(hN:N=BC d X∧m=[]∧lv=[]):
  Rk 61 [.agg (AV a d s c X.length N m lv).toArray] W (Iv 0):=by
 obtain⟨hN,rfl,rfl⟩:=hN;refine tW func61 ntmps61 fun hp=>?_;refine qR (tF (kW (cs:=AV a d s c _ N [] []) (m:=20) hp O O O) fun w1 cb hp=>?_);refine tR qY (qR ?_);refine jM (ke (qL (vs:=a.L _ N 0 0 _) O O O O (Xl O (hp.i6 0 O O))) O ?_);refine tQ fun w2 pb hp=>?_;refine tS fun w3 hp=>?_;have eb:=VR a d s c N [] [] X w3.drew hK h3;rw[←hN] at eb;refine qA (qN O ?_);refine qR ?_;refine jW jG O3 (fun w'=>Hp W [] w' _) hp.U ?_;have hp:=hp.U;refine qX ?_;refine tK eb ?_;rintro _ w4 ⟨rfl,vz⟩;refine⟨hp.V vz,?_⟩;have hp:=hp.V vz;refine tK (BY N N _ hf hf) ?_;rintro _ w5 ⟨rfl,vw⟩;refine⟨hp.V vw,?_⟩;have hp:=hp.V vw;rw[IF];refine qX (qU ?_);refine tJ ?_;exact Fq
end
theorem zNs(f k):EZ f (k+1)=Nat.gcd (EZ f k) (f k):=O
theorem zOy(x y:Nat):decide ((if x<y then(-1:Int) else if x=y then 0 else 1)=0)=decide (x=y):=by
 grind
attribute [local irreducible] ki Ah Ab EZ
theorem VU(x:Nat)(w:World)(hx:Fit x):Rk 189 [.string (ki x)] w (.bool (decide (x=0))):=by
 refine tW func189 ntmps189 fun hp=>?_;refine tD (Aw 0 _ O2) fun w1 hp=>?_;refine tD (BY x 0 _ hx (Fit.small O2)) fun w2 hp=>ke (zW O O) (qV (zOy x 0)) ?_;exact nj
theorem VT(x w)(hx:Fit x):Rk 130 [.string (ki x)] w (.string (ki x)):=by
 refine tW func130 ntmps130 fun hp=>?_;exact mCo
theorem VS(a:Cn)(d:DW){T:List (Int×Int)}{P:List (ByteArray×Int)}{B:List Int}(s:Option Addr)(c N:Nat)(m:Mx)(lv:EJ)(X:List EN)(W:World){F:List Nat→Prop}(hM:Aj F 5712200030 m)(hA:DI a m W)(hN:N=Ab m):
  Rk 129 [.agg (AV a d s c X.length N m lv).toArray] W (.bool true):=by
 have hE:=hM.len;have hκ:5712200030≤6000000000:=O2;have ht:=hM.v7 hκ;refine tW func129 ntmps129 fun hp=>?_;refine qR (tF (kW (cs:=AV a d s c _ N m lv) (m:=20) hp O O O) fun w1 cb hp=>?_);have hp:Hp W [] w1 [bu cb 20 _ 132]:=hp;refine tL (Aw 0 _ O2) ?_;rintro _ w4 ⟨rfl,hk⟩;have hp:=hp.V hk;refine qA (qQ ([2,3,5]++range' 11 10) (fun k F=>(F.put 3 (.string (ki (sN (Ah m) k)))).put 11 (.int _ k)) (fun k w'=>k≤m.length∧Hp W [] w' _) (fun k=>m.length-k) 0 (qB (qB (ka.eq .refl) O) O) ⟨O1,hp⟩ ?_);clear hp;rintro u k w5 ⟨hk,hp⟩;refine tI (fun h=>?_) fun h=>?_
 ·have hl:k<m.length:=O1;have⟨bn,on,ha,hg⟩:=jR hA.N hl;have hn:=hg 0 _ O;have eh:=hM.pos hl;refine tL (VU _ _ (hM.r5 hκ hl)) ?_;rintro _ w6 ⟨rfl,vy⟩;have hp:=hp.V vy;refine qR ?_;refine qH O O1 (fun _=>tD (Eh _ _ _ (hM.y4 hκ hk) (hM.r5 hκ hl)) fun w8 hp=>?_);exact FL
 obtain rfl:k=m.length:=O1;have hm:decide (Ab m=0)=_:=aB (by have:=Gm (m:=m);omega);have vx:w5.cell? ⟨cb,0+14+1,_⟩=some (.string _):=hp.J 0 O O;rw[hM.tot];rw[hN] at vx;refine tL (VU _ _ ht) ?_;rintro _ w6 ⟨rfl,vy⟩;have hp:=hp.V vy;have vx:=vy.cell vx O4;rw[hm];refine tE (BY _ _ _ ht ht) fun w7 hp=>?_;rw[IF];exact Hb
theorem r62(a:Cn)(d:DW){T:List (Int×Int)}{P:List (ByteArray×Int)}{B:List Int}(s:Option Addr)(c N:Nat)(m:Mx)(lv:EJ)(X:List EN)(W:World)(hA:Ak d T P B s X W)(hK:Aa d T P B X)(h4:X.length≤4)(zx:d.kd=3)(hP:Cy d X a N m lv W):
  Rk 62 [.agg (AV a d s c X.length N m lv).toArray] W (Iv 0):=by
 have⟨lr,p,hN,hG,ut,hz⟩:=hP.pan zx;have hM:=hG.mix;have hE:=hM.len;have hκ:5712200030≤6000000000:=O2;have hm:=hM.v7 hκ;have ha:=(hK.d.k3 zx).sz;have ys:(X.map EN.e).length=_:=aH ..;have hq:∀k,k≤m.length→Fit (EZ _ k):=fun k hk=>by
  cases k with
  |zero=>exact Fit.small (by unfold EZ;decide)
  |succ k=>
   exact(hM.r5 hκ (k:=k) O1).le (rT (Rx (hM.pos O1)) (QX _ _ _ O1))
 refine tW func62 ntmps62 fun hp=>?_;refine qR (tF (kW (cs:=AV a d s c _ N m lv) (m:=20) hp O O O) fun w1 cb hp=>?_);have hp:Hp W [] w1 [bu cb 20 _ 132]:=hp;refine qR ?_;refine tR qY (qR ?_);refine jM (ke (qL O O O O (Xl O (hp.i6 0 O O))) O ?_);refine tQ fun w2 pb hp=>?_;refine tS fun w3 hp=>?_;have hp:=hp.I 0 (a.L _ N _ _ _) O O;have hp:Hp W [] w3 [bu pb 6 _ 39,_]:=hp;refine qR (ke (qL O O O O (hp.i6 1 O O)) O ?_);refine tC (VS (T:=T) (P:=P) (B:=B) a d s c N m lv X _ hM (ut.j1 hp.Z) hN) fun w4 hp=>?_;refine AL ?_;refine tC (Aw 0 _ O2) fun w5 hp=>?_;refine qA ?_;refine tF (N0 DX none hp O O O O O O O O1) fun w6 g⟨hv,hp⟩=>?_;rw[Ec] at hp hv;have sa:∀f:Nat→Option Rat,kg _ _ (lm _ f):=fun f=>jZ hv (by rw[qT,qT])
 rw[JT (f:=fun i=>some (wF m i))] at hp;have hp:=hp;refine qA (qQ ([4,6,7]++range' 21 21) (fun k F=>(F.put 4 (.string (ki (EZ _ k)))).put 21 (.int _ k)) (fun k w'=>k≤m.length∧Hp W [] w' [qG _ 49 3 _ _ (lm _ fun i=>if i<k then some (wF m i) else none),_,_]) (fun k=>m.length-k) 0 (qB (qB (ka.eq .refl) (aK (fun z=>Value.string _) (show 0=EZ (Ah m) 0 by unfold EZ;rfl))) O) ⟨O1,hp⟩ ?_);clear hp;rintro u k w7 ⟨hk,hp⟩;refine tI (fun h=>?_) fun h=>?_
 ·have hl:k<m.length:=O1;have⟨bn,on,hg,hh⟩:=jR ut.N hl;have hn:=hh 0 _ O;have h7:_=EZ (Ah m) (k+1):=(zNs _ _).symm;have eW:BD (Ah m k) (Ab m)=wF m k:=by
   have h1:=hM.num hl;have h2:((Ab m:Nat):Rat)≠0:=by
    have:=Gm (m:=m);have:(0:Rat)<((Ab m:Nat):Rat):=by exact_mod_cast this
    grind
   unfold BD;rw[iO];show((Ah m k:Nat):Rat)/((Ab m:Nat):Rat)=wF m k
   grind
  have hS:=fun w'=>RC _ _ w' (hM.r5 hκ hl) hm Gm
  rw[eW] at hS;refine tL (MC _ _ _ (hq k hk) (hM.r5 hκ hl)) ?_;rintro _ w8 ⟨rfl,h5⟩;have hp:=hp.V h5;rw[h7];have hj:w8.drew.cell? ⟨pb,0+1,_⟩=some (.string _):=hp.U.J 1 O O;rw[hN] at hj;refine qA ?_;refine jW jG O3 (fun w'=>w'.cell? _=some _) hj ?_;have hp:=hp.U;refine qX ?_;refine tK (VT _ _ (hM.r5 hκ hl)) ?_;rintro _ w9 ⟨rfl,ht⟩;refine⟨ht.cell hj O4,?_⟩;have hp:=hp.V ht;have hj:=ht.cell hj O4;refine qX ?_;refine tK (VT _ _ hm) ?_;rintro _ uy ⟨rfl,h8⟩;refine⟨h8.cell hj O4,?_⟩;have hp:=hp.V h8;have hj:=h8.cell hj O4;refine tK (hS _) ?_;rintro _ uz ⟨rfl,hx⟩;refine⟨hx.cell hj O4,?_⟩;have hp:=hp.V hx;refine qX ?_;apply GL;rfl;exact vL _ _ k (some _) hp 0 O (sa _) (by rw[qT];omega) O O LK O O (qD O);rintro _ u0 ⟨rfl,hp⟩;refine⟨(by rw[←hN];exact hp.J 1 O O),?_⟩;rw[JQ] at hp;refine qU (tM (k+1) ?_);exact KJ
 obtain rfl:k=m.length:=O1;rw[JU,R0] at hp;have hy:=qZ hp 0 O (jZ hv (by rw[qT,qT])) jT;have eb:=fun w' h1 h2 h3=>r11 d s a.sP (Ad g) a.sL _ c a.cP m.length a.cL 5712200030 p a.gp lr m lv w' h1 zx O1 O1 hM hκ h2 h3 hG.ll hG.yb hG.prv
 rw[ys,if_pos (fun i hi=>hG.ch i O1)] at eb;rw[hM.gcd];refine tL (Aw 1 _ O2) ?_;rintro _ w8 ⟨rfl,h5⟩;have hp:=hp.V h5;refine tK (BY 1 1 _ (Fit.small O2) (Fit.small O2)) ?_;rintro _ w9 ⟨rfl,ht⟩;have hp:=hp.V ht;refine qA (qN O ?_);refine tD (eb _ ((hA.j1 hp.Z).de hK zx (hK.d.k3 zx).lq) ⟨(ut.j1 hp.Z).P,(ut.j1 hp.Z).p,(hy.i7 h5).i7 ht⟩ (by rw[←ys];exact hz.j1 hp.Z)) fun uy hp=>?_;exact nj
theorem XU(a:Cn)(d:DW){T:List (Int×Int)}{P:List (ByteArray×Int)}{B:List Int}(s:Option Addr)(c N:Nat)(m:Mx)(lv:EJ)(X:List EN)(W:World)(hA:Ak d T P B s X W)(hK:Aa d T P B X)(hP:Cy d X a N m lv W):
  Rk 75 [.agg (AV a d s c X.length N m lv).toArray] W (.bool true):=by
 have hf:=hP.fit;have ys:(X.map EN.e).length=_:=aH ..;have hm:(!decide (d.kd=d.kd))=false:=O4;refine tW func75 ntmps75 fun hp=>?_;refine qR (tF (kW (cs:=AV a d s c _ N m lv) (m:=20) hp O O O) fun w1 cb hp=>?_);have hp:Hp W [] w1 [bu cb 20 _ 132]:=hp;refine qR ?_;refine tR qY (qR ?_);refine ke (qL O O O O (hp.i6 0 O O)) O (tC (X2 a d s c N m lv X _ (hA.j1 hp.Z) hK) fun w2 hp=>?_);refine jL ?_;rw[hm];refine tE (X1 (T:=T) (P:=P) (B:=B) a d s c N m lv X _ hf) fun w3 hp=>?_;refine jL ?_;refine tJ (xI O (fun h3=>?_) (fun h3=>?_))
 ·have eb:=VR a d s c N m lv X w3.drew hK h3;rw[←(hP.tot h3).1] at eb;refine qR ?_;refine jW jG O3 (fun w'=>Hp W [] w' _) hp.U ?_;have hp:=hp.U;refine qX ?_;refine tK eb ?_;rintro _ w4 ⟨rfl,vz⟩;refine⟨hp.V vz,?_⟩;have hp:=hp.V vz;refine tK (BY N N _ hf hf) ?_;rintro _ w5 ⟨rfl,vw⟩;refine⟨hp.V vw,?_⟩;have hp:=hp.V vw;rw[IF];refine qX (qU ?_);refine qA ?_;exact Fq
 have⟨lr,p,hN,hG,ut,hz⟩:=hP.pan h3;have hM:=hG.mix;have hE:=hM.len;have ha:=(hK.d.k3 h3).sz;have hQ:(!decide (m.length=(m.length:Int)))=false:=O4;refine jL ?_;rw[hQ];refine tE (VS (T:=T) (P:=P) (B:=B) a d s c N m lv X _ hM (ut.j1 hp.Z) hN) fun w4 hp=>?_;refine jL ?_;refine tJ (qQ ([2,4]++range' 51 12) (fun(k:Nat) F=>F.put 51 (.int _ k)) (fun k w'=>k≤m.length∧Hp W [] w' _) (fun k=>m.length-k) 0 (qB (ka.eq .refl) O) ⟨O1,hp⟩ ?_);clear hp;rintro u k w5 ⟨hk,hp⟩;refine tI (fun h=>?_) fun h=>?_
 ·have hl:k<m.length:=O1;have⟨bp,op,h7,hh⟩:=jR ut.P hl;have hn:=hh 0 _ O;have ec:=fun w' h1 h2=>UY d s (a.gp k).1 c (a.gp k).2 _ _ w' h1 h3 O1 (hM.get hl).1 h2
  rw[ys] at ec;refine tD (ec _ ((hA.j1 hp.Z).de hK h3 (hK.d.k3 h3).lq) ((ut.p k hl).i7 hp.Z)) fun w7 hp=>?_;refine AL ?_;refine tN (k+1) ?_;exact KJ
 refine qA ?_;exact Fq
end Go.Eng
