/- Merged texts of ours; conditions are the hypotheses of each law. -/
import Derived.Test.YtplkndjlfkkjlaaGreatDoorP3
namespace Go.Eng
open List (range range' replicate)
open Go.Proofs.Tryz
set_option maxHeartbeats 8000000
set_option maxRecDepth 20000
section
attribute [local irreducible] PV gx kq kn WP km Fit
variable{F:Fr}{b k n o p t:Nat}{v2:Value}{w:World}
instance:Inhabited EW:=⟨⟨0,0,0,none,0,0,none,0,0,none,0,[]⟩⟩
def ku(d:DW)(l:List EW)(o:List Nat):Q:=⟨o.length,d.Q.map (·.2),fun i k=>AC d (l.getD (o.getD i 0) default) k⟩
def Bu(d:DW):wj:=⟨0,d.sz.toNat,replicate 12 0⟩
def hR(N nq j:Nat)(sR:Nat→Option Addr)(cR:Nat→Nat):List (Option Addr×Nat×Nat):=lm (N+1) fun i=>if N-j≤i then(sR (N-i),nq,cR (N-i)) else(none,0,0)
def Cv(f:Q)(nq:Nat)(sR:Nat→Option Addr)(cR:Nat→Nat)(t:Nat):kr:=qG eI 3 1 (sR t) (cR t) (lm nq fun k=>(f.rest k t:Int))
def CP(f:Q)(nq:Nat)(gi:Nat→Nat)(i:Nat):kr:=qG Ay 4 1 (some ⟨gi i,0,none⟩) nq (lm nq (f.inn i))
def hI(N nq:Nat)(gi:Nat→Nat):List (Option Addr×Nat×Nat):=lm N fun i=>(some ⟨gi i,0,none⟩,nq,nq)
theorem Mj{fn:Func}{ty u:Nat}{vs:List Value}{v3:Value}(h:fn.results= #[.tmp u,.cell p ty,.tmp t])(h1:FJ ty=some k)(hz:ED ty=some k)(hx:ev n F (.tmp p)= .pointer (some ⟨b,o,none⟩))(tg:ev n F (.tmp t)=v2)(ha:ev n F (.tmp u)=v3)(hl:vs.length=k)
  (hc:∀(j:Nat) (v:Value),vs[j]? =some v→w.cell? ⟨b,o+j,none⟩=some v):(results fn (act n F).tmps).run prog w= .ok (.tuple #[v3,.agg vs.toArray,v2]) w:=by
 have⟨q,hq,uu⟩:=Mc h1;have hk:=qD hz;subst hl;have:=vN (P:=prog) b o vs 0 #[] (fun j v hv=>by simpa using hc j v hv);have nq:=by
  have:(act n F).tmps.getD p undef= .pointer (some ⟨b,o,none⟩):=by
   rw[←hx,←zF];rfl
  exact DT
 have nr:=by
  have:(act n F).tmps.getD t undef=v2:=by
   rw[←tg,←zF];rfl
  exact DT
 have ik:=by
  have:(act n F).tmps.getD u undef=v3:=by
   rw[←ha,←zF];rfl
  exact DT
 simp[results,h,nq,nr,ik,asAddr,loadVar,L6 hq uu,loadCells,hk.run,this]
theorem jKy(v):Instr.fill ((#[(0,1),(1,1),(2,12)]:Array (Nat×Nat))[·]?) (kj (replicate 14 0)).toArray [(1,.int .i8 v)]=some (kj (0::v::replicate 12 0)).toArray:=by
 simp[Instr.fill,Value.cells,kj]
theorem jVx(n f s c W)(hs:ig W 1 eI s (lm n f))(hl:n≤1000)(ha:s=none→lm n f=[]):
  Rt 159 [.slice s n c] W (fun v w'=>∃s' c',v= .slice s' n c'∧kg s' c' (lm n f)∧Hp W [] w' [qG eI 3 1 s' c' (lm n f)]):=by
 have h:=Qf _ s c W hs (by rw[qT];exact hl) ha;rw[qT] at h;exact h
theorem zB0(d s so c co l o W)(hD:DE d s l W)(ho:ig W 1 eN so o)(h7:o.length=l.length)(hF:∀x∈o,x<l.length)(hz:0≤d.sz)(ik:d.sz≤l.length):
  Rt 223 [d.v,.slice s l.length c,.slice so o.length co] W (fun v w'=>∃(a:Hm) (la:List Int),v= .tuple #[.pointer (some ⟨a.sb,0,none⟩),.agg (kj la).toArray,.bool ((ku d l o).tidy (Bu d)).isSome]∧la.length=14∧(∀t,(ku d l o).tidy (Bu d)=some t→la=Am t)∧AI a d (ku d l o) w'∧ax [] W w'∧∀i,i<o.length→W.heap.size≤a.gi i):=by
 have hq:=hD.lq;have ys:=hD.le;have hN:(ku d l o).N=o.length:=O;refine tW func223 ntmps223 fun hp=>?_;refine qR ?_;refine tQ fun w1 bd hp=>?_;have hp:=hp.I 0 d.L O O;refine qR ?_;refine ke qY (O:_=Value.pointer none) ?_;refine tF (zE (cs:=kj (replicate 14 0)) (m:=14) hp (qJ O) O O) fun w2 b7 hp=>?_;have hp:Hp W [] w2 [bu b7 14 (qE (kj (replicate 14 0))) 293,bu bd 13 (qE d.L) 28]:=hp;refine qR ?_;refine tR qY ?_;refine qR ?_;have d1:decide (d.sz<0)=false:=aB O1;have d2:decide (d.sz>(l.length:Int))=false:=aB O1;refine jL ?_;rw[d1];refine jL ?_;rw[d2];refine jL ?_;refine qN O ?_;refine qR ?_;refine jU jG O3 (fun w'=>Hp W [] w' [bu b7 14 (qE (kj (replicate 14 0))) 293,bu bd 13 (qE d.L) 28]) hp.U ?_;have hp:=hp.U;refine qX ?_;refine tN (o.length+1) ?_;apply Ag;rfl;exact yE jO (none,0,0) hp O O O O O O O O1 O;rintro _ w3 ⟨gR,rfl,hU,hp⟩;refine⟨hp.E,?_⟩;refine qX ?_;apply Ag;rfl;exact TR hp O;rintro _ w4 ⟨sb,rfl,hp⟩;refine⟨hp.E.E,?_⟩;have hp:=hp.I 0 [.slice d.sQ d.Q.length d.cQ,Zs,.slice (Ad gR) (o.length+1) (o.length+1)] O O;refine qX ?_;refine qU ?_;refine qR ?_;have hp:Hp W [] _ [bu sb 3 (qE [.slice d.sQ d.Q.length d.cQ,Zs,.slice (Ad gR) (o.length+1) (o.length+1)]) 384,qG jO 22 1 (Ad gR) (o.length+1) (replicate (o.length+1) ((none:Option Addr),0,0)),bu b7 14 (qE (kj (replicate 14 0))) 293,bu bd 13 (qE d.L) 28]:=hp;rw[Ec] at hp hU;have sa:∀g:Nat→Option Addr×Nat×Nat,kg (Ad gR) (o.length+1) (lm (o.length+1) g):=fun g=>jZ hU (by rw[qT,qT])
 refine jU jG O3 (fun w'=>Hp W [] w' [bu sb 3 (qE [.slice d.sQ d.Q.length d.cQ,Zs,.slice (Ad gR) (o.length+1) (o.length+1)]) 384,qG jO 22 1 (Ad gR) (o.length+1) (lm (o.length+1) fun _=>((none:Option Addr),0,0)),bu b7 14 (qE (kj (replicate 14 0))) 293,bu bd 13 (qE d.L) 28]) hp.U ?_;have hp:=hp.U;have xh:o.length<o.length+1:=O1;refine qX ?_;apply Ag;rfl;exact yE eI 0 hp O O O O O O O O1 O;rintro _ w5 ⟨r0,rfl,eH,hp⟩;refine⟨hp.E,?_⟩;refine qX ?_;apply xH;rfl;rfl;exact zL jO (lm (o.length+1) fun _=>((none:Option Addr),0,0)) o.length (Ad r0,d.Q.length,d.Q.length) hp 2 O (sa _) (by rw[qT];omega) O O (fun _=>O) O O (qD O);rintro _ w6 ⟨rfl,hp⟩;refine qU ?_;rw[Ec] at hp eH;have hp:Hp W [] w6 ([bu sb 3 (qE [.slice d.sQ d.Q.length d.cQ,Zs,.slice (Ad gR) (o.length+1) (o.length+1)]) 384,qG jO 177 1 none 0 (hI 0 d.Q.length (fun _=>0)),qG jO 22 1 (Ad gR) (o.length+1) (hR o.length d.Q.length 0 (fun _=>Ad r0) fun _=>d.Q.length),bu b7 14 (qE (kj (replicate 14 0))) 293,bu bd 13 (qE d.L) 28,Cv (ku d l o) d.Q.length (fun _=>Ad r0) (fun _=>d.Q.length) 0]++lm 0 (CP (ku d l o) d.Q.length (fun _=>0))):=by
  have e:(lm (o.length+1) fun _=>((none:Option Addr),0,0)).set o.length (Ad r0,d.Q.length,d.Q.length)=hR o.length d.Q.length 0 (fun _=>Ad r0) fun _=>d.Q.length:=by
   rw[vF];refine jH fun i hi=>?_
   by_cases h:i=o.length
   ·rw[if_pos h,if_pos O1]
   rw[if_neg h,if_neg O1]
  rw[←e];exact(hp.j7 jO 177 1).j4 [2,0,3,4,5,1] _ O O
 refine qA ?_;refine qQ ([11]++range' 49 20) (fun(k:Nat) F=>F.put 49 (Iv (k:Int))) (fun k w'=>k≤o.length∧∃sI cI gi,kg sI cI (hI k d.Q.length gi)∧Hp W [] w' ([bu sb 3 (qE [.slice d.sQ d.Q.length d.cQ,.slice sI k cI,.slice (Ad gR) (o.length+1) (o.length+1)]) 384,qG jO 177 1 sI cI (hI k d.Q.length gi),qG jO 22 1 (Ad gR) (o.length+1) (hR o.length d.Q.length 0 (fun _=>Ad r0) fun _=>d.Q.length),bu b7 14 (qE (kj (replicate 14 0))) 293,bu bd 13 (qE d.L) 28,Cv (ku d l o) d.Q.length (fun _=>Ad r0) (fun _=>d.Q.length) 0]++lm k (CP (ku d l o) d.Q.length gi))) (fun k=>o.length-k) 0 (qB (ka.eq .refl) O) ⟨bL _,none,0,fun _=>0,kg.nil,hp⟩ ?_;clear hp;rintro u k w7 ⟨hk,sI,cI,gi,hY,hp⟩;refine tI (fun h=>?_) fun h=>?_
 ·have hl:k<o.length:=O1;obtain⟨x,hx⟩:∃x,o[k]? =some x:=⟨_,aA hl⟩;have zz:x<l.length:=hF x (aG hx);obtain⟨e,he⟩:∃e,l[x]? =some e:=⟨_,aA zz⟩;have⟨bo,oo,h4,hT⟩:=ho k x hx;have hT:=hT 0 _ O;have hT:W.cell? ⟨bo,oo+k*1,none⟩=some (Iv (x:Int)):=hT;have⟨be,oe,hM,hE⟩:=hD.e x e he;have x7:=hD.g e (aG he);have qj:=hD.lg e (aG he);have bR:(ku d l o).inn k=AC d e:=by
   funext q;show AC d (l.getD (o.getD k 0) default) q=_
   rw[aC (l:=o),hx];show AC d (l.getD x default) q=_
   rw[aC,he];rfl
  refine qA ?_;have ay:=hp;have ha:([bu sb 3 (qE [.slice d.sQ d.Q.length d.cQ,.slice sI k cI,.slice (Ad gR) (o.length+1) (o.length+1)]) 384,qG jO 177 1 sI cI (hI k d.Q.length gi),qG jO 22 1 (Ad gR) (o.length+1) (hR o.length d.Q.length 0 (fun _=>Ad r0) fun _=>d.Q.length),bu b7 14 (qE (kj (replicate 14 0))) 293,bu bd 13 (qE d.L) 28,Cv (ku d l o) d.Q.length (fun _=>Ad r0) (fun _=>d.Q.length) 0]++lm k (CP (ku d l o) d.Q.length gi))[1]? =some (qG jO 177 1 sI cI (hI k d.Q.length gi)):=O;have cH:w7.cell? ⟨sb,1,none⟩=some (.slice sI k cI):=hp.J 0 O O;have cD:∀(j:Nat) (v:Value),d.L[j]? =some v→w7.cell? ⟨bd,0+j,none⟩=some v:=hp.i6 4 O O;have aa:sb∉zG [qG jO 177 1 sI cI (hI k d.Q.length gi)]:=hp.j9 ha (j:=0) O O1 O;have ab:bd∉zG [qG jO 177 1 sI cI (hI k d.Q.length gi)]:=hp.j9 ha (j:=4) O O1 O;have hX:(hI k d.Q.length gi).length=k:=qT;have hp:=ay.j8 1 ha;have xj:=ay.Z;refine xL 15 O jG O3 (fun w'=>ax (zG [qG jO 177 1 sI cI (hI k d.Q.length gi)]) w7 w'∧ax [] W w') ⟨hp.U.Z,(ay.j5 1 ha hp.U).keeps⟩ ?_;have hp:=hp.U;refine qX ?_;apply kp;rfl;intro w hk;exact qS O O (hk.1.cell cH aa);exact fS O;apply kp;rfl;intro w hk;exact qL (vs:=d.L) O O O O (fun j v hv=>hk.1.cell (cD j v hv) ab);exact(O:_=d.v);refine qX ?_;apply kp;rfl;intro w hk;exact qL (vs:=AR e) O O O O (fun j v hv=>hk.2.cell (hE j v hv) O4);exact(O:_=e.v);refine tK (U4 d e _ (hD.q.i7 (ay.j5 1 ha hp).keeps) (x7.i7 (ay.j5 1 ha hp).keeps) hq qj) ?_;rintro _ w8 ⟨b',rfl,hH,hpo⟩;have hp:=hp.C hpo;clear hpo;refine⟨⟨hp.Z,(ay.j5 1 ha hp.E).keeps⟩,?_⟩;apply Ag;rfl;exact jC (cs:=[.slice (Ad b') d.Q.length d.Q.length]) hp O O O O O O O;rintro _ w9 ⟨b2,rfl,hp⟩;refine⟨⟨hp.Z,(ay.j5 1 ha hp.E.E).keeps⟩,?_⟩;apply Ag;rfl;exact jV jO (hI k d.Q.length gi) (Ad b',d.Q.length,d.Q.length) hp 2 0 O O O O O O (fun _=>O) (by rw[hX];rfl) O O hY O O (by rw[hX];omega);rintro _ uy ⟨sd,ce,rfl,hZ,hp⟩;refine⟨⟨hp.Z,(ay.j5 1 ha hp.E.E).keeps⟩,?_⟩;refine qX ?_;refine qU ?_;have hp:=hp.E.perm (iR _ _ _);have hp:=ay.aA2 1 ha hp;have hJ:(hI k d.Q.length gi++[((Ad b':Option Addr),d.Q.length,d.Q.length)]).length=k+1:=by
   rw[aY,hX];rfl
  rw[hJ];refine gx.mono (jD hp 0 O O O O (qD O) O) ?_;rintro _ uz ⟨rfl,hp⟩;have hp:=hp.I 0 [.slice d.sQ d.Q.length d.cQ,.slice sd (k+1) ce,.slice (Ad gR) (o.length+1) (o.length+1)] O O;have eI:hI k d.Q.length gi++[((Ad b':Option Addr),d.Q.length,d.Q.length)]=hI (k+1) d.Q.length (fun i=>if i=k then b' else gi i):=by
   unfold hI;rw[kh];congr 1
   ·exact jH fun i hi=>by simp only[if_neg (show¬i=k by omega)]
   simp
  rw[eI] at hZ;have hp:Hp W [] uz ([bu sb 3 (qE [.slice d.sQ d.Q.length d.cQ,.slice sd (k+1) ce,.slice (Ad gR) (o.length+1) (o.length+1)]) 384,qG jO 177 1 sd ce (hI (k+1) d.Q.length (fun i=>if i=k then b' else gi i)),qG jO 22 1 (Ad gR) (o.length+1) (hR o.length d.Q.length 0 (fun _=>Ad r0) fun _=>d.Q.length),bu b7 14 (qE (kj (replicate 14 0))) 293,bu bd 13 (qE d.L) 28,Cv (ku d l o) d.Q.length (fun _=>Ad r0) (fun _=>d.Q.length) 0]++lm (k+1) (CP (ku d l o) d.Q.length (fun i=>if i=k then b' else gi i))):=by
   have e1:lm (k+1) (CP (ku d l o) d.Q.length fun i=>if i=k then b' else gi i)=lm k (CP (ku d l o) d.Q.length gi)++[qG Ay 4 1 (Ad b') d.Q.length (lm d.Q.length (AC d e))]:=by
    rw[kh];congr 1
    ·refine jH fun i hi=>?_
     unfold CP;simp only[if_neg (show¬i=k by omega)]
    unfold CP;simp only[if_true,bR]
   rw[←eI,e1,←bU];exact hp
  refine Ae ?_;exact⟨k+1,qB O5 O,⟨O1,sd,ce,_,hZ,hp⟩,O1⟩
 obtain rfl:o.length=k:=O1;have hp:Hp W [] w7 ([bu sb 3 (qE [.slice d.sQ d.Q.length d.cQ,.slice sI o.length cI,.slice (Ad gR) (o.length+1) (o.length+1)]) 384,qG jO 177 1 sI cI (hI o.length d.Q.length gi),qG jO 22 1 (Ad gR) (o.length+1) (hR o.length d.Q.length 0 (fun _=>Ad r0) (fun _=>d.Q.length)),bu b7 14 (qE (kj (replicate 14 0))) 293,bu bd 13 (qE d.L) 28]++(lm o.length (CP (ku d l o) d.Q.length gi)++lm (1) (Cv (ku d l o) d.Q.length (fun _=>Ad r0) (fun _=>d.Q.length)))):=by
  exact hp.perm (mQ [_,_,_,_,_] (eF (l₁:=[_])))
 have xd:∀t,t≤0→kg ((fun _:Nat=>(Ad r0:Option Addr)) t) ((fun _:Nat=>d.Q.length) t) (lm d.Q.length fun k=>((ku d l o).rest k t:Int)):=fun t ht=>by
  obtain rfl:t=0:=O1;exact eH
 have IJ:∀i,kg (some ⟨gi i,0,none⟩) d.Q.length (lm d.Q.length ((ku d l o).inn i)):=fun i=>vZ ⟨aS _,by unfold maxLen;omega⟩
 refine qA ?_;refine ke (jN O O) (qF (b:=(o.length:Int)-1-((0:Nat):Int)) (by rw[qK O1 O1];omega)) ?_;refine qA ?_;refine qQ ([12,13,14]++range' 72 46) (fun(j:Nat) F=>F.put 12 (Iv ((o.length:Int)-1-(j:Int)))) (fun j w'=>j≤o.length∧∃sR cR,(∀t,t≤j→kg (sR t) (cR t) (lm d.Q.length fun k=>((ku d l o).rest k t:Int)))∧Hp W [] w' ([bu sb 3 (qE [.slice d.sQ d.Q.length d.cQ,.slice sI o.length cI,.slice (Ad gR) (o.length+1) (o.length+1)]) 384,qG jO 177 1 sI cI (hI o.length d.Q.length gi),qG jO 22 1 (Ad gR) (o.length+1) (hR o.length d.Q.length j sR cR),bu b7 14 (qE (kj (replicate 14 0))) 293,bu bd 13 (qE d.L) 28]++(lm o.length (CP (ku d l o) d.Q.length gi)++lm (j+1) (Cv (ku d l o) d.Q.length sR cR)))) (fun j=>o.length-j) 0 (qB (ka.eq .refl) O) ⟨bL _,_,_,xd,hp⟩ ?_;clear hp;rintro u2 j u0 ⟨hj,sR,cR,im,hp⟩;refine tI (fun h=>?_) fun h=>?_
 ·have hl:j<o.length:=O1;have eb:(o.length:Int)-1-(j:Int)=((o.length-1-j:Nat):Int):=O1;rw[eb];have hV:o.length-1-j+1<o.length+1:=O1;have xc:o.length-1-j<o.length+1:=O1;have xz:o.length-1-j<o.length:=O1;have cf:∀{w':World},Hp W [] w' ([bu sb 3 (qE [.slice d.sQ d.Q.length d.cQ,.slice sI o.length cI,.slice (Ad gR) (o.length+1) (o.length+1)]) 384,qG jO 177 1 sI cI (hI o.length d.Q.length gi),qG jO 22 1 (Ad gR) (o.length+1) (hR o.length d.Q.length j sR cR),bu b7 14 (qE (kj (replicate 14 0))) 293,bu bd 13 (qE d.L) 28]++(lm o.length (CP (ku d l o) d.Q.length gi)++lm (j+1) (Cv (ku d l o) d.Q.length sR cR)))→w'.cell? ⟨gR,0+(o.length-1-j+1)*1,none⟩=some (.slice (sR j) d.Q.length (cR j)):=fun hp=>by
   have h1:=qZ hp 2 O (sa _) (fun _=>O);have:=zM h1 hV 0 _ O;rw[if_pos O1,show o.length-(o.length-1-j+1)=j by omega] at this;exact this
  have xf:∀{w':World},Hp W [] w' ([bu sb 3 (qE [.slice d.sQ d.Q.length d.cQ,.slice sI o.length cI,.slice (Ad gR) (o.length+1) (o.length+1)]) 384,qG jO 177 1 sI cI (hI o.length d.Q.length gi),qG jO 22 1 (Ad gR) (o.length+1) (hR o.length d.Q.length j sR cR),bu b7 14 (qE (kj (replicate 14 0))) 293,bu bd 13 (qE d.L) 28]++(lm o.length (CP (ku d l o) d.Q.length gi)++lm (j+1) (Cv (ku d l o) d.Q.length sR cR)))→ig w' 1 eI (sR j) (lm d.Q.length fun k=>((ku d l o).rest k j:Int)):=fun hp=>
   Jf hp (aQ _ (aQ _ (bM.2 ⟨j,aR.2 O1,O⟩))) (im j O1) (fun _=>O)
  have hg:sR j=none→(lm d.Q.length fun k=>((ku d l o).rest k j:Int))=[]:=fun e=>by
   have:=im j O1;rw[e] at this;rcases this with⟨_,h⟩|⟨g,cap,h,_⟩
   ·exact aX h
   injection h with h _ _
   cases h
  refine qR ?_;refine jU jG O3 (fun w'=>Hp W [] w' ([bu sb 3 (qE [.slice d.sQ d.Q.length d.cQ,.slice sI o.length cI,.slice (Ad gR) (o.length+1) (o.length+1)]) 384,qG jO 177 1 sI cI (hI o.length d.Q.length gi),qG jO 22 1 (Ad gR) (o.length+1) (hR o.length d.Q.length j sR cR),bu b7 14 (qE (kj (replicate 14 0))) 293,bu bd 13 (qE d.L) 28]++(lm o.length (CP (ku d l o) d.Q.length gi)++lm (j+1) (Cv (ku d l o) d.Q.length sR cR)))) hp.U ?_;have hp:=hp.U;refine qX ?_;refine tN (o.length-1-j+1) ?_;refine qX ?_;refine tP (fun w hp=>qS O O (cf hp)) ?_;refine tK (jVx d.Q.length _ (sR j) (cR j) _ (xf hp) O1 hg) ?_;rintro _ u5 ⟨s',c',rfl,hn,hpo⟩;have hp:=hp.C hpo;clear hpo;refine⟨hp.E,?_⟩;refine qX ?_;apply xH;rfl;rfl;exact zL jO (hR o.length d.Q.length j sR cR) (o.length-1-j) (s',d.Q.length,c') hp 3 O (sa _) (by unfold hR;rw[qT];omega) O O (fun _=>O) O O (qD O);rintro _ hh ⟨rfl,hp⟩;refine qU ?_;obtain⟨sc,hK⟩:∃f:Nat→Option Addr,f=fun t=>if t=j+1 then s' else sR t:=⟨_,O⟩
  obtain⟨ca,hL⟩:∃f:Nat→Nat,f=fun t=>if t=j+1 then c' else cR t:=⟨_,O⟩
  have eh:(hR o.length d.Q.length j sR cR).set (o.length-1-j) (s',d.Q.length,c')=hR o.length d.Q.length (j+1) sc ca:=by
   unfold hR;rw[vF];refine jH fun i hi=>?_
   by_cases h:i=o.length-1-j
   ·rw[if_pos h,if_pos O1,hK,hL,show o.length-i=j+1 by omega];simp
   rw[if_neg h];by_cases h2:o.length-j≤i
   ·rw[if_pos h2,if_pos O1,hK,hL];simp only[if_neg (show¬o.length-i=j+1 by omega)]
   rw[if_neg h2,if_neg O1]
  have hp:Hp W [] hh ([qG eI 3 1 s' c' (lm d.Q.length fun k=>if k<0 then((ku d l o).rest k (j+1):Int) else((ku d l o).rest k j:Int))]++([bu sb 3 (qE [.slice d.sQ d.Q.length d.cQ,.slice sI o.length cI,.slice (Ad gR) (o.length+1) (o.length+1)]) 384,qG jO 177 1 sI cI (hI o.length d.Q.length gi),qG jO 22 1 (Ad gR) (o.length+1) (hR o.length d.Q.length (j+1) sc ca),bu b7 14 (qE (kj (replicate 14 0))) 293,bu bd 13 (qE d.L) 28]++(lm o.length (CP (ku d l o) d.Q.length gi)++lm (j+1) (Cv (ku d l o) d.Q.length sc ca)))):=by
   have e2:lm (j+1) (Cv (ku d l o) d.Q.length sc ca)=lm (j+1) (Cv (ku d l o) d.Q.length sR cR):=jH fun t ht=>by
    unfold Cv;rw[hK,hL];simp only[if_neg (show¬t=j+1 by omega)]
   rw[←eh,e2];exact hp
  have⟨bI,oI,xi,cc⟩:=jR (qZ hp 2 O hY (fun _=>O)) xz;have cc:=cc 0 _ O;have cc:hh.cell? ⟨bI,oI+(o.length-1-j)*1,none⟩=some (.slice (some ⟨gi (o.length-1-j),0,none⟩) d.Q.length d.Q.length):=cc;refine qA ?_;refine qQ ([13,14]++range' 99 19) (fun(κ:Nat) F=>F.put 99 (Iv (κ:Int))) (fun κ w'=>κ≤d.Q.length∧Hp W [] w' ([qG eI 3 1 s' c' (lm d.Q.length fun k=>if k<κ then((ku d l o).rest k (j+1):Int) else((ku d l o).rest k j:Int))]++([bu sb 3 (qE [.slice d.sQ d.Q.length d.cQ,.slice sI o.length cI,.slice (Ad gR) (o.length+1) (o.length+1)]) 384,qG jO 177 1 sI cI (hI o.length d.Q.length gi),qG jO 22 1 (Ad gR) (o.length+1) (hR o.length d.Q.length (j+1) sc ca),bu b7 14 (qE (kj (replicate 14 0))) 293,bu bd 13 (qE d.L) 28]++(lm o.length (CP (ku d l o) d.Q.length gi)++lm (j+1) (Cv (ku d l o) d.Q.length sc ca))))) (fun κ=>d.Q.length-κ) 0 (qB (ka.eq .refl) O) ⟨bL _,hp⟩ ?_;clear hp cc;rintro u3 κ u4 ⟨hκ,hp⟩;refine tI (fun h3=>?_) fun h3=>?_
  ·have xb:κ<d.Q.length:=O1;have cY:ig u4 1 Ay (some ⟨gi (o.length-1-j),0,none⟩) (lm d.Q.length ((ku d l o).inn (o.length-1-j))):=
    Jf hp (aQ _ (aQ _ (dD _ (bM.2 ⟨o.length-1-j,aR.2 xz,O⟩)))) (IJ _) (fun _=>O)
   have cB:=zM cY xb 0 _ O;have cB:u4.cell? ⟨gi (o.length-1-j),0+κ*1,none⟩=some (.bool ((ku d l o).inn (o.length-1-j) κ)):=cB;have hy:(ku d l o).rest κ (j+1)=(ku d l o).rest κ j+(if(ku d l o).inn (o.length-1-j) κ then 1 else 0):=by
    show(ku d l o).rest κ j+(if(ku d l o).inn (o.length-(j+1)) κ then 1 else 0)=_
    rw[show o.length-(j+1)=o.length-1-j by omega]
   have h5:=SC (ku d l o) κ j;refine qA ?_;cases hb:(ku d l o).inn (o.length-1-j) κ with
   |false=>
    rw[hb] at hy;have em:(lm d.Q.length fun k=>if k<κ then((ku d l o).rest k (j+1):Int) else((ku d l o).rest k j:Int))=lm d.Q.length fun k=>if k<κ+1 then((ku d l o).rest k (j+1):Int) else((ku d l o).rest k j:Int):=jH fun k _=>by
     by_cases hk:k=κ
     ·subst hk;rw[if_neg O1,if_pos O1,hy];simp
     by_cases zw:k<κ
     ·rw[if_pos zw,if_pos O1]
     rw[if_neg zw,if_neg O1]
    rw[em] at hp;refine EH ?_;exact⟨κ+1,qB O5 O,⟨O1,hp⟩,O1⟩
   |true=>
    rw[hb] at hy;have h9:kg s' c' (lm d.Q.length fun k=>if k<κ then((ku d l o).rest k (j+1):Int) else((ku d l o).rest k j:Int)):=jZ hn (by rw[qT,qT])
    have⟨g',h8⟩:=h9.addr (by
     intro e;have:(lm d.Q.length fun k=>if k<κ then((ku d l o).rest k (j+1):Int) else((ku d l o).rest k j:Int)).length=0:=by rw[e];rfl
     rw[qT] at this
     omega)
    rw[h8] at h9;have cg:u4.cell? ⟨gR,0+(o.length-1-j)*1,none⟩=some (.slice (Ad g') d.Q.length c'):=by
     have h1:=qZ hp 3 O (sa _) (fun _=>O);have:=zM h1 xc 0 _ O;rw[if_pos O1,show o.length-(o.length-1-j)=j+1 by omega,hK,hL] at this;simp only[if_true] at this;rw[h8] at this;exact this
    rw[h8] at hp;have cV:u4.cell? ⟨g',0+κ*1,none⟩=some (Iv ((ku d l o).rest κ j:Int)):=by
     have:=zM (qZ hp 0 O h9 (fun _=>O)) xb 0 _ O;exact T6
    refine jB O ?_;refine tM ((ku d l o).rest κ j+1) ?_;refine qA ?_;refine tO (zL eI (lm d.Q.length fun k=>if k<κ then((ku d l o).rest k (j+1):Int) else((ku d l o).rest k j:Int)) κ (((ku d l o).rest κ j+1:Nat):Int) hp 0 O h9 (by rw[qT];omega) O O (fun _=>O) O O (qD O)) fun hm hp=>?_;have em:(lm d.Q.length fun k=>if k<κ then((ku d l o).rest k (j+1):Int) else((ku d l o).rest k j:Int)).set κ (((ku d l o).rest κ j+1:Nat):Int)=lm d.Q.length fun k=>if k<κ+1 then((ku d l o).rest k (j+1):Int) else((ku d l o).rest k j:Int):=by
     rw[vF];refine jH fun k _=>?_
     by_cases hk:k=κ
     ·subst hk;rw[if_pos O,if_pos O1,hy];simp
     rw[if_neg hk];by_cases zw:k<κ
     ·rw[if_pos zw,if_pos O1]
     rw[if_neg zw,if_neg O1]
    rw[em,←h8] at hp;have hp:Hp W [] _ ([_]++_):=hp;refine Ae ?_;exact⟨κ+1,qB O5 O,⟨O1,hp⟩,O1⟩
  obtain⟨κ',xg⟩:∃κ',κ'=κ:=⟨_,O⟩;have hQ:κ=d.Q.length:=O1;have em:(lm d.Q.length fun k=>if k<κ then((ku d l o).rest k (j+1):Int) else((ku d l o).rest k j:Int))=lm d.Q.length fun k=>((ku d l o).rest k (j+1):Int):=jH fun k hk=>by rw[if_pos O1]
  rw[em] at hp;have hp:=hp.swap;rw[bU,bU] at hp;have e3:lm (j+1) (Cv (ku d l o) d.Q.length sc ca)++[qG eI 3 1 s' c' (lm d.Q.length fun k=>((ku d l o).rest k (j+1):Int))]=lm (j+1+1) (Cv (ku d l o) d.Q.length sc ca):=by
   rw[kh (n:=j+1) (f:=Cv (ku d l o) d.Q.length sc ca)];congr 1;unfold Cv;rw[hK,hL];simp
  rw[e3] at hp;refine qA ?_;refine ke (jN O O) (qF (b:=(o.length:Int)-1-((j+1:Nat):Int)) (by rw[qK O1 O1];omega)) ?_;refine qA ?_;refine⟨j+1,qB O5 O,⟨O1,sc,ca,fun t ht=>?_,hp⟩,O1⟩;rw[hK,hL];by_cases h:t=j+1
  ·subst h;simp only[if_true];exact jZ hn (by rw[qT,qT])
  simp[if_neg h];exact im t O1
 obtain⟨j',zt⟩:∃j',j'=j:=⟨_,O⟩;have xe:j=o.length:=O1;subst xe;have Ie:∀{w':World} {q7:kr},Hp W [] w' ([bu sb 3 (qE [.slice d.sQ d.Q.length d.cQ,.slice sI o.length cI,.slice (Ad gR) (o.length+1) (o.length+1)]) 384,qG jO 177 1 sI cI (hI o.length d.Q.length gi),qG jO 22 1 (Ad gR) (o.length+1) (hR o.length d.Q.length o.length sR cR),q7,bu bd 13 (qE d.L) 28]++(lm o.length (CP (ku d l o) d.Q.length gi)++lm (o.length+1) (Cv (ku d l o) d.Q.length sR cR)))→∀i,i<o.length→W.heap.size≤gi i:=fun hp i hi=>(hp.q0 (p:=CP (ku d l o) d.Q.length gi i) (aQ _ (dD _ (bM.2 ⟨i,aR.2 hi,O⟩))) _ O).resolve_right O4
 have ma:∀{w':World} {q7:kr},Hp W [] w' ([bu sb 3 (qE [.slice d.sQ d.Q.length d.cQ,.slice sI o.length cI,.slice (Ad gR) (o.length+1) (o.length+1)]) 384,qG jO 177 1 sI cI (hI o.length d.Q.length gi),qG jO 22 1 (Ad gR) (o.length+1) (hR o.length d.Q.length o.length sR cR),q7,bu bd 13 (qE d.L) 28]++(lm o.length (CP (ku d l o) d.Q.length gi)++lm (o.length+1) (Cv (ku d l o) d.Q.length sR cR)))→AI ⟨sb,sI,cI,gi,gR,o.length+1,fun i=>sR (o.length-i),fun i=>cR (o.length-i)⟩ d (ku d l o) w':=fun hp=>by
  refine⟨hp.J 0 O O,hp.J 0 O O,hp.J 0 O O,hD.q.i7 hp.Z,qZ hp 1 O hY (fun _=>O),fun i hi=>?_,?_,fun i hi=>?_,O,hq,by show o.length≤40;omega⟩
  ·exact Jf hp (aQ _ (dD _ (bM.2 ⟨i,aR.2 hi,O⟩))) (IJ _) (fun _=>O)
  ·have h1:=qZ hp 2 O (sa _) (fun _=>O);have e:hR o.length d.Q.length o.length sR cR=lm (o.length+1) fun i=>(sR (o.length-i),d.Q.length,cR (o.length-i)):=jH fun i _=>by rw[if_pos O1]
   rw[e] at h1;exact h1
  have hi:i≤o.length:=hi;exact Jf hp (aQ _ (aQ _ (bM.2 ⟨o.length-i,aR.2 O1,O⟩))) (im _ O1) (fun _=>O)
 have hS:=ma hp;refine qR ?_;refine tR qP ?_;refine jM ?_;refine jM ?_;refine ke (zX O O O) (qF (b:=(d.sz.toNat:Int)) (by rw[NC O1 O1];omega)) ?_;refine ke (Jg (zs:=(kj (replicate 14 0)).toArray) (pl:=#[(0,1),(1,1),(2,12)]) underlying293 (qJ O) O (fun w=>O3) (by rw[vH];exact jKy _)) (O:_=Value.agg (kj (Am (Bu d))).toArray) ?_
 (apply Ax;exact qC O (fun _ _=>O3) O (jVi _ d (ku d l o) (Bu d) _ hS ⟨bL _,by show d.sz.toNat≤40;omega,O,fun k=>by
   have:(replicate 12 (0:Int)).getD k 0=0:=by
    rw[aC,nG];split<;>rfl
   show-1≤(replicate 12 (0:Int)).getD k 0∧(replicate 12 (0:Int)).getD k 0≤40
   rw[this]
   decide⟩ (bL _));rintro v u5 ⟨hv,hk⟩;have hp:=hp.V hk)
 have hP:∀t,(ku d l o).tidy (Bu d)=some t→t.cs.length=12:=fun t ht=>by
  have:=(wJ (s:=Bu d) (by show(d.Q.map (·.2)).length≤12;rw[aH];exact hq) ht).2.2.1;rw[this];rfl
 obtain⟨la,dr,rfl,qq⟩:=I2 hv hP;have h6:(kj la).length=14:=by rw[vC];exact dr
 refine qA ?_;refine tF (zE (cs:=kj (replicate 14 0)) (m:=14) hp (qJ O) O O) fun hh ba hp=>?_;refine tO (zH (m:=14) (o:=0) (cs:=kj la) hp 0 O O O O (by rw[h6];exact qD O) (by rw[h6];rfl) (vY _)) fun u4 hp=>?_;have hp:=hp.I 0 (kj la) O (yJ _ _ h6);refine qA ?_;have ay:=hp;have xr:ba≠b7:=hp.y8 (i:=0) (j:=4) O O O2;have Ik:∀(j:Nat) (v:Value),(kj la)[j]? =some v→u4.cell? ⟨ba,0+j,none⟩=some v:=hp.i6 0 O h6;have hp:=ay.j8 4 O;refine kU true jG O3 (fun w'=>ax [b7] u4 w') hp.U.Z ?_;have hp:=hp.U;refine qX ?_;apply kp;rfl;intro w hk;exact qL (vs:=kj la) O O O h6 (fun j v hv=>hk.cell (Ik j v hv) (by simpa using xr));exact(O:_=Value.agg (kj la).toArray);refine qX ?_;apply GL;rfl;exact zH (m:=14) (o:=0) (cs:=kj la) hp 0 O O O O (by rw[h6];exact qD O) (by rw[h6];rfl) (vY _);rintro _ hm ⟨rfl,hp⟩;refine⟨hp.Z,?_⟩;have hp:=hp.I 0 (kj la) O (yJ _ _ h6);refine qX ?_;refine qU ?_;refine qA ?_;have zo:=ay.j5 4 O hp;exact⟨_,Mj (vs:=kj la) O O O O O O h6 (hp.i6 0 O h6),⟨_,O,⟨sb,sI,cI,gi,gR,o.length+1,fun i=>sR (o.length-i),fun i=>cR (o.length-i)⟩,la,O,dr,qq,ma zo.E,zo.Z,Ie zo.E⟩⟩
variable{M:List Nat}{P S:List Int}{c i j:Nat}{w' w0:World}
def Ba(w:World)(b c:Nat)(l:List Int):Prop:=∃o,w.heap[b]? =some o∧FB 3 1 c l.length (l.flatMap eI) o
theorem Hp.y5{L l l'}(hp:Hp w0 M w L)(i)(hi:L[i]? =some (qG eI 3 1 (Ad b) c l))(hk:ax [b] w w')(ho:Ba w' b c l'):
  Hp w0 M w' (L.set i (qG eI 3 1 (Ad b) c l')):=
 hp.p3 hi hk (by
  intro q hq;have:(some b)=_:=hq;have:q=b:=by simpa[eq_comm] using this
  subst this
  exact⟨.inl O,ho⟩)
theorem Hp.o7{L l}(hp:Hp w0 M w L)(i:Nat)(hi:L[i]? =some (qG eI 3 1 (Ad b) c l)):Ba w b c l:=hp.N i _ hi b O
theorem Hp.ofRow{l}(h:Ba w b c l):Hp w [b] w [qG eI 3 1 (Ad b) c l]:=UG
def D5(a b:Int):Int:=if a<b then-1 else if b<a then 1 else 0
def Cb(c:Int→Int):List Int→Int→List Int
 |[],x=>[x]
 |y::r,x=>if c x<c y then y::Cb c r x else x::y::r
def IJ(c:Int→Int):List Int→List Int
 |[]=>[]
 |x::r=>Cb c (IJ c r) x
def srt(c:Int→Int)(l:List Int):List Int:=(IJ c l.reverse).reverse
theorem Tq(c x):∀r:List Int,(Cb c r x).Perm (x::r)
 |[]=>.refl _
 |y::r=>by
  rw[Cb];split
  ·exact((Tq c x r).cons y).trans (.swap x y r)
  simp
theorem qSq(c):∀r:List Int,(IJ c r).Perm r
 |[]=>.refl _
 |x::r=>(Tq c x _).trans ((qSq c r).cons x)
theorem HQ(c l):(srt c l).Perm l:=
 (rE _).trans ((qSq c _).trans (rE _))
theorem RG(c l):(srt c l).length=l.length:=(HQ c l).length_eq
theorem qSu(c l x):srt c (l++[x])=(Cb c (srt c l).reverse x).reverse:=by
 unfold srt;rw[lC,mX];rfl
theorem Zf(c x):srt c [x]=[x]:=O
theorem qP1{c:Int→Int}{x:Int}(hj:j<P.length)(h:¬c x<c P[j]):(Cb c (P.take (j+1)).reverse x).reverse=P.take (j+1)++[x]:=by
 rw[aF hj,lC];show(Cb c (P[j]::(P.take j).reverse) x).reverse=_
 rw[Cb,if_neg h];simp
theorem YJ{c:Int→Int}{x:Int}(hj:j<P.length)(h:c x<c P[j]):(Cb c (P.take (j+1)).reverse x).reverse=(Cb c (P.take j).reverse x).reverse++[P[j]]:=by
 rw[aF hj,lC];show(Cb c (P[j]::(P.take j).reverse) x).reverse=_
 rw[Cb,if_pos h];simp
def mv(P:List Int)(x:Int)(j:Nat)(S:List Int):List Int:=P.take j++x::(P.drop j++S)
theorem jEc{x}:(mv P x j S).length=P.length+S.length+1:=by
 unfold mv;grind
theorem jMr{x}(hj:j≤P.length):(mv P x j S)[j]? =some x:=by
 unfold mv;grind
theorem qOs{x}(hj:j<P.length):(mv P x (j+1) S)[j]? =some P[j]:=by
 unfold mv;grind
theorem YR{x}(hj:j<P.length):((mv P x (j+1) S).set (j+1) P[j]).set j x=mv P x j S:=by
 unfold mv;rw[aF hj,bU,aT hj];grind
def AX(j:Nat):Nat:=bif Nat.beq j 15 then 16 else j
theorem Kl(h:j<16):AX j≠15∧AX j≠17∧AX j<17:=by
 unfold AX;by_cases hj:j=15
 ·subst hj;decide
 grind
theorem nbp(h:j<16)(hi:i<15):Nat.beq (AX j) i=Nat.beq j i:=by
 unfold AX;by_cases hj:j=15
 ·subst hj;show Nat.beq 16 i=Nat.beq 15 i
  rw[jJ O1,jJ O1]
 rw[jJ hj];rfl
def JH(b ln cc q:Nat)(x y:Int):Nat→Value:=qE [.slice (Ad b) ln cc,Iv ((q+1:Nat):Int),.slice (Ad b) ln cc,Iv ((q+1:Nat):Int),Iv (q:Int),.slice (Ad b) ln cc,Iv ((q+1:Nat):Int),Iv (q:Int),.pointer (some ⟨b,0+q*1,none⟩),Iv y,.slice (Ad b) ln cc,Iv ((q+1:Nat):Int),.pointer (some ⟨b,0+(q+1)*1,none⟩),Iv x,.pointer (some ⟨b,0+(q+1)*1,none⟩),.pointer (some ⟨b,0+q*1,none⟩)]
theorem U9(a w):Rk 327 [Iv a] w (.bool false):=by
 refine tW func327 ntmps327 fun hp=>?_;refine tV ?_;exact⟨_,O,(by show Value.bool _= .bool _;simp),hp.Z⟩
theorem jVk(a b w):Rk 244 [Iv a,Iv b] w (Iv (D5 a b)):=by
 refine tW func244 ntmps244 fun hp=>?_;refine tD (U9 a _) fun w1 hp=>?_;refine tD (U9 b _) fun w2 hp=>?_;refine AL ?_;refine tJ (qH O (fun h=>?_) (fun h=>?_))
 ·refine tV ?_;exact⟨_,O,by unfold D5;rw[if_pos h];rfl,hp.Z⟩
 refine tI (fun h2=>?_) fun h2=>?_
 ·refine tV ?_;exact⟨_,O,by unfold D5;rw[if_neg h,if_pos h2];rfl,hp.Z⟩
 refine tV ?_;exact⟨_,O,by unfold D5;rw[if_neg h,if_neg h2];rfl,hp.Z⟩
def My(gf:FuncId)(my:Array Value)(c:Int→Int)(l:List Int)(M:List Nat)(w:World):Prop:=∀W,ax M w W→∀x∈l,∀y∈l,Rt gf ([Iv x,Iv y]++my.toList) W (fun v W'=>v=Iv (D5 (c x) (c y))∧ax [] W W')
theorem jZr(l:List Int)(c:Int→Int)(b cc:Nat)(gf:FuncId)(hg:qI prog gf)(my:Array Value)(w:World)(hr:Ba w b cc l)(hc:l.length≤cc)(ha:cc≤maxLen)(hC:My gf my c l [b] w)(h20:l.length<20):
  Rt 367 [.slice (Ad b) l.length cc,Iv 0,Iv (l.length:Int),.func (.func gf) #[] my] w (fun _ w'=>ax [b] w w'∧Ba w' b cc (srt c l)):=by
 have ij:∀z:List Int,z.length=l.length→kg _ cc z:=fun z hz=>.inr ⟨b,cc,by rw[hz],O1,ha⟩
 refine km.j6 func367 O ntmps367 O ?_;have hp:=Hp.ofRow hr;refine tM (0+1) ?_;refine qA (kT ([8,9]++List.range' 12 41) (fun i _z F=>F.put 8 (.int _ (i+1:Nat)))
  (fun i z w'=>(i+1≤l.length∨i=0)∧z=srt c (l.take (i+1))++l.drop (i+1)∧Hp w _ w' [qG eI 3 1 _ cc z]) (fun i _=>l.length-i) 0 l (qB (ka.eq .refl) O) ⟨.inr O,?_,hp⟩ ?_)
 ·cases l with
  |nil=>rfl
  |cons x l=>simp[Zf]
 (repeat clear hp);rintro u i z w1 ⟨hi,hz,hp⟩;refine tI (fun h=>?_) fun h=>?_
 ·have hl:i+1<l.length:=O1;obtain⟨Pf,hP⟩:∃Pf,Pf=srt c (l.take (i+1)):=⟨_,O⟩;obtain⟨S,hS⟩:∃S,S=l.drop (i+1+1):=⟨_,O⟩;have zf:Pf.length=i+1:=by rw[hP,RG,cJ];omega
  have h4:S.length=l.length-(i+1+1):=by rw[hS,fR]
  have hX:∀y∈Pf,y∈l:=by
   intro y hy;rw[hP] at hy;exact gE ((HQ c _).mem_iff.1 hy)
  have v1:=bX hl;have hh:=qSu c (l.take (i+1)) l[i+1];rw[←aF,←hP] at hh;rw[←hP,aT hl,←hS] at hz;generalize hx:l[i+1]=x at v1 hh hz;have eh:z=mv Pf x (i+1) S:=by
   rw[hz];unfold mv;rw[←zf,dF,lT];rfl
  subst eh;clear hz;refine qA (qQ ([9]++List.range' 18 35) (fun(j:Nat) F=>F.put 9 (.int _ j))
   (fun j w'=>j≤i+1∧(Cb c _ x).reverse=(Cb c (Pf.take j).reverse x).reverse++Pf.drop j∧Hp w _ w' [qG eI 3 1 _ cc (mv Pf x j S)]) (fun j=>j) _ (qB (ka.eq .refl) O) ⟨O1,by rw[←zf,dF,lT,bO],hp⟩ ?_)
  (repeat clear hp);rintro u2 j w2 ⟨hj,hL,hp⟩;have x1:(mv Pf x j S).length=l.length:=by rw[jEc];omega
  have hn:=ij _ x1;refine qA ?_;refine jW jG O3 (fun w'=>Hp w _ w' _) hp.U ?_;have hp:=hp.U;refine tP (fun w hp=>qP) (tP (fun w hp=>qP) ?_);rcases dG j with h0|h0
  ·subst h0;refine xA ?_;apply ER;rfl;rfl;rfl;rfl;exact hp;refine xA (qU ?_);refine KW ?_;refine⟨_,_,qB O5 O,⟨.inl O1,?_,hp⟩,O1⟩;rw[hh,hL,←hS];unfold mv;simp[Cb]
  obtain⟨q,rfl⟩:∃q,j=q+1:=⟨j-1,O1⟩;have hq:q<Pf.length:=O1;have hM:=jMr (P:=Pf) (x:=x) (j:=q+1) (S:=S) O1;have ee:=qOs (x:=x) (S:=S) hq;have az:=YR (x:=x) (S:=S) hq;have hE:=YJ (c:=c) (x:=x) hq;have xy:=qP1 (c:=c) (x:=x) hq;have ph:=hX _ (bX hq);have hH:=aT hq;generalize Pf[q]=y at ee az hE xy ph hH;have xz:q+1<l.length:=O1;have dz:q<l.length:=O1;have hQ:q+1<(mv Pf x (q+1) S).length:=O1;refine kp O (fun w hp=>xJ O O) (qV (aD O1)) (xA ?_);apply yG;rfl;rfl;rfl;intro w hp;exact qS O O (zS hp 0 O hn (fun _=>O) hM 0 _ O);exact fI O;refine xA ?_;refine tN q ?_;refine xA ?_;apply yG;rfl;rfl;rfl;intro w hp;exact qS O O (zS hp 0 O hn (fun _=>O) ee 0 _ O);exact fI O;apply LX;rfl;rfl;rfl;exact qC O hg O (hC _ hp.Z x v1 y ph);rintro _ w3 ⟨rfl,hk⟩;have hp:=hp.V hk;refine⟨hp,?_⟩;by_cases bv:c x<c y
  ·have e1:D5 _ _= -1:=if_pos bv;rw[e1];refine xA (qU ?_);refine jB O (qA ?_);refine LZ ?_;intro F0 ht;have h3:F0 0= .slice (Ad b) l.length cc:=by rw[ht];rfl
   have h6:F0 9=Iv (q+1:Nat):=by rw[ht];rfl
   refine L1 jG O3 (fun D F w'=>Dn 37 16 (JH b l.length cc q x y) F0 (fun j=>D (AX j)) F∧(D 15=true→D 9=true∧D 13=true)∧(D 17=true→D 15=true)∧(D 15=false→Hp w _ w' _)∧(D 15=true→D 17=false→Hp w [b] w' [qG eI 3 1 (Ad b) cc ((mv Pf x (q+1) S).set (q+1) y)])∧(D 17=true→Hp w [b] w' [qG eI 3 1 (Ad b) cc (((mv Pf x (q+1) S).set (q+1) y).set q x)])) ⟨Dn.start,O4,O4,fun _=>hp.U,O4,O4⟩ ?_ ?_
   ·rintro i D F w4 hi h7 hA ⟨hD,hU,hK,oS,ng,zo⟩;have hJ:=hn.set (q+1) y;have hT:q<((mv Pf x (q+1) S).set (q+1) y).length:=by rw[fW];omega
    have nh:∀j,j<16→Nat.beq _ 15=_:=fun j hj=>jJ (Kl hj).1
    have nf:∀j,j<16→Nat.beq _ 17=_:=fun j hj=>jJ (Kl hj).2.1
    have ni:∀j,j<16→(D (AX j)||Nat.beq (AX j) 16)=(D (AX j)||Nat.beq j 15):=by
     intro j hj;by_cases h:j=15
     ·subst h;rfl
     have e1:AX j=j:=by unfold AX;rw[jJ h];rfl
     exact T9
    have h15:(D 9=false∨D 13=false)→D 15=false:=by
     intro h;cases h5:D 15
     ·rfl
     exact Ux
    have na:∀i,i<15→i≠9999→Dn 37 16 (JH b l.length cc q x y) F0 (fun j=>D (AX j)||Nat.beq (AX j) i) (F.put (37+i) (JH b l.length cc q x y i))∧((D 15||Nat.beq 15 i)=true→(D 9||Nat.beq 9 i)=true∧(D 13||Nat.beq 13 i)=true)∧((D 17||Nat.beq 17 i)=true→(D 15||Nat.beq 15 i)=true)∧((D 15||Nat.beq 15 i)=false→Hp w [b] w4 [qG eI 3 1 (Ad b) cc (mv Pf x (q+1) S)])∧((D 15||Nat.beq 15 i)=true→(D 17||Nat.beq 17 i)=false→Hp w [b] w4 [qG eI 3 1 (Ad b) cc ((mv Pf x (q+1) S).set (q+1) y)])∧((D 17||Nat.beq 17 i)=true→Hp w [b] w4 [qG eI 3 1 (Ad b) cc (((mv Pf x (q+1) S).set (q+1) y).set q x)]):=by
     exact US
    match i,hi with
    |0,_=>
     exact zI qP ((hD.old 0 O O).trans h3) (na 0 O2 O2)
    |1,_=>
     exact zI qP ((hD.old 9 O O).trans h6) (na 1 O2 O2)
    |2,_=>
     exact zI qP ((hD.old 0 O O).trans h3) (na 2 O2 O2)
    |3,_=>
     exact zI qP ((hD.old 9 O O).trans h6) (na 3 O2 O2)
    |4,_=>
     exact UP
    |5,_=>
     exact zI qP ((hD.old 0 O O).trans h3) (na 5 O2 O2)
    |6,_=>
     exact zI qP ((hD.old 9 O O).trans h6) (na 6 O2 O2)
    |7,_=>
     exact UN
    |8,_=>
     exact UO
    |9,_=>
     exact mBl
    |10,_=>
     exact zI qP ((hD.old 0 O O).trans h3) (na 10 O2 O2)
    |11,_=>
     exact zI qP ((hD.old 9 O O).trans h6) (na 11 O2 O2)
    |12,_=>
     exact UQ
    |13,_=>
     exact mBk
    |14,_=>
     exact UU
    |15,_=>
     have hA:(D 14&&(D 9&&(D 0&&(D 1&&(true&&(true&&(true&&(D 5&&(D 6&&(D 7&&(D 8&&(D 9&&(true&&(true&&(true&&(D 13&&true))))))))))))))))=_:=hA;simp[aJ,fJ,Lp] at hA;have h9:=hA.2.1;have h13:D 13=true:=by simp[hA]
     refine JP (zL eI _ _ y (oS h7) 0 O hn hQ (hD.slot 14 hA.1 O O) (hD.slot 9 h9 O O) (fun _=>O) O O (qD O)) ?_;exact mB1
    |16,_=>
     have hA:(D 2&&(D 4&&(D 0&&(D 1&&(D 2&&(D 3&&(D 4&&(D 5&&(D 6&&(D 7&&(D 8&&(D 9&&(D 10&&(D 11&&(D 12&&(D 13&&(D 14&&(D 15&&true))))))))))))))))))=_:=hA;simp[aJ,fJ] at hA;have h8:D 15=true:=by simp[hA]
     exact mAw
    |17,_=>
     have hA:(D 16&&(D 13&&(D 15&&(D 0&&(D 1&&(D 2&&(D 3&&(D 4&&(D 5&&(D 6&&(D 7&&(D 8&&(D 9&&(D 10&&(D 11&&(D 12&&(D 13&&(D 14&&(D 15&&true)))))))))))))))))))=_:=hA;simp[aJ,fJ] at hA;have h8:D 15=true:=by simp[hA]
     have h13:D 13=true:=by simp[hA]
     refine JP (zL eI _ q x (ng h8 h7) 0 O hJ hT (hD.slot 15 hA.1 O O) (hD.slot 13 h13 O O) (fun _=>O) O O (qD O)) ?_;exact mB6
    |i+18,hi=>exact absurd hi O4
   exact mB7
  have e1:¬D5 (c x) (c y)<0:=by
   unfold D5;rw[if_neg bv];split<;>decide
  apply yG;rfl;rfl;rfl;intro w hp;exact zQ O O;exact qV (aB e1);refine xA (qU ?_);refine KW ?_;refine⟨_,_,qB O5 O,⟨.inl O1,?_,hp⟩,O1⟩;rw[hh,hL,xy bv,←hS];unfold mv;simp
 have ik:z=srt c l:=by
  rw[hz];rcases hi with hi|hi
  ·grind
  subst hi;rw[bJ O1,mG O1,bO]
 subst ik;exact UB
theorem jZz(l c b cc gf)(hg:qI prog gf)(my w)(hr:Ba w b cc l)(hc:l.length≤cc)(ha:cc≤maxLen)(hC:My gf my c l [b] w)(h20:l.length<20):
  Rt 332 [.slice (Ad b) l.length cc,Iv (l.length:Int),.func (.func gf) #[] my] w (fun _ w'=>ax [b] w w'∧Ba w' b cc (srt c l)):=by
 refine tW func332 ntmps332 fun hp=>?_;refine qA (qQ ([7,8]++List.range' 11 12) (fun _ F=>(F.put 7 (.int _ 0)).put 8 (.int _ 20)) (fun _ w'=>w'=w) (fun _=>0) () (qB (qB (ka.eq .refl) O) O) O ?_);rintro u ⟨⟩ _ rfl;refine qA ?_;refine qH O O1 (fun _=>tL (jZr l c b cc gf hg _ _ hr hc ha hC h20) ?_);exact mAh
theorem XA(l c b cc gf)(hg:qI prog gf)(my w)(hr:Ba w b cc l)(hc:l.length≤cc)(ha:cc≤maxLen)(hC:My gf my c l [b] w)(h20:l.length<20):
  Rt 265 [.slice (Ad b) l.length cc,.func (.func gf) #[] my] w (fun _ w'=>ax [b] w w'∧Ba w' b cc (srt c l)):=by
 refine km.j6 func265 O ntmps265 O (tL (jZz l c b cc gf hg _ _ hr hc ha hC h20) ?_);exact mE3
variable{P:Program}{a:Int}{aft:Array Edge}{d:Option Tmp}{g:Option (Nat×Bool)}{n:ky}{s:Option Addr}{t':Nat}{ty:TypeId}{y:Operand}
def orI(a b:Int):Int:=IntKind.i64.wrap ((BitVec.ofInt 64 a|||BitVec.ofInt 64 b).toNat:Int)
theorem jOj{pos x b}(hx:ev n F x=Iv a)(hy:ev n F y=Iv b):
  PV P n w F ⟨d,.binOp .or t x y t',ty,pos,aft,g⟩ (Iv (orI a b)):=by
 simp only[PV,execOp,hx,hy,eqGuard,binOp,Op.intBits];rfl
theorem jE0{n l}(h:l.Perm (lm n fun i:Nat=>(i:Int))):∃o:List Nat,l=o.map (fun x:Nat=>(x:Int))∧o.Perm (range n)∧o.length=n∧∀x∈o,x<n:=by
 have hm:∀x∈l,∃k:Nat,k<n∧_:=fun x hx=>by
  have⟨k,hk,e⟩:=bM.1 (h.mem_iff.1 hx);exact⟨k,aR.1 hk,e.symm⟩
 have e1:l=(l.map Int.toNat).map (fun x:Nat=>(x:Int)):=by
  rw[iU]
  conv=>lhs;rw[←Nl l]
  refine lF fun x hx=>?_
  obtain⟨k,_,rfl⟩:=hm x hx;simp
 refine⟨_,e1,?_,?_,fun x hx=>?_⟩
 ·have e2:(lm n fun i=>(i:Int)).map Int.toNat=range n:=by
   unfold lm;rw[iU]
   conv=>rhs;rw[←Nl (range n)]
   exact lF fun x _=>O4
  grind
 ·rw[aH,h.length_eq,qT]
 obtain⟨y,hy,rfl⟩:=bM.1 hx;obtain⟨k,hk,rfl⟩:=hm y hy;omega
theorem jY0(o:List Nat):(o.map fun x:Nat=>(x:Int)).flatMap eI=o.flatMap eN:=by
 rw[oZ];rfl
theorem LS(o:List Nat):qG eI 3 1 s c (o.map fun x:Nat=>(x:Int))=qG eN 3 1 s c o:=by
 unfold qG;rw[jY0,aH]
theorem jVp(n:Nat)(W:World)(hn:n≤1000):
  Rt 224 [Iv (n:Int)] W (fun v w'=>∃b,v= .slice (Ad b) n n∧kg (Ad b) n (lm n fun i:Nat=>(i:Int))∧Hp W [] w' [qG eI 3 1 (Ad b) n (lm n fun i:Nat=>(i:Int))]):=by
 refine tW func224 ntmps224 fun hp=>?_;refine qA ?_;refine tF (yE eI 0 hp O O O O O O O O1 O) fun w1 b⟨hv,hp⟩=>?_;rw[Ec] at hp hv;rw[JT (f:=fun i=>(i:Int))] at hp;refine qA (qQ ([4]++range' 9 8) (fun(k:Nat) F=>F.put 9 (.int _ k)) (fun k w'=>k≤n∧Hp W [] w' [qG eI 3 1 _ n (lm n fun i=>if i<k then i else 0)]) (fun k=>n-k) 0 (qB (ka.eq .refl) O) ⟨O1,hp⟩ ?_);clear hp;rintro u k w2 ⟨hk,hp⟩;refine tI (fun h=>?_) fun h=>?_
 ·have hl:k<n:=O1;refine qA (tO (zL eI _ k k hp 0 O (jZ hv (by rw[qT,qT])) (by rw[qT];omega) O O (fun _=>O) O O (qD O)) fun w3 hp=>?_);rw[JQ] at hp;exact Fp
 obtain rfl:n=k:=O1;rw[JU (f:=fun i=>(i:Int))] at hp;refine tV ?_;exact⟨_,O,b,O,jZ hv (by rw[qT,qT]),hp⟩
theorem zA4(n gm mb cm)(x:Nat)(y:Nat)(mk W)(hb:W.cell? ⟨mb,0,none⟩=some (.slice (Ad gm) n cm))(hs:ig W 1 eI (Ad gm) (lm n mk))(hx:x<n)(hy:y<n):
  Rk 324 [Iv (x:Int),Iv (y:Int),.pointer (Ad mb)] W (Iv (D5 (mk x) (mk y))):=by
 have h1:W.cell? ⟨gm,0+x*1,_⟩=_:=zM hs hx 0 _ O;have h2:W.cell? ⟨gm,0+y*1,_⟩=_:=zM hs hy 0 _ O;refine tW func324 ntmps324 fun hp=>?_;exact mDc
theorem zAr(d:DW)(s:Option Addr)(c:Nat)(l:List EW)(W:World)(hD:DE d s l W)(h19:l.length<20):
  Rt 238 [d.v,.slice s l.length c] W (fun v w'=>∃(b:Nat) (o:List Nat),v= .slice (Ad b) o.length o.length∧o.Perm (range l.length)∧o.length=l.length∧(∀x∈o,x<l.length)∧kg (Ad b) o.length o∧Hp W [] w' [qG eN 3 1 (Ad b) o.length o]):=by
 have hj:=hD.lq;refine tW func238 ntmps238 fun hp=>?_;refine qR ?_;refine tQ fun w1 bd hp=>?_;have hp:=hp.I 0 d.L O O;refine qA ?_;refine tF (yE eI 0 hp O O O O O O O O1 O) fun w2 gm⟨hX,hp⟩=>tQ fun w3 mb hp=>?_;refine tS fun w4 hp=>?_;have hp:=hp.I 0 [.slice _ _ _] O O;rw[Ec] at hp hX;have sa:∀f:Nat→Int,kg _ _ (lm _ f):=fun f=>jZ hX (by rw[qT,qT])
 have hp:Hp W [] w4 [bu mb 1 _ 22,_,bu bd 13 _ 28]:=hp;refine qA (qQ ([6,7,8,9]++range' 16 25) (fun(k:Nat) F=>F.put 16 (.int _ k)) (fun k w'=>k≤l.length∧∃mk,Hp W [] w' [_,qG eI 3 1 _ _ (lm _ mk),_]) (fun k=>l.length-k) 0 (qB (ka.eq .refl) O) ⟨O1,_,hp⟩ ?_);clear hp;rintro u k w5 ⟨hk,mk,hp⟩;refine tI (fun h=>?_) fun h=>?_
 ·have hl:k<l.length:=O1;obtain⟨e,he⟩:∃e,l[k]? =some e:=⟨_,aA hl⟩;have⟨be,oe,hM,hE⟩:=hD.e k e he;have x7:=hD.g e (aG he);have qj:=hD.lg e (aG he);refine qA (ke (qL O O O O (fun j v hv=>hp.j3 (hE j v hv))) (O:_=e.v) ?_);refine tF (zE (cs:=[_,_,_,_,_,_]) (m:=6) hp (qJ O) O O) fun w6 b7 hp=>tT fun w7 hp=>?_;have hp:=hp.I 0 (AR e) O O;refine qR (ke (qL O O O O (hp.i6 3 O O)) (O:_=d.v) ?_);refine ke (qL O O O O (hp.i6 0 O O)) (O:_=e.v) (tK (U4 d e _ (hD.q.i7 hp.Z) (x7.i7 hp.Z) hj qj) ?_);rintro _ w8 ⟨b',rfl,hH,hpo⟩;have hp:=hp.E.C hpo;clear hpo;have hp:Hp W [] w8 [_,_,_,_]:=hp;refine qA (qQ ([8,9]++range' 25 15) (fun(q:Nat) F=>F.put 25 (.int _ q)) (fun q w'=>q≤d.Q.length∧∃mk,Hp W [] w' [_,_,qG eI 3 1 _ _ (lm _ mk),_]) (fun q=>d.Q.length-q) 0 (qB (ka.eq .refl) O) ⟨O1,mk,hp⟩ ?_);clear hp;rintro u2 q w9 ⟨hq,mk,hp⟩;refine tI (fun h2=>?_) fun h2=>?_
  ·have hg:q<d.Q.length:=O1;have cB:w9.cell? ⟨b',0+q*1,_⟩=_:=zM (qZ hp 0 O hH (fun _=>O)) hg 0 _ O;refine qA ?_;cases hb:AC d e q with
   |false=>
    refine EH ?_;exact⟨q+1,qB O5 O,⟨O1,mk,hp⟩,O1⟩
   |true=>
    refine jB O ?_;refine jU jG O3 (fun w'=>Hp W [] w' _) hp.U ?_;have hp:=hp.U;refine qX ?_;refine kp O (fun w hp=>qS O O (zM (qZ hp 2 O (sa _) (fun _=>O)) hl 0 _ O)) O (qX ?_);refine tP (fun w hp=>J3 O O O1) (tP (fun w hp=>jOj O O) ?_);refine qX ?_;apply xH;rfl;rfl;exact zL eI _ k _ hp 2 O (sa _) (by rw[qT];omega) O O (fun _=>O) O O (qD O);rintro _ uy ⟨rfl,hp⟩;refine qU ?_;rw[vF] at hp;refine Ae ?_;exact⟨q+1,qB O5 O,⟨O1,_,hp⟩,O1⟩
  refine Ae ?_;exact⟨k+1,qB O5 O,⟨O1,mk,hp.E⟩,O1⟩
 refine tL (jVp l.length _ O1) ?_;rintro _ w6 ⟨b,rfl,tq,hpo⟩;have hp:=hp.C hpo;clear hpo;have hp:Hp W [] w6 [_,_,_,_]:=hp;refine qA ?_;have cD:(lm _ fun i=>(i:Int)).length=l.length:=qT;have hn:mb∉[b]:=by
  have:=hp.y8 (i:=1) (j:=0) O O O2;exact DT
 have ht:gm∉[b]:=by
  have:=hp.y8 (i:=2) (j:=0) O O O2;exact DT
 have cM:w6.cell? ⟨mb,0,_⟩=some (.slice _ _ l.length):=hp.J 1 O O;have sM:=qZ hp 2 O (sa mk) (fun _=>O);have hC:My 324 #[.pointer (Ad mb)] (fun z=>mk z.toNat) (lm l.length fun i:Nat=>(i:Int)) [b] w6:=fun W' hV x hx y hy=>by
  obtain⟨x',hY,rfl⟩:=bM.1 hx;obtain⟨y',nt,rfl⟩:=bM.1 hy;have:=zA4 _ gm mb _ x' y' mk W' (hV.cell cM hn) (ig.y7 sM hV ht) (aR.1 hY) (aR.1 nt);exact DT
 have call:=XA _ _ b _ 324 jQp _ w6 (Hp.o7 hp 0 O) O1 (by unfold maxLen;omega) hC O1;rw[cD] at call;refine tK call ?_;rintro _ w7 ⟨hk,ha⟩;have hp:=Hp.y5 hp 0 O hk ha;have⟨o,jm,ir,hh,hm⟩:=jE0 (HQ (fun z=>mk z.toNat) (lm l.length _));refine qA ?_;have hp:=hp.x (eY [_] _);rw[jm,LS,←hh] at hp;exact qM O O ⟨_,O,b,o,by rw[hh];rfl,ir,hh,hm,by rw[hh];exact jZ tq O1,hp⟩
end
variable{k m:Nat}{s:Option Addr}{w w':World}{α:Type}
def pd(w w':World):Prop:=∀(x:Addr) (v:Value),w.cell? x=some v→w'.cell? x=some v
theorem pd.of(hk:ax [m] w w')(hm:∀(x:Addr) (v:Value),w.cell? x=some v→x.block≠m):pd w w':=fun x v h=>hk.cell h O6
theorem pd.o4{enc:α→List Value}{l}(h:pd w w')(hs:ig w k enc s l):ig w' k enc s l:=fun i x hx=>by
 have⟨b,o,e,hc⟩:=hs i x hx;exact⟨b,o,e,fun j v hv=>h _ _ (hc j v hv)⟩
variable{M:List Nat}{f:Q}{g:EK→Option Value}{w0:World}
section
theorem L3{L}(hp:Hp w0 M w L)(i:Nat)(hi:L[i]? =some (zV Bx m g)):∀(x:Addr) (v:Value),w.cell? x=some v→x.block≠m:=fun x v hx e=>by
 obtain⟨o,ho,l,clock,rfl,_⟩:=hp.N i _ hi m O;rw[←e] at ho;simp[World.cell?,ho] at hx
theorem AI.k8{a d}(h:AI a d f w)(hk:pd w w'):AI a d f w':=
 ⟨hk _ _ h.h0,hk _ _ h.h1,hk _ _ h.h2,hk.o4 h.q,hk.o4 h.hI,fun i hi=>hk.o4 (h.rI i hi),hk.o4 h.hR,fun i hi=>hk.o4 (h.rR i hi),h.fq,h.lq,h.lN⟩
structure SI(f:Q)(s:wj):Prop where
 ok:f.Ok s
 c:s.cs.length=12
 l:s.left≤40
 n:s.next≤40
 b:∀k,-1≤s.cs.getD k 0∧s.cs.getD k 0≤s.next
theorem SI.aA9{s}(h:SI f s):VD s:=⟨h.n,h.l,h.c,fun k=>by have:=h.b k;have:=h.n;omega⟩
theorem jCe{s t:wj}(hl:f.q.length≤s.cs.length)(h:f.tidy s=some t):∀k,t.cs.getD k 0= -1∨t.cs.getD k 0=s.cs.getD k 0:=by
 intro k;unfold Q.tidy at h;split at h
 ·cases h
 have hs:=Ku (f:=f) (next:=s.next) (left:=s.left) f.q 0 s.cs O1;cases hr:f.p5 _ _ 0 _ _ with
 |none=>rw[hr] at h;simp at h
 |some cs=>
  rw[hr] at h hs;obtain rfl:{s with cs:=cs}=t:=O6
  by_cases hk:k<f.q.length
  ·have:=hs.2 k _ (aA hk);grind
  grind
theorem SI.k4{f:Q}{s t:wj}{b:Bool}(h:SI f s)(hN:f.N≤40)(h0:0<s.left)(hs:f.k4 s b=some t):SI f t∧t.next=s.next+1:=by
 have⟨h1,h2,h3,h4,_⟩:=wW h.ok h0 hs;have ha:=h.ok.lt h0;have hl:=h.ok.td.cl;refine⟨⟨h1,by rw[h4];exact h.c,?_,O1,fun k=>?_⟩,h2⟩
 ·have:=h.l;grind
 have hb:=h.b k;rcases jCe (NU b hl) hs k with e|e
 ·omega
 rw[e];cases b
 ·grind
 simp only[if_true];rcases jNa _ _ _ hl k with e2|e2<;>rw[e2]<;>omega
open Classical in
noncomputable def Cs(f:Q)(s:wj):Bool:=decide (∃T,f.Cmp s T)
noncomputable def CO(f:Q)(s:wj)(b:Bool):Bool:=match f.k4 s b with
 |some t=>Cs f t
 |none=>false
theorem OT{s}:Cs f s=true↔∃T,f.Cmp s T:=by
 unfold Cs;simp
theorem qP3{s}(h:f.Ok s)(h0:s.left=0):Cs f s=true:=OT.2 ⟨[],h.td.fin h0⟩
theorem Z1{s b}(h:f.Ok s)(h0:0<s.left):CO f s b=true↔∃T,(if b then f.Cmp s (s.next::T) else f.Cmp s T∧s.next∉T):=by
 unfold CO;cases hs:f.k4 s b with
 |none=>
  simp only[fA,false_iff];rintro⟨T,hT⟩;exact Te h h0 hs T hT
 |some t=>
  rw[OT];have:=(wW h h0 hs).2.2.2.2;grind
theorem To{s}(h:f.Ok s)(h0:0<s.left):Cs f s=(CO f s true||CO f s false):=by
 rw[iA,gJ,OT,Z1 h h0,Z1 h h0];constructor
 ·rintro⟨T,hT⟩;rcases OP hT with hn|⟨T',rfl⟩
  ·grind
  grind
 grind
def Ex(s:wj)(h:s.cs.length=12):EK:=⟨Am s,by simp[Am,h]⟩
def AJ(f:Q)(g:EK→Option Value):Prop:=∀(t:wj) (h:t.cs.length=12) (v:Value),SI f t→g (Ex t h)=some v→v= .bool (Cs f t)
theorem Zl{s t}(h:Am s=Am t):s=t:=by
 cases s;cases t;simp[Am,sO] at h;grind
theorem AJ.put(h:AJ f g){s}(hc:s.cs.length=12):AJ f (fun x=>if x=Ex s hc then some (.bool (Cs f s)) else g x):=by
 intro t ht v hS hg;simp[] at hg;by_cases e:Ex t ht=Ex s hc
 ·have:=Zl (aK Subtype.val e);grind
 rw[if_neg e] at hg;exact h t ht v hS hg
attribute [local irreducible] PV gx kq kn WP km
attribute [local irreducible] Fit
theorem U5(a:Hm)(d:DW)(f:Q)(kb fb sa mp:Nat):∀(n:Nat) (s:wj) (g:EK→Option Value) (W:World),f.N-s.next=n→SI f s→AI a d f W→W.cell? ⟨kb,0,none⟩=some (.map (some mp))→W.cell? ⟨fb,0,none⟩=some (.pointer (some ⟨a.sb,0,none⟩))→
  W.cell? ⟨sa,0,none⟩=some (.func (.func 225) #[] #[.pointer (Ad kb),.pointer (Ad fb),.pointer (Ad sa)])→AJ f g→Hp W [mp] W [zV Bx mp g]→
  Rt 225 [.agg (kj (Am s)).toArray,.pointer (Ad kb),.pointer (Ad fb),.pointer (Ad sa)] W (fun v w'=>v= .bool (Cs f s)∧∃g',AJ f g'∧Hp W [mp] w' [zV Bx mp g']):=by
 intro n;induction n using Nat.strongRecOn with
 |_ n ih=>
 intro s g W hn hI hS ck cf cs hg hp;have h14:(kj (Am s)).length=14:=by rw[vC];simp[Am,hI.c]
 have hN:=hS.lN;have mT:prog.underlying 296=some (.map 293 4):=O3;have hj:∀{w':World} {L:List _},Hp W _ w' L→pd W w':=fun h=>pd.of h.keeps (L3 hp 0 O)
 refine km.j6 func225 O ntmps225 O (qR ?_);refine tF (kW (cs:=kj _) hp O O h14) fun w1 b4 hp=>?_;have hp:Hp W _ w1 [bu b4 14 _ 293,_]:=hp;refine tI (fun h=>?_) fun h=>?_
 ·have h0:s.left=0:=O1;refine qA ?_;exact qM (v:=.bool _) O O ⟨_,O,by rw[qP3 hI.ok h0],g,hg,hp.E⟩
 have h0:0<s.left:=O1;have hl:=hI.ok.lt h0;have hy:∀k,s.cs.getD k 0≤39:=fun k=>by have:=hI.b k;omega
 have hz:=hj hp;have ce:=hz _ _ ck;refine qR (ke (qS O O ce) O ?_);refine ke (qL O O O h14 (hp.i6 0 O h14)) O (ke (qH0 (a:=Ex s hI.c) hp 1 O O O mT (qJ O)) O ?_);cases hgs:g (Ex s hI.c) with
 |some v=>
  obtain rfl:=hg s _ v hI hgs;refine qA (jB O ?_);refine tV ?_;exact⟨_,O,O,g,hg,hp.E⟩
 |none=>
  refine AL ?_;refine tF (jC (cs:=[.bool _,.bool _]) hp O O O O O O O) fun w2 bs hp=>?_;have hp:Hp W _ w2 [bu bs 2 _ 4,_,_]:=hp;refine qA ?_;obtain⟨fo,h4⟩:∃fo:Nat→Bool,fo=fun k=>(decide (1≤k)&&CO f s true)||(decide (2≤k)&&CO f s false):=⟨_,O⟩
  have fc:fo 0=false:=by rw[h4];rfl
  have ff:fo 2=Cs f s:=by rw[h4,To hI.ok h0];rfl
  have fe:∀k,k<2→fo (k+1)=(fo k||CO f s (decide (k=0))):=fun k hk=>by
   grind
  refine qQ ([8,10,11,12]++range' 26 20) (fun k F=>(F.put 8 (.bool (fo k))).put 26 (.int _ k)) (fun k w'=>k≤2∧∃g',AJ f g'∧Hp W _ w' [_,_,zV _ mp g']) (fun k=>2-k) 0 (qB (qB (ka.eq .refl) (by rw[fc];rfl)) O) ⟨O1,g,hg,hp⟩ ?_;clear hp;rintro u k w3 ⟨hk,g',h8,hp⟩;refine tI (fun h2=>?_) fun h2=>?_
  ·have tv:k<2:=O1;have cT:w3.cell? ⟨bs,0+k*1,none⟩=some (.bool (decide (k=0))):=by
    rcases(show k=0∨k=1 by omega) with rfl|rfl
    ·exact hp.J 0 O O
    exact hp.J 0 O O
   have h3:=hj hp;have ci:=h3 _ _ cf;have cg:=h3 _ _ cs;refine Hc ?_;refine qR ?_;refine jM (ke (qL O O O h14 (hp.i6 1 O h14)) O ?_);refine tL (KS a d f s _ _ (hS.k8 h3) hI.aA9 hy hl h0) ?_;rintro v w4 ⟨hv,vz⟩;have hp:=hp.V vz;obtain⟨l,dr,rfl,qq⟩:=I2 hv (fun t ht=>(hI.k4 hN h0 ht).1.c);have ha:(kj l).length=14:=by rw[vC];exact dr
   refine qA (tF (zE (cs:=kj (replicate 14 0)) (m:=14) hp (qJ O) O O) fun w5 be hp=>?_);refine tO (zH (cs:=kj l) hp 0 O O O O (by rw[ha];exact qD O) (by rw[ha];rfl) (vY _)) fun w6 hp=>?_;have hp:=hp.I 0 _ O (yJ _ _ ha);have hp:Hp W _ w6 [bu _ 14 _ 293,_,_,_]:=hp;have hm:=hj hp;have cc:=hm _ _ cs;have eb:=fe k tv;cases ho:f.k4 s (decide (k=0)) with
   |none=>
    have e:fo (k+1)=fo k:=by
     rw[eb];unfold CO;rw[ho,dL]
    exact mD0
   |some t=>
    have⟨hx,hq⟩:=hI.k4 hN h0 ho;obtain rfl:=qq t ho;have e:fo (k+1)=(fo k||Cs f t):=by
     rw[eb];unfold CO;rw[ho]
    cases hf:fo k with
    |true=>
     rw[hf,Bool.true_or] at e;exact mD0
    |false=>
     rw[hf,Bool.false_or] at e;refine jL (jB O ?_);refine qR (ke (qS O O cc) O ?_);refine ke (qL O O O ha (hp.i6 0 O ha)) O ?_;have hh:=Hp.k6 (A:=[_,_,_]) hp;refine tK (ih _ O1 t g' _ O hx (hS.k8 hm) (hm _ _ ck) (hm _ _ cf) cc h8 hh) ?_;rintro _ w7 ⟨rfl,g2,ee,zo⟩;have hp:=Hp.back (A:=[_,_,_]) hp zo;refine Ae ?_;exact⟨k+1,qB (qB O5 (by rw[e];rfl)) O,⟨O1,g2,ee,hp.E⟩,O1⟩
  obtain rfl:k=2:=O1;rw[ff];have h3:=hj hp;have ca:=h3 _ _ ck;refine qR (ke (qS O O ca) O ?_);refine ke (qL O O O h14 (hp.i6 1 O h14)) O (qA ?_);refine tO (qLc (a:=Ex s hI.c) hp 2 O O O O mT) fun w4 hp=>tV ?_;exact⟨_,O,O,_,h8.put _,hp.E.E⟩
end
variable{F:Fr}{K:Fr→World→Prop}{P:Program}{QA:Exit→Act→World→Prop}{R:Ending→World→Prop}{W':World}{aft:Array Edge}{args:Array Operand}{assign body:Code}{ds:List Deferred}{gf:FuncId}{i j p sz:Nat}{l:List Oper}{lb:List Value}{listed:Array Bool}{n:ky}{op:Op}{ops:Array Oper}{qz:Operand}{ts:Array TypeId}{ty:TypeId}
structure KB(B:Nat)(M:List Nat)(W W':World):Prop where
 size:W.heap.size≤W'.heap.size
 block:∀k,B≤k→k<W.heap.size→k∉M→W'.heap[k]? =W.heap[k]?
theorem KB.of{B W}(h:ax M W W'):KB B M W W':=⟨h.size,fun k _ h1 h2=>h.block k h1 h2⟩
theorem KB.trans{B M M' W W' W2}(h:KB B M W W')(h2:KB B M' W' W2)(hm:∀k,k∈M'→k<W.heap.size→k∈M):KB B M W W2:=
 ⟨bF h.size h2.size,fun k hb hk hn=>(h2.block k hb (by have:=h.size;omega) (fun hx=>hn (hm k hx hk))).trans (h.block k hb hk hn)⟩
theorem KB.cell{B M W W'}(h:KB B M W W'){x v}(hc:W.cell? x=some v)(hb:B≤x.block)(hm:x.block∉M):W'.cell? x=some v:=by
 have hl:x.block<W.heap.size:=by
  refine bZ fun hn=>?_
  have:W.heap[x.block]? =none:=Array.getElem?_eq_none O1;simp[World.cell?,this] at hc
 unfold World.cell? at hc⊢;rw[h.block _ hb hl hm];exact hc
theorem mw.of{B W}(h:ax M W W')(hm:∀m∈M,B≤m)(hb:B≤W.heap.size):mw B W W':=
 ⟨h.os,h.tape,h.output,h.size,fun k hk=>h.block k O1 (fun hx=>O6)⟩
theorem mw.trans{B W W' W2}(h:mw B W W')(h2:mw B W' W2):mw B W W2:=
 ⟨h2.os.trans h.os,h2.tape.trans h.tape,h2.output.trans h.output,bF h.size h2.size,fun k hk=>(h2.block k hk).trans (h.block k hk)⟩
theorem mw.drew(B W):mw B W W.drew:=⟨O,O,O,aS _,fun _ _=>O⟩
section
variable{Q:Exit→Fr→World→Prop}{fuel:Nat}{pos:String}{d:Nat}
def HB(P:Program)(n:ky)(ops:Array Oper)(fuel:Nat)(listed:Array Bool)(Q:Exit→Fr→World→Prop)(F:Fr)(w:World):Prop:=wpAnyIn n.n6 0 P .any ops (up n Q) fuel listed (act n F) w
def B0(P:Program)(n:ky)(ops:Array Oper)(i:Nat)(K:Fr→World→Prop)(Q:Exit→Fr→World→Prop)(F:Fr)(w:World):Prop:=wpOpIn n.n6 0 P ops (up n Q) i (fun a w=>∃F',a=act n F'∧K F' w) (act n F) w
theorem R1(h:Region.ready .any ops listed=[])(hq:Q .normal F w):HB P n ops fuel listed Q F w:=by
 cases fuel with
 |zero=>exact⟨h,F,O,hq⟩
 |succ k=>exact⟨fun _=>⟨F,O,hq⟩,fun i hi=>(by rw[h] at hi;cases hi)⟩
theorem Gs(i)(h:Region.ready .any ops listed=[i])(hi:B0 P n ops i (fun F w=>HB P n ops fuel (listed.setIfInBounds i true) Q F w) Q F w):HB P n ops (fuel+1) listed Q F w:=by
 refine⟨fun e=>O6,fun k hk=>?_⟩;rw[h] at hk;obtain rfl:k=i:=O6
 refine wpOpIn_mono ?_ hi;exact T8
theorem Yh(i j)(h:Region.ready .any ops listed=[i,j])(hi:B0 P n ops i (fun F w=>HB P n ops fuel (listed.setIfInBounds i true) Q F w) Q F w)(hj:B0 P n ops j (fun F w=>HB P n ops fuel (listed.setIfInBounds j true) Q F w) Q F w):HB P n ops (fuel+1) listed Q F w:=by
 refine⟨fun e=>O6,fun k hk=>?_⟩;rw[h] at hk;have hk:=by simpa using hk
 rcases hk with rfl|rfl
 ·refine wpOpIn_mono ?_ hi;exact T8
 refine wpOpIn_mono ?_ hj;exact T8
theorem Qi{R}(ho:ops[i]? =some ⟨some d,op,ty,pos,aft,none⟩)(hs:gx P n ⟨some d,op,ty,pos,aft,none⟩ F w R)(h:∀v w',R v w'→K (F.put d v) w'):B0 P n ops i K Q F w:=by
 unfold B0 wpOpIn;rw[ho];refine Step.wpIn hs fun v w' hr=>⟨_,?_,h v w' hr⟩
 rw[zN];rfl
theorem KR{r}(ho:ops[i]? =some ⟨some d,op,ty,pos,aft,none⟩)(hs:PV P n w F ⟨some d,op,ty,pos,aft,none⟩ r)(h:K (F.put d r) w):B0 P n ops i K Q F w:=by
 refine Qi (R:=fun u w'=>u=r∧w'=w) ho (.inl ⟨r,w,?_,O,O⟩) ?_
 ·rw[zF];exact hs
 grind
theorem zCw{l x vs}(ho:ops[i]? =some ⟨some d,.call ⟨.value x,args,ts⟩,ty,pos,aft,none⟩)
  (hx:ev (ky.of m) F x= .func (.yield l) #[] #[]) (di:args.toList.map (ev (ky.of m) F)=vs) (hy:YieldAt Fence.wide 0 P l vs.toArray w R)
  (h:∀e w',R e w'→∃v,e= .returned v∧K (F.put d v) w'):B0 P (ky.of m) ops i K Q F w:=by
 have⟨fn,tmps,assign,body,ai,aj⟩:=hy;unfold B0 wpOpIn;rw[ho];refine⟨fun _ _=>trivial,?_⟩;have ha:args.map (ev (ky.of m) F)=vs.toArray:=by
  rw[←di];apply Ni;rw[rP]
 have hex:(execOp (ev (ky.of m) F) ⟨some d,.call ⟨.value x,args,ts⟩,ty,pos,aft,none⟩).run P w= .ok (.round l fn tmps assign body) w:=by
  exact UJ
 rw[Nq _ _ _ O4,zF,hex];refine⟨fun h=>(by cases h),RoundIn.mono aj ?_⟩;intro e w' hr;obtain⟨v,rfl,h2⟩:=h e w' hr;refine⟨_,?_,h2⟩;rw[zN];rfl
theorem jU5{id:Nat}(k:Nat)(hl:l.length=k)(hm:P.follows .mixedOrders=true)(h:HB P n l.toArray k (Array.replicate k false) Q F w.drew):WP P n (.region id l.toArray true) Q F w:=by
 subst hl;refine wpIn_region_any hm ?_;simpa[HB] using h
end
def ItS{α:Type}(P:Program)(g:FuncId)(lb:List Value)(enc:α→Value)(X:α→World→Prop)(b:Bool)(w:World):Prop:=
 ∀(l:Nat) (J:World→Prop) (Z:World→Prop),l<w.heap.size→(∀(a:Addr) (v:Value),w.cell? a=some v→a.block≠l)→
  (∀x W1,J W1→X x W1→YieldAt Fence.wide 0 P l #[enc x] W1 fun e W'=>e= .returned (.bool false)∧Z W'∧KB w.heap.size [] W1 W')→
  (∀W W',J W→mw w.heap.size W W'→J W')→J w→
  km P g (.func (.yield l) #[] #[]::lb) w (fun _ W'=>if b then Z W' else J W')
theorem jI9{id}
  (hg:ev ⟨sz,ds,none⟩ F qz= .func (.func gf) #[] lb.toArray) (eg:qI P gf)
  (enc:α→Value) (b:Bool) (X:World→α→World→Prop) (M:List Nat) (hM:∀k∈M,k<w.heap.size)
  (I:World→Prop) (hI:∀W W',I W→mw w.heap.size W W'→I W') (h0:I w)
  (Z:α→World→Prop) (hZ:∀x l o o' W,w.heap.size≤l→Z x W→W.heap[l]? =some (.loop o)→Z x (W.putObj l (.loop o')))
  (Bk:∀W1,ax [] w W1→W1.heap.size=w.heap.size+2→ItS P gf lb enc (X W1) b W1) (F1:α→Fr)
  (q7:∀(l:Nat) (x:α) (W:World),WP P ⟨sz,[],some l⟩ assign (fun e F' W'=>e= .normal∧F'=F1 x∧W'=W) (F.put p (enc x)) W)
  (q3:∀(l:Nat) (x:α) (W1 W W0:World),ax [] w W1→I W→X W1 x W0→pd W0 W→W0.heap.size≤W.heap.size→WP P ⟨sz,[],some l⟩ body (fun e _ W'=>e= .ret∧Z x W'∧ax M W W') (F1 x) W)
  (q1:∀(D:Nat) (W:World),w.heap.size≤D→b=false→I W→W.heap[D]? =some (.deferred (some []))→QA .normal (act ⟨sz,{target:=.collected D,args:=#[]}::ds,none⟩ F) W)
  (hj:∀(D:Nat) (x:α) (W:World),w.heap.size≤D→b=true→Z x W→W.heap[D]? =some (.deferred (some []))→QA .ret (act ⟨sz,{target:=.collected D,args:=#[]}::ds,none⟩ F) W):
  BZ P ⟨sz,ds,none⟩ (.block id (.rangeFunc qz #[p] assign body)) QA F w:=by
 unfold BZ;rw[ky.k5 O];refine JK (wpIn_rangeFunc ?_);intro fn rb;obtain⟨rec,qs⟩:∃rec:LoopState→Option _→Loop,rec=fun st pe=>{state:=st,pending:=pe,fn,tmps:=(act ⟨sz,ds,none⟩ F).tmps,params:=#[p],assign,body,defers:=w.heap.size}:=⟨_,O⟩
 obtain⟨W1,va⟩:∃W1,(w.alloc (.deferred (some []))).alloc (.loop (rec .ready none))=W1:=⟨_,O⟩;have qy:W1.heap[w.heap.size+1]? =some (.loop (rec .ready none)):=by
  exact P8
 have q2:W1.heap[w.heap.size]? =some (.deferred (some [])):=by
  exact P5
 have qt:ax [] w W1:=by
  exact PU
 have hh:W1.heap.size=w.heap.size+2:=by rw[←va];simp
 have ti:mw _ w W1:=⟨qt.os,qt.tape,qt.output,qt.size,fun k hk=>qt.block k hk O4⟩
 refine⟨w.heap.size+1,[{target:=.collected w.heap.size,args:=#[]}],W1,{target:=.fn (.func gf) lb.toArray,args:=#[.func (.yield (w.heap.size+1)) #[] #[]]},W1,gf,
  #[.func (.yield (w.heap.size+1)) #[] #[]]++lb.toArray,W1,?_,?_,fun _ _=>trivial,?_,fun h=>(by cases h),?_⟩
 ·exact P1
 ·exact PX
 ·exact P7
 have hc:=Bk W1 qt hh (w.heap.size+1) (fun W=>I W∧W.heap[w.heap.size+1]? =some _∧W.heap[w.heap.size]? =some _)
  (fun W=>∃x,Z x W∧W.heap[w.heap.size+1]? =some (.loop (rec .done (some .ret)))∧W.heap[w.heap.size]? =some (.deferred (some []))) O1 (fun a v hc e=>by simp[World.cell?,e,qy] at hc) ?_ ?_ ⟨hI _ _ h0 ti,qy,q2⟩
 ·have e:(#[.func (.yield (w.heap.size+1)) #[] #[]]++lb.toArray)=(.func (.yield (w.heap.size+1)) #[] #[]::lb).toArray:=O4;rw[e];refine pV.2 (Ns hc ?_);rintro e W2 ⟨v,rfl,h⟩;cases b with
  |false=>
   obtain⟨hi,hl,hk⟩:I W2∧W2.heap[w.heap.size+1]? =some _∧W2.heap[w.heap.size]? =some _:=h;exact⟨none,_,by have:=run_endLoop (P:=P) hl O6;rw[qs] at this;omega,q1 _ _ O1 O (hI _ _ hi (mw.put _ _ O1)) ((World.putObj_heap_other O1).trans hk)⟩
  |true=>
   obtain⟨x,hz,hl,hk⟩:∃x,Z x W2∧W2.heap[w.heap.size+1]? =some _∧W2.heap[w.heap.size]? =some _:=h;exact⟨some _,_,by have:=run_endLoop (P:=P) hl O6;rw[qs] at this;omega,wpIn_ret (hj _ x _ O1 O (hZ x _ _ _ _ O1 hz hl) ((World.putObj_heap_other O1).trans hk))⟩
 ·rintro x W ⟨hi,hl,hk⟩ hX;have ha:=(aM.1 hl).1;have hy:=run_yield (P:=P) (args:=#[enc x]) hl O6;rw[qs] at hy;rw[←qs] at hy;have aa:((#[p]).zip #[enc x]).foldl (fun tmps (t,a)=>tmps.setIfInBounds t a) (act ⟨sz,ds,none⟩ F).tmps=(act ⟨sz,[],some (w.heap.size+1)⟩ (F.put p (enc x))).tmps:=by
   exact mDo
  refine⟨fn,_,assign,body,by rw[qs] at hy;exact hy,?_⟩;rw[aa];refine roundIn_of_wpIn rb (lA (q7 _ x W) ?_);rintro e a1 w1 ⟨F',rfl,rfl,rfl,rfl⟩;refine⟨_,run_beginRound hl (by rw[qs]),?_⟩;obtain⟨W2,qu⟩:∃W2,W2=w1.putObj (w.heap.size+1) (.loop {rec .ready none with state:=.busy}):=⟨_,O⟩;have qq:W2.heap[w.heap.size+1]? =some (.loop {rec .ready none with state:=.busy}):=by rw[qu];exact World.putObj_heap_same ha
  have zw:W2.heap[w.heap.size]? =some (.deferred (some [])):=by rw[qu];exact(World.putObj_heap_other O1).trans hk
  have ac:I W2:=by rw[qu];exact hI _ _ hi (mw.put _ _ O1)
  have qv:ax [w.heap.size+1] w1 W2:=by rw[qu];exact yR _ _ _
  rw[←qu];refine lA (q3 _ x W1 W2 w1 qt ac hX (pd.of qv fun a v hc e=>by simp[World.cell?,e,hl] at hc) qv.size) ?_;rintro e a3 W3 ⟨F3,rfl,rfl,hn,zx⟩;have tv:=(aM.1 qq).1;have qx:=(zx.block _ tv (fun hm=>O6)).trans qq;have yr:=(zx.block _ O1 (fun hm=>O6)).trans zw;have hr:=run_endRound (P:=P) (some .ret) qx;refine⟨_,_,hr,O,⟨x,hZ x _ _ _ _ O1 hn qx,?_,(World.putObj_heap_other O1).trans yr⟩,?_⟩
  ·exact PW
  refine⟨bF qv.size (bF zx.size O4),fun k hb hk _=>?_⟩;exact(World.putObj_heap_other O1).trans ((zx.block k (dK hk qv.size) (fun hm=>O6)).trans (qv.block k hk O6))
 rintro W W' ⟨hi,hl,hk⟩ hp;exact⟨hI _ _ hi (hp.mono O1),(hp.block _ O1).trans hl,(hp.block _ O1).trans hk⟩
attribute [local irreducible] PV gx kq kn WP km Fit
def jY5(ops:Array Oper):Bool:=
 let z:=Array.replicate 5 false
 let r:=Region.ready .any ops
 decide (r z=[0,1])&&decide (r (z.setIfInBounds 0 true)=[1])&&decide (r (z.setIfInBounds 1 true)=[0,2])&&decide (r ((z.setIfInBounds 0 true).setIfInBounds 1 true)=[2])&&
 decide (r ((z.setIfInBounds 1 true).setIfInBounds 0 true)=[2])&&decide (r ((z.setIfInBounds 1 true).setIfInBounds 2 true)=[0])&&
 decide (r (((z.setIfInBounds 0 true).setIfInBounds 1 true).setIfInBounds 2 true)=[3])&&decide (r (((z.setIfInBounds 1 true).setIfInBounds 0 true).setIfInBounds 2 true)=[3])&&decide (r (((z.setIfInBounds 1 true).setIfInBounds 2 true).setIfInBounds 0 true)=[3])&&
 decide (r ((((z.setIfInBounds 0 true).setIfInBounds 1 true).setIfInBounds 2 true).setIfInBounds 3 true)=[4])&&decide (r ((((z.setIfInBounds 1 true).setIfInBounds 0 true).setIfInBounds 2 true).setIfInBounds 3 true)=[4])&&decide (r ((((z.setIfInBounds 1 true).setIfInBounds 2 true).setIfInBounds 0 true).setIfInBounds 3 true)=[4])&&
 decide (r (((((z.setIfInBounds 0 true).setIfInBounds 1 true).setIfInBounds 2 true).setIfInBounds 3 true).setIfInBounds 4 true)=[])&&decide (r (((((z.setIfInBounds 1 true).setIfInBounds 0 true).setIfInBounds 2 true).setIfInBounds 3 true).setIfInBounds 4 true)=[])&&decide (r (((((z.setIfInBounds 1 true).setIfInBounds 2 true).setIfInBounds 0 true).setIfInBounds 3 true).setIfInBounds 4 true)=[])
section
variable{Q:Exit→Fr→World→Prop}
theorem B0.mono{ops i K K'}(h:B0 P n ops i K Q F w)(hk:∀F w,K F w→K' F w):B0 P n ops i K' Q F w:=by
 refine wpOpIn_mono ?_ h;grind
theorem zGt{id:Nat}(K:Fr→World→Prop)(hm:P.follows .mixedOrders=true)(hc:jY5 l.toArray=true)(hl:l.length=5)
  (h1:B0 P n l.toArray 0 (fun F w=>B0 P n l.toArray 1 (fun F w=>B0 P n l.toArray 2 K Q F w) Q F w) Q F w.drew)
  (h2:B0 P n l.toArray 1 (fun F w=>B0 P n l.toArray 0 (fun F w=>B0 P n l.toArray 2 K Q F w) Q F w∧B0 P n l.toArray 2 (fun F w=>B0 P n l.toArray 0 K Q F w) Q F w) Q F w.drew)
  (hK:∀F w,K F w→B0 P n l.toArray 3 (fun F w=>B0 P n l.toArray 4 (fun F w=>Q .normal F w) Q F w) Q F w):WP P n (.region id l.toArray true) Q F w:=by
 simp[jY5,aJ,dV] at hc;have⟨⟨⟨⟨⟨⟨⟨⟨⟨⟨⟨⟨⟨⟨c1,c2⟩,c3⟩,c4⟩,c5⟩,c6⟩,c7⟩,c8⟩,c9⟩,p1⟩,p0⟩,Bz⟩,Aw⟩,ca⟩,Ik⟩:=hc;refine jU5 5 hl hm (Yh 0 1 c1 ?_ ?_)
 ·refine h1.mono fun F w h=>Gs 1 c2 (h.mono fun F w h=>Gs 2 c4 (h.mono fun F w h=>Gs 3 c7 ((hK _ _ h).mono fun F w h=>Gs 4 p1 (h.mono fun F w h=>R1 Aw h))))
 refine h2.mono fun F w h=>Yh 0 2 c3 (h.1.mono fun F w h=>Gs 2 c5 (h.mono fun F w h=>Gs 3 c8 ((hK _ _ h).mono fun F w h=>Gs 4 p0 (h.mono fun F w h=>R1 ca h))))
  (h.2.mono fun F w h=>Gs 0 c6 (h.mono fun F w h=>Gs 3 c9 ((hK _ _ h).mono fun F w h=>Gs 4 Bz (h.mono fun F w h=>R1 Ik h))))
end
variable{b c o:Nat}
section
abbrev MJ:=Option Addr×Nat×List Nat
def GB(x:MJ):Value:=.slice x.1 x.2.2.length x.2.1
theorem jCj{l:List α}(h:kg none c l):l=[]:=by
 rcases h with⟨_,e⟩|⟨_,_,e,_⟩
 ·grind
 cases e
theorem jCi{l:List α}(h:kg (some ⟨b,o,none⟩) c l):o=0:=by
 rcases h with⟨e,_⟩|⟨_,_,e,_⟩
 ·cases e
 grind
theorem jAy{s b}(h:CO f s b=true):∃t,f.k4 s b=some t∧Cs f t=true:=by
 unfold CO at h;grind
structure G4(b9 b6 sob vb:Nat)(l9 l6:List Value)(vs vv:Value)(w:World):Prop where
 c9:∀(j:Nat) (v:Value),l9[j]? =some v→w.cell? ⟨b9,0+j,none⟩=some v
 c6:∀(j:Nat) (v:Value),l6[j]? =some v→w.cell? ⟨b6,0+j,none⟩=some v
 cs:w.cell? ⟨sob,0,none⟩=some vs
 cv:w.cell? ⟨vb,0,none⟩=some vv
theorem G4.kb{b9 b6 sa vb l9 l6 vs vv B}(h:G4 b9 b6 sa vb l9 l6 vs vv w)(hk:KB B M w w')(h9:B≤b9)(h6:B≤b6)(hs:B≤sa)(hv:B≤vb)
  (m9:b9∉M) (m6:b6∉M) (ms:sa∉M) (mv:vb∉M):G4 b9 b6 sa vb l9 l6 vs vv w':=
 ⟨fun j v e=>hk.cell (h.c9 j v e) h9 m9,fun j v e=>hk.cell (h.c6 j v e) h6 m6,hk.cell h.cs hs ms,hk.cell h.cv hv mv⟩
structure XP(B:Nat)(C:List Nat→Prop)(x:MJ)(W:World):Prop where
 c:C x.2.2
 sv:kg x.1 x.2.1 x.2.2
 sl:ig W 1 eN x.1 x.2.2
 hi:∀b o,x.1=some ⟨b,o,none⟩→B≤b
attribute [local irreducible] B0
theorem zAz(a:Hm)(d:DW)(f:Q)(yb fb sa vb kb mp l B:Nat)(W0:World)(C:List Nat→Prop)(Z:World→Prop)(hS:AI a d f W0)(hB:B≤W0.heap.size)(hD:B≤mp)(xo:∀(x:Addr) (v:Value),W0.cell? x=some v→x.block≠mp)
  (cy:W0.cell? ⟨yb,0,none⟩=some (.func (.yield l) #[] #[])) (cf:W0.cell? ⟨fb,0,none⟩=some (.pointer (some ⟨a.sb,0,none⟩)))
  (cs:W0.cell? ⟨sa,0,none⟩=some (.func (.func 225) #[] #[.pointer (Ad kb),.pointer (Ad fb),.pointer (Ad sa)])) (ck:W0.cell? ⟨kb,0,none⟩=some (.map (some mp)))
  (hQ:B≤sa) (e0:B≤vb)
  (cv:W0.cell? ⟨vb,0,none⟩=some (.func (.func 227) #[] #[.pointer (Ad yb),.pointer (Ad fb),.pointer (Ad sa),.pointer (Ad vb)])):
  ∀(n:Nat) (s:wj) (g:EK→Option Value) (pre:List Nat) (sc:Option Addr) (c:Nat) (W:World),f.N-s.next=n→SI f s→ax [mp] W0 W→(∀k∈zG [qG eN 3 1 sc c pre],W0.heap.size≤k)→AJ f g→(∀T,f.Cmp s T→C (pre++T))→pre.length≤s.next→kg sc c pre→
  Hp W (zG [qG eN 3 1 sc c pre,zV Bx mp g]) W [qG eN 3 1 sc c pre,zV Bx mp g]→
  (∀x W1,mw B W W1→XP B C x W1→YieldAt Fence.wide 0 prog l #[GB x] W1 fun e W'=>e= .returned (.bool false)∧Z W'∧KB B [] W1 W')→
  Rt 227 [.agg (kj (Am s)).toArray,.slice sc pre.length c,.pointer (Ad yb),.pointer (Ad fb),.pointer (Ad sa),.pointer (Ad vb)] W
   (fun v w'=>v= .bool (!Cs f s)∧KB B (zG [qG eN 3 1 sc c pre,zV Bx mp g]) W w'∧if Cs f s then Z w' else mw B W w'):=by
 intro n;induction n using Nat.strongRecOn with
 |_ n ih=>
 intro s g pre sc c W hn hI rn nh hg hC xv hv hp hY;have h14:(kj (Am s)).length=14:=by rw[vC];simp[Am,hI.c]
 have hN:=hS.lN;obtain⟨M,hM⟩:∃M,M=zG [qG eN 3 1 sc c pre,zV Bx mp g]:=⟨_,O⟩;have xl:∀k∈M,_∨_:=fun k hk=>by
  rw[hM] at hk;have⟨p,hp',hb⟩:=xX.1 hk;rcases aP.1 hp' with rfl|hp'
  ·exact .inr (nh k (xX.2 ⟨_,O4,hb⟩))
  obtain rfl:=gT.1 hp';exact .inl (lI hb).symm
 have xq:=bF hB rn.size;rw[←hM] at hp⊢
 have xj:∀{w':World} {L:List _},Hp W M w' L→ax _ W0 w':=fun h=>rn.trans h.keeps (fun k hk=>by
  grind)
 have kc:∀{w':World} {L:List _},Hp W M w' L→pd W0 w':=fun h=>pd.of (xj h) xo
 have xb:∀{w':World} {L:List _},Hp W M w' L→mw B W w':=fun h=>mw.of h.keeps (fun k hk=>O6) xq
 refine km.j6 func227 O ntmps227 O (qR ?_);refine tF (kW (cs:=kj _) hp O O h14) fun w1 b6 hp=>?_;have hp:Hp W M w1 [bu b6 14 _ 293,_,_]:=hp;refine tI (fun h=>?_) fun h=>?_
 ·have h0:s.left=0:=O1;have hh:=qP3 hI.ok h0;rw[hh];refine qR ?_;have hp:=hp.U;have hV:=kc hp;have bz:=qZ hp 1 O hv (fun _=>O);have hF:Rt 159 [.slice sc pre.length c] w1.drew (fun v w'=>∃x:MJ,v=GB x∧XP B C x w'∧ax [] w1.drew w'):=by
   have:=Qf _ sc c w1.drew (fun i x hx=>by rw[bH] at hx;obtain⟨y,hy,rfl⟩:=Option.map_eq_some_iff.1 hx;exact bz i y hy) (by rw[aH];have:=hI.n;omega) (fun e=>by
    subst e;rw[jCj hv]
    rfl)
   rw[aH] at this;refine this.mono ?_;rintro v w' ⟨s',c',rfl,hj,hp'⟩;rw[LS] at hp';have xi:kg s' c' pre:=jZ hj O4;refine⟨(s',c',pre),O,⟨by have:=hC [] (hI.ok.td.fin h0);grind,xi,qZ hp' 0 O xi (fun _=>O),fun b o e=>?_⟩,hp'.Z⟩;have e:s'=some ⟨b,o,none⟩:=e;subst e;obtain rfl:=jCi xi;have:=hp'.p6 (i:=0) (b:=b) O;have:=hp.Z.size;omega
  refine zGt (fun F' w2=>F' 16= .func (.yield l) #[] #[]∧∃x:MJ,F' 18=GB x∧XP B C x w2∧ax [] w1.drew w2) jG O3 O ?_ ?_ ?_
  ·refine KR O (qS O O (hV _ _ cy)) (KR O qP ?_);refine Qi O (qC O SU O hF) ?_;exact mEt
  ·refine KR O qP ⟨?_,?_⟩
   ·refine KR O (qS O O (hV _ _ cy)) (Qi O (qC O SU O hF) ?_);exact mEt
   refine Qi O (qC O SU O hF) ?_;rintro _ w2 ⟨x,rfl,hx,hk⟩;exact KR O (qS O O (kc (hp.V hk) _ _ cy)) ⟨O,x,O,hx,hk⟩
  rintro F' w2 ⟨eb,x,ec,hx,hk⟩;have zo:=hp.V hk;refine zCw O eb (aK (fun v=>[v]) ec) (hY x w2 (xb zo) hx) ?_;rintro e w3 ⟨rfl,hz,h7⟩;refine⟨_,O,KR O qY (qR ?_)⟩;exact qM O O ⟨_,O,O,(KB.of zo.Z).trans h7 O4,hz⟩
 have h0:0<s.left:=O1;have ha:=hI.ok.lt h0;have hL:∀k,s.cs.getD k 0≤39:=fun k=>by have:=hI.b k;omega
 have hV:=kc hp;refine qR (ke (qS O O (hV _ _ cf)) O ?_);refine ke (qL O O O h14 (hp.i6 0 O h14)) O (tK (KS a d f s _ _ (hS.k8 hV) hI.aA9 hL ha h0) ?_);rintro v w4 ⟨xg,vz⟩;have hp:=hp.V vz;obtain⟨lt,dr,rfl,qq⟩:=I2 xg (fun t ht=>(hI.k4 hN h0 ht).1.c);have h3:(kj lt).length=14:=by rw[vC];exact dr
 refine qA (tF (zE (cs:=kj (replicate 14 0)) (m:=14) hp (qJ O) O O) fun w5 b9 hp=>?_);refine tO (zH (cs:=kj lt) hp 0 O O O O (by rw[h3];exact qD O) (by rw[h3];rfl) (vY _)) fun w6 hp=>?_;have hp:=hp.I 0 _ O (yJ _ _ h3);have hp:Hp W M w6 [bu b9 14 _ 293,_,_,_]:=hp;refine qA ?_;have notM:∀(x:Addr) (v:Value),_=_→x.block∉M:=fun x v hx hm=>by
  rcases xl _ hm with e|e
  ·exact xo x v hx e
  have:=iL W0 x hx;omega
 have fresh:∀{w':World} {L:List _},Hp W M w' L→∀(i:Nat) (b:Nat) (p:kr),_=_→p.1=_→b∉M→_≤b:=fun h i b p hi hb hm=>by
  rcases h.own i p hi b hb with e|e
  ·exact e
  grind
 have m9:b9∉M:=by rw[hM];exact Hp.u9 (A:=[bu b9 14 (qE (kj lt)) 293,bu b6 14 (qE (kj (Am s))) 293]) (B:=[qG eN 3 1 sc c pre,zV Bx mp g]) hp (p:=bu b9 14 (qE (kj lt)) 293) O4 O
 have m6:b6∉M:=by rw[hM];exact Hp.u9 (A:=[bu b9 14 (qE (kj lt)) 293,bu b6 14 (qE (kj (Am s))) 293]) (B:=[qG eN 3 1 sc c pre,zV Bx mp g]) hp (p:=bu b6 14 (qE (kj (Am s))) 293) O4 O
 have h9:=fresh hp 0 b9 _ O O m9;have h6:=fresh hp 1 b6 _ O O m6;refine qR ?_;have hp:=hp.U;have hJ:=kc hp;have xd:∀k,k∈[mp]→k∈M:=fun k hk=>by
  rw[hM];obtain rfl:=gT.1 hk;exact xX.2 ⟨zV Bx k g,O4,O⟩
 have hG:G4 b9 b6 _ vb _ _ _ _ _:=
  ⟨hp.i6 0 O h3,hp.i6 1 O h14,hJ _ _ cs,hJ _ _ cv⟩
 have gb:∀{w1 w2:World} {K:List Nat},G4 b9 b6 _ vb (kj lt) (kj (Am s)) _ _ w1→KB B K w1 w2→b9∉K→b6∉K→sa∉K→vb∉K→G4 b9 b6 _ vb _ _ (.func (.func 225) #[] #[.pointer (Ad kb),.pointer (Ad fb),.pointer (Ad sa)]) (.func (.func 227) #[] #[.pointer (Ad yb),.pointer (Ad fb),.pointer (Ad sa),.pointer (Ad vb)]) w2:=
  fun h hk a1 a2 a3 a4=>h.kb hk O1 O1 hQ e0 a1 a2 a3 a4
 have gd:∀{w1 w2:World},G4 b9 b6 _ vb _ _ _ _ w1→ax _ w1 w2→G4 b9 b6 _ vb _ _ _ _ w2:=
  fun h hk=>gb h (KB.of hk) (fun e=>m9 (xd _ e)) (fun e=>m6 (xd _ e)) (fun e=>notM _ _ cs (xd _ e)) (fun e=>notM _ _ cv (xd _ e))
 cases hoT:CO f s true with
 |true=>
  have⟨t,ho,hP⟩:=jAy hoT;have⟨hK,hH⟩:=hI.k4 hN h0 ho;obtain rfl:=qq t ho;have hh:Cs f s=true:=by rw[To hI.ok h0,hoT];rfl
  rw[hh];rw[ho];refine jW jG O3 _ hG (xA ?_);apply yG;rfl;rfl;rfl;intro w' hk;exact qS O O hk.cs;rfl;apply yG;rfl;rfl;rfl;intro w' hk;exact qL O O O h3 hk.c9;rfl;have h4:=Hp.k6 (A:=[_,_,_]) hp;refine tK (U5 a d f kb fb _ mp _ t g _ O hK (hS.k8 hJ) (hJ _ _ ck) (hJ _ _ cf) (hJ _ _ cs) hg h4) ?_;rintro _ w7 ⟨rfl,g2,ee,zo⟩;have hp:=Hp.back (A:=[_,_,_]) hp zo;have hp:Hp W M w7 [_,_,_,_]:=hp;have hZ:=gd hG zo.Z;refine⟨hZ,?_⟩;rw[hP];refine xA ?_;apply yG;rfl;rfl;rfl;intro w' hk;exact qS O O hk.cv;rfl;apply yG;rfl;rfl;rfl;intro w' hk;exact qL O O O h3 hk.c9;rfl;refine xA ?_;apply yG;rfl;rfl;rfl;intro w' hk;exact qS O O (hk.c6 0 _ O);rfl;apply yG;rfl;rfl;rfl;intro w' hk;exact zX O O O;exact qF (qK O1 O1);apply LX;rfl;rfl;rfl;exact jC (cs:=[.int _ s.next]) hp O O O O O O O;rintro _ w8 ⟨bs,rfl,hp⟩;have hp:Hp W M w8 [bu bs 1 _ 3,_,_,_,_]:=hp;refine⟨⟨hp.i6 1 O h3,hp.i6 2 O h14,kc hp _ _ cs,kc hp _ _ cv⟩,?_⟩;apply LX;rfl;rfl;rfl;exact jV eN _ _ hp 3 0 O O O O O O (fun _=>O) O O O hv O O O1;rintro _ w9 ⟨s',c',rfl,hj,hp⟩;have hp:Hp W M w9 [_,_,_,_,_]:=hp;have xn:G4 b9 b6 _ vb _ _ _ _ w9:=⟨hp.i6 1 O h3,hp.i6 2 O h14,kc hp _ _ cs,kc hp _ _ cv⟩;refine⟨xn,?_⟩;have h4:=Hp.k6 (A:=[_,_,_]) hp;have xe:∀k∈zG _,_∨_:=fun k hk=>by
   obtain⟨p,hp',hb⟩:=xX.1 hk;exact hp.q0 (aQ [_,_,_] hp') k hb
  have a9:=Hp.u9 (A:=[_,_,_]) hp (p:=bu b9 14 (qE (kj (Am t))) 293) O4 O;have a6:=Hp.u9 (A:=[_,_,_]) hp (p:=bu b6 14 (qE (kj (Am s))) 293) O4 O;have aW:∀(x:Addr) (v:Value),W0.cell? x=some v→x.block∉zG [qG eN 3 1 s' c' (pre++[s.next]),zV Bx mp g2]:=fun x v hx hk=>by
   rcases xe _ hk with e|e
   ·have:=iL W0 x hx;have:=rn.size;omega
   grind
  have xr:∀k∈zG [qG eN 3 1 s' c' (pre++[s.next])],W0.heap.size≤k:=fun k hk=>by
   have⟨p,hp',hb⟩:=xX.1 hk;obtain rfl:=gT.1 hp';have zw:k∈zG [qG eN 3 1 s' c' (pre++[s.next]),zV Bx mp g2]:=xX.2 ⟨_,O4,hb⟩;rcases xe k zw with e|e
   ·exact bF rn.size e
   rcases xl k e with e|e
   ·subst e;exact absurd O (hp.dis 3 4 _ _ O O O2 k hb)
   exact e
  have⟨s1,s2,s3,s4,s5⟩:=wW hI.ok h0 ho;have xh:∀T,f.Cmp t T→C ((pre++[_])++T):=fun T hT=>by
   have:=hC _ (by simpa using(s5 T).1 hT);exact DT
  refine tK (ih _ O1 t g2 _ s' c' w9 O hK (xj hp) xr ee xh (by simp;omega) hj h4 (fun x W1 hq hx=>hY x W1 ((xb hp).trans hq) hx)) ?_;rintro _ uy ⟨rfl,h7,hz⟩;rw[hP] at hz⊢;refine⟨gb xn h7 a9 a6 (aW _ _ cs) (aW _ _ cv),xA (qU ?_)⟩;refine jB O ?_;refine qA ?_
  exact qM O O ⟨_,O,O,(KB.of hp.Z).trans h7 (fun k hk hl=>by
   grind),hz⟩
 |false=>
  refine EV (fun F' w'=>∃g2,AJ f g2∧CH F' [(1,.slice sc pre.length c),(3,.pointer (Ad fb)),(4,.pointer (Ad sa)),(5,.pointer (Ad vb)),(6,.pointer (Ad b6)),(43,.bool false)]∧
   Hp W M w' [bu b9 14 (qE (kj lt)) 293,bu b6 14 (qE (kj (Am s))) 293,qG eN 3 1 sc c pre,zV Bx mp g2]) ?_ ?_
  ·refine jW jG O3 _ hG ?_;cases ho:f.k4 s true with
   |none=>
    refine xA (ER O O O O hG ?_);refine xA (ER O O O O hG ?_);refine ER O O O O hG (ER O O O O hG ?_);refine xA (qU ?_);exact⟨g,hg,⟨O,O,O,O,O,O,trivial⟩,hp⟩
   |some t=>
    have⟨hK,hH⟩:=hI.k4 hN h0 ho;obtain rfl:=qq t ho;have hP:Cs f t=false:=by
     unfold CO at hoT;rw[ho] at hoT;exact hoT
    refine xA ?_;apply yG;rfl;rfl;rfl;intro w' hk;exact qS O O hk.cs;rfl;apply yG;rfl;rfl;rfl;intro w' hk;exact qL O O O h3 hk.c9;rfl;have h4:=Hp.k6 (A:=[_,_,_]) hp;refine tK (U5 a d f kb fb _ mp _ t g _ O hK (hS.k8 hJ) (hJ _ _ ck) (hJ _ _ cf) (hJ _ _ cs) hg h4) ?_;rintro _ w7 ⟨rfl,g2,ee,zo⟩;have hp:=Hp.back (A:=[_,_,_]) hp zo;have hZ:=gd hG zo.Z;refine⟨hZ,?_⟩;rw[hP];refine xA (ER O O O O hZ ?_);refine ER O O O O hZ (ER O O O O hZ ?_);refine xA (qU ?_);exact⟨g2,ee,⟨O,O,O,O,O,O,trivial⟩,hp⟩
  clear hp hG gd gb h9 h6 m9 m6 hJ qq;rintro F' w7 ⟨g2,ee,xu,hp⟩;refine yL _ xu fun F0=>?_
  clear xu;have hp:=hp.E;refine qR (qN O ?_);have xk:=kc hp;refine qR (ke (qS O O (xk _ _ cf)) O ?_);refine ke (qL O O O h14 (hp.i6 0 O h14)) O (tK (KS a d f s _ _ (hS.k8 xk) hI.aA9 hL ha h0) ?_);rintro v w8 ⟨hU,h5⟩;have hp:=hp.V h5;obtain⟨lf,hE,rfl,h8⟩:=I2 hU (fun t ht=>(hI.k4 hN h0 ht).1.c);have hX:(kj lf).length=14:=by rw[vC];exact hE
  refine qA (tF (zE (cs:=kj (replicate 14 0)) (m:=14) hp (qJ O) O O) fun w9 be hp=>?_);refine tO (zH (cs:=kj lf) hp 0 O O O O (by rw[hX];exact qD O) (by rw[hX];rfl) (vY _)) fun uy hp=>?_;have hp:=hp.I 0 _ O (yJ _ _ hX);have hp:Hp W M _ [bu _ 14 _ 293,_,_,_]:=hp;refine qA ?_;have xc:=kc hp;have hh:Cs f s=CO f s false:=by rw[To hI.ok h0,hoT];rfl
  rw[hh];cases ho:f.k4 s false with
  |none=>
   have e:CO f s false=false:=by
    unfold CO;rw[ho]
   rw[e];exact mEm
  |some t=>
   have⟨hK,hH⟩:=hI.k4 hN h0 ho;obtain rfl:=h8 t ho;have e:CO f s false=Cs f t:=by
    unfold CO;rw[ho]
   rw[e];refine jL ?_;apply vX;rfl;rfl;exact qS O O (xc _ _ cs);rfl;apply vX;rfl;rfl;exact qL O O O hX (hp.i6 0 O hX);rfl;have h4:=Hp.k6 (A:=[_,_,_]) hp;refine tK (U5 a d f kb fb _ mp _ t g2 _ O hK (hS.k8 xc) (xc _ _ ck) (xc _ _ cf) (xc _ _ cs) ee h4) ?_;rintro _ uz ⟨rfl,g3,xf,zo⟩;have hp:=Hp.back (A:=[_,_,_]) hp zo;have hp:Hp W M _ [_,_,_,_]:=hp;cases hP:Cs f t with
   |false=>
    exact mEm
   |true=>
    refine jL (jB O ?_);have xp:=kc hp;refine qR (ke (qS O O (xp _ _ cv)) O ?_);refine ke (qL O O O hX (hp.i6 0 O hX)) O (jM ?_);have h4:=Hp.k6 (A:=[_,_]) hp;have xe:zG [qG eN 3 1 sc c pre,zV Bx mp g3]=M:=by rw[hM];rfl
    have⟨s1,s2,s3,s4,s5⟩:=wW hI.ok h0 ho;refine tK (ih _ O1 t g3 _ sc c _ O hK (xj hp) nh xf (fun T hT=>hC T ((by simpa using(s5 T).1 hT:_∧_).1)) O1 hv h4 (fun x W1 hq hx=>hY x W1 ((xb hp).trans hq) hx)) ?_;rintro _ u0 ⟨rfl,h7,hz⟩;rw[hP] at hz⊢;rw[xe] at h7;refine qA ?_;exact qM O O ⟨_,O,O,(KB.of hp.Z).trans h7 (fun k hk _=>hk),hz⟩
end
variable{G:World→Prop}{st:Bool}
section
variable{Q:Exit→Fr→World→Prop}{rest:List Nat}
theorem jUw(k m:Nat)(he:zC (jA ops i).op=true)(hf:FI ops i rest=[k,m])(hn:Nat.beq ((i::rest).filter (· !=i)).length rest.length=true)(dq:Nat.beq ((i::rest).filter (· !=k)).length rest.length=true)(ld:Nat.beq ((i::rest).filter (· !=m)).length rest.length=true)
  (h:DN P n ops st G i ((i::rest).filter (· !=i)) Q F w) (h2:DN P n ops st G k ((i::rest).filter (· !=k)) Q F w) (h3:DN P n ops st G m ((i::rest).filter (· !=m)) Q F w):CE P n ops st G (i::rest) Q F w:=by
 unfold CE;simp only[cF,Be];rw[if_pos he,hf];intro x hx;have:=by simpa using hx
 rcases this with rfl|rfl|rfl
 ·exact Uu
 ·unfold DN at h2;rw[bV dq] at h2;exact h2
 unfold DN at h3;rw[bV ld] at h3;exact h3
end
def As(g:Value→Prop)(w w':World):Prop:=∀(x:Addr) (v:Value),g v→w.cell? x=some v→w'.cell? x=some v
theorem jC1{Q l0}(l1:List Nat)(R:Fr→World→Prop)(hl:∀F w,R F w→CE P n ops st G l1 Q F w)(h:(∀F w,R F w→CE P n ops st G l1 Q F w)→CE P n ops st G l0 Q F w):CE P n ops st G l0 Q F w:=h hl
theorem I9{L}(hp:Hp w0 M w L)(i:Nat){b m t f}(hi:L[i]? =some (bu b m f t)){x v}(hx:w.cell? x=some v)(hb:x.block=b):∃j,j<m∧v=f j:=by
 obtain⟨o,ho,rfl⟩:=hp.N i _ hi b O;rw[←hb] at ho;simp only[World.cell?,ho] at hx;split at hx
 ·cases hx
 have⟨hl,e⟩:=aM.1 hx;refine⟨_,by simpa using hl,?_⟩;rw[←e];simp
theorem As.of{g}(hk:ax [m] w w')(hm:∀(x:Addr) (v:Value),w.cell? x=some v→x.block=m→¬g v):As g w w':=fun x v hg h=>hk.cell h (by
 grind)
theorem As.o4{g}{enc:α→List Value}{l}(h:As g w w')(hg:∀x,∀v∈enc x,g v)(hs:ig w k enc s l):ig w' k enc s l:=fun i x hx=>by
 have⟨b,o,e,hc⟩:=hs i x hx;exact⟨b,o,e,fun j v hv=>h _ _ (hg x v (aG hv)) (hc j v hv)⟩
variable{l:List EW}
def gV:Value→Prop
 | .slice _ _ _=>True
 | .bool _=>True
 | .string _=>True
 | .int .i64 _=>True
 |_=>False
theorem AI.x9{a d}(h:AI a d f w)(hk:As gV w w'):AI a d f w':=
 ⟨hk _ _ trivial h.h0,hk _ _ trivial h.h1,hk _ _ trivial h.h2,hk.o4 (by intro x v hv;simp[DU] at hv;rcases hv with rfl|rfl|rfl<;>trivial) h.q,hk.o4 (by intro x v hv;simp[jO] at hv;subst hv;trivial) h.hI,
  fun i hi=>hk.o4 (by intro x v hv;simp[Ay] at hv;subst hv;trivial) (h.rI i hi),hk.o4 (by intro x v hv;simp[jO] at hv;subst hv;trivial) h.hR,fun i hi=>hk.o4 (by intro x v hv;simp[eI] at hv;subst hv;trivial) (h.rR i hi),h.fq,h.lq,h.lN⟩
structure Hs(f:Q)(d:DW)(a:Hm)(pa:Option Addr)(lst:List Int)(ot:Option wj)(w:World):Prop where
 len:lst.length=14
 yes:∀t,ot=some t→pa=some ⟨a.sb,0,none⟩∧lst=Am t∧f.tidy (Bu d)=some t∧AI a d f w
 no:ot=none→∀T,¬f.Cmp (Bu d) T
theorem Hs.j1{f d a pa la ot w w'}(h:Hs f d a pa la ot w)(hk:ax [] w w'):Hs f d a pa la ot w':=
 ⟨h.len,fun t ht=>let⟨a,b,c,d⟩:=h.yes t ht;⟨a,b,c,d.j1 hk⟩,h.no⟩
theorem Hs.x9{f d a pa la ot w w'}(h:Hs f d a pa la ot w)(hk:As gV w w'):Hs f d a pa la ot w':=
 ⟨h.len,fun t ht=>let⟨a,b,c,d⟩:=h.yes t ht;⟨a,b,c,d.x9 hk⟩,h.no⟩
theorem jCv{d o t}(hq:d.Q.length≤12)(ho:o.length≤40)(hz:d.sz≤o.length)(h:(ku d l o).tidy (Bu d)=some t):SI (ku d l o) t∧∀T,(ku d l o).Cmp t T↔(ku d l o).Cmp (Bu d) T:=by
 have hl:(ku d l o).q.length≤(Bu d).cs.length:=by
  show(d.Q.map (·.2)).length≤12
  rw[aH];exact hq
 have⟨h1,h2,h3,h4,h5⟩:=wJ hl h;have hj:∀k,(Bu d).cs.getD k 0=0:=fun k=>by
  show(replicate 12 0).getD k 0=0
  grind
 refine⟨⟨?_,by rw[h3];rfl,by rw[h2];show d.sz.toNat≤40;omega,by rw[h1];exact bL _,fun k=>?_⟩,h5⟩
 ·exact⟨h4,Ti hl (fun k _=>.inr O6) h,by rw[h1];exact bL _⟩
 rw[h1];rcases jCe hl h k with e|e<;>rw[e]
 ·omega
 grind
open Classical in
noncomputable def HD(d:DW)(l:List EW)(o:List Nat):Bool:=decide (∃T,(ku d l o).Cmp (Bu d) T)
theorem SX{d o}:HD d l o=true↔∃T,(ku d l o).Cmp (Bu d) T:=by
 unfold HD;simp
theorem jKr{d o}(h:∀T,¬(ku d l o).Cmp (Bu d) T):HD d l o=false:=by
 rw[Bool.eq_false_iff];exact fun e=>let⟨T,hT⟩:=SX.1 e;h T hT
theorem jKq{d o t}(h:∀T,(ku d l o).Cmp t T↔(ku d l o).Cmp (Bu d) T):HD d l o=Cs (ku d l o) t:=by
 rw[iA,SX,OT];grind
theorem jFh:Instr.fill ((#[(0,1),(1,1),(2,12)]:Array (Nat×Nat))[·]?) (kj (replicate 14 0)).toArray []=some (kj (replicate 14 0)).toArray:=O
theorem jVq(d:DW)(s so:Option Addr)(c co m n:Nat)(W:World)(hz:0≤d.sz)(ik:(n:Int)<d.sz):
  Rk 223 [d.v,.slice s n c,.slice so m co] W (.tuple #[.pointer none,.agg (kj (replicate 14 0)).toArray,.bool false]):=by
 refine tW func223 ntmps223 fun hp=>?_;refine qR ?_;refine tQ fun w1 bd hp=>?_;refine ke qY (O:_=Value.pointer _) (tF (zE (cs:=kj (replicate 14 0)) (m:=14) hp (qJ O) O O) fun w2 b7 hp=>?_);have d1:decide (d.sz<0)=_:=aB O1;have d2:decide (d.sz>n)=_:=aD O1;refine jL ?_;rw[d1];refine jL ?_;rw[d2];refine jB O ?_;refine qR ?_;refine ke (Jg underlying293 (qJ O) O (fun w=>O3) (by rw[vH];exact jFh)) O (qA ?_);refine tO (zH (cs:=kj _) hp 0 O O O O (qD O) O (vY _)) fun w6 hp=>?_;refine qA ?_;exact⟨_,Mj O O O O O O O (hp.i6 0 O O),⟨_,O,O,hp.Z⟩⟩
theorem Fk(d:DW)(s so:Option Addr)(c co:Nat)(l:List EW)(o:List Nat)(W:World)(hD:DE d s l W)(ho:ig W 1 eN so o)(h7:o.length=l.length)(hF:∀x∈o,x<l.length)(hz:0≤d.sz):
  Rt 223 [d.v,.slice s l.length c,.slice so o.length co] W (fun v w'=>∃a pa la ot,v= .tuple #[.pointer pa,.agg (kj la).toArray,.bool ot.isSome]∧Hs (ku d l o) d a pa la ot w'∧ax [] W w'∧∀i,i<o.length→W.heap.size≤a.gi i):=by
 by_cases ik:d.sz≤l.length
 ·refine(zB0 d s so c co l o W hD ho h7 hF hz ik).mono ?_;rintro v w' ⟨a,la,rfl,h1,h2,h3,hk,p2⟩;exact⟨a,_,_,_,O,⟨h1,fun t ht=>⟨O,h2 t ht,ht,h3⟩,fun hn=>qIw (by show(d.Q.map (·.2)).length≤12;rw[aH];exact hD.lq) hn⟩,hk,p2⟩
 refine(jVq d s so c co _ _ W hz O1).mono ?_;rintro v w' ⟨rfl,hk⟩;refine⟨⟨0,none,0,_,0,0,fun _=>none,fun _=>0⟩,_,_,none,O,⟨O,fun t ht=>(by cases ht),fun _ T hT=>?_⟩,hk,fun _ _=>aS _⟩;have h1:=uK hT.srt hT.ge hT.lt;have h2:=hT.len;have h3:(Bu d).left=d.sz.toNat:=O;have h4:(ku d l o).N=o.length:=O;omega
theorem Ls(n:Nat)(W:World)(hn:n≤1000):
  Rt 224 [Iv (n:Int)] W (fun v w'=>∃b,v= .slice (Ad b) (range n).length n∧kg (Ad b) n (range n)∧Hp W [] w' [qG eN 3 1 (Ad b) n (range n)]):=by
 refine(jVp n W hn).mono ?_;rintro v w' ⟨b,rfl,hv,hp⟩;refine⟨b,O4,jZ hv (by rw[qT,cZ]),?_⟩;rw[show lm n _=(range n).map _ from O,LS] at hp;exact hp
theorem zBa(d:DW)(s:Option Addr)(n c:Nat)(W:World):
  Rt 161 [d.v,.slice s n c] W (fun v w'=>∃db lb,v= .func (.func 222) #[] #[.pointer (Ad db),.pointer (Ad lb)]∧Hp W [] w' [bu lb 1 (qE [.slice s n c]) 29,bu db 13 (qE d.L) 28]):=by
 refine tW func161 ntmps161 fun hp=>?_;refine qR ?_;refine tQ fun w1 db hp=>?_;refine tQ fun w2 lb hp=>?_;refine tV ?_;exact⟨_,O,_,_,O,hp⟩
theorem zB1(d:DW)(s:Option Addr)(c db lb:Nat)(l:List EW)(W:World)(hD:DE d s l W)(hd:∀(j:Nat) (v:Value),d.L[j]? =some v→W.cell? ⟨db,0+j,none⟩=some v)(hl:W.cell? ⟨lb,0,none⟩=some (.slice s l.length c))(ze:d.kd=3)(hz:0≤d.sz):
  ItS prog 222 [.pointer (Ad db),.pointer (Ad lb)] GB (fun x w=>XP W.heap.size (fun T=>(ku d l (range l.length)).Cmp (Bu d) T) x w) (HD d l (range l.length)) W:=by
 intro ll J Z rh an hY hJ ap;have ys:=hD.le;have hm:=hD.lq;refine tW func222 ntmps222 fun hp=>?_;refine qR ?_;refine tQ fun w1 b3 hp=>?_;have hp:Hp W [] w1 [bu b3 1 (qE [.func _ _ _]) 194]:=hp;have h1:=hp.Z;refine qR (ke (qL O O O O (fun j v e=>h1.cell (hd j v e) O4)) (O:_=d.v) ?_);refine ke (qS O O (h1.cell hl O4)) O (tK (U3 d s _ c _ hm ys) ?_);rintro _ w2 ⟨rfl,hk⟩;have hp:=hp.V hk;rw[aD ze];refine qA (qN O ?_);refine qR (EV (fun F' w'=>∃a pa la ot b4 b5,Hs (ku d l (range l.length)) d a pa la ot w'∧CH F' [(3,.pointer (Ad b3)),(4,.pointer (Ad b4)),(5,.pointer (Ad b5)),(6,.bool ot.isSome)]∧
   Hp W [] w' [bu b5 14 (qE (kj la)) 293,bu b4 1 (qE [.pointer pa]) 289,bu b3 1 (qE [.func (.yield ll) #[] #[]]) 194]) ?_ ?_)
 ·refine HU true (List.range' 0 15) jG O3 O (fun w'=>ax [] W w') hp.U.Z ?_;have hp:=hp.U;have h2:=hp.Z;apply C8;rfl;rfl;intro w' hk;exact qL O O O O (fun j v e=>hk.cell (hd j v e) O4);exact(O:_=d.v);apply C8;rfl;rfl;intro w' hk;exact qS O O (hk.cell hl O4);rfl;apply C8;rfl;rfl;intro w' hk;exact qS O O (hk.cell hl O4);rfl;refine zP (jC1 [12,13,14] (fun F' w'=>∃a pa la ot b4 b5,Hs (ku d l (range l.length)) d a pa la ot w'∧CH F' [(3,.pointer (Ad b3)),(4,.pointer (Ad b4)),(5,.pointer (Ad b5)),(21,.pointer pa),(22,.agg (kj la).toArray),(23,.bool ot.isSome)]∧
   Hp W [] w' [bu b5 14 (qE (kj (replicate 14 0))) 293,bu b4 1 (qE [.pointer none]) 289,bu b3 1 (qE [.func (.yield ll) #[] #[]]) 194]) ?_ (fun leaf=>?_))
  ·rintro F' w5 ⟨a,pa,la,ot,b4,b5,ha,xu,hp⟩;have hg:(kj la).length=14:=by rw[vC];exact ha.len
   rw[Px xu];refine xO O O3 ?_ O;have hh:=hp.j8 1 O;apply FH;rfl;exact jD hh 0 O O O O (qD O) O;rintro _ w6 ⟨rfl,hq⟩
   have ha:=ha.x9 (As.of hq.Z fun x v hx e=>by
    obtain⟨j,hj,rfl⟩:=I9 hp 1 O hx e;obtain rfl:j=0:=O1
    exact fun h=>h)
   have hp:=hp.j5 1 O hq;refine⟨hp.Z,xO O O3 ?_ O⟩;have hh:=hp.j8 0 O;apply FH;rfl;exact zH (cs:=kj _) hh 0 O O O O (by rw[hg];exact qD O) (by rw[hg];rfl) (vY _);rintro _ w7 ⟨rfl,hq⟩
   have ha:=ha.x9 (As.of hq.Z fun x v hx e=>by
    obtain⟨j,hj,rfl⟩:=I9 hp 0 O hx e;rw[jF9 O6]
    exact fun h=>h)
   have hp:=hp.j5 0 O hq;have hp:=hp.I 0 _ O (yJ _ _ hg);refine⟨hp.Z,zP (yZ ?_)⟩;exact⟨a,pa,_,ot,b4,b5,ha,⟨O,O,O,O,trivial⟩,hp⟩
  refine jUw 10 11 O O3 O O O ?_ ?_ ?_
  ·skip
   refine tK (Ls l.length _ O1) ?_;rintro _ w4 ⟨bo,rfl,tq,hpo⟩;have hp:Hp W [] _ [_,_]:=hp.C hpo;refine⟨hp.Z,jUw 10 11 O O3 O O O ?_ ?_ ?_⟩
   ·skip
    refine tK (Fk d s _ c _ l _ _ (hD.j1 hp.Z) (qZ hp 0 O tq (fun _=>O)) (cZ ..) (fun x hx=>aR.1 hx) hz) ?_;rintro _ w5 ⟨a,pa,la,ot,rfl,ha,vw,_⟩;have hp:=hp.V vw;refine⟨hp.Z,zP (BP 11 O O3 O O ?_ ?_)⟩
    ·apply Au;rfl;exact zT (Hp.start (M:=[])) (qJ O) O;rintro _ uy ⟨b4,rfl,hpo⟩;have ha:=ha.j1 hpo.Z;have hp:Hp W [] _ [bu b4 1 _ 289,_,_]:=hp.C hpo;refine⟨hp.Z,xO O O3 ?_ O⟩;exact mAk
    apply Au;rfl;exact zE (cs:=kj (replicate 14 0)) (m:=14) (Hp.start (M:=[])) (qJ O) O O;rintro _ uz ⟨b5,rfl,hpo⟩;have ha:=ha.j1 hpo.Z;have hp:Hp W [] _ [bu b5 14 _ 293,_,_]:=hp.C hpo;refine⟨hp.Z,xO O O3 ?_ O⟩;exact mAn
   ·skip
    apply Au;rfl;exact zT (Hp.start (M:=[])) (qJ O) O;rintro _ uy ⟨b4,rfl,hpo⟩;have hp:Hp W [] _ [bu b4 1 _ 289,_,_]:=hp.C hpo;refine⟨hp.Z,BP 11 O O3 O O ?_ ?_⟩
    ·refine tK (Fk d s _ c _ l _ _ (hD.j1 hp.Z) (qZ hp 1 O tq (fun _=>O)) (cZ ..) (fun x hx=>aR.1 hx) hz) ?_;rintro _ w5 ⟨a,pa,la,ot,rfl,ha,vw,_⟩;have hp:=hp.V vw;refine⟨hp.Z,zP (xO O O3 ?_ O)⟩;exact mAk
    apply Au;rfl;exact zE (cs:=kj (replicate 14 0)) (m:=14) (Hp.start (M:=[])) (qJ O) O O;rintro _ uz ⟨b5,rfl,hpo⟩;have hp:Hp W [] _ [bu b5 14 _ 293,_,_,_]:=hp.C hpo;refine⟨hp.Z,xO O O3 (tK (Fk d s _ c _ l _ _ (hD.j1 hp.Z) (qZ hp 2 O tq (fun _=>O)) (cZ ..) (fun x hx=>aR.1 hx) hz) ?_) O⟩;rintro _ w5 ⟨a,pa,la,ot,rfl,ha,vw,_⟩;have hp:=hp.V vw;refine⟨hp.Z,zP ?_⟩;exact leaf _ _ ⟨a,pa,_,ot,b4,b5,ha,⟨O,O,O,O,O,O,trivial⟩,(hp.j4 [0,1,3] [_,_,_] O2 O)⟩
   skip
   apply Au;rfl;exact zE (cs:=kj (replicate 14 0)) (m:=14) (Hp.start (M:=[])) (qJ O) O O;rintro _ uz ⟨b5,rfl,hpo⟩;have hp:Hp W [] _ [bu b5 14 _ 293,_,_]:=hp.C hpo;refine⟨hp.Z,BP 10 O O3 O O ?_ ?_⟩
   ·refine tK (Fk d s _ c _ l _ _ (hD.j1 hp.Z) (qZ hp 1 O tq (fun _=>O)) (cZ ..) (fun x hx=>aR.1 hx) hz) ?_;rintro _ w5 ⟨a,pa,la,ot,rfl,ha,vw,_⟩;have hp:=hp.V vw;refine⟨hp.Z,zP (xO O O3 ?_ O)⟩;exact mAn
   apply Au;rfl;exact zT (Hp.start (M:=[])) (qJ O) O;rintro _ uy ⟨b4,rfl,hpo⟩;have hp:Hp W [] _ [bu b4 1 _ 289,_,_,_]:=hp.C hpo;refine⟨hp.Z,xO O O3 (tK (Fk d s _ c _ l _ _ (hD.j1 hp.Z) (qZ hp 2 O tq (fun _=>O)) (cZ ..) (fun x hx=>aR.1 hx) hz) ?_) O⟩;rintro _ w5 ⟨a,pa,la,ot,rfl,ha,vw,_⟩;have hp:=hp.V vw;refine⟨hp.Z,zP ?_⟩;exact leaf _ _ ⟨a,pa,_,ot,b4,b5,ha,⟨O,O,O,O,O,O,trivial⟩,(hp.j4 [1,0,3] [_,_,_] O2 O)⟩
  ·skip
   apply Au;rfl;exact zT (Hp.start (M:=[])) (qJ O) O;rintro _ uy ⟨b4,rfl,hpo⟩;have hp:Hp W [] _ [bu b4 1 _ 289,_]:=hp.C hpo;refine⟨hp.Z,BP 11 O O3 O O ?_ ?_⟩
   ·skip
    refine tK (Ls l.length _ O1) ?_;rintro _ w4 ⟨bo,rfl,tq,hpo⟩;have hp:Hp W [] _ [_,_,_]:=hp.C hpo;refine⟨hp.Z,BP 11 O O3 O O ?_ ?_⟩
    ·refine tK (Fk d s _ c _ l _ _ (hD.j1 hp.Z) (qZ hp 0 O tq (fun _=>O)) (cZ ..) (fun x hx=>aR.1 hx) hz) ?_;rintro _ w5 ⟨a,pa,la,ot,rfl,ha,vw,_⟩;have hp:=hp.V vw;refine⟨hp.Z,zP (xO O O3 ?_ O)⟩;apply Au;rfl;exact zE (cs:=kj (replicate 14 0)) (m:=14) (Hp.start (M:=[])) (qJ O) O O;rintro _ uz ⟨b5,rfl,hpo⟩;have ha:=ha.j1 hpo.Z;have hp:Hp W [] _ [bu b5 14 _ 293,_,_,_]:=hp.C hpo;refine⟨hp.Z,?_⟩;exact mCv
    apply Au;rfl;exact zE (cs:=kj (replicate 14 0)) (m:=14) (Hp.start (M:=[])) (qJ O) O O;rintro _ uz ⟨b5,rfl,hpo⟩;have hp:Hp W [] _ [bu b5 14 _ 293,_,_,_]:=hp.C hpo;refine⟨hp.Z,xO O O3 (tK (Fk d s _ c _ l _ _ (hD.j1 hp.Z) (qZ hp 1 O tq (fun _=>O)) (cZ ..) (fun x hx=>aR.1 hx) hz) ?_) O⟩;rintro _ w5 ⟨a,pa,la,ot,rfl,ha,vw,_⟩;have hp:=hp.V vw;refine⟨hp.Z,zP ?_⟩;exact mCv
   apply Au;rfl;exact zE (cs:=kj (replicate 14 0)) (m:=14) (Hp.start (M:=[])) (qJ O) O O;rintro _ uz ⟨b5,rfl,hpo⟩;have hp:Hp W [] _ [bu b5 14 _ 293,_,_]:=hp.C hpo;refine⟨hp.Z,xO O O3 (tK (Ls l.length _ O1) ?_) O⟩;rintro _ w4 ⟨bo,rfl,tq,hpo⟩;have hp:Hp W [] _ [_,_,_,_]:=hp.C hpo;refine⟨hp.Z,xO O O3 (tK (Fk d s _ c _ l _ _ (hD.j1 hp.Z) (qZ hp 0 O tq (fun _=>O)) (cZ ..) (fun x hx=>aR.1 hx) hz) ?_) O⟩;rintro _ w5 ⟨a,pa,la,ot,rfl,ha,vw,_⟩;have hp:=hp.V vw;refine⟨hp.Z,zP ?_⟩;exact leaf _ _ ⟨a,pa,_,ot,b4,b5,ha,⟨O,O,O,O,O,O,trivial⟩,(hp.j4 [1,2,3] [_,_,_] O2 O)⟩
  skip
  apply Au;rfl;exact zE (cs:=kj (replicate 14 0)) (m:=14) (Hp.start (M:=[])) (qJ O) O O;rintro _ uz ⟨b5,rfl,hpo⟩;have hp:Hp W [] _ [bu b5 14 _ 293,_]:=hp.C hpo;refine⟨hp.Z,BP 10 O O3 O O ?_ ?_⟩
  ·skip
   refine tK (Ls l.length _ O1) ?_;rintro _ w4 ⟨bo,rfl,tq,hpo⟩;have hp:Hp W [] _ [_,_,_]:=hp.C hpo;refine⟨hp.Z,BP 10 O O3 O O ?_ ?_⟩
   ·refine tK (Fk d s _ c _ l _ _ (hD.j1 hp.Z) (qZ hp 0 O tq (fun _=>O)) (cZ ..) (fun x hx=>aR.1 hx) hz) ?_;rintro _ w5 ⟨a,pa,la,ot,rfl,ha,vw,_⟩;have hp:=hp.V vw;refine⟨hp.Z,zP (xO O O3 ?_ O)⟩;apply Au;rfl;exact zT (Hp.start (M:=[])) (qJ O) O;rintro _ uy ⟨b4,rfl,hpo⟩;have ha:=ha.j1 hpo.Z;have hp:Hp W [] _ [bu b4 1 _ 289,_,_,_]:=hp.C hpo;refine⟨hp.Z,?_⟩;exact mCw
   apply Au;rfl;exact zT (Hp.start (M:=[])) (qJ O) O;rintro _ uy ⟨b4,rfl,hpo⟩;have hp:Hp W [] _ [bu b4 1 _ 289,_,_,_]:=hp.C hpo;refine⟨hp.Z,xO O O3 (tK (Fk d s _ c _ l _ _ (hD.j1 hp.Z) (qZ hp 1 O tq (fun _=>O)) (cZ ..) (fun x hx=>aR.1 hx) hz) ?_) O⟩;rintro _ w5 ⟨a,pa,la,ot,rfl,ha,vw,_⟩;have hp:=hp.V vw;refine⟨hp.Z,zP ?_⟩;exact mCw
  apply Au;rfl;exact zT (Hp.start (M:=[])) (qJ O) O;rintro _ uy ⟨b4,rfl,hpo⟩;have hp:Hp W [] _ [bu b4 1 _ 289,_,_]:=hp.C hpo;refine⟨hp.Z,xO O O3 (tK (Ls l.length _ O1) ?_) O⟩;rintro _ w4 ⟨bo,rfl,tq,hpo⟩;have hp:Hp W [] _ [_,_,_,_]:=hp.C hpo;refine⟨hp.Z,xO O O3 (tK (Fk d s _ c _ l _ _ (hD.j1 hp.Z) (qZ hp 0 O tq (fun _=>O)) (cZ ..) (fun x hx=>aR.1 hx) hz) ?_) O⟩;rintro _ w5 ⟨a,pa,la,ot,rfl,ha,vw,_⟩;have hp:=hp.V vw;refine⟨hp.Z,zP ?_⟩;exact leaf _ _ ⟨a,pa,_,ot,b4,b5,ha,⟨O,O,O,O,O,O,trivial⟩,(hp.j4 [2,1,3] [_,_,_] O2 O)⟩
 clear hp h1;rintro F' w3 ⟨a,pa,la,ot,b4,b5,ha,xu,hp⟩;refine yL _ xu fun F0=>?_
 clear xu;cases ot with
 |none=>
  have hb:=jKr (ha.no O);rw[hb];refine qA (jB O ?_);refine qA ?_;exact qG1 O ⟨_,O,hJ _ _ ap (mw.of hp.Z O4 O1)⟩
 |some t=>
  obtain⟨rfl,rfl,ht,hS⟩:=ha.yes t O
  have⟨hI,hC⟩:=jCv hm O6 (by
   refine bZ fun hn=>?_
   have:(ku d l (range l.length)).tidy (Bu d)=none:=by
    unfold Q.tidy;rw[if_pos];show d.sz.toNat>(range l.length).length-0
    omega
   grind) ht
  have h14:(kj (Am t)).length=14:=by rw[vC];exact ha.len
  refine qA (qN O ?_);refine qR (tF (qJs Bx (Hp.start (M:=[]))) fun w4 mp hpo=>?_);have hS:=hS.j1 hpo.Z;have hp:=hp.C hpo;clear hpo;refine tF (zT (Hp.start (M:=[])) (qJ O) O) fun w5 kb hpo=>?_;have hS:=hS.j1 hpo.Z;have hp:=hp.C hpo;clear hpo;have hp:Hp W [] w5 [bu kb 1 _ 296,_,_,_,_]:=hp;have hh:=hp.j8 0 O;refine tO (jD hh 0 O O O O (qD O) O) fun w6 hq=>?_
  have hS:=hS.x9 (As.of hq.Z fun x v hx e=>by
   obtain⟨j,hj,rfl⟩:=I9 hp 0 O hx e;obtain rfl:j=0:=O1
   exact fun h=>h)
  have hp:=hp.j5 0 O hq;have hp:=hp.I 0 [.map _] O O;refine qR (tF (zT (Hp.start (M:=[])) (qJ O) O) fun w7 sa hpo=>?_);have hS:=hS.j1 hpo.Z;have hp:=hp.C hpo;clear hpo;refine qR (ke kY (O:_=Value.func (.func 225) #[] #[.pointer _,.pointer _,.pointer _]) ?_);have hh:=hp.j8 0 O;refine tO (jD hh 0 O O O O (qD O) O) fun w8 hq=>?_
  have hS:=hS.x9 (As.of hq.Z fun x v hx e=>by
   obtain⟨j,hj,rfl⟩:=I9 hp 0 O hx e;obtain rfl:j=0:=O1
   exact fun h=>h)
  have hp:=hp.j5 0 O hq;have hp:=hp.I 0 [.func _ _ _] O O;refine qR (tF (zT (Hp.start (M:=[])) (qJ O) O) fun w9 vb hpo=>?_);have hS:=hS.j1 hpo.Z;have hp:=hp.C hpo;clear hpo;refine qR (ke kY (O:_=Value.func (.func 227) #[] #[.pointer _,.pointer _,.pointer _,.pointer _]) ?_);have hh:=hp.j8 0 O;refine tO (jD hh 0 O O O O (qD O) O) fun uy hq=>?_
  have hS:=hS.x9 (As.of hq.Z fun x v hx e=>by
   obtain⟨j,hj,rfl⟩:=I9 hp 0 O hx e;obtain rfl:j=0:=O1
   exact fun h=>h)
  have hp:=hp.j5 0 O hq;have hp:=hp.I 0 [.func _ _ _] O O;have hp:Hp W [] _ ([bu vb 1 _ 301,bu _ 1 _ 297,_,_,_,_]++[_,_]):=(hp.j7 eN 3 1).j4 [1,2,3,5,6,7,0,4] _ O2 O;have nb:=fun i b p hi hb=>(hp.own i p hi b hb).resolve_right O4
  refine qR ?_;refine ke (qS O O (hp.J 0 O O)) (O:_=Value.func _ _ _) (ke (qL O O O h14 (hp.i6 3 O h14)) O ?_)
  (apply Ax;exact qC O (fun _ _=>O3) O (zAz a d _ b3 b4 _ vb kb mp ll _ _ _ Z hS hp.Z.size (nb 7 mp _ O O) (L3 hp 7 O) (hp.J 5 O O) (hp.J 4 O O) (hp.J 1 O O) (hp.J 2 O O) (nb 1 _ _ O O) (nb 0 vb _ O O) (hp.J 0 O O)
   _ t _ [] _ 0 _ O hI .refl (fun k hk=>by have⟨p,hp,hb⟩:=xX.1 hk;obtain rfl:=gT.1 hp;cases hb) (fun _ _ v _ e=>by cases e) (fun T hT=>(hC T).1 hT) (bL _) kg.nil hp.k6 (fun x W1 zp hx=>hY x W1 (hJ _ _ ap ((mw.of hp.Z O4 O1).trans zp)) hx));rintro _ uz ⟨rfl,_,ik⟩)
  refine qA ?_;refine xK O ⟨_,O,?_⟩;rw[jKq hC];cases hb:Cs (ku d l (range l.length)) t with
  |true=>
   grind
  |false=>
   rw[hb] at ik;exact hJ _ _ ap ((mw.of hp.Z O4 O1).trans ik)
variable{D b2 t:Nat}{v2:Value}
theorem qVf{fn ty tc v}(h:fn.results= #[.cell p ty,.cell t tc])(h1:IS ty=true)(h2:IS tc=true)
  (hx:ev n F (.tmp p)= .pointer (Ad b)) (hy:ev n F (.tmp t)= .pointer (Ad b2)) (hc:w.cell? ⟨b,0,none⟩=some v) (u6:w.cell? ⟨b2,0,none⟩=some v2):
  (results fn (act n F).tmps).run prog w= .ok (.tuple #[v,v2]) w:=by
 have⟨q,hq,uu⟩:=S1 h1;have⟨q2,yv,uw⟩:=S1 h2;have hY:(act n F).tmps.getD p undef= .pointer (Ad b):=by
  rw[←hx,←zF];rfl
 have nq:=by simpa using hY
 have nt:(act n F).tmps.getD t undef= .pointer (Ad b2):=by
  rw[←hy,←zF];rfl
 have nr:=by simpa using nt
 simp[results,h,nq,nr,asAddr,loadVar,SD hq uu,SD yv uw,Sem.run,hc,u6]
theorem Tx{o o'}(hD:w.heap[D]? =some o)(ho:∀c t i,o≠.cells c t i):pd w (w.putObj D o'):=pd.of (yR w D o') fun x v hx e=>by
 cases o with
 |cells c t i=>exact ho c t i O
 |_=>simp[World.cell?,e,hD] at hx
theorem qLo{fn ty tc v}(h:fn.results= #[.cell p ty,.cell t tc])(h1:IS ty=true)(h2:IS tc=true)
  (hx:ev n F (.tmp p)= .pointer (Ad b)) (hy:ev n F (.tmp t)= .pointer (Ad b2)) (af:n.ds=[{target:=.collected D,args:=#[]}]) (hD:w.heap[D]? =some (.deferred (some [])))
  (hc:w.cell? ⟨b,0,none⟩=some v) (u6:w.cell? ⟨b2,0,none⟩=some v2) (hr:R (.returned (.tuple #[v,v2])) (w.putObj D (.deferred none))):
  bodyPostM Fence.wide 0 prog fn R .ret (act n F) w:=by
 show LeavesInM _ 0 _ fn _ R n.ds _ w
 rw[af];have hk:pd w (w.putObj D (.deferred none)):=Tx hD O4;exact⟨O4,.inl ⟨D,_,O,run_takeDeferred hD,_,qVf h h1 h2 hx hy (hk _ _ hc) (hk _ _ u6),hr⟩⟩
theorem r95(d s c l W)(hD:DE d s l W)(ze:d.kd=3)(hz:0≤d.sz):
  Rt 95 [d.v,.slice s l.length c] W (fun v w'=>ax [] W w'∧((HD d l (range l.length)=false∧v= .tuple #[Zs,.bool false])∨
   ∃x:MJ,HD d l (range l.length)=true∧v= .tuple #[GB x,.bool true]∧(ku d l (range l.length)).Cmp (Bu d) x.2.2∧kg x.1 x.2.1 x.2.2∧ig w' 1 eN x.1 x.2.2)):=by
 refine km.q5 func95 O ntmps95 O ?_;have hp:=Hp.start (M:=[]) (w:=W);refine EU (qR ?_);refine tQ fun w1 b2 hp=>?_;have hp:=hp.I 0 d.L O O;refine tQ fun w2 b4 hp=>?_;refine tQ fun w3 b5 hp=>?_;refine qA (Ki ?_);refine qR (ke (qL O O O O (hp.i6 2 O O)) (O:_=d.v) ?_);refine tL (zBa d s _ c _) ?_;rintro _ w4 ⟨db,lb,rfl,hpo⟩;have hp:=hp.C hpo;clear hpo;have hp:Hp W [] w4 [_,_,bu b5 1 _ 4,bu b4 1 _ 22]:=hp.j4 [0,1,2,3] _ O2 O;refine qA (Jd [(4,.pointer _),(5,.pointer _),(9,.func _ _ _)] ⟨O,O,O,trivial⟩ ?_);intro F0;have h4:=(aM.1 (hp.N 3 _ O b4 O).choose_spec.1).1;have h5:=(aM.1 (hp.N 2 _ O b5 O).choose_spec.1).1;have rh:=(aM.1 (hp.N 0 _ O lb O).choose_spec.1).1;have b9:=(aM.1 (hp.N 1 _ O db O).choose_spec.1).1;have pa:∀{W1 W2:World} {u v:Value},Hp W [] W1 _→mw _ W1 W2→Hp W [] W2 [bu lb 1 (qE [.slice s l.length c]) 29,bu db 13 (qE d.L) 28,bu b5 1 (qE [u]) 4,bu b4 1 (qE [v]) 22]:=fun h zp=>by
  refine h.o8 zp hp.Z.size ?_;intro p od b hb;simp[aP,mJ,HA] at od;rcases od with rfl|rfl|rfl|rfl<;>cases hb<;>assumption
 refine jI9 O jRw GB (HD d l (range l.length)) (fun W1 x w=>XP W1.heap.size (fun T=>(ku d l (range l.length)).Cmp (Bu d) T) x w) [b5,b4] ?_
  _ (fun W1 W2 h zp=>pa h zp) hp
  (fun x W'=>Hp W [] W' [bu lb 1 (qE [.slice s l.length c]) 29,bu db 13 (qE d.L) 28,bu b5 1 (qE [.bool true]) 4,bu b4 1 (qE [GB x]) 22]∧(ku d l (range l.length)).Cmp (Bu d) x.2.2∧kg x.1 x.2.1 x.2.2∧ig W' 1 eN x.1 x.2.2) ?_ ?_
  (fun x=>((F0.v6 [(4,.pointer (Ad b4)),(5,.pointer (Ad b5)),(9,.func (.func 222) #[] #[.pointer (Ad db),.pointer (Ad lb)])]).put 10 (GB x)).put 6 (GB x)) ?_ ?_ ?_ ?_
 ·grind
 ·rintro x ll o o' W1 ys ⟨h1,h2,h3,h4⟩ ho;exact⟨pa h1 (mw.put _ _ ys),h2,h3,(Tx ho O4).o4 h4⟩
 ·intro W1 hk ha;exact zB1 d s c db lb l W1 (hD.j1 (hp.Z.trans hk O4)) (fun j v e=>hk.cell (hp.i6 1 O O j v e) O4) (hk.cell (hp.J 0 O O) O4) ze hz
 ·intro ll x W1;refine qA ?_;exact⟨O,O,O⟩
 ·rintro ll x W1 W2 W0 zy hI hx hg ha;have hl:=hg.o4 hx.sl;have hb:=fun b o e=>bF zy.size (hx.hi b o e)
  refine qR ?_;refine ke qP (O:_=GB x) ?_;have hh:=Hp.k6 (A:=[_,_]) hI;refine tO (jD hh 1 O O O O (qD O) O) fun w5 hh=>?_;refine tO (jD hh 0 O O O O (qD O) O) fun w6 hh=>?_;have hj:=Hp.back (A:=[_,_]) hI hh;refine qA ?_
  exact⟨O,⟨hj,hx.c,hx.sv,hl.j1 hh.Z (fun _ b o e=>by
   intro hm;have hm:b∈[b5,b4]:=hm;grind)⟩,hh.Z⟩
 ·intro D W1 hq hb hI a7;refine L0 O O (NN ?_);have hh:=Hp.k6 (A:=[_,_]) hI;have hn:=(aM.1 a7).1;refine qR (tO (jD hh 1 O O O O (qD O) O) fun w5 hh=>?_);refine tO (jD hh 0 O O O O (qD O) O) fun w6 hh=>?_;have hj:=Hp.back (A:=[_,_]) hI hh
  have ht:=(hh.Z.block D hn (fun hm=>by
   have hm:D∈[b5,b4]:=hm;grind)).trans a7
  refine qA ?_;exact qLo O O O O O O ht (hj.J 3 O O) (hj.J 2 O O) ⟨_,O,hj.Z.trans (yR w6 D _) (fun k hk=>by
   have:=by simpa using hk
   have:=hp.Z.size
   omega),.inl ⟨hb,O⟩⟩
 rintro D x W1 hq hb ⟨h1,h2,h3,h4⟩ a7;exact qLo O O O O O O a7 (h1.cell 3 O O) (h1.cell 2 O O) ⟨_,O,h1.keeps.trans (yR W1 D _) (fun k hk=>by
  have:=by simpa using hk
  have:=hp.Z.size
  omega),.inr ⟨x,hb,O,h2,h3,(Tx a7 O4).o4 h4⟩⟩
variable{q:Rat}{κ:Nat}
def BR(f:Nat→Rat):Nat→Nat
 |0=>1
 |k+1=>BR f k*((f k).den/Nat.gcd (BR f k) (f k).den)
def CS(f:Nat→Rat)(n i:Nat):Nat:=BR f n/(f i).den*(f i).num.natAbs
theorem SP(f):∀k,0<BR f k
 |0=>Nat.one_pos
 |k+1=>iP (SP f k) (Nat.div_pos (rT (f k).den_pos (lZ _ _)) (nC _ (f k).den_pos))
theorem ZG(f):∀k i,i<k→(f i).den∣BR f k
 |k+1,i,h=>by
  rcases dH.1 h with h|rfl
  ·exact Nat.dvd_trans (ZG f k i h) (Nat.dvd_mul_right _ _)
  obtain⟨g,hg⟩:∃g,g=Nat.gcd (BR f i) (f i).den:=⟨_,O⟩;have hd:(f i).den/g*g=(f i).den:=by rw[hg];exact Nat.div_mul_cancel (lZ _ _)
  obtain⟨a,ha⟩:g∣BR f i:=by rw[hg];exact oY _ _
  refine⟨a,?_⟩;show BR f i*((f i).den/Nat.gcd _ _)=_
  grind
theorem Yt{f κ n}(h:∀i,i<n→BQ κ (f i)):∀k,k≤n→BR f k≤2^(κ*k)
 |0,_=>by simp[BR]
 |k+1,hk=>by
  have h1:=Yt h k O1;have h2:_/Nat.gcd (BR f k) (f k).den≤_:=bF (iH _ _) (oV (h k hk).2);rw[Nat.mul_succ,eK];exact dE h1 h2
theorem LO{f n}(h:∀i,i<n→BQ κ (f i)){k}(hk:k≤n):BR f k<2^(κ*n+1):=by
 refine bW (Yt h k hk) (gK O2 ?_);have:=dJ κ hk;omega
theorem Sn{f n}(h:∀i,i<n→BQ κ (f i)){i}(hi:i<n):CS f n i<2^(κ*n+1+κ):=
 yD (bW (iH _ _) (LO h O1)) (h i hi).1
theorem YW{f n}(hi:i<n)(h0:0≤f i):((CS f n i:Nat):Rat)=f i*(BR f n:Nat):=by
 have⟨c,hc⟩:=ZG f n i hi;unfold CS;rw[hc,Nat.mul_div_cancel_left _ (f i).den_pos];have hn:=Int.natAbs_of_nonneg (Rat.num_nonneg.2 h0);have h1:f i=((f i).num)/((f i).den):=by rw[←iO,rD]
 have h2:((f i).num.natAbs:Nat)=((f i).num:Rat):=by rw[←hn];rfl
 have h3:(((f i).den):Rat)≠0:=by
  have:=(f i).den_pos;exact fun e=>by
   have:=pT.1 e;omega
 grind
theorem jO1(h:0≤q):Ac q=false:=by
 have:=Rat.num_nonneg.2 h;unfold Ac;grind
def DV:List Value:=[.bool false,.string ⟨#[]⟩,.string ⟨#[]⟩]
def Hf(n:Nat):List Value:=[.string (ki n)]
theorem zBm(x q W)(hx:Fit x)(hq:FQ q)(hm:Fit (x*(q.den/Nat.gcd x q.den))):Rt 102 [.string (ki x),QV q] W (fun v w'=>v= .string (ki (x*(q.den/Nat.gcd x q.den)))∧ax [] W w'):=by
 have il:0<Nat.gcd x _:=nC _ q.den_pos;have ha:Fit (Nat.gcd x _):=hq.d.le (rT q.den_pos (lZ _ _));refine tW func102 ntmps102 fun hp=>?_;refine vK fun w b hp=>?_
 refine tX fun hp=>?_;refine tH (MC x _ _ hx hq.d) fun w1 hp=>?_;refine tG (ME _ _ _ hq.d ha il) fun w2 hp=>?_;refine qX (qU ?_);refine tD (Bc x _ _ hx hq.d.div) fun w3 hp=>?_;exact nj
theorem zBn(n f s c κ W)(hs:ig W 3 eQ s (lm n f))(hb:∀i,i<n→BQ κ (f i))(hn:n≤1000)(hκ:κ*n+κ+1≤1000000000000):
  Rk 101 [.slice s n c,.string (ki 1),.func (.func 102) #[] #[]] W (.string (ki (BR f n))):=by
 refine tW func101 ntmps101 fun hp=>?_;refine qA (qQ ([1,8]++range' 11 9) (fun k F=>(F.put 1 (.string (ki (BR f k)))).put 11 (.int _ k)) (fun k w'=>k≤n∧Hp W [] w' []) (fun k=>n-k) 0 (qB (qB (ka.eq .refl) O) O) ⟨O1,hp⟩ ?_);clear hp;rintro u k w2 ⟨hk,hp⟩;refine tI (fun h=>?_) fun h=>?_
 ·have hl:k<n:=O1;have⟨bs,os,ha,hc⟩:=jR hs hl;have hc:=fun j v e=>hp.j3 (hc j v e)
  have hB:=LO hb (show k+1≤n by omega);refine qA (tR (qL O O O O hc) ?_);refine vK fun w b hp=>?_
  refine tD (zBm _ _ _ (Fit.of (LO hb hk) O1) (BQ.fq (hb k hl) O1) (Fit.of hB O1)) fun w3 hp=>?_;exact Jn
 obtain rfl:n=k:=O1;exact nj
theorem X7(n f s c κ W)(hs:ig W 3 eQ s (lm n f))(hb:∀i,i<n→BQ κ (f i))(h0:∀i,i<n→0≤f i)(hn:n≤1000)(hκ:κ*n+κ+1≤1000000000000):
  Rt 33 [.slice s n c] W (fun v w'=>∃g,v= .tuple #[.string (ki (BR f n)),.slice (Ad g) n n,.bool true]∧kg (Ad g) n (lm n (CS f n))∧Hp W [] w' [qG Hf 34 1 (Ad g) n (lm n (CS f n))]):=by
 refine tW func33 ntmps33 fun hp=>?_;refine qA (qQ ([6]++range' 16 12) (fun(k:Nat) F=>F.put 16 (.int _ k)) (fun k w'=>k≤n∧Hp W [] w' []) (fun k=>n-k) 0 (qB (ka.eq .refl) O) ⟨O1,hp⟩ ?_);clear hp;rintro u k w2 ⟨hk,hp⟩;refine tI (fun h=>?_) fun h=>?_
 ·have hl:k<n:=O1;have⟨bs,os,ha,hc⟩:=jR hs hl;have hc:=fun j v e=>hp.j3 (hc j v e)
  have hg:=jO1 (h0 k hl);refine qA (tR (qL O O O O hc) ?_);refine vK fun w b hp=>?_
  refine tD (Ny _ (BQ.fq (hb k hl) O1)) fun w3 hp=>?_;refine jL ?_;rw[hg];refine EH ?_;exact Uv
 obtain rfl:n=k:=O1;refine tD (zBn n f s c κ _ (hs.i7 hp.Z) hb hn hκ) fun w3 hp=>?_;refine qA ?_;refine tF (yE Hf 0 hp O O O O O O O O1 O) fun w4 g⟨hv,hp⟩=>?_;rw[Ec] at hp hv;rw[JT (f:=CS f n)] at hp;refine qA (qQ ([9,10,11,12,13]++range' 35 21) (fun(k:Nat) F=>F.put 35 (.int _ k)) (fun k w'=>k≤n∧Hp W [] w' [qG _ 34 1 _ n (lm n fun i=>if i<k then CS f n i else 0)]) (fun k=>n-k) 0 (qB (ka.eq .refl) O) ⟨O1,hp⟩ ?_);clear hp;rintro u k w5 ⟨hk,hp⟩;refine tI (fun h=>?_) fun h=>?_
 ·have hl:k<n:=O1;have⟨bs,os,ha,hc⟩:=jR hs hl;have hc:=fun j v e=>hp.j3 (hc j v e)
  subst ha;have hB:=LO hb (aS n);refine qA (tR (qL O O O O hc) ?_);refine vK fun w b hp=>?_
  refine tD (ME _ _ _ (Fit.of hB O1) (BQ.fd (hb k hl) O1) (f k).den_pos) fun w6 hp=>?_;refine tD (Bc _ _ _ (Fit.of hB O1).div (BQ.fn (hb k hl) O1)) fun w7 hp=>?_;refine qA (tO (zL _ _ k (CS f n k) hp 1 O (jZ hv (by rw[qT,qT])) (by rw[qT];omega) O O (fun _=>O) O O (qD O)) fun w8 hp=>?_);rw[JQ] at hp;exact Jn
 obtain rfl:n=k:=O1;rw[JU] at hp;refine qA ?_;exact PH O O O O ⟨_,O,g,O,jZ hv (by rw[qT,qT]),hp⟩
theorem HI{f κ n}(h:∀i,i<n→BQ κ (f i)):∀k,k≤n→BQ (1+k*(κ+1)) (wr k f)
 |0,_=>⟨by show(0:Rat).num.natAbs<_;simp,by show(0:Rat).den<_;simp⟩
 |k+1,hk=>by
  have:=(HI h k O1).add (h k O1);refine this.mono ?_;grind
theorem zBi(n f s c κ W)(hs:ig W 3 eQ s (lm n f))(hb:∀i,i<n→BQ κ (f i))(hn:n≤1000)(hκ:2+(n+1)*(κ+1)≤1000000000000):
  Rk 119 [.slice s n c,QV 0,.func (.func 44) #[] #[]] W (QV (wr n f)):=by
 refine tW func119 ntmps119 fun hp=>?_;refine qR ?_;refine tQ fun w1 b4 hp=>?_;have hp:=hp.I 0 (eQ 0) O O;refine tQ fun w2 b6 hp=>?_;refine qA (qQ ([8]++range' 11 9) (fun(k:Nat) F=>F.put 11 (.int _ k)) (fun k w'=>k≤n∧Hp W [] w' [bu b6 3 (qE (DV)) 49,bu b4 3 (qE (eQ (wr k f))) 49]) (fun k=>n-k) 0 (qB (ka.eq .refl) O) ⟨O1,hp⟩ ?_);clear hp;rintro u k w3 ⟨hk,hp⟩;refine tI (fun h=>?_) fun h=>?_
 ·have hl:k<n:=O1;have⟨bs,os,ha,hc⟩:=jR hs hl;have hc:=fun j v e=>hp.j3 (hc j v e)
  have hj:1+k*(κ+1)+κ+1≤1000000000000:=by
   have:k*(κ+1)≤n*(κ+1):=aL _ hk;rw[iV] at hκ;omega
  refine qA (tR (qL O O O O hc) ?_);refine tQ fun w4 b8 hp=>?_;refine tS fun w5 hp=>?_;refine tD (Gb _ (HI hb k hk) (hb k hl) hj) fun w6 hp=>?_;refine tS fun w7 hp=>?_;exact Jn
 obtain rfl:n=k:=O1;refine tT fun w4 hp=>?_;exact Jl
theorem RE(n f s c κ W)(hs:ig W 3 eQ s (lm n f))(hb:∀i,i<n→BQ κ (f i))(hn:n≤1000)(hκ:2+(n+1)*(κ+1)≤1000000000000):
  Rk 46 [.slice s n c] W (QV (wr n f)):=by
 refine tW func46 ntmps46 fun hp=>?_;refine qR ?_;refine tQ fun w1 b2 hp=>?_;refine tD (zBh _) fun w2 hp=>?_;refine tC (zBi n f s c κ _ (hs.i7 hp.Z) hb hn hκ) fun w3 hp=>?_;refine tS fun w4 hp=>?_;exact Jl
theorem ZU{x}:∀{r:List Int},r.Pairwise (fun a b=>b≤a)→(Cb id r x).Pairwise (fun a b=>b≤a)
 |[],_=>by simp[Cb]
 |y::r,h=>by
  have⟨h1,h2⟩:=bQ.1 h;rw[Cb];split
  ·rename_i hc
   have hc:x<y:=hc;refine bQ.2 ⟨fun z hz=>?_,ZU h2⟩;rcases aP.1 ((Tq id x r).mem_iff.1 hz) with rfl|hz
   ·omega
   grind
  refine bQ.2 ⟨fun z hz=>?_,h⟩;grind
theorem Zm:∀r:List Int,(IJ id r).Pairwise (fun a b=>b≤a)
 |[]=>.nil
 |x::r=>ZU (Zm r)
theorem jJ4(l):(srt id l).Pairwise (·≤·):=List.pairwise_reverse.2 (Zm _)
theorem jNv{l o:List Nat}(h:o.Pairwise (·<·))(hp:l.Perm o):srt id (l.map fun x:Nat=>(x:Int))=o.map fun x:Nat=>(x:Int):=by
 refine XM O1 (jJ4 _) ?_ ((HQ id _).trans (hp.map _));grind
theorem jZt(a b w):Rk 362 [Iv a,Iv b] w (.bool (decide (a<b))):=by
 refine tW func362 ntmps362 fun hp=>?_;refine tD (U9 a _) fun w1 hp=>?_;exact Hb
theorem jZu(l b cc w)(hr:Ba w b cc l)(hc:l.length≤cc)(ha:cc≤maxLen)(h20:l.length<20):
  Rt 356 [.slice (Ad b) l.length cc,Iv 0,Iv (l.length:Int)] w (fun _ w'=>ax [b] w w'∧Ba w' b cc (srt id l)):=by
 have ij:∀z:List Int,z.length=l.length→kg _ cc z:=fun z hz=>.inr ⟨b,cc,by rw[hz],O1,ha⟩
 refine km.j6 func356 O ntmps356 O ?_;have hp:=Hp.ofRow hr;refine tM (0+1) ?_;refine qA (kT ([6,7]++List.range' 10 39) (fun i _z F=>F.put 6 (.int _ (i+1:Nat)))
  (fun i z w'=>(i+1≤l.length∨i=0)∧z=srt id (l.take (i+1))++l.drop (i+1)∧Hp w _ w' [qG eI 3 1 _ cc z]) (fun i _=>l.length-i) 0 l (qB (ka.eq .refl) O) ⟨.inr O,?_,hp⟩ ?_)
 ·cases l with
  |nil=>rfl
  |cons x l=>simp[Zf]
 (repeat clear hp);rintro u i z w1 ⟨hi,hz,hp⟩;refine tI (fun h=>?_) fun h=>?_
 ·have hl:i+1<l.length:=O1;obtain⟨Pf,hP⟩:∃Pf,Pf=srt id (l.take (i+1)):=⟨_,O⟩;obtain⟨S,hS⟩:∃S,S=l.drop (i+1+1):=⟨_,O⟩;have zf:Pf.length=i+1:=by rw[hP,RG,cJ];omega
  have h4:S.length=l.length-(i+1+1):=by rw[hS,fR]
  have hX:∀y∈Pf,y∈l:=by
   intro y hy;rw[hP] at hy;exact gE ((HQ id _).mem_iff.1 hy)
  have v1:=bX hl;have hg:=qSu id (l.take (i+1)) l[i+1];rw[←aF,←hP] at hg;rw[←hP,aT hl,←hS] at hz;generalize hx:l[i+1]=x at v1 hg hz;have eh:z=mv Pf x (i+1) S:=by
   rw[hz];unfold mv;rw[←zf,dF,lT];rfl
  subst eh;clear hz;refine qA (qQ ([7]++List.range' 16 33) (fun(j:Nat) F=>F.put 7 (.int _ j))
   (fun j w'=>j≤i+1∧(Cb id _ x).reverse=(Cb id (Pf.take j).reverse x).reverse++Pf.drop j∧Hp w _ w' [qG eI 3 1 _ cc (mv Pf x j S)]) (fun j=>j) _ (qB (ka.eq .refl) O) ⟨O1,by rw[←zf,dF,lT,bO],hp⟩ ?_)
  (repeat clear hp);rintro u2 j w2 ⟨hj,hL,hp⟩;have x1:(mv Pf x j S).length=l.length:=by rw[jEc];omega
  have hn:=ij _ x1;refine qA ?_;refine jW jG O3 (fun w'=>Hp w _ w' _) hp.U ?_;have hp:=hp.U;refine tP (fun w hp=>qP) (tP (fun w hp=>qP) ?_);rcases dG j with h0|h0
  ·subst h0;refine xA ?_;apply ER;rfl;rfl;rfl;rfl;exact hp;refine xA (qU ?_);refine KW ?_;refine⟨_,_,qB O5 O,⟨.inl O1,?_,hp⟩,O1⟩;rw[hg,hL,←hS];unfold mv;simp[Cb]
  obtain⟨q,rfl⟩:∃q,j=q+1:=⟨j-1,O1⟩;have hq:q<Pf.length:=O1;have hM:=jMr (P:=Pf) (x:=x) (j:=q+1) (S:=S) O1;have ee:=qOs (x:=x) (S:=S) hq;have az:=YR (x:=x) (S:=S) hq;have hE:=YJ (c:=id) (x:=x) hq;have xy:=qP1 (c:=id) (x:=x) hq;have ph:=hX _ (bX hq);have hH:=aT hq;generalize Pf[q]=y at ee az hE xy ph hH;have xz:q+1<l.length:=O1;have dz:q<l.length:=O1;have hQ:q+1<(mv Pf x (q+1) S).length:=O1;refine kp O (fun w hp=>xJ O O) (qV (aD O1)) (xA ?_);apply yG;rfl;rfl;rfl;intro w hp;exact qS O O (zS hp 0 O hn (fun _=>O) hM 0 _ O);exact fI O;refine xA ?_;refine tN q ?_;refine xA ?_;apply yG;rfl;rfl;rfl;intro w hp;exact qS O O (zS hp 0 O hn (fun _=>O) ee 0 _ O);exact fI O;refine tG (jZt x y _) fun w3 hp=>?_;by_cases bv:x<y
  ·rw[aD bv];refine xA (qU ?_);refine jB O (qA ?_);refine LZ ?_;intro F0 ht;have hm:F0 0= .slice (Ad b) l.length cc:=by rw[ht];rfl
   have h6:F0 7=Iv (q+1:Nat):=by rw[ht];rfl
   refine L1 jG O3 (fun D F w'=>Dn 33 16 (JH b l.length cc q x y) F0 (fun j=>D (AX j)) F∧(D 15=true→D 9=true∧D 13=true)∧(D 17=true→D 15=true)∧(D 15=false→Hp w _ w' _)∧(D 15=true→D 17=false→Hp w [b] w' [qG eI 3 1 (Ad b) cc ((mv Pf x (q+1) S).set (q+1) y)])∧(D 17=true→Hp w [b] w' [qG eI 3 1 (Ad b) cc (((mv Pf x (q+1) S).set (q+1) y).set q x)])) ⟨Dn.start,O4,O4,fun _=>hp.U,O4,O4⟩ ?_ ?_
   ·rintro i D F w4 hi h7 hA ⟨hD,hU,hK,oS,ng,zo⟩;have hJ:=hn.set (q+1) y;have hT:q<((mv Pf x (q+1) S).set (q+1) y).length:=by rw[fW];omega
    have nh:∀j,j<16→Nat.beq _ 15=_:=fun j hj=>jJ (Kl hj).1
    have nf:∀j,j<16→Nat.beq _ 17=_:=fun j hj=>jJ (Kl hj).2.1
    have ni:∀j,j<16→(D (AX j)||Nat.beq (AX j) 16)=(D (AX j)||Nat.beq j 15):=by
     intro j hj;by_cases h:j=15
     ·subst h;rfl
     have e1:AX j=j:=by unfold AX;rw[jJ h];rfl
     exact T9
    have h15:(D 9=false∨D 13=false)→D 15=false:=by
     intro h;cases h5:D 15
     ·rfl
     exact Ux
    have na:∀i,i<15→i≠9999→Dn 33 16 (JH b l.length cc q x y) F0 (fun j=>D (AX j)||Nat.beq (AX j) i) (F.put (33+i) (JH b l.length cc q x y i))∧((D 15||Nat.beq 15 i)=true→(D 9||Nat.beq 9 i)=true∧(D 13||Nat.beq 13 i)=true)∧((D 17||Nat.beq 17 i)=true→(D 15||Nat.beq 15 i)=true)∧((D 15||Nat.beq 15 i)=false→Hp w [b] w4 [qG eI 3 1 (Ad b) cc (mv Pf x (q+1) S)])∧((D 15||Nat.beq 15 i)=true→(D 17||Nat.beq 17 i)=false→Hp w [b] w4 [qG eI 3 1 (Ad b) cc ((mv Pf x (q+1) S).set (q+1) y)])∧((D 17||Nat.beq 17 i)=true→Hp w [b] w4 [qG eI 3 1 (Ad b) cc (((mv Pf x (q+1) S).set (q+1) y).set q x)]):=by
     exact US
    match i,hi with
    |0,_=>
     exact zI qP ((hD.old 0 O O).trans hm) (na 0 O2 O2)
    |1,_=>
     exact zI qP ((hD.old 7 O O).trans h6) (na 1 O2 O2)
    |2,_=>
     exact zI qP ((hD.old 0 O O).trans hm) (na 2 O2 O2)
    |3,_=>
     exact zI qP ((hD.old 7 O O).trans h6) (na 3 O2 O2)
    |4,_=>
     exact UP
    |5,_=>
     exact zI qP ((hD.old 0 O O).trans hm) (na 5 O2 O2)
    |6,_=>
     exact zI qP ((hD.old 7 O O).trans h6) (na 6 O2 O2)
    |7,_=>
     exact UN
    |8,_=>
     exact UO
    |9,_=>
     exact mBl
    |10,_=>
     exact zI qP ((hD.old 0 O O).trans hm) (na 10 O2 O2)
    |11,_=>
     exact zI qP ((hD.old 7 O O).trans h6) (na 11 O2 O2)
    |12,_=>
     exact UQ
    |13,_=>
     exact mBk
    |14,_=>
     exact UU
    |15,_=>
     have hA:(D 14&&(D 9&&(D 0&&(D 1&&(true&&(true&&(true&&(D 5&&(D 6&&(D 7&&(D 8&&(D 9&&(true&&(true&&(true&&(D 13&&true))))))))))))))))=_:=hA;simp[aJ,fJ,Lp] at hA;have h9:=hA.2.1;have h13:D 13=true:=by simp[hA]
     refine JP (zL eI _ _ y (oS h7) 0 O hn hQ (hD.slot 14 hA.1 O O) (hD.slot 9 h9 O O) (fun _=>O) O O (qD O)) ?_;rintro _ w' ⟨rfl,hp'⟩;exact⟨hD.congr (fun j hj=>O6),fun _=>⟨by simp[h9],O6⟩,fun h=>O4,fun h=>by simp at h,fun _ _=>hp',fun h=>absurd (hK (by simpa using h)) O6⟩
    |16,_=>
     have hA:(D 2&&(D 4&&(D 0&&(D 1&&(D 2&&(D 3&&(D 4&&(D 5&&(D 6&&(D 7&&(D 8&&(D 9&&(D 10&&(D 11&&(D 12&&(D 13&&(D 14&&(D 15&&true))))))))))))))))))=_:=hA;simp[aJ,fJ] at hA;have h8:D 15=true:=by simp[hA]
     exact mAw
    |17,_=>
     have hA:(D 16&&(D 13&&(D 15&&(D 0&&(D 1&&(D 2&&(D 3&&(D 4&&(D 5&&(D 6&&(D 7&&(D 8&&(D 9&&(D 10&&(D 11&&(D 12&&(D 13&&(D 14&&(D 15&&true)))))))))))))))))))=_:=hA;simp[aJ,fJ] at hA;have h8:D 15=true:=by simp[hA]
     have h13:D 13=true:=by simp[hA]
     refine JP (zL eI _ q x (ng h8 h7) 0 O hJ hT (hD.slot 15 hA.1 O O) (hD.slot 13 h13 O O) (fun _=>O) O O (qD O)) ?_;rintro _ w' ⟨rfl,hp'⟩;exact⟨hD.congr (fun j hj=>O6),fun _=>⟨by simp[hA],by simp[hA]⟩,fun _=>O6,fun h=>O6,fun _ h=>by simp at h,fun _=>hp'⟩
    |i+18,hi=>exact absurd hi O4
   rintro D F w4 hD ⟨hh,_,_,_,_,zo⟩;have hp:=zo (hD 17 O2);rw[az] at hp;have hF:=hh.same.eq;rw[hF];subst ht;refine tM q ?_;refine qA ?_;refine⟨q,qB O5 O,⟨O1,?_,hp⟩,O1⟩;grind
  rw[aB bv];refine xA (qU ?_);refine KW ?_;refine⟨_,_,qB O5 O,⟨.inl O1,?_,hp⟩,O1⟩;rw[hg,hL,xy bv,←hS];unfold mv;simp
 have ik:z=srt id l:=by
  rw[hz];rcases hi with hi|hi
  ·grind
  subst hi;rw[bJ O1,mG O1,bO]
 subst ik;exact UB
theorem zA3(l b cc k w)(hr:Ba w b cc l)(hc:l.length≤cc)(ha:cc≤maxLen)(hg:l.length≤12):
  Rt 325 [.slice (Ad b) l.length cc,Iv 0,Iv (l.length:Int),Iv k] w (fun _ w'=>ax [b] w w'∧Ba w' b cc (srt id l)):=by
 refine tW func325 ntmps325 fun hp=>?_;refine qA (qQ ([1,2,3]++range' 8 126) (fun _ F=>((F.put 1 (.int _ 0)).put 2 (.int _ _)).put 3 (.int _ k)) (fun _ w'=>w'=w) (fun _=>0) () (qB (qB (qB (ka.eq .refl) O) O) O) O ?_);rintro u ⟨⟩ _ rfl;refine tM (l.length) ?_;refine qA ?_;refine qH O (fun _=>?_) O1;refine tL (jZu l b cc _ hr hc ha O1) ?_;rintro v w1 ⟨hk,oe⟩;refine qA ?_;exact qG1 O ⟨_,O,hk,oe⟩
theorem zA2(x:Nat)(w:World)(hx:x<2^64):Rt 326 [.int .u64 (x:Int)] w (fun v w'=>∃t:Nat,v=Iv (t:Int)∧ax [] w w'):=by
 refine tW func326 ntmps326 fun hp=>?_;refine AL ?_;refine tK (jWi x _ O1) ?_;rintro _ w1 ⟨t,rfl,_,_,hk⟩;have hp:=hp.V hk;refine tV ?_;exact⟨_,O,t,O,hp.Z⟩
theorem zAo(l b cc w)(hr:Ba w b cc l)(hc:l.length≤cc)(ha:cc≤maxLen)(hg:l.length≤12):
  Rt 241 [.slice (Ad b) l.length cc] w (fun _ w'=>ax [b] w w'∧Ba w' b cc (srt id l)):=by
 refine tW func241 ntmps241 fun hp=>?_;refine Cj ?_;refine AP ?_;refine Hc ?_;refine ke (zX O O O) (qF (wU (m:=l.length) O1)) ?_;refine tK (zA2 l.length _ O1) ?_;rintro _ w1 ⟨t,rfl,rf⟩;have hp:=hp.V rf;refine tL (zA3 l b cc _ _ (by have⟨o,ho,hr⟩:=hr;exact⟨o,(rf.block b (aM.1 ho).1 O4).trans ho,hr⟩) hc ha hg) ?_;rintro v w2 ⟨hk,oe⟩;refine qA ?_;exact xK O ⟨_,O,hp.Z.after hk,oe⟩
variable{d:Option Tmp}{g:Option (Nat×Bool)}{y:Operand}
section
variable{L:List kr}{pos:String}{x:Operand}
theorem qNy(zs):∀(m:Nat),(madeCells zs.toArray (m*zs.length)).toList=(replicate m zs).flatten:=by
 have hg:∀i k,i<k*zs.length→(madeCells zs.toArray (k*zs.length)).toList[i]? =zs[i%zs.length]?:=fun i k h=>by
  have hz:0<zs.length:=by
   rcases dG zs.length with e|e
   ·grind
   exact e
  have hm:=dY i hz;simp[madeCells,h,hm]
 intro m;induction m with
 |zero=>simp[madeCells]
 |succ m ih=>
  rw[List.replicate_succ',List.flatten_append,←ih];apply dI;intro i;have hl:(madeCells zs.toArray (m*zs.length)).toList.length=m*zs.length:=by simp[Nr]
  have qq:(madeCells zs.toArray ((m+1)*zs.length)).toList.length=(m+1)*zs.length:=by simp[Nr]
  rcases lU i (m*zs.length) with h|h
  ·grind
  rw[fQ O1,hl];simp only[List.flatten_cons,List.flatten_nil,bO];rcases lU i ((m+1)*zs.length) with h2|h2
  ·rw[hg i _ h2];rw[iV] at h2;obtain⟨j,rfl⟩:∃j,i=m*zs.length+j:=⟨i-m*zs.length,O1⟩;rw[dC,Nat.mul_add_mod,aZ O1,iC]
  grind
theorem jCn(enc:α→List Value)(x0:α){t e ba m k:Nat}{kl kc:IntKind}{z:Value}(hp:Hp w0 M w L)(ht:P.underlying t=some (.slice e))(hs:kz P e k)(hz:kx P e z)(x5:Az P e ba)
  (hx:ev n F x= .int kl m) (hy:ev n F y= .int kc m) (ha:z.cells=(enc x0).toArray) (hk:(enc x0).length=k) (hm:(ba+1)*m<281000000000000):
  gx P n ⟨d,.makeSlice t x y,ty,pos,aft,g⟩ F w (fun u w'=>∃b,u= .slice (Ad b) m m∧kg (Ad b) m (replicate m x0)∧Hp w0 M w' (qG enc e k (Ad b) m (replicate m x0)::L)):=by
 have⟨inf,hg,hE⟩:=x5.ex;have hh:=by
  exact Mm
 have xz:=by
  exact PT
 rw[eL,mH] at hm;have hj:inf.bytes*(m:Int)≤281474976710656:=by
  exact UF
 have hr:=run_make w t e _ z ht hg xz kl kc m m O1 O1 hj O1;have hQ:(replicate m x0).length=m:=O4;have hl:(replicate m x0).flatMap enc=(replicate m (enc x0)).flatten:=by
  rw[List.flatMap_def,List.map_replicate]
 refine xN (w':=w.alloc (.cells (madeCells z.cells (m*k)) e)) ?_ ⟨w.heap.size,O,?_,?_⟩
 ·rw[hh] at hr;simp[execOp,hx,hy,hr]
 ·exact .inr ⟨_,m,O,O1,by unfold maxLen;omega⟩
 unfold qG;rw[hl,hQ];refine hp.alloc _ ⟨_,O,by simp[Jq,Nr],?_⟩;rw[ha,←hk,qNy,bJ];simp[hk]
end
section
variable{L:List kr}{pos:String}{x:Operand}
theorem N0(enc:α→List Value)(x0:α){t e ba m k:Nat}{kl kc:IntKind}{z:Value}(hp:Hp w0 M w L)(ht:CQ t=some (e,k))(hz:wT e=some z)(x5:GW e=some ba)
  (hx:ev n F x= .int kl m) (hy:ev n F y= .int kc m) (ha:z.cells=(enc x0).toArray) (hk:(enc x0).length=k) (hm:(ba+1)*m<281000000000000):
  gx prog n ⟨d,.makeSlice t x y,ty,pos,aft,g⟩ F w (fun u w'=>∃b,u= .slice (Ad b) m m∧kg (Ad b) m (replicate m x0)∧Hp w0 M w' (qG enc e k (Ad b) m (replicate m x0)::L)):=
 jCn _ x0 hp (zK ht).1 (zK ht).2 (qJ hz) (Kz x5) hx hy ha hk hm
end
def DX:Option Rat→List Value
 |none=>DV
 |some q=>eQ q
theorem LK(q):(DX q).length=3:=by cases q<;>rfl
theorem R0{n}(f):qG DX 49 3 s c (lm n fun i=>some (f i))=qG eQ 49 3 s c (lm n f):=by
 unfold qG lm;rw[oZ,oZ,aH,aH];rfl
theorem RL{n:Nat}{f g:Nat→α}:(lm n fun i=>if i<k then f i else g i).set k (f k)=lm n fun i=>if i<k+1 then f i else g i:=by
 rw[vF];grind
theorem jV7{n:Nat}(h:n≤40):IntKind.i64.wrap (1*2^min ((n:Int)).toNat IntKind.i64.bits)=((2^n:Nat):Int):=by
 have h1:_≤2^40:=bG O2 h;have h2:min ((n:Int)).toNat IntKind.i64.bits=n:=by
  show min ((n:Int)).toNat 64=n
  omega
 rw[h2,Nj];have h3:((2:Int)^n)=(2^n:Nat):=O4;rw[h3];have h4:_≤1099511627776:=h1;generalize 2^n=m at h4;exact qK O1 O1
def yK(y:Nat→Rat):Nat→Rat
 |0=>0
 |k+1=>if k=0∨y k<yK y k then y k else yK y k
theorem Sl{y κ n}(h:∀i,i<n→BQ κ (y i))(h1:1≤κ):∀k,k≤n→BQ κ (yK y k)
 |0,_=>BQ.zero h1
 |k+1,hk=>by
  unfold yK;split
  ·grind
  exact Sl h h1 k O1
theorem N7{y}:∀k i,i<k→yK y k≤y i
 |k+1,i,h=>by
  unfold yK;by_cases hc:k=0∨y k<yK y k
  ·rw[if_pos hc];rcases dH.1 h with h|rfl
   ·have:=N7 (y:=y) k i h;grind
   simp
  rw[if_neg hc];rcases dH.1 h with h|rfl
  ·exact N7 k i h
  grind
def CT(y:Nat→Rat)(n i:Nat):Nat:=CS (fun i=>y i-yK y n) n i*2^n+2^(n-1-i)
theorem zAq(n:Nat)(y:Nat→Rat)(s:Option Addr)(c κ:Nat)(W:World)(hs:ig W 3 eQ s (lm n y))(hb:∀i,i<n→BQ κ (y i))(ha:1≤κ)(hn:n≤40)(hκ:(κ+κ+1)*(n+2)+n+20≤1000000000000):
  Rt 239 [.slice s n c] W (fun v w'=>∃g,v= .slice (Ad g) n n∧kg (Ad g) n (lm n (CT y n))∧Hp W [] w' [qG Hf 34 1 (Ad g) n (lm n (CT y n))]):=by
 have ht:=Sl hb ha
 have hj:=fun i hi=>(hb i hi).sub (ht n O1)
 have h5:∀i,i<n→0≤y i-yK y n:=fun i hi=>by
  have:=N7 (y:=y) n i hi;grind
 rw[iJ] at hκ;have b1:∀i,i<n→Fit _:=fun i hi=>Fit.of (Sn hj hi) O1
 have h4:∀k,k≤40→Fit (2^k):=fun k hk=>Fit.of (k:=k+1) (gK O2 O1) O1
 have h3:∀k,k≤40→2^k≤1099511627776:=fun k hk=>bG O2 hk
 have hz:∀i,i<n→Fit _:=fun i hi=>Fit.of (yD (Sn hj hi) (gK O2 (pA n))) O1
 refine tW func239 ntmps239 fun hp=>?_;refine tD (wM _) fun w1 hp=>?_;refine tQ fun w2 b3 hp=>?_;refine tS fun w3 hp=>?_;have hp:=hp.I 0 (eQ 0) O O;refine qA (qQ ([4,5]++range' 18 15) (fun(k:Nat) F=>F.put 18 (.int _ k)) (fun k w'=>k≤n∧Hp W [] w' [bu b3 3 (qE (eQ (yK y k))) 49]) (fun k=>n-k) 0 (qB (ka.eq .refl) O) ⟨O1,hp⟩ ?_);clear hp;rintro u k w4 ⟨hk,hp⟩;refine tI (fun h=>?_) fun h=>?_
 ·have hl:k<n:=O1;have⟨bs,os,hh,hc⟩:=jR hs hl;have hc:=fun j v e=>hp.j3 (hc j v e)
  subst hh;refine qA (tR (qL O O O O hc) ?_);refine tQ fun w5 b5 hp=>?_;refine qR ?_;refine tR qY (tS fun w6 hp=>?_);have hp:=hp.I 0 (eQ _) O O;have hp:Hp W [] w6 [bu b5 3 _ 49,_]:=hp;refine qR ?_;refine tR qP ?_;rcases dG k with h0|h0
  ·refine ke (zW O O) (qV (aD O1)) (jL ?_);refine jB O (Cc fun w hp=>?_)
   have e:yK y (k+1)=y k:=by
    show(if k=0∨_ then _ else _)=_
    rw[if_pos (.inl h0)]
   exact mEi
  refine ke (zW O O) (qV (aB O1)) (tE (IM _ (hb k hl) (ht k O1) O1) fun w7 hp=>?_);by_cases bv:y k<yK y k
  ·have d1:=aD (jHn bv);refine jL ?_;rw[d1];refine jB O ?_;refine Cc fun w hp=>?_
   have e:yK y (k+1)=y k:=by
    show(if k=0∨_ then _ else _)=_
    rw[if_pos (.inr bv)]
   exact mEi
  have d1:decide (wH (y k) (yK y k)<0)=_:=aB (by have:=jHo bv;omega);refine jL ?_;rw[d1];refine qN O ?_;have e:yK y (k+1)=yK y k:=by
   show(if k=0∨_ then _ else _)=_
   rw[if_neg O6]
  rw[←e] at hp;exact Jn
 obtain rfl:n=k:=O1;refine qA ?_;refine tF (N0 DX none hp O O O O O O O O1) fun w4 g⟨hv,hp⟩=>?_;rw[Ec] at hp hv;have sa:∀f:Nat→Option Rat,kg _ n (lm n f):=fun f=>jZ hv (by rw[qT,qT])
 rw[JT (f:=fun i=>some (y i-yK y n))] at hp;have hp:=hp;refine qA (qQ ([7,8]++range' 38 12) (fun(k:Nat) F=>F.put 38 (.int _ k)) (fun k w'=>k≤n∧Hp W [] w' [qG _ 49 3 _ n (lm n fun i=>if i<k then some (y i-yK y n) else none),_]) (fun k=>n-k) 0 (qB (ka.eq .refl) O) ⟨O1,hp⟩ ?_);clear hp;rintro u k w5 ⟨hk,hp⟩;refine tI (fun h=>?_) fun h=>?_
 ·have hl:k<n:=O1;have⟨bs,os,hh,hc⟩:=jR hs hl;have hc:=fun j v e=>hp.j3 (hc j v e)
  refine qA (tR (qL O O O O hc) ?_);refine tQ fun w6 b8 hp=>?_;refine tR qY (tS fun w7 hp=>?_);refine tD (HJ _ (hb k hl) (ht n O1) O1) fun w8 hp=>?_;refine qA (tO (vL _ _ k (some _) hp 1 O (sa _) (by rw[qT];omega) O O LK O O (qD O)) fun w9 hp=>?_);rw[JQ] at hp;exact Jn
 obtain rfl:n=k:=O1;rw[JU,R0] at hp;have hR:=qZ hp 0 O (jZ hv (by rw[qT,qT])) (fun _=>O);refine tL (X7 n _ _ _ _ _ hR hj h5 O1 O1) ?_;rintro _ w6 ⟨ga,rfl,hx,hq⟩;have hp:=hp.C hq;clear hq;have hp:=hp.x (eY _ _);refine qA ?_;have h6:=h3 n hn;refine ke (J3 O O O1) (qF (jV7 hn)) (tC (Aw (2^n:Nat) _ O1) fun w7 hp=>?_);rw[dW];refine qA ?_;have sc:∀f:Nat→Nat,kg _ n (lm n f):=fun f=>jZ hx (by rw[qT,qT])
 have hm:Hp W [] w7 [qG Hf 34 1 (Ad ga) n (lm n fun i=>if i<0 then CT y n i else CS (fun i=>y i-yK y n) n i)]:=by
  rw[jH (g:=CS (fun i=>y i-yK y n) n) (fun i _=>if_neg (mU i))];exact hp
 clear hp;refine qQ ([13,14]++range' 62 20) (fun(k:Nat) F=>F.put 62 (.int _ k)) (fun k w'=>k≤n∧Hp W [] w' [qG _ 34 1 _ n (lm n fun i=>if i<k then CT y n i else CS _ n i)]) (fun k=>n-k) 0 (qB (ka.eq .refl) O) ⟨O1,hm⟩ ?_;clear hm;rintro u k w8 ⟨hk,hp⟩;refine tI (fun h=>?_) fun h=>?_
 ·have hl:k<n:=O1;have hg:(lm n fun i=>if i<k then CT y n i else CS (fun i=>y i-yK y n) n i)[k]? =some (CS (fun i=>y i-yK y n) n k):=by
   rw[yI hl,if_neg (Nat.lt_irrefl _)]
  have hy:=zS hp 0 O (sc _) (fun _=>O) hg 0 _ O;have h7:=h3 (n-1-k) O1;refine qA ?_;refine jU jG O3 (fun w'=>Hp W [] w' _) hp.U ?_;have hp:=hp.U;refine tH (Bc _ _ _ (b1 k hl) (h4 n hn)) fun w9 hp=>?_;refine qX ?_;refine tN (n-1) ?_;refine qX ?_;refine tN (n-1-k) ?_;refine kp O (fun w hp=>J3 O O O1) (qF (jV7 O1)) (tG (Aw (2^(n-1-k):Nat) _ O1) fun uy hp=>?_);refine tG (Eh _ _ _ (hz k hl) (h4 (n-1-k) O1)) fun uz hp=>?_;refine qX ?_;apply xH;rfl;rfl;exact zL _ _ k (CT y n k) hp 0 O (sc _) O6 O O (fun _=>O) O O (qD O);rintro _ u0 ⟨rfl,hp⟩;refine qU ?_;rw[RL] at hp;exact Fp
 obtain rfl:n=k:=O1;have e:(lm n fun i=>if i<n then CT y n i else CS (fun i=>y i-yK y n) n i)=_:=jH fun i hi=>if_pos hi
 rw[e] at hp;refine tV ?_;exact⟨_,O,ga,O,sc _,hp⟩
theorem Yl{f:Q}{w:Nat→Nat}{B:Nat}(hw:∀i,i<f.N→w i≤B):∀(d:Nat) (s:wj),f.N-s.next=d→(f.best w d s).1≤d*B
 |0,s,_=>by
  rw[Q.best];grind
 |d+1,s,hd=>by
  have hn:∀b t,f.k4 s b=some t→t.next=_+1:=fun b t h=>by
   unfold Q.k4 at h;have hx:∀{u v:wj},f.tidy u=some v→v.next=u.next:=fun{u v} h=>by
    unfold Q.tidy at h;split at h
    ·cases h
    cases hr:f.p5 _ _ 0 _ _ with
    |none=>rw[hr] at h;cases h
    |some cs=>rw[hr] at h;cases h;rfl
   rw[hx h];cases b<;>rfl
  have ih:=fun b t h=>Yl hw d t (by rw[hn b t h];omega)
  have ha:=hw s.next O1;rw[iV];by_cases h0:s.left=0
  ·rw[Q.best,if_pos h0];omega
  cases hf:f.k4 s false with
  |none=>
   cases hs:f.k4 s true with
   |none=>
    simp only[Q.best,if_neg h0,hf,hs];omega
   |some t=>
    simp only[Q.best,if_neg h0,hf,hs];grind
  |some u=>
   have hu:=ih _ _ hf;cases hs:f.k4 s true with
   |none=>
    simp only[Q.best,if_neg h0,hf,hs];omega
   |some t=>
    simp only[Q.best,if_neg h0,hf,hs];grind
def AT(f:Q)(w:Nat→Nat)(s:wj):Nat×Bool×Bool:=f.best w (f.N-s.next) s
def D7(f:Q)(w:Nat→Nat)(s:wj):Nat×Bool×Bool:=match f.k4 s false with
 |some t=>((AT f w t).1,false,(AT f w t).2.2)
 |none=>(0,false,false)
theorem jIe{w s}(h0:s.left=0):AT f w s=(0,false,true):=by
 unfold AT;cases f.N-s.next<;>rw[Q.best,if_pos h0]
theorem ZA{w s}(h:f.Ok s)(h0:0<s.left):AT f w s=match f.k4 s true with
  |some t=>if(AT f w t).2.2&&(!(D7 f w s).2.2||decide ((D7 f w s).1<(AT f w t).1+w s.next)) then((AT f w t).1+w s.next,true,true) else D7 f w s
  |none=>D7 f w s:=by
 have hl:=h.lt h0;obtain⟨d,hd⟩:∃d,f.N-s.next=d+1:=⟨f.N-s.next-1,O1⟩;have hB:∀b t,f.k4 s b=_→AT f w t=_:=fun b t ht=>by
  unfold AT;rw[(wW h h0 ht).2.1,show f.N-(s.next+1)=d by omega]
 show f.best w _ s=_
 have hj:¬s.left=0:=O1;rw[hd];unfold D7;cases hf:f.k4 s false with
 |none=>
  cases hs:f.k4 s _ with
  |none=>simp[Q.best,if_neg hj,hf,hs]
  |some t=>simp[Q.best,if_neg hj,hf,hs,hB _ _ hs]
 |some u=>
  cases hs:f.k4 s _ with
  |none=>simp[Q.best,if_neg hj,hf,hs,hB _ _ hf]
  |some t=>simp[Q.best,if_neg hj,hf,hs,hB _ _ hs,hB _ _ hf]
def eA(r:Nat×Bool×Bool):List Value:=[.string (ki r.1),.bool r.2.1,.bool r.2.2]
def aV(r:Nat×Bool×Bool):Value:=.agg (eA r).toArray
def At(f:Q)(w:Nat→Nat)(g:EK→Option Value):Prop:=∀(t:wj) (h:t.cs.length=12) (v:Value),SI f t→g (Ex t h)=some v→v=aV (AT f w t)
theorem At.put{w}{g:EK→Option Value}(h:At f w g){s}(hc:s.cs.length=12):At f w (fun x=>if x=Ex s hc then some (aV (AT f w s)) else g x):=by
 intro t ht v hS hg;simp[] at hg;by_cases e:Ex t ht=Ex s hc
 ·have:=Zl (aK Subtype.val e);grind
 rw[if_neg e] at hg;exact h t ht v hS hg
structure BA where
 kb:Nat
 fb:Nat
 bb:Nat
 wb:Nat
 ob:Nat
 mp:Nat
 gw:Nat
 cw:Nat
 go:Nat
 co:Nat
def BA.fn(b:BA):Value:=.func (.func 240) #[] #[.pointer (some ⟨b.kb,0,none⟩),.pointer (some ⟨b.fb,0,none⟩),.pointer (some ⟨b.bb,0,none⟩),.pointer (some ⟨b.wb,0,none⟩),.pointer (some ⟨b.ob,0,none⟩)]
structure Cq(b:BA)(a:Hm)(d:DW)(f:Q)(n:Nat)(wv:Nat→Nat)(o:List Nat)(w:World):Prop where
 hs:AI a d f w
 hk:w.cell? ⟨b.kb,0,none⟩=some (.map (some b.mp))
 hf:w.cell? ⟨b.fb,0,none⟩=some (.pointer (some ⟨a.sb,0,none⟩))
 hb:w.cell? ⟨b.bb,0,none⟩=some b.fn
 hw:w.cell? ⟨b.wb,0,none⟩=some (.slice (some ⟨b.gw,0,none⟩) n b.cw)
 ho:w.cell? ⟨b.ob,0,none⟩=some (.slice (some ⟨b.go,0,none⟩) o.length b.co)
 hW:ig w 1 Hf (some ⟨b.gw,0,none⟩) (lm n wv)
 hO:ig w 1 eN (some ⟨b.go,0,none⟩) o
theorem Cq.k8{b a d f n wv o w w'}(h:Cq b a d f n wv o w)(hk:pd w w'):Cq b a d f n wv o w':=
 ⟨h.hs.k8 hk,hk _ _ h.hk,hk _ _ h.hf,hk _ _ h.hb,hk _ _ h.hw,hk _ _ h.ho,hk.o4 h.hW,hk.o4 h.hO⟩
theorem zAp(b:BA)(a:Hm)(d:DW)(f:Q)(n K:Nat)(wv:Nat→Nat)(o:List Nat)(hS:o.length=f.N)(hF:∀x∈o,x<n)(hw:∀i,i<n→wv i≤2^K)(hK:K≤1000000000000-10):∀(m:Nat) (s:wj) (g:EK→Option Value) (W:World),f.N-s.next=m→SI f s→Cq b a d f n wv o W→At f (fun i=>wv (o.getD i 0)) g→Hp W [b.mp] W [zV Bx b.mp g]→
  Rt 240 [.agg (kj (Am s)).toArray,.pointer (some ⟨b.kb,0,none⟩),.pointer (some ⟨b.fb,0,none⟩),.pointer (some ⟨b.bb,0,none⟩),.pointer (some ⟨b.wb,0,none⟩),.pointer (some ⟨b.ob,0,none⟩)] W (fun v w'=>v=aV (AT f (fun i=>wv (o.getD i 0)) s)∧∃g',At f (fun i=>wv (o.getD i 0)) g'∧Hp W [b.mp] w' [zV Bx b.mp g']):=by
 intro m;induction m using Nat.strongRecOn with
 |_ m ih=>
 intro s g W hm hI hB hg hp;have h14:(kj (Am s)).length=14:=by rw[vC];simp[Am,hI.c]
 have hN:=hB.hs.lN;have hE:∀i,i<_→∃x,_=_∧o.getD i 0=x∧x<n:=fun i hi=>⟨_,aA hi,O6,hF _ (bX hi)⟩
 have hL:∀t,(AT f (fun i=>wv (o.getD i 0)) t).1<2^(K+7):=fun t=>by
  have h1:=Yl (f:=f) (fun i hi=>by
   have⟨x,_,e,hx⟩:=hE i O1;show wv (o.getD i 0)≤_
   rw[e]
   exact hw x hx) _ t O
  have h2:(f.N-t.next)*2^K≤40*2^K:=aL _ O1;have h3:=nT K;rw[eK];show(f.best _ _ _).1<_
  omega
 have n2:∀i,i<n→_<2^(K+1):=fun i hi=>bW (hw i hi) (gK O2 O1)
 have mT:prog.underlying 314=some (.map 293 317):=O3;have hy:∀{w':World} {L:List _},Hp W _ w' L→pd W w':=fun h=>pd.of h.keeps (L3 hp 0 O)
 refine km.j6 func240 O ntmps240 O (qR ?_);refine tF (kW (cs:=kj _) hp O O h14) fun w1 b6 hp=>tQ fun w2 b7 hp=>?_;have hp:Hp W _ w2 [bu b7 3 (qE (eA (0,false,false))) 317,bu b6 14 _ 293,_]:=hp;refine tI (fun h=>?_) fun h=>?_
 ·have h0:s.left=0:=O1;refine tT fun w3 hp=>?_;refine qA ?_;exact zJ O O O O (hp.j2 0 O O) ⟨_,O,by rw[jIe h0];rfl,g,hg,hp.E.E⟩
 have h0:0<s.left:=O1;have hl:=hI.ok.lt h0;have h6:∀k,s.cs.getD k 0≤39:=fun k=>by have:=hI.b k;omega
 have hM:=hy hp;have ci:=hM _ _ hB.hk;refine qR (ke (qS O O ci) (O:_=Value.map (some b.mp)) ?_);refine ke (qL O O O h14 (hp.i6 1 O h14)) O (ke (qH0 hp 2 O O O mT (qJ O)) (O:_=Value.tuple #[(g (Ex s hI.c)).getD (aV (0,false,false)),_]) ?_);cases hgs:g (Ex s hI.c) with
 |some v=>
  obtain rfl:=hg s hI.c v hI hgs;refine qA ?_;refine tQ fun w3 b8 hp=>?_;refine tS fun w4 hp=>?_;refine qA (jB O ?_);refine tT fun w5 hp=>?_;refine qA ?_;exact zJ O O O O (hp.j2 1 O O) ⟨_,O,O,g,hg,hp.E.E.E⟩
 |none=>
  refine qA ?_;refine tQ fun w3 b8 hp=>?_;refine tS fun w4 hp=>?_;have hp:=hp.I 0 (eA _) O O;refine AL ?_;refine tQ fun w5 ba hp=>?_;have hp:Hp W _ w5 [bu _ 3 (qE (eA (0,false,false))) 317,bu b8 3 _ 317,_,_,_]:=hp;have hp:=hp.j4 [0,2,3,4] [_,_,_,_] O2 O;have hD:=hy hp;have ca:=hD _ _ hB.hf;refine qR (ke (qS O O ca) (O:_=Value.pointer (some ⟨a.sb,0,none⟩)) ?_);refine ke (qL O O O h14 (hp.i6 2 O h14)) O (tK (KS a d f s _ _ (hB.hs.k8 hD) hI.aA9 h6 hl h0) ?_);rintro v w6 ⟨hv,vy⟩;have hp:=hp.V vy;obtain⟨l,dr,rfl,qq⟩:=I2 hv (fun t ht=>(hI.k4 hN h0 ht).1.c);have ha:(kj l).length=14:=by rw[vC];exact dr
  refine qA (tF (zE (cs:=kj (replicate 14 0)) (m:=14) hp (qJ O) O O) fun w7 be hp=>?_);refine tO (zH (cs:=kj l) hp 0 O O O O (by rw[ha];exact qD O) (by rw[ha];rfl) (vY _)) fun w8 hp=>?_;have hp:=hp.I 0 _ O (yJ _ _ ha);have hp:Hp W _ w8 [bu _ 14 _ 293,_,_,_,_]:=hp;refine qA (EV (fun F' w'=>∃g',At f (fun i=>wv (o.getD i 0)) g'∧CH F' [(1,.pointer (some ⟨b.kb,0,none⟩)),(2,.pointer (some ⟨b.fb,0,none⟩)),(3,.pointer (some ⟨b.bb,0,none⟩)),(4,.pointer (some ⟨b.wb,0,none⟩)),(5,.pointer (some ⟨b.ob,0,none⟩)),(6,.pointer (Ad b6)),(7,.pointer (Ad b7)),(10,.pointer (Ad ba))]∧
   Hp W [b.mp] w' [bu ba 3 (qE (eA (D7 f (fun i=>wv (o.getD i 0)) s))) 317,bu b7 3 (qE (eA (0,false,false))) 317,bu b6 14 (qE (kj (Am s))) 293,zV Bx b.mp g']) ?_ ?_)
  ·cases ho:f.k4 s false with
   |none=>
    have e:D7 f (fun i=>wv (o.getD i 0)) s=(0,false,false):=by
     unfold D7;rw[ho]
    refine tJ ?_;rw[e];exact⟨g,hg,⟨O,O,O,O,O,O,O,O,trivial⟩,hp.E⟩
   |some t=>
    have⟨h4,hz⟩:=hI.k4 hN h0 ho;obtain rfl:=qq t ho;have e:D7 f (fun i=>wv (o.getD i 0)) s=((AT f (fun i=>wv (o.getD i 0)) t).1,false,(AT f (fun i=>wv (o.getD i 0)) t).2.2):=by
     unfold D7;rw[ho]
    refine jB O ?_;have hH:=hy hp;have ce:=hH _ _ hB.hb;refine qR (ke (qS O O ce) O ?_);refine ke (qL O O O ha (hp.i6 0 O ha)) O ?_;have hh:=Hp.k6 (A:=[_,_,_,_]) hp;refine tK (ih _ O1 t g _ O h4 (hB.k8 hH) hg hh) ?_;rintro _ w9 ⟨rfl,g2,ee,zo⟩;have hp:=Hp.back (A:=[_,_,_,_]) hp zo;refine tQ fun uy bf hp=>?_;refine tS fun uz hp=>?_;refine tT fun u0 hp=>?_;have hp:=hp.j4 [2,3,4,5] [_,_,_,_] O2 O;refine qA ?_;rw[e];exact⟨g2,ee,⟨O,O,O,O,O,O,O,O,trivial⟩,hp⟩
  clear hp hD ca;rintro F' w' ⟨g3,xf,xu,hp⟩;refine yL _ xu fun F0=>?_
  clear xu hg hgs;obtain⟨al,qm⟩:∃al,al=D7 f (fun i=>wv (o.getD i 0)) s:=⟨_,O⟩;have xy:=ZA (w:=fun i=>wv (o.getD i 0)) hI.ok h0;have hQ:al.1<2^(K+7):=by
   rw[qm];unfold D7;split
   ·grind
   exact nT _
  rw[←qm] at hp xy;have hD:=hy hp;have ca:=hD _ _ hB.hf;refine qR (ke (qS O O ca) (O:_=Value.pointer (some ⟨a.sb,0,none⟩)) ?_);refine ke (qL O O O h14 (hp.i6 2 O h14)) O (tK (KS a d f s _ _ (hB.hs.k8 hD) hI.aA9 h6 hl h0) ?_);rintro v w6 ⟨hv,vy⟩;have hp:=hp.V vy;obtain⟨l,dr,rfl,qq⟩:=I2 hv (fun t ht=>(hI.k4 hN h0 ht).1.c);have ha:(kj l).length=14:=by rw[vC];exact dr
  refine qA (tF (zE (cs:=kj (replicate 14 0)) (m:=14) hp (qJ O) O O) fun w7 bc hp=>?_);refine tO (zH (cs:=kj l) hp 0 O O O O (by rw[ha];exact qD O) (by rw[ha];rfl) (vY _)) fun w8 hp=>?_;have hp:=hp.I 0 _ O (yJ _ _ ha);have hp:Hp W _ w8 [bu _ 14 _ 293,_,_,_,_]:=hp;refine qA (EV (fun F' w'=>∃g',At f (fun i=>wv (o.getD i 0)) g'∧CH F' [(1,.pointer (some ⟨b.kb,0,none⟩)),(6,.pointer (Ad b6)),(7,.pointer (Ad b7)),(10,.pointer (Ad ba))]∧
   Hp W [b.mp] w' [bu ba 3 (qE (eA (AT f (fun i=>wv (o.getD i 0)) s))) 317,bu b7 3 (qE (eA (0,false,false))) 317,bu b6 14 (qE (kj (Am s))) 293,zV Bx b.mp g']) ?_ ?_)
  ·cases ho:f.k4 s true with
   |none=>
    rw[ho] at xy;refine tJ ?_;rw[xy];exact⟨g3,xf,⟨O,O,O,O,trivial⟩,hp.E⟩
   |some t=>
    have⟨h4,hz⟩:=hI.k4 hN h0 ho;obtain rfl:=qq t ho;rw[ho] at xy;simp only[] at xy;refine jB O ?_;have hH:=hy hp;have ce:=hH _ _ hB.hb;refine qR (ke (qS O O ce) O ?_);refine ke (qL O O O ha (hp.i6 0 O ha)) O ?_;have hh:=Hp.k6 (A:=[_,_,_,_]) hp;refine tK (ih _ O1 t g3 _ O h4 (hB.k8 hH) xf hh) ?_;rintro _ w9 ⟨rfl,g2,ee,zo⟩;have hp:=Hp.back (A:=[_,_,_,_]) hp zo;have hq:=hL t;generalize AT f _ t=r at xy hq;refine tQ fun uy bg hp=>?_;refine tS fun uz hp=>?_;have hp:=hp.I 0 (eA r) O O;have hp:Hp W _ _ [bu _ 3 _ 317,_,_,_,_,_]:=hp;have⟨x,hn,nq,h5⟩:=hE s.next O1;have cO:∀{w':World} {L:List _},Hp W _ w' L→w'.cell? ⟨_,0+_,_⟩=_:=fun h=>by
     have⟨b',o',e,hc⟩:=(hy h).o4 hB.hO _ x hn;cases e;exact hc 0 _ O
    have cW:∀{w':World} {L:List _},Hp W _ w' L→w'.cell? ⟨_,0+x*1,_⟩=_:=fun h=>zM ((hy h).o4 hB.hW) h5 0 _ O
    have hj:s.next<o.length:=O1;have h7:wv (o.getD s.next 0)=wv x:=by rw[nq]
    simp only[h7] at xy;have hJ:=Fit.of (PD O1 (dK (n2 x h5) (bG O2 O1))) O1;refine tY fun hp=>?_;refine qX (kp O (fun w hp=>qS O O ((hy hp) _ _ hB.hw)) O ?_);refine kp O (fun w hp=>qS O O ((hy hp) _ _ hB.ho)) O (qX ?_);refine kp O (fun w hp=>qS O O (cO hp)) O (qX ?_);refine kp O (fun w hp=>qS O O (cW hp)) O (tG (Eh _ _ _ (Fit.of hq O1) (Fit.of (n2 x h5) O1)) fun u0 hp=>?_);refine qX (qU ?_);refine qR ?_;cases hrk:r.2.2 with
    |false=>
     rw[hrk] at xy;have cf:u0.cell? ⟨bg,0+2,none⟩=some (.bool false):=by
      rw[←hrk];exact hp.J 0 O O
     refine E0 ?_;exact P4
    |true=>
     rw[hrk] at xy;simp only[Bool.true_and] at xy;have cf:u0.cell? ⟨bg,0+2,none⟩=some (.bool true):=by
      rw[←hrk];exact hp.J 0 O O
     refine ke (xF O O) (O:_=Value.pointer (some ⟨_,0+2,_⟩)) (tR (qS O O cf) ?_);cases hak:al.2.2 with
     |false=>
      rw[hak] at xy;have cg:u0.cell? ⟨ba,0+2,none⟩=some (.bool false):=by
       rw[←hak];exact hp.J 2 O O
      refine jL (jB O ?_);refine tT fun u5 hp=>?_;refine qA ?_;exact P4
     |true=>
      rw[hak] at xy;simp only[Bool.not_true,Bool.false_or] at xy;have cg:u0.cell? ⟨ba,0+2,none⟩=some (.bool true):=by
       rw[←hak];exact hp.J 2 O O
      refine tE (BY _ _ _ hJ (Fit.of hQ O1)) fun u5 hp=>?_;by_cases bv:al.1<r.1+wv x
      ·rw[if_pos (aD bv)] at xy;rw[if_neg O1,if_neg O1];refine jL (jB O ?_);refine tT fun u2 hp=>?_;refine qA ?_;exact P4
      rw[if_neg O6] at xy;have d1:decide ((if r.1+wv x<al.1 then(-1) else if r.1+wv x=al.1 then 0 else 1)>0)=false:=by
       refine aB ?_;split
       ·decide
       rw[if_pos O1];decide
      refine jL ?_;rw[d1];refine tJ ?_;exact P4
  rintro F' w' ⟨g4,hP,xu,hp⟩;refine yL _ xu fun F0=>?_
  have h9:=hP.put hI.c;have h8:=hy hp;have cc:=h8 _ _ hB.hk;refine qR (ke (qS O O cc) O ?_);refine ke (qL O O O h14 (hp.i6 2 O h14)) O (qA ?_);refine tO (qLc (a:=Ex s hI.c) hp 3 O O O O mT) fun w4 hp=>tT fun w5 hp=>?_;refine qA ?_;exact zJ O O O O (hp.j2 1 O O) ⟨_,O,O,_,h9,hp.E.E.E⟩
variable{fs:Array Field}
section
variable{pos:String}{x:Operand}
theorem qOh{s f vs v}(hs:P.underlying s=some (.struct fs))(hf:fs[i]? =some f)(hx:ev n F x= .agg vs)(hp:∀w,(part f.type vs f.offset).run P w= .ok v w):
  PV P n w F ⟨d,.field s x i,ty,pos,aft,g⟩ v:=by
 simp[PV,execOp,Instr.field,hx,jQ hs,hf,asAgg,hp]
end
theorem YZ(y x):∀A:List Nat,ps y (A++[x])=ps y A+y x
 |[]=>by simp[mC,ps];grind
 |a::A=>by
  show y a+ps y (A++[x])=y a+ps y A+y x
  rw[YZ];grind
theorem NF{y κ n}(h:∀i,i<n→BQ κ (y i)):∀(A:List Nat),(∀i∈A,i<n)→BQ (1+A.length*(κ+1)) (ps y A)
 |[],_=>BQ.zero O4
 |a::A,hA=>by
  refine((h a (hA a O4)).add (NF h A fun i hi=>hA i (by simp[hi]))).mono ?_;rw[cF,iV];omega
def Wy(f:Q)(w:Nat→Nat)(s:wj):List Nat:=f.o6 w (f.N-s.next) s
theorem jLv{w s}(h0:s.left=0):Wy f w s=[]:=by
 unfold Wy;cases f.N-s.next with
 |zero=>rfl
 |succ d=>rw[Q.o6,if_pos h0]
theorem jLw{w s}(h:f.Ok s)(h0:0<s.left)(hm:(AT f w s).2.2=true):∃t,f.k4 s (AT f w s).2.1=some t∧(AT f w t).2.2=true∧Wy f w s=if(AT f w s).2.1 then s.next::Wy f w t else Wy f w t:=by
 have hl:=h.lt h0;obtain⟨d,hd⟩:∃d,f.N-s.next=d+1:=⟨f.N-s.next-1,O1⟩;have hN:∀b t,f.k4 s b=some t→f.N-t.next=d:=fun b t ht=>by
  rw[(wW h h0 ht).2.1];omega
 have hw:∀t,f.k4 s (AT f w s).2.1=some t→Wy f w s=if(AT f w s).2.1 then s.next::Wy f w t else Wy f w t:=fun t ht=>by
  unfold Wy;rw[hN _ _ ht];unfold AT at ht⊢;rw[hd] at ht⊢;simp[Q.o6,if_neg (show¬s.left=0 by omega),ht]
 have xy:=ZA (w:=w) h h0;have hA:(D7 f w s).2.1=false∧((D7 f w s).2.2=true→∃t,f.k4 s false=some t∧(AT f w t).2.2=true):=by
  unfold D7;cases hf:f.k4 s false with
  |none=>simp
  |some t=>simp
 grind
def Aq(d:DW)(l:List EW)(P:List Nat):Prop:=PF l.length (d.Q.map (·.2)) (fun i k=>AC d (l.getD i default) k) d.sz.toNat P
def gW:Value→Prop
 | .slice _ _ _=>True
 | .pointer _=>True
 | .func _ _ _=>True
 | .map _=>True
 | .int .i64 _=>True
 |_=>False
theorem PE{enc:α→List Value}{l}(h:ig w k enc s l)(hk:ax M w w')(hg:∀(x:Addr) (v:Value),gW v→w.cell? x=some v→x.block∉M)(he:∀x,∀v∈enc x,gW v):ig w' k enc s l:=fun i x hx=>by
 have⟨b,o,e,hc⟩:=h i x hx;exact⟨b,o,e,fun j v hv=>hk.cell (hc j v hv) (hg _ v (he x v (aG hv)) (hc j v hv))⟩
theorem Cq.y7{b a d f n wv o w w' M}(h:Cq b a d f n wv o w)(hk:ax M w w')(hq:ig w' 3 DU d.sQ d.Q)(hI:∀i,i<f.N→d.Q.length≠0→a.gi i∉M)(ha:b.gw∉M)
  (hg:∀(x:Addr) (v:Value),gW v→w.cell? x=some v→x.block∉M):Cq b a d f n wv o w':=by
 have hc:∀{x:Addr} {v:Value},gW v→w.cell? x=_→_=_:=fun h1 h2=>hk.cell h2 (hg _ _ h1 h2)
 exact⟨⟨hc trivial h.hs.h0,hc trivial h.hs.h1,hc trivial h.hs.h2,hq,PE h.hs.hI hk hg (by intro x v hv;simp[jO] at hv;subst hv;trivial),fun i hi=>(h.hs.rI i hi).j1 hk (fun xr b o e=>by cases e;exact hI i hi (fun e0=>xr (by rw[e0];rfl))),PE h.hs.hR hk hg (by intro x v hv;simp[jO] at hv;subst hv;trivial),
  fun i hi=>PE (h.hs.rR i hi) hk hg (by intro x v hv;simp[eI] at hv;subst hv;trivial),h.hs.fq,h.hs.lq,h.hs.lN⟩,
  hc trivial h.hk,hc trivial h.hf,hc trivial h.hb,hc trivial h.hw,hc trivial h.ho,ig.y7 h.hW hk ha,PE h.hO hk hg (by intro x v hv;simp[eN] at hv;subst hv;trivial)⟩
theorem jVu(d s sp c cp κ l y W)(hD:DE d s l W)(ze:d.kd=3)(eh:0<d.sz)(x4:l.length≤12)(hs:ig W 3 eQ sp (lm l.length y))(hb:∀i,i<l.length→BQ κ (y i))(hQ:1≤κ)(hκ:(κ+κ+1)*(l.length+2)+l.length+20≤1000000000000):
  Rt 167 [d.v,.slice s l.length c,.slice sp l.length cp] W (fun v w'=>
   (∃sP cP P,v= .tuple #[.slice sP P.length cP,QV (ps y P),.bool true]∧Aq d l P∧(∀P',Aq d l P'→ps y P'≤ps y P)∧kg sP cP P∧Hp W [] w' [qG eN 3 1 sP cP P])∨
   (v= .tuple #[Zs,.agg DV.toArray,.bool false]∧(∀P,¬Aq d l P)∧ax [] W w')):=by
 have hL:=hD.lq;have ys:=hD.le;have hz:0≤d.sz:=O1;refine tW func167 ntmps167 fun hp=>?_;refine qR ?_;refine tQ fun w1 bd hp=>?_;have hp:=hp.I 0 d.L O O;refine qR ?_;refine ke qY (O:_=Value.slice _ 0 0) (tQ fun w2 b7 hp=>?_);have hp:Hp W [] w2 [bu b7 3 (qE DV) 49,bu bd 13 _ 28]:=hp;refine qR ?_;refine tR qY (qR ?_);refine ke (qL O O O O (hp.i6 1 O O)) (O:_=d.v) (ke qP (O:_=Value.slice s _ c) ?_);refine tC (U3 d s _ c _ hL ys) fun w3 hp=>?_;rw[aD ze];have d1:(!decide (l.length=(l.length:Int)))=false:=O4;refine jL ?_;rw[d1];refine jL (qN O ?_);refine qR (ke (qL O O O O (hp.i6 1 O O)) (O:_=d.v) ?_);refine ke qP (O:_=Value.slice s _ c) (tK (zAr d s c l _ (hD.j1 hp.Z) O1) ?_);rintro _ w4 ⟨bo,o,rfl,cM,xh,xp,tq,hpo⟩;have hp:=hp.C hpo;clear hpo;refine tQ fun w5 b9 hp=>?_;refine tS fun w6 hp=>?_;have hp:=hp.I 0 [.slice _ _ _] O O;have hp:Hp W [] w6 [bu b9 1 _ 22,_,_,_]:=hp;refine qR (ke (qL O O O O (hp.i6 3 O O)) (O:_=d.v) ?_);refine ke qP (O:_=Value.slice s _ c) (ke (qS O O (hp.J 0 O O)) (O:_=Value.slice _ _ _) ?_);refine tK (Fk d s _ c _ l o _ (hD.j1 hp.Z) (qZ hp 1 O tq (fun _=>O)) xh xp hz) ?_;rintro _ w7 ⟨a,pa,la,ot,rfl,hE,xk,p2⟩;have p2:=fun i hi=>dK (hp.aC6 _ (aG (i:=2) O) b7 O) (p2 i hi);have xw:=hp.V xk;clear hp;have h6:(kj la).length=14:=by rw[vC];exact hE.len
 have c9:w7.cell? ⟨b9,0,_⟩=some (.slice _ _ o.length):=xw.J 0 O O;have cO:=qZ xw 1 O tq (fun _=>O);have hp:=Hp.start (M:=[]) (w:=w7);refine qA ?_;refine tQ fun w8 ba hp=>tF (zE (cs:=kj (replicate 14 0)) (m:=14) hp (qJ O) O O) fun w9 be hp=>?_;have hp:Hp w7 [] w9 [bu _ 14 _ 293,bu _ 1 _ 289]:=hp;refine tS fun uy hp=>?_;have hp:=hp.I 1 [.pointer pa] O O;refine tO (zH (cs:=kj _) hp 0 O O O O (by rw[h6];exact qD O) (by rw[h6];rfl) (vY _)) fun uz hp=>?_;have hp:=hp.I 0 _ O (yJ _ _ h6);have hp:Hp w7 [] _ [_,_]:=hp;refine qA ?_;have hF:∀P,Aq d l P↔PF o.length _ _ _ P:=fun P=>by rw[xh];rfl
 have xl:∀i j,i<_→j<_→o.getD i 0=o.getD j 0→i=j:=fun i j hi hj e=>by
  have hn:=cM.nodup_iff.2 List.nodup_range;rw[aC,aC,aA hi,aA hj] at e;exact(oU hn).1 e
 have ha:∀i,i<_→o.getD i 0<o.length:=fun i hi=>by
  rw[aC,aA hi,xh];exact xp _ (bX hi)
 have xv:∀i,i<o.length→∃j,j<o.length∧o.getD j 0=i:=fun i hi=>by
  have:i∈o:=cM.mem_iff.2 (aR.2 O1);have⟨j,hj,e⟩:=pD this;exact⟨j,hj,by rw[aC,aA hj];exact e⟩
 have yv:(d.Q.map (·.2)).length≤12:=by rw[aH];exact hL
 cases hot:ot with
 |none=>
  subst hot;have hK:∀P,¬Aq d l P:=fun P hP=>by
   have⟨T,hT,_⟩:=((hF P).1 hP).o6 xl xv;exact hE.no O T ((LY (inn:=fun i k=>AC d (l.getD i _) k) T).2 hT)
  refine jB O ?_;have hU:=xw.C hp;refine qA (tO (qW hU 4 O O O O (qD O) O) fun u0 hU=>?_);refine qA ?_;exact⟨_,Mj O O O O O O O (hU.i6 4 O O),⟨_,O,.inr ⟨O,hK,hU.Z⟩⟩⟩
 |some t0=>
  subst hot;obtain⟨rfl,rfl,zb,hS⟩:=hE.yes t0 O
  have⟨x6,i1⟩:=jCv hL O1 (by
   refine bZ fun hn=>?_
   have:(ku d l o).tidy (Bu d)=none:=by
    unfold Q.tidy;rw[if_pos];show d.sz.toNat>o.length-0
    omega
   grind) zb
  have hN:(ku d l o).N=o.length:=O;have iq:_=0:=(wJ (by show(d.Q.map _).length≤12;omega) zb).1;have jk:_=d.sz.toNat:=(wJ (by show(d.Q.map _).length≤12;omega) zb).2.1;refine tJ ?_;refine tK (zAq _ y sp cp κ _ ((hs.i7 xw.Z).i7 hp.Z) hb hQ O1 hκ) ?_;rintro _ u0 ⟨gw,rfl,yy,hpo⟩;have hp:=hp.C hpo;clear hpo;refine tQ fun u5 bc hp=>?_;refine tS fun hH hp=>?_;have hp:=hp.I 0 [.slice _ _ _] O O;refine qR (tF (qJs Bx hp) fun u4 mp hp=>?_);refine tQ fun u3 kb hp=>?_;refine tS fun vb hp=>?_;have hp:=hp.I 0 [.map _] O O;refine qR ?_;refine tQ fun vd bg hp=>?_;refine qR (ke kY (O:_=Value.func (.func 240) #[] #[.pointer _,.pointer _,.pointer _,.pointer _,.pointer _]) ?_);refine tS fun vc hp=>?_;obtain⟨B,hB⟩:∃B:BA,B=⟨kb,ba,bg,bc,b9,mp,gw,l.length,bo,o.length⟩:=⟨_,O⟩;have rb:B.fn= .func (.func 240) #[] #[.pointer (Ad kb),.pointer (Ad ba),.pointer (Ad bg),.pointer (Ad bc),.pointer (Ad b9)]:=by rw[hB];rfl
  have hp:=hp.I 0 [B.fn] O (by rw[rb];rfl);have hp:Hp w7 [] _ ([bu _ 1 _ 315,bu kb 1 _ 314,bu _ 1 _ 36,_,_,_]++[_]):=hp.j4 [0,1,3,4,5,6,2] _ O2 O;have y2:=(hp.own 4 _ O _ O).resolve_right O4;have zl:=(hp.own 6 _ O mp O).resolve_right O4;have qj:∀i,i<o.length→d.Q.length≠0→_<_:=fun i hi xr=>(hS.rI i hi).lt (fun _=>O) O2 (fun e=>xr (by have:=aK List.length e;rwa[qT] at this)) O
  have xt:Cq B a d (ku d l o) l.length (CT y l.length) o vc:=by
   rw[hB];refine⟨hS.j1 hp.Z,hp.J 1 O O,hp.J 5 O O,?_,hp.J 2 O O,hp.j3 c9,qZ hp 3 O yy (fun _=>O),cO.i7 hp.Z⟩;exact(hp.J (o:=0) 0 O O).trans (aK some rb)
  have xc:B.mp=mp:=by rw[hB]
  have xe:∀(t:wj) (g:EK→Option Value) (Wc:World),SI (ku d l o) t→Cq B a d (ku d l o) l.length (CT y l.length) o Wc→At (ku d l o) (fun i=>CT y l.length (o.getD i 0)) g→Hp Wc [mp] Wc [zV Bx mp g]→
    Rt 240 ([.agg (kj (Am t)).toArray]++[.pointer (Ad kb),.pointer (Ad ba),.pointer (Ad bg),.pointer (Ad bc),.pointer (Ad b9)]) Wc (fun v w'=>v=aV (AT (ku d l o) (fun i=>CT y l.length (o.getD i 0)) t)∧∃g',At (ku d l o) (fun i=>CT y l.length (o.getD i 0)) g'∧Hp Wc [mp] w' [zV Bx mp g']):=fun t g Wc h1 h2 h3 h4=>by
   have hV:=fun i hi=>(hb i hi).sub (Sl hb hQ _ (aS _))
   have x3:=hκ;rw[iJ] at x3;have x0:∀i,i<l.length→CT y l.length i≤2^(((κ+κ+1)*l.length+1+(κ+κ+1))+(l.length+1)+1):=fun i hi=>by
    refine oV (PD (yD (Sn hV hi) (gK O2 O1)) (gK O2 O1))
   have:=zAp B a d _ _ _ _ o O xp x0 O1 _ t g Wc O h1 h2 h3 O6;rw[xc] at this;grind
  refine qR ?_;refine ke (qS O O (hp.J 0 O O)) rb ?_;refine ke (qL O O O h6 (hp.i6 4 O h6)) (O:_=Value.agg (kj (Am t0)).toArray) ?_;have h9:=Hp.k6 hp;refine tK (xe t0 _ _ x6 xt (fun _ _ _ _ e=>by cases e) h9) ?_;rintro _ ve ⟨rfl,wh,il,zo⟩;have xt:=xt.k8 (pd.of zo.Z (L3 hp 6 O));have hp:=Hp.back hp zo;clear zo h9;have hU:=xw.C hp;clear hp
  have hU:Hp W [] _ [_,_,_,_,_,_,_,
   _,_,_,_]:=hU
  obtain⟨f,hf⟩:∃f,f=ku d l o:=⟨_,O⟩;obtain⟨wv,xu⟩:∃wv:Nat→Nat,wv=fun i=>CT y l.length (o.getD i 0):=⟨_,O⟩
  have yi:f.N=o.length:=by rw[hf];rfl
  rw[←hf,←xu] at il xe;rw[←hf] at xt x6 i1 zb;rw[←hf,←xu];cases hok0:(AT f wv t0).2.2 with
  |false=>
   have hK:∀P,¬Aq d l P:=fun P hP=>by
    have⟨T,hT,_⟩:=((hF P).1 hP).o6 xl xv;have h1:f.Cmp (Bu d) T:=by
     rw[hf];exact(LY (n:=o.length) (q:=(ku d l o).q) (inn:=fun i k=>AC d (l.getD i default) k) (ord:=fun i=>o.getD i 0) (size:=d.sz.toNat) (m:=12) T).2 hT
    exact(OO wv _ t0 x6.ok O).no hok0 T ((i1 T).2 h1)
   refine ke (qOh underlying317 O O (fun w=>O3)) (aK Value.bool hok0) (qA ?_);refine jB O (qA ?_);refine tO (qW hU 9 O O O O (qD O) O) fun xb hU=>?_;refine qA ?_;exact⟨_,Mj (vs:=DV) O O O O O O O (hU.i6 9 O O),⟨_,O,.inr ⟨O,hK,hU.Z⟩⟩⟩
  |true=>
   refine ke (qOh underlying317 O O (fun w=>O3)) (aK Value.bool hok0) (qA ?_);refine tJ ?_;refine tK (wM _) ?_;rintro _ xb ⟨rfl,yn⟩;have xt:=xt.k8 (fun _ _ h=>yn.cell h O4);have hU:=hU.V yn;have yz:gw≠b7:=hU.y8 (i:=3) (j:=9) O O O2;have yt:gw≠be:=hU.y8 (i:=3) (j:=4) O O O2;have za:gw≠mp:=hU.y8 (i:=3) (j:=6) O O O2;have zv:=hU.y8 (i:=9) (j:=6) O O O2;have x8:∀(x:Addr) (v:Value),gW v→xb.cell? x=some v→x.block∉[be,b7,mp]:=fun x v hv hx hm=>by
    simp[aP,mJ,HA] at hm;rcases hm with e|e|e
    ·obtain⟨j,hj,rfl⟩:=I9 hU 4 O hx e;rw[jF9 (by have:=h6;rw[vC] at this;omega)] at hv;exact hv
    ·obtain⟨j,hj,rfl⟩:=I9 hU 9 O hx e;rcases(show j=0∨j=1∨j=2 by omega) with rfl|rfl|rfl<;>exact hv
    exact L3 hU 6 O x v hx e
   have yu:∀i,i<f.N→d.Q.length≠0→a.gi i∉[be,b7,mp]:=fun i hi xr hm=>by
    have h7:=p2 i O1;have h8:=qj i O1 xr;simp[aP,mJ,HA] at hm;omega
   have xi:=hU.j7 eN 3 1;have xi:Hp W [] _ [_,_,_,_]:=xi.j4 [0,5,10,7] _ O2 O;have hp:=Hp.k6 (A:=[]) xi;have hM:zG [qG eN 3 1 none 0 [],bu be 14 (qE (kj (Am t0))) 293,bu b7 3 (qE DV) 49,zV Bx mp wh]=[be,b7,mp]:=O;rw[hM] at hp;have yc:∀{w':World} {L:List kr},Hp xb [be,b7,mp] w' L→Cq B a d f l.length (CT y l.length) o w':=fun{w' L} h=>by
    refine xt.y7 h.keeps ?_ yu (by rw[hB];simp[yt,yz,za]) x8;have hb:=Hp.back (A:=[]) (B':=[]) xi (by exact h.sub (List.nil_sublist _));exact hD.q.i7 hb.keeps
   clear hU xt x8;refine tS fun yg hp=>?_;have hp:=hp.I 2 (eQ (ps y [])) O O;have hp:Hp _ _ _ [_,_,_,_]:=hp;have qd:∀{w':World} {L:List kr},Hp xb [be,b7,mp] w' L→ig w' 3 eQ sp (lm l.length y):=fun h=>by
    have hb:=Hp.back (A:=[]) (B':=[]) xi (by exact h.sub (List.nil_sublist _));exact hs.i7 hb.keeps
   obtain⟨Z0,zd⟩:∃Z0,Z0=Wy f wv t0:=⟨_,O⟩;have zq:d.sz.toNat≤o.length:=by
    have:=x6.ok.td.left;omega
   refine qA (qQ ([6,15]++range' 53 34) (fun z F=>F.put 6 (.slice z.2.2.1 (z.2.1.map fun i=>o.getD i 0).length z.2.2.2))
    (fun z w'=>SI f z.1∧(AT f wv z.1).2.2=true∧Z0=z.2.1++Wy f wv z.1∧z.2.1.length+z.1.left≤o.length∧(∀i∈z.2.1,i<o.length)∧kg z.2.2.1 z.2.2.2 (z.2.1.map fun i=>o.getD i 0)∧∃g,At f wv g∧Hp xb [be,b7,mp] w' [qG eN 3 1 z.2.2.1 z.2.2.2 (z.2.1.map fun i=>o.getD i 0),bu be 14 (qE (kj (Am z.1))) 293,bu b7 3 (qE (eQ (ps y (z.2.1.map fun i=>o.getD i 0)))) 49,zV Bx mp g])
    (fun z=>f.N-z.1.next) (t0,[],none,0) (qB (ka.eq .refl) O) ⟨x6,hok0,O6,O6,O4,kg.nil,wh,il,hp⟩ ?_)
   clear hp;rintro u ⟨t,A,sA,cA⟩ ya ⟨hI,hy,hZ,x1,yj,xj,g,hg,hp⟩;have h6:(kj (Am t)).length=14:=by rw[vC];simp[Am,hI.c]
   have hp:Hp xb [be,b7,mp] ya ([qG eN 3 1 sA cA (A.map _),bu be 14 (qE (kj (Am t))) 293,bu b7 3 (qE (eQ (ps y (A.map _)))) 49]++_):=hp;simp only[] at hZ x1 yj xj hy hI⊢;refine tI (fun h=>?_) fun h=>?_
   ·have h0:0<t.left:=O1;have zi:=hI.ok.lt h0;have⟨t',xy,yx,yl⟩:=jLw (w:=wv) hI.ok h0 hy;have⟨xg,xf⟩:=hI.k4 O1 h0 xy;have xz:=yc hp;refine qR ?_;refine ke (qS O O (by have:=xz.hb;grind)) (O:_=Value.func (.func 240) #[] #[.pointer (Ad kb),.pointer (Ad ba),.pointer (Ad bg),.pointer (Ad bc),.pointer (Ad b9)]) ?_;refine ke (qL (vs:=kj (Am t)) O O O h6 (hp.i6 1 O h6)) (O:_=Value.agg (kj (Am t)).toArray) ?_;have h9:=Hp.k6 hp;refine tK (xe t g _ hI xz hg h9) ?_;rintro _ x2 ⟨rfl,g2,ee,zo⟩;have hp:=Hp.back hp zo;clear zo h9 xz;generalize AT f wv t=r at xy yl;have⟨rv,rt,ro⟩:=r;simp[] at xy yl;refine tQ fun yq bf hp=>?_;refine tS fun yo hp=>?_;have hp:=hp.I 0 (eA _) O O;have hp:Hp _ _ _ [bu _ 3 _ 317,_,_,_,_]:=hp;obtain⟨x,hx⟩:∃x,x=o.getD t.next 0:=⟨_,O⟩;have y0:t.next<o.length:=O1;have ye:o[t.next]? =some x:=by rw[hx,aC,aA y0];rfl
    have zz:x<l.length:=by
     have⟨hh,e⟩:=aI.1 ye;rw[←e];exact xp _ (bX hh)
    have cc:∀{w':World} {L:List kr},Hp xb [be,b7,mp] w' L→w'.cell? ⟨bo,0+t.next*1,none⟩=some (Iv (x:Int)):=fun h=>by
     have hO:=(yc h).hO;rw[hB] at hO;have⟨b',o',e,hc⟩:=hO _ x ye;cases e;exact hc 0 _ O
    have ce:∀{w':World} {L:List kr},Hp xb [be,b7,mp] w' L→w'.cell? ⟨b9,0,none⟩=some (.slice (Ad bo) o.length o.length):=fun h=>by
     have:=(yc h).ho;grind
    have eb:(A++[t.next]).map (fun i=>o.getD i 0)=A.map (fun i=>o.getD i 0)++[x]:=by rw[dR,hx];rfl
    refine qA (uD ([6]++range' 61 18) (fun(z:List Nat×Option Addr×Nat) F=>F.put 6 (.slice z.2.1 (z.1.map fun i=>o.getD i 0).length z.2.2))
     (fun z w'=>z.1=A++(if rt then[t.next] else[])∧kg z.2.1 z.2.2 (z.1.map fun i=>o.getD i 0)∧Hp xb [be,b7,mp] w' [bu bf 3 (qE (eA (rv,rt,ro))) 317,qG eN 3 1 z.2.1 z.2.2 (z.1.map fun i=>o.getD i 0),bu be 14 (qE (kj (Am t))) 293,bu b7 3 (qE (eQ (ps y (z.1.map fun i=>o.getD i 0)))) 49,zV Bx mp g2]) ?_ ?_)
    ·cases rt with
     |false=>
      refine tJ ?_;exact⟨(A,sA,cA),qB O5 O,O4,xj,hp⟩
     |true=>
      have⟨bs,os,hY,_⟩:=jR hs zz;have cY:∀{w':World} {L:List _},Hp _ _ w' L→∀(j:Nat) (v:Value),_=_→_=_:=fun h=>by
       have⟨b',o',e,hc⟩:=jR (qd h) zz;cases hY.symm.trans e;exact hc
      have jc:BQ (1+A.length*(κ+1)) (ps y (A.map fun i=>o.getD i 0)):=by
       have:=NF hb (A.map fun i=>o.getD i 0) (fun i hi=>by
        obtain⟨q,hq,rfl⟩:=bM.1 hi;have:=ha q (yj q hq)
        omega)
       rwa[aH] at this
      have zt:A.length*(κ+1)≤l.length*(κ+κ+1):=dE O1 O1;have x3:=hκ;rw[iJ,dC] at x3;refine jB O ?_;have ci:=ce hp;have cg:=cc hp;refine qA ?_;refine tF (jC (cs:=[Iv (x:Int)]) hp O O O O O O O) fun yp nb hp=>AB (jV eN (A.map fun i=>o.getD i 0) x hp 2 0 O O O O O O (fun _=>O) O O O xj O O (by rw[aH];omega)) fun zu s' c'⟨h5,hp⟩=>?_;have hp:=hp.E;rw[←eb] at h5 hp⊢;have hp:Hp _ _ _ [_,_,_,_,_]:=hp;refine qA ?_;refine jU jG O3 (fun w'=>Hp xb _ w' _) hp.U ?_;have hp:=hp.U;clear ci cg;refine tP (fun w hp=>qL (vs:=eQ (ps y (A.map fun i=>o.getD i 0))) O O O O (hp.i6 3 O O)) (kp O (fun w hp=>qP) (O:_=Value.slice sp l.length cp) ?_);refine kp O (fun w hp=>qS O O (ce hp)) O (qX ?_);refine kp O (fun w hp=>qS O O (cc hp)) O (qX ?_);refine tP (fun w hp=>qL (vs:=eQ (y x)) O O O O (cY hp)) (tG (Gb _ jc (hb x zz) O1) fun zm hp=>?_);refine tS fun zj hp=>qU ?_;have hp:=hp.I 3 (eQ (ps y ((A++[_]).map _))) O (by rw[eb,YZ];rfl);exact⟨(A++[t.next],s',c'),qB O5 O,O,h5,hp⟩
    clear hp xj;rintro u2 ⟨A',sa,ca⟩ zn ⟨yd,xq,hp⟩;simp only[] at yd xq;have hp:Hp _ _ _ [_,qG eN 3 1 sa ca (A'.map _),_,bu b7 3 (qE (eQ (ps y (A'.map _)))) 49,_]:=hp;have xz:=yc hp;have cf:=xz.hf;rw[hB] at cf;have xn:∀k,t.cs.getD k 0≤39:=fun k=>by have:=hI.b k;omega
    refine qR (ke (qS O O cf) O ?_);refine ke (qL (vs:=kj (Am t)) O O O h6 (hp.i6 2 O h6)) (O:_=Value.agg (kj (Am t)).toArray) (tL (KS a d f t rt _ xz.hs hI.aA9 xn zi h0) ?_);rintro v zk ⟨hv,zg⟩;have hp:=hp.V zg;rw[xy] at hv;have hX:(kj (Am t')).length=14:=by rw[vC];simp[Am,xg.c]
    refine qA ?_;refine tO (zH (m:=14) (o:=0) (cs:=kj (Am t')) hp 2 O O O O (by rw[hX];exact qD O) (by rw[hX];rfl) (vY _)) fun zr hp=>?_;have hp:=hp.I 2 (kj (Am t')) O (yJ _ _ hX);refine qA ?_;have zh:=(wW hI.ok h0 xy).2.2.1;refine⟨(t',A',sa,ca),qB O5 O,⟨xg,yx,?_,?_,?_,xq,g2,ee,hp.E⟩,O6⟩
    ·rw[hZ,yl,yd];cases rt<;>simp
    ·rw[zh,yd];cases rt
     ·grind
     simp;omega
    intro i hi;rw[yd] at hi;rcases fK.1 hi with hi|hi
    ·exact yj i hi
    cases rt
    ·simp at hi
    have:=by simpa using hi
    omega
   have h0:t.left=0:=O1;rw[jLv h0,bO] at hZ
   have x5:=qWw (n:=o.length) (q:=(ku d l o).q) (inn:=fun i k=>AC d (l.getD i default) k) (ord:=fun i=>o.getD i 0) (size:=d.sz.toNat) xl ha xv (m:=12) yv (w:=CT y l.length) (t:=t0) (by rw[hf] at zb;exact zb) (by
    have:=hok0;unfold AT at this;rw[hf,iq,xu] at this
    exact this)
   have x7:(Q.of o.length (ku d l o).q (fun i k=>AC d (l.getD i default) k) (fun i=>o.getD i 0)).o6 (fun i=>CT y l.length (o.getD i 0)) o.length t0=A:=by
    rw[←hZ,zd];unfold Wy;rw[hf,iq,xu];rfl
   rw[x7] at x5;obtain⟨P,hP⟩:∃P,P=I5 (fun i=>o.getD i 0) A:=⟨_,O⟩;rw[←hP] at x5;have⟨oa,et,og⟩:=x5;have zf:P.length=A.length:=by rw[←et.length_eq,aH]
   have ht:=oa.len;have xr:(A.map fun i=>o.getD i 0)≠[]:=fun e=>by
    have:=aK List.length e;grind
   obtain⟨gp,rfl⟩:=xj.addr xr;refine qA ?_;have yf:=jNv oa.srt et;have hJ:=hp;rw[←LS] at hJ;have hJ:Hp _ _ _ [_,_,_,_]:=hJ;have xx:=xj.cap;have yr:cA≤maxLen:=by
    rcases xj with⟨h,_⟩|⟨g',cap,h,_,hm⟩
    ·cases h
    cases h;exact hm
   have call:=zAo _ gp cA _ (Hp.o7 hJ 0 O) O6 yr O6;rw[aH] at call;refine tK call ?_;rintro _ zw ⟨zc,yw⟩;have hp:=Hp.y5 hJ 0 O zc yw;rw[yf] at hp;have xd:ps y (A.map fun i=>o.getD i 0)=ps y P:=jJr et;have hp:Hp _ _ _ [_,_,_,_]:=hp;rw[xd,LS] at hp;refine qA (kU true jG O3 (fun w'=>Hp xb _ w' _) hp.U ?_);have hp:=hp.U;refine qX ?_;apply GL;rfl;exact qW hp 2 O O O O (qD O) O;rintro _ zp ⟨rfl,hp⟩;have hp:=hp.I 2 (eQ _) O O;refine⟨hp,qX (qU ?_)⟩;refine qA ?_;have yh:=Hp.back (A:=[]) xi (by exact hp);have yh:=yh.x (eY [_] _);refine⟨_,Mj (vs:=eQ (ps y P)) O O O O O O O (hp.i6 2 O O),⟨_,O,.inl ⟨Ad gp,cA,P,?_,(hF P).2 oa,fun P' xo=>?_,jZ xj (by rw[aH,zf]),yh⟩⟩⟩
   ·rw[aH,zf];rfl
   have yk:=(hF P').1 xo;refine jA9 (n:=l.length) (w:=CT y l.length) (C:=BR (fun i=>y i-yK y l.length) l.length) (least:=yK y l.length) (SP _ _) (fun i hi=>?_) (fun i _=>O) oa.srt (fun i hi=>by have:=oa.lt i hi;omega) (fun i hi=>by have:=yk.lt i hi;omega) (by rw[ht,yk.len]) (og P' yk);have hl:=N7 (y:=y) _ i hi;rw[YW hi (show 0≤y i-yK y l.length by grind)];grind
def C3(d:DW)(l:List EW)(P:List Nat)(i k:Nat):Nat:=(P.take i).countP fun x=>AC d (l.getD x default) k
theorem qUh{d P x}(h:P[i]? =some x)(k):C3 d l P (i+1) k=C3 d l P i k+if AC d (l.getD x default) k then 1 else 0:=by
 have⟨hi,e⟩:=aI.1 h;unfold C3;rw[aF hi,iM,e];simp
theorem jHl{d P}:C3 d l P i k≤P.length:=by
 refine bF iK ?_;grind
theorem UY(d s sP c cP l P W)(hD:DE d s l W)(ze:d.kd=3)(hz:0≤d.sz)(hF:Aq d l P)(hs:ig W 1 eN sP P):
  Rk 123 [d.v,.slice s l.length c,.slice sP P.length cP] W (.bool true):=by
 have hg:=hD.lq;have ys:=hD.le;have zf:=hF.len;have h6:P.length≤l.length:=by
  have:=uK hF.srt (fun i _=>bL i) hF.lt;omega
 refine tW func123 ntmps123 fun hp=>?_;refine qR ?_;refine tQ fun w1 bd hp=>?_;have hp:=hp.I 0 d.L O O;refine qR ?_;refine tR qY (qR ?_);refine ke (qL O O O O (hp.i6 0 O O)) (O:_=d.v) (ke qP (O:_=Value.slice s _ c) ?_);refine tC (U3 d s _ c _ hg ys) fun w3 hp=>?_;rw[aD ze];have d1:(!decide (P.length=d.sz))=false:=by
  have:(P.length:Int)=d.sz:=O1;simp[this]
 refine jL ?_;rw[d1];refine E0 ?_;refine tF (yE eI 0 hp O O O O O O O O1 O) fun w4 g⟨hv,hp⟩=>?_;rw[Ec] at hp hv;have sa:∀f:Nat→Int,kg _ _ (lm _ f):=fun f=>jZ hv (by rw[qT,qT])
 have hp:Hp W [] w4 [qG eI 3 1 _ _ (lm _ fun j=>(C3 d l P 0 j)),bu bd 13 _ 28]:=hp;refine qA (qQ ([6,8,10,11,12]++range' 32 35) (fun k F=>(F.put 8 (.int _ (if k=0 then-1 else(P.getD (k-1) 0:Nat)))).put 32 (.int _ k)) (fun k w'=>k≤P.length∧Hp W [] w' [qG eI 3 1 _ _ (lm _ fun j=>(C3 d l P k j)),_]) (fun k=>P.length-k) 0 (qB (qB (ka.eq .refl) O) O) ⟨O1,hp⟩ ?_);clear hp;rintro u k w5 ⟨hk,hp⟩;refine tI (fun h=>?_) fun h=>?_
 ·have hl:k<P.length:=O1;obtain⟨x,hx⟩:∃x,P[k]? =some x:=⟨_,aA hl⟩;have zz:=hF.lt x (aG hx);have⟨bs,os,hh,hc⟩:=hs k x hx;have yk:w5.cell? ⟨bs,os+k*1,_⟩=_:=hp.j3 (hc 0 _ O);obtain⟨e,he⟩:∃e,l[x]? =some e:=⟨_,aA zz⟩;have h4:l.getD x default=e:=by rw[aC,he];rfl
  have⟨be,oe,hM,hE⟩:=hD.e x e he;have x7:=hD.g e (aG he);have qj:=hD.lg e (aG he);have tz:(if k=0 then(-1:Int) else(P.getD (k-1) 0:Nat))<x:=by
   split
   ·omega
   have h1:=hF.srt;rw[dX] at h1;have:=h1 (k-1) k O1 hl O1;have⟨h2,h3⟩:=aI.1 hx;rw[aC,aA O1];show((P[k-1]:Nat):Int)<_
   omega
  generalize (if k=0 then(-1:Int) else(P.getD (k-1) 0:Nat))=last at tz;have d2:decide (x≤last)=_:=aB O1;have d3:decide ((x:Int)≥l.length)=_:=aB O1;refine jL ?_;rw[d2];refine jL ?_;rw[d3];refine E0 ?_;refine jW jG O3 (fun w'=>Hp W [] w' _) hp.U ?_;have hp:=hp.U;refine kp O (fun w hp=>qL O O O O (hp.i6 1 O O)) (O:_=d.v) (kp O (fun w hp=>qP) (O:_=Value.slice s _ c) ?_);refine qX ?_;refine kp O (fun w hp=>qL O O O O (fun j v hv=>hp.j3 (hE j v hv))) (O:_=e.v) (tK (U4 d e _ (hD.q.i7 hp.Z) (x7.i7 hp.Z) hg qj) ?_);rintro _ w8 ⟨b',rfl,hH,hpo⟩;have zo:=hp.C hpo;refine⟨hp.V hpo.Z,?_⟩;clear hpo hp;have hp:Hp W [] w8 [_,_,_]:=zo;clear zo;refine qX (qU ?_);refine qA ?_;have hp:Hp W [] w8 [qG Ay 4 1 (Ad b') d.Q.length (lm d.Q.length (AC d e)),qG eI 3 1 (Ad g) d.Q.length (lm d.Q.length fun j=>(C3 d l P k j+if j<0∧AC d e j then 1 else 0:Nat)),bu bd 13 (qE d.L) 28]:=by
   rw[jH (g:=fun j=>(C3 d l P k j:Int)) (fun j _=>O4)];exact hp
  refine qQ ([11,12]++range' 53 13) (fun(q:Nat) F=>F.put 53 (.int _ q)) (fun q w'=>q≤d.Q.length∧Hp W [] w' [_,qG eI 3 1 _ _ (lm _ fun j=>(C3 d l P k j+if j<q∧AC d e j then 1 else 0:Nat)),_]) (fun q=>d.Q.length-q) 0 (qB (ka.eq .refl) O) ⟨O1,hp⟩ ?_;clear hp;rintro u2 q w9 ⟨hq,hp⟩;refine tI (fun h2=>?_) fun h2=>?_
  ·have ht:q<d.Q.length:=O1;have cB:w9.cell? ⟨b',0+q*1,_⟩=_:=zM (qZ hp 0 O hH (fun _=>O)) ht 0 _ O;have cC:w9.cell? ⟨g,0+q*1,none⟩=some (Iv (C3 d l P k q)):=by
    have:=zM (qZ hp 1 O (sa _) (fun _=>O)) ht 0 _ O;exact T6
   refine qA ?_;cases hb:AC d e q with
   |false=>
    refine qN O ?_
    rw[jH (g:=fun j=>((C3 d l P k j+if j<q+1∧AC d e j then 1 else 0:Nat):Int)) (fun j _=>by
     grind)] at hp
    refine Ae ?_;exact⟨q+1,qB O5 O,⟨O1,hp⟩,O1⟩
   |true=>
    refine jB O ?_;have hP:=jHl (d:=d) (l:=l) (P:=P) (i:=k) (k:=q);refine tM (C3 d l P k q+1) ?_;refine qA (tO (zL eI _ q _ hp 1 O (sa _) (by rw[qT];omega) O O (fun _=>O) O O (qD O)) fun uy hp=>?_);have hp:Hp W [] _ [_,_,_]:=hp
    rw[vF,jH (g:=fun j=>((C3 d l P k j+if j<q+1∧AC d e j then 1 else 0:Nat):Int)) (fun j _=>by
     grind)] at hp
    refine Ae ?_;exact⟨q+1,qB O5 O,⟨O1,hp⟩,O1⟩
  obtain rfl:d.Q.length=q:=O1
  rw[jH (g:=fun j=>(C3 d l P _ j:Int)) (fun j hj=>by
   rw[qUh hx,h4]
   grind)] at hp
  refine Ae ?_;refine⟨k+1,qB (qB O5 ?_) O,⟨O1,hp.E⟩,O1⟩;rw[if_neg O1,nN,aC,hx];rfl
 obtain rfl:P.length=k:=O1;refine qA (qQ ([6,13,14]++range' 70 22) (fun(q:Nat) F=>F.put 70 (.int _ q)) (fun q w'=>q≤d.Q.length∧Hp W [] w' _) (fun q=>d.Q.length-q) 0 (qB (ka.eq .refl) O) ⟨O1,hp⟩ ?_);clear hp;rintro u2 q w9 ⟨hq,hp⟩;refine tI (fun h2=>?_) fun h2=>?_
 ·have ht:q<d.Q.length:=O1;obtain⟨qu,hm⟩:∃qu,d.Q[q]? =some qu:=⟨_,aA ht⟩;have⟨bq,oq,ow,hn⟩:=hD.q q qu hm;have hy:=fun j v hv=>hp.j3 (hn j v hv)
  have h5:=hF.quo q qu.2 O6;have ha:C3 d l P P.length q=P.countP fun x=>AC d (l.getD x default) q:=by
   unfold C3;rw[dF]
  refine qA (tR (qL (vs:=DU qu) O O O O hy) ?_);refine vK fun w b hp=>?_
  refine tX fun hp=>?_;have d2:decide ((C3 d l P P.length q)<qu.2.1)=_:=aB O1;have d3:decide ((C3 d l P P.length q)>qu.2.2)=_:=aB O1;refine qX ?_;refine kp O (fun w hp=>qS O O (zM (qZ hp 1 O (sa _) (fun _=>O)) ht 0 _ O)) O (xA ?_);rw[d2];refine xA ?_;apply yG;rfl;rfl;rfl;intro w hp;exact qS O O (zM (qZ hp 1 O (sa _) (fun _=>O)) ht 0 _ O);rfl;refine xA ?_;rw[d3];refine qU ?_;refine EH ?_;exact⟨q+1,qB O5 O,⟨O1,hp.E⟩,O1⟩
 exact nj
variable{pl:List (Nat×Nat)}{zs:List Value}
theorem qP4(place tl):∀(ps:List (Nat×Value)) (pl:List (Nat×Nat)) (i o:Nat) (pre rest:List Value),(∀j x,pl[j]? =some x→place (i+j)=some x)→lay pl i o ps=true→pre.length=o→
  rest.length=(pl.map (·.2)).sum→Instr.fill place (pre++(rest++tl)).toArray ps=some (pre++((ps.flatMap fun p=>p.2.cells.toList)++tl)).toArray
 |[],[],i,o,pre,rest,_,_,_,hr=>by
  exact mEh
 |[],_::_,_,_,_,_,_,h,_,_=>by simp[lay] at h
 |_::_,[],_,_,_,_,_,h,_,_=>by simp[lay] at h
 |(j,v)::ps,(o',sz)::pl,i,o,pre,rest,hp,h,hpre,hr=>by
  simp only[lay,aJ] at h;have⟨h1,h2,h3,h4⟩:=h;have h1:=bV h1;have h2:=bV h2;subst h1 h2;rw[fG,No] at hr;have xv:=hp 0 _ O;have eo:v.cells.toList.length=sz:=by simpa using h3
  have hz:v.cells.zipIdx.foldl (fun cs x=>cs.setIfInBounds (o'+x.2) x.1) (pre++(rest++tl)).toArray=(pre++v.cells.toList++(rest.drop sz++tl)).toArray:=by
   rw[←nJ,xB];have e:=PG v.cells.toList (pre++(rest++tl)) o' 0;rw[fY,←hpre,OY v.cells.toList pre (rest++tl) O6,eo,List.drop_append_of_le_length O1] at e;rw[←hpre];exact e
  simp only[Instr.fill,xv];have:=qP4 _ tl ps pl _ _ (pre++v.cells.toList) (rest.drop sz) (fun q x hq=>by
   have:=hp (q+1) x O6
   rwa[show j+1+q=j+(q+1) by omega]) h4 O6 O6
  grind
theorem HS{pos t ps tl pl' vs}
  (ht:P.underlying t=some (.struct fs)) (hz:kx P t (.agg (zs++tl).toArray)) (xv:∀w,(fs.mapM (fun f=>do pure (f.offset,←sizeOf f.type):Field→Sem (Nat×Nat))).run P w= .ok (pl++pl').toArray w) (hl:zs.length=(pl.map (·.2)).sum)
  (dh:(ps.toList.map fun p=>(p.1,ev n F p.2))=vs) (ha:lay pl 0 0 vs=true):PV P n w F ⟨d,.build t ps,ty,pos,aft,g⟩ (.agg ((vs.flatMap fun p=>p.2.cells.toList)++tl).toArray):=by
 refine Jg ht hz O xv ?_
 have h:=qP4 ((pl++pl').toArray[·]?) tl vs pl 0 0 [] zs (fun j x hx=>by
  grind) ha O hl
 have e:(ps.map fun(i,x)=>(i,ev n F x)).toList=vs:=by rw[vH,dh]
 rw[e];exact h
theorem qHq(ns:List Int):∀r:ByteArray,(ns.foldl (fun r n=>r.push (UInt8.ofNat n.toNat)) r).data.toList=r.data.toList++ns.map fun n=>UInt8.ofNat n.toNat:=by
 induction ns with
 |nil=>simp
 |cons n ns ih=>
  intro r;rw[iF,ih];simp
theorem qFq(ns:List Int):(kN ns).data.toList=ns.map fun n=>UInt8.ofNat n.toNat:=by
 unfold kN;rw[qHq];simp
section
variable{pos:String}{x:Operand}
end
variable{n:Nat}
def pu{κ:Type}[DecidableEq κ](key:Nat→κ):Nat→List κ
 |0=>[]
 |i+1=>if key i∈pu key i then pu key i else pu key i++[key i]
def Ap{κ:Type}[DecidableEq κ](key:Nat→κ)(i:Nat):Nat:=(pu key (i+1)).idxOf (key i)
section
variable{κ:Type}[DecidableEq κ]{key:Nat→κ}
theorem OU:∀(i j:Nat),j<i→key j∈pu key i
 |i+1,j,h=>by
  unfold pu;rcases dH.1 h with h|rfl
  ·have:=OU i j h;grind
  grind
theorem YK{x:κ}:∀{i j:Nat},i≤j→x∈pu key i→(pu key j).idxOf x=(pu key i).idxOf x:=by
 intro i j h hx;induction j with
 |zero=>
  grind
 |succ j ih=>
  rcases lU j i with hZ|hZ
  ·grind
  have hm:x∈pu key j:=by
   clear ih h;induction j with
   |zero=>
    grind
   |succ j ih2=>
    rcases lU j i with ha|ha
    ·grind
    unfold pu;grind
  show(if key j∈pu _ j then pu _ j else pu _ j++[_]).idxOf x=_
  grind
theorem Ly(h:i<n):Ap key i=(pu key n).idxOf (key i):=(YK O1 (OU _ i O1)).symm
theorem IX(h:i<n):Ap key i<(pu key n).length:=by
 rw[Ly h];exact XL (OU n i h)
theorem jTk:Ap key i=Ap key j↔key i=key j:=by
 constructor
 ·intro e;rw[Ly (n:=i+j+1) O1,Ly (n:=i+j+1) O1] at e;have h1:=OU (key:=key) (i+j+1) i O1;have e1:=List.getElem_idxOf (XL h1);grind
 intro e;rw[Ly (n:=i+j+1) O1,Ly (n:=i+j+1) O1,e]
theorem LN(h:key i∈pu key i):Ap key i=(pu key i).idxOf (key i)∧pu key (i+1)=pu key i:=by
 refine⟨YK O1 h,?_⟩;show(if _ then _ else _)=_
 grind
theorem R9(h:key i∉pu key i):Ap key i=(pu key i).length∧pu key (i+1)=pu key i++[key i]:=by
 have e:pu key (i+1)=pu key i++[key i]:=by
  show(if _ then _ else _)=_
  rw[if_neg h]
 unfold Ap;grind
theorem Lz:∀i:Nat,(pu key i).length≤i
 |0=>aS _
 |i+1=>by
  have:=Lz i;unfold pu;grind
def Ch(key:Nat→κ)(i:Nat):κ→Option Value:=fun k=>if k∈pu key i then some (Iv ((pu key i).idxOf k:Nat)) else none
theorem jF2:Ch key 0=fun _=>none:=by
 funext k;unfold Ch;rw[if_neg (by simp[pu])]
theorem jKo(h:key i∉pu key i):(fun k=>if k=key i then some (Iv (Ap key i:Nat)) else Ch key i k)=Ch key (i+1):=by
 have⟨e1,e2⟩:=R9 h;unfold Ch;grind
theorem jF3(h:key i∈pu key i):Ch key i=Ch key (i+1):=by
 unfold Ch;rw[(LN h).2]
theorem jKn(h:key i∈pu key i):Ch key i (key i)=some (Iv (Ap key i:Nat)):=by
 unfold Ch;rw[if_pos h,(LN h).1]
theorem jPg(h:key i∉pu key i):Ch key i (key i)=none:=by
 unfold Ch;grind
theorem jPe(h:c<(pu key n).length):∃i,i<n∧Ap key i=c:=by
 induction n with
 |zero=>exact absurd h (by simp[pu])
 |succ n ih=>
  by_cases hm:key n∈pu key n
  ·rw[(LN hm).2] at h;grind
  have⟨e1,e2⟩:=R9 hm;grind
end
theorem NP(cl c):∀n,qi cl n c≤n
 |0=>aS _
 |n+1=>by
  have:=NP cl c n;simp only[qi];grind
theorem ZF{cl c}:∀{n:Nat},(∀i,i<n→cl i≠c)→qi cl n c=0
 |0,_=>rfl
 |n+1,h=>by
  simp only[qi];rw[ZF fun i hi=>h i O1,if_neg (h n O1)]
theorem Ys{cl c}:∀{n:Nat} (i:Nat),i<n→cl i=c→0<qi cl n c
 |n+1,i,hi,e=>by
  simp[qi];rcases dH.1 hi with h|rfl
  ·have:=Ys i h e;omega
  grind
variable{G:List Nat→Prop}{P:List Nat}{X Y:Nat→Rat}{cl:Nat→Nat}{q:Nat}{s:Sr}
theorem jFa:∀(k M:Nat),gr M k≤(2*M)^(2^k)
 |0,M=>by
  show M≤(2*M)^1
  grind
 |k+1,M=>by
  have:=jFa k (2*(M*M));refine bF this ?_;rw[show 2*(2*(M*M))=(2*M)^2 by grind,←lG,dU,dC _ 2];omega
theorem jWq{M}(hM:M<2^b)(hm:m≤6):gr M m<2^(64*(b+1)):=by
 have h1:=jFa m M;have h2:2*M<2^(b+1):=by rw[dU];omega
 have h3:2^m≤64:=bG O2 hm;refine bW h1 ?_;rw[dC 64,lG];rcases dG (2*M) with e|e
 ·rw[e,Nat.zero_pow (nT _)];exact gU O1
 exact bW (bG e h3) (Nat.pow_lt_pow_left h2 O2)
def C2:Nat→Nat
 |0=>1
 |k+1=>C2 k+64*(C2 k+4)
theorem jHj(h:k≤4):C2 k≤89253121:=by
 have:k=0∨k=1∨k=2∨k=3∨k=4:=O1;rcases this with rfl|rfl|rfl|rfl|rfl<;>decide
theorem qW3(hs:P.Pairwise (·<·))(hn:∀i∈P,i<n)(c):jX cl P c≤qi cl n c:=by
 have e:∀n,qi cl n c=(range n).countP fun i=>decide (cl i=c):=fun n=>by
  induction n with
  |zero=>rfl
  |succ n ih=>
   rw[eX,iM,←ih];simp[qi]
 rw[e];unfold jX;have xg:P.Sublist (range n):=by
  have hx:∀(n:Nat) (P:List Nat),P.Pairwise (·<·)→(∀i∈P,i<n)→P.Sublist (range n):=by
   intro n;induction n with
   |zero=>
    intro P _ h;cases P with
    |nil=>simp
    |cons x P=>exact absurd (h x O4) O1
   |succ n ih=>
    intro P hs hn;rw[eX];rcases iQ P with rfl|⟨Q,x,rfl⟩
    ·simp
    rw[mR] at hs hn⊢;rw[fO] at hs;have hx:=hn x O4;rcases dH.1 hx with h|rfl
    ·refine(ih _ (fO.2 hs) (fun i hi=>?_)).trans (eY _ _);grind
    exact(ih Q hs.1 (fun i hi=>hs.2.2 i hi x O4)).append (.refl _)
  exact hx n P hs hn
 grind
theorem jE3{M:Nat}(h:D≤M)(hq:q≤5):Ov D (5*M) (q:Rat):=by
 refine⟨(q*D:Nat),?_,?_⟩
 ·rw[gI,lJ]
 exact dE hq h
theorem LF{M a}(h:Ov D M a):Ov D M (-a):=by
 have⟨x,h1,h2⟩:=h;refine⟨-x,?_,O1⟩;grind
theorem jJy{M:Nat}{a:Rat}(h:Ov D M a)(hq:q≤5):Ov D (5*M) ((q:Rat)*a):=by
 have⟨x,h1,h2⟩:=h;refine⟨q*x,?_,?_⟩
 ·rw[nS,←h1,gI];grind
 rw[oH];have:=dE hq h2;grind
theorem Sr.q8{s:Sr}{D M:Nat}(hD:0<D)(hg:D≤M)(hS:∀c,c<s.nc→s.S c≤5)(hκ:∀k,k<s.K→∀c,c<s.nc→s.κ k c≤5)(hp:∀c,c<s.nc→s.dec c=true→Ov D M (s.p c)):(T0 (s.nc+1) (s.K+1) s.A s.B).q8 (5*M):=by
 have z:Ov D (5*M) 0:=LR;have o1:Ov D (5*M) 1:=J2 O1;refine⟨D,hD,O1,fun i hi=>?_,fun i j hi hj=>?_⟩
 ·show Ov D _ (s.B i)
  unfold Sr.B;split
  ·exact o1
  split
  ·rename_i h1 h2
   have hi:i<_+1:=hi;exact LF (jJy (hp i O1 h2) (hS i O1))
  exact z
 show Ov D _ (s.A i j)
 have hi:i<_+1:=hi;have hj:j<s.K+1:=hj;unfold Sr.A;split
 ·grind
 split
 ·split
  ·exact z
  exact jE3 hg (hS i O1)
 exact LF (jE3 hg (hκ _ O1 i O1))
def Sr.n7(s:Sr)(κ:Nat→Nat):Sr:={s with K:=s.K+1,κ:=fun j=>if j=s.K then κ else s.κ j}
theorem Sr.W.n7{s:Sr}{v:Rat}{w:Nat→Rat}(h:s.W v w)(κ:Nat→Nat):(s.n7 κ).W v (fun k=>if k=s.K then 0 else w k):=by
 have e1:∀f:Nat→Rat,wr (s.K+1) (fun k=>(if k=s.K then 0 else w k)*f k)=wr s.K (fun k=>w k*f k):=fun f=>by
  show wr _ _+(if s.K=s.K then 0 else w _)*f _=_
  rw[if_pos O,wx (fun k hk=>by rw[if_neg O1])];grind
 refine⟨h.v0,fun k hk=>?_,?_,fun c hc=>?_⟩
 ·split
  ·simp
  exact h.nn k (by have hk:k<s.K+1:=hk;omega)
 ·show wr _ _+(if s.K=s.K then 0 else w _)≤1
  rw[if_pos O,wx (fun k hk=>by rw[if_neg O1])];have:=h.one;grind
 show(s.S c)*(if s.dec c then s.p c else v)≤wr (s.K+1) (fun k=>(if k=s.K then 0 else w k)*((if k=s.K then κ else s.κ k) c))
 have:=h.ge c hc;refine rC this ?_;have e2:=e1 (fun k=>((if k=s.K then κ else s.κ k) c));rw[e2,wx (g:=fun k=>w k*((if k=s.K then κ else s.κ k) c)) (fun k hk=>O6)];simp
def Sr.nd(s:Sr):Nat:=(range s.nc).countP s.dec
theorem Sr.nd_lt(hc:c<s.nc)(hd:s.dec c=false):s.nd<s.nc:=by
 have h1:(range s.nc).countP s.dec≤_:=iK;rw[cZ] at h1;rcases lU ((range s.nc).countP s.dec) s.nc with h|h
 ·exact h
 have e:(range s.nc).countP s.dec=(range s.nc).length:=by rw[cZ];omega
 rw[List.countP_eq_length] at e;grind
theorem qP9{p q}:∀(l:List Nat),(∀x∈l,p x=true→q x=true)→(∃x∈l,p x=false∧q x=true)→l.countP p<l.countP q
 |[],_,⟨x,hx,_⟩=>by cases hx
 |y::l,h,hex=>by
  have h1:l.countP p≤_:=List.countP_mono_left fun x hx=>h x (by simp[hx])
  rw[lS,lS];have hy:=h y O4;by_cases ha:∃x∈l,p x=false∧q x=true
  ·have:=qP9 l (fun x hx=>h x (by simp[hx])) ha;grind
  grind
theorem Sr.aB6{v:Rat}{y:Nat→Rat}(hc:c<s.nc)(hd:s.dec c=false)(hy:0<y c):s.nd<(s.next v y).nd:=by
 show(range _).countP _<(range s.nc).countP (fun c=>s.dec c||decide _)
 refine qP9 _ (fun x _ hx=>O6) ⟨c,aR.2 hc,hd,?_⟩;grind
structure Inv(n:Nat)(cl:Nat→Nat)(G:List Nat→Prop)(s0 s:Sr)(lv:List (Rat×(Nat→Rat))):Prop where
 n5:n≤5
 nc:s.nc≤n
 cls:K5 n cl s G (fun κ=>∃P,G P∧∀c,c<s.nc→jX cl P c=κ c)
 pos:∀c,c<s.nc→0<s.S c
 gs:∀P,G P→P.Pairwise (·<·)∧∀i∈P,i<n
 K1:1≤s.K
 kF:∀k,k<s.K→∃P,G P∧∀c,c<s.nc→jX cl P c=s.κ k c
 kd:∀j k,j<k→k<s.K→∃c,c<s.nc∧s.κ k c≠s.κ j c
 wt:∃v w,s.W v w∧∀u,ND lv none=some u→u≤v
 ov:∃D M,0<D∧D≤M∧M<2^C2 lv.length∧∀c,c<s.nc→s.dec c=true→Ov D M (s.p c)
 dc:lv.length≤s.nd
 run:s0.run (fun κ=>∃P,G P∧∀c,c<s.nc→jX cl P c=κ c) lv none s
 yb:∀x∈lv,∀q,q<s.nc→BQ 34273200056 (x.2 q)
section
variable{s0:Sr}{lv:List (Rat×(Nat→Rat))}
theorem Inv.S5(h:Inv n cl G s0 s lv){c}(hc:c<s.nc):s.S c≤5:=by
 rw[h.cls.S c hc];have:=NP cl c n;have:=h.n5;omega
theorem Inv.κS(h:Inv n cl G s0 s lv){k c}(hk:k<s.K)(hc:c<s.nc):s.κ k c≤s.S c:=by
 have⟨P,hP,e⟩:=h.kF k hk;rw[←e c hc,h.cls.S c hc];exact qW3 (h.gs P hP).1 (h.gs P hP).2 c
theorem Inv.K32(h:Inv n cl G s0 s lv):s.K≤32:=by
 have hex:∀k,∃P,k<s.K→G P∧_:=fun k=>by
  by_cases hk:k<s.K
  ·have⟨P,hP⟩:=h.kF k hk;exact⟨P,fun _=>hP⟩
  exact⟨[],fun pw=>absurd pw hk⟩
 have⟨f,hf⟩:=Classical.axiomOfChoice hex;have hl:((range n).map (fun i:Nat=>(i:Int))).length=n:=O4;have key:s.K-1<2^n:=by
  refine jF7 (f:=fun k=>GN (fun v=>v.toNat∈f k∧0≤v) ((range n).map fun i:Nat=>(i:Int))) (fun k _=>?_) (fun j k vt hk he=>?_)
  ·have:=Sa (fun v=>v.toNat∈f k∧0≤v) ((range n).map fun i:Nat=>i);grind
  have he:=N3 he;have⟨g1,g2⟩:=hf j O1;have⟨g3,g4⟩:=hf k O1;have ha:∀i,i∈f j↔i∈f k:=fun i=>by
   by_cases hi:i<n
   ·have:=he i (bM.2 ⟨i,aR.2 hi,O⟩);grind
   exact⟨fun hm=>absurd ((h.gs _ g1).2 i hm) hi,fun hm=>absurd ((h.gs _ g3).2 i hm) hi⟩
  have e:f j=f k:=by
   have y0:(f j).Nodup:=by
    rw[eJ];exact(h.gs _ g1).1.imp fun h=>O1
   have dq:(f k).Nodup:=by
    rw[eJ];exact(h.gs _ g3).1.imp fun h=>O1
   exact(by refine XM O1 (h.gs _ g1).1 (h.gs _ g3).1 ((oG y0 dq).2 ha))
  have⟨c,hc,xr⟩:=h.kd j k vt O1;exact xr O6
 have h5:=h.n5;have:2^n≤2^5:=bG O2 h5;omega
theorem Inv.n7(h:Inv n cl G s0 s lv){P:List Nat}(hP:G P)(x4:∀k,k<s.K→∃c,c<s.nc∧jX cl P c≠s.κ k c):Inv n cl G s0 (s.n7 (jX cl P)) lv:=by
 have ha:∀j,j<s.K→(s.n7 (jX cl P)).κ j=_:=fun j hj=>if_neg O1
 have hh:(s.n7 _).κ _=jX cl P:=if_pos O;have⟨v,w,hw,hu⟩:=h.wt;refine⟨h.n5,h.nc,⟨h.cls.lt,h.cls.S,h.cls.g,h.cls.f⟩,h.pos,h.gs,Nat.le_succ_of_le h.K1,fun k hk=>?_,fun j k vt hk=>?_,⟨v,_,hw.n7 _,hu⟩,h.ov,h.dc,h.run.eqv .refl ⟨O,O,O,O⟩,h.yb⟩
 ·rcases dH.1 hk with hk|rfl
  ·rw[ha k hk];exact h.kF k hk
  rw[hh];grind
 rw[ha j (by have hk:k<s.K+1:=hk;omega)];rcases dH.1 hk with hk|rfl
 ·rw[ha k hk];exact h.kd j k vt hk
 rw[hh];exact x4 j vt
end
section
variable{s0:Sr}{lv:List (Rat×(Nat→Rat))}
theorem Inv.feas(h:Inv n cl G s0 s lv):∃x,BL (s.nc+1) (s.K+1) s.A s.B x:=by
 have⟨v,w,hw,_⟩:=h.wt;exact⟨_,hw.feas⟩
theorem Inv.le1(h:Inv n cl G s0 s lv){c}(hc:c<s.nc)(hd:s.dec c=false){x}(hx:BL (s.nc+1) (s.K+1) s.A s.B x):x 0≤1:=
 (Sr.aA0 hx).aC7 hc hd (h.pos c hc) (fun _ hk=>h.κS hk hc)
theorem Inv.price(h:Inv n cl G s0 s lv){P}(hP:G P)(y):ps (fun i=>y (cl i)) P=s.price y (jX cl P):=by
 rw[L5 cl y _ (fun i hi=>h.cls.lt i ((h.cls.g P hP).2 i hi))];rfl
theorem Inv.du(ho:MG (s.nc+1) (s.K+1) s.A s.B X Y):s.Du (X 0) Y:=Sr.du ho.pos ho.dual ho.val
theorem Inv.tot(ho:MG (s.nc+1) (s.K+1) s.A s.B X Y):s.tot Y≠0:=by
 have:=(Inv.du ho).tot;grind
theorem Inv.more(h:Inv n cl G s0 s lv)(ho:MG (s.nc+1) (s.K+1) s.A s.B X Y){P}(hP:G P)(ha:Y s.nc/s.tot Y<ps (fun i=>Y (cl i)/s.tot Y) P):Inv n cl G s0 (s.n7 (jX cl P)) lv:=by
 refine h.n7 hP ((Inv.du ho).new ?_);rw[←h.price hP _];omega
theorem Inv.level(h:Inv n cl G s0 s lv)(ho:MG (s.nc+1) (s.K+1) s.A s.B X Y)(h5:(X 0).num.natAbs<2^(64*(C2 lv.length+4))∧(X 0).den<2^(64*(C2 lv.length+4)))(gz:∀q,q<s.nc→BQ 34273200056 (Y q/s.tot Y)){P:List Nat}(hP:G P)
  (hj:∀P',G P'→ps (fun i=>Y (cl i)/s.tot Y) P'≤ps (fun i=>Y (cl i)/s.tot Y) P) (tw:ps (fun i=>Y (cl i)/s.tot Y) P≤Y s.nc/s.tot Y):
  ps (fun i=>Y (cl i)/s.tot Y) P-s.l5 (fun c=>Y c/s.tot Y)=X 0∧(s.next (X 0) fun c=>Y c/s.tot Y).W (X 0) (fun k=>X (k+1))∧Inv n cl G s0 (s.next (X 0) fun c=>Y c/s.tot Y) (lv++[(X 0,fun c=>Y c/s.tot Y)])∧s.nd<(s.next (X 0) fun c=>Y c/s.tot Y).nd:=by
 have hh:=Inv.du ho;have hW:=Sr.aA0 ho.feas;have zp:∀P,G P→_=_:=fun P hP=>h.price hP (fun c=>Y c/s.tot Y)
 have hk:∀κ,∀P,(∀c,c<_→jX cl P c=_)→s.price _ (jX cl P)=s.price (fun c=>Y c/s.tot Y) κ:=fun κ P e=>by
  exact wx fun c hc=>by rw[e c hc]
 have⟨h1,h2⟩:=hh.level hW (F:=fun κ=>∃P,G P∧∀c,c<s.nc→jX cl P c=κ c) h.kF ⟨P,hP,fun _ _=>O⟩ (zp P hP).symm (fun κ ⟨P',ha,e⟩=>by
  grind) tw
 obtain⟨y,hy⟩:∃y:Nat→Rat,y=fun c=>Y c/s.tot Y:=⟨_,O⟩
 have gz:∀q,q<_→BQ 34273200056 (y q):=fun q hq=>by rw[hy];exact gz q hq
 rw[←hy] at h1 h2⊢;have hl:=hW.next y;have⟨c,hc,hd,cO⟩:=h2.some;have df:=Sr.aB6 (v:=X 0) hc hd cO;have⟨v,w,hw,hu⟩:=h.wt;have h8:=by
  have:=Rm (Lk _) hw.feas ho.pos ho.dual;rw[←ho.val] at this;exact DT
 refine⟨h1,hl,⟨h.n5,h.nc,h.cls.next _ _,h.pos,h.gs,h.K1,h.kF,h.kd,⟨_,_,hl,fun u hu=>?_⟩,?_,?_,h.run.snoc h2 (fun u h3=>rC (hu u h3) h8),fun x hx=>(fK.1 hx).elim (h.yb x) (fun hx=>by obtain rfl:=gT.1 hx;exact gz)⟩,df⟩
 ·rw[qMi] at hu;grind
 ·have⟨D,M,hD,hg,hM,hp⟩:=h.ov;have hn:0<2^(64*(C2 lv.length+4)):=O1;refine⟨_,_,iP hD (X 0).den_pos,dE hg (oV h5.2),?_,fun c hc hd=>?_⟩
  ·rw[aY];show _<2^(C2 _+64*(C2 _+4))
   rw[eK];exact Nat.mul_lt_mul_of_pos_right hM hn
  show Ov _ _ (if s.dec c then s.p c else if 0<y c then X 0 else s.p c)
  by_cases hm:s.dec c=true
  ·have⟨x,e1,e2⟩:=hp c hc hm;refine⟨x*((X 0).den),?_,?_⟩
   ·rw[nS,←e1,lJ,gI];grind
   rw[oH,lR];exact dE e2 O1
  have cO:0<y c:=by
   have hd:(s.dec c||decide (0<y c))=true:=hd;rw[gJ] at hd;rcases hd with hd|hd
   ·grind
   exact mV hd
  refine⟨(X 0).num*D,?_,?_⟩
  ·rw[nS,lJ,gI];have h3:X 0=((X 0).num)/((X 0).den):=by rw[←iO,rD]
   have h4:(((X 0).den):Rat)≠0:=by
    have:=(X 0).den_pos;exact fun e=>by
     have:=pT.1 e;omega
   grind
  rw[oH,lR,dC];exact dE hg O1
 have:=h.dc;grind
end
def Cd(d:DW)(e:EW)(q:Nat):List Nat:=lm q fun k=>if AC d e k then 49 else 48
def xT(d:DW)(l:List EW)(i:Nat):ByteArray:=kN ((Cd d (l.getD i default) d.Q.length).map fun x:Nat=>(x:Int))
theorem qOy(d e q):Cd d e (q+1)=Cd d e q++[if AC d e q then 49 else 48]:=by
 unfold Cd lm;rw[eX,dR];rfl
theorem jKp{d}(h:xT d l i=xT d l j){k}(hk:k<d.Q.length):AC d (l.getD i default) k=AC d (l.getD j default) k:=by
 have hx:∀i,(xT d l i).data.toList[k]? =some (UInt8.ofNat (((if AC d _ k then 49 else 48:Nat):Int)).toNat):=fun i=>by
  unfold xT Cd;rw[qFq,bH,bH,yI hk];rfl
 have h1:=hx i;rw[h,hx] at h1;cases ha:AC d _ k<;>cases hb:AC d _ k<;>rw[ha,hb] at h1<;>first|rfl|grind
theorem PB{n L pos x cap l s}(hp:Hp w0 M w L)(i:Nat)(hi:L[i]? =some (qG eB 5 1 s cap l))(hv:kg s cap l)(ht:CQ t=some (5,1))(hx:ev n F x= .slice s l.length cap):
  PV prog n w F ⟨d,.convert t 9 x,ty,pos,aft,g⟩ (.string (kN (l.map fun x:Nat=>(x:Int)))):=by
 have hs:=qZ hp i hi hv (fun _=>O);rcases hv with⟨h,h0⟩|⟨b,cap',h,_⟩
 ·have hl:=aX h0;subst hl;cases h;exact(by simp only[PV,execOp,convert,hx,bT,jQ (zK ht).1,jQ underlying9,aN,jQ underlying5];rfl)
 cases h;refine RO (zK ht).1 underlying5 underlying9 hx O4 (fun j v hv=>?_);rw[iU,bH] at hv;cases hj:l[j]? with
 |none=>grind
 |some y=>
  have⟨b',o',e,hc⟩:=hs j y hj;have:=hc 0 _ O;grind
def fC(d:DW)(v:List Value):List Value:=d.L++v
theorem r96(d:DW)(s:Option Addr)(c:Nat)(l:List EW)(W:World)(hD:DE d s l W):
  Rt 96 [d.v,.slice s l.length c] W (fun v w'=>∃fb sC cC sP cP sS cS gD gX,v= .pointer (Ad fb)∧kg sC cC (lm l.length (Ap (xT d l)))∧kg sP cP (lm l.length fun i=>qi (Ap (xT d l)) i (Ap (xT d l) i))∧kg sS cS (lm (pu (xT d l) l.length).length (qi (Ap (xT d l)) l.length))∧
   kg (Ad gD) (pu (xT d l) l.length).length (lm (pu (xT d l) l.length).length fun _=>false)∧kg (Ad gX) (pu (xT d l) l.length).length (lm (pu (xT d l) l.length).length fun _=>(none:Option Rat))∧
   Hp W [] w' [qG DX 49 3 (Ad gX) (pu (xT d l) l.length).length (lm (pu (xT d l) l.length).length fun _=>none),qG Ay 4 1 (Ad gD) (pu (xT d l) l.length).length (lm (pu (xT d l) l.length).length fun _=>false),
    bu fb 22 (qE (fC d [.slice s l.length c,.slice sC l.length cC,.slice sP l.length cP,.slice sS (pu (xT d l) l.length).length cS,Zs,.slice (Ad gD) (pu (xT d l) l.length).length (pu (xT d l) l.length).length,.slice (Ad gX) (pu (xT d l) l.length).length (pu (xT d l) l.length).length,Zs,Zs])) 179,
    qG eN 3 1 sC cC (lm l.length (Ap (xT d l))),qG eN 3 1 sP cP (lm l.length fun i=>qi (Ap (xT d l)) i (Ap (xT d l) i)),qG eN 3 1 sS cS (lm (pu (xT d l) l.length).length (qi (Ap (xT d l)) l.length))]):=by
 have ht:=hD.lq;have ys:=hD.le;obtain⟨key,h3⟩:∃key,key=xT d l:=⟨_,O⟩;rw[←h3];obtain⟨cl,hP⟩:∃cl,cl=Ap key:=⟨_,O⟩;rw[←hP];have mT:prog.underlying 192=some (.map 9 3):=O3;refine tW func96 ntmps96 fun hp=>?_;refine qR ?_;refine tQ fun w1 bd hp=>?_;have hp:=hp.I 0 d.L O O;refine qR ?_;refine ke qY (O:_=Value.pointer _) (qR ?_);refine ke (qL O O O O (hp.i6 0 O O)) (O:_=d.v) (ke qP (O:_=Value.slice s _ c) ?_);refine ke (HS (zs:=[_,_,_,_,_,_,_,_,_,_,_,_,_,_]) (pl:=[(0,13),(13,1)]) (pl':=[(14,1),(15,1),(16,1),(17,1),(18,1),(19,1),(20,1),(21,1)]) underlying179 (qJ O) (fun w=>O3) O O O) (O:_=Value.agg (fC d [.slice s _ c,_,_,_,_,_,_,_,_]).toArray) (tF (kW (cs:=fC d _) (m:=22) hp O O O) fun w2 fb hp=>?_);refine qA ?_;refine tF (yS nk hp) fun w3 mp hp=>?_;have hp:=((hp.j7 eN 3 1).j7 eN 3 1).j7 eN 3 1;have hp:Hp W [] w3 [qG eN 3 1 none 0 (lm 0 cl),qG eN 3 1 none 0 (lm 0 fun i=>qi cl i (cl i)),qG eN 3 1 none 0 (lm (pu key 0).length (qi cl 0)),yA nk mp (Ch key 0),bu fb 22 (qE (fC d [.slice s l.length c,Zs,Zs,Zs,Zs,Zs,Zs,Zs,Zs])) 179,bu bd 13 (qE d.L) 28]:=by
  rw[jF2];exact hp
 refine qA (qQ ([8,9,11,12,13]++range' 21 86) (fun(z:Nat×(Option Addr×Nat)×(Option Addr×Nat)×(Option Addr×Nat)) F=>F.put 21 (Iv (z.1:Int)))
  (fun z w'=>z.1≤l.length∧kg z.2.1.1 z.2.1.2 (lm z.1 cl)∧kg z.2.2.1.1 z.2.2.1.2 (lm z.1 fun i=>qi cl i (cl i))∧kg z.2.2.2.1 z.2.2.2.2 (lm (pu key z.1).length (qi cl z.1))∧Hp W [] w' [qG eN 3 1 z.2.1.1 z.2.1.2 (lm z.1 cl),qG eN 3 1 z.2.2.1.1 z.2.2.1.2 (lm z.1 _),qG eN 3 1 z.2.2.2.1 z.2.2.2.2 (lm (pu key z.1).length (qi cl z.1)),yA nk mp (Ch key z.1),
   bu fb 22 (qE (fC d [_,.slice z.2.1.1 z.1 z.2.1.2,.slice z.2.2.1.1 z.1 z.2.2.1.2,.slice z.2.2.2.1 (pu key z.1).length z.2.2.2.2,_,_,_,_,_])) 179,_]) (fun z=>l.length-z.1) (0,(none,0),(none,0),(none,0)) (qB (ka.eq .refl) O) ⟨O1,kg.nil,kg.nil,kg.nil,hp⟩ ?_)
 clear hp;rintro u ⟨i,⟨sC,cC⟩,⟨sP,cP⟩,⟨sS,cS⟩⟩ w4 ⟨hi,hK,tr,hh,hp⟩;simp[] at hi hK tr hh;have hp:Hp W [] w4 [qG eN 3 1 sC cC (lm i cl),qG eN 3 1 sP cP (lm i _),qG eN 3 1 sS cS (lm (pu _ i).length (qi cl i)),yA _ mp (Ch _ i),bu fb 22 (qE (fC d [_,.slice sC i cC,.slice sP i cP,.slice sS (pu _ i).length cS,_,_,_,_,_])) 179,_]:=hp;have xb:=Lz (key:=key) i;refine tI (fun h=>?_) fun h=>?_
 ·have hl:i<l.length:=by
   have:(i:Int)<(l.length:Int):=h;omega
  obtain⟨e,he⟩:∃e,l[i]? =some e:=⟨_,aA hl⟩;have hH:l.getD i default=e:=by rw[aC,he];rfl
  have⟨be,oe,hM,hE⟩:=hD.e i e he;have x7:=hD.g e (aG he);have qj:=hD.lg e (aG he);have hx:key i=kN ((Cd d e d.Q.length).map fun x:Nat=>x):=by rw[h3];unfold xT;rw[hH]
  refine qA (ke (qL O O O O (fun j v hv=>hp.j3 (hE j v hv))) (O:_=e.v) ?_);refine tF (zE (cs:=[_,_,_,_,_,_]) (m:=6) hp (qJ O) O O) fun w6 b8 hp=>tS fun w7 hp=>?_;have hp:=hp.I 0 (AR e) O O;have hp:=hp.j7 eB 5 1;have hp:Hp W [] w7 [qG eB 5 1 _ 0 (Cd d e 0),bu b8 6 _ 94,_,_,_,_,_,_]:=hp;refine qA (qQ ([9,11]++range' 28 16) (fun z F=>(F.put 9 (.slice z.2.1 (Cd d e z.1).length z.2.2)).put 28 (.int _ (z.1)))
   (fun z w'=>z.1≤d.Q.length∧kg z.2.1 z.2.2 (Cd d e z.1)∧Hp W [] w' [qG eB 5 1 z.2.1 z.2.2 (Cd d e z.1),_,_,_,_,_,_,_]) (fun z=>d.Q.length-z.1) (0,none,0) (qB (qB (ka.eq .refl) O) O) ⟨O1,kg.nil,hp⟩ ?_)
  clear hp;rintro u2 ⟨q,s9,c9⟩ w8 ⟨hq,h9,hp⟩;simp[] at hq h9;have hp:Hp W [] w8 [qG eB 5 1 s9 c9 (Cd d e q),_,_,_,_,_,_,_]:=hp;have hS:(Cd d e q).length=q:=qT;refine tI (fun h2=>?_) fun h2=>?_
  ·have h4:q<d.Q.length:=by
    have:(q:Int)<(d.Q.length:Int):=h2;omega
   obtain⟨qu,hy⟩:∃qu,d.Q[q]? =some qu:=⟨_,aA h4⟩;have bR:AC d e q=Ce e.G qu.1:=by
    unfold AC;rw[aC,hy];rfl
   have⟨bq,oq,ow,hz⟩:=hD.q q qu hy;have h7:=fun j v hv=>hp.j3 (hz j v hv)
   refine qA (tR (qL O O O O h7) ?_);refine vK fun w b hp=>?_
   have hp:=hp.I 0 (DU qu) O O;refine tL (jVv _ _ _ _ _ (x7.i7 hp.Z) qj) ?_;rintro _ w9 ⟨rfl,hk⟩;have hp:=hp.V hk;rw[←bR];refine qA ?_;cases hb:AC d e q with
   |true=>
    have h6:Cd d e q++[49]=Cd d e (q+1):=by rw[qOy,hb];rfl
    refine jB O (qA ?_);refine tF (jC (cs:=[.int _ 49]) hp O O O O O O O) fun uy nb hp=>AB (jV eB (Cd d e q) 49 hp 2 0 O O O O O O (fun _=>O) O O O h9 O O O1) fun uz s' c'⟨hn,hp⟩=>?_;exact mCn
   |false=>
    have h6:Cd d e q++[48]=Cd d e (q+1):=by rw[qOy,hb];rfl
    refine tJ ?_;refine tF (jC (cs:=[.int _ 48]) hp O O O O O O O) fun uy nb hp=>AB (jV eB (Cd d e q) 48 hp 2 0 O O O O O O (fun _=>O) O O O h9 O O O1) fun uz s' c'⟨hn,hp⟩=>?_;exact mCn
  obtain rfl:d.Q.length=q:=by
   omega
  have hJ:cl i=Ap key i:=by rw[hP]
  have hS:(Cd d e d.Q.length).length=_:=qT;refine qR ?_;refine ke qP (O:_=Value.map _) (ke qP (O:_=Value.slice s9 (Cd d e d.Q.length).length c9) ?_);refine ke (PB hp 0 O h9 O O) (aK _ hx.symm) ?_;refine ke (OX hp 5 O O O mT underlying9 (qJ O)) (O:_=Value.tuple #[(Ch key i (key i)).getD (Iv 0),.bool (Ch key i (key i)).isSome]) ?_;have yl:cl i<(pu key (i+1)).length:=by rw[hJ];exact IX O1
  have hY:=Lz (key:=key) (i+1);refine qA (uD ([12]++range' 53 18) (fun(z:Option Addr×Nat) F=>F.put 12 (Iv (cl i:Int))) (fun z w'=>kg z.1 z.2 (lm (pu key (i+1)).length (qi cl i))∧Hp W [] w' [qG eB 5 1 s9 c9 (Cd d e d.Q.length),bu b8 6 (qE (AR e)) 94,qG eN 3 1 sC cC (lm i cl),qG eN 3 1 sP cP (lm i fun i=>qi cl i (cl i)),qG eN 3 1 z.1 z.2 (lm (pu key (i+1)).length (qi cl i)),yA nk mp (Ch key (i+1)),bu fb 22 (qE (fC d [.slice s l.length c,.slice sC i cC,.slice sP i cP,.slice z.1 (pu key (i+1)).length z.2,Zs,Zs,Zs,Zs,Zs])) 179,bu bd 13 (qE d.L) 28]) ?_ ?_)
  ·by_cases hm:key i∈pu key i
   ·rw[jKn hm];rw[jF3 hm,←(LN hm).2] at hp;rw[←(LN hm).2] at hh;refine tJ ?_;exact⟨(sS,cS),qB O5 (by rw[hJ];rfl),hh,hp⟩
   rw[jPg hm];have⟨y0,dq⟩:=R9 hm;have hX:(pu key (i+1)).length=(pu key i).length+1:=by rw[dq,aY];rfl
   have yk:qi cl i (pu key i).length=0:=ZF fun j hj e=>by
    have:=IX (key:=key) hj;rw[hP] at e;omega
   have hU:lm (pu key i).length (qi cl i)++[0]=lm (pu key (i+1)).length (qi cl i):=by rw[hX,kh,yk]
   refine jB O (qA ?_);refine ke (PB hp 0 O h9 O O) (aK _ hx.symm) (qA ?_);refine tO (J4 hp 5 O O O O mT underlying9) fun w9 hp=>?_;have hp:Hp W [] w9 [_,_,_,_,_,yA _ mp (fun k=>if k=_ then some (.int _ _) else Ch _ i k),_,_]:=hp;have eb:(fun k=>if k=key i then some (Iv ((pu key i).length)) else Ch key i k)=Ch key (i+1):=by
    rw[←jKo hm,y0]
   rw[eb] at hp;refine qA ?_;refine tF (jC (cs:=[.int _ 0]) hp O O O O O O O) fun uy nb hp=>AB (jV eN _ 0 hp 5 0 O O O O O O (fun _=>O) (by rw[qT];rfl) O O hh O O (by rw[qT];omega)) fun uz sa ca⟨h5,hp⟩=>?_;have hp:=hp.E;rw[hU] at h5 hp⊢;rw[qT];refine qA (tO (jD hp 6 O O O O (qD O) O) fun u0 hp=>?_);refine qA ?_;exact⟨(sa,ca),qB O5 (by rw[hJ,y0];rfl),h5,hp⟩
  clear hp hh;rintro u3 ⟨sa,ca⟩ u5 ⟨h5,hp⟩;simp[] at h5;have hp:Hp W [] _ [_,_,_,_,qG eN 3 1 sa ca _,_,bu fb 22 (qE (fC d [_,_,_,.slice sa _ ca,_,_,_,_,_])) 179,_]:=hp;have hp:=hp.E.E;refine qA ?_;refine tF (jC (cs:=[.int _ _]) hp O O O O O O O) fun ha nb hp=>AB (jV eN _ _ hp 1 0 O O O O O O (fun _=>O) (by rw[qT];rfl) O O hK O O (by rw[qT];omega)) fun u4 sc ci⟨hL,hp⟩=>?_;have hp:=hp.E;have hp:Hp W [] _ [_,_,_,_,_,_]:=hp;rw[←kh] at hL hp⊢;rw[qT];refine tT fun hg hp=>?_;have hp:=hp.I 4 (fC d [.slice s _ c,.slice _ _ _,.slice sP i cP,.slice _ _ _,.slice _ 0 0,.slice _ 0 0,.slice _ 0 0,.slice _ 0 0,.slice _ 0 0]) O O;have hp:Hp W [] _ [_,_,_,_,_,_]:=hp;have hV:lm (pu key (i+1)).length (qi cl i)≠[]:=fun e=>by
   have:=aK List.length e;rw[qT,mS] at this;omega
  obtain⟨gS,rfl⟩:=h5.addr hV;have cc:∀{w':World} {L:List _},Hp W [] w' L→_=some (qG eN 3 1 _ _ _)→w'.cell? ⟨gS,0+_,_⟩=_:=fun h1 h2=>zM (qZ h1 2 h2 h5 (fun _=>O)) yl 0 _ O
  refine qA ?_;have ay:=hp;have cj:hg.cell? ⟨fb,0+15,_⟩=some (.slice sP i cP):=hp.J 4 O O;have cf:hg.cell? ⟨fb,0+16,_⟩=some (.slice _ _ ca):=hp.J 4 O O;have ce:=cc hp O;have ap:=hp.j9 (i:=1) O (j:=4) O O1 O;have aa:gS∉zG _:=hp.j9 (i:=1) O (j:=2) O O1 O;have hp:=ay.j8 1 O;refine xL 16 O jG O3 (fun w'=>ax _ _ w') hp.U.Z ?_;have hp:=hp.U;refine qX ?_;apply kp;rfl;intro w hk;exact qS O O (hk.cell cj ap);rfl;refine qX ?_;apply kp;rfl;intro w hk;exact qS O O (hk.cell cf ap);rfl;refine qX ?_;apply kp;rfl;intro w hk;exact qS O O (hk.cell ce aa);rfl;apply Ag;rfl;exact jC (cs:=[.int _ _]) hp O O O O O O O;rintro _ vb ⟨nb2,rfl,hp⟩;refine⟨hp.Z,?_⟩;apply Ag;rfl;exact jV eN (lm i fun i=>qi cl i (cl i)) (qi cl i (cl i)) hp 1 0 O O O O O O (fun _=>O) (by rw[qT];rfl) O O tr O O (by rw[qT];omega);rintro _ vd ⟨sd,cg,rfl,hQ,hp⟩;refine⟨hp.Z,?_⟩;have hp:=hp.E;rw[←kh] at hQ⊢;rw[qT];have hp:Hp _ _ _ [_]:=hp;rw[←kh] at hp;refine qX (qU ?_);have hp:=ay.j5 1 O hp;refine gx.mono (jD hp 4 O O O O (qD O) O) ?_;rintro _ vc ⟨rfl,hp⟩;have hp:=hp.I 4 (fC d [.slice s _ c,.slice _ _ _,.slice _ _ _,.slice _ _ _,.slice _ 0 0,.slice _ 0 0,.slice _ 0 0,.slice _ 0 0,.slice _ 0 0]) O O;have hp:Hp W [] _ [_,_,_,_,_,_]:=hp;have ce:=cc hp O;have hZ:=NP cl (cl i) i;refine tM (qi cl i (cl i)+1) ?_;refine qA (tO (zL eN _ _ _ hp 2 O h5 (by rw[qT];omega) O O (fun _=>O) O O (qD O)) fun ve hp=>?_);have hp:Hp W [] _ [_,_,_,_,_,_]:=hp;have hT:(lm (pu key (i+1)).length (qi cl i)).set (cl i) (qi cl i (cl i)+1)=lm (pu key (i+1)).length (qi cl (i+1)):=by
   rw[vF];refine jH fun j _=>?_
   show _=qi cl i j+if cl i=j then 1 else 0
   by_cases hj:j=cl i
   ·grind
   rw[if_neg hj,if_neg (fun e=>hj e.symm)];rfl
  rw[hT] at hp;refine Ae ?_;exact⟨(i+1,(sc,ci),(sd,cg),(Ad gS,ca)),qB O5 O,⟨O1,hL,hQ,jZ h5 O6,hp⟩,O1⟩
 obtain rfl:l.length=i:=by
  omega
 refine qA ?_;refine tF (yE Ay _ hp O O O O O O O O1 O) fun w5 gD⟨hF,hp⟩=>?_;rw[Ec] at hp hF;refine tT fun w6 hp=>?_;refine qA ?_;refine tF (N0 DX none hp O O O O O O O O1) fun w7 gX⟨h8,hp⟩=>?_;rw[Ec] at hp h8;refine qA (tO (jD hp 6 O O O O (qD O) O) fun w8 hp=>?_);refine qA ?_;exact qM O O ⟨_,O,fb,sC,cC,sP,cP,sS,cS,gD,gX,O,hK,tr,hh,hF,h8,hp.j4 [0,1,6,2,3,4] _ O2 O⟩
theorem Hp.z8{enc:α→List Value}{L}(hp:Hp w0 M w L)(i){b k e}(x:α)(hi:L[i]? =some (bu b k (qE (enc x)) e))(hk:(enc x).length=k):Hp w0 M w (L.set i (qG enc e k (Ad b) 1 [x])):=by
 refine hp.y1 hi fun o ho=>?_
 subst ho;refine⟨_,O,by simp[Jq],?_⟩;have h1:=frL (enc x);rw[hk] at h1;have h2:(Array.ofFn (n:=k) fun i=>qE (enc x) i).toList=enc x:=by
  refine Eq.trans ?_ h1;apply dI;intro j;by_cases hj:j<k
  ·simp[hj]
  simp[hj]
 rw[h2,show[x].length*k=k from mH k,bJ O1];simp
theorem OJ(x:α):kg (Ad b) 1 [x]:=.inr ⟨b,1,O,aS _,O2⟩
theorem qTs(cl:Nat→Nat){P:List Nat}{i x:Nat}(h:P[i]? =some x)(c:Nat):jX cl (P.take (i+1)) c=jX cl (P.take i) c+if cl x=c then 1 else 0:=by
 have⟨hi,e⟩:=aI.1 h;unfold jX;rw[aF hi,iM,e];simp
theorem jB8(cl P c):jX cl P c≤P.length:=iK
structure Eu where
 d:DW
 sE:Option Addr
 cE:Nat
 n:Nat
 cl:Nat→Nat
 plc:Nat→Nat
structure Cp where
 fb:Nat
 sC:Option Addr
 cC:Nat
 sP:Option Addr
 cP:Nat
 sS:Option Addr
 cS:Nat
 gD:Nat
 gX:Nat
 sK:Option Addr
 cK:Nat
 gk:Nat→Nat
 sW:Option Addr
 nW:Nat
 cW:Nat
 sL:Option Addr
 cL:Nat
 lr:Nat→Option Addr×Nat
def Gv:Rat×(Nat→Rat):=(0,fun _=>0)
def Cp.C(a:Cp)(c:Eu)(nc K nl:Nat):List Value:=fC c.d [.slice c.sE c.n c.cE,.slice a.sC c.n a.cC,.slice a.sP c.n a.cP,.slice a.sS nc a.cS,.slice a.sK K a.cK,.slice (some ⟨a.gD,0,none⟩) nc nc,.slice (some ⟨a.gX,0,none⟩) nc nc,.slice a.sW a.nW a.cW,.slice a.sL nl a.cL]
def kH(gk:Nat→Nat)(nc K:Nat):List (Option Addr×Nat×Nat):=lm K fun j=>(some ⟨gk j,0,none⟩,nc,nc)
def FC(gk:Nat→Nat)(nc:Nat)(κ:Nat→Nat→Nat)(j:Nat):kr:=qG eN 3 1 (some ⟨gk j,0,none⟩) nc (lm nc (κ j))
def E3(x:Rat×Option Addr×Nat×Nat):List Value:=eQ x.1++[.slice x.2.1 x.2.2.1 x.2.2.2]
def lH(lr:Nat→Option Addr×Nat)(n:Nat)(lv:List (Rat×(Nat→Rat))):List (Rat×Option Addr×Nat×Nat):=lm lv.length fun j=>((lv.getD j Gv).1,(lr j).1,n,(lr j).2)
def EB(lr:Nat→Option Addr×Nat)(n:Nat)(lv:List (Rat×(Nat→Rat)))(j:Nat):kr:=qG eQ 49 3 (lr j).1 (lr j).2 (lm n (lv.getD j Gv).2)
def pO(s:Sr)(c:Nat):Option Rat:=if s.dec c then some (s.p c) else none
def qc(a:Cp)(c:Eu)(s:Sr)(lv:List (Rat×(Nat→Rat))):List kr:=[bu a.fb 22 (qE (a.C c s.nc s.K lv.length)) 179,qG eN 3 1 a.sC a.cC (lm c.n c.cl),qG eN 3 1 a.sP a.cP (lm c.n c.plc),qG eN 3 1 a.sS a.cS (lm s.nc s.S),qG jO 22 1 a.sK a.cK (kH a.gk s.nc s.K),
 qG Ay 4 1 (some ⟨a.gD,0,none⟩) s.nc (lm s.nc s.dec),qG DX 49 3 (some ⟨a.gX,0,none⟩) s.nc (lm s.nc (pO s)),qG E3 204 4 a.sL a.cL (lH a.lr c.n lv)]++(lm s.K (FC a.gk s.nc s.κ)++lm lv.length (EB a.lr c.n lv))
structure Bm(a:Cp)(c:Eu)(s:Sr)(lv:List (Rat×(Nat→Rat))):Prop where
 C:kg a.sC a.cC (lm c.n c.cl)
 P:kg a.sP a.cP (lm c.n c.plc)
 S:kg a.sS a.cS (lm s.nc s.S)
 K:kg a.sK a.cK (kH a.gk s.nc s.K)
 D:kg (some ⟨a.gD,0,none⟩) s.nc (lm s.nc s.dec)
 X:kg (some ⟨a.gX,0,none⟩) s.nc (lm s.nc (pO s))
 L:kg a.sL a.cL (lH a.lr c.n lv)
 k:∀j,j<s.K→kg (some ⟨a.gk j,0,none⟩) s.nc (lm s.nc (s.κ j))
 l:∀j,j<lv.length→kg (a.lr j).1 (a.lr j).2 (lm c.n (lv.getD j Gv).2)
structure BE(a:Cp)(c:Eu)(s:Sr)(w:World):Prop where
 hd:∀(j:Nat) (v:Value),c.d.L[j]? =some v→w.cell? ⟨a.fb,0+j,none⟩=some v
 h13:w.cell? ⟨a.fb,0+13,none⟩=some (.slice c.sE c.n c.cE)
 h14:w.cell? ⟨a.fb,0+14,none⟩=some (.slice a.sC c.n a.cC)
 h15:w.cell? ⟨a.fb,0+15,none⟩=some (.slice a.sP c.n a.cP)
 h16:w.cell? ⟨a.fb,0+16,none⟩=some (.slice a.sS s.nc a.cS)
 h17:w.cell? ⟨a.fb,0+17,none⟩=some (.slice a.sK s.K a.cK)
 h18:w.cell? ⟨a.fb,0+18,none⟩=some (.slice (some ⟨a.gD,0,none⟩) s.nc s.nc)
 h19:w.cell? ⟨a.fb,0+19,none⟩=some (.slice (some ⟨a.gX,0,none⟩) s.nc s.nc)
 h20:w.cell? ⟨a.fb,0+20,none⟩=some (.slice a.sW a.nW a.cW)
 C:ig w 1 eN a.sC (lm c.n c.cl)
 P:ig w 1 eN a.sP (lm c.n c.plc)
 S:ig w 1 eN a.sS (lm s.nc s.S)
 K:ig w 1 jO a.sK (kH a.gk s.nc s.K)
 k:∀j,j<s.K→ig w 1 eN (some ⟨a.gk j,0,none⟩) (lm s.nc (s.κ j))
 D:ig w 1 Ay (some ⟨a.gD,0,none⟩) (lm s.nc s.dec)
 X:ig w 3 DX (some ⟨a.gX,0,none⟩) (lm s.nc (pO s))
theorem BE.j1{a c}(h:BE a c s w)(hk:ax [] w w'):BE a c s w':=
 ⟨fun j v e=>hk.cell (h.hd j v e) O4,hk.cell h.h13 O4,hk.cell h.h14 O4,hk.cell h.h15 O4,hk.cell h.h16 O4,hk.cell h.h17 O4,hk.cell h.h18 O4,hk.cell h.h19 O4,hk.cell h.h20 O4,
  h.C.i7 hk,h.P.i7 hk,h.S.i7 hk,h.K.i7 hk,fun j hj=>(h.k j hj).i7 hk,h.D.i7 hk,h.X.i7 hk⟩
theorem Kk{L e}{enc:α→List Value}{s l}(hp:Hp w0 M w L)(hm:qG enc e k s c l∈L)(hv:kg s c l)(hk:∀x,(enc x).length=k):ig w k enc s l:=by
 have⟨i,hi⟩:=fZ hm;exact qZ hp i hi hv hk
theorem BE.of{a c lv Y}(hp:Hp w0 M w (qc a c s lv++Y))(ok:Bm a c s lv):BE a c s w:=by
 have hp:=hp.x (eY _ _);refine⟨fun j v e=>?_,hp.J 0 O O,hp.J 0 O O,hp.J 0 O O,hp.J 0 O O,hp.J 0 O O,hp.J 0 O O,hp.J 0 O O,hp.J 0 O O,qZ hp 1 O ok.C (fun _=>O),qZ hp 2 O ok.P (fun _=>O),qZ hp 3 O ok.S (fun _=>O),qZ hp 4 O ok.K (fun _=>O),fun j hj=>?_,qZ hp 5 O ok.D (fun _=>O),qZ hp 6 O ok.X LK⟩
 ·refine hp.i6 0 O O j v ?_;show(c.d.L++_)[j]? =some v
  grind
 exact Kk hp (aQ _ (dD _ (bM.2 ⟨j,aR.2 hj,O⟩))) (ok.k j hj) (fun _=>O)
theorem XR(a:Cp)(c:Eu)(s:Sr)(lv:List (Rat×(Nat→Rat)))(P:List Nat)(sQ:Option Addr)(cQ:Nat)(M:List Nat)(W:World)(ok:Bm a c s lv)(hp:Hp W M W (qc a c s lv))(hs:ig W 1 eN sQ P)(hP:∀i∈P,i<c.n)(ha:∀i,i<c.n→c.cl i<s.nc)
  (hy:s.nc≤1000) (zf:P.length≤1000) (hK:s.K≤100000):
  Rt 97 [.pointer (some ⟨a.fb,0,none⟩),.slice sQ P.length cQ] W (fun _ w'=>∃sK cK gk,Bm {a with sK:=sK,cK:=cK,gk:=gk} c (s.n7 (jX c.cl P)) lv∧Hp W M w' (qc {a with sK:=sK,cK:=cK,gk:=gk} c (s.n7 (jX c.cl P)) lv)):=by
 have hR:=BE.of (by rw[bO];exact hp) ok;have oS:=hp;refine tW func97 ntmps97 fun hp=>?_;have h16:=hR.h16;have h14:=hR.h14;refine qA ?_;refine tF (yE eN 0 hp O O O O O O O O1 O) fun w1 g⟨hv,hp⟩=>?_;rw[Ec] at hp hv;have sa:∀f:Nat→Nat,kg _ _ (lm _ f):=fun f=>jZ hv (by rw[qT,qT])
 have hp:Hp W [] w1 [qG eN 3 1 _ _ (lm _ (jX c.cl (P.take 0)))]:=hp;refine qA (qQ ([6]++range' 15 17) (fun(k:Nat) F=>F.put 15 (.int _ k)) (fun k w'=>k≤P.length∧Hp W [] w' [qG eN 3 1 _ _ (lm _ (jX _ (P.take k)))]) (fun k=>P.length-k) 0 (qB (ka.eq .refl) O) ⟨O1,hp⟩ ?_);clear hp;rintro u k w2 ⟨hk,hp⟩;refine tI (fun h=>?_) fun h=>?_
 ·have hl:k<P.length:=O1;obtain⟨x,hx⟩:∃x,P[k]? =some x:=⟨_,aA hl⟩;have hn:=hP x (aG hx);have h5:=ha x hn;have⟨bs,os,hg,hc⟩:=hs k x hx;have yk:w2.cell? ⟨bs,os+k*1,_⟩=_:=hp.j3 (hc 0 _ O);have⟨bc,oc,xi,bv⟩:=jR hR.C hn;have vx:w2.cell? ⟨bc,oc+x*1,_⟩=_:=hp.j3 (bv 0 _ O);have u6:w2.cell? ⟨g,0+_,_⟩=_:=zM (qZ hp 0 O (sa _) (fun _=>O)) h5 0 _ O;have ys:=jB8 c.cl (P.take k) (c.cl x);rw[cJ] at ys;have hz:=hp.j3 h14;refine tM (jX c.cl (P.take k) (c.cl x)+1) ?_;refine qA (tO (zL eN _ _ _ hp 0 O (sa _) (by rw[qT];omega) O O (fun _=>O) O O (qD O)) fun w3 hp=>?_);have hT:(lm s.nc (jX c.cl (P.take k))).set (c.cl x) (jX c.cl (P.take k) (c.cl x)+1)=lm s.nc (jX c.cl (P.take (k+1))):=by
   rw[vF];refine jH fun j _=>?_
   rw[qTs c.cl hx j];by_cases hj:j=c.cl x
   ·grind
   rw[if_neg hj,if_neg (fun e=>hj e.symm)];rfl
  rw[hT] at hp;exact Fp
 obtain rfl:P.length=k:=O1;rw[dF] at hp;have hp:=oS.C hp;have hp:=hp;have h3:(kH a.gk s.nc _).length=s.K:=qT;refine qA ?_;refine tF (jC (cs:=[.slice _ _ _]) hp O O O O O O O) fun w3 nb hp=>AB (jV jO _ (some _,s.nc,s.nc) hp 6 0 O O O O O O (fun _=>O) (by rw[h3];rfl) O O ok.K O O O1) fun w4 sc ca⟨ht,hp⟩=>?_;have hp:=hp.E;obtain⟨gb,rq⟩:∃gb:Nat→Nat,gb=fun j=>if j=s.K then g else a.gk j:=⟨_,O⟩
 have hE:∀j,j<s.K→gb j=a.gk j:=fun j hj=>O6
 have h4:gb s.K=g:=by rw[rq];exact if_pos O
 have hm:∀j,j<s.K→(s.n7 (jX c.cl P)).κ j=_:=fun j hj=>if_neg O1
 have hh:(s.n7 _).κ _=jX c.cl P:=if_pos O;have eH:kH a.gk s.nc s.K++[((Ad g),s.nc,s.nc)]=kH gb s.nc (s.K+1):=by
  unfold kH;rw[kh,h4,jH (f:=fun j=>((some ⟨a.gk j,0,none⟩:Option Addr),s.nc,s.nc)) (g:=fun j=>((some ⟨gb j,0,none⟩:Option Addr),s.nc,s.nc)) (fun j hj=>O6)]
 have eR:lm s.K (FC a.gk s.nc s.κ)++[qG eN 3 1 (Ad g) s.nc (lm s.nc (jX c.cl P))]=lm (s.K+1) (FC gb s.nc (s.n7 (jX c.cl P)).κ):=by
  rw[kh];congr 1
  ·exact jH fun j hj=>by unfold FC;grind
  unfold FC;rw[h4,hh]
 have hq:(kH a.gk s.nc s.K++[((Ad g:Option Addr),s.nc,s.nc)]).length=s.K+1:=by rw[aY,h3];rfl
 rw[hq];rw[eH] at ht;refine tT fun w5 hp=>?_;have hp:=hp.I 1 ({a with sK:=sc,cK:=ca,gk:=gb}.C c _ _ _) O O
 have hp:Hp W M w5 ([_]++([_,_,_,_,_,
  _,_,_]++_)):=hp
 rw[eH] at hp;have hp:=hp.perm (eF);rw[bU,bU] at hp;have hp:=hp.perm ((mQ _ (eF)).append_left _);rw[←bU (lm _ _),eR] at hp;refine qA ?_
 exact xK O ⟨_,O,sc,ca,gb,⟨ok.C,ok.P,ok.S,ht,ok.D,ok.X,ok.L,fun j hj=>by
  show kg (some ⟨gb j,0,_⟩) s.nc (lm s.nc _)
  rcases dH.1 (show j<s.K+1 from hj) with h|rfl
  ·rw[hE j h,hm j h];exact ok.k j h
  grind,ok.l⟩,hp⟩
end Go.Eng
