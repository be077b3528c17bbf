/- Merged texts of ours; conditions are the hypotheses of each law. -/
import Derived.Test.YtplkndjlfkkjlaaGreatDoorP7
import Derived.Test.YtplkndjlfkkjlaaGreatDoorTie
import Derived.Test.YtplkndjlfkkjlaaGreatDoorCards
import Derived.ProofKit
import Derived.OpenShut
import Derived.Carry
import Derived.Deep.Slices
import Derived.SizedLaws
import Derived.LaidLaws
import Derived.LaidHandle
import Derived.MakeChecks
import Derived.Lib.LaidTab
import Derived.ChangeVars
import Derived.JoinedOf
import Derived.RowKit
namespace Go.Proofs.YtplkndjlfkkjlaaGreatDoor
open List (range range' replicate)
open Go.Eng Go.ChangeShapes Go.WideShapes Go.ChangeAt Go.RowKit Go.Deep
theorem laid:laidOutB Tryz.prog=true:=O3
theorem zCv:ownKnob Tryz.prog.godebug=none:=O3
theorem jAg{w:World}{a:Addr}{v:Value}(h:w.cell? a=some v):a.spot=none:=by
 unfold World.cell? at h;split at h
 ·split at h
  ·cases h
  rename_i h2
  cases hs:a.spot
  ·rfl
  rw[hs] at h2;simp at h2
 cases h
section
variable {H:Type}{enc:TypeId×Value→H}{P:Program}{w:World}{base:Nat}{spare:Nat→Bool}{held:Bool}
theorem jAz{α:Type}{f:α→List Value}{ok:α→Prop}{t e k fuel:Nat}{cs:List Value}{x:DataW H×List MemPlace}(ht:P.underlying t=some (.slice e))(hk:P.cellsOf e=k)(rf:0<k)
  (cM:∀n c8 y,DataW.trod enc P w base spare held n e c8=some y→∃a,c8=f a∧ok a) (h:DataW.trod enc P w base spare held fuel t cs=some x):
  ∃s c,∃l:List α,cs=[.slice s l.length c]∧l.length≤c∧c≤maxLen∧ig w k f s l∧(∀a∈l,ok a)∧(l=[]∨∃es rs,x.1= .slice es rs∧es.length=l.length):=by
 rcases open_slice ht h with⟨rfl,_⟩|⟨a,len,cap,m,n,D,Pl,rfl,hb,hl,hm,hmm,hxe,hx⟩
 ·exact⟨none,0,[],O,aS _,by unfold maxLen;omega,by intro i x hx;simp at hx,O4,.inl O⟩
 have cD:len≤m:=by rw[hmm];split<;>omega
 rw[hk] at hx;have hex:∀i:Fin len,∃y,w.cells? base (a.add (i*k)) k=some (f y)∧ok y:=by
  intro i;obtain⟨c8,h1,h2⟩:=hx i O1;obtain⟨y,rfl,hy⟩:=cM _ _ _ h2;exact⟨y,h1,hy⟩
 refine⟨some a,cap,List.ofFn fun i=>Classical.choose (hex i),O4,by simpa using hl,hm,?_,?_,.inr ⟨_,_,by rw[hxe],O4⟩⟩
 ·intro i y hy;have hi:i<len:=by have:=(aI.1 hy).1;simpa using this
  have cO:Classical.choose (hex ⟨i,hi⟩)=y:=by
   rw[List.getElem?_ofFn] at hy;simpa[hi] using hy
  have h7:=(rG (hex ⟨i,hi⟩)).1;rw[cO] at h7;obtain⟨_,hQ,hc⟩:=World.cells?_some h7;obtain⟨_,cX,yk⟩:=World.cells?_some (rG (hex ⟨0,O1⟩)).1;have hs0:=jAg ((yk 0 O1).trans (aA O1));have cH:a.spot=none:=by simpa[Addr.add] using hs0
  refine⟨a.block,a.off,?_,fun j v hv=>?_⟩
  ·cases a;simp at cH;subst cH;rfl
  have hj:j<k:=by rw[←hQ];exact(aI.1 hv).1
  have:=(hc j hj).trans hv;cases a;simp at cH;subst cH;rw[yC,yC] at this;exact this
 intro y hy;rw[List.mem_ofFn] at hy;obtain⟨i,rfl⟩:=hy;exact(rG (hex i)).2
theorem qGw(hl:laidOutB P=true){W W':World}(hb:Below W.heap.size W W'){sp:Nat→Bool}:∀(ts:List TypeId) (vs:List Value) (ds:List (DataW H)) (ps:List MemPlace),
  (∀t∈ts,P.readableRec t=true∧t<P.types.size)→DataW.TrodAll enc P W 0 (fun _=>true) true ts vs ds ps→(∀x∈ps,x.block<W.heap.size)→(∀x∈ps,sp x.block=true)→
  DataW.TrodAll enc P W' 0 sp true ts vs ds ps
 |[],vs,ds,ps,_,h,_,_=>by
  obtain⟨rfl,rfl,rfl⟩:=trodAll_nil h;exact trodAll_mk0
 |t::ts,vs,ds,ps,ht,h,hlt,hsp=>by
  obtain⟨v,db,d,da,p,q,rfl,rfl,rfl,h1,h2⟩:=trodAll_cons h;refine⟨p,q,?_,qGw hl hb ts db da q (fun t h=>ht t (fE _ h)) h2 (fun x hx=>hlt x (aQ _ hx)) (fun x hx=>hsp x (aQ _ hx)),O⟩;obtain⟨hr,cY⟩:=ht t (fX ..);exact WideElems.Trod_stays hl hr cY h1 (fun x hx=>hb.same (hlt x (dD _ hx))) (fun x hx=>hsp x (dD _ hx))
end
theorem ZC{α:Type}{f:α→List Value}{ok:α→Prop}{sz:Nat}:∀(k:Nat) (cs:List Value),cs.length=k*sz→(∀i,i<k→∃a,(cs.drop (i*sz)).take sz=f a∧ok a)→∃l:List α,l.length=k∧cs=l.flatMap f∧∀a∈l,ok a
 |0,cs,hl,_=>⟨[],O,by simpa using hl,O4⟩
 |k+1,cs,hl,h=>by
  obtain⟨a,ha,dd⟩:=h 0 O1
  obtain⟨l,h1,h2,h3⟩:=ZC (f:=f) (ok:=ok) (sz:=sz) k (cs.drop sz) (by rw[fR,hl,iV];omega) (by
   intro i hi;obtain⟨b,hb,vv⟩:=h (i+1) O1;refine⟨b,?_,vv⟩;rw[pZ];rw[show sz+i*sz=(i+1)*sz from by rw[iV];omega]
   exact hb)
  refine⟨a::l,by simp[h1],?_,?_⟩
  ·rw[nY,←h2,←ha];simp
  intro x hx;rcases aP.1 hx with rfl|hx
  ·exact dd
  exact h3 x hx
section
variable {H:Type}{enc:TypeId×Value→H}{P:Program}{w:World}{base:Nat}{spare:Nat→Bool}{held:Bool}
theorem jWj{α:Type}{f:α→List Value}{ok:α→Prop}{t e k sz fuel:Nat}{cs:List Value}{x:DataW H×List MemPlace}(ht:P.underlying t=some (.array k e))(he:P.cellsOf e=sz)(hc:P.cellsOf t=k*sz)
  (cM:∀n c8 y,DataW.trod enc P w base spare held n e c8=some y→∃a,c8=f a∧ok a) (h:DataW.trod enc P w base spare held fuel t cs=some x):
  ∃l:List α,l.length=k∧cs=l.flatMap f∧∀a∈l,ok a:=by
 obtain⟨xs,m,_,_,hl,hQ,hf⟩:=DataW.trod_array ht h;refine ZC k cs (by rw[hl,hc]) fun i hi=>?_
 have:=hf i hi;rw[he,aA O1] at this;exact cM _ _ _ this
end
theorem jAv{H:Type}{enc:TypeId×Value→H}{f:Func}{s:ChangeSpec}{W W':World}{args:Array Value}{ds gs:List (DataW H)}{before:List MemPlace}(hW:DataW.Whole enc Tryz.prog f.params.toList s.vars false W args.toList ds gs before)
  (hv:s.vars=[]) (hr:f.resultTypes= #[4]) (dl:∀t∈f.params.toList,Tryz.prog.readableRec t=true∧t<Tryz.prog.types.size)
  (dj:(s.fn H (ds++gs)).results=[.lit (.bool true)]) (di:(s.fn H (ds++gs)).args=ds) (dh:(s.fn H (ds++gs)).vars=[]) (hk:ax [] W W'):
  s.post enc Tryz.prog f false true false false W args (.bool true) W':=by
 have dk:=hW;obtain⟨p,q,hA,hV,rfl,dm,df⟩:=hW;rw[hv] at hV;obtain⟨rfl,rfl⟩:=trodVars_none hV;have hl:∀x∈p,x.block<W.heap.size:=fun x hx=>dk.lt x (by simpa using hx)
 refine⟨ds,[],_,[],p,[],dk,?_,?_,?_,(hk.below.frame _),fun h=>by cases h⟩
 ·rw[dj,hr];exact trodAll_cons_mk (shut_bool Tryz.underlying4 _) trodAll_mk0
 ·rw[di];exact qGw laid hk.below _ _ _ _ dl hA hl (fun x hx=>by simpa using hl x hx)
 rw[dh,hv];rfl
section
variable {H:Type}{enc:TypeId×Value→H}{w:World}{base:Nat}{spare:Nat→Bool}{held:Bool}{n:Nat}{cs:List Value}{x:DataW H×List MemPlace}
theorem jTo:Tryz.prog.cellsOf 3=1:=O3
theorem jO7(h:DataW.trod enc Tryz.prog w base spare held n 3 cs=some x):∃a:Int,cs=eI a∧-9223372036854775808≤a∧a≤9223372036854775807:=by
 obtain⟨a,rfl,_,hw⟩:=DataW.trod_int Tryz.underlying3 h;have e1:IntKind.i64.min= -9223372036854775808:=O2;have e2:IntKind.i64.max=9223372036854775807:=O2;simp only[Lit.wf,aJ,dV,e1,e2] at hw;exact⟨a,O,hw⟩
def eSl(a:Option Addr×Nat×List Int):List Value:=[.slice a.1 a.2.2.length a.2.1]
theorem zP0:Tryz.prog.cellsOf 22=1:=O3
theorem qXs(h:DataW.trod enc Tryz.prog w base spare held n 22 cs=some x):∃a:Option Addr×Nat×List Int,cs=eSl a∧(a.2.2.length≤maxLen∧ig w 1 eI a.1 a.2.2):=by
 obtain⟨s,c,l,h1,h2,h3,h4,_⟩:=jAz Tryz.underlying22 jTo O2 (fun _ _ _ h=>jO7 h) h;exact⟨(s,c,l),h1,by show l.length≤maxLen;omega,h4⟩
theorem zOi(h:DataW.trod enc Tryz.prog w base spare held n 57 cs=some x):∃s c s' c',∃l l':List Int,cs=[.slice s l.length c,.slice s' l'.length c']∧(l.length≤maxLen∧ig w 1 eI s l)∧l'.length≤maxLen∧ig w 1 eI s' l':=by
 obtain⟨L,hL,rfl,hm⟩:=jWj Tryz.underlying57 zP0 O3 (fun _ _ _ h=>qXs h) h
 match L,hL with
 |[a,b],_=>exact⟨a.1,a.2.1,b.1,b.2.1,a.2.2,b.2.2,O,hm a O4,hm b O4⟩
end
theorem Ma{P:Program}{x:String×DataW Unit}{r:List (String×DataW Unit)}{w:World}(h:laidMet P (x::r) w):laidMet P r w:=by
 obtain⟨ps,hv,df,dn⟩:=h;obtain⟨n,d⟩:=x;obtain⟨g,t,cs,fuel,p,q,_,_,_,_,hq,rfl⟩:=hv;exact⟨q,hq,List.Nodup.sublist (dA _ _) df,fun b off hm=>dn b off (aQ _ hm)⟩
def VH:List Int:=[Dz.a,Dz.b,Dz.c,Dz.d,Dz.e,Dz.f,Dz.g,Dz.h].map fun(n:Nat)=>(n:Int)
def QH:List Int:=(range 64).map fun i=>(kf i:Int)
theorem jBi:(Rows.laid_sortes_digest_first:DataW Unit)=Lib.tabData .u32 VH:=O3
theorem jHf:(Rows.laid_sortes_digest_constants:DataW Unit)=Lib.tabData .u32 QH:=O3
theorem jL9:(Rows.laid_internal_strconv_uint64pow10:DataW Unit)=Lib.tabData .u64 Lib.pow10Tab:=O3
theorem jIh:(VH.map fun z=>Value.int .u32 z)=sv Dz:=O3
theorem jNf{i:Nat}(h:i<64):((QH.map fun z=>Value.int .u32 z).toArray)[i]? =some (u (kf i)):=by
 unfold QH;rw[iU,List.getElem?_toArray,bH,mE h];rfl
theorem qPy{W:World}(h:laidMetH Tryz.prog Rows.topOddsRow.laid W):Ai W:=by
 rw[MakeChecks.laidMetH_plain _ _ _ O3] at h;have h2:=Ma (Ma h);have h4:=Ma (Ma h2);have h5:=Ma h4;rw[jL9] at h2;rw[jBi] at h4;rw[jHf] at h5;have t2:=Lib.tabIs_of_head (g:=2) O3 O3 Tryz.underlying414 Tryz.underlying139 O3 O3 h2;have t4:=Lib.tabIs_of_head (g:=0) O3 O3 Tryz.underlying359 Tryz.underlying208 O3 O3 h4;have t5:=Lib.tabIs_of_head (g:=1) O3 O3 Tryz.underlying410 Tryz.underlying208 O3 O3 h5;refine⟨fun j v hv=>?_,?_,fun i hi=>?_⟩
 ·have e:=World.var?_cell (by kernel_rfl:Tryz.prog.globalNamed "sortes/digest.first"=some 0) t4 (0+j);rw[e,jIh,Nat.zero_add,List.getElem?_toArray,hv]
 ·have dp:W.var? Tryz.prog "internal/strconv.uint64pow10"=some (Lib.pow10Tab.map fun z=>Value.int .u64 z).toArray:=t2;unfold World.var? at dp;rw[(by kernel_rfl:Tryz.prog.globalNamed "internal/strconv.uint64pow10"=some 2),Option.bind_some] at dp;split at dp
  ·next cs t r heq=>
   injection dp with e
   subst e;exact⟨t,r,heq⟩
  cases dp
 have e:=World.var?_cell (by kernel_rfl:Tryz.prog.globalNamed "sortes/digest.constants"=some 1) t5 (0+i*1);rw[e,Nat.zero_add,Nat.mul_one];exact jNf hi
def Jt:DataW Unit→List Value
 | .lit (.int k n)=>[.int k n]
 | .agg [.lit (.int k n),.lit (.int q m)]=>[.int k n,.int q m]
 |_=>[]
def jTn:DataW Unit→Array Value
 | .agg l=>(l.flatMap Jt).toArray
 |_=>#[]
noncomputable def qOx(os:Os):World:=
 let w0:=World.holding Tryz.prog os ⟨#[],#[],[]⟩
 let lay:=fun(g:Nat) (d:DataW Unit) (h:Array Obj)=>h.modify g fun
   | .cells _ t fr=>.cells (jTn d) t fr
   |o=>o
 {w0 with heap:=lay 4 Rows.laid_unicode_utf8_acceptRanges (lay 3 Rows.laid_unicode_utf8_first (lay 7 Rows.laid_math_bits_deBruijn64tab (lay 6 Rows.laid_math_bits_deBruijn32tab (lay 2 Rows.laid_internal_strconv_uint64pow10 (lay 1 Rows.laid_sortes_digest_constants (lay 0 Rows.laid_sortes_digest_first w0.heap))))))}
set_option maxRecDepth 100000 in
theorem qO1(os:Os)(args:Array Value):laidMetH Tryz.prog Rows.topOddsRow.laid ((qOx os).forCall (fun _ _=>0) ⟨#[],args,[]⟩).memory:=by
 rw[MakeChecks.laidMetH_plain _ _ _ O3];exact laidMet_of_run (ps:=(range 32).map (fun i=>MemPlace.cell 6 i)++((range 64).map (fun i=>MemPlace.cell 7 i)++((range 20).map (fun i=>MemPlace.cell 2 i)++((range 32).map (fun i=>MemPlace.cell 4 i)++((range 8).map (fun i=>MemPlace.cell 0 i)++((range 64).map (fun i=>MemPlace.cell 1 i)++(range 256).map (fun i=>MemPlace.cell 3 i))))))) 8 O3 O3 O3
theorem jLp{v:Value}{l:List Value}(h:v.cells.toList=l)(hl:2≤l.length):v= .agg l.toArray:=by
 cases v with
 |agg vs=>
  have:vs.toList=l:=h;subst this;rfl
 |_=>
  exfalso;subst h;simp[Value.cells] at hl
end Go.Proofs.YtplkndjlfkkjlaaGreatDoor
