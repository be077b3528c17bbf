/- Merged texts of ours; conditions are the hypotheses of each law. -/
import Derived.Test.YtplkndjlfkkjlaaGreatDoorP3
import Derived.Laws.Cover3
namespace Go.Proofs.YtplkndjlfkkjlaaGreatDoor
open Tryz
section
open Go.Eng Go.Dig Go.Lp
structure Tbq(t:Tb)(κ:Nat):Prop where
 b:∀i,i<t.m→BQ κ (t.b i)
 A:∀i j,i<t.m→j<t.n→BQ κ (t.A i j)
 g:∀j,j<t.n→BQ κ (t.g j)
theorem qJv{q:Rat}:qAm q=0↔q=0:=by
 unfold qAm;grind
attribute [local irreducible] PV StepF wpl wpd WP Ret
attribute [local irreducible] Fit
theorem jJg{j k l:Nat}{p q r:Rat}(w:World)(ha:BQ j p)(hq:BQ k q)(hr:BQ l r)(hk:j+(k+l)+1≤1000000000000):Rk 321 [QV p,QV q,QV r] w (QV (p-q*r)):=by
 have fq:=BQ.fq hq O1;have fr:=BQ.fq hr O1;refine tW func321 ntmps321 fun hp=>?_;(repeat(first|(with_reducible first|apply qEj|apply qCn|apply qBq|apply qFv|apply qDx|apply qG9|apply qBl|apply qBn|apply qAj|apply qJo|apply qGn|apply qEi|apply qDs|apply qDr|apply kQ9|apply qG6)|((with_reducible apply qAu);exact O)|((with_reducible apply wN);exact O)|((first|apply wlp|(apply wlg;exact O;exact O)|(apply jIp;exact O;exact O));(intros;((first|apply qP|apply qY|apply xF|(apply qS;exact O)|(apply vO;exact O)|(apply qC7;exact O)|(apply uZ;exact O)|exact qA3 O|exact qC2 O|exact kL O O|exact yT O O|exact qC6 O O O|exact qF7 O O O|apply zQ|apply uG|apply xJ|apply vE|(apply zW;(first|exact O|exact jP O (by assumption)))|(apply kB;(first|exact O|exact jP O (by assumption)))|apply qAp|apply qC5|apply yU|apply kY|apply kA|(apply zA;exact O)|apply zY|exact kD O O O (by assumption)|exact vB O O O|exact kC O O O|apply zX|(apply uI;exact O)|exact qA4 (jP O (by assumption)) O (by assumption) O|exact qC3 (jP O (by assumption)) O (by assumption) O|exact qA5 O O|exact qC4 O O|(apply xV;(first|exact O|exact jP O (by assumption)))|(apply qA2;(first|exact O|exact jP O (by assumption)))|apply yH|(apply jS;exact O))<;>(first|exact O|exact jP O (by assumption)|assumption|exact hp.cell 0 O O|exact hp.cell 1 O O|exact hp.cell 2 O O|exact hp.cell 3 O O|exact hp.j4 0 O O|exact hp.j4 1 O O|exact hp.j4 2 O O|exact hp.j4 3 O O|exact hp.j7 (by assumption)|exact hp.cell 4 O O|exact hp.cell 5 O O|exact hp.cell 6 O O|exact hp.cell 7 O O|exact hp.j4 4 O O|exact hp.j4 5 O O|exact hp.j4 6 O O|exact hp.j4 7 O O)));(intros;(first|exact fI O|exact fB O|exact fP O|exact fS O|exact fT O|exact fF0 O|exact fF1 O|exact fF2 O|exact fF3 O|exact fF O|exact fA2 O|exact fA3 O|exact fA6 O|exact qJd O|exact fM O|exact fU O|exact jP O (by assumption)|exact fL O|exact O)))|(apply wls;(first|exact uS hp O O|exact wY hp O|exact qBw hp O|exact qDh hp O|exact zO hp O|exact zT hp (qJ O) O|exact wZ hp (qJ O)|exact jK hp (qJ O)|exact vA hp (qJ O)|exact kP hp (qJ O));rintro _ w ⟨b,rfl,hp⟩)|(apply jI;(first|exact jD hp 0 O O O O (qD O) O|exact xM hp 0 O O O O (qD O) O|exact qW hp 0 O O O O (qD O) O|exact zU hp 0 O O O O (qD O) O|exact xC hp 0 O O O O (qD O) O|exact jD hp 1 O O O O (qD O) O|exact xM hp 1 O O O O (qD O) O|exact qW hp 1 O O O O (qD O) O|exact zU hp 1 O O O O (qD O) O|exact xC hp 1 O O O O (qD O) O);rintro _ w ⟨rfl,hp⟩)));refine tC (r52 _ fq) fun w1 hp=>?_;refine qR ?_;by_cases h0:q=0
 ·refine wlp (zW O O) (qV (aD (qJv.2 h0))) (jL ?_);refine jB O ?_;rw[show p-q*r=p by grind];refine qBs fun w hp=>?_
  exact mA2
 refine wlp (zW O O) (qV (aB (fun e=>h0 (qJv.1 e)))) (tE (r52 _ fr) fun w2 hp=>?_);by_cases h1:r=0
 ·apply vX;exact O;exact O;exact zW O O;exact qV (aD (qJv.2 h1));refine jL (jB O ?_);rw[show p-q*r=p by grind];refine qBs fun w hp=>?_
  exact mA2
 apply vX;exact O;exact O;exact zW O O;exact qV (aB (fun e=>h1 (qJv.1 e)));refine gAa ?_;refine jU jG O3 (fun w'=>Hp _ _ w' _) hp.N ?_;have hp:=hp.N;refine tH (r24 _ hq hr O1) fun w3 hp=>?_;refine tH (qKa _ ha (hq.mul hr) O1) fun w4 hp=>?_;refine tS fun w5 hp=>qU ?_;exact mD6
end
section
open Go.Eng Go.Dig Go.Lp
variable{a:TA}{t t':Tb}
theorem TAok.cast(h:TAok a t)(hm:t'.m=t.m)(hn:t'.n=t.n):TAok a t':=
 ⟨by rw[hm];exact h.cB,by rw[hn];exact h.cN,by rw[hm];exact h.cC,by rw[hm];exact h.cR,by rw[hn];exact h.cG,fun i hi=>by rw[hn];exact h.rc i O1⟩
theorem qXt(w:World):Rk 25 [Iv 1] w (QV 1):=r25 1 w O2 O2
theorem wM(w:World):Rk 25 [Iv 0] w (QV 0):=r25 0 w O2 O2
theorem qYa(q:Rat):(!decide (qAm q=0))= !decide (q=0):=by
 congr 1;exact decide_eq_decide.2 qJv
theorem qZ3(q:Rat):decide (qAm q=0)=decide (q=0):=decide_eq_decide.2 qJv
def pvE(t:Tb)(r e j:Nat):Rat:=if j=e then 1 else t.A r j
def pvZ(t:Tb)(e i j:Nat):Rat:=if j=e then 0 else t.A i j
def pv1(t:Tb)(r e k:Nat):Tb:={t with A:=fun i j=>if i=r then(if j<k then t.row r e j else pvE t r e j) else t.A i j}
def pv3(t:Tb)(r e k:Nat):Tb:={t with A:=fun i j=>if i=r then t.row r e j else if i<k then(t.pv r e).A i j else t.A i j,b:=fun i=>if i=r∨i<k then(t.pv r e).b i else t.b i}
def pv4(t:Tb)(r e i k:Nat):Tb:={pv3 t r e i with A:=fun i' j=>if i'=i then(if j<k then(t.pv r e).A i j else pvZ t e i j) else(pv3 t r e i).A i' j}
def pv5(t:Tb)(r e k:Nat):Tb:={t with A:=(t.pv r e).A,b:=(t.pv r e).b,g:=fun j=>if j<k then(t.pv r e).g j else if j=e then 0 else t.g j}
section
variable {t:Tb}{r e i k:Nat}
theorem jW6:t.sA r e 1=pv1 t r e 0:=by
 unfold Tb.sA pv1 pvE;grind
theorem qVp:(pv1 t r e k).A r k=pvE t r e k:=by simp[pv1]
theorem jDp:(pv1 t r e k).sA r k (t.row r e k)=pv1 t r e (k+1):=by
 unfold Tb.sA pv1;grind
theorem jDq(h:pvE t r e k=0):pv1 t r e k=pv1 t r e (k+1):=by
 unfold pv1;congr 1;funext i j;by_cases hi:i=r
 ·subst hi;by_cases hj:j=k
  ·subst hj;have:t.row i e j=0:=by
    have h':=h;unfold pvE at h';unfold Tb.row;rw[h'];grind
   grind
  grind
 simp[hi]
end
structure Agree(t t':Tb):Prop where
 m:t.m=t'.m
 n:t.n=t'.n
 B:∀i,i<t.m→t.B i=t'.B i
 N:∀j,j<t.n→t.N j=t'.N j
 A:∀i j,i<t.m→j<t.n→t.A i j=t'.A i j
 b:∀i,i<t.m→t.b i=t'.b i
 g:∀j,j<t.n→t.g j=t'.g j
theorem uF(h:Agree t t'):zB a t=zB a t':=by
 obtain⟨hm,hn,hB,hN,hA,hb,hg⟩:=h;have e1:=jH hB;have e2:=jH hN;have e3:=jH hb;have e4:=jH hg;have e5:qHx a t=qHx a t':=by
  unfold qHx;rw[←hm,←hn];exact jH fun i hi=>by rw[jH (fun j hj=>hA i j hi hj)]
 unfold zB jIy;grind
section
variable {t:Tb}{r e i k:Nat}
theorem zGq:Agree ((pv1 t r e t.n).sb r (t.b r*(1/t.A r e))) (pv3 t r e 0):=by
 refine⟨O,O,fun _ _=>O,fun _ _=>O,fun i j _ hj=>?_,fun i _=>?_,fun _ _=>O⟩
 ·have hj:j<t.n:=hj;simp only[Tb.sb,pv1,pv3];grind
 simp only[Tb.sb,pv1,pv3];by_cases hi:i=r
 ·simp only[Tb.pv];grind
 grind
theorem jA2(h:i=r∨t.A i e=0):Agree (pv3 t r e i) (pv3 t r e (i+1)):=by
 have key:i≠r→t.A i e=0→(∀j,(t.pv r e).A i j=t.A i j)∧(t.pv r e).b i=t.b i:=by
  intro hi h0;refine⟨fun j=>?_,?_⟩
  ·simp[Tb.pv];grind
  simp only[Tb.pv];rw[if_neg hi,h0];grind
 refine⟨O,O,fun _ _=>O,fun _ _=>O,fun i' j _ _=>?_,fun i' _=>?_,fun _ _=>O⟩
 ·simp[pv3];grind
 simp[pv3];grind
theorem jMk(hi:i≠r)(j:Nat):(pv3 t r e i).A i j=t.A i j:=by simp[pv3,hi]
theorem jW5(hi:i≠r):(pv3 t r e i).b i=t.b i:=by simp[pv3,hi]
theorem jMj(j:Nat):(pv3 t r e i).A r j=t.row r e j:=by simp[pv3]
theorem jOs:(pv3 t r e i).b r=t.b r*(1/t.A r e):=by simp[pv3,Tb.pv]
theorem zGp(hi:i≠r):Agree ((pv3 t r e i).sA i e 0) (pv4 t r e i 0):=by
 refine⟨O,O,fun _ _=>O,fun _ _=>O,fun i' j _ _=>?_,fun _ _=>O,fun _ _=>O⟩;simp only[Tb.sA,pv4,pvZ];by_cases he:i'=i
 ·subst he;rw[if_pos O,if_pos O,if_neg (by omega:¬j<0),jMk hi]
 grind
theorem jOr:(pv4 t r e i k).A i k=pvZ t e i k:=by simp[pv4]
theorem jW3(hi:i≠r)(j:Nat):(pv4 t r e i k).A r j=t.row r e j:=by
 simp[pv4];rw[if_neg O1,jMj]
theorem jW4(hi:i≠r):(pv4 t r e i k).b i=t.b i:=jW5 hi
theorem jOq:(pv4 t r e i k).b r=t.b r*(1/t.A r e):=jOs
theorem jJo(hi:i≠r)(j:Nat):pvZ t e i j-t.A i e*t.row r e j=(t.pv r e).A i j:=by
 simp only[Tb.pv,pvZ];grind
theorem jJl(hi:i≠r):t.b i-t.A i e*(t.b r*(1/t.A r e))=(t.pv r e).b i:=by
 simp only[Tb.pv];grind
theorem qHy(j:Nat):t.row r e j=(t.pv r e).A r j:=by simp[Tb.pv]
theorem jDo:(pv4 t r e i k).sA i k ((t.pv r e).A i k)=pv4 t r e i (k+1):=by
 unfold Tb.sA pv4;grind
theorem zGo(hi:i≠r):Agree ((pv4 t r e i t.n).sb i ((t.pv r e).b i)) (pv3 t r e (i+1)):=by
 refine⟨O,O,fun _ _=>O,fun _ _=>O,fun i' j _ hj=>?_,fun i' _=>?_,fun _ _=>O⟩
 ·have hS:j<t.n:=hj;simp[Tb.sb,pv4];by_cases he:i'=i
  ·simp only[pv3];grind
  simp[pv3];grind
 simp[Tb.sb,pv4,pv3];grind
theorem zGn(hr:r<t.m):Agree ((pv3 t r e t.m).sg e 0) (pv5 t r e 0):=by
 refine⟨O,O,fun _ _=>O,fun _ _=>O,fun i' j hi _=>?_,fun i' hi=>?_,fun j _=>?_⟩
 ·have hi:i'<t.m:=hi;simp[Tb.sg,pv3,pv5];by_cases he:i'=r
  ·rw[if_pos he,he,qHy]
  grind
 ·have hi:i'<t.m:=hi;simp only[Tb.sg,pv3,pv5];grind
 simp only[Tb.sg,pv3,pv5];simp
theorem jDn:(pv5 t r e k).sg k ((t.pv r e).g k)=pv5 t r e (k+1):=by
 unfold Tb.sg pv5;grind
theorem jOp:(pv5 t r e k).g k=if k=e then 0 else t.g k:=by simp[pv5]
theorem jJk(j:Nat):(if j=e then 0 else t.g j)-t.g e*t.row r e j=(t.pv r e).g j:=O
theorem zGm:Agree (((pv5 t r e t.n).sB r (t.N e)).sN e (t.B r)) (t.pv r e):=by
 refine⟨O,O,fun _ _=>O,fun _ _=>O,fun _ _ _ _=>O,fun _ _=>O,fun j hj=>?_⟩;have hj:j<t.n:=hj;simp only[Tb.sB,Tb.sN,pv5];grind
end
end
section
open Go.Eng Go.Dig Go.Lp
attribute [local irreducible] PV StepF wpl wpd WP Ret
attribute [local irreducible] Fit
set_option maxHeartbeats 4000000 in
theorem jO9(a:TA)(t:Tb)(r e κ:Nat)(M:List Nat)(W:World)(ok:TAok a t)(hr:r<t.m)(he:e<t.n)(hA:t.A r e≠0)(hb:Tbq t κ)(jn:Tbq (t.pv r e) κ)(hκ:3*κ+1≤1000000000000)(hg:1≤κ)(hm:t.m≤1000000)(hn:t.n≤1000000)(hp:Hp W M W (zB a t)):
  Rt 316 [.pointer (some ⟨a.tb,0,none⟩),Iv (r:Int),Iv (e:Int)] W (fun v w'=>v= .tuple #[]∧Hp W M w' (zB a (t.pv r e))):=by
 have hinv:BQ κ (1/t.A r e):=by
  have:=jn.A r e hr he;rw[←qHy] at this;unfold Tb.row at this;rw[if_pos O] at this;have e1:(1:Rat)*(1/t.A r e)=1/t.A r e:=by grind
  rwa[e1] at this
 refine Ret.j9 func316 O ntmps316 O ?_;have ta:=TabAt.of [] hp ok;have h1:=ta.H r hr;refine tD (qXt _) fun w1 hp=>?_;refine vK fun w b hp=>?_
 have hp:=hp.norm 0 (eQ 1) O O;refine qAy (fun F' w'=>∃ib ob:Nat,qAb F' [(0,.pointer (some ⟨a.tb,0,none⟩)),(1,Iv r),(2,Iv e),(6,.slice (some ⟨a.rg r,0,none⟩) t.n (a.rc r)),(7,.pointer (Ad ob)),(8,.pointer (Ad ib))]∧Hp W M w' ([blk ib 3 (qE (eQ (1/t.A r e))) 49,blk ob 3 (qE (eQ 1)) 49]++zB a t)) ?_ ?_
 ·refine qCm true [0,1,2,3,4,5,6,7,8,9,10,11] jG O3 O (fun w'=>Hp W M w' ([blk b 3 _ 49]++zB a t)) hp.N ?_;have hp:=hp.N;refine zP ?_;apply wep;exact O;exact O;intro w hp;exact qL O O O O ((TabAt.of _ hp ok).A r e hr he);exact fA3 O;refine qD7 9 O O3 O O ?eA ?eB
  case' eA=>
   refine tG (qQe _ (BQ.one hg) (hb.A r e hr he) hA O1) fun w hp=>?_;refine zP (xO O O3 ?_ O);apply wbs;exact O;exact jK hp (qJ O);rintro _ w ⟨ib,rfl,hp⟩;refine⟨hp.H,?_⟩
  case' eB=>
   apply wbs;exact O;exact jK hp (qJ O);rintro _ w ⟨ib,rfl,hp⟩;refine⟨hp.H,xO O O3 (tG (qQe _ (BQ.one hg) (hb.A r e hr he) hA O1) fun w hp=>?_) O⟩;refine zP ?_
  all_goals
   refine xO O O3 ?_ O;apply qDu;exact O;exact qW hp 0 O O O O (qD O) O;rintro _ w ⟨rfl,hp⟩;refine⟨hp.H,?_⟩;refine zP (yZ ?_);exact⟨_,_,⟨O,O,O,O,O,O,trivial⟩,hp⟩
 clear hp h1 ta;rintro F1 w2 ⟨ib,ob,hF,hp⟩;refine yL _ hF ?_;intro F0;clear hF;refine qA (tO (jJ2 _ hp ok hr he O O) fun w3 hp=>?_);rw[jW6] at hp;refine qA (qQ [10,40,41,42,43,44,45,46,47,48,49,50,51,52,53,54,55,56,57,58] (fun(k:Nat) F=>F.put 40 (.int _ k)) (fun k w'=>k≤t.n∧Hp W M w' ([_,_]++zB a (pv1 t r e k))) (fun k=>t.n-k) 0 (qB (Same.eq .refl) O) ⟨O1,hp⟩ ?_);clear hp;rintro u k w4 ⟨hq,hp⟩;refine tI (fun h=>?_) fun h=>?_
 ·have hl:k<t.n:=O1;have od:TAok a (pv1 t r e k):=ok.cast O O;have hc:=(TabAt.of _ hp od).A r k hr hl;rw[qVp] at hc;have hx:BQ κ (pvE t r e k):=by
   unfold pvE;split
   ·exact BQ.one hg
   exact hb.A r k hr hl
  have hh:pvE t r e k*_=t.row r e k:=O;refine qA (tR (qL O O O O hc) ?_);refine tC (r52 _ (BQ.fq hx O1)) fun w5 hp=>wlp (kB O O) (qV (qYa _)) ?_;refine qA (xI O (fun h0=>?_) (fun h0=>?_))
  ·refine jU jG O3 (fun w'=>Hp W M w' _) hp.N ?_;have hp:=hp.N;refine qX ?_;refine tP (fun w hp=>qL O O O O (by have:=(TabAt.of _ hp od).A r k hr hl;rw[qVp] at this;omega)) (tH (r24 _ hx hinv O1) fun w6 hp=>?_);refine qX ?_;apply xH;exact O;exact O;exact jJ2 _ hp od hr hl O O;rintro _ w7 ⟨rfl,hp⟩;rw[hh,jDp] at hp;exact mDs
  rw[jDq h0] at hp;exact mB9
 obtain rfl:k=t.n:=O1;refine qA ?_;refine yL [(0,.pointer _),(1,.int _ _),(2,.int _ e),(6,.slice _ _ _),(8,.pointer _)] ⟨O,O,O,O,O,trivial⟩ ?_;intro F2;have od:TAok a (pv1 t r e t.n):=ok.cast O O;refine jU jG O3 (fun w'=>Hp W M w' _) hp.N ?_;have hp:=hp.N;refine qX (tP (fun w hp=>qL (vs:=eQ (t.b r)) O O O O ((TabAt.of _ hp od).b r hr)) ?_);refine tH (r24 _ (hb.b r hr) hinv O1) fun w6 hp=>?_;refine qX ?_;apply xH;exact O;exact O;exact jV4 _ hp od hr O O;rintro _ w7 ⟨rfl,hp⟩;rw[uF zGq] at hp;refine qU (qA ?_);refine qQ [11,12,13,14,79,80,81,82,83,84,85,86,87,88,89,90,91,92,93,94,95,96,97,98,99,100,101,102,103,104,105,106,107,108,109,110,111,112,113,114,115,116,117,118,119,120,121,122,123,124,125,126,127,128,129,130,131,132,133,134,135,136,137,138,139,140,141] (fun(i:Nat) F=>F.put 79 (.int _ i)) (fun i w'=>i≤t.m∧Hp W M w' ([_,_]++zB a (pv3 t r e i))) (fun i=>t.m-i) 0 (qB (Same.eq .refl) O) ⟨O1,hp⟩ ?_;clear hp;rintro u i w8 ⟨yd,hp⟩;refine tI (fun h=>?_) fun h=>?_
 ·have hl:i<t.m:=by
   have em:(pv3 t r e 0).m=t.m:=O;omega
  have oc:TAok a (pv3 t r e i):=ok.cast O O;have hH:=(TabAt.of _ hp oc).H i hl;have ht:=(TabAt.of _ hp oc).A i e hl he;by_cases hy:i=r
  ·
   subst hy;refine qA (tR (qL O O O O ht) ?_);refine tQ fun w b hp=>?_;refine tS fun w hp=>?_;refine gA1 ?_;refine jM (wlp (zW O O) (qV (aD O)) ?_);refine jL (jB O ?_);have hp:=hp.H;rw[uF (jA2 O1)] at hp;exact mCf
  rw[jMk hy] at ht;have h3:=hb.A i e hl he;refine qA (tR (qL O O O O ht) ?_);refine tQ fun w b hp=>?_;refine tS fun w hp=>?_;have hp:=hp.norm 0 (eQ _) O O;refine gA4 ?_;refine wlp (zW O O) (qV (aB O1)) (tE (r52 _ (BQ.fq h3 O1)) fun w9 hp=>?_);by_cases h0:t.A i e=0
  ·apply vX;exact O;exact O;exact zW O O;exact qV ((qZ3 _).trans (aD h0));refine jL (jB O ?_);have hp:=hp.H;rw[uF (jA2 (.inr h0))] at hp;exact mCf
  apply vX;exact O;exact O;exact zW O O;exact qV ((qZ3 _).trans (aB h0));refine gAa ?_;refine tC (wM _) fun ur hp=>?_;refine qA (tO (jJ2 [_,_,_] hp oc hl he O O) fun gg hp=>?_);rw[uF (zGp hy)] at hp;refine qA (qQ [14,102,103,104,105,106,107,108,109,110,111,112,113,114,115,116,117,118] (fun(k:Nat) F=>F.put 102 (.int _ k)) (fun k w'=>k≤t.n∧Hp W M w' ([blk _ 3 _ 49]++[_,_]++zB a (pv4 t r e i k))) (fun k=>t.n-k) 0 (qB (Same.eq .refl) O) ⟨O1,hp⟩ ?_);clear hp;rintro u2 k gh ⟨hq,hp⟩;refine tI (fun h2=>?_) fun h2=>?_
  ·have hj:k<t.n:=by
    have em:(pv3 t r e i).n=t.n:=O;omega
   have oa:TAok a (pv4 t r e i k):=ok.cast O O;have hz:BQ κ (pvZ t e i k):=by
    unfold pvZ;split
    ·exact BQ.zero hg
    exact hb.A i k hl hj
   have e9:BQ κ (t.row r e k):=by
    rw[qHy];exact jn.A r k hr hj
   refine qA ?_;refine jU jG O3 (fun w'=>Hp W M w' _) hp.N ?_;have hp:=hp.N;refine qX ?_;refine tP (fun w hp=>qL O O O O (by have:=(TabAt.of _ hp oa).A i k hl hj;rw[jOr] at this;omega)) (qX ?_);refine tP (fun w hp=>qL O O O O (by have:=(TabAt.of _ hp oa).A r k hr hj;rw[jW3 hy] at this;omega)) (tH (jJg _ hz h3 e9 O1) fun gm hp=>?_);refine qX ?_;apply xH;exact O;exact O;exact jJ2 [_,_,_] hp oa hl hj O O;rintro _ gj ⟨rfl,hp⟩;rw[jJo hy,jDo] at hp;exact mDs
  obtain rfl:k=t.n:=by
   have em:(pv3 t r e i).n=t.n:=O;omega
  have oa:TAok a (pv4 t r e i t.n):=ok.cast O O;have yh:=by
   have:=jn.b r hr;simp only[Tb.pv,if_true] at this;exact this
  refine qA ?_;refine jU jG O3 (fun w'=>Hp W M w' _) hp.N ?_;have hp:=hp.N;refine qX ?_;refine tP (fun w hp=>qL O O O O (by have:=(TabAt.of _ hp oa).b i hl;rw[jW4 hy] at this;omega)) (qX ?_);refine tP (fun w hp=>qL O O O O (by have:=(TabAt.of _ hp oa).b r hr;rw[jOq] at this;omega)) (tH (jJg _ (hb.b i hl) h3 yh O1) fun gm hp=>?_);refine qX ?_;apply xH;exact O;exact O;exact jV4 [_,_,_] hp oa hl O O;rintro _ gj ⟨rfl,hp⟩;rw[jJl hy,uF (zGo hy)] at hp;have hp:Hp W M _ (_++_):=hp.H;exact mBl
 obtain rfl:i=t.m:=by
  have em:(pv3 t r e 0).m=t.m:=O;omega
 have oc:TAok a (pv3 t r e t.m):=ok.cast O O;have ux:=(TabAt.of _ hp oc).g e he;have h3:=hb.g e he;refine qA (tR (qL (vs:=eQ (t.g e)) O O O O ux) ?_);refine vK fun w b hp=>?_
 have hp:=hp.norm 0 (eQ _) O O;refine jU jG O3 (fun w'=>Hp W M w' ([blk _ 3 _ 49]++[_,_]++zB a _)) hp.N ?_;have hp:=hp.N;refine tH (wM _) fun w9 hp=>?_;refine qX ?_;apply xH;exact O;exact O;exact jJ1 [_,_,_] hp oc he O O;rintro _ ur ⟨rfl,hp⟩;rw[uF (zGn hr)] at hp;refine qU (qA ?_);refine qQ [16,161,162,163,164,165,166,167,168,169,170,171,172,173,174,175,176,177,178,179,180,181,182,183] (fun(k:Nat) F=>F.put 161 (Iv (k:Int))) (fun k w'=>k≤t.n∧Hp W M w' ([blk _ 3 (qE (eQ (t.g e))) 49]++[_,_]++zB a (pv5 t r e k))) (fun k=>t.n-k) 0 (qB (Same.eq .refl) O) ⟨bN _,hp⟩ ?_;clear hp;rintro u2 k gh ⟨hq,hp⟩;refine tI (fun h2=>?_) fun h2=>?_
 ·have hj:k<t.n:=by
   have em:(pv5 t r e 0).n=t.n:=O;omega
  have oe:TAok a (pv5 t r e k):=ok.cast O O;have hz:BQ κ (if k=e then 0 else t.g k):=by
   split
   ·exact BQ.zero hg
   exact hb.g k hj
  have e9:BQ κ (t.row r e k):=by
   rw[qHy];exact jn.A r k hr hj
  refine qA ?_;refine jU jG O3 (fun w'=>Hp W M w' _) hp.N ?_;have hp:=hp.N;refine qX ?_;refine tP (fun w hp=>qL (vs:=eQ (if k=e then 0 else t.g k)) O O O O (by have:=(TabAt.of _ hp oe).g k hj;rw[jOp] at this;omega)) ?_;refine qX ?_;refine tP (fun w hp=>qL (vs:=eQ (t.row r e k)) O O O O (by have:=(TabAt.of _ hp oe).A r k hr hj;rw[show(pv5 t r e k).A r k=t.row r e k from(qHy k).symm] at this;omega)) ?_;refine tH (jJg _ hz h3 e9 O1) fun gm hp=>?_;refine qX ?_;apply xH;exact O;exact O;exact jJ1 [_,_,_] hp oe hj O O;rintro _ gj ⟨rfl,hp⟩;rw[jJk,jDn] at hp;exact mDs
 obtain rfl:k=t.n:=by
  have em:(pv5 t r e 0).n=t.n:=O;omega
 have oe:TAok a (pv5 t r e t.n):=ok.cast O O;have og:TAok a ((pv5 t r e t.n).sB r (t.N e)):=ok.cast O O;refine qA ?_;refine jU jG O3 (fun w'=>Hp W M w' _) hp.N ?_;have hp:=hp.N;refine qX ?_;refine tP (fun w hp=>qS O O ((TabAt.of [_,_,_] hp oe).N e he)) (qX ?_);refine tP (fun w hp=>qS O O ((TabAt.of [_,_,_] hp oe).B r hr)) (qX ?_);apply xH;exact O;exact O;exact jZh [_,_,_] hp oe hr O O;rintro _ gj ⟨rfl,hp⟩;refine qX ?_;apply xH;exact O;exact O;exact jZg _ hp og he O O;rintro _ gn ⟨rfl,hp⟩;rw[show zB a (((pv5 t r e _).sB r ((pv5 t r e _).N e)).sN e ((pv5 t r e _).B r))=zB a _ from uF zGm] at hp;refine qU ?_;exact xK O ⟨_,O,O,hp.H.H.H⟩
end
open List (range range' replicate)
open Go.Eng Go.Dig Go.Lp
section
variable {P:Nat→Bool}
theorem qGc(i:Nat):(range (i+1)).filter P=(range i).filter P++if P i=true then[i] else[]:=by
 rw[fW,nO];grind
theorem qMs{n i:Nat}(h:i<n)(hp:P i=true):∃ou,(range n).filter P=(range i).filter P++i::ou:=by
 obtain⟨ou,e⟩:=qF6 h;grind
theorem qU0{n x:Nat}{pre ou:List Nat}(h:(range n).filter P=pre++x::ou):pre=(range x).filter P∧x<n∧P x=true:=by
 obtain⟨l1,l2,e1,e2,e3⟩:=List.filter_eq_append_iff.1 h;obtain⟨l3,l4,e4,e5,e6,e7⟩:=List.filter_eq_cons_iff.1 e3;rw[e4,←bQ] at e1;obtain⟨h1,h2⟩:=qJ0 e1;refine⟨?_,h2,e6⟩;rw[←h1,nO,e2,List.filter_eq_nil_iff.2 (fun a ha=>by grind),bH]
end
def enP(t:Tb)(j:Nat):Bool:=decide (0<t.g j)
def leP(t:Tb)(e i:Nat):Bool:=decide (0<t.A i e)
theorem qR7(q:Rat):decide ((0:Int)<qAm q)=decide (0<q):=by
 unfold qAm;grind
theorem qYk(q:Rat):decide (qAm q≤(0:Int))= !decide (0<q):=by
 rw[←qR7];grind
structure TabR(a:TA)(t:Tb)(w:World):Prop where
 at':TabAt a t w
 hB:w.cell? ⟨a.tb,0,none⟩=some (.slice (some ⟨a.gB,0,none⟩) t.m a.cB)
 hN:w.cell? ⟨a.tb,1,none⟩=some (.slice (some ⟨a.gN,0,none⟩) t.n a.cN)
 hC:w.cell? ⟨a.tb,2,none⟩=some (.slice (some ⟨a.gC,0,none⟩) t.m a.cC)
 hR:w.cell? ⟨a.tb,3,none⟩=some (.slice (some ⟨a.gR,0,none⟩) t.m a.cR)
 hG:w.cell? ⟨a.tb,4,none⟩=some (.slice (some ⟨a.gG,0,none⟩) t.n a.cG)
structure TabM(a:TA)(t:Tb)(M:List Nat):Prop where
 tb:a.tb∉M
 gC:a.gC∉M
 gR:a.gR∉M
 gG:a.gG∉M
 rg:∀i,i<t.m→a.rg i∉M
attribute [local irreducible] PV StepF wpl wpd WP Ret
attribute [local irreducible] Fit
theorem jZw(a:TA)(t:Tb)(xb κ:Nat)(M:List Nat)(U:World)(h1:U.cell? ⟨xb,0,none⟩=some (.pointer (some ⟨a.tb,0,none⟩)))(hT:TabR a t U)(hm:TabM a t M)(hb:∀j,j<t.n→BQ κ (t.g j))(hκ:κ≤1000000000000)(hn:t.n≤1000000)
  (qw:xb∉M) (qz:∀k∈M,k<U.heap.size):
  It Tryz.prog 354 [.pointer (Ad xb)] (fun i:Nat=>Iv (i:Int)) ((range t.n).filter (enP t)) M U:=by
 intro ll J eu qt hY hJ qu;have sY:xb∉ll::M:=by simp;exact⟨qt _ _ h1,qw⟩
 have qp:a.tb∉ll::M:=by simp;exact⟨qt _ _ hT.hG,hm.tb⟩
 have gx:∀j,j<t.n→a.gG∉ll::M:=fun j hj=>by simp;exact⟨qt _ _ (hT.at'.g j hj 0 _ O),hm.gG⟩
 have qv:∀{pre:List _} {W W':World},J _ W→_≤_→Keeps [] W W'→J pre W':=fun h hs hk=>hJ _ _ _ h (Keeps.v6 hk hs O4)
 have hG:=hT.hG;refine Ret.j9 func354 O ntmps354 O (qA ?_);refine qQ ([3,4]++range' 10 15) (fun(i:Nat) F=>F.put 10 (.int _ i))
  (fun i W=>i≤t.n∧J ((range i).filter (enP t)) W∧Keeps (ll::M) U W) (fun i=>t.n-i) 0 (qB (Same.eq .refl) O) ⟨O1,qu,.refl⟩ ?_
 rintro u0 i W ⟨hi,qo,hk⟩;refine tI (fun h=>?_) fun h=>?_
 ·have hl:i<t.n:=O1;have hg:=hT.at'.g i hl;have hg:=fun k v hv=>hk.cell (hg k v hv) (gx i hl)
  have hp:=Hp.start (M:=[]) (w:=W);refine qA (tR (qL O O O O hg) ?_);refine vK fun w b hp=>?_
  have hp:=hp.norm 0 (eQ _) O O;refine qBs fun w hp=>?_
  refine tC (r52 _ (BQ.fq (hb i hl) hκ)) fun W2 hp=>?_;have qx:=qv qo hk.size hp.C;have qs:=hk.trans hp.C O4;by_cases xx:0<t.g i
  ·refine wlp (xJ O O) (qV ((qR7 _).trans (aD xx))) (jL ?_);apply jZa;exact O;exact O;exact O;exact O;exact hY _ i _ qx (qMs hl (aD xx));rintro _ W3 ⟨rfl,hh,ox⟩;refine⟨_,O,?_⟩;have gl:=qs.trans ox (fun k hk=>.inr hk);refine gAa ?_;refine tN (i+1) ?_;refine qA ?_;exact⟨_,qB O5 O,⟨O1,by rw[qGc,if_pos (show enP t i=true from aD xx)];omega,gl⟩,O1⟩
  refine wlp (xJ O O) (qV ((qR7 _).trans (aB xx))) (jL ?_);refine tJ ?_;refine tN (i+1) ?_;refine qA ?_;exact⟨_,qB O5 O,⟨O1,by rw[qGc,if_neg (show¬enP t i=true by simpa[enP] using xx),bH];omega,qs⟩,O1⟩
 obtain rfl:i=t.n:=O1;exact mD4
theorem zA6(tb:Nat)(U:World):Rt 322 [.pointer (Ad tb)] U (fun v w'=>∃xb,v= .func (.func 354) #[] #[.pointer (Ad xb)]∧Hp U [] w' [blk xb 1 (qE [.pointer (Ad tb)]) 304]):=by
 refine tW func322 ntmps322 fun hp=>?_;refine vK fun w b hp=>?_
 exact qM O O ⟨_,O,_,O,hp⟩
theorem zA5(tb e:Nat)(U:World):Rt 323 [.pointer (Ad tb),Iv (e:Int)] U (fun v w'=>∃xb eb,v= .func (.func 355) #[] #[.pointer (Ad xb),.pointer (Ad eb)]∧Hp U [] w' [blk eb 1 (qE [Iv (e:Int)]) 3,blk xb 1 (qE [.pointer (Ad tb)]) 304]):=by
 refine tW func323 ntmps323 fun hp=>?_;refine qSk fun w _ b hp=>?_
 exact qM O O ⟨_,O,_,_,O,hp⟩
theorem jZv(a:TA)(t:Tb)(xb eb e κ:Nat)(M:List Nat)(U:World)(h1:U.cell? ⟨xb,0,none⟩=some (.pointer (some ⟨a.tb,0,none⟩)))(h2:U.cell? ⟨eb,0,none⟩=some (Iv (e:Int)))(hT:TabR a t U)(hm:TabM a t M)(hb:Tbq t κ)(hκ:κ+κ≤1000000000000)(hn:t.m≤1000000)(he:e<t.n)
  (qw:xb∉M) (qq:eb∉M) (qz:∀k∈M,k<U.heap.size):
  It2 Tryz.prog 355 [.pointer (Ad xb),.pointer (Ad eb)] (fun i:Nat=>Iv (i:Int)) (fun i:Nat=>QV (t.b i/t.A i e)) ((range t.m).filter (leP t e)) M U:=by
 intro ll J eu qt hY hJ qu;have sY:xb∉ll::M:=by simp;exact⟨qt _ _ h1,qw⟩
 have yq:eb∉ll::M:=by simp;exact⟨qt _ _ h2,qq⟩
 have qp:a.tb∉ll::M:=by simp;exact⟨qt _ _ hT.hG,hm.tb⟩
 have gx:∀j,j<t.m→a.gC∉ll::M:=fun j hj=>by simp;exact⟨qt _ _ (hT.at'.H j hj),hm.gC⟩
 have ht:∀j,j<t.m→a.gR∉ll::M:=fun j hj=>by simp;exact⟨qt _ _ (hT.at'.b j hj 0 _ O),hm.gR⟩
 have hq:∀j,j<t.m→a.rg j∉ll::M:=fun j hj=>by simp;exact⟨qt _ _ (hT.at'.A j e hj he 0 _ O),hm.rg j hj⟩
 have qv:∀{pre:List _} {W W':World},J _ W→_≤_→Keeps [] W W'→J pre W':=fun h hs hk=>hJ _ _ _ h (Keeps.v6 hk hs O4)
 have hC:=hT.hC;refine Ret.j9 func355 O ntmps355 O (qA ?_);refine qQ ([4,5,6,7]++range' 13 32) (fun(i:Nat) F=>F.put 13 (.int _ i))
  (fun i W=>i≤t.m∧J ((range i).filter (leP t e)) W∧Keeps (ll::M) U W) (fun i=>t.m-i) 0 (qB (Same.eq .refl) O) ⟨O1,qu,.refl⟩ ?_
 rintro u0 i W ⟨hi,qo,hk⟩;refine tI (fun h=>?_) fun h=>?_
 ·have hl:i<t.m:=O1;have hH:=hk.cell (hT.at'.H i hl) (gx i hl);have hE:=hk.cell h2 yq;have hX:=hk.cell h1 sY;have hR:=hk.cell hT.hR qp;have hA:=fun k v hv=>hk.cell (hT.at'.A i e hl he k v hv) (hq i hl)
  have hB:=fun k v hv=>hk.cell (hT.at'.b i hl k v hv) (ht i hl)
  have hp:=Hp.start (M:=[]) (w:=W);refine qA (tR (qL O O O O hA) ?_);refine tC (r52 _ (BQ.fq (hb.A i e hl he) O1)) fun W2 hp=>?_;have qx:=qv qo hk.size hp.C;have qs:=hk.trans hp.C O4;by_cases xx:0<t.A i e
  ·refine wlp (uG O O) (qV (b:=false) ((qYk _).trans (by grind))) (jL ?_);refine qN O ?_;have xr:t.A i e≠0:=by grind
   refine qR (uD ([6,7]++range' 24 15) (fun ob F=>F.put 6 (.pointer (Ad ob))) (fun ob w'=>Hp W [] w' [blk ob 3 (qE (eQ (t.b i/t.A i e))) 49]) ?_ ?_)
   ·refine qCm true [0,1,2,3,4,5,6,7,8,9,10,11,12,13,14,15,16,17] jG O3 O (fun w'=>Hp W [] w' []) hp.N ?_;have hp:=hp.N;refine zP ?_;apply wep;exact O;exact O;intro w hp;exact qL O O O O (fun k v hv=>hp.j7 (hB k v hv));exact fA3 O;refine zP ?_;apply wep;exact O;exact O;intro w hp;exact qL O O O O (fun k v hv=>hp.j7 (hA k v hv));exact fA3 O;refine qD7 15 O O3 O O ?eA ?eB
    case' eA=>
     refine tK (qQe _ (hb.b i hl) (hb.A i e hl he) xr O1) ?_;rintro _ w ⟨rfl,hk⟩;have hp:=hp.call hk;refine⟨hp,zP (xO O O3 ?_ O)⟩;apply wbs;exact O;exact jK hp (qJ O);rintro _ w ⟨ob,rfl,hp⟩;refine⟨hp.H,?_⟩
    case' eB=>
     apply wbs;exact O;exact jK hp (qJ O);rintro _ w ⟨ob,rfl,hp⟩;refine⟨hp.H,xO O O3 (tK (qQe _ (hb.b i hl) (hb.A i e hl he) xr O1) ?_) O⟩;rintro _ w ⟨rfl,hk⟩;have hp:=hp.call hk;refine⟨hp.H,zP ?_⟩
    all_goals
     refine xO O O3 ?_ O;apply qDu;exact O;exact qW hp 0 O O O O (qD O) O;rintro _ w ⟨rfl,hp⟩;refine⟨hp.H,?_⟩;refine zP (yZ ?_);exact⟨_,qB O5 O,hp⟩
   intro u1 ob W3 hp;have hh:=qv qo hk.size hp.C;have gl:=hk.trans hp.C O4;refine qA ?_;apply wlY;exact O;exact O;exact hY _ i _ hh (qMs hl (aD xx));rintro _ W4 ⟨rfl,hx,bu⟩;refine⟨_,O,?_⟩;have hg:=gl.trans bu (fun k hk=>.inr hk);refine gA9 ?_;exact⟨_,qB O5 O,⟨O1,by rw[qGc,if_pos (show leP t e i=true from aD xx)];omega,hg⟩,O1⟩
  refine wlp (uG O O) (qV (b:=true) ((qYk _).trans (by grind))) (jL ?_);refine jB O (tM (i+1) ?_);refine qA ?_;exact⟨_,qB O5 O,⟨O1,by rw[qGc,if_neg (show¬leP t e i=true by simpa[leP] using xx),bH];omega,qs⟩,O1⟩
 obtain rfl:i=t.m:=O1;exact mD4
end Go.Proofs.YtplkndjlfkkjlaaGreatDoor
namespace Go.Eng
open List (range range' replicate)
variable{X T:List Ent}{b:Nat}{Ds:List Nat}{Y:List Ent}
section
variable {w0 w w':World}{M:List Nat}{L:List Ent}
theorem Hp.aC8(h:Hp w0 M w L):∀p∈L,∀b,p.1=some b→b<w.heap.size:=fun p hp b hb=>by
 obtain⟨o,ho,_⟩:=h.v7 hp b hb;exact(aT.1 ho).1
theorem Hp.y4(h:Hp w0 M w L){i j a:Nat}{φ ψ:Obj→Prop}(hi:L[i]? =some (some a,φ))(hj:L[j]? =some (some b,ψ))(nu:i≠j):a≠b:=
 fun e=>h.dis i j _ _ hi hj nu a O (aQ _ e.symm)
theorem Hp.aB3{l:Nat}(h:Hp w0 M w L)(hk:Keeps [l] w w')(h0:w0.heap.size≤l)(hL:∀p∈L,p.1≠some l):Hp w0 M w' L:=by
 refine .aB2 (h.keeps.trans hk (fun k hk=>?_)) (fun p hp=>h.q6 hp) (fun p hp b hb=>?_) h.x8
 ·grind
 obtain⟨o,ho,hpo⟩:=h.v7 hp b hb;refine⟨o,?_,hpo⟩;rw[hk.block b (h.aC8 p hp b hb) (by grind)];exact ho
theorem Keeps.mono{N:List Nat}(h:Keeps M w w')(hN:∀k∈M,k∈N):Keeps N w w':=⟨h.os,h.tape,h.output,h.size,fun k hk hm=>h.block k hk (fun h1=>hm (hN k h1))⟩
theorem Keeps.after{w1:World}(h:Keeps [] w0 w1)(h2:Keeps M w1 w'):Keeps M w0 w':=(h.mono O4).trans h2 (fun _ hk=>.inr hk)
theorem Hp.z8{B D:Nat}(h:Hp w0 M w (X++(T++Ds.map xR)))(h0:w0.heap.size≤B)(hL:∀p∈X++(T++Ds.map xR),∀b,p.1=some b→b<B)(hB:B≤D)(hD:w.heap[D]? =some (.deferred (some []))):Hp w0 M w (X++(T++(D::Ds).map xR)):=by
 refine(h.aC5 O1 hL hB hD).perm ?_;rw[←bQ,←bQ,dY];exact List.perm_middle.symm
theorem Hp.y7(h:Hp w0 M w (X++(T++Ds.map xR))):Hp w0 M w (Ds.map xR++T):=(h.sub (bZ _ _)).swap
theorem Hp.u9{A B:List Ent}(hp:Hp w0 M w (A++B)){p:Ent}(hm:p∈A)(hb:p.1=some b):b∉zG B:=by
 have hd:=hp.x8;rw[eY] at hd;intro h;obtain⟨q,hq,ut⟩:=xX.1 h;exact hd.2.2 p hm q hq b hb ut
theorem qJ5{L L':List Ent}{N:Nat}(h:L.map (·.1)=L'.map (·.1))(hl:∀p∈L,∀b,p.1=some b→b<N):∀p∈L',∀b,p.1=some b→b<N:=fun p hp b hb=>by
 have h1:p.1∈L'.map (·.1):=bD.2 ⟨p,hp,O⟩;rw[←h] at h1;obtain⟨q,hq,e⟩:=bD.1 h1;exact hl q hq b (e.trans hb)
theorem Hp.toEnd(h:Hp w0 M w (X++(T++Y))):Hp w0 M w ((X++Y)++T):=h.perm (by
 rw[bQ]
 exact(eP).append_left _)
theorem Hp.aB9(h:Hp w0 M w ((X++Y)++T)):Hp w0 M w (X++(T++Y)):=h.perm (by
 rw[bQ]
 exact(eP).append_left _)
end
def pk(lt:Nat→Nat→Bool)(l:List Nat):Option Nat:=l.foldl (fun c j=>match c with
 |none=>some j
 |some k=>if lt j k then some j else some k) none
section
variable {lt:Nat→Nat→Bool}
theorem qI2(l:List Nat)(x:Nat):pk lt (l++[x])=match pk lt l with
 |none=>some x
 |some k=>if lt x k then some x else some k:=by
 unfold pk;simp
theorem qKk{l:List Nat}(h:pk lt l=none):l=[]:=by
 rcases iV l with rfl|⟨l',x,rfl⟩
 ·rfl
 rw[mM,qI2] at h;grind
theorem qI1(hi:∀a,lt a a=false)(ht:∀a b c,lt a b=true→lt b c=true→lt a c=true):∀(n:Nat) (l:List Nat) {k:Nat},l.length=n→pk lt l=some k→k∈l∧∀j∈l,lt j k=false:=by
 intro n;induction n with
 |zero=>
  intro l k hn h;obtain rfl:=aZ hn;cases h
 |succ n ih=>
  intro l k hn h;rcases iV l with rfl|⟨l',x,rfl⟩
  ·grind
  rw[mM] at hn h⊢;rw[qI2] at h;cases hc:pk lt l' with
  |none=>
   obtain rfl:=qKk hc;grind
  |some q=>
   grind
end
end Go.Eng
namespace Go.Proofs.YtplkndjlfkkjlaaGreatDoor
open List (range range' replicate)
open Tryz
open Go.Eng Go.Dig Go.Lp
def oI:Option Nat→Int
 |none=>-1
 |some k=>(k:Int)
section
variable {w0 w w':World}{M:List Nat}{a:TA}{t:Tb}{X Y:List Ent}
theorem TabR.of(hp:Hp w0 M w (X++(zB a t++Y)))(ok:TAok a t):TabR a t w:=by
 have hp:Hp w0 M w ([]++zB a t):=hp.sub ((dT _ _).trans (bZ _ _));refine⟨TabAt.of [] hp ok,hp.cell 0 O O,hp.cell 0 O O,hp.cell 0 O O,hp.cell 0 O O,hp.cell 0 O O⟩
theorem TabR.j5(h:TabR a t w)(hk:Keeps [] w w'):TabR a t w':=by
 have hc:∀{x:Addr} {v:Value},w.cell? x=some v→_=_:=fun h=>hk.cell h O4
 exact⟨⟨fun i hi=>hc (h.at'.B i hi),fun i hi=>hc (h.at'.N i hi),fun i hi=>hc (h.at'.H i hi),fun i hi k v hv=>hc (h.at'.b i hi k v hv),fun i hi k v hv=>hc (h.at'.g i hi k v hv),fun i j hi hj k v hv=>hc (h.at'.A i j hi hj k v hv)⟩,hc h.hB,hc h.hN,hc h.hC,hc h.hR,hc h.hG⟩
theorem qF0{b:Nat}:(∀p∈zB a t,p.1≠some b)→a.tb≠b∧a.gB≠b∧a.gN≠b∧a.gC≠b∧a.gR≠b∧a.gG≠b∧∀i,i<t.m→a.rg i≠b:=by
 intro h;have e:∀{c:Nat} {p:Ent},p∈_→p.1=some c→c≠b:=fun hp h1 e=>h _ hp (by rw[h1,e])
 exact⟨e (aI (i:=0) O) O,e (aI (i:=1) O) O,e (aI (i:=2) O) O,e (aI (i:=3) O) O,e (aI (i:=4) O) O,e (aI (i:=5) O) O,
  fun i hi=>e (aU _ (bD.2 ⟨i,aO.2 hi,O⟩)) O⟩
theorem TabM.of(h:∀b∈M,∀p∈zB a t,p.1≠some b):TabM a t M:=
 ⟨fun hb=>(qF0 (h _ hb)).1 O,fun hb=>(qF0 (h _ hb)).2.2.2.1 O,fun hb=>(qF0 (h _ hb)).2.2.2.2.1 O,fun hb=>(qF0 (h _ hb)).2.2.2.2.2.1 O,fun i hi hb=>(qF0 (h _ hb)).2.2.2.2.2.2 i hi O⟩
theorem jAd{p:Ent}{b:Nat}(hp:Hp w0 M w (X++(zB a t++Y)))(hm:p∈X)(hb:p.1=some b):∀q∈zB a t,q.1≠some b:=by
 have hd:=hp.x8;rw[eY] at hd;exact fun q hq=>hd.2.2 p hm q (dB _ hq) b hb
end
end Go.Proofs.YtplkndjlfkkjlaaGreatDoor
namespace Go.Eng
open List (range range' replicate)
variable{QA:Exit→Act→World→Prop}{w:World}{id:Nat}
theorem qPj{P:Program}{n:FrK}{F:Fr}{c:Code}(h:WPA P n c (Exit.inBlock id QA) F w):WPA P n (.block id c) QA F w:=sAi h
theorem jF8{G:Act→World→Prop}{a:Act}(h:G a w):(Exit.inBlock id (Exit.then G QA)) .normal a w:=h
end Go.Eng
namespace Go.Proofs.YtplkndjlfkkjlaaGreatDoor
open List (range range' replicate)
open Tryz
open Go.Eng Go.Dig Go.Lp
variable{t:Tb}{e k:Nat}
def ltN(t:Tb)(j k:Nat):Bool:=decide (t.N j<t.N k)
def ltL(t:Tb)(e j k:Nat):Bool:=decide (t.b j/t.A j e<t.b k/t.A k e∨(t.b j/t.A j e=t.b k/t.A k e∧t.B j<t.B k))
def enL(t:Tb):List Nat:=(range t.n).filter (enP t)
def leL(t:Tb)(e:Nat):List Nat:=(range t.m).filter (leP t e)
theorem qRm{j:Nat}:j∈enL t↔j<t.n∧0<t.g j:=by simp[enL,enP]
theorem qR5{i:Nat}:i∈leL t e↔i<t.m∧0<t.A i e:=by simp[leL,leP]
theorem pkN(h:pk (ltN t) (enL t)=some k):k<t.n∧0<t.g k∧∀j,j<t.n→0<t.g j→t.N k≤t.N j:=by
 obtain⟨h1,h2⟩:=qI1 (lt:=ltN t) (fun a=>by simp[ltN]) (fun a b c=>by simp[ltN,dL];omega) _ _ O h;obtain⟨h3,h4⟩:=qRm.1 h1;refine⟨h3,h4,fun j hj hg=>?_⟩;have:=h2 j (qRm.2 ⟨hj,hg⟩);simp only[ltN,fA] at this;omega
theorem pkL(h:pk (ltL t e) (leL t e)=some k):k<t.m∧0<t.A k e∧∀i,i<t.m→0<t.A i e→t.b k*t.A i e≤t.b i*t.A k e∧(t.b k*t.A i e=t.b i*t.A k e→t.B k≤t.B i):=by
 obtain⟨h1,h2⟩:=qI1 (lt:=ltL t e) (fun a=>by simp only[ltL,fA];grind) (fun a b c=>by simp[ltL,dL];grind) _ _ O h;obtain⟨h3,h4⟩:=qR5.1 h1;refine⟨h3,h4,fun i hi hg=>?_⟩;have:=h2 i (qR5.2 ⟨hi,hg⟩);simp only[ltL,fA] at this;rw[←qEq h4 hg,←qKc h4 hg];grind
theorem jDy{r:Nat}(h1:pk (ltN t) (enL t)=some e)(h2:pk (ltL t e) (leL t e)=some r):Bland t r e:=by
 obtain⟨a1,a2,a3⟩:=pkN h1;obtain⟨b1,b2,b3⟩:=pkL h2;exact⟨a1,a2,a3,b1,b2,b3⟩
def qD6(t:Tb)(e:Nat):Option Nat→List Value
 |none=>[.bool false,.string ⟨#[]⟩,.string ⟨#[]⟩]
 |some k=>eQ (t.b k/t.A k e)
attribute [local irreducible] PV StepF wpl wpd WP Ret
attribute [local irreducible] Fit
theorem jVo(a:TA)(t:Tb)(V:Int→Prop)(φ:(Int→Rat)→Rat)(c:Rat)(κ:Nat)(l:List Int)(M:List Nat)(W:World)(ok:TAok a t)(hV:t.ok V)(hf:t.feas)(hv:t.val φ c)(hl:∀v,V v→v∈l)
  (hb:∀u k,Climb t u k→Tbq u κ) (hκ:4*κ+1≤1000000000000) (hx:1≤κ) (hm:t.m≤1000000) (hn:t.n≤1000000) (hp:Hp W M W (zB a t)):
  Rt 233 [.pointer (some ⟨a.tb,0,none⟩)] W (fun v w'=>∃b u k,v= .bool b∧Climb t u k∧(b=true→∀j,j<u.n→¬0<u.g j)∧(b=false→∃e,e<u.n∧0<u.g e∧∀i,i<u.m→¬0<u.A i e)∧Hp W M w' (zB a u)):=by
 refine Ret.q9 func233 O ntmps233 O (qB2 ?_);refine qR ?_;refine tQ fun w1 xb hp=>?_;refine qA (qPj ?_);refine jIa (X:={p:Tb×Nat//Climb t p.1 p.2}) (fun x ds F w=>∃Ds:List _,ds=Ds.map jP7∧qAb F [(1,.pointer _)]∧Hp W M w (blk xb 1 (qE [.pointer _]) 304::(zB a x.1.1++Ds.map xR))) (fun x=>2^l.length-x.1.2) ⟨(t,0),.refl⟩
  ⟨[],O,⟨O,trivial⟩,by rw[rA,bH];exact hp⟩ ?_
 clear hp;rintro⟨⟨u,k⟩,hP⟩ ds F w ⟨Ds,rfl,hF,hp⟩;have hP:Climb t u k:=hP;have hp:Hp W M w (_::(zB a u++_)):=hp;have dz:=hP.mn;have h9:=hb u k hP;have oa:=ok.cast dz.1 dz.2;refine qBr _ hF ?_;intro F0;refine qPj (qB2 (vK fun w b hp=>?_))
 have hp:=hp.norm 0 [.int _ (oI none)] O O;refine qFt (tL (zA6 _ _) ?_);rintro _ w2 ⟨ib,rfl,hpo⟩;have hp:=hp.join hpo;clear hpo;have hp:=hp.perm (iM _ _ _);have hp:Hp W M w2 (blk b 1 (qE [.int _ (oI (pk (ltN u) []))]) 3::_):=hp;refine qA (qBr [(1,.pointer _),(3,.pointer _),(11,.func _ _ _)] ⟨O,O,O,trivial⟩ ?_);intro F1;have hh:=hp.aC8;have oo:=hh _ dO b O;have aa:=jAd (X:=[_,_,_]) hp dO O;have hz:=hp.y4 (i:=1) (j:=0) O O O2;have li:=hp.y4 (i:=2) (j:=0) O O O2
 have tm:TabM a u [b]:=TabM.of (fun b' jn=>by
  grind)
 refine jBs (gf:=354) (lb:=[.pointer (Ad ib)]) O jQd (fun i:Nat=>Iv (i:Int)) (enL u) [b] (fun k hk=>by
   grind)
  (fun pre W'=>Hp W M W' (blk b 1 (qE [Iv (oI (pk (ltN u) pre))]) 3::blk ib 1 (qE [.pointer (some ⟨a.tb,0,none⟩)]) 304::blk xb 1 (qE [.pointer (some ⟨a.tb,0,none⟩)]) 304::(zB a u++Ds.map xR)))
  (fun pre W1 W2 h us=>h.v6 us hp.C.size (fun p jo=>by
   rcases bE.1 jo with rfl|jo
   ·exact mF5
   grind)) hp ?_
  (fun i=>((F1.x5 [(1,.pointer (Ad xb)),(3,.pointer (Ad b)),(11,.func (.func 354) #[] #[.pointer (Ad ib)])]).put 12 (Iv (i:Int))).put 4 (Iv (i:Int))) ?_ ?_ ?_
 ·intro W1 hk ht;have ed:=hp.call hk
  exact jZw a u ib κ _ W1 (ed.cell 1 O O) (TabR.of (X:=[_,_,_]) ed oa) tm h9.g O1 O1 (by grind) (fun k nv=>by
   grind)
 ·intro ll i W1;refine qA ?_;simp
 ·rintro ll pre i W1 ⟨ou,o5⟩ q1;obtain⟨rfl,hi,ew⟩:=qU0 o5;have hT:=TabR.of (X:=[_,_,_]) q1 oa;have cN:=hT.hN;have ci:=hT.at'.N i hi;have c1:W1.cell? ⟨xb,0,_⟩=some (.pointer _):=q1.cell 2 O O;have lp:∀q,pk (ltN u) ((range i).filter (enP u))=some q→q<i:=fun q hq=>by
   have:=(qI1 (fun a=>by simp[ltN]) (fun a b c=>by simp[ltN,dL];omega) _ _ O hq).1;grind
  generalize (List.range i).filter _=pre at q1 lp⊢;have hs:=qI2 (lt:=ltN u) pre i;have hp:=Hp.start (M:=[]) (w:=W1);refine qR ?_;have fin:∀(F2:Fr) (W2:World),F2 3= .pointer (some ⟨b,0,none⟩)→F2 4= .int .i64 i→Hp W1 [] W2 []→pk (ltN u) (pre++[i])=some i→WP Tryz.prog ⟨76,[],some ll⟩ (.region 5 #[⟨some 32,.move (.tmp 4),3, "linear.go:195",#[],none⟩,⟨none,.store 3 (.tmp 3) (.tmp 32),0, "linear.go:195",#[⟨0,.data⟩,⟨0,.phase⟩],none⟩] false) (qFi 3 fun e _ W'=>e= .normal∧Hp W M W' (blk b 1 (qE [.int .i64 (oI (pk (ltN u) (pre++[i])))]) 3::blk ib 1 (qE [.pointer (some ⟨a.tb,0,none⟩)]) 304::blk xb 1 (qE [.pointer (some ⟨a.tb,0,none⟩)]) 304::(zB a u++Ds.map xR))∧Keeps [b] W1 W') F2 W2:=by
   intro F2 W2 h3 h4 lj bo;have hK:=q1.call lj.C;have hp:=Hp.y1 (hK.has 0 _ O b O);have hp:Hp W2 [b] W2 [blk b 1 (qE [Iv (oI (pk (ltN u) pre))]) 3]:=hp;refine qR ?_;refine wlp qP h4 ?_;refine tO (jD hp 0 h3 O O O (qD O) O) fun w4 hp=>?_;have hp:=hp.norm 0 [Iv (i:Int)] O O;refine qA ?_;rw[bo]
   refine⟨O,hK.o8 (i:=0) (q:=blk b 1 (qE [Iv (i:Int)]) 3) O hp.C (fun b' jn=>by
    cases jn
    exact⟨.inl O,hp.has 0 _ O b O⟩),lj.C.after hp.C⟩
  cases hc:pk (ltN u) pre with
  |none=>
   have c3:W1.cell? ⟨b,0,_⟩=some (.int _ _):=q1.cell 0 O O;rw[hc] at c3 hs;refine kU false jG O3 (fun w'=>Hp W1 [] w' []) hp.N ?_;have hp:=hp.N;refine xA (qU ?_);refine jB O ?_;exact fin _ _ O O hp (by rw[hs])
  |some q=>
   have hL:=lp q hc;have hX:q<u.n:=O1;have cq:=hT.at'.N q O1;have c3:W1.cell? ⟨b,0,_⟩=some (.int _ _):=q1.cell 0 O O;rw[hc] at c3 hs;have c3:W1.cell? _=some (.int _ q):=c3;refine kU false jG O3 (fun w'=>Hp W1 [] w' []) hp.N ?_;have hp:=hp.N;refine tP (fun w hp=>qS O O (hp.j7 c3)) ?_;refine wdp O (fun w hp=>zQ O O) (qV (aB O1)) (tP (fun w hp=>qP) ?_);refine xA (qU ?_);have hs:_=if ltN u i q then some i else some q:=hs
   refine qH O (fun h=>?_) (fun h=>?_)
   ·exact fin _ _ O O hp (by rw[hs,if_pos (show ltN u i q=true from aD h)])
   refine qA ?_;rw[hs,if_neg (show¬ltN u i q=true by simpa[ltN] using h),←hc];exact⟨O,q1.call hp.C,hp.C.mono O4⟩
 intro D W1 hD q1 q7
 have hp:=Hp.z8 (X:=[blk b 1 (qE [Iv (oI (pk (ltN u) (enL u)))]) 3,blk ib 1 (qE [.pointer (some ⟨a.tb,0,none⟩)]) 304,blk xb 1 (qE [.pointer (some ⟨a.tb,0,none⟩)]) 304]) (T:=zB a u) (Ds:=Ds) q1 hp.C.size (fun p jo=>by
  rcases bE.1 jo with rfl|jo
  ·exact mF5
  exact hh p (dX _ jo)) hD q7
 have hp:Hp W M W1 (_::_::_::(zB a u++_)):=hp;clear q1 hh aa tm q7;refine qFu O O (qB2 ?_);cases hc:pk (ltN u) (enL u) with
 |none=>
  rw[hc] at hp;have hp:Hp W M W1 (blk b 1 (qE [.int _ (-1)]) 3::_):=hp;refine qR ?_;refine tR (qS O O (hp.cell 0 O O)) ?_;refine wlp (zQ O O) (qV (aD O1)) (qR ?_);refine jB O (qA ?_);exact qOe _ O O O (hp.y7 (X:=[_,_,_])) (fun w' hp'=>⟨_,O,_,u,k,O,hP,fun _ j hj hg=>(by have:=qRm.2 ⟨hj,hg⟩;rw[qKk hc] at this;grind),fun h=>(by cases h),hp'⟩)
 |some e=>
  obtain⟨he,x4,yw⟩:=pkN hc;rw[hc] at hp;have hp:Hp W M W1 (blk b 1 (qE [.int _ e]) 3::_):=hp;refine qR ?_;refine tR (qS O O (hp.cell 0 O O)) ?_;refine wlp (zQ O O) (qV (aB O1)) (qR ?_);refine tJ ?_;have hp:Hp W M W1 (_::_::_):=hp.x7 1;have hS:∀i,i<u.m→0<u.A i e→BQ _ _:=fun i hi hg=>(h9.b i hi).div (h9.A i e hi he) (by grind)
  refine qB2 (qR ?_);refine tQ fun w3 lb hp=>?_;refine tS fun w4 hp=>?_;have hp:=hp.norm 0 [.int _ (oI none)] O O;refine qA (qB2 ?_);refine qR ?_;refine tQ fun w5 bb hp=>?_;have hp:=hp.norm 0 (qD6 u e none) O O;have hp:=hp.swap (L:=[_,_]);refine qA (qFt ?_);refine tL (zA5 _ e _) ?_;rintro _ w6 ⟨xi,ei,rfl,hpo⟩;have hp:=hp.join hpo;clear hpo;have hp:Hp W M w6 ((_::_::_)++[blk bb 3 (qE (qD6 u e (pk (ltL u e) []))) 49,blk lb 1 (qE [.int _ (oI (pk (ltL u e) []))]) 3]):=hp;refine qA (qBr [(1,.pointer _),(3,.pointer _),(5,.pointer _),(6,.pointer _),(37,.func _ _ _)] ⟨O,O,O,O,O,trivial⟩ ?_);intro F2;have hh:=hp.aC8;have aa:∀{q:Ent} {b':Nat},q∈_→q.1=_→b'∉[bb,lb]:=fun hm jn=>hp.u9 hm jn
  have tm:=TabM.of (fun b' jn q hq e=>aa (aU [_,_,_,_] (dB _ hq)) e jn);have qq:∀k∈[bb,lb],k<_:=fun k hk=>by
   have h1:=hh _ (aU _ dO) bb O;have h2:=hh _ (aU _ (dX _ dO)) lb O;simp at hk;rcases hk with rfl|rfl
   ·exact h1
   exact h2
  have hM:=aa (aI (i:=1) O) O;have hE:=aa (aI (i:=0) O) O;refine qUu (gf:=355) O jQc (fun i:Nat=>Iv (i:Int)) (fun i:Nat=>QV (u.b i/u.A i e)) (leL u e) [bb,lb] qq
   (fun pre W'=>Hp W M W' ((blk ei 1 (qE [Iv (e:Int)]) 3::blk xi 1 _ 304::blk b 1 (qE [Iv (e:Int)]) 3::blk xb 1 _ 304::(zB a u++(D::Ds).map xR))++[blk bb 3 (qE (qD6 u e (pk (ltL u e) pre))) 49,blk lb 1 (qE [Iv (oI (pk (ltL u e) pre))]) 3]))
   (fun pre W1 W2 h us=>h.v6 us hp.C.size (qJ5 (by simp only[dR,dY];rfl) hh)) hp ?_
   (fun ll pre i F' W'=>∃vb,vb≠ll∧F'=((((F2.x5 [(1,.pointer (Ad xb)),(3,.pointer (Ad b)),(5,.pointer (Ad lb)),(6,.pointer (Ad bb)),(37,.func (.func 355) #[] #[.pointer (Ad xi),.pointer (Ad ei)])]).put 38 (Iv (i:Int))).put 39 (QV (u.b i/u.A i e))).put 7 (Iv (i:Int))).put 8 (.pointer (Ad vb))∧Hp W M W' (blk vb 3 (qE (eQ (u.b i/u.A i e))) 49::((blk ei 1 (qE [Iv (e:Int)]) 3::blk xi 1 (qE [.pointer (some ⟨a.tb,0,none⟩)]) 304::blk b 1 (qE [Iv (e:Int)]) 3::blk xb 1 (qE [.pointer (some ⟨a.tb,0,none⟩)]) 304::(zB a u++(D::Ds).map xR))++[blk bb 3 (qE (qD6 u e (pk (ltL u e) pre))) 49,blk lb 1 (qE [Iv (oI (pk (ltL u e) pre))]) 3]))) ?_ ?_ ?_ ?_
  ·intro W1 hk ht;have ed:=hp.call hk;exact jZv a u xi ei e κ _ W1 (ed.cell 1 O O) (ed.cell 0 O O) (TabR.of (X:=[_,_,_,_]) (ed.sub (dT _ _)) oa) tm h9 O1 O1 he hM hE (fun k nv=>cJ (qq k nv) hk.size)
  ·rintro ll pre i W1 ⟨ou,o5⟩ q1 hU eu;have hp:=Hp.start (M:=[]) (w:=W1);refine qR ?_;refine tR qY (qR ?_);refine tQ fun w7 vb hp=>?_;refine tS fun w8 hp=>?_;refine qA ?_;have hH:=(hp.p6 (i:=0) O).1;exact⟨O,⟨vb,O1,O,q1.join hp⟩,hp.C⟩
  ·rintro ll pre i F' W1 W2 hU ⟨vb,xr,rfl,u3⟩ hk;refine⟨vb,xr,O,u3.aB3 hk (bL hp.C.size hU) (fun q hq ld=>?_)⟩;rcases bE.1 hq with rfl|hq
   ·exact xr (gM ld)
   have:=qJ5 (by simp only[dR,dY];rfl) hh q hq ll ld;omega
  ·rintro ll pre i F' W1 ⟨ou,o5⟩ ⟨vb,xr,rfl,q1⟩;obtain⟨rfl,hi,ew⟩:=qU0 o5;have ew:=by simpa[leP] using ew
   have lp:∀q,pk (ltL u e) ((range i).filter (leP u e))=some q→q<i∧0<u.A q e:=fun q hq=>by
    have:=(qI1 (lt:=ltL u e) (fun a=>by simp only[ltL,fA];grind) (fun a b c=>by simp[ltL,dL];grind) _ _ O hq).1;simpa[leP] using this
   generalize (List.range i).filter _=pre at q1 lp⊢;have hs:=qI2 (lt:=ltL u e) pre i;have hl:=Hp.l5 (A:=blk vb 3 _ 49::(blk ei 1 _ 3::blk xi 1 _ 304::blk b 1 _ 3::blk xb 1 _ 304::(zB a u++(D::Ds).map xR))) q1;have hT:=TabR.of (X:=[_,_,_,_,_]) (q1.sub (List.sublist_append_left _ _)) oa;have cB:=hT.hB;have ci:=hT.at'.B i hi;have c1:W1.cell? ⟨xb,0,_⟩=some (.pointer _):=q1.cell 4 O O;have cv:∀k v,(eQ _)[k]? =_→_=_:=q1.j4 0 (o:=0) (k:=3) O O;have c5:W1.cell? ⟨lb,0,_⟩=some (.int _ _):=hl.cell 1 O O;have hH:vb∉[bb,lb]:=q1.u9 List.mem_cons_self O;have hp:=Hp.start (M:=[]) (w:=W1);have fin:∀(F3:Fr) (W2:World),F3 5= .pointer (some ⟨lb,0,none⟩)→F3 6= .pointer (some ⟨bb,0,none⟩)→F3 7= .int .i64 (i:Int)→F3 8= .pointer (some ⟨vb,0,none⟩)→Hp W1 [] W2 []→pk (ltL u e) (pre++[i])=some i→WP Tryz.prog ⟨76,[],some ll⟩ (.region 17 #[⟨some 68,.move (.tmp 7),3, "linear.go:209",#[],none⟩,⟨some 69,.load 49 (.tmp 8),49, "linear.go:209",#[⟨2,.gcOnly .lateStores⟩],none⟩,⟨none,.store 3 (.tmp 5) (.tmp 68),0, "linear.go:209",#[⟨0,.data⟩,⟨0,.phase⟩,⟨1,.textOnly .lateStores⟩],none⟩,⟨none,.store 49 (.tmp 6) (.tmp 69),0, "linear.go:209",#[⟨1,.data⟩,⟨2,.chain⟩,⟨0,.phase⟩,⟨1,.phase⟩,⟨2,.phase⟩],none⟩] true) (qFi 5 fun ea _ W'=>ea= .normal∧Hp W M W' ((blk ei 1 (qE [.int .i64 (e:Int)]) 3::blk xi 1 (qE [.pointer (some ⟨a.tb,0,none⟩)]) 304::blk b 1 (qE [.int .i64 (e:Int)]) 3::blk xb 1 (qE [.pointer (some ⟨a.tb,0,none⟩)]) 304::(zB a u++(D::Ds).map xR))++[blk bb 3 (qE (qD6 u e (pk (ltL u e) (pre++[i])))) 49,blk lb 1 (qE [.int .i64 (oI (pk (ltL u e) (pre++[i])))]) 3])∧Keeps [bb,lb] W1 W') F3 W2:=by
    intro F3 W2 h5 h6 h7 h8 lj bo;have hK:=q1.call lj.C;have oy:=Hp.l5 (A:=blk vb 3 (qE (eQ (u.b i/u.A i e))) 49::(blk ei 1 (qE [Iv (e:Int)]) 3::blk xi 1 (qE [.pointer (some ⟨a.tb,0,none⟩)]) 304::blk b 1 (qE [Iv (e:Int)]) 3::blk xb 1 (qE [.pointer (some ⟨a.tb,0,none⟩)]) 304::(zB a u++(D::Ds).map xR))) (B:=[blk bb 3 (qE (qD6 u e (pk (ltL u e) pre))) 49,blk lb 1 (qE [Iv (oI (pk (ltL u e) pre))]) 3]) hK;have hp:Hp W2 [bb,lb] W2 [blk bb 3 (qE (qD6 u e (pk (ltL u e) pre))) 49,blk lb 1 (qE [Iv (oI (pk (ltL u e) pre))]) 3]:=oy;refine kU true jG O3 (fun w'=>Keeps [bb,lb] W2 w') hp.N.C ?_;have hp:=hp.N;apply wdp;exact O;intro w hk;exact qP;exact h7;apply wdp;exact O;intro w hk;exact qL (vs:=eQ (u.b i/u.A i e)) O O h8 O (fun k v hv=>hk.cell (lj.j7 (cv k v hv)) hH);exact fA3 O;apply qSl;exact O;exact jD hp 1 h5 O O O (qD O) O;rintro _ w7 ⟨rfl,hp⟩;refine⟨hp.C,?_⟩;apply qSl;exact O;exact qW hp 0 h6 O O O (qD O) O;rintro _ w8 ⟨rfl,hp⟩;refine⟨hp.C,?_⟩;have hp:=hp.norm 0 (eQ (u.b i/u.A i e)) O O;have hp:=hp.norm 1 [Iv (i:Int)] O O;refine qU ?_;refine qR ?_;rw[bo];have sd:=(Hp.back (A:=blk vb 3 (qE (eQ (u.b i/u.A i e))) 49::(blk ei 1 (qE [Iv (e:Int)]) 3::blk xi 1 (qE [.pointer (some ⟨a.tb,0,none⟩)]) 304::blk b 1 (qE [Iv (e:Int)]) 3::blk xb 1 (qE [.pointer (some ⟨a.tb,0,none⟩)]) 304::(zB a u++(D::Ds).map xR))) (B:=[blk bb 3 (qE (qD6 u e (pk (ltL u e) pre))) 49,blk lb 1 (qE [Iv (oI (pk (ltL u e) pre))]) 3]) hK hp).tail;exact⟨O,sd,lj.C.after hp.C⟩
   cases hc:pk (ltL u e) pre with
   |none=>
    rw[hc] at c5 hs;have c5:W1.cell? _=some (.int _ (-1)):=c5;refine qR ?_;refine tR qY (qR ?_);refine tR (qS O O c5) ?_;refine wlp (vE O O) (qV (aB O1)) (qR ?_);refine qN O (qR ?_);refine kU false jG O3 (fun w'=>Hp W1 [] w' []) hp.N ?_;have hp:=hp.N;refine xA (qU ?_);refine jB O ?_;exact fin _ _ O O O O hp (by rw[hs])
   |some q=>
    obtain⟨hL,hy⟩:=lp q hc;have hJ:q<u.m:=O1;have cq:=hT.at'.B q hJ;have c6:∀k v,(qD6 u e (pk (ltL u e) pre))[k]? =some v→W1.cell? ⟨bb,0+k,none⟩=some v:=by
     rw[hc];rw[hc] at hl;exact hl.j4 0 (o:=0) (k:=3) O O
    rw[hc] at c5 c6 hs;have c5:W1.cell? _=some (.int _ q):=c5;have c6:∀k v,(eQ _)[k]? =_→_=_:=c6;have hs:_=if ltL u e i q then some i else some q:=hs
    refine qR ?_;refine tR qY (qR ?_);refine tR (qS O O c5) ?_;refine wlp (vE O O) (qV (aD O1)) (qR ?_);refine jB O (qR ?_);refine tR (qL (vs:=eQ (u.b i/u.A i e)) O O O O cv) (tR (qL (vs:=eQ (u.b q/u.A q e)) O O O O c6) ?_);refine tC (r53 _ (hS i hi ew) (hS q hJ hy) O1) fun W2 hp=>?_;have no:¬ltL u e i q=true→Hp W M W2.drew ((blk ei 1 (qE [Iv (e:Int)]) 3::blk xi 1 (qE [.pointer (some ⟨a.tb,0,none⟩)]) 304::blk b 1 (qE [Iv (e:Int)]) 3::blk xb 1 (qE [.pointer (some ⟨a.tb,0,none⟩)]) 304::(zB a u++(D::Ds).map xR))++[blk bb 3 (qE (qD6 u e (pk (ltL u e) (pre++[i])))) 49,blk lb 1 (qE [Iv (oI (pk (ltL u e) (pre++[i])))]) 3])∧Keeps [bb,lb] W1 W2.drew:=fun h=>by
     rw[hs,if_neg h,←hc];exact⟨(q1.call hp.N.C).tail,hp.N.C.mono O4⟩
    by_cases h1:u.b i/u.A i e<u.b q/u.A q e
    ·rw[show wH _ _= -1 from if_pos h1];refine tR qY (qR ?_);refine kU false jG O3 (fun w'=>Hp W1 [] w' []) hp.N ?_;have hp:=hp.N;refine xA (qU ?_);refine jB O ?_;exact fin _ _ O O O O hp (by rw[hs,if_pos (show ltL u e i q=true from aD (.inl h1))])
    by_cases h2:u.b i/u.A i e=u.b q/u.A q e
    ·rw[show wH (u.b i/u.A i e) (u.b q/u.A q e)=0 by unfold wH;grind];refine tR qY (qR ?_);refine kU false jG O3 (fun w'=>Hp W1 [] w' []) hp.N ?_;have hp:=hp.N;refine tP (fun w hp=>qP) ?_;refine wdp O (fun w hp=>zQ O O) (qV (b:=false) (aB O1)) (tP (fun w hp=>qP) ?_);apply yG;exact O;exact O;exact O;intro w hp;exact qP;exact fI O;apply yG;exact O;exact O;exact O;intro w hp;exact zW O O;exact qV (aD O1);refine xA (qU ?_);refine qR (qH O (fun h=>?_) (fun h=>?_))
     ·exact fin _ _ O O O O hp (by rw[hs,if_pos (show ltL u e i q=true from aD (.inr ⟨h2,h⟩))])
     exact mEm
    rw[show wH (u.b i/u.A i e) (u.b q/u.A q e)=1 by unfold wH;grind];refine tR qY (qR ?_);refine kU false jG O3 (fun w'=>Hp W1 [] w' []) hp.N ?_;refine tP (fun w hp=>qP) ?_;refine wdp O (fun w hp=>zQ O O) (qV (aB O1)) (tP (fun w hp=>qP) ?_);apply yG;exact O;exact O;exact O;intro w hp;exact qP;exact fI O;apply yG;exact O;exact O;exact O;intro w hp;exact zW O O;exact qV (aB O1);refine xA (qU ?_);refine qR (qN O ?_);exact mEm
  intro D2 W1 hD q1 q7;have hp:=Hp.z8 (X:=[_,_]++[_,_,_,_]) (T:=zB a u) (q1.swap) hp.C.size (fun p jo=>qJ5 (by simp only[dR,dY];rfl) hh p ((fO.1 (show p∈[_,_]++(blk ei 1 _ 3::blk xi 1 _ 304::blk b 1 _ 3::blk xb 1 _ 304::(zB a u++(D::Ds).map xR)) from jo)).elim (aU _) (dB _))) hD q7;clear q1 hh aa tm q7;refine qFu O O (qB2 ?_);cases hc2:pk (ltL u e) (leL u e) with
  |none=>
   rw[hc2] at hp;have hp:Hp W M W1 (_::blk lb 1 (qE [.int _ (-1)]) 3::(_::_::_::_::(zB a u++_))):=hp;refine qR ?_;refine tR (qS O O (hp.cell 1 O O)) ?_;refine wlp (zQ O O) (qV (aD O1)) (qR ?_);refine jB O (qA ?_);exact qOe (D2::D::Ds) O O O (hp.y7 (X:=[_,_,_,_,_,_])) (fun w' hp'=>⟨_,O,false,u,k,O,hP,fun h=>(by cases h),fun _=>⟨e,he,x4,fun i hi hA=>(by have:=qR5.2 ⟨hi,hA⟩;rw[qKk hc2] at this;grind)⟩,hp'⟩)
  |some r=>
   have oo:=jDy hc hc2;rw[hc2] at hp;have hp:Hp W M W1 (_::blk lb 1 (qE [.int _ r]) 3::(_::_::_::_::(zB a u++_))):=hp;refine qR ?_;refine tR (qS O O (hp.cell 1 O O)) ?_;refine wlp (zQ O O) (qV (aB O1)) (qR ?_);refine qN O (qR ?_);refine qSc (qA ?_);have hp':=Hp.toEnd (X:=[_,_,_,_,_,_]) (T:=zB a u) hp;refine tK (jO9 a u r e κ _ _ oa oo.hr he oo.ne h9 (hb _ _ (hP.step oo)) O1 hx O1 O1 (Hp.l5 hp')) ?_;rintro _ w9 ⟨rfl,lj⟩;have hp:=Hp.aB9 (Hp.back hp' lj);have hQ:=hP.len hV hf hv l hl;refine qR ?_;refine jF8 ⟨⟨(u.pv r e,k+1),hP.step oo⟩,_,_,O,⟨D2::D::Ds,O,⟨O,trivial⟩,hp.sub (bZ [_,_,_,_,_] _)⟩,?_⟩;grind
end Go.Proofs.YtplkndjlfkkjlaaGreatDoor
namespace Go.Eng
open List (range range' replicate)
variable{k e c:Nat}{p:Ent}{t b:Nat}{α:Type}{i o m:Nat}{l:List α}{sz:Nat}{enc:α→List Value}{L:List Ent}{q:Ent}
theorem qOi:∀(vs:List Value) (ca:Array Value) (o n:Nat),n≤o→(qQm ca o vs).toList.take n=ca.toList.take n
 |[],_,_,_,_=>rfl
 |v::vs,ca,o,n,h=>by
  show(qQm _ _ vs).toList.take n=_
  rw[qOi vs _ _ _ O1,mI,rS,mY (by grind)]
section
variable {w0 w w':World}{M:List Nat}{L:List Ent}
theorem qKo(hi:L[i]? =some p):List.Perm L (L.eraseIdx i++[p]):=by
 have he:=(aH.1 hi).2;have h1:L=L.take i++p::L.drop (i+1):=by rw[←he,lZ,eO]
 have h2:=mZ L i;rw[h2]
 conv=>lhs;rw[h1]
 exact List.perm_middle.trans ((List.perm_append_singleton p _).symm)
theorem jD4(hi:L[i]? =some p):List.Perm (L.eraseIdx i++[q]) (L.set i q):=by
 have hl:=(aH.1 hi).1;have h2:(L.set i q).eraseIdx i=L.eraseIdx i:=by
  rw[mZ,mZ,rS,mY (by grind),oW O1]
 have h3:=qKo (p:=q) (by rw[iB,if_pos O,if_pos hl]);rw[h2] at h3;exact h3.symm
theorem Hp.k6(h:Hp w0 M w L)(i:Nat)(hi:L[i]? =some p):Hp w (zG [p]) w [p]:=Hp.l5 (h.perm (qKo hi))
theorem Hp.j8(h:Hp w0 M w L)(i:Nat)(hi:L[i]? =some p)(h':Hp w (zG [p]) w' [q]):Hp w0 M w' (L.set i q):=(Hp.back (h.perm (qKo hi)) h').perm (jD4 hi)
end
section
variable {P:Program}{n:FrK}{w0 w:World}{M:List Nat}{L:List Ent}{F:Fr}{d:Option Tmp}{ty:TypeId}{pos:String}{aft:Array Edge}{g:Option (Nat×Bool)}{x y:Operand}
theorem qOg{l h q:Nat}{k1 k2 k3:IntKind}{lo hi mx:Operand}(ht:P.underlying t=some (.slice e))(hk:TSize P e k)(hx:ev n F x= .slice (some ⟨b,o,none⟩) m c)(hl:ev n F lo= .int k1 l)(hh:ev n F hi= .int k2 h)(hm:ev n F mx= .int k3 q)(h1:l≤h)(h2:h≤q)(h3:q≤c)(h4:l<q):
  PV P n w F ⟨d,.slice t x (some lo) (some hi) (some mx),ty,pos,aft,g⟩ (.slice (some ⟨b,o+l*k,none⟩) (h-l) (q-l)):=by
 have jm:=yO (P:=P) (w:=w) (c:=.slice3Acap) hm h3;have sd:=yO (P:=P) (w:=w) (c:=.slice3B) hh h2;have jq:=yO (P:=P) (w:=w) (c:=.slice3C) hl h1;have xr:¬q=l:=O1;simp[PV,execOp,Instr.sliceAt,Instr.slice,hx,jQ ht,Instr.sliceBounds,jm,sd,jq,hk.run,xr,yC]
theorem qBz{l:Nat}{q:IntKind}(ht:P.underlying t=some (.slice e))(hk:TSize P e k)(hx:ev n F x= .slice (some ⟨b,o,none⟩) m c)(hl:ev n F y= .int q l)(h1:l≤m)(_h2:m≤c):
  PV P n w F ⟨d,.slice t x (some y) none none,ty,pos,aft,g⟩ (.slice (some ⟨b,if c=l then o else o+l*k,none⟩) (m-l) (c-l)):=by
 have jq:=yO (P:=P) (w:=w) (c:=.sliceB) hl h1;by_cases xr:c=l
 ·simp[PV,execOp,Instr.sliceAt,Instr.slice,hx,jQ ht,Instr.sliceBounds,jq,hk.run,xr]
 simp[PV,execOp,Instr.sliceAt,Instr.slice,hx,jQ ht,Instr.sliceBounds,jq,hk.run,xr,yC]
theorem qJt{ba:Nat}{gb cap:Nat}{xs news:List Value}{s:Option Addr}(hp:Hp w0 M w L)(i:Nat)(ht:P.underlying t=some (.slice e))(hs:TSize P e sz)(x3:TBytes P e ba)(hg:0<sz)
  (hx:ev n F x= .slice (Ad gb) m cap) (hy:ev n F y= .slice s k c) (hi:L[i]? =some (some gb,qLm e sz cap m xs)) (hl:xs.length=m*sz) (hn:news.length=k*sz)
  (hj:∀(j:Nat) (u:Value),news[j]? =some u→∃b o,s=some ⟨b,o,none⟩∧w.cell? ⟨b,o+j,none⟩=some u) (h1:∀u∈news,kM u=true) (hK:m+k≤cap):
  StepF P n ⟨d,.call ⟨.builtin .append,#[x,y],#[t,t]⟩,ty,pos,aft,g⟩ F w (fun u w'=>u= .slice (Ad gb) (m+k) cap∧Hp w0 M w' (L.set i (some gb,qLm e sz cap (m+k) (xs++news)))):=by
 obtain⟨inf,hh,hD⟩:=x3.ex;have p2:=by
  exact mBx
 have ma:∀u∈news,u.oneCell'=true:=by
  exact mEl
 obtain⟨o9,hF,ca,rfl,hL,hT⟩:=hp.has i _ hi gb O;have h3:m*sz+k*sz≤cap*sz:=by
  rw[←fE];exact aL _ hK
 by_cases hk:k=0
 ·subst hk;have q2:news=[]:=aZ O1;subst q2;have pu:(Builtin.append_ #[t,t] ty #[.slice (Ad gb) m cap,.slice s 0 c]).run P w= .ok (.slice (Ad gb) m cap) w:=by
   have h2:m≤cap:=O1;exact mC9
  refine xN (v:=.slice _ m _) (w':=w) ?_ ⟨O,?_⟩
  ·exact mBz
  simp[iF,bH];rw[qSx hi];exact hp
 have hM:0<news.length:=by
  rw[hn];exact iU O1 hg
 obtain⟨b,o,hH,_⟩:=hj 0 news[0] (aA hM);subst hH;have hE:∀(j:Nat) (u:Value),news[j]? =some u→w.cell? ((⟨b,o,none⟩:Addr).add j)=some u:=by
  intro j u hu;obtain⟨b',o',e1,e2⟩:=hj j u hu;cases e1;rw[yC];exact e2
 have yi:m*inf.size+news.length≤ca.size:=by rw[p2,hL];omega
 have hr:=run_append_room w t ty e _ ht hh gb m _ _ hF _ k c _ (by grind) hE ma hK yi;have oj:=(aT.1 hF).1;refine xN ?_ ⟨O,hp.o8 hi (w':=w.setRow gb (ca.toList.take (m*inf.size)++news++ca.toList.drop (m*inf.size+news.length)).toArray) ?_ ?_⟩
 ·simp only[execOp,resolve,bJ,dV,aK,invoke,builtin];simp[hx,hy,hr]
 ·refine⟨O,O,O,O4,fun q hq hm=>?_⟩;simp only[World.setRow,lI];grind
 intro q hq;have hz:q=gb:=by
  have:(some gb:Option Nat)=some q:=hq;simpa[eq_comm] using this
 subst hz;refine⟨.inl O,_,?_,(ca.toList.take (m*inf.size)++news++ca.toList.drop (m*inf.size+news.length)).toArray,O,?_,?_⟩
 ·simp[World.setRow,lI,if_true,hF,eC]
 ·grind
 rw[p2];rw[hT,fE,List.take_append_of_le_length (by grind),bR (by grind)]
theorem qFx(enc:α→List Value){cc:Nat}{z:Value}(zc:List Value)(hp:Hp w0 M w L)(j:Nat)(hj:L[j]? =some (qG enc e sz (Ad b) c l))(ht:P.underlying t=some (.slice e))(hz:TZero P e z)
  (hl:(Builtin.zeroCells z.cells 1).toList=zc) (x2:zc.length=sz) (h1:zc.all kM=true)
  (hx:ev n F x= .slice (some ⟨b,0+k*sz,none⟩) 1 cc) (hk:l.length≤k) (hh:k<c) (hm:∀x,(enc x).length=sz):
  StepF P n ⟨d,.call ⟨.builtin .clear,#[x],#[t]⟩,ty,pos,aft,g⟩ F w (fun u w'=>u= .tuple #[]∧Hp w0 M w' L):=by
 obtain⟨o,ho,ca,rfl,hg,eV⟩:=hp.has j _ hj b O;have hg:_=c*sz:=hg;have hQ:=zR _ sz hm l;have h2:=by
  have:(k+1)*sz≤c*sz:=aL sz O1;rw[fE,lR] at this;exact this
 have h3:=aL sz hk;obtain⟨w',hr,nv,jn⟩:=qCo (P:=P) zc w _ (0+k*sz) 0 ho O1 h1;refine xN ?_ ⟨O,hp.callE j hj nv ⟨_,jn,_,O,?_,?_⟩⟩
 ·simp only[execOp,resolve,bJ,dV,aK,invoke,builtin];simp[fH] at hr hx;simp[hx,Builtin.clear_,jQ ht,hz.run,hl,hr]
 ·show _=c*sz
  rw[qG4,hg]
 rw[←eV];exact qOi _ _ _ _ O1
end
theorem qWa(hk:∀x,(enc x).length=k)(l:List α)(i:Nat):(l.flatMap enc).take (i*k)=(l.take i).flatMap enc:=by
 by_cases hi:i≤l.length
 ·have h1:((l.take i).flatMap enc).length=i*k:=by rw[zR enc k hk,bV,eM hi]
  conv=>lhs;rw[←eO i l,iS,←h1]
  simp
 rw[bR (show l.length≤i by omega),bR];rw[zR _ k hk];exact aL k O1
theorem SlAt.aC0{w:World}(h:SlAt w sz enc (some ⟨b,o,none⟩) l)(k:Nat):SlAt w sz enc (some ⟨b,o+k*sz,none⟩) (l.drop k):=by
 intro i x hx;rw[nM] at hx;obtain⟨b',o',e,hc⟩:=h _ x hx;grind
theorem qLl{o:Obj}(hk:∀x,(enc x).length=k)(hi:i≤l.length)(h:qLm e k c l.length (l.flatMap enc) o):qLm e k c i ((l.take i).flatMap enc) o:=by
 obtain⟨ca,h1,h2,h3⟩:=h;refine⟨_,h1,h2,?_⟩;rw[←qWa hk,←h3,List.take_take,eM (aL k hi)]
end Go.Eng
namespace Go.Proofs.YtplkndjlfkkjlaaGreatDoor
open List (range range' replicate)
open Tryz
open Go.Eng Go.Dig Go.Lp
theorem qK2{α:Type}(l:List α)(i:Nat):l.eraseIdx i=l.take i++l.drop (i+1):=by grind
theorem qMg{α:Type}{n e:Nat}{f:Nat→α}(he:e<n):(lm n f).eraseIdx e=lm (n-1) (fun j=>f (skip e j)):=by
 apply eF;intro j;rw[List.getElem?_eraseIdx];by_cases hj:j<n-1
 ·rw[yI hj];by_cases h:j<e
  ·rw[if_pos h,yI O1,skip,if_pos h]
  rw[if_neg h,yI O1,skip,if_neg h]
 rw[fD (l:=lm (n-1) _) (by rw[qT];omega)];split
 ·omega
 exact fD (by rw[qT];omega)
attribute [local irreducible] PV StepF wpl wpd WP Ret
attribute [local irreducible] Fit
theorem jW0(l:List Int)(s:Option Addr)(c:Nat)(z:Int)(W:World)(hs:SlAt W 1 eI s l)(hl:l.length≤1000000):
  Rt 121 [.slice s l.length c,Iv z] W (fun v w'=>(∃r,v=Iv (oI r)∧((r=none∧∀i:Nat,l[i]?≠some z)∨∃i,r=some i∧l[i]? =some z))∧Keeps [] W w'):=by
 refine tW func121 ntmps121 fun hp=>?_;refine qA (qQ ([4,5]++range' 8 11) (fun(k:Nat) F=>F.put 8 (.int _ k)) (fun k w'=>k≤l.length∧(∀i,i<k→l[i]?≠some z)∧Hp W [] w' []) (fun k=>l.length-k) 0 (qB (Same.eq .refl) O) ⟨O1,fun i h=>O1,hp⟩ ?_);clear hp;rintro u k w1 ⟨hk,fs,hp⟩;refine tI (fun h=>?_) fun h=>?_
 ·have hg:k<l.length:=O1;obtain⟨b,o,rfl,hc⟩:=hs k l[k] (aA hg);have hc:=hc 0 _ O;refine tI (fun h2=>?_) fun h2=>?_
  ·exact mBu
  exact mBm
 obtain rfl:k=l.length:=O1;refine qA ?_
 exact qM O O ⟨_,O,⟨_,O,.inl ⟨O,fun i=>by
  grind⟩⟩,hp.C⟩
theorem zA9(q:Rat)(h:FQ q)(W:World):Rk 318 [QV q] W (.bool (decide (q≠0))):=by
 refine tW func318 ntmps318 fun hp=>?_;refine vK fun w b hp=>?_
 refine tC (r52 _ h) fun w1 hp=>?_;refine wlp (kB O O) (qV (b:=decide (q≠0)) (by rw[qYa];simp)) (tV ?_);exact mB0
theorem zAa(l:List Rat)(s:Option Addr)(c κ:Nat)(W:World)(hs:SlAt W 3 eQ s l)(hl:l.length≤1000000)(hb:∀q∈l,BQ κ q)(hκ:κ≤1000000000000):
  Rt 317 [.slice s l.length c,.func (.func 318) #[] #[]] W (fun v w'=>(∃r,v=Iv (oI r)∧((r=none∧∀q∈l,q=0)∨∃i q,r=some i∧l[i]? =some q∧q≠0))∧Keeps [] W w'):=by
 refine tW func317 ntmps317 fun hp=>?_;refine qA (qQ ([4,5]++range' 8 11) (fun(k:Nat) F=>F.put 8 (.int _ k)) (fun k w'=>k≤l.length∧(∀(i:Nat) (q:Rat),i<k→l[i]? =some q→q=0)∧Hp W [] w' []) (fun k=>l.length-k) 0 (qB (Same.eq .refl) O) ⟨O1,fun i q h=>O1,hp⟩ ?_);clear hp;rintro u k w1 ⟨hk,fs,hp⟩;refine tI (fun h=>?_) fun h=>?_
 ·have hg:k<l.length:=O1;obtain⟨b,o,rfl,hc⟩:=hs k l[k] (aA hg);refine qA (tR (qL O O O O (fun j v hv=>hp.j7 (hc j v hv))) ?_);refine tC (zA9 _ (BQ.fq (hb _ (bX _)) hκ) _) fun w2 hp=>?_;refine tI (fun h2=>?_) fun h2=>?_
  ·refine tV ?_;exact⟨_,O,⟨_,O,.inr ⟨k,_,O,aA _,h2⟩⟩,hp.C⟩
  refine gA0 ?_;refine⟨k+1,qB O5 O,⟨O1,fun i q hi hq=>?_,hp⟩,O1⟩;grind
 obtain rfl:k=l.length:=O1;refine qA ?_
 exact qM O O ⟨_,O,⟨_,O,.inl ⟨O,fun q hq=>by
  obtain⟨i,hi,rfl⟩:=sAa hq
  exact fs i _ hi (aA hi)⟩⟩,hp.C⟩
section
variable {n:FrK}{w:World}{F:Fr}{d:Option Tmp}{ty:TypeId}{pos:String}{aft:Array Edge}{g:Option (Nat×Bool)}{x y:Operand}
theorem qLp{t t' e m c:Nat}{s:Option Addr}(ht:Tryz.prog.underlying t=some (.slice e))(hx:ev n F x= .slice s m c)(hy:ev n F y=Zs):PV Tryz.prog n w F ⟨d,.binOp .eql t x y t',ty,pos,aft,g⟩ (.bool s.isNone):=by
 have h:=run_equal_slice_nil (w:=w) t e s m c ht;simp[PV,execOp,hx,hy,eqGuard,binOp,h]
end
theorem zAb(l:List Rat)(b o c:Nat)(W:World)(hs:SlAt W 3 eQ (some ⟨b,o,none⟩) l)(hl:l.length≤100000):
  Rt 315 [.slice (some ⟨b,o,none⟩) l.length c] W (fun v w'=>∃s' c',v= .slice s' l.length c'∧SVL s' c' l∧Hp W [] w' [qG eQ 49 3 s' c' l]):=by
 refine tW func315 ntmps315 fun hp=>?_;refine qA (tR (qLp (zK O).1 O O) ?_);refine gA3 ?_;refine tF (jC hp O O O O O O O) fun w1 b' hp=>?_;refine qA ?_;have hq:=hs.j6 hp.C;refine tFb (qF4 eQ l hp 0 O O O O O O jT O O O hq (fun _=>O) O1) fun w2 s' c'⟨hv,hp⟩=>tV ?_;exact⟨_,O,_,_,O,hv,hp⟩
theorem zBc(l:List Int)(b c i:Nat)(M:List Nat)(W:World)(hp:Hp W M W [qG eI 3 1 (Ad b) c l])(hv:SVL (Ad b) c l)(hi:i<l.length)(qa:l.length≤1000000):
  Rt 135 [.slice (Ad b) l.length c,Iv (i:Int),Iv ((i:Int)+1)] W (fun v w'=>v= .slice (Ad b) (l.length-1) c∧Hp W M w' [qG eI 3 1 (Ad b) c (l.eraseIdx i)]):=by
 have hh:=mJ hi;have hc:=hv.cap;have sl:=zK (t:=22) O;have ma:∀u∈(l.drop (i+1)).flatMap eI,kM u=true:=by
  intro u hu;rw[sBg] at hu;obtain⟨x,_,hx⟩:=hu;exact cU.1 (show(eI x).all kM=true from O) u hx
 refine Ret.j9 func135 O ntmps135 O (qA ?_);refine tR (qOg sl.1 sl.2 O O O (h:=i+1) O O1 O1 hc hi) (qA ?_);refine qH O O1 (fun _=>qA ?_);refine jU jG O3 (fun w'=>Hp W M w' _) hp.N ?_;have hp:=hp.N;refine qX ?_;refine tP (fun w hp=>qC0 sl.1 sl.2 O O O1) (qX ?_);refine tP (fun w hp=>qBz sl.1 sl.2 O (l:=i+1) O O1 hc) ?_;have bm:=qZ hp 0 O hv (fun _=>O);have hg:∀(j:Nat) (u:Value),((l.drop (i+1)).flatMap eI)[j]? =some u→∃b' o',(some ⟨b,if c=i+1 then 0 else 0+(i+1)*1,none⟩:Option Addr)=some ⟨b',o',none⟩∧(W.drew).cell? ⟨b',o'+j,none⟩=some u:=by
  intro j u hu;have h1:=(aH.1 hu).1;rw[zR eI 1 (fun _=>O),fJ] at h1;rw[if_neg O1];exact(SlAt.aC0 bm (i+1)).src (fun _=>O) j u hu
 have hp:=hp.y5 (i:=0) (φ:=qLm 3 1 c i _) O (fun o ho=>qLl (fun _=>O) O1 ho);have e1:i+(l.length-(i+1))=(l.eraseIdx i).length:=O1;apply jNl;exact O;exact O;exact qJt hp 0 sl.1 sl.2 (qBp O) O2 O O O (by rw[zR eI 1 (fun _=>O),bV,eM O1]) (by rw[zR eI 1 (fun _=>O),fJ]) hg ma O1;rintro _ w2 ⟨rfl,hp⟩;rw[e1] at hp;rw[←iS,←qK2] at hp;rw[e1];rw[←hh];refine qX (qU ?_);refine qA ?_;refine wlp (qAo sl.1 sl.2 O O O O1 O1 O1) (qGz (m':=1) O1) (tO (qFx eI [Iv 0] hp 0 O sl.1 (qJ O) (by simp[Builtin.zeroCells,Value.cells]) O O O O1 O1 (fun _=>O)) fun w3 hp=>?_);exact mEv
theorem zA8(l:List Rat)(b c i:Nat)(M:List Nat)(W:World)(hp:Hp W M W [qG eQ 49 3 (Ad b) c l])(hv:SVL (Ad b) c l)(hi:i<l.length)(qa:l.length≤1000000):
  Rt 319 [.slice (Ad b) l.length c,Iv (i:Int),Iv ((i:Int)+1)] W (fun v w'=>v= .slice (Ad b) (l.length-1) c∧Hp W M w' [qG eQ 49 3 (Ad b) c (l.eraseIdx i)]):=by
 have hh:=mJ hi;have hc:=hv.cap;have sl:=zK (t:=43) O;have ma:∀u∈(l.drop (i+1)).flatMap eQ,kM u=true:=by
  intro u hu;rw[sBg] at hu;obtain⟨x,_,hx⟩:=hu;exact cU.1 (show(eQ x).all kM=true from O) u hx
 refine Ret.j9 func319 O ntmps319 O (qA ?_);refine tR (qOg sl.1 sl.2 O O O (h:=i+1) O O1 O1 hc hi) (qA ?_);refine qH O O1 (fun _=>qA ?_);refine jU jG O3 (fun w'=>Hp W M w' _) hp.N ?_;have hp:=hp.N;refine qX ?_;refine tP (fun w hp=>qC0 sl.1 sl.2 O O O1) (qX ?_);refine tP (fun w hp=>qBz sl.1 sl.2 O (l:=i+1) O O1 hc) ?_;have bm:=qZ hp 0 O hv jT;have hg:∀(j:Nat) (u:Value),((l.drop (i+1)).flatMap eQ)[j]? =some u→∃b' o',(some ⟨b,if c=i+1 then 0 else 0+(i+1)*3,none⟩:Option Addr)=some ⟨b',o',none⟩∧(W.drew).cell? ⟨b',o'+j,none⟩=some u:=by
  intro j u hu;have h1:=(aH.1 hu).1;rw[zR eQ 3 jT,fJ] at h1;rw[if_neg O1];exact(SlAt.aC0 bm (i+1)).src jT j u hu
 have hp:=hp.y5 (i:=0) (φ:=qLm 49 3 c i _) O (fun o ho=>qLl jT O1 ho);have e1:i+(l.length-(i+1))=(l.eraseIdx i).length:=O1;apply jNl;exact O;exact O;exact qJt hp 0 sl.1 sl.2 (qBp O) O2 O O O (by rw[zR eQ 3 jT,bV,eM O1]) (by rw[zR eQ 3 jT,fJ]) hg ma O1;rintro _ w2 ⟨rfl,hp⟩;rw[e1] at hp;rw[←iS,←qK2] at hp;rw[e1];rw[←hh];refine qX (qU ?_);refine qA ?_;refine wlp (qAo sl.1 sl.2 O O O O1 O1 O1) (qGz (m':=1) O1) (tO (qFx eQ [.bool false,.string ⟨#[]⟩,.string ⟨#[]⟩] hp 0 O sl.1 (qJ O) (by simp[Builtin.zeroCells,Value.cells,range,List.range.loop]) O O O O1 O1 jT) fun w3 hp=>?_);exact mEv
end Go.Proofs.YtplkndjlfkkjlaaGreatDoor
namespace Go.Lp
open List (range range' replicate)
theorem wQ{D M κ:Nat}{a:Rat}(hD:0<D)(hg:D≤M)(hM:M<2^κ)(h:Ov D M a):BQ κ a:=by
 obtain⟨x,h1,h2⟩:=h;have hh:(D:Rat)≠0:=by
  intro e;have:D=0:=by exact_mod_cast e
  omega
 have e:a=mkRat x D:=by
  rw[gE];have:a=(x:Rat)/((D:Int):Rat):=by
   have h3:(((D:Int):Rat))=(D:Rat):=by first|rfl|exact iK D|norm_cast
   rw[h3,←h1];grind
  exact this
 rw[e];have hx:x=sg (decide (x<0)) x.natAbs:=by
  unfold sg;by_cases hn:x<0
  ·grind
  simp[hn];omega
 rw[hx];exact BQ.mk hD O1 O1
end Go.Lp
namespace Go.Proofs.YtplkndjlfkkjlaaGreatDoor
open List (range range' replicate)
open Tryz
open Go.Eng Go.Dig Go.Lp
variable{t:Tb}{k:Nat}{α:Type}{s:Option Addr}{c:Nat}{l:List α}
theorem qV0{V:Int→Prop}{φ:(Int→Rat)→Rat}{c s:Rat}{v0:Int}{M κ:Nat}(ht:t.ok V)(hv:t.val φ c)(hφ:∀x,φ x=s*x v0)(hs:s=1∨s= -1)(h0:V v0)(hb:t.q4 M)(hM:M<2^κ):Tbq t κ:=by
 obtain⟨D,hD,hg,h1,h2⟩:=hb.ex;exact⟨fun i hi=>wQ hD hg hM (h1 i hi),fun i j hi hj=>wQ hD hg hM (h2 i j hi hj),fun j hj=>wQ hD hg hM (qYy ht hv hφ hs h0 hg h2 j hj)⟩
structure GA where
 tb:Nat
 sB:Option Addr
 cB:Nat
 sN:Option Addr
 cN:Nat
 sC:Option Addr
 cC:Nat
 sR:Option Addr
 cR:Nat
 sG:Option Addr
 cG:Nat
 rg:Nat→Option Addr
 rc:Nat→Nat
variable{a:GA}
structure GD where
 m:Nat
 B:List Int
 N:List Int
 b:List Rat
 g:List Rat
 rw:Nat→List Rat
variable{d:GD}
def jO(p:Option Addr×Nat×Nat):List Value:=[.slice p.1 p.2.1 p.2.2]
def gH(a:GA)(d:GD):List Value:=[.slice a.sB d.B.length a.cB,.slice a.sN d.N.length a.cN,.slice a.sC d.m a.cC,.slice a.sR d.b.length a.cR,.slice a.sG d.g.length a.cG]
def gHd(a:GA)(d:GD):List (Option Addr×Nat×Nat):=lm d.m fun i=>(a.rg i,(d.rw i).length,a.rc i)
def qBj(a:GA)(d:GD)(i:Nat):Ent:=qG eQ 49 3 (a.rg i) (a.rc i) (d.rw i)
def gL(a:GA)(d:GD):List Ent:=[blk a.tb 5 (qE (gH a d)) 308,qG eI 3 1 a.sB a.cB d.B,qG eI 3 1 a.sN a.cN d.N,
 qG jO 43 1 a.sC a.cC (gHd a d),qG eQ 49 3 a.sR a.cR d.b,qG eQ 49 3 a.sG a.cG d.g]++lm d.m (qBj a d)
structure GAok(a:GA)(d:GD):Prop where
 B:SVL a.sB a.cB d.B
 N:SVL a.sN a.cN d.N
 C:SVL a.sC a.cC (gHd a d)
 R:SVL a.sR a.cR d.b
 G:SVL a.sG a.cG d.g
 rw:∀i,i<d.m→SVL (a.rg i) (a.rc i) (d.rw i)
def TA.ga(a:TA):GA:=⟨a.tb,some ⟨a.gB,0,none⟩,a.cB,some ⟨a.gN,0,none⟩,a.cN,some ⟨a.gC,0,none⟩,a.cC,some ⟨a.gR,0,none⟩,a.cR,some ⟨a.gG,0,none⟩,a.cG,fun i=>some ⟨a.rg i,0,none⟩,a.rc⟩
def xZ(t:Tb):GD:=⟨t.m,lm t.m t.B,lm t.n t.N,lm t.m t.b,lm t.n t.g,fun i=>lm t.n (t.A i)⟩
def GA.ta(a:GA):TA:=⟨a.tb,(a.sB.getD ⟨0,0,none⟩).block,a.cB,(a.sN.getD ⟨0,0,none⟩).block,a.cN,(a.sC.getD ⟨0,0,none⟩).block,a.cC,(a.sR.getD ⟨0,0,none⟩).block,a.cR,(a.sG.getD ⟨0,0,none⟩).block,a.cG,fun i=>((a.rg i).getD ⟨0,0,none⟩).block,a.rc⟩
theorem jBb(m:Nat)(f:Nat→Nat×Nat×Nat):(lm m f).flatMap qAf=(lm m fun i=>((some (⟨(f i).1,0,none⟩:Addr):Option Addr),(f i).2.1,(f i).2.2)).flatMap jO:=by
 unfold lm;rw[oR,oR];rfl
theorem qYz(a:TA)(t:Tb):gL a.ga (xZ t)=zB a t:=by
 have e1:qG jO 43 1 (some ⟨a.gC,0,none⟩) a.cC (gHd a.ga (xZ t))=qG qAf 43 1 (some ⟨a.gC,0,none⟩) a.cC (lm t.m fun i=>(a.rg i,t.n,a.rc i)):=by
  unfold qG;rw[jBb,qT];unfold gHd;rw[qT];have:(lm (xZ t).m fun i=>(a.ga.rg i,((xZ t).rw i).length,a.ga.rc i))=lm t.m fun i=>((some (⟨a.rg i,0,none⟩:Addr):Option Addr),t.n,a.rc i):=jH fun i _=>by
   show(_,(lm _ _).length,_)=_
   rw[qT];rfl
  rw[this];rfl
 unfold gL zB;rw[show gH _ _=jIy a t by simp[gH,jIy,xZ,TA.ga,qT]];show[_,_,_,qG jO 43 1 (some _) a.cC _,_,_]++_=_
 rw[e1];rfl
theorem qJ9(h:SVL s c l)(hl:0<l.length):s=some ⟨(s.getD ⟨0,0,none⟩).block,0,none⟩∧l.length≤c∧c≤maxLen:=by
 rcases h with⟨h,h2⟩|⟨g,cap,h,h2,h3⟩
 ·omega
 grind
theorem jM7(ok:GAok a (xZ t))(hm:0<t.m)(hn:0<t.n):TAok a.ta t∧gL a (xZ t)=zB a.ta t:=by
 have hB:=qJ9 ok.B (by show 0<(lm _ _).length;rw[qT];exact hm);have hN:=qJ9 ok.N (by show 0<(lm _ _).length;rw[qT];exact hn);have hC:=qJ9 ok.C (by unfold gHd;rw[qT];exact hm);have hR:=qJ9 ok.R (by show 0<(lm _ _).length;rw[qT];exact hm);have hG:=qJ9 ok.G (by show 0<(lm _ _).length;rw[qT];exact hn);have hr:∀i,i<t.m→_∧_:=fun i hi=>by
  have:=qJ9 (ok.rw i hi) (by show 0<(lm _ _).length;rw[qT];exact hn);have e:((xZ t).rw i).length=t.n:=qT;rw[e] at this;exact this
 refine⟨⟨?_,?_,?_,?_,?_,fun i hi=>(hr i hi).2⟩,?_⟩
 ·have:=hB.2;rwa[show((xZ t).B).length=t.m from qT] at this
 ·have:=hN.2;rwa[show((xZ t).N).length=t.n from qT] at this
 ·have:=hC.2;unfold gHd at this;rw[qT] at this;exact this
 ·have:=hR.2;rwa[show((xZ t).b).length=t.m from qT] at this
 ·have:=hG.2;rwa[show((xZ t).g).length=t.n from qT] at this
 rw[←qYz];have e1:gH a (xZ t)=gH a.ta.ga (xZ t):=by
  unfold gH;rw[hB.1,hN.1,hC.1,hR.1,hG.1];rfl
 have e2:gHd a _=gHd a.ta.ga (xZ t):=jH fun i hi=>by
  rw[(hr i hi).1];rfl
 have e3:lm _ (qBj a _)=lm (xZ t).m (qBj a.ta.ga (xZ t)):=jH fun i hi=>by
  unfold qBj;rw[(hr i hi).1];rfl
 have f1:qG eI 3 1 a.sB a.cB (xZ t).B=qG eI 3 1 a.ta.ga.sB a.ta.ga.cB (xZ t).B:=by rw[hB.1];rfl
 have f2:qG eI 3 1 a.sN a.cN (xZ t).N=qG eI 3 1 a.ta.ga.sN a.ta.ga.cN (xZ t).N:=by rw[hN.1];rfl
 have f3:qG jO 43 1 a.sC a.cC (gHd a.ta.ga (xZ t))=qG jO 43 1 a.ta.ga.sC a.ta.ga.cC (gHd a.ta.ga (xZ t)):=by rw[hC.1];rfl
 have f4:qG eQ 49 3 a.sR a.cR (xZ t).b=qG eQ 49 3 a.ta.ga.sR a.ta.ga.cR (xZ t).b:=by rw[hR.1];rfl
 have f5:qG eQ 49 3 a.sG a.cG (xZ t).g=qG eQ 49 3 a.ta.ga.sG a.ta.ga.cG (xZ t).g:=by rw[hG.1];rfl
 unfold gL;rw[e1,e2,e3,f1,f2,f3,f4,f5];rfl
theorem jWu{a:TA}(ok:TAok a t):GAok a.ga (xZ t):=
 ⟨vZ ok.cB,vZ ok.cN,by
  exact vZ ok.cC,vZ ok.cR,vZ ok.cG,fun i hi=>vZ (ok.rc i hi)⟩
theorem jZ{β:Type}{l':List β}(h:SVL s c l)(e:l.length=l'.length):SVL s c l':=by
 unfold SVL at*
 grind
theorem jFe{s':Option Addr}{c':Nat}{l':List Rat}(hk:k<d.m):
  ((gL a d).set (6+k) (qG eQ 49 3 s' c' l')).set 3 (qG jO 43 1 a.sC a.cC ((gHd a d).set k (s',l'.length,c')))
   =gL {a with rg:=fun i=>if i=k then s' else a.rg i,rc:=fun i=>if i=k then c' else a.rc i} {d with rw:=fun i=>if i=k then l' else d.rw i}:=by
 have e1:(lm d.m (qBj a d)).set k (qG eQ 49 3 s' c' l')=lm d.m (qBj {a with rg:=fun i=>if i=k then s' else a.rg i,rc:=fun i=>if i=k then c' else a.rc i} {d with rw:=fun i=>if i=k then l' else d.rw i}):=by
  rw[vF];refine jH fun i _=>?_
  unfold qBj;by_cases h:i=k<;>simp[h]
 have e2:(gHd a d).set k (s',l'.length,c')=gHd {a with rg:=fun i=>if i=k then s' else a.rg i,rc:=fun i=>if i=k then c' else a.rc i} {d with rw:=fun i=>if i=k then l' else d.rw i}:=by
  unfold gHd;rw[vF];refine jH fun i _=>?_
  by_cases h:i=k<;>simp[h]
 unfold gL;rw[show 6+k=[_,_,_,_,_,_].length+k from O,qG0,e1,e2];rfl
theorem jFf(hk:k<d.m):(gL a d)[6+k]? =some (qBj a d k):=by
 unfold gL;rw[show 6+k=[_,_,_,_,_,_].length+k from O,qGa];exact yI hk
section
variable {w0 w w':World}{M:List Nat}{L:List Ent}
theorem _root_.Go.Eng.Hp.k7(hp:Hp w0 M w L){i j:Nat}{p q:Ent}(hi:L[i]? =some p)(hj:L[j]? =some q)(nu:i≠j){b:Nat}(hb:q.1=some b):b∉zG [p]:=by
 intro h;obtain⟨r,hr,hg⟩:=xX.1 h;rw[iN.1 hr] at hg;exact hp.dis i j p q hi hj nu b hg hb
theorem jMu{g:Nat}(hp:Hp w0 M w (gL a d))(hC:a.sC=Ad g)(hv:SVL a.sC a.cC (gHd a d))(hk:k<d.m):w.cell? ⟨g,0+k*1,none⟩=some (.slice (a.rg k) (d.rw k).length (a.rc k)):=by
 obtain⟨b,o,e,h⟩:=qZ hp 3 O hv (fun _=>O) k _ (yI hk);rw[hC] at e;cases e;exact h 0 _ O
end
end Go.Proofs.YtplkndjlfkkjlaaGreatDoor
namespace Go.Eng
open List (range range' replicate)
variable{j:Nat}{want:Bool}{e:Nat}
section
variable {P:Program}{n:FrK}{Q:Exit→Fr→World→Prop}{F:Fr}{w:World}{ops:Array Oper}{rest:List Oper}{st:Bool}{G:World→Prop}{d:Nat}{op:Op}{ty:TypeId}{pos:String}{aft:Array Edge}
theorem qIv{c:Bool}(he:zC op=true)(hj:yW ops j=some e)(hc:ev n F (.tmp e)= .bool c)(hw:(c==want)=false)(hG:G w)(h:wpd P n ops st G rest Q (F.put d undef) w):
  wpd P n ops st G (⟨some d,op,ty,pos,aft,some (j,want)⟩::rest) Q F w:=by
 refine jUx (v:=undef) he hj hc (fun w'=>w'=w) O (fun h=>by rw[hw] at h;cases h) ?_;rintro w' rfl;refine⟨hG,?_⟩;rw[hw];exact h
theorem jZc(he:zC op=true)(hj:yW ops j=some e)(hc:ev n F (.tmp e)=undef)(hG:G w)(h:wpd P n ops st G rest Q (F.put d undef) w):
  wpd P n ops st G (⟨some d,op,ty,pos,aft,some (j,want)⟩::rest) Q F w:=by
 unfold wpd wpD;rw[if_pos he];unfold EffStep;rw[qEx (b:=false) (c:=false) O hj hc];refine⟨fun hw=>by simp at hw,fun _=>?_⟩;rw[zN];exact⟨fun _=>hG,h⟩
end
def nds(o:Oper):Bool:=match o.op with
 | .store ..=>false
 |_=>true
theorem qPn{P:Program}{ops:Array Oper}{G:World→Prop}{K K1:Act→World→Prop}{o:Oper}:∀(init:List Oper) (a:Act) (w:World),wpD P ops (qEv true) G K1 init a w→(∀a w,K1 a w→wpD P ops nds G K [o] a w)→wpD P ops nds G K (init++[o]) a w
 |[],a,w,h,h2=>h2 a w h
 |p::rest,a,w,h,h2=>by
  rw[mG];unfold wpD at h⊢;by_cases he:zC p.op=true
  ·rw[if_pos he] at h⊢;exact h.mono fun a w hk=>⟨fun _=>hk.1 O,qPn _ _ _ hk.2 h2⟩
  rw[if_neg he] at h⊢;obtain⟨v,hy,hk⟩:=h;exact⟨v,hy,qPn _ _ _ hk h2⟩
theorem xL{P:Program}{n:FrK}{Q:Exit→Fr→World→Prop}{F:Fr}{w:World}{id:Nat}{l:List Oper}(k:Nat){t:TypeId}{x y:Operand}{ty:TypeId}{pos:String}{aft:Array Edge}(hl:l.drop k=[⟨none,.store t x y,ty,pos,aft,none⟩])(hm:P.follows .mixedOrders=true)(hn:qAv P l.toArray nds=true)
  (G:World→Prop) (hG:G w.drew) (h:wpd P n l.toArray true G (l.take k) (fun _ F' w'=>StepF P n ⟨none,.store t x y,ty,pos,aft,none⟩ F' w' (fun _ w2=>Q .normal F' w2)) F w.drew) (hr:n.ro=none:=by rfl):WP P n (.region id l.toArray true) Q F w:=by
 unfold WP;rw[FrK.k8 hr];refine pH.2 (qPm hm hn G hG ?_);have e:l.toArray.toList=l.take k++[⟨none,.store t x y,ty,pos,aft,none⟩]:=by
  rw[←hl,eO]
 rw[e];refine qPn _ _ _ h ?_;rintro a w' ⟨F',rfl,hs⟩;refine⟨fun _=>hs.mono fun v w2 hq=>?_,fun hw=>by simp[Region.wanted] at hw⟩;exact⟨fun hh=>(by cases hh),⟨_,O,hq⟩⟩
end Go.Eng
namespace Go.Proofs.YtplkndjlfkkjlaaGreatDoor
open Tryz
section
open List (range range' replicate)
open Go.Eng Go.Dig Go.Lp
variable{k:Nat}{t u:Tb}{e:Nat}{a:GA}
def ngP(t:Tb)(i:Nat):Bool:=decide (t.b i<0)
def ltW(t:Tb)(i k:Nat):Bool:=decide (t.b i<t.b k)
def wst(t:Tb)(k:Nat):Option Nat:=pk (ltW t) ((range k).filter (ngP t))
theorem jBy(h:¬t.b k<0):wst t (k+1)=wst t k:=by
 unfold wst;rw[fW,nO];simp[ngP,h]
theorem jBx(h:t.b k<0):wst t (k+1)=match wst t k with
 |none=>some k
 |some q=>if ltW t k q then some k else some q:=by
 unfold wst;rw[fW,nO,show([k].filter _)=[k] by simp[ngP,h]];exact qI2 _ _
theorem qSh{q:Nat}(h:wst t k=some q):q<k∧t.b q<0∧∀i,i<k→t.b q≤t.b i:=by
 obtain⟨h1,h2⟩:=qI1 (lt:=ltW t) (fun a=>by simp only[ltW,fA];grind) (fun a b c=>by simp[ltW,dL];grind) _ _ O h;simp only[fN,aO,ngP,dL] at h1 h2;refine⟨h1.1,h1.2,fun i hi=>?_⟩;by_cases hn:t.b i<0
 ·have:=h2 i ⟨hi,hn⟩;simp[ltW,fA] at this;grind
 grind
theorem jBz(h:wst t k=none):∀i,i<k→0≤t.b i:=fun i hi=>by
 refine bG fun hn=>?_
 have:i∈(range k).filter (ngP t):=by
  simp only[fN,aO,ngP,dL];exact⟨hi,by grind⟩
 rw[qKk h] at this;cases this
def rwE(t:Tb)(k i:Nat):List Rat:=if i<k then lm (t.n+1) (t.ext.A i) else lm t.n (t.A i)
def gdE(t:Tb)(k:Nat):GD:=⟨t.m,lm t.m t.B,lm t.n t.N++[-1],lm t.m t.b,lm t.n t.g++[-1],rwE t k⟩
theorem qVc:rwE t k k=lm t.n (t.A k):=if_neg O1
theorem zDc(t:Tb)(i:Nat):lm (t.n+1) (t.ext.A i)=lm t.n (t.A i)++[-1]:=by
 rw[lm_succ];congr 1
 ·exact jH fun j hj=>by simp only[Tb.ext];grind
 simp[Tb.ext]
theorem jWy(t:Tb):lm (t.n+1) t.ext.N=lm t.n t.N++[-1]:=by
 rw[lm_succ];congr 1
 ·exact jH fun j hj=>by simp only[Tb.ext];omega
 simp[Tb.ext]
theorem jWx(t:Tb):lm (t.n+1) t.ext.g=lm t.n t.g++[-1]:=by
 rw[lm_succ];congr 1
 ·exact jH fun j hj=>by simp only[Tb.ext];grind
 simp[Tb.ext]
theorem jKs:gL a (gdE t t.m)=gL a (xZ t.ext):=by
 have e1:lm (gdE t t.m).m (qBj a _)=lm (xZ t.ext).m (qBj a (xZ _)):=jH fun i hi=>by
  unfold qBj;have hi:i<t.m:=hi;have:(gdE t t.m).rw i=(xZ t.ext).rw i:=by
   show rwE t t.m i=_
   unfold rwE;rw[if_pos hi];rfl
  rw[this]
 have e2:gHd a (gdE t _)=gHd a (xZ t.ext):=jH fun i hi=>by
  have hi:i<t.m:=hi;have:(gdE t t.m).rw i=(xZ t.ext).rw i:=by
   show rwE t t.m i=_
   unfold rwE;rw[if_pos hi];rfl
  rw[this]
 have e3:(gdE t t.m).N=(xZ _).N:=(jWy t).symm;have e4:(gdE t t.m).g=(xZ _).g:=(jWx t).symm;unfold gL gH;rw[e1,e2,e3,e4];rfl
theorem qSy:(fun i=>if i=k then lm t.n (t.A k)++[-1] else rwE t k i)=rwE t (k+1):=by
 funext i;unfold rwE;by_cases h:i=k
 ·subst h;rw[if_pos O,if_pos O1,zDc]
 grind
def rwD(u:Tb)(e k i:Nat):List Rat:=if i<k then lm (u.n-1) ((u.del e).A i) else lm u.n (u.A i)
def gdD(u:Tb)(e k:Nat):GD:=⟨u.m,lm u.m u.B,(lm u.n u.N).eraseIdx e,lm u.m u.b,(lm u.n u.g).eraseIdx e,rwD u e k⟩
theorem qVd:rwD u e k k=lm u.n (u.A k):=if_neg O1
theorem jD7(he:e<u.n):(fun i=>if i=k then(lm u.n (u.A k)).eraseIdx e else rwD u e k i)=rwD u e (k+1):=by
 funext i;unfold rwD;by_cases h:i=k
 ·subst h;rw[if_pos O,if_pos O1,qMg he];rfl
 grind
theorem jKt(he:e<u.n):gL a (gdD u e u.m)=gL a (xZ (u.del e)):=by
 have e0:∀i,i<u.m→(gdD u e _).rw i=(xZ _).rw i:=fun i hi=>by
  show rwD u e _ i=_
  unfold rwD;rw[if_pos hi];rfl
 have e1:lm (gdD u e u.m).m (qBj a _)=lm (xZ (u.del e)).m (qBj a (xZ _)):=jH fun i hi=>by
  unfold qBj;rw[e0 i hi]
 have e2:gHd a (gdD u e _)=gHd a (xZ (u.del e)):=jH fun i hi=>by
  rw[e0 i hi]
 have e3:(gdD u e u.m).N=(xZ (u.del e)).N:=qMg he;have e4:(gdD u e u.m).g=(xZ (u.del e)).g:=qMg he;unfold gL gH;rw[e1,e2,e3,e4];rfl
end
open Go.Eng Go.Dig Go.Lp
variable{q p:Rat}{t u:Tb}{e k:Nat}
theorem jVa(h:q<0):qAm q<0:=by
 unfold qAm;grind
theorem jVb(h:¬q<0):0≤qAm q:=by
 unfold qAm;grind
theorem jHn(h:p<q):wH p q<0:=by
 unfold wH;grind
theorem jHo(h:¬p<q):0≤wH p q:=by
 unfold wH;grind
theorem jWr:gdE t 0=⟨t.m,lm t.m t.B,lm t.n t.N++[-1],lm t.m t.b,lm t.n t.g++[-1],fun i=>lm t.n (t.A i)⟩:=by
 congr 1
theorem jWs:gdD u e 0=⟨u.m,lm u.m u.B,(lm u.n u.N).eraseIdx e,lm u.m u.b,(lm u.n u.g).eraseIdx e,fun i=>lm u.n (u.A i)⟩:=by
 congr 1
theorem jFc:({gdE t k with rw:=fun i=>if i=k then rwE t k k++[-1] else(gdE t k).rw i}:GD)=gdE t (k+1):=by
 rw[qVc];unfold gdE;rw[←qSy]
theorem jFd(he:e<u.n):({gdD u e k with rw:=fun i=>if i=k then(rwD u e k k).eraseIdx e else(gdD u e k).rw i}:GD)=gdD u e (k+1):=by
 rw[qVd];unfold gdD;rw[←jD7 he]
theorem jMf(w:World):Rk 25 [Iv (-1)] w (QV (-1)):=r25 _ w O2 O2
def aE(a:TA)(sN:Option Addr)(cN:Nat)(sG:Option Addr)(cG:Nat)(rg:Nat→Option Addr)(rc:Nat→Nat):GA:=⟨a.tb,some ⟨a.gB,0,none⟩,a.cB,sN,cN,some ⟨a.gC,0,none⟩,a.cC,some ⟨a.gR,0,none⟩,a.cR,sG,cG,rg,rc⟩
attribute [local irreducible] PV StepF wpl wpd WP Ret
attribute [local irreducible] Fit
theorem jMh(n:Nat)(f:Nat→Int)(b c:Nat)(z:Int)(W:World)(hs:SlAt W 1 eI (Ad b) (lm n f))(hl:n≤1000000):
  Rt 121 [.slice (Ad b) n c,Iv z] W (fun v w'=>(∃r,v=Iv (oI r)∧((r=none∧∀i,i<n→f i≠z)∨∃i,r=some i∧i<n∧f i=z))∧Keeps [] W w'):=by
 have h:=jW0 _ _ c z W hs (by rw[qT];exact hl);rw[qT] at h;refine h.mono ?_;rintro v w' ⟨⟨r,hv,hr⟩,hk⟩;refine⟨⟨r,hv,?_⟩,hk⟩;rcases hr with⟨h1,h2⟩|⟨i,h1,h2⟩
 ·exact .inl ⟨h1,fun i hi e=>h2 i (by rw[yI hi,e])⟩
 have hi:=by
  have:=(aH.1 h2).1;rwa[qT] at this
 rw[yI hi] at h2;grind
theorem jVh(n:Nat)(f:Nat→Rat)(b c κ:Nat)(W:World)(hs:SlAt W 3 eQ (Ad b) (lm n f))(hl:n≤1000000)(hb:∀j,j<n→BQ κ (f j))(hκ:κ≤1000000000000):
  Rt 317 [.slice (Ad b) n c,.func (.func 318) #[] #[]] W (fun v w'=>(∃r,v=Iv (oI r)∧((r=none∧∀i,i<n→f i=0)∨∃i,r=some i∧i<n∧f i≠0))∧Keeps [] W w'):=by
 have h:=zAa _ _ c κ W hs (by rw[qT];exact hl) (fun q hq=>by
  obtain⟨i,hi,rfl⟩:=bD.1 hq
  grind) hκ
 rw[qT] at h;refine h.mono ?_;rintro v w' ⟨⟨r,hv,hr⟩,hk⟩;refine⟨⟨r,hv,?_⟩,hk⟩;rcases hr with⟨h1,h2⟩|⟨i,q,h1,h2,h3⟩
 ·exact .inl ⟨h1,fun i hi=>h2 _ (bD.2 ⟨i,aO.2 hi,O⟩)⟩
 have hi:=by
  have:=(aH.1 h2).1;rwa[qT] at this
 rw[yI hi] at h2;grind
theorem jVy(l:List Int)(m b c i:Nat)(M:List Nat)(W:World)(hm:l.length=m)(hp:Hp W M W [qG eI 3 1 (Ad b) c l])(hv:SVL (Ad b) c l)(hi:i<m)(qa:m≤1000000):
  Rt 135 [.slice (Ad b) m c,Iv (i:Int),Iv ((i+1:Nat):Int)] W (fun v w'=>v= .slice (Ad b) (l.eraseIdx i).length c∧Hp W M w' [qG eI 3 1 (Ad b) c (l.eraseIdx i)]):=by
 subst hm;rw[mJ hi];exact zBc l b c i M W hp hv hi qa
theorem jMd(l:List Rat)(m b c i:Nat)(M:List Nat)(W:World)(hm:l.length=m)(hp:Hp W M W [qG eQ 49 3 (Ad b) c l])(hv:SVL (Ad b) c l)(hi:i<m)(qa:m≤1000000):
  Rt 319 [.slice (Ad b) m c,Iv (i:Int),Iv ((i+1:Nat):Int)] W (fun v w'=>v= .slice (Ad b) (l.eraseIdx i).length c∧Hp W M w' [qG eQ 49 3 (Ad b) c (l.eraseIdx i)]):=by
 subst hm;rw[mJ hi];exact zA8 l b c i M W hp hv hi qa
set_option maxHeartbeats 4000000 in
theorem zAv(a:TA)(t:Tb)(V:Int→Prop)(κ M0:Nat)(l:List Int)(M:List Nat)(W:World)(ok:TAok a t)(hV:t.ok V)(hZ:¬V (-1))(hl:∀v,V v→v∈l)(hg:∀j,j<t.n→t.g j=0)(hx:∃x:Int→Rat,t.sat x∧∀v,V v→0≤x v)
  (hb:t.q4 M0) (xu:gr M0 t.m<2^κ) (hκ:4*κ+1≤1000000000000) (h6:1≤κ) (hm:t.m≤100000) (hn:t.n≤100000) (xd:0<t.n) (hp:Hp W M W (zB a t)):
  Rt 231 [.pointer (some ⟨a.tb,0,none⟩)] W (fun v w'=>v= .bool true∧∃a' u,TAok a' u∧a'.tb=a.tb∧u.m=t.m∧u.n=t.n∧u.ok V∧u.feas∧(∀x,u.sat x↔t.sat x)∧Hp W M w' (zB a' u)):=by
 have xa:∀i,i<t.m→BQ κ (t.b i):=by
  obtain⟨D,hD,hy,h1,h2⟩:=hb.ex;exact fun i hi=>wQ hD hy (bY qYw xu) (h1 i hi)
 have hE:=jQ5 hV hZ;have xv:=jL1 hb;have xp:=jL0 hg;have tc:∀u,u.ok (fun v=>V v∨v= -1)→(∀x,u.sat x↔t.ext.sat x)→(∃c,u.val (fun x=>(-1)*x (-1)) c)→u.m=t.m→Tbq u κ:=by
  rintro u h1 h2 ⟨c,h3⟩ h4;exact qV0 h1 h3 (s:=-1) (v0:=-1) (fun x=>O) (.inr O) (.inr O) (jN7 h1 hE (fun x=>(h2 x).symm) xv) (by grind)
 refine Ret.j9 func231 O ntmps231 O (qA ?_);refine qQ [3,4,5,17,18,19,20,21,22,23,24,25,26,27,28,29,30,31,32,33,34,35,36,37,38,39,40,41,42] (fun k F=>(F.put 3 (.int _ (oI (wst t k)))).put 17 (.int _ k)) (fun k w'=>k≤t.m∧Hp W M w' _) (fun k=>t.m-k) 0 (qB (qB (Same.eq .refl) O) O) ⟨O1,hp⟩ ?_;clear hp;rintro u k w1 ⟨xb,hp⟩;refine tI (fun h=>?_) fun h=>?_
 ·have hh:k<t.m:=O1;have hc:=(TabAt.of [] hp ok).b k hh;refine qA (tR (qL O O O O hc) ?_);refine vK fun w b hp=>?_
  have hp:=hp.norm 0 (eQ _) O O;have hp:Hp W M _ ([blk b 3 _ 49]++zB a t):=hp;refine jU jG O3 (fun w'=>Hp W M w' _) hp.N ?_;have hp:=hp.N;refine qX ?_;refine tK (r52 _ (BQ.fq (xa k hh) O1)) ?_;rintro _ w2 ⟨rfl,hk⟩;have hp:=hp.call hk;refine⟨hp,?_⟩;by_cases hZ:t.b k<0
  ·have hs:=jVa hZ;have xy:=jBx hZ;refine wdp O (fun w hp=>zQ O O) (qV (aD O1)) (tP (fun w hp=>qP) ?_);cases hc2:wst t k with
   |none=>
    rw[hc2] at xy;apply yG;exact O;exact O;exact O;intro w hp;exact qP;exact(O:_=Value.int _ (-1));apply yG;exact O;exact O;exact O;intro w hp;exact zQ O O;exact qV (aD O1);refine xA ?_;apply qIv;exact O;exact O;exact O;exact O;exact hp;exact mCo
   |some q=>
    rw[hc2] at xy;obtain⟨h7,_,_⟩:=qSh hc2;have xg:q<t.m:=O1;apply yG;exact O;exact O;exact O;intro w hp;exact qP;exact(O:_=Value.int _ q);apply yG;exact O;exact O;exact O;intro w hp;exact zQ O O;exact qV (aB O1);refine xA ?_;apply yG;exact O;exact O;exact O;intro w hp;exact qL O O O O ((TabAt.of _ hp ok).b q O1);exact fA3 O;refine tK (r53 _ (xa k hh) (xa q O1) O1) ?_;rintro _ w3 ⟨rfl,hk⟩;have hp:=hp.call hk;refine⟨hp,?_⟩;by_cases h2:t.b k<t.b q
    ·have h5:=jHn h2;have xy:_=if ltW t k q then some k else some q:=xy
     rw[if_pos (show ltW t k q=true from aD h2)] at xy;apply yG;exact O;exact O;exact O;intro w hp;exact zQ O O;exact qV (aD O1);exact mCo
    have h5:=jHo h2;have xy:_=if ltW t k q then some k else some q:=xy
    rw[if_neg (show¬ltW t k q=true by simpa[ltW] using h2)] at xy;apply yG;exact O;exact O;exact O;intro w hp;exact zQ O O;exact qV (aB O1);refine xA (qU ?_);refine gA2 ?_;refine⟨k+1,?_,⟨O1,hp.H⟩,O1⟩;rw[xy,←hc2];exact O5
  have hs:=jVb hZ;have xy:=jBy hZ;refine wdp O (fun w hp=>zQ O O) (qV (aB O1)) ?_;refine xA ?_;apply jZc;exact O;exact O;exact O;exact hp;refine xA (qU ?_);refine gA2 ?_;refine⟨k+1,?_,⟨O1,hp.H⟩,O1⟩;rw[xy];exact O5
 obtain rfl:k=t.m:=O1;refine qR ?_;cases hw:wst t t.m with
 |none=>
  have xx:=jBz hw;refine wlp qP (O:_=Value.int _ (-1)) (wlp (zQ O O) (qV (aD O1)) ?_);refine qR (jB O ?_);refine tV ?_;exact⟨_,O,O,a,t,ok,O,O,O,hV,xx,fun _=>.rfl,hp⟩
 |some r=>
  obtain⟨ng,xr,lf⟩:=qSh hw;refine wlp qP (O:_=Value.int _ r) (wlp (zQ O O) (qV (aB O1)) ?_);refine qR ?_;refine qN O ?_;have gb:=jWu ok;rw[←qYz] at hp;have hp:=hp;refine yL [(0,.pointer _),(3,.int _ r)] ⟨O,O,trivial⟩ ?_;intro F1;refine qA ?_;refine tF (jC (cs:=[.int _ _]) hp O O O O O O O) fun w2 b1 hp=>tFb (jV eI (lm _ _) _ hp 3 0 O O O O O O (fun _=>O) O O O gb.N O O (by rw[qT];omega)) fun w3 sN cN⟨xc,hp⟩=>tT fun w4 hp=>?_;have hp:=hp.norm 1 (gH (aE a sN cN _ _ a.ga.rg a.rc) {xZ t with N:=lm _ _++[-1]}) O O;have hp:Hp W M w4 (gL (aE a sN cN _ _ _ _) _):=hp.H;refine qR ?_;have q1:=hp;have ht:(gL (aE a sN cN _ a.cG a.ga.rg a.rc) {xZ t with N:=lm t.n t.N++[-1]})[5]? =some (qG eQ 49 3 (some ⟨a.gG,0,none⟩) a.cG (lm _ _)):=O;have cH:w4.cell? ⟨a.tb,4,_⟩=some (.slice (some _) (lm _ _).length a.cG):=hp.cell 0 O O;have aa:a.tb∉zG _:=hp.k7 ht (j:=0) O O1 O;have hp:=q1.k6 5 ht;refine xL 10 O jG O3 (fun w'=>Keeps _ w4 w') hp.N.C ?_;have hp:=hp.N;refine qX ?_;apply wdp;exact O;intro w hk;exact qS O O (hk.cell cH aa);exact fS O;refine tK (jMf _) ?_;rintro _ w5 ⟨rfl,hk⟩;have hp:=hp.call hk;refine⟨hp.C,?_⟩;apply wds;exact O;exact jC (cs:=eQ _) hp O O O O O O O;rintro _ w6 ⟨b2,rfl,hp⟩;refine⟨hp.C,?_⟩;apply wds;exact O;exact jV eQ _ _ hp 1 0 O O O O O O jT O O O gb.G O O (by rw[qT];omega);rintro _ w7 ⟨sG,cG,rfl,hY,hp⟩;refine⟨hp.C,?_⟩;refine gAf ?_;have hp:=q1.j8 5 ht hp.H;refine StepF.mono (jD hp 0 O O O O (qD O) O) ?_;rintro _ w8 ⟨rfl,hp⟩;have hp:=hp.norm 0 (gH (aE a sN cN sG cG a.ga.rg a.rc) (gdE t 0)) O O;have hp:Hp W M w8 (gL (aE a sN cN sG cG a.ga.rg a.rc) (gdE t 0)):=by
   rw[jWr];exact hp
  refine qA (qQ [6,69,70,71,72,73,74,75,76,77,78,79,80,81,82,83,84,85,86,87,88] (fun(k:Nat) F=>F.put 69 (.int _ k)) (fun k w'=>k≤t.m∧∃rg rc,(∀i,i<t.m→SVL (rg i) (rc i) (rwE t k i))∧Hp W M w' (gL (aE a sN cN sG cG rg rc) (gdE t k))) (fun k=>t.m-k) 0 (qB (Same.eq .refl) O) ⟨O1,_,_,fun i hi=>(by exact gb.rw i hi),hp⟩ ?_);clear hp;rintro u2 k w9 ⟨xb,rg,rc,hv,hp⟩;refine tI (fun h=>?_) fun h=>?_
  ·have hh:k<t.m:=by
    have em:(gdE t 0).m=t.m:=O;omega
   have q1:=hp;have cH:w9.cell? ⟨a.tb,2,_⟩=some (.slice (some _) t.m a.cC):=hp.cell 0 O O;have hK:SVL (some _) a.cC (gHd (aE a sN cN sG cG rg rc) (gdE t k)):=jZ gb.C (by unfold gHd;rw[qT,qT];rfl);have cR:w9.cell? _=some (.slice (rg k) (rwE t k k).length (rc k)):=jMu hp O hK hh;have ht:=jFf (a:=aE a sN cN sG cG rg rc) (d:=gdE t k) hh;have aa:a.tb∉zG _:=hp.k7 ht (j:=0) O O1 O;have ab:a.gC∉zG _:=hp.k7 ht (j:=3) O O1 O;have hp:=q1.k6 _ ht;refine qA ?_;refine xL 16 O jG O3 (fun w'=>Keeps _ w9 w') hp.N.C ?_;have hp:=hp.N;refine qX ?_;apply wdp;exact O;intro w hk;exact qS O O (hk.cell cH aa);exact fS O;refine qX ?_;apply wdp;exact O;intro w hk;exact qS O O (hk.cell cH aa);exact fS O;refine qX ?_;apply wdp;exact O;intro w hk;exact qS O O (hk.cell cR ab);exact fS O;refine tK (jMf _) ?_;rintro _ ur ⟨rfl,hk⟩;have hp:=hp.call hk;refine⟨hp.C,?_⟩;apply wds;exact O;exact jC (cs:=eQ _) hp O O O O O O O;rintro _ gg ⟨b3,rfl,hp⟩;refine⟨hp.C,?_⟩;apply wds;exact O;exact jV eQ _ _ hp 1 0 O O O O O O jT O O O (hv k hh) O O (by rw[qVc,qT];omega);rintro _ gh ⟨s',c',rfl,hq,hp⟩;refine⟨hp.C,qX ?_⟩;have hp:=q1.j8 _ ht hp.H;refine qU ?_;refine StepF.mono (zL jO (gHd (aE a sN cN sG cG rg rc) (gdE t k)) k (s',(rwE t k k++[-1]).length,c') hp 3 (by rw[List.getElem?_set_ne O1];rfl) hK (by unfold gHd;rw[qT];exact hh) O O (fun _=>O) O O (qD O)) ?_;rintro _ gm ⟨rfl,hp⟩;have hp:Hp W M gm (gL (aE a sN cN sG cG (fun i=>if i=k then s' else rg i) (fun i=>if i=k then c' else rc i)) (gdE t (k+1))):=by
    rw[←jFc];exact Eq.mp (aQ (Hp W M gm) (jFe (a:=aE a sN cN sG cG rg rc) (d:=gdE t k) (s':=s') (c':=c') (l':=rwE t k k++[-1]) hh)) hp
   refine gA0 ?_;refine⟨k+1,qB O5 O,⟨O1,_,_,fun i hi=>?_,hp⟩,O1⟩;rw[←qSy];by_cases nw:i=k
   ·subst nw;simp[if_true];rw[qVc] at hq;omega
   grind
  obtain rfl:k=t.m:=by
   have em:(gdE t 0).m=t.m:=O;omega
  rw[jKs] at hp;have gd:GAok (aE a sN cN sG cG rg rc) (xZ t.ext):=by
   refine⟨gb.B,?_,jZ gb.C (by unfold gHd;rw[qT,qT];rfl),gb.R,?_,fun i hi=>?_⟩
   ·show SVL sN cN (lm (t.n+1) _)
    rw[jWy];omega
   ·show SVL sG cG (lm (t.n+1) _)
    rw[jWx];omega
   have:=hv i hi;unfold rwE at this;rw[if_pos (show i<t.m from hi)] at this;exact this
  obtain⟨oe,e1⟩:=jM7 gd (show 0<t.m by omega) (show 0<t.n+1 by omega);rw[e1] at hp;have hU:(aE a sN cN sG cG rg rc).ta.tb=a.tb:=O;generalize (aE a sN cN sG cG rg rc).ta=a1 at hp oe hU;clear gd e1 xc hY hv gb;have xo:t.ext.A r t.n≠0:=by
   have e:t.ext.A r t.n= -1:=by simp[Tb.ext]
   rw[e];decide
  have jb:t.n<t.ext.n:=oT _;have og:=qXv hE ng jb;have sa:∀x,_↔t.ext.sat x:=fun x=>qLq ng jb xo
  have va:=qQg (t:=t.ext) ng jb xo xp;have fc:=jFm xr lf;have th:=tc _ hE (fun _=>.rfl) ⟨_,xp⟩ O;have tf:=tc _ og sa ⟨_,va⟩ O;have hp:=hp;rw[←hU];refine qA ?_;have em:t.ext.n=t.n+1:=O;refine tN (t.n) ?_;refine tK (jO9 a1 _ r t.n κ _ _ oe ng jb xo th tf O1 h6 (show t.m≤_ by omega) O1 (Hp.l5 (A:=[]) hp)) ?_;rintro _ ur ⟨rfl,lj⟩;have hp:Hp W M _ (zB a1 _):=Hp.back (A:=[]) hp lj;have oc:TAok a1 (t.ext.pv r t.n):=oe.cast O O;refine qA ?_
  (apply wls;exact qC O jGi O (jVo a1 (t.ext.pv r t.n) (fun v=>V v∨v= -1) (fun x=>(-1)*x (-1)) _ κ (-1::l) _ _ oc og fc va (fun v hv=>by
    grind) (fun u k hc=>by
    have hf:=hc.fin og fc va
    exact tc u hf.ok (fun x=>(hf.sat x).trans (sa x)) hf.val hf.m) hκ h6 (show t.m≤_ by omega) (show t.n+1≤_ by omega) (Hp.l5 (A:=[]) hp));rintro _ gg ⟨bb,u,kk,rfl,hP,hT,hF,lj⟩)
  have hp:Hp W M _ (zB a1 u):=Hp.back (A:=[]) hp lj;have mh:=hP.fin og fc va;have hX:=fun x=>(mh.sat x).trans (sa x)
  have hS:u.m=t.m:=mh.m;have sF:u.n=t.n+1:=mh.n;obtain⟨cu,xi⟩:=mh.val;have xj:∀j,j<u.n→u.g j≤0:=by
   cases bb with
   |true=>grind
   |false=>
    obtain⟨e,he,x4,xe⟩:=hF O;obtain⟨x,_,en,hL⟩:=qTj mh.ok mh.feas xi he x4 (fun i hi=>by grind) 0;grind
  have tq:=first hV hZ mh.ok mh.feas hX xi xj hx
  have te:=tc _ mh.ok hX ⟨cu,xi⟩ hS;clear hT hF hP xj;have od:=oe.cast hS sF;refine tL (jMh u.m u.B a1.gB _ (-1) _ (qZ hp 1 O (vZ od.cB) (fun _=>O)) O1) ?_;rintro _ gh ⟨⟨rr,rfl,xt⟩,hk⟩;have hp:=hp.call hk;refine qR ?_;refine tR qY (qR ?_);refine tR qP ?_
  (apply wlp;exact vE O O;exact qV (b:=rr.isSome) (by cases rr with
   |none=>rfl
   |some k=>exact aD (by show(0:Int)≤k;omega)))
  refine qR (qAy (fun F' w'=>∃u2 e,qAb F' [(0,.pointer (some ⟨a1.tb,0,none⟩))]∧e<u2.n∧u2.N e= -1∧u2.ok (fun v=>V v∨v= -1)∧u2.feas∧(∀x,u2.sat x↔t.ext.sat x)∧u2.m=t.m∧u2.n=t.n+1∧Hp W M w' (zB a1 u2)) ?_ ?_)
  ·cases rr with
   |none=>
    refine qN O ?_;refine qR ?_;have j0:∀i,i<u.m→u.B i≠-1:=by
     rcases xt with⟨_,h⟩|⟨i,h,_⟩
     ·exact h
     cases h
    rcases mh.ok.or (v:=-1) (.inr rfl) with⟨i,hi,h⟩|⟨e,he,h⟩
    ·grind
    exact⟨u,e,⟨O,trivial⟩,he,h,mh.ok,mh.feas,hX,hS,sF,hp⟩
   |some r2=>
    obtain⟨lu,xf⟩:r2<u.m∧u.B r2= -1:=by
     grind
    obtain⟨sd,e0,x2,xk⟩:=tq r2 lu xf;refine jB O (yL [(0,.pointer _),(7,.int _ r2)] ⟨O,O,trivial⟩ ?_);intro F2;have xq:=(TabAt.of [] hp od).b r2 lu;refine qA (tR (qL (vs:=eQ (u.b r2)) O O O O xq) ?_);refine tK (r52 _ (BQ.fq (te.b r2 lu) O1)) ?_;rintro _ gm ⟨rfl,hk⟩;have hp:=hp.call hk;refine wlp (kB O O) (qV (b:=false) (by rw[sd];rfl)) (qR ?_);refine qN O ?_;have x0:=(TabAt.of [] hp od).H r2 lu;refine tL (jVh u.n (u.A r2) (a1.rg r2) (a1.rc r2) κ _ (qB8 hp (aU _ (bD.2 ⟨r2,aO.2 lu,O⟩)) (vZ (od.rc r2 lu)) jT) O1 (fun j hj=>te.A r2 j lu hj) O1) ?_;rintro _ gj ⟨⟨re,rfl,xw⟩,hk⟩;have hp:=hp.call hk;obtain⟨e2,rfl,lc,py⟩:∃e2,re=some e2∧e2<u.n∧u.A r2 e2≠0:=by
     grind
    refine wlp qY (O:_=Value.int _ e2) (qR ?_);refine tR qP ?_;refine wlp (zQ O O) (qV (b:=false) (aB O1)) (qR ?_);refine qN O ?_;have oh:=qXv mh.ok lu lc;have sc:=fun x=>(qLq lu lc py).trans (hX x)
    have tg:=tc _ oh sc ⟨_,qQg lu lc py xi⟩ hS;refine tL (jO9 a1 u r2 e2 κ _ _ od lu lc py te tg O1 h6 O1 O1 (Hp.l5 (A:=[]) hp)) ?_;rintro _ gn ⟨rfl,lj⟩;have hp:Hp W M _ (zB a1 _):=Hp.back (A:=[]) hp lj;refine qA ?_;refine⟨u.pv r2 e2,e2,⟨O,trivial⟩,lc,?_,oh,?_,sc,hS,sF,hp⟩
    ·show(if e2=e2 then u.B r2 else u.N e2)= -1
     omega
    intro i hi;have:=mh.feas i hi;simp only[Tb.pv,sd];grind
  rintro F3 gm ⟨u2,e5,hF,x3,xz,xh,xn,h5,dx,zi,hp⟩;refine yL _ hF ?_;intro F4;have oa:=oe.cast dx zi;refine tL (jMh u2.n u2.N a1.gN a1.cN (-1) _ (qZ hp 2 O (vZ oa.cN) (fun _=>O)) O1) ?_;rintro _ gj ⟨⟨re,rfl,xw⟩,hk⟩;have hp:=hp.call hk;obtain⟨e,rfl,he,xl⟩:∃e,re=some e∧e<u2.n∧u2.N e= -1:=by
   grind
  refine qR ?_;refine wlp qY (O:_=Value.int _ e) ?_;rw[←qYz] at hp;have hp:=hp;refine tM (e+1) ?_;refine tK (jVy (lm u2.n u2.N) _ a1.gN a1.cN e _ _ O (hp.k6 2 O) (vZ oa.cN) (by rw[qT];exact he) (by rw[qT];omega)) ?_;rintro _ gn ⟨rfl,lj⟩;have hp:=hp.j8 2 O lj;refine tT fun hz hp=>?_;have hp:=hp.norm 0 (gH _ {xZ u2 with N:=(lm _ _).eraseIdx e}) O O;have hp:Hp W M _ (gL a1.ga _):=hp;refine tM (e+1) ?_;refine tK (jMd (lm u2.n u2.g) _ a1.gG a1.cG e _ _ O (hp.k6 5 O) (vZ oa.cG) (by rw[qT];exact he) (by rw[qT];omega)) ?_;rintro _ h8 ⟨rfl,lj⟩;have hp:=hp.j8 5 O lj;refine tT fun h9 hp=>?_;have hp:=hp.norm 0 (gH _ (gdD u2 e 0)) O O;have hp:Hp W M h9 (gL a1.ga (gdD u2 e 0)):=by
   rw[jWs];exact hp
  refine qA (qQ [10,11,162,163,164,165,166,167,168,169,170,171,172,173,174,175,176,177,178] (fun(k:Nat) F=>F.put 162 (Iv (k:Int))) (fun k w'=>k≤u2.m∧Hp W M w' (gL a1.ga (gdD u2 e k))) (fun k=>u2.m-k) 0 (qB (Same.eq .refl) O) ⟨bN _,hp⟩ ?_);clear hp;rintro u3 k hH ⟨xb,hp⟩;refine tI (fun h=>?_) fun h=>?_
  ·have hh:k<u2.m:=by
    have em:(gdD u2 e 0).m=u2.m:=O;omega
   have q1:=hp;have cH:hH.cell? ⟨a1.tb,2,_⟩=some (.slice (some _) u2.m a1.cC):=hp.cell 0 O O;have hK:SVL (some ⟨a1.gC,0,none⟩) a1.cC (gHd a1.ga (gdD u2 e k)):=vZ oa.cC;have cR:hH.cell? _=some (.slice (some _) (rwD u2 e k k).length (a1.rc k)):=jMu hp O hK hh;have ht:=jFf (a:=a1.ga) (d:=gdD u2 e k) hh;have aa:a1.tb∉zG _:=hp.k7 ht (j:=0) O O1 O;have hQ:SVL (some ⟨a1.rg k,0,none⟩) (a1.rc k) (rwD u2 e k k):=by
    rw[qVd];exact vZ (oa.rc k hh)
   have x1:(rwD u2 e k k).length=u2.n:=by rw[qVd,qT]
   refine qA ?_;have hp:=q1.k6 _ ht;refine xL 11 O jG O3 (fun w'=>Keeps _ _ w') hp.N.C ?_;have hp:=hp.N;refine qX ?_;apply wdp;exact O;intro w hk;exact qS O O (hk.cell cH aa);exact fS O;refine qX ?_;refine tN (e+1) ?_;refine tK (jMd (rwD u2 e k k) _ (a1.rg k) (a1.rc k) e _ _ O (Hp.l5 (A:=[]) hp) hQ O1 O1) ?_;rintro _ hM ⟨rfl,lj⟩;have hp:=Hp.back (A:=[]) hp lj;refine⟨hp.C,qX (qU ?_)⟩;have hp:=q1.j8 _ ht hp;refine StepF.mono (zL jO (gHd a1.ga (gdD u2 e k)) k (some ⟨a1.rg k,0,none⟩,((rwD u2 e k k).eraseIdx e).length,a1.rc k) hp 3 (by rw[List.getElem?_set_ne O1];rfl) hK (by unfold gHd;rw[qT];exact hh) O O (fun _=>O) O O (qD O)) ?_;rintro _ hJ ⟨rfl,hp⟩;have hp:Hp W M hJ (gL a1.ga (gdD u2 e (k+1))):=by
    rw[←jFd he];have:=Eq.mp (aQ (Hp W M hJ) (jFe (a:=a1.ga) (d:=gdD u2 e k) (s':=some ⟨a1.rg k,0,none⟩) (c':=a1.rc k) (l':=(rwD u2 e k k).eraseIdx e) hh)) hp;have e1:({a1.ga with rg:=fun i=>if i=k then some ⟨a1.rg k,0,none⟩ else a1.ga.rg i,rc:=fun i=>if i=k then a1.rc k else a1.ga.rc i}:GA)=a1.ga:=by
     have f1:(fun i=>if i=k then some (⟨a1.rg k,0,none⟩:Addr) else a1.ga.rg i)=a1.ga.rg:=by
      funext i;by_cases h:i=k
      ·subst h;rw[if_pos O];rfl
      rw[if_neg h]
     have f2:(fun i=>if i=k then a1.rc k else a1.ga.rc i)=a1.ga.rc:=by
      funext i;by_cases h:i=k
      ·subst h;rw[if_pos O];rfl
      rw[if_neg h]
     rw[f1,f2]
    rw[e1] at this;exact this
   exact mB9
  obtain rfl:k=u2.m:=by
   have em:(gdD u2 e 0).m=u2.m:=O;omega
  rw[jKt he,qYz] at hp;obtain⟨s1,s2,s3⟩:=jO4 hV hZ xh xn h5 he xl;refine qA ?_;refine qM O O ⟨_,O,O,a1,u2.del e,?_,O,dx,?_,s1,s2,s3,hp⟩
  ·exact⟨oa.cB,⟨bL (sBj _ _) oa.cN.1,oa.cN.2⟩,oa.cC,oa.cR,⟨bL (sBj _ _) oa.cG.1,oa.cG.2⟩,fun i hi=>⟨bL (sBj _ _) (oa.rc i hi).1,(oa.rc i hi).2⟩⟩
  show u2.n-1=t.n
  omega
end Go.Proofs.YtplkndjlfkkjlaaGreatDoor
namespace Go.Lp
variable{j i:Nat}{t:Tb}
def pr(v:Int):Rat:=if v=0 then 1 else 0
def ag(t:Tb)(j i:Nat):Rat:=pr (t.N j)-sm i (fun k=>pr (t.B k)*t.A k j)
theorem zGr:ag t j 0=pr (t.N j):=by
 unfold ag sm;grind
theorem jLq:ag t j i-pr (t.B i)*t.A i j=ag t j (i+1):=by
 simp[ag,sm];grind
def agV(t:Tb):Tb:={t with g:=fun j=>ag t j t.m}
section
variable {t:Tb}{V:Int→Prop}
theorem jA1(ht:t.ok V){i0:Nat}(h0:t.B i0=0)(hi:i0<i)(yd:i≤t.m)(hj:j<t.n):ag t j i= -t.A i0 j:=by
 have h1:sm i (fun k=>pr (t.B k)*t.A k j)=t.A i0 j:=by
  rw[jF (g:=fun k=>if k=i0 then t.A k j else 0),xY (fun k=>t.A k j) hi];intro k hk;by_cases h:k=i0
  ·simp only[pr,if_true];grind
  rw[if_neg h];have:t.B k≠0:=fun e=>h (ht.bb k i0 O1 O1 (by rw[e,h0]))
  simp only[pr,if_neg this];grind
 have h2:t.N j≠0:=fun e=>ht.bn i0 j O1 hj (by rw[e,h0])
 unfold ag;rw[h1];simp[pr,if_neg h2];grind
theorem jA3(h:∀k,k<i→t.B k≠0):ag t j i=pr (t.N j):=by
 unfold ag;rw[vM]
 ·grind
 intro k hk;simp only[pr,if_neg (h k hk)];grind
theorem jLo(ht:t.ok V)(h0:V 0):∃c,(agV t).val (fun x=>x 0) c:=by
 rcases ht.or h0 with⟨i0,hi,hB⟩|⟨j0,hj0,hN⟩
 ·refine⟨t.b i0,fun x hx=>?_⟩;have h1:=hx i0 hi;have h1:x (t.B i0)=t.b i0-sm t.n (fun j=>t.A i0 j*x (t.N j)):=h1;rw[hB] at h1;have h2:sm _ (fun j=>ag t j _*x (t.N j))=sm _ (fun j=>(-1)*(t.A i0 j*x (t.N j))):=jF fun j hj=>by
   rw[jA1 ht hB hi O1 hj];grind
  show x 0=t.b i0+sm t.n (fun j=>ag t j _*x (t.N j))
  rw[h2,yF,h1];grind
 refine⟨0,fun x hx=>?_⟩;have hg:∀k,k<t.m→t.B k≠0:=fun k hk e=>ht.bn k j0 hk hj0 (by rw[e,hN])
 show x 0=0+sm t.n (fun j=>ag t j _*x (t.N j))
 rw[jF,xY (fun j=>x (t.N j)) hj0,hN]
 ·grind
 intro j hj;rw[jA3 hg];by_cases h:j=j0
 ·simp only[pr,hN,if_true];grind
 have:t.N j≠0:=fun e=>h (ht.nn j j0 hj hj0 (by rw[e,hN]))
 simp only[pr,if_neg this];grind
def agT(t:Tb)(j i:Nat):Tb:={t with g:=fun k=>if k<j then ag t k t.m else if k=j then ag t j i else t.g k}
def agO(t:Tb)(j:Nat):Tb:={t with g:=fun k=>if k<j then ag t k t.m else t.g k}
end
end Go.Lp
namespace Go.Proofs.YtplkndjlfkkjlaaGreatDoor
open List (range range' replicate)
open Tryz
section
open Go.Eng Go.Dig Go.Lp
section
variable {t:Tb}{V:Int→Prop}{κ i j:Nat}
theorem jLs:(agO t j).sg j (pr (t.N j))=agT t j 0:=by
 unfold agO agT Tb.sg;congr 1;funext k;by_cases h:k=j
 ·subst h;simp[zGr]
 simp[h]
theorem jU1:(agT t j i).g j=ag t j i:=by simp[agT]
theorem jI5:(agT t j i).sg j (ag t j (i+1))=agT t j (i+1):=by
 unfold agT Tb.sg;grind
theorem jLr:agT t j t.m=agO t (j+1):=by
 unfold agT agO;grind
theorem jLt:Agree (agO t t.n) (agV t):=by
 refine⟨O,O,fun _ _=>O,fun _ _=>O,fun _ _ _ _=>O,fun _ _=>O,fun j hj=>?_⟩;have hj:j<t.n:=hj;simp only[agO,agV];grind
theorem jMm{v:Int}(hκ:1≤κ):BQ κ (pr v):=by
 unfold pr;split
 ·exact BQ.one hκ
 exact BQ.zero hκ
theorem jYi(ht:t.ok V)(hA:∀i j,i<t.m→j<t.n→BQ κ (t.A i j))(hκ:1≤κ)(yd:i≤t.m)(hj:j<t.n):BQ κ (ag t j i):=by
 by_cases h:∃i0,i0<i∧t.B i0=0
 ·obtain⟨i0,h1,h2⟩:=h;rw[jA1 ht h2 h1 yd hj];exact(hA i0 j O1 hj).neg
 rw[jA3 (fun k hk e=>h ⟨k,hk,e⟩)];exact jMm hκ
end
attribute [local irreducible] PV StepF wpl wpd WP Ret
attribute [local irreducible] Fit
theorem zA7(n:Nat)(C:Nat→Rat)(xb gC cC:Nat)(v:Int)(W:World)(hb:W.cell? ⟨xb,2,none⟩=some (.slice (Ad gC) n cC))(hC:SlAt W 3 eQ (Ad gC) (lm n C))(hv:0≤v)(hn:n≤1000000):
  Rt 320 [Iv v,.pointer (Ad xb)] W (fun u w'=>u=QV (if v<n then C v.toNat else 0)∧Keeps [] W w'):=by
 obtain⟨k,rfl⟩:∃k:Nat,v=k:=⟨v.toNat,O1⟩;refine tW func320 ntmps320 fun hp=>?_;refine vK fun w b hp=>qH O (fun h=>?_) (fun h=>?_)
 ·rw[if_pos h];have hk:k<n:=O1;obtain⟨b',o,e,hc⟩:=hC k _ (yI hk);cases e;refine qA (tR (qL O O O O (fun j v hv=>hp.j7 (hc j v hv))) ?_);refine qBs fun w hp=>?_
  exact mA2
 rw[if_neg h];refine tD (wM _) fun w1 hp=>?_;refine qBs fun w hp=>?_
 exact mA2
end
section
open Go.Eng Go.Dig Go.Lp
theorem SlAt.y3{α:Type}{w w':World}{k g:Nat}{enc:α→List Value}{l:List α}{M:List Nat}(h:SlAt w k enc (Ad g) l)(hk:Keeps M w w')(hM:g∉M):SlAt w' k enc (Ad g) l:=
 h.j5 hk (fun _ b o e=>by grind)
attribute [local irreducible] PV StepF wpl wpd WP Ret
attribute [local irreducible] Fit
set_option maxHeartbeats 1000000 in
theorem zAu(a:TA)(t:Tb)(V:Int→Prop)(κ n mA mB cA cB gC cC:Nat)(sA sB:Option Addr)(C:Nat→Rat)(M:List Nat)(W:World)(ok:TAok a t)(hV:t.ok V)(xx:∀v,V v→0≤v)(us:∀v,V v→(if v<n then C v.toNat else 0)=pr v)
  (hA:∀i j,i<t.m→j<t.n→BQ κ (t.A i j)) (hκ:3*κ+1≤1000000000000) (hg:1≤κ) (hm:t.m≤1000000) (hn:t.n≤1000000) (zi:n≤1000000) (hC:SlAt W 3 eQ (Ad gC) (lm n C)) (hz:gC∉M) (hp:Hp W M W (zB a t)):
  Rt 232 [.pointer (some ⟨a.tb,0,none⟩),.agg #[.slice sA mA cA,.slice sB mB cB,.slice (Ad gC) n cC]] W (fun v w'=>v= .tuple #[]∧Hp W M w' (zB a (agV t))):=by
 have hy:=fun i hi=>(hV.cov _).2 (.inl ⟨i,hi,O⟩)
 have hq:=fun j hj=>(hV.cov _).2 (.inr ⟨j,hj,O⟩)
 refine Ret.j9 func232 O ntmps232 O (vK fun w b hp=>?_)
 have hp:=hp.norm 0 [.slice sA mA cA,.slice sB mB cB,.slice _ n cC] O O;have hp:Hp W M _ ([blk b 3 _ 248]++zB a t):=hp;have call320:∀(v:Int) (w:World) (T:Tb),V v→Hp W M w ([blk b 3 (qE [.slice sA mA cA,.slice sB mB cB,_]) 248]++zB a T)→Ret _ 320 _ w _:=fun v w T hv hp=>by
  have:=zA7 n C b gC cC v w (hp.cell 0 O O) (SlAt.y3 hC hp.C hz) (xx v hv) zi;rwa[us v hv] at this
 refine qA (qQ [5,6,7,8,15,16,17,18,19,20,21,22,23,24,25,26,27,28,29,30,31,32,33,34,35,36,37,38,39,40,41,42,43,44,45,46,47,48,49,50,51,52,53,54,55,56,57,58,59,60,61,62,63,64,65,66,67] (fun(j:Nat) F=>F.put 15 (.int _ j)) (fun j w'=>j≤t.n∧Hp W M w' ([_]++zB a (agO t j))) (fun j=>t.n-j) 0 (qB (Same.eq .refl) O) ⟨O1,by exact hp⟩ ?_);clear hp;rintro u j w1 ⟨fm,hp⟩;refine tI (fun h=>?_) fun h=>?_
 ·have hl:j<t.n:=by
   have em:(agO t 0).n=t.n:=O;omega
  have oc:TAok a (agO t j):=ok.cast O O;have ht:w1.cell? _=some (.int _ (t.N j)):=(TabAt.of _ hp oc).N j hl;refine qA ?_;refine jU jG O3 (fun w'=>Hp W M w' _) hp.N ?_;have hp:=hp.N;refine tH (call320 _ _ _ (hq j hl) hp) fun w2 hp=>?_;refine qX ?_;apply xH;exact O;exact O;exact jJ1 _ hp oc hl O O;rintro _ w3 ⟨rfl,hp⟩;rw[jLs] at hp;refine qU (qA ?_);refine qQ [7,8,34,35,36,37,38,39,40,41,42,43,44,45,46,47,48,49,50,51,52,53,54,55,56,57,58,59,60,61,62,63,64,65,66] (fun(i:Nat) F=>F.put 34 (.int _ i)) (fun i w'=>i≤t.m∧Hp W M w' ([_]++zB a (agT t j i))) (fun i=>t.m-i) 0 (qB (Same.eq .refl) O) ⟨O1,hp⟩ ?_;clear hp;rintro u2 i w4 ⟨yd,hp⟩;refine tI (fun h2=>?_) fun h2=>?_
  ·have hh:i<t.m:=by
    have em:(agT t j 0).m=t.m:=O;omega
   have oa:TAok a (agT t j i):=ok.cast O O;have hx:w4.cell? _=some (.int _ (t.B i)):=(TabAt.of _ hp oa).B i hh;refine qA ?_;refine jU jG O3 (fun w'=>Hp W M w' _) hp.N ?_;have hp:=hp.N;refine qX ?_;refine tP (fun w hp=>qL O O O O (by have:=(TabAt.of _ hp oa).g j hl;rw[jU1] at this;omega)) (tH (call320 _ _ _ (hy i hh) hp) fun w5 hp=>?_);refine qX (tP (fun w hp=>qS O O ((TabAt.of _ hp oa).H i hh)) ?_);refine qX (tP (fun w hp=>qL (vs:=eQ (t.A i j)) O O O O ((TabAt.of _ hp oa).A i j hh hl)) ?_);refine tG (jJg _ (jYi hV hA hg O1 hl) (jMm hg) (hA i j hh hl) O1) fun w6 hp=>?_;refine qX ?_;apply xH;exact O;exact O;exact jJ1 _ hp oa hl O O;rintro _ w7 ⟨rfl,hp⟩;rw[jLq,jI5] at hp;exact mBl
  obtain rfl:i=t.m:=by
   have em:(agT t j 0).m=t.m:=O;omega
  rw[jLr] at hp;refine gA0 ?_;exact⟨j+1,qB O5 O,⟨O1,hp⟩,O1⟩
 obtain rfl:j=t.n:=by
  omega
 rw[uF jLt] at hp;refine qA ?_;exact xK O ⟨_,O,O,hp.H⟩
end
open Go.Eng Go.Dig Go.Lp
structure PA where
 gA:Nat
 cA:Nat
 gB:Nat
 cB:Nat
 gC:Nat
 cC:Nat
 rg:Nat→Nat
 rc:Nat→Nat
def pgL(p:PA)(m n:Nat):List Value:=[.slice (some ⟨p.gA,0,none⟩) m p.cA,.slice (some ⟨p.gB,0,none⟩) m p.cB,.slice (some ⟨p.gC,0,none⟩) n p.cC]
structure PgAt(p:PA)(m n:Nat)(A:Nat→Nat→Rat)(B C:Nat→Rat)(w:World):Prop where
 hA:SlAt w 1 qAf (some ⟨p.gA,0,none⟩) (lm m fun i=>(p.rg i,n,p.rc i))
 hB:SlAt w 3 eQ (some ⟨p.gB,0,none⟩) (lm m B)
 hC:SlAt w 3 eQ (some ⟨p.gC,0,none⟩) (lm n C)
 hr:∀i,i<m→SlAt w 3 eQ (some ⟨p.rg i,0,none⟩) (lm n (A i))
theorem PgAt.j5{p:PA}{m n:Nat}{A:Nat→Nat→Rat}{B C:Nat→Rat}{w w':World}(h:PgAt p m n A B C w)(hk:Keeps [] w w'):PgAt p m n A B C w':=
 ⟨h.hA.j6 hk,h.hB.j6 hk,h.hC.j6 hk,fun i hi=>(h.hr i hi).j6 hk⟩
theorem zM{α:Type}{w:World}{k g n:Nat}{enc:α→List Value}{f:Nat→α}(h:SlAt w k enc (Ad g) (lm n f)){i:Nat}(hi:i<n):∀j v,(enc (f i))[j]? =some v→w.cell? ⟨g,0+i*k+j,none⟩=some v:=by
 obtain⟨b,o,e,hc⟩:=h i _ (yI hi);grind
attribute [local irreducible] PV StepF wpl wpd WP Ret
attribute [local irreducible] Fit
theorem jOa(n g c κ:Nat)(f:Nat→Rat)(W:World)(hs:SlAt W 3 eQ (Ad g) (lm n f))(hl:n≤1000000)(hb:∀j,j<n→BQ κ (f j))(hκ:κ≤1000000000000):
  Rk 314 [.slice (Ad g) n c] W (.bool true):=by
 refine tW func314 ntmps314 fun hp=>?_;refine qA (qQ ([2,4]++range' 7 8) (fun(k:Nat) F=>F.put 7 (.int _ k)) (fun k w'=>k≤n∧Hp W [] w' []) (fun k=>n-k) 0 (qB (Same.eq .refl) O) ⟨O1,hp⟩ ?_);clear hp;rintro u k w1 ⟨hk,hp⟩;refine tI (fun h=>?_) fun h=>?_
 ·have hg:k<n:=O1;have hc:=zM hs hg;refine qA (tR (qL O O O O (fun j v hv=>hp.j7 (hc j v hv))) ?_);refine vK fun w b hp=>?_
  refine tC (r51 _ (BQ.fq (hb k hg) hκ)) fun w2 hp=>?_;refine qA ?_;exact mF2
 exact mA0
theorem zAx(p:PA)(m n κ:Nat)(A:Nat→Nat→Rat)(B C:Nat→Rat)(W:World)(hP:PgAt p m n A B C W)(hm:m≤100)(hn:n≤5000)(hA:∀i j,i<m→j<n→BQ κ (A i j))(hB:∀i,i<m→BQ κ (B i))(hC:∀j,j<n→BQ κ (C j))(hκ:κ≤1000000000000):
  Rk 229 [.agg (pgL p m n).toArray] W (.bool true):=by
 refine tW func229 ntmps229 fun hp=>?_;refine vK fun w b hp=>?_
 have hp:=hp.norm 0 (pgL p m n) O O;have d1:decide ((m:Int)>100)=_:=aB O1;have d2:decide ((n:Int)>5000)=_:=aB O1;refine jL ?_;rw[d1];refine jL ?_;rw[d2];refine jL ?_;have d3:(!decide (m=(m:Int)))=false:=O4;rw[d3];refine tE (jOa m _ _ κ B _ (hP.hB.j6 hp.C) O1 hB hκ) fun w1 hp=>?_;refine tE (jOa n _ _ κ C _ (hP.hC.j6 hp.C) O1 hC hκ) fun w2 hp=>?_;refine jL ?_;refine tJ (qQ [2,4,39,40,41,42,43,44,45,46,47,48,49,50,51,52,53,54] (fun(k:Nat) F=>F.put 39 (.int _ k)) (fun k w'=>k≤m∧Hp W [] w' [blk b 3 _ 248]) (fun k=>m-k) 0 (qB (Same.eq .refl) O) ⟨O1,hp⟩ ?_);clear hp;rintro u k w3 ⟨hk,hp⟩;refine tI (fun h=>?_) fun h=>?_
 ·have hl:k<m:=O1;have hc:=zM hP.hA hl 0 _ O;refine jL ?_;have d4:(!decide (n=(n:Int)))=false:=O4;rw[d4];refine tE (jOa n _ _ κ _ _ ((hP.hr k hl).j6 hp.C) O1 (fun j hj=>hA k j hl hj) hκ) fun w4 hp=>?_;refine gAh ?_;exact mA9
 exact mA0
end Go.Proofs.YtplkndjlfkkjlaaGreatDoor
namespace Go.Eng
open List (range range' replicate)
section
variable {w0 w w':World}{M:List Nat}{L:List Ent}
theorem Hp.aA0(h:Hp w0 M w L)(i:Nat){p q:Ent}{R:List Ent}(hi:L[i]? =some p)(h':Hp w (zG [p]) w' (q::R)):Hp w0 M w' (L.set i q++R):=by
 have h1:=Hp.back (h.perm (qKo hi)) h';have h2:L.eraseIdx i++q::R=(L.eraseIdx i++[q])++R:=O4;rw[h2] at h1;exact h1.perm ((jD4 hi).append_right R)
end
end Go.Eng
namespace Go.Proofs.YtplkndjlfkkjlaaGreatDoor
open List (range range' replicate)
open Tryz
section
open Go.Eng Go.Dig Go.Lp
variable{a:GA}{d:GD}{sC:Option Addr}{cC:Nat}{s':Option Addr}{c':Nat}
theorem jMe(n b c:Nat)(f:Nat→Rat)(W:World)(hs:SlAt W 3 eQ (Ad b) (lm n f))(hl:n≤100000):
  Rt 315 [.slice (Ad b) n c] W (fun v w'=>∃s' c',v= .slice s' (lm n f).length c'∧SVL s' c' (lm n f)∧Hp W [] w' [qG eQ 49 3 s' c' (lm n f)]):=by
 have:=zAb _ b 0 c W hs (by rw[qT];exact hl);have e:(lm n f).length=n:=qT;grind
def Nf(j:Nat):Int:=(j:Int)
def Gf(_:Nat):Rat:=0
def Bf(n i:Nat):Int:=(n:Int)+(i:Int)
def g0(tb:Nat)(sR:Option Addr)(cR:Nat)(sN:Option Addr)(cN:Nat)(sG:Option Addr)(cG:Nat):GA:=⟨tb,none,0,sN,cN,none,0,sR,cR,sG,cG,fun _=>none,fun _=>0⟩
def d0(m n:Nat)(A:Nat→Nat→Rat)(B:Nat→Rat)(N:List Int)(g:List Rat):GD:=⟨0,[],N,lm m B,g,fun i=>lm n (A i)⟩
def qK9(a:GA)(k:Nat)(sC:Option Addr)(cC:Nat)(s':Option Addr)(c':Nat):GA:={a with sC:=sC,cC:=cC,rg:=fun i=>if i=k then s' else a.rg i,rc:=fun i=>if i=k then c' else a.rc i}
theorem qTz:gHd (qK9 a d.m sC cC s' c') {d with m:=d.m+1}=gHd a d++[(s',(d.rw d.m).length,c')]:=by
 unfold gHd;rw[lm_succ];congr 1
 ·refine jH fun i hi=>?_
  simp only[qK9];grind
 simp[qK9]
theorem jKu:
  gL (qK9 a d.m sC cC s' c') {d with m:=d.m+1}=[blk a.tb 5 (qE (gH (qK9 a d.m sC cC s' c') {d with m:=d.m+1})) 308,qG eI 3 1 a.sB a.cB d.B,qG eI 3 1 a.sN a.cN d.N,
   qG jO 43 1 sC cC (gHd a d++[(s',(d.rw d.m).length,c')]),qG eQ 49 3 a.sR a.cR d.b,qG eQ 49 3 a.sG a.cG d.g]++lm d.m (qBj a d)++[qG eQ 49 3 s' c' (d.rw d.m)]:=by
 have e1:lm (d.m+1) (qBj (qK9 a d.m sC cC s' c') {d with m:=d.m+1})=lm d.m (qBj a d)++[qG eQ 49 3 s' c' (d.rw d.m)]:=by
  rw[lm_succ];congr 1
  ·refine jH fun i hi=>?_
   unfold qBj;simp[qK9];grind
  simp[qBj,qK9]
 unfold gL;rw[qTz];rw[e1,bQ];rfl
def g2(tb:Nat)(sR:Option Addr)(cR:Nat)(sN:Option Addr)(cN:Nat)(sG:Option Addr)(cG:Nat)(sB:Option Addr)(cB:Nat)(sC:Option Addr)(cC:Nat)(rg:Nat→Option Addr)(rc:Nat→Nat):GA:=⟨tb,sB,cB,sN,cN,sC,cC,sR,cR,sG,cG,rg,rc⟩
def d2(m n:Nat)(A:Nat→Nat→Rat)(B:Nat→Rat)(i:Nat)(Bl:List Int):GD:=⟨i,Bl,lm n Nf,lm m B,lm n Gf,fun i=>lm n (A i)⟩
attribute [local irreducible] PV StepF wpl wpd WP Ret
attribute [local irreducible] Fit
set_option maxHeartbeats 1000000 in
theorem zAw(p:PA)(m n:Nat)(A:Nat→Nat→Rat)(B C:Nat→Rat)(W:World)(hP:PgAt p m n A B C W)(hm:m≤100)(hn:n≤5000)(mz:0<m)(xd:0<n):
  Rt 230 [.agg (pgL p m n).toArray] W (fun v w'=>∃a,v= .pointer (some ⟨a.tb,0,none⟩)∧TAok a (T0 m n A B)∧Hp W [] w' (zB a (T0 m n A B))):=by
 refine tW func230 ntmps230 fun hp=>?_;refine qR ?_;refine tQ fun w1 pb hp=>?_;have hp:=hp.norm 0 (pgL p m n) O O;have hp:Hp W [] w1 [blk pb 3 _ 248]:=hp;refine tL (jMe m _ _ B _ (hP.hB.j6 hp.C) O1) ?_;rintro _ w2 ⟨sR,cR,rfl,ht,hpo⟩;have hp:=hp.join hpo;clear hpo;have hp:=((hp.k4 jO 43 1).k4 eI 3 1).k4 eI 3 1;refine qR ?_;refine jM (tF (jVc hp O) fun w3 tb hp=>?_);have hp:=hp.norm 0 (gH (g0 tb sR cR _ 0 _ 0) (d0 m n A B [] [])) O O;have hp:=(hp.k4 eQ 49 3).perm (eP (l₁:=[_,_,_,_,_,_]));have hp:=hp.perm (List.Perm.cons _ (eP (l₁:=[_])));have hp:Hp W [] w3 ([_]++gL (g0 tb sR cR _ 0 _ 0) _):=hp;refine qA (qQ [4,15,16,17,18,19,20,21,22,23,24,25,26,27,28,29,30,31,32,33,34,35,36,37,38] (fun(k:Nat) F=>F.put 15 (Iv (k:Int))) (fun k w'=>k≤n∧∃sN cN sG cG,SVL sN cN (lm k Nf)∧SVL sG cG (lm k Gf)∧Hp W [] w' ([_]++gL (g0 tb sR cR sN cN sG cG) (d0 m n A B (lm k Nf) (lm k Gf)))) (fun k=>n-k) 0 (qB (Same.eq .refl) O) ⟨O1,none,0,none,0,SVL.nil,SVL.nil,hp⟩ ?_);clear hp;rintro u k w4 ⟨hk,sN,cN,sG,cG,xc,hY,hp⟩;refine tI (fun h=>?_) fun h=>?_
 ·refine qA ?_;refine tF (jC (cs:=[.int _ k]) hp O O O O O O O) fun w5 b1 hp=>tFb (jV eI (lm k Nf) k hp 4 0 O O O O O O (fun _=>O) O O O xc O O (by rw[qT];omega)) fun w6 se cf⟨h6,hp⟩=>tT fun w7 hp=>?_;have hp:=hp.norm 2 (gH (g0 tb sR cR se _ sG cG) (d0 m n A B (lm k Nf++[_]) _)) O O;have hp:Hp W [] w7 ([_]++gL (g0 tb sR cR _ _ sG cG) _):=hp.H;have eN:lm k Nf++[(k:Int)]=_:=lm_succ.symm;rw[eN] at hp h6;have q1:=hp;have hq:([blk pb 3 (qE (pgL p m n)) 248]++gL (g0 tb sR cR se cf sG cG) (d0 m n A B (lm (k+1) Nf) (lm k Gf)))[6]? =some (qG eQ 49 3 sG cG (lm k Gf)):=O;have cH:w7.cell? ⟨tb,4,_⟩=some (.slice sG (lm k Gf).length cG):=hp.cell 1 O O;have aa:tb∉zG _:=hp.k7 hq (j:=1) O O1 O;have hp:=q1.k6 6 hq;refine qR ?_;refine xL 10 O jG O3 (fun w'=>Keeps _ w7 w') hp.N.C ?_;have hp:=hp.N;refine qX ?_;apply wdp;exact O;intro w hk;exact qS O O (hk.cell cH aa);exact fS O;refine tK (wM _) ?_;rintro _ w8 ⟨rfl,hk⟩;have hp:=hp.call hk;refine⟨hp.C,?_⟩;apply wds;exact O;exact jC (cs:=eQ 0) hp O O O O O O O;rintro _ w9 ⟨b2,rfl,hp⟩;refine⟨hp.C,?_⟩;apply wds;exact O;exact jV eQ _ 0 hp 1 0 O O O O O O jT O O O hY O O (by rw[qT];omega);rintro _ ur ⟨sc,cc,rfl,h5,hp⟩;refine⟨hp.C,qX (qU ?_)⟩;have hp:=q1.j8 6 hq hp.H;refine StepF.mono (jD hp 1 O O O O (qD O) O) ?_;rintro _ gg ⟨rfl,hp⟩;have eG:lm k Gf++[0]=_:=lm_succ.symm;rw[eG] at hp h5;refine gA0 ?_;exact⟨k+1,qB O5 O,⟨O1,_,_,_,_,h6,h5,hp⟩,O1⟩
 obtain rfl:n=k:=O1;refine qA (qQ ([5,6]++range' 42 31) (fun(k:Nat) F=>F.put 42 (Iv (k:Int))) (fun k w'=>k≤m∧∃sB cB sC cC rg rc,SVL sB cB (lm k (Bf n))∧SVL sC cC (gHd (g2 tb sR cR sN cN sG cG sB cB sC cC rg rc) (d2 m n A B k (lm k (Bf n))))∧(∀i,i<k→SVL (rg i) (rc i) (lm n (A i)))∧Hp W [] w' ([_]++gL (g2 tb sR cR sN cN sG cG sB cB sC cC rg rc) (d2 m n A B k (lm k (Bf n))))) (fun k=>m-k) 0 (qB (Same.eq .refl) O) ⟨bN _,none,0,none,0,fun _=>none,fun _=>0,SVL.nil,SVL.nil,fun i hi=>O1,hp⟩ ?_);clear hp;rintro u2 k gh ⟨uq,sB,cB,sC,cC,rg,rc,h4,hK,u1,hp⟩;refine tI (fun h=>?_) fun h=>?_
 ·have hl:k<m:=O1;have h3:=zM hP.hA hl 0 _ O;refine qA ?_;have q1:=hp;have hq:([blk pb 3 (qE (pgL p m n)) 248]++gL (g2 tb sR cR sN cN sG cG sB cB sC cC rg rc) (d2 m n A B k (lm k (Bf n))))[2]? =some (qG eI 3 1 sB cB (lm k _)):=O;have cH:gh.cell? ⟨tb,0,_⟩=some (.slice sB (lm k _).length cB):=hp.cell 1 O O;have cP:gh.cell? ⟨pb,2,_⟩=some (.slice _ n p.cC):=hp.cell 0 O O;have aa:tb∉zG _:=hp.k7 hq (j:=1) O O1 O;have ab:=hp.k7 hq (j:=0) O O1 O;have hp:=q1.k6 2 hq;refine xL 14 O jG O3 (fun w'=>Keeps _ _ w') hp.N.C ?_;have hp:=hp.N;refine qX ?_;apply wdp;exact O;intro w hk;exact qS O O (hk.cell cH aa);exact fS O;refine qX ?_;apply wdp;exact O;intro w hk;exact qS O O (hk.cell cP ab);exact fS O;refine qX ?_;refine tA ?_;apply wds;exact O;exact jC (cs:=eI (Bf n k)) hp O O O O O O O;rintro _ gm ⟨b1,rfl,hp⟩;refine⟨hp.C,?_⟩;apply wds;exact O;exact jV eI _ _ hp 1 0 O O O O O O (fun _=>O) O O O h4 O O (by rw[qT];omega);rintro _ gj ⟨sa,ca,rfl,hy,hp⟩;refine⟨hp.C,qX (qU ?_)⟩;have hp:=q1.j8 2 hq hp.H;refine StepF.mono (jD hp 1 O O O O (qD O) O) ?_;rintro _ gn ⟨rfl,hp⟩;have hp:=hp.norm 1 (gH (g2 tb sR cR sN cN sG cG _ _ sC cC rg rc) (d2 m n A B k _)) O O;have hp:Hp W [] _ ([_]++gL (g2 tb sR cR sN cN sG cG _ _ sC cC rg rc) _):=hp;have eB:_=lm (k+1) (Bf n):=lm_succ.symm;rw[eB] at hp hy;have q1:=hp;have hq:([blk pb 3 (qE (pgL p m n)) 248]++gL (g2 tb sR cR sN cN sG cG sa ca sC cC rg rc) (d2 m n A B k (lm (k+1) (Bf n))))[4]? =some (qG jO 43 1 sC cC _):=O;have cH:gn.cell? ⟨tb,2,_⟩=some (.slice sC k cC):=hp.cell 1 O O;have aa:tb∉zG _:=hp.k7 hq (j:=1) O O1 O;have hQ:(gHd (g2 tb sR cR sN cN sG cG sa ca sC cC rg rc) (d2 m n A B k (lm (k+1) (Bf n)))).length=k:=by
   unfold gHd;rw[qT];rfl
  have hp:=q1.k6 4 hq;refine qR ?_;refine xL 11 O jG O3 (fun w'=>Keeps _ _ w') hp.N.C ?_;have hp:=hp.N;refine qX ?_;apply wdp;exact O;intro w hk;exact qS O O (hk.cell cH aa);exact fS O;refine qX ?_;refine tK (jMe n _ _ _ _ ((hP.hr k hl).j6 (q1.j8 4 hq hp).keeps) O1) ?_;rintro _ hg ⟨s',c',rfl,h8,hpo⟩;have hp:=hp.join hpo;clear hpo;refine⟨hp.C,?_⟩;apply wds;exact O;exact jC (cs:=[.slice s' _ c']) hp O O O O O O O;rintro _ hx ⟨b2,rfl,hp⟩;refine⟨hp.C,?_⟩;apply wds;exact O;exact jV jO _ (s',(lm n _).length,c') hp 2 0 O O O O O O (fun _=>O) (by rw[hQ];rfl) O O (jZ hK (by rfl)) O O O1;rintro _ hh ⟨sd,ce,rfl,h7,hp⟩;refine⟨hp.C,qX (qU ?_)⟩;have hp:=hp.H.perm (iM _ _ _);have hp:=q1.aA0 4 hq hp;have hz:(gHd (g2 tb sR cR sN cN sG cG sa ca sC cC rg rc) (d2 m n A B k (lm (k+1) (Bf n)))++[(s',(lm n (A k)).length,c')]).length=k+1:=by
   rw[aY,hQ];rfl
  rw[hz];refine StepF.mono (jD hp 1 O O O O (qD O) O) ?_;rintro _ hj ⟨rfl,hp⟩;have hp:=hp.norm 1 (gH (qK9 (g2 tb sR cR sN cN sG cG _ _ sC cC rg rc) k _ _ s' c') (d2 m n A B (k+1) _)) O O;have hp:Hp W [] hj ([blk pb 3 (qE (pgL p m n)) 248]++gL (qK9 (g2 tb sR cR sN cN sG cG sa ca sC cC rg rc) k sd ce s' c') (d2 m n A B (k+1) (lm (k+1) (Bf n)))):=by
   have e:=jKu (a:=g2 tb sR cR sN cN sG cG sa ca sC cC rg rc) (d:=d2 m n A B k (lm (k+1) (Bf n))) (sC:=sd) (cC:=ce) (s':=s') (c':=c');exact Eq.mp (aQ (fun L=>Hp W [] hj ([blk pb 3 (qE (pgL p m n)) 248]++L)) e.symm) hp
  refine gA0 ?_;refine⟨k+1,qB O5 O,⟨O1,_,_,_,_,_,_,hy,?_,fun i hi=>?_,hp⟩,O1⟩
  ·have e:=qTz (a:=g2 tb sR cR sN cN sG cG sa ca sC cC rg rc) (d:=d2 m n A B k (lm (k+1) (Bf n))) (sC:=sd) (cC:=ce) (s':=s') (c':=c');exact Eq.mp (aQ _ e.symm) h7
  by_cases nw:i=k
  ·grind
  simp[if_neg nw];exact u1 i O1
 obtain rfl:m=k:=O1;have gb:GAok (g2 tb sR cR sN cN sG cG sB cB sC cC rg rc) (xZ (T0 m n A B)):=⟨h4,xc,hK,ht,hY,u1⟩;obtain⟨ok,e⟩:=jM7 gb mz xd;have hp:Hp W [] gh (_++gL _ (xZ (T0 m n A B))):=hp;rw[e] at hp;refine tV ?_;exact⟨_,O,_,O,ok,hp.H⟩
end
open Go.Eng Go.Dig Go.Lp
variable{n:Nat}{F:Fr}{w:World}{fn:Func}{p t ty b o k b2 o2:Nat}{vs us:List Value}
theorem qQ8(h:fn.results= #[.cell p ty,.cell t ty])(h1:qCc ty=some k)(hz:qBu ty=some k)
  (hx:ev n F (.tmp p)= .pointer (some ⟨b,o,none⟩)) (hy:ev n F (.tmp t)= .pointer (some ⟨b2,o2,none⟩)) (hl:vs.length=k) (oy:us.length=k) (hc:∀(j:Nat) (v:Value),vs[j]? =some v→w.cell? ⟨b,o+j,none⟩=some v) (qp:∀(j:Nat) (v:Value),us[j]? =some v→w.cell? ⟨b2,o2+j,none⟩=some v):
  (results fn (act n F).tmps).run Tryz.prog w= .ok (.tuple #[.agg vs.toArray,.agg us.toArray]) w:=by
 obtain⟨q,hq,tc⟩:=qDm h1;have hk:=qD hz;have e1:=vN (P:=Tryz.prog) b o vs 0 #[] (fun j v hv=>by simpa using hc j v hv);have e2:=vN (P:=Tryz.prog) b2 o2 us 0 #[] (fun j v hv=>by simpa using qp j v hv);rw[hl] at e1;rw[oy] at e2;have hX:(act n F).tmps.getD p undef= .pointer (some ⟨b,o,none⟩):=by
  rw[←hx,←zF];rfl
 have en:=by simpa using hX
 have er:(act n F).tmps.getD t undef= .pointer (some ⟨b2,o2,none⟩):=by
  rw[←hy,←zF];rfl
 have eo:=by simpa using er
 simp[results,h,en,eo,asAddr,loadVar,qF5 hq tc,loadCells,hk.run,e1,e2]
theorem jAq{R:Ending→World→Prop}(h:fn.results= #[.cell p ty,.cell t ty])(h1:qCc ty=some k)(hz:qBu ty=some k)
  (hx:ev n F (.tmp p)= .pointer (some ⟨b,o,none⟩)) (hy:ev n F (.tmp t)= .pointer (some ⟨b2,o2,none⟩)) (hl:vs.length=k) (oy:us.length=k) (hc:∀(j:Nat) (v:Value),vs[j]? =some v→w.cell? ⟨b,o+j,none⟩=some v) (qp:∀(j:Nat) (v:Value),us[j]? =some v→w.cell? ⟨b2,o2+j,none⟩=some v)
  (hr:R (.returned (.tuple #[.agg vs.toArray,.agg us.toArray])) w):qNs Tryz.prog n fn R .ret F w:=
 ⟨_,qQ8 h h1 hz hx hy hl oy hc qp,hr⟩
attribute [local irreducible] PV StepF wpl wpd WP Ret
attribute [local irreducible] Fit
theorem zAs(n k pb sb gC cC gX cX:Nat)(C X:Nat→Rat)(W:World)(mw:W.cell? ⟨pb,2,none⟩=some (.slice (Ad gC) n cC))(hs0:W.cell? ⟨sb,0,none⟩=some (.slice (Ad gX) n cX))(hC:SlAt W 3 eQ (Ad gC) (lm n C))(hX:SlAt W 3 eQ (Ad gX) (lm n X))(hk:k<n):
  Rt 236 [Iv (k:Int),.pointer (Ad pb),.pointer (Ad sb)] W (fun u w'=>u= .tuple #[QV (C k),QV (X k)]∧Keeps [] W w'):=by
 have cC:=zM hC hk;have cX:=zM hX hk;refine tW func236 ntmps236 fun hp=>?_;refine qR ?_;refine tQ fun w1 b4 hp=>?_;refine tQ fun w2 b5 hp=>?_;refine qR (kU true jG O3 (fun w'=>Keeps [] W w') hp.N.C ?_);have hp:=hp.N;refine qX ?_;apply wdp;exact O;intro w hk;exact qS O O (hk.cell mw O4);exact fS O;refine qX ?_;apply wdp;exact O;intro w hk;exact qL O O O O (fun j v hv=>hk.cell (cC j v hv) O4);exact fA3 O;refine qX ?_;apply wdp;exact O;intro w hk;exact qS O O (hk.cell hs0 O4);exact fS O;refine qX ?_;apply wdp;exact O;intro w hk;exact qL O O O O (fun j v hv=>hk.cell (cX j v hv) O4);exact fA3 O;apply qSl;exact O;exact qW hp 1 O O O O (qD O) O;rintro _ w3 ⟨rfl,hp⟩;refine⟨hp.C,?_⟩;apply qSl;exact O;exact qW hp 0 O O O O (qD O) O;rintro _ w4 ⟨rfl,hp⟩;refine⟨hp.C,?_⟩;refine qU (qA ?_);exact jAq O O O O O O O (hp.j4 1 (k:=3) O O) (hp.j4 0 (k:=3) O O) ⟨_,O,O,hp.C⟩
theorem zAt(n κ:Nat)(a c:Nat→Rat)(dy:Array Value)(W:World)(hf:∀k,k<n→∀w,Keeps [] W w→Rt 236 ([Iv (k:Int)]++dy.toList) w (fun u w'=>u= .tuple #[QV (a k),QV (c k)]∧Keeps [] w w'))(hn:n≤1000000)
  (ha:∀k,k<n→BQ κ (a k)) (hc:∀k,k<n→BQ κ (c k)) (hs:∀k,k≤n→BQ κ (sm k fun j=>a j*c j)) (hκ:3*κ+1≤1000000000000):
  Rt 235 [Iv (n:Int),.func (.func 236) #[] dy] W (fun u w'=>u=QV (sm n fun j=>a j*c j)∧Keeps [] W w'):=by
 refine tW func235 ntmps235 fun hp=>?_;refine vK fun w b hp=>?_
 refine tC (wM _) fun w1 hp=>?_;refine tQ fun w2 b5 hp=>?_;refine tS fun w3 hp=>?_;have hp:=hp.norm 0 (eQ (sm 0 fun j=>a j*c j)) O O;have hp:=hp.norm 1 [.bool _,.string _,.string _] O O;refine qA (qQ [6,7,8,11,12,13,14,15,16,17,18,19,20,21,22,23,24,25] (fun(k:Nat) F=>F.put 11 (.int _ k)) (fun k w'=>k≤n∧Hp W [] w' [blk b5 3 (qE (eQ (sm k _))) 49,blk b 3 _ 49]) (fun k=>n-k) 0 (qB (Same.eq .refl) O) ⟨O1,hp⟩ ?_);clear hp;rintro u k w4 ⟨hk,hp⟩;refine tI (fun h=>?_) fun h=>?_
 ·have hl:k<n:=O1;refine tD (hf k hl _ hp.C) fun w5 hp=>?_;refine qA ?_;refine tQ fun w6 b7 hp=>?_;refine tQ fun w7 b8 hp=>?_;refine tS fun w8 hp=>?_;refine tS fun w9 hp=>?_;refine qR ?_;refine jU jG O3 (fun w'=>Hp W [] w' _) hp.N ?_;have hp:=hp.N;refine tH (r24 _ (ha k hl) (hc k hl) O1) fun ur hp=>?_;refine tG (r44 _ (hs k O1) ((ha k hl).mul (hc k hl)) O1) fun gg hp=>?_;refine tS fun gh hp=>?_;refine qU (tB ?_);refine qA ?_;exact⟨k+1,qB O5 O,⟨O1,hp.H.H⟩,O1⟩
 obtain rfl:n=k:=O1;refine qBs fun w hp=>?_
 exact mDc
end Go.Proofs.YtplkndjlfkkjlaaGreatDoor
namespace Go.Lp
open List (range range' replicate)
theorem Ov.neg{D M:Nat}{a:Rat}(h:Ov D M a):Ov D M (-a):=by
 obtain⟨x,h1,h2⟩:=h;refine⟨-x,?_,O1⟩;grind
theorem qQ1(X:Nat→Rat):∀k:Nat,sm k (fun j=>(if j=0 then 1 else 0)*X j)=if k=0 then 0 else X 0
 |0=>rfl
 |k+1=>by
  simp only[sm];rw[qQ1];grind
def OvB(κ n:Nat)(X:Nat→Rat):Prop:=∃D M,0<D∧D≤M∧M<2^κ∧∀j,j<n→Ov D M (X j)
theorem OvB.mono{κ κ' n:Nat}{X:Nat→Rat}(h:OvB κ n X)(hk:κ≤κ'):OvB κ' n X:=by
 obtain⟨D,M,h1,h2,h3,h4⟩:=h;exact⟨D,M,h1,h2,cJ h3 (aR O2 hk),h4⟩
structure Opt(m n:Nat)(A:Nat→Nat→Rat)(B:Nat→Rat)(X Y:Nat→Rat):Prop where
 feas:Feas m n A B X
 pos:∀i,i<m→0≤Y i
 dual:∀j,j<n→(if j=0 then 1 else 0)≤sm m (fun i=>A i j*Y i)
 val:X 0=sm m (fun i=>B i*Y i)
end Go.Lp
namespace Go.Proofs.YtplkndjlfkkjlaaGreatDoor
open List (range range' replicate)
open Tryz
open Go.Eng Go.Dig Go.Lp
def z5:List Value:=[Zs,Zs,.bool false,.string ⟨#[]⟩,.string ⟨#[]⟩]
def qAl(sX:Option Addr)(lX cX:Nat)(sY:Option Addr)(lY cY:Nat)(q:List Value):List Value:=[.slice sX lX cX,.slice sY lY cY]++q
def Cu(j:Nat):Rat:=if j=0 then 1 else 0
theorem jC9{m n:Nat}{v:Int}(h:V0 m n v):v∈(range (n+m)).map (fun k:Nat=>(k:Int)):=by
 obtain⟨h1,h2⟩:=h;refine bD.2 ⟨v.toNat,aO.2 O1,O1⟩
attribute [local irreducible] PV StepF wpl wpd WP Ret
attribute [local irreducible] Fit
set_option maxHeartbeats 4000000 in
theorem zB8(p:PA)(m n κ M0:Nat)(A:Nat→Nat→Rat)(B:Nat→Rat)(K:Rat)(W:World)(hP:PgAt p m n A B Cu W)(hm:m≤100)(hn:n≤5000)(mz:0<m)(xd:0<n)
  (hb:(T0 m n A B).q4 M0) (hM:gr M0 m<2^κ) (hκ:4*κ+1≤1000000000000) (h6:1≤κ) (hx:∃x,Feas m n A B x) (hK:∀x,Feas m n A B x→x 0≤K):
  Rt 164 [.agg (pgL p m n).toArray] W (fun v w'=>∃X Y gX cX gY cY,v= .tuple #[.agg (qAl (Ad gX) n cX (Ad gY) m cY (eQ (X 0))).toArray,Iv 0]∧Opt m n A B X Y∧OvB κ n X∧(∀i,i<m→BQ κ (Y i))∧
   SVL (Ad gX) cX (lm n X)∧SVL (Ad gY) cY (lm m Y)∧Hp W [] w' [qG eQ 49 3 (Ad gX) cX (lm n X),qG eQ 49 3 (Ad gY) cY (lm m Y)]):=by
 have hT:=jNb (m:=m) (n:=n) (A:=A) (B:=B);have tc:∀u:Tb,u.ok _→(∀x,_↔_)→u.m=m→(∃M,_∧M<_):=fun u h1 h2 h3=>by
  have h4:=jN7 h1 hT (fun x=>(h2 x).symm) hb;rw[h3] at h4;exact⟨_,h4,hM⟩
 have bA:∀i j,i<m→j<n→BQ κ (A i j):=by
  obtain⟨D,hD,ht,h1,h2⟩:=hb.ex;exact fun i j hi hj=>wQ hD ht (bY qYw hM) (h2 i j hi hj)
 have bB:∀i,i<m→BQ κ (B i):=by
  obtain⟨D,hD,ht,h1,h2⟩:=hb.ex;exact fun i hi=>wQ hD ht (bY qYw hM) (h1 i hi)
 have bC:∀j,j<n→BQ κ (Cu j):=fun j _=>by
  unfold Cu;split
  ·exact BQ.one h6
  exact BQ.zero h6
 have xo:V0 m n 0:=by simp only[V0];omega
 have yi:=hP.hC.lt jT O2 (by
  intro e;have:(lm n Cu).length=0:=by rw[e];rfl
  rw[qT] at this
  omega) O
 refine tW func164 ntmps164 fun hp=>?_;refine qR ?_;refine tQ fun w1 pb hp=>?_;have hp:=hp.norm 0 (pgL p m n) O O;refine tF (qXo hp (qJ O)) fun w2 b2 hp=>?_;have hp:=hp.norm 0 z5 O O;have hp:Hp W [] w2 [blk b2 5 _ 244,blk pb 3 _ 248]:=hp;refine qR ?_;refine tR qY (qR ?_);refine wlp (qL (vs:=pgL p m n) O O O O (hp.j4 1 (o:=0) (k:=3) O O)) O (tK (zAx p m n κ A B Cu _ (hP.j5 hp.C) hm hn bA bB bC O1) ?_);rintro _ w3 ⟨rfl,hk⟩;have hp:=hp.call hk;refine qA (qN O ?_);refine qR (wlp (qL (vs:=pgL p m n) O O O O (hp.j4 1 (o:=0) (k:=3) O O)) O ?_);refine tK (zAw p m n A B Cu _ (hP.j5 hp.C) hm hn mz xd) ?_;rintro _ w4 ⟨a,rfl,ok,hpo⟩;have hp:=(hp.join hpo).swap;clear hpo;have hp:=hp;refine qA ?_
 (apply wls;exact qC O jRs O (zAv a _ _ κ M0 _ _ _ ok hT jU6 (fun v hv=>jC9 hv) (fun _ _=>O) (by
   obtain⟨x,hx⟩:=hx;obtain⟨y,h1,h2,_⟩:=jLy hx
   grind) hb hM hκ h6 (show m≤_ by omega) (show n≤_ by omega) xd (Hp.l5 hp));rintro _ w5 ⟨rfl,a2,u,oc,hV,hS,sF,xb,yf,x3,hpo⟩;have hp:=Hp.back hp hpo;clear hpo)
 have hS:u.m=m:=hS;have sF:u.n=n:=sF;rw[←hV];refine qA (qN O ?_);refine qR ?_;have xr:p.gC∉zG _:=fun h=>by
  obtain⟨q,hq,ut⟩:=xX.1 h;rcases hp.q6 (aU _ hq) _ ut with h1|h1
  ·omega
  cases h1
 obtain⟨M1,qw,yg⟩:=tc u xb x3 hS;refine tR qP (wlp (qL (vs:=pgL p m n) O O O O (hp.j4 1 (o:=0) (k:=3) O O)) O ?_)
 (apply wls;exact qC O jRr O (zAu a2 u _ κ n m m _ _ _ _ _ _ Cu _ _ oc xb (fun v hv=>hv.1) (fun v hv=>by
   obtain⟨h1,h2⟩:=hv;unfold pr Cu;grind) (by
   obtain⟨D,hD,ht,h1,h2⟩:=qw.ex
   exact fun i j hi hj=>wQ hD ht yg (h2 i j hi hj)) O1 h6 O1 O1 O1 (hP.hC.j6 hp.C) xr (Hp.l5 hp));rintro _ w6 ⟨rfl,hpo⟩;have hp:=Hp.back hp hpo;clear hpo)
 have od:TAok a2 (agV u):=oc.cast O O;obtain⟨c0,x0⟩:=jLo xb xo;have xp:(agV u).ok _:=⟨xb.bb,xb.nn,xb.bn,xb.cov⟩;have hE:∀x,(agV u).sat x↔_:=x3;have xq:(agV u).feas:=yf;have xf:(agV u).m=m:=hS;have xt:(agV u).n=n:=sF;generalize agV u=t1 at*
 have ma:∀x:Int→Rat,x 0=1*x 0:=fun x=>by grind
 have tf:∀u' k',Climb t1 u' k'→Tbq u' κ:=fun u' k' hc=>by
  have hf:=hc.fin xp xq x0;obtain⟨c1,hy⟩:=hf.val;obtain⟨M2,qq,xa⟩:=tc u' hf.ok (fun x=>(hf.sat x).trans (hE x)) (hf.m.trans xf);exact qV0 hf.ok hy ma (.inl O) xo qq xa
 refine tL (jVo a2 t1 _ _ c0 κ _ _ _ od xp xq x0 (fun v hv=>jC9 hv) tf hκ h6 O1 O1 (Hp.l5 hp)) ?_;rintro _ w7 ⟨bb,u1,kk,rfl,hg,x1,x2,hpo⟩;have hp:=Hp.back hp hpo;clear hpo;have mh:=hg.fin xp xq x0;have hX:=fun x=>(mh.sat x).trans (hE x)
 have xz:=mh.m.trans xf;have yh:=mh.n.trans xt;obtain⟨c1,hy⟩:=mh.val;cases bb with
 |false=>
  obtain⟨e,he,x4,xe⟩:=x2 O;obtain⟨x,h5,en,hF⟩:=qTj mh.ok mh.feas hy he x4 (fun i hi=>by grind) K;have:=hK _ (qZ0 ((hX x).1 h5) en);grind
 |true=>
 have xj:∀j,j<_→u1.g j≤0:=fun j hj=>by have:=x1 O j hj;grind
 have oa:TAok a2 u1:=oc.cast O1 O1;have hZ:=mh.ok;have yd:=mh.feas;clear x1 x2 mh tf x0 xp hE xq xf xt;refine qA (qN O ?_);refine qR (tF (qXo hp (qJ O)) fun w8 sb hp=>?_);have hp:=hp.norm 0 z5 O O;have hp:=(hp.k4 eQ 49 3).k4 eQ 49 3;have hp:Hp W [] w8 ([qG eQ 49 3 _ 0 (lm 0 Gf),_,blk sb 5 (qE (qAl _ (lm 0 Gf).length 0 _ 0 0 _)) 244,_,_]++_):=hp;refine qA (qQ (range' 30 9) (fun(k:Nat) F=>F.put 30 (Iv (k:Int))) (fun k w'=>k≤n∧∃sX cX,SVL sX cX (lm k Gf)∧Hp W [] w' ([qG eQ 49 3 sX cX (lm k Gf),_,blk sb 5 (qE (qAl sX (lm k Gf).length cX none 0 0 _)) 244,_,_]++zB a2 u1)) (fun k=>n-k) 0 (qB (Same.eq .refl) O) ⟨O1,none,0,SVL.nil,hp⟩ ?_);clear hp;rintro v k w9 ⟨hk,sX,cX,hL,hp⟩;refine tI (fun h=>?_) fun h=>?_
 ·have q1:=hp;have hh:([qG eQ 49 3 sX cX (lm k Gf),qG eQ 49 3 none 0 [],blk sb 5 (qE (qAl sX (lm k Gf).length cX none 0 0 [.bool false,.string ⟨#[]⟩,.string ⟨#[]⟩])) 244,blk b2 5 (qE z5) 244,blk pb 3 (qE (pgL p m n)) 248]++zB a2 u1)[0]? =some _:=O;have cH:w9.cell? ⟨sb,0,_⟩=some (.slice sX _ cX):=hp.cell 2 O O;have aa:=hp.k7 hh (j:=2) O O1 O;have hp:=q1.k6 0 hh;refine qR ?_;refine xL 6 O jG O3 (fun w'=>Keeps _ w9 w') hp.N.C ?_;have hp:=hp.N;refine qX ?_;apply wdp;exact O;intro w hk;exact qS O O (hk.cell cH aa);exact fS O;refine tK (wM _) ?_;rintro _ ur ⟨rfl,hk⟩;have hp:=hp.call hk;refine⟨hp.C,?_⟩;apply wds;exact O;exact jC (cs:=eQ 0) hp O O O O O O O;rintro _ gg ⟨b3,rfl,hp⟩;refine⟨hp.C,?_⟩;apply wds;exact O;exact jV eQ _ 0 hp 1 0 O O O O O O jT O O O hL O O (by rw[qT];omega);rintro _ gh ⟨se,ce,rfl,xn,hp⟩;refine⟨hp.C,qX (qU ?_)⟩;have hp:=q1.j8 0 hh hp.H;refine StepF.mono (jD hp 2 O O O O (qD O) O) ?_;rintro _ gm ⟨rfl,hp⟩;have eG:lm k Gf++[0]=_:=lm_succ.symm;rw[eG] at hp xn;refine gA0 ?_;exact⟨k+1,qB O5 O,⟨O1,_,_,xn,hp⟩,O1⟩
 obtain rfl:n=k:=O1
 obtain⟨gX,rfl⟩:=hL.addr (by
  intro e;have:(lm n Gf).length=0:=by rw[e];rfl
  rw[qT] at this
  omega)
 have hp:Hp W [] w9 ([qG eQ 49 3 (Ad gX) cX (lm n Gf),qG eQ 49 3 none 0 (lm 0 Gf),blk sb 5 (qE (qAl (Ad gX) n cX none (lm 0 Gf).length 0 [.bool false,.string ⟨#[]⟩,.string ⟨#[]⟩])) 244,blk b2 5 (qE z5) 244,blk pb 3 (qE (pgL p m n)) 248]++zB a2 u1):=by
  have:=hp;rw[show(lm n Gf).length=n from qT] at this;exact this
 refine qA (qQ (range' 42 9) (fun(k:Nat) F=>F.put 42 (Iv (k:Int))) (fun k w'=>k≤m∧∃sY cY,SVL sY cY (lm k Gf)∧Hp W [] w' ([_,qG eQ 49 3 sY cY (lm k Gf),blk sb 5 (qE (qAl _ n cX sY (lm k Gf).length cY _)) 244,_,_]++zB a2 u1)) (fun k=>m-k) 0 (qB (Same.eq .refl) O) ⟨bN _,none,0,SVL.nil,hp⟩ ?_);clear hp;rintro v2 k gj ⟨hk,sY,cY,xg,hp⟩;refine tI (fun h=>?_) fun h=>?_
 ·have q1:=hp;have hh:([qG eQ 49 3 (Ad gX) cX (lm n Gf),qG eQ 49 3 sY cY (lm k Gf),blk sb 5 (qE (qAl (Ad gX) n cX sY (lm k Gf).length cY [.bool false,.string ⟨#[]⟩,.string ⟨#[]⟩])) 244,blk b2 5 (qE z5) 244,blk pb 3 (qE (pgL p m n)) 248]++zB a2 u1)[1]? =some (qG eQ 49 3 sY cY (lm k Gf)):=O;have cH:gj.cell? ⟨sb,1,_⟩=some (.slice sY _ cY):=hp.cell 2 O O;have aa:=hp.k7 hh (j:=2) O O1 O;have hp:=q1.k6 1 hh;refine qR ?_;refine xL 6 O jG O3 (fun w'=>Keeps _ _ w') hp.N.C ?_;have hp:=hp.N;refine qX ?_;apply wdp;exact O;intro w hk;exact qS O O (hk.cell cH aa);exact fS O;refine tK (wM _) ?_;rintro _ gn ⟨rfl,hk⟩;have hp:=hp.call hk;refine⟨hp.C,?_⟩;apply wds;exact O;exact jC (cs:=eQ 0) hp O O O O O O O;rintro _ hz ⟨b3,rfl,hp⟩;refine⟨hp.C,?_⟩;apply wds;exact O;exact jV eQ _ 0 hp 1 0 O O O O O O jT O O O xg O O (by rw[qT];omega);rintro _ h7 ⟨sd,ca,rfl,xy,hp⟩;refine⟨hp.C,qX (qU ?_)⟩;have hp:=q1.j8 1 hh hp.H;refine StepF.mono (jD hp 2 O O O O (qD O) O) ?_;rintro _ h8 ⟨rfl,hp⟩;have eG:lm k Gf++[0]=_:=lm_succ.symm;rw[eG] at xy;have hp:Hp W [] h8 ([qG eQ 49 3 (Ad gX) cX (lm n Gf),qG eQ 49 3 sd ca (lm (k+1) Gf),blk sb 5 (qE (qAl (Ad gX) n cX sd (lm (k+1) Gf).length ca [.bool false,.string ⟨#[]⟩,.string ⟨#[]⟩])) 244,blk b2 5 (qE z5) 244,blk pb 3 (qE (pgL p m n)) 248]++zB a2 u1):=by
   rw[←eG];exact hp
  refine gA0 ?_;exact⟨k+1,qB O5 O,⟨O1,_,_,xy,hp⟩,O1⟩
 obtain rfl:m=k:=O1
 obtain⟨gY,rfl⟩:=xg.addr (by
  intro e;have:(lm m Gf).length=0:=by rw[e];rfl
  rw[qT] at this
  omega)
 have hp:Hp W [] gj ([qG eQ 49 3 (Ad gX) cX (lm n fun j=>pick u1.B u1.b 0 (j:Int)),qG eQ 49 3 (Ad gY) cY (lm m Gf),blk sb 5 (qE (qAl (Ad gX) n cX (Ad gY) m cY [.bool false,.string ⟨#[]⟩,.string ⟨#[]⟩])) 244,blk b2 5 (qE z5) 244,blk pb 3 (qE (pgL p m n)) 248]++zB a2 u1):=by
  have:=hp;rw[show(lm m Gf).length=m from qT] at this;exact this
 have cc:=SVL.cap hL;have te:Tbq u1 κ:=by
  obtain⟨M2,qq,xa⟩:=tc u1 hZ hX xz;exact qV0 hZ hy ma (.inl O) xo qq xa
 have sa:∀f:Nat→Rat,SVL _ cX (lm n f):=fun f=>jZ hL (by rw[qT,qT])
 have sc:∀f:Nat→Rat,SVL _ cY (lm m f):=fun f=>jZ xg (by rw[qT,qT])
 refine qA (qQ ([6,7]++range' 56 22) (fun(i:Nat) F=>F.put 56 (Iv (i:Int))) (fun i w'=>i≤u1.m∧Hp W [] w' ([qG eQ 49 3 _ cX (lm n fun j=>pick u1.B u1.b (i) (j:Int)),_,_,_,_]++zB a2 u1)) (fun i=>u1.m-i) 0 (qB (Same.eq .refl) O) ⟨bN _,hp⟩ ?_);clear hp;rintro v3 i hQ ⟨hi,hp⟩;refine tI (fun h=>?_) fun h=>?_
 ·have hl:i<u1.m:=O1;have xx:=(TabAt.of _ hp oa).B i hl;obtain⟨kv,hY⟩:∃kv:Nat,u1.B i=(kv:Int):=⟨(u1.B i).toNat,by have h9:=(hZ.cov _).2 (.inl ⟨i,hl,O⟩);have:=h9.1;omega⟩;rw[hY] at xx;refine tI (fun h2=>?_) fun h2=>?_
  ·have hU:kv<n:=O1;have e:(lm n fun j=>pick u1.B u1.b i (j:Int)).set kv (u1.b i)=lm n fun j=>pick u1.B u1.b (i+1) (j:Int):=by
    rw[vF];refine jH fun j _=>?_
    simp only[pick,hY];by_cases hj:j=kv
    ·grind
    rw[if_neg hj,if_neg O1]
   refine jU jG O3 (fun w'=>Hp W [] w' _) hp.N ?_;have hp:=hp.N;refine qX (tP (fun w hp=>qL (vs:=eQ (u1.b i)) O O O O ((TabAt.of [_,_,_,_,_] hp oa).b i hl)) ?_);refine qX ?_;apply xH;exact O;exact O;exact vL eQ _ kv _ hp 0 O (sa _) (by rw[qT];omega) O O jT O O (qD O);rintro _ hJ ⟨rfl,hp⟩;have hp:Hp W [] hJ ([qG eQ 49 3 (Ad gX) cX (lm n fun j=>pick u1.B u1.b (i+1) (j:Int)),qG eQ 49 3 (Ad gY) cY (lm m Gf),blk sb 5 (qE (qAl (Ad gX) n cX (Ad gY) m cY [.bool false,.string ⟨#[]⟩,.string ⟨#[]⟩])) 244,blk b2 5 (qE z5) 244,blk pb 3 (qE (pgL p m n)) 248]++zB a2 u1):=by
    rw[←e];exact hp
   exact mBl
  have e:_=lm n fun j=>pick u1.B u1.b (i+1) j:=jH fun j hj=>by
   simp only[pick,hY];rw[if_neg O1]
  rw[e] at hp;exact mCf
 obtain rfl:i=u1.m:=O1;have hp:Hp W [] hQ ([_,qG eQ 49 3 _ cY (lm m fun i=>pick u1.N (fun j=>-u1.g j) (0) ((n:Int)+(i:Int))),_,_,_]++_):=hp;refine qA (qQ ([8,9]++range' 83 27) (fun(i:Nat) F=>F.put 83 (Iv (i:Int))) (fun i w'=>i≤u1.n∧Hp W [] w' ([_,qG eQ 49 3 _ cY (lm m fun i'=>pick u1.N (fun j=>-u1.g j) (i) ((n:Int)+(i':Int))),_,blk b2 5 (qE z5) 244,_]++zB a2 u1)) (fun i=>u1.n-i) 0 (qB (Same.eq .refl) O) ⟨bN _,hp⟩ ?_);clear hp;rintro v4 i xv ⟨hi,hp⟩;refine tI (fun h=>?_) fun h=>?_
 ·have hl:i<u1.n:=O1;have xw:=(TabAt.of _ hp oa).N i hl;have xi:=(hZ.cov _).2 (.inr ⟨i,hl,O⟩);obtain⟨kv,hY⟩:∃kv:Nat,u1.N i=kv:=⟨(u1.N i).toNat,by have:=xi.1;omega⟩;have xc:=xi.2;rw[hY] at xw xc;refine tI (fun h2=>?_) fun h2=>?_
  ·have yj:kv-n<m:=O1;have e:(lm m fun i'=>pick u1.N (fun j=>-u1.g j) i ((n:Int)+(i':Int))).set (kv-n) (-u1.g i)=lm m fun i'=>pick u1.N (fun j=>-u1.g j) (i+1) ((n:Int)+(i':Int)):=by
    rw[vF];refine jH fun j _=>?_
    simp only[pick,hY];by_cases hj:j=kv-n
    ·grind
    rw[if_neg hj,if_neg O1]
   refine qR ?_;refine jU jG O3 (fun w'=>Hp W [] w' _) hp.N ?_;have hp:=hp.N;refine qX ?_;refine tN (kv-n) ?_;refine qX (tP (fun w hp=>qL (vs:=eQ (u1.g i)) O O O O ((TabAt.of [_,_,_,_,_] hp oa).g i hl)) ?_);refine tK (jVn _ (BQ.fq (te.g i hl) O1)) ?_;rintro _ xl ⟨rfl,hk⟩;have hp:=hp.call hk;refine⟨hp,qX ?_⟩;apply xH;exact O;exact O;exact vL eQ _ _ _ hp 1 O (sc _) (by rw[qT];omega) O O jT O O (qD O);rintro _ xh ⟨rfl,hp⟩;have hp:Hp W [] xh ([qG eQ 49 3 (Ad gX) cX (lm n fun j=>pick u1.B u1.b u1.m (j:Int)),qG eQ 49 3 (Ad gY) cY (lm m fun i'=>pick u1.N (fun j=>-u1.g j) (i+1) ((n:Int)+(i':Int))),blk sb 5 (qE (qAl (Ad gX) n cX (Ad gY) m cY [.bool false,.string ⟨#[]⟩,.string ⟨#[]⟩])) 244,blk b2 5 (qE z5) 244,blk pb 3 (qE (pgL p m n)) 248]++zB a2 u1):=by
    rw[←e];exact hp
   exact mBl
  have e:_=lm m fun i'=>pick u1.N (fun j=>-u1.g j) (i+1) (n+i'):=jH fun j hj=>by
   simp only[pick,hY];rw[if_neg O1]
  rw[e] at hp;exact mCf
 obtain rfl:i=u1.n:=O1;obtain⟨X,xk⟩:∃X:Nat→Rat,X=fun v:Nat=>pick u1.B u1.b u1.m v:=⟨_,O⟩
 obtain⟨Y,xu⟩:∃Y:Nat→Rat,Y=fun i:Nat=>pick u1.N (fun j=>-u1.g j) u1.n (n+i):=⟨_,O⟩
 obtain⟨s1,s2,s3,s4⟩:=jNz xd hZ yd hX hy xj X Y (fun v _=>by rw[xk]) (fun i _=>by rw[xu]);obtain⟨oX,ba,bc⟩:OvB κ n X∧(∀j,BQ κ (X j))∧∀i,BQ κ (Y i):=by
  obtain⟨M2,qq,xa⟩:=tc u1 hZ hX xz;obtain⟨D,hD,ht,e1,e2⟩:=qq.ex;exact⟨⟨D,M2,hD,ht,xa,fun j _=>by rw[xk];exact qKl e1⟩,fun j=>by rw[xk];exact wQ hD ht xa (qKl e1),fun i=>by rw[xu];exact wQ hD ht xa (qKl fun j hj=>(qYy hZ hy ma (.inl O) xo ht e2 j hj).neg)⟩
 rw[←xk,←xu] at hp;have zk:(sm n fun j=>Cu j*X j)=X 0:=by
  have:=qQ1 X n;exact mEw
 refine qA ?_
 (apply wls;exact qC O jRq O (zAt n κ Cu X #[.pointer (Ad pb),.pointer (Ad sb)] _ (fun k hk w hH=>by
   have hq:=hp.call hH;exact zAs n k pb sb p.gC p.cC gX cX Cu X w (hq.cell 4 O O) (hq.cell 2 O O) (hP.hC.j6 hq.keeps) (qZ hq 0 O (sa _) jT) hk) O1 bC (fun j _=>ba j) (fun k hk=>by
   have:=qQ1 X k;rw[show(sm k fun j=>Cu j*X j)=_ from this];split
   ·exact BQ.zero h6
   grind) O1);rintro _ ya ⟨rfl,hk⟩;have hp:=hp.call hk)
 rw[zk];refine tT fun ye hp=>?_;refine qR (wlp (qL (vs:=qAl (Ad gX) n cX (Ad gY) m cY (eQ (X 0))) O O O O (hp.j4 2 (o:=0) (k:=5) O O)) (O:_=Value.agg (qAl (Ad gX) n cX (Ad gY) m cY (eQ (X 0))).toArray) ?_);refine tO (jJ3 hp 3 O O O O (qD O) O) fun yc hp=>?_;refine qA ?_;exact yP O O O O O (hp.j4 3 O O) ⟨_,O,X,Y,gX,cX,gY,cY,O,⟨s1,s2,s3,s4⟩,oX,fun i _=>bc i,sa _,sc _,hp.sub (show List.Sublist _ ([_,_]++_) from dT _ _)⟩
end Go.Proofs.YtplkndjlfkkjlaaGreatDoor
namespace Go.Eng
open List (range range' replicate)
variable{mt et:TypeId}{b:Nat}{o:Obj}
structure KeyS(P:Program)(kt:TypeId)(α:Type)[DecidableEq α] where
 enc:α→Value
 fk:∀(a:α) (l:List (α×Value×Nat)) (w:World),(Instr.findKey kt (enc a) (l.map fun x=>({key:=enc x.1,val:=x.2.1,born:=x.2.2}:MapEntry))).run P w= .ok (fnd a l 0) w
 bits:∀a,Instr.sameBits 10000 (enc a) (enc a)=true
 plain:∀(w:World) (e:Bool) (a:α),(Instr.checkKey e 10000 kt (enc a)).run P w= .ok () w
section
variable {P:Program}{kt:TypeId}{α:Type}[DecidableEq α](K:KeyS P kt α){w0 w:World}{M:List Nat}{L:List Ent}
def qRf(x:α×Value×Nat):MapEntry:={key:=K.enc x.1,val:=x.2.1,born:=x.2.2}
theorem KeyS.fk'(a:α)(l:List (α×Value×Nat))(w:World):(Instr.findKey kt (K.enc a) (l.map (qRf K))).run P w= .ok (fnd a l 0) w:=K.fk a l w
def qTp(f:α→Option Value):Obj→Prop:=fun o=>∃(l:List (α×Value×Nat)) (clock:Nat),o= .map (l.map (qRf K)).toArray clock∧(∀a,lk l a=f a)∧MOk l clock
theorem qQ7{z:Value}{f:α→Option Value}(hm:P.underlying mt=some (.map kt et))(hz:TZero P et z)(hb:w.heap[b]? =some o)(ho:qTp K f o)(a:α):
  (Instr.lookup mt (.map (some b)) (K.enc a) true).run P w= .ok (.tuple #[(f a).getD z,.bool (f a).isSome]) w:=by
 obtain⟨l,clock,rfl,hl,hn⟩:=ho;have hg:(getObj b).run P w= .ok (.map (l.map (qRf K)).toArray clock) w:=by simp[getObj,Sem.run,hb]
 simp only[Instr.lookup,bJ,jQ hm,aK,hg,K.plain,dV,K.fk'];rw[←hl,←qEd a l 0];cases hf:fnd a l 0 with
 |none=>simp[hz.run]
 |some y=>simp
theorem jD9{f:α→Option Value}(hm:P.underlying mt=some (.map kt et))(hb:w.heap[b]? =some o)(ho:qTp K f o)(a:α)(v:Value):
  ∃w' o',(Instr.mapUpdate mt (.map (some b)) (K.enc a) v).run P w= .ok () w'∧Keeps [b] w w'∧w'.heap[b]? =some o'∧qTp K (fun x=>if x=a then some v else f x) o':=by
 obtain⟨l,clock,rfl,hl,hn⟩:=ho;have hg:(getObj b).run P w= .ok (.map (l.map (qRf K)).toArray clock) w:=by simp[getObj,Sem.run,hb]
 have hh:=(aT.1 hb).1;have hT:∀o',(setObj b o').run P w= .ok () {w with heap:=w.heap.setIfInBounds b o'}:=by
  intro o';simp[setObj,Sem.run,hb]
 have h3:∀o',Keeps [b] w {w with heap:=w.heap.setIfInBounds b o'}:=fun o'=>⟨O,O,O,O4,fun k _ nv=>by
  grind⟩
 have hq:∀o',(w.heap.setIfInBounds b o')[b]? =some o':=fun o'=>by grind
 cases hf:fnd a l 0 with
 |none=>
  refine⟨_,_,?_,h3 _,hq _,l++[(a,v,clock)],_,O,fun x=>?_,hn.push (by rw[←qEd,hf];rfl)⟩
  ·simp only[Instr.mapUpdate,bJ,jQ hm,aK,hg,K.plain,K.fk',hf,hT];simp[qRf]
  rw[qYi a v _ l (by rw[←qEd,hf];rfl),hl]
 |some y=>
  obtain⟨j,u⟩:=y;obtain⟨k,hj,nv,⟨x,hx,l1⟩,hy⟩:=qR8 a v l 0 j u hf;have ht:j=k:=O1;subst ht;refine⟨_,_,?_,h3 _,hq _,l.modify j fun x=>(x.1,v,x.2.2),_,O,fun x=>?_,hn.o8 _ _⟩
  ·have hz:(((l.map (qRf K)).toArray[j]?).map (·.key)).getD (K.enc a)=K.enc a:=by
    simp[hx,qRf,l1]
   simp only[Instr.mapUpdate,bJ,jQ hm,aK,hg,K.plain,K.fk',hf,hz,Instr.keyThatStays,K.bits,if_true,dV,hT];congr 3;congr 1;apply Array.ext_getElem?;intro i;by_cases nu:j=i
   ·subst nu;simp[hx,qRf,l1]
   grind
  grind
end
section
variable {P:Program}{kt:TypeId}{α:Type}[DecidableEq α]{K:KeyS P kt α}{n:FrK}{w0 w:World}{M:List Nat}{L:List Ent}{F:Fr}{d:Option Tmp}{ty:TypeId}{pos:String}{aft:Array Edge}{g:Option (Nat×Bool)}{x y z:Operand}
def zV(K:KeyS P kt α)(b:Nat)(f:α→Option Value):Ent:=(some b,qTp K f)
theorem qH0{zv:Value}{f:α→Option Value}{a:α}(hp:Hp w0 M w L)(i:Nat)(hi:L[i]? =some (zV K b f))(hx:ev n F x= .map (some b))(hy:ev n F y=K.enc a)
  (hm:P.underlying mt=some (.map kt et)) (hz:TZero P et zv):PV P n w F ⟨d,.lookup mt x y true,ty,pos,aft,g⟩ (.tuple #[(f a).getD zv,.bool (f a).isSome]):=by
 obtain⟨o,ho,hf⟩:=hp.has i _ hi b O;simp[PV,execOp,hx,hy,qQ7 K hm hz ho hf a]
theorem qLc{f:α→Option Value}{a:α}{v:Value}(hp:Hp w0 M w L)(i:Nat)(hi:L[i]? =some (zV K b f))(hx:ev n F x= .map (some b))(hy:ev n F y=K.enc a)(hv:ev n F z=v)
  (hm:P.underlying mt=some (.map kt et)):
  StepF P n ⟨d,.mapUpdate mt x y z,ty,pos,aft,g⟩ F w (fun u w'=>u=undef∧Hp w0 M w' (L.set i (zV K b (fun x=>if x=a then some v else f x)))):=by
 obtain⟨o,ho,hf⟩:=hp.has i _ hi b O;obtain⟨w',o',hr,nv,jn,hg⟩:=jD9 K hm ho hf a v;refine wE ?_ ⟨O,hp.o8 hi (by simpa[zV] using nv) ?_⟩
 ·simp[execOp,hx,hy,hv,hr]
 intro b1 jm;have:b1=b:=by simpa[zV,eq_comm] using jm
 subst this;exact⟨.inl O,o',jn,hg⟩
theorem qJs(K:KeyS P kt α)(hp:Hp w0 M w L):
  StepF P n ⟨d,.makeMap mt none,ty,pos,aft,g⟩ F w (fun u w'=>∃b,u= .map (some b)∧Hp w0 M w' (zV K b (fun _=>none)::L)):=by
 refine xN (w':=w.alloc (.map #[] 0)) ?_ ⟨_,O,hp.alloc _ ?_⟩
 ·simp[execOp,Instr.makeMap,Sem.run]
 exact⟨[],0,O,fun a=>O,O4,O4,O4⟩
end
end Go.Eng
namespace Go.Proofs.YtplkndjlfkkjlaaGreatDoor
open List (range range' replicate)
open Tryz
section
open Go.Eng Go.Dig Go.Lp
theorem qZ4{P:Program}{w:World}{t:Nat}{a b:Int}(ht:P.underlying t=some (.int .i8))(k:Nat):(Op.equalIn (k+1) t (.int .i8 a) (.int .i8 b)).run P w= .ok (decide (a=b)) w:=by
 unfold Op.equalIn;simp[jQ ht];rfl
theorem qI3(w:World)(xs:List Int)(i:Nat)(h:i<xs.length):(part 290 (xs.map (Value.int .i8)).toArray i).run Tryz.prog w= .ok (.int .i8 xs[i]) w:=by
 have g:(isAgg 290).run Tryz.prog w= .ok false w:=O3;exact qKp g _ _ _ (by simp[h])
theorem eqL(k:Nat)(w:World)(xs ys:List Int):∀(m i:Nat),i+m≤xs.length→i+m≤ys.length→
 (forIn (m:=Sem) (range' i m) ((none:Option Bool),()) fun i _=>do
   let a←part 290 (xs.map (Value.int .i8)).toArray (i*1)
   let b←part 290 (ys.map (Value.int .i8)).toArray (i*1)
   let c←Op.equalIn (k+1) 290 a b
   if(!c)=true then pure (ForInStep.done (some false,())) else pure (ForInStep.yield ((none:Option Bool),()))).run Tryz.prog w= .ok (if((xs.drop i).take m=(ys.drop i).take m) then(none,()) else(some false,())) w
 |0,i,_,_=>O4
 |m+1,i,h1,h2=>by
  have hu:Tryz.prog.underlying 290=some (.int .i8):=O3;have ih:=eqL k w xs ys m (i+1) O1 O1;rw[sBf,List.forIn_cons];simp only[bJ,oB,qI3 w xs i O1,qI3 w ys i O1,aK,qZ4 hu];have e1:(xs.drop i).take (m+1)=xs[i]::(xs.drop (i+1)).take m:=by
   rw[aX O1];rfl
  have e2:(ys.drop i).take (m+1)=ys[i]::(ys.drop (i+1)).take m:=by
   rw[aX O1];rfl
  rw[e1,e2];by_cases h:xs[i]=ys[i]
  ·simp only[h,decide_true,Bool.not_true,eE,iW,dV,aK,sH,rZ];grind
  simp[h]
theorem jX5(k:Nat)(w:World)(xs ys:List Int)(h1:xs.length=12)(h2:ys.length=12):(Op.equalIn (k+2) 291 (.agg (xs.map (Value.int .i8)).toArray) (.agg (ys.map (Value.int .i8)).toArray)).run Tryz.prog w= .ok (decide (xs=ys)) w:=by
 rw[Op.equalIn];have hu:Tryz.prog.underlying 291=some (.array 12 290):=O3;have hs:(sizeOf 290).run Tryz.prog w= .ok 1 w:=O3;have:=eqL k w xs ys 12 0 O1 O1;simp only[bJ,jQ hu,aK,hs];rw[oJ];rw[show range' _ ([:12]).size _=range' 0 12 from O];rw[this];simp only[sAn,bR (show xs.length≤12 by omega),bR (show ys.length≤12 by omega)];by_cases h:xs=ys<;>simp[h]
theorem jMv(l:List Int):((l.map (Value.int .i8)).toArray).extract 2 (2+12)=(((l.drop 2).take 12).map (Value.int .i8)).toArray:=by
 simp
theorem jX4(w:World)(l l':List Int)(h1:l.length=14)(h2:l'.length=14):(Op.equal 293 (.agg (l.map (Value.int .i8)).toArray) (.agg (l'.map (Value.int .i8)).toArray)).run Tryz.prog w= .ok (decide (l=l')) w:=by
 show(Op.equalIn (9997+1+1+1) 293 _ _).run _ w=_
 have hs:(Program.stoodInHeld Tryz.prog 293)=false:=O3;have hg:Tryz.prog.underlying 290=some (.int .i8):=O3;have ha:(isAgg 291).run Tryz.prog w= .ok true w:=O3;have hz:(sizeOf 291).run Tryz.prog w= .ok 12 w:=O3;have p2:∀l:List _,(part 291 (l.map _).toArray 2).run Tryz.prog w=_:=fun l=>by
  simp only[part,bJ,ha,aK,if_true,hz,dV];rw[jMv]
 have e0:=fun a b=>qZ4 (w:=w) (a:=a) (b:=b) hg 9998
 have e2:=jX5 9997 w ((l.drop 2).take 12) ((l'.drop 2).take 12) (by grind) (by grind);simp only[Nat.reduceAdd] at e0 e2;rw[Op.equalIn];simp only[bJ,jQ Tryz.underlying293,aK];simp[pA,List.map_drop] at e2;simp[hs,bJ,qI3 w l 0 O1,qI3 w l' 0 O1,qI3 w l 1 O1,qI3 w l' 1 O1,p2,e0,e2];have s1:∀l:List Int,∀h:l.length=14,l=l[0]'O1::l[1]'O1::(l.drop 2).take 12:=fun l h=>by
  rw[bR (by grind),lZ,lZ,sAn]
 have key:l=l'↔l[0]=l'[0]∧l[1]=l'[1]∧(l.drop 2).take 12=(l'.drop 2).take 12:=by
  constructor
  ·grind
  rintro⟨a,b,c⟩;rw[s1 l h1,s1 l' h2,a,b,c]
 by_cases a:l[0]=l'[0]<;>by_cases b:l[1]=l'[1]<;>by_cases c:(l.drop 2).take 12=(l'.drop 2).take 12<;>simp[key,a,b,c]
theorem jY4(e:Bool)(k:Nat)(w:World)(xs:List Int):∀(m i:Nat),i+m≤xs.length→
 (forIn (m:=Sem) (range' i m) PUnit.unit fun i _=>do
   let z←sizeOf 290
   let a←part 290 (xs.map (Value.int .i8)).toArray (i*z)
   Instr.checkKey e (k+1) 290 a
   pure (ForInStep.yield PUnit.unit)).run Tryz.prog w= .ok PUnit.unit w
 |0,i,_=>O4
 |m+1,i,h1=>by
  have hu:Tryz.prog.underlying 290=some (.int .i8):=O3;have hs:(sizeOf 290).run Tryz.prog w= .ok 1 w:=O3;have ih:=jY4 e k w xs m (i+1) O1;have hk:(Instr.checkKey e (k+1) 290 (.int .i8 xs[i])).run Tryz.prog w= .ok () w:=by
   unfold Instr.checkKey;simp[jQ hu]
  rw[sBf,List.forIn_cons];simp only[bJ,hs,oB,qI3 w xs i O1,aK,hk,dV];exact ih
theorem jPi(e:Bool)(k:Nat)(w:World)(xs:List Int)(h1:xs.length=12):(Instr.checkKey e (k+2) 291 (.agg (xs.map (Value.int .i8)).toArray)).run Tryz.prog w= .ok () w:=by
 rw[Instr.checkKey];have hu:Tryz.prog.underlying 291=some (.array 12 290):=O3;have:=jY4 e k w xs 12 0 O1;simp only[bJ,jQ hu,aK];rw[oJ];rw[show range' _ ([:12]).size _=range' 0 12 from O];rw[this];rfl
theorem zC5(l:List Int)(w:World):(part 291 (l.map (Value.int .i8)).toArray 2).run Tryz.prog w= .ok (.agg (((l.drop 2).take 12).map (Value.int .i8)).toArray) w:=by
 have ha:(isAgg 291).run Tryz.prog w= .ok true w:=O3;have hz:(sizeOf 291).run Tryz.prog w= .ok 12 w:=O3;simp only[part,bJ,ha,aK,if_true,hz,dV];rw[jMv]
theorem jPh(w:World)(e:Bool)(l:List Int)(h1:l.length=14):(Instr.checkKey e 10000 293 (.agg (l.map (Value.int .i8)).toArray)).run Tryz.prog w= .ok () w:=by
 have hg:Tryz.prog.underlying 290=some (.int .i8):=O3;have hk:∀(a:Int),(Instr.checkKey e 9999 290 (.int .i8 a)).run Tryz.prog w= .ok () w:=fun a=>by
  unfold Instr.checkKey;simp
 have e2:=jPi e 9997 w ((l.drop 2).take 12) (by grind);have p2:=zC5 l w;simp[pA,List.map_drop] at e2 p2;rw[Instr.checkKey];simp[qI3 w l 0 O1,qI3 w l 1 O1,p2,hk,e2]
theorem jN9(n:Nat):∀l:List Int,((l.map (Value.int .i8)).zip (l.map (Value.int .i8))).all (fun(x,y)=>Instr.sameBits n x y)=true
 |[]=>rfl
 |a::l=>by
  have:=jN9 n l;simp[dY,List.zip_cons_cons,pB,this,Bool.and_true];cases n<;>simp[Instr.sameBits]
theorem jLl(l:List Int):Instr.sameBits 10000 (.agg (l.map (Value.int .i8)).toArray) (.agg (l.map (Value.int .i8)).toArray)=true:=by
 unfold Instr.sameBits;simp only[rP,Bool.true_and];exact jN9 9999 l
def K14:Type:={l:List Int//l.length=14}
instance:DecidableEq K14:=fun a b=>decidable_of_iff (a.1=b.1) ⟨Subtype.ext,fun h=>by rw[h]⟩
def jH7(a:K14):Value:=.agg (a.1.map (Value.int .i8)).toArray
theorem jI1(a:K14)(w:World):∀(l:List (K14×Value×Nat)) (i:Nat),(Instr.findAsking 293 (jH7 a) (l.map fun x=>({key:=jH7 x.1,val:=x.2.1,born:=x.2.2}:MapEntry)) i).run Tryz.prog w= .ok (fnd a l i) w
 |[],i=>rfl
 |x::l,i=>by
  simp only[dY,Instr.findAsking,bJ];have h:=jX4 w _ _ a.2 x.1.2;unfold jH7;rw[h];simp only[aK,fnd];by_cases hx:a=x.1
  ·simp[hx]
  have:¬a.1=_:=fun e=>hx (Subtype.ext e)
  simp[this,hx,sBk,eE,iW];exact jI1 a w l _
def kSt:KeyS Tryz.prog 293 K14 where
 enc:=jH7
 fk a l w:=by
  cases l with
  |nil=>
   simp only[Instr.findKey,bJ,jQ Tryz.underlying293,aK,rA,Instr.findNow];rfl
  |cons x l=>
   have:=jI1 a w (x::l) 0;simp[Instr.findKey,bJ,jQ Tryz.underlying293,aK,dY,Instr.findNow,jH7,Instr.sameNow] at this⊢;omega
 bits a:=jLl a.1
 plain w e a:=jPh w e a.1 a.2
end
section
open Go.Eng Go.Dig Go.Lp
variable{r:Option Nat}{l:List ByteArray}{z:ByteArray}
def eBo(b:Bool):List Value:=[.bool b]
theorem qW8(r:Option Nat):decide (oI r≥0)=r.isSome:=by
 cases r with
 |none=>rfl
 |some k=>exact aD (by show(0:Int)≤k;omega)
theorem jEq{α:Type}{l:List α}{z:α}(h:(r=none∧∀i:Nat,l[i]?≠some z)∨∃i,r=some i∧l[i]? =some z)[Decidable (z∈l)]:r.isSome=decide (z∈l):=by
 rcases h with⟨rfl,h⟩|⟨i,rfl,h⟩
 ·exact(aB fun hm=>by
   obtain⟨i,hi⟩:=fG hm
   grind).symm
 grind
def qA8(l:List ByteArray)(z:ByteArray):Bool:=l.any fun x=>decide (x=z)
theorem qFe:qA8 l z=true↔z∈l:=by
 unfold qA8;simp
theorem jKe(h:(r=none∧∀i:Nat,l[i]?≠some z)∨∃i,r=some i∧l[i]? =some z):r.isSome=qA8 l z:=by
 rcases h with⟨rfl,h⟩|⟨i,rfl,h⟩
 ·cases hm:qA8 l z with
  |false=>rfl
  |true=>
   obtain⟨i,hi⟩:=fG (qFe.1 hm);grind
 exact(qFe.2 (aI h)).symm
attribute [local irreducible] PV StepF wpl wpd WP Ret
attribute [local irreducible] Fit
theorem zAy(l:List ByteArray)(s:Option Addr)(c:Nat)(z:ByteArray)(W:World)(hs:SlAt W 1 eS s l)(hl:l.length≤1000000):
  Rt 228 [.slice s l.length c,.string z] W (fun v w'=>(∃r,v=Iv (oI r)∧((r=none∧∀i:Nat,l[i]?≠some z)∨∃i,r=some i∧l[i]? =some z))∧Keeps [] W w'):=by
 refine tW func228 ntmps228 fun hp=>?_;refine qA (qQ ([4,5]++range' 8 11) (fun(k:Nat) F=>F.put 8 (.int _ k)) (fun k w'=>k≤l.length∧(∀i,i<k→l[i]?≠some z)∧Hp W [] w' []) (fun k=>l.length-k) 0 (qB (Same.eq .refl) O) ⟨O1,fun i h=>O1,hp⟩ ?_);clear hp;rintro u k w1 ⟨hk,fs,hp⟩;refine tI (fun h=>?_) fun h=>?_
 ·have hg:k<l.length:=O1;obtain⟨b,o,rfl,hc⟩:=hs k _ (aA hg);have hc:=hc 0 _ O;refine tI (fun h2=>?_) fun h2=>?_
  ·exact mBu
  exact mBm
 obtain rfl:k=l.length:=O1;refine qA ?_
 exact qM O O ⟨_,O,⟨_,O,.inl ⟨O,fun i=>by
  grind⟩⟩,hp.C⟩
theorem jVv(l:List ByteArray)(s:Option Addr)(c:Nat)(z:ByteArray)(W:World)(hs:SlAt W 1 eS s l)(hl:l.length≤1000000):
  Rk 162 [.slice s l.length c,.string z] W (.bool (qA8 l z)):=by
 refine tW func162 ntmps162 fun hp=>?_;refine tL (zAy l s c z _ O1 hl) ?_;rintro _ w1 ⟨⟨r,rfl,hr⟩,hk⟩;have hp:=hp.call hk;refine wlp (vE O O) (qV ((qW8 r).trans (jKe hr))) (tV ?_);exact mB0
theorem r47(l:List Int)(s:Option Addr)(c:Nat)(z:Int)(W:World)(hs:SlAt W 1 eI s l)(hl:l.length≤1000000):
  Rk 47 [.slice s l.length c,Iv z] W (.bool (decide (z∈l))):=by
 refine tW func47 ntmps47 fun hp=>?_;refine tL (jW0 l s c z _ O1 hl) ?_;exact mBw
theorem zB9(l:List Bool)(s:Option Addr)(c:Nat)(z:Bool)(W:World)(hs:SlAt W 1 eBo s l)(hl:l.length≤1000000):
  Rt 163 [.slice s l.length c,.bool z] W (fun v w'=>(∃r,v=Iv (oI r)∧((r=none∧∀i:Nat,l[i]?≠some z)∨∃i,r=some i∧l[i]? =some z))∧Keeps [] W w'):=by
 refine tW func163 ntmps163 fun hp=>?_;refine qA (qQ ([4,5]++range' 8 11) (fun(k:Nat) F=>F.put 8 (.int _ k)) (fun k w'=>k≤l.length∧(∀i,i<k→l[i]?≠some z)∧Hp W [] w' []) (fun k=>l.length-k) 0 (qB (Same.eq .refl) O) ⟨O1,fun i h=>O1,hp⟩ ?_);clear hp;rintro u k w1 ⟨hk,fs,hp⟩;refine tI (fun h=>?_) fun h=>?_
 ·have hg:k<l.length:=O1;obtain⟨b,o,rfl,hc⟩:=hs k _ (aA hg);have hc:=hc 0 _ O;refine qA (wlp (qQk Tryz.underlying4 O O) (qV (qS2 _ _)) ?_);refine tI (fun h2=>?_) fun h2=>?_
  ·exact mBu
  exact mBm
 obtain rfl:k=l.length:=O1;refine qA ?_
 exact qM O O ⟨_,O,⟨_,O,.inl ⟨O,fun i=>by
  grind⟩⟩,hp.C⟩
theorem r98(l:List Bool)(s:Option Addr)(c:Nat)(z:Bool)(W:World)(hs:SlAt W 1 eBo s l)(hl:l.length≤1000000):
  Rk 98 [.slice s l.length c,.bool z] W (.bool (decide (z∈l))):=by
 refine tW func98 ntmps98 fun hp=>?_;refine tL (zB9 l s c z _ O1 hl) ?_;exact mBw
theorem jOg(l:List Int)(s:Option Addr)(c:Nat)(W:World)(hs:SlAt W 1 eI s l)(hl:l.length≤1000)(e8:s=none→l=[]):
  Rt 159 [.slice s l.length c] W (fun v w'=>∃s' c',v= .slice s' l.length c'∧SVL s' c' l∧Hp W [] w' [qG eI 3 1 s' c' l]):=by
 refine tW func159 ntmps159 fun hp=>?_;refine qA (tR (qLp (zK O).1 O O) ?_);refine qA (xD O (fun h=>?_) (fun h=>?_))
 ·have dr:=e8 (by cases s<;>simp_all);subst dr;refine tV ?_;exact⟨_,O,_,0,O,SVL.nil,hp.k4 eI 3 1⟩
 refine qA ?_;refine tF (jC hp O O O O O O O) fun w1 g hp=>?_;refine qA ?_;refine tFb (qF4 eI l hp 0 O O O O O O (fun _=>O) O O O (hs.j6 hp.C) (fun _=>O) O1) fun w2 s' c'⟨hm,hp⟩=>tV ?_;exact⟨_,O,s',c',O,hm,hp⟩
end
open Go.Eng Go.Dig Go.Lp
variable{α:Type}{n:Nat}{f:Nat→α}{x:α}
structure DW where
 nm:ByteArray
 kd:Int
 rd:Int
 pr:Int
 po:Int
 pi:Int
 sT:Option Addr
 mT:Nat
 cT:Nat
 ro:Bool
 sP:Option Addr
 mP:Nat
 cP:Nat
 cl:Int
 sz:Int
 sQ:Option Addr
 cQ:Nat
 Q:List (ByteArray×Int×Int)
 sB:Option Addr
 mB:Nat
 cB:Nat
def DW.L(d:DW):List Value:=[.string d.nm,Iv d.kd,Iv d.rd,Iv d.pr,Iv d.po,Iv d.pi,.slice d.sT d.mT d.cT,.bool d.ro,.slice d.sP d.mP d.cP,Iv d.cl,Iv d.sz,.slice d.sQ d.Q.length d.cQ,.slice d.sB d.mB d.cB]
def DW.v(d:DW):Value:=.agg d.L.toArray
def eQu(q:ByteArray×Int×Int):List Value:=[.string q.1,Iv q.2.1,Iv q.2.2]
structure EW where
 id:Int
 cl:Int
 fa:Int
 sP:Option Addr
 mP:Nat
 cP:Nat
 sW:Option Addr
 mW:Nat
 cW:Nat
 sG:Option Addr
 cG:Nat
 G:List ByteArray
def eEn(e:EW):List Value:=[Iv e.id,Iv e.cl,Iv e.fa,.slice e.sP e.mP e.cP,.slice e.sW e.mW e.cW,.slice e.sG e.G.length e.cG]
def EW.v(e:EW):Value:=.agg (eEn e).toArray
structure DE(d:DW)(s:Option Addr)(l:List EW)(w:World):Prop where
 q:SlAt w 3 eQu d.sQ d.Q
 e:SlAt w 6 eEn s l
 g:∀x∈l,SlAt w 1 eS x.sG x.G
 lq:d.Q.length≤12
 le:l.length≤40
 lg:∀x∈l,x.G.length≤1000000
theorem DE.j5{d:DW}{s:Option Addr}{l:List EW}{w w':World}(h:DE d s l w)(hk:Keeps [] w w'):DE d s l w':=⟨h.q.j6 hk,h.e.j6 hk,fun x hx=>(h.g x hx).j6 hk,h.lq,h.le,h.lg⟩
def inB(d:DW)(e:EW)(k:Nat):Bool:=qA8 e.G (d.Q.getD k (⟨#[]⟩,0,0)).1
theorem qAn(n:Nat)(x:α):replicate n x=lm n fun _=>x:=by
 apply eF;intro i;by_cases h:i<n
 ·rw[yI h,nE,if_pos h]
 rw[fD (by grind),fD (by rw[qT];omega)]
theorem qTq{k:Nat}:(lm n fun i=>if i<k then f i else x).set k (f k)=lm n fun i=>if i<k+1 then f i else x:=by
 rw[vF];grind
theorem qMf:(lm n fun _=>x)=lm n fun i=>if i<0 then f i else x:=O4
theorem qMe:(lm n fun i=>if i<n then f i else x)=lm n f:=jH fun i h=>by grind
attribute [local irreducible] PV StepF wpl wpd WP Ret
attribute [local irreducible] Fit
theorem jOf(d:DW)(s:Option Addr)(n c:Nat)(W:World)(hq:d.Q.length≤12)(hn:n≤40):
  Rk 186 [d.v,.slice s n c] W (.bool (decide (d.kd=3))):=by
 refine tW func186 ntmps186 fun hp=>?_;refine qR ?_;refine tQ fun w1 b hp=>?_;refine tR qY (qR ?_);refine jM ?_;refine jM ?_;by_cases h3:d.kd=3
 ·have d1:decide ((n:Int)≤40)=_:=aD O1;have d2:decide ((d.Q.length:Int)≤12)=_:=aD O1;refine wlp (zW O O) (qV (aD O1)) (jL ?_);rw[d1];refine jL ?_;rw[d2];exact qM (v:=.bool _) O O ⟨_,O,by grind,hp.C⟩
 refine wlp (zW O O) (qV (aB O1)) (jL ?_);exact qM (v:=.bool _) O O ⟨_,O,by grind,hp.C⟩
theorem jOe(d:DW)(e:EW)(W:World)(hQ:SlAt W 3 eQu d.sQ d.Q)(hG:SlAt W 1 eS e.sG e.G)(hq:d.Q.length≤12)(hg:e.G.length≤1000000):
  Rt 187 [d.v,e.v] W (fun v w'=>∃b,v= .slice (Ad b) d.Q.length d.Q.length∧SVL (Ad b) d.Q.length (lm d.Q.length (inB d e))∧Hp W [] w' [qG eBo 4 1 (Ad b) d.Q.length (lm d.Q.length (inB d e))]):=by
 refine tW func187 ntmps187 fun hp=>?_;refine qR ?_;refine tQ fun w1 b1 hp=>?_;have hp:=hp.norm 0 d.L O O;refine tQ fun w2 b2 hp=>?_;have hp:=hp.norm 0 (eEn e) O O;refine qA ?_;refine tF (yE eBo _ hp O O O O O O O O1 O) fun w3 b⟨hv,hp⟩=>?_;rw[qAn] at hp hv;rw[qMf (f:=inB d e)] at hp;refine qA (qQ ([6,7]++range' 15 14) (fun(k:Nat) F=>F.put 15 (.int _ k)) (fun k w'=>k≤d.Q.length∧Hp W [] w' [qG _ 4 1 _ _ (lm _ fun i=>if i<k then inB d e i else false),blk b2 6 _ 94,blk b1 13 _ 28]) (fun k=>d.Q.length-k) 0 (qB (Same.eq .refl) O) ⟨O1,hp⟩ ?_);clear hp;rintro u k w4 ⟨hk,hp⟩;refine tI (fun h=>?_) fun h=>?_
 ·have hl:k<d.Q.length:=O1;obtain⟨q,hh⟩:∃q,d.Q[k]? =some q:=⟨_,aA hl⟩;have hj:inB d e k=qA8 e.G q.1:=by
   unfold inB;rw[aC,hh];rfl
  obtain⟨bq,oq,gu,hm⟩:=hQ k q hh;have hn:=fun j v hv=>hp.j7 (hm j v hv)
  refine qA (tR (qL O O O O hn) ?_);refine vK fun w b hp=>?_
  refine tD (jVv _ _ _ _ _ (hG.j6 hp.C) hg) fun w5 hp=>?_;refine qA ?_;refine tO (zL _ _ k (inB d e k) hp 1 O (jZ hv (by rw[qT,qT])) (by rw[qT];omega) O (by rw[hj];rfl) (fun _=>O) O O (qD O)) fun w6 hp=>?_;rw[qTq] at hp;exact mAm
 obtain rfl:k=d.Q.length:=O1;rw[qMe] at hp;refine tV ?_;exact⟨_,O,b,O,jZ hv (by rw[qT,qT]),hp.sub (dT _ _)⟩
end Go.Proofs.YtplkndjlfkkjlaaGreatDoor
namespace Go.Eng
open List (range range' replicate)
theorem frL(cs:List Value):(range cs.length).map (qE cs)=cs:=by
 apply eF;intro i;by_cases h:i<cs.length
 ·simp[h,uA]
 simp[h]
theorem qE5:∀(vs:List Value) (f:Fr) (o i:Nat),uT f o vs i=if o≤i∧i<o+vs.length then vs.getD (i-o) undef else f i
 |[],f,o,i=>by simp[uT];omega
 |v::vs,f,o,i=>by
  unfold uT;rw[qE5];simp only[bT];by_cases h:i=o
  ·subst h;rw[if_neg O1,if_pos O1,lW];simp[Fr.put]
  by_cases h2:o+1≤i∧i<o+1+vs.length
  ·grind
  rw[if_neg h2,if_neg O1];simp[Fr.put];cases hb:Nat.beq i o
  ·rfl
  exact absurd (bF hb) h
theorem qIa(cs:List Value)(o:Nat)(v:Value){m:Nat}(h:cs.length=m):(range m).map (uT (qE cs) o [v])=cs.set o v:=by
 apply eF;intro i;by_cases hi:i<m
 ·rw[dF,nD hi,eC,qE5,iB];by_cases e:o=i
  ·grind
  rw[if_neg (by grind),if_neg e,uA];grind
 grind
theorem yJ(f:Fr)(cs:List Value){m:Nat}(h:cs.length=m):(range m).map (uT f 0 cs)=cs:=by
 apply eF;intro i;by_cases hi:i<m
 ·rw[dF,nD hi,eC,qE5,if_pos O1];grind
 grind
theorem Hp.j3{w0 w:World}{M:List Nat}{L:List Ent}(hp:Hp w0 M w L)(i:Nat){b m t:Nat}{cs:List Value}(hi:L[i]? =some (blk b m (qE cs) t))(hl:cs.length=m):∀(j:Nat) (v:Value),cs[j]? =some v→w.cell? ⟨b,0+j,none⟩=some v:=fun j v hv=>by
 have hj:=(aH.1 hv).1;rw[hp.cell i hi (yQ O1),fH,uA,aC,hv];rfl
end Go.Eng
namespace Go.Proofs.YtplkndjlfkkjlaaGreatDoor
open List (range range' replicate)
open Tryz
section
open Go.Eng Go.Dig Go.Lp Go.Qu
def stZ(s:St):List Int:=(s.next:Int)::(s.left:Int)::s.cs
def i8L(l:List Int):List Value:=l.map (Value.int .i8)
theorem vC(l:List Int):(i8L l).length=l.length:=by simp[i8L]
theorem vY(l:List Int):(i8L l).all kM=true:=by
 unfold i8L;rw[List.all_map,cU];exact fun _ _=>O
theorem jF9{l:List Int}{k:Nat}(h:k<l.length):qE (i8L l) k= .int .i8 (l.getD k 0):=by
 rw[uA];simp[i8L,h]
theorem qKv(l:List Int)(k:Nat)(v:Int):(i8L l).set k (.int .i8 v)=i8L (l.set k v):=by
 simp[i8L]
structure SeA where
 sb:Nat
 sI:Option Addr
 cI:Nat
 gi:Nat→Nat
 gR:Nat
 cR:Nat
 sr:Nat→Option Addr
 cr:Nat→Nat
structure SeAt(a:SeA)(d:DW)(f:Q)(w:World):Prop where
 h0:w.cell? ⟨a.sb,0,none⟩=some (.slice d.sQ d.Q.length d.cQ)
 h1:w.cell? ⟨a.sb,1,none⟩=some (.slice a.sI f.N a.cI)
 h2:w.cell? ⟨a.sb,2,none⟩=some (.slice (some ⟨a.gR,0,none⟩) (f.N+1) a.cR)
 q:SlAt w 3 eQu d.sQ d.Q
 hI:SlAt w 1 jO a.sI (lm f.N fun i=>((some ⟨a.gi i,0,none⟩:Option Addr),d.Q.length,d.Q.length))
 rI:∀i,i<f.N→SlAt w 1 eBo (some ⟨a.gi i,0,none⟩) (lm d.Q.length (f.inn i))
 hR:SlAt w 1 jO (some ⟨a.gR,0,none⟩) (lm (f.N+1) fun i=>(a.sr i,d.Q.length,a.cr i))
 rR:∀i,i≤f.N→SlAt w 1 eI (a.sr i) (lm d.Q.length fun k=>(f.rest k (f.N-i):Int))
 fq:f.q=d.Q.map (·.2)
 lq:d.Q.length≤12
 lN:f.N≤40
theorem SeAt.j5{a:SeA}{d:DW}{f:Q}{w w':World}(h:SeAt a d f w)(hk:Keeps [] w w'):SeAt a d f w':=
 ⟨hk.cell h.h0 O4,hk.cell h.h1 O4,hk.cell h.h2 O4,h.q.j6 hk,h.hI.j6 hk,fun i hi=>(h.rI i hi).j6 hk,h.hR.j6 hk,fun i hi=>(h.rR i hi).j6 hk,h.fq,h.lq,h.lN⟩
structure StB(s:St):Prop where
 n:s.next≤40
 l:s.left≤40
 c:s.cs.length=12
 b:∀k,-1≤s.cs.getD k 0∧s.cs.getD k 0≤40
theorem qQa(f:Q)(k:Nat):∀d:Nat,f.rest k d≤d
 |0=>bM _
 |d+1=>by
  have:=qQa f k d;simp only[Q.rest];grind
def stR(o:Option St)(v:Value):Prop:=match o with
 |some t=>v= .tuple #[.agg (i8L (stZ t)).toArray,.bool true]
 |none=>∃l:List Int,l.length=14∧v= .tuple #[.agg (i8L l).toArray,.bool false]
theorem jR{α:Type}{w:World}{k n:Nat}{s:Option Addr}{enc:α→List Value}{g:Nat→α}(h:SlAt w k enc s (lm n g)){i:Nat}(hi:i<n):∃b o,s=some ⟨b,o,none⟩∧∀j v,(enc (g i))[j]? =some v→w.cell? ⟨b,o+i*k+j,none⟩=some v:=h i _ (yI hi)
attribute [local irreducible] PV StepF wpl wpd WP Ret
attribute [local irreducible] Fit
set_option maxHeartbeats 1000000 in
theorem jVi(a:SeA)(d:DW)(f:Q)(s:St)(W:World)(hS:SeAt a d f W)(hs:StB s)(hN:s.next≤f.N):
  Rt 313 [.pointer (some ⟨a.sb,0,none⟩),.agg (i8L (stZ s)).toArray] W (fun v w'=>stR (f.tidy s) v∧Keeps [] W w'):=by
 have hh:∀cs,cs.length=12→(i8L (s.next::s.left::cs)).length=14:=fun cs h=>by
  rw[vC];simp[h]
 have hn:=hs.n;have hl:=hs.l;have hD:=hS.lN;have c1:=hS.h1;have c2:=hS.h2;have c0:=hS.h0;refine tW func313 ntmps313 fun hp=>?_;refine qR ?_;refine tF (kW (cs:=i8L _) hp O O (hh _ hs.c)) fun w1 b3 hp=>tF (zE (cs:=i8L (replicate 14 0)) (m:=14) hp (qJ O) O O) fun w2 b4 hp=>qR ?_;refine tR qY (qR ?_);refine jU jG O3 (fun w'=>Hp W [] w' [blk b4 14 _ 293,blk b3 14 _ 293]) hp.N ?_;have hp:=hp.N;have wl:_=(s.left:Int):=qK O1 O1;have wn:_=(s.next:Int):=qK O1 O1;refine qX ?_;rw[wl,wn];refine tN (f.N-s.next) ?_;refine qX (qU ?_);refine qR (qH O (fun h=>?_) (fun h=>?_))
 ·have ht:f.tidy s=none:=by
   unfold Q.tidy;rw[if_pos O1]
  refine qR (wlp (qL O O O (hh _ hs.c) (hp.j3 1 O (hh _ hs.c))) O ?_);refine tO (zH (cs:=i8L _) hp 0 O O O O (by rw[hh _ hs.c];exact qD O) (by rw[hh _ hs.c];rfl) (vY _)) fun w3 hp=>?_;have hp:=hp.norm 0 _ O (yJ _ _ (hh _ hs.c));refine qA ?_;exact⟨_,uN O O O O O (hh _ hs.c) (hp.j3 0 O (hh _ hs.c)),⟨_,O,by rw[ht];exact⟨_,by simp[hs.c],O⟩,hp.C⟩⟩
 have yw:¬s.left>f.N-s.next:=O1;have yh:s.next<f.N+1:=O1;obtain⟨b0,o0,e0,cR⟩:=jR hS.hR yh;cases e0;have cR:=cR 0 _ O;refine qA (qQ ([5,6,7,8,9]++range' 29 57) (fun(p:Nat×List Int) F=>F.put 29 (Iv (p.1:Int))) (fun p w'=>p.1≤d.Q.length∧p.2.length=12∧(∀k,-1≤p.2.getD k 0∧p.2.getD k 0≤40)∧f.p5 s.next s.left p.1 (f.q.drop p.1) p.2=f.p5 s.next s.left 0 f.q s.cs∧
  Hp W [] w' [blk b4 14 (qE (i8L (replicate 14 0))) 293,blk b3 14 (qE (i8L ((s.next:Int)::(s.left:Int)::p.2))) 293]) (fun p=>d.Q.length-p.1) (0,s.cs) (qB (Same.eq .refl) O) ⟨bN _,hs.c,hs.b,O,hp⟩ ?_)
 clear hp;rintro u ⟨k,cs⟩ w3 ⟨hk,hj,hb,hx,hp⟩;have hk:k≤_:=hk;have hj:cs.length=12:=hj;have hb:∀k,-1≤cs.getD k 0∧cs.getD k 0≤40:=hb;have hx:f.p5 _ _ k (f.q.drop k) cs=_:=hx;have hp:Hp W [] w3 [_,blk b3 14 (qE (i8L (s.next::s.left::cs))) 293]:=hp;have hy:f.tidy s=(f.p5 s.next s.left k (f.q.drop k) cs).map fun cs=>{s with cs:=cs}:=by
  unfold Q.tidy;rw[if_neg yw,hx]
 refine tI (fun h=>?_) fun h=>?_
 ·have hg:k<d.Q.length:=O1;have h8:k<12:=by have:=hS.lq;omega
  obtain⟨⟨gn,lo,hi⟩,hm⟩:∃q,d.Q[k]? =some q:=⟨_,aA hg⟩;obtain⟨bq,oq,gu,hq⟩:=hS.q k _ hm;have h6:f.q.drop k=(lo,hi)::f.q.drop (k+1):=by
   have:f.q[k]? =some (lo,hi):=by rw[hS.fq,dF,hm];rfl
   obtain⟨h1,h2⟩:=aH.1 this;rw[aX h1,h2]
  rw[h6] at hy hx;simp only[Q.p5] at hy hx;refine qA (tR (qL O O O O (fun j v hv=>hp.j7 (hq j v hv))) ?_);refine vK fun w b hp=>?_
  have hp:=hp.norm 0 (eQu _) O O;have em:=hb k;have wc:_=cs.getD k 0:=qK O1 O1;have hz:∀{w':World} {q:Ent},Hp W [] w' [q,blk b4 14 (qE (i8L (replicate 14 0))) 293,blk b3 14 (qE (i8L ((s.next:Int)::(s.left:Int)::cs))) 293]→w'.cell? ⟨b3,0+2+k*1,none⟩=some (.int .i8 (cs.getD k 0)):=fun hp=>by
   have:=hp.j3 2 O (hh _ hj) (k+1+1) (.int .i8 (cs.getD k 0)) (by
    simp[i8L,show k<cs.length by omega])
   grind
  have hE:=hz hp;refine tI (fun h1=>?_) fun h1=>?_
  ·rw[if_pos h1] at hx;refine gA0 ?_;exact mCp
  rw[if_neg h1] at hy hx;refine qA ?_;rw[wc];refine qA ?_;obtain⟨br,or',jv,h7⟩:=jR (hS.rR _ hN) hg;have h7:=h7 0 _ O;have h7:W.cell? ⟨br,or'+k*1,_⟩=_:=h7;have ye:=qQa f k (f.N-s.next);have ea:min (f.rest k (f.N-s.next):Int) s.left=(min (f.rest k (f.N-s.next)) s.left:Nat):=O1;refine jU jG O3 (fun w'=>Hp W [] w' [blk b 3 _ 33,_,_]) hp.N ?_;have hp:=hp.N;refine qX ?_;rw[wl];refine qX ?_;refine tA ?_;rw[ea];refine qX (qU ?_);refine qR ?_;obtain⟨mr,h9⟩:∃mr,mr=min (f.rest k (f.N-s.next)) s.left:=⟨_,O⟩;rw[←h9];rw[←h9] at hx hy;have no:∀{b':Bool},(_∨_)→f.tidy s=none:=fun{_} h=>by rw[hy,if_pos h];rfl
  by_cases h2:hi<cs.getD k 0
  ·have d1:decide (cs.getD k 0>hi)=_:=aD h2;have ht:=no (b':=true) O1;refine jL ?_;rw[d1];refine jL (jB O ?_);refine qR (wlp (qL O O O (hh _ hj) (hp.j3 2 O (hh _ hj))) O ?_);refine tO (zH (cs:=i8L _) hp 1 O O O O (by rw[hh _ hj];exact qD O) (by rw[hh _ hj];rfl) (vY _)) fun w4 hp=>?_;have hp:=hp.norm 1 _ O (yJ _ _ (hh _ hj));refine qA ?_;exact⟨_,uN (vs:=i8L ((s.next:Int)::(s.left:Int)::cs)) O O O O O (hh _ hj) (hp.j3 1 O (hh _ hj)),⟨_,O,by rw[ht];exact⟨_,by grind,O⟩,hp.C⟩⟩
  have d1:decide (cs.getD k 0>hi)=_:=aB h2;refine jL ?_;rw[d1];refine jL (qH O (fun h3=>?_) (fun h3=>?_))
  ·have ht:=no (b':=true) (.inr h3);refine qR (wlp (qL O O O (hh _ hj) (hp.j3 2 O (hh _ hj))) O ?_);refine tO (zH (cs:=i8L _) hp 1 O O O O (by rw[hh _ hj];exact qD O) (by rw[hh _ hj];rfl) (vY _)) fun w4 hp=>?_;have hp:=hp.norm 1 _ O (yJ _ _ (hh _ hj));refine qA ?_;exact⟨_,uN O O O O O (hh _ hj) (hp.j3 1 O (hh _ hj)),⟨_,O,by rw[ht];exact⟨_,by grind,O⟩,hp.C⟩⟩
  have h3:¬(_<lo):=h3;rw[if_neg O1] at hx hy;refine qR ?_;by_cases h4:lo≤cs.getD k 0
  ·have d2:decide (cs.getD k 0≥lo)=_:=aD h4;refine jL ?_;rw[d2];refine jL (qH O (fun h5=>?_) (fun h5=>?_))
   ·rw[if_pos ⟨h4,h5⟩] at hx hy;refine qA (tO (jD (c0:=.int _ _) (o:=0+2+k*1) hp 2 O O O O (qD O) (nS O1)) fun w5 hp=>?_)
    have hp:=hp.norm 2 (i8L (s.next::s.left::cs.set k _)) O (by
     rw[qIa _ _ _ (hh _ hj),qKv,show 0+2+k*1=k+1+1 by omega]
     rfl)
    refine gA0 ?_;refine⟨(k+1,cs.set k _),qB O5 O,⟨O1,by grind,fun j=>?_,hx,hp.H⟩,O1⟩;rw[qIj _ _ _ _ O1];grind
   rw[if_neg (fun h=>h5 h.2)] at hx hy;refine gA0 ?_;exact mCp
  have d2:decide (cs.getD k 0≥lo)=_:=aB h4;rw[if_neg O1] at hx hy;refine jL ?_;rw[d2];refine gAh ?_;exact mCp
 obtain rfl:d.Q.length=k:=O1;have h6:f.q.drop d.Q.length=[]:=by
  rw[List.drop_eq_nil_iff,hS.fq];simp
 rw[h6] at hy;refine qR (wlp (qL (vs:=i8L ((s.next:Int)::(s.left:Int)::cs)) O O O (hh _ hj) (hp.j3 1 O (hh _ hj))) (O:_=Value.agg (i8L ((s.next:Int)::(s.left:Int)::cs)).toArray) ?_);refine tO (zH (cs:=i8L _) hp 0 O O O O (by rw[hh _ hj];exact qD O) (by rw[hh _ hj];rfl) (vY _)) fun w9 hp=>?_;have hp:=hp.norm 0 _ O (yJ _ _ (hh _ hj));refine qA ?_;exact⟨_,uN O O O O O (hh _ hj) (hp.j3 0 O (hh _ hj)),⟨_,O,by rw[hy];rfl,hp.C⟩⟩
end
section
open Go.Eng Go.Dig Go.Lp Go.Qu
theorem qYs{z:Int}(h1:-128≤z)(h2:z≤127):IntKind.i8.wrap z=z:=by
 have e:IntKind.i8.wrap z=if z%256≥128 then z%256-256 else z%256:=by
  unfold IntKind.wrap;simp[IntKind.bits,IntKind.signed]
 omega
theorem qHa{o:Option St}{v:Value}(h:stR o v)(hc:∀t,o=some t→t.cs.length=12):∃l:List Int,l.length=14∧v= .tuple #[.agg (i8L l).toArray,.bool o.isSome]∧∀t,o=some t→l=stZ t:=by
 cases o with
 |none=>
  obtain⟨l,h1,h2⟩:=h;grind
 |some t=>exact⟨_,by simp[stZ,hc],h,fun t' h=>by grind⟩
theorem jNu{o:Option St}{l:List Int}(hl:l.length=14)(h:∀t,o=some t→l=stZ t):stR o (.tuple #[.agg (i8L l).toArray,.bool o.isSome]):=by
 cases o with
 |none=>exact⟨l,hl,O⟩
 |some t=>rw[h t O];rfl
theorem jNa{f:Q}(i:Nat)(cs:List Int):∀k,k≤cs.length→∀j,(f.add i k cs).getD j 0=cs.getD j 0∨(f.add i k cs).getD j 0=cs.getD j 0+1:=fun k hk j=>by
 rw[qNi i k cs hk j];split
 ·exact .inr O
 exact .inl O
attribute [local irreducible] PV StepF wpl wpd WP Ret
attribute [local irreducible] Fit
set_option maxHeartbeats 1000000 in
theorem jAr(a:SeA)(d:DW)(f:Q)(s:St)(take:Bool)(W:World)(hS:SeAt a d f W)(hs:StB s)(hy:∀k,s.cs.getD k 0≤39)(hN:s.next<f.N)(h0:0<s.left):
  Rt 226 [.pointer (some ⟨a.sb,0,none⟩),.agg (i8L (stZ s)).toArray,.bool take] W (fun v w'=>stR (f.k9 s take) v∧Keeps [] W w'):=by
 have hh:∀(n l:Int) (cs:List _),cs.length=12→(i8L (n::l::cs)).length=14:=fun n l cs h=>by
  rw[vC];simp[h]
 have hn:=hs.n;have hl:=hs.l;have hD:=hS.lN;have hm:=hS.lq;have c1:=hS.h1;have h6:f.q.length=d.Q.length:=by rw[hS.fq,aM]
 refine tW func226 ntmps226 fun hp=>?_;refine qR ?_;refine tF (kW (cs:=i8L _) hp O O (hh _ _ _ hs.c)) fun w1 b3 hp=>tF (zE (cs:=i8L (replicate 14 0)) (m:=14) hp (qJ O) O O) fun w2 b4 hp=>?_;have hp:Hp W [] w2 [blk b4 14 _ 293,blk b3 14 (qE (i8L (_::_))) 293]:=hp;refine qR ?_;refine tR qY (qR ?_);refine tR qP (qR ?_)
 refine qAy (fun F' w'=>∃(l':Nat) (ca:List _),(f.k9 s take=f.tidy {next:=s.next+1,left:=l',cs:=ca})∧l'≤40∧ca.length=12∧(∀k,-1≤ca.getD k 0∧ca.getD k 0≤40)∧qAb F' [(0,.pointer (some ⟨a.sb,0,none⟩)),(4,.pointer (Ad b3)),(6,.pointer (Ad b4))]∧
   Hp W [] w' [blk b4 14 (qE (i8L (replicate 14 0))) 293,blk b3 14 (qE (i8L (s.next::l'::ca))) 293]) ?_ ?_
 ·cases take with
  |false=>
   refine qN O (qR ?_);exact⟨_,_,O,hl,hs.c,hs.b,⟨O,O,O,trivial⟩,hp⟩
  |true=>
   refine jB O (qA ?_);refine wlp (jN O O) (qF (b:=(s.left-1:Nat)) (by rw[qYs O1 O1];omega)) (qA ?_);refine tO (jD (c0:=.int _ (s.left-1:Nat)) (o:=0+1) hp 1 O O O O (qD O) O) fun w3 hp=>?_
   have hp:=hp.norm 1 (i8L (s.next::(s.left-1:Nat)::s.cs)) O (by
    rw[qIa _ _ _ (hh _ _ _ hs.c),qKv]
    rfl)
   have hp:Hp W [] w3 [_,_]:=hp;obtain⟨bi,oi,hH,cI⟩:=jR hS.hI hN;have cI:=cI 0 _ O;have cI:W.cell? ⟨bi,oi+_,_⟩=some (.slice (some _) d.Q.length d.Q.length):=cI;refine qR ?_;refine jU jG O3 (fun w'=>Hp W [] w' _) hp.N ?_;have hp:=hp.N;refine qX (qU ?_);refine qR (qQ ([8,9]++range' 24 21) (fun(k:Nat) F=>F.put 24 (Iv (k:Int))) (fun k w'=>k≤d.Q.length∧Hp W [] w' [blk b4 14 (qE (i8L (replicate 14 0))) 293,blk b3 14 (qE (i8L ((s.next:Int)::((s.left-1:Nat):Int)::f.add s.next k s.cs))) 293]) (fun k=>d.Q.length-k) 0 (qB (Same.eq .refl) O) ⟨bN _,hp⟩ ?_);clear hp;rintro u k w4 ⟨hk,hp⟩;have hj:(f.add s.next k s.cs).length=12:=by rw[qGl];exact hs.c
   refine tI (fun h=>?_) fun h=>?_
   ·have hg:k<d.Q.length:=O1;have h8:k<12:=O1;have hq:W.cell? ⟨_,0+k*1,_⟩=_:=zM (hS.rI _ hN) hg 0 _ O;have h4:(f.add s.next k s.cs).getD k 0=s.cs.getD k 0:=by
     rw[qNi _ _ _ (by have:=hs.c;omega),if_neg O1]
    have em:=hs.b k;have h7:=hy k;have hz:=by
     have:=hp.j3 1 O (hh _ _ _ hj) (k+1+1) (.int .i8 (s.cs.getD k 0)) (by
      rw[←h4]
      simp[i8L,show k<(f.add s.next k s.cs).length by omega])
     rwa[show 0+(k+1+1)=0+2+k*1 by omega] at this
    have h5:f.add s.next (k+1) s.cs=if f.inn s.next k&&decide (s.cs.getD k 0≠-1) then(f.add s.next k s.cs).set k (s.cs.getD k 0+1) else f.add s.next k s.cs:=by
     simp only[Q.add,h4]
    have next:∀(b':Bool),(_&&_)=b'→(b'=false→f.add _ _ _=f.add s.next k s.cs)∧(b'=true→f.add _ _ _=(f.add s.next k s.cs).set k (s.cs.getD k 0+1)):=fun b' e=>by
     rw[h5,e];cases b'<;>simp
    refine qA ?_;cases hi:f.inn s.next k with
    |false=>
     have e:=(next _ (by grind)).1 O;exact mEn
    |true=>
     by_cases h1:s.cs.getD k 0= -1
     ·have d1:(!decide (s.cs.getD k 0= -1))=false:=by rw[aD h1];rfl
      have e:=(next _ (by grind)).1 O;rw[d1];exact mEn
     have d1:(!decide (s.cs.getD k 0= -1))=true:=by rw[aB h1];rfl
     have e:=(next _ (by grind)).2 O;rw[d1];refine jB O ?_;refine qA ?_;refine wlp (qO O O) (qF (qYs O1 O1)) (qA ?_);refine tO (jD (c0:=.int _ _) (o:=0+2+k*1) hp 1 O O O O (qD O) (nS O1)) fun w5 hp=>?_
     have hp:=hp.norm 1 (i8L (s.next::(s.left-1:Nat)::f.add _ _ _)) O (by
      rw[qIa _ _ _ (hh _ _ _ hj),qKv,show 0+2+k*1=k+1+1 by omega,e]
      rfl)
     exact mB9
   obtain rfl:d.Q.length=k:=O1;refine qA ?_;refine⟨_,_,?_,O1,hj,fun k=>?_,⟨O,O,O,trivial⟩,hp⟩
   ·unfold Q.k9;grind
   have:=hs.b k;have:=hy k;have:=jNa (f:=f) s.next s.cs d.Q.length (by have:=hs.c;omega) k;omega
 rintro F' w5 ⟨l',ca,xy,h3,bC,jn,hF,hp⟩;refine yL _ hF ?_;intro F0;refine qA ?_;refine wlp (qO O O) (qF (b:=(s.next+1:Nat)) (by rw[qYs O1 O1];omega)) (qA ?_);refine tO (jD (c0:=.int _ (s.next+1:Nat)) (o:=0+0) hp 1 O O O O (qD O) O) fun w6 hp=>?_
 have hp:=hp.norm 1 (i8L (stZ {next:=s.next+1,left:=l',cs:=ca})) O (by
  rw[qIa _ _ _ (hh _ _ _ bC),qKv]
  rfl)
 have h14:(i8L (stZ {next:=s.next+1,left:=l',cs:=ca})).length=14:=hh _ _ _ bC;refine qR ?_;refine tR qP (wlp (qL O O O h14 (hp.j3 1 O h14)) O ?_);refine tK (jVi a d f {next:=s.next+1,left:=l',cs:=ca} _ (hS.j5 hp.C) ⟨by grind,h3,bC,jn⟩ hN) ?_;rintro v w7 ⟨hv,hk⟩;have hp:=hp.call hk;rw[←xy] at hv;have hP:∀t,f.k9 s _=some t→t.cs.length=12:=fun t ht=>by
  rw[xy] at ht;have:=(wJ (by grind) ht).2.2.1;grind
 obtain⟨l,zh,rfl,oy⟩:=qHa hv hP;have hx:(i8L l).length=14:=by rw[vC];exact zh
 refine qA ?_;refine tO (zH (cs:=i8L l) hp 0 O O O O (by rw[hx];exact qD O) (by rw[hx];rfl) (vY _)) fun w8 hp=>?_;have hp:=hp.norm 0 _ O (yJ _ _ hx);refine qA ?_;exact⟨_,uN O O O O O hx (hp.j3 0 O hx),⟨_,O,jNu zh oy,hp.C⟩⟩
end
open Go.Eng Go.Dig Go.Lp Go.Qu
instance:Inhabited EW:=⟨⟨0,0,0,none,0,0,none,0,0,none,0,[]⟩⟩
def qOf(d:DW)(l:List EW)(o:List Nat):Q:=⟨o.length,d.Q.map (·.2),fun i k=>inB d (l.getD (o.getD i 0) default) k⟩
def st0(d:DW):St:=⟨0,d.sz.toNat,replicate 12 0⟩
def hR(N nq j:Nat)(sR:Nat→Option Addr)(cR:Nat→Nat):List (Option Addr×Nat×Nat):=lm (N+1) fun i=>if N-j≤i then(sR (N-i),nq,cR (N-i)) else(none,0,0)
def qCy(f:Q)(nq:Nat)(sR:Nat→Option Addr)(cR:Nat→Nat)(t:Nat):Ent:=qG eI 3 1 (sR t) (cR t) (lm nq fun k=>(f.rest k t:Int))
def qE3(f:Q)(nq:Nat)(gi:Nat→Nat)(i:Nat):Ent:=qG eBo 4 1 (some ⟨gi i,0,none⟩) nq (lm nq (f.inn i))
def hI(N nq:Nat)(gi:Nat→Nat):List (Option Addr×Nat×Nat):=lm N fun i=>(some ⟨gi i,0,none⟩,nq,nq)
attribute [local irreducible] PV StepF wpl wpd WP Ret
attribute [local irreducible] Fit
theorem qA0{n:Nat}{F:Fr}{w:World}{fn:Func}{p ty b o k t u:Nat}{vs:List Value}{v2 v3:Value}(h:fn.results= #[.tmp u,.cell p ty,.tmp t])(h1:qCc ty=some k)(hz:qBu ty=some k)(hx:ev n F (.tmp p)= .pointer (some ⟨b,o,none⟩))(s8:ev n F (.tmp t)=v2)(hg:ev n F (.tmp u)=v3)(hl:vs.length=k)
  (hc:∀(j:Nat) (v:Value),vs[j]? =some v→w.cell? ⟨b,o+j,none⟩=some v):(results fn (act n F).tmps).run Tryz.prog w= .ok (.tuple #[v3,.agg vs.toArray,v2]) w:=by
 obtain⟨q,hq,tc⟩:=qDm h1;have hk:=qD hz;subst hl;have:=vN (P:=Tryz.prog) b o vs 0 #[] (fun j v hv=>by simpa using hc j v hv);have en:=by
  have:(act n F).tmps.getD p undef= .pointer (some ⟨b,o,none⟩):=by
   rw[←hx,←zF];rfl
  exact mCe
 have eo:=by
  have:(act n F).tmps.getD t undef=v2:=by
   rw[←s8,←zF];rfl
  exact mCe
 have uu:=by
  have:(act n F).tmps.getD u undef=v3:=by
   rw[←hg,←zF];rfl
  exact mCe
 simp[results,h,en,eo,uu,asAddr,loadVar,qF5 hq tc,loadCells,hk.run,this]
theorem jKy(v:Int):Instr.fill ((#[(0,1),(1,1),(2,12)]:Array (Nat×Nat))[·]?) (i8L (replicate 14 0)).toArray [(1,.int .i8 v)]=some (i8L (0::v::replicate 12 0)).toArray:=by
 simp[Instr.fill,Value.cells,i8L]
theorem jVx(n:Nat)(f:Nat→Int)(s:Option Addr)(c:Nat)(W:World)(hs:SlAt W 1 eI s (lm n f))(hl:n≤1000)(e8:s=none→lm n f=[]):
  Rt 159 [.slice s n c] W (fun v w'=>∃s' c',v= .slice s' n c'∧SVL s' c' (lm n f)∧Hp W [] w' [qG eI 3 1 s' c' (lm n f)]):=by
 have h:=jOg _ s c W hs (by rw[qT];exact hl) e8;rw[qT] at h;exact h
set_option maxHeartbeats 2000000 in
theorem zB0(d:DW)(s so:Option Addr)(c co:Nat)(l:List EW)(o:List Nat)(W:World)(hD:DE d s l W)(ho:SlAt W 1 eN so o)(hL:o.length=l.length)(hF:∀x∈o,x<l.length)(hz:0≤d.sz)(uu:d.sz≤l.length):
  Rt 223 [d.v,.slice s l.length c,.slice so o.length co] W (fun v w'=>∃(a:SeA) (la:List Int),v= .tuple #[.pointer (some ⟨a.sb,0,none⟩),.agg (i8L la).toArray,.bool ((qOf d l o).tidy (st0 d)).isSome]∧la.length=14∧(∀t,(qOf d l o).tidy (st0 d)=some t→la=stZ t)∧SeAt a d (qOf d l o) w'∧Keeps [] W w'∧∀i,i<o.length→W.heap.size≤a.gi i):=by
 have hy:=hD.lq;have yw:=hD.le;have hN:(qOf d l o).N=o.length:=O;refine tW func223 ntmps223 fun hp=>?_;refine qR ?_;refine tQ fun w1 bd hp=>?_;have hp:=hp.norm 0 d.L O O;refine qR ?_;refine wlp qY (O:_=Value.pointer none) ?_;refine tF (zE (cs:=i8L (replicate 14 0)) (m:=14) hp (qJ O) O O) fun w2 b7 hp=>?_;have hp:Hp W [] w2 [blk b7 14 (qE (i8L (replicate 14 0))) 293,blk bd 13 (qE d.L) 28]:=hp;refine qR ?_;refine tR qY ?_;refine qR ?_;have d1:decide (d.sz<0)=false:=aB O1;have d2:decide (d.sz>(l.length:Int))=false:=aB O1;refine jL ?_;rw[d1];refine jL ?_;rw[d2];refine jL ?_;refine qN O ?_;refine qR ?_;refine jU jG O3 (fun w'=>Hp W [] w' [blk b7 14 (qE (i8L (replicate 14 0))) 293,blk bd 13 (qE d.L) 28]) hp.N ?_;have hp:=hp.N;refine qX ?_;refine tN (o.length+1) ?_;apply wds;exact O;exact yE jO (none,0,0) hp O O O O O O O O1 O;rintro _ w3 ⟨gR,rfl,hQ,hp⟩;refine⟨hp.H,?_⟩;refine qX ?_;apply wds;exact O;exact qBw hp O;rintro _ w4 ⟨sb,rfl,hp⟩;refine⟨hp.H.H,?_⟩;have hp:=hp.norm 0 [.slice d.sQ d.Q.length d.cQ,Zs,.slice (Ad gR) (o.length+1) (o.length+1)] O O;refine gAf ?_;refine qR ?_;have hp:Hp W [] _ [blk sb 3 (qE [.slice d.sQ d.Q.length d.cQ,Zs,.slice (Ad gR) (o.length+1) (o.length+1)]) 384,qG jO 22 1 (Ad gR) (o.length+1) (replicate (o.length+1) ((none:Option Addr),0,0)),blk b7 14 (qE (i8L (replicate 14 0))) 293,blk bd 13 (qE d.L) 28]:=hp;rw[qAn] at hp hQ;have sc:∀g:Nat→Option Addr×Nat×Nat,SVL (Ad gR) (o.length+1) (lm (o.length+1) g):=fun g=>jZ hQ (by rw[qT,qT])
 refine jU jG O3 (fun w'=>Hp W [] w' [blk sb 3 (qE [.slice d.sQ d.Q.length d.cQ,Zs,.slice (Ad gR) (o.length+1) (o.length+1)]) 384,qG jO 22 1 (Ad gR) (o.length+1) (lm (o.length+1) fun _=>((none:Option Addr),0,0)),blk b7 14 (qE (i8L (replicate 14 0))) 293,blk bd 13 (qE d.L) 28]) hp.N ?_;have hp:=hp.N;have xj:o.length<o.length+1:=O1;refine qX ?_;apply wds;exact O;exact yE eI 0 hp O O O O O O O O1 O;rintro _ w5 ⟨r0,rfl,s6,hp⟩;refine⟨hp.H,?_⟩;refine qX ?_;apply xH;exact O;exact O;exact zL jO (lm (o.length+1) fun _=>((none:Option Addr),0,0)) o.length (Ad r0,d.Q.length,d.Q.length) hp 2 O (sc _) (by rw[qT];omega) O O (fun _=>O) O O (qD O);rintro _ w6 ⟨rfl,hp⟩;refine qU ?_;rw[qAn] at hp s6;have hp:Hp W [] w6 ([blk sb 3 (qE [.slice d.sQ d.Q.length d.cQ,Zs,.slice (Ad gR) (o.length+1) (o.length+1)]) 384,qG jO 177 1 none 0 (hI 0 d.Q.length (fun _=>0)),qG jO 22 1 (Ad gR) (o.length+1) (hR o.length d.Q.length 0 (fun _=>Ad r0) fun _=>d.Q.length),blk b7 14 (qE (i8L (replicate 14 0))) 293,blk bd 13 (qE d.L) 28,qCy (qOf d l o) d.Q.length (fun _=>Ad r0) (fun _=>d.Q.length) 0]++lm 0 (qE3 (qOf d l o) d.Q.length (fun _=>0))):=by
  have e:(lm (o.length+1) fun _=>((none:Option Addr),0,0)).set o.length (Ad r0,d.Q.length,d.Q.length)=hR o.length d.Q.length 0 (fun _=>Ad r0) fun _=>d.Q.length:=by
   rw[vF];refine jH fun i hi=>?_
   by_cases h:i=o.length
   ·rw[if_pos h,if_pos O1]
   rw[if_neg h,if_neg O1]
  rw[←e];exact(hp.k4 jO 177 1).k5 [2,0,3,4,5,1] _ O O
 refine qA ?_;refine qQ ([11]++range' 49 20) (fun(k:Nat) F=>F.put 49 (Iv (k:Int))) (fun k w'=>k≤o.length∧∃sI cI gi,SVL sI cI (hI k d.Q.length gi)∧Hp W [] w' ([blk sb 3 (qE [.slice d.sQ d.Q.length d.cQ,.slice sI k cI,.slice (Ad gR) (o.length+1) (o.length+1)]) 384,qG jO 177 1 sI cI (hI k d.Q.length gi),qG jO 22 1 (Ad gR) (o.length+1) (hR o.length d.Q.length 0 (fun _=>Ad r0) fun _=>d.Q.length),blk b7 14 (qE (i8L (replicate 14 0))) 293,blk bd 13 (qE d.L) 28,qCy (qOf d l o) d.Q.length (fun _=>Ad r0) (fun _=>d.Q.length) 0]++lm k (qE3 (qOf d l o) d.Q.length gi))) (fun k=>o.length-k) 0 (qB (Same.eq .refl) O) ⟨bN _,none,0,fun _=>0,SVL.nil,hp⟩ ?_;clear hp;rintro u k w7 ⟨hk,sI,cI,gi,xa,hp⟩;refine tI (fun h=>?_) fun h=>?_
 ·have hl:k<o.length:=O1;obtain⟨x,hx⟩:∃x,o[k]? =some x:=⟨_,aA hl⟩;have hh:x<l.length:=hF x (aI hx);obtain⟨e,he⟩:∃e,l[x]? =some e:=⟨_,aA hh⟩;obtain⟨bo,oo,hY,hV⟩:=ho k x hx;have hV:=hV 0 _ O;have hV:W.cell? ⟨bo,oo+k*1,none⟩=some (Iv (x:Int)):=hV;obtain⟨be,oe,hM,h8⟩:=hD.e x e he;have x4:=hD.g e (aI he);have oj:=hD.lg e (aI he);have h4:(qOf d l o).inn k=inB d e:=by
   funext q;show inB d (l.getD (o.getD k 0) default) q=_
   rw[aC (l:=o),hx];show inB d (l.getD x default) q=_
   rw[aC,he];rfl
  refine qA ?_;have q1:=hp;have hq:([blk sb 3 (qE [.slice d.sQ d.Q.length d.cQ,.slice sI k cI,.slice (Ad gR) (o.length+1) (o.length+1)]) 384,qG jO 177 1 sI cI (hI k d.Q.length gi),qG jO 22 1 (Ad gR) (o.length+1) (hR o.length d.Q.length 0 (fun _=>Ad r0) fun _=>d.Q.length),blk b7 14 (qE (i8L (replicate 14 0))) 293,blk bd 13 (qE d.L) 28,qCy (qOf d l o) d.Q.length (fun _=>Ad r0) (fun _=>d.Q.length) 0]++lm k (qE3 (qOf d l o) d.Q.length gi))[1]? =some (qG jO 177 1 sI cI (hI k d.Q.length gi)):=O;have cH:w7.cell? ⟨sb,1,none⟩=some (.slice sI k cI):=hp.cell 0 O O;have cD:∀(j:Nat) (v:Value),d.L[j]? =some v→w7.cell? ⟨bd,0+j,none⟩=some v:=hp.j3 4 O O;have aa:sb∉zG [qG jO 177 1 sI cI (hI k d.Q.length gi)]:=hp.k7 hq (j:=0) O O1 O;have ab:bd∉zG [qG jO 177 1 sI cI (hI k d.Q.length gi)]:=hp.k7 hq (j:=4) O O1 O;have hZ:(hI k d.Q.length gi).length=k:=qT;have hp:=q1.k6 1 hq;have xk:=q1.C;refine xL 15 O jG O3 (fun w'=>Keeps (zG [qG jO 177 1 sI cI (hI k d.Q.length gi)]) w7 w'∧Keeps [] W w') ⟨hp.N.C,(q1.j8 1 hq hp.N).keeps⟩ ?_;have hp:=hp.N;refine qX ?_;apply wdp;exact O;intro w hk;exact qS O O (hk.1.cell cH aa);exact fS O;apply wdp;exact O;intro w hk;exact qL (vs:=d.L) O O O O (fun j v hv=>hk.1.cell (cD j v hv) ab);exact(O:_=d.v);refine qX ?_;apply wdp;exact O;intro w hk;exact qL (vs:=eEn e) O O O O (fun j v hv=>hk.2.cell (h8 j v hv) O4);exact(O:_=e.v);refine tK (jOe d e _ (hD.q.j6 (q1.j8 1 hq hp).keeps) (x4.j6 (q1.j8 1 hq hp).keeps) hy oj) ?_;rintro _ w8 ⟨b',rfl,hH,hpo⟩;have hp:=hp.join hpo;clear hpo;refine⟨⟨hp.C,(q1.j8 1 hq hp.H).keeps⟩,?_⟩;apply wds;exact O;exact jC (cs:=[.slice (Ad b') d.Q.length d.Q.length]) hp O O O O O O O;rintro _ w9 ⟨b2,rfl,hp⟩;refine⟨⟨hp.C,(q1.j8 1 hq hp.H.H).keeps⟩,?_⟩;apply wds;exact O;exact jV jO (hI k d.Q.length gi) (Ad b',d.Q.length,d.Q.length) hp 2 0 O O O O O O (fun _=>O) (by rw[hZ];rfl) O O xa O O (by rw[hZ];omega);rintro _ ur ⟨sd,ce,rfl,xb,hp⟩;refine⟨⟨hp.C,(q1.j8 1 hq hp.H.H).keeps⟩,?_⟩;refine gAf ?_;have hp:=hp.H.perm (iM _ _ _);have hp:=q1.aA0 1 hq hp;have hJ:(hI k d.Q.length gi++[((Ad b':Option Addr),d.Q.length,d.Q.length)]).length=k+1:=by
   rw[aY,hZ];rfl
  rw[hJ];refine StepF.mono (jD hp 0 O O O O (qD O) O) ?_;rintro _ gg ⟨rfl,hp⟩;have hp:=hp.norm 0 [.slice d.sQ d.Q.length d.cQ,.slice sd (k+1) ce,.slice (Ad gR) (o.length+1) (o.length+1)] O O;have eI:hI k d.Q.length gi++[((Ad b':Option Addr),d.Q.length,d.Q.length)]=hI (k+1) d.Q.length (fun i=>if i=k then b' else gi i):=by
   unfold hI;rw[lm_succ];congr 1
   ·exact jH fun i hi=>by simp only[if_neg (show¬i=k by omega)]
   simp
  rw[eI] at xb;have hp:Hp W [] gg ([blk sb 3 (qE [.slice d.sQ d.Q.length d.cQ,.slice sd (k+1) ce,.slice (Ad gR) (o.length+1) (o.length+1)]) 384,qG jO 177 1 sd ce (hI (k+1) d.Q.length (fun i=>if i=k then b' else gi i)),qG jO 22 1 (Ad gR) (o.length+1) (hR o.length d.Q.length 0 (fun _=>Ad r0) fun _=>d.Q.length),blk b7 14 (qE (i8L (replicate 14 0))) 293,blk bd 13 (qE d.L) 28,qCy (qOf d l o) d.Q.length (fun _=>Ad r0) (fun _=>d.Q.length) 0]++lm (k+1) (qE3 (qOf d l o) d.Q.length (fun i=>if i=k then b' else gi i))):=by
   have e1:lm (k+1) (qE3 (qOf d l o) d.Q.length fun i=>if i=k then b' else gi i)=lm k (qE3 (qOf d l o) d.Q.length gi)++[qG eBo 4 1 (Ad b') d.Q.length (lm d.Q.length (inB d e))]:=by
    rw[lm_succ];congr 1
    ·refine jH fun i hi=>?_
     unfold qE3;simp only[if_neg (show¬i=k by omega)]
    unfold qE3;simp only[if_true,h4]
   rw[←eI,e1,←bQ];exact hp
  refine gA0 ?_;exact⟨k+1,qB O5 O,⟨O1,sd,ce,_,xb,hp⟩,O1⟩
 obtain rfl:o.length=k:=O1;have hp:Hp W [] w7 ([blk sb 3 (qE [.slice d.sQ d.Q.length d.cQ,.slice sI o.length cI,.slice (Ad gR) (o.length+1) (o.length+1)]) 384,qG jO 177 1 sI cI (hI o.length d.Q.length gi),qG jO 22 1 (Ad gR) (o.length+1) (hR o.length d.Q.length 0 (fun _=>Ad r0) (fun _=>d.Q.length)),blk b7 14 (qE (i8L (replicate 14 0))) 293,blk bd 13 (qE d.L) 28]++(lm o.length (qE3 (qOf d l o) d.Q.length gi)++lm (1) (qCy (qOf d l o) d.Q.length (fun _=>Ad r0) (fun _=>d.Q.length)))):=by
  exact hp.perm (rG [_,_,_,_,_] (eP (l₁:=[_])))
 have xf:∀t,t≤0→SVL ((fun _:Nat=>(Ad r0:Option Addr)) t) ((fun _:Nat=>d.Q.length) t) (lm d.Q.length fun k=>((qOf d l o).rest k t:Int)):=fun t ht=>by
  obtain rfl:t=0:=O1;exact s6
 have svI:∀i,SVL (some ⟨gi i,0,none⟩) d.Q.length (lm d.Q.length ((qOf d l o).inn i)):=fun i=>vZ ⟨bM _,by unfold maxLen;omega⟩
 refine qA ?_;refine wlp (jN O O) (qF (b:=(o.length:Int)-1-((0:Nat):Int)) (by rw[qK O1 O1];omega)) ?_;refine qA ?_;refine qQ ([12,13,14]++range' 72 46) (fun(j:Nat) F=>F.put 12 (Iv ((o.length:Int)-1-(j:Int)))) (fun j w'=>j≤o.length∧∃sR cR,(∀t,t≤j→SVL (sR t) (cR t) (lm d.Q.length fun k=>((qOf d l o).rest k t:Int)))∧Hp W [] w' ([blk sb 3 (qE [.slice d.sQ d.Q.length d.cQ,.slice sI o.length cI,.slice (Ad gR) (o.length+1) (o.length+1)]) 384,qG jO 177 1 sI cI (hI o.length d.Q.length gi),qG jO 22 1 (Ad gR) (o.length+1) (hR o.length d.Q.length j sR cR),blk b7 14 (qE (i8L (replicate 14 0))) 293,blk bd 13 (qE d.L) 28]++(lm o.length (qE3 (qOf d l o) d.Q.length gi)++lm (j+1) (qCy (qOf d l o) d.Q.length sR cR)))) (fun j=>o.length-j) 0 (qB (Same.eq .refl) O) ⟨bN _,_,_,xf,hp⟩ ?_;clear hp;rintro u2 j gh ⟨hj,sR,cR,u1,hp⟩;refine tI (fun h=>?_) fun h=>?_
 ·have hl:j<o.length:=O1;have ea:(o.length:Int)-1-(j:Int)=((o.length-1-j:Nat):Int):=O1;rw[ea];have xh:o.length-1-j+1<o.length+1:=O1;have xe:o.length-1-j<o.length+1:=O1;have xz:o.length-1-j<o.length:=O1;have cf:∀{w':World},Hp W [] w' ([blk sb 3 (qE [.slice d.sQ d.Q.length d.cQ,.slice sI o.length cI,.slice (Ad gR) (o.length+1) (o.length+1)]) 384,qG jO 177 1 sI cI (hI o.length d.Q.length gi),qG jO 22 1 (Ad gR) (o.length+1) (hR o.length d.Q.length j sR cR),blk b7 14 (qE (i8L (replicate 14 0))) 293,blk bd 13 (qE d.L) 28]++(lm o.length (qE3 (qOf d l o) d.Q.length gi)++lm (j+1) (qCy (qOf d l o) d.Q.length sR cR)))→w'.cell? ⟨gR,0+(o.length-1-j+1)*1,none⟩=some (.slice (sR j) d.Q.length (cR j)):=fun hp=>by
   have h1:=qZ hp 2 O (sc _) (fun _=>O);have:=zM h1 xh 0 _ O;rw[if_pos O1,show o.length-(o.length-1-j+1)=j by omega] at this;exact this
  have xd:∀{w':World},Hp W [] w' ([blk sb 3 (qE [.slice d.sQ d.Q.length d.cQ,.slice sI o.length cI,.slice (Ad gR) (o.length+1) (o.length+1)]) 384,qG jO 177 1 sI cI (hI o.length d.Q.length gi),qG jO 22 1 (Ad gR) (o.length+1) (hR o.length d.Q.length j sR cR),blk b7 14 (qE (i8L (replicate 14 0))) 293,blk bd 13 (qE d.L) 28]++(lm o.length (qE3 (qOf d l o) d.Q.length gi)++lm (j+1) (qCy (qOf d l o) d.Q.length sR cR)))→SlAt w' 1 eI (sR j) (lm d.Q.length fun k=>((qOf d l o).rest k j:Int)):=fun hp=>
   qB8 hp (aU _ (aU _ (bD.2 ⟨j,aO.2 O1,O⟩))) (u1 j O1) (fun _=>O)
  have e8:sR j=none→(lm d.Q.length fun k=>((qOf d l o).rest k j:Int))=[]:=fun e=>by
   have:=u1 j O1;rw[e] at this;rcases this with⟨_,h⟩|⟨g,cap,h,_⟩
   ·exact aZ h
   injection h with h _ _
   cases h
  refine qR ?_;refine jU jG O3 (fun w'=>Hp W [] w' ([blk sb 3 (qE [.slice d.sQ d.Q.length d.cQ,.slice sI o.length cI,.slice (Ad gR) (o.length+1) (o.length+1)]) 384,qG jO 177 1 sI cI (hI o.length d.Q.length gi),qG jO 22 1 (Ad gR) (o.length+1) (hR o.length d.Q.length j sR cR),blk b7 14 (qE (i8L (replicate 14 0))) 293,blk bd 13 (qE d.L) 28]++(lm o.length (qE3 (qOf d l o) d.Q.length gi)++lm (j+1) (qCy (qOf d l o) d.Q.length sR cR)))) hp.N ?_;have hp:=hp.N;refine qX ?_;refine tN (o.length-1-j+1) ?_;refine qX ?_;refine tP (fun w hp=>qS O O (cf hp)) ?_;refine tK (jVx d.Q.length _ (sR j) (cR j) _ (xd hp) O1 e8) ?_;rintro _ gm ⟨s',c',rfl,hm,hpo⟩;have hp:=hp.join hpo;clear hpo;refine⟨hp.H,?_⟩;refine qX ?_;apply xH;exact O;exact O;exact zL jO (hR o.length d.Q.length j sR cR) (o.length-1-j) (s',d.Q.length,c') hp 3 O (sc _) (by unfold hR;rw[qT];omega) O O (fun _=>O) O O (qD O);rintro _ gj ⟨rfl,hp⟩;refine qU ?_;obtain⟨sa,hT⟩:∃f:Nat→Option Addr,f=fun t=>if t=j+1 then s' else sR t:=⟨_,O⟩
  obtain⟨ca,hK⟩:∃f:Nat→Nat,f=fun t=>if t=j+1 then c' else cR t:=⟨_,O⟩
  have eh:(hR o.length d.Q.length j sR cR).set (o.length-1-j) (s',d.Q.length,c')=hR o.length d.Q.length (j+1) sa ca:=by
   unfold hR;rw[vF];refine jH fun i hi=>?_
   by_cases h:i=o.length-1-j
   ·rw[if_pos h,if_pos O1,hT,hK,show o.length-i=j+1 by omega];simp
   rw[if_neg h];by_cases h2:o.length-j≤i
   ·rw[if_pos h2,if_pos O1,hT,hK];simp only[if_neg (show¬o.length-i=j+1 by omega)]
   rw[if_neg h2,if_neg O1]
  have hp:Hp W [] gj ([qG eI 3 1 s' c' (lm d.Q.length fun k=>if k<0 then((qOf d l o).rest k (j+1):Int) else((qOf d l o).rest k j:Int))]++([blk sb 3 (qE [.slice d.sQ d.Q.length d.cQ,.slice sI o.length cI,.slice (Ad gR) (o.length+1) (o.length+1)]) 384,qG jO 177 1 sI cI (hI o.length d.Q.length gi),qG jO 22 1 (Ad gR) (o.length+1) (hR o.length d.Q.length (j+1) sa ca),blk b7 14 (qE (i8L (replicate 14 0))) 293,blk bd 13 (qE d.L) 28]++(lm o.length (qE3 (qOf d l o) d.Q.length gi)++lm (j+1) (qCy (qOf d l o) d.Q.length sa ca)))):=by
   have e2:lm (j+1) (qCy (qOf d l o) d.Q.length sa ca)=lm (j+1) (qCy (qOf d l o) d.Q.length sR cR):=jH fun t ht=>by
    unfold qCy;rw[hT,hK];simp only[if_neg (show¬t=j+1 by omega)]
   rw[←eh,e2];exact hp
  obtain⟨bI,oI,xl,cc⟩:=jR (qZ hp 2 O xa (fun _=>O)) xz;have cc:=cc 0 _ O;have cc:gj.cell? ⟨bI,oI+(o.length-1-j)*1,none⟩=some (.slice (some ⟨gi (o.length-1-j),0,none⟩) d.Q.length d.Q.length):=cc;refine qA ?_;refine qQ ([13,14]++range' 99 19) (fun(κ:Nat) F=>F.put 99 (Iv (κ:Int))) (fun κ w'=>κ≤d.Q.length∧Hp W [] w' ([qG eI 3 1 s' c' (lm d.Q.length fun k=>if k<κ then((qOf d l o).rest k (j+1):Int) else((qOf d l o).rest k j:Int))]++([blk sb 3 (qE [.slice d.sQ d.Q.length d.cQ,.slice sI o.length cI,.slice (Ad gR) (o.length+1) (o.length+1)]) 384,qG jO 177 1 sI cI (hI o.length d.Q.length gi),qG jO 22 1 (Ad gR) (o.length+1) (hR o.length d.Q.length (j+1) sa ca),blk b7 14 (qE (i8L (replicate 14 0))) 293,blk bd 13 (qE d.L) 28]++(lm o.length (qE3 (qOf d l o) d.Q.length gi)++lm (j+1) (qCy (qOf d l o) d.Q.length sa ca))))) (fun κ=>d.Q.length-κ) 0 (qB (Same.eq .refl) O) ⟨bN _,hp⟩ ?_;clear hp cc;rintro u3 κ gn ⟨hκ,hp⟩;refine tI (fun h3=>?_) fun h3=>?_
  ·have xc:κ<d.Q.length:=O1;have hn:SlAt gn 1 eBo (some ⟨gi (o.length-1-j),0,none⟩) (lm d.Q.length ((qOf d l o).inn (o.length-1-j))):=
    qB8 hp (aU _ (aU _ (dB _ (bD.2 ⟨o.length-1-j,aO.2 xz,O⟩)))) (svI _) (fun _=>O)
   have cB:=zM hn xc 0 _ O;have cB:gn.cell? ⟨gi (o.length-1-j),0+κ*1,none⟩=some (.bool ((qOf d l o).inn (o.length-1-j) κ)):=cB;have hE:(qOf d l o).rest κ (j+1)=(qOf d l o).rest κ j+(if(qOf d l o).inn (o.length-1-j) κ then 1 else 0):=by
    show(qOf d l o).rest κ j+(if(qOf d l o).inn (o.length-(j+1)) κ then 1 else 0)=_
    rw[show o.length-(j+1)=o.length-1-j by omega]
   have h7:=qQa (qOf d l o) κ j;refine qA ?_;cases hb:(qOf d l o).inn (o.length-1-j) κ with
   |false=>
    rw[hb] at hE;have em:(lm d.Q.length fun k=>if k<κ then((qOf d l o).rest k (j+1):Int) else((qOf d l o).rest k j:Int))=lm d.Q.length fun k=>if k<κ+1 then((qOf d l o).rest k (j+1):Int) else((qOf d l o).rest k j:Int):=jH fun k _=>by
     by_cases hk:k=κ
     ·subst hk;rw[if_neg O1,if_pos O1,hE];simp
     by_cases uq:k<κ
     ·rw[if_pos uq,if_pos O1]
     rw[if_neg uq,if_neg O1]
    rw[em] at hp;refine gA2 ?_;exact⟨κ+1,qB O5 O,⟨O1,hp⟩,O1⟩
   |true=>
    rw[hb] at hE;have h9:SVL s' c' (lm d.Q.length fun k=>if k<κ then((qOf d l o).rest k (j+1):Int) else((qOf d l o).rest k j:Int)):=jZ hm (by rw[qT,qT])
    obtain⟨g',h6⟩:=h9.addr (by
     intro e;have:(lm d.Q.length fun k=>if k<κ then((qOf d l o).rest k (j+1):Int) else((qOf d l o).rest k j:Int)).length=0:=by rw[e];rfl
     rw[qT] at this
     omega)
    rw[h6] at h9;have cg:gn.cell? ⟨gR,0+(o.length-1-j)*1,none⟩=some (.slice (Ad g') d.Q.length c'):=by
     have h1:=qZ hp 3 O (sc _) (fun _=>O);have:=zM h1 xe 0 _ O;rw[if_pos O1,show o.length-(o.length-1-j)=j+1 by omega,hT,hK] at this;simp only[if_true] at this;rw[h6] at this;exact this
    rw[h6] at hp;have cV:gn.cell? ⟨g',0+κ*1,none⟩=some (Iv ((qOf d l o).rest κ j:Int)):=by
     have:=zM (qZ hp 0 O h9 (fun _=>O)) xc 0 _ O;exact mEw
    refine jB O ?_;refine tM ((qOf d l o).rest κ j+1) ?_;refine qA ?_;refine tO (zL eI (lm d.Q.length fun k=>if k<κ then((qOf d l o).rest k (j+1):Int) else((qOf d l o).rest k j:Int)) κ (((qOf d l o).rest κ j+1:Nat):Int) hp 0 O h9 (by rw[qT];omega) O O (fun _=>O) O O (qD O)) fun hg hp=>?_;have em:(lm d.Q.length fun k=>if k<κ then((qOf d l o).rest k (j+1):Int) else((qOf d l o).rest k j:Int)).set κ (((qOf d l o).rest κ j+1:Nat):Int)=lm d.Q.length fun k=>if k<κ+1 then((qOf d l o).rest k (j+1):Int) else((qOf d l o).rest k j:Int):=by
     rw[vF];refine jH fun k _=>?_
     by_cases hk:k=κ
     ·subst hk;rw[if_pos O,if_pos O1,hE];simp
     rw[if_neg hk];by_cases uq:k<κ
     ·rw[if_pos uq,if_pos O1]
     rw[if_neg uq,if_neg O1]
    rw[em,←h6] at hp;have hp:Hp W [] _ ([_]++_):=hp;refine gA0 ?_;exact⟨κ+1,qB O5 O,⟨O1,hp⟩,O1⟩
  obtain⟨κ',xi⟩:∃κ',κ'=κ:=⟨_,O⟩;have hU:κ=d.Q.length:=O1;have em:(lm d.Q.length fun k=>if k<κ then((qOf d l o).rest k (j+1):Int) else((qOf d l o).rest k j:Int))=lm d.Q.length fun k=>((qOf d l o).rest k (j+1):Int):=jH fun k hk=>by rw[if_pos O1]
  rw[em] at hp;have hp:=hp.swap;rw[bQ,bQ] at hp;have e3:lm (j+1) (qCy (qOf d l o) d.Q.length sa ca)++[qG eI 3 1 s' c' (lm d.Q.length fun k=>((qOf d l o).rest k (j+1):Int))]=lm (j+1+1) (qCy (qOf d l o) d.Q.length sa ca):=by
   rw[lm_succ (n:=j+1) (f:=qCy (qOf d l o) d.Q.length sa ca)];congr 1;unfold qCy;rw[hT,hK];simp
  rw[e3] at hp;refine qA ?_;refine wlp (jN O O) (qF (b:=(o.length:Int)-1-((j+1:Nat):Int)) (by rw[qK O1 O1];omega)) ?_;refine qA ?_;refine⟨j+1,qB O5 O,⟨O1,sa,ca,fun t ht=>?_,hp⟩,O1⟩;rw[hT,hK];by_cases h:t=j+1
  ·subst h;simp only[if_true];exact jZ hm (by rw[qT,qT])
  simp[if_neg h];exact u1 t O1
 obtain⟨j',hX⟩:∃j',j'=j:=⟨_,O⟩;have xg:j=o.length:=O1;subst xg;have mkG:∀{w':World} {q7:Ent},Hp W [] w' ([blk sb 3 (qE [.slice d.sQ d.Q.length d.cQ,.slice sI o.length cI,.slice (Ad gR) (o.length+1) (o.length+1)]) 384,qG jO 177 1 sI cI (hI o.length d.Q.length gi),qG jO 22 1 (Ad gR) (o.length+1) (hR o.length d.Q.length o.length sR cR),q7,blk bd 13 (qE d.L) 28]++(lm o.length (qE3 (qOf d l o) d.Q.length gi)++lm (o.length+1) (qCy (qOf d l o) d.Q.length sR cR)))→∀i,i<o.length→W.heap.size≤gi i:=fun hp i hi=>(hp.q6 (p:=qE3 (qOf d l o) d.Q.length gi i) (aU _ (dB _ (bD.2 ⟨i,aO.2 hi,O⟩))) _ O).resolve_right O4
 have ma:∀{w':World} {q7:Ent},Hp W [] w' ([blk sb 3 (qE [.slice d.sQ d.Q.length d.cQ,.slice sI o.length cI,.slice (Ad gR) (o.length+1) (o.length+1)]) 384,qG jO 177 1 sI cI (hI o.length d.Q.length gi),qG jO 22 1 (Ad gR) (o.length+1) (hR o.length d.Q.length o.length sR cR),q7,blk bd 13 (qE d.L) 28]++(lm o.length (qE3 (qOf d l o) d.Q.length gi)++lm (o.length+1) (qCy (qOf d l o) d.Q.length sR cR)))→SeAt ⟨sb,sI,cI,gi,gR,o.length+1,fun i=>sR (o.length-i),fun i=>cR (o.length-i)⟩ d (qOf d l o) w':=fun hp=>by
  refine⟨hp.cell 0 O O,hp.cell 0 O O,hp.cell 0 O O,hD.q.j6 hp.C,qZ hp 1 O xa (fun _=>O),fun i hi=>?_,?_,fun i hi=>?_,O,hy,by show o.length≤40;omega⟩
  ·exact qB8 hp (aU _ (dB _ (bD.2 ⟨i,aO.2 hi,O⟩))) (svI _) (fun _=>O)
  ·have h1:=qZ hp 2 O (sc _) (fun _=>O);have e:hR o.length d.Q.length o.length sR cR=lm (o.length+1) fun i=>(sR (o.length-i),d.Q.length,cR (o.length-i)):=jH fun i _=>by rw[if_pos O1]
   rw[e] at h1;exact h1
  have hi:i≤o.length:=hi;exact qB8 hp (aU _ (aU _ (bD.2 ⟨o.length-i,aO.2 O1,O⟩))) (u1 _ O1) (fun _=>O)
 have hS:=ma hp;refine qR ?_;refine tR qP ?_;refine jM ?_;refine jM ?_;refine wlp (zX O O O) (qF (b:=(d.sz.toNat:Int)) (by rw[qYs O1 O1];omega)) ?_;refine wlp (qB6 (zs:=(i8L (replicate 14 0)).toArray) (pl:=#[(0,1),(1,1),(2,12)]) Tryz.underlying293 (qJ O) O (fun w=>O3) (by rw[vH];exact jKy _)) (O:_=Value.agg (i8L (stZ (st0 d))).toArray) ?_
 (apply wls;exact qC O jG0 O (jVi _ d (qOf d l o) (st0 d) _ hS ⟨bN _,by show d.sz.toNat≤40;omega,O,fun k=>by
   have:(replicate 12 (0:Int)).getD k 0=0:=by
    rw[aC,nE];split<;>rfl
   show-1≤(replicate 12 (0:Int)).getD k 0∧(replicate 12 (0:Int)).getD k 0≤40
   rw[this]
   decide⟩ (bN _));rintro v gm ⟨hv,hk⟩;have hp:=hp.call hk)
 have hP:∀t,(qOf d l o).tidy (st0 d)=some t→t.cs.length=12:=fun t ht=>by
  have:=(wJ (s:=st0 d) (by show(d.Q.map (·.2)).length≤12;rw[aM];exact hy) ht).2.2.1;rw[this];rfl
 obtain⟨la,zh,rfl,oy⟩:=qHa hv hP;have h5:(i8L la).length=14:=by rw[vC];exact zh
 refine qA ?_;refine tF (zE (cs:=i8L (replicate 14 0)) (m:=14) hp (qJ O) O O) fun gj ba hp=>?_;refine tO (zH (m:=14) (o:=0) (cs:=i8L la) hp 0 O O O O (by rw[h5];exact qD O) (by rw[h5];rfl) (vY _)) fun gn hp=>?_;have hp:=hp.norm 0 (i8L la) O (yJ _ _ h5);refine qA ?_;have q1:=hp;have xr:ba≠b7:=hp.y4 (i:=0) (j:=4) O O O2;have c15:∀(j:Nat) (v:Value),(i8L la)[j]? =some v→gn.cell? ⟨ba,0+j,none⟩=some v:=hp.j3 0 O h5;have hp:=q1.k6 4 O;refine kU true jG O3 (fun w'=>Keeps [b7] gn w') hp.N.C ?_;have hp:=hp.N;refine qX ?_;apply wdp;exact O;intro w hk;exact qL (vs:=i8L la) O O O h5 (fun j v hv=>hk.cell (c15 j v hv) (by simpa using xr));exact(O:_=Value.agg (i8L la).toArray);refine qX ?_;apply qSl;exact O;exact zH (m:=14) (o:=0) (cs:=i8L la) hp 0 O O O O (by rw[h5];exact qD O) (by rw[h5];rfl) (vY _);rintro _ hg ⟨rfl,hp⟩;refine⟨hp.C,?_⟩;have hp:=hp.norm 0 (i8L la) O (yJ _ _ h5);refine gAf ?_;refine qA ?_;have lj:=q1.j8 4 O hp;exact⟨_,qA0 (vs:=i8L la) O O O O O O h5 (hp.j3 0 O h5),⟨_,O,⟨sb,sI,cI,gi,gR,o.length+1,fun i=>sR (o.length-i),fun i=>cR (o.length-i)⟩,la,O,zh,oy,ma lj.H,lj.C,mkG lj.H⟩⟩
end Go.Proofs.YtplkndjlfkkjlaaGreatDoor
