/- Merged texts of ours: L1 Ea T1 T2 T3 Za; conditions are the hypotheses of each law. -/
import Derived.Test.YtbgldmoikimmpaaGreatDoorQ5
import Derived.Test.YtbgldmoikimmpaaGreatDoorTie
import Derived.Test.YtbgldmoikimmpaaGreatDoorCards
import Derived.WalkKit
import Derived.ProofKit
import Derived.OpenShut
import Derived.Carry
import Derived.Deep.Slices
import Derived.SizedLaws
import Derived.LaidLaws
import Derived.LaidHandle
import Derived.MakeChecks
import Derived.Lib.LaidTab
import Derived.ChangeVars
import Derived.JoinedOf
import Derived.RowKit
namespace Go.Proofs.YtbgldmoikimmpaaGreatDoor
open Go.Eng Go.Dig Go.Sha Go.Lag Go.Grp Go.Sp
structure IRow where
 s:Option Addr
 c:Nat
 l:List Int
def eIR (r:IRow):List Value:=[.slice r.s r.l.length r.c]
structure LsAt (w:World) (s:Option Addr) (rs:List IRow):Prop where
 at_:SlAt w 1 eIR s rs
 row:∀ r ∈ rs,SlAt w 1 eI r.s r.l
 len:∀ r ∈ rs,r.l.length≤9223372036854775807
theorem LsAt.keep {w w':World} {s:Option Addr} {rs:List IRow} (h:LsAt w s rs) (hk:Keeps [] w w'):LsAt w' s rs:=⟨h.at_.keep0 hk,fun r hr=>(h.row r hr).keep0 hk,h.len⟩
def grD (g:GrV):List Ent:=qW eN 3 1 g.sC g.cC g.cf :: qW eMe 80 3 g.sM g.cM g.ms :: kyE g.k
structure GrSv (g:GrV):Prop where
 cf:SVL g.sC g.cC g.cf
 ms:SVL g.sM g.cM g.ms
 k:KyOw g.k
theorem wW {w0 w:World} {M:List Nat} {L:List Ent} {g:GrV} (hp:Hp w0 M w L) (h:GrSv g) (hm:∀ p ∈ grD g,p ∈ L):GrAt w g:=
 ⟨xL hp (hm _ (List.mem_cons_of_mem _ List.mem_cons_self)) h.ms (fun _=>rfl),xL hp (hm _ List.mem_cons_self) h.cf (fun _=>rfl),qZu hp h.k fun p hp=>hm _ (List.mem_cons_of_mem _ (List.mem_cons_of_mem _ hp))⟩
theorem qZv {g:GrV}:∀ p ∈ grD g,p ∈ grE g:=fun p hp=>by
 unfold grD at hp
 unfold grE
 rcases List.mem_cons.1 hp with rfl|hp
 ·exact List.mem_cons_self
 ·rcases List.mem_cons.1 hp with rfl|hp
  ·exact List.mem_cons_of_mem _ List.mem_cons_self
  ·exact List.mem_cons_of_mem _ (List.mem_cons_of_mem _ (List.mem_cons_of_mem _ hp))
theorem qGn (c xs:List Nat) {i:Nat} (h:i < xs.length):vE c (xs.take (i + 1)) = vE c (xs.take i) ++ [(xs[i],vl c xs[i])]:=by
 unfold vE
 rw [List.take_succ_eq_append_getElem h,List.map_append]
 rfl
structure HasG (w w':World) (b9:Nat) (g:GrV) (R:List Ent):Prop where
 hp:Hp w [] w' (blk b9 5 (qV (eGr g)) 29 :: R)
 mem:∀ p ∈ grD g,p ∈ R
 sv:GrSv g
 ok:GrOk g
theorem qNt {P:Program} {n:FrK} {c:Code} {Q:Exit→Fr→World→Prop} {F F0:Fr} {w:World} {T:List Nat} (S:List (Nat × Value)) (hS:qAt F S) (hT:Same T F F0) (h:∀ F':Fr,Same T F' F0→WP P n c Q (F'.puts S) w):WP P n c Q F w:=by
 rw [qA5 hS]
 exact h F hT
def opn (ps:List (List Nat)) (x q:Nat):List Nat:=(ps.take q).map fun p=>vl p x
theorem qM0 {ps:List (List Nat)} {x q:Nat} (h:q≤ps.length):(opn ps x q).length = q:=by
 unfold opn
 rw [List.length_map,List.length_take]
 omega
theorem qP9 {ps:List (List Nat)} {x q:Nat} (h:q < ps.length):opn ps x (q + 1) = opn ps x q ++ [vl ps[q] x]:=by
 unfold opn
 rw [List.take_succ_eq_append_getElem h,List.map_append]
 rfl
theorem qW9 (ps:List (List Nat)) (x q:Nat):∀ y ∈ opn ps x q,y≤9223372036854775807:=fun y hy=>by
 obtain ⟨p,_,rfl⟩:=List.mem_map.1 hy
 have:vl p x < 1152921504606845789:=qBu
 omega
def qA7 (cf:List Nat) (n:Nat):List (Nat × Nat):=vE cf (List.range' 1 n)
theorem qJ1 (cf:List Nat) (n:Nat):(qA7 cf n).length = n:=by
 unfold qA7
 rw [qB2,List.length_range']
theorem qN7 (cf:List Nat) (n:Nat):qA7 cf (n + 1) = qA7 cf n ++ [(n + 1,vl cf (n + 1))]:=by
 unfold qA7 vE
 rw [List.range'_concat,List.map_append,Nat.one_mul,Nat.add_comm 1 n]
 rfl
theorem qTa {cf:List Nat} {n i:Nat} (h:i < n):(qA7 cf n)[i]? = some (i + 1,vl cf (i + 1)):=by
 unfold qA7 vE
 rw [List.getElem?_map,List.getElem?_range' (by omega),Nat.one_mul,Nat.add_comm 1 i]
 rfl
theorem GrAt.keep {w w':World} {g:GrV} (h:GrAt w g) (hk:Keeps [] w w'):GrAt w' g:=⟨h.ms.keep0 hk,h.cf.keep0 hk,h.k.keep hk⟩
def slE:List Nat:=[6,10,11] ++ List.range' 17 28 ++ List.range' 83 196
def epT (i:Nat):ByteArray:=(⟨#[101,112,111,99,104,32]⟩:ByteArray) ++ xD i
theorem qQ7 {i:Nat} (h:i≤9223372036854775807):(epT i).size≤30:=by
 have h1:=yE (⟨#[101,112,111,99,104,32]⟩:ByteArray) (xD i)
 have h2:(⟨#[101,112,111,99,104,32]⟩:ByteArray).size = 6:=rfl
 have h3:=xY h
 unfold epT
 omega
attribute [local irreducible] PV StepF wpl wpd WP Ret
attribute [local irreducible] Fit ofN xD hv scP xN yC yY atP Mb inL fac zB inP lft elP pfC pfZ bsR dec scR wI qCu mxI mxF cmI cmA sdT
set_option maxRecDepth 100000 in
set_option maxHeartbeats 16000000 in
theorem p3 (h4:∀ w,Tabs w→Ret Tryz.prog 4 [] w (fun v w'=>v = .bool true∧Keeps [] w w')) (ls:List IRow) (pk:List Int) (r:Int) (sL sP:Option Addr) (cL cP:Nat) (w:World) (hT:Tabs w) (hL:LsAt w sL ls) (hP:SlAt w 1 eI sP pk) (hll:ls.length≤9223372036854775807) (hpl:pk.length≤9223372036854775807) (h0:-9223372036854775808≤r) (h1:r≤9223372036854775807) :
  Ret Tryz.prog 3 [.slice sL ls.length cL,.slice sP pk.length cP,.int .i64 r] w (fun v w'=>v = .bool true∧Keeps [] w w'):=by
 refine Ret.of_WP Tryz.func3 rfl Tryz.ntmps3 rfl ?_
 have hp:=Hp.start (M:=[]) (w:=w)
 (repeat (first|(with_reducible first|apply qF|apply qA|apply qE|apply qB)|(apply wlp;apply qD;exact fB rfl)))
 (apply wls;exact qH rfl jCz rfl (h4 _ hT);rintro _ w1 ⟨rfl,hk⟩;have hp:=hp.call hk)
 (repeat (first|(with_reducible first|apply qF|apply qA|apply qE|apply qB)|(apply wlp;((first|apply qC|apply qD|(apply jC;exact rfl)|apply zA)<;>exact rfl);(first|exact fI rfl|exact fB rfl|exact fS rfl))))
 refine qCm (fun F' w'=>∃ (s0:Option Addr) (c0:Nat) (l0:List Int),SlAt w 1 eI s0 l0∧l0.length≤9223372036854775807∧Hp w [] w' []∧qAt F' [(0,.slice sL ls.length cL),(1,.slice sP pk.length cP),(2,.int .i64 r),(6,.bool false),(7,.bool true),(8,.slice s0 l0.length c0)]) ?_ ?_
 ·refine qM rfl (fun h=>?_) (fun h=>?_)
  ·have hlt:0 < ls.length:=by omega
   obtain ⟨b0,o0,hs0,hc0⟩:=hL.at_.base hlt
   have hci:=hc0 0 _ (List.getElem?_eq_getElem hlt) 0 _ rfl
   have hrw:=hL.row _ (List.getElem_mem hlt)
   have hrl:=hL.len _ (List.getElem_mem hlt)
   generalize ls[0] = r0 at hci hrw hrl
   obtain ⟨rs,rc,rl⟩:=r0
   have hci:w.cell? ⟨b0,o0 + 0 * 1 + 0,none⟩ = some (.slice rs rl.length rc):=hci
   dsimp only at hrw hrl
   (repeat (first|(with_reducible first|apply qA|apply qE|apply qB)|(apply wlp;((first|apply qC|apply qD|(apply qJ;exact rfl)|(apply qR;exact rfl))<;>(first|exact rfl|assumption|exact hp.old0 (by assumption)));(first|exact fP rfl|exact fS rfl))))
   exact ⟨rs,rc,rl,hrw,hrl,hp,rfl,rfl,rfl,rfl,rfl,rfl,trivial⟩
  ·(repeat (with_reducible first|apply qB|apply qL))
   exact ⟨none,0,[],qS5,by simp,hp,rfl,rfl,rfl,rfl,rfl,rfl,trivial⟩
 (repeat clear hp)
 clear hk
 rintro F w2 ⟨s0,c0,l0,hl0,hl0n,hp,hF⟩
 refine wF _ hF ?_
 intro F0
 clear hF
 (repeat (first|(with_reducible first|apply qF|apply qA)|(apply wlp;apply qC;exact fS rfl)))
 (apply wls;exact qH rfl jCy rfl (p5 l0 s0 c0 _ (hl0.keep0 hp.keeps) hl0n);rintro _ w3 ⟨g,rfl,hgo,hgw,hpo⟩;have hp:=hp.join hpo;clear hpo)
 (apply wls;exact wN hp (jD rfl);rintro _ w4 ⟨b9,rfl,hp⟩)
 (apply zG;exact qAk hp 0 rfl rfl rfl rfl (qQ rfl) rfl;rintro _ w5 ⟨rfl,hp⟩)
 have hp:=hp.norm 0 (eGr g) rfl rfl
 have hgv:GrSv g:=⟨hgw.cf,hgw.ms,hgw.k⟩
 clear hgw
 have hp:Hp w [] w5 (blk b9 5 (qV (eGr g)) 29 :: grE g):=by
  have:=hp
  rwa [List.append_nil] at this
 have hmem:=@qZv g
 generalize grE g = R at hp hmem
 have hcfl:g.cf.length≤1000000:=by
  have:=hgo.len
  have:=hgo.pk.ko.nd
  have:=yO hgo.mo.wo.sp
  have:=hgo.mo.wo.sum
  omega
 (repeat (first|(with_reducible first|apply qF|apply qA|apply qE|apply qB)|(apply wlp;((first|apply qC|apply qD|(apply jQ;exact rfl))<;>(first|exact rfl|exact hp.agg_blk 0 rfl rfl));(first|exact fS rfl|exact rfl))))
 (apply wls;exact qH rfl qWy rfl (p6 g pk sP cP _ (wW hp hgv (fun p hm=>List.mem_cons_of_mem _ (hmem p hm))) hgo (hP.keep0 hp.keeps) hpl);rintro _ w6 ⟨sX,cX,xs,rfl,hxs,hvX,hpo⟩;have hp:=hp.join hpo;clear hpo)
 have hxl:=hxs.len
 have hs60:=hgo.mo.wo.sum
 have hsp:=hgo.mo.wo.sp
 have hnd:=hgo.pk.ko.nd
 have hndl:=yO hsp
 have hp:Hp w [] w6 (qW eN 3 1 sX cX xs :: blk b9 5 (qV (eGr g)) 29 :: R):=hp
 (repeat (first|(with_reducible first|apply qF|apply qK|apply qA|apply qE|apply qB)|(apply wlp;((first|apply qC|apply qD|(apply jC;exact rfl))<;>exact rfl);(first|exact fI rfl|exact fS rfl))))
 have hp:=hp.nilL (ePt r) 36 4
 refine zW ([10,13] ++ List.range' 59 13) (fun (i:Nat) (s':Option Addr) (c':Nat) F=>(F.put 59 (.int .i64 (i:Int))).put 10 (.slice s' (vE g.cf (xs.take i)).length c'))
  (fun i s' c' w'=>i≤xs.length∧SVL s' c' (vE g.cf (xs.take i))∧Hp w [] w' (qW (ePt r) 36 4 s' c' (vE g.cf (xs.take i)) :: qW eN 3 1 sX cX xs :: blk b9 5 (qV (eGr g)) 29 :: R)) (fun i _ _=>xs.length - i) 0 none 0 (qG (qG (Same.eq .refl) rfl) rfl) ⟨Nat.zero_le _,SVL.nil,hp⟩ ?_
 (repeat clear hp)
 rintro u0 i s' c' w7 ⟨hi,hsv,hp⟩
 have htl:(vE g.cf (xs.take i)).length = i:=by rw [qB2,List.length_take];omega
 (repeat (first|(with_reducible first|apply qF|apply qA|apply qE|apply qB)|(apply wlp;(apply jA<;>exact rfl);exact fB rfl)))
 refine qM rfl (fun h=>?_) (fun h=>?_)
 ·have hlt:i < xs.length:=by omega
  have hsX:=jS hp 1 rfl hvX (fun _=>rfl)
  obtain ⟨b0,o0,hs0,hc0⟩:=hsX.base (by omega)
  have hci:=hc0 i _ (List.getElem?_eq_getElem hlt) 0 _ rfl
  have hxb:=hxs.bd _ (List.getElem_mem hlt)
  have hpn:=qGn g.cf xs hlt
  generalize xs[i] = x at hci hxb hpn
  have hci:w7.cell? ⟨b0,o0 + i * 1 + 0,none⟩ = some (.int .i64 (x:Int)):=hci
  (repeat (first|(with_reducible first|apply qF|apply qK|apply qA|apply qE|apply qB|apply qL)|(apply wlp;((first|apply qC|apply qD|(apply qJ;exact rfl)|(apply jQ;exact rfl)|(apply qR;exact rfl))<;>(first|exact rfl|assumption|exact hp.agg_blk 2 rfl rfl));(first|exact fI rfl|exact fP rfl|exact fS rfl|exact rfl))))
  (apply wls;exact qH rfl jAe rfl (p8 g x _ (wW hp hgv (fun p hm=>List.mem_cons_of_mem _ (List.mem_cons_of_mem _ (List.mem_cons_of_mem _ (hmem p hm))))).cf hcfl hgo.pk.cb (by omega));rintro _ w8 ⟨rfl,hk⟩;have hp:=hp.call hk)
  (repeat (apply wlp;apply qC;exact fI rfl))
  have hyl:vl g.cf x < 1152921504606845789:=qBu
  (apply wls;exact qH rfl qU1 rfl (p7 x (vl g.cf x) r _ (hT.keep hp.keeps) h0 h1 (by omega) (by omega) hyl);rintro _ w9 ⟨rfl,hk⟩;have hp:=hp.call hk)
  (apply wls;exact jP (cs:=ePt r (x,vl g.cf x)) hp rfl rfl rfl rfl rfl rfl rfl;rintro _ w10 ⟨nb,rfl,hp⟩)
  (apply wls;exact zL (ePt r) (vE g.cf (xs.take i)) (x,vl g.cf x) hp 1 0 rfl rfl rfl rfl rfl rfl (fun _=>rfl) rfl rfl rfl hsv rfl rfl (by omega);rintro _ w11 ⟨s2,c2,rfl,hsv2,hp⟩)
  rw [← hpn] at hsv2 hp
  rw [← hpn]
  (repeat (first|(with_reducible first|apply qA|apply qE|apply qB|apply qZ)|(apply wlp;apply qD;exact fS rfl)))
  (apply wlp;(exact qY rfl rfl);exact qI (b:=((i + 1:Nat):Int)) (by rw [qN (by omega) (by omega)];omega))
  (repeat (first|(with_reducible first|apply qE|apply qB)|(apply wlp;apply qC;exact fI rfl)))
  exact ⟨i + 1,s2,c2,qG (qG (Same.eq (by repeat (first|exact Same.hav|exact Same.refl|refine Same.put rfl ?_|refine Same.havs rfl ?_))) rfl) rfl,⟨by omega,hsv2,hp.tail⟩,by omega⟩
 obtain rfl:i = xs.length:=by omega
 rw [List.take_length] at hsv hp htl ⊢
 rw [htl]
 (repeat (first|(with_reducible first|apply qF|apply qA|apply qB|apply qO|apply jB)|((with_reducible apply qP);exact rfl)))
 (apply wlp;(apply qS<;>exact rfl);exact fP rfl)
 (apply wlp;exact zP (vs:=[.slice g.k.s1 g.k.cs.length g.k.c1,.slice g.k.s2 g.k.rs.length g.k.c2]) rfl rfl rfl rfl (fun j v hv=>hp.agg_blk (k:=2) (o:=3) 2 rfl rfl j v hv);exact fA2 rfl)
 (repeat (apply wlp;apply qC;(first|exact fI rfl|exact fS rfl)))
 (apply wls;exact qH rfl qU0 rfl (p9 g.k (zC g.ms) g.cf xs r s' c' _ (hT.keep hp.keeps) h0 h1 (wW hp hgv (fun p hm=>List.mem_cons_of_mem _ (List.mem_cons_of_mem _ (List.mem_cons_of_mem _ (hmem p hm))))).k hgo.pk hxs.bd hxs.nd (jS hp 0 rfl hsv (fun _=>rfl)) (by omega) (by omega) hgo.len);rintro _ w8 ⟨rfl,hk⟩;have hp:=hp.call hk)
 have hp:=hp.tail.tail
 clear hsv htl hvX hxs hi h hk
 obtain ⟨a0,ha0⟩:∃ a0,vl g.cf 0 = a0:=⟨_,rfl⟩
 rw [ha0]
 obtain ⟨W,hW⟩:∃ W,W = bsR r ^ a0 % gP:=⟨_,rfl⟩
 rw [← hW]
 (repeat (first|(with_reducible first|apply qF|apply qA|apply qE|apply qB)|(apply wlp;((first|apply qC|apply qD|(apply zJ;(first|exact rfl|exact jR rfl (by assumption)))|apply jK)<;>exact rfl);(first|exact fI rfl|exact fB rfl|exact fS rfl|exact fU rfl))))
 refine zT rfl (fun h=>absurd h (by simp)) (fun _=>?_)
 (repeat (first|(with_reducible first|apply qF|apply qK|apply qA|apply qE|apply qB|apply qL)|(apply wlp;apply qD;exact fI rfl)))
 refine wF [(0,.slice sL ls.length cL),(1,.slice sP pk.length cP),(2,.int .i64 r),(6,.bool false),(7,.bool true),(9,.pointer (some ⟨b9,0,none⟩)),(14,.int .i64 (W:Int)),(17,.int .i64 1)] ⟨rfl,rfl,rfl,rfl,rfl,rfl,rfl,rfl,trivial⟩ ?_
 intro F0
 clear hcfl hs60 hsp hnd hndl hxl
 refine jE slE (fun (X:Nat × GrV × List Ent) F=>F.put 17 (.int .i64 (X.1:Int)))
  (fun X w'=>1≤X.1∧X.1≤4∧HasG w w' b9 X.2.1 X.2.2∧vl X.2.1.cf 0 = a0) (fun X=>4 - X.1) (1,g,R) (qG (Same.eq .refl) rfl) ⟨Nat.le_refl 1,by dsimp only;omega,⟨hp,hmem,hgv,hgo⟩,ha0⟩ ?_
 (repeat clear hp)
 clear ha0 hmem hgv hgo
 clear R g
 rintro u1 ⟨i,g,R⟩ w9 ⟨hi1,hi4,⟨hp,hmem,hgv,hgo⟩,ha0⟩
 dsimp only at hi1 hi4 hp hmem hgv hgo ha0 ⊢
 (repeat (with_reducible first|apply qF|apply qA))
 (apply wlp;apply qC;exact fI rfl)
 (apply wlp;apply qC;exact fS rfl)
 (apply wlp;((apply jC;exact rfl)<;>exact rfl);exact fI rfl)
 by_cases hlt:i < ls.length
 ·(apply wlp;(exact jA rfl rfl);exact jF (b:=true) (decide_eq_true (by omega)))
  (apply wlp;apply qC;exact fB rfl)
  ((apply jO;exact rfl;exact rfl);(apply qC);(intros;exact fI rfl))
  by_cases hlt4:i < 4
  ·(apply jO;exact rfl;exact rfl;exact jA rfl rfl;exact jF (b:=true) (decide_eq_true (by omega)))
   (apply wlp;exact zM rfl rfl;exact fB rfl)
   (repeat (with_reducible first|apply qE|apply qB))
   refine yI rfl ?_
   obtain ⟨b0,o0,hs0,hc0⟩:=hL.at_.base (by omega)
   have hci:=hc0 i _ (List.getElem?_eq_getElem hlt) 0 _ rfl
   have hrw:=hL.row _ (List.getElem_mem hlt)
   have hrl:=hL.len _ (List.getElem_mem hlt)
   generalize ls[i] = ri at hci hrw hrl
   obtain ⟨rs,rc,rl⟩:=ri
   have hci:w.cell? ⟨b0,o0 + i * 1 + 0,none⟩ = some (.slice rs rl.length rc):=hci
   dsimp only at hrw hrl
   (repeat (with_reducible first|apply qF|apply qK|apply qA|apply qB|apply qL))
   (apply wlp;apply qC;exact fS rfl)
   (apply wlp;apply qC;exact fI rfl)
   (apply wlp;((apply qR;exact rfl)<;>(first|exact rfl|assumption));exact fP rfl)
   (apply wlp;((apply qJ;exact rfl)<;>(first|exact rfl|exact hp.old0 (by assumption)));exact fS rfl)
   (apply wlp;apply qC;exact fI rfl)
   (apply wlp;(exact xU rfl rfl);exact qI (b:=((10 * i:Nat):Int)) (by rw [qN (by omega) (by omega)];omega))
   (apply wlp;(exact qY rfl rfl);exact qI (b:=((1 + 10 * i:Nat):Int)) (by rw [qN (by omega) (by omega)];omega))
   (apply wls;exact qH rfl qVg rfl (p10 rl (1 + 10 * i) rs rc _ (hrw.keep0 hp.keeps) hrl (by omega));rintro _ w10 ⟨ms,secs,sM,cM,sS,cS,rfl,hC,hvM,hvS,hpo⟩;have hp:=hp.join hpo;clear hpo)
   have hmo:=hC.ms (by omega)
   have hmb:=qVh hC
   have hp:Hp w [] w10 (qW eMe 80 3 sM cM ms :: qW eN 3 1 sS cS secs :: blk b9 5 (qV (eGr g)) 29 :: R):=hp
   have hmem3:∀ p ∈ grD g,p ∈ (qW eMe 80 3 sM cM ms :: qW eN 3 1 sS cS secs :: blk b9 5 (qV (eGr g)) 29 :: R):=fun p hm=>List.mem_cons_of_mem _ (List.mem_cons_of_mem _ (List.mem_cons_of_mem _ (hmem p hm)))
   (repeat (first|(with_reducible first|apply qF|apply qE|apply qB)|(apply wlp;((first|apply qC|apply qD|apply jK)<;>exact rfl);(first|exact fS rfl|exact fU rfl))))
   refine jX jW (by kernel_rfl) (fun w'=>Hp _ _ w' _) hp.drew ?_
   have hp:=hp.drew
   (repeat ((apply wdp;exact rfl);(intro w hp;intros;((first|apply qC|(apply qJ;exact rfl)|(apply jQ;exact rfl)|(apply qR;exact rfl))<;>(first|exact rfl|assumption|exact hp.agg_blk 2 rfl rfl|exact hp.old0 (by assumption))));(intros;(first|exact fI rfl|exact fP rfl|exact fS rfl|exact rfl))))
   (apply wds;exact rfl;exact qH rfl qWy rfl (p6 g rl rs rc _ (wW hp hgv hmem3) hgo (hrw.keep0 hp.keeps) hrl);rintro _ w11 ⟨sX,cX,S,rfl,hxs,hvX,hpo⟩;have hp:=hp.join hpo;clear hpo;refine ⟨hp.tail,?_⟩)
   (repeat ((apply wdp;exact rfl);(intro w hp;intros;apply qD);(intros;exact fS rfl)))
   refine jL ?_
   (repeat (with_reducible first|apply qF|apply qB))
   have hepz:=qQ7 (i:=i) (by omega)
   have hdz:=xY (show i≤9223372036854775807 by omega)
   have hgL:∀ p ∈ grD g,p ∈ (qW eN 3 1 sX cX S :: qW eMe 80 3 sM cM ms :: qW eN 3 1 sS cS secs :: blk b9 5 (qV (eGr g)) 29 :: R):=fun p hm=>List.mem_cons_of_mem _ (hmem3 p hm)
   have hML:qW eMe 80 3 sM cM ms ∈ (qW eN 3 1 sX cX S :: qW eMe 80 3 sM cM ms :: qW eN 3 1 sS cS secs :: blk b9 5 (qV (eGr g)) 29 :: R):=List.mem_cons_of_mem _ List.mem_cons_self
   have hXL:qW eN 3 1 sX cX S ∈ (qW eN 3 1 sX cX S :: qW eMe 80 3 sM cM ms :: qW eN 3 1 sS cS secs :: blk b9 5 (qV (eGr g)) 29 :: R):=List.mem_cons_self
   have hp:Hp w [] w11 (qW eN 3 1 sX cX S :: qW eMe 80 3 sM cM ms :: qW eN 3 1 sS cS secs :: blk b9 5 (qV (eGr g)) 29 :: R):=hp
   refine qCm (fun F' w'=>∃ (b20:Nat) (h:GrV) (so:Option Addr) (co:Nat) (ds:List DlV) (R2:List Ent),h.ms = ms∧h.cf = ((List.range (ndN (zC ms).sum)).map (nxt S (psG g.cf S (epT i) (ndN (zC ms).sum))))∧GrOk h∧GrSv h∧DlsOw so co ds∧DlsHon ds (psG g.cf S (epT i) (ndN (zC ms).sum)) (xS ms) ∧
    Hp w [] w' (blk b20 5 (qV (eGr h)) 29 :: blk b9 5 (qV (eGr g)) 29 :: R2)∧(∀ p ∈ grD h,p ∈ R2)∧(∀ p ∈ grD g,p ∈ R2)∧(∀ p ∈ xQ so co ds,p ∈ R2)∧qW eN 3 1 sX cX S ∈ R2∧qW eMe 80 3 sM cM ms ∈ R2∧qW eN 3 1 sS cS secs ∈ R2∧Same slE F' (F0.puts [(0,.slice sL ls.length cL),(1,.slice sP pk.length cP),(2,.int .i64 r),(6,.bool false),(7,.bool true),(9,.pointer (some ⟨b9,0,none⟩)),(14,.int .i64 (W:Int)),(17,.int .i64 1)])∧qAt F' [(0,.slice sL ls.length cL),(1,.slice sP pk.length cP),(2,.int .i64 r),(7,.bool true),(9,.pointer (some ⟨b9,0,none⟩)),(11,.slice sX S.length cX),(14,.int .i64 (W:Int)),(17,.int .i64 (i:Int)),(18,.slice sM ms.length cM),(19,.slice sS secs.length cS),(20,.pointer (some ⟨b20,0,none⟩)),(21,.slice so ds.length co)]) ?_ ?_
   ·refine qDh true [0,1,2,3,4,5,6,7,8,9,10,11,12,13] jW (by kernel_rfl) rfl (fun w'=>Hp w [] w' (qW eN 3 1 sX cX S :: qW eMe 80 3 sM cM ms :: qW eN 3 1 sS cS secs :: blk b9 5 (qV (eGr g)) 29 :: R)) hp.drew ?_
    have hp:=hp.drew
    (repeat ((apply wep;exact rfl;exact rfl);(intro w hp;intros;((first|apply qC|(apply jQ;exact rfl))<;>(first|exact rfl|exact hp.agg_blk 3 rfl rfl)));(intros;(first|exact fI rfl|exact fS rfl|exact rfl))))
    refine qH8 11 rfl (by kernel_rfl) rfl rfl ?eA ?eB
    case' eA=>
     (apply wbs;exact rfl;exact qH rfl qAe rfl (p12 i _ (by omega));rintro _ w12 ⟨rfl,hk⟩;have hp:=hp.call hk;refine ⟨hp,?_⟩)
     (apply wep;exact rfl;exact rfl;(intro w hp;exact jY rfl rfl (by show 6 + _≤_;omega));exact congrArg Value.string (show _ = epT i from rfl))
     refine qH8 11 rfl (by kernel_rfl) rfl rfl ?eC ?eD
     case' eC=>
      (apply wbs;exact rfl;exact qH rfl qR3 rfl (p11 g ms secs S (epT i) sM sS sX cM cS cX _ (wW hp hgv (fun p hm=>hgL p hm)) hgo (xL hp (hML) hvM (fun _=>rfl)) hmo hmb (xL hp (hXL) hvX (fun _=>rfl)) hxs (by omega));rintro _ w13 ⟨sC,cC,k,so,co,ds,rfl,hho,hvC,hkow,hdow,hdon,hpo⟩;have hp:=hp.join hpo;clear hpo;refine ⟨hp.sub (List.sublist_append_right _ _),?_⟩)
      (repeat ((apply wep;exact rfl;exact rfl);(intro w hp;intros;((first|apply qC|apply jK)<;>exact rfl));(intros;(first|exact fS rfl|exact fU rfl|exact rfl))))
      refine uL rfl (by kernel_rfl) ?_ rfl
      (apply wbs;exact rfl;exact wN hp (jD rfl);rintro _ w14 ⟨b20,rfl,hp⟩;refine ⟨hp.sub ((List.sublist_append_right _ _).trans (List.sublist_cons_self _ _)),?_⟩)
     case' eD=>
      (apply wbs;exact rfl;exact wN hp (jD rfl);rintro _ w14 ⟨b20,rfl,hp⟩;refine ⟨hp.tail,?_⟩)
      refine uL rfl (by kernel_rfl) ?_ rfl
      (apply wbs;exact rfl;exact qH rfl qR3 rfl (p11 g ms secs S (epT i) sM sS sX cM cS cX _ (wW hp hgv (fun p hm=>List.mem_cons_of_mem _ (hgL p hm))) hgo (xL hp (List.mem_cons_of_mem _ (hML)) hvM (fun _=>rfl)) hmo hmb (xL hp (List.mem_cons_of_mem _ (hXL)) hvX (fun _=>rfl)) hxs (by omega));rintro _ w13 ⟨sC,cC,k,so,co,ds,rfl,hho,hvC,hkow,hdow,hdon,hpo⟩;have hp:=hp.join hpo;clear hpo;refine ⟨hp.sub ((List.sublist_cons_self _ _).trans (List.sublist_append_right _ _)),?_⟩)
      have hp:Hp w [] w13 (blk b20 5 (qV [.slice none 0 0,.slice none 0 0,.slice none 0 0,.slice none 0 0,.slice none 0 0]) 29 :: ((qW eN 3 1 sC cC ((List.range (ndN (zC ms).sum)).map (nxt S (psG g.cf S (epT i) (ndN (zC ms).sum)))) :: (xQ so co ds ++ kyE k)) ++ (qW eN 3 1 sX cX S :: qW eMe 80 3 sM cM ms :: qW eN 3 1 sS cS secs :: blk b9 5 (qV (eGr g)) 29 :: R))):=hp.perm List.perm_middle
      (repeat ((apply wep;exact rfl;exact rfl);(intro w hp;intros;((first|apply qC|apply jK)<;>exact rfl));(intros;(first|exact fS rfl|exact fU rfl|exact rfl))))
    case' eB=>
     (apply wbs;exact rfl;exact wN hp (jD rfl);rintro _ w14 ⟨b20,rfl,hp⟩;refine ⟨hp.tail,?_⟩)
     refine uL rfl (by kernel_rfl) ?_ rfl
     (apply wbs;exact rfl;exact qH rfl qAe rfl (p12 i _ (by omega));rintro _ w12 ⟨rfl,hk⟩;have hp:=hp.call hk;refine ⟨hp.tail,?_⟩)
     (apply wep;exact rfl;exact rfl;(intro w hp;exact jY rfl rfl (by show 6 + _≤_;omega));exact congrArg Value.string (show _ = epT i from rfl))
     refine uL rfl (by kernel_rfl) ?_ rfl
     (apply wbs;exact rfl;exact qH rfl qR3 rfl (p11 g ms secs S (epT i) sM sS sX cM cS cX _ (wW hp hgv (fun p hm=>List.mem_cons_of_mem _ (hgL p hm))) hgo (xL hp (List.mem_cons_of_mem _ (hML)) hvM (fun _=>rfl)) hmo hmb (xL hp (List.mem_cons_of_mem _ (hXL)) hvX (fun _=>rfl)) hxs (by omega));rintro _ w13 ⟨sC,cC,k,so,co,ds,rfl,hho,hvC,hkow,hdow,hdon,hpo⟩;have hp:=hp.join hpo;clear hpo;refine ⟨hp.sub ((List.sublist_cons_self _ _).trans (List.sublist_append_right _ _)),?_⟩)
     have hp:Hp w [] w13 (blk b20 5 (qV [.slice none 0 0,.slice none 0 0,.slice none 0 0,.slice none 0 0,.slice none 0 0]) 29 :: ((qW eN 3 1 sC cC ((List.range (ndN (zC ms).sum)).map (nxt S (psG g.cf S (epT i) (ndN (zC ms).sum)))) :: (xQ so co ds ++ kyE k)) ++ (qW eN 3 1 sX cX S :: qW eMe 80 3 sM cM ms :: qW eN 3 1 sS cS secs :: blk b9 5 (qV (eGr g)) 29 :: R))):=hp.perm List.perm_middle
     (repeat ((apply wep;exact rfl;exact rfl);(intro w hp;intros;((first|apply qC|apply jK)<;>exact rfl));(intros;(first|exact fS rfl|exact fU rfl|exact rfl))))
    all_goals (
    refine uL rfl (by kernel_rfl) ?_ rfl
    (apply qSd;exact rfl;exact qAk hp 0 rfl rfl rfl rfl (qQ rfl) rfl;rintro _ w15 ⟨rfl,hp⟩;refine ⟨hp.sub ((List.sublist_append_right _ _).trans (List.sublist_cons_self _ _)),?_⟩)
    have hp:=hp.norm 0 (eGr (⟨sM,cM,ms,sS,cS,secs,sC,cC,((List.range (ndN (zC ms).sum)).map (nxt S (psG g.cf S (epT i) (ndN (zC ms).sum)))),k⟩:GrV)) rfl rfl
    (repeat ((apply wep;exact rfl;exact rfl);(intro w hp;intros;apply qD);(intros;exact fS rfl)))
    refine qEd ?_
    have hp:Hp w [] w15 (blk b20 5 (qV (eGr (⟨sM,cM,ms,sS,cS,secs,sC,cC,((List.range (ndN (zC ms).sum)).map (nxt S (psG g.cf S (epT i) (ndN (zC ms).sum)))),k⟩:GrV))) 29 :: blk b9 5 (qV (eGr g)) 29 :: ((qW eN 3 1 sC cC ((List.range (ndN (zC ms).sum)).map (nxt S (psG g.cf S (epT i) (ndN (zC ms).sum)))) :: (xQ so co ds ++ kyE k)) ++ ([qW eN 3 1 sX cX S,qW eMe 80 3 sM cM ms,qW eN 3 1 sS cS secs] ++ R))):=hp.perm (List.Perm.cons _ (show ((qW eN 3 1 sC cC ((List.range (ndN (zC ms).sum)).map (nxt S (psG g.cf S (epT i) (ndN (zC ms).sum)))) :: (xQ so co ds ++ kyE k)) ++ ([qW eN 3 1 sX cX S,qW eMe 80 3 sM cM ms,qW eN 3 1 sS cS secs] ++ blk b9 5 (qV (eGr g)) 29 :: R)).Perm (blk b9 5 (qV (eGr g)) 29 :: ((qW eN 3 1 sC cC ((List.range (ndN (zC ms).sum)).map (nxt S (psG g.cf S (epT i) (ndN (zC ms).sum)))) :: (xQ so co ds ++ kyE k)) ++ ([qW eN 3 1 sX cX S,qW eMe 80 3 sM cM ms,qW eN 3 1 sS cS secs] ++ R))) by rw [← List.append_assoc,← List.append_assoc];exact List.perm_middle))
    refine ⟨b20,(⟨sM,cM,ms,sS,cS,secs,sC,cC,((List.range (ndN (zC ms).sum)).map (nxt S (psG g.cf S (epT i) (ndN (zC ms).sum)))),k⟩:GrV),so,co,ds,_,rfl,rfl,hho,⟨hvC,hvM,hkow⟩,hdow,hdon,hp,fun p hm=>?_,fun p hm=>List.mem_append_right _ (List.mem_append_right _ (hmem p hm)),fun p hm=>List.mem_append_left _ (List.mem_cons_of_mem _ (List.mem_append_left _ hm)),List.mem_append_right _ (List.mem_append_left _ (List.mem_cons_self)),List.mem_append_right _ (List.mem_append_left _ (List.mem_cons_of_mem _ List.mem_cons_self)),List.mem_append_right _ (List.mem_append_left _ (List.mem_cons_of_mem _ (List.mem_cons_of_mem _ List.mem_cons_self))),(by repeat (first|exact Same.hav|exact Same.refl|refine Same.put rfl ?_|refine Same.havs rfl ?_)),rfl,rfl,rfl,rfl,rfl,rfl,rfl,rfl,rfl,rfl,rfl,rfl,trivial⟩
    unfold grD at hm
    rcases List.mem_cons.1 hm with rfl|hm
    ·exact List.mem_append_left _ List.mem_cons_self
    rcases List.mem_cons.1 hm with rfl|hm
    ·exact List.mem_append_right _ (List.mem_append_left _ (List.mem_cons_of_mem _ List.mem_cons_self))
    exact List.mem_append_left _ (List.mem_cons_of_mem _ (List.mem_append_right _ hm)))
   (repeat clear hp)
   clear hmem hmem3 hgL hML hXL
   rintro F w12 ⟨b20,h,so,co,ds,R2,hhm,hhc,hho,hhv,hdow,hdon,hp,hmh,hmg,hmd,hmX,hmM,hmS,hSm,hF⟩
   rw [qA5 hF]
   clear hF
   have hag:=qVl (sd:=epT i) hgo hmo hxs hdon
   have m2:∀ {p:Ent},p ∈ R2→p ∈ blk b20 5 (qV (eGr h)) 29 :: blk b9 5 (qV (eGr g)) 29 :: R2:=fun hm=>List.mem_cons_of_mem _ (List.mem_cons_of_mem _ hm)
   obtain ⟨hda,hdb⟩:=qIb hp hdow (fun p hm=>m2 (hmd p hm))
   have hnd0:=hho.pk.ko.nd
   have hkl0:=hho.len
   have hwsp:=hmo.wo.sp
   have hw60:=hmo.wo.sum
   have hPt:=hxs.pts (by have:=hgo.mo.wo.sum;omega)
   have hSn:=hxs.len
   obtain ⟨hml1,hml2⟩:=hmo.len
   have hSl60:S.length≤60:=by
    have h1:=hgo.pk.ko.nd
    have h2:=yO hgo.mo.wo.sp
    have h3:=hgo.mo.wo.sum
    omega
   have hS0:S ≠ []:=by
    rintro rfl
    have h1:=hgo.pk.ko.nd
    have h2:=vM (zC g.ms).sum
    rw [← h1,← hSn] at h2
    cases h2
   have hdsl:ds.length = S.length:=by rw [hdon.len,qCy]
   have hpsn:∀ p ∈ (psG g.cf S (epT i) (ndN (zC ms).sum)),p.length = (ndN (zC ms).sum):=fun p hp=>(qEf hp).1
   have hcom:=qPi hdon hpsn hdsl
   rw [← hhc] at hcom
   have hcst:vl h.cf 0 = a0:=by
    rw [hhc,qKs hPt hS0 (by rw [hgo.len,hSn];exact Nat.le_refl _) (vM _),ha0]
   have hshr:=fun x=>qKr (S:=S) (cf:=g.cf) (sd:=epT i) (nd:=(ndN (zC ms).sum)) x
   rw [← hhc] at hshr
   have hndp:=vM (zC ms).sum
   have hndl:=yO hwsp
   have h13:=fun w h1 h2 h3 h4 h5=>p13 g.k (zC g.ms) ms S ds sM sX so cM cX co w h1 h2 h3 h4 h5 hag
   rw [hhm] at hnd0
   obtain ⟨n,hn⟩:∃ n,n = (zC ms).sum:=⟨_,rfl⟩
   obtain ⟨nd,hnd⟩:∃ nd,nd = ndN n:=⟨_,rfl⟩
   simp only [← hn,← hnd] at hnd0 hwsp hw60 hpsn hcom hshr hndp hndl h13 hdon
   obtain ⟨ps,hps⟩:∃ ps,ps = psG g.cf S (epT i) nd:=⟨_,rfl⟩
   have hpsl:ps.length = S.length:=by rw [hps];exact qCy _ _ _ _
   have hpsb:∀ p ∈ ps,∀ x,vl p x < 1152921504606845789:=fun p _ x=>qBu
   rw [← hps] at hpsn hshr hdon
   clear hag hps hhc
   (repeat (first|(with_reducible first|apply qF|apply qA)|(apply wlp;((first|apply qC|apply qS|(apply jQ;exact rfl))<;>(first|exact rfl|exact hp.agg_blk 1 rfl rfl));(first|exact fP rfl|exact fS rfl|exact fA2 rfl))))
   (apply wls;exact qH rfl jB7 rfl (h13 _ (wW hp hgv (fun p hm=>m2 (hmg p hm))).k (xL hp (m2 hmM) hvM (fun _=>rfl)) (xL hp (m2 hmX) hvX (fun _=>rfl)) hda hdb);rintro _ w13 ⟨kb,krs,cb,rfl,hrw,hrn,hvc,hpo⟩;have hp:=hp.joinT [_,_] (krs.map wU) hpo;clear hpo h13)
   (repeat (apply wlp;((first|apply qC|apply jK)<;>exact rfl);(first|exact fB rfl|exact fA2 rfl|exact fU rfl)))
   (apply wls;exact vA hp (jD rfl);rintro _ w14 ⟨b22,rfl,hp⟩)
   (apply zG;exact yN hp 0 rfl rfl rfl rfl (qQ rfl) rfl;rintro _ w15 ⟨rfl,hp⟩)
   have hp:=hp.norm 0 [.slice (some ⟨cb,0,none⟩) nd nd,.slice (some ⟨kb,0,none⟩) krs.length ms.length] rfl rfl
   have hq:Hp w [] w15 ([blk b22 2 (qV [.slice (some ⟨cb,0,none⟩) nd nd,.slice (some ⟨kb,0,none⟩) krs.length ms.length]) 27,qW eN 3 1 (some ⟨cb,0,none⟩) nd ((List.range nd).map (nxC S ds)),qW eNR 23 1 (some ⟨kb,0,none⟩) ms.length krs,blk b20 5 (qV (eGr h)) 29,blk b9 5 (qV (eGr g)) 29] ++ (R2 ++ krs.map wU)):=hp
   clear hp hda hdb m2
   have mR:∀ {p:Ent},p ∈ R2→p ∈ [blk b22 2 (qV [.slice (some ⟨cb,0,none⟩) nd nd,.slice (some ⟨kb,0,none⟩) krs.length ms.length]) 27,qW eN 3 1 (some ⟨cb,0,none⟩) nd ((List.range nd).map (nxC S ds)),qW eNR 23 1 (some ⟨kb,0,none⟩) ms.length krs,blk b20 5 (qV (eGr h)) 29,blk b9 5 (qV (eGr g)) 29] ++ (R2 ++ krs.map wU):=fun hm=>List.mem_append_right _ (List.mem_append_left _ hm)
   have hcoml:((List.range nd).map (nxC S ds)).length = nd:=by rw [List.length_map,List.length_range]
   have hkA:KyAt w15 (⟨some ⟨cb,0,none⟩,nd,((List.range nd).map (nxC S ds)),some ⟨kb,0,none⟩,ms.length,krs⟩:KyV):=⟨jS hq 1 rfl hvc (fun _=>rfl),qLq hq hrw (fun p hm=>by
    rcases List.mem_cons.1 hm with rfl|hm
    ·exact List.mem_append_left _ (by simp)
    ·exact List.mem_append_right _ (List.mem_append_right _ hm))⟩
   have hkP:PkOk (⟨some ⟨cb,0,none⟩,nd,((List.range nd).map (nxC S ds)),some ⟨kb,0,none⟩,ms.length,krs⟩:KyV) (zC ms) h.cf:=⟨⟨hrn,hmo.wo,by show ((List.range nd).map (nxC S ds)).length = _;rw [hcoml,hnd,hn],by
    show ∀ a ∈ ((List.range nd).map (nxC S ds)),Mb a
    rw [hcom]
    exact qF2 qDl _⟩,hcom,hho.pk.cb⟩
   obtain ⟨com,hcme⟩:∃ com,com = ((List.range nd).map (nxC S ds)):=⟨_,rfl⟩
   rw [← hcme] at hkA hkP hcom hcoml hvc hq
   simp only [← hcme] at mR
   have hgA:=(wW hq hgv (fun p hm=>mR (hmg p hm))).k.cs
   have hhA:=wW hq hhv (fun p hm=>mR (hmh p hm))
   obtain ⟨hda,hdb⟩:=qIb hq hdow (fun p hm=>mR (hmd p hm))
   have hSA:=xL hq (mR hmX) hvX (fun _=>rfl)
   have hcA:=xL hq (mR hmS) hvS (fun _=>rfl)
   have c22a:w15.cell? ⟨b22,0 + 0,none⟩ = some (.slice (some ⟨cb,0,none⟩) nd nd):=hq.cell 0 rfl rfl
   have c22b:w15.cell? ⟨b22,0 + 1,none⟩ = some (.slice (some ⟨kb,0,none⟩) krs.length ms.length):=hq.cell 0 rfl rfl
   have c9:w15.cell? ⟨b9,0 + 3 + 0,none⟩ = some (.slice g.k.s1 g.k.cs.length g.k.c1):=hq.cell 4 rfl rfl
   have c20:=hq.agg_blk (k:=5) (o:=0) 3 rfl rfl
   have c22:=hq.agg_blk (k:=2) (o:=0) 0 rfl rfl
   have hgl:0 < g.k.cs.length:=by
    have h1:=List.length_pos_iff.2 hS0
    omega
   obtain ⟨bg,og,hgs,hgc⟩:=hgA.base hgl
   have cg:=hgc 0 _ (jB9 hgo.pk.pk (by rw [hgo.len];exact hgl) hgo.pk.cb) 0 _ rfl
   have hnd1:0 < nd:=by omega
   have cc:=jS hq 1 rfl hvc (fun _=>rfl) 0 _ (jB9 hcom (by rw [hkl0,hnd0];exact hnd1) hho.pk.cb)
   rw [ha0] at cg
   rw [hcst] at cc
   obtain ⟨bc,oc,hce,hcc⟩:=cc
   cases hce
   have cc:=hcc 0 _ rfl
   have cc:w15.cell? ⟨cb,0 + 0 * 1 + 0,none⟩ = some (.int .i64 ((4 ^ a0 % gP:Nat):Int)):=cc
   have cg:w15.cell? ⟨bg,og + 0 * 1 + 0,none⟩ = some (.int .i64 ((4 ^ a0 % gP:Nat):Int)):=cg
   generalize 4 ^ a0 % gP = c0 at cc cg
   have hkrl:krs.length = ms.length:=by
    have:=congrArg List.length hrn
    unfold kD at this
    rw [List.length_map,qA6,uX] at this
    exact this
   have hTT:=hT.keep hq.keeps
   have hp:=Hp.start (M:=[]) (w:=w15)
   skip
   (apply wlp;apply qD;exact fB rfl)
   (repeat (with_reducible first|apply qF|apply qE|apply qB))
   refine jX jW (by kernel_rfl) (fun w'=>Hp _ _ w' _) hp.drew ?_
   have hp:=hp.drew
   (apply wdp;exact rfl;(intro w hp;exact qC);exact fB rfl)
   (apply wdp;exact rfl;(intro w hp;exact zI rfl);exact fB rfl)
   (apply wdp;exact rfl;(intro w hp;exact qC);exact fB rfl)
   (repeat (first|((apply wdp;exact rfl);(intro w hp;intros;((first|apply qC|apply qS|(apply qJ;exact rfl)|(apply jC;exact rfl)|exact jU rfl rfl|(apply zF;(first|exact rfl|exact jR rfl (by assumption))))<;>(first|exact rfl|exact hp.old0 (by assumption))));(intros;(first|exact fI rfl|exact fB rfl|exact fP rfl|exact fS rfl)))|((apply vD;exact rfl;exact rfl;exact rfl);(intro w hp;((first|apply qC|apply qS|(apply qJ;exact rfl)|(apply jC;exact rfl)|exact jU rfl rfl|(apply zF;(first|exact rfl|exact jR rfl (by assumption))))<;>(first|exact rfl|exact hp.old0 (by assumption))));(intros;(first|exact fI rfl|exact fB rfl|exact fP rfl|exact fS rfl)))|(apply uN;exact rfl;exact rfl;exact rfl;exact rfl)|(apply uM;exact rfl;exact rfl;exact rfl)))
   have hd1:decide ((nd:Int) = 0) = false:=decide_eq_false (by omega)
   have hd2:(!decide ((c0:Int) = (c0:Int))) = false:=by simp
   have hd3:(!decide ((krs.length:Int) = (ms.length:Int))) = false:=by rw [hkrl];simp
   rw [hd1]
   (repeat (first|((apply wdp;exact rfl);(intro w hp;intros;((first|apply qC|apply qS|(apply qJ;exact rfl)|exact jU rfl rfl|(apply zJ;(first|exact rfl|exact jR rfl (by assumption)))|(apply qR;exact rfl))<;>(first|exact rfl|assumption|exact hp.old0 (by assumption))));(intros;(first|exact fI rfl|exact fB rfl|exact fP rfl|exact fS rfl)))|((apply vD;exact rfl;exact rfl;exact rfl);(intro w hp;((first|apply qC|apply qS|(apply qJ;exact rfl)|exact jU rfl rfl|(apply zJ;(first|exact rfl|exact jR rfl (by assumption)))|(apply qR;exact rfl))<;>(first|exact rfl|assumption|exact hp.old0 (by assumption))));(intros;(first|exact fI rfl|exact fB rfl|exact fP rfl|exact fS rfl)))|(apply uN;exact rfl;exact rfl;exact rfl;exact rfl)|(apply uM;exact rfl;exact rfl;exact rfl)))
   rw [hd2]
   (repeat (first|((apply wdp;exact rfl);(intro w hp;intros;((first|apply qC|apply qS|(apply qJ;exact rfl)|(apply jC;exact rfl)|exact jU rfl rfl|(apply zJ;(first|exact rfl|exact jR rfl (by assumption))))<;>(first|exact rfl|exact hp.old0 (by assumption))));(intros;(first|exact fI rfl|exact fB rfl|exact fP rfl|exact fS rfl)))|((apply vD;exact rfl;exact rfl;exact rfl);(intro w hp;((first|apply qC|apply qS|(apply qJ;exact rfl)|(apply jC;exact rfl)|exact jU rfl rfl|(apply zJ;(first|exact rfl|exact jR rfl (by assumption))))<;>(first|exact rfl|exact hp.old0 (by assumption))));(intros;(first|exact fI rfl|exact fB rfl|exact fP rfl|exact fS rfl)))|(apply uN;exact rfl;exact rfl;exact rfl;exact rfl)|(apply uM;exact rfl;exact rfl;exact rfl)))
   rw [hd3]
   refine jL ?_
   (repeat with_reducible apply qB)
   refine jI rfl ?_
   (repeat (first|(with_reducible first|apply qF|apply qK|apply qA|apply qE|apply qB|apply qL)|(apply wlp;((first|apply qC|apply qD|apply qS|(apply qJ;exact rfl)|(apply jC;exact rfl))<;>(first|exact rfl|assumption));(first|exact fI rfl|exact fP rfl|exact fS rfl))))
   refine qNt (T:=slE) (F0:=F0.puts [(0,.slice sL ls.length cL),(1,.slice sP pk.length cP),(2,.int .i64 r),(6,.bool false),(7,.bool true),(9,.pointer (some ⟨b9,0,none⟩)),(14,.int .i64 (W:Int)),(17,.int .i64 1)]) [(0,.slice sL ls.length cL),(1,.slice sP pk.length cP),(2,.int .i64 r),(7,.bool true),(9,.pointer (some ⟨b9,0,none⟩)),(11,.slice sX S.length cX),(14,.int .i64 (W:Int)),(17,.int .i64 (i:Int)),(18,.slice sM ms.length cM),(19,.slice sS secs.length cS),(20,.pointer (some ⟨b20,0,none⟩)),(21,.slice so ds.length co),(22,.pointer (some ⟨b22,0,none⟩)),(10,.slice none 0 0),(159,.slice (some ⟨kb,0,none⟩) krs.length ms.length),(160,.int .i64 (krs.length:Int)),(161,.int .i64 0)] ⟨rfl,rfl,rfl,rfl,rfl,rfl,rfl,rfl,rfl,rfl,rfl,rfl,rfl,rfl,rfl,rfl,rfl,trivial⟩ (by repeat (first|exact hSm|refine Same.put rfl ?_|refine Same.putB rfl ?_)) ?_
   clear hSm
   clear F
   intro F hSm
   have hkr:=fun {m:Nat} (hm:m < krs.length)=>hkP.ko.row hm
   have hwl:=uX ms
   have hsle:=hC.p.sl
   have hp:=hp.nilL (ePt r) 36 4
   refine zW ([6,10,24,25,27,28,30,31,32,33,34] ++ List.range' 161 54) (fun (m:Nat) (s':Option Addr) (c':Nat) F=>(F.put 161 (.int .i64 (m:Int))).put 10 (.slice s' (qA7 h.cf (((zC ms).take m).sum)).length c'))
    (fun m s' c' w'=>m≤krs.length∧SVL s' c' (qA7 h.cf (((zC ms).take m).sum))∧Hp w15 [] w' [qW (ePt r) 36 4 s' c' (qA7 h.cf (((zC ms).take m).sum))]) (fun m _ _=>krs.length - m) 0 none 0 (qG (qG (Same.eq .refl) rfl) rfl) ⟨Nat.zero_le _,SVL.nil,hp⟩ ?_
   (repeat clear hp)
   rintro u2 m s' c' w16 ⟨hm,hsv,hp⟩
   (repeat (first|(with_reducible first|apply qF|apply qA|apply qE|apply qB)|(apply wlp;(apply jA<;>exact rfl);exact fB rfl)))
   refine qM rfl (fun hh=>?_) (fun hh=>?_)
   ·have hltm:m < krs.length:=by omega
    have hltm2:m < ms.length:=by omega
    have hltms:m < secs.length:=by omega
    obtain ⟨bk,ok,hks,hkc⟩:=hkA.rs.at_.base (show 0 < krs.length by omega)
    cases hks
    have hcm:=hkc m _ (List.getElem?_eq_getElem hltm) 0 _ rfl
    have hrow:=hkr hltm
    have hrs:=hkA.rs.row _ (List.getElem_mem hltm)
    have hnx:=yF (zC ms) m
    have hle2:=zU (zC ms) (m + 1)
    have hgw:=qCo hltm2
    have hkey:=fun j (hj:j < ms[m].wt)=>qYt hC hltm2 hltms hj
    obtain ⟨bs,os,hss,hsc⟩:=hcA.base (by omega)
    have hcs:=hsc m _ (List.getElem?_eq_getElem hltms) 0 _ rfl
    have hsb:=hC.p.sb _ (List.getElem_mem hltms)
    generalize secs[m] = sec at hkey hcs hsb
    dsimp only at hcm hrow hrs
    generalize krs[m] = kr at hcm hrow hrs
    obtain ⟨sr,cr,lr⟩:=kr
    dsimp only at hrow hrs
    rw [hgw] at hnx hrow
    generalize ms[m].wt = wt at hnx hrow hkey
    have hlr:lr.length = wt:=by rw [hrow,List.length_range']
    have hcm:w15.cell? ⟨kb,0 + m * 1 + 0,none⟩ = some (.slice sr lr.length cr):=hcm
    obtain ⟨cnt,hcnt⟩:∃ cnt,cnt = ((zC ms).take m).sum:=⟨_,rfl⟩
    rw [← hcnt] at hnx hrow hkey hsv hp ⊢
    (repeat (first|(with_reducible first|apply qF|apply qK|apply qA|apply qE|apply qB|apply qL)|(apply wlp;((first|apply qC|apply qD|(apply qJ;exact rfl)|(apply jC;exact rfl)|(apply qR;exact rfl))<;>(first|exact rfl|assumption|exact hp.old0 (by assumption)));(first|exact fI rfl|exact fP rfl|exact fS rfl))))
    refine zW ([6,10,27,28,30,31,32,33,34] ++ List.range' 168 46) (fun (j:Nat) (s':Option Addr) (c':Nat) F=>(F.put 168 (.int .i64 (j:Int))).put 10 (.slice s' (qA7 h.cf (cnt + j)).length c'))
     (fun j s' c' w'=>j≤lr.length∧SVL s' c' (qA7 h.cf (cnt + j))∧Hp w15 [] w' [qW (ePt r) 36 4 s' c' (qA7 h.cf (cnt + j))]) (fun j _ _=>lr.length - j) 0 s' c' (qG (qG (Same.eq .refl) rfl) rfl) ⟨Nat.zero_le _,hsv,hp⟩ ?_
    (repeat clear hp)
    clear hsv
    rintro u3 j s' c' w17 ⟨hj,hsv,hp⟩
    (repeat (first|(with_reducible first|apply qF|apply qA|apply qE|apply qB)|(apply wlp;(apply jA<;>exact rfl);exact fB rfl)))
    refine qM rfl (fun hh=>?_) (fun hh=>?_)
    ·have hltj:j < lr.length:=by omega
     obtain ⟨b1,o1,hs1,hc1⟩:=hrs.base (by omega)
     have hcj:=hc1 j _ (List.getElem?_eq_getElem hltj) 0 _ rfl
     have hgj:lr[j] = cnt + j + 1:=by
      have:lr[j]? = some (1 + cnt + 1 * j):=by rw [hrow,List.getElem?_range' (by omega)]
      rw [List.getElem?_eq_getElem hltj] at this
      have:=Option.some.inj this
      omega
     rw [hgj] at hcj
     have hcj:w15.cell? ⟨b1,o1 + j * 1 + 0,none⟩ = some (.int .i64 ((cnt + j + 1:Nat):Int)):=hcj
     have hkeyj:=hkey j (by omega)
     have hbkl:=uD ms
     have hpsu:=qN7 h.cf (cnt + j)
     obtain ⟨idx,hidx⟩:∃ idx,idx = cnt + j:=⟨_,rfl⟩
     have hidn:idx < n:=by omega
     rw [← hidx] at hcj hkeyj hpsu hsv hp ⊢
     (repeat (first|(with_reducible first|apply qF|apply qK|apply qA|apply qE|apply qB|apply qL)|(apply wlp;((first|apply qC|apply qD|(apply qJ;exact rfl)|(apply jC;exact rfl)|(apply qR;exact rfl))<;>(first|exact rfl|assumption|exact hp.old0 (by assumption)));(first|exact fI rfl|exact fP rfl|exact fS rfl))))
     have hp:=hp.nilL eN 3 1
     refine zW ([6,28,30,31,32] ++ List.range' 174 23) (fun (q:Nat) (sv:Option Addr) (cv:Nat) F=>(F.put 174 (.int .i64 (q:Int))).put 28 (.slice sv (opn ps (idx + 1) q).length cv))
      (fun q sv cv w'=>q≤ds.length∧SVL sv cv (opn ps (idx + 1) q)∧Hp w15 [] w' [qW eN 3 1 sv cv (opn ps (idx + 1) q),qW (ePt r) 36 4 s' c' (qA7 h.cf (idx))]) (fun q _ _=>ds.length - q) 0 none 0 (qG (qG (Same.eq .refl) rfl) rfl) ⟨Nat.zero_le _,SVL.nil,hp⟩ ?_
     (repeat clear hp)
     rintro u4 q sv cv w18 ⟨hq1,hvv,hp⟩
     (repeat (first|(with_reducible first|apply qF|apply qA|apply qE|apply qB)|(apply wlp;(apply jA<;>exact rfl);exact fB rfl)))
     refine qM rfl (fun hh=>?_) (fun hh=>?_)
     ·have hltq:q < ds.length:=by omega
      have hltp:q < ps.length:=by omega
      obtain ⟨b2,o2,hs2,hc2⟩:=hda.base (by omega)
      have hcd:=hc2 q _ (List.getElem?_eq_getElem hltq)
      have hdd:=hdb _ (List.getElem_mem hltq)
      have hhon:=hdon.each q hltq hltp
      have hpq:=hpsn _ (List.getElem_mem hltp)
      have hou:=qP9 (x:=idx + 1) hltp
      have hopl:=qM0 (ps:=ps) (x:=idx + 1) (q:=q) (by omega)
      have hyb:=hpsb _ (List.getElem_mem hltp) (idx + 1)
      obtain ⟨hbx,hat⟩:=qPa hhon (by rw [hbkl];omega) hkeyj
      obtain ⟨hdok,hdcl⟩:=hhon.ok (by omega) (by rw [hbkl];omega)
      have h14:=fun (w:World) (hT:Tabs w) (hd:DlAt w ds[q])=>p14 ds[q] sec idx (vl ps[q] (idx + 1)) w hT hd (by omega) hsb (kQ hdok.pt) (by rw [hdok.bl,hbkl];omega) (by omega) (by rw [hdok.bl,hbkl];omega) hyb (fun a ha=>kQ (hdok.mb a ha)) hat hbx
      clear hhon hpq hbx hat hdok hdcl
      generalize vl ps[q] (idx + 1) = y at hou hyb h14
      generalize ds[q] = d at hcd hdd h14
      obtain ⟨d1,e1,dcs,dpt,d2,e2,dbx⟩:=d
      have hE:eDl ⟨d1,e1,dcs,dpt,d2,e2,dbx⟩ = [.slice d1 dcs.length e1,.int .i64 (dpt:Int),.slice d2 dbx.length e2]:=rfl
      rw [hE] at h14 hcd
      (repeat (with_reducible first|apply qF|apply qK|apply qA|apply qB|apply qL))
      (apply wlp;((apply qR;exact rfl)<;>(first|exact rfl|assumption));exact fP rfl)
      (apply wlp;exact zP (vs:=[.slice d1 dcs.length e1,.int .i64 (dpt:Int),.slice d2 dbx.length e2]) rfl rfl rfl rfl (fun j v hv=>hp.old0 (hcd j v hv));exact fA3 rfl)
      (apply wls;exact yA hp (jD rfl);rintro _ w19 ⟨b30,rfl,hp⟩)
      (apply zG;exact vK hp 0 rfl rfl rfl rfl (qQ rfl) rfl;rintro _ w20 ⟨rfl,hp⟩)
      have hp:=hp.norm 0 [.slice d1 dcs.length e1,.int .i64 (dpt:Int),.slice d2 dbx.length e2] rfl rfl
      have hp:Hp w15 [] w20 [blk b30 3 (qV [.slice d1 dcs.length e1,.int .i64 (dpt:Int),.slice d2 dbx.length e2]) 54,qW eN 3 1 sv cv (opn ps (idx + 1) q),qW (ePt r) 36 4 s' c' (qA7 h.cf idx)]:=hp
      (repeat (with_reducible first|apply qF|apply qE|apply qB))
      refine qDh true [0,1,2,3,4,5,6,7,8,9,10,11,12,13] jW (by kernel_rfl) rfl (fun w'=>Hp w15 [] w' [blk b30 3 (qV [.slice d1 dcs.length e1,.int .i64 (dpt:Int),.slice d2 dbx.length e2]) 54,qW eN 3 1 sv cv (opn ps (idx + 1) q),qW (ePt r) 36 4 s' c' (qA7 h.cf idx)]) hp.drew ?_
      have hp:=hp.drew
      (repeat ((apply wep;exact rfl;exact rfl);(intro w hp;intros;((first|apply qC|(apply qJ;exact rfl)|(apply jQ;exact rfl)|(apply qR;exact rfl))<;>(first|exact rfl|assumption|exact hp.agg_blk 0 rfl rfl|exact hp.old0 (by assumption))));(intros;(first|exact fI rfl|exact fP rfl|exact fS rfl|exact fA3 rfl))))
      (apply wep;exact rfl;exact rfl;(intro w hp;exact jN rfl rfl);exact qI (b:=(idx:Int)) (by rw [qN (by omega) (by omega)];omega))
      refine qH8 11 rfl (by kernel_rfl) rfl rfl ?eG ?eH
      case' eG=>
       (apply wbs;exact rfl;exact qH rfl qVf rfl (h14 _ (hTT.keep hp.keeps) (hdd.keep hp.keeps));rintro _ w21 ⟨rfl,hk⟩;have hp:=hp.call hk;refine ⟨hp,?_⟩)
       (repeat ((apply wep;exact rfl;exact rfl);(intro w hp;intros;((first|apply qC|apply jK)<;>exact rfl));(intros;(first|exact fB rfl|exact fA2 rfl|exact fU rfl))))
       refine uL rfl (by kernel_rfl) ?_ rfl
       (apply wbs;exact rfl;exact vA hp (jD rfl);rintro _ w22 ⟨b31,rfl,hp⟩;refine ⟨hp.tail,?_⟩)
      case' eH=>
       (apply wbs;exact rfl;exact vA hp (jD rfl);rintro _ w22 ⟨b31,rfl,hp⟩;refine ⟨hp.tail,?_⟩)
       refine uL rfl (by kernel_rfl) ?_ rfl
       (apply wbs;exact rfl;exact qH rfl qVf rfl (h14 _ (hTT.keep hp.keeps) (hdd.keep hp.keeps));rintro _ w21 ⟨rfl,hk⟩;have hp:=hp.call hk;refine ⟨hp.tail,?_⟩)
       (repeat ((apply wep;exact rfl;exact rfl);(intro w hp;intros;((first|apply qC|apply jK)<;>exact rfl));(intros;(first|exact fB rfl|exact fA2 rfl|exact fU rfl))))
      all_goals (
      refine uL rfl (by kernel_rfl) ?_ rfl
      (apply qSd;exact rfl;exact yN hp 0 rfl rfl rfl rfl (qQ rfl) rfl;rintro _ w23 ⟨rfl,hp⟩;refine ⟨hp.tail,?_⟩)
      have hp:=hp.norm 0 [.int .i64 ((idx + 1:Nat):Int),.int .i64 (y:Int)] rfl rfl
      (repeat ((apply wep;exact rfl;exact rfl);(intro w hp;intros;apply qD);(intros;exact fB rfl)))
      refine qEd ?_
      (repeat (first|(with_reducible first|apply qF|apply qA|apply qE|apply qB)|(apply wlp;((first|apply qC|apply zI)<;>exact rfl);exact fB rfl)))
      refine jI rfl ?_
      (repeat (first|(with_reducible first|apply qA|apply qB|apply qL)|(apply wlp;((first|apply qC|apply qS|(apply qJ;exact rfl))<;>(first|exact rfl|exact hp.cell 0 rfl rfl));(first|exact fI rfl|exact fP rfl|exact fS rfl))))
      (apply wls;exact jP (cs:=eN y) hp rfl rfl rfl rfl rfl rfl rfl;rintro _ w24 ⟨nb,rfl,hp⟩)
      (apply wls;exact zL eN (opn ps (idx + 1) q) y hp 3 0 rfl rfl rfl rfl rfl rfl (fun _=>rfl) rfl rfl rfl hvv rfl rfl (by omega);rintro _ w25 ⟨s2,c2,rfl,hsv2,hp⟩)
      rw [← hou] at hsv2 hp
      rw [← hou]
      (repeat (first|(with_reducible first|apply qA|apply qE|apply qB|apply qZ)|(apply wlp;apply qD;exact fS rfl)))
      (apply wlp;(exact qY rfl rfl);exact qI (b:=((q + 1:Nat):Int)) (by rw [qN (by omega) (by omega)];omega))
      (repeat (first|(with_reducible first|apply qE|apply qB)|(apply wlp;apply qC;exact fI rfl)))
      exact ⟨q + 1,s2,c2,qG (qG (Same.eq (by repeat (first|exact Same.hav|exact Same.refl|refine Same.put rfl ?_|refine Same.havs rfl ?_))) rfl) rfl,⟨by omega,hsv2,hp.tail.tail.tail⟩,by omega⟩)
     have hqe:q = ds.length:=by omega
     subst hqe
     have hoal:opn ps (idx + 1) ds.length = ps.map fun p=>vl p (idx + 1):=by
      unfold opn
      rw [List.take_of_length_le (by omega)]
     have hopl:=qM0 (ps:=ps) (x:=idx + 1) (q:=ds.length) (by omega)
     have hopb:=qW9 ps (idx + 1) ds.length
     have hshx:=hshr (idx + 1)
     rw [← hoal] at hshx
     clear hoal
     generalize opn ps (idx + 1) ds.length = vs at hopl hopb hshx hvv hp ⊢
     (repeat (first|(with_reducible first|apply qF|apply qA|apply qB|apply qO|apply jB)|((with_reducible apply qP);exact rfl)|(apply wlp;apply qC;exact fS rfl)))
     (apply wls;exact qH rfl jB6 rfl (p15 S vs sX sv cX cv _ (hSA.keep0 hp.keeps) (jS hp 0 rfl hvv (fun _=>rfl)) hPt hS0 (by omega) (by omega) hopb);rintro _ w19 ⟨rfl,hk⟩;have hp:=hp.call hk)
     rw [hshx]
     have hyl:vl h.cf (idx + 1) < 1152921504606845789:=qBu
     have hptl:=qJ1 h.cf idx
     (repeat (first|(with_reducible first|apply qF|apply qA|apply qE|apply qB)|(apply wlp;((first|apply qC|apply qD|apply zI|apply jK)<;>exact rfl);(first|exact fI rfl|exact fB rfl|exact fU rfl))))
     refine jI rfl ?_
     (repeat (first|(with_reducible first|apply qA|apply qB|apply qL)|(apply wlp;((first|apply qC|(apply xJ;exact rfl))<;>exact rfl);(first|exact fI rfl|exact fS rfl|exact fA2 rfl))))
     (apply wls;exact qH rfl qU1 rfl (p7 (idx + 1) (vl h.cf (idx + 1)) r _ (hTT.keep hp.keeps) h0 h1 (by omega) (by omega) hyl);rintro _ w20 ⟨rfl,hk⟩;have hp:=hp.call hk)
     (apply wls;exact jP (cs:=ePt r (idx + 1,vl h.cf (idx + 1))) hp rfl rfl rfl rfl rfl rfl rfl;rintro _ w21 ⟨nb,rfl,hp⟩)
     (apply wls;exact zL (ePt r) (qA7 h.cf idx) (idx + 1,vl h.cf (idx + 1)) hp 2 0 rfl rfl rfl rfl rfl rfl (fun _=>rfl) rfl rfl rfl hsv rfl rfl (by omega);rintro _ w22 ⟨s2,c2,rfl,hsv2,hp⟩)
     rw [← hpsu] at hsv2 hp
     rw [← hpsu]
     (repeat (first|(with_reducible first|apply qA|apply qE|apply qB|apply qZ)|(apply wlp;apply qD;exact fS rfl)))
     (apply wlp;(exact qY rfl rfl);exact qI (b:=((j + 1:Nat):Int)) (by rw [qN (by omega) (by omega)];omega))
     (repeat (first|(with_reducible first|apply qE|apply qB)|(apply wlp;apply qC;exact fI rfl)))
     subst hidx
     exact ⟨j + 1,s2,c2,qG (qG (Same.eq (by repeat (first|exact Same.hav|exact Same.refl|refine Same.put rfl ?_|refine Same.havs rfl ?_))) rfl) rfl,⟨by omega,hsv2,hp.tail.tail⟩,by omega⟩
    have hje:j = lr.length:=by omega
    subst hje
    have e1:cnt + lr.length = ((zC ms).take (m + 1)).sum:=by omega
    rw [e1] at hsv hp ⊢
    (repeat (first|(with_reducible first|apply qA|apply qB|apply qZ|apply qO|apply jB)|((with_reducible apply qP);exact rfl)))
    (apply wlp;(exact qY rfl rfl);exact qI (b:=((m + 1:Nat):Int)) (by rw [qN (by omega) (by omega)];omega))
    (repeat (first|(with_reducible first|apply qE|apply qB)|(apply wlp;apply qC;exact fI rfl)))
    exact ⟨m + 1,s',c',qG (qG (Same.eq (by repeat (first|exact Same.hav|exact Same.refl|refine Same.put rfl ?_|refine Same.havs rfl ?_))) rfl) rfl,⟨by omega,hsv,hp⟩,by omega⟩
   have hme:m = krs.length:=by omega
   subst hme
   have e1:((zC ms).take krs.length).sum = n:=by rw [hkrl,← hwl,List.take_length,hn]
   have hptl:=qJ1 h.cf n
   rw [e1] at hsv hp ⊢
   rw [hptl]
   have hEk:eKy (⟨some ⟨cb,0,none⟩,nd,com,some ⟨kb,0,none⟩,ms.length,krs⟩:KyV) = [.slice (some ⟨cb,0,none⟩) nd nd,.slice (some ⟨kb,0,none⟩) krs.length ms.length]:=by
    show [Value.slice (some ⟨cb,0,none⟩) com.length nd,.slice (some ⟨kb,0,none⟩) krs.length ms.length] = _
    rw [hcoml]
   have h9:=fun (xs:List Nat) (s:Option Addr) (cc:Nat) (w:World) (hT:Tabs w) (hk:KyAt w (⟨some ⟨cb,0,none⟩,nd,com,some ⟨kb,0,none⟩,ms.length,krs⟩:KyV)) hx1 hnd hs hl hlc=>p9 (⟨some ⟨cb,0,none⟩,nd,com,some ⟨kb,0,none⟩,ms.length,krs⟩:KyV) (zC ms) h.cf xs r s cc w hT h0 h1 hk hkP hx1 hnd hs hl hlc (by show h.cf.length = com.length;rw [hcoml,hkl0,hnd0])
   rw [hEk,hcst,← hW] at h9
   have hPn:pk.length≤9223372036854775807:=hpl
   have hPA:=hP.keep0 hq.keeps
   (repeat (first|(with_reducible first|apply qF|apply qA|apply qB|apply qO|apply jB)|((with_reducible apply qP);exact rfl)))
   (apply wlp;exact zP (vs:=eGr h) rfl rfl rfl rfl (fun j v hv=>hp.old0 (c20 j v hv));exact (rfl:_ = Value.agg (eGr h).toArray))
   (repeat (apply wlp;apply qC;exact fS rfl))
   (apply wls;exact qH rfl qWy rfl (p6 h pk sP cP _ (hhA.keep hp.keeps) hho (hPA.keep0 hp.keeps) hPn);rintro _ w17 ⟨sY,cY,ys,rfl,hys,hvY,hpo⟩;have hp:=hp.join hpo;clear hpo)
   rw [hhm,← hn,hnd0] at hys
   have hyl:=hys.len
   have hp:Hp w15 [] w17 [qW eN 3 1 sY cY ys,qW (ePt r) 36 4 s' c' (qA7 h.cf n)]:=hp
   have hnep:qA7 h.cf n ≠ []:=by intro e;rw [e] at hptl;simp at hptl;omega
   obtain ⟨gp,rfl⟩:=hsv.addr hnep
   (repeat (first|(with_reducible first|apply qF|apply qK|apply qA|apply qE|apply qB)|(apply wlp;((first|apply qC|apply qD|(apply jC;exact rfl))<;>exact rfl);(first|exact fI rfl|exact fS rfl))))
   have hp:=hp.nilL (ePt r) 36 4
   refine zW ([6,36,38] ++ List.range' 220 21) (fun (e:Nat) (sz:Option Addr) (cz:Nat) F=>(F.put 220 (.int .i64 (e:Int))).put 36 (.slice sz (vE h.cf (ys.take e)).length cz))
    (fun e sz cz w'=>e≤ys.length∧SVL sz cz (vE h.cf (ys.take e))∧Hp w15 [] w' [qW (ePt r) 36 4 sz cz (vE h.cf (ys.take e)),qW eN 3 1 sY cY ys,qW (ePt r) 36 4 (some ⟨gp,0,none⟩) c' (qA7 h.cf n)]) (fun e _ _=>ys.length - e) 0 none 0 (qG (qG (Same.eq .refl) rfl) rfl) ⟨Nat.zero_le _,SVL.nil,hp⟩ ?_
   (repeat clear hp)
   rintro u5 e sz cz w18 ⟨he,hvz,hp⟩
   have htl:(vE h.cf (ys.take e)).length = e:=by rw [qB2,List.length_take];omega
   (repeat (first|(with_reducible first|apply qF|apply qA|apply qE|apply qB)|(apply wlp;(apply jA<;>exact rfl);exact fB rfl)))
   refine qM rfl (fun hh=>?_) (fun hh=>?_)
   ·have hlte:e < ys.length:=by omega
    have hsY:=jS hp 1 rfl hvY (fun _=>rfl)
    obtain ⟨b1,o1,hs1,hc1⟩:=hsY.base (by omega)
    have hcy:=hc1 e _ (List.getElem?_eq_getElem hlte) 0 _ rfl
    have hyb:=hys.bd _ (List.getElem_mem hlte)
    have hpn:=qGn h.cf ys hlte
    generalize ys[e] = y at hcy hyb hpn
    obtain ⟨y,rfl⟩:∃ y',y = y' + 1:=⟨y - 1,by omega⟩
    have hcy:w18.cell? ⟨b1,o1 + e * 1 + 0,none⟩ = some (.int .i64 ((y + 1:Nat):Int)):=hcy
    have hyn:y < n:=by omega
    have hcp:=xK hp 2 rfl hsv (fun _=>rfl) (qTa hyn)
    (repeat (with_reducible first|apply qF|apply qK|apply qA|apply qB|apply qL))
    (apply wlp;((apply qR;exact rfl)<;>(first|exact rfl|assumption));exact fP rfl)
    (apply wlp;((apply qJ;exact rfl)<;>(first|exact rfl|assumption));exact fI rfl)
    (apply wlp;apply qD;exact fI rfl)
    (repeat (with_reducible first|apply qF|apply qA|apply qE|apply qB))
    (apply wlp;apply qC;exact fI rfl)
    (apply wlp;(exact jA rfl rfl);exact jF (b:=false) (decide_eq_false (by omega)))
    (apply wlp;apply qC;exact fB rfl)
    ((apply jO;exact rfl;exact rfl);(apply qC);(intros;exact fI rfl))
    ((apply jO;exact rfl;exact rfl);(apply qC);(intros;exact fS rfl))
    ((apply jO;exact rfl;exact rfl);(((apply jC;exact rfl)<;>exact rfl));(intros;exact fI rfl))
    (apply jO;exact rfl;exact rfl;(exact zA rfl rfl);exact jF (b:=false) (decide_eq_false (by omega)))
    (apply wlp;exact jU rfl rfl;exact fB rfl)
    (repeat (with_reducible first|apply qE|apply qB))
    refine jI rfl ?_
    (repeat (first|(with_reducible first|apply qA|apply qB|apply qL)|(apply wlp;apply qC;(first|exact fI rfl|exact fS rfl))))
    (apply wlp;exact jN rfl rfl;exact qI (b:=(y:Int)) (by rw [qN (by omega) (by omega)];omega))
    (apply wlp;((apply qR;exact rfl)<;>(first|exact rfl|assumption));exact fP rfl)
    (apply wlp;exact zP (vs:=ePt r (y + 1,vl h.cf (y + 1))) rfl rfl rfl rfl (fun j v hv=>hcp j v hv);exact (rfl:_ = Value.agg (ePt r (y + 1,vl h.cf (y + 1))).toArray))
    (apply wls;exact jP (cs:=ePt r (y + 1,vl h.cf (y + 1))) hp rfl rfl rfl rfl rfl rfl rfl;rintro _ w19 ⟨nb,rfl,hp⟩)
    (apply wls;exact zL (ePt r) (vE h.cf (ys.take e)) (y + 1,vl h.cf (y + 1)) hp 1 0 rfl rfl rfl rfl rfl rfl (fun _=>rfl) rfl rfl rfl hvz rfl rfl (by omega);rintro _ w20 ⟨s2,c2,rfl,hsv2,hp⟩)
    rw [← hpn] at hsv2 hp
    rw [← hpn]
    (repeat (first|(with_reducible first|apply qA|apply qE|apply qB|apply qZ)|(apply wlp;apply qD;exact fS rfl)))
    (apply wlp;(exact qY rfl rfl);exact qI (b:=((e + 1:Nat):Int)) (by rw [qN (by omega) (by omega)];omega))
    (repeat (first|(with_reducible first|apply qE|apply qB)|(apply wlp;apply qC;exact fI rfl)))
    exact ⟨e + 1,s2,c2,qG (qG (Same.eq (by repeat (first|exact Same.hav|exact Same.refl|refine Same.put rfl ?_|refine Same.havs rfl ?_))) rfl) rfl,⟨by omega,hsv2,hp.tail⟩,by omega⟩
   have hee:e = ys.length:=by omega
   subst hee
   rw [List.take_length] at hvz hp htl ⊢
   rw [htl]
   have hrl:(List.range' 1 n).length = n:=List.length_range'
   have h9a:=h9 (List.range' 1 n) (some ⟨gp,0,none⟩) c'
   rw [hrl] at h9a
   (repeat (first|(with_reducible first|apply qF|apply qA|apply qB|apply qO|apply jB)|((with_reducible apply qP);exact rfl)))
   (apply wlp;exact zP (vs:=[.slice (some ⟨cb,0,none⟩) nd nd,.slice (some ⟨kb,0,none⟩) krs.length ms.length]) rfl rfl rfl rfl (fun j v hv=>hp.old0 (c22 j v hv));exact fA2 rfl)
   (repeat (apply wlp;apply qC;(first|exact fI rfl|exact fS rfl)))
   (apply wls;exact qH rfl qU0 rfl (h9a _ (hTT.keep hp.keeps) (hkA.keep hp.keeps) (fun x hx=>by rw [List.mem_range'_1] at hx;omega) List.nodup_range' (jS hp 2 rfl hsv (fun _=>rfl)) (by show com.length≤n;omega) (by omega));rintro _ w21 ⟨rfl,hk⟩;have hp:=hp.call hk)
   (repeat (first|(with_reducible first|apply qF|apply qA|apply qE|apply qB)|(apply wlp;((first|apply qC|apply qD|(apply jQ;exact rfl)|apply jK)<;>exact rfl);(first|exact fI rfl|exact fS rfl|exact fU rfl))))
   (apply wlp;exact zP (vs:=[.slice (some ⟨cb,0,none⟩) nd nd,.slice (some ⟨kb,0,none⟩) krs.length ms.length]) rfl rfl rfl rfl (fun j v hv=>hp.old0 (c22 j v hv));exact fA2 rfl)
   (repeat (apply wlp;apply qC;(first|exact fI rfl|exact fS rfl)))
   (apply wls;exact qH rfl qU0 rfl (h9 ys sz cz _ (hTT.keep hp.keeps) (hkA.keep hp.keeps) (by rw [← hn];exact hys.bd) hys.nd (jS hp 0 rfl hvz (fun _=>rfl)) (by show com.length≤ys.length;omega) (by omega));rintro _ w22 ⟨rfl,hk⟩;have hp:=hp.call hk)
   (apply wlp;apply qC;exact fU rfl)
   (apply wlp;(apply jK<;>exact rfl);exact fI rfl)
   (apply wlp;(apply jK<;>exact rfl);exact fS rfl)
   (apply wlp;(apply jK<;>exact rfl);exact fI rfl)
   (apply wlp;apply qD;exact fI rfl)
   (apply wlp;apply qD;exact fS rfl)
   (apply wlp;apply qD;exact fI rfl)
   (repeat (with_reducible first|apply qF|apply qA|apply qE|apply qB))
   (apply wlp;apply qC;exact fI rfl)
   (apply wlp;(exact zJ rfl rfl);exact jF (b:=false) (ndf (by omega)))
   (apply wlp;apply qC;exact fB rfl)
   ((apply jO;exact rfl;exact rfl);(apply qC);(intros;exact fI rfl))
   (apply jO;exact rfl;exact rfl;(exact zJ rfl rfl);exact jF (b:=false) (ndf (by omega)))
   (apply wlp;exact jU rfl rfl;exact fB rfl)
   (apply wlp;apply qC;exact fB rfl)
   ((apply jO;exact rfl;exact rfl);(apply qC);(intros;exact fI rfl))
   ((apply jO;exact rfl;exact rfl);(apply qC);(intros;exact fI rfl))
   (apply jO;exact rfl;exact rfl;(exact zJ rfl rfl);exact jF (b:=false) (ndf (by omega)))
   (apply wlp;exact jU rfl rfl;exact fB rfl)
   (apply wlp;apply qC;exact fB rfl)
   ((apply jO;exact rfl;exact rfl);(apply qC);(intros;exact fI rfl))
   ((apply jO;exact rfl;exact rfl);(apply qC);(intros;exact fI rfl))
   (apply jO;exact rfl;exact rfl;(exact zJ rfl rfl);exact jF (b:=false) (ndf (by omega)))
   (apply wlp;exact jU rfl rfl;exact fB rfl)
   (apply wlp;apply qC;exact fB rfl)
   ((apply jO;exact rfl;exact rfl);(apply qC);(intros;exact fS rfl))
   ((apply jO;exact rfl;exact rfl);(((apply jC;exact rfl)<;>exact rfl));(intros;exact fI rfl))
   (apply jO;exact rfl;exact rfl;(exact zJ rfl rfl);exact jF (b:=false) (ndf (by omega)))
   (apply wlp;exact jU rfl rfl;exact fB rfl)
   (repeat (with_reducible first|apply qE|apply qB))
   refine jI rfl ?_
   (repeat (with_reducible first|apply qA|apply qB|apply qL))
   (apply wlp;exact zP (vs:=eGr h) rfl rfl rfl rfl (fun j v hv=>hp.old0 (c20 j v hv));exact (rfl:_ = Value.agg (eGr h).toArray))
   have hq:=hq.call hp.keeps
   clear hp hk
   (apply zG;exact qAk hq 4 rfl rfl rfl rfl (qQ rfl) rfl;rintro _ w23 ⟨rfl,hq⟩)
   have hq:=hq.norm 4 (eGr h) rfl rfl
   have hp:Hp w [] w23 (blk b9 5 (qV (eGr h)) 29 :: ([blk b22 2 (qV [.slice (some ⟨cb,0,none⟩) nd nd,.slice (some ⟨kb,0,none⟩) krs.length ms.length]) 27,qW eN 3 1 (some ⟨cb,0,none⟩) nd com,qW eNR 23 1 (some ⟨kb,0,none⟩) ms.length krs,blk b20 5 (qV (eGr h)) 29] ++ (R2 ++ krs.map wU))):=hq.perm (List.perm_middle (l₁:=[_,_,_,_]))
   (repeat (first|(with_reducible first|apply qA|apply qE|apply qB|apply qZ)|(apply wlp;apply qC;exact fI rfl)))
   (apply wlp;(exact qY rfl rfl);exact qI (b:=((i + 1:Nat):Int)) (by rw [qN (by omega) (by omega)];omega))
   (repeat (first|(with_reducible first|apply qE|apply qB)|(apply wlp;apply qD;exact fI rfl)))
   exact ⟨(i + 1,h,_),qG (Same.eq (by repeat (first|exact hSm|exact Same.hav|refine Same.put rfl ?_|refine Same.havs rfl ?_|refine Same.putB rfl ?_))) rfl,⟨by dsimp only;omega,by dsimp only;omega,⟨hp,fun p hm=>List.mem_append_right _ (List.mem_append_left _ (hmh p hm)),hhv,hho⟩,hcst⟩,by dsimp only;omega⟩
  ·(apply jO;exact rfl;exact rfl;(exact jA rfl rfl);exact jF (b:=false) (decide_eq_false (by omega)))
   (apply wlp;exact zM rfl rfl;exact fB rfl)
   (repeat (with_reducible first|apply qE|apply qB))
   refine jI rfl ?_
   (repeat (first|(with_reducible first|apply qF|apply qA|apply qE|apply qB|apply qO|apply qT|apply jB)|((with_reducible apply qP);exact rfl)|(apply wlp;(first|apply qC|apply qD);exact fB rfl)))
   exact qU rfl rfl ⟨_,rfl,rfl,hp.keeps⟩
 ·(apply wlp;(exact jA rfl rfl);exact jF (b:=false) (decide_eq_false (by omega)))
  (apply wlp;apply qC;exact fB rfl)
  (repeat (first|(with_reducible first|apply qE|apply qB)|(apply wlp;(intros;exact vX rfl);(intros;exact fB rfl))|(apply vS;exact rfl;exact rfl;exact rfl)|(apply vR;exact rfl;exact rfl)))
  skip
  refine jI rfl ?_
  (repeat (first|(with_reducible first|apply qF|apply qA|apply qE|apply qB|apply qO|apply qT|apply jB)|((with_reducible apply qP);exact rfl)|(apply wlp;(first|apply qC|apply qD);exact fB rfl)))
  exact qU rfl rfl ⟨_,rfl,rfl,hp.keeps⟩
end Go.Proofs.YtbgldmoikimmpaaGreatDoor
namespace Go.Proofs.YtbgldmoikimmpaaGreatDoor
open Go.Eng Go.Dig
theorem qLr (m:Nat):∀ n,m + n≤128→qC9 m n≤2 ^ (7 * n)
 | 0,_=>by simp [qC9]
 | n + 1,h=>by
  have h1:=qLr m n (by omega)
  rw [qC9,Nat.mul_succ,Nat.pow_add]
  exact Nat.mul_le_mul h1 (by omega)
theorem qF0 {m n:Nat} (h:m + n≤128):Fit (qC9 m n):=by
 refine Fit.of (k:=7 * n + 1) (Nat.lt_of_le_of_lt (qLr m n h) (Nat.pow_lt_pow_right (by decide) (by omega))) (by omega)
theorem qPz {n:Nat} (h:n≤128):Fit (vP n):=by
 rw [← qDo]
 exact qF0 (by omega)
def chZ (n k:Int):Nat:=if n < 0∨n > 1000∨k < 0∨k > n then 0 else ch n.toNat k.toNat
theorem qUa {n k:Nat} (h:n≤1000):chZ n k = ch n k:=by
 unfold chZ
 by_cases hk:k≤n
 ·rw [if_neg (by omega)]
  simp
 ·rw [if_pos (by omega),qJo n k (by omega)]
theorem qRk {n k:Int} (h:n < 0∨n > 1000∨k < 0∨k > n):chZ n k = 0:=if_pos h
attribute [local irreducible] PV StepF wpl wpd WP Ret
attribute [local irreducible] Fit
theorem c36 (n m:Nat) (f:FuncId) (caps:Array Value) (w:World) (he:qX Tryz.prog f) (hmn:m + n≤100)
  (hc:∀ (i:Nat) (w':World),Keeps [] w w'→1≤i→i≤n→Ret Tryz.prog f ([.int .i64 (i:Int)] ++ caps.toList) w' (fun v w2=>v = .int .i64 ((m + i:Nat):Int)∧Keeps [] w' w2)) :
  Ret Tryz.prog 172 [.int .i64 (n:Int),.func (.func f) #[] caps] w (fun v w'=>v = .string (ofN (qC9 m n))∧Keeps [] w w'):=by
 refine Ret.of_WP Tryz.func172 rfl Tryz.ntmps172 rfl ?_
 have hp:=Hp.start (M:=[]) (w:=w)
 (repeat (first|(with_reducible first|apply qF|apply qA|apply qE|apply qB)|(apply wlp;apply qD;exact fT rfl)))
 (apply wls;exact qH rfl qI9 rfl (c13 1 _ (by decide)))
 rintro _ w1 ⟨rfl,hk⟩
 have hp:=hp.call hk
 (repeat (first|(with_reducible first|apply qF|apply qK|apply qA|apply qE|apply qB)|(apply wlp;(first|apply qC|apply qD);(first|exact fI rfl|exact fT rfl))))
 refine jE [5,6,9,10,11,12,13,14,15,16,17,18,19] (fun (i:Nat) F=>(F.put 5 (.string (ofN (qC9 m i)))).put 9 (.int .i64 (i:Int))) (fun i w'=>i≤n∧Hp w [] w' []) (fun i=>n - i) 0 (qG (qG (Same.eq .refl) rfl) rfl) ⟨Nat.zero_le _,hp⟩ ?_
 clear hp
 rintro u i w2 ⟨hi,hp⟩
 (repeat (first|(with_reducible first|apply qF|apply qA|apply qE|apply qB)|(apply wlp;(apply jA<;>exact rfl);exact fB rfl)))
 refine qM rfl (fun h2=>?_) (fun h2=>?_)
 ·(repeat (first|(with_reducible first|apply qF|apply qK|apply qA|apply qE|apply qB|apply qL)|(apply wlp;(first|apply qC|apply qD);(first|exact fI rfl|exact fT rfl|exact fF rfl))))
  (apply wlp;(exact qY rfl rfl);exact qI (b:=((i + 1:Nat):Int)) (by rw [qN (by omega) (by omega)];omega))
  (apply wls;exact qH rfl he rfl (hc (i + 1) _ hp.keeps (by omega) (by omega)))
  rintro _ w3 ⟨rfl,hk⟩
  have hp:=hp.call hk
  skip
  (apply wls;exact qH rfl qI9 rfl (c13 ((m + (i + 1):Nat):Int) _ (by omega)))
  rintro _ w4 ⟨rfl,hk⟩
  have hp:=hp.call hk
  rw [Int.toNat_natCast]
  skip
  (apply wls;exact qH rfl qYl rfl (c18 (qC9 m i) (m + (i + 1)) _ (qF0 (by omega)) (Fit.small (by omega))))
  rintro _ w5 ⟨rfl,hk⟩
  have hp:=hp.call hk
  (repeat (first|(with_reducible first|apply qA|apply qE|apply qB|apply qZ)|(apply wlp;apply qD;exact fT rfl)))
  (apply wlp;exact qY rfl rfl;exact qI (qN (by omega) (by omega)))
  (repeat (first|(with_reducible first|apply qE|apply qB)|(apply wlp;apply qC;exact fI rfl)))
  exact ⟨i + 1,qG (qG (Same.eq (by repeat (first|exact Same.hav|exact Same.refl|refine Same.put rfl ?_|refine Same.havs rfl ?_))) rfl) rfl,⟨by omega,hp⟩,by omega⟩
 ·obtain rfl:i = n:=by omega
  (repeat (first|(with_reducible first|apply qF|apply qA|apply qE|apply qB|apply qO|apply qT|apply jB)|((with_reducible apply qP);exact rfl)|(apply wlp;(first|apply qC|apply qD);exact fT rfl)))
  exact qU rfl rfl ⟨_,rfl,rfl,hp.keeps⟩
theorem c37 (a b i:Int) (p q:Nat) (w:World) (hp:w.cell? ⟨p,0,none⟩ = some (.int .i64 a)) (hq:w.cell? ⟨q,0,none⟩ = some (.int .i64 b)) (h:0≤b∧b≤a∧0≤i∧i≤b∧a≤1000) :
  Ret Tryz.prog 173 [.int .i64 i,.pointer (some ⟨p,0,none⟩),.pointer (some ⟨q,0,none⟩)] w (fun v w'=>v = .int .i64 (a - b + i)∧Keeps [] w w'):=by
 refine Ret.of_WP Tryz.func173 rfl Tryz.ntmps173 rfl ?_
 have hp:=Hp.start (M:=[]) (w:=w)
 (repeat (first|(with_reducible first|apply qF|apply qA|apply qE|apply qB)|(apply wlp;((first|apply qD|(apply qJ;exact rfl))<;>(first|exact rfl|assumption));exact fI rfl)))
 (apply wlp;exact jN rfl rfl;exact qI (qN (by omega) (by omega)))
 (repeat (apply wlp;apply qC;exact fI rfl))
 (apply wlp;exact qY rfl rfl;exact qI (qN (by omega) (by omega)))
 (repeat (first|(with_reducible first|apply qE|apply qB|apply qT)|(apply wlp;apply qD;exact fI rfl)))
 exact qU rfl rfl ⟨_,rfl,rfl,hp.keeps⟩
theorem c42 (i:Int) (w:World):Ret Tryz.prog 174 [.int .i64 i] w (fun v w'=>v = .int .i64 i∧Keeps [] w w'):=by
 refine Ret.of_WP Tryz.func174 rfl Tryz.ntmps174 rfl ?_
 have hp:=Hp.start (M:=[]) (w:=w)
 (repeat (first|(with_reducible first|apply qF|apply qA|apply qE|apply qB|apply qT)|(apply wlp;(first|apply qC|apply qD);exact fI rfl)))
 exact qU rfl rfl ⟨_,rfl,rfl,hp.keeps⟩
theorem c15 (n:Nat) (w:World) (hn:n≤100):Ret Tryz.prog 117 [.int .i64 (n:Int)] w (fun v w'=>v = .string (ofN (vP n))∧Keeps [] w w'):=by
 refine Ret.of_WP Tryz.func117 rfl Tryz.ntmps117 rfl ?_
 have hp:=Hp.start (M:=[]) (w:=w)
 (repeat (with_reducible first|apply qF|apply qA))
 (apply wlp;apply qD;exact fT rfl)
 (repeat (with_reducible first|apply qF|apply qA|apply qE|apply qB))
 (apply wlp;apply qC;exact fI rfl)
 (apply wlp;(exact jA rfl rfl);exact jF (b:=false) (decide_eq_false (by omega)))
 (repeat (first|(with_reducible first|apply qE|apply qB)|(apply wlp;(intros;((first|apply qC|exact jU rfl rfl|apply zA)<;>exact rfl));(intros;(first|exact fI rfl|exact fB rfl)))|((apply jO;exact rfl;exact rfl);(((first|apply qC|exact jU rfl rfl|apply zA)<;>exact rfl));(intros;(first|exact fI rfl|exact fB rfl)))|(apply vS;exact rfl;exact rfl;exact rfl)|(apply vR;exact rfl;exact rfl)))
 refine qM rfl (fun h=>absurd h (by omega)) (fun _=>?_)
 (repeat (first|(with_reducible first|apply qF|apply qA|apply qB|apply qL)|(apply wlp;apply qC;exact fI rfl)))
 (apply wls;exact qH rfl qQu rfl (c36 n 0 174 #[] _ qXy (by omega) (fun i w' _ _ _=>Ret.mono (c42 i w') (fun v w2 h=>⟨by rw [h.1,Nat.zero_add],h.2⟩))))
 rintro _ w1 ⟨rfl,hk⟩
 have hp:=hp.call hk
 (repeat (first|(with_reducible first|apply qE|apply qB|apply qT)|(apply wlp;apply qD;exact fT rfl)))
 exact qU rfl rfl ⟨_,rfl,by rw [qDo];rfl,hp.keeps⟩
theorem c12 (n k:Int) (w:World) (hn:n≤100∨n > 1000):Ret Tryz.prog 116 [.int .i64 n,.int .i64 k] w (fun v w'=>v = .string (ofN (chZ n k))∧Keeps [] w w'):=by
 refine Ret.of_WP Tryz.func116 rfl Tryz.ntmps116 rfl ?_
 have hp:=Hp.start (M:=[]) (w:=w)
 (repeat (first|(with_reducible first|apply qF|apply qA|apply qE|apply qB)|((first|apply wlp|(apply wlg;exact rfl;exact rfl));(intros;((first|apply qC|apply qD|(apply qJ;exact rfl)|exact qAq rfl rfl rfl|apply jA|apply zA)<;>(first|exact rfl|exact jR rfl (by assumption)|exact hp.cell 0 rfl rfl|exact hp.cell 1 rfl rfl)));(intros;(first|exact fI rfl|exact fB rfl|exact fT rfl)))|(apply wls;exact qAp hp rfl rfl;rintro _ w ⟨b,rfl,hp⟩)))
 refine zT rfl (fun h=>?_) (fun h=>?_)
 ·have hz:chZ n k = 0:=qRk (by simp at h;omega)
  (repeat (with_reducible first|apply qF|apply qA))
  (apply wls;exact qH rfl qI9 rfl (c13 0 _ (by decide)))
  rintro _ w1 ⟨rfl,hk⟩
  have hp:=hp.call hk
  (repeat (first|(with_reducible first|apply qE|apply qB|apply jV|apply qT)|(apply wlp;apply qD;exact fT rfl)))
  exact qU rfl rfl ⟨_,rfl,by rw [hz];rfl,hp.keeps⟩
 ·have h0:0≤k∧k≤n∧n≤100:=by simp at h;omega
  obtain ⟨N,rfl⟩:∃ N:Nat,n = N:=⟨n.toNat,by omega⟩
  obtain ⟨K,rfl⟩:∃ K:Nat,k = K:=⟨k.toNat,by omega⟩
  rw [qUa (by omega)]
  clear h
  obtain ⟨K',hK'⟩:∃ K':Nat,K' = min K (N - K):=⟨_,rfl⟩
  have hch:ch N K = ch N K':=by
   rw [hK']
   rcases Nat.le_total K (N - K) with h|h
   ·rw [Nat.min_eq_left h]
   ·rw [Nat.min_eq_right h,qU9 (by omega)]
  (repeat (first|(with_reducible first|apply qF|apply qA|apply qB|apply qL)|(apply wlp;((apply qJ;exact rfl)<;>(first|exact rfl|exact hp.cell 0 rfl rfl|exact hp.cell 1 rfl rfl));exact fI rfl)))
  (apply wlp;(exact jN rfl rfl);exact qI (b:=((N - K:Nat):Int)) (by rw [qN (by omega) (by omega)];omega))
  (apply wlp;exact qOt rfl rfl;exact qI (b:=(K':Int)) (by omega))
  (repeat (first|(with_reducible first|apply qF|apply qA|apply qE|apply qB)|(apply wlp;((first|(apply qJ;exact rfl)|apply vW)<;>(first|exact rfl|exact hp.cell 0 rfl rfl));(first|exact fI rfl|exact fF2 rfl))|(apply zG;exact xZ hp 0 rfl rfl rfl rfl (qQ rfl) rfl;rintro _ w ⟨rfl,hp⟩)))
  have hq:w.cell? ⟨_,0,none⟩ = some (.int .i64 (K':Int)):=hp.cell 0 rfl rfl
  have hp1:w.cell? ⟨_,0,none⟩ = some (.int .i64 (N:Int)):=hp.cell 1 rfl rfl
  (apply wls;exact qH rfl qQu rfl (c36 K' (N - K') 173 _ _ qXz (by omega) (fun i w' hk h1 h2=>Ret.mono (c37 N K' i _ _ w' (hk.cell hp1 (by simp)) (hk.cell hq (by simp)) (by omega)) (fun v w2 h=>⟨by rw [h.1];exact qI (by omega),h.2⟩))))
  rintro _ w1 ⟨rfl,hk⟩
  have hp:=hp.call hk
  (repeat (first|(with_reducible first|apply qF|apply qA|apply qE|apply qB)|(apply wlp;((first|apply qC|apply qD|(apply qJ;exact rfl))<;>(first|exact rfl|exact hp.cell 0 rfl rfl));(first|exact fI rfl|exact fT rfl))))
  (apply wls;exact qH rfl qYj rfl (c15 K' _ (by omega)))
  rintro _ w2 ⟨rfl,hk⟩
  have hp:=hp.call hk
  skip
  (apply wls;exact qH rfl qYm rfl (c24 _ _ _ (qF0 (by omega)) (qPz (by omega)) (qAa _)))
  rintro _ w3 ⟨rfl,hk⟩
  have hp:=hp.call hk
  rw [qOm (by omega),← hch]
  (repeat (first|(with_reducible first|apply qF|apply qA|apply qE|apply qB|apply qT)|(apply wlp;((first|apply qC|apply qD|apply jK)<;>exact rfl);(first|exact fB rfl|exact fT rfl|exact fU rfl))))
  exact qU rfl rfl ⟨_,rfl,rfl,hp.keeps⟩
end Go.Proofs.YtbgldmoikimmpaaGreatDoor
namespace Go.Proofs.YtbgldmoikimmpaaGreatDoor
open Go.Eng Go.Dig
def wLot:ByteArray:=⟨#[108,111,116,116,111]⟩
def drL (tb:Nat):List Value:=[.string wLot,.int .i64 1,.int .i64 1,.int .i64 0,.int .i64 5,.int .i64 2,.slice (some ⟨tb,0,none⟩) 1 1,.bool false,.slice none 0 0,.int .i64 0,.int .i64 0,.slice none 0 0,.slice none 0 0]
structure TbAt (w:World) (tb:Nat):Prop where
 c0:w.cell? ⟨tb,0 + 0 * 2 + 0,none⟩ = some (.int .i64 2)
 c1:w.cell? ⟨tb,0 + 0 * 2 + 1,none⟩ = some (.int .i64 50)
theorem TbAt.keep {w w':World} {tb:Nat} (h:TbAt w tb) (hk:Keeps [] w w'):TbAt w' tb:=⟨hk.cell h.c0 (by simp),hk.cell h.c1 (by simp)⟩
theorem qMu:wLot.size = 5:=rfl
theorem qSe {i:Nat} (h:i < 5):97≤bAt wLot i∧bAt wLot i≤122:=by
 match i,h with
 | 0,_=>decide +kernel
 | 1,_=>decide +kernel
 | 2,_=>decide +kernel
 | 3,_=>decide +kernel
 | 4,_=>decide +kernel
attribute [local irreducible] PV StepF wpl wpd WP Ret
attribute [local irreducible] Fit
theorem qP7 (n lo hi:Int) (w:World) (h1:lo≤n) (h2:n≤hi):Ret Tryz.prog 198 [.int .i64 n,.int .i64 lo,.int .i64 hi] w (fun v w'=>v = .int .i64 0∧Keeps [] w w'):=by
 refine Ret.of_WP Tryz.func198 rfl Tryz.ntmps198 rfl ?_
 have hp:=Hp.start (M:=[]) (w:=w)
 (repeat (first|(with_reducible first|apply qF|apply qA|apply qE|apply qB)|((first|apply wlp|(apply wlg;exact rfl;exact rfl));(intros;((first|apply qC|apply qD|exact qAq rfl rfl rfl|apply jA|apply zA)<;>(first|exact rfl|exact jR rfl (by assumption))));(intros;(first|exact fI rfl|exact fB rfl)))))
 refine zT rfl (fun h=>absurd h (by simp;omega)) (fun h=>?_)
 (repeat (first|(with_reducible first|apply qF|apply qA|apply qE|apply qB|apply qT|apply qL)|(apply wlp;apply qD;exact fI rfl)))
 exact qU rfl rfl ⟨_,rfl,rfl,hp.keeps⟩
theorem jBv (w:World):Ret Tryz.prog 268 [.string wLot] w (fun v w'=>v = .bool true∧Keeps [] w w'):=by
 have hsz:=qMu
 have hat:=fun {i:Nat} (h:i < 5)=>qSe h
 generalize wLot = s at hsz hat
 refine Ret.of_WP Tryz.func268 rfl Tryz.ntmps268 rfl ?_
 have hp:=Hp.start (M:=[]) (w:=w)
 (repeat (first|(with_reducible first|apply qF|apply qA|apply qE|apply qB)|((first|apply wlp|(apply wlg;exact rfl;exact rfl));(intros;((first|apply qC|apply qD|(apply xP;exact rfl)|exact qAq rfl rfl rfl|apply jA|apply zA)<;>(first|exact rfl|exact jR rfl (by assumption))));(intros;(first|exact fI rfl|exact fB rfl|exact fT rfl)))))
 refine zT rfl (fun h=>absurd h (by simp;omega)) (fun h=>?_)
 (repeat (first|(with_reducible first|apply qF|apply qK|apply qA|apply qE|apply qB|apply qL)|(apply wlp;((first|apply qC|(apply xP;exact rfl))<;>exact rfl);(first|exact fI rfl|exact fT rfl))))
 refine jE [2,3,14,15,16,17,18,19,20,21,22,23,24,25,26,27] (fun (i:Nat) F=>F.put 14 (.int .i64 i)) (fun i w'=>i≤s.size∧Hp w [] w' []) (fun i=>s.size - i) 0 (qG (Same.eq .refl) rfl) ⟨Nat.zero_le _,hp⟩ ?_
 clear hp
 rintro u i w ⟨hi,hp⟩
 (repeat (first|(with_reducible first|apply qF|apply qA|apply qE|apply qB)|(apply wlp;(apply jA<;>exact rfl);exact fB rfl)))
 refine qM rfl (fun h=>?_) (fun h=>?_)
 ·have hlt:i < s.size:=by omega
  have hb:=hat (i:=i) (by omega)
  (repeat (first|(with_reducible first|apply qF|apply qK|apply qA|apply qE|apply qB|apply qL)|((first|apply wlp|(apply wlg;exact rfl;exact rfl));(intros;((first|apply qC|apply qD|exact qAq rfl rfl rfl|apply jA|apply zA|apply zY)<;>(first|exact rfl|exact jR rfl (by assumption)|assumption)));(intros;(first|exact fI rfl|exact fB rfl|exact fT rfl)))))
  refine zT rfl (fun h=>absurd h (by simp;omega)) (fun h=>?_)
  (repeat (with_reducible first|apply qA|apply qB|apply qZ|apply qL))
  (apply wlp;(exact qY rfl rfl);exact qI (b:=((i + 1:Nat):Int)) (by rw [qN (by omega) (by omega)];omega))
  (repeat (first|(with_reducible first|apply qE|apply qB)|(apply wlp;apply qC;exact fI rfl)))
  exact ⟨i + 1,qG (Same.eq (by repeat (first|exact Same.hav|exact Same.refl|refine Same.put rfl ?_|refine Same.havs rfl ?_))) rfl,⟨by omega,hp⟩,by omega⟩
 ·(repeat (first|(with_reducible first|apply qF|apply qA|apply qE|apply qB|apply qO|apply qT|apply jB)|((with_reducible apply qP);exact rfl)|(apply wlp;apply qD;exact fB rfl)))
  exact qU rfl rfl ⟨_,rfl,rfl,hp.keeps⟩
theorem jC6 (tb:Nat) (w:World):Ret Tryz.prog 195 [.agg (drL tb).toArray] w (fun v w'=>v = .int .i64 0∧Keeps [] w w'):=by
 refine Ret.of_WP Tryz.func195 rfl Tryz.ntmps195 rfl ?_
 have hp:=Hp.start (M:=[]) (w:=w)
 (repeat (first|(with_reducible first|apply qF|apply qA|apply qE|apply qB)|(apply wlp;((first|apply qD|apply qS|(apply qJ;exact rfl))<;>(first|exact rfl|exact hp.cell 0 rfl rfl));(first|exact fI rfl|exact fP rfl|exact fT rfl))|(apply wls;exact kU hp rfl;rintro _ w ⟨b,rfl,hp⟩)))
 (apply wls;exact qH rfl qX8 rfl (jBv _))
 rintro _ w1 ⟨rfl,hk⟩
 have hp:=hp.call hk
 (repeat (first|(with_reducible first|apply qE|apply qB)|(apply wlp;(apply zI<;>exact rfl);exact fB rfl)))
 refine jI rfl ?_
 (repeat (first|(with_reducible first|apply qF|apply qA|apply qE|apply qB|apply qT|apply qL)|(apply wlp;apply qD;exact fI rfl)))
 exact qU rfl rfl ⟨_,rfl,rfl,hp.keeps⟩
theorem jC5 (tb:Nat) (w:World):Ret Tryz.prog 196 [.agg (drL tb).toArray] w (fun v w'=>v = .int .i64 0∧Keeps [] w w'):=by
 refine Ret.of_WP Tryz.func196 rfl Tryz.ntmps196 rfl ?_
 have hp:=Hp.start (M:=[]) (w:=w)
 ((repeat (with_reducible first|apply qF|apply qA));apply wls;exact kU hp rfl;rintro _ w1 ⟨db,rfl,hp⟩)
 (repeat (first|(with_reducible first|apply qF|apply qK|apply qA|apply qE|apply qB)|(apply wlp;(intros;((first|apply qC|apply qD|apply qS|(apply qJ;exact rfl)|(apply jC;exact rfl)|exact vX rfl|exact zM rfl rfl|(apply zF;(first|exact rfl|exact jR rfl (by assumption))))<;>(first|exact rfl|exact hp.cell 0 rfl rfl)));(intros;(first|exact fI rfl|exact fB rfl|exact fP rfl|exact fS rfl)))|((apply jO;exact rfl;exact rfl);(((first|apply qC|apply qD|apply qS|(apply qJ;exact rfl)|(apply jC;exact rfl)|exact vX rfl|exact zM rfl rfl|(apply zF;(first|exact rfl|exact jR rfl (by assumption))))<;>(first|exact rfl|exact hp.cell 0 rfl rfl)));(intros;(first|exact fI rfl|exact fB rfl|exact fP rfl|exact fS rfl)))|(apply vS;exact rfl;exact rfl;exact rfl)|(apply vR;exact rfl;exact rfl)))
 refine zT rfl (fun h=>?_) (fun h=>absurd h (by decide))
 (repeat (first|(with_reducible first|apply qF|apply qA|apply qE|apply qB|apply jV|apply qA9|apply qT)|(apply wlp;apply qD;exact fI rfl)))
 exact qU rfl rfl ⟨_,rfl,rfl,hp.keeps⟩
theorem jC4 (tb:Nat) (w:World):Ret Tryz.prog 197 [.agg (drL tb).toArray] w (fun v w'=>v = .int .i64 0∧Keeps [] w w'):=by
 refine Ret.of_WP Tryz.func197 rfl Tryz.ntmps197 rfl ?_
 have hp:=Hp.start (M:=[]) (w:=w)
 (repeat (first|(with_reducible first|apply qF|apply qA|apply qE|apply qB)|(apply wlp;((first|apply qD|apply qS|(apply qJ;exact rfl))<;>(first|exact rfl|exact hp.cell 0 rfl rfl));(first|exact fI rfl|exact fP rfl))|(apply wls;exact kU hp rfl;rintro _ w ⟨b,rfl,hp⟩)))
 (apply wls;exact qH rfl qFo rfl (qP7 1 1 1000000000 _ (by decide) (by decide)))
 rintro _ w1 ⟨rfl,hk⟩
 have hp:=hp.call hk
 (repeat (first|(with_reducible first|apply qE|apply qB|apply qT)|(apply wlp;apply qD;exact fI rfl)))
 exact qU rfl rfl ⟨_,rfl,rfl,hp.keeps⟩
theorem jC3 (tb:Nat) (w:World):Ret Tryz.prog 199 [.agg (drL tb).toArray] w (fun v w'=>v = .int .i64 0∧Keeps [] w w'):=by
 refine Ret.of_WP Tryz.func199 rfl Tryz.ntmps199 rfl ?_
 have hp:=Hp.start (M:=[]) (w:=w)
 (repeat (first|(with_reducible first|apply qF|apply qA|apply qE|apply qB)|(apply wlp;((first|apply qD|apply qS|(apply qJ;exact rfl))<;>(first|exact rfl|exact hp.cell 0 rfl rfl));(first|exact fI rfl|exact fP rfl))|(apply wls;exact kU hp rfl;rintro _ w ⟨b,rfl,hp⟩)))
 (apply wls;exact qH rfl qFo rfl (qP7 0 0 1000000 _ (by decide) (by decide)))
 rintro _ w1 ⟨rfl,hk⟩
 have hp:=hp.call hk
 (repeat (first|(with_reducible first|apply qE|apply qB|apply qT)|(apply wlp;apply qD;exact fI rfl)))
 exact qU rfl rfl ⟨_,rfl,rfl,hp.keeps⟩
theorem jC1 (tb:Nat) (w:World):Ret Tryz.prog 201 [.agg (drL tb).toArray] w (fun v w'=>v = .int .i64 0∧Keeps [] w w'):=by
 refine Ret.of_WP Tryz.func201 rfl Tryz.ntmps201 rfl ?_
 have hp:=Hp.start (M:=[]) (w:=w)
 (repeat (first|(with_reducible first|apply qF|apply qA|apply qE|apply qB)|(apply wlp;((first|apply qD|apply qS|(apply qJ;exact rfl))<;>(first|exact rfl|exact hp.cell 0 rfl rfl));(first|exact fI rfl|exact fP rfl))|(apply wls;exact kU hp rfl;rintro _ w ⟨b,rfl,hp⟩)))
 (apply wls;exact qH rfl qFo rfl (qP7 5 1 60 _ (by decide) (by decide)))
 rintro _ w1 ⟨rfl,hk⟩
 have hp:=hp.call hk
 (repeat (first|(with_reducible first|apply qE|apply qB|apply qT)|(apply wlp;apply qD;exact fI rfl)))
 exact qU rfl rfl ⟨_,rfl,rfl,hp.keeps⟩
theorem jC0 (tb:Nat) (w:World):Ret Tryz.prog 202 [.agg (drL tb).toArray] w (fun v w'=>v = .int .i64 0∧Keeps [] w w'):=by
 refine Ret.of_WP Tryz.func202 rfl Tryz.ntmps202 rfl ?_
 have hp:=Hp.start (M:=[]) (w:=w)
 (repeat (first|(with_reducible first|apply qF|apply qA|apply qE|apply qB)|(apply wlp;((first|apply qD|apply qS|(apply qJ;exact rfl)|apply qOt)<;>(first|exact rfl|exact hp.cell 0 rfl rfl));(first|exact fI rfl|exact fP rfl))|(apply wls;exact kU hp rfl;rintro _ w ⟨b,rfl,hp⟩)))
 (apply wls;exact qH rfl qFo rfl (qP7 2 1 5 _ (by decide) (by decide)))
 rintro _ w1 ⟨rfl,hk⟩
 have hp:=hp.call hk
 (repeat (first|(with_reducible first|apply qE|apply qB|apply qT)|(apply wlp;apply qD;exact fI rfl)))
 exact qU rfl rfl ⟨_,rfl,rfl,hp.keeps⟩
theorem jBq (f:Value) (w:World):Ret Tryz.prog 326 [.slice none 0 0,f] w (fun v w'=>v = .bool true∧Keeps [] w w'):=by
 refine Ret.of_WP Tryz.func326 rfl Tryz.ntmps326 rfl ?_
 have hp:=Hp.start (M:=[]) (w:=w)
 (repeat (first|(with_reducible first|apply qF|apply qK|apply qA|apply qE|apply qB)|(apply wlp;((first|apply qC|apply qD|(apply jC;exact rfl))<;>exact rfl);(first|exact fI rfl|exact fB rfl|exact fS rfl))))
 refine jE [4,6,9,10,11,12,13,14,15,16,17] (fun (i:Nat) F=>F.put 9 (.int .i64 i)) (fun i w'=>Hp w [] w' []) (fun i=>0) 0 (qG (Same.eq .refl) rfl) hp ?_
 clear hp
 rintro u i w hp
 (repeat (first|(with_reducible first|apply qF|apply qA|apply qE|apply qB)|(apply wlp;(apply jA<;>exact rfl);exact fB rfl)))
 refine qM rfl (fun h=>absurd h (by omega)) (fun h=>?_)
 (repeat (first|(with_reducible first|apply qF|apply qA|apply qE|apply qB|apply qO|apply qT|apply jB)|((with_reducible apply qP);exact rfl)|(apply wlp;apply qD;exact fB rfl)))
 exact qU rfl rfl ⟨_,rfl,rfl,hp.keeps⟩
theorem jBu (w:World):Ret Tryz.prog 269 [.slice none 0 0,.func (.func 270) #[] #[]] w (fun v w'=>v = .bool true∧Keeps [] w w'):=by
 refine Ret.of_WP Tryz.func269 rfl Tryz.ntmps269 rfl ?_
 have hp:=Hp.start (M:=[]) (w:=w)
 (repeat (with_reducible first|apply qF|apply qA))
 (apply wls;exact qAp hp rfl rfl;rintro _ w1 ⟨kb,rfl,hp⟩)
 (repeat (first|(with_reducible first|apply qF|apply qA|apply qE|apply qB)|(apply wlp;apply qD;exact fB rfl)))
 (apply wls;exact kA kInt hp;rintro _ w2 ⟨mb,rfl,hp⟩)
 (apply wls;exact qBm hp (jD rfl) rfl;rintro _ w3 ⟨sb,rfl,hp⟩)
 (apply zG;exact xZ hp 0 rfl rfl rfl rfl (qQ rfl) rfl;rintro _ w4 ⟨rfl,hp⟩)
 (repeat (first|(with_reducible first|apply qF|apply qA|apply qE|apply qB)|(apply wlp;(first|apply qC|apply vW);(first|exact fS rfl|exact fF2 rfl))))
 (apply wls;exact qH rfl qX1 rfl (jBq _ _))
 rintro _ w5 ⟨rfl,hk⟩
 have hp:=hp.call hk
 (repeat (first|(with_reducible first|apply qE|apply qB|apply qT)|(apply wlp;apply qD;exact fB rfl)))
 exact qU rfl rfl ⟨_,rfl,rfl,hp.keeps⟩
theorem jC2 (tb:Nat) (w:World):Ret Tryz.prog 200 [.agg (drL tb).toArray] w (fun v w'=>v = .int .i64 0∧Keeps [] w w'):=by
 refine Ret.of_WP Tryz.func200 rfl Tryz.ntmps200 rfl ?_
 have hp:=Hp.start (M:=[]) (w:=w)
 (repeat (first|(with_reducible first|apply qF|apply qA|apply qE|apply qB)|(apply wlp;((first|apply qD|apply qS|(apply qJ;exact rfl)|(apply jC;exact rfl)|apply zA)<;>(first|exact rfl|exact hp.cell 0 rfl rfl));(first|exact fI rfl|exact fB rfl|exact fP rfl|exact fS rfl))|(apply wls;exact kU hp rfl;rintro _ w ⟨b,rfl,hp⟩)))
 refine qM rfl (fun h=>absurd h (by decide)) (fun _=>?_)
 (repeat (first|(with_reducible first|apply qF|apply qA|apply qB|apply qL)|(apply wlp;((first|apply qS|(apply qJ;exact rfl))<;>(first|exact rfl|exact hp.cell 0 rfl rfl));(first|exact fP rfl|exact fS rfl))))
 (apply wls;exact qH rfl qX7 rfl (jBu _))
 rintro _ w1 ⟨rfl,hk⟩
 have hp:=hp.call hk
 (repeat (first|(with_reducible first|apply qE|apply qB)|(apply wlp;(apply zI<;>exact rfl);exact fB rfl)))
 refine jI rfl ?_
 (repeat (first|(with_reducible first|apply qF|apply qA|apply qE|apply qB|apply qT|apply qL)|(apply wlp;apply qD;exact fI rfl)))
 exact qU rfl rfl ⟨_,rfl,rfl,hp.keeps⟩
theorem qZj (f:FuncId) (caps:Array Value) (he:qX Tryz.prog f) (m tb:Nat) (J:World→Prop) (w:World) (hT:TbAt w tb)
  (hst:∀ w' w'',J w'→Keeps [] w' w''→J w'')
  (hcl:∀ w',Keeps [] w w'→Ret Tryz.prog f (.agg #[.int .i64 2,.int .i64 50] :: caps.toList) w' (fun v w''=>v = .bool true∧Keeps [m] w' w''∧J w'')) :
  Ret Tryz.prog 271 [.slice (some ⟨tb,0,none⟩) 1 1,.func (.func f) #[] caps] w (fun v w'=>v = .bool true∧Keeps [m] w w'∧J w'):=by
 refine Ret.of_WP Tryz.func271 rfl Tryz.ntmps271 rfl ?_
 have hp:=Hp.start (M:=[]) (w:=w)
 (repeat (first|(with_reducible first|apply qF|apply qK|apply qA|apply qE|apply qB)|(apply wlp;((first|apply qC|apply qD|(apply jC;exact rfl))<;>exact rfl);(first|exact fI rfl|exact fB rfl|exact fS rfl))))
 refine jE [4,6,9,10,11,12,13,14,15,16,17] (fun (i:Nat) F=>F.put 9 (.int .i64 i)) (fun i w'=>i≤1∧(i = 0→Keeps [] w w')∧(i = 1→Keeps [m] w w'∧J w')) (fun i=>1 - i) 0 (qG (Same.eq .refl) rfl) ⟨by omega,fun _=>hp.keeps,fun h=>absurd h (by decide)⟩ ?_
 clear hp
 rintro u i w1 ⟨hi,h0,h1⟩
 have hp:=Hp.start (M:=[]) (w:=w1)
 (repeat (first|(with_reducible first|apply qF|apply qA|apply qE|apply qB)|(apply wlp;(apply jA<;>exact rfl);exact fB rfl)))
 refine qM rfl (fun h=>?_) (fun h=>?_)
 ·obtain rfl:i = 0:=by omega
  have hk0:=h0 rfl
  have hT1:=hT.keep hk0
  have hlt:0 < 1:=by decide
  clear h1 h0
  (repeat (first|(with_reducible first|apply qF|apply qK|apply qA|apply qB|apply qL)|(apply wlp;((first|(apply jQ;exact rfl)|(apply qR;exact rfl))<;>(first|exact rfl|assumption));exact fP rfl)))
  (apply wlp;exact zP (vs:=[.int .i64 2,.int .i64 50]) rfl rfl rfl rfl (fun j v hv=>hp.old0 (by match j,hv with|0,hv=>(cases hv;exact hT1.c0)|1,hv=>(cases hv;exact hT1.c1)));exact fA2 rfl)
  (apply wls;exact vA hp (jD rfl);rintro _ w2 ⟨b6,rfl,hp⟩)
  (apply zG;exact yN hp 0 rfl rfl rfl rfl (qQ rfl) rfl;rintro _ w3 ⟨rfl,hp⟩)
  have hp:=hp.norm 0 [.int .i64 2,.int .i64 50] rfl rfl
  (repeat (first|(with_reducible first|apply qF|apply qA|apply qE|apply qB)|(apply wlp;((first|apply qC|(apply jQ;exact rfl))<;>(first|exact rfl|exact hp.agg_blk 0 rfl rfl));(first|exact fF rfl|exact fA2 rfl))))
  have hk3:Keeps [] w w3:=hk0.trans hp.keeps (by simp)
  (apply wls;exact qH rfl he rfl (hcl _ hk3))
  rintro _ w4 ⟨rfl,hk4,hJ⟩
  have hk5:Keeps [m] w w4:=(Keeps.refl.trans hk3 (by simp)).trans hk4 (fun _ h=>.inr h)
  clear hp
  (repeat (first|(with_reducible first|apply qE|apply qB)|(apply wlp;(apply zI<;>exact rfl);exact fB rfl)))
  refine jI rfl ?_
  (repeat (with_reducible first|apply qA|apply qB|apply qZ|apply qL))
  (apply wlp;exact qY rfl rfl;exact qI (b:=((1:Nat):Int)) (qN (by omega) (by omega)))
  (repeat (first|(with_reducible first|apply qE|apply qB)|(apply wlp;apply qC;exact fI rfl)))
  exact ⟨1,qG (Same.eq (by repeat (first|exact Same.hav|exact Same.refl|refine Same.put rfl ?_|refine Same.havs rfl ?_))) rfl,⟨by omega,fun h=>absurd h (by decide),fun _=>⟨hk5,hJ⟩⟩,by omega⟩
 ·(repeat (first|(with_reducible first|apply qF|apply qA|apply qE|apply qB|apply qO|apply qT|apply jB)|((with_reducible apply qP);exact rfl)|(apply wlp;apply qD;exact fB rfl)))
  obtain ⟨hk,hJ⟩:=h1 (by omega)
  exact qU rfl rfl ⟨_,rfl,rfl,hk,hJ⟩
theorem jBt (sb db:Nat) (w:World) (hb:∃ o,w.heap[sb]? = some o∧qCk 1 (qV [.int .i64 0]) 3 o) (hd:w.cell? ⟨db,0 + 5,none⟩ = some (.int .i64 2)) (hne:db ≠ sb) :
  Ret Tryz.prog 272 [.agg #[.int .i64 2,.int .i64 50],.pointer (some ⟨sb,0,none⟩),.pointer (some ⟨db,0,none⟩)] w (fun v w'=>v = .bool true∧Keeps [sb] w w'∧w'.cell? ⟨sb,0,none⟩ = some (.int .i64 50)):=by
 have hp1:=Hp.adopt1 hb
 have hdn:db ∉ [sb]:=by simp [hne]
 refine Ret.of_WP Tryz.func272 rfl Tryz.ntmps272 rfl ?_
 have hp:Hp w [sb] w [blk sb 1 (qV [.int .i64 0]) 3]:=hp1
 (repeat (with_reducible first|apply qF|apply qA))
 (apply wls;exact uY hp rfl;rintro _ w1 ⟨b3,rfl,hp⟩)
 (repeat (first|(with_reducible first|apply qF|apply qA|apply qE|apply qB)|(apply wlp;((first|apply qD|apply qS|(apply qJ;exact rfl))<;>(first|exact rfl|exact hp.cell 0 rfl rfl|exact hp.cell 1 rfl rfl));(first|exact fI rfl|exact fB rfl|exact fP rfl))))
 (apply wlp;exact qY rfl rfl;exact qI (b:=50) (by decide))
 (apply zG;exact xZ hp 1 rfl rfl rfl rfl (qQ rfl) rfl;rintro _ w2 ⟨rfl,hp⟩)
 have hp:=hp.norm 1 [.int .i64 50] rfl rfl
 (repeat (first|(with_reducible first|apply qF|apply qA|apply qE|apply qB)|(apply wlp;(intros;((first|apply qC|apply qS|(apply qJ;exact rfl)|apply xF)<;>(first|exact rfl|exact hp.cell 0 rfl rfl)));(intros;(first|exact fI rfl|exact fB rfl|exact fP rfl)))|((apply jO;exact rfl;exact rfl);(((first|apply qC|apply qS|(apply qJ;exact rfl)|apply xF)<;>(first|exact rfl|exact hp.cell 0 rfl rfl)));(intros;(first|exact fI rfl|exact fB rfl|exact fP rfl)))|(apply vS;exact rfl;exact rfl;exact rfl)|(apply vR;exact rfl;exact rfl)))
 (apply jO;exact rfl;exact rfl;exact qJ rfl rfl (hp.old hd hdn);exact fI rfl)
 (repeat (first|(with_reducible first|apply qE|apply qB|apply qT)|(apply wlp;(intros;((first|apply qC|apply qD|apply qS|(apply qJ;exact rfl)|exact zM rfl rfl|apply kB|apply xF)<;>(first|exact rfl|exact hp.cell 0 rfl rfl)));(intros;(first|exact fI rfl|exact fB rfl|exact fP rfl)))|((apply jO;exact rfl;exact rfl);(((first|apply qC|apply qD|apply qS|(apply qJ;exact rfl)|exact zM rfl rfl|apply kB|apply xF)<;>(first|exact rfl|exact hp.cell 0 rfl rfl)));(intros;(first|exact fI rfl|exact fB rfl|exact fP rfl)))|(apply vS;exact rfl;exact rfl;exact rfl)|(apply vR;exact rfl;exact rfl)))
 exact qU rfl rfl ⟨_,rfl,rfl,hp.keeps,hp.cell 1 rfl rfl⟩
theorem jBr (a b:Int) (w:World):Ret Tryz.prog 274 [.agg #[.int .i64 a,.int .i64 b]] w (fun v w'=>v = .int .i64 a∧Keeps [] w w'):=by
 refine Ret.of_WP Tryz.func274 rfl Tryz.ntmps274 rfl ?_
 have hp:=Hp.start (M:=[]) (w:=w)
 (repeat (first|(with_reducible first|apply qF|apply qA|apply qE|apply qB|apply qT)|(apply wlp;((first|apply qD|apply qS|(apply qJ;exact rfl))<;>(first|exact rfl|exact hp.cell 0 rfl rfl));(first|exact fI rfl|exact fP rfl))|(apply wls;exact uY hp rfl;rintro _ w ⟨b,rfl,hp⟩)))
 exact qU rfl rfl ⟨_,rfl,rfl,hp.keeps⟩
theorem jBp (kb sb mb:Nat) (w:World) (hm:∃ o,w.heap[mb]? = some o∧(qAv kInt mb (wH (fun _=>false))).2 o) (hk1:w.cell? ⟨kb,0,none⟩ = some (.func (.func 274) #[] #[])) (hk2:w.cell? ⟨sb,0,none⟩ = some (.map (some mb))) (hn1:kb ≠ mb) (hn2:sb ≠ mb) :
  Ret Tryz.prog 328 [.agg #[.int .i64 2,.int .i64 50],.pointer (some ⟨kb,0,none⟩),.pointer (some ⟨sb,0,none⟩)] w (fun v w'=>v = .bool true∧Keeps [mb] w w'∧True):=by
 obtain ⟨o,ho,hm⟩:=hm
 have hd1:kb ∉ [mb]:=by simp [hn1]
 have hd2:sb ∉ [mb]:=by simp [hn2]
 refine Ret.of_WP Tryz.func328 rfl Tryz.ntmps328 rfl ?_
 have hp:Hp w [mb] w [qAv kInt mb (wH (fun _=>false))]:=Hp.start.adopt (by simp) ho hm (by simp)
 (repeat (first|(with_reducible first|apply qF|apply qA|apply qE|apply qB)|(apply wlp;apply qD;exact fB rfl)|(apply wls;exact uY hp rfl;rintro _ w ⟨b,rfl,hp⟩)))
 (apply wlp;exact qHp Tryz.underlying324 rfl rfl (hp.old hk1 hd1);exact fF rfl)
 (repeat (apply wlp;((apply jQ;exact rfl)<;>(first|exact rfl|exact hp.agg_blk 0 rfl rfl));exact fA2 rfl))
 (apply wls;exact qH rfl qX4 rfl (jBr 2 50 _);rintro _ w1 ⟨rfl,hk⟩;have hp:=hp.call hk)
 (repeat (first|(with_reducible first|apply qF|apply qA|apply qE|apply qB)|(apply wlp;((first|apply qD|(apply qJ;exact rfl))<;>exact rfl);exact fI rfl)))
 (apply wlp;exact qJ rfl rfl (hp.old hk2 hd2);exact fM rfl)
 (repeat (apply wlp;apply qC;exact fI rfl))
 (apply wlp;exact qA4 (a:=(2:Int)) hp 1 rfl rfl rfl (zK (t:=92) rfl).1 (zK (t:=92) rfl).2.1 (zK (t:=92) rfl).2.2;exact (qAz _ _).trans rfl)
 (repeat (with_reducible first|apply qE|apply qB))
 refine jI rfl ?_
 (repeat (first|(with_reducible first|apply qF|apply qA|apply qB|apply qL)|(apply wlp;((apply qJ;exact rfl)<;>exact rfl);skip)))
 (apply wlp;exact qJ rfl rfl (hp.old hk2 hd2);exact fM rfl)
 (repeat (apply wlp;apply qC;exact fI rfl))
 (apply zG;exact qA3 (a:=(2:Int)) hp 1 rfl rfl rfl rfl (zK (t:=92) rfl).1 (zK (t:=92) rfl).2.1;rintro _ w2 ⟨rfl,hp⟩)
 (repeat (first|(with_reducible first|apply qF|apply qA|apply qE|apply qB|apply qT)|(apply wlp;apply qD;exact fB rfl)))
 exact qU rfl rfl ⟨_,rfl,rfl,hp.keeps,trivial⟩
end Go.Proofs.YtbgldmoikimmpaaGreatDoor
namespace Go.Proofs.YtbgldmoikimmpaaGreatDoor
open Go.Eng Go.Dig
def clF (i:Nat):FuncId:=[195,196,197,199,200,201,202,203,204,205,206,207].getD i 0
def clK (i:Nat):Int:=[0,0,0,0,0,1,1,1,2,2,3,3].getD i 0
def clN (i:Nat):ByteArray:=[(⟨#[110,97,109,101]⟩:ByteArray),⟨#[107,105,110,100]⟩,⟨#[114,111,117,110,100]⟩,⟨#[112,114,105,99,101]⟩,⟨#[98,97,114]⟩,⟨#[112,111,111,108]⟩,⟨#[112,105,99,107]⟩,⟨#[116,105,101,114]⟩,⟨#[112,108,97,99,101]⟩,⟨#[99,108,97,115,115]⟩,⟨#[115,105,122,101]⟩,⟨#[113,117,111,116,97]⟩].getD i ⟨#[]⟩
structure ClAt (w:World) (cb:Nat):Prop where
 name:∀ i,i < 12→w.cell? ⟨cb,0 + i * 3 + 0,none⟩ = some (.string (clN i))
 kind:∀ i,i < 12→w.cell? ⟨cb,0 + i * 3 + 1,none⟩ = some (.int .i64 (clK i))
 fn:∀ i,i < 12→w.cell? ⟨cb,0 + i * 3 + 2,none⟩ = some (.func (.func (clF i)) #[] #[])
attribute [local irreducible] PV StepF wpl wpd WP Ret
attribute [local irreducible] Fit
theorem jBs (tb:Nat) (w:World) (hT:TbAt w tb):Ret Tryz.prog 273 [.slice (some ⟨tb,0,none⟩) 1 1,.func (.func 274) #[] #[]] w (fun v w'=>v = .bool true∧Keeps [] w w'):=by
 refine Ret.of_WP Tryz.func273 rfl Tryz.ntmps273 rfl ?_
 have hp:=Hp.start (M:=[]) (w:=w)
 (repeat (with_reducible first|apply qF|apply qA))
 (apply wls;exact qAp hp rfl rfl;rintro _ w1 ⟨kb,rfl,hp⟩)
 (repeat (first|(with_reducible first|apply qF|apply qA|apply qE|apply qB)|(apply wlp;apply qD;exact fB rfl)))
 (apply wls;exact kA kInt hp;rintro _ w2 ⟨mb,rfl,hp⟩)
 (apply wls;exact qBm hp (jD rfl) rfl;rintro _ w3 ⟨sb,rfl,hp⟩)
 (apply zG;exact xZ hp 0 rfl rfl rfl rfl (qQ rfl) rfl;rintro _ w4 ⟨rfl,hp⟩)
 (repeat (first|(with_reducible first|apply qF|apply qA|apply qE|apply qB)|(apply wlp;(first|apply qC|apply vW);(first|exact fS rfl|exact fF2 rfl))))
 have hk1:w4.cell? ⟨kb,0,none⟩ = some (.func (.func 274) #[] #[]):=hp.cell 2 rfl rfl
 have hk2:w4.cell? ⟨sb,0,none⟩ = some (.map (some mb)):=hp.cell 0 rfl rfl
 have hk3:=hp.has 1 _ rfl mb rfl
 have hn1:kb ≠ mb:=fun e=>hp.dis 2 1 _ _ rfl rfl (by omega) kb rfl (by rw [e];rfl)
 have hn2:sb ≠ mb:=fun e=>hp.dis 0 1 _ _ rfl rfl (by omega) sb rfl (by rw [e];rfl)
 have hmw:w.heap.size≤mb:=by
  have:=hp.own 1 _ rfl mb rfl
  simpa using this
 rw [← qGk (fun _=>false) (fun _=>rfl)] at hk3
 (apply wls;exact qH rfl qQg rfl (qZj 328 #[.pointer (some ⟨kb,0,none⟩),.pointer (some ⟨sb,0,none⟩)] qX0 mb tb (fun _=>True) w4 (hT.keep hp.keeps) (fun _ _ _ _=>trivial) (fun w' hk=>jBp kb sb mb w' (by
  obtain ⟨o,ho,hc⟩:=hk3
  exact ⟨o,by rw [hk.block mb (Array.getElem?_eq_some_iff.1 ho).1 (by simp)];exact ho,hc⟩) (hk.cell hk1 (by simp)) (hk.cell hk2 (by simp)) hn1 hn2)))
 rintro _ w5 ⟨rfl,hk5,_⟩
 have hkw:=hp.keeps.trans hk5 (by intro k hk;simp at hk;subst hk;exact .inl hmw)
 clear hp
 (repeat (first|(with_reducible first|apply qE|apply qB|apply qT)|(apply wlp;apply qD;exact fB rfl)))
 exact qU rfl rfl ⟨_,rfl,rfl,hkw⟩
theorem jBz (tb:Nat) (w:World) (hT:TbAt w tb):Ret Tryz.prog 203 [.agg (drL tb).toArray] w (fun v w'=>v = .int .i64 0∧Keeps [] w w'):=by
 refine Ret.of_WP Tryz.func203 rfl Tryz.ntmps203 rfl ?_
 have hp:=Hp.start (M:=[]) (w:=w)
 ((repeat (with_reducible first|apply qF|apply qA));apply wls;exact kU hp rfl;rintro _ w1 ⟨db,rfl,hp⟩)
 (repeat (first|(with_reducible first|apply qF|apply qA|apply qE|apply qB)|((first|apply wlp|(apply wlg;exact rfl;exact rfl));(intros;((first|apply qC|apply qD|apply qS|(apply qJ;exact rfl)|(apply jC;exact rfl)|exact jU rfl rfl|apply jA|apply zA)<;>(first|exact rfl|exact hp.cell 0 rfl rfl)));(intros;(first|exact fI rfl|exact fB rfl|exact fP rfl|exact fS rfl)))))
 refine zT rfl (fun h=>absurd h (by decide)) (fun _=>?_)
 (repeat (with_reducible first|apply qF|apply qA|apply qB|apply qL))
 (apply wls;exact qBm hp (jD rfl) rfl;rintro _ w2 ⟨sb,rfl,hp⟩)
 (apply zG;exact xZ hp 0 rfl rfl rfl rfl (qQ rfl) rfl;rintro _ w3 ⟨rfl,hp⟩)
 have hp:=hp.norm 0 [.int .i64 0] rfl rfl
 (repeat (first|(with_reducible first|apply qF|apply qA|apply qE|apply qB)|(apply wlp;((first|apply qS|(apply qJ;exact rfl)|apply vW)<;>(first|exact rfl|exact hp.cell 1 rfl rfl));(first|exact fP rfl|exact fS rfl|exact fF2 rfl))))
 have hne:db ≠ sb:=fun e=>hp.dis 1 0 _ _ rfl rfl (by omega) db rfl (by rw [e];rfl)
 have hsw:w.heap.size≤sb:=by
  have:=hp.own 0 _ rfl sb rfl
  simpa using this
 have hpk:w3.cell? ⟨db,0 + 5,none⟩ = some (.int .i64 2):=hp.cell 1 rfl rfl
 have hsl:w3.cell? ⟨db,0 + 6,none⟩ = some (.slice (some ⟨tb,0,none⟩) 1 1):=hp.cell 1 rfl rfl
 have hsum:=hp.has 0 _ rfl sb rfl
 (apply wls;exact qH rfl qQg rfl (qZj 272 #[.pointer (some ⟨sb,0,none⟩),.pointer (some ⟨db,0,none⟩)] qX6 sb tb (fun w'=>w'.cell? ⟨sb,0,none⟩ = some (.int .i64 50)) w3 (hT.keep hp.keeps) (fun _ _ h hk=>hk.cell h (by simp)) (fun w' hk=>jBt sb db w' (by
  obtain ⟨o,ho,hc⟩:=hsum
  exact ⟨o,by rw [hk.block sb (Array.getElem?_eq_some_iff.1 ho).1 (by simp)];exact ho,hc⟩) (hk.cell hpk (by simp)) hne)))
 rintro _ w4 ⟨rfl,hk4,hs4⟩
 have hkw:Keeps [] w w4:=hp.keeps.trans hk4 (by intro k hk;simp at hk;subst hk;exact .inl hsw)
 have hT4:=hT.keep hkw
 have hdt:w4.cell? ⟨db,0 + 6,none⟩ = some (.slice (some ⟨tb,0,none⟩) 1 1):=hk4.cell hsl (by simp [hne])
 clear hp
 have hp:=Hp.start (M:=[]) (w:=w4)
 (repeat (first|(with_reducible first|apply qF|apply qA|apply qE|apply qB)|(apply wlp;((first|apply qC|apply qD|apply zI)<;>exact rfl);exact fB rfl)))
 refine jI rfl ?_
 (repeat (first|(with_reducible first|apply qF|apply qA|apply qB|apply qL)|(apply wlp;((first|apply qS|(apply qJ;exact rfl))<;>(first|exact rfl|assumption));(first|exact fP rfl|exact fS rfl))))
 (apply wls;exact qH rfl qX5 rfl (jBs tb _ (hT4.keep hp.keeps));rintro _ w5 ⟨rfl,hk⟩;have hp:=hp.call hk)
 (repeat (first|(with_reducible first|apply qE|apply qB)|(apply wlp;(apply zI<;>exact rfl);exact fB rfl)))
 refine jI rfl ?_
 (repeat (first|(with_reducible first|apply qF|apply qA|apply qB|apply qL)|(apply wlp;((apply qJ;exact rfl)<;>(first|exact rfl|exact hp.old0 (by assumption)));exact fI rfl)))
 (apply wls;exact qH rfl qFo rfl (qP7 50 0 100 _ (by decide) (by decide)))
 rintro _ w6 ⟨rfl,hk⟩
 have hp:=hp.call hk
 (repeat (first|(with_reducible first|apply qE|apply qB|apply qT)|(apply wlp;apply qD;exact fI rfl)))
 exact qU rfl rfl ⟨_,rfl,rfl,hkw.trans hp.keeps (by simp)⟩
set_option maxHeartbeats 4000000 in
theorem jCa (w:World):Ret Tryz.prog 146 [] w (fun v w'=>∃ b,v = .slice (some ⟨b,0,none⟩) 12 12∧Keeps [] w w'∧ClAt w' b):=by
 refine Ret.of_WP Tryz.func146 rfl Tryz.ntmps146 rfl ?_
 have hp:=Hp.start (M:=[]) (w:=w)
 (repeat (first|(with_reducible first|apply qF|apply qA|apply qE|apply qB)|(apply wlp;((first|apply qD|(apply xJ;exact rfl))<;>exact rfl);(first|exact fS rfl|exact fA3 rfl))))
 (apply wls;exact jP hp rfl rfl rfl rfl rfl rfl rfl;rintro _ w1 ⟨b,rfl,hp⟩)
 (repeat (first|(with_reducible first|apply qE|apply qB|apply qT)|(apply wlp;apply qD;exact fS rfl)))
 refine qU rfl rfl ⟨_,rfl,b,rfl,hp.keeps,?_,?_,?_⟩ <;>
 ·intro i hi
  match i,hi with
  | 0,_=>exact hp.cell 0 rfl rfl
  | 1,_=>exact hp.cell 0 rfl rfl
  | 2,_=>exact hp.cell 0 rfl rfl
  | 3,_=>exact hp.cell 0 rfl rfl
  | 4,_=>exact hp.cell 0 rfl rfl
  | 5,_=>exact hp.cell 0 rfl rfl
  | 6,_=>exact hp.cell 0 rfl rfl
  | 7,_=>exact hp.cell 0 rfl rfl
  | 8,_=>exact hp.cell 0 rfl rfl
  | 9,_=>exact hp.cell 0 rfl rfl
  | 10,_=>exact hp.cell 0 rfl rfl
  | 11,_=>exact hp.cell 0 rfl rfl
theorem jA1 (i:Nat) (hi:i < 8):qX Tryz.prog (clF i):=by
 match i,hi with
 | 0,_=>exact qXq
 | 1,_=>exact qXp
 | 2,_=>exact qXo
 | 3,_=>exact qXn
 | 4,_=>exact qXm
 | 5,_=>exact qXl
 | 6,_=>exact qXk
 | 7,_=>exact qXj
theorem pCl (tb i:Nat) (hi:i < 8) (w:World) (hT:TbAt w tb):Ret Tryz.prog (clF i) [.agg (drL tb).toArray] w (fun v w'=>v = .int .i64 0∧Keeps [] w w'):=by
 match i,hi with
 | 0,_=>exact jC6 tb w
 | 1,_=>exact jC5 tb w
 | 2,_=>exact jC4 tb w
 | 3,_=>exact jC3 tb w
 | 4,_=>exact jC2 tb w
 | 5,_=>exact jC1 tb w
 | 6,_=>exact jC0 tb w
 | 7,_=>exact jBz tb w hT
theorem qYv {i:Nat} (h:i < 8):((!decide (clK i = 0)) && (!decide (clK i = 1))) = false:=by
 match i,h with
 | 0,_=>rfl
 | 1,_=>rfl
 | 2,_=>rfl
 | 3,_=>rfl
 | 4,_=>rfl
 | 5,_=>rfl
 | 6,_=>rfl
 | 7,_=>rfl
theorem qYw {i:Nat} (h:8≤i) (h2:i < 12):((!decide (clK i = 0)) && (!decide (clK i = 1))) = true:=by
 match i,h,h2 with
 | 8,_,_=>rfl
 | 9,_,_=>rfl
 | 10,_,_=>rfl
 | 11,_,_=>rfl
set_option maxHeartbeats 4000000 in
theorem jCr (tb:Nat) (w:World) (hT:TbAt w tb):Ret Tryz.prog 101 [.agg (drL tb).toArray] w (fun v w'=>v = .tuple #[.string ⟨#[]⟩,.int .i64 0]∧Keeps [] w w'):=by
 refine Ret.of_WP Tryz.func101 rfl Tryz.ntmps101 rfl ?_
 have hp:=Hp.start (M:=[]) (w:=w)
 ((repeat (with_reducible first|apply qF|apply qA));apply wls;exact kU hp rfl;rintro _ w1 ⟨db,rfl,hp⟩)
 (repeat (first|(with_reducible first|apply qF|apply qA|apply qE|apply qB)|(apply wlp;apply qD;(first|exact fI rfl|exact fT rfl))))
 (apply wls;exact qH rfl qY2 rfl (jCa _))
 rintro _ w2 ⟨cb,rfl,hk2,hcl⟩
 have hp:=hp.call hk2
 have hw2:=hp.keeps
 have hdk:w2.cell? ⟨db,0 + 1,none⟩ = some (.int .i64 1):=hp.cell 0 rfl rfl
 have hdall:=hp.agg_blk (k:=13) (o:=0) 0 rfl rfl
 clear hp hk2
 (repeat (first|(with_reducible first|apply qK|apply qE|apply qB)|(apply wlp;((first|apply qC|(apply jC;exact rfl))<;>exact rfl);exact fI rfl)))
 refine jE [2,3,5,6,9,10,11,12,13,14,15,16,17,18,19,20,21,22,23,24,25,26,27,28,29,30,31,32] (fun (i:Nat) F=>F.put 9 (.int .i64 i)) (fun i w'=>i≤12∧Keeps [] w2 w') (fun i=>12 - i) 0 (qG (Same.eq .refl) rfl) ⟨Nat.zero_le _,.refl⟩ ?_
 rintro u i w ⟨hi,hk⟩
 have hp:=Hp.of_keeps hk
 (repeat (first|(with_reducible first|apply qF|apply qA|apply qE|apply qB)|(apply wlp;(apply jA<;>exact rfl);exact fB rfl)))
 refine qM rfl (fun h=>?_) (fun h=>?_)
 ·have hlt:i < 12:=by omega
  have hc1:=hcl.name i hlt
  have hc2:=hcl.kind i hlt
  have hc3:=hcl.fn i hlt
  (repeat (first|(with_reducible first|apply qF|apply qK|apply qA|apply qB|apply qL)|(apply wlp;((first|(apply jQ;exact rfl)|(apply qR;exact rfl))<;>(first|exact rfl|assumption));exact fP rfl)))
  (apply wlp;exact zP (vs:=[.string (clN i),.int .i64 (clK i),.func (.func (clF i)) #[] #[]]) rfl rfl rfl rfl (fun j v hv=>hp.old0 (by match j,hv with|0,hv=>(cases hv;exact hc1)|1,hv=>(cases hv;exact hc2)|2,hv=>(cases hv;exact hc3)));exact fA3 rfl)
  (apply wls;exact yA hp (jD rfl);rintro _ w4 ⟨b5,rfl,hp⟩)
  (apply zG;exact vK hp 0 rfl rfl rfl rfl (qQ rfl) rfl;rintro _ w5 ⟨rfl,hp⟩)
  have hp:=hp.norm 0 [.string (clN i),.int .i64 (clK i),.func (.func (clF i)) #[] #[]] rfl rfl
  (repeat (first|(with_reducible first|apply qF|apply qA|apply qE|apply qB)|((first|apply wlp|(apply wlg;exact rfl;exact rfl));(intros;((first|apply qC|apply qS|(apply qJ;exact rfl)|exact qKh rfl rfl rfl|(apply zJ;(first|exact rfl|exact jR rfl (by assumption))))<;>(first|exact rfl|exact jR rfl (by assumption)|exact hp.cell 0 rfl rfl|exact hp.old0 (by assumption))));(intros;(first|exact fI rfl|exact fB rfl|exact fP rfl)))))
  by_cases hi8:i < 8
  ·have hkl:=qYv hi8
   refine zT rfl (fun hsk=>absurd hsk (by rw [hkl];simp)) (fun hsk=>?_)
   (repeat (first|(with_reducible first|apply qF|apply qA|apply qB|apply qL)|(apply wlp;((first|apply qS|(apply qJ;exact rfl)|(apply jQ;exact rfl))<;>(first|exact rfl|exact hp.cell 0 rfl rfl));(first|exact fP rfl|exact fF0 rfl))))
   (apply wlp;exact zP (vs:=drL tb) rfl rfl rfl rfl (fun j v hv=>hp.old0 (hdall j v hv));exact (rfl:_ = Value.agg (drL tb).toArray))
   (apply wls;exact qH rfl (jA1 i hi8) rfl (pCl tb i hi8 _ (hT.keep (hw2.trans hp.keeps (by simp)))))
   rintro _ w6 ⟨rfl,hk6⟩
   have hp:=hp.call hk6
   (repeat (first|(with_reducible first|apply qF|apply qA|apply qE|apply qB)|(apply wlp;((first|apply qC|apply qD|(apply zJ;(first|exact rfl|exact jR rfl (by assumption))))<;>exact rfl);(first|exact fI rfl|exact fB rfl))))
   refine jI rfl ?_
   (repeat (with_reducible first|apply qA|apply qB|apply qZ|apply qL))
   (apply wlp;(exact qY rfl rfl);exact qI (b:=((i + 1:Nat):Int)) (by rw [qN (by omega) (by omega)];omega))
   (repeat (first|(with_reducible first|apply qE|apply qB)|(apply wlp;apply qC;exact fI rfl)))
   exact ⟨i + 1,qG (Same.eq (by repeat (first|exact Same.hav|exact Same.refl|refine Same.put rfl ?_|refine Same.havs rfl ?_))) rfl,⟨by omega,hp.keeps⟩,by omega⟩
  ·have hkl:=qYw (i:=i) (by omega) hlt
   refine zT rfl (fun hsk=>?_) (fun hsk=>absurd hsk (by rw [hkl];simp))
   (repeat (first|(with_reducible first|apply qA|apply qB|apply qO|apply jB)|((with_reducible apply qP);exact rfl)))
   (apply wlp;(exact qY rfl rfl);exact qI (b:=((i + 1:Nat):Int)) (by rw [qN (by omega) (by omega)];omega))
   (repeat (first|(with_reducible first|apply qE|apply qB)|(apply wlp;apply qC;exact fI rfl)))
   exact ⟨i + 1,qG (Same.eq (by repeat (first|exact Same.hav|exact Same.refl|refine Same.put rfl ?_|refine Same.havs rfl ?_))) rfl,⟨by omega,hp.keeps⟩,by omega⟩
 ·(repeat (first|(with_reducible first|apply qF|apply qA|apply qE|apply qB|apply qO|apply qT|apply jB)|((with_reducible apply qP);exact rfl)|(apply wlp;apply qD;(first|exact fI rfl|exact fT rfl))))
  exact zX rfl (fT rfl) (fI rfl) ⟨_,rfl,rfl,hw2.trans hk (by simp)⟩
theorem jCq (tb:Nat) (w:World):Ret Tryz.prog 102 [.agg (drL tb).toArray,.slice none 0 0] w (fun v w'=>v = .tuple #[.slice none 0 0,.slice none 0 0]∧Keeps [] w w'):=by
 refine Ret.of_WP Tryz.func102 rfl Tryz.ntmps102 rfl ?_
 have hp:=Hp.start (M:=[]) (w:=w)
 ((repeat (with_reducible first|apply qF|apply qA));apply wls;exact kU hp rfl;rintro _ w1 ⟨db,rfl,hp⟩)
 (repeat (first|(with_reducible first|apply qF|apply qA|apply qE|apply qB)|(apply wlp;apply qD;exact fS rfl)))
 (apply wls;exact kA kInt hp;rintro _ w2 ⟨mb,rfl,hp⟩)
 (repeat (first|(with_reducible first|apply qF|apply qK|apply qA|apply qE|apply qB)|(apply wlp;((first|apply qC|apply qD|(apply jC;exact rfl))<;>exact rfl);(first|exact fI rfl|exact fS rfl|exact fM rfl))))
 refine jE ([6,7,9,10,11] ++ List.range' 15 52) (fun (i:Nat) F=>((F.put 15 (.int .i64 i)).put 6 (.slice none 0 0)).put 7 (.slice none 0 0)) (fun i w'=>Keeps [] w w') (fun i=>0) 0 (qG (qG (qG (Same.eq .refl) rfl) rfl) rfl) hp.keeps ?_
 clear hp
 rintro u i w2 hk
 have hp:=Hp.of_keeps hk
 (repeat (first|(with_reducible first|apply qF|apply qA|apply qE|apply qB)|(apply wlp;(apply jA<;>exact rfl);exact fB rfl)))
 refine qM rfl (fun h=>absurd h (by omega)) (fun h=>?_)
 (repeat (first|(with_reducible first|apply qF|apply qA|apply qE|apply qB|apply qO|apply qT|apply jB)|((with_reducible apply qP);exact rfl)|(apply wlp;(first|apply qC|apply qD);exact fS rfl)))
 exact zX rfl rfl rfl ⟨_,rfl,rfl,hp.keeps⟩
theorem p54 (tb:Nat) (w:World) (hT:TbAt w tb):Ret Tryz.prog 54 [.agg (drL tb).toArray,.slice none 0 0] w (fun v w'=>v = .int .i64 0∧Keeps [] w w'):=by
 refine Ret.of_WP Tryz.func54 rfl Tryz.ntmps54 rfl ?_
 have hp:=Hp.start (M:=[]) (w:=w)
 ((repeat (with_reducible first|apply qF|apply qA));apply wls;exact kU hp rfl;rintro _ w1 ⟨db,rfl,hp⟩)
 (repeat (first|(with_reducible first|apply qF|apply qA|apply qE|apply qB)|(apply wlp;((first|apply qD|(apply jQ;exact rfl))<;>(first|exact rfl|exact hp.agg_blk 0 rfl rfl));(first|exact fI rfl|exact qQ2 rfl))))
 (apply wls;exact qH rfl qYo rfl (jCr tb _ (hT.keep hp.keeps));rintro _ w2 ⟨rfl,hk⟩;have hp:=hp.call hk)
 (repeat (first|(with_reducible first|apply qF|apply qA|apply qE|apply qB)|(apply wlp;((first|apply qC|apply qD|(apply zJ;(first|exact rfl|exact jR rfl (by assumption)))|apply jK)<;>exact rfl);(first|exact fI rfl|exact fB rfl|exact fT rfl|exact fU rfl))))
 refine zT rfl (fun h=>absurd h (by decide)) (fun _=>?_)
 (repeat (first|(with_reducible first|apply qF|apply qA|apply qB|apply qL)|(apply wlp;((first|apply qC|(apply jQ;exact rfl))<;>(first|exact rfl|exact hp.agg_blk 0 rfl rfl));(first|exact fS rfl|exact qQ2 rfl))))
 (apply wls;exact qH rfl qYn rfl (jCq tb _);rintro _ w3 ⟨rfl,hk⟩;have hp:=hp.call hk)
 (repeat (first|(with_reducible first|apply qF|apply qA|apply qE|apply qB)|(apply wlp;((first|apply qC|apply qD|(apply jC;exact rfl)|apply zA|apply jK)<;>exact rfl);(first|exact fI rfl|exact fB rfl|exact fS rfl|exact fU rfl))))
 refine zT rfl (fun h=>absurd h (by decide)) (fun _=>?_)
 (repeat (first|(with_reducible first|apply qF|apply qA|apply qE|apply qB|apply qT|apply qL)|(apply wlp;apply qD;exact fI rfl)))
 exact qU rfl rfl ⟨_,rfl,rfl,hp.keeps⟩
def qK5:ByteArray:=⟨#[10]⟩
def sNine:ByteArray:=⟨#[9]⟩
theorem qTf:ofN (chZ 5 2) = qK5:=by kernel_rfl
theorem qPd:ofN 10 = qK5:=by kernel_rfl
theorem qPe:ofN (10 - 1) = sNine:=by kernel_rfl
theorem qMn:bs [9] = sNine:=by kernel_rfl
theorem p57 (tb:Nat) (w:World):Ret Tryz.prog 57 [.agg (drL tb).toArray,.slice none 0 0] w (fun v w'=>v = .string qK5∧Keeps [] w w'):=by
 refine Ret.of_WP Tryz.func57 rfl Tryz.ntmps57 rfl ?_
 have hp:=Hp.start (M:=[]) (w:=w)
 ((repeat (with_reducible first|apply qF|apply qA));apply wls;exact kU hp rfl;rintro _ w1 ⟨db,rfl,hp⟩)
 (repeat (first|(with_reducible first|apply qF|apply qA|apply qE|apply qB)|(apply wlp;((first|apply qD|apply qS|(apply qJ;exact rfl)|(apply zF;(first|exact rfl|exact jR rfl (by assumption))))<;>(first|exact rfl|exact hp.cell 0 rfl rfl));(first|exact fI rfl|exact fB rfl|exact fP rfl|exact fT rfl))))
 refine qM rfl (fun _=>?_) (fun h=>absurd rfl h)
 (repeat (first|(with_reducible first|apply qF|apply qA)|(apply wlp;((first|apply qS|(apply qJ;exact rfl))<;>(first|exact rfl|exact hp.cell 0 rfl rfl));(first|exact fI rfl|exact fP rfl))))
 (apply wls;exact qH rfl qYk rfl (c12 5 2 _ (.inl (by decide)));rintro _ w2 ⟨rfl,hk⟩;have hp:=hp.call hk)
 rw [qTf]
 (repeat (first|(with_reducible first|apply qE|apply qB|apply jV|apply qT)|(apply wlp;apply qD;exact fT rfl)))
 exact qU rfl rfl ⟨_,rfl,rfl,hp.keeps⟩
theorem jC9 (w:World):Ret Tryz.prog 179 [.int .u8 9] w (fun v w'=>v = .int .i64 4∧Keeps [] w w'):=by
 refine Ret.of_WP Tryz.func179 rfl Tryz.ntmps179 rfl ?_
 have hp:=Hp.start (M:=[]) (w:=w)
 (repeat (first|(with_reducible first|apply qF|apply qA|apply qE|apply qB)|(apply wlp;((first|apply qC|apply qD|apply zY)<;>exact rfl);exact fI rfl)))
 (apply wlp;exact zY (i:=9) rfl rfl rfl (Nat.le_of_ble_eq_true (by kernel_rfl));exact qI (b:=4) (by kernel_rfl))
 (repeat (first|(with_reducible first|apply qE|apply qB|apply qT)|(apply wlp;((first|apply qD|apply zQ)<;>exact rfl);exact fI rfl)))
 exact qU rfl rfl ⟨_,rfl,qI (by decide),hp.keeps⟩
theorem jCp (w:World):Ret Tryz.prog 120 [.string sNine] w (fun v w'=>v = .int .i64 4∧Keeps [] w w'):=by
 have hsz:sNine.size = 1:=rfl
 have hat:bAt sNine 0 = 9:=by kernel_rfl
 have h178:Ret Tryz.prog 178 [.string sNine] w (fun v w'=>v = .string sNine∧Keeps [] w w'):=by
  have:=c65 [9] w (fun x hx=>by simp at hx;omega) (by decide)
  rw [qMn] at this
  refine this.mono ?_
  rintro v w' ⟨rfl,hk⟩
  exact ⟨congrArg Value.string (show bs ([9].dropWhile (· == 0)) = sNine from qMn),hk⟩
 have hne:sNine ≠ (⟨#[]⟩:ByteArray):=by
  intro h
  have:=congrArg ByteArray.size h
  rw [hsz] at this
  cases this
 generalize sNine = s at hsz hat h178 hne
 refine Ret.of_WP Tryz.func120 rfl Tryz.ntmps120 rfl ?_
 have hp:=Hp.start (M:=[]) (w:=w)
 (repeat (first|(with_reducible first|apply qF|apply qA|apply qE|apply qB)|(apply wlp;(first|apply qC|apply qD);(first|exact fI rfl|exact fT rfl))))
 (apply wls;exact qH rfl qQt rfl h178;rintro _ w2 ⟨rfl,hk⟩;have hp:=hp.call hk)
 (repeat (first|(with_reducible first|apply qF|apply qA|apply qE|apply qB)|(apply wlp;((first|apply qC|apply qD|(apply uO;(first|exact rfl|exact jR rfl (by assumption))))<;>exact rfl);(first|exact fB rfl|exact fT rfl))))
 refine qM rfl (fun h=>absurd h hne) (fun _=>?_)
 (repeat (with_reducible first|apply qF|apply qA|apply qB|apply qL))
 (apply wlp;apply qC;exact fT rfl)
 (apply wlp;((apply xP;exact rfl)<;>exact rfl);exact fI rfl)
 (apply wlp;exact jN rfl rfl;exact qI (b:=0) (by rw [hsz];decide))
 (apply wlp;exact xU rfl rfl;exact qI (b:=0) (by decide))
 (apply wlp;apply qC;exact fT rfl)
 (apply wlp;exact zY (i:=0) rfl rfl rfl (by omega);exact qI (b:=9) hat)
 (apply wls;exact qH rfl qXw rfl (jC9 _))
 rintro _ w3 ⟨rfl,hk⟩
 have hp:=hp.call hk
 (apply wlp;exact qY rfl rfl;exact qI (b:=4) (by decide))
 (repeat (first|(with_reducible first|apply qE|apply qB|apply qT)|(apply wlp;apply qD;exact fI rfl)))
 exact qU rfl rfl ⟨_,rfl,rfl,hp.keeps⟩
theorem p58 (w:World):Ret Tryz.prog 58 [.string qK5] w (fun v w'=>v = .int .i64 4∧Keeps [] w w'):=by
 rw [← qPd]
 refine Ret.of_WP Tryz.func58 rfl Tryz.ntmps58 rfl ?_
 have hp:=Hp.start (M:=[]) (w:=w)
 (repeat (first|(with_reducible first|apply qF|apply qA|apply qE|apply qB)|(apply wlp;(first|apply qC|apply qD);(first|exact fI rfl|exact fT rfl))))
 (apply wls;exact qH rfl qI9 rfl (c13 1 _ (by decide));rintro _ w2 ⟨rfl,hk⟩;have hp:=hp.call hk)
 (apply wls;exact qH rfl qYi rfl (c49 10 1 _ (Fit.small (by decide)) (Fit.small (by decide)));rintro _ w3 ⟨rfl,hk⟩;have hp:=hp.call hk)
 rw [qPe]
 (repeat (first|(with_reducible first|apply qF|apply qA|apply qE|apply qB)|(apply wlp;((first|apply qC|apply qD|apply jK)<;>exact rfl);(first|exact fB rfl|exact fT rfl|exact fU rfl))))
 (apply wls;exact qH rfl qYh rfl (jCp _);rintro _ w4 ⟨rfl,hk⟩;have hp:=hp.call hk)
 (repeat (first|(with_reducible first|apply qE|apply qB|apply qT)|(apply wlp;apply qD;exact fI rfl)))
 exact qU rfl rfl ⟨_,rfl,rfl,hp.keeps⟩
def plL:List Value:=[.int .i64 1,.string qK5,.int .i64 4,.slice none 0 0,.slice none 0 0,.slice none 0 0]
theorem p17 (tb:Nat) (w:World) (hT:TbAt w tb):Ret Tryz.prog 17 [.agg (drL tb).toArray,.slice none 0 0] w (fun v w'=>v = .tuple #[.agg plL.toArray,.int .i64 0]∧Keeps [] w w'):=by
 refine Ret.of_WP Tryz.func17 rfl Tryz.ntmps17 rfl ?_
 have hp:=Hp.start (M:=[]) (w:=w)
 ((repeat (with_reducible first|apply qF|apply qA));apply wls;exact kU hp rfl;rintro _ w1 ⟨db,rfl,hp⟩)
 (apply wls;exact qHj hp (jD rfl);rintro _ w2 ⟨b4,rfl,hp⟩)
 (repeat (first|(with_reducible first|apply qF|apply qA|apply qE|apply qB)|(apply wlp;((first|apply qC|apply qD|(apply jQ;exact rfl))<;>(first|exact rfl|exact hp.agg_blk 1 rfl rfl));(first|exact fI rfl|exact fS rfl|exact qQ2 rfl))))
 (apply wls;exact qH rfl jAp rfl (p54 tb _ (hT.keep hp.keeps));rintro _ w3 ⟨rfl,hk⟩;have hp:=hp.call hk)
 (repeat (first|(with_reducible first|apply qF|apply qA|apply qE|apply qB)|(apply wlp;((first|apply qC|apply qD|(apply zJ;(first|exact rfl|exact jR rfl (by assumption))))<;>exact rfl);(first|exact fI rfl|exact fB rfl))))
 refine zT rfl (fun h=>absurd h (by decide)) (fun _=>?_)
 (repeat (first|(with_reducible first|apply qF|apply qA|apply qB|apply qL)|(apply wlp;((first|apply qS|(apply qJ;exact rfl)|(apply xJ;exact rfl))<;>(first|exact rfl|exact hp.cell 1 rfl rfl));(first|exact fI rfl|exact fP rfl|exact fA6 rfl))))
 (apply wls;exact qHj hp (jD rfl);rintro _ w4 ⟨b7,rfl,hp⟩)
 (apply zG;exact qHg hp 0 rfl rfl rfl rfl (qQ rfl) rfl;rintro _ w5 ⟨rfl,hp⟩)
 have hp:=hp.norm 0 [.int .i64 1,.string ⟨#[]⟩,.int .i64 0,.slice none 0 0,.slice none 0 0,.slice none 0 0] rfl rfl
 (repeat (first|(with_reducible first|apply qF|apply qA|apply qE|apply qB)|(apply wlp;((first|apply qS|(apply qJ;exact rfl)|(apply zF;(first|exact rfl|exact jR rfl (by assumption))))<;>(first|exact rfl|exact hp.cell 2 rfl rfl));(first|exact fI rfl|exact fB rfl|exact fP rfl))))
 refine qM rfl (fun h=>absurd h (by decide)) (fun _=>?_)
 (repeat (first|with_reducible apply qA|(apply wlp;((first|apply qC|(apply jQ;exact rfl))<;>(first|exact rfl|exact hp.agg_blk 2 rfl rfl));(first|exact fS rfl|exact qQ2 rfl))))
 (apply wls;exact qH rfl jAo rfl (p57 tb _);rintro _ w6 ⟨rfl,hk⟩;have hp:=hp.call hk)
 (repeat (apply wlp;(apply qS<;>exact rfl);exact fP rfl))
 (apply zG;exact xZ hp 0 rfl rfl rfl rfl (qQ rfl) rfl;rintro _ w7 ⟨rfl,hp⟩)
 have hp:=hp.norm 0 [.int .i64 1,.string qK5,.int .i64 0,.slice none 0 0,.slice none 0 0,.slice none 0 0] rfl rfl
 (repeat (first|(with_reducible first|apply qF|apply qA|apply qE|apply qB)|(apply wlp;((first|apply qS|(apply qJ;exact rfl))<;>(first|exact rfl|exact hp.cell 0 rfl rfl));(first|exact fP rfl|exact fT rfl))))
 (apply wls;exact qH rfl jAn rfl (p58 _);rintro _ w8 ⟨rfl,hk⟩;have hp:=hp.call hk)
 (repeat (apply wlp;(apply qS<;>exact rfl);exact fP rfl))
 (apply zG;exact xZ hp 0 rfl rfl rfl rfl (qQ rfl) rfl;rintro _ w9 ⟨rfl,hp⟩)
 have hp:=hp.norm 0 plL rfl rfl
 (repeat (with_reducible first|apply qF|apply qA|apply qE|apply qB))
 (apply wlp;exact zP (vs:=plL) rfl rfl rfl rfl (fun j v hv=>hp.agg_blk (k:=6) (o:=0) 0 rfl rfl j v hv);exact (rfl:_ = Value.agg plL.toArray))
 (apply zG;exact qHg hp 1 rfl rfl rfl rfl (qQ rfl) rfl;rintro _ w10 ⟨rfl,hp⟩)
 have hp:=hp.norm 1 plL rfl rfl
 (repeat (first|(with_reducible first|apply qE|apply qB|apply qT)|(apply wlp;apply qD;exact fI rfl)))
 exact kE rfl rfl rfl rfl rfl (hp.agg_blk 1 rfl rfl) ⟨_,rfl,rfl,hp.keeps⟩
end Go.Proofs.YtbgldmoikimmpaaGreatDoor
namespace Go.Proofs.YtbgldmoikimmpaaGreatDoor
open Go.Eng Go.Dig Go.Sha Go.Lag Go.Grp Go.Sp
theorem jBk:vE [5,2] [1,2] = [(1,7),(2,9)]:=by kernel_rfl
theorem jBj:vl [5,2] 0 = 5:=by kernel_rfl
theorem qSu {a:Nat} (h:Mb a):1≤a:=h.1
theorem qVy:∀ a ∈ pws 4 [5,2],Mb a:=by
 intro a ha
 obtain ⟨x,_,rfl⟩:=List.mem_map.1 ha
 exact qCd qDl x
attribute [local irreducible] PV StepF wpl wpd WP Ret
attribute [local irreducible] Fit ofN xD hv scP xN yC yY atP Mb inL fac zB inP lft elP pfC pfZ bsR dec
set_option maxHeartbeats 4000000 in
theorem p4 (w:World) (hT:Tabs w):Ret Tryz.prog 4 [] w (fun v w'=>v = .bool true∧Keeps [] w w'):=by
 have hmbs:=qVy
 obtain ⟨r,hr⟩:∃ r:Int,r = 3:=⟨3,rfl⟩
 have hr3:Value.int .i64 r = .int .i64 3:=by rw [hr]
 have hW5:=qCd (qFx r) 5
 have hbl:=kQ (qFx r)
 have h18:∀ w,Tabs w→Ret Tryz.prog 18 [.int .i64 3] w (fun v w'=>v = .int .i64 (bsR r:Int)∧Keeps [] w w'):=fun w h=>by
  have:=p18 r w h (by omega) (by omega)
  rwa [hr3] at this
 have h7a:∀ w,Tabs w→Ret Tryz.prog 7 [.agg #[.int .i64 ((1:Nat):Int),.int .i64 ((7:Nat):Int)],.int .i64 3] w (fun v w'=>v = .agg (ePt r (1,7)).toArray∧Keeps [] w w'):=fun w h=>by
  have:=p7 1 7 r w h (by omega) (by omega) (by decide) (by decide) (by decide)
  rwa [hr3] at this
 have h7b:∀ w,Tabs w→Ret Tryz.prog 7 [.agg #[.int .i64 ((2:Nat):Int),.int .i64 ((9:Nat):Int)],.int .i64 3] w (fun v w'=>v = .agg (ePt r (2,9)).toArray∧Keeps [] w w'):=fun w h=>by
  have:=p7 2 9 r w h (by omega) (by omega) (by decide) (by decide) (by decide)
  rwa [hr3] at this
 have h9:∀ (k:KyV) (s:Option Addr) (w:World),Tabs w→KyAt w k→PkOk k [2,2] [5,2]→SlAt w 4 (ePt r) s [(1,7),(2,9)]→k.cs.length = 2→Ret Tryz.prog 9 [.agg (eKy k).toArray,.int .i64 3,.slice s 2 2] w (fun v w'=>v = .tuple #[.int .i64 ((bsR r ^ 5 % gP:Nat):Int),.slice none 0 0,.int .i64 0]∧Keeps [] w w'):=fun k s w h hk hp hs hl=>by
  have:=p9 k [2,2] [5,2] [1,2] r s 2 w h (by omega) (by omega) hk hp (by decide) (by decide) (by rw [jBk];exact hs) (by rw [hl];decide) (by decide) (by rw [hl];rfl)
  rw [hr3,jBj] at this
  exact this
 clear hr3 hr
 generalize hbr:bsR r = B at *
 refine Ret.of_WP Tryz.func4 rfl Tryz.ntmps4 rfl ?_
 have hp:=Hp.start (M:=[]) (w:=w)
 (repeat (first|(with_reducible first|apply qF|apply qA|apply qE|apply qB)|(apply wlp;apply qD;exact fB rfl)))
 (apply wls;exact qH rfl qAd rfl (qDj 4 5 2305843009213691579 _ (by decide) (by decide) (by decide) (by decide));rintro _ w1 ⟨rfl,hk⟩;have hp:=hp.call hk)
 (apply wls;exact qH rfl qAd rfl (qDj 4 2 2305843009213691579 _ (by decide) (by decide) (by decide) (by decide));rintro _ w2 ⟨rfl,hk⟩;have hp:=hp.call hk)
 obtain ⟨c5,hc5⟩:∃ c5,c5 = 4 ^ 5 % 2305843009213691579:=⟨_,rfl⟩
 obtain ⟨c2,hc2⟩:∃ c2,c2 = 4 ^ 2 % 2305843009213691579:=⟨_,rfl⟩
 have hcs:[c5,c2] = pws 4 [5,2]:=by rw [hc5,hc2];rfl
 rw [← hc5,← hc2]
 rw [← hcs] at hmbs
 (apply wls;exact jP (cs:=[c5,c2].flatMap eN) hp rfl rfl rfl rfl rfl rfl rfl;rintro _ w3 ⟨b10,rfl,hp⟩)
 (apply wls;exact jP (cs:=[1,2].flatMap eN) hp rfl rfl rfl rfl rfl rfl rfl;rintro _ w4 ⟨b11,rfl,hp⟩)
 (apply wls;exact jP (cs:=[3,4].flatMap eN) hp rfl rfl rfl rfl rfl rfl rfl;rintro _ w5 ⟨b12,rfl,hp⟩)
 (apply wls;exact jP (cs:=[(⟨some ⟨b11,0,none⟩,2,[1,2]⟩:NRow),⟨some ⟨b12,0,none⟩,2,[3,4]⟩].flatMap eNR) hp rfl rfl rfl rfl rfl rfl rfl;rintro _ w6 ⟨b13,rfl,hp⟩)
 (repeat (apply wlp;((apply xJ;exact rfl)<;>exact rfl);exact fA2 rfl))
 (apply wls;exact vA hp (jD rfl);rintro _ w7 ⟨b1,rfl,hp⟩)
 (apply zG;exact yN hp 0 rfl rfl rfl rfl (qQ rfl) rfl;rintro _ w8 ⟨rfl,hp⟩)
 have hp:=hp.norm 0 [.slice (some ⟨b10,0,none⟩) 2 2,.slice (some ⟨b13,0,none⟩) 2 2] rfl rfl
 have hkA:∀ {W:World} {A:List Ent},Hp w [] W (A ++ [blk b1 2 (qV [.slice (some ⟨b10,0,none⟩) 2 2,.slice (some ⟨b13,0,none⟩) 2 2]) 27,blk b13 ([(⟨some ⟨b11,0,none⟩,2,[1,2]⟩:NRow),⟨some ⟨b12,0,none⟩,2,[3,4]⟩].flatMap eNR).length (qV ([(⟨some ⟨b11,0,none⟩,2,[1,2]⟩:NRow),⟨some ⟨b12,0,none⟩,2,[3,4]⟩].flatMap eNR)) 23,blk b12 ([3,4].flatMap eN).length (qV ([3,4].flatMap eN)) 3,blk b11 ([1,2].flatMap eN).length (qV ([1,2].flatMap eN)) 3,blk b10 ([c5,c2].flatMap eN).length (qV ([c5,c2].flatMap eN)) 3]) →
   KyAt W (⟨some ⟨b10,0,none⟩,2,[c5,c2],some ⟨b13,0,none⟩,2,[⟨some ⟨b11,0,none⟩,2,[1,2]⟩,⟨some ⟨b12,0,none⟩,2,[3,4]⟩]⟩:KyV):=fun {W A} h=>by
  have h:=h.sub (List.sublist_append_right A _)
  refine ⟨kO [c5,c2] h 4 rfl (fun _=>rfl),kO [(⟨some ⟨b11,0,none⟩,2,[1,2]⟩:NRow),⟨some ⟨b12,0,none⟩,2,[3,4]⟩] h 1 rfl (fun _=>rfl),fun r hr=>?_⟩
  rcases List.mem_cons.1 hr with rfl|hr
  ·exact kO [1,2] h 3 rfl (fun _=>rfl)
  ·rw [List.mem_singleton.1 hr]
   exact kO [3,4] h 2 rfl (fun _=>rfl)
 have hkP:PkOk (⟨some ⟨b10,0,none⟩,2,[c5,c2],some ⟨b13,0,none⟩,2,[⟨some ⟨b11,0,none⟩,2,[1,2]⟩,⟨some ⟨b12,0,none⟩,2,[3,4]⟩]⟩:KyV) [2,2] [5,2]:=
  ⟨⟨rfl,⟨by decide,by decide,by decide,by decide,by decide⟩,by show 2 = ndN 4;decide,hmbs⟩,hcs,by decide⟩
 (repeat (with_reducible first|apply qF|apply qE|apply qB))
 refine jX jW (by kernel_rfl) (fun w'=>Hp _ _ w' _) hp.drew ?_
 have hp:=hp.drew
 (repeat ((apply wdp;exact rfl);(intro w hp;intros;((first|(apply jQ;exact rfl)|(apply xJ;exact rfl))<;>(first|exact rfl|exact hp.agg_blk 0 rfl rfl)));(intros;exact fA2 rfl)))
 (apply wds;exact rfl;exact qH rfl qU1 rfl (h7a _ (hT.keep hp.keeps));rintro _ w9 ⟨rfl,hk⟩;have hp:=hp.call hk;refine ⟨hp,?_⟩)
 (repeat ((apply wdp;exact rfl);(intro w hp;intros;((apply xJ;exact rfl)<;>exact rfl));(intros;exact fA2 rfl)))
 (apply wds;exact rfl;exact qH rfl qU1 rfl (h7b _ (hT.keep hp.keeps));rintro _ w10 ⟨rfl,hk⟩;have hp:=hp.call hk;refine ⟨hp,?_⟩)
 (apply wds;exact rfl;exact jP (cs:=[((1:Nat),(7:Nat)),(2,9)].flatMap (ePt r)) hp rfl rfl rfl rfl rfl rfl rfl;rintro _ w11 ⟨bP,rfl,hp⟩;refine ⟨hp.tail,?_⟩)
 (apply wds;exact rfl;exact qH rfl qU0 rfl (h9 (⟨some ⟨b10,0,none⟩,2,[c5,c2],some ⟨b13,0,none⟩,2,[⟨some ⟨b11,0,none⟩,2,[1,2]⟩,⟨some ⟨b12,0,none⟩,2,[3,4]⟩]⟩:KyV) (some ⟨bP,0,none⟩) _ (hT.keep hp.keeps) (hkA (A:=[_]) hp) hkP (kO [(1,7),(2,9)] hp 0 rfl (fun _=>rfl)) rfl);rintro _ w12 ⟨rfl,hk⟩;have hp:=hp.call hk;refine ⟨hp.tail,?_⟩)
 obtain ⟨W,hW⟩:∃ W,W = B ^ 5 % gP:=⟨_,rfl⟩
 rw [← hW] at hW5 ⊢
 (repeat ((apply wdp;exact rfl);(intro w hp;intros;((first|apply qC|apply qD|apply jK)<;>exact rfl));(intros;(first|exact fI rfl|exact fS rfl|exact fU rfl))))
 refine jL ?_
 (repeat (first|(with_reducible first|apply qF|apply qA|apply qB)|(apply wlp;((apply xJ;exact rfl)<;>exact rfl);exact fA2 rfl)))
 (apply wls;exact jP (cs:=[.int .i64 2,.int .i64 50]) hp rfl rfl rfl rfl rfl rfl rfl;rintro _ w13 ⟨tb,rfl,hp⟩)
 (repeat (apply wlp;((apply xJ;exact rfl)<;>exact rfl);exact qQ2 rfl))
 (apply wls;exact qOk hp (jD rfl);rintro _ w14 ⟨b5,rfl,hp⟩)
 (apply zG;exact qOb hp 0 rfl rfl rfl rfl (qQ rfl) rfl;rintro _ w15 ⟨rfl,hp⟩)
 have hp:=hp.norm 0 (drL tb) rfl rfl
 (repeat (with_reducible first|apply qF|apply qA|apply qE|apply qB))
 (apply wlp;exact zP (vs:=drL tb) rfl rfl rfl rfl (fun j v hv=>hp.agg_blk (k:=13) (o:=0) 0 rfl rfl j v hv);exact (rfl:_ = Value.agg (drL tb).toArray))
 (apply wls;exact qH rfl jB5 rfl (p17 tb _ ⟨hp.cell 1 rfl rfl,hp.cell 1 rfl rfl⟩);rintro _ w16 ⟨rfl,hk⟩;have hp:=hp.call hk)
 (repeat (apply wlp;((first|apply qC|apply jK)<;>exact rfl);(first|exact fI rfl|exact fA6 rfl|exact fU rfl)))
 (apply wls;exact qHj hp (jD rfl);rintro _ w17 ⟨b6,rfl,hp⟩)
 (apply zG;exact qHg hp 0 rfl rfl rfl rfl (qQ rfl) rfl;rintro _ w18 ⟨rfl,hp⟩)
 have hp:=hp.norm 0 plL rfl rfl
 have hW1:1≤W:=qSu hW5
 skip
 (apply wlp;apply qD;exact fI rfl)
 (repeat (with_reducible first|apply qF|apply qA|apply qE|apply qB))
 (apply wlp;(apply qS<;>exact rfl);exact fP rfl)
 (apply wlp;((apply qJ;exact rfl)<;>(first|exact rfl|exact hp.cell 0 rfl rfl));exact fT rfl)
 (apply wlp;((apply uO;(first|exact rfl|exact jR rfl (by assumption)))<;>exact rfl);exact fB rfl)
 rw [show decide (qK5 = (⟨#[10]⟩:ByteArray)) = true from decide_eq_true rfl]
 (repeat (first|(apply wlp;(intros;((first|apply qC|apply qS|(apply qJ;exact rfl)|(apply jC;exact rfl)|exact zM rfl rfl|apply zA|(apply zF;(first|exact rfl|exact jR rfl (by assumption))))<;>(first|exact rfl|exact hp.cell 0 rfl rfl)));(intros;(first|exact fI rfl|exact fB rfl|exact fP rfl|exact fS rfl)))|((apply jO;exact rfl;exact rfl);(((first|apply qC|apply qS|(apply qJ;exact rfl)|(apply jC;exact rfl)|exact zM rfl rfl|apply zA|(apply zF;(first|exact rfl|exact jR rfl (by assumption))))<;>(first|exact rfl|exact hp.cell 0 rfl rfl)));(intros;(first|exact fI rfl|exact fB rfl|exact fP rfl|exact fS rfl)))|(apply vS;exact rfl;exact rfl;exact rfl)|(apply vR;exact rfl;exact rfl)))
 have hWd1:decide ((0:Int) < (W:Int)) = true:=decide_eq_true (by omega)
 have hWd2:decide ((W:Int) > 0) = true:=decide_eq_true (by omega)
 first|rw [hWd1]|rw [hWd2]
 (repeat (first|((apply jO;exact rfl;exact rfl);(apply qC);(intros;exact fI rfl))|(apply vS;exact rfl;exact rfl;exact rfl)|(apply vR;exact rfl;exact rfl)))
 (apply qAu;exact rfl;exact rfl;exact qH rfl qQs rfl (h18 _ (hT.keep hp.keeps));rintro _ w19 ⟨rfl,hk⟩;have hp:=hp.call hk)
 (apply qAu;exact rfl;exact rfl;exact qH rfl qAd rfl (qDj B 5 2305843009213691579 _ (by omega) (by decide) (by decide) (by decide));rintro _ w20 ⟨rfl,hk⟩;have hp:=hp.call hk)
 have hWe:B ^ 5 % 2305843009213691579 = W:=hW.symm
 rw [hWe]
 (apply jO;exact rfl;exact rfl;exact zF rfl rfl;exact jF (b:=true) (decide_eq_true rfl))
 (apply wlp;exact zM rfl rfl;exact fB rfl)
 (repeat (first|(with_reducible first|apply qE|apply qB|apply qT)|(apply wlp;apply qD;exact fB rfl)))
 exact qU rfl rfl ⟨_,rfl,rfl,hp.keeps⟩
end Go.Proofs.YtbgldmoikimmpaaGreatDoor
namespace Go.Proofs.YtbgldmoikimmpaaGreatDoor
open Go.Eng Go.Sha Go.ChangeShapes Go.WideShapes Go.ChangeAt Go.RowKit Go.Deep
theorem laid:laidOutB Tryz.prog = true:=by kernel_rfl
theorem jCt:ownKnob Tryz.prog.godebug = none:=by kernel_rfl
theorem qN0 {w:World} {a:Addr} {v:Value} (h:w.cell? a = some v):a.spot = none:=by
 unfold World.cell? at h
 split at h
 ·split at h
  ·cases h
  ·rename_i h2
   cases hs:a.spot
   ·rfl
   ·rw [hs] at h2;simp at h2
 ·cases h
section
variable {H:Type} {enc:TypeId × Value→H} {P:Program} {w:World} {base:Nat} {spare:Nat→Bool} {held:Bool}
theorem qGr {α:Type} {f:α→List Value} {ok:α→Prop} {t e k fuel:Nat} {cs:List Value} {x:DataW H × List MemPlace} (ht:P.underlying t = some (.slice e)) (hk:P.cellsOf e = k) (hk0:0 < k)
  (hop:∀ n cs' y,DataW.trod enc P w base spare held n e cs' = some y→∃ a,cs' = f a∧ok a) (h:DataW.trod enc P w base spare held fuel t cs = some x) :
  ∃ s c,∃ l:List α,cs = [.slice s l.length c]∧l.length≤c∧c≤maxLen∧SlAt w k f s l∧(∀ a ∈ l,ok a)∧(l = []∨∃ es rs,x.1 = .slice es rs∧es.length = l.length):=by
 rcases open_slice ht h with ⟨rfl,_⟩|⟨a,len,cap,m,n,D,Pl,rfl,hb,hl,hm,hmm,hxe,hx⟩
 ·exact ⟨none,0,[],rfl,Nat.le_refl _,by unfold maxLen;omega,by intro i x hx;simp at hx,by simp,.inl rfl⟩
 ·have hlm:len≤m:=by rw [hmm];split<;>omega
  rw [hk] at hx
  have hex:∀ i:Fin len,∃ y,w.cells? base (a.add (i * k)) k = some (f y)∧ok y:=by
   intro i
   obtain ⟨cs',h1,h2⟩:=hx i (by omega)
   obtain ⟨y,rfl,hy⟩:=hop _ _ _ h2
   exact ⟨y,h1,hy⟩
  refine ⟨some a,cap,List.ofFn fun i=>Classical.choose (hex i),by simp,by simpa using hl,hm,?_,?_,.inr ⟨_,_,by rw [hxe],by simp⟩⟩
  ·intro i y hy
   have hi:i < len:=by have:=(List.getElem?_eq_some_iff.1 hy).1;simpa using this
   have hyc:Classical.choose (hex ⟨i,hi⟩) = y:=by
    rw [List.getElem?_ofFn] at hy
    simpa [hi] using hy
   have hsp:=(Classical.choose_spec (hex ⟨i,hi⟩)).1
   rw [hyc] at hsp
   obtain ⟨_,hlen,hc⟩:=World.cells?_some hsp
   obtain ⟨_,hlen0,hc0⟩:=World.cells?_some (Classical.choose_spec (hex ⟨0,by omega⟩)).1
   have hs0:=qN0 ((hc0 0 (by omega)).trans (List.getElem?_eq_getElem (by omega)))
   have hsa:a.spot = none:=by simpa [Addr.add] using hs0
   refine ⟨a.block,a.off,?_,fun j v hv=>?_⟩
   ·cases a
    simp at hsa
    subst hsa
    rfl
   ·have hj:j < k:=by rw [← hlen];exact (List.getElem?_eq_some_iff.1 hv).1
    have:=(hc j hj).trans hv
    cases a
    simp at hsa
    subst hsa
    rw [yH,yH] at this
    exact this
  ·intro y hy
   rw [List.mem_ofFn] at hy
   obtain ⟨i,rfl⟩:=hy
   exact (Classical.choose_spec (hex i)).2
theorem qBw (hl:laidOutB P = true) {W W':World} (hb:Below W.heap.size W W') {sp:Nat→Bool}:∀ (ts:List TypeId) (vs:List Value) (ds:List (DataW H)) (ps:List MemPlace),
  (∀ t ∈ ts,P.readableRec t = true∧t < P.types.size)→DataW.TrodAll enc P W 0 (fun _=>true) true ts vs ds ps→(∀ x ∈ ps,x.block < W.heap.size)→(∀ x ∈ ps,sp x.block = true) →
  DataW.TrodAll enc P W' 0 sp true ts vs ds ps
 | [],vs,ds,ps,_,h,_,_=>by
  obtain ⟨rfl,rfl,rfl⟩:=trodAll_nil h
  exact trodAll_mk0
 | t :: ts,vs,ds,ps,ht,h,hlt,hsp=>by
  obtain ⟨v,vs',d,ds',p,q,rfl,rfl,rfl,h1,h2⟩:=trodAll_cons h
  refine ⟨p,q,?_,qBw hl hb ts vs' ds' q (fun t h=>ht t (List.mem_cons_of_mem _ h)) h2 (fun x hx=>hlt x (List.mem_append_right _ hx)) (fun x hx=>hsp x (List.mem_append_right _ hx)),rfl⟩
  obtain ⟨hr,hrow⟩:=ht t (List.mem_cons_self ..)
  exact WideElems.Trod_stays hl hr hrow h1 (fun x hx=>hb.same (hlt x (List.mem_append_left _ hx))) (fun x hx=>hsp x (List.mem_append_left _ hx))
end
section
variable {H:Type} {enc:TypeId × Value→H} {P:Program} {w:World} {base:Nat} {spare:Nat→Bool} {held:Bool}
end
theorem qN9 {H:Type} {enc:TypeId × Value→H} {f:Func} {s:ChangeSpec} {W W':World} {args:Array Value} {ds gs:List (DataW H)} {before:List MemPlace} (hW:DataW.Whole enc Tryz.prog f.params.toList s.vars false W args.toList ds gs before)
  (hv:s.vars = []) (hr:f.resultTypes = #[4]) (hts:∀ t ∈ f.params.toList,Tryz.prog.readableRec t = true∧t < Tryz.prog.types.size)
  (hres:(s.fn H (ds ++ gs)).results = [.lit (.bool true)]) (hargs:(s.fn H (ds ++ gs)).args = ds) (hvs:(s.fn H (ds ++ gs)).vars = []) (hk:Keeps [] W W') :
  s.post enc Tryz.prog f false true false false W args (.bool true) W':=by
 have hW':=hW
 obtain ⟨p,q,hA,hV,rfl,hfz,hnd⟩:=hW
 rw [hv] at hV
 obtain ⟨rfl,rfl⟩:=trodVars_none hV
 have hlt:∀ x ∈ p,x.block < W.heap.size:=fun x hx=>hW'.lt x (by simpa using hx)
 refine ⟨ds,[],_,[],p,[],hW',?_,?_,?_,(hk.below.frame _),fun h=>by cases h⟩
 ·rw [hres,hr]
  exact trodAll_cons_mk (shut_bool Tryz.underlying4 _) trodAll_mk0
 ·rw [hargs]
  exact qBw laid hk.below _ _ _ _ hts hA hlt (fun x hx=>by simpa using hlt x hx)
 ·rw [hvs,hv]
  rfl
section
variable {H:Type} {enc:TypeId × Value→H} {w:World} {base:Nat} {spare:Nat→Bool} {held:Bool} {n:Nat} {cs:List Value} {x:DataW H × List MemPlace}
theorem qZ0:Tryz.prog.cellsOf 3 = 1:=by kernel_rfl
theorem qUb:Tryz.prog.cellsOf 23 = 1:=by kernel_rfl
theorem qW1 (h:DataW.trod enc Tryz.prog w base spare held n 3 cs = some x):∃ a:Int,cs = eI a∧-9223372036854775808≤a∧a≤9223372036854775807:=by
 obtain ⟨a,rfl,_,hw⟩:=DataW.trod_int Tryz.underlying3 h
 have e1:IntKind.i64.min = -9223372036854775808:=by decide
 have e2:IntKind.i64.max = 9223372036854775807:=by decide
 simp only [Lit.wf,Bool.and_eq_true,decide_eq_true_eq,e1,e2] at hw
 exact ⟨a,rfl,hw⟩
theorem qGs:maxLen≤9223372036854775807:=by decide
theorem qLs (h:DataW.trod enc Tryz.prog w base spare held n 23 cs = some x):∃ s c,∃ l:List Int,cs = [.slice s l.length c]∧l.length≤9223372036854775807∧SlAt w 1 eI s l:=by
 obtain ⟨s,c,l,h1,h2,h3,h4,_⟩:=qGr Tryz.underlying23 qZ0 (by decide) (fun _ _ _ h=>qW1 h) h
 have:=qGs
 exact ⟨s,c,l,h1,by omega,h4⟩
theorem qW0 (h:DataW.trod enc Tryz.prog w base spare held n 23 cs = some x):∃ r:IRow,cs = eIR r∧(r.l.length≤9223372036854775807∧SlAt w 1 eI r.s r.l):=by
 obtain ⟨s,c,l,h1,h2,h3⟩:=qLs h
 exact ⟨⟨s,c,l⟩,h1,h2,h3⟩
theorem qT1 (h:DataW.trod enc Tryz.prog w base spare held n 22 cs = some x):∃ s c,∃ l:List IRow,cs = [.slice s l.length c]∧l.length≤9223372036854775807∧LsAt w s l:=by
 obtain ⟨s,c,l,h1,h2,h3,h4,h5,_⟩:=qGr Tryz.underlying22 qUb (by decide) (fun _ _ _ h=>qW0 h) h
 have:=qGs
 exact ⟨s,c,l,h1,by omega,h4,fun r hr=>(h5 r hr).2,fun r hr=>(h5 r hr).1⟩
end
theorem qA8 {P:Program} {x:String × DataW Unit} {r:List (String × DataW Unit)} {w:World} (h:laidMet P (x :: r) w):laidMet P r w:=by
 obtain ⟨ps,hv,hnd,hrows⟩:=h
 obtain ⟨n,d⟩:=x
 obtain ⟨g,t,cs,fuel,p,q,_,_,_,_,hq,rfl⟩:=hv
 exact ⟨q,hq,List.Nodup.sublist (List.sublist_append_right _ _) hnd,fun b off hm=>hrows b off (List.mem_append_right _ hm)⟩
def zsF:List Int:=[ini.a,ini.b,ini.c,ini.d,ini.e,ini.f,ini.g,ini.h].map fun (n:Nat)=>(n:Int)
def zsC:List Int:=(List.range 64).map fun i=>(kf i:Int)
theorem qNm:(Rows.laid_sortes_digest_first:DataW Unit) = Lib.tabData .u32 zsF:=by kernel_rfl
theorem qRb:(Rows.laid_sortes_digest_constants:DataW Unit) = Lib.tabData .u32 zsC:=by kernel_rfl
theorem qU5:(Rows.laid_internal_strconv_uint64pow10:DataW Unit) = Lib.tabData .u64 Lib.pow10Tab:=by kernel_rfl
theorem qS8:(zsF.map fun z=>Value.int .u32 z) = sv ini:=by kernel_rfl
theorem qVn {i:Nat} (h:i < 64):((zsC.map fun z=>Value.int .u32 z).toArray)[i]? = some (u (kf i)):=by
 unfold zsC
 rw [List.map_map,List.getElem?_toArray,List.getElem?_map,List.getElem?_range h]
 rfl
theorem qHf {W:World} (h:laidMetH Tryz.prog Rows.topReshareRow.laid W):Tabs W:=by
 rw [MakeChecks.laidMetH_plain _ _ _ (by kernel_rfl)] at h
 have h2:=qA8 (qA8 h)
 have h4:=qA8 (qA8 h2)
 have h5:=qA8 h4
 rw [qU5] at h2
 rw [qNm] at h4
 rw [qRb] at h5
 have t2:=Lib.tabIs_of_head (g:=2) (by kernel_rfl) (by kernel_rfl) Tryz.underlying370 Tryz.underlying147 (by kernel_rfl) (by kernel_rfl) h2
 have t4:=Lib.tabIs_of_head (g:=0) (by kernel_rfl) (by kernel_rfl) Tryz.underlying243 Tryz.underlying242 (by kernel_rfl) (by kernel_rfl) h4
 have t5:=Lib.tabIs_of_head (g:=1) (by kernel_rfl) (by kernel_rfl) Tryz.underlying315 Tryz.underlying242 (by kernel_rfl) (by kernel_rfl) h5
 refine ⟨fun j v hv=>?_,?_,fun i hi=>?_⟩
 ·have e := World.var?_cell (by kernel_rfl : Tryz.prog.globalNamed "sortes/digest.first" = some 0) t4 (0 + j)
  rw [e,qS8,Nat.zero_add,List.getElem?_toArray,hv]
 ·have t2' : W.var? Tryz.prog "internal/strconv.uint64pow10" = some (Lib.pow10Tab.map fun z => Value.int .u64 z).toArray := t2
  unfold World.var? at t2'
  rw [(by kernel_rfl : Tryz.prog.globalNamed "internal/strconv.uint64pow10" = some 2), Option.bind_some] at t2'
  split at t2'
  ·next cs t r heq=>
   injection t2' with e
   subst e
   exact ⟨t,r,heq⟩
  ·cases t2'
 ·have e := World.var?_cell (by kernel_rfl : Tryz.prog.globalNamed "sortes/digest.constants" = some 1) t5 (0 + i * 1)
  rw [e,Nat.zero_add,Nat.mul_one]
  exact qVn hi
def qYy:DataW Unit→List Value
 | .lit (.int k n)=>[.int k n]
 | .agg [.lit (.int k n),.lit (.int q m)]=>[.int k n,.int q m]
 | _=>[]
def qYz:DataW Unit→Array Value
 | .agg l=>(l.flatMap qYy).toArray
 | _=>#[]
noncomputable def qGv (os:Os):World:=
 let w0:=World.holding Tryz.prog os ⟨#[],#[],[]⟩
 let lay:=fun (g:Nat) (d:DataW Unit) (h:Array Obj)=>h.modify g fun
   | .cells _ t fr=>.cells (qYz d) t fr
   | o=>o
 { w0 with heap:=lay 7 Rows.laid_unicode_utf8_acceptRanges (lay 6 Rows.laid_unicode_utf8_first (lay 5 Rows.laid_math_bits_deBruijn64tab (lay 4 Rows.laid_math_bits_deBruijn32tab (lay 2 Rows.laid_internal_strconv_uint64pow10 (lay 1 Rows.laid_sortes_digest_constants (lay 0 Rows.laid_sortes_digest_first w0.heap)))))) }
set_option maxRecDepth 100000 in
theorem qGb (os:Os) (args:Array Value):laidMetH Tryz.prog Rows.topReshareRow.laid ((qGv os).forCall (fun _ _=>0) ⟨#[],args,[]⟩).memory:=by
 rw [MakeChecks.laidMetH_plain _ _ _ (by kernel_rfl)]
 exact laidMet_of_run (ps:=(List.range 32).map (fun i=>MemPlace.cell 4 i) ++ ((List.range 64).map (fun i=>MemPlace.cell 5 i) ++ ((List.range 20).map (fun i=>MemPlace.cell 2 i) ++ ((List.range 32).map (fun i=>MemPlace.cell 7 i) ++ ((List.range 8).map (fun i=>MemPlace.cell 0 i) ++ ((List.range 64).map (fun i=>MemPlace.cell 1 i) ++ (List.range 256).map (fun i=>MemPlace.cell 6 i))))))) 8 (by kernel_rfl) (by kernel_rfl) (by kernel_rfl)
theorem qAx {P:Program} {W:World} {base t e:Nat} {v:Value} {s:Option Addr} {m c:Nat} (ht:P.underlying t = some (.slice e)) (hok:Value.okWide P W .any base t v) (h:v.cells.toList = [.slice s m c]):v = .slice s m c:=by
 cases v with
 | agg vs=>simp [Value.okWide,ht,Cell.okWide,Cell.ok] at hok
 | slice a1 b1 c1=>
  have e:Value.slice a1 b1 c1 = .slice s m c:=by simpa [Value.cells] using h
  exact e
 | _=>simp [Value.cells] at h
end Go.Proofs.YtbgldmoikimmpaaGreatDoor
