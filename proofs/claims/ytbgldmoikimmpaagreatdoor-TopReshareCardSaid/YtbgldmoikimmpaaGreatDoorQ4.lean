/- Merged texts of ours: F2 F3 G1 G2 G3 G4 G5 G6 H1 H2 J1 J2; conditions are the hypotheses of each law. -/
import Derived.Test.YtbgldmoikimmpaaGreatDoorQ3
namespace Go.Proofs.YtbgldmoikimmpaaGreatDoor
open Go.Eng Go.Dig Go.Sha Go.Grp Go.Sp
def yB (y k:Nat):Nat:=y / 2 ^ (56 - 8 * k) % 256
def sB (y:Nat) (g:Nat→Nat) (k:Nat):Nat:=if k < 8 then yB y k ^^^ g k else g k
def xB (y k:Nat):Nat:=if k < 8 then yB y k else 0
theorem qLb (y k:Nat):yB y k < 256:=Nat.mod_lt _ (by decide)
theorem qZ8 {a b:Nat} (ha:a < 256) (hb:b < 256):a ^^^ b < 256:=Nat.xor_lt_two_pow (n:=8) ha hb
theorem qUt {y:Nat} {g:Nat→Nat} (hg:∀ k,g k < 256) (k:Nat):sB y g k < 256:=by
 unfold sB
 split
 ·exact qZ8 (qLb _ _) (hg k)
 ·exact hg k
theorem jBl (y:Nat) (g:Nat→Nat) (k:Nat):sB y g k ^^^ g k = xB y k:=by
 unfold sB xB
 split
 ·rw [Nat.xor_assoc,Nat.xor_self,Nat.xor_zero]
 ·rw [Nat.xor_self]
theorem qUx (y:Nat) (hy:y < 18446744073709551616):∀ k,k≤8→nB (yB y) k = y / 2 ^ (64 - 8 * k)
 | 0,_=>by
  show 0 = _
  rw [Nat.div_eq_of_lt (by omega)]
 | k + 1,h=>by
  show nB (yB y) k * 2 ^ 8 + yB y k = _
  rw [qUx y hy k (by omega),show 64 - 8 * (k + 1) = 56 - 8 * k by omega]
  unfold yB
  rw [show 64 - 8 * k = (56 - 8 * k) + 8 by omega,Nat.pow_add,← Nat.div_div_eq_div_mul]
  generalize y / 2 ^ (56 - 8 * k) = q
  omega
theorem qWd (y:Nat) (hy:y < 18446744073709551616):nB (yB y) 8 = y:=by
 rw [qUx y hy 8 (by omega),show 64 - 8 * 8 = 0 by decide,Nat.pow_zero,Nat.div_one]
def nX (y i:Nat):Nat:=nB (yB y) (min i 8)
def yC (key idx:Nat):Nat→Nat:=shb (bl (xN key idx))
theorem qHv (key idx k:Nat):yC key idx k < 256:=qK3 _ _
def qAf (y key idx:Nat) (i:Nat):List Nat:=(List.range i).map (sB y (yC key idx))
def yY (y key idx:Nat):ByteArray:=kX ((qAf y key idx 16).map fun (x:Nat)=>(x:Int))
theorem qJr (y key idx i:Nat):(qAf y key idx i).length = i:=by simp [qAf]
theorem qUg (y key idx i:Nat):∀ d ∈ qAf y key idx i,d < 256:=by
 intro d hd
 obtain ⟨k,_,rfl⟩:=List.mem_map.1 hd
 exact qUt (qHv key idx) k
theorem qMo (y key idx:Nat):bl (yY y key idx) = qAf y key idx 16:=qAo _ (qUg y key idx 16)
theorem qH1 (y key idx:Nat):(yY y key idx).size = 16:=by rw [← xG,qMo,qJr]
theorem qUf {y key idx k:Nat} (h:k < 16):bAt (yY y key idx) k = (sB y (yC key idx) k:Int):=by
 rw [qVk,qMo]
 unfold qAf
 rw [List.getD_eq_getElem?_getD,List.getElem?_map,List.getElem?_range h]
 rfl
theorem qNr (y key idx i:Nat):qAf y key idx (i + 1) = qAf y key idx i ++ [sB y (yC key idx) i]:=by
 unfold qAf
 rw [List.range_succ,List.map_append]
 rfl
section
variable {P:Program} {n:FrK} {w:World} {F:Fr} {d:Option Tmp} {ty:TypeId} {pos:String} {aft:Array Edge} {g:Option (Nat × Bool)} {x y z:Operand} {t t':Nat}
theorem qLw {a b:Nat} (hx:ev n F x = .int .u8 (a:Int)) (hy:ev n F y = .int .u8 (b:Int)) (ha:a < 256) (hb:b < 256):PV P n w F ⟨d,.binOp .xor t x y t',ty,pos,aft,g⟩ (u8 (a ^^^ b)):=by
 have h1:(BitVec.ofInt 64 (a:Int) ^^^ BitVec.ofInt 64 (b:Int)).toNat = a ^^^ b:=by
  rw [BitVec.toNat_xor,yX 64 a (by omega),yX 64 b (by omega)]
 have h2:a ^^^ b < 256:=qZ8 ha hb
 have h1':(BitVec.ofInt 8 (a:Int) ^^^ BitVec.ofInt 8 (b:Int)).toNat = a ^^^ b:=by
  rw [BitVec.toNat_xor,yX 8 a (by omega),yX 8 b (by omega)]
 have h3:IntKind.u8.wrap ((a ^^^ b:Nat):Int) = ((a ^^^ b:Nat):Int):=qZb (by omega) (by omega)
 simp only [PV,execOp,hx,hy,eqGuard,binOp,Op.intBits]
 show Sem.run P (pure (Next.value (Value.int IntKind.u8 (IntKind.u8.wrap ((BitVec.ofInt 8 (a:Int) ^^^ BitVec.ofInt 8 (b:Int)).toNat:Int))))) w = _
 rw [h1',h3]
 rfl
theorem qG5 {e m b l h:Nat} {q q':IntKind} (ht:qG0 t = some (m,e,1)) (hx:ev n F x = .pointer (some ⟨b,0,none⟩)) (hy:ev n F y = .int q l) (hz:ev n F z = .int q' h) (h1:l≤h) (h2:h≤m) (h3:l < m) :
  PV Tryz.prog n w F ⟨d,.slice t x (some y) (some z) none,ty,pos,aft,g⟩ (.slice (some ⟨b,0 + l * 1,none⟩) (h - l) (m - l)):=by
 have e1:=(uE ht).1
 have e2:=(uE ht).2
 have hb:=yS (P:=Tryz.prog) (w:=w) (c:=.sliceB) hy h1
 have hb2:=yS (P:=Tryz.prog) (w:=w) (c:=.sliceAlen) hz h2
 simp [PV,execOp,Instr.sliceAt,hx,Instr.sureAddr,zE e1,Instr.sliceBounds,e2.run,yH,hb,hb2]
 omega
end
attribute [local irreducible] PV StepF wpl wpd WP Ret
attribute [local irreducible] Fit ofN xD hv scP xN yC
theorem jCc (key idx:Nat) (w:World) (hT:Tabs w) (h1:key≤9223372036854775807) (h2:idx≤9223372036854775807):Ret Tryz.prog 144 [.int .i64 (key:Int),.int .i64 (idx:Int)] w (fun v w'=>v = .agg (hv (xN key idx)).toArray∧Keeps [] w w'):=by
 obtain ⟨l1,l2,l3⟩:=qJ8 h1 h2
 have e1:=xY h1
 have e2:=xY h2
 refine Ret.of_WP Tryz.func144 rfl Tryz.ntmps144 rfl ?_
 have hp:=Hp.start (M:=[]) (w:=w)
 (repeat (with_reducible first|apply qF|apply qA))
 (apply wls;exact zR (cs:=List.replicate 32 (u8 0)) (m:=32) hp (jD rfl) rfl rfl;rintro _ w1 ⟨b,rfl,hp⟩)
 (repeat (with_reducible first|apply qF|apply qA|apply qE|apply qB))
 (apply wlp;exact qC;exact fI rfl)
 (apply wls;exact qH rfl qMc rfl (p60 (key:Int) _ (hT.keep hp.keeps) (by omega) (by omega)))
 rintro _ w2 ⟨rfl,hk⟩
 have hp:=hp.call hk
 rw [← qId]
 (apply wlp;exact jY rfl rfl (by show 4 + _≤_;omega);exact fT rfl)
 (apply wlp;exact jY rfl rfl (by show _ + 1≤_;omega);exact fT rfl)
 (apply wlp;exact qC;exact fI rfl)
 (apply wls;exact qH rfl qMc rfl (p60 (idx:Int) _ (hT.keep hp.keeps) (by omega) (by omega)))
 rintro _ w3 ⟨rfl,hk⟩
 have hp:=hp.call hk
 rw [← qId]
 (apply wlp;exact jY rfl rfl (by omega);exact (congrArg Value.string (show _ = xN key idx from by unfold xN;rfl)))
 (apply wls;exact qH rfl qQr rfl (qZm (xN key idx) _ (hT.keep hp.keeps) (by omega)))
 rintro _ w4 ⟨rfl,hk⟩
 have hp:=hp.call hk
 (apply zG;exact zD (cs:=hv (xN key idx)) hp 0 rfl rfl rfl rfl (by rw [kM];exact qQ rfl) (by rw [kM];rfl) (by unfold hv;rfl);rintro _ w5 ⟨rfl,hp⟩)
 have hp:Hp w [] w5 [blk b 32 (yW (qV (List.replicate 32 (u8 0))) 0 (hv (xN key idx))) 175]:=hp
 rw [xE (qCw _ (xN key idx))] at hp
 (repeat (with_reducible first|apply qE|apply qB|apply qT))
 refine yG rfl rfl rfl rfl (hp.agg_blk 0 rfl rfl) ⟨_,rfl,?_,hp.keeps⟩
 exact qIl (qJh (hv (xN key idx)) (kM _))
theorem jCb (n:Nat) (w:World) (h:n < 1152921504606845789):Ret Tryz.prog 145 [.int .i64 (n:Int)] w (fun v w'=>v = .bool true∧Keeps [] w w'):=by
 refine Ret.of_WP Tryz.func145 rfl Tryz.ntmps145 rfl ?_
 have hp:=Hp.start (M:=[]) (w:=w)
 (repeat (with_reducible first|apply qF|apply qA))
 (apply wlp;apply qD;exact fB rfl)
 (repeat (with_reducible first|apply qF|apply qA|apply qE|apply qB))
 (apply wlp;apply qC;exact fI rfl)
 (apply wlp;(exact xF rfl rfl);exact jF (b:=true) (decide_eq_true (by omega)))
 (apply wlp;apply qC;exact fB rfl)
 ((apply jO;exact rfl;exact rfl);(apply qC);(intros;exact fI rfl))
 (apply jO;exact rfl;exact rfl;(exact kB rfl rfl);exact jF (b:=true) (decide_eq_true (by omega)))
 (apply wlp;exact zM rfl rfl;exact fB rfl)
 (repeat (first|(with_reducible first|apply qE|apply qB|apply qT)|(apply wlp;apply qD;exact fB rfl)))
 exact qU rfl rfl ⟨_,rfl,rfl,hp.keeps⟩
theorem jCh (l:List Nat) (s:Option Addr) (c:Nat) (w:World) (hs:SlAt w 1 eN s l) (hm:∀ a ∈ l,Mb a) (hl:l.length≤1000000):Ret Tryz.prog 139 [.slice s l.length c] w (fun v w'=>v = .bool true∧Keeps [] w w'):=by
 refine Ret.of_WP Tryz.func139 rfl Tryz.ntmps139 rfl ?_
 have hp:=Hp.start (M:=[]) (w:=w)
 (repeat (first|(with_reducible first|apply qF|apply qK|apply qA|apply qE|apply qB)|(apply wlp;((first|apply qC|apply qD|(apply jC;exact rfl))<;>exact rfl);(first|exact fI rfl|exact fB rfl|exact fS rfl))))
 refine jE ([2,4] ++ List.range' 7 8) (fun (i:Nat) F=>F.put 7 (.int .i64 (i:Int)))
  (fun i w'=>i≤l.length∧Hp w [] w' []) (fun i=>l.length - i) 0 (qG (Same.eq .refl) rfl) ⟨Nat.zero_le _,hp⟩ ?_
 clear hp
 rintro u0 i w2 ⟨hi,hp⟩
 (repeat (first|(with_reducible first|apply qF|apply qA|apply qE|apply qB)|(apply wlp;(apply jA<;>exact rfl);exact fB rfl)))
 refine qM rfl (fun h=>?_) (fun h=>?_)
 ·have hlt:i < l.length:=by omega
  obtain ⟨b0,o0,hs0,hc0⟩:=hs.base (by omega)
  have hci:=hc0 i _ (List.getElem?_eq_getElem hlt) 0 _ rfl
  have hma:=hm _ (List.getElem_mem hlt)
  generalize l[i] = a at hci hma
  (repeat (first|(with_reducible first|apply qF|apply qK|apply qA|apply qE|apply qB|apply qL)|(apply wlp;((first|apply qC|apply qD|(apply qJ;exact rfl)|(apply qR;exact rfl))<;>(first|exact rfl|assumption|exact hp.old0 (by assumption)));(first|exact fI rfl|exact fP rfl))))
  (apply wls;exact qH rfl qC4 rfl (p69 a _ hma))
  rintro _ w3 ⟨rfl,hk⟩
  have hp:=hp.call hk
  (repeat (first|(with_reducible first|apply qE|apply qB)|(apply wlp;(apply zI<;>exact rfl);exact fB rfl)))
  refine jI rfl ?_
  (repeat (with_reducible first|apply qA|apply qB|apply qZ|apply qL))
  (apply wlp;(exact qY rfl rfl);exact qI (b:=((i + 1:Nat):Int)) (by rw [qN (by omega) (by omega)];omega))
  (repeat (first|(with_reducible first|apply qE|apply qB)|(apply wlp;apply qC;exact fI rfl)))
  exact ⟨i + 1,qG (Same.eq (by repeat (first|exact Same.hav|exact Same.refl|refine Same.put rfl ?_|refine Same.havs rfl ?_))) rfl,⟨by omega,hp⟩,by omega⟩
 (repeat (first|(with_reducible first|apply qF|apply qA|apply qE|apply qB|apply qO|apply qT|apply jB)|((with_reducible apply qP);exact rfl)|(apply wlp;apply qD;exact fB rfl)))
 exact qU rfl rfl ⟨_,rfl,rfl,hp.keeps⟩
theorem p96 (y key idx:Nat) (w:World) (hT:Tabs w) (h1:key≤9223372036854775807) (h2:idx≤9223372036854775807) (hy:y≤9223372036854775807) :
  Ret Tryz.prog 96 [.int .i64 (key:Int),.int .i64 (idx:Int),.string (yY y key idx)] w (fun v w'=>v = .tuple #[.int .i64 (y:Int),.bool true]∧Keeps [] w w'):=by
 have hbs:=qH1 y key idx
 have hba:=fun {k:Nat} (h:k < 16)=>qUf (y:=y) (key:=key) (idx:=idx) h
 have hpg:=qHv key idx
 generalize yY y key idx = s at hbs hba
 refine Ret.of_WP Tryz.func96 rfl Tryz.ntmps96 rfl ?_
 have hp:=Hp.start (M:=[]) (w:=w)
 (repeat (with_reducible first|apply qF|apply qA))
 (apply wlp;exact qD;exact fI rfl)
 (apply wlp;exact qD;exact fB rfl)
 (repeat (with_reducible first|apply qF|apply qA|apply qE|apply qB))
 (apply wls;exact zR (cs:=List.replicate 16 (u8 0)) (m:=16) hp (jD rfl) rfl rfl;rintro _ w1 ⟨bb,rfl,hp⟩)
 (repeat (with_reducible first|apply qF|apply qA|apply qE|apply qB))
 (apply wlp;exact qC;exact fT rfl)
 (apply wlp;exact xP rfl rfl;exact fI rfl)
 (apply wlp;(exact zJ rfl rfl);exact jF (b:=false) (ndf (by omega)))
 (repeat (with_reducible first|apply qE|apply qB))
 refine jI rfl ?_
 (repeat (first|(with_reducible first|apply qF|apply qA|apply qB|apply qL)|(apply wlp;apply qC;exact fI rfl)))
 (apply wls;exact qH rfl qY4 rfl (jCc key idx _ (hT.keep hp.keeps) h1 h2))
 rintro _ w2 ⟨rfl,hk⟩
 have hp:=hp.call hk
 (apply wls;exact zR (cs:=List.replicate 32 (u8 0)) (m:=32) hp (jD rfl) rfl rfl;rintro _ w3 ⟨pb,rfl,hp⟩)
 (apply zG;exact zD (cs:=hv (xN key idx)) hp 0 rfl rfl rfl rfl (by rw [kM];exact qQ rfl) (by rw [kM];rfl) (by unfold hv;rfl);rintro _ w4 ⟨rfl,hp⟩)
 have hp:Hp w [] w4 [blk pb 32 (yW (qV (List.replicate 32 (u8 0))) 0 (hv (xN key idx))) 175,blk bb 16 (qV (List.replicate 16 (u8 0))) 187]:=hp
 rw [xE (qCw _ (xN key idx)),xE (f:=qV (List.replicate 16 (u8 0))) (fun i hi=>qEo (xB y) 16 i hi)] at hp
 (repeat (first|(with_reducible first|apply qF|apply qK|apply qA|apply qE|apply qB)|(apply wlp;(first|apply qC|apply qD);exact fI rfl)))
 refine jE ([6,7,10,11] ++ List.range' 18 26) (fun (i:Nat) F=>(F.put 18 (.int .i64 (i:Int))).put 10 (.int .u64 (nX y i:Int)))
  (fun i w'=>i≤16∧Hp w [] w' [blk pb 32 (qV (hv (xN key idx))) 175,blk bb 16 (cB (xB y) i) 187]) (fun i=>16 - i) 0 (qG (qG (Same.eq .refl) rfl) rfl) ⟨Nat.zero_le _,hp⟩ ?_
 clear hp
 rintro u0 i w5 ⟨hi,hp⟩
 (repeat (first|(with_reducible first|apply qF|apply qA|apply qE|apply qB)|(apply wlp;(apply jA<;>exact rfl);exact fB rfl)))
 refine qM rfl (fun h=>?_) (fun h=>?_)
 ·have hlt:i < 16:=by omega
  have hlt32:i < 32:=by omega
  have hat:=qGx (xN key idx) hlt32
  have hsx:=jBl y (yC key idx) i
  have hsl:=qUt (y:=y) hpg i
  have hpl:=hpg i
  have hat:qV (hv (xN key idx)) i = u8 (yC key idx i):=by rw [hat];unfold yC;rfl
  have hbi:=hba hlt
  (repeat (first|(with_reducible first|apply qF|apply qK|apply qA|apply qE|apply qB|apply qL)|(apply wlp;(first|apply qC|apply qD);exact fI rfl)))
  refine xH jW (by kernel_rfl) (fun w'=>Hp w [] w' [blk pb 32 (qV (hv (xN key idx))) 175,blk bb 16 (cB (xB y) i) 187]) hp.drew ?_
  have hp:=hp.drew
  (repeat ((apply wdp;exact rfl);(intro w hp;intros;((first|apply qC|apply zY)<;>exact rfl));(intros;(first|exact fI rfl|exact fT rfl))))
  (apply wdp;exact rfl;(intro w hp;exact zY rfl rfl rfl (by rw [hbs];exact hlt));exact qI (b:=(sB y (yC key idx) i:Int)) hbi)
  (repeat ((apply wdp;exact rfl);(intro w hp;intros;((first|apply qC|(apply qJ;exact rfl)|(apply jG;exact rfl))<;>(first|exact rfl|assumption)));(intros;(first|exact fI rfl|exact fP rfl))))
  (apply wdp;exact rfl;(intro w hp;exact qJ rfl rfl (hp.cell 0 rfl (zO (by omega))));exact (show _ = u8 (yC key idx i) from (congrArg (qV (hv (xN key idx))) (show 0 + i * 1 = i by omega)).trans hat))
  (apply wdp;exact rfl;(intro w hp;exact qLw rfl rfl hsl hpl);exact (congrArg u8 hsx))
  (apply wdp;exact rfl;(intro w hp;exact jG rfl rfl rfl (by exact hlt));exact fP rfl)
  (apply kH;exact rfl;exact rfl;exact xZ hp 1 rfl rfl rfl rfl (qQ rfl) (vN (by omega));rintro _ w6 ⟨rfl,hp⟩)
  have hp:Hp w [] w6 [blk pb 32 (qV (hv (xN key idx))) 175,blk bb 16 (yW (cB (xB y) i) (0 + i * 1) [u8 (xB y i)]) 187]:=hp
  rw [qEp] at hp
  have hxc:cB (xB y) (i + 1) i = u8 (xB y i):=by unfold cB;rw [if_pos (by omega)]
  have hxl:xB y i < 256:=by
   unfold xB
   split
   ·exact qLb y i
   ·decide
  refine jL ?_
  (repeat (with_reducible first|apply qF|apply qA|apply qB))
  (apply wlp;apply qC;exact fI rfl)
  (apply wlp;(apply jA<;>exact rfl);exact fB rfl)
  (repeat (with_reducible first|apply qE|apply qB))
  refine qM rfl (fun h8=>?_) (fun h8=>?_)
  ·have h7:=qGq (show i≤7 by omega)
   have hn:=qM3 (qLb y) i
   have hor:=qJa 8 (nB (yB y) i) (xB y i) hxl
   have e0:nX y i = nB (yB y) i:=by unfold nX;rw [Nat.min_eq_left (by omega)]
   have e1:nX y (i + 1) = nB (yB y) i * 2 ^ 8 + xB y i:=by
    unfold nX xB
    rw [Nat.min_eq_left (by omega),if_pos (by omega)]
    rfl
   rw [e0]
   (repeat with_reducible apply qA)
   (apply wlp;apply qC;exact fI rfl)
   (apply wlp;exact kZ (b:=8) rfl rfl (by decide) (by omega);exact fI rfl)
   (apply wlp;apply qC;exact fI rfl)
   (apply wlp;exact jG rfl rfl rfl (by exact hlt);exact fP rfl)
   (apply wlp;exact qJ rfl rfl (hp.cell 1 rfl (zO (by omega)));exact (show _ = u8 (xB y i) from (congrArg (cB (xB y) (i + 1)) (show 0 + i * 1 = i by omega)).trans hxc))
   (apply wlp;exact zQ rfl rfl rfl;exact qI (b:=((xB y i:Nat):Int)) (kS (by omega)))
   (apply wlp;exact qAn rfl rfl (by omega) (by omega);exact qI (b:=(nX y (i + 1):Int)) (by rw [hor,e1]))
   (repeat (first|(with_reducible first|apply qA|apply qE|apply qB|apply qZ)|(apply wlp;apply qD;exact fI rfl)))
   (apply wlp;(exact qY rfl rfl);exact qI (b:=((i + 1:Nat):Int)) (by rw [qN (by omega) (by omega)];omega))
   (repeat (first|(with_reducible first|apply qE|apply qB)|(apply wlp;apply qC;exact fI rfl)))
   exact ⟨i + 1,qG (qG (Same.eq (by repeat (first|exact Same.hav|exact Same.refl|refine Same.put rfl ?_|refine Same.havs rfl ?_))) rfl) rfl,⟨by omega,hp⟩,by omega⟩
  ·have e0:nX y (i + 1) = nX y i:=by unfold nX;rw [Nat.min_eq_right (by omega),Nat.min_eq_right (by omega)]
   have e1:xB y i = 0:=by unfold xB;rw [if_neg (by omega)]
   rw [e1] at hxc
   rw [← e0]
   (repeat (with_reducible first|apply qF|apply qA))
   (apply wlp;apply qC;exact fI rfl)
   (apply wlp;exact jG rfl rfl rfl (by exact hlt);exact fP rfl)
   (apply wlp;exact qJ rfl rfl (hp.cell 1 rfl (zO (by omega)));exact (show _ = u8 0 from (congrArg (cB (xB y) (i + 1)) (show 0 + i * 1 = i by omega)).trans hxc))
   (apply wlp;(exact zJ rfl rfl);exact jF (b:=false) (ndf (by omega)))
   (repeat (with_reducible first|apply qE|apply qB))
   refine jI rfl ?_
   (repeat (with_reducible first|apply qA|apply qB|apply qZ|apply qL))
   (apply wlp;(exact qY rfl rfl);exact qI (b:=((i + 1:Nat):Int)) (by rw [qN (by omega) (by omega)];omega))
   (repeat (first|(with_reducible first|apply qE|apply qB)|(apply wlp;apply qC;exact fI rfl)))
   exact ⟨i + 1,qG (qG (Same.eq (by repeat (first|exact Same.hav|exact Same.refl|refine Same.put rfl ?_|refine Same.havs rfl ?_))) rfl) rfl,⟨by omega,hp⟩,by omega⟩
 obtain rfl:i = 16:=by omega
 have e1:nX y 16 = y:=by
  unfold nX
  exact qWd y (by omega)
 rw [e1]
 (repeat (first|(with_reducible first|apply qF|apply qA|apply qB|apply qO|apply jB)|((with_reducible apply qP);exact rfl)))
 (apply wlp;apply qC;exact fI rfl)
 (apply wlp;exact zQ rfl rfl rfl;exact qI (b:=(y:Int)) (qN (by omega) (by omega)))
 (repeat (first|(with_reducible first|apply qE|apply qB|apply qT)|(apply wlp;apply qD;(first|exact fI rfl|exact fB rfl))))
 exact zX rfl rfl rfl ⟨_,rfl,rfl,hp.keeps⟩
theorem p80 (y key idx:Nat) (w:World) (h1:key≤9223372036854775807) (h2:idx≤9223372036854775807) (hy:y≤9223372036854775807) :
  Ret Tryz.prog 80 [.int .i64 (y:Int),.int .i64 (key:Int),.int .i64 (idx:Int)] w (fun v w'=>v = .string (yY y key idx)∧Keeps [] w w'):=by
 have hpg:=qHv key idx
 have hbl:=qJr y key idx
 refine Ret.of_WP Tryz.func80 rfl Tryz.ntmps80 rfl ?_
 have hp:=Hp.start (M:=[]) (w:=w)
 (repeat (with_reducible first|apply qF|apply qA))
 (apply wlp;exact qD;exact fT rfl)
 (repeat (with_reducible first|apply qF|apply qA|apply qE|apply qB))
 (apply wlp;apply qC;exact fI rfl)
 (apply wlp;apply qC;exact fI rfl)
 (apply wls;exact qH rfl qYb rfl (jCj key idx _ h1 h2))
 rintro _ w2 ⟨rfl,hk⟩
 have hp:=hp.call hk
 (apply wls;exact zR (cs:=List.replicate 32 (u8 0)) (m:=32) hp (jD rfl) rfl rfl;rintro _ w3 ⟨pb,rfl,hp⟩)
 (apply zG;exact zD (cs:=hv (xN key idx)) hp 0 rfl rfl rfl rfl (by rw [kM];exact qQ rfl) (by rw [kM];rfl) (by unfold hv;rfl);rintro _ w4 ⟨rfl,hp⟩)
 have hp:Hp w [] w4 [blk pb 32 (yW (qV (List.replicate 32 (u8 0))) 0 (hv (xN key idx))) 175]:=hp
 rw [xE (qCw _ (xN key idx))] at hp
 have hp:=hp.nilL eB 5 1
 (repeat (first|(with_reducible first|apply qF|apply qK|apply qA|apply qE|apply qB)|(apply wlp;apply qD;(first|exact fI rfl|exact fS rfl))))
 refine zW ([8,9] ++ List.range' 13 17) (fun (i:Nat) (s:Option Addr) (c:Nat) F=>(F.put 9 (.int .i64 (i:Int))).put 8 (.slice s (qAf y key idx i).length c))
  (fun i s c w'=>i≤8∧SVL s c (qAf y key idx i)∧Hp w [] w' [qW eB 5 1 s c (qAf y key idx i),blk pb 32 (qV (hv (xN key idx))) 175]) (fun i _ _=>8 - i) 0 none 0 (qG (qG (Same.eq .refl) rfl) rfl) ⟨Nat.zero_le _,SVL.nil,hp⟩ ?_
 clear hp
 rintro u0 i s c w5 ⟨hi,hsv,hp⟩
 (repeat (first|(with_reducible first|apply qF|apply qA|apply qE|apply qB)|(apply wlp;((first|apply qC|apply jA)<;>exact rfl);(first|exact fI rfl|exact fB rfl))))
 refine qM rfl (fun h=>?_) (fun h=>?_)
 ·have hlt:i < 8:=by omega
  have hlt32:i < 32:=by omega
  have hat:=qGx (xN key idx) hlt32
  have hat:qV (hv (xN key idx)) i = u8 (yC key idx i):=by rw [hat];unfold yC;rfl
  have hpl:=hpg i
  have hyl:=qLb y i
  have hsb:yB y i ^^^ yC key idx i = sB y (yC key idx) i:=by unfold sB;rw [if_pos hlt]
  have hsc:=qNr y key idx i
  have hli:=hbl i
  (repeat (with_reducible first|apply qF|apply qK|apply qB|apply qL))
  refine xH jW (by kernel_rfl) (fun w'=>Hp w [] w' [qW eB 5 1 s c (qAf y key idx i),blk pb 32 (qV (hv (xN key idx))) 175]) hp.drew ?_
  have hp:=hp.drew
  (repeat ((apply wdp;exact rfl);(intro w hp;intros;apply qC);(intros;(first|exact fI rfl|exact fS rfl))))
  (apply wdp;exact rfl;(intro w hp;exact xU rfl rfl);exact qI (b:=((8 * i:Nat):Int)) (by rw [qN (by omega) (by omega)];omega))
  (apply wdp;exact rfl;(intro w hp;exact jN rfl rfl);exact qI (b:=((56 - 8 * i:Nat):Int)) (by rw [qN (by omega) (by omega)];omega))
  (apply wdp;exact rfl;(intro w hp;exact xA (b:=56 - 8 * i) rfl rfl (by show _≤64;omega));exact qI (b:=((y / 2 ^ (56 - 8 * i):Nat):Int)) rfl)
  (apply wdp;exact rfl;(intro w hp;exact zQ rfl rfl rfl);exact qI (b:=(yB y i:Int)) (qO5 _))
  (repeat ((apply wdp;exact rfl);(intro w hp;intros;((first|apply qC|(apply qJ;exact rfl)|(apply jG;exact rfl))<;>(first|exact rfl|assumption)));(intros;(first|exact fI rfl|exact fP rfl))))
  (apply wdp;exact rfl;(intro w hp;exact qJ rfl rfl (hp.cell 1 rfl (zO (by omega))));exact (show _ = u8 (yC key idx i) from (congrArg (qV (hv (xN key idx))) (show 0 + i * 1 = i by omega)).trans hat))
  (apply wdp;exact rfl;(intro w hp;exact qLw rfl rfl hyl hpl);exact (congrArg u8 hsb))
  (apply wds;exact rfl;exact jP hp rfl rfl rfl rfl rfl rfl rfl;rintro _ w6 ⟨g2,rfl,hp⟩;refine ⟨hp.tail,?_⟩)
  (apply qSc;exact rfl;exact rfl;exact zL eB (qAf y key idx i) (sB y (yC key idx) i) hp 1 0 rfl rfl rfl rfl rfl rfl (fun _=>rfl) rfl rfl rfl hsv rfl rfl (by omega);rintro _ w7 ⟨s',c',rfl,hv',hp⟩)
  rw [← hsc] at hv' hp
  rw [← hsc]
  (repeat ((apply wdp;exact rfl);(intro w hp;intros;apply qD);(intros;exact fS rfl)))
  refine jL ?_
  (repeat (first|(with_reducible first|apply qA|apply qB|apply qZ)|(apply wlp;apply qC;exact fI rfl)))
  (apply wlp;(exact qY rfl rfl);exact qI (b:=((i + 1:Nat):Int)) (by rw [qN (by omega) (by omega)];omega))
  (repeat (first|(with_reducible first|apply qE|apply qB)|(apply wlp;apply qD;exact fI rfl)))
  exact ⟨i + 1,s',c',qG (qG (Same.eq (by repeat (first|exact Same.hav|exact Same.refl|refine Same.put rfl ?_|refine Same.havs rfl ?_))) rfl) rfl,⟨by omega,hv',hp.tail⟩,by omega⟩
 obtain rfl:i = 8:=by omega
 have h8:=hbl 8
 have hcel:SlAt w5 1 eB (some ⟨pb,8,none⟩) ((List.range 8).map fun k=>yC key idx (8 + k)):=by
  intro j x hx
  refine ⟨pb,8,rfl,?_⟩
  intro q v hq
  have hj:j < 8:=by
   have:=(List.getElem?_eq_some_iff.1 hx).1
   simpa using this
  rw [List.getElem?_map,List.getElem?_range hj] at hx
  have hx:yC key idx (8 + j) = x:=Option.some.inj hx
  match q,hq with
  | 0,hq=>
   have hv0:u8 x = v:=Option.some.inj hq
   have hcl:=hp.cell 1 (b:=pb) (o:=8 + j) rfl (zO (by omega))
   have hat:=qGx (xN key idx) (show 8 + j < 32 by omega)
   rw [show 8 + j * 1 + 0 = 8 + j by omega,hcl,hat,← hv0,← hx]
   unfold yC
   rfl
 have hall:qAf y key idx 8 ++ ((List.range 8).map fun k=>yC key idx (8 + k)) = qAf y key idx 16:=by
  have e:qAf y key idx 16 = (List.range (8 + 8)).map (sB y (yC key idx)):=rfl
  rw [e,List.range_add,List.map_append,List.map_map]
  congr 1
 (repeat (first|(with_reducible first|apply qF|apply qA|apply qB|apply qO|apply jB)|((with_reducible apply qP);exact rfl)))
 (apply wlp;apply qC;exact fS rfl)
 (apply wlp;exact qG5 (l:=8) (h:=16) rfl rfl rfl rfl (by decide) (by decide) (by decide);exact fS rfl)
 have e8:(List.map (fun k=>yC key idx (8 + k)) (List.range 8)).length = 8:=by simp
 (apply wls;exact qEx eB (qAf y key idx 8) ((List.range 8).map fun k=>yC key idx (8 + k)) (s2:=some ⟨pb,8,none⟩) (c2:=24) hp 0 rfl rfl rfl rfl rfl rfl (fun _=>rfl) rfl (by rw [e8];rfl) rfl hsv hcel (fun _=>rfl) (by omega);rintro _ w6 ⟨s',c',rfl,hv',hp⟩)
 rw [hall] at hv' hp
 rw [hall]
 obtain ⟨gb,rfl⟩:=hv'.addr (by intro h0;have:=hbl 16;rw [h0] at this;cases this)
 have h16:=hbl 16
 have hsA:=jS hp 0 rfl hv' (fun _=>rfl)
 (apply wlp;exact qHt (ns:=(qAf y key idx 16).map fun (x:Nat)=>(x:Int)) rfl rfl rfl rfl (by simp) (fun j v hj=>by
  rw [List.map_map,List.getElem?_map] at hj
  cases hx:(qAf y key idx 16)[j]? with
  | none=>rw [hx] at hj;cases hj
  | some x=>
   rw [hx] at hj
   obtain ⟨b,o,he,hcl⟩:=hsA j x hx
   cases he
   have h0:=hcl 0 _ rfl
   have hj:Value.int .u8 (x:Int) = v:=Option.some.inj hj
   rw [← hj,show 0 + j = 0 + j * 1 + 0 by omega]
   exact h0);exact fT (show _ = Value.string (yY y key idx) from rfl))
 (repeat (first|(with_reducible first|apply qE|apply qB|apply qT)|(apply wlp;apply qD;exact fT rfl)))
 exact qU rfl rfl ⟨_,rfl,rfl,hp.keeps⟩
end Go.Proofs.YtbgldmoikimmpaaGreatDoor
namespace Go.Proofs.YtbgldmoikimmpaaGreatDoor
open Go.Eng Go.Dig Go.Sha Go.Grp Go.Sp
structure DlV where
 s1:Option Addr
 c1:Nat
 cs:List Nat
 pt:Nat
 s2:Option Addr
 c2:Nat
 bx:List ByteArray
def eDl (d:DlV):List Value:=[.slice d.s1 d.cs.length d.c1,.int .i64 (d.pt:Int),.slice d.s2 d.bx.length d.c2]
structure DlAt (w:World) (d:DlV):Prop where
 cs:SlAt w 1 eN d.s1 d.cs
 bx:SlAt w 1 eS d.s2 d.bx
theorem DlAt.keep {w w':World} {d:DlV} (h:DlAt w d) (hk:Keeps [] w w'):DlAt w' d:=⟨h.cs.keep0 hk,h.bx.keep0 hk⟩
structure DlOk (d:DlV) (n:Nat):Prop where
 bl:d.bx.length = n
 cl:1≤d.cs.length
 cn:d.cs.length≤n
 sz:∀ x ∈ d.bx,x.size = 16
 mb:∀ a ∈ d.cs,Mb a
 pt:Mb d.pt
attribute [local irreducible] PV StepF wpl wpd WP Ret
attribute [local irreducible] Fit ofN xD hv scP xN yC yY atP Mb
theorem p97 (d:DlV) (x y:Nat) (w:World) (hd:DlAt w d) (hl:d.cs.length≤1000000) (hx:x≤9223372036854775807) (hy:y < 1152921504606845789) (hcs:∀ a ∈ d.cs,a < 2305843009213691579) (he:4 ^ y % gP = atP d.cs x) :
  Ret Tryz.prog 97 [.agg (eDl d).toArray,.agg #[.int .i64 (x:Int),.int .i64 (y:Int)]] w (fun v w'=>v = .bool true∧Keeps [] w w'):=by
 obtain ⟨s1,c1,cs,pt,s2,c2,bx⟩:=d
 dsimp only at hl hcs he
 obtain ⟨h1,h2⟩:=hd
 dsimp only at h1 h2
 refine Ret.of_WP Tryz.func97 rfl Tryz.ntmps97 rfl ?_
 have hp:=Hp.start (M:=[]) (w:=w)
 (repeat (with_reducible first|apply qF|apply qA))
 (apply wls;exact qE1 hp rfl;rintro _ w1 ⟨b2,rfl,hp⟩)
 (apply wls;exact uY hp rfl;rintro _ w2 ⟨b3,rfl,hp⟩)
 (repeat (first|(with_reducible first|apply qF|apply qE|apply qB)|(apply wlp;apply qD;exact fB rfl)))
 refine jX jW (by kernel_rfl) (fun w'=>Hp _ _ w' _) hp.drew ?_
 have hp:=hp.drew
 (repeat ((apply wdp;exact rfl);(intro w hp;intros;((first|apply qS|(apply qJ;exact rfl))<;>(first|exact rfl|exact hp.cell 0 rfl rfl)));(intros;(first|exact fI rfl|exact fP rfl))))
 (apply wds;exact rfl;exact qH rfl qY3 rfl (jCb y _ hy))
 rintro _ w3 ⟨rfl,hk⟩
 have hp:=hp.call hk
 refine ⟨hp,?_⟩
 (repeat ((first|(apply wdp;exact rfl)|(apply wdg;exact rfl;exact rfl;exact rfl));(intro w hp;intros;((first|apply qC|apply qS|(apply qJ;exact rfl))<;>(first|exact rfl|exact hp.cell 0 rfl rfl)));(intros;(first|exact fI rfl|exact fB rfl|exact fP rfl))))
 (repeat (first|(apply uN;exact rfl;exact rfl;exact rfl;exact rfl)|(apply uM;exact rfl;exact rfl;exact rfl)))
 (apply qEs;exact rfl;exact rfl;exact rfl;exact qH rfl qAd rfl (qDj 4 y 2305843009213691579 _ (by decide) (by omega) (by decide) (by decide));rintro _ w4 ⟨rfl,hk⟩;have hp:=hp.call hk;refine ⟨hp,?_⟩)
 (repeat (first|((apply vD;exact rfl;exact rfl;exact rfl);(intro w hp;((first|apply qS|(apply qJ;exact rfl))<;>(first|exact rfl|exact hp.cell 0 rfl rfl|exact hp.cell 1 rfl rfl)));(intros;(first|exact fI rfl|exact fP rfl|exact fS rfl)))|(apply uN;exact rfl;exact rfl;exact rfl;exact rfl)|(apply uM;exact rfl;exact rfl;exact rfl)))
 (apply qEs;exact rfl;exact rfl;exact rfl;exact qH rfl qQe rfl (p45 cs x s1 c1 _ (h1.keep0 hp.keeps) hl hx hcs);rintro _ w5 ⟨rfl,hk⟩;have hp:=hp.call hk;refine ⟨hp,?_⟩)
 have he:4 ^ y % 2305843009213691579 = atP cs x:=he
 rw [he]
 (apply vD;exact rfl;exact rfl;exact rfl;(intro w hp;exact zF rfl rfl);exact jF (b:=true) (decide_eq_true (by omega)))
 (apply wdp;exact rfl;(intro w hp;exact zM rfl rfl);exact fB rfl)
 (repeat ((apply wdp;exact rfl);(intro w hp;intros;apply qD);(intros;exact fB rfl)))
 refine jL ?_
 (repeat (with_reducible first|apply qB|apply qT))
 exact qU rfl rfl ⟨_,rfl,rfl,hp.keeps⟩
theorem p48 (d:DlV) (key idx y:Nat) (w:World) (hT:Tabs w) (hd:DlAt w d) (hl:d.cs.length≤1000000) (hk1:key≤9223372036854775807) (hi:idx < d.bx.length) (hi2:idx≤1000000) (hy:y < 1152921504606845789) (hcs:∀ a ∈ d.cs,a < 2305843009213691579)
  (he:4 ^ y % gP = atP d.cs (idx + 1)) (hb:d.bx[idx]? = some (yY y key idx)) :
  Ret Tryz.prog 48 [.int .i64 (key:Int),.agg (eDl d).toArray,.int .i64 (idx:Int)] w (fun v w'=>v = .tuple #[.agg #[.int .i64 ((idx + 1:Nat):Int),.int .i64 (y:Int)],.bool true]∧Keeps [] w w'):=by
 have h97:=fun w hd=>p97 d (idx + 1) y w hd hl (by omega) hy hcs he
 obtain ⟨b0,o0,hs0,hc0⟩:=hd.bx.base (by omega)
 have hci:=hc0 idx _ hb 0 _ rfl
 have hh:=hd
 obtain ⟨s1,c1,cs,pt,s2,c2,bx⟩:=d
 dsimp only at hl hcs he hs0 hi
 have hE:eDl ⟨s1,c1,cs,pt,s2,c2,bx⟩ = [.slice s1 cs.length c1,.int .i64 (pt:Int),.slice s2 bx.length c2]:=rfl
 rw [hE] at h97 ⊢
 refine Ret.of_WP Tryz.func48 rfl Tryz.ntmps48 rfl ?_
 have hp:=Hp.start (M:=[]) (w:=w)
 (repeat (with_reducible first|apply qF|apply qA))
 (apply wls;exact qE1 hp rfl;rintro _ w1 ⟨b2,rfl,hp⟩)
 (apply wls;exact vA hp (jD rfl);rintro _ w2 ⟨b6,rfl,hp⟩)
 (repeat (first|(with_reducible first|apply qF|apply qA|apply qE|apply qB)|(apply wlp;((first|apply qC|apply qD|apply qS|(apply qJ;exact rfl)|(apply qR;exact rfl))<;>(first|exact rfl|assumption|exact hp.cell 1 rfl rfl|exact hp.old0 (by assumption)));(first|exact fI rfl|exact fB rfl|exact fP rfl|exact fS rfl|exact fT rfl))))
 (apply wls;exact qH rfl jA4 rfl (p96 y key idx _ (hT.keep hp.keeps) hk1 (by omega) (by omega)))
 rintro _ w3 ⟨rfl,hk⟩
 have hp:=hp.call hk
 (repeat (first|(with_reducible first|apply qF|apply qA|apply qE|apply qB)|(apply wlp;((first|apply qC|apply qD|apply jK)<;>exact rfl);(first|exact fI rfl|exact fB rfl|exact fU rfl))))
 (apply wlp;(exact qY rfl rfl);exact qI (b:=((idx + 1:Nat):Int)) (by rw [qN (by omega) (by omega)];omega))
 (repeat (first|(with_reducible first|apply qF|apply qA|apply qE|apply qB)|((first|apply wlp|(apply wlg;exact rfl;exact rfl));(intros;((first|apply qC|(apply jQ;exact rfl)|apply zI|(apply xJ;exact rfl))<;>(first|exact rfl|exact hp.agg_blk 0 rfl rfl|exact hp.agg_blk 2 rfl rfl)));(intros;(first|exact fI rfl|exact fB rfl|exact fA2 rfl|exact fA3 rfl)))|(apply wls;exact vA hp (jD rfl);rintro _ w ⟨b,rfl,hp⟩)|(apply zG;exact yN hp 0 rfl rfl rfl rfl (qQ rfl) rfl;rintro _ w ⟨rfl,hp⟩)))
 (repeat (first|(apply vS;exact rfl;exact rfl;exact rfl)|(apply vR;exact rfl;exact rfl)))
 (apply qAu;exact rfl;exact rfl;exact qH rfl jA3 rfl (h97 _ (hh.keep hp.keeps));rintro _ w4 ⟨rfl,hk⟩;have hp:=hp.call hk)
 ((apply jO;exact rfl;exact rfl);((apply zI<;>exact rfl));(intros;exact fB rfl))
 (apply wlp;exact jU rfl rfl;exact fB rfl)
 (repeat (with_reducible first|apply qE|apply qB))
 refine jI rfl ?_
 (repeat (first|(with_reducible first|apply qF|apply qA|apply qE|apply qB|apply qT|apply qL)|(apply wlp;((first|apply qD|(apply jQ;exact rfl))<;>(first|exact rfl|exact hp.agg_blk 0 rfl rfl));(first|exact fB rfl|exact fA2 rfl))|(apply zG;exact yN hp 1 rfl rfl rfl rfl (qQ rfl) rfl;rintro _ w ⟨rfl,hp⟩)))
 exact kE rfl rfl rfl rfl rfl (hp.agg_blk 1 rfl rfl) ⟨_,rfl,rfl,hp.keeps⟩
theorem p14 (d:DlV) (sec idx y:Nat) (w:World) (hT:Tabs w) (hd:DlAt w d) (hl:d.cs.length≤1000000) (hsec:sec < 1152921504606845789) (hpt:d.pt < 2305843009213691579) (hi:idx < d.bx.length) (hi2:idx≤1000000) (hbl:d.bx.length≤1000000) (hy:y < 1152921504606845789) (hcs:∀ a ∈ d.cs,a < 2305843009213691579)
  (he:4 ^ y % gP = atP d.cs (idx + 1)) (hb:d.bx[idx]? = some (yY y (d.pt ^ sec % gP) idx)) :
  Ret Tryz.prog 14 [.int .i64 (sec:Int),.agg (eDl d).toArray,.int .i64 (idx:Int)] w (fun v w'=>v = .tuple #[.agg #[.int .i64 ((idx + 1:Nat):Int),.int .i64 (y:Int)],.bool true]∧Keeps [] w w'):=by
 have hkl:=qC1 d.pt sec
 have h48:=fun w hT hd=>p48 d (d.pt ^ sec % gP) idx y w hT hd hl (by omega) hi hi2 hy hcs he hb
 have hh:=hd
 obtain ⟨s1,c1,cs,pt,s2,c2,bx⟩:=d
 dsimp only at hl hcs he hi hpt hbl
 have hE:eDl ⟨s1,c1,cs,pt,s2,c2,bx⟩ = [.slice s1 cs.length c1,.int .i64 (pt:Int),.slice s2 bx.length c2]:=rfl
 rw [hE] at h48 ⊢
 dsimp only at h48 hkl
 rw [qI3] at h48 hkl
 refine Ret.of_WP Tryz.func14 rfl Tryz.ntmps14 rfl ?_
 have hp:=Hp.start (M:=[]) (w:=w)
 (repeat (with_reducible first|apply qF|apply qA))
 (apply wls;exact qE1 hp rfl;rintro _ w1 ⟨b2,rfl,hp⟩)
 (apply wls;exact vA hp (jD rfl);rintro _ w2 ⟨b6,rfl,hp⟩)
 (repeat (first|(with_reducible first|apply qF|apply qA|apply qE|apply qB)|((first|apply wlp|(apply wlg;exact rfl;exact rfl));(intros;((first|apply qC|apply qD|apply qS|(apply qJ;exact rfl)|(apply jC;exact rfl)|exact jU rfl rfl|apply jA|apply xF)<;>(first|exact rfl|exact hp.cell 1 rfl rfl)));(intros;(first|exact fI rfl|exact fB rfl|exact fP rfl|exact fS rfl)))))
 refine zT rfl (fun h=>absurd h (by simp;omega)) (fun _=>?_)
 (repeat (with_reducible first|apply qF|apply qB|apply qL))
 refine xH jW (by kernel_rfl) (fun w'=>Hp _ _ w' _) hp.drew ?_
 have hp:=hp.drew
 (repeat ((apply wdp;exact rfl);(intro w hp;intros;((first|apply qC|apply qS|(apply qJ;exact rfl))<;>(first|exact rfl|exact hp.cell 1 rfl rfl)));(intros;(first|exact fI rfl|exact fP rfl))))
 (apply wds;exact rfl;exact qH rfl qMd rfl (p49 (sec:Int) 0 1152921504606845789 _ (by omega) (by omega) (by decide) (by decide) (by decide) (by decide)))
 rintro _ w3 ⟨rfl,hk⟩
 have hp:=hp.call hk
 refine ⟨hp,?_⟩
 have e1:((sec:Int) + 0) % ((1152921504606845789:Nat):Int) = (sec:Int):=by omega
 rw [e1]
 (apply wds;exact rfl;exact qH rfl qAd rfl (qDj pt sec 2305843009213691579 _ (by omega) (by omega) (by decide) (by decide)))
 rintro _ w4 ⟨rfl,hk⟩
 have hp:=hp.call hk
 refine ⟨hp,?_⟩
 (repeat ((apply wdp;exact rfl);(intro w hp;intros;((first|apply qC|(apply jQ;exact rfl))<;>(first|exact rfl|exact hp.agg_blk 1 rfl rfl)));(intros;(first|exact fI rfl|exact fA3 rfl))))
 (apply wds;exact rfl;exact qH rfl jAr rfl (h48 _ (hT.keep hp.keeps) (hh.keep hp.keeps));rintro _ w5 ⟨rfl,hk⟩;have hp:=hp.call hk;refine ⟨hp,?_⟩)
 (repeat ((apply wdp;exact rfl);(intro w hp;intros;(apply jK<;>exact rfl));(intros;(first|exact fB rfl|exact fA2 rfl))))
 (apply kH;exact rfl;exact rfl;exact yN hp 0 rfl rfl rfl rfl (qQ rfl) rfl;rintro _ w6 ⟨rfl,hp⟩)
 (repeat ((apply wdp;exact rfl);(intro w hp;intros;apply qD);(intros;exact fB rfl)))
 refine jL ?_
 (repeat (with_reducible first|apply qB|apply qT))
 exact kE rfl rfl rfl rfl rfl (hp.agg_blk 0 rfl rfl) ⟨_,rfl,rfl,hp.keeps⟩
theorem p90 (d:DlV) (n:Nat) (w:World) (hd:DlAt w d) (ho:DlOk d n) (hn:n≤1000000):Ret Tryz.prog 90 [.agg (eDl d).toArray,.int .i64 (n:Int)] w (fun v w'=>v = .bool true∧Keeps [] w w'):=by
 obtain ⟨s1,c1,cs,pt,s2,c2,bx⟩:=d
 obtain ⟨hbl,hcl,hcn,hsz,hmb,hpt⟩:=ho
 obtain ⟨hd1,hd2⟩:=hd
 dsimp only at hbl hcl hcn hsz hmb hpt hd1 hd2
 have hE:eDl ⟨s1,c1,cs,pt,s2,c2,bx⟩ = [.slice s1 cs.length c1,.int .i64 (pt:Int),.slice s2 bx.length c2]:=rfl
 rw [hE]
 clear hE
 refine Ret.of_WP Tryz.func90 rfl Tryz.ntmps90 rfl ?_
 have hp:=Hp.start (M:=[]) (w:=w)
 (repeat (with_reducible first|apply qF|apply qA))
 (apply wls;exact qE1 hp rfl;rintro _ w1 ⟨b2,rfl,hp⟩)
 (repeat (first|(with_reducible first|apply qF|apply qA|apply qE|apply qB)|((first|apply wlp|(apply wlg;exact rfl;exact rfl));(intros;((first|apply qC|apply qD|apply qS|(apply qJ;exact rfl)|(apply jC;exact rfl)|exact qAq rfl rfl rfl|apply jA|apply zA|(apply zJ;(first|exact rfl|exact jR rfl (by assumption))))<;>(first|exact rfl|exact jR rfl (by assumption)|exact hp.cell 0 rfl rfl)));(intros;(first|exact fI rfl|exact fB rfl|exact fP rfl|exact fS rfl)))))
 refine zT rfl (fun h=>absurd h (by simp;omega)) (fun _=>?_)
 (repeat (first|(with_reducible first|apply qF|apply qK|apply qA|apply qE|apply qB|apply qL)|(apply wlp;((first|apply qC|apply qS|(apply qJ;exact rfl)|(apply jC;exact rfl))<;>(first|exact rfl|exact hp.cell 0 rfl rfl));(first|exact fI rfl|exact fP rfl|exact fS rfl))))
 refine jE ([4,6] ++ List.range' 28 8) (fun (i:Nat) F=>F.put 28 (.int .i64 (i:Int)))
  (fun i w'=>i≤bx.length∧Hp w [] w' [blk b2 3 (qV [.slice s1 cs.length c1,.int .i64 (pt:Int),.slice s2 bx.length c2]) 54]) (fun i=>bx.length - i) 0 (qG (Same.eq .refl) rfl) ⟨Nat.zero_le _,hp⟩ ?_
 clear hp
 rintro u0 i w2 ⟨hi,hp⟩
 (repeat (first|(with_reducible first|apply qF|apply qA|apply qE|apply qB)|(apply wlp;(apply jA<;>exact rfl);exact fB rfl)))
 refine qM rfl (fun h=>?_) (fun h=>?_)
 ·have hlt:i < bx.length:=by omega
  obtain ⟨b0,o0,hs0,hc0⟩:=hd2.base (by omega)
  have hci:=hc0 i _ (List.getElem?_eq_getElem hlt) 0 _ rfl
  have hsa:=hsz _ (List.getElem_mem hlt)
  generalize bx[i] = a at hci hsa
  (repeat (first|(with_reducible first|apply qF|apply qK|apply qA|apply qE|apply qB|apply qL)|(apply wlp;((first|apply qC|apply qD|(apply qJ;exact rfl)|(apply xP;exact rfl)|(apply zJ;(first|exact rfl|exact jR rfl (by assumption)))|(apply qR;exact rfl))<;>(first|exact rfl|assumption|exact hp.old0 (by assumption)));(first|exact fI rfl|exact fB rfl|exact fP rfl|exact fT rfl))))
  refine zT rfl (fun h=>absurd h (by simp;omega)) (fun _=>?_)
  (repeat (with_reducible first|apply qA|apply qB|apply qZ|apply qL))
  (apply wlp;(exact qY rfl rfl);exact qI (b:=((i + 1:Nat):Int)) (by rw [qN (by omega) (by omega)];omega))
  (repeat (first|(with_reducible first|apply qE|apply qB)|(apply wlp;apply qC;exact fI rfl)))
  exact ⟨i + 1,qG (Same.eq (by repeat (first|exact Same.hav|exact Same.refl|refine Same.put rfl ?_|refine Same.havs rfl ?_))) rfl,⟨by omega,hp⟩,by omega⟩
 (repeat (first|(with_reducible first|apply qF|apply qA|apply qB|apply qO|apply jB)|((with_reducible apply qP);exact rfl)|(apply wlp;((first|apply qS|(apply qJ;exact rfl))<;>(first|exact rfl|exact hp.cell 0 rfl rfl));(first|exact fP rfl|exact fS rfl))))
 (apply wls;exact qH rfl qY9 rfl (jCh cs s1 c1 _ (hd1.keep0 hp.keeps) hmb (by omega)))
 rintro _ w3 ⟨rfl,hk⟩
 have hp:=hp.call hk
 (repeat ((first|apply wlp|(apply wlg;exact rfl;exact rfl));(intros;((first|apply qC|apply qS|(apply qJ;exact rfl))<;>(first|exact rfl|exact hp.cell 0 rfl rfl)));(intros;(first|exact fI rfl|exact fB rfl|exact fP rfl))))
 (repeat (first|(apply vS;exact rfl;exact rfl;exact rfl)|(apply vR;exact rfl;exact rfl)))
 (apply qAu;exact rfl;exact rfl;exact qH rfl qC4 rfl (p69 pt _ hpt);rintro _ w4 ⟨rfl,hk⟩;have hp:=hp.call hk)
 (apply wlp;exact zM rfl rfl;exact fB rfl)
 (repeat (first|(with_reducible first|apply qE|apply qB|apply qT)|(apply wlp;apply qD;exact fB rfl)))
 exact qU rfl rfl ⟨_,rfl,rfl,hp.keeps⟩
end Go.Proofs.YtbgldmoikimmpaaGreatDoor
namespace Go.Proofs.YtbgldmoikimmpaaGreatDoor
open Go.Eng Go.Dig Go.Sha Go.Grp Go.Sp
structure NRow where
 s:Option Addr
 c:Nat
 l:List Nat
def eNR (r:NRow):List Value:=[.slice r.s r.l.length r.c]
structure RowsAt (w:World) (s:Option Addr) (rs:List NRow):Prop where
 at_:SlAt w 1 eNR s rs
 row:∀ r ∈ rs,SlAt w 1 eN r.s r.l
theorem RowsAt.keep {w w':World} {s:Option Addr} {rs:List NRow} (h:RowsAt w s rs) (hk:Keeps [] w w'):RowsAt w' s rs:=⟨h.at_.keep0 hk,fun r hr=>(h.row r hr).keep0 hk⟩
def kD (rs:List NRow):List (List Nat):=rs.map NRow.l
def wT (rs:List NRow):Nat:=(rs.map fun r=>r.l.length).sum
theorem qGi {rs:List NRow} {i:Nat} (h:i < rs.length):wT (rs.take (i + 1)) = wT (rs.take i) + rs[i].l.length:=by
 unfold wT
 rw [List.take_succ_eq_append_getElem h,List.map_append,List.sum_append]
 simp
theorem kI:∀ (rs:List NRow) (i:Nat),wT (rs.take i)≤wT rs
 | [],i=>by simp
 | r :: rs,0=>by simp [wT]
 | r :: rs,i + 1=>by
  have:=kI rs i
  simp only [wT,List.take_succ_cons,List.map_cons,List.sum_cons] at *
  omega
def inL (l:List Nat) (i:Nat):Int→Bool:=fun a=>decide (a ∈ toI (l.take i))
theorem qD1 (l:List Nat):wH (inL l 0) = fun _=>none:=qGk _ fun a=>by simp [inL,toI]
theorem qD2 {l:List Nat} {i:Nat} (h:i < l.length):(fun a=>decide (a = (l[i]:Int)) || inL l i a) = inL l (i + 1):=by
 funext a
 unfold inL toI
 rw [List.take_succ_eq_append_getElem h,List.map_append,Bool.eq_iff_iff]
 simp [or_comm]
theorem qEi {l:List Nat} (hn:l.Nodup) {i:Nat} (h:i < l.length):inL l i (l[i]:Int) = false:=by
 unfold inL
 refine decide_eq_false fun hm=>?_
 obtain ⟨x,hx,he⟩:=List.mem_map.1 hm
 have he:=qEe he
 rw [List.mem_take_iff_getElem] at hx
 obtain ⟨j,hj,e⟩:=hx
 rw [List.nodup_iff_pairwise_ne,List.pairwise_iff_getElem] at hn
 exact hn j i (by omega) h (by omega) (e.trans he)
attribute [local irreducible] PV StepF wpl wpd WP Ret
attribute [local irreducible] Fit ofN xD hv scP xN yC yY atP Mb inL
theorem p89 (x:Nat) (w:World) (h1:1≤x) (h2:x < 1152921504606845789):Ret Tryz.prog 89 [.int .i64 (x:Int)] w (fun v w'=>v = .bool true∧Keeps [] w w'):=by
 refine Ret.of_WP Tryz.func89 rfl Tryz.ntmps89 rfl ?_
 have hp:=Hp.start (M:=[]) (w:=w)
 (repeat (with_reducible first|apply qF|apply qA))
 (apply wlp;apply qD;exact fB rfl)
 (repeat (with_reducible first|apply qF|apply qA|apply qE|apply qB))
 (apply wlp;apply qC;exact fI rfl)
 (apply wlp;(exact xF rfl rfl);exact jF (b:=true) (decide_eq_true (by omega)))
 (apply wlp;apply qC;exact fB rfl)
 ((apply jO;exact rfl;exact rfl);(apply qC);(intros;exact fI rfl))
 (apply jO;exact rfl;exact rfl;(exact kB rfl rfl);exact jF (b:=true) (decide_eq_true (by omega)))
 (apply wlp;exact zM rfl rfl;exact fB rfl)
 (repeat (first|(with_reducible first|apply qE|apply qB|apply qT)|(apply wlp;apply qD;exact fB rfl)))
 exact qU rfl rfl ⟨_,rfl,rfl,hp.keeps⟩
theorem p41 (l:List Nat) (s:Option Addr) (c:Nat) (w:World) (hs:SlAt w 1 eN s l) (hP:Pts l) (hl:l.length≤1000000):Ret Tryz.prog 41 [.slice s l.length c] w (fun v w'=>v = .bool true∧Keeps [] w w'):=by
 refine Ret.of_WP Tryz.func41 rfl Tryz.ntmps41 rfl ?_
 have hp:=Hp.start (M:=[]) (w:=w)
 (repeat (first|(with_reducible first|apply qF|apply qA|apply qE|apply qB)|(apply wlp;apply qD;exact fB rfl)))
 (apply wls;exact kA kInt hp;rintro _ w1 ⟨mb,rfl,hp⟩)
 rw [← qD1 l] at hp
 (repeat (first|(with_reducible first|apply qF|apply qK|apply qA|apply qE|apply qB)|(apply wlp;((first|apply qC|apply qD|(apply jC;exact rfl))<;>exact rfl);(first|exact fI rfl|exact fS rfl|exact fM rfl))))
 refine jE ([2,5] ++ List.range' 9 15) (fun (i:Nat) F=>F.put 9 (.int .i64 (i:Int)))
  (fun i w'=>i≤l.length∧Hp w [] w' [qAv kInt mb (wH (inL l i))]) (fun i=>l.length - i) 0 (qG (Same.eq .refl) rfl) ⟨Nat.zero_le _,hp⟩ ?_
 clear hp
 rintro u0 i w2 ⟨hi,hp⟩
 (repeat (first|(with_reducible first|apply qF|apply qA|apply qE|apply qB)|(apply wlp;(apply jA<;>exact rfl);exact fB rfl)))
 refine qM rfl (fun h=>?_) (fun h=>?_)
 ·have hlt:i < l.length:=by omega
  obtain ⟨b0,o0,hs0,hc0⟩:=hs.base (by omega)
  have hci:=hc0 i _ (List.getElem?_eq_getElem hlt) 0 _ rfl
  have hbd:=hP.bd _ (List.getElem_mem hlt)
  have hnew:=qEi hP.nd hlt
  have hsucc:=qD2 hlt
  generalize l[i] = a at hci hbd hnew hsucc
  have hbd2:a < 1152921504606845789:=hbd.2
  (repeat (first|(with_reducible first|apply qF|apply qK|apply qA|apply qE|apply qB|apply qL)|(apply wlp;((first|apply qC|apply qD|(apply qJ;exact rfl)|(apply qR;exact rfl))<;>(first|exact rfl|assumption|exact hp.old0 (by assumption)));(first|exact fI rfl|exact fP rfl))))
  (apply wls;exact qH rfl qV2 rfl (p89 a _ hbd.1 hbd2))
  rintro _ w3 ⟨rfl,hk⟩
  have hp:=hp.call hk
  (apply wlp;(apply zI<;>exact rfl);exact fB rfl)
  (apply wlp;apply qC;exact fB rfl)
  (repeat (first|((apply jO;exact rfl;exact rfl);(apply qC);(intros;(first|exact fI rfl|exact fM rfl)))|(apply vS;exact rfl;exact rfl;exact rfl)|(apply vR;exact rfl;exact rfl)))
  (apply jO;exact rfl;exact rfl;exact qA4 (a:=(a:Int)) hp 0 rfl rfl rfl (zK (t:=92) rfl).1 (zK (t:=92) rfl).2.1 (zK (t:=92) rfl).2.2;exact (qAz _ _).trans (congrArg Value.bool hnew))
  (apply wlp;exact jU rfl rfl;exact fB rfl)
  (repeat (with_reducible first|apply qE|apply qB))
  refine jI rfl ?_
  (repeat (first|(with_reducible first|apply qA|apply qB|apply qL)|(apply wlp;apply qC;(first|exact fI rfl|exact fM rfl))))
  (apply zG;exact qA3 (a:=(a:Int)) hp 0 rfl rfl rfl rfl (zK (t:=92) rfl).1 (zK (t:=92) rfl).2.1;rintro _ w4 ⟨rfl,hp⟩)
  rw [hsucc] at hp
  (repeat (with_reducible first|apply qA|apply qE|apply qB|apply qZ))
  (apply wlp;(exact qY rfl rfl);exact qI (b:=((i + 1:Nat):Int)) (by rw [qN (by omega) (by omega)];omega))
  (repeat (first|(with_reducible first|apply qE|apply qB)|(apply wlp;apply qC;exact fI rfl)))
  exact ⟨i + 1,qG (Same.eq (by repeat (first|exact Same.hav|exact Same.refl|refine Same.put rfl ?_|refine Same.havs rfl ?_))) rfl,⟨by omega,hp⟩,by omega⟩
 (repeat (first|(with_reducible first|apply qF|apply qA|apply qE|apply qB|apply qO|apply qT|apply jB)|((with_reducible apply qP);exact rfl)|(apply wlp;apply qD;exact fB rfl)))
 exact qU rfl rfl ⟨_,rfl,rfl,hp.keeps⟩
theorem p44 (rs:List NRow) (s:Option Addr) (c:Nat) (w:World) (hs:RowsAt w s rs) (hl:rs.length≤1000000) (hb:wT rs≤1000000):Ret Tryz.prog 44 [.slice s rs.length c] w (fun v w'=>v = .int .i64 (wT rs:Int)∧Keeps [] w w'):=by
 have h0:wT (rs.take 0) = 0:=by simp [wT]
 refine Ret.of_WP Tryz.func44 rfl Tryz.ntmps44 rfl ?_
 have hp:=Hp.start (M:=[]) (w:=w)
 (repeat (first|(with_reducible first|apply qF|apply qK|apply qA|apply qE|apply qB)|(apply wlp;((first|apply qC|apply qD|(apply jC;exact rfl))<;>exact rfl);(first|exact fI rfl|exact fS rfl))))
 refine jE ([3,5] ++ List.range' 8 9) (fun (i:Nat) F=>(F.put 8 (.int .i64 (i:Int))).put 3 (.int .i64 (wT (rs.take i):Int)))
  (fun i w'=>i≤rs.length∧Hp w [] w' []) (fun i=>rs.length - i) 0 (qG (qG (Same.eq .refl) rfl) (by rw [h0];rfl)) ⟨Nat.zero_le _,hp⟩ ?_
 clear hp
 rintro u0 i w2 ⟨hi,hp⟩
 have hle:=kI rs i
 (repeat (first|(with_reducible first|apply qF|apply qA|apply qE|apply qB)|(apply wlp;(apply jA<;>exact rfl);exact fB rfl)))
 refine qM rfl (fun h=>?_) (fun h=>?_)
 ·have hlt:i < rs.length:=by omega
  obtain ⟨b0,o0,hs0,hc0⟩:=hs.at_.base (by omega)
  have hci:=hc0 i _ (List.getElem?_eq_getElem hlt) 0 _ rfl
  have hst:=qGi hlt
  have hle2:=kI rs (i + 1)
  generalize rs[i] = r at hci hst
  (repeat (first|(with_reducible first|apply qF|apply qK|apply qA|apply qE|apply qB|apply qL)|(apply wlp;((first|apply qC|apply qD|(apply qJ;exact rfl)|(apply jC;exact rfl)|(apply qR;exact rfl))<;>(first|exact rfl|assumption|exact hp.old0 (by assumption)));(first|exact fI rfl|exact fP rfl|exact fS rfl))))
  (apply wlp;(exact qY rfl rfl);exact qI (b:=((wT (rs.take i) + r.l.length:Nat):Int)) (by rw [qN (by omega) (by omega)];omega))
  rw [← hst]
  (repeat (first|(with_reducible first|apply qA|apply qE|apply qB|apply qZ)|(apply wlp;apply qD;exact fI rfl)))
  (apply wlp;(exact qY rfl rfl);exact qI (b:=((i + 1:Nat):Int)) (by rw [qN (by omega) (by omega)];omega))
  (repeat (first|(with_reducible first|apply qE|apply qB)|(apply wlp;apply qC;exact fI rfl)))
  exact ⟨i + 1,qG (qG (Same.eq (by repeat (first|exact Same.hav|exact Same.refl|refine Same.put rfl ?_|refine Same.havs rfl ?_))) rfl) rfl,⟨by omega,hp⟩,by omega⟩
 obtain rfl:i = rs.length:=by omega
 rw [List.take_length]
 (repeat (first|(with_reducible first|apply qF|apply qA|apply qE|apply qB|apply qO|apply qT|apply jB)|((with_reducible apply qP);exact rfl)|(apply wlp;(first|apply qC|apply qD);exact fI rfl)))
 exact qU rfl rfl ⟨_,rfl,rfl,hp.keeps⟩
theorem p92 (n:Nat) (w:World) (h1:1≤n) (h2:n≤1000000):Ret Tryz.prog 92 [.int .i64 (n:Int)] w (fun v w'=>v = .int .i64 (((n - 1) / 3:Nat):Int)∧Keeps [] w w'):=by
 refine Ret.of_WP Tryz.func92 rfl Tryz.ntmps92 rfl ?_
 have hp:=Hp.start (M:=[]) (w:=w)
 (repeat (first|(with_reducible first|apply qF|apply qA|apply qE|apply qB)|(apply wlp;((first|apply qC|apply qD|apply jA)<;>exact rfl);(first|exact fI rfl|exact fB rfl))))
 refine qM rfl (fun h=>absurd h (by omega)) (fun _=>?_)
 (repeat (first|(with_reducible first|apply qF|apply qA|apply qB|apply qL)|(apply wlp;apply qC;exact fI rfl)))
 (apply wlp;(exact jN rfl rfl);exact qI (b:=((n - 1:Nat):Int)) (by rw [qN (by omega) (by omega)];omega))
 (apply wlp;exact yV rfl rfl (by decide);exact qI (b:=(((n - 1) / 3:Nat):Int)) (by rw [show (3:Int) = ((3:Nat):Int) from rfl,tdn];exact qD4 (by omega)))
 (repeat (first|(with_reducible first|apply qE|apply qB|apply qT)|(apply wlp;apply qD;exact fI rfl)))
 exact qU rfl rfl ⟨_,rfl,rfl,hp.keeps⟩
theorem p46 (n:Nat) (w:World) (h1:1≤n) (h2:n≤1000000):Ret Tryz.prog 46 [.int .i64 (n:Int)] w (fun v w'=>v = .int .i64 (ndN n:Int)∧Keeps [] w w'):=by
 refine Ret.of_WP Tryz.func46 rfl Tryz.ntmps46 rfl ?_
 have hp:=Hp.start (M:=[]) (w:=w)
 (repeat (first|(with_reducible first|apply qF|apply qA|apply qE|apply qB)|(apply wlp;((first|apply qC|apply qD|apply jA)<;>exact rfl);(first|exact fI rfl|exact fB rfl))))
 refine qM rfl (fun h=>absurd h (by omega)) (fun _=>?_)
 (repeat (first|(with_reducible first|apply qF|apply qA|apply qB|apply qL)|(apply wlp;apply qC;exact fI rfl)))
 (apply wls;exact qH rfl jA6 rfl (p92 n _ h1 h2))
 rintro _ w3 ⟨rfl,hk⟩
 have hp:=hp.call hk
 (apply wlp;exact qY rfl rfl;exact qI (b:=(ndN n:Int)) (by unfold ndN;rw [qN (by omega) (by omega)];omega))
 (repeat (first|(with_reducible first|apply qE|apply qB|apply qT)|(apply wlp;apply qD;exact fI rfl)))
 exact qU rfl rfl ⟨_,rfl,rfl,hp.keeps⟩
end Go.Proofs.YtbgldmoikimmpaaGreatDoor
namespace Go.Proofs.YtbgldmoikimmpaaGreatDoor
open Go.Eng Go.Dig Go.Sha Go.Lag Go.Grp Go.Sp
def zB (S:List Nat) (i:Nat):Nat:=fac S (S.getD i 0)
theorem qAb (S:List Nat) (i:Nat):zB S i < 1152921504606845789:=qQ0
theorem qBc {S:List Nat} {i:Nat} (h:i < S.length):zB S i = fac S S[i]:=by
 unfold zB
 rw [List.getD_eq_getElem?_getD,List.getElem?_eq_getElem h]
 rfl
theorem qF6 {S:List Nat} (h:Pts S) {i:Nat} (hi:i < S.length):1≤S[i]∧S[i] < 1152921504606845789:=h.bd _ (List.getElem_mem hi)
def fdI (st:Nat→Nat→Nat) (a:Nat) (i:Nat):Nat:=(List.range i).foldl st a
theorem qPy (st:Nat→Nat→Nat) (a i:Nat):fdI st a (i + 1) = st (fdI st a i) i:=by
 unfold fdI
 rw [List.range_succ,List.foldl_append]
 rfl
def qLa (kf nb:Nat) (S:List Nat) (st:Nat→Nat→Nat) (M:List Nat) (w:World):Prop:=
 ∀ W,Keeps M w W→∀ i acc,i < S.length→acc < 2305843009213691579→st acc i < 2305843009213691579∧Ret Tryz.prog kf [.int .i64 (acc:Int),.int .i64 (i:Int),.int .i64 (zB S i:Int),.pointer (some ⟨nb,0,none⟩)] W (fun v W'=>v = .int .i64 (st acc i:Int)∧Keeps [] W W')
attribute [local irreducible] PV StepF wpl wpd WP Ret
attribute [local irreducible] Fit ofN xD hv scP xN yC yY atP Mb inL fac zB
theorem jCf (S:List Nat) (s:Option Addr) (c pb:Nat) (M:List Nat) (w:World) (h1:w.cell? ⟨pb,0,none⟩ = some (.slice s S.length c)) (hs:SlAt w 1 eN s S) (hP:Pts S) (hl:S.length≤1000000)
  (hM1:pb ∉ M) (hMs:S ≠ []→∀ b o,s = some ⟨b,o,none⟩→b ∉ M) (hMlt:∀ k ∈ M,k < w.heap.size) :
  It2 Tryz.prog 141 [.pointer (some ⟨pb,0,none⟩)] (fun i:Nat=>Value.int .i64 (i:Int)) (fun i:Nat=>Value.int .i64 (zB S i:Int)) (List.range S.length) M w:=by
 intro ll J hll hlc hY hJ hJ0
 have hn1:pb ≠ ll:=hlc _ _ h1
 have hc1:pb ∉ ll :: M:=by simp;exact ⟨hn1,hM1⟩
 have hsl:S ≠ []→∀ b o,s = some ⟨b,o,none⟩→b ∉ ll :: M:=by
  intro h b o e
  obtain ⟨x,l',rfl⟩:∃ x l',S = x :: l':=by cases S with|nil=>exact absurd rfl h|cons x l'=>exact ⟨x,l',rfl⟩
  obtain ⟨b',o',e',hc'⟩:=hs 0 x rfl
  have hcc:=hlc _ _ (hc' 0 _ rfl)
  rw [e] at e'
  cases e'
  simp
  exact ⟨hcc,hMs (by simp) b o e⟩
 have hJk:∀ {pre:List Nat} {W W':World},J pre W→w.heap.size≤W.heap.size→Keeps [] W W'→J pre W':=fun h hs hk=>hJ _ _ _ h (Keeps.priv hk hs (by simp))
 refine Ret.of_WP Tryz.func141 rfl Tryz.ntmps141 rfl ?_
 (repeat (first|(with_reducible first|apply qF|apply qK|apply qA|apply qE|apply qB)|(apply wlp;((first|apply qC|(apply qJ;exact rfl)|(apply jC;exact rfl))<;>(first|exact rfl|assumption));(first|exact fI rfl|exact fS rfl))))
 refine jE ([3,4,5,6,7,8,9,10] ++ List.range' 13 37) (fun (i:Nat) F=>F.put 13 (.int .i64 (i:Int)))
  (fun i W=>i≤S.length∧J (List.range i) W∧Keeps (ll :: M) w W) (fun i=>S.length - i) 0 (qG (Same.eq .refl) rfl) ⟨Nat.zero_le _,hJ0,.refl⟩ ?_
 rintro u0 i W ⟨hi,hJi,hk⟩
 have d1:=hk.cell h1 hc1
 have dS:=hs.keep hk hsl
 (repeat (first|(with_reducible first|apply qF|apply qA|apply qE|apply qB)|(apply wlp;(apply jA<;>exact rfl);exact fB rfl)))
 refine qM rfl (fun h=>?_) (fun h=>?_)
 ·have hlt:i < S.length:=by omega
  obtain ⟨b0,o0,hs0,hc0⟩:=dS.base (by omega)
  have hci:=hc0 i _ (List.getElem?_eq_getElem hlt) 0 _ rfl
  have hxb:=qF6 hP hlt
  have hfa:=qBc hlt
  have hfl:=qAb S i
  have hcop:=fun a b h=>FacI.cop (a:=a) (b:=b) hP hlt h
  have hdone:=fun a b z h hz=>FacI.done (a:=a) (b:=b) (z:=z) hP hlt h hz
  have hne:∀ j (hj:j < S.length),j ≠ i→S[j] ≠ S[i]:=fun j hj hij e=>by
   have hn:=hP.nd
   rw [List.nodup_iff_pairwise_ne,List.pairwise_iff_getElem] at hn
   rcases Nat.lt_or_ge j i with h|h
   ·exact hn j i hj hlt h e
   ·exact hn i j hlt hj (by omega) e.symm
  generalize S[i] = x at hci hxb hfa hcop hdone hne
  (repeat (first|(with_reducible first|apply qF|apply qK|apply qA|apply qE|apply qB|apply qL)|(apply wlp;((first|apply qC|apply qD|(apply qJ;exact rfl)|(apply jC;exact rfl)|(apply qR;exact rfl))<;>(first|exact rfl|assumption));(first|exact fI rfl|exact fP rfl|exact fS rfl))))
  refine jE ([5,6,7,8] ++ List.range' 20 17) (fun (X:Nat × Nat × Nat) F=>((F.put 20 (.int .i64 (X.1:Int))).put 5 (.int .i64 (X.2.1:Int))).put 6 (.int .i64 (X.2.2:Int)))
   (fun X W=>X.1≤S.length∧X.2.1 < 1152921504606845789∧X.2.2 < 1152921504606845789∧FacI S i x X.1 X.2.1 X.2.2∧J (List.range i) W∧Keeps (ll :: M) w W) (fun X=>S.length - X.1) (0,1,1) (qG (qG (qG (Same.eq .refl) rfl) rfl) rfl) ⟨Nat.zero_le _,by decide,by decide,FacI.zero,hJi,hk⟩ ?_
  clear hJi hk d1 dS hc0 hci hs0
  rintro u1 ⟨j,a,b⟩ W1 ⟨hj,ha,hb,hF,hJi,hk⟩
  dsimp only at hj ha hb hF hJi hk ⊢
  have d1:=hk.cell h1 hc1
  have dS:=hs.keep hk hsl
  (repeat (first|(with_reducible first|apply qF|apply qA|apply qE|apply qB)|(apply wlp;(apply jA<;>exact rfl);exact fB rfl)))
  refine qM rfl (fun h=>?_) (fun h=>?_)
  ·have hltj:j < S.length:=by omega
   obtain ⟨b1,o1,hs1,hc1'⟩:=dS.base (by omega)
   have hcj:=hc1' j _ (List.getElem?_eq_getElem hltj) 0 _ rfl
   have hyb:=qF6 hP hltj
   (repeat (first|(with_reducible first|apply qF|apply qK|apply qA|apply qE|apply qB|apply qL)|(apply wlp;((first|apply qC|apply qD|(apply qJ;exact rfl)|(apply zJ;(first|exact rfl|exact jR rfl (by assumption)))|(apply qR;exact rfl))<;>(first|exact rfl|assumption));(first|exact fI rfl|exact fB rfl|exact fP rfl))))
   refine yQ rfl (fun hij=>?_) (fun hij=>?_)
   ·have hji:j ≠ i:=by omega
    have hnx:=fun a' b' h1 h2=>hF.next (a':=a') (b':=b') hltj hji h1 h2
    generalize S[j] = y at hcj hyb hnx
    (repeat (first|(with_reducible first|apply qF|apply qA)|(apply wlp;apply qC;exact fI rfl)))
    (apply wls;exact qH rfl qBf rfl (p52 (a:Int) (y:Int) 1152921504606845789 _ (by omega) (by omega) (by omega) (by omega) (by decide) (by decide));rintro _ W2 ⟨rfl,hk3⟩)
    have e1:((a:Nat):Int) * (y:Int) % ((1152921504606845789:Nat):Int) = ((a * y % gQ:Nat):Int):=by rw [Int.natCast_emod,Int.natCast_mul,qBb]
    rw [e1]
    have hJi:=hJk hJi hk.size hk3
    have hk:Keeps (ll :: M) w W2:=hk.trans hk3 (by simp)
    (repeat (first|(with_reducible first|apply qA|apply qE|apply qB)|(apply wlp;(first|apply qC|apply qD);exact fI rfl)))
    (apply wls;exact qH rfl qY6 rfl (jCe (y:Int) (x:Int) 1152921504606845789 _ (by omega) (by omega) (by omega) (by omega) (by decide) (by decide));rintro _ W3 ⟨rfl,hk3⟩)
    have hJi:=hJk hJi hk.size hk3
    have hk:Keeps (ll :: M) w W3:=hk.trans hk3 (by simp)
    obtain ⟨d,hd,hdl⟩:=qAm ((y:Int) - (x:Int)) (m:=1152921504606845789) (by decide)
    rw [hd]
    (apply wls;exact qH rfl qBf rfl (p52 (b:Int) (d:Int) 1152921504606845789 _ (by omega) (by omega) (by omega) (by omega) (by decide) (by decide));rintro _ W4 ⟨rfl,hk3⟩)
    have e2:((b:Nat):Int) * (d:Int) % ((1152921504606845789:Nat):Int) = ((b * d % gQ:Nat):Int):=by rw [Int.natCast_emod,Int.natCast_mul,qBb]
    rw [e2]
    have hJi:=hJk hJi hk.size hk3
    have hk:Keeps (ll :: M) w W4:=hk.trans hk3 (by simp)
    have ha2:a * y % gQ < 1152921504606845789:=Nat.mod_lt _ (by decide)
    have hb2:b * d % gQ < 1152921504606845789:=Nat.mod_lt _ (by decide)
    have hF2:=hnx (a * y % gQ) (b * d % gQ) (Nat.mod_mod _ _) (by
     refine (qJd _).trans ?_
     rw [Int.natCast_mul]
     refine Cg.refl.mul ?_
     rw [← hd]
     exact Cg.mod)
    (repeat (first|(with_reducible first|apply qA|apply qE|apply qB|apply qZ)|(apply wlp;apply qD;exact fI rfl)))
    (apply wlp;(exact qY rfl rfl);exact qI (b:=((j + 1:Nat):Int)) (by rw [qN (by omega) (by omega)];omega))
    (repeat (first|(with_reducible first|apply qE|apply qB)|(apply wlp;apply qC;exact fI rfl)))
    exact ⟨(j + 1,a * y % gQ,b * d % gQ),qG (qG (qG (Same.eq (by repeat (first|exact Same.hav|exact Same.refl|refine Same.put rfl ?_|refine Same.havs rfl ?_))) rfl) rfl) rfl,⟨by dsimp only;omega,ha2,hb2,hF2,hJi,hk⟩,by dsimp only;omega⟩
   ·have hji:j = i:=by omega
    subst hji
    have hF2:=hF.same hltj
    (repeat (with_reducible first|apply qA|apply qB|apply qZ|apply qL))
    (apply wlp;(exact qY rfl rfl);exact qI (b:=((j + 1:Nat):Int)) (by rw [qN (by omega) (by omega)];omega))
    (repeat (first|(with_reducible first|apply qE|apply qB)|(apply wlp;apply qC;exact fI rfl)))
    exact ⟨(j + 1,a,b),qG (qG (qG (Same.eq (by repeat (first|exact Same.hav|exact Same.refl|refine Same.put rfl ?_|refine Same.havs rfl ?_))) rfl) rfl) rfl,⟨by dsimp only;omega,ha,hb,hF2,hJi,hk⟩,by dsimp only;omega⟩
  obtain rfl:j = S.length:=by omega
  have hg:=qZw (hcop a b hF)
  (repeat (first|(with_reducible first|apply qF|apply qA|apply qB|apply qO|apply jB)|((with_reducible apply qP);exact rfl)|(apply wlp;apply qC;exact fI rfl)))
  (apply wls;exact qH rfl qY5 rfl (jCd (b:Int) 1152921504606845789 _ (by omega) (by omega) (by decide) (by decide) (by
   intro r hr
   have:r = b:=by omega
   rw [this]
   exact hg));rintro _ W2 ⟨⟨z,rfl,hzl,hz⟩,hk3⟩)
  have hJi:=hJk hJi hk.size hk3
  have hk:Keeps (ll :: M) w W2:=hk.trans hk3 (by simp)
  have hend:=hdone a b z hF hz
  rw [← hfa] at hend
  (repeat (first|(with_reducible first|apply qF|apply qA|apply qE|apply qB)|(apply wlp;((first|apply qC|apply qD|apply jK)<;>exact rfl);(first|exact fI rfl|exact fB rfl|exact fF0 rfl|exact fU rfl))))
  (apply wls;exact qH rfl qBf rfl (p52 (a:Int) (z:Int) 1152921504606845789 _ (by omega) (by omega) (by omega) (by omega) (by decide) (by decide));rintro _ W3 ⟨rfl,hk3⟩)
  have e1:((a:Nat):Int) * (z:Int) % ((1152921504606845789:Nat):Int) = (zB S i:Int):=by rw [← hend,Int.natCast_emod,Int.natCast_mul,qBb]
  rw [e1]
  have hJi:=hJk hJi hk.size hk3
  have hk:Keeps (ll :: M) w W3:=hk.trans hk3 (by simp)
  (apply wlY;exact rfl;exact rfl;exact hY (List.range i) i _ hJi (qE2 hlt);rintro _ W4 ⟨rfl,hJ1,hk1⟩;refine ⟨_,rfl,?_⟩)
  have hk2:Keeps (ll :: M) w W4:=hk.trans hk1 (fun k hk=>.inr hk)
  rw [← List.range_succ] at hJ1
  (repeat (first|(with_reducible first|apply qE|apply qB)|(apply wlp;(apply zI<;>exact rfl);exact fB rfl)))
  refine jI rfl ?_
  (repeat (with_reducible first|apply qA|apply qB|apply qZ|apply qL))
  (apply wlp;(exact qY rfl rfl);exact qI (b:=((i + 1:Nat):Int)) (by rw [qN (by omega) (by omega)];omega))
  (repeat (first|(with_reducible first|apply qE|apply qB)|(apply wlp;apply qC;exact fI rfl)))
  exact ⟨i + 1,qG (Same.eq (by repeat (first|exact Same.hav|exact Same.refl|refine Same.put rfl ?_|refine Same.havs rfl ?_))) rfl,⟨by omega,hJ1,hk2⟩,by omega⟩
 obtain rfl:i = S.length:=by omega
 (repeat (first|(with_reducible first|apply qO|apply jB)|((with_reducible apply qP);exact rfl)))
 exact qF1 rfl ⟨_,rfl,hJi⟩
theorem p94 (s:Option Addr) (m c:Nat) (w:World):Ret Tryz.prog 94 [.slice s m c] w (fun v w'=>∃ pb,v = .func (.func 141) #[] #[.pointer (some ⟨pb,0,none⟩)]∧Hp w [] w' [blk pb 1 (qV [.slice s m c]) 23]):=by
 refine Ret.of_WP Tryz.func94 rfl Tryz.ntmps94 rfl ?_
 have hp:=Hp.start (M:=[]) (w:=w)
 (repeat (first|(with_reducible first|apply qF|apply qA|apply qE|apply qB|apply qT)|(apply wlp;(first|apply qD|apply vW);(first|exact fF1 rfl|exact rfl))|(apply wls;exact qAp hp rfl rfl;rintro _ w ⟨b,rfl,hp⟩)))
 exact qU rfl rfl ⟨_,rfl,_,rfl,hp⟩
theorem p93 (kf nb pb c a0:Nat) (S:List Nat) (s:Option Addr) (st:Nat→Nat→Nat) (w:World) (he:qX Tryz.prog kf) (h1:w.cell? ⟨pb,0,none⟩ = some (.slice s S.length c)) (hs:SlAt w 1 eN s S) (hP:Pts S) (hl:S.length≤1000000)
  (ha:a0 < 2305843009213691579) (hst:qLa kf nb S st [] w) :
  Ret Tryz.prog 93 [.func (.func 141) #[] #[.pointer (some ⟨pb,0,none⟩)],.int .i64 (a0:Int),.func (.func kf) #[] #[.pointer (some ⟨nb,0,none⟩)]] w (fun v w'=>v = .int .i64 (fdI st a0 S.length:Int)∧Keeps [] w w'):=by
 have hsw:S ≠ []→∀ b o,s = some ⟨b,o,none⟩→b < w.heap.size:=fun h b o e=>hs.lt (fun _=>rfl) (by decide) h e
 have hpw:pb < w.heap.size:=World.block_lt_of_cell? w _ h1
 refine Ret.of_marks Tryz.func93 rfl Tryz.ntmps93 rfl ?_
 have hp:=Hp.start (M:=[]) (w:=w)
 refine qIm ?_
 (repeat with_reducible apply qA)
 (apply wls;exact qAp hp rfl rfl;rintro _ w1 ⟨ab,rfl,hp⟩)
 (apply wls;exact qAp hp rfl rfl;rintro _ w2 ⟨fb,rfl,hp⟩)
 (repeat (first|(with_reducible first|apply qE|apply qB)|(apply wlp;apply qD;exact fI rfl)))
 refine qJw ?_
 (repeat (first|(with_reducible first|apply qA|apply qE|apply qB)|(apply wlp;apply qC;exact fF1 rfl)))
 have h10:fdI st a0 0 = a0:=rfl
 have hp:Hp w [] w2 [blk ab 1 (qV [.int .i64 (fdI st a0 0:Int)]) 3,blk fb 1 (qV [.func (.func kf) #[] #[.pointer (some ⟨nb,0,none⟩)]]) 60]:=by rw [h10];exact hp.picks [1,0] _ rfl rfl
 have hwa:=hp.newer (i:=0) rfl
 have hwf:=hp.newer (i:=1) rfl
 have hnf:=hp.ne (i:=1) (j:=0) rfl rfl (by decide)
 refine qH5 [(4,.pointer (some ⟨ab,0,none⟩)),(5,.pointer (some ⟨fb,0,none⟩)),(9,.func (.func 141) #[] #[.pointer (some ⟨pb,0,none⟩)])] ⟨rfl,rfl,rfl,trivial⟩ ?_
 intro F0
 refine qG2 (gf:=141) (lb:=[.pointer (some ⟨pb,0,none⟩)]) rfl qY7 (fun i:Nat=>Value.int .i64 (i:Int)) (fun i:Nat=>Value.int .i64 (zB S i:Int)) (List.range S.length) [ab] ?_
  (fun pre W=>fdI st a0 pre.length < 2305843009213691579∧Hp w [] W [blk ab 1 (qV [.int .i64 (fdI st a0 pre.length:Int)]) 3,blk fb 1 (qV [.func (.func kf) #[] #[.pointer (some ⟨nb,0,none⟩)]]) 60]) ?_ ⟨ha,hp⟩ ?_
  (fun i=>((((F0.puts [(4,.pointer (some ⟨ab,0,none⟩)),(5,.pointer (some ⟨fb,0,none⟩)),(9,.func (.func 141) #[] #[.pointer (some ⟨pb,0,none⟩)])]).put 10 (.int .i64 (i:Int))).put 11 (.int .i64 (zB S i:Int))).put 7 (.int .i64 (i:Int))).put 8 (.int .i64 (zB S i:Int))) ?_ ?_ ?_
 ·intro k hk
  have e:k = ab:=by simpa using hk
  omega
 ·rintro pre W W' ⟨hb,h⟩ hpr
  refine ⟨hb,h.priv hpr hp.keeps.size ?_⟩
  intro p hpm b hb
  simp only [List.mem_cons,List.mem_nil_iff,or_false] at hpm
  rcases hpm with rfl|rfl
  ·have:(some ab:Option Nat) = some b:=hb
   cases this;omega
  ·have:(some fb:Option Nat) = some b:=hb
   cases this;omega
 ·intro W1 hk hsz
  have hk1:Keeps [] w W1:=hp.keeps.trans hk (by simp)
  refine jCf S s c pb [ab] W1 (hk1.cell h1 (by simp)) (hs.keep0 hk1) hP hl (by simp;omega) ?_ ?_
  ·intro h b o e
   have:=hsw h b o e
   simp
   omega
  ·intro k hk2
   have e:k = ab:=by simpa using hk2
   omega
 ·intro ll i W
  (repeat (first|(with_reducible first|apply qF|apply qA|apply qE|apply qB)|(apply wlp;apply qD;exact fI rfl)))
  exact ⟨rfl,rfl,rfl⟩
 ·rintro ll pre i W ⟨suf,hsuf⟩ ⟨hab,hpI⟩
  obtain ⟨rfl,hil⟩:=qGm hsuf
  rw [List.length_append,List.length_range,List.length_singleton] at *
  have hsc:=qPy st a0 i
  have c5:W.cell? ⟨fb,0,none⟩ = some (.func (.func kf) #[] #[.pointer (some ⟨nb,0,none⟩)]):=hpI.cell 1 rfl rfl
  have hp1:=Hp.adopt1 (hpI.has 0 _ rfl ab rfl)
  have hst:=fun W' (hk:Keeps [] W W')=>hst W' (hpI.keeps.trans hk (by simp)) i (fdI st a0 i) hil hab
  generalize fdI st a0 i = acc at hp1 hab hst hsc
  have hp:Hp W [ab] W [blk ab 1 (qV [.int .i64 (acc:Int)]) 3]:=hp1
  have hnf:fb ∉ [ab]:=by simpa using hnf
  have hs0:=hst W .refl
  (repeat (with_reducible first|apply qK|apply qA))
  (apply wlp;exact qHp Tryz.underlying60 rfl rfl c5;exact fF rfl)
  (apply wlp;exact qJ rfl rfl (hp.cell 0 rfl rfl);exact fI rfl)
  (apply wlp;apply qC;exact fI rfl)
  (apply wlp;apply qC;exact fI rfl)
  (apply wls;exact qH rfl he rfl hs0.2;rintro _ w5 ⟨rfl,hk⟩;have hp:=hp.call hk)
  rw [← hsc]
  (apply zG;exact xZ hp 0 rfl rfl rfl rfl (qQ rfl) rfl;rintro _ w7 ⟨rfl,hp⟩)
  have hp:=hp.norm 0 [.int .i64 (fdI st a0 (i + 1):Int)] rfl rfl
  (repeat (with_reducible first|apply qE|apply qZ))
  refine ⟨rfl,⟨by rw [hsc];exact hs0.1,?_⟩,hp.keeps⟩
  exact hpI.upd (i:=0) (q:=blk ab 1 (qV [.int .i64 (fdI st a0 (i + 1):Int)]) 3) rfl hp.keeps (fun b hb=>by
   cases hb
   exact ⟨.inl rfl,hp.has 0 _ rfl ab rfl⟩)
 ·rintro D W hD ⟨_,hpI⟩ hD2
  rw [List.length_range] at hpI
  have hpp:Keeps [] w (W.putObj D (.deferred none)):=(hpI.keeps).trans (qBp W D _) (fun k hk=>by
   have:k = D:=by simpa using hk
   subst this
   left
   have:=hp.keeps.size
   omega)
  refine qJx rfl rfl (qS4 ?_)
  have hp:=hpI
  (repeat (first|(with_reducible first|apply qF|apply qA|apply qE|apply qB|apply qT)|(apply wlp;((first|apply qD|(apply qJ;exact rfl))<;>(first|exact rfl|exact hp.cell 0 rfl rfl));exact fI rfl)))
  exact qIv rfl rfl rfl hD2 ⟨_,rfl,rfl,hpp⟩
def cmS (S ns:List Nat) (acc i:Nat):Nat:=(acc + ns.getD i 0 * zB S i % gQ) % gQ
def lfS (S ns:List Nat) (acc i:Nat):Nat:=acc * (ns.getD i 0 ^ zB S i % gP) % gP
theorem xV {l:List Nat} {i:Nat} (h:i < l.length):l.getD i 0 = l[i]:=by
 rw [List.getD_eq_getElem?_getD,List.getElem?_eq_getElem h]
 rfl
theorem p99 (S ns:List Nat) (s:Option Addr) (c nb:Nat) (w:World) (h1:w.cell? ⟨nb,0,none⟩ = some (.slice s ns.length c)) (hs:SlAt w 1 eN s ns) (hl:ns.length = S.length) (hb:∀ x ∈ ns,x≤9223372036854775807):qLa 99 nb S (cmS S ns) [] w:=by
 intro W hk i acc hi ha
 refine ⟨Nat.lt_of_lt_of_le (Nat.mod_lt _ (by decide)) (by decide),?_⟩
 have d1:=hk.cell h1 (by simp)
 have dS:=hs.keep0 hk
 have hin:i < ns.length:=by omega
 obtain ⟨b0,o0,hs0,hc0⟩:=dS.base (by omega)
 have hci:=hc0 i _ (List.getElem?_eq_getElem hin) 0 _ rfl
 have hfl:=qAb S i
 have hbi:=hb _ (List.getElem_mem hin)
 have hst:cmS S ns acc i = (acc + ns[i] * zB S i % gQ) % gQ:=by unfold cmS;rw [xV hin]
 generalize ns[i] = x at hci hbi hst
 refine Ret.of_WP Tryz.func99 rfl Tryz.ntmps99 rfl ?_
 have hp:=Hp.start (M:=[]) (w:=W)
 (repeat (first|(with_reducible first|apply qF|apply qA|apply qE|apply qB)|(apply wlp;((first|apply qC|apply qD|(apply qJ;exact rfl)|(apply qR;exact rfl))<;>(first|exact rfl|assumption));(first|exact fI rfl|exact fP rfl|exact fS rfl))))
 (apply wls;exact qH rfl qBf rfl (p52 (x:Int) (zB S i:Int) 1152921504606845789 _ (by omega) (by omega) (by omega) (by omega) (by decide) (by decide));rintro _ w5 ⟨rfl,hk⟩;have hp:=hp.call hk)
 have e1:((x:Nat):Int) * (zB S i:Int) % ((1152921504606845789:Nat):Int) = ((x * zB S i % gQ:Nat):Int):=by rw [Int.natCast_emod,Int.natCast_mul,qBb]
 rw [e1]
 have hxl:x * zB S i % gQ < 1152921504606845789:=Nat.mod_lt _ (by decide)
 (apply wls;exact qH rfl qMd rfl (p49 (acc:Int) ((x * zB S i % gQ:Nat):Int) 1152921504606845789 _ (by omega) (by omega) (by omega) (by omega) (by decide) (by decide));rintro _ w6 ⟨rfl,hk⟩;have hp:=hp.call hk)
 have e2:((acc:Nat):Int) + ((x * zB S i % gQ:Nat):Int) = ((acc + x * zB S i % gQ:Nat):Int):=(Int.natCast_add _ _).symm
 (repeat (first|(with_reducible first|apply qE|apply qB|apply qT)|(apply wlp;apply qD;exact fI rfl)))
 refine qU rfl rfl ⟨_,rfl,?_,hp.keeps⟩
 rw [e2,hst,← Int.natCast_emod]
 rfl
theorem p95 (S ns:List Nat) (s:Option Addr) (c nb:Nat) (w:World) (h1:w.cell? ⟨nb,0,none⟩ = some (.slice s ns.length c)) (hs:SlAt w 1 eN s ns) (hl:ns.length = S.length) (hb:∀ x ∈ ns,x≤9223372036854775807):qLa 95 nb S (lfS S ns) [] w:=by
 intro W hk i acc hi ha
 refine ⟨Nat.mod_lt _ (by decide),?_⟩
 have d1:=hk.cell h1 (by simp)
 have dS:=hs.keep0 hk
 have hin:i < ns.length:=by omega
 obtain ⟨b0,o0,hs0,hc0⟩:=dS.base (by omega)
 have hci:=hc0 i _ (List.getElem?_eq_getElem hin) 0 _ rfl
 have hfl:=qAb S i
 have hbi:=hb _ (List.getElem_mem hin)
 have hst:lfS S ns acc i = acc * (ns[i] ^ zB S i % gP) % gP:=by unfold lfS;rw [xV hin]
 generalize ns[i] = x at hci hbi hst
 refine Ret.of_WP Tryz.func95 rfl Tryz.ntmps95 rfl ?_
 have hp:=Hp.start (M:=[]) (w:=W)
 (repeat (first|(with_reducible first|apply qF|apply qA|apply qE|apply qB)|(apply wlp;((first|apply qC|apply qD|(apply qJ;exact rfl)|(apply qR;exact rfl))<;>(first|exact rfl|assumption));(first|exact fI rfl|exact fP rfl|exact fS rfl))))
 (apply wls;exact qH rfl qAd rfl (qDj x (zB S i) 2305843009213691579 _ (by omega) (by omega) (by decide) (by decide));rintro _ w5 ⟨rfl,hk⟩;have hp:=hp.call hk)
 have hxl:x ^ zB S i % 2305843009213691579 < 2305843009213691579:=Nat.mod_lt _ (by decide)
 (apply wls;exact qH rfl qBf rfl (p52 (acc:Int) ((x ^ zB S i % 2305843009213691579:Nat):Int) 2305843009213691579 _ (by omega) (by omega) (by omega) (by omega) (by decide) (by decide));rintro _ w6 ⟨rfl,hk⟩;have hp:=hp.call hk)
 (repeat (first|(with_reducible first|apply qE|apply qB|apply qT)|(apply wlp;apply qD;exact fI rfl)))
 refine qU rfl rfl ⟨_,rfl,?_,hp.keeps⟩
 rw [hst,← Int.natCast_mul,← Int.natCast_emod]
 rfl
theorem qAr (st:Nat→Nat × Nat→Nat):∀ (l:List (Nat × Nat)) (a:Nat),l.foldl st a = (List.range l.length).foldl (fun acc i=>st acc (l.getD i (0,0))) a:=by
 intro l
 induction l with
 | nil=>intro a;rfl
 | cons p l ih=>
  intro a
  rw [List.foldl_cons,ih,List.length_cons,List.range_succ_eq_map,List.foldl_cons,List.foldl_map]
  rfl
theorem qIo {S ns:List Nat} (hl:ns.length = S.length) {i:Nat} (h:i < S.length):(ns.zip (S.map (fac S))).getD i (0,0) = (ns.getD i 0,zB S i):=by
 rw [List.getD_eq_getElem?_getD,List.getElem?_eq_getElem (by rw [List.length_zip,List.length_map];omega),qBc h,xV (by omega)]
 simp
theorem qCe {f g:Nat→Nat→Nat}:∀ (l:List Nat) (a:Nat),(∀ acc i,i ∈ l→f acc i = g acc i)→l.foldl f a = l.foldl g a
 | [],_,_=>rfl
 | x :: l,a,h=>by
  rw [List.foldl_cons,List.foldl_cons,h a x List.mem_cons_self]
  exact qCe l _ fun acc i hi=>h acc i (List.mem_cons_of_mem _ hi)
theorem qU7 {S ns:List Nat} (hl:ns.length = S.length):fdI (cmS S ns) 0 S.length = cmb S ns:=by
 unfold cmb qGe fdI
 have e:(ns.zip (S.map (fac S))).length = S.length:=by rw [List.length_zip,List.length_map];omega
 rw [qAr,e]
 refine qCe _ _ fun acc i hi=>?_
 rw [qIo hl (by simpa using hi)]
 rfl
theorem qTr {S ns:List Nat} (hl:ns.length = S.length):fdI (lfS S ns) 1 S.length = lft S ns:=by
 unfold lft ltF fdI
 have e:(ns.zip (S.map (fac S))).length = S.length:=by rw [List.length_zip,List.length_map];omega
 rw [qAr,e]
 refine qCe _ _ fun acc i hi=>?_
 rw [qIo hl (by simpa using hi)]
 rfl
theorem p50 (S ns:List Nat) (s s2:Option Addr) (c c2:Nat) (w:World) (hs:SlAt w 1 eN s S) (hs2:SlAt w 1 eN s2 ns) (hP:Pts S) (hl:S.length≤1000000) (hn:ns.length = S.length) (hb:∀ x ∈ ns,x≤9223372036854775807) :
  Ret Tryz.prog 50 [.slice s S.length c,.slice s2 ns.length c2] w (fun v w'=>v = .int .i64 (cmb S ns:Int)∧Keeps [] w w'):=by
 rw [← qU7 hn]
 refine Ret.of_WP Tryz.func50 rfl Tryz.ntmps50 rfl ?_
 have hp:=Hp.start (M:=[]) (w:=w)
 (repeat (with_reducible first|apply qF|apply qA))
 (apply wls;exact qAp hp rfl rfl;rintro _ w1 ⟨nb,rfl,hp⟩)
 (repeat (first|(with_reducible first|apply qF|apply qA|apply qE|apply qB)|(apply wlp;(first|apply qC|apply qD);(first|exact fI rfl|exact fS rfl))))
 (apply wls;exact qH rfl qV0 rfl (p94 s S.length c _);rintro _ w2 ⟨pb,rfl,hpo⟩;have hp:=hp.join hpo;clear hpo)
 (repeat (apply wlp;apply vW;exact fF1 rfl))
 (apply wls;exact qH rfl qV1 rfl (p93 99 nb pb c 0 S s (cmS S ns) _ jA2 (hp.cell 0 rfl rfl) (hs.keep0 hp.keeps) hP hl (by decide) (p99 S ns s2 c2 nb _ (hp.cell 1 rfl rfl) (hs2.keep0 hp.keeps) hn hb));rintro _ w3 ⟨rfl,hk⟩;have hp:=hp.call hk)
 (repeat (first|(with_reducible first|apply qE|apply qB|apply qT)|(apply wlp;apply qD;exact fI rfl)))
 exact qU rfl rfl ⟨_,rfl,rfl,hp.keeps⟩
theorem p47 (S ns:List Nat) (s s2:Option Addr) (c c2:Nat) (w:World) (hs:SlAt w 1 eN s S) (hs2:SlAt w 1 eN s2 ns) (hP:Pts S) (hl:S.length≤1000000) (hn:ns.length = S.length) (hb:∀ x ∈ ns,x≤9223372036854775807) :
  Ret Tryz.prog 47 [.slice s S.length c,.slice s2 ns.length c2] w (fun v w'=>v = .int .i64 (lft S ns:Int)∧Keeps [] w w'):=by
 rw [← qTr hn]
 refine Ret.of_WP Tryz.func47 rfl Tryz.ntmps47 rfl ?_
 have hp:=Hp.start (M:=[]) (w:=w)
 (repeat (with_reducible first|apply qF|apply qA))
 (apply wls;exact qAp hp rfl rfl;rintro _ w1 ⟨nb,rfl,hp⟩)
 (repeat (first|(with_reducible first|apply qF|apply qA|apply qE|apply qB)|(apply wlp;(first|apply qC|apply qD);(first|exact fI rfl|exact fS rfl))))
 (apply wls;exact qH rfl qV0 rfl (p94 s S.length c _);rintro _ w2 ⟨pb,rfl,hpo⟩;have hp:=hp.join hpo;clear hpo)
 (repeat (apply wlp;apply vW;exact fF1 rfl))
 (apply wls;exact qH rfl qV1 rfl (p93 95 nb pb c 1 S s (lfS S ns) _ jA5 (hp.cell 0 rfl rfl) (hs.keep0 hp.keeps) hP hl (by decide) (p95 S ns s2 c2 nb _ (hp.cell 1 rfl rfl) (hs2.keep0 hp.keeps) hn hb));rintro _ w3 ⟨rfl,hk⟩;have hp:=hp.call hk)
 (repeat (first|(with_reducible first|apply qE|apply qB|apply qT)|(apply wlp;apply qD;exact fI rfl)))
 exact qU rfl rfl ⟨_,rfl,rfl,hp.keeps⟩
theorem p15 (S ns:List Nat) (s s2:Option Addr) (c c2:Nat) (w:World) (hs:SlAt w 1 eN s S) (hs2:SlAt w 1 eN s2 ns) (hP:Pts S) (h0:S ≠ []) (hl:S.length≤1000000) (hn:ns.length = S.length) (hb:∀ x ∈ ns,x≤9223372036854775807) :
  Ret Tryz.prog 15 [.slice s S.length c,.slice s2 ns.length c2] w (fun v w'=>v = .tuple #[.int .i64 (cmb S ns:Int),.bool true]∧Keeps [] w w'):=by
 have hpos:0 < S.length:=List.length_pos_iff.2 h0
 refine Ret.of_WP Tryz.func15 rfl Tryz.ntmps15 rfl ?_
 have hp:=Hp.start (M:=[]) (w:=w)
 (repeat (with_reducible first|apply qF|apply qA))
 (apply wlp;apply qD;exact fI rfl)
 (apply wlp;apply qD;exact fB rfl)
 (repeat (with_reducible first|apply qF|apply qA|apply qE|apply qB))
 (apply wlp;apply qC;exact fS rfl)
 (apply wlp;((apply jC;exact rfl)<;>exact rfl);exact fI rfl)
 (apply wlp;(exact zF rfl rfl);exact jF (b:=false) (decide_eq_false (by omega)))
 (apply wlp;apply qC;exact fB rfl)
 ((apply jO;exact rfl;exact rfl);(apply qC);(intros;exact fS rfl))
 ((apply jO;exact rfl;exact rfl);(((apply jC;exact rfl)<;>exact rfl));(intros;exact fI rfl))
 ((apply jO;exact rfl;exact rfl);(apply qC);(intros;exact fS rfl))
 ((apply jO;exact rfl;exact rfl);(((apply jC;exact rfl)<;>exact rfl));(intros;exact fI rfl))
 (apply jO;exact rfl;exact rfl;(exact zJ rfl rfl);exact jF (b:=false) (ndf (by omega)))
 (apply wlp;exact jU rfl rfl;exact fB rfl)
 (apply wlp;apply qC;exact fB rfl)
 ((apply jO;exact rfl;exact rfl);(apply qC);(intros;exact fS rfl))
 (apply qAu;exact rfl;exact rfl;exact qH rfl qVb rfl (p41 S s c _ hs hP hl);rintro _ w1 ⟨rfl,hk⟩;have hp:=hp.call hk)
 ((apply jO;exact rfl;exact rfl);((apply zI<;>exact rfl));(intros;exact fB rfl))
 (apply wlp;exact jU rfl rfl;exact fB rfl)
 (repeat (with_reducible first|apply qE|apply qB))
 refine jI rfl ?_
 (repeat (first|(with_reducible first|apply qF|apply qA|apply qB|apply qL)|(apply wlp;apply qC;exact fS rfl)))
 (apply wls;exact qH rfl jAq rfl (p50 S ns s s2 c c2 _ (hs.keep0 hp.keeps) (hs2.keep0 hp.keeps) hP hl hn hb);rintro _ w2 ⟨rfl,hk⟩;have hp:=hp.call hk)
 (repeat (first|(with_reducible first|apply qE|apply qB|apply qT)|(apply wlp;apply qD;(first|exact fI rfl|exact fB rfl))))
 exact zX rfl rfl rfl ⟨_,rfl,rfl,hp.keeps⟩
end Go.Proofs.YtbgldmoikimmpaaGreatDoor
namespace Go.Proofs.YtbgldmoikimmpaaGreatDoor
open Go.Eng Go.Dig Go.Sha Go.Lag Go.Grp Go.Sp
theorem qUk {P:Program} {n:FrK} {c:Code} {Q:Exit→Fr→World→Prop} {F:Fr} {w:World} (h:∀ F0,F0 = F→WP P n c Q F0 w):WP P n c Q F w:=h F rfl
theorem Dn.putV {b m i:Nat} {V V':Nat→Value} {F0 F:Fr} {D:Nat→Bool} (h:Dn b m V F0 D F) (hi:i < m) (hV:∀ j,j < m→j ≠ i→V' j = V j):Dn b m V' F0 (fun j=>D j || Nat.beq j i) (F.put (b + i) (V' i)):=by
 refine ⟨fun j hj hD=>?_,fun s hs=>?_⟩
 ·by_cases hji:j = i
  ·subst hji
   have:Nat.beq (b + j) (b + j) = true:=Nat.beq_refl _
   simp [Fr.put]
  ·have h1:Nat.beq j i = false:=zS hji
   rw [h1,Bool.or_false] at hD
   have h2:Nat.beq (b + j) (b + i) = false:=zS (by omega)
   simp only [Fr.put,h2,cond_false]
   rw [h.at_ j hj hD,hV j hj hji]
 ·have h2:Nat.beq s (b + i) = false:=zS (by omega)
  simp only [Fr.put,h2,cond_false]
  exact h.out s hs
theorem vQ {ops:Array Oper} {i:Nat} {D:Nat→Bool} (h:qJv ops i D = true) (k:Nat) (hk:((jJ ops i).after.toList.any fun e=>Region.binds .any e && Nat.beq e.on k) = true):D k = true:=by
 obtain ⟨e,he,h1⟩:=List.any_eq_true.1 hk
 have h2:=List.all_eq_true.1 h e he
 rw [Bool.and_eq_true] at h1
 rw [h1.1] at h2
 have h3:e.on = k:=Nat.eq_of_beq_eq_true h1.2
 rw [h3] at h2
 simpa using h2
theorem al0 {D:Nat→Bool}:∀ p ∈ ([]:List Nat),D p = true:=fun p h=>by cases h
theorem al1 {D:Nat→Bool} {a:Nat} (ha:D a = true):∀ p ∈ [a],D p = true:=fun p h=>by
 rcases List.mem_cons.1 h with rfl|h
 ·exact ha
 ·cases h
theorem al2 {D:Nat→Bool} {a b:Nat} (ha:D a = true) (hb:D b = true):∀ p ∈ [a,b],D p = true:=fun p h=>by
 rcases List.mem_cons.1 h with rfl|h
 ·exact ha
 ·exact al1 hb p h
theorem al3 {D:Nat→Bool} {a b c:Nat} (ha:D a = true) (hb:D b = true) (hc:D c = true):∀ p ∈ [a,b,c],D p = true:=fun p h=>by
 rcases List.mem_cons.1 h with rfl|h
 ·exact ha
 ·exact al2 hb hc p h
theorem Hp.in2 {w0 w:World} {M:List Nat} {x a b c:Ent} {B:List Ent} (h:Hp w0 M w (x :: a :: b :: c :: B)):Hp w0 M w (a :: b :: x :: B):=
 (h.perm (((List.Perm.swap a x (b :: c :: B)).trans ((List.Perm.swap b x (c :: B)).cons a)).trans (((List.Perm.swap c x B).cons b).cons a))).sub (((List.Sublist.cons c (List.Sublist.refl _)).cons_cons b).cons_cons a)
theorem Hp.in3 {w0 w:World} {M:List Nat} {x a b c d:Ent} {B:List Ent} (h:Hp w0 M w (x :: a :: b :: c :: d :: B)):Hp w0 M w (a :: b :: c :: x :: B):=
 (h.perm (((List.Perm.swap a x (b :: c :: d :: B)).trans ((List.Perm.swap b x (c :: d :: B)).cons a)).trans ((((List.Perm.swap c x (d :: B)).cons b).cons a).trans ((((List.Perm.swap d x B).cons c).cons b).cons a)))).sub ((((List.Sublist.cons d (List.Sublist.refl _)).cons_cons c).cons_cons b).cons_cons a)
def tvP:Nat→List Nat
 | 2=>[1]
 | 3=>[2]
 | 4=>[0,3]
 | 7=>[6]
 | 8=>[7]
 | 9=>[5,8,4]
 | 10=>List.range 10
 | 11=>List.range 11
 | _=>[]
def tvC (D:Nat→Bool):Prop:=∀ a b,D a = true→b ∈ tvP a→D b = true
theorem tvC.add {D:Nat→Bool} {q:Nat} (h:tvC D) (hq:∀ p ∈ tvP q,D p = true):tvC (fun j=>D j || Nat.beq j q):=by
 intro a b ha hb
 rcases Bool.or_eq_true _ _ ▸ ha with h1|h1
 ·show (D b || _) = true
  rw [h a b h1 hb]
  rfl
 ·have:a = q:=Nat.eq_of_beq_eq_true h1
  subst this
  show (D b || _) = true
  rw [hq b hb]
  rfl
def tvV (s1:Option Addr) (n1 c1:Nat) (s2:Option Addr) (n2 c2:Nat) (pb x y nb:Nat) (t1:Option Addr) (d1 nb2:Nat) (t2:Option Addr) (d2:Nat):Nat→Value:=
 qV [.slice s1 n1 c1,.pointer (some ⟨pb,0,none⟩),.int .i64 (x:Int),.slice (some ⟨nb,0,none⟩) 1 1,.slice t1 (n1 + 1) d1,.slice s2 n2 c2,.pointer (some ⟨pb,1,none⟩),.int .i64 (y:Int),.slice (some ⟨nb2,0,none⟩) 1 1,.slice t2 (n2 + 1) d2]
def tvL (B:List Ent) (X Y:List Nat) (x y:Nat) (s1:Option Addr) (c1:Nat) (s2:Option Addr) (c2 nb:Nat) (t1:Option Addr) (d1 nb2:Nat) (t2:Option Addr) (d2:Nat) (b3 b4 b8 b9:Bool):List Ent:=
 (bif b4 then qW eN 3 1 t1 d1 (X ++ [x]) else qW eN 3 1 s1 c1 X) :: (bif b9 then qW eN 3 1 t2 d2 (Y ++ [y]) else qW eN 3 1 s2 c2 Y) :: (bif b3 then blk nb 1 (qV [.int .i64 (x:Int)]) 3 else qW eN 3 1 none 0 []) :: (bif b8 then blk nb2 1 (qV [.int .i64 (y:Int)]) 3 else qW eN 3 1 none 0 []) :: B
def tvI (w3:World) (F0:Fr) (B:List Ent) (X Y:List Nat) (pb x y:Nat) (s1:Option Addr) (c1:Nat) (s2:Option Addr) (c2:Nat) (D:Nat→Bool) (F:Fr) (w':World):Prop:=
 ∃ (nb:Nat) (t1:Option Addr) (d1:Nat) (nb2:Nat) (t2:Option Addr) (d2:Nat) (G:Fr),Dn 41 10 (tvV s1 X.length c1 s2 Y.length c2 pb x y nb t1 d1 nb2 t2 d2) F0 D G ∧
  F = (bif D 11 then (G.put 6 (.slice t1 (X.length + 1) d1)).put 7 (.slice t2 (Y.length + 1) d2) else bif D 10 then G.put 6 (.slice t1 (X.length + 1) d1) else G)∧tvC D∧(D 4 = true→SVL t1 d1 (X ++ [x]))∧(D 9 = true→SVL t2 d2 (Y ++ [y])) ∧
  Hp w3 [] w' (tvL B X Y x y s1 c1 s2 c2 nb t1 d1 nb2 t2 d2 (D 3) (D 4) (D 8) (D 9))
section
variable {w3:World} {F0:Fr} {B:List Ent} {X Y:List Nat} {pb x y:Nat} {s1:Option Addr} {c1:Nat} {s2:Option Addr} {c2:Nat} {D:Nat→Bool} {F:Fr} {w':World} {q nb:Nat} {t1:Option Addr} {d1 nb2:Nat} {t2:Option Addr} {d2:Nat}
theorem tvI.mk (nb':Nat) (t1':Option Addr) (d1':Nat) (nb2':Nat) (t2':Option Addr) (d2':Nat) (hq:q < 10) (hDn:Dn 41 10 (tvV s1 X.length c1 s2 Y.length c2 pb x y nb t1 d1 nb2 t2 d2) F0 D F)
  (hV:∀ j,j < 10→j ≠ q→tvV s1 X.length c1 s2 Y.length c2 pb x y nb' t1' d1' nb2' t2' d2' j = tvV s1 X.length c1 s2 Y.length c2 pb x y nb t1 d1 nb2 t2 d2 j) (hcl:tvC D) (hpr:∀ p ∈ tvP q,D p = true) (h10:D 10 = false) (h11:D 11 = false) (b3 b4 b8 b9:Bool)
  (e3:(D 3 || Nat.beq 3 q) = b3) (e4:(D 4 || Nat.beq 4 q) = b4) (e8:(D 8 || Nat.beq 8 q) = b8) (e9:(D 9 || Nat.beq 9 q) = b9) (h4:b4 = true→SVL t1' d1' (X ++ [x])) (h9:b9 = true→SVL t2' d2' (Y ++ [y]))
  (hp:Hp w3 [] w' (tvL B X Y x y s1 c1 s2 c2 nb' t1' d1' nb2' t2' d2' b3 b4 b8 b9)) :
  tvI w3 F0 B X Y pb x y s1 c1 s2 c2 (fun j=>D j || Nat.beq j q) (F.put (41 + q) (tvV s1 X.length c1 s2 Y.length c2 pb x y nb' t1' d1' nb2' t2' d2' q)) w':=by
 have f1:Nat.beq 10 q = false:=zS (by omega)
 have f2:Nat.beq 11 q = false:=zS (by omega)
 subst e3 e4 e8 e9
 refine ⟨nb',t1',d1',nb2',t2',d2',_,Dn.putV hDn hq hV,?_,hcl.add hpr,h4,h9,hp⟩
 simp only [h10,h11,f1,f2,Bool.or_false,cond_false]
theorem tvI.pure (hq:q < 10) (n3:q ≠ 3) (n4:q ≠ 4) (n8:q ≠ 8) (n9:q ≠ 9) (hDn:Dn 41 10 (tvV s1 X.length c1 s2 Y.length c2 pb x y nb t1 d1 nb2 t2 d2) F0 D F) (hcl:tvC D) (h10:D 10 = false) (h11:D 11 = false)
  (h4:D 4 = true→SVL t1 d1 (X ++ [x])) (h9:D 9 = true→SVL t2 d2 (Y ++ [y])) (hp:Hp w3 [] w' (tvL B X Y x y s1 c1 s2 c2 nb t1 d1 nb2 t2 d2 (D 3) (D 4) (D 8) (D 9))) (hpr:∀ p ∈ tvP q,D p = true) :
  tvI w3 F0 B X Y pb x y s1 c1 s2 c2 (fun j=>D j || Nat.beq j q) (F.put (41 + q) (tvV s1 X.length c1 s2 Y.length c2 pb x y nb t1 d1 nb2 t2 d2 q)) w':=by
 have g:∀ a,q ≠ a→(D a || Nat.beq a q) = D a:=fun a h=>by rw [zS (fun e=>h e.symm),Bool.or_false]
 exact tvI.mk nb t1 d1 nb2 t2 d2 hq hDn (fun _ _ _=>rfl) hcl hpr h10 h11 _ _ _ _ (g 3 n3) (g 4 n4) (g 8 n8) (g 9 n9) h4 h9 hp
theorem tvI.fin {G:Fr} (hq:10≤q) (hDn:Dn 41 10 (tvV s1 X.length c1 s2 Y.length c2 pb x y nb t1 d1 nb2 t2 d2) F0 D G) (hcl:tvC D) (hpr:∀ p ∈ tvP q,D p = true)
  (h4:D 4 = true→SVL t1 d1 (X ++ [x])) (h9:D 9 = true→SVL t2 d2 (Y ++ [y])) (hp:Hp w3 [] w' (tvL B X Y x y s1 c1 s2 c2 nb t1 d1 nb2 t2 d2 (D 3) (D 4) (D 8) (D 9)))
  (hF:F = bif (D 11 || Nat.beq 11 q) then (G.put 6 (.slice t1 (X.length + 1) d1)).put 7 (.slice t2 (Y.length + 1) d2) else bif (D 10 || Nat.beq 10 q) then G.put 6 (.slice t1 (X.length + 1) d1) else G) :
  tvI w3 F0 B X Y pb x y s1 c1 s2 c2 (fun j=>D j || Nat.beq j q) F w':=by
 have g:∀ a,a < 10→(D a || Nat.beq a q) = D a:=fun a h=>by rw [zS (show a ≠ q by omega),Bool.or_false]
 refine ⟨nb,t1,d1,nb2,t2,d2,G,hDn.congr (fun j hj=>g j hj),hF,hcl.add hpr,fun h=>h4 (by rw [← g 4 (by decide)];exact h),fun h=>h9 (by rw [← g 9 (by decide)];exact h),?_⟩
 show Hp w3 [] w' (tvL B X Y x y s1 c1 s2 c2 nb t1 d1 nb2 t2 d2 (D 3 || Nat.beq 3 q) (D 4 || Nat.beq 4 q) (D 8 || Nat.beq 8 q) (D 9 || Nat.beq 9 q))
 rw [g 3 (by decide),g 4 (by decide),g 8 (by decide),g 9 (by decide)]
 exact hp
theorem qHd {k:Nat} {nb':Nat} {t1':Option Addr} {d1' nb2':Nat} {t2':Option Addr} {d2':Nat} (h3:k ≠ 3→nb' = nb) (h4:k ≠ 4→t1' = t1∧d1' = d1) (h8:k ≠ 8→nb2' = nb2) (h9:k ≠ 9→t2' = t2∧d2' = d2) :
  ∀ j,j < 10→j ≠ k→tvV s1 X.length c1 s2 Y.length c2 pb x y nb' t1' d1' nb2' t2' d2' j = tvV s1 X.length c1 s2 Y.length c2 pb x y nb t1 d1 nb2 t2 d2 j:=by
 intro j hj hne
 match j,hj,hne with
 | 0,_,_=>rfl
 | 1,_,_=>rfl
 | 2,_,_=>rfl
 | 3,_,h=>rw [h3 (fun e=>h e.symm)];rfl
 | 4,_,h=>obtain ⟨e1,e2⟩:=h4 (fun e=>h e.symm);rw [e1,e2];rfl
 | 5,_,_=>rfl
 | 6,_,_=>rfl
 | 7,_,_=>rfl
 | 8,_,h=>rw [h8 (fun e=>h e.symm)];rfl
 | 9,_,h=>obtain ⟨e1,e2⟩:=h9 (fun e=>h e.symm);rw [e1,e2];rfl
 | j + 10,h,_=>exact absurd h (by omega)
end
def eP2 (p:Nat × Nat):List Value:=[.int .i64 (p.1:Int),.int .i64 (p.2:Int)]
def xsI (l:List (Nat × Nat)) (i:Nat):List Nat:=(l.take i).map (·.1)
def ysI (l:List (Nat × Nat)) (i:Nat):List Nat:=(l.take i).map (·.2)
theorem qNv {l:List (Nat × Nat)} {i:Nat} (h:i < l.length):xsI l (i + 1) = xsI l i ++ [(l[i]).1]:=by
 unfold xsI
 rw [List.take_succ_eq_append_getElem h,List.map_append]
 rfl
theorem qNu {l:List (Nat × Nat)} {i:Nat} (h:i < l.length):ysI l (i + 1) = ysI l i ++ [(l[i]).2]:=by
 unfold ysI
 rw [List.take_succ_eq_append_getElem h,List.map_append]
 rfl
theorem qH7 {l:List (Nat × Nat)} {i:Nat} (h:i≤l.length):(xsI l i).length = i:=by
 unfold xsI
 rw [List.length_map,List.length_take]
 omega
theorem qH6 {l:List (Nat × Nat)} {i:Nat} (h:i≤l.length):(ysI l i).length = i:=by
 unfold ysI
 rw [List.length_map,List.length_take]
 omega
def inP (l:List (Nat × Nat)) (i:Nat):Int→Bool:=inL (l.map (·.1)) i
attribute [local irreducible] PV StepF wpl wpd WP Ret
attribute [local irreducible] Fit ofN xD hv scP xN yC yY atP Mb inL fac zB inP
set_option maxHeartbeats 4000000 in
theorem p73 (nd:Nat) (l:List (Nat × Nat)) (s:Option Addr) (c:Nat) (w:World) (hs:SlAt w 2 eP2 s l) (hP:Pts (l.map (·.1))) (hm:∀ p ∈ l,Mb p.2) (h1:1≤nd) (h2:nd≤l.length) (hl:l.length≤1000000) :
  Ret Tryz.prog 73 [.int .i64 (nd:Int),.slice s l.length c,.func (.func 69) #[] #[]] w (fun v w'=>(∃ t1 d1 t2 d2,v = .tuple #[.slice t1 nd d1,.slice t2 nd d2,.bool true]∧SlAt w' 1 eN t1 (xsI l nd)∧SlAt w' 1 eN t2 (ysI l nd))∧Keeps [] w w'):=by
 have hlm:(l.map (·.1)).length = l.length:=List.length_map _
 have hz:wH (inP l 0) = fun _=>none:=by unfold inP;exact qD1 _
 refine Ret.of_WP Tryz.func73 rfl Tryz.ntmps73 rfl ?_
 have hp:=Hp.start (M:=[]) (w:=w)
 (repeat (first|(with_reducible first|apply qF|apply qA|apply qE|apply qB)|(apply wlp;((first|apply qC|apply qD|apply jA)<;>exact rfl);(first|exact fI rfl|exact fB rfl|exact fS rfl))))
 refine qM rfl (fun h=>absurd h (by omega)) (fun _=>?_)
 (repeat (with_reducible first|apply qF|apply qA|apply qB|apply qL))
 (apply wls;exact kA kInt hp;rintro _ w1 ⟨mb,rfl,hp⟩)
 rw [← hz] at hp
 have hp:=(hp.nilL eN 3 1).nilL eN 3 1
 have hp:Hp w [] w1 [qW eN 3 1 none 0 (xsI l 0),qW eN 3 1 none 0 (ysI l 0),qAv kInt mb (wH (inP l 0))]:=hp
 (repeat (first|(with_reducible first|apply qF|apply qK|apply qA|apply qE|apply qB)|(apply wlp;((first|apply qC|apply qD|(apply jC;exact rfl))<;>exact rfl);(first|exact fI rfl|exact fS rfl|exact fM rfl))))
 refine jE ([6,7,8,11] ++ List.range' 17 41) (fun (X:Nat × (Option Addr × Nat) × (Option Addr × Nat)) F=>((F.put 17 (.int .i64 (X.1:Int))).put 6 (.slice X.2.1.1 (xsI l X.1).length X.2.1.2)).put 7 (.slice X.2.2.1 (ysI l X.1).length X.2.2.2))
  (fun X w'=>X.1 < nd∧SVL X.2.1.1 X.2.1.2 (xsI l X.1)∧SVL X.2.2.1 X.2.2.2 (ysI l X.1)∧Hp w [] w' [qW eN 3 1 X.2.1.1 X.2.1.2 (xsI l X.1),qW eN 3 1 X.2.2.1 X.2.2.2 (ysI l X.1),qAv kInt mb (wH (inP l X.1))]) (fun X=>nd - X.1) (0,(none,0),(none,0))
  (qG (qG (qG (Same.eq .refl) rfl) rfl) rfl) ⟨by dsimp only;omega,SVL.nil,SVL.nil,hp⟩ ?_
 clear hp
 rintro u0 ⟨i,⟨s1,c1⟩,⟨s2,c2⟩⟩ w2 ⟨hi,hv1,hv2,hp⟩
 dsimp only at hi hv1 hv2 hp ⊢
 (repeat (first|(with_reducible first|apply qF|apply qA|apply qE|apply qB)|(apply wlp;(apply jA<;>exact rfl);exact fB rfl)))
 refine qM rfl (fun h=>?_) (fun h=>absurd (show (i:Int) < (l.length:Int) by omega) h)
 have hlt:i < l.length:=by omega
 have hltm:i < (l.map (·.1)).length:=by omega
 obtain ⟨b0,o0,hs0,hc0⟩:=hs.base (by omega)
 have hci:=hc0 i _ (List.getElem?_eq_getElem hlt)
 have hbd:=qF6 hP hltm
 have hnew:=qEi hP.nd hltm
 have hsucc:=qD2 hltm
 have hmb:=hm _ (List.getElem_mem hlt)
 have hxs:=qNv hlt
 have hys:=qNu hlt
 have hxl:=qH7 (l:=l) (i:=i) (by omega)
 have hyl:=qH6 (l:=l) (i:=i) (by omega)
 rw [List.getElem_map] at hbd hnew hsucc
 have hnew:inP l i ((l[i].1:Nat):Int) = false:=by unfold inP;exact hnew
 have hsucc:(fun a=>decide (a = ((l[i].1:Nat):Int)) || inP l i a) = inP l (i + 1):=by unfold inP;exact hsucc
 generalize l[i] = p at hci hbd hmb hxs hys hnew hsucc
 obtain ⟨x,y⟩:=p
 dsimp only at hbd hmb hxs hys hnew hsucc
 (repeat (first|(with_reducible first|apply qF|apply qK|apply qA|apply qB|apply qL)|(apply wlp;((first|(apply jQ;exact rfl)|(apply qR;exact rfl))<;>(first|exact rfl|assumption));exact fP rfl)))
 (apply wlp;exact zP (vs:=eP2 (x,y)) rfl rfl rfl rfl (fun j v hv=>hp.old0 (hci j v hv));exact fA2 rfl)
 (apply wls;exact vA hp (jD rfl);rintro _ w3 ⟨pb,rfl,hp⟩)
 (apply zG;exact yN hp 0 rfl rfl rfl rfl (qQ rfl) rfl;rintro _ w4 ⟨rfl,hp⟩)
 have hp:=hp.norm 0 [.int .i64 (x:Int),.int .i64 (y:Int)] rfl rfl
 (repeat (with_reducible first|apply qF|apply qA|apply qE|apply qB))
 (apply wlp;apply qC;exact fM rfl)
 (apply wlp;(apply qS<;>exact rfl);exact fP rfl)
 (apply wlp;((apply qJ;exact rfl)<;>(first|exact rfl|exact hp.cell 0 rfl rfl));exact fI rfl)
 (apply wlp;exact qA4 (a:=(x:Int)) hp 3 rfl rfl rfl (zK (t:=92) rfl).1 (zK (t:=92) rfl).2.1 (zK (t:=92) rfl).2.2;exact (qAz _ _).trans (congrArg Value.bool hnew))
 (apply wlp;apply qC;exact fB rfl)
 ((apply jO;exact rfl;exact rfl);((apply qS<;>exact rfl));(intros;exact fP rfl))
 ((apply jO;exact rfl;exact rfl);(((apply qJ;exact rfl)<;>(first|exact rfl|exact hp.cell 0 rfl rfl)));(intros;exact fI rfl))
 (apply qAu;exact rfl;exact rfl;exact qH rfl qV2 rfl (p89 x _ hbd.1 hbd.2);rintro _ w5 ⟨rfl,hk⟩;have hp:=hp.call hk)
 ((apply jO;exact rfl;exact rfl);((apply zI<;>exact rfl));(intros;exact fB rfl))
 (apply wlp;exact jU rfl rfl;exact fB rfl)
 (apply wlp;apply qC;exact fB rfl)
 ((apply jO;exact rfl;exact rfl);(apply qC);(intros;exact fF0 rfl))
 ((apply jO;exact rfl;exact rfl);((apply qS<;>exact rfl));(intros;exact fP rfl))
 ((apply jO;exact rfl;exact rfl);(((apply qJ;exact rfl)<;>(first|exact rfl|exact hp.cell 0 rfl rfl)));(intros;exact fI rfl))
 (apply qAu;exact rfl;exact rfl;exact qH rfl qC4 rfl (p69 y _ hmb);rintro _ w6 ⟨rfl,hk⟩;have hp:=hp.call hk)
 ((apply jO;exact rfl;exact rfl);((apply zI<;>exact rfl));(intros;exact fB rfl))
 (apply wlp;exact jU rfl rfl;exact fB rfl)
 (repeat (with_reducible first|apply qE|apply qB))
 refine jI rfl ?_
 (repeat (first|(with_reducible first|apply qF|apply qA|apply qB|apply qL)|(apply wlp;((first|apply qC|apply qS|(apply qJ;exact rfl))<;>(first|exact rfl|exact hp.cell 0 rfl rfl));(first|exact fI rfl|exact fP rfl|exact fM rfl))))
 (apply zG;exact qA3 (a:=(x:Int)) hp 3 rfl rfl rfl rfl (zK (t:=92) rfl).1 (zK (t:=92) rfl).2.1;rintro _ w7 ⟨rfl,hp⟩)
 rw [hsucc] at hp
 (repeat (with_reducible first|apply qF|apply qE|apply qB))
 refine qUk ?_
 intro F0 hF0
 have f6:F0 6 = .slice s1 (xsI l i).length c1:=by rw [hF0];rfl
 have f7:F0 7 = .slice s2 (ysI l i).length c2:=by rw [hF0];rfl
 have f11:F0 11 = .pointer (some ⟨pb,0,none⟩):=by rw [hF0];rfl
 generalize xsI l i = X at *
 generalize ysI l i = Y at *
 obtain ⟨B,hB⟩:∃ B:List Ent,B = [blk pb 2 (qV [.int .i64 (x:Int),.int .i64 (y:Int)]) 39,qAv kInt mb (wH (inP l (i + 1)))]:=⟨_,rfl⟩
 have hp:Hp w [] w7 (tvL B X Y x y s1 c1 s2 c2 0 none 0 0 none 0 false false false false):=by
  rw [hB]
  exact ((hp.nilL eN 3 1).nilL eN 3 1).picks [3,4,0,1,2,5] _ rfl rfl
 have hgB:∀ a b c d:Ent,(a :: b :: c :: d :: B)[4]? = some (blk pb 2 (qV [.int .i64 (x:Int),.int .i64 (y:Int)]) 39):=by intro a b c d;rw [hB];rfl
 refine qS3 jW (by kernel_rfl) (tvI w F0 B X Y pb x y s1 c1 s2 c2) ⟨0,none,0,0,none,0,F0,Dn.start,rfl,by intro a b h;simp at h,by simp,by simp,hp.drew⟩ ?_ ?_
 ·rintro q D F w17 hq hDq hA ⟨nb,t1,d1,nb2,t2,d2,G,hDn,hFe,hcl,h4,h9,hp⟩
  have hq:q < 12:=hq
  have hup:∀ a,D q = false→q ∈ tvP a→D a = false:=fun a hb hm=>by
   cases ha:D a
   ·rfl
   ·rw [hcl a q ha hm] at hb
    cases hb
  by_cases hq10:q < 10
  ·have h10:D 10 = false:=hup 10 hDq (List.mem_range.2 hq10)
   have h11:D 11 = false:=hup 11 hDq (List.mem_range.2 (by omega))
   have hF:F = G:=by rw [hFe,h11,h10];rfl
   clear hFe hup
   subst hF
   have nxt:=fun (q:Nat) (hq:q < 10) (n3:q ≠ 3) (n4:q ≠ 4) (n8:q ≠ 8) (n9:q ≠ 9) hpr=>tvI.pure (w':=w17) hq n3 n4 n8 n9 hDn hcl h10 h11 h4 h9 hp hpr
   match q,hq10 with
   | 0,_=>exact qE7 qC ((hDn.old 6 rfl rfl).trans f6) (nxt 0 (by decide) (by decide) (by decide) (by decide) (by decide) al0)
   | 1,_=>exact qE7 (qS rfl ((hDn.old 11 rfl rfl).trans f11)) rfl (nxt 1 (by decide) (by decide) (by decide) (by decide) (by decide) al0)
   | 2,_=>
    have a1:=vQ hA 1 rfl
    exact qE7 (qJ rfl (hDn.slot 1 a1 rfl rfl) (hp.cell 4 (hgB _ _ _ _) rfl)) rfl (nxt 2 (by decide) (by decide) (by decide) (by decide) (by decide) (al1 a1))
   | 3,_=>
    have a2:=vQ hA 2 rfl
    rw [hDq] at hp
    refine qR4 (jP (vs:=[(0,.int .i64 (x:Int))]) (cs:=[.int .i64 (x:Int)]) hp rfl rfl (congrArg (fun v=>[(0,v)]) (hDn.slot 2 a2 rfl rfl)) rfl rfl rfl rfl) ?_
    rintro _ w' ⟨nb',rfl,hp'⟩
    exact tvI.mk (q:=3) nb' t1 d1 nb2 t2 d2 (by decide) hDn (qHd (fun h=>absurd rfl h) (fun _=>⟨rfl,rfl⟩) (fun _=>rfl) (fun _=>⟨rfl,rfl⟩)) hcl (al1 a2) h10 h11 true (D 4) (D 8) (D 9) (Bool.or_true _) (Bool.or_false _) (Bool.or_false _) (Bool.or_false _) h4 h9 (Hp.in2 hp')
   | 4,_=>
    have a0:=vQ hA 0 rfl
    have a3:=vQ hA 3 rfl
    rw [hDq,a3] at hp
    refine qR4 (zL eN X x hp 0 2 rfl rfl rfl rfl rfl rfl (fun _=>rfl) (hDn.slot 0 a0 rfl rfl) (hDn.slot 3 a3 rfl rfl) rfl hv1 rfl rfl (by omega)) ?_
    rintro u w' ⟨t1',d1',hu,hv',hp'⟩
    rw [List.length_append] at hu
    subst hu
    exact tvI.mk (q:=4) nb t1' d1' nb2 t2 d2 (by decide) hDn (qHd (fun _=>rfl) (fun h=>absurd rfl h) (fun _=>rfl) (fun _=>⟨rfl,rfl⟩)) hcl (al2 a0 a3) h10 h11 true true (D 8) (D 9) (by rw [a3];rfl) (Bool.or_true _) (Bool.or_false _) (Bool.or_false _) (fun _=>hv') h9 hp'
   | 5,_=>exact qE7 qC ((hDn.old 7 rfl rfl).trans f7) (nxt 5 (by decide) (by decide) (by decide) (by decide) (by decide) al0)
   | 6,_=>exact qE7 (qS rfl ((hDn.old 11 rfl rfl).trans f11)) rfl (nxt 6 (by decide) (by decide) (by decide) (by decide) (by decide) al0)
   | 7,_=>
    have a6:=vQ hA 6 rfl
    exact qE7 (qJ rfl (hDn.slot 6 a6 rfl rfl) (hp.cell 4 (hgB _ _ _ _) rfl)) rfl (nxt 7 (by decide) (by decide) (by decide) (by decide) (by decide) (al1 a6))
   | 8,_=>
    have a7:=vQ hA 7 rfl
    rw [hDq] at hp
    refine qR4 (jP (vs:=[(0,.int .i64 (y:Int))]) (cs:=[.int .i64 (y:Int)]) hp rfl rfl (congrArg (fun v=>[(0,v)]) (hDn.slot 7 a7 rfl rfl)) rfl rfl rfl rfl) ?_
    rintro _ w' ⟨nb',rfl,hp'⟩
    exact tvI.mk (q:=8) nb t1 d1 nb' t2 d2 (by decide) hDn (qHd (fun _=>rfl) (fun _=>⟨rfl,rfl⟩) (fun h=>absurd rfl h) (fun _=>⟨rfl,rfl⟩)) hcl (al1 a7) h10 h11 (D 3) (D 4) true (D 9) (Bool.or_false _) (Bool.or_false _) (Bool.or_true _) (Bool.or_false _) h4 h9 (Hp.in3 hp')
   | 9,_=>
    have a4:=vQ hA 4 rfl
    have a5:=vQ hA 5 rfl
    have a8:=vQ hA 8 rfl
    rw [hDq,a8] at hp
    refine qR4 (zL eN Y y hp 1 3 rfl rfl rfl rfl rfl rfl (fun _=>rfl) (hDn.slot 5 a5 rfl rfl) (hDn.slot 8 a8 rfl rfl) rfl hv2 rfl rfl (by omega)) ?_
    rintro u w' ⟨t2',d2',hu,hv',hp'⟩
    rw [List.length_append] at hu
    subst hu
    exact tvI.mk (q:=9) nb t1 d1 nb2 t2' d2' (by decide) hDn (qHd (fun _=>rfl) (fun _=>⟨rfl,rfl⟩) (fun _=>rfl) (fun h=>absurd rfl h)) hcl (al3 a5 a8 a4) h10 h11 (D 3) (D 4) true true (Bool.or_false _) (Bool.or_false _) (by rw [a8];rfl) (Bool.or_true _) h4 (fun _=>hv') hp'
   | j + 10,h=>exact absurd h (by omega)
  ·rcases (show q = 10∨q = 11 by omega) with rfl|rfl
   ·have h11:D 11 = false:=hup 11 hDq (List.mem_range.2 (by decide))
    have hF:F = G:=by rw [hFe,h11,hDq];rfl
    clear hFe hup
    subst hF
    have a0:=vQ hA 0 rfl
    have a1:=vQ hA 1 rfl
    have a2:=vQ hA 2 rfl
    have a3:=vQ hA 3 rfl
    have a4:=vQ hA 4 rfl
    have a9:=vQ hA 9 rfl
    have a5:=hcl 9 5 a9 (by decide)
    have a8:=hcl 9 8 a9 (by decide)
    have a7:=hcl 8 7 a8 (by decide)
    have a6:=hcl 7 6 a7 (by decide)
    have hall:∀ p ∈ tvP 10,D p = true:=by
     intro p hp
     have hp:p < 10:=List.mem_range.1 hp
     match p,hp with
     | 0,_=>exact a0
     | 1,_=>exact a1
     | 2,_=>exact a2
     | 3,_=>exact a3
     | 4,_=>exact a4
     | 5,_=>exact a5
     | 6,_=>exact a6
     | 7,_=>exact a7
     | 8,_=>exact a8
     | 9,_=>exact a9
     | j + 10,h=>exact absurd h (by omega)
    refine qE7 qD (hDn.slot 4 a4 rfl rfl) (tvI.fin (Nat.le_refl _) hDn hcl hall h4 h9 hp ?_)
    have e1:(D 11 || Nat.beq 11 10) = false:=by rw [h11];rfl
    have e2:(D 10 || Nat.beq 10 10) = true:=Bool.or_true _
    rw [e1,e2]
    rfl
   ·have a10:=vQ hA 10 rfl
    have hF:F = G.put 6 (.slice t1 (X.length + 1) d1):=by rw [hFe,hDq,a10];rfl
    clear hFe hup
    subst hF
    have a9:=hcl 10 9 a10 (by decide)
    have hall:∀ p ∈ tvP 11,D p = true:=by
     intro p hp
     have hp:p < 11:=List.mem_range.1 hp
     rcases (show p = 10∨p < 10 by omega) with rfl|h
     ·exact a10
     ·exact hcl 10 p a10 (List.mem_range.2 h)
    refine qE7 qD (hDn.slot 9 a9 rfl rfl) (tvI.fin (by decide) hDn hcl hall h4 h9 hp ?_)
    have e1:(D 11 || Nat.beq 11 11) = true:=Bool.or_true _
    rw [e1]
    rfl
 ·rintro D F w8 hD ⟨nb,t1,d1,nb2,t2,d2,G,hDn,hFe,hcl,h4,h9,hp⟩
  have e:∀ j,j < 12→D j = true:=hD
  rw [e 11 (by decide)] at hFe
  rw [e 3 (by decide),e 4 (by decide),e 8 (by decide),e 9 (by decide)] at hp
  have hv1':=h4 (e 4 (by decide))
  have hv2':=h9 (e 9 (by decide))
  have hpn:Hp w [] w8 [qW eN 3 1 t1 d1 (X ++ [x]),qW eN 3 1 t2 d2 (Y ++ [y]),qAv kInt mb (wH (inP l (i + 1)))]:=by
   rw [hB] at hp
   exact hp.picks [0,1,5] _ rfl rfl
  rw [← hxs] at hv1' hpn
  rw [← hys] at hv2' hpn
  clear hp
  have hxl2:=qH7 (l:=l) (i:=i + 1) (by omega)
  have hyl2:=qH6 (l:=l) (i:=i + 1) (by omega)
  have hG:=hDn.same.eq
  rw [cond_true] at hFe
  rw [hFe,hG]
  subst hF0 hB
  have hp:=hpn
  have ex:X.length + 1 = (xsI l (i + 1)).length:=by omega
  have ey:Y.length + 1 = (ysI l (i + 1)).length:=by omega
  rw [ex,ey]
  (repeat (with_reducible first|apply qF|apply qA|apply qB))
  (apply wlp;apply qC;exact fS rfl)
  (apply wlp;((apply jC;exact rfl)<;>exact rfl);exact fI rfl)
  (apply wlp;apply qC;exact fI rfl)
  (apply wlp;((apply zF;(first|exact rfl|exact jR rfl (by assumption)))<;>exact rfl);exact fB rfl)
  (repeat (with_reducible first|apply qE|apply qB))
  refine qM rfl (fun hq=>?_) (fun hq=>?_)
  ·have hnd:i + 1 = nd:=by omega
   have s1:=jS hp 0 rfl hv1' (fun _=>rfl)
   have s2:=jS hp 1 rfl hv2' (fun _=>rfl)
   rw [hxl2,hyl2]
   rw [hnd] at s1 s2 ⊢
   (repeat (first|(with_reducible first|apply qF|apply qA|apply qE|apply qB|apply jV|apply qA9|apply qT)|(apply wlp;(first|apply qC|apply qD);(first|exact fB rfl|exact fS rfl))))
   exact qB1 rfl rfl rfl rfl ⟨_,rfl,⟨t1,d1,t2,d2,rfl,s1,s2⟩,hp.keeps⟩
  ·have hnd:i + 1 < nd:=by omega
   (repeat (with_reducible first|apply qA|apply qB|apply qZ|apply qL))
   (apply wlp;(exact qY rfl rfl);exact qI (b:=((i + 1:Nat):Int)) (by rw [qN (by omega) (by omega)];omega))
   (repeat (first|(with_reducible first|apply qE|apply qB)|(apply wlp;apply qC;exact fI rfl)))
   exact ⟨(i + 1,(t1,d1),(t2,d2)),qG (qG (qG (Same.eq (by repeat (first|exact Same.hav|exact Same.refl|refine Same.put rfl ?_|refine Same.havs rfl ?_))) rfl) rfl) rfl,⟨hnd,hv1',hv2',hp⟩,by dsimp only;omega⟩
end Go.Proofs.YtbgldmoikimmpaaGreatDoor
namespace Go.Proofs.YtbgldmoikimmpaaGreatDoor
open Go.Eng Go.Dig Go.Sha Go.Lag Go.Grp Go.Sp
structure KyV where
 s1:Option Addr
 c1:Nat
 cs:List Nat
 s2:Option Addr
 c2:Nat
 rs:List NRow
def eKy (k:KyV):List Value:=[.slice k.s1 k.cs.length k.c1,.slice k.s2 k.rs.length k.c2]
structure KyAt (w:World) (k:KyV):Prop where
 cs:SlAt w 1 eN k.s1 k.cs
 rs:RowsAt w k.s2 k.rs
theorem KyAt.keep {w w':World} {k:KyV} (h:KyAt w k) (hk:Keeps [] w w'):KyAt w' k:=⟨h.cs.keep0 hk,h.rs.keep hk⟩
structure WsOk (ws:List Nat):Prop where
 ne:1≤ws.length
 len:ws.length≤13
 pos:∀ x ∈ ws,1≤x
 max:∀ x ∈ ws,x≤20
 sum:ws.sum≤60
theorem qSl:∀ {ws:List Nat},1≤ws.length→(∀ x ∈ ws,1≤x)→1≤ws.sum
 | [],h,_=>by cases h
 | w :: ws,_,h=>by
  have:=h w List.mem_cons_self
  simp only [List.sum_cons]
  omega
theorem WsOk.sp {ws:List Nat} (h:WsOk ws):1≤ws.sum:=qSl h.ne h.pos
structure KyOk (k:KyV) (ws:List Nat):Prop where
 rows:kD k.rs = wJ 1 ws
 wo:WsOk ws
 nd:k.cs.length = ndN ws.sum
 mb:∀ a ∈ k.cs,Mb a
theorem KyOk.len {k:KyV} {ws:List Nat} (h:KyOk k ws):k.rs.length = ws.length:=by
 have:=congrArg List.length h.rows
 unfold kD at this
 rwa [List.length_map,qA6] at this
theorem KyOk.row {k:KyV} {ws:List Nat} (h:KyOk k ws) {i:Nat} (hi:i < k.rs.length):(k.rs[i]).l = List.range' (1 + (ws.take i).sum) (ws.getD i 0):=by
 have hw:i < ws.length:=by rw [← h.len];exact hi
 have h1:=qCx ws 1 i hw
 rw [← h.rows] at h1
 unfold kD at h1
 rw [List.getElem?_map,List.getElem?_eq_getElem hi] at h1
 rw [xV hw]
 exact Option.some.inj h1
theorem KyOk.sum {k:KyV} {ws:List Nat} (h:KyOk k ws):wT k.rs = ws.sum:=by
 have e:(kD k.rs).map List.length = k.rs.map fun r=>r.l.length:=by
  unfold kD
  rw [List.map_map]
  rfl
 unfold wT
 rw [← e,h.rows,qF5]
theorem vM (n:Nat):1≤ndN n:=by unfold ndN;omega
theorem yO {n:Nat} (h:1≤n):ndN n≤n:=by unfold ndN;omega
theorem uB {l:List Nat} {i:Nat} (h:i < l.length):l.getD i 0 ∈ l:=by rw [xV h];exact List.getElem_mem h
theorem yF (ws:List Nat) (i:Nat):(ws.take (i + 1)).sum = (ws.take i).sum + ws.getD i 0:=by
 by_cases h:i < ws.length
 ·rw [qBy h,xV h]
 ·rw [List.take_of_length_le (by omega),List.take_of_length_le (by omega),List.getD_eq_getElem?_getD,List.getElem?_eq_none (by omega)]
  rfl
attribute [local irreducible] PV StepF wpl wpd WP Ret
attribute [local irreducible] Fit ofN xD hv scP xN yC yY atP Mb inL fac zB inP
theorem p32 (nd:Nat) (l:List (Nat × Nat)) (s:Option Addr) (c:Nat) (w:World) (hs:SlAt w 2 eP2 s l) (hP:Pts (l.map (·.1))) (hm:∀ p ∈ l,Mb p.2) (h1:1≤nd) (h2:nd≤l.length) (hl:l.length≤1000000) :
  Ret Tryz.prog 32 [.int .i64 (nd:Int),.slice s l.length c] w (fun v w'=>v = .tuple #[.int .i64 (lft (xsI l nd) (ysI l nd):Int),.bool true]∧Keeps [] w w'):=by
 have hx:=qH7 (l:=l) h2
 have hy:=qH6 (l:=l) h2
 have hPx:Pts (xsI l nd):=by
  unfold xsI
  rw [List.map_take]
  exact ⟨hP.nd.sublist (List.take_sublist _ _),fun x hx=>hP.bd x (List.mem_of_mem_take hx)⟩
 have hyb:∀ y ∈ ysI l nd,y≤9223372036854775807:=by
  intro y hy
  unfold ysI at hy
  obtain ⟨p,hp,rfl⟩:=List.mem_map.1 hy
  have:=kQ (hm p (List.mem_of_mem_take hp))
  omega
 refine Ret.of_WP Tryz.func32 rfl Tryz.ntmps32 rfl ?_
 have hp:=Hp.start (M:=[]) (w:=w)
 (repeat (first|(with_reducible first|apply qF|apply qA|apply qE|apply qB)|(apply wlp;(first|apply qC|apply qD);(first|exact fI rfl|exact fB rfl|exact fS rfl))))
 (apply wls;exact qH rfl jAi rfl (p73 nd l s c _ hs hP hm h1 h2 hl);rintro _ w1 ⟨⟨t1,d1,t2,d2,rfl,hs1,hs2⟩,hk⟩;have hp:=hp.call hk)
 (repeat (first|(with_reducible first|apply qF|apply qA|apply qE|apply qB)|(apply wlp;((first|apply qC|apply qD|apply zI|apply jK)<;>exact rfl);(first|exact fB rfl|exact fS rfl|exact fU rfl))))
 refine jI rfl ?_
 (repeat (first|(with_reducible first|apply qF|apply qA|apply qB|apply qL)|(apply wlp;apply qC;exact fS rfl)))
 (apply wls;exact qH rfl qVa rfl (by
  have:=p47 (xsI l nd) (ysI l nd) t1 t2 d1 d2 w1 hs1 hs2 hPx (by omega) (by omega) hyb
  rw [hx,hy] at this
  exact this);rintro _ w2 ⟨rfl,hk⟩;have hp:=hp.call hk)
 (repeat (first|(with_reducible first|apply qE|apply qB|apply qT)|(apply wlp;apply qD;(first|exact fI rfl|exact fB rfl))))
 exact zX rfl rfl rfl ⟨_,rfl,rfl,hp.keeps⟩
theorem p28 (k:KyV) (ws:List Nat) (w:World) (hk:KyAt w k) (ho:KyOk k ws):Ret Tryz.prog 28 [.agg (eKy k).toArray] w (fun v w'=>v = .bool true∧Keeps [] w w'):=by
 have hlen:=ho.len
 have hrow:=fun {i:Nat} (h:i < k.rs.length)=>ho.row h
 have hsp:=ho.wo.sp
 have hs60:=ho.wo.sum
 have hpos:=ho.wo.pos
 have hwl:=ho.wo.len
 have hnd:=ho.nd
 have hmb:=ho.mb
 have hndl:=yO hsp
 clear ho
 obtain ⟨s1,c1,cs,s2,c2,rs⟩:=k
 obtain ⟨hcs,hrs⟩:=hk
 dsimp only at hlen hrow hnd hmb hcs hrs
 have hE:eKy ⟨s1,c1,cs,s2,c2,rs⟩ = [.slice s1 cs.length c1,.slice s2 rs.length c2]:=rfl
 rw [hE]
 clear hE
 refine Ret.of_WP Tryz.func28 rfl Tryz.ntmps28 rfl ?_
 have hp:=Hp.start (M:=[]) (w:=w)
 (repeat (with_reducible first|apply qF|apply qA))
 (apply wls;exact uY hp rfl;rintro _ w1 ⟨kb,rfl,hp⟩)
 (repeat (first|(with_reducible first|apply qF|apply qK|apply qA|apply qE|apply qB)|(apply wlp;((first|apply qC|apply qD|apply qS|(apply qJ;exact rfl)|(apply jC;exact rfl))<;>(first|exact rfl|exact hp.cell 0 rfl rfl));(first|exact fI rfl|exact fB rfl|exact fP rfl|exact fS rfl))))
 refine jE ([2,3,5,7] ++ List.range' 14 20) (fun (i:Nat) F=>(F.put 14 (.int .i64 (i:Int))).put 3 (.int .i64 ((1 + (ws.take i).sum:Nat):Int)))
  (fun i w'=>i≤rs.length∧Hp w [] w' [blk kb 2 (qV [.slice s1 cs.length c1,.slice s2 rs.length c2]) 27]) (fun i=>rs.length - i) 0 (qG (qG (Same.eq .refl) rfl) rfl) ⟨Nat.zero_le _,hp⟩ ?_
 clear hp
 rintro u0 i w2 ⟨hi,hp⟩
 have hle:=zU ws i
 (repeat (first|(with_reducible first|apply qF|apply qA|apply qE|apply qB)|(apply wlp;(apply jA<;>exact rfl);exact fB rfl)))
 refine qM rfl (fun h=>?_) (fun h=>?_)
 ·have hlt:i < rs.length:=by omega
  obtain ⟨b0,o0,hs0,hc0⟩:=hrs.at_.base (by omega)
  have hci:=hc0 i _ (List.getElem?_eq_getElem hlt) 0 _ rfl
  have hri:=hrow hlt
  have hsl:=hrs.row _ (List.getElem_mem hlt)
  have hnx:=yF ws i
  have hle2:=zU ws (i + 1)
  have hwp:=hpos _ (uB (l:=ws) (i:=i) (by omega))
  generalize rs[i] = r at hci hri hsl
  generalize ws.getD i 0 = m at hri hnx hwp
  obtain ⟨sr,cr,lr⟩:=r
  dsimp only at hri hsl
  have hlr:lr.length = m:=by rw [hri,List.length_range']
  have hci:w.cell? ⟨b0,o0 + i * 1 + 0,none⟩ = some (.slice sr lr.length cr):=hci
  (repeat (first|(with_reducible first|apply qF|apply qK|apply qA|apply qE|apply qB|apply qL)|(apply wlp;((first|apply qC|apply qD|(apply qJ;exact rfl)|(apply jC;exact rfl)|(apply zF;(first|exact rfl|exact jR rfl (by assumption)))|(apply qR;exact rfl))<;>(first|exact rfl|assumption|exact hp.old0 (by assumption)));(first|exact fI rfl|exact fB rfl|exact fP rfl|exact fS rfl))))
  refine qM rfl (fun h=>absurd h (by omega)) (fun _=>?_)
  (repeat (first|(with_reducible first|apply qF|apply qK|apply qA|apply qE|apply qB|apply qL)|(apply wlp;((first|apply qC|(apply jC;exact rfl))<;>exact rfl);(first|exact fI rfl|exact fS rfl))))
  refine jE ([2,3,7] ++ List.range' 23 10) (fun (j:Nat) F=>(F.put 23 (.int .i64 (j:Int))).put 3 (.int .i64 ((1 + (ws.take i).sum + j:Nat):Int)))
   (fun j w'=>j≤lr.length∧Hp w [] w' [blk kb 2 (qV [.slice s1 cs.length c1,.slice s2 rs.length c2]) 27]) (fun j=>lr.length - j) 0 (qG (qG (Same.eq .refl) rfl) rfl) ⟨Nat.zero_le _,hp⟩ ?_
  clear hp
  rintro u1 j w3 ⟨hj,hp⟩
  (repeat (first|(with_reducible first|apply qF|apply qA|apply qE|apply qB)|(apply wlp;(apply jA<;>exact rfl);exact fB rfl)))
  refine qM rfl (fun h=>?_) (fun h=>?_)
  ·have hltj:j < lr.length:=by omega
   obtain ⟨b1,o1,hs1,hc1⟩:=hsl.base (by omega)
   have hcj:=hc1 j _ (List.getElem?_eq_getElem hltj) 0 _ rfl
   have hgj:lr[j] = 1 + (ws.take i).sum + j:=by
    have:lr[j]? = some (1 + (ws.take i).sum + 1 * j):=by rw [hri,List.getElem?_range' (by omega)]
    rw [List.getElem?_eq_getElem hltj] at this
    have:=Option.some.inj this
    omega
   rw [hgj] at hcj
   (repeat (first|(with_reducible first|apply qF|apply qK|apply qA|apply qE|apply qB|apply qL)|(apply wlp;((first|apply qC|apply qD|(apply qJ;exact rfl)|(apply zJ;(first|exact rfl|exact jR rfl (by assumption)))|(apply qR;exact rfl))<;>(first|exact rfl|assumption|exact hp.old0 (by assumption)));(first|exact fI rfl|exact fB rfl|exact fP rfl))))
   refine zT rfl (fun h=>absurd h (by simp)) (fun _=>?_)
   (repeat (first|(with_reducible first|apply qA|apply qB|apply qL)|(apply wlp;apply qC;exact fI rfl)))
   (apply wlp;(exact qY rfl rfl);exact qI (b:=((1 + (ws.take i).sum + (j + 1):Nat):Int)) (by rw [qN (by omega) (by omega)];omega))
   (repeat (first|(with_reducible first|apply qA|apply qE|apply qB|apply qZ)|(apply wlp;apply qD;exact fI rfl)))
   (apply wlp;(exact qY rfl rfl);exact qI (b:=((j + 1:Nat):Int)) (by rw [qN (by omega) (by omega)];omega))
   (repeat (first|(with_reducible first|apply qE|apply qB)|(apply wlp;apply qC;exact fI rfl)))
   exact ⟨j + 1,qG (qG (Same.eq (by repeat (first|exact Same.hav|exact Same.refl|refine Same.put rfl ?_|refine Same.havs rfl ?_))) rfl) rfl,⟨by omega,hp⟩,by omega⟩
  obtain rfl:j = lr.length:=by omega
  have e1:1 + (ws.take i).sum + lr.length = 1 + (ws.take (i + 1)).sum:=by omega
  rw [e1]
  (repeat (first|(with_reducible first|apply qA|apply qB|apply qZ|apply qO|apply jB)|((with_reducible apply qP);exact rfl)))
  (apply wlp;(exact qY rfl rfl);exact qI (b:=((i + 1:Nat):Int)) (by rw [qN (by omega) (by omega)];omega))
  (repeat (first|(with_reducible first|apply qE|apply qB)|(apply wlp;apply qC;exact fI rfl)))
  exact ⟨i + 1,qG (qG (Same.eq (by repeat (first|exact Same.hav|exact Same.refl|refine Same.put rfl ?_|refine Same.havs rfl ?_))) rfl) rfl,⟨by omega,hp⟩,by omega⟩
 obtain rfl:i = rs.length:=by omega
 have e1:(ws.take rs.length).sum = ws.sum:=by rw [hlen,List.take_length]
 rw [e1]
 clear hle e1
 (repeat (first|(with_reducible first|apply qF|apply qA|apply qB|apply qO|apply jB)|((with_reducible apply qP);exact rfl)))
 (apply wlp;apply qC;exact fI rfl)
 (apply wlp;(exact jN rfl rfl);exact qI (b:=((ws.sum:Nat):Int)) (by rw [qN (by omega) (by omega)];omega))
 (repeat (first|(with_reducible first|apply qF|apply qE|apply qB)|(apply wlp;apply qD;exact fI rfl)))
 refine jX jW (by kernel_rfl) (fun w'=>Hp _ _ w' _) hp.drew ?_
 have hp:=hp.drew
 (apply wdp;exact rfl;(intro w hp;exact qC);exact fI rfl)
 (apply wdp;exact rfl;(intro w hp;exact jA rfl rfl);exact jF (b:=false) (decide_eq_false (by omega)))
 (apply wdp;exact rfl;(intro w hp;exact qC);exact fB rfl)
 (apply vD;exact rfl;exact rfl;exact rfl;(intro w hp;exact qC);exact fI rfl)
 (apply vD;exact rfl;exact rfl;exact rfl;(intro w hp;exact zA rfl rfl);exact jF (b:=false) (decide_eq_false (by omega)))
 (apply wdp;exact rfl;(intro w hp;exact jU rfl rfl);exact fB rfl)
 (apply wdp;exact rfl;(intro w hp;exact qC);exact fB rfl)
 (repeat (first|((apply vD;exact rfl;exact rfl;exact rfl);(intro w hp;((first|apply qC|apply qS|(apply qJ;exact rfl)|(apply jC;exact rfl))<;>(first|exact rfl|exact hp.cell 0 rfl rfl)));(intros;(first|exact fI rfl|exact fP rfl|exact fS rfl)))|(apply uN;exact rfl;exact rfl;exact rfl;exact rfl)|(apply uM;exact rfl;exact rfl;exact rfl)))
 (apply qEs;exact rfl;exact rfl;exact rfl;exact qH rfl qQd rfl (p46 ws.sum _ hsp (by omega));rintro _ w4 ⟨rfl,hk⟩;have hp:=hp.call hk;refine ⟨hp,?_⟩)
 (apply vD;exact rfl;exact rfl;exact rfl;(intro w hp;exact zJ rfl rfl);exact jF (b:=false) (ndf (by omega)))
 (apply wdp;exact rfl;(intro w hp;exact jU rfl rfl);exact fB rfl)
 refine jL ?_
 (repeat with_reducible apply qB)
 refine jI rfl ?_
 (repeat (first|(with_reducible first|apply qF|apply qK|apply qA|apply qE|apply qB|apply qL)|(apply wlp;((first|apply qC|apply qS|(apply qJ;exact rfl)|(apply jC;exact rfl))<;>(first|exact rfl|exact hp.cell 0 rfl rfl));(first|exact fI rfl|exact fP rfl|exact fS rfl))))
 refine jE ([2,10] ++ List.range' 53 8) (fun (i:Nat) F=>F.put 53 (.int .i64 (i:Int)))
  (fun i w'=>i≤cs.length∧Hp w [] w' [blk kb 2 (qV [.slice s1 cs.length c1,.slice s2 rs.length c2]) 27]) (fun i=>cs.length - i) 0 (qG (Same.eq .refl) rfl) ⟨Nat.zero_le _,hp⟩ ?_
 (repeat clear hp)
 rintro u2 q w5 ⟨hq,hp⟩
 (repeat (first|(with_reducible first|apply qF|apply qA|apply qE|apply qB)|(apply wlp;(apply jA<;>exact rfl);exact fB rfl)))
 refine qM rfl (fun h=>?_) (fun h=>?_)
 ·have hlt:q < cs.length:=by omega
  obtain ⟨b0,o0,hs0,hc0⟩:=hcs.base (by omega)
  have hci:=hc0 q _ (List.getElem?_eq_getElem hlt) 0 _ rfl
  have hma:=hmb _ (List.getElem_mem hlt)
  generalize cs[q] = a at hci hma
  (repeat (first|(with_reducible first|apply qF|apply qK|apply qA|apply qE|apply qB|apply qL)|(apply wlp;((first|apply qC|apply qD|(apply qJ;exact rfl)|(apply qR;exact rfl))<;>(first|exact rfl|assumption|exact hp.old0 (by assumption)));(first|exact fI rfl|exact fP rfl))))
  (apply wls;exact qH rfl qC4 rfl (p69 a _ hma))
  rintro _ w6 ⟨rfl,hk⟩
  have hp:=hp.call hk
  (repeat (first|(with_reducible first|apply qE|apply qB)|(apply wlp;(apply zI<;>exact rfl);exact fB rfl)))
  refine jI rfl ?_
  (repeat (with_reducible first|apply qA|apply qB|apply qZ|apply qL))
  (apply wlp;(exact qY rfl rfl);exact qI (b:=((q + 1:Nat):Int)) (by rw [qN (by omega) (by omega)];omega))
  (repeat (first|(with_reducible first|apply qE|apply qB)|(apply wlp;apply qC;exact fI rfl)))
  exact ⟨q + 1,qG (Same.eq (by repeat (first|exact Same.hav|exact Same.refl|refine Same.put rfl ?_|refine Same.havs rfl ?_))) rfl,⟨by omega,hp⟩,by omega⟩
 (repeat (first|(with_reducible first|apply qF|apply qA|apply qE|apply qB|apply qO|apply qT|apply jB)|((with_reducible apply qP);exact rfl)|(apply wlp;apply qD;exact fB rfl)))
 exact qU rfl rfl ⟨_,rfl,rfl,hp.keeps⟩
theorem p43 (ds:List DlV) (n:Nat) (s:Option Addr) (c:Nat) (w:World) (hs:SlAt w 3 eDl s ds) (hd:∀ d ∈ ds,DlAt w d) (ho:∀ d ∈ ds,DlOk d n∧d.cs.length = ndN n) (h1:1≤n) (hn:n≤1000000) (hl:ds.length≤1000000) :
  Ret Tryz.prog 43 [.slice s ds.length c,.int .i64 (n:Int)] w (fun v w'=>v = .bool true∧Keeps [] w w'):=by
 refine Ret.of_WP Tryz.func43 rfl Tryz.ntmps43 rfl ?_
 have hp:=Hp.start (M:=[]) (w:=w)
 (repeat (first|(with_reducible first|apply qF|apply qK|apply qA|apply qE|apply qB)|(apply wlp;((first|apply qC|apply qD|(apply jC;exact rfl))<;>exact rfl);(first|exact fI rfl|exact fB rfl|exact fS rfl))))
 refine jE ([4,6] ++ List.range' 9 17) (fun (i:Nat) F=>F.put 9 (.int .i64 (i:Int)))
  (fun i w'=>i≤ds.length∧Hp w [] w' []) (fun i=>ds.length - i) 0 (qG (Same.eq .refl) rfl) ⟨Nat.zero_le _,hp⟩ ?_
 clear hp
 rintro u0 i w2 ⟨hi,hp⟩
 (repeat (first|(with_reducible first|apply qF|apply qA|apply qE|apply qB)|(apply wlp;(apply jA<;>exact rfl);exact fB rfl)))
 refine qM rfl (fun h=>?_) (fun h=>?_)
 ·have hlt:i < ds.length:=by omega
  obtain ⟨b0,o0,hs0,hc0⟩:=hs.base (by omega)
  have hci:=hc0 i _ (List.getElem?_eq_getElem hlt)
  have hdi:=hd _ (List.getElem_mem hlt)
  obtain ⟨hoi,hcn⟩:=ho _ (List.getElem_mem hlt)
  have h90:=fun (w:World) (hda:DlAt w ds[i])=>p90 ds[i] n w hda hoi hn
  generalize ds[i] = d at hci hdi hcn h90
  obtain ⟨s1,c1,cs,pt,s2,c2,bx⟩:=d
  have hE:eDl ⟨s1,c1,cs,pt,s2,c2,bx⟩ = [.slice s1 cs.length c1,.int .i64 (pt:Int),.slice s2 bx.length c2]:=rfl
  dsimp only at hcn
  rw [hE] at h90 hci
  (repeat (first|(with_reducible first|apply qF|apply qK|apply qA|apply qB|apply qL)|(apply wlp;((first|(apply jQ;exact rfl)|(apply qR;exact rfl))<;>(first|exact rfl|assumption));exact fP rfl)))
  (apply wlp;exact zP (vs:=[.slice s1 cs.length c1,.int .i64 (pt:Int),.slice s2 bx.length c2]) rfl rfl rfl rfl (fun j v hv=>hp.old0 (hci j v hv));exact fA3 rfl)
  (apply wls;exact yA hp (jD rfl);rintro _ w3 ⟨pb,rfl,hp⟩)
  (apply zG;exact vK hp 0 rfl rfl rfl rfl (qQ rfl) rfl;rintro _ w4 ⟨rfl,hp⟩)
  have hp:=hp.norm 0 [.slice s1 cs.length c1,.int .i64 (pt:Int),.slice s2 bx.length c2] rfl rfl
  (repeat (with_reducible first|apply qF|apply qE|apply qB))
  refine jX jW (by kernel_rfl) (fun w'=>Hp _ _ w' _) hp.drew ?_
  have hp:=hp.drew
  (repeat ((apply wdp;exact rfl);(intro w hp;intros;((first|apply qC|(apply jQ;exact rfl))<;>(first|exact rfl|exact hp.agg_blk 0 rfl rfl)));(intros;(first|exact fI rfl|exact fA3 rfl))))
  (apply wds;exact rfl;exact qH rfl jA8 rfl (h90 _ (hdi.keep hp.keeps));rintro _ w5 ⟨rfl,hk⟩;have hp:=hp.call hk;refine ⟨hp,?_⟩)
  (apply wdp;exact rfl;(intro w hp;exact zI rfl);exact fB rfl)
  (apply wdp;exact rfl;(intro w hp;exact qC);exact fB rfl)
  (repeat (first|((apply vD;exact rfl;exact rfl;exact rfl);(intro w hp;((first|apply qC|apply qS|(apply qJ;exact rfl)|(apply jC;exact rfl))<;>(first|exact rfl|exact hp.cell 0 rfl rfl)));(intros;(first|exact fI rfl|exact fP rfl|exact fS rfl)))|(apply uN;exact rfl;exact rfl;exact rfl;exact rfl)|(apply uM;exact rfl;exact rfl;exact rfl)))
  (apply qEs;exact rfl;exact rfl;exact rfl;exact qH rfl qQd rfl (p46 n _ h1 hn);rintro _ w6 ⟨rfl,hk⟩;have hp:=hp.call hk;refine ⟨hp,?_⟩)
  (apply vD;exact rfl;exact rfl;exact rfl;(intro w hp;exact zJ rfl rfl);exact jF (b:=false) (ndf (by omega)))
  (apply wdp;exact rfl;(intro w hp;exact jU rfl rfl);exact fB rfl)
  refine jL ?_
  (repeat with_reducible apply qB)
  refine jI rfl ?_
  (repeat (with_reducible first|apply qA|apply qB|apply qZ|apply qL))
  (apply wlp;(exact qY rfl rfl);exact qI (b:=((i + 1:Nat):Int)) (by rw [qN (by omega) (by omega)];omega))
  (repeat (first|(with_reducible first|apply qE|apply qB)|(apply wlp;apply qC;exact fI rfl)))
  exact ⟨i + 1,qG (Same.eq (by repeat (first|exact Same.hav|exact Same.refl|refine Same.put rfl ?_|refine Same.havs rfl ?_))) rfl,⟨by omega,hp.tail⟩,by omega⟩
 (repeat (first|(with_reducible first|apply qF|apply qA|apply qE|apply qB|apply qO|apply qT|apply jB)|((with_reducible apply qP);exact rfl)|(apply wlp;apply qD;exact fB rfl)))
 exact qU rfl rfl ⟨_,rfl,rfl,hp.keeps⟩
end Go.Proofs.YtbgldmoikimmpaaGreatDoor
namespace Go.Proofs.YtbgldmoikimmpaaGreatDoor
open Go.Eng Go.Dig Go.Sha Go.Lag Go.Grp Go.Sp
structure Mem where
 id:Nat
 wt:Nat
 pb:Nat
def eMe (m:Mem):List Value:=[.int .i64 (m.id:Int),.int .i64 (m.wt:Int),.int .i64 (m.pb:Int)]
def zC (ms:List Mem):List Nat:=ms.map Mem.wt
structure MsOk (ms:List Mem):Prop where
 nd:(ms.map Mem.id).Nodup
 wo:WsOk (zC ms)
 ib:∀ m ∈ ms,m.id≤1000000
 pb:∀ m ∈ ms,m.pb < 2305843009213691579
theorem MsOk.len {ms:List Mem} (h:MsOk ms):1≤ms.length∧ms.length≤13:=by
 have h1:=h.wo.ne
 have h2:=h.wo.len
 unfold zC at h1 h2
 rw [List.length_map] at h1 h2
 exact ⟨h1,h2⟩
theorem uX (ms:List Mem):(zC ms).length = ms.length:=List.length_map _
theorem qCo {ms:List Mem} {i:Nat} (h:i < ms.length):(zC ms).getD i 0 = ms[i].wt:=by
 unfold zC
 rw [List.getD_eq_getElem?_getD,List.getElem?_map,List.getElem?_eq_getElem h]
 rfl
def plW (ws:List Nat) (i j k:Nat):List Nat:=if k < i then List.range' (1 + (ws.take k).sum) (ws.getD k 0) else if k = i then List.range' (1 + (ws.take i).sum) j else []
structure PtI (ws:List Nat) (i j:Nat) (rs:List NRow):Prop where
 len:rs.length = ws.length
 row:∀ k (h:k < rs.length),rs[k].l = plW ws i j k
 svl:∀ r ∈ rs,SVL r.s r.c r.l
theorem PtI.zero (ws:List Nat):PtI ws 0 0 (List.replicate ws.length ⟨none,0,[]⟩):=by
 refine ⟨List.length_replicate,fun k h=>?_,fun r hr=>?_⟩
 ·rw [List.getElem_replicate]
  unfold plW
  rw [if_neg (by omega)]
  split<;>rfl
 ·rw [List.eq_of_mem_replicate hr]
  exact SVL.nil
theorem PtI.step {ws:List Nat} {i j:Nat} {rs:List NRow} (h:PtI ws i j rs) (hi:i < rs.length) {s':Option Addr} {c':Nat} (hv:SVL s' c' (rs[i].l ++ [1 + (ws.take i).sum + j])):PtI ws i (j + 1) (rs.set i ⟨s',c',rs[i].l ++ [1 + (ws.take i).sum + j]⟩):=by
 refine ⟨by rw [List.length_set];exact h.len,fun k hk=>?_,fun r hr=>?_⟩
 ·rw [List.length_set] at hk
  rw [List.getElem_set]
  split
  ·rename_i e
   subst e
   show rs[i].l ++ [1 + (ws.take i).sum + j] = _
   rw [h.row i hi]
   unfold plW
   rw [if_neg (by omega),if_pos rfl,if_neg (by omega),if_pos rfl,List.range'_concat]
   simp
  ·rename_i e
   rw [h.row k hk]
   unfold plW
   split
   ·rfl
   ·rw [if_neg (by omega),if_neg (by omega)]
 ·rcases List.mem_or_eq_of_mem_set hr with hr|rfl
  ·exact h.svl r hr
  ·exact hv
theorem PtI.next {ws:List Nat} {i:Nat} {rs:List NRow} (h:PtI ws i (ws.getD i 0) rs):PtI ws (i + 1) 0 rs:=by
 refine ⟨h.len,fun k hk=>?_,h.svl⟩
 rw [h.row k hk]
 unfold plW
 by_cases h1:k < i
 ·rw [if_pos h1,if_pos (by omega)]
 ·rw [if_neg h1]
  by_cases h2:k = i
  ·subst h2
   rw [if_pos rfl,if_pos (by omega)]
  ·rw [if_neg h2,if_neg (by omega)]
   split
   ·rfl
   ·rfl
theorem PtI.done {ws:List Nat} {rs:List NRow} (h:PtI ws ws.length 0 rs):kD rs = wJ 1 ws:=by
 unfold kD
 apply List.ext_getElem?
 intro k
 by_cases hk:k < ws.length
 ·have hkr:k < rs.length:=by rw [h.len];exact hk
  rw [qCx ws 1 k hk,List.getElem?_map,List.getElem?_eq_getElem hkr,Option.map_some,h.row k hkr]
  unfold plW
  rw [if_pos hk,xV hk]
 ·rw [List.getElem?_eq_none (by rw [List.length_map,h.len];omega),List.getElem?_eq_none (by rw [qA6];omega)]
def wU (r:NRow):Ent:=qW eN 3 1 r.s r.c r.l
def ptL (b m:Nat) (rs:List NRow):List Ent:=qW eNR 23 1 (some ⟨b,0,none⟩) m rs :: rs.map wU
structure RwOk (b m:Nat) (rs:List NRow):Prop where
 out:SVL (some ⟨b,0,none⟩) m rs
 row:∀ r ∈ rs,SVL r.s r.c r.l
theorem qLq {w0 w:World} {M:List Nat} {L:List Ent} {b m:Nat} {rs:List NRow} (hp:Hp w0 M w L) (h:RwOk b m rs) (hm:∀ p ∈ ptL b m rs,p ∈ L):RowsAt w (some ⟨b,0,none⟩) rs:=
 ⟨xL hp (hm _ List.mem_cons_self) h.out (fun _=>rfl),fun r hr=>xL hp (hm _ (List.mem_cons_of_mem _ (List.mem_map.2 ⟨r,hr,rfl⟩))) (h.row r hr) (fun _=>rfl)⟩
theorem Hp.nils {w0 w:World} {M:List Nat} {L:List Ent} (h:Hp w0 M w L):∀ m:Nat,Hp w0 M w ((List.replicate m (⟨none,0,[]⟩:NRow)).map wU ++ L)
 | 0=>h
 | m + 1=>by
  have:=(Hp.nils h m).nilL eN 3 1
  exact this
attribute [local irreducible] PV StepF wpl wpd WP Ret
attribute [local irreducible] Fit ofN xD hv scP xN yC yY atP Mb inL fac zB inP
set_option maxHeartbeats 4000000 in
theorem p42 (ms:List Mem) (s:Option Addr) (c:Nat) (w:World) (hs:SlAt w 3 eMe s ms) (ho:MsOk ms) :
  Ret Tryz.prog 42 [.slice s ms.length c] w (fun v w'=>∃ b rs,v = .tuple #[.slice (some ⟨b,0,none⟩) rs.length ms.length,.bool true]∧RwOk b ms.length rs∧kD rs = wJ 1 (zC ms)∧Hp w [] w' (ptL b ms.length rs)):=by
 obtain ⟨hl1,hl2⟩:=ho.len
 have hwl:=uX ms
 have hwg:=fun {i:Nat} (h:i < ms.length)=>qCo h
 have hpos:=ho.wo.pos
 have hmax:=ho.wo.max
 have hs60:=ho.wo.sum
 have hnd:=ho.nd
 have hib:=ho.ib
 have hpb:=ho.pb
 clear ho
 obtain ⟨ws,hws⟩:∃ ws,ws = zC ms:=⟨_,rfl⟩
 obtain ⟨ids,hids⟩:∃ ids,ids = ms.map Mem.id:=⟨_,rfl⟩
 have hil:ids.length = ms.length:=by rw [hids];exact List.length_map _
 have hig:∀ {i:Nat} (h:i < ms.length) (h2:i < ids.length),ids[i] = ms[i].id:=fun h h2=>by subst hids;exact List.getElem_map _
 rw [← hws] at hwl hpos hmax hs60 ⊢
 have hwg:∀ {i:Nat} (h:i < ms.length),ws.getD i 0 = ms[i].wt:=fun h=>by rw [hws];exact hwg h
 rw [← hids] at hnd
 clear hids hws
 refine Ret.of_WP Tryz.func42 rfl Tryz.ntmps42 rfl ?_
 have hp:=Hp.start (M:=[]) (w:=w)
 (repeat (first|(with_reducible first|apply qF|apply qA|apply qE|apply qB)|((first|apply wlp|(apply wlg;exact rfl;exact rfl));(intros;((first|apply qC|apply qD|(apply jC;exact rfl)|exact qAq rfl rfl rfl|apply jA|apply zA)<;>(first|exact rfl|exact jR rfl (by assumption))));(intros;(first|exact fI rfl|exact fB rfl|exact fS rfl)))))
 refine zT rfl (fun h=>absurd h (by simp;omega)) (fun _=>?_)
 (repeat (with_reducible first|apply qF|apply qA|apply qB|apply qL))
 (apply wls;exact kA kInt hp;rintro _ w1 ⟨mb,rfl,hp⟩)
 rw [← qD1 ids] at hp
 (repeat (first|(with_reducible first|apply qF|apply qK|apply qA|apply qE|apply qB)|(apply wlp;((first|apply qC|apply qD|(apply jC;exact rfl))<;>exact rfl);(first|exact fI rfl|exact fS rfl|exact fM rfl))))
 refine jE ([2,3,5,7] ++ List.range' 23 26) (fun (i:Nat) F=>(F.put 23 (.int .i64 (i:Int))).put 5 (.int .i64 ((ws.take i).sum:Int)))
  (fun i w'=>i≤ms.length∧Hp w [] w' [qAv kInt mb (wH (inL ids i))]) (fun i=>ms.length - i) 0 (qG (qG (Same.eq .refl) rfl) rfl) ⟨Nat.zero_le _,hp⟩ ?_
 clear hp
 rintro u0 i w2 ⟨hi,hp⟩
 have hle:=zU ws i
 (repeat (first|(with_reducible first|apply qF|apply qA|apply qE|apply qB)|(apply wlp;(apply jA<;>exact rfl);exact fB rfl)))
 refine qM rfl (fun h=>?_) (fun h=>?_)
 ·have hlt:i < ms.length:=by omega
  have hlti:i < ids.length:=by omega
  obtain ⟨b0,o0,hs0,hc0⟩:=hs.base (by omega)
  have hci:=hc0 i _ (List.getElem?_eq_getElem hlt)
  have hnx:=yF ws i
  have hle2:=zU ws (i + 1)
  have hw1:=hpos _ (uB (l:=ws) (i:=i) (by omega))
  have hw2:=hmax _ (uB (l:=ws) (i:=i) (by omega))
  have hnew:=qEi hnd hlti
  have hsucc:=qD2 hlti
  have hgi:=hwg hlt
  have hbi:=hib _ (List.getElem_mem hlt)
  have hpi:=hpb _ (List.getElem_mem hlt)
  rw [hig hlt hlti] at hnew hsucc
  generalize ms[i] = m at hci hnew hsucc hgi hbi hpi
  obtain ⟨id,wt,pb⟩:=m
  dsimp only at hnew hsucc hgi hbi hpi
  rw [hgi] at hw1 hw2 hnx
  (repeat (first|(with_reducible first|apply qF|apply qK|apply qA|apply qB|apply qL)|(apply wlp;((first|(apply jQ;exact rfl)|(apply qR;exact rfl))<;>(first|exact rfl|assumption));exact fP rfl)))
  (apply wlp;exact zP (vs:=eMe ⟨id,wt,pb⟩) rfl rfl rfl rfl (fun j v hv=>hp.old0 (hci j v hv));exact fA3 rfl)
  (apply wls;exact yA hp (jD rfl);rintro _ w3 ⟨mbk,rfl,hp⟩)
  (apply zG;exact vK hp 0 rfl rfl rfl rfl (qQ rfl) rfl;rintro _ w4 ⟨rfl,hp⟩)
  have hp:=hp.norm 0 [.int .i64 (id:Int),.int .i64 (wt:Int),.int .i64 (pb:Int)] rfl rfl
  (repeat (with_reducible first|apply qF|apply qA|apply qE|apply qB))
  (apply wlp;apply qC;exact fM rfl)
  (apply wlp;(apply qS<;>exact rfl);exact fP rfl)
  (apply wlp;((apply qJ;exact rfl)<;>(first|exact rfl|exact hp.cell 0 rfl rfl));exact fI rfl)
  (apply wlp;exact qA4 (a:=(id:Int)) hp 1 rfl rfl rfl (zK (t:=92) rfl).1 (zK (t:=92) rfl).2.1 (zK (t:=92) rfl).2.2;exact (qAz _ _).trans (congrArg Value.bool hnew))
  (apply wlp;apply qC;exact fB rfl)
  ((apply jO;exact rfl;exact rfl);((apply qS<;>exact rfl));(intros;exact fP rfl))
  ((apply jO;exact rfl;exact rfl);(((apply qJ;exact rfl)<;>(first|exact rfl|exact hp.cell 0 rfl rfl)));(intros;exact fI rfl))
  (apply jO;exact rfl;exact rfl;(exact jA rfl rfl);exact jF (b:=false) (decide_eq_false (by omega)))
  (apply wlp;exact jU rfl rfl;exact fB rfl)
  (apply wlp;apply qC;exact fB rfl)
  ((apply jO;exact rfl;exact rfl);((apply qS<;>exact rfl));(intros;exact fP rfl))
  ((apply jO;exact rfl;exact rfl);(((apply qJ;exact rfl)<;>(first|exact rfl|exact hp.cell 0 rfl rfl)));(intros;exact fI rfl))
  (apply jO;exact rfl;exact rfl;(exact zA rfl rfl);exact jF (b:=false) (decide_eq_false (by omega)))
  (apply wlp;exact jU rfl rfl;exact fB rfl)
  (repeat (with_reducible first|apply qE|apply qB))
  refine jI rfl ?_
  (repeat (first|(with_reducible first|apply qF|apply qA|apply qB|apply qL)|(apply wlp;((first|apply qC|apply qS|(apply qJ;exact rfl))<;>(first|exact rfl|exact hp.cell 0 rfl rfl));(first|exact fI rfl|exact fP rfl|exact fM rfl))))
  (apply zG;exact qA3 (a:=(id:Int)) hp 1 rfl rfl rfl rfl (zK (t:=92) rfl).1 (zK (t:=92) rfl).2.1;rintro _ w5 ⟨rfl,hp⟩)
  rw [hsucc] at hp
  (repeat (first|(with_reducible first|apply qA|apply qE|apply qB)|(apply wlp;((first|apply qC|apply qS|(apply qJ;exact rfl))<;>(first|exact rfl|exact hp.cell 0 rfl rfl));(first|exact fI rfl|exact fP rfl))))
  (apply wlp;(exact qY rfl rfl);exact qI (b:=(((ws.take (i + 1)).sum:Nat):Int)) (by rw [qN (by omega) (by omega)];omega))
  (repeat (first|(with_reducible first|apply qA|apply qE|apply qB|apply qZ)|(apply wlp;apply qD;exact fI rfl)))
  (apply wlp;(exact qY rfl rfl);exact qI (b:=((i + 1:Nat):Int)) (by rw [qN (by omega) (by omega)];omega))
  (repeat (first|(with_reducible first|apply qE|apply qB)|(apply wlp;apply qC;exact fI rfl)))
  exact ⟨i + 1,qG (qG (Same.eq (by repeat (first|exact Same.hav|exact Same.refl|refine Same.put rfl ?_|refine Same.havs rfl ?_))) rfl) rfl,⟨by omega,hp.tail⟩,by omega⟩
 obtain rfl:i = ms.length:=by omega
 have e1:(ws.take ms.length).sum = ws.sum:=by rw [← hwl,List.take_length]
 rw [e1]
 (repeat (first|(with_reducible first|apply qF|apply qA|apply qE|apply qB|apply qO|apply jB)|((with_reducible apply qP);exact rfl)|(apply wlp;((first|apply qC|apply zA)<;>exact rfl);(first|exact fI rfl|exact fB rfl))))
 refine qM rfl (fun h=>absurd h (by omega)) (fun _=>?_)
 (repeat (first|(with_reducible first|apply qF|apply qA|apply qB|apply qL)|(apply wlp;((first|apply qC|(apply jC;exact rfl))<;>exact rfl);(first|exact fI rfl|exact fS rfl))))
 have hp:=Hp.nils (hp.takeN 0) ms.length
 rw [List.take_zero,List.append_nil] at hp
 (apply wls;exact vL eNR ⟨none,0,[]⟩ hp rfl rfl rfl rfl rfl rfl rfl (by omega) rfl;rintro _ w6 ⟨b,rfl,hv,hp⟩)
 have hI:=PtI.zero ws
 rw [hwl] at hI
 have hp:Hp w [] w6 (ptL b ms.length (List.replicate ms.length ⟨none,0,[]⟩)):=hp
 have hvl:∀ rs:List NRow,rs.length = ws.length→SVL (some ⟨b,0,none⟩) ms.length rs:=fun rs h=>wM hv (by rw [h,List.length_replicate,hwl])
 clear hv hle e1
 (repeat (first|(with_reducible first|apply qF|apply qK|apply qA|apply qE|apply qB)|(apply wlp;((first|apply qC|apply qD|(apply jC;exact rfl))<;>exact rfl);(first|exact fI rfl|exact fS rfl))))
 refine jE ([9,10,11] ++ List.range' 56 23) (fun (X:Nat × List NRow) F=>(F.put 56 (.int .i64 (X.1:Int))).put 9 (.int .i64 ((1 + (ws.take X.1).sum:Nat):Int)))
  (fun X w'=>X.1≤ms.length∧PtI ws X.1 0 X.2∧Hp w [] w' (ptL b ms.length X.2)) (fun X=>ms.length - X.1) (0,_) (qG (qG (Same.eq .refl) rfl) rfl) ⟨Nat.zero_le _,hI,hp⟩ ?_
 clear hp hI
 rintro u1 ⟨i,rs⟩ w7 ⟨hi,hI,hp⟩
 dsimp only at hi hI hp ⊢
 have hle:=zU ws i
 (repeat (first|(with_reducible first|apply qF|apply qA|apply qE|apply qB)|(apply wlp;(apply jA<;>exact rfl);exact fB rfl)))
 refine qM rfl (fun h=>?_) (fun h=>?_)
 ·have hlt:i < ms.length:=by omega
  obtain ⟨b0,o0,hs0,hc0⟩:=hs.base (by omega)
  have hci:=hc0 i _ (List.getElem?_eq_getElem hlt)
  have hnx:=yF ws i
  have hle2:=zU ws (i + 1)
  have hw2:=hmax _ (uB (l:=ws) (i:=i) (by omega))
  have hgi:=hwg hlt
  generalize ms[i] = m at hci hgi
  obtain ⟨id,wt,pb⟩:=m
  dsimp only at hgi
  (repeat (first|(with_reducible first|apply qF|apply qK|apply qA|apply qB|apply qL)|(apply wlp;((first|apply qC|(apply jQ;exact rfl)|(apply qR;exact rfl))<;>(first|exact rfl|assumption));(first|exact fI rfl|exact fP rfl))))
  (apply wlp;exact zP (vs:=eMe ⟨id,wt,pb⟩) rfl rfl rfl rfl (fun j v hv=>hp.old0 (hci j v hv));exact fA3 rfl)
  (apply wls;exact yA hp (jD rfl);rintro _ w8 ⟨mbk,rfl,hp⟩)
  (repeat (apply wlp;apply qD;exact fI rfl))
  (apply zG;exact vK hp 0 rfl rfl rfl rfl (qQ rfl) rfl;rintro _ w9 ⟨rfl,hp⟩)
  have hp:=hp.norm 0 [.int .i64 (id:Int),.int .i64 (wt:Int),.int .i64 (pb:Int)] rfl rfl
  (repeat (first|(with_reducible first|apply qF|apply qK|apply qA|apply qE|apply qB)|(apply wlp;((first|apply qC|apply qS|(apply qJ;exact rfl))<;>(first|exact rfl|exact hp.cell 0 rfl rfl));(first|exact fI rfl|exact fP rfl))))
  have hp:=hp.tail
  refine jE ([9] ++ List.range' 63 15) (fun (X:Nat × List NRow) F=>(F.put 63 (.int .i64 (X.1:Int))).put 9 (.int .i64 ((1 + (ws.take i).sum + X.1:Nat):Int)))
   (fun X w'=>X.1≤wt∧PtI ws i X.1 X.2∧Hp w [] w' (ptL b ms.length X.2)) (fun X=>wt - X.1) (0,_) (qG (qG (Same.eq .refl) rfl) rfl) ⟨Nat.zero_le _,hI,hp⟩ ?_
  clear hI
  (repeat clear hp)
  clear rs
  rintro u2 ⟨j,rs⟩ w10 ⟨hj,hI,hp⟩
  dsimp only at hj hI hp ⊢
  (repeat (first|(with_reducible first|apply qF|apply qA|apply qE|apply qB)|(apply wlp;(apply jA<;>exact rfl);exact fB rfl)))
  refine qM rfl (fun h=>?_) (fun h=>?_)
  ·have hltj:j < wt:=by omega
   have hir:i < rs.length:=by rw [hI.len,hwl];exact hlt
   have hvr:=hI.svl _ (List.getElem_mem hir)
   have hgr:=List.getElem?_eq_getElem hir
   have hstep:=fun s' c' hv=>hI.step (s':=s') (c':=c') hir hv
   have hrl:(rs[i]).l.length≤100:=by
    rw [hI.row i hir]
    unfold plW
    rw [if_neg (by omega),if_pos rfl,List.length_range']
    omega
   have hv0:=hvl rs hI.len
   generalize rs[i] = r at hvr hgr hstep hrl
   obtain ⟨rs1,rc,rl⟩:=r
   dsimp only at hvr hstep hrl
   (repeat (with_reducible first|apply qF|apply qK|apply qA|apply qB|apply qL))
   (apply wlp;apply qC;exact fS rfl)
   (apply wlp;apply qC;exact fI rfl)
   (apply wlp;apply qC;exact fS rfl)
   (apply wlp;apply qC;exact fI rfl)
   (apply wlp;exact qR rfl rfl rfl rfl (by exact hlt);exact fP rfl)
   (apply wlp;exact qJ rfl rfl (xK hp 0 rfl hv0 (fun _=>rfl) hgr 0 _ rfl);exact fS rfl)
   (apply wlp;apply qC;exact fI rfl)
   (apply wls;exact jP hp rfl rfl rfl rfl rfl rfl rfl;rintro _ w11 ⟨nb,rfl,hp⟩)
   (apply wls;exact zL eN rl (1 + (ws.take i).sum + j) hp (i + 2) 0 rfl rfl rfl rfl rfl rfl (fun _=>rfl) rfl rfl (by
    show (rs.map wU)[i]? = _
    rw [List.getElem?_map,hgr]
    rfl) hvr rfl rfl (by omega);rintro _ w12 ⟨s',c',rfl,hv',hp⟩)
   have hI2:=hstep s' c' hv'
   have hp:Hp w [] w12 (qW eNR 23 1 (some ⟨b,0,none⟩) ms.length rs :: (rs.map wU).set i (wU ⟨s',c',rl ++ [1 + (ws.take i).sum + j]⟩)):=hp.tail
   (apply wlp;exact qR rfl rfl rfl rfl (by exact hlt);exact fP rfl)
   (apply zG;exact xO eNR rs i ⟨s',c',rl ++ [1 + (ws.take i).sum + j]⟩ hp 0 rfl hv0 hir rfl rfl (fun _=>rfl) rfl rfl (qQ rfl);rintro _ w13 ⟨rfl,hp⟩)
   have hp:Hp w [] w13 (qW eNR 23 1 (some ⟨b,0,none⟩) ms.length (rs.set i ⟨s',c',rl ++ [1 + (ws.take i).sum + j]⟩) :: (rs.map wU).set i (wU ⟨s',c',rl ++ [1 + (ws.take i).sum + j]⟩)):=hp
   rw [← List.map_set] at hp
   (repeat (first|(with_reducible first|apply qA|apply qE|apply qB)|(apply wlp;apply qC;exact fI rfl)))
   (apply wlp;(exact qY rfl rfl);exact qI (b:=((1 + (ws.take i).sum + (j + 1):Nat):Int)) (by rw [qN (by omega) (by omega)];omega))
   (repeat (first|(with_reducible first|apply qA|apply qE|apply qB|apply qZ)|(apply wlp;apply qD;exact fI rfl)))
   (apply wlp;(exact qY rfl rfl);exact qI (b:=((j + 1:Nat):Int)) (by rw [qN (by omega) (by omega)];omega))
   (repeat (first|(with_reducible first|apply qE|apply qB)|(apply wlp;apply qC;exact fI rfl)))
   exact ⟨(j + 1,rs.set i ⟨s',c',rl ++ [1 + (ws.take i).sum + j]⟩),qG (qG (Same.eq (by repeat (first|exact Same.hav|exact Same.refl|refine Same.put rfl ?_|refine Same.havs rfl ?_))) rfl) rfl,⟨by dsimp only;omega,hI2,hp⟩,by dsimp only;omega⟩
  obtain rfl:j = wt:=by omega
  rw [← hgi] at hI
  have hI2:=hI.next
  have e1:1 + (ws.take i).sum + j = 1 + (ws.take (i + 1)).sum:=by omega
  rw [e1]
  (repeat (first|(with_reducible first|apply qA|apply qB|apply qZ|apply qO|apply jB)|((with_reducible apply qP);exact rfl)))
  (apply wlp;(exact qY rfl rfl);exact qI (b:=((i + 1:Nat):Int)) (by rw [qN (by omega) (by omega)];omega))
  (repeat (first|(with_reducible first|apply qE|apply qB)|(apply wlp;apply qC;exact fI rfl)))
  exact ⟨(i + 1,rs),qG (qG (Same.eq (by repeat (first|exact Same.hav|exact Same.refl|refine Same.put rfl ?_|refine Same.havs rfl ?_))) rfl) rfl,⟨by dsimp only;omega,hI2,hp⟩,by dsimp only;omega⟩
 obtain rfl:i = ms.length:=by omega
 rw [← hwl] at hI
 have hdone:=hI.done
 have hv0:=hvl rs hI.len
 have hrl:ms.length = rs.length:=by rw [hI.len,hwl]
 (repeat (first|(with_reducible first|apply qF|apply qA|apply qE|apply qB|apply qO|apply qT|apply jB)|((with_reducible apply qP);exact rfl)|(apply wlp;(first|apply qC|apply qD);(first|exact fB rfl|exact fS rfl))))
 refine zX rfl rfl rfl ⟨_,rfl,b,rs,?_,⟨hv0,hI.svl⟩,hdone,hp⟩
 rw [hrl]
 rfl
end Go.Proofs.YtbgldmoikimmpaaGreatDoor
namespace Go.Proofs.YtbgldmoikimmpaaGreatDoor
open Go.Eng Go.Dig Go.Sha Go.Lag Go.Grp Go.Sp
def nxC (S:List Nat) (ds:List DlV) (j:Nat):Nat:=lft S (ds.map fun d=>d.cs.getD j 0)
structure AgOk (k:KyV) (ws:List Nat) (ms:List Mem) (S:List Nat) (ds:List DlV):Prop where
 ko:KyOk k ws
 mo:MsOk ms
 pts:Pts S
 sl:S.length = k.cs.length
 dl:ds.length = S.length
 dok:∀ d ∈ ds,DlOk d (zC ms).sum∧d.cs.length = ndN (zC ms).sum
 le:∀ x ∈ S,x≤ws.sum
 fst:∀ i (h:i < S.length) (h2:i < ds.length),(ds[i]).cs.getD 0 0 = atP k.cs S[i]
attribute [local irreducible] PV StepF wpl wpd WP Ret
attribute [local irreducible] Fit ofN xD hv scP xN yC yY atP Mb inL fac zB inP lft
set_option maxHeartbeats 8000000 in
theorem p13 (k:KyV) (ws:List Nat) (ms:List Mem) (S:List Nat) (ds:List DlV) (sM sF sD:Option Addr) (cM cF cD:Nat) (w:World) (hk:KyAt w k) (hM:SlAt w 3 eMe sM ms) (hF:SlAt w 1 eN sF S) (hD:SlAt w 3 eDl sD ds) (hDa:∀ d ∈ ds,DlAt w d) (ho:AgOk k ws ms S ds) :
  Ret Tryz.prog 13 [.agg (eKy k).toArray,.slice sM ms.length cM,.slice sF S.length cF,.slice sD ds.length cD] w
   (fun v w'=>∃ b rs cb,v = .tuple #[.agg #[.slice (some ⟨cb,0,none⟩) (ndN (zC ms).sum) (ndN (zC ms).sum),.slice (some ⟨b,0,none⟩) rs.length ms.length],.bool true]∧RwOk b ms.length rs∧kD rs = wJ 1 (zC ms) ∧
    SVL (some ⟨cb,0,none⟩) (ndN (zC ms).sum) ((List.range (ndN (zC ms).sum)).map (nxC S ds)) ∧
    Hp w [] w' (qW eN 3 1 (some ⟨cb,0,none⟩) (ndN (zC ms).sum) ((List.range (ndN (zC ms).sum)).map (nxC S ds)) :: ptL b ms.length rs)):=by
 obtain ⟨hko,hmo,hP,hsl,hdl,hdok,hle,hfst⟩:=ho
 have hk28:=fun (w':World) (hka:KyAt w' k)=>p28 k ws w' hka hko
 have hw60:=hko.wo.sum
 have hwsp:=hko.wo.sp
 have hrsum:=hko.sum
 have hcl:=hko.nd
 have hcmb:=hko.mb
 have hrl:=hko.len
 have hrlw:=hko.wo.len
 have hm60:=hmo.wo.sum
 have hmsp:=hmo.wo.sp
 obtain ⟨hml1,hml2⟩:=hmo.len
 have hndm:=yO hmsp
 have hndp:=vM (zC ms).sum
 obtain ⟨n,hn⟩:∃ n,n = (zC ms).sum:=⟨_,rfl⟩
 obtain ⟨nd,hnd⟩:∃ nd,nd = ndN n:=⟨_,rfl⟩
 rw [← hn] at hm60 hmsp hndm hdok hndp ⊢
 rw [← hnd] at hndm hdok hndp ⊢
 have hkeep:=fun {w':World} (h:Keeps [] w w')=>hk.keep h
 have hcs:=hk.cs
 have hrs:=hk.rs
 obtain ⟨s1,c1,cs,s2,c2,rk⟩:=k
 have hE:eKy ⟨s1,c1,cs,s2,c2,rk⟩ = [.slice s1 cs.length c1,.slice s2 rk.length c2]:=rfl
 rw [hE] at hk28 ⊢
 dsimp only at hcl hcmb hrsum hcs hrs hrl hsl hfst
 have hcs2:cs.length≤60:=by
  have:=yO hwsp
  omega
 have hP0:S ≠ []:=by
  intro h
  rw [h] at hsl
  have:=vM ws.sum
  rw [← hcl,← hsl] at this
  cases this
 have hSpos:0 < S.length:=List.length_pos_iff.2 hP0
 refine Ret.of_WP Tryz.func13 rfl Tryz.ntmps13 rfl ?_
 have hp:=Hp.start (M:=[]) (w:=w)
 (repeat (with_reducible first|apply qF|apply qA))
 (apply wls;exact uY hp rfl;rintro _ w1 ⟨b4,rfl,hp⟩)
 (apply wls;exact vA hp (jD rfl);rintro _ w2 ⟨b8,rfl,hp⟩)
 (repeat (first|(with_reducible first|apply qF|apply qA|apply qE|apply qB)|(apply wlp;((first|apply qD|(apply jQ;exact rfl))<;>(first|exact rfl|exact hp.agg_blk 1 rfl rfl));(first|exact fB rfl|exact fA2 rfl))))
 (apply wls;exact qH rfl qVd rfl (hk28 _ (hkeep hp.keeps));rintro _ w3 ⟨rfl,hk⟩;have hp:=hp.call hk)
 (apply wlp;(apply zI<;>exact rfl);exact fB rfl)
 (apply wlp;apply qC;exact fB rfl)
 ((apply jO;exact rfl;exact rfl);(apply qC);(intros;exact fS rfl))
 ((apply jO;exact rfl;exact rfl);(((apply jC;exact rfl)<;>exact rfl));(intros;exact fI rfl))
 ((apply jO;exact rfl;exact rfl);((apply qS<;>exact rfl));(intros;exact fP rfl))
 ((apply jO;exact rfl;exact rfl);(((apply qJ;exact rfl)<;>(first|exact rfl|exact hp.cell 1 rfl rfl)));(intros;exact fS rfl))
 ((apply jO;exact rfl;exact rfl);(((apply jC;exact rfl)<;>exact rfl));(intros;exact fI rfl))
 (apply jO;exact rfl;exact rfl;(exact zJ rfl rfl);exact jF (b:=false) (ndf (by omega)))
 (apply wlp;exact jU rfl rfl;exact fB rfl)
 (apply wlp;apply qC;exact fB rfl)
 ((apply jO;exact rfl;exact rfl);(apply qC);(intros;exact fS rfl))
 ((apply jO;exact rfl;exact rfl);(((apply jC;exact rfl)<;>exact rfl));(intros;exact fI rfl))
 ((apply jO;exact rfl;exact rfl);(apply qC);(intros;exact fS rfl))
 ((apply jO;exact rfl;exact rfl);(((apply jC;exact rfl)<;>exact rfl));(intros;exact fI rfl))
 (apply jO;exact rfl;exact rfl;(exact zJ rfl rfl);exact jF (b:=false) (ndf (by omega)))
 (apply wlp;exact jU rfl rfl;exact fB rfl)
 (apply wlp;apply qC;exact fB rfl)
 ((apply jO;exact rfl;exact rfl);(apply qC);(intros;exact fS rfl))
 (apply qAu;exact rfl;exact rfl;exact qH rfl qVb rfl (p41 S sF cF _ (hF.keep0 hp.keeps) hP (by omega));rintro _ w4 ⟨rfl,hk⟩;have hp:=hp.call hk)
 ((apply jO;exact rfl;exact rfl);((apply zI<;>exact rfl));(intros;exact fB rfl))
 (apply wlp;exact jU rfl rfl;exact fB rfl)
 (repeat (with_reducible first|apply qE|apply qB))
 refine jI rfl ?_
 (repeat (first|(with_reducible first|apply qF|apply qA|apply qB|apply qL)|(apply wlp;apply qC;exact fS rfl)))
 (apply wls;exact qH rfl jAt rfl (p42 ms sM cM _ (hM.keep0 hp.keeps) hmo);rintro _ w5 ⟨b,rs,rfl,hrw,hrN,hpo⟩;have hp:=hp.joinT [qW eNR 23 1 (some ⟨b,0,none⟩) ms.length rs] (rs.map wU) hpo;clear hpo)
 have hrs2:rs.length = ms.length:=by
  have:=congrArg List.length hrN
  unfold kD at this
  rw [List.length_map,qA6,uX] at this
  exact this
 have hrs3:wT rs = n:=by
  have e:(kD rs).map List.length = rs.map fun r=>r.l.length:=by
   unfold kD
   rw [List.map_map]
   rfl
  unfold wT
  rw [← e,hrN,qF5,← hn]
 have hp:Hp w [] w5 ([qW eNR 23 1 (some ⟨b,0,none⟩) ms.length rs] ++ ([blk b8 2 (qV [.slice none 0 0,.slice none 0 0]) 27,blk b4 2 (qV [.slice s1 cs.length c1,.slice s2 rk.length c2]) 27] ++ rs.map wU)):=hp
 have hrow:∀ {W:World} {A:List Ent},Hp w [] W (A ++ ([qW eNR 23 1 (some ⟨b,0,none⟩) ms.length rs] ++ ([blk b8 2 (qV [.slice none 0 0,.slice none 0 0]) 27,blk b4 2 (qV [.slice s1 cs.length c1,.slice s2 rk.length c2]) 27] ++ rs.map wU)))→RowsAt W (some ⟨b,0,none⟩) rs:=fun h=>qLq h hrw fun p hp=>by
  rcases List.mem_cons.1 hp with rfl|hp
  ·simp
  ·simp only [List.mem_append]
   exact .inr (.inr (.inr hp))
 (repeat (first|(with_reducible first|apply qF|apply qA|apply qE|apply qB)|((first|apply wlp|(apply wlg;exact rfl;exact rfl));(intros;((first|apply qC|apply qD|apply zI|apply jK)<;>exact rfl));(intros;(first|exact fB rfl|exact fS rfl|exact fU rfl)))))
 (repeat (first|(apply vS;exact rfl;exact rfl;exact rfl)|(apply vR;exact rfl;exact rfl)))
 (apply qAu;exact rfl;exact rfl;exact qH rfl qQf rfl (p44 rs _ ms.length _ (hrow (A:=[]) hp) (by omega) (by omega));rintro _ w6 ⟨rfl,hk⟩;have hp:=hp.call hk)
 rw [hrs3]
 (apply qAu;exact rfl;exact rfl;exact qH rfl jAs rfl (p43 ds n sD cD _ (hD.keep0 hp.keeps) (fun d hd=>(hDa d hd).keep hp.keeps) (by rw [← hnd];exact hdok) hmsp (by omega) (by omega));rintro _ w7 ⟨rfl,hk⟩;have hp:=hp.call hk)
 ((apply jO;exact rfl;exact rfl);((apply zI<;>exact rfl));(intros;exact fB rfl))
 (apply wlp;exact jU rfl rfl;exact fB rfl)
 (repeat (with_reducible first|apply qE|apply qB))
 refine jI rfl ?_
 (repeat (first|(with_reducible first|apply qF|apply qK|apply qA|apply qE|apply qB|apply qL)|(apply wlp;((first|apply qC|(apply jC;exact rfl))<;>exact rfl);(first|exact fI rfl|exact fS rfl))))
 refine jE ([9,12,13] ++ List.range' 60 26) (fun (i:Nat) F=>F.put 60 (.int .i64 (i:Int)))
  (fun i w'=>i≤S.length∧Hp w [] w' ([qW eNR 23 1 (some ⟨b,0,none⟩) ms.length rs] ++ ([blk b8 2 (qV [.slice none 0 0,.slice none 0 0]) 27,blk b4 2 (qV [.slice s1 cs.length c1,.slice s2 rk.length c2]) 27] ++ rs.map wU))) (fun i=>S.length - i) 0 (qG (Same.eq .refl) rfl) ⟨Nat.zero_le _,hp⟩ ?_
 (repeat clear hp)
 rintro u0 i w8 ⟨hi,hp⟩
 (repeat (first|(with_reducible first|apply qF|apply qA|apply qE|apply qB)|(apply wlp;(apply jA<;>exact rfl);exact fB rfl)))
 refine qM rfl (fun h=>?_) (fun h=>?_)
 ·have hlt:i < S.length:=by omega
  have hltd:i < ds.length:=by omega
  obtain ⟨b0,o0,hs0,hc0⟩:=hF.base (by omega)
  have hci:=hc0 i _ (List.getElem?_eq_getElem hlt) 0 _ rfl
  obtain ⟨b1,o1,hs1,hc1⟩:=hD.base (by omega)
  have hcj:=hc1 i _ (List.getElem?_eq_getElem hltd)
  have hxb:=qF6 hP hlt
  have hxl:=hle _ (List.getElem_mem hlt)
  have hfi:=hfst i hlt hltd
  have hda:=hDa _ (List.getElem_mem hltd)
  obtain ⟨hdo,hdn⟩:=hdok _ (List.getElem_mem hltd)
  have hd1:=hdo.cl
  generalize S[i] = x at hci hxb hxl hfi
  generalize ds[i] = d at hcj hfi hda hdn hd1
  obtain ⟨d1,e1,dcs,dpt,d2,e2,dbx⟩:=d
  have hda:=hda.cs
  dsimp only at hda hdn hfi hd1
  have hcj:w.cell? ⟨b1,o1 + i * 3 + 0,none⟩ = some (.slice d1 dcs.length e1):=hcj 0 _ rfl
  obtain ⟨b2,o2,hs2,hc2⟩:=hda.base (by omega)
  have hcd:=hc2 0 _ (List.getElem?_eq_getElem (by omega)) 0 _ rfl
  rw [← xV (l:=dcs) (i:=0) (by omega),hfi] at hcd
  have hat:=qRv cs x
  have hz0:0 < dcs.length:=by omega
  (repeat (first|(with_reducible first|apply qF|apply qK|apply qA|apply qE|apply qB|apply qL)|(apply wlp;((first|apply qC|apply qD|(apply qJ;exact rfl)|(apply qR;exact rfl))<;>(first|exact rfl|assumption|exact hp.old0 (by assumption)));(first|exact fI rfl|exact fP rfl))))
  refine jX jW (by kernel_rfl) (fun w'=>Hp _ _ w' _) hp.drew ?_
  have hp:=hp.drew
  (repeat ((apply wdp;exact rfl);(intro w hp;intros;((first|apply qC|apply qS|(apply qJ;exact rfl))<;>(first|exact rfl|exact hp.cell 2 rfl rfl)));(intros;(first|exact fI rfl|exact fP rfl|exact fS rfl))))
  (apply wds;exact rfl;exact qH rfl qQf rfl (p44 rk s2 c2 _ (hrs.keep hp.keeps) (by omega) (by omega));rintro _ w9 ⟨rfl,hk⟩;have hp:=hp.call hk;refine ⟨hp,?_⟩)
  rw [hrsum]
  (apply wdp;exact rfl;(intro w hp;exact zA rfl rfl);exact jF (b:=false) (decide_eq_false (by omega)))
  (apply wdp;exact rfl;(intro w hp;exact qC);exact fB rfl)
  (repeat (first|((apply vD;exact rfl;exact rfl;exact rfl);(intro w hp;((first|apply qC|apply qS|(apply qJ;exact rfl)|(apply qR;exact rfl))<;>(first|exact rfl|assumption|exact hp.cell 2 rfl rfl|exact hp.old0 (by assumption))));(intros;(first|exact fI rfl|exact fP rfl|exact fS rfl)))|(apply uN;exact rfl;exact rfl;exact rfl;exact rfl)|(apply uM;exact rfl;exact rfl;exact rfl)))
  (apply qEs;exact rfl;exact rfl;exact rfl;exact qH rfl qQe rfl (p45 cs x s1 c1 _ (hcs.keep0 hp.keeps) (by omega) (by omega) (fun a ha=>kQ (hcmb a ha)));rintro _ w10 ⟨rfl,hk⟩;have hp:=hp.call hk;refine ⟨hp,?_⟩)
  (apply vD;exact rfl;exact rfl;exact rfl;(intro w hp;exact zJ rfl rfl);exact jF (b:=false) (ndf (by omega)))
  (apply wdp;exact rfl;(intro w hp;exact jU rfl rfl);exact fB rfl)
  refine jL ?_
  (repeat with_reducible apply qB)
  refine jI rfl ?_
  (repeat (with_reducible first|apply qA|apply qB|apply qZ|apply qL))
  (apply wlp;(exact qY rfl rfl);exact qI (b:=((i + 1:Nat):Int)) (by rw [qN (by omega) (by omega)];omega))
  (repeat (first|(with_reducible first|apply qE|apply qB)|(apply wlp;apply qC;exact fI rfl)))
  exact ⟨i + 1,qG (Same.eq (by repeat (first|exact Same.hav|exact Same.refl|refine Same.put rfl ?_|refine Same.havs rfl ?_))) rfl,⟨by omega,hp⟩,by omega⟩
 clear hi
 (repeat (first|(with_reducible first|apply qF|apply qA|apply qB|apply qO|apply jB)|((with_reducible apply qP);exact rfl)|(apply wlp;apply qC;exact fS rfl)))
 (apply wls;exact qH rfl qQf rfl (p44 rs _ ms.length _ (hrow (A:=[]) hp) (by omega) (by omega));rintro _ w11 ⟨rfl,hk⟩;have hp:=hp.call hk)
 rw [hrs3]
 (apply wls;exact qH rfl qQd rfl (p46 n _ hmsp (by omega));rintro _ w12 ⟨rfl,hk⟩;have hp:=hp.call hk)
 rw [← hnd]
 (apply wls;exact vL eN 0 hp rfl rfl rfl rfl rfl rfl rfl (by omega) rfl;rintro _ w13 ⟨cb,rfl,hvc,hp⟩)
 have hvc:∀ l:List Nat,l.length = nd→SVL (some ⟨cb,0,none⟩) nd l:=fun l h=>wM hvc (by rw [h,List.length_replicate])
 have h0:fz (nxC S ds) 0 (List.range nd) 0 = List.replicate nd 0:=by rw [qI4,List.length_range]
 rw [← h0] at hp
 have hfl:∀ j,j≤nd→(fz (nxC S ds) 0 (List.range nd) j).length = nd:=fun j hj=>by rw [qI5 (by rw [List.length_range];exact hj),List.length_range]
 (repeat (first|(with_reducible first|apply qF|apply qK|apply qA|apply qE|apply qB)|(apply wlp;((first|apply qC|apply qD|(apply jC;exact rfl))<;>exact rfl);(first|exact fI rfl|exact fS rfl))))
 refine jE ([15,16,17,18] ++ List.range' 92 29) (fun (j:Nat) F=>F.put 92 (.int .i64 (j:Int)))
  (fun j w'=>j≤nd∧Hp w [] w' (qW eN 3 1 (some ⟨cb,0,none⟩) nd (fz (nxC S ds) 0 (List.range nd) j) :: ([qW eNR 23 1 (some ⟨b,0,none⟩) ms.length rs] ++ ([blk b8 2 (qV [.slice none 0 0,.slice none 0 0]) 27,blk b4 2 (qV [.slice s1 cs.length c1,.slice s2 rk.length c2]) 27] ++ rs.map wU)))) (fun j=>nd - j) 0 (qG (Same.eq .refl) rfl) ⟨Nat.zero_le _,hp⟩ ?_
 (repeat clear hp)
 rintro u1 j w14 ⟨hj,hp⟩
 (repeat (first|(with_reducible first|apply qF|apply qA|apply qE|apply qB)|(apply wlp;(apply jA<;>exact rfl);exact fB rfl)))
 refine qM rfl (fun h=>?_) (fun h=>?_)
 ·have hlt:j < nd:=by omega
  have hfj:=hfl j hj
  have hset:=qKy (f:=nxC S ds) (d:=0) (l:=List.range nd) (i:=j) (by rw [List.length_range];exact hlt)
  rw [List.getElem_range] at hset
  (repeat (first|(with_reducible first|apply qF|apply qK|apply qA|apply qE|apply qB|apply qL)|(apply wlp;((first|apply qC|apply qD|(apply jC;exact rfl))<;>exact rfl);(first|exact fI rfl|exact fS rfl))))
  (apply wls;exact vL eN 0 hp rfl rfl rfl rfl rfl rfl rfl (by omega) rfl;rintro _ w15 ⟨nb,rfl,hvn,hp⟩)
  have hvn:∀ l:List Nat,l.length = ds.length→SVL (some ⟨nb,0,none⟩) ds.length l:=fun l h=>wM hvn (by rw [h,List.length_replicate])
  have h1:fz (fun d:DlV=>d.cs.getD j 0) 0 ds 0 = List.replicate ds.length 0:=qI4
  rw [← h1] at hp
  (repeat (first|(with_reducible first|apply qF|apply qK|apply qA|apply qE|apply qB)|(apply wlp;((first|apply qC|apply qD|(apply jC;exact rfl))<;>exact rfl);(first|exact fI rfl|exact fS rfl))))
  refine jE ([17,18] ++ List.range' 100 14) (fun (i:Nat) F=>F.put 100 (.int .i64 (i:Int)))
   (fun i w'=>i≤ds.length∧Hp w [] w' (qW eN 3 1 (some ⟨nb,0,none⟩) ds.length (fz (fun d:DlV=>d.cs.getD j 0) 0 ds i) :: qW eN 3 1 (some ⟨cb,0,none⟩) nd (fz (nxC S ds) 0 (List.range nd) j) :: ([qW eNR 23 1 (some ⟨b,0,none⟩) ms.length rs] ++ ([blk b8 2 (qV [.slice none 0 0,.slice none 0 0]) 27,blk b4 2 (qV [.slice s1 cs.length c1,.slice s2 rk.length c2]) 27] ++ rs.map wU)))) (fun i=>ds.length - i) 0 (qG (Same.eq .refl) rfl) ⟨Nat.zero_le _,hp⟩ ?_
  (repeat clear hp)
  rintro u2 i w16 ⟨hi,hp⟩
  (repeat (first|(with_reducible first|apply qF|apply qA|apply qE|apply qB)|(apply wlp;(apply jA<;>exact rfl);exact fB rfl)))
  refine qM rfl (fun h=>?_) (fun h=>?_)
  ·have hltd:i < ds.length:=by omega
   obtain ⟨b1,o1,hs1,hc1⟩:=hD.base (by omega)
   have hcj:=hc1 i _ (List.getElem?_eq_getElem hltd)
   have hda:=hDa _ (List.getElem_mem hltd)
   obtain ⟨hdo,hdn⟩:=hdok _ (List.getElem_mem hltd)
   have hset2:=qKy (f:=fun d:DlV=>d.cs.getD j 0) (d:=0) hltd
   have hfi:(fz (fun d:DlV=>d.cs.getD j 0) 0 ds i).length = ds.length:=qI5 hi
   have hvi:=hvn _ hfi
   generalize ds[i] = d at hcj hda hdn hset2
   obtain ⟨d1,e1,dcs,dpt,d2,e2,dbx⟩:=d
   have hda:=hda.cs
   dsimp only at hda hdn hset2
   have hEd:eDl ⟨d1,e1,dcs,dpt,d2,e2,dbx⟩ = [.slice d1 dcs.length e1,.int .i64 (dpt:Int),.slice d2 dbx.length e2]:=rfl
   rw [hEd] at hcj
   have hjd:j < dcs.length:=by omega
   obtain ⟨b2,o2,hs2,hc2⟩:=hda.base (by omega)
   have hcd:=hc2 j _ (List.getElem?_eq_getElem hjd) 0 _ rfl
   rw [xV hjd] at hset2
   generalize dcs[j] = z at hcd hset2
   (repeat (first|(with_reducible first|apply qF|apply qK|apply qA|apply qB|apply qL)|(apply wlp;((first|apply qC|(apply jQ;exact rfl)|(apply qR;exact rfl))<;>(first|exact rfl|assumption));(first|exact fI rfl|exact fP rfl))))
   (apply wlp;exact zP (vs:=[.slice d1 dcs.length e1,.int .i64 (dpt:Int),.slice d2 dbx.length e2]) rfl rfl rfl rfl (fun j v hv=>hp.old0 (hcj j v hv));exact fA3 rfl)
   (apply wls;exact yA hp (jD rfl);rintro _ w17 ⟨pb,rfl,hp⟩)
   (repeat (apply wlp;apply qD;exact fI rfl))
   (apply zG;exact vK hp 0 rfl rfl rfl rfl (qQ rfl) rfl;rintro _ w18 ⟨rfl,hp⟩)
   have hp:=hp.norm 0 [.slice d1 dcs.length e1,.int .i64 (dpt:Int),.slice d2 dbx.length e2] rfl rfl
   (repeat (first|(with_reducible first|apply qA|apply qE|apply qB)|(apply wlp;((first|apply qC|apply qS|(apply qJ;exact rfl)|(apply qR;exact rfl))<;>(first|exact rfl|assumption|exact hp.cell 0 rfl rfl|exact hp.old0 (by assumption)));(first|exact fI rfl|exact fP rfl|exact fS rfl))))
   (apply zG;exact xO eN _ i z hp 1 rfl hvi (by rw [hfi];exact hltd) rfl rfl (fun _=>rfl) rfl rfl (qQ rfl);rintro _ w19 ⟨rfl,hp⟩)
   rw [hset2] at hp
   (repeat (with_reducible first|apply qA|apply qE|apply qB|apply qZ))
   (apply wlp;(exact qY rfl rfl);exact qI (b:=((i + 1:Nat):Int)) (by rw [qN (by omega) (by omega)];omega))
   (repeat (first|(with_reducible first|apply qE|apply qB)|(apply wlp;apply qC;exact fI rfl)))
   exact ⟨i + 1,qG (Same.eq (by repeat (first|exact Same.hav|exact Same.refl|refine Same.put rfl ?_|refine Same.havs rfl ?_))) rfl,⟨by omega,hp.tail⟩,by omega⟩
  obtain rfl:i = ds.length:=by omega
  have hall:fz (fun d:DlV=>d.cs.getD j 0) 0 ds ds.length = ds.map fun d=>d.cs.getD j 0:=qKz
  rw [hall] at hp
  have hvi:=hvn (ds.map fun d=>d.cs.getD j 0) (List.length_map _)
  have hsA:=jS hp 0 rfl hvi (fun _=>rfl)
  have hnb:∀ y ∈ ds.map (fun d=>d.cs.getD j 0),y≤9223372036854775807:=by
   intro y hy
   obtain ⟨d,hd,rfl⟩:=List.mem_map.1 hy
   obtain ⟨hdo,hdn⟩:=hdok d hd
   have:=kQ (hdo.mb _ (uB (l:=d.cs) (i:=j) (by omega)))
   omega
  have hml:(ds.map fun d=>d.cs.getD j 0).length = ds.length:=List.length_map _
  (repeat (first|(with_reducible first|apply qA|apply qB|apply qO|apply jB)|((with_reducible apply qP);exact rfl)|(apply wlp;apply qC;(first|exact fI rfl|exact fS rfl))))
  (apply wls;exact qH rfl qVa rfl (by
   have:=p47 S (ds.map fun d=>d.cs.getD j 0) sF (some ⟨nb,0,none⟩) cF ds.length w16 (hF.keep0 hp.keeps) hsA hP (by omega) (by omega) hnb
   rw [hml] at this
   exact this);rintro _ w20 ⟨rfl,hk⟩;have hp:=hp.call hk)
  (repeat (apply wlp;((apply qR;exact rfl)<;>(first|exact rfl|assumption));exact fP rfl))
  (apply zG;exact xO eN _ j (nxC S ds j) hp 1 rfl (hvc _ hfj) (by rw [hfj];exact hlt) rfl rfl (fun _=>rfl) rfl rfl (qQ rfl);rintro _ w21 ⟨rfl,hp⟩)
  rw [hset] at hp
  (repeat (with_reducible first|apply qA|apply qE|apply qB|apply qZ))
  (apply wlp;(exact qY rfl rfl);exact qI (b:=((j + 1:Nat):Int)) (by rw [qN (by omega) (by omega)];omega))
  (repeat (first|(with_reducible first|apply qE|apply qB)|(apply wlp;apply qC;exact fI rfl)))
  exact ⟨j + 1,qG (Same.eq (by repeat (first|exact Same.hav|exact Same.refl|refine Same.put rfl ?_|refine Same.havs rfl ?_))) rfl,⟨by omega,hp.tail⟩,by omega⟩
 obtain rfl:j = nd:=by omega
 have hall:fz (nxC S ds) 0 (List.range j) j = (List.range j).map (nxC S ds):=by
  have:=qKz (f:=nxC S ds) (d:=0) (l:=List.range j)
  rwa [List.length_range] at this
 rw [hall] at hp
 have hvf:=hvc _ (show ((List.range j).map (nxC S ds)).length = j by rw [List.length_map,List.length_range])
 (repeat (first|(with_reducible first|apply qF|apply qA|apply qB|apply qO|apply jB)|((with_reducible apply qP);exact rfl)|(apply wlp;((first|apply qC|(apply xJ;exact rfl))<;>exact rfl);(first|exact fS rfl|exact fA2 rfl))))
 (apply zG;exact yN hp 2 rfl rfl rfl rfl (qQ rfl) rfl;rintro _ w22 ⟨rfl,hp⟩)
 have hp:=hp.norm 2 [.slice (some ⟨cb,0,none⟩) j j,.slice (some ⟨b,0,none⟩) rs.length ms.length] rfl rfl
 (repeat (first|(with_reducible first|apply qE|apply qB|apply qT)|(apply wlp;apply qD;exact fB rfl)))
 refine kE rfl rfl rfl rfl rfl (hp.agg_blk 2 rfl rfl) ⟨_,rfl,b,rs,cb,rfl,hrw,hrN,hvf,?_⟩
 exact hp.sub ((List.Sublist.refl [_,_]).append (List.sublist_append_right [_,_] _))
end Go.Proofs.YtbgldmoikimmpaaGreatDoor
namespace Go.Proofs.YtbgldmoikimmpaaGreatDoor
open Go.Eng Go.Dig Go.Sha Go.Lag Go.Grp Go.Sp
def rdT (r:Int):ByteArray:=(⟨#[114,111,117,110,100,47]⟩:ByteArray) ++ dec r
def bsR (r:Int):Nat:=elP (bl (rdT r))
theorem qFx (r:Int):Mb (bsR r):=qYq _
theorem qR9 {r:Int} (h0:-9223372036854775808≤r) (h1:r≤9223372036854775807):(dec r).size≤20:=by
 unfold dec Lib.itoa
 split
 ·have:=qDc 18 r.natAbs (by omega)
  show (45 :: Lib.decDigits r.natAbs).length≤20
  rw [List.length_cons]
  omega
 ·have:=qDc 18 r.toNat (by omega)
  show (Lib.decDigits r.toNat).length≤20
  omega
def ePt (r:Int) (p:Nat × Nat):List Value:=[.int .i64 (p.1:Int),.int .i64 ((bsR r ^ p.2 % gP:Nat):Int),.int .i64 (pfC p.2 4 (bsR r):Int),.int .i64 (pfZ p.2 4 (bsR r):Int)]
def vE (c:List Nat) (xs:List Nat):List (Nat × Nat):=xs.map fun x=>(x,vl c x)
structure PkOk (k:KyV) (ws c:List Nat):Prop where
 ko:KyOk k ws
 pk:k.cs = pws 4 c
 cb:∀ a ∈ c,a < 1152921504606845789
attribute [local irreducible] PV StepF wpl wpd WP Ret
attribute [local irreducible] Fit ofN xD hv scP xN yC yY atP Mb inL fac zB inP lft elP pfC pfZ bsR dec
theorem p18 (r:Int) (w:World) (hT:Tabs w) (h0:-9223372036854775808≤r) (h1:r≤9223372036854775807):Ret Tryz.prog 18 [.int .i64 r] w (fun v w'=>v = .int .i64 (bsR r:Int)∧Keeps [] w w'):=by
 have hd:=qR9 h0 h1
 have hs:=yE (⟨#[114,111,117,110,100,47]⟩:ByteArray) (dec r)
 have h6:(⟨#[114,111,117,110,100,47]⟩:ByteArray).size = 6:=rfl
 refine Ret.of_WP Tryz.func18 rfl Tryz.ntmps18 rfl ?_
 have hp:=Hp.start (M:=[]) (w:=w)
 (repeat (first|(with_reducible first|apply qF|apply qA|apply qE|apply qB)|(apply wlp;(first|apply qC|apply qD);exact fI rfl)))
 (apply wls;exact qH rfl qMc rfl (p60 r _ (hT.keep hp.keeps) h0 h1))
 rintro _ w1 ⟨rfl,hk⟩
 have hp:=hp.call hk
 (apply wlp;exact jY rfl rfl (by show 6 + _≤_;omega);exact fT rfl)
 (apply wls;exact qH rfl jAm rfl (p59 (rdT r) _ (hT.keep hp.keeps) (by unfold rdT;omega));rintro _ w2 ⟨rfl,hk⟩;have hp:=hp.call hk)
 (repeat (first|(with_reducible first|apply qE|apply qB|apply qT)|(apply wlp;apply qD;exact fI rfl)))
 exact qU rfl rfl ⟨_,rfl,by unfold bsR;rfl,hp.keeps⟩
theorem p7 (x y:Nat) (r:Int) (w:World) (hT:Tabs w) (h0:-9223372036854775808≤r) (h1:r≤9223372036854775807) (hx1:1≤x) (hx2:x≤60) (hy:y < 1152921504606845789) :
  Ret Tryz.prog 7 [.agg #[.int .i64 (x:Int),.int .i64 (y:Int)],.int .i64 r] w (fun v w'=>v = .agg (ePt r (x,y)).toArray∧Keeps [] w w'):=by
 have hb:=qFx r
 have hbl:=kQ hb
 refine Ret.of_WP Tryz.func7 rfl Tryz.ntmps7 rfl ?_
 have hp:=Hp.start (M:=[]) (w:=w)
 (repeat (with_reducible first|apply qF|apply qA))
 (apply wls;exact uY hp rfl;rintro _ w1 ⟨b2,rfl,hp⟩)
 (apply wls;exact qHk hp (jD rfl);rintro _ w2 ⟨b4,rfl,hp⟩)
 (repeat (first|(with_reducible first|apply qF|apply qA|apply qE|apply qB)|((first|apply wlp|(apply wlg;exact rfl;exact rfl));(intros;((first|apply qC|apply qS|(apply qJ;exact rfl)|exact qAq rfl rfl rfl|apply jA|apply zA)<;>(first|exact rfl|exact jR rfl (by assumption)|exact hp.cell 1 rfl rfl)));(intros;(first|exact fI rfl|exact fB rfl|exact fP rfl)))))
 refine zT rfl (fun h=>absurd h (by simp;omega)) (fun _=>?_)
 (repeat (first|(with_reducible first|apply qF|apply qA|apply qB|apply qL)|(apply wlp;apply qC;exact fI rfl)))
 (apply wls;exact qH rfl qQs rfl (p18 r _ (hT.keep hp.keeps) h0 h1);rintro _ w3 ⟨rfl,hk⟩;have hp:=hp.call hk)
 (repeat (first|(with_reducible first|apply qF|apply qE|apply qB)|(apply wlp;apply qD;exact fI rfl)))
 refine xH jW (by kernel_rfl) (fun w'=>Hp _ _ w' _) hp.drew ?_
 have hp:=hp.drew
 (repeat ((apply wdp;exact rfl);(intro w hp;intros;((first|apply qC|apply qS|(apply qJ;exact rfl))<;>(first|exact rfl|exact hp.cell 1 rfl rfl)));(intros;(first|exact fI rfl|exact fP rfl))))
 (apply wds;exact rfl;exact qH rfl qAd rfl (qDj (bsR r) y 2305843009213691579 _ (by omega) (by omega) (by decide) (by decide)))
 rintro _ w4 ⟨rfl,hk⟩
 have hp:=hp.call hk
 refine ⟨hp,?_⟩
 (repeat ((apply wdp;exact rfl);(intro w hp;intros;((first|apply qC|apply qS|(apply qJ;exact rfl))<;>(first|exact rfl|exact hp.cell 1 rfl rfl)));(intros;(first|exact fI rfl|exact fP rfl))))
 (apply wds;exact rfl;exact qH rfl jB2 rfl (p26 y 4 (bsR r) _ (hT.keep hp.keeps) hy qDl hb);rintro _ w5 ⟨rfl,hk⟩;have hp:=hp.call hk;refine ⟨hp,?_⟩)
 (apply wdp;exact rfl;(intro w hp;exact qKf (pl:=[(0,1),(1,1),(2,2)]) Tryz.underlying36 (jD (z:=.agg [.int .i64 0,.int .i64 0,.int .i64 0,.int .i64 0].toArray) rfl) (fun w=>by kernel_rfl) rfl rfl rfl);exact fA4 rfl)
 (apply kH;exact rfl;exact rfl;exact qHh hp 0 rfl rfl rfl rfl (qQ rfl) rfl;rintro _ w14 ⟨rfl,hp⟩)
 refine jL ?_
 (repeat (with_reducible first|apply qB|apply qT))
 exact yG rfl rfl rfl rfl (hp.agg_blk 0 rfl rfl) ⟨_,rfl,rfl,hp.keeps⟩
theorem qB2 (c xs:List Nat):(vE c xs).length = xs.length:=List.length_map _
theorem p31 (k:KyV) (ws c:List Nat) (x:Nat) (r:Int) (w:World) (hT:Tabs w) (h0:-9223372036854775808≤r) (h1:r≤9223372036854775807) (hk:KyAt w k) (ho:PkOk k ws c) (hx1:1≤x) (hx2:x≤ws.sum) :
  Ret Tryz.prog 31 [.agg (eKy k).toArray,.int .i64 r,.agg (ePt r (x,vl c x)).toArray] w (fun v w'=>v = .bool true∧Keeps [] w w'):=by
 have hrl:=ho.ko.len
 have hrlw:=ho.ko.wo.len
 have hs60:=ho.ko.wo.sum
 have hsum:=ho.ko.sum
 have hmb:=ho.ko.mb
 have hpk:=ho.pk
 have hcl:k.cs.length≤60:=by
  have:=yO ho.ko.wo.sp
  have:=ho.ko.nd
  omega
 have hat:atP k.cs x = 4 ^ vl c x % gP:=by rw [hpk];exact qRt qDl c x
 have hvl:vl c x < 1152921504606845789:=qBu
 have hkeep:=fun {w':World} (h:Keeps [] w w')=>hk.keep h
 obtain ⟨s1,c1,cs,s2,c2,rs⟩:=k
 obtain ⟨hcs,hrs⟩:=hk
 dsimp only at hrl hsum hmb hcl hat hcs hrs
 have hE:eKy ⟨s1,c1,cs,s2,c2,rs⟩ = [.slice s1 cs.length c1,.slice s2 rs.length c2]:=rfl
 have hEp:ePt r (x,vl c x) = [.int .i64 (x:Int),.int .i64 ((bsR r ^ vl c x % gP:Nat):Int),.int .i64 (pfC (vl c x) 4 (bsR r):Int),.int .i64 (pfZ (vl c x) 4 (bsR r):Int)]:=rfl
 rw [hE,hEp]
 clear hE hEp
 refine Ret.of_WP Tryz.func31 rfl Tryz.ntmps31 rfl ?_
 have hp:=Hp.start (M:=[]) (w:=w)
 (repeat (with_reducible first|apply qF|apply qA))
 (apply wls;exact uY hp rfl;rintro _ w1 ⟨b3,rfl,hp⟩)
 (apply wls;exact qUs hp rfl;rintro _ w2 ⟨b5,rfl,hp⟩)
 (repeat (first|(with_reducible first|apply qF|apply qK|apply qA|apply qE|apply qB)|(apply wlp;((first|apply qC|apply qD|apply qS|(apply qJ;exact rfl)|(apply jC;exact rfl))<;>(first|exact rfl|exact hp.cell 1 rfl rfl));(first|exact fI rfl|exact fB rfl|exact fP rfl|exact fS rfl))))
 have h00:wT (rs.take 0) = 0:=by simp [wT]
 refine jE ([7,9] ++ List.range' 13 9) (fun (i:Nat) F=>(F.put 13 (.int .i64 (i:Int))).put 7 (.int .i64 (wT (rs.take i):Int)))
  (fun i w'=>i≤rs.length∧Hp w [] w' [blk b5 4 (qV [.int .i64 (x:Int),.int .i64 ((bsR r ^ vl c x % gP:Nat):Int),.int .i64 (pfC (vl c x) 4 (bsR r):Int),.int .i64 (pfZ (vl c x) 4 (bsR r):Int)]) 36,blk b3 2 (qV [.slice s1 cs.length c1,.slice s2 rs.length c2]) 27]) (fun i=>rs.length - i) 0 (qG (qG (Same.eq .refl) rfl) (by rw [h00];rfl)) ⟨Nat.zero_le _,hp⟩ ?_
 clear hp
 rintro u0 i w3 ⟨hi,hp⟩
 have hle:=kI rs i
 (repeat (first|(with_reducible first|apply qF|apply qA|apply qE|apply qB)|(apply wlp;(apply jA<;>exact rfl);exact fB rfl)))
 refine qM rfl (fun h=>?_) (fun h=>?_)
 ·have hlt:i < rs.length:=by omega
  obtain ⟨b0,o0,hs0,hc0⟩:=hrs.at_.base (by omega)
  have hci:=hc0 i _ (List.getElem?_eq_getElem hlt) 0 _ rfl
  have hst:=qGi hlt
  have hle2:=kI rs (i + 1)
  generalize rs[i] = q at hci hst
  (repeat (first|(with_reducible first|apply qF|apply qK|apply qA|apply qE|apply qB|apply qL)|(apply wlp;((first|apply qC|apply qD|(apply qJ;exact rfl)|(apply jC;exact rfl)|(apply qR;exact rfl))<;>(first|exact rfl|assumption|exact hp.old0 (by assumption)));(first|exact fI rfl|exact fP rfl|exact fS rfl))))
  (apply wlp;(exact qY rfl rfl);exact qI (b:=((wT (rs.take i) + q.l.length:Nat):Int)) (by rw [qN (by omega) (by omega)];omega))
  rw [← hst]
  (repeat (first|(with_reducible first|apply qA|apply qE|apply qB|apply qZ)|(apply wlp;apply qD;exact fI rfl)))
  (apply wlp;(exact qY rfl rfl);exact qI (b:=((i + 1:Nat):Int)) (by rw [qN (by omega) (by omega)];omega))
  (repeat (first|(with_reducible first|apply qE|apply qB)|(apply wlp;apply qC;exact fI rfl)))
  exact ⟨i + 1,qG (qG (Same.eq (by repeat (first|exact Same.hav|exact Same.refl|refine Same.put rfl ?_|refine Same.havs rfl ?_))) rfl) rfl,⟨by omega,hp⟩,by omega⟩
 obtain rfl:i = rs.length:=by omega
 rw [List.take_length,hsum]
 (repeat (first|(with_reducible first|apply qF|apply qA|apply qE|apply qB|apply qO|apply jB)|((with_reducible apply qP);exact rfl)|((first|apply wlp|(apply wlg;exact rfl;exact rfl));(intros;((first|apply qC|apply qS|(apply qJ;exact rfl)|exact qAq rfl rfl rfl|apply jA|apply zA)<;>(first|exact rfl|exact jR rfl (by assumption)|exact hp.cell 0 rfl rfl)));(intros;(first|exact fI rfl|exact fB rfl|exact fP rfl)))))
 refine zT rfl (fun h=>absurd h (by simp;omega)) (fun _=>?_)
 (repeat (with_reducible first|apply qF|apply qB|apply qL))
 refine jX jW (by kernel_rfl) (fun w'=>Hp _ _ w' _) hp.drew ?_
 have hp:=hp.drew
 (repeat ((apply wdp;exact rfl);(intro w hp;intros;((first|apply qS|(apply qJ;exact rfl))<;>(first|exact rfl|exact hp.cell 0 rfl rfl|exact hp.cell 1 rfl rfl)));(intros;(first|exact fI rfl|exact fP rfl|exact fS rfl))))
 (apply wds;exact rfl;exact qH rfl qQe rfl (p45 cs x s1 c1 _ (hcs.keep0 hp.keeps) (by omega) (by omega) (fun a ha=>kQ (hmb a ha)));rintro _ w4 ⟨rfl,hk⟩;have hp:=hp.call hk;refine ⟨hp,?_⟩)
 rw [hat]
 (repeat ((apply wdp;exact rfl);(intro w hp;intros;apply qC);(intros;exact fI rfl)))
 (apply wds;exact rfl;exact qH rfl qQs rfl (p18 r _ (hT.keep hp.keeps) h0 h1);rintro _ w5 ⟨rfl,hk⟩;have hp:=hp.call hk;refine ⟨hp,?_⟩)
 (repeat ((apply wdp;exact rfl);(intro w hp;intros;((first|apply qS|(apply qJ;exact rfl)|(apply jQ;exact rfl))<;>(first|exact rfl|exact hp.cell 0 rfl rfl|exact hp.agg_blk 0 rfl rfl)));(intros;(first|exact fI rfl|exact fP rfl|exact fA2 rfl))))
 (apply wds;exact rfl;exact qH rfl jAj rfl (p72 (vl c x) 4 (bsR r) _ (hT.keep hp.keeps) hvl qDl (qFx r));rintro _ w6 ⟨rfl,hk⟩;have hp:=hp.call hk;refine ⟨hp,?_⟩)
 (repeat ((apply wdp;exact rfl);(intro w hp;intros;apply qD);(intros;exact fB rfl)))
 refine jL ?_
 (repeat (with_reducible first|apply qB|apply qT))
 exact qU rfl rfl ⟨_,rfl,rfl,hp.keeps⟩
theorem p30 (k:KyV) (ws c:List Nat) (x kb rb:Nat) (r:Int) (w:World) (hT:Tabs w) (h0:-9223372036854775808≤r) (h1:r≤9223372036854775807) (hk:KyAt w k) (ho:PkOk k ws c) (hx1:1≤x) (hx2:x≤ws.sum)
  (hkb:∀ j v,(eKy k)[j]? = some v→w.cell? ⟨kb,0 + j,none⟩ = some v) (hrb:w.cell? ⟨rb,0,none⟩ = some (.int .i64 r)) :
  Ret Tryz.prog 30 [.agg (ePt r (x,vl c x)).toArray,.pointer (some ⟨kb,0,none⟩),.pointer (some ⟨rb,0,none⟩)] w (fun v w'=>v = .bool true∧Keeps [] w w'):=by
 have h31:=fun w' (h:Keeps [] w w')=>p31 k ws c x r w' (hT.keep h) h0 h1 (hk.keep h) ho hx1 hx2
 have hEp:ePt r (x,vl c x) = [.int .i64 (x:Int),.int .i64 ((bsR r ^ vl c x % gP:Nat):Int),.int .i64 (pfC (vl c x) 4 (bsR r):Int),.int .i64 (pfZ (vl c x) 4 (bsR r):Int)]:=rfl
 have hE:eKy k = [.slice k.s1 k.cs.length k.c1,.slice k.s2 k.rs.length k.c2]:=rfl
 rw [hEp,hE] at h31
 rw [hEp]
 rw [hE] at hkb
 clear hE hEp
 refine Ret.of_WP Tryz.func30 rfl Tryz.ntmps30 rfl ?_
 have hp:=Hp.start (M:=[]) (w:=w)
 (repeat (with_reducible first|apply qF|apply qA))
 (apply wls;exact qUs hp rfl;rintro _ w1 ⟨b3,rfl,hp⟩)
 (repeat (first|(with_reducible first|apply qF|apply qA|apply qE|apply qB)|(apply wlp;((first|apply qD|(apply jQ;exact rfl))<;>exact rfl);exact fB rfl)))
 (apply wlp;exact zP (vs:=[.slice k.s1 k.cs.length k.c1,.slice k.s2 k.rs.length k.c2]) rfl rfl rfl rfl (fun j v hv=>hp.old0 (hkb j v hv));exact fA2 rfl)
 (repeat (apply wlp;((first|(apply qJ;exact rfl)|(apply jQ;exact rfl))<;>(first|exact rfl|exact hp.agg_blk 0 rfl rfl|exact hp.old0 (by assumption)));(first|exact fI rfl|exact rfl)))
 (apply wls;exact qH rfl jAz rfl (h31 _ hp.keeps);rintro _ w2 ⟨rfl,hk⟩;have hp:=hp.call hk)
 (repeat (first|(with_reducible first|apply qE|apply qB|apply qT)|(apply wlp;apply qD;exact fB rfl)))
 exact qU rfl rfl ⟨_,rfl,rfl,hp.keeps⟩
theorem p29 (k:KyV) (ws c xs:List Nat) (kb rb:Nat) (r:Int) (s:Option Addr) (cc:Nat) (w:World) (hT:Tabs w) (h0:-9223372036854775808≤r) (h1:r≤9223372036854775807) (hk:KyAt w k) (ho:PkOk k ws c) (hx1:∀ x ∈ xs,1≤x∧x≤ws.sum)
  (hkb:∀ j v,(eKy k)[j]? = some v→w.cell? ⟨kb,0 + j,none⟩ = some v) (hrb:w.cell? ⟨rb,0,none⟩ = some (.int .i64 r)) (hs:SlAt w 4 (ePt r) s (vE c xs)) (hl:xs.length≤100000) :
  Ret Tryz.prog 29 [.slice s xs.length cc,.func (.func 30) #[] #[.pointer (some ⟨kb,0,none⟩),.pointer (some ⟨rb,0,none⟩)]] w (fun v w'=>(∃ s' c',v = .tuple #[.slice s' xs.length c',.slice none 0 0]∧SlAt w' 4 (ePt r) s' (vE c xs))∧Keeps [] w w'):=by
 have hpl:=qB2 c xs
 refine Ret.of_WP Tryz.func29 rfl Tryz.ntmps29 rfl ?_
 have hp:=Hp.start (M:=[]) (w:=w)
 (repeat (first|(with_reducible first|apply qF|apply qK|apply qA|apply qE|apply qB)|(apply wlp;((first|apply qC|apply qD|(apply jC;exact rfl))<;>exact rfl);(first|exact fI rfl|exact fS rfl))))
 have hp:=hp.nilL (ePt r) 36 4
 have htk:∀ i,i≤xs.length→((vE c xs).take i).length = i:=fun i hi=>by rw [List.length_take];omega
 have hp:Hp w [] w [qW (ePt r) 36 4 none 0 ((vE c xs).take 0)]:=hp
 refine zW ([4,5,7] ++ List.range' 10 16) (fun (i:Nat) (s:Option Addr) (c':Nat) F=>((F.put 10 (.int .i64 (i:Int))).put 4 (.slice s ((vE c xs).take i).length c')).put 5 (.slice none 0 0))
  (fun i s c' w'=>i≤xs.length∧SVL s c' ((vE c xs).take i)∧Hp w [] w' [qW (ePt r) 36 4 s c' ((vE c xs).take i)]) (fun i _ _=>xs.length - i) 0 none 0 (qG (qG (qG (Same.eq .refl) rfl) rfl) rfl) ⟨Nat.zero_le _,SVL.nil,hp⟩ ?_
 (repeat clear hp)
 rintro u0 i s1 c1 w2 ⟨hi,hsv,hp⟩
 have hti:=htk i hi
 (repeat (first|(with_reducible first|apply qF|apply qA|apply qE|apply qB)|(apply wlp;(apply jA<;>exact rfl);exact fB rfl)))
 refine qM rfl (fun h=>?_) (fun h=>?_)
 ·have hlt:i < xs.length:=by omega
  have hltp:i < (vE c xs).length:=by omega
  obtain ⟨b0,o0,hs0,hc0⟩:=hs.base (by omega)
  have hci:=hc0 i _ (List.getElem?_eq_getElem hltp)
  have hxb:=hx1 _ (List.getElem_mem hlt)
  have hgp:(vE c xs)[i] = (xs[i],vl c xs[i]):=by simp [vE]
  have htn:=List.take_succ_eq_append_getElem hltp
  rw [hgp] at hci htn
  have hh:=fun w' (h:Keeps [] w w')=>p30 k ws c xs[i] kb rb r w' (hT.keep h) h0 h1 (hk.keep h) ho hxb.1 hxb.2 (fun j v hv=>h.cell (hkb j v hv) (by simp)) (h.cell hrb (by simp))
  generalize xs[i] = x at hci htn hh
  have hEp:ePt r (x,vl c x) = [.int .i64 (x:Int),.int .i64 ((bsR r ^ vl c x % gP:Nat):Int),.int .i64 (pfC (vl c x) 4 (bsR r):Int),.int .i64 (pfZ (vl c x) 4 (bsR r):Int)]:=rfl
  rw [hEp] at hh
  (repeat (first|(with_reducible first|apply qF|apply qK|apply qA|apply qB|apply qL)|(apply wlp;((first|(apply jQ;exact rfl)|(apply qR;exact rfl))<;>(first|exact rfl|assumption));exact fP rfl)))
  (apply wlp;exact zP (vs:=ePt r (x,vl c x)) rfl rfl rfl rfl (fun j v hv=>hp.old0 (hci j v hv));exact fA4 rfl)
  (apply wls;exact qHk hp (jD rfl);rintro _ w3 ⟨pb,rfl,hp⟩)
  (apply zG;exact qHh hp 0 rfl rfl rfl rfl (qQ rfl) rfl;rintro _ w4 ⟨rfl,hp⟩)
  have hp:=hp.norm 0 [.int .i64 (x:Int),.int .i64 ((bsR r ^ vl c x % gP:Nat):Int),.int .i64 (pfC (vl c x) 4 (bsR r):Int),.int .i64 (pfZ (vl c x) 4 (bsR r):Int)] rfl rfl
  (repeat (first|(with_reducible first|apply qF|apply qA|apply qE|apply qB)|(apply wlp;((first|apply qC|(apply jQ;exact rfl))<;>(first|exact rfl|exact hp.agg_blk 0 rfl rfl));(first|exact fF2 rfl|exact rfl))))
  (apply wls;exact qH rfl jB0 rfl (hh _ hp.keeps);rintro _ w5 ⟨rfl,hk⟩;have hp:=hp.call hk)
  (repeat (with_reducible first|apply qE|apply qB))
  refine yI rfl ?_
  (repeat (first|with_reducible apply qA|(apply wlp;((first|apply qC|(apply jQ;exact rfl))<;>(first|exact rfl|exact hp.agg_blk 0 rfl rfl));(first|exact fS rfl|exact rfl))))
  (apply wls;exact jP (cs:=ePt r (x,vl c x)) hp rfl rfl rfl rfl rfl rfl rfl;rintro _ w6 ⟨nb,rfl,hp⟩)
  (apply wls;exact zL (ePt r) ((vE c xs).take i) (x,vl c x) hp 2 0 rfl rfl rfl rfl rfl rfl (fun _=>rfl) rfl rfl rfl hsv rfl rfl (by omega);rintro _ w7 ⟨s',c',rfl,hsv',hp⟩)
  rw [← htn] at hsv' hp
  rw [← htn]
  (repeat (first|(with_reducible first|apply qA|apply qE|apply qB|apply qZ)|(apply wlp;apply qD;exact fS rfl)))
  (apply wlp;(exact qY rfl rfl);exact qI (b:=((i + 1:Nat):Int)) (by rw [qN (by omega) (by omega)];omega))
  (repeat (first|(with_reducible first|apply qE|apply qB)|(apply wlp;apply qC;exact fI rfl)))
  exact ⟨i + 1,s',c',qG (qG (qG (Same.eq (by repeat (first|exact Same.hav|exact Same.refl|refine Same.put rfl ?_|refine Same.havs rfl ?_))) rfl) rfl) rfl,⟨by omega,hsv',hp.tail.tail⟩,by omega⟩
 obtain rfl:i = xs.length:=by omega
 have hall:(vE c xs).take xs.length = vE c xs:=by rw [← hpl,List.take_length]
 rw [hall] at hsv hp ⊢
 (repeat (first|(with_reducible first|apply qF|apply qA|apply qE|apply qB|apply qO|apply qT|apply jB)|((with_reducible apply qP);exact rfl)|(apply wlp;(first|apply qC|apply qD);exact fS rfl)))
 exact zX rfl rfl rfl ⟨_,rfl,⟨s1,c1,by rw [hpl];rfl,jS hp 0 rfl hsv (fun _=>rfl)⟩,hp.keeps⟩
end Go.Proofs.YtbgldmoikimmpaaGreatDoor
namespace Go.Proofs.YtbgldmoikimmpaaGreatDoor
open Go.Eng Go.Dig Go.Sha Go.Lag Go.Grp Go.Sp
def shL (b:Nat) (c xs:List Nat):List (Nat × Nat):=xs.map fun x=>(x,b ^ vl c x % gP)
theorem qSr (b:Nat) (c xs:List Nat):(shL b c xs).length = xs.length:=List.length_map _
theorem qLn (b:Nat) (c xs:List Nat):(shL b c xs).map (·.1) = xs:=by
 unfold shL
 rw [List.map_map]
 exact List.map_id' xs
theorem qRf {b:Nat} (hb:Mb b) {c xs:List Nat} {nd:Nat} (hP:Pts xs) (hnd:1≤nd) (hn:nd≤xs.length) (hc:c.length≤nd):lft (xsI (shL b c xs) nd) (ysI (shL b c xs) nd) = b ^ vl c 0 % gP:=by
 have e1:xsI (shL b c xs) nd = xs.take nd:=by
  unfold xsI
  rw [List.map_take,qLn]
 have e2:ysI (shL b c xs) nd = pws b ((xs.take nd).map (vl c)):=by
  unfold ysI shL pws
  rw [← List.map_take,List.map_map,List.map_map]
  rfl
 have hl:(xs.take nd).length = nd:=by rw [List.length_take];omega
 rw [e1,e2,qTp hb]
 rw [qPw ⟨hP.nd.sublist (List.take_sublist _ _),fun x hx=>hP.bd x (List.mem_of_mem_take hx)⟩ (by intro h;rw [h] at hl;simp at hl;omega) (by omega)]
theorem qTw {l:List Value} {i:Nat} {v:Value} (h:l[i]? = some v):qV l i = v:=by
 rw [kW,List.getD_eq_getElem?_getD,h]
 rfl
attribute [local irreducible] PV StepF wpl wpd WP Ret
attribute [local irreducible] Fit ofN xD hv scP xN yC yY atP Mb inL fac zB inP lft elP pfC pfZ bsR dec
set_option maxHeartbeats 4000000 in
theorem p9 (k:KyV) (ws c xs:List Nat) (r:Int) (s:Option Addr) (cc:Nat) (w:World) (hT:Tabs w) (h0:-9223372036854775808≤r) (h1:r≤9223372036854775807) (hk:KyAt w k) (ho:PkOk k ws c) (hx1:∀ x ∈ xs,1≤x∧x≤ws.sum) (hnd:xs.Nodup)
  (hs:SlAt w 4 (ePt r) s (vE c xs)) (hl:k.cs.length≤xs.length) (hlc:xs.length≤1000) (hc:c.length = k.cs.length) :
  Ret Tryz.prog 9 [.agg (eKy k).toArray,.int .i64 r,.slice s xs.length cc] w (fun v w'=>v = .tuple #[.int .i64 ((bsR r ^ vl c 0 % gP:Nat):Int),.slice none 0 0,.int .i64 0]∧Keeps [] w w'):=by
 have hb:=qFx r
 have hP:Pts xs:=⟨hnd,fun x hx=>by
  have h1:=hx1 x hx
  have h2:=ho.ko.wo.sum
  have h3:(gQ:Nat) = 1152921504606845789:=rfl
  omega⟩
 have hcl1:1≤k.cs.length:=by rw [ho.ko.nd];exact vM _
 have hcv:=qRf (nd:=k.cs.length) (c:=c) hb hP hcl1 hl (by omega)
 have hsl:=qSr (bsR r) c xs
 have hsf:=qLn (bsR r) c xs
 have hpl:=qB2 c xs
 have h28:=fun (w':World) (hka:KyAt w' k)=>p28 k ws w' hka ho.ko
 have hz:wH (inL xs 0) = fun _=>none:=qD1 _
 have hE:eKy k = [.slice k.s1 k.cs.length k.c1,.slice k.s2 k.rs.length k.c2]:=rfl
 have hEk:∀ (j:Nat) (v:Value),(eKy k)[j]? = some v→[Value.slice k.s1 k.cs.length k.c1,.slice k.s2 k.rs.length k.c2][j]? = some v:=fun j v h=>h
 rw [hE] at h28 ⊢
 refine Ret.of_WP Tryz.func9 rfl Tryz.ntmps9 rfl ?_
 have hp:=Hp.start (M:=[]) (w:=w)
 (repeat (with_reducible first|apply qF|apply qA))
 (apply wls;exact uY hp rfl;rintro _ w1 ⟨kb,rfl,hp⟩)
 (apply wls;exact qAp hp rfl rfl;rintro _ w2 ⟨rb,rfl,hp⟩)
 (repeat (first|(with_reducible first|apply qF|apply qA|apply qE|apply qB)|(apply wlp;((first|apply qD|(apply jQ;exact rfl))<;>(first|exact rfl|exact hp.agg_blk 1 rfl rfl));(first|exact fI rfl|exact fS rfl|exact fA2 rfl))))
 (apply wls;exact qH rfl qVd rfl (h28 _ (hk.keep hp.keeps));rintro _ w3 ⟨rfl,hkk⟩;have hp:=hp.call hkk)
 (repeat (first|(with_reducible first|apply qE|apply qB)|(apply wlp;(apply zI<;>exact rfl);exact fB rfl)))
 refine jI rfl ?_
 (repeat (first|(with_reducible first|apply qF|apply qA|apply qB|apply qL)|(apply wlp;(first|apply qC|apply vW);(first|exact fS rfl|exact fF2 rfl))))
 (apply wls;exact qH rfl jB1 rfl (p29 k ws c xs kb rb r s cc _ (hT.keep hp.keeps) h0 h1 (hk.keep hp.keeps) ho hx1 (fun j v hv=>hp.cells 1 [.slice k.s1 k.cs.length k.c1,.slice k.s2 k.rs.length k.c2] rfl rfl (fun j v hv=>by rw [Nat.zero_add];exact qTw hv) j v (hEk j v hv)) (hp.cell 0 rfl rfl) (hs.keep0 hp.keeps) (by omega));rintro _ w4 ⟨⟨s',c',rfl,hs'⟩,hkk⟩;have hp:=hp.call hkk)
 have hk4:Keeps [] w w4:=hp.keeps
 have ck:w4.cell? ⟨kb,0 + 0,none⟩ = some (.slice k.s1 k.cs.length k.c1):=hp.cell 1 rfl rfl
 clear hp hkk
 have hp:=Hp.start (M:=[]) (w:=w4)
 (repeat (first|(with_reducible first|apply qF|apply qK|apply qA|apply qE|apply qB)|(apply wlp;((first|apply qC|apply qD|(apply jC;exact rfl)|apply jK)<;>exact rfl);(first|exact fI rfl|exact fS rfl|exact fU rfl))))
 refine jE ([7,12] ++ List.range' 28 10) (fun (_:Unit) F=>(F.put 28 (.int .i64 0)).put 7 (.slice none 0 0)) (fun _ w'=>w4 = w') (fun _=>0) () (qG (qG (Same.eq .refl) rfl) rfl) rfl ?_
 rintro u0 ⟨⟩ _ rfl
 (repeat (first|(with_reducible first|apply qF|apply qA|apply qE|apply qB)|(apply wlp;(apply jA<;>exact rfl);exact fB rfl)))
 refine qM rfl (fun h=>absurd h (by simp)) (fun _=>?_)
 (repeat (first|(with_reducible first|apply qF|apply qA|apply qB|apply qO|apply jB)|((with_reducible apply qP);exact rfl)))
 (apply wls;exact kA kInt hp;rintro _ w5 ⟨mb,rfl,hp⟩)
 rw [← hz] at hp
 have hp:=hp.nilL eP2 39 2
 have htk:∀ i,i≤xs.length→((shL (bsR r) c xs).take i).length = i:=fun i hi=>by rw [List.length_take];omega
 have hp:Hp w4 [] w5 [qW eP2 39 2 none 0 ((shL (bsR r) c xs).take 0),qAv kInt mb (wH (inL xs 0))]:=hp
 (repeat (first|(with_reducible first|apply qF|apply qK|apply qA|apply qE|apply qB)|(apply wlp;((first|apply qC|apply qD|(apply jC;exact rfl))<;>exact rfl);(first|exact fI rfl|exact fS rfl|exact fM rfl))))
 refine zW ([14,16] ++ List.range' 41 21) (fun (i:Nat) (s:Option Addr) (c':Nat) F=>(F.put 41 (.int .i64 (i:Int))).put 14 (.slice s ((shL (bsR r) c xs).take i).length c'))
  (fun i s c' w'=>i≤xs.length∧SVL s c' ((shL (bsR r) c xs).take i)∧Hp w4 [] w' [qW eP2 39 2 s c' ((shL (bsR r) c xs).take i),qAv kInt mb (wH (inL xs i))]) (fun i _ _=>xs.length - i) 0 none 0 (qG (qG (Same.eq .refl) rfl) rfl) ⟨Nat.zero_le _,SVL.nil,hp⟩ ?_
 (repeat clear hp)
 rintro u1 i s1 c1 w6 ⟨hi,hsv,hp⟩
 have hti:=htk i hi
 (repeat (first|(with_reducible first|apply qF|apply qA|apply qE|apply qB)|(apply wlp;(apply jA<;>exact rfl);exact fB rfl)))
 refine qM rfl (fun h=>?_) (fun h=>?_)
 ·have hlt:i < xs.length:=by omega
  have hltp:i < (vE c xs).length:=by omega
  have hlts:i < (shL (bsR r) c xs).length:=by omega
  obtain ⟨b0,o0,hs0,hc0⟩:=hs'.base (by omega)
  have hci:=hc0 i _ (List.getElem?_eq_getElem hltp)
  have hgp:(vE c xs)[i] = (xs[i],vl c xs[i]):=by simp [vE]
  have hgs:(shL (bsR r) c xs)[i] = (xs[i],bsR r ^ vl c xs[i] % gP):=by simp [shL]
  have htn:=List.take_succ_eq_append_getElem hlts
  have hnew:=qEi hnd hlt
  have hsucc:=qD2 hlt
  rw [hgp] at hci
  rw [hgs] at htn
  generalize xs[i] = x at hci htn hnew hsucc
  (repeat (first|(with_reducible first|apply qF|apply qK|apply qA|apply qB|apply qL)|(apply wlp;((first|(apply jQ;exact rfl)|(apply qR;exact rfl))<;>(first|exact rfl|assumption));exact fP rfl)))
  (apply wlp;exact zP (vs:=ePt r (x,vl c x)) rfl rfl rfl rfl (fun j v hv=>hp.old0 (hci j v hv));exact fA4 rfl)
  (apply wls;exact qHk hp (jD rfl);rintro _ w7 ⟨pb,rfl,hp⟩)
  (apply zG;exact qHh hp 0 rfl rfl rfl rfl (qQ rfl) rfl;rintro _ w8 ⟨rfl,hp⟩)
  have hp:=hp.norm 0 [.int .i64 (x:Int),.int .i64 ((bsR r ^ vl c x % gP:Nat):Int),.int .i64 (pfC (vl c x) 4 (bsR r):Int),.int .i64 (pfZ (vl c x) 4 (bsR r):Int)] rfl rfl
  (repeat (with_reducible first|apply qF|apply qA|apply qE|apply qB))
  (apply wlp;apply qC;exact fM rfl)
  (apply wlp;(apply qS<;>exact rfl);exact fP rfl)
  (apply wlp;((apply qJ;exact rfl)<;>(first|exact rfl|exact hp.cell 0 rfl rfl));exact fI rfl)
  (apply wlp;exact qA4 (a:=(x:Int)) hp 2 rfl rfl rfl (zK (t:=92) rfl).1 (zK (t:=92) rfl).2.1 (zK (t:=92) rfl).2.2;exact (qAz _ _).trans (congrArg Value.bool hnew))
  (apply wlp;(apply zI<;>exact rfl);exact fB rfl)
  (repeat (with_reducible first|apply qE|apply qB))
  refine yI rfl ?_
  (repeat (first|(with_reducible first|apply qF|apply qA)|(apply wlp;((first|apply qC|apply qS|(apply qJ;exact rfl))<;>(first|exact rfl|exact hp.cell 0 rfl rfl));(first|exact fI rfl|exact fP rfl|exact fM rfl))))
  (apply zG;exact qA3 (a:=(x:Int)) hp 2 rfl rfl rfl rfl (zK (t:=92) rfl).1 (zK (t:=92) rfl).2.1;rintro _ w9 ⟨rfl,hp⟩)
  rw [hsucc] at hp
  (repeat (first|(with_reducible first|apply qA|apply qE|apply qB)|(apply wlp;((first|apply qC|apply qS|(apply qJ;exact rfl)|(apply xJ;exact rfl))<;>(first|exact rfl|exact hp.cell 0 rfl rfl));(first|exact fI rfl|exact fP rfl|exact fS rfl|exact fA2 rfl))))
  (apply wls;exact jP (cs:=eP2 (x,bsR r ^ vl c x % gP)) hp rfl rfl rfl rfl rfl rfl rfl;rintro _ w10 ⟨nb,rfl,hp⟩)
  (apply wls;exact zL eP2 ((shL (bsR r) c xs).take i) (x,bsR r ^ vl c x % gP) hp 2 0 rfl rfl rfl rfl rfl rfl (fun _=>rfl) rfl rfl rfl hsv rfl rfl (by omega);rintro _ w11 ⟨s3,c3,rfl,hsv',hp⟩)
  rw [← htn] at hsv' hp
  rw [← htn]
  (repeat (first|(with_reducible first|apply qA|apply qE|apply qB|apply qZ)|(apply wlp;apply qD;exact fS rfl)))
  (apply wlp;(exact qY rfl rfl);exact qI (b:=((i + 1:Nat):Int)) (by rw [qN (by omega) (by omega)];omega))
  (repeat (first|(with_reducible first|apply qE|apply qB)|(apply wlp;apply qC;exact fI rfl)))
  exact ⟨i + 1,s3,c3,qG (qG (Same.eq (by repeat (first|exact Same.hav|exact Same.refl|refine Same.put rfl ?_|refine Same.havs rfl ?_))) rfl) rfl,⟨by omega,hsv',hp.tail.tail⟩,by omega⟩
 obtain rfl:i = xs.length:=by omega
 have hall:(shL (bsR r) c xs).take xs.length = shL (bsR r) c xs:=by rw [← hsl,List.take_length]
 rw [hall] at hsv hp ⊢
 have hsA:=jS hp 0 rfl hsv (fun _=>rfl)
 clear hti
 (repeat (first|(with_reducible first|apply qF|apply qA|apply qE|apply qB|apply qO|apply jB)|((with_reducible apply qP);exact rfl)|(apply wlp;((first|apply qC|apply qS|(apply qJ;exact rfl)|(apply jC;exact rfl)|apply jA)<;>(first|exact rfl|exact hp.old0 (by assumption)));(first|exact fI rfl|exact fB rfl|exact fP rfl|exact fS rfl))))
 refine qM rfl (fun h=>absurd h (by omega)) (fun _=>?_)
 (repeat (first|(with_reducible first|apply qF|apply qA|apply qB|apply qL)|(apply wlp;((first|apply qC|apply qS|(apply qJ;exact rfl)|(apply jC;exact rfl))<;>(first|exact rfl|exact hp.old0 (by assumption)));(first|exact fI rfl|exact fP rfl|exact fS rfl))))
 (apply wls;exact qH rfl jAy rfl (p32 k.cs.length (shL (bsR r) c xs) s1 c1 _ hsA (by rw [hsf];exact hP) (fun p hp=>by
  obtain ⟨x,_,rfl⟩:=List.mem_map.1 hp
  exact qCd hb _) hcl1 (by omega) (by omega));rintro _ w12 ⟨rfl,hkk⟩;have hp:=hp.call hkk)
 rw [hcv]
 (repeat (first|(with_reducible first|apply qF|apply qA|apply qE|apply qB|apply qT)|(apply wlp;((first|apply qC|apply qD|apply jK)<;>exact rfl);(first|exact fI rfl|exact fB rfl|exact fS rfl|exact fU rfl))))
 exact qB1 rfl rfl rfl rfl ⟨_,rfl,rfl,hk4.trans hp.keeps (by simp)⟩
end Go.Proofs.YtbgldmoikimmpaaGreatDoor
namespace Go.Proofs.YtbgldmoikimmpaaGreatDoor
open Go.Eng Go.Dig Go.Sha Go.Lag Go.Grp Go.Sp
def wI (l:List Nat):Nat:=max (scR ([107] ++ l)) 1
theorem qLp (l:List Nat):wI l < 1152921504606845789:=by
 have:=qK4 ([107] ++ l)
 unfold wI
 omega
def qP2 (sd:List Nat) (j:Nat):Nat:=scR ((([99,111,101,102,102,105,99,105,101,110,116,32] ++ bl (xD j)) ++ [32,111,102,32]) ++ sd)
def uP (sd:List Nat) (m:Nat):List Nat:=(List.range m).map (qP2 sd)
theorem kY (sd:List Nat) (m:Nat):(uP sd m).length = m:=by simp [uP]
theorem qCz (sd:List Nat) (m:Nat):∀ x ∈ uP sd m,x < 1152921504606845789:=by
 intro x hx
 obtain ⟨j,_,rfl⟩:=List.mem_map.1 hx
 exact qK4 _
theorem qNa (sd:List Nat) (m:Nat):uP sd (m + 1) = uP sd m ++ [qP2 sd m]:=by
 unfold uP
 rw [List.range_succ,List.map_append]
 rfl
def xS (ms:List Mem):List Nat:=ms.flatMap fun m=>List.replicate m.wt m.pb
theorem uD (ms:List Mem):(xS ms).length = (zC ms).sum:=by
 unfold xS zC
 induction ms with
 | nil=>rfl
 | cons m ms ih=>simp [List.flatMap_cons,ih]
attribute [local irreducible] PV StepF wpl wpd WP Ret
attribute [local irreducible] Fit ofN xD hv scP xN yC yY atP Mb inL fac zB inP lft elP pfC pfZ bsR dec scR wI
theorem jCk (x:Nat) (w:World) (hx:x < 1152921504606845789):Ret Tryz.prog 129 [.int .i64 (x:Int)] w (fun v w'=>v = .int .i64 (x:Int)∧Keeps [] w w'):=by
 refine Ret.of_WP Tryz.func129 rfl Tryz.ntmps129 rfl ?_
 have hp:=Hp.start (M:=[]) (w:=w)
 (repeat (first|(with_reducible first|apply qF|apply qA|apply qE|apply qB)|(apply wlp;(first|apply qC|apply qD);exact fI rfl)))
 (apply wlp;exact yU rfl rfl (by decide);exact qI (b:=(x:Int)) (by rw [show (1152921504606845789:Int) = ((1152921504606845789:Nat):Int) from rfl,yP,Nat.mod_eq_of_lt hx]))
 (repeat (first|(with_reducible first|apply qF|apply qA|apply qE|apply qB)|(apply wlp;((first|apply qC|apply qD|apply jA)<;>exact rfl);(first|exact fI rfl|exact fB rfl))))
 refine qM rfl (fun h=>absurd h (by omega)) (fun _=>?_)
 (repeat (first|(with_reducible first|apply qF|apply qA|apply qE|apply qB|apply qT|apply qL)|(apply wlp;(first|apply qC|apply qD);exact fI rfl)))
 exact qU rfl rfl ⟨_,rfl,rfl,hp.keeps⟩
theorem p75 (x:Nat) (w:World) (hx:x < 1152921504606845789):Ret Tryz.prog 75 [.int .i64 (x:Int)] w (fun v w'=>v = .int .i64 ((4 ^ x % gP:Nat):Int)∧Keeps [] w w'):=by
 refine Ret.of_WP Tryz.func75 rfl Tryz.ntmps75 rfl ?_
 have hp:=Hp.start (M:=[]) (w:=w)
 (repeat (first|(with_reducible first|apply qF|apply qA|apply qE|apply qB)|(apply wlp;(first|apply qC|apply qD);exact fI rfl)))
 (apply wls;exact qH rfl qYc rfl (jCk x _ hx))
 rintro _ w1 ⟨rfl,hk⟩
 have hp:=hp.call hk
 (apply wls;exact qH rfl qFm rfl (p79 4 x 2305843009213691579 _ (by omega) (by omega) (by decide) (by decide)))
 rintro _ w2 ⟨rfl,hk⟩
 have hp:=hp.call hk
 (repeat (first|(with_reducible first|apply qE|apply qB|apply qT)|(apply wlp;apply qD;exact fI rfl)))
 exact qU rfl rfl ⟨_,rfl,rfl,hp.keeps⟩
theorem p74 (s:ByteArray) (w:World) (hs:s.size≤1000000):Ret Tryz.prog 74 [.string ((⟨#[107]⟩:ByteArray) ++ s)] w (fun v w'=>v = .int .i64 (wI (bl s):Int)∧Keeps [] w w'):=by
 have hb:bl ((⟨#[107]⟩:ByteArray) ++ s) = [107] ++ bl s:=by rw [vG];rfl
 have hsz:=yE (⟨#[107]⟩:ByteArray) s
 have h1:(⟨#[107]⟩:ByteArray).size = 1:=rfl
 refine Ret.of_WP Tryz.func74 rfl Tryz.ntmps74 rfl ?_
 have hp:=Hp.start (M:=[]) (w:=w)
 (repeat (first|(with_reducible first|apply qF|apply qA|apply qE|apply qB)|(apply wlp;(first|apply qC|apply qD);(first|exact fI rfl|exact fT rfl))))
 (apply wls;exact qH rfl qQb rfl (p62 ((⟨#[107]⟩:ByteArray) ++ s) _ (by omega));rintro _ w1 ⟨rfl,hk⟩;have hp:=hp.call hk)
 rw [hb]
 (apply wlp;exact qOu rfl rfl;exact qI (b:=(wI (bl s):Int)) (by unfold wI;omega))
 (repeat (first|(with_reducible first|apply qE|apply qB|apply qT)|(apply wlp;apply qD;exact fI rfl)))
 exact qU rfl rfl ⟨_,rfl,rfl,hp.keeps⟩
theorem p33 (s:ByteArray) (w:World) (hs:s.size≤1000000):Ret Tryz.prog 33 [.string s] w (fun v w'=>v = .tuple #[.int .i64 (wI (bl s):Int),.int .i64 ((4 ^ wI (bl s) % gP:Nat):Int)]∧Keeps [] w w'):=by
 have hl:=qLp (bl s)
 refine Ret.of_WP Tryz.func33 rfl Tryz.ntmps33 rfl ?_
 have hp:=Hp.start (M:=[]) (w:=w)
 (repeat (first|(with_reducible first|apply qF|apply qA|apply qE|apply qB)|(apply wlp;(first|apply qC|apply qD);(first|exact fI rfl|exact fT rfl))))
 (apply wlp;exact jY rfl rfl (by show 1 + _≤_;omega);exact fT rfl)
 (apply wls;exact qH rfl jAh rfl (p74 s _ hs))
 rintro _ w1 ⟨rfl,hk⟩
 have hp:=hp.call hk
 (repeat (first|(with_reducible first|apply qF|apply qA|apply qE|apply qB)|(apply wlp;(first|apply qC|apply qD);exact fI rfl)))
 (apply wls;exact qH rfl jAg rfl (p75 (wI (bl s)) _ hl))
 rintro _ w2 ⟨rfl,hk⟩
 have hp:=hp.call hk
 (repeat (first|(with_reducible first|apply qE|apply qB|apply qT)|(apply wlp;apply qD;exact fI rfl)))
 exact zX rfl rfl rfl ⟨_,rfl,rfl,hp.keeps⟩
theorem p68 (a:Int) (m:Nat) (w:World) (hm:1≤m) (hm2:m≤1000000):Ret Tryz.prog 68 [.int .i64 a,.int .i64 (m:Int)] w (fun v w'=>(∃ z:Nat,v = .int .i64 (z:Int)∧z < m)∧Keeps [] w w'):=by
 have h1:=Int.emod_nonneg a (show (m:Int) ≠ 0 by omega)
 have h2:=Int.emod_lt_of_pos a (show 0 < (m:Int) by omega)
 have hc:=qEv a m (by omega)
 refine Ret.of_WP Tryz.func68 rfl Tryz.ntmps68 rfl ?_
 have hp:=Hp.start (M:=[]) (w:=w)
 (repeat (first|(with_reducible first|apply qF|apply qA|apply qE|apply qB)|(apply wlp;(first|apply qC|apply qD);exact fI rfl)))
 (apply wlp;exact yU rfl rfl (by omega);exact fI rfl)
 generalize a.tmod m = r at hc
 (repeat (first|(with_reducible first|apply qF|apply qA|apply qE|apply qB)|(apply wlp;((first|apply qC|apply qD|apply jA)<;>exact rfl);(first|exact fI rfl|exact fB rfl))))
 refine qM rfl (fun h=>?_) (fun h=>?_)
 ·(repeat (first|(with_reducible first|apply qF|apply qA)|(apply wlp;apply qC;exact fI rfl)))
  (apply wlp;exact qY rfl rfl;exact qI (b:=((a % (m:Int)).toNat:Int)) (by rw [qN (by omega) (by omega)];omega))
  (repeat (first|(with_reducible first|apply qE|apply qB|apply jV|apply qT)|(apply wlp;apply qD;exact fI rfl)))
  exact qU rfl rfl ⟨_,rfl,⟨_,rfl,by omega⟩,hp.keeps⟩
 ·(repeat (first|(with_reducible first|apply qF|apply qA|apply qE|apply qB|apply qT|apply qL)|(apply wlp;(first|apply qC|apply qD);exact fI rfl)))
  exact qU rfl rfl ⟨_,rfl,⟨(a % (m:Int)).toNat,qI (by omega),by omega⟩,hp.keeps⟩
theorem p25 (l:List Int) (m k nb c:Nat) (s:Option Addr) (w:World) (hm:1≤m) (hm2:m≤1000000) (hl:l.length≤9223372036854775807) (hs:SlAt w 1 eI s l) (hb:∃ o,w.heap[nb]? = some o∧qCk 2 (qV [.slice s l.length c,.int .i64 (k:Int)]) 84 o) (hkl:k≤l.length) (hsn:l ≠ []→∀ b o,s = some ⟨b,o,none⟩→b ≠ nb) :
  Ret Tryz.prog 25 [.pointer (some ⟨nb,0,none⟩),.int .i64 (m:Int)] w (fun v w'=>∃ z k':Nat,v = .int .i64 (z:Int)∧z < m∧k'≤l.length∧Keeps [nb] w w'∧∃ o,w'.heap[nb]? = some o∧qCk 2 (qV [.slice s l.length c,.int .i64 (k':Int)]) 84 o):=by
 have hp1:=Hp.adopt1 hb
 refine Ret.of_WP Tryz.func25 rfl Tryz.ntmps25 rfl ?_
 have hp:Hp w [nb] w [blk nb 2 (qV [.slice s l.length c,.int .i64 (k:Int)]) 84]:=hp1
 (repeat (first|(with_reducible first|apply qF|apply qA|apply qE|apply qB)|(apply wlp;apply qD;exact fI rfl)))
 refine jX jW (by kernel_rfl) (fun w'=>Hp _ _ w' _) hp.drew ?_
 have hp:=hp.drew
 (repeat ((apply wdp;exact rfl);(intro w hp;intros;((first|apply qC|apply qS|(apply qJ;exact rfl)|(apply jC;exact rfl)|apply xF|apply qHo)<;>(first|exact rfl|exact hp.cell 0 rfl rfl)));(intros;(first|exact fI rfl|exact fB rfl|exact fP rfl|exact fS rfl))))
 refine jL ?_
 (repeat with_reducible apply qB)
 refine qM rfl (fun h=>?_) (fun h=>?_)
 ·(repeat (first|(with_reducible first|apply qF|apply qA|apply qE|apply qB|apply jV|apply qT)|(apply wlp;apply qD;exact fI rfl)))
  exact qU rfl rfl ⟨_,rfl,0,k,rfl,by omega,hkl,hp.keeps,hp.has 0 _ rfl nb rfl⟩
 have hlt:k < l.length:=by omega
 obtain ⟨b0,o0,hs0,hc0⟩:=hs.base (by omega)
 have hci:=hc0 k _ (List.getElem?_eq_getElem hlt) 0 _ rfl
 have hbn:b0 ∉ [nb]:=by simp;exact hsn (by rintro rfl;simp at hlt) b0 o0 hs0
 generalize l[k] = a at hci
 (repeat (first|(with_reducible first|apply qF|apply qA|apply qB|apply qL)|(apply wlp;((first|apply qC|apply qS|(apply qJ;exact rfl)|apply qHo)<;>(first|exact rfl|exact hp.cell 0 rfl rfl));(first|exact fI rfl|exact fP rfl))))
 (apply wlp;(exact qY rfl rfl);exact qI (b:=((k + 1:Nat):Int)) (by rw [qN (by omega) (by omega)];omega))
 (repeat (apply wlp;((first|apply qS|apply qHo)<;>exact rfl);exact fP rfl))
 (apply zG;exact xZ hp 0 rfl rfl rfl rfl (qQ rfl) rfl;rintro _ w1 ⟨rfl,hp⟩)
 have hp:=hp.norm 0 [.slice s l.length c,.int .i64 ((k + 1:Nat):Int)] rfl rfl
 (repeat (with_reducible first|apply qF|apply qE|apply qB))
 refine jX jW (by kernel_rfl) (fun w'=>Hp _ _ w' _) hp.drew ?_
 have hp:=hp.drew
 (repeat ((apply wdp;exact rfl);(intro w hp;intros;((first|apply qC|apply qS|(apply qJ;exact rfl)|apply qHo)<;>(first|exact rfl|exact hp.cell 0 rfl rfl)));(intros;(first|exact fI rfl|exact fP rfl|exact fS rfl))))
 (apply wdp;exact rfl;(intro w hp;exact jN rfl rfl);exact qI (b:=((k:Nat):Int)) (by rw [qN (by omega) (by omega)];omega))
 (repeat ((apply wdp;exact rfl);(intro w hp;intros;((first|(apply qJ;exact rfl)|(apply qR;exact rfl))<;>(first|exact rfl|assumption)));(intros;exact fP rfl)))
 (apply wdp;exact rfl;(intro w hp;exact qJ rfl rfl (hp.old hci hbn));exact fI rfl)
 (repeat ((apply wdp;exact rfl);(intro w hp;intros;apply qC);(intros;exact fI rfl)))
 (apply wds;exact rfl;exact qH rfl jAk rfl (p68 a m _ hm hm2);rintro _ w2 ⟨⟨z,rfl,hz⟩,hk⟩;have hp:=hp.call hk;refine ⟨hp,?_⟩)
 (repeat ((apply wdp;exact rfl);(intro w hp;intros;apply qD);(intros;exact fI rfl)))
 refine jL ?_
 (repeat (with_reducible first|apply qB|apply qT))
 exact qU rfl rfl ⟨_,rfl,z,k + 1,rfl,hz,by omega,hp.keeps,hp.has 0 _ rfl nb rfl⟩
end Go.Proofs.YtbgldmoikimmpaaGreatDoor
namespace Go.Proofs.YtbgldmoikimmpaaGreatDoor
open Go.Eng Go.Dig Go.Sha Go.Lag Go.Grp Go.Sp
def cfT (j:Nat):ByteArray:=((⟨#[99,111,101,102,102,105,99,105,101,110,116,32]⟩:ByteArray) ++ xD j) ++ (⟨#[32,111,102,32]⟩:ByteArray)
theorem qYx (j:Nat) (s:ByteArray):scR (bl (cfT j ++ s)) = qP2 (bl s) j:=by
 unfold cfT qP2
 rw [vG,vG,vG]
 rfl
def bkI (ms:List Mem) (i k:Nat):List Nat:=xS (ms.take i) ++ List.replicate k ((ms[i]?).map Mem.pb |>.getD 0)
theorem qRq (ms:List Mem):bkI ms 0 0 = []:=by simp [bkI,xS]
theorem qRr {ms:List Mem} {i:Nat} (h:i < ms.length) (k:Nat):bkI ms i (k + 1) = bkI ms i k ++ [ms[i].pb]:=by
 unfold bkI
 rw [List.replicate_succ',List.getElem?_eq_getElem h,← List.append_assoc]
 rfl
theorem qRs {ms:List Mem} {i:Nat} (h:i < ms.length):bkI ms i ms[i].wt = bkI ms (i + 1) 0:=by
 unfold bkI xS
 rw [List.take_succ_eq_append_getElem h,List.flatMap_append,List.getElem?_eq_getElem h]
 simp
theorem qUi (ms:List Mem):bkI ms ms.length 0 = xS ms:=by
 unfold bkI
 rw [List.take_length]
 simp
theorem qIi (ms:List Mem) (i:Nat):(xS (ms.take i)).length≤(xS ms).length:=by
 rw [uD,uD]
 have:=zU (zC ms) i
 unfold zC at *
 rwa [← List.map_take] at this
theorem qUh (ms:List Mem) (i k:Nat):(bkI ms i k).length = (xS (ms.take i)).length + k:=by simp [bkI]
attribute [local irreducible] PV StepF wpl wpd WP Ret
attribute [local irreducible] Fit ofN xD hv scP xN yC yY atP Mb inL fac zB inP lft elP pfC pfZ bsR dec scR wI
theorem p22 (sd:ByteArray) (m:Nat) (w:World) (hs:sd.size≤1000000) (hm:m≤1000) :
  Ret Tryz.prog 22 [.string sd,.int .i64 (m:Int)] w (fun v w'=>∃ s c,v = .slice s m c∧SVL s c (uP (bl sd) m)∧Hp w [] w' [qW eN 3 1 s c (uP (bl sd) m)]):=by
 have hpl:=kY (bl sd)
 refine Ret.of_WP Tryz.func22 rfl Tryz.ntmps22 rfl ?_
 have hp:=Hp.start (M:=[]) (w:=w)
 (repeat (first|(with_reducible first|apply qF|apply qK|apply qA|apply qE|apply qB)|(apply wlp;apply qD;(first|exact fI rfl|exact fS rfl))))
 have hp:=hp.nilL eN 3 1
 refine zW ([5,6] ++ List.range' 7 15) (fun (i:Nat) (s:Option Addr) (c:Nat) F=>(F.put 6 (.int .i64 (i:Int))).put 5 (.slice s (uP (bl sd) i).length c))
  (fun i s c w'=>i≤m∧SVL s c (uP (bl sd) i)∧Hp w [] w' [qW eN 3 1 s c (uP (bl sd) i)]) (fun i _ _=>m - i) 0 none 0 (qG (qG (Same.eq .refl) rfl) rfl) ⟨Nat.zero_le _,SVL.nil,hp⟩ ?_
 (repeat clear hp)
 rintro u0 i s c w2 ⟨hi,hsv,hp⟩
 have hpi:=hpl i
 (repeat (first|(with_reducible first|apply qF|apply qA|apply qE|apply qB)|(apply wlp;((first|apply qC|apply jA)<;>exact rfl);(first|exact fI rfl|exact fB rfl))))
 refine qM rfl (fun h=>?_) (fun h=>?_)
 ·have hd:=xY (show i≤9223372036854775807 by omega)
  have hc1:=yE (⟨#[99,111,101,102,102,105,99,105,101,110,116,32]⟩:ByteArray) (xD i)
  have hc2:=yE ((⟨#[99,111,101,102,102,105,99,105,101,110,116,32]⟩:ByteArray) ++ xD i) (⟨#[32,111,102,32]⟩:ByteArray)
  have hc3:=yE (cfT i) sd
  have e1:(⟨#[99,111,101,102,102,105,99,105,101,110,116,32]⟩:ByteArray).size = 12:=rfl
  have e2:(⟨#[32,111,102,32]⟩:ByteArray).size = 4:=rfl
  have hcf:(cfT i).size≤35:=by unfold cfT;omega
  have hsc:=qNa (bl sd) i
  (repeat (first|(with_reducible first|apply qF|apply qK|apply qA|apply qB|apply qL)|(apply wlp;apply qC;(first|exact fI rfl|exact fS rfl))))
  (apply wls;exact qH rfl qAe rfl (p12 i _ (by omega)))
  rintro _ w3 ⟨rfl,hk⟩
  have hp:=hp.call hk
  (apply wlp;exact jY rfl rfl (by show 12 + _≤_;omega);exact fT rfl)
  (apply wlp;exact jY rfl rfl (by show _ + 4≤_;omega);exact congrArg Value.string (show _ = cfT i from rfl))
  (repeat (apply wlp;apply qC;exact fT rfl))
  (apply wlp;exact jY rfl rfl (by omega);exact fT rfl)
  (apply wls;exact qH rfl qQb rfl (p62 (cfT i ++ sd) _ (by omega));rintro _ w4 ⟨rfl,hk⟩;have hp:=hp.call hk)
  rw [qYx]
  (apply wls;exact jP hp rfl rfl rfl rfl rfl rfl rfl;rintro _ w5 ⟨nb,rfl,hp⟩)
  (apply wls;exact zL eN (uP (bl sd) i) (qP2 (bl sd) i) hp 1 0 rfl rfl rfl rfl rfl rfl (fun _=>rfl) rfl rfl rfl hsv rfl rfl (by omega);rintro _ w6 ⟨s',c',rfl,hsv',hp⟩)
  rw [← hsc] at hsv' hp
  rw [← hsc]
  (repeat (first|(with_reducible first|apply qA|apply qE|apply qB|apply qZ)|(apply wlp;(first|apply qC|apply qD);(first|exact fI rfl|exact fS rfl))))
  (apply wlp;(exact qY rfl rfl);exact qI (b:=((i + 1:Nat):Int)) (by rw [qN (by omega) (by omega)];omega))
  (repeat (first|(with_reducible first|apply qE|apply qB)|(apply wlp;apply qD;exact fI rfl)))
  exact ⟨i + 1,s',c',qG (qG (Same.eq (by repeat (first|exact Same.hav|exact Same.refl|refine Same.put rfl ?_|refine Same.havs rfl ?_))) rfl) rfl,⟨by omega,hsv',hp.tail⟩,by omega⟩
 obtain rfl:i = m:=by omega
 rw [hpi]
 (repeat (first|(with_reducible first|apply qF|apply qA|apply qE|apply qB|apply qO|apply qT|apply jB)|((with_reducible apply qP);exact rfl)|(apply wlp;(first|apply qC|apply qD);exact fS rfl)))
 exact qU rfl rfl ⟨_,rfl,s,c,rfl,hsv,hp⟩
theorem p36 (ms:List Mem) (s:Option Addr) (c:Nat) (w:World) (hs:SlAt w 3 eMe s ms) (ho:MsOk ms) :
  Ret Tryz.prog 36 [.slice s ms.length c] w (fun v w'=>∃ s' c',v = .slice s' (xS ms).length c'∧SVL s' c' (xS ms)∧Hp w [] w' [qW eN 3 1 s' c' (xS ms)]):=by
 obtain ⟨hl1,hl2⟩:=ho.len
 have h60:=ho.wo.sum
 have hbl:=uD ms
 have hz:=qRq ms
 refine Ret.of_WP Tryz.func36 rfl Tryz.ntmps36 rfl ?_
 have hp:=Hp.start (M:=[]) (w:=w)
 (repeat (first|(with_reducible first|apply qF|apply qK|apply qA|apply qE|apply qB)|(apply wlp;apply qD;(first|exact fI rfl|exact fS rfl))))
 have hp:=hp.nilL eN 3 1
 rw [← hz] at hp
 refine zW ([3,4] ++ List.range' 5 24) (fun (i:Nat) (s':Option Addr) (c':Nat) F=>(F.put 4 (.int .i64 (i:Int))).put 3 (.slice s' (bkI ms i 0).length c'))
  (fun i s' c' w'=>i≤ms.length∧SVL s' c' (bkI ms i 0)∧Hp w [] w' [qW eN 3 1 s' c' (bkI ms i 0)]) (fun i _ _=>ms.length - i) 0 none 0 (qG (qG (Same.eq .refl) rfl) (by rw [hz];rfl)) ⟨Nat.zero_le _,by rw [hz];exact SVL.nil,hp⟩ ?_
 (repeat clear hp)
 rintro u0 i s1 c1 w2 ⟨hi,hsv,hp⟩
 (repeat (first|(with_reducible first|apply qF|apply qA|apply qE|apply qB)|(apply wlp;((first|apply qC|(apply jC;exact rfl)|apply jA)<;>exact rfl);(first|exact fI rfl|exact fB rfl|exact fS rfl))))
 refine qM rfl (fun h=>?_) (fun h=>?_)
 ·have hlt:i < ms.length:=by omega
  obtain ⟨b0,o0,hs0,hc0⟩:=hs.base (by omega)
  have hci:=hc0 i _ (List.getElem?_eq_getElem hlt)
  have hsu:=fun k=>qRr hlt k
  have hnx:=qRs hlt
  have hle:=qIi ms i
  have hbk:=qUh ms i
  have hw20:ms[i].wt≤20:=ho.wo.max _ (List.mem_map.2 ⟨ms[i],List.getElem_mem hlt,rfl⟩)
  generalize ms[i] = m at hci hsu hnx hw20
  obtain ⟨id,wt,pb⟩:=m
  dsimp only at hsu hnx hw20
  have hcw:w.cell? ⟨b0,o0 + i * 3 + 1,none⟩ = some (.int .i64 (wt:Int)):=hci 1 _ rfl
  have hcp:w.cell? ⟨b0,o0 + i * 3 + 2,none⟩ = some (.int .i64 (pb:Int)):=hci 2 _ rfl
  clear hci
  (repeat (first|(with_reducible first|apply qF|apply qK|apply qA|apply qE|apply qB|apply qL)|(apply wlp;apply qD;exact fI rfl)))
  refine zW ([3,5] ++ List.range' 12 17) (fun (k:Nat) (s':Option Addr) (c':Nat) F=>(F.put 5 (.int .i64 (k:Int))).put 3 (.slice s' (bkI ms i k).length c'))
   (fun k s' c' w'=>k≤wt∧SVL s' c' (bkI ms i k)∧Hp w [] w' [qW eN 3 1 s' c' (bkI ms i k)]) (fun k _ _=>wt - k) 0 s1 c1 (qG (qG (Same.eq .refl) rfl) rfl) ⟨Nat.zero_le _,hsv,hp⟩ ?_
  clear hsv
  (repeat clear hp)
  rintro u1 k s1 c1 w3 ⟨hk,hsv,hp⟩
  have hbkk:=hbk k
  (repeat (first|(with_reducible first|apply qF|apply qA|apply qE|apply qB)|(apply wlp;((first|apply qC|apply qS|(apply qJ;exact rfl)|apply jA|(apply qR;exact rfl))<;>(first|exact rfl|assumption|exact hp.old0 (by assumption)));(first|exact fI rfl|exact fB rfl|exact fP rfl|exact fS rfl))))
  refine qM rfl (fun h=>?_) (fun h=>?_)
  ·have hsk:=hsu k
   (repeat (first|(with_reducible first|apply qF|apply qK|apply qA|apply qB|apply qL)|(apply wlp;((first|apply qC|apply qS|(apply qJ;exact rfl)|(apply qR;exact rfl))<;>(first|exact rfl|assumption|exact hp.old0 (by assumption)));(first|exact fI rfl|exact fP rfl|exact fS rfl))))
   (apply wls;exact jP hp rfl rfl rfl rfl rfl rfl rfl;rintro _ w5 ⟨nb,rfl,hp⟩)
   (apply wls;exact zL eN (bkI ms i k) pb hp 1 0 rfl rfl rfl rfl rfl rfl (fun _=>rfl) rfl rfl rfl hsv rfl rfl (by omega);rintro _ w6 ⟨s',c',rfl,hsv',hp⟩)
   rw [← hsk] at hsv' hp
   rw [← hsk]
   (repeat (first|(with_reducible first|apply qA|apply qE|apply qB|apply qZ)|(apply wlp;(first|apply qC|apply qD);(first|exact fI rfl|exact fS rfl))))
   (apply wlp;(exact qY rfl rfl);exact qI (b:=((k + 1:Nat):Int)) (by rw [qN (by omega) (by omega)];omega))
   (repeat (first|(with_reducible first|apply qE|apply qB)|(apply wlp;apply qD;exact fI rfl)))
   exact ⟨k + 1,s',c',qG (qG (Same.eq (by repeat (first|exact Same.hav|exact Same.refl|refine Same.put rfl ?_|refine Same.havs rfl ?_))) rfl) rfl,⟨by omega,hsv',hp.tail⟩,by omega⟩
  obtain rfl:k = wt:=by omega
  rw [hnx] at hsv hp ⊢
  (repeat (first|(with_reducible first|apply qA|apply qB|apply qZ|apply qO|apply jB)|((with_reducible apply qP);exact rfl)|(apply wlp;apply qC;exact fI rfl)))
  (apply wlp;(exact qY rfl rfl);exact qI (b:=((i + 1:Nat):Int)) (by rw [qN (by omega) (by omega)];omega))
  (repeat (first|(with_reducible first|apply qE|apply qB)|(apply wlp;apply qD;exact fI rfl)))
  exact ⟨i + 1,s1,c1,qG (qG (Same.eq (by repeat (first|exact Same.hav|exact Same.refl|refine Same.put rfl ?_|refine Same.havs rfl ?_))) rfl) rfl,⟨by omega,hsv,hp⟩,by omega⟩
 obtain rfl:i = ms.length:=by omega
 rw [qUi] at hsv hp ⊢
 (repeat (first|(with_reducible first|apply qF|apply qA|apply qE|apply qB|apply qO|apply qT|apply jB)|((with_reducible apply qP);exact rfl)|(apply wlp;(first|apply qC|apply qD);exact fS rfl)))
 exact qU rfl rfl ⟨_,rfl,s1,c1,rfl,hsv,hp⟩
theorem p20 (ms:List Mem) (s:Option Addr) (c:Nat) (w:World) (hs:SlAt w 3 eMe s ms) (ho:MsOk ms) :
  Ret Tryz.prog 20 [.slice s ms.length c] w (fun v w'=>v = .int .i64 ((zC ms).sum:Int)∧Keeps [] w w'):=by
 obtain ⟨hl1,hl2⟩:=ho.len
 have hwl:=uX ms
 have hwg:=fun {i:Nat} (h:i < ms.length)=>qCo h
 have hpos:=ho.wo.pos
 have hmax:=ho.wo.max
 have hs60:=ho.wo.sum
 have hnd:=ho.nd
 rw [List.nodup_iff_pairwise_ne,List.pairwise_map,List.pairwise_iff_getElem] at hnd
 generalize zC ms = ws at *
 refine Ret.of_WP Tryz.func20 rfl Tryz.ntmps20 rfl ?_
 have hp:=Hp.start (M:=[]) (w:=w)
 (repeat (first|(with_reducible first|apply qF|apply qA|apply qE|apply qB)|((first|apply wlp|(apply wlg;exact rfl;exact rfl));(intros;((first|apply qC|apply qD|(apply jC;exact rfl)|exact qAq rfl rfl rfl|apply jA|apply zA)<;>(first|exact rfl|exact jR rfl (by assumption))));(intros;(first|exact fI rfl|exact fB rfl|exact fS rfl)))))
 refine zT rfl (fun h=>absurd h (by simp;omega)) (fun _=>?_)
 (repeat (first|(with_reducible first|apply qF|apply qK|apply qA|apply qE|apply qB|apply qL)|(apply wlp;apply qD;exact fI rfl)))
 refine jE ([2,3,4,5] ++ List.range' 14 43) (fun (i:Nat) F=>(F.put 4 (.int .i64 (i:Int))).put 3 (.int .i64 ((ws.take i).sum:Int)))
  (fun i w'=>i≤ms.length∧Hp w [] w' []) (fun i=>ms.length - i) 0 (qG (qG (Same.eq .refl) rfl) rfl) ⟨Nat.zero_le _,hp⟩ ?_
 clear hp
 rintro u0 i w2 ⟨hi,hp⟩
 have hle:=zU ws i
 (repeat (first|(with_reducible first|apply qF|apply qA|apply qE|apply qB)|(apply wlp;((first|apply qC|(apply jC;exact rfl)|apply jA)<;>exact rfl);(first|exact fI rfl|exact fB rfl|exact fS rfl))))
 refine qM rfl (fun h=>?_) (fun h=>?_)
 ·have hlt:i < ms.length:=by omega
  obtain ⟨b0,o0,hs0,hc0⟩:=hs.base (by omega)
  have hcc:=fun j (hj:j < ms.length)=>hc0 j _ (List.getElem?_eq_getElem hj)
  have hci:=hcc i hlt
  have hnx:=yF ws i
  have hle2:=zU ws (i + 1)
  have hw1:=hpos _ (uB (l:=ws) (i:=i) (by omega))
  have hw2:=hmax _ (uB (l:=ws) (i:=i) (by omega))
  have hgi:=hwg hlt
  have hid:=fun j (hj:j < ms.length) (hji:j < i)=>hnd j i hj hlt hji
  have hib:=ho.ib _ (List.getElem_mem hlt)
  generalize ms[i] = m at hci hgi hid hib
  obtain ⟨id,wt,pb⟩:=m
  dsimp only at hgi hid hib
  rw [hgi] at hw1 hw2 hnx
  have hcw:w.cell? ⟨b0,o0 + i * 3 + 1,none⟩ = some (.int .i64 (wt:Int)):=hci 1 _ rfl
  have hcd:w.cell? ⟨b0,o0 + i * 3 + 0,none⟩ = some (.int .i64 (id:Int)):=hci 0 _ rfl
  (repeat (first|(with_reducible first|apply qF|apply qK|apply qA|apply qE|apply qB|apply qL)|((first|apply wlp|(apply wlg;exact rfl;exact rfl));(intros;((first|apply qC|apply qS|(apply qJ;exact rfl)|exact qAq rfl rfl rfl|apply jA|apply zA|(apply qR;exact rfl))<;>(first|exact rfl|exact jR rfl (by assumption)|assumption|exact hp.old0 (by assumption))));(intros;(first|exact fI rfl|exact fB rfl|exact fP rfl|exact fS rfl)))))
  refine zT rfl (fun h=>absurd h (by simp;omega)) (fun _=>?_)
  (repeat (first|(with_reducible first|apply qF|apply qK|apply qA|apply qE|apply qB|apply qL)|(apply wlp;apply qD;exact fI rfl)))
  refine jE ([2,5] ++ List.range' 34 16) (fun (k:Nat) F=>F.put 5 (.int .i64 (k:Int)))
   (fun k w'=>k≤i∧Hp w [] w' []) (fun k=>i - k) 0 (qG (Same.eq .refl) rfl) ⟨Nat.zero_le _,hp⟩ ?_
  clear hp
  rintro u1 k w3 ⟨hk,hp⟩
  (repeat (first|(with_reducible first|apply qF|apply qA|apply qE|apply qB)|(apply wlp;((first|apply qC|apply jA)<;>exact rfl);(first|exact fI rfl|exact fB rfl))))
  refine qM rfl (fun h=>?_) (fun h=>?_)
  ·have hltk:k < ms.length:=by omega
   have hck:=hcc k hltk
   have hne:=hid k hltk (by omega)
   have hkb:=ho.ib _ (List.getElem_mem hltk)
   generalize ms[k] = q at hck hne hkb
   obtain ⟨id2,wt2,pb2⟩:=q
   dsimp only at hne hkb
   have hck:w.cell? ⟨b0,o0 + k * 3 + 0,none⟩ = some (.int .i64 (id2:Int)):=hck 0 _ rfl
   (repeat (with_reducible first|apply qF|apply qK|apply qB|apply qL))
   refine jX jW (by kernel_rfl) (fun w'=>Hp _ _ w' _) hp.drew ?_
   have hp:=hp.drew
   (repeat ((apply wdp;exact rfl);(intro w hp;intros;((first|apply qC|apply qS|(apply qJ;exact rfl)|(apply zF;(first|exact rfl|exact jR rfl (by assumption)))|(apply qR;exact rfl))<;>(first|exact rfl|assumption|exact hp.old0 (by assumption))));(intros;(first|exact fI rfl|exact fB rfl|exact fP rfl|exact fS rfl))))
   refine jL ?_
   (repeat with_reducible apply qB)
   refine qM rfl (fun h=>absurd h (by omega)) (fun _=>?_)
   (repeat (first|(with_reducible first|apply qA|apply qB|apply qZ|apply qL)|(apply wlp;apply qC;exact fI rfl)))
   (apply wlp;(exact qY rfl rfl);exact qI (b:=((k + 1:Nat):Int)) (by rw [qN (by omega) (by omega)];omega))
   (repeat (first|(with_reducible first|apply qE|apply qB)|(apply wlp;apply qD;exact fI rfl)))
   exact ⟨k + 1,qG (Same.eq (by repeat (first|exact Same.hav|exact Same.refl|refine Same.put rfl ?_|refine Same.havs rfl ?_))) rfl,⟨by omega,hp⟩,by omega⟩
  (repeat (first|(with_reducible first|apply qA|apply qB|apply qO|apply jB)|((with_reducible apply qP);exact rfl)|(apply wlp;((first|apply qC|apply qS|(apply qJ;exact rfl)|(apply qR;exact rfl))<;>(first|exact rfl|assumption|exact hp.old0 (by assumption)));(first|exact fI rfl|exact fP rfl|exact fS rfl))))
  (apply wlp;(exact qY rfl rfl);exact qI (b:=(((ws.take (i + 1)).sum:Nat):Int)) (by rw [qN (by omega) (by omega)];omega))
  (repeat (first|(with_reducible first|apply qA|apply qE|apply qB|apply qZ)|(apply wlp;(first|apply qC|apply qD);exact fI rfl)))
  (apply wlp;(exact qY rfl rfl);exact qI (b:=((i + 1:Nat):Int)) (by rw [qN (by omega) (by omega)];omega))
  (repeat (first|(with_reducible first|apply qE|apply qB)|(apply wlp;apply qD;exact fI rfl)))
  exact ⟨i + 1,qG (qG (Same.eq (by repeat (first|exact Same.hav|exact Same.refl|refine Same.put rfl ?_|refine Same.havs rfl ?_))) rfl) rfl,⟨by omega,hp⟩,by omega⟩
 obtain rfl:i = ms.length:=by omega
 have e1:(ws.take ms.length).sum = ws.sum:=by rw [← hwl,List.take_length]
 rw [e1]
 (repeat (first|(with_reducible first|apply qF|apply qA|apply qE|apply qB|apply qO|apply jB)|((with_reducible apply qP);exact rfl)|(apply wlp;((first|apply qC|apply zA)<;>exact rfl);(first|exact fI rfl|exact fB rfl))))
 refine qM rfl (fun h=>absurd h (by omega)) (fun _=>?_)
 (repeat (first|(with_reducible first|apply qF|apply qA|apply qE|apply qB|apply qT|apply qL)|(apply wlp;(first|apply qC|apply qD);exact fI rfl)))
 exact qU rfl rfl ⟨_,rfl,rfl,hp.keeps⟩
theorem p61 (n:Nat) (w:World) (h1:1≤n) (h2:n≤1000000):Ret Tryz.prog 61 [.int .i64 (n:Int)] w (fun v w'=>v = .int .i64 (((n - 1) / 3:Nat):Int)∧Keeps [] w w'):=by
 refine Ret.of_WP Tryz.func61 rfl Tryz.ntmps61 rfl ?_
 have hp:=Hp.start (M:=[]) (w:=w)
 (repeat (first|(with_reducible first|apply qF|apply qK|apply qA|apply qE|apply qB)|(apply wlp;apply qD;exact fI rfl)))
 refine jE (List.range' 3 19) (fun (i:Nat) F=>F.put 3 (.int .i64 (i:Int)))
  (fun i w'=>3 * i + 1≤n∧Hp w [] w' []) (fun i=>n - i) 0 (qG (Same.eq .refl) rfl) ⟨by omega,hp⟩ ?_
 clear hp
 rintro u0 i w2 ⟨hi,hp⟩
 have hd3:IntKind.i64.wrap ((n:Int).tdiv 3) = ((n / 3:Nat):Int):=by
  rw [show (3:Int) = ((3:Nat):Int) from rfl,tdn]
  exact qD4 (by omega)
 (repeat (with_reducible first|apply qF|apply qA))
 (apply wlp;apply qC;exact fI rfl)
 (apply wlp;(exact xF rfl rfl);exact jF (b:=true) (decide_eq_true (by omega)))
 (apply wlp;apply qC;exact fB rfl)
 ((apply jO;exact rfl;exact rfl);(apply qC);(intros;exact fI rfl))
 ((apply jO;exact rfl;exact rfl);(apply qC);(intros;exact fI rfl))
 (apply jO;exact rfl;exact rfl;exact yV rfl rfl (by decide);exact qI hd3)
 (apply jO;exact rfl;exact rfl;(exact qY rfl rfl);exact qI (b:=((n / 3 + 1:Nat):Int)) (by rw [qN (by omega) (by omega)];omega))
 (apply jO;exact rfl;exact rfl;(exact jA rfl rfl);exact jF (b:=true) (decide_eq_true (by omega)))
 (apply wlp;exact zM rfl rfl;exact fB rfl)
 (apply wlp;apply qC;exact fB rfl)
 ((apply jO;exact rfl;exact rfl);(apply qC);(intros;exact fI rfl))
 (apply jO;exact rfl;exact rfl;(exact qY rfl rfl);exact qI (b:=((i + 1:Nat):Int)) (by rw [qN (by omega) (by omega)];omega))
 (apply jO;exact rfl;exact rfl;(exact xU rfl rfl);exact qI (b:=((3 * (i + 1):Nat):Int)) (by rw [qN (by omega) (by omega)];omega))
 ((apply jO;exact rfl;exact rfl);(apply qC);(intros;exact fI rfl))
 (apply jO;exact rfl;exact rfl;exact jA rfl rfl;exact jF (b:=decide (3 * (i + 1) < n)) (by rw [decide_eq_decide];omega))
 (apply wlp;exact zM rfl rfl;exact fB rfl)
 (repeat (with_reducible first|apply qE|apply qB))
 refine qM rfl (fun h=>?_) (fun h=>?_)
 ·(repeat (first|(with_reducible first|apply qK|apply qA|apply qB|apply qL)|(apply wlp;apply qC;exact fI rfl)))
  (apply wlp;(exact qY rfl rfl);exact qI (b:=((i + 1:Nat):Int)) (by rw [qN (by omega) (by omega)];omega))
  (repeat (first|(with_reducible first|apply qE|apply qB|apply qZ)|(apply wlp;apply qD;exact fI rfl)))
  exact ⟨i + 1,qG (Same.eq (by repeat (first|exact Same.hav|exact Same.refl|refine Same.put rfl ?_|refine Same.havs rfl ?_))) rfl,⟨by omega,hp⟩,by omega⟩
 (repeat (first|(with_reducible first|apply qF|apply qA|apply qE|apply qB|apply qO|apply qT|apply jB)|((with_reducible apply qP);exact rfl)|(apply wlp;(first|apply qC|apply qD);exact fI rfl)))
 have e:i = (n - 1) / 3:=by omega
 exact qU rfl rfl ⟨_,rfl,by rw [← e];rfl,hp.keeps⟩
theorem p19 (n:Nat) (w:World) (h1:1≤n) (h2:n≤1000000):Ret Tryz.prog 19 [.int .i64 (n:Int)] w (fun v w'=>v = .int .i64 (ndN n:Int)∧Keeps [] w w'):=by
 refine Ret.of_WP Tryz.func19 rfl Tryz.ntmps19 rfl ?_
 have hp:=Hp.start (M:=[]) (w:=w)
 (repeat (first|(with_reducible first|apply qF|apply qA|apply qE|apply qB)|(apply wlp;((first|apply qC|apply qD|apply jA)<;>exact rfl);(first|exact fI rfl|exact fB rfl))))
 refine qM rfl (fun h=>absurd h (by omega)) (fun _=>?_)
 (repeat (first|(with_reducible first|apply qF|apply qA|apply qB|apply qL)|(apply wlp;apply qC;exact fI rfl)))
 (apply wls;exact qH rfl jAl rfl (p61 n _ h1 h2))
 rintro _ w3 ⟨rfl,hk⟩
 have hp:=hp.call hk
 (apply wlp;exact qY rfl rfl;exact qI (b:=(ndN n:Int)) (by unfold ndN;rw [qN (by omega) (by omega)];omega))
 (repeat (first|(with_reducible first|apply qE|apply qB|apply qT)|(apply wlp;apply qD;exact fI rfl)))
 exact qU rfl rfl ⟨_,rfl,rfl,hp.keeps⟩
end Go.Proofs.YtbgldmoikimmpaaGreatDoor
