/- Merged texts of ours: B2 C1 B3 B4 B5 B6 B7 R1 R2 R3 R4 R5 R6 Er Es Eb E1 E2 F1; conditions are the hypotheses of each law. -/
import Derived.Test.YtbgldmoikimmpaaGreatDoorQ2
import Derived.Shelf.Strings.OnBuilder
import Derived.Shelf.LaysM
import Derived.Shelf.Strconv.Itoa3
import Derived.Shelf.Strings.Repeat
import Derived.OrdersIn
namespace Go.Proofs.YtbgldmoikimmpaaGreatDoor
open Go.Eng Go.Dig Go.Sha
def u8 (x:Nat):Value:=.int .u8 (x:Int)
def wA (bt:Nat→Nat) (i:Nat):Fr:=fun j=>u (wp bt j (min 4 (i - 4 * j)))
def wB (bt:Nat→Nat) (i:Nat):Fr:=fun j=>if j < i then u (wf bt j) else u 0
theorem qFi (v:Value) (m:Nat) {j:Nat} (h:j < m):qV (List.replicate m v) j = v:=by
 rw [kW,List.getD_eq_getElem?_getD,List.getElem?_replicate,if_pos h]
 rfl
theorem qSg (bt:Nat→Nat) (j:Nat) (h:j < 64):qV (List.replicate 64 (u 0)) j = wA bt 0 j:=by
 rw [qFi _ _ h]
 unfold wA
 rw [Nat.zero_sub,Nat.min_zero]
 rfl
theorem qZ9 (bt:Nat→Nat) (i:Nat):wA bt i (0 + i / 4 * 1) = u (wp bt (i / 4) (i % 4)):=by
 unfold wA
 rw [show min 4 (i - 4 * (0 + i / 4 * 1)) = i % 4 by omega,show 0 + i / 4 * 1 = i / 4 by omega]
theorem qSh {bt:Nat→Nat} {i:Nat}:yW (wA bt i) (0 + i / 4 * 1) [u ((wp bt (i / 4) (i % 4) * 2 ^ 8 % 4294967296) ||| bt i)] = wA bt (i + 1):=by
 funext j
 show (Fr.put (wA bt i) (0 + i / 4 * 1) _) j = _
 unfold Fr.put
 by_cases h:j = 0 + i / 4 * 1
 ·rw [h,Nat.beq_refl]
  show _ = u (wp bt (0 + i / 4 * 1) (min 4 (i + 1 - 4 * (0 + i / 4 * 1))))
  rw [show min 4 (i + 1 - 4 * (0 + i / 4 * 1)) = i % 4 + 1 by omega,show 0 + i / 4 * 1 = i / 4 by omega]
  show u _ = u ((wp bt (i / 4) (i % 4) * 2 ^ 8 % 4294967296) ||| bt (4 * (i / 4) + i % 4))
  rw [show 4 * (i / 4) + i % 4 = i by omega]
 ·rw [zS h]
  show u (wp bt j (min 4 (i - 4 * j))) = u (wp bt j (min 4 (i + 1 - 4 * j)))
  congr 2
  omega
theorem qVs (bt:Nat→Nat) (j:Nat) (_:j < 64):wA bt 64 j = wB bt 16 j:=by
 unfold wA wB
 by_cases h:j < 16
 ·rw [if_pos h,qO0 bt h,show min 4 (64 - 4 * j) = 4 by omega]
 ·rw [if_neg h,show min 4 (64 - 4 * j) = 0 by omega]
  rfl
theorem qLd (bt:Nat→Nat) {i k:Nat} (h:k < i):wB bt i (0 + k * 1) = u (wf bt k):=by
 unfold wB
 rw [show 0 + k * 1 = k by omega,if_pos h]
theorem qH9 {bt:Nat→Nat} {i:Nat} {v:Value} (hv:v = u (wf bt i)):yW (wB bt i) (0 + i * 1) [v] = wB bt (i + 1):=by
 subst hv
 funext j
 show (Fr.put (wB bt i) (0 + i * 1) _) j = _
 unfold Fr.put wB
 by_cases h:j = 0 + i * 1
 ·have h:j = i:=by omega
  subst h
  rw [show 0 + j * 1 = j by omega,Nat.beq_refl,if_pos (Nat.lt_succ_self j)]
  rfl
 ·rw [zS h]
  show (if j < i then u (wf bt j) else u 0) = (if j < i + 1 then u (wf bt j) else u 0)
  by_cases h2:j < i
  ·rw [if_pos h2,if_pos (by omega)]
  ·rw [if_neg h2,if_neg (by omega)]
attribute [local irreducible] PV StepF wpl wpd WP Ret
attribute [local irreducible] rr
theorem qZk (s:St) (st:ByteArray) (bt:Nat→Nat) (w:World) (hs:Ok s) (hb:∀ k,bt k < 256) (hst:∀ k,k < 64→bAt st k = (bt k:Int)) (hsz:64≤st.size) (hT:Tabs w) :
  Ret Tryz.prog 257 [.agg (sv s).toArray,.string st] w (fun v w'=>v = .agg (sv (qJe bt s)).toArray∧Keeps [] w w'):=by
 have hwp:=fun j k=>qUn hb j k
 have hwf:=fun j=>qUo hb j
 refine Ret.of_WP Tryz.func257 rfl Tryz.ntmps257 rfl ?_
 have hp:=Hp.start (M:=[]) (w:=w)
 (repeat (with_reducible first|apply qF|apply qA))
 (apply wls;exact qAj (cs:=sv s) (m:=8) hp rfl rfl rfl;rintro _ w1 ⟨sb,rfl,hp⟩)
 (apply wls;exact zR (cs:=List.replicate 8 (u 0)) (m:=8) hp (jD rfl) rfl rfl;rintro _ w2 ⟨rb,rfl,hp⟩)
 (repeat (with_reducible first|apply qF|apply qA|apply qE|apply qB))
 (apply wls;exact zR (cs:=List.replicate 64 (u 0)) (m:=64) hp (jD rfl) rfl rfl;rintro _ w3 ⟨wb,rfl,hp⟩)
 rw [xE (qSg bt)] at hp
 (repeat (first|(with_reducible first|apply qF|apply qK|apply qA|apply qE|apply qB)|(apply wlp;apply qC;exact fI rfl)))
 refine jE [6,23,24,25,26,27,28,29,30,31,32,33,34,35,36,37,38,39] (fun (i:Nat) F=>F.put 23 (.int .i64 (i:Int)))
  (fun i w'=>i≤64∧Hp w [] w' [blk wb 64 (wA bt i) 315,blk rb 8 (qV (List.replicate 8 (u 0))) 243,blk sb 8 (qV (sv s)) 243]) (fun i=>64 - i) 0
  (qG (Same.eq .refl) rfl) ⟨by omega,hp⟩ ?_
 clear hp
 rintro u0 i w4 ⟨hi,hp⟩
 (repeat (first|(with_reducible first|apply qF|apply qA|apply qE|apply qB)|(apply wlp;(apply jA<;>exact rfl);exact fB rfl)))
 refine qM rfl (fun h=>?_) (fun h=>?_)
 ·have hi:i < 64:=by omega
  have hwi:=hwp (i / 4) (i % 4)
  have hbi:=hb i
  have hsi:=hst i hi
  have hii:i < st.size:=by omega
  have hq:i / 4 < 64:=by omega
  have hat:∀ w',Hp w [] w' [blk wb 64 (wA bt i) 315,blk rb 8 (qV (List.replicate 8 (u 0))) 243,blk sb 8 (qV (sv s)) 243]→w'.cell? ⟨wb,0 + i / 4 * 1,none⟩ = some (u (wp bt (i / 4) (i % 4))):=by
   intro w' hp
   rw [hp.cell 0 rfl (zO (by omega)),qZ9]
  (repeat (first|(with_reducible first|apply qF|apply qK|apply qA|apply qE|apply qB|apply qL)|(apply wlp;(first|apply qC|apply qD);exact fI rfl)))
  refine xH jW (by kernel_rfl) (fun w'=>Hp w [] w' [blk wb 64 (wA bt i) 315,blk rb 8 (qV (List.replicate 8 (u 0))) 243,blk sb 8 (qV (sv s)) 243]) hp.drew ?_
  have hp:=hp.drew
  (repeat ((apply wdp;exact rfl);(intro w hp;intros;apply qC);(intros;exact fI rfl)))
  (apply wdp;exact rfl;(intro w hp;exact yV rfl rfl (by decide));exact qI (b:=((i / 4:Nat):Int)) (vO 4 (by omega)))
  (repeat ((apply wdp;exact rfl);(intro w hp;intros;apply qC);(intros;exact fI rfl)))
  (apply wdp;exact rfl;(intro w hp;exact yV rfl rfl (by decide));exact qI (b:=((i / 4:Nat):Int)) (vO 4 (by omega)))
  (apply wdp;exact rfl;(intro w hp;exact jG rfl rfl rfl hq);exact fP rfl)
  (apply wdp;exact rfl;(intro w hp;exact qJ rfl rfl (hat w hp));exact qI (b:=((wp bt (i / 4) (i % 4):Nat):Int)) rfl)
  (apply wdp;exact rfl;(intro w hp;exact wC (b:=8) rfl rfl (by decide));exact qI (b:=((wp bt (i / 4) (i % 4) * 2 ^ 8 % 4294967296:Nat):Int)) rfl)
  (apply wdp;exact rfl;(intro w hp;exact qC);exact fT rfl)
  (apply wdp;exact rfl;(intro w hp;exact qC);exact fI rfl)
  (apply wdp;exact rfl;(intro w hp;exact zY rfl rfl rfl hii);exact qI (b:=((bt i:Nat):Int)) hsi)
  (apply wdp;exact rfl;(intro w hp;exact xM rfl rfl rfl);exact qI (b:=((bt i:Nat):Int)) (by omega))
  (apply wdp;exact rfl;(intro w hp;exact qBn rfl rfl (vB _) (by omega));exact qI (b:=(((wp bt (i / 4) (i % 4) * 2 ^ 8 % 4294967296) ||| bt i:Nat):Int)) rfl)
  (apply wdp;exact rfl;(intro w hp;exact jG rfl rfl rfl hq);exact fP rfl)
  (apply kH;exact rfl;exact rfl;exact zD (cs:=[u ((wp bt (i / 4) (i % 4) * 2 ^ 8 % 4294967296) ||| bt i)]) hp 0 rfl rfl rfl rfl (qQ rfl) (vN (by show 0 + i / 4 * 1 + 1≤64;omega)) rfl;rintro _ w5 ⟨rfl,hp⟩)
  rw [qSh] at hp
  refine jL ?_
  (repeat (with_reducible first|apply qA|apply qB|apply qZ))
  (apply wlp;exact qY rfl rfl;exact qI (qN (by omega) (by omega)))
  (repeat (first|(with_reducible first|apply qE|apply qB)|(apply wlp;apply qC;exact fI rfl)))
  exact ⟨i + 1,qG (Same.eq (by repeat (first|exact Same.hav|exact Same.refl|refine Same.put rfl ?_|refine Same.havs rfl ?_))) rfl,⟨by omega,hp⟩,by omega⟩
 obtain rfl:i = 64:=by omega
 clear h hi
 rw [xE (qVs bt)] at hp
 (repeat (first|(with_reducible first|apply qF|apply qK|apply qA|apply qE|apply qB|apply qO|apply jB)|((with_reducible apply qP);exact rfl)|(apply wlp;apply qD;exact fI rfl)))
 refine jE [7,8,9,10,11,40,41,42,43,44,45,46,47,48,49,50,51,52,53,54,55,56,57,58,59,60,61,62,63,64,65,66,67,68,69,70,71,72,73,74,75,76,77,78,79,80,81,82] (fun (i:Nat) F=>F.put 7 (.int .i64 (i:Int)))
  (fun i w'=>16≤i∧i≤64∧Hp w [] w' [blk wb 64 (wB bt i) 315,blk rb 8 (qV (List.replicate 8 (u 0))) 243,blk sb 8 (qV (sv s)) 243]) (fun i=>64 - i) 16
  (qG (Same.eq .refl) rfl) ⟨by omega,by omega,hp⟩ ?_
 clear hp
 rintro u1 i w4 ⟨hi6,hi,hp⟩
 (repeat (first|(with_reducible first|apply qF|apply qA|apply qE|apply qB)|(apply wlp;((first|apply qC|apply jA)<;>exact rfl);(first|exact fI rfl|exact fB rfl))))
 refine qM rfl (fun h=>?_) (fun h=>?_)
 ·have hi:i < 64:=by omega
  have hat:∀ k,k < i→∀ w',Hp w [] w' [blk wb 64 (wB bt i) 315,blk rb 8 (qV (List.replicate 8 (u 0))) 243,blk sb 8 (qV (sv s)) 243]→w'.cell? ⟨wb,0 + k * 1,none⟩ = some (u (wf bt k)):=by
   intro k hk w' hp
   rw [hp.cell 0 rfl (zO (by omega)),qLd bt hk]
  have hX:=hwf (i - 15)
  have hY:=hwf (i - 2)
  have hw0:=qO1 bt hi6
  (repeat (with_reducible first|apply qF|apply qK|apply qB|apply qL))
  refine xH jW (by kernel_rfl) (fun w'=>Hp w [] w' [blk wb 64 (wB bt i) 315,blk rb 8 (qV (List.replicate 8 (u 0))) 243,blk sb 8 (qV (sv s)) 243]) hp.drew ?_
  have hp:=hp.drew
  (apply wdp;exact rfl;(intro w hp;exact qC);exact fI rfl)
  (apply wdp;exact rfl;(intro w hp;exact jN rfl rfl);exact qI (b:=((i - 15:Nat):Int)) (by rw [qN (by omega) (by omega)];omega))
  (apply wdp;exact rfl;(intro w hp;exact jG rfl rfl rfl (show i - 15 < 64 by omega));exact fP rfl)
  (apply wdp;exact rfl;(intro w hp;exact qJ rfl rfl (hat _ (by omega) w hp));exact fI rfl)
  (apply wdp;exact rfl;(intro w hp;exact qC);exact fI rfl)
  (apply wdp;exact rfl;(intro w hp;exact jN rfl rfl);exact qI (b:=((i - 2:Nat):Int)) (by rw [qN (by omega) (by omega)];omega))
  (apply wdp;exact rfl;(intro w hp;exact jG rfl rfl rfl (show i - 2 < 64 by omega));exact fP rfl)
  (apply wdp;exact rfl;(intro w hp;exact qJ rfl rfl (hat _ (by omega) w hp));exact fI rfl)
  (apply wdp;exact rfl;(intro w hp;exact qD);exact fI rfl)
  (apply wdp;exact rfl;(intro w hp;exact qD);exact fI rfl)
  refine jL ?_
  (repeat (with_reducible first|apply qF|apply qA|apply qB))
  (apply wlp;exact qC;exact fI rfl)
  (apply wls;exact qH rfl wY rfl (qG6 _ 7 _ hX (by decide) (by decide)))
  rintro _ w5 ⟨rfl,hk⟩
  have hp:=hp.call hk
  clear hk
  (apply wlp;exact qC;exact fI rfl)
  (apply wls;exact qH rfl wY rfl (qG6 _ 18 _ hX (by decide) (by decide)))
  rintro _ w5 ⟨rfl,hk⟩
  have hp:=hp.call hk
  clear hk
  (apply wlp;exact xC rfl rfl (xR hX _) (xR hX _);exact fI rfl)
  (apply wlp;exact qC;exact fI rfl)
  (apply wlp;exact xA (b:=3) rfl rfl (by decide);exact fI rfl)
  (apply wlp;exact xC rfl rfl (wS (xR hX _) (xR hX _)) (qCh hX);exact fI rfl)
  (apply wlp;exact qD;exact fI rfl)
  (repeat (with_reducible first|apply qF|apply qA|apply qE|apply qB))
  (apply wlp;exact qC;exact fI rfl)
  (apply wls;exact qH rfl wY rfl (qG6 _ 17 _ hY (by decide) (by decide)))
  rintro _ w5 ⟨rfl,hk⟩
  have hp:=hp.call hk
  clear hk
  (apply wlp;exact qC;exact fI rfl)
  (apply wls;exact qH rfl wY rfl (qG6 _ 19 _ hY (by decide) (by decide)))
  rintro _ w5 ⟨rfl,hk⟩
  have hp:=hp.call hk
  clear hk
  (apply wlp;exact xC rfl rfl (xR hY _) (xR hY _);exact fI rfl)
  (apply wlp;exact qC;exact fI rfl)
  (apply wlp;exact xA (b:=10) rfl rfl (by decide);exact fI rfl)
  (apply wlp;exact xC rfl rfl (wS (xR hY _) (xR hY _)) (qCh hY);exact fI rfl)
  (apply wlp;exact qD;exact fI rfl)
  (repeat (with_reducible first|apply qE|apply qB))
  refine xH jW (by kernel_rfl) (fun w'=>Hp w [] w' [blk wb 64 (wB bt i) 315,blk rb 8 (qV (List.replicate 8 (u 0))) 243,blk sb 8 (qV (sv s)) 243]) hp.drew ?_
  have hp:=hp.drew
  (apply wdp;exact rfl;(intro w hp;exact qC);exact fI rfl)
  (apply wdp;exact rfl;(intro w hp;exact qC);exact fI rfl)
  (apply wdp;exact rfl;(intro w hp;exact jN rfl rfl);exact qI (b:=((i - 16:Nat):Int)) (by rw [qN (by omega) (by omega)];omega))
  (apply wdp;exact rfl;(intro w hp;exact jG rfl rfl rfl (show i - 16 < 64 by omega));exact fP rfl)
  (apply wdp;exact rfl;(intro w hp;exact qJ rfl rfl (hat _ (by omega) w hp));exact fI rfl)
  (apply wdp;exact rfl;(intro w hp;exact qC);exact fI rfl)
  (apply wdp;exact rfl;(intro w hp;exact zH rfl rfl);exact fI rfl)
  (apply wdp;exact rfl;(intro w hp;exact qC);exact fI rfl)
  (apply wdp;exact rfl;(intro w hp;exact jN rfl rfl);exact qI (b:=((i - 7:Nat):Int)) (by rw [qN (by omega) (by omega)];omega))
  (apply wdp;exact rfl;(intro w hp;exact jG rfl rfl rfl (show i - 7 < 64 by omega));exact fP rfl)
  (apply wdp;exact rfl;(intro w hp;exact qJ rfl rfl (hat _ (by omega) w hp));exact fI rfl)
  (apply wdp;exact rfl;(intro w hp;exact zH rfl rfl);exact fI rfl)
  (apply wdp;exact rfl;(intro w hp;exact qC);exact fI rfl)
  (apply wdp;exact rfl;(intro w hp;exact zH rfl rfl);exact fI rfl)
  (apply wdp;exact rfl;(intro w hp;exact jG rfl rfl rfl hi);exact fP rfl)
  (apply kH;exact rfl;exact rfl;exact zD (cs:=[u (wf bt i)]) hp 0 rfl rfl rfl (congrArg (fun x=>[u x]) hw0.symm) (qQ rfl) (vN (by show 0 + i * 1 + 1≤64;omega)) rfl;rintro _ w6 ⟨rfl,hp⟩)
  rw [qH9 rfl] at hp
  refine jL ?_
  (repeat (first|(with_reducible first|apply qA|apply qB|apply qZ)|(apply wlp;apply qC;exact fI rfl)))
  (apply wlp;exact qY rfl rfl;exact qI (qN (by omega) (by omega)))
  (repeat (first|(with_reducible first|apply qE|apply qB)|(apply wlp;apply qD;exact fI rfl)))
  exact ⟨i + 1,qG (Same.eq (by repeat (first|exact Same.hav|exact Same.refl|refine Same.put rfl ?_|refine Same.havs rfl ?_))) rfl,⟨by omega,by omega,hp⟩,by omega⟩
 obtain rfl:i = 64:=by omega
 clear h hi hi6
 (repeat (first|(with_reducible first|apply qF|apply qB|apply qO|apply jB)|((with_reducible apply qP);exact rfl)))
 refine jX jW (by kernel_rfl) (fun w'=>Hp w [] w' [blk wb 64 (wB bt 64) 315,blk rb 8 (qV (List.replicate 8 (u 0))) 243,blk sb 8 (qV (sv s)) 243]) hp.drew ?_
 have hp:=hp.drew
 (apply wdp;exact rfl;(intro w hp;exact jG (i:=0) rfl rfl rfl (by decide));exact fP rfl)
 (apply wdp;exact rfl;(intro w hp;exact qJ rfl rfl (hp.cell 2 rfl rfl));exact fI rfl)
 (apply wdp;exact rfl;(intro w hp;exact jG (i:=1) rfl rfl rfl (by decide));exact fP rfl)
 (apply wdp;exact rfl;(intro w hp;exact qJ rfl rfl (hp.cell 2 rfl rfl));exact fI rfl)
 (apply wdp;exact rfl;(intro w hp;exact jG (i:=2) rfl rfl rfl (by decide));exact fP rfl)
 (apply wdp;exact rfl;(intro w hp;exact qJ rfl rfl (hp.cell 2 rfl rfl));exact fI rfl)
 (apply wdp;exact rfl;(intro w hp;exact jG (i:=3) rfl rfl rfl (by decide));exact fP rfl)
 (apply wdp;exact rfl;(intro w hp;exact qJ rfl rfl (hp.cell 2 rfl rfl));exact fI rfl)
 (apply wdp;exact rfl;(intro w hp;exact qD);exact fI rfl)
 (apply wdp;exact rfl;(intro w hp;exact qD);exact fI rfl)
 (apply wdp;exact rfl;(intro w hp;exact qD);exact fI rfl)
 (apply wdp;exact rfl;(intro w hp;exact qD);exact fI rfl)
 refine jL ?_
 (repeat (with_reducible first|apply qF|apply qB))
 refine jX jW (by kernel_rfl) (fun w'=>Hp w [] w' [blk wb 64 (wB bt 64) 315,blk rb 8 (qV (List.replicate 8 (u 0))) 243,blk sb 8 (qV (sv s)) 243]) hp.drew ?_
 have hp:=hp.drew
 (apply wdp;exact rfl;(intro w hp;exact jG (i:=4) rfl rfl rfl (by decide));exact fP rfl)
 (apply wdp;exact rfl;(intro w hp;exact qJ rfl rfl (hp.cell 2 rfl rfl));exact fI rfl)
 (apply wdp;exact rfl;(intro w hp;exact jG (i:=5) rfl rfl rfl (by decide));exact fP rfl)
 (apply wdp;exact rfl;(intro w hp;exact qJ rfl rfl (hp.cell 2 rfl rfl));exact fI rfl)
 (apply wdp;exact rfl;(intro w hp;exact jG (i:=6) rfl rfl rfl (by decide));exact fP rfl)
 (apply wdp;exact rfl;(intro w hp;exact qJ rfl rfl (hp.cell 2 rfl rfl));exact fI rfl)
 (apply wdp;exact rfl;(intro w hp;exact jG (i:=7) rfl rfl rfl (by decide));exact fP rfl)
 (apply wdp;exact rfl;(intro w hp;exact qJ rfl rfl (hp.cell 2 rfl rfl));exact fI rfl)
 (apply wdp;exact rfl;(intro w hp;exact qD);exact fI rfl)
 (apply wdp;exact rfl;(intro w hp;exact qD);exact fI rfl)
 (apply wdp;exact rfl;(intro w hp;exact qD);exact fI rfl)
 (apply wdp;exact rfl;(intro w hp;exact qD);exact fI rfl)
 refine jL ?_
 (repeat (with_reducible first|apply qF|apply qA|apply qB))
 (repeat (first|(with_reducible first|apply qK|apply qE|apply qB)|(apply wlp;apply qC;exact fI rfl)))
 refine jE ([12,13,14,15,16,17,18,19,20,21,22] ++ List.range' 99 63) (fun (i:Nat) F=>((((((((F.put 12 (u (rds bt s i).a)).put 13 (u (rds bt s i).b)).put 14 (u (rds bt s i).c)).put 15 (u (rds bt s i).d)).put 16 (u (rds bt s i).e)).put 17 (u (rds bt s i).f)).put 18 (u (rds bt s i).g)).put 19 (u (rds bt s i).h)).put 99 (.int .i64 (i:Int)))
  (fun i w'=>i≤64∧Hp w [] w' [blk wb 64 (wB bt 64) 315,blk rb 8 (qV (List.replicate 8 (u 0))) 243,blk sb 8 (qV (sv s)) 243]) (fun i=>64 - i) 0
  (qG (qG (qG (qG (qG (qG (qG (qG (qG (Same.eq .refl) rfl) rfl) rfl) rfl) rfl) rfl) rfl) rfl) rfl) ⟨by omega,hp⟩ ?_
 clear hp
 rintro u2 i w4 ⟨hi,hp⟩
 have hr:=hs.rds bt i
 have hrn:rds bt s (i + 1) = rnd (kf i) (wf bt i) (rds bt s i):=rfl
 have hend:∀ h:i = 64,qJe bt s = addS s (rds bt s i):=fun h=>by subst h;rfl
 generalize rds bt s i = r at hr hrn hend ⊢
 (repeat (first|(with_reducible first|apply qF|apply qA|apply qE|apply qB)|(apply wlp;(apply jA<;>exact rfl);exact fB rfl)))
 refine qM rfl (fun h=>?_) (fun h=>?_)
 ·have hi:i < 64:=by omega
  have hat:∀ w',Hp w [] w' [blk wb 64 (wB bt 64) 315,blk rb 8 (qV (List.replicate 8 (u 0))) 243,blk sb 8 (qV (sv s)) 243]→w'.cell? ⟨wb,0 + i * 1,none⟩ = some (u (wf bt i)):=by
   intro w' hp
   rw [hp.cell 0 rfl (zO (by omega)),qLd bt hi]
  have hke:=hr.e
  have hka:=hr.a
  (repeat (first|(with_reducible first|apply qF|apply qK|apply qA|apply qE|apply qB|apply qL)|(apply wlp;(first|apply qC|apply qD);exact fI rfl)))
  refine jX jW (by kernel_rfl) (fun w'=>Hp w [] w' [blk wb 64 (wB bt 64) 315,blk rb 8 (qV (List.replicate 8 (u 0))) 243,blk sb 8 (qV (sv s)) 243]) hp.drew ?_
  have hp:=hp.drew
  (apply wdp;exact rfl;(intro w hp;exact qC);exact fI rfl)
  (apply wdp;exact rfl;(intro w hp;exact qC);exact fI rfl)
  (apply wds;exact rfl;exact qH rfl wY rfl (qG6 _ 6 _ hke (by decide) (by decide)))
  rintro _ w5 ⟨rfl,hk⟩
  have hp:=hp.call hk
  clear hk
  refine ⟨hp,?_⟩
  (apply wdp;exact rfl;(intro w hp;exact qC);exact fI rfl)
  (apply wds;exact rfl;exact qH rfl wY rfl (qG6 _ 11 _ hke (by decide) (by decide)))
  rintro _ w5 ⟨rfl,hk⟩
  have hp:=hp.call hk
  clear hk
  refine ⟨hp,?_⟩
  (apply wdp;exact rfl;(intro w hp;exact xC rfl rfl (xR hke _) (xR hke _));exact fI rfl)
  (apply wdp;exact rfl;(intro w hp;exact qC);exact fI rfl)
  (apply wds;exact rfl;exact qH rfl wY rfl (qG6 _ 25 _ hke (by decide) (by decide)))
  rintro _ w5 ⟨rfl,hk⟩
  have hp:=hp.call hk
  clear hk
  refine ⟨hp,?_⟩
  (apply wdp;exact rfl;(intro w hp;exact xC rfl rfl (wS (xR hke _) (xR hke _)) (xR hke _));exact fI rfl)
  (apply wdp;exact rfl;(intro w hp;exact zH rfl rfl);exact fI rfl)
  (apply wdp;exact rfl;(intro w hp;exact qC);exact fI rfl)
  (apply wdp;exact rfl;(intro w hp;exact qC);exact fI rfl)
  (apply wdp;exact rfl;(intro w hp;exact vU rfl rfl hr.e hr.f);exact fI rfl)
  (apply wdp;exact rfl;(intro w hp;exact qC);exact fI rfl)
  (apply wdp;exact rfl;(intro w hp;exact qJ6 rfl hke);exact fI rfl)
  (apply wdp;exact rfl;(intro w hp;exact qC);exact fI rfl)
  (apply wdp;exact rfl;(intro w hp;exact vU rfl rfl (Nat.lt_of_le_of_lt (Nat.sub_le _ _) (by decide)) hr.g);exact fI rfl)
  (apply wdp;exact rfl;(intro w hp;exact xC rfl rfl (kP hr.e) (kP (Nat.lt_of_le_of_lt (Nat.sub_le _ _) (by decide))));exact fI rfl)
  (apply wdp;exact rfl;(intro w hp;exact zH rfl rfl);exact fI rfl)
  (apply wdp;exact rfl;(intro w hp;exact qC);exact fI rfl)
  (apply wdp;exact rfl;(intro w hp;exact jG rfl rfl rfl hi);exact fP rfl)
  (apply wdp;exact rfl;(intro w hp;exact qJ rfl rfl ((hT.keep hp.keeps).cons i hi));exact fI rfl)
  (apply wdp;exact rfl;(intro w hp;exact zH rfl rfl);exact fI rfl)
  (apply wdp;exact rfl;(intro w hp;exact qC);exact fI rfl)
  (apply wdp;exact rfl;(intro w hp;exact jG rfl rfl rfl hi);exact fP rfl)
  (apply wdp;exact rfl;(intro w hp;exact qJ rfl rfl (hat _ hp));exact fI rfl)
  (apply wdp;exact rfl;(intro w hp;exact zH rfl rfl);exact fI rfl)
  (apply wdp;exact rfl;(intro w hp;exact qD);exact qI (b:=((T1 (kf i) (wf bt i) r:Nat):Int)) rfl)
  refine jL ?_
  (repeat (with_reducible first|apply qF|apply qA|apply qB))
  (apply wlp;exact qC;exact fI rfl)
  (apply wls;exact qH rfl wY rfl (qG6 _ 2 _ hka (by decide) (by decide)))
  rintro _ w5 ⟨rfl,hk⟩
  have hp:=hp.call hk
  clear hk
  (apply wlp;exact qC;exact fI rfl)
  (apply wls;exact qH rfl wY rfl (qG6 _ 13 _ hka (by decide) (by decide)))
  rintro _ w5 ⟨rfl,hk⟩
  have hp:=hp.call hk
  clear hk
  (apply wlp;exact xC rfl rfl (xR hka _) (xR hka _);exact fI rfl)
  (apply wlp;exact qC;exact fI rfl)
  (apply wls;exact qH rfl wY rfl (qG6 _ 22 _ hka (by decide) (by decide)))
  rintro _ w5 ⟨rfl,hk⟩
  have hp:=hp.call hk
  clear hk
  (apply wlp;exact xC rfl rfl (wS (xR hka _) (xR hka _)) (xR hka _);exact fI rfl)
  (apply wlp;exact qC;exact fI rfl)
  (apply wlp;exact qC;exact fI rfl)
  (apply wlp;exact vU rfl rfl hr.a hr.b;exact fI rfl)
  (apply wlp;exact qC;exact fI rfl)
  (apply wlp;exact qC;exact fI rfl)
  (apply wlp;exact vU rfl rfl hr.a hr.c;exact fI rfl)
  (apply wlp;exact xC rfl rfl (kP hr.a) (kP hr.a);exact fI rfl)
  (apply wlp;exact qC;exact fI rfl)
  (apply wlp;exact qC;exact fI rfl)
  (apply wlp;exact vU rfl rfl hr.b hr.c;exact fI rfl)
  (apply wlp;exact xC rfl rfl (wS (kP hr.a) (kP hr.a)) (kP hr.b);exact fI rfl)
  (apply wlp;exact zH rfl rfl;exact fI rfl)
  (apply wlp;exact qD;exact qI (b:=((T2 r:Nat):Int)) rfl)
  (repeat (with_reducible first|apply qF|apply qA|apply qE|apply qB))
  (apply wlp;exact qC;exact fI rfl)
  (apply wlp;exact qC;exact fI rfl)
  (apply wlp;exact qC;exact fI rfl)
  (apply wlp;exact qD;exact fI rfl)
  (apply wlp;exact qD;exact fI rfl)
  (apply wlp;exact qD;exact fI rfl)
  (repeat (with_reducible first|apply qF|apply qA|apply qE|apply qB))
  (apply wlp;exact qC;exact fI rfl)
  (apply wlp;exact qC;exact fI rfl)
  (apply wlp;exact zH rfl rfl;exact fI rfl)
  (apply wlp;exact qD;exact fI rfl)
  (repeat (with_reducible first|apply qF|apply qA|apply qE|apply qB))
  (apply wlp;exact qC;exact fI rfl)
  (apply wlp;exact qC;exact fI rfl)
  (apply wlp;exact qC;exact fI rfl)
  (apply wlp;exact qD;exact fI rfl)
  (apply wlp;exact qD;exact fI rfl)
  (apply wlp;exact qD;exact fI rfl)
  (repeat (with_reducible first|apply qA|apply qE|apply qB))
  (apply wlp;exact qC;exact fI rfl)
  (apply wlp;exact qC;exact fI rfl)
  (apply wlp;exact zH rfl rfl;exact fI rfl)
  (apply wlp;exact qD;exact fI rfl)
  (repeat (with_reducible first|apply qA|apply qE|apply qB|apply qZ))
  (apply wlp;exact qY rfl rfl;exact qI (qN (by omega) (by omega)))
  (repeat (first|(with_reducible first|apply qE|apply qB)|(apply wlp;apply qC;exact fI rfl)))
  refine ⟨i + 1,?_,⟨by omega,hp⟩,by omega⟩
  rw [hrn]
  exact qG (qG (qG (qG (qG (qG (qG (qG (qG (Same.eq (by repeat (first|exact Same.hav|exact Same.refl|refine Same.put rfl ?_|refine Same.havs rfl ?_))) rfl) rfl) rfl) rfl) rfl) rfl) rfl) rfl) rfl
 have hi:i = 64:=by omega
 rw [hend hi]
 clear h hend hrn hi
 (repeat (first|(with_reducible first|apply qF|apply qA|apply qB|apply qO|apply jB)|((with_reducible apply qP);exact rfl)))
 (apply wlp;exact jG (i:=0) rfl rfl rfl (by decide);exact fP rfl)
 (apply wlp;exact qJ rfl rfl (hp.cell 2 rfl rfl);exact fI rfl)
 (apply wlp;exact qC;exact fI rfl)
 (apply wlp;exact zH rfl rfl;exact fI rfl)
 (apply wlp;exact jG (i:=1) rfl rfl rfl (by decide);exact fP rfl)
 (apply wlp;exact qJ rfl rfl (hp.cell 2 rfl rfl);exact fI rfl)
 (apply wlp;exact qC;exact fI rfl)
 (apply wlp;exact zH rfl rfl;exact fI rfl)
 (apply wlp;exact jG (i:=2) rfl rfl rfl (by decide);exact fP rfl)
 (apply wlp;exact qJ rfl rfl (hp.cell 2 rfl rfl);exact fI rfl)
 (apply wlp;exact qC;exact fI rfl)
 (apply wlp;exact zH rfl rfl;exact fI rfl)
 (apply wlp;exact jG (i:=3) rfl rfl rfl (by decide);exact fP rfl)
 (apply wlp;exact qJ rfl rfl (hp.cell 2 rfl rfl);exact fI rfl)
 (apply wlp;exact qC;exact fI rfl)
 (apply wlp;exact zH rfl rfl;exact fI rfl)
 (apply wlp;exact jG (i:=4) rfl rfl rfl (by decide);exact fP rfl)
 (apply wlp;exact qJ rfl rfl (hp.cell 2 rfl rfl);exact fI rfl)
 (apply wlp;exact qC;exact fI rfl)
 (apply wlp;exact zH rfl rfl;exact fI rfl)
 (apply wlp;exact jG (i:=5) rfl rfl rfl (by decide);exact fP rfl)
 (apply wlp;exact qJ rfl rfl (hp.cell 2 rfl rfl);exact fI rfl)
 (apply wlp;exact qC;exact fI rfl)
 (apply wlp;exact zH rfl rfl;exact fI rfl)
 (apply wlp;exact jG (i:=6) rfl rfl rfl (by decide);exact fP rfl)
 (apply wlp;exact qJ rfl rfl (hp.cell 2 rfl rfl);exact fI rfl)
 (apply wlp;exact qC;exact fI rfl)
 (apply wlp;exact zH rfl rfl;exact fI rfl)
 (apply wlp;exact jG (i:=7) rfl rfl rfl (by decide);exact fP rfl)
 (apply wlp;exact qJ rfl rfl (hp.cell 2 rfl rfl);exact fI rfl)
 (apply wlp;exact qC;exact fI rfl)
 (apply wlp;exact zH rfl rfl;exact fI rfl)
 (apply wlp;exact uQ (vs:=[(0,u ((s.a + r.a) % 4294967296)),(1,u ((s.b + r.b) % 4294967296)),(2,u ((s.c + r.c) % 4294967296)),(3,u ((s.d + r.d) % 4294967296)),(4,u ((s.e + r.e) % 4294967296)),(5,u ((s.f + r.f) % 4294967296)),(6,u ((s.g + r.g) % 4294967296)),(7,u ((s.h + r.h) % 4294967296))]) rfl rfl rfl rfl rfl rfl;exact (rfl:_ = Value.agg (sv (addS s r)).toArray))
 (apply zG;exact zD (cs:=sv (addS s r)) hp 1 rfl rfl rfl rfl (qQ rfl) rfl rfl;rintro _ w6 ⟨rfl,hp⟩)
 (repeat (with_reducible first|apply qE|apply qB|apply qT))
 exact yG rfl rfl rfl rfl (hp.agg_blk 1 rfl rfl) ⟨_,rfl,rfl,hp.keeps⟩
end Go.Proofs.YtbgldmoikimmpaaGreatDoor
namespace Go.Proofs.YtbgldmoikimmpaaGreatDoor
open Go.Eng Go.Shelf
def qC2:Go.Shelf.Ren:=⟨fun|156=>127|165=>184|166=>185|169=>186|240=>266|241=>267|276=>324|277=>325|n=>n,fun|31=>52|9=>9|3=>3|4=>4|0=>0|20=>20|72=>247|76=>251|70=>245|37=>179|75=>250|127=>318|164=>372|5=>5|80=>253|n=>n,fun|n=>n⟩
theorem qNg:Go.Proofs.Lays.n156 Tryz.prog qC2:={
 mixed:=by kernel_rfl
 f156:=Tryz.func127.trans (congrArg some (by kernel_rfl))
 f165:=Tryz.func184.trans (congrArg some (by kernel_rfl))
 f166:=Tryz.func185.trans (congrArg some (by kernel_rfl))
 f169:=Tryz.func186.trans (congrArg some (by kernel_rfl))
 f240:=Tryz.func266.trans (congrArg some (by kernel_rfl))
 f241:=Tryz.func267.trans (congrArg some (by kernel_rfl))
 f276:=Tryz.func324.trans (congrArg some (by kernel_rfl))
 f277:=Tryz.func325.trans (congrArg some (by kernel_rfl))
 t0:=Tryz.underlying0
 a0:=Tryz.isAgg0
 z0:=Tryz.sizeOf0
 v0:=Tryz.zeroValue0
 t3:=Tryz.underlying3
 a3:=Tryz.isAgg3
 z3:=Tryz.sizeOf3
 v3:=Tryz.zeroValue3
 t4:=Tryz.underlying4
 a4:=Tryz.isAgg4
 z4:=Tryz.sizeOf4
 v4:=Tryz.zeroValue4
 t9:=Tryz.underlying9
 a9:=Tryz.isAgg9
 z9:=Tryz.sizeOf9
 v9:=Tryz.zeroValue9
 t20:=Tryz.underlying20
 a20:=Tryz.isAgg20
 z20:=Tryz.sizeOf20
 v20:=Tryz.zeroValue20
 t31:=Tryz.underlying52
 a31:=Tryz.isAgg52
 z31:=Tryz.sizeOf52
 v31:=Tryz.zeroValue52
 t37:=Tryz.underlying179
 a37:=Tryz.isAgg179
 z37:=Tryz.sizeOf179
 v37:=Tryz.zeroValue179
 t70:=Tryz.underlying245
 a70:=Tryz.isAgg245
 z70:=Tryz.sizeOf245
 v70:=Tryz.zeroValue245
 t72:=Tryz.underlying247
 a72:=Tryz.isAgg247
 z72:=Tryz.sizeOf247
 v72:=Tryz.zeroValue247
 t75:=Tryz.underlying250
 a75:=Tryz.isAgg250
 z75:=Tryz.sizeOf250
 v75:=Tryz.zeroValue250
 t76:=Tryz.underlying251
 a76:=Tryz.isAgg251
 z76:=Tryz.sizeOf251
 v76:=Tryz.zeroValue251
 t127:=Tryz.underlying318
 a127:=Tryz.isAgg318
 z127:=Tryz.sizeOf318
 v127:=Tryz.zeroValue318
 t164:=Tryz.underlying372
 a164:=Tryz.isAgg372
 z164:=Tryz.sizeOf372
 v164:=Tryz.zeroValue372 }
theorem qBs:Builder.Extra Tryz.prog qC2:={
 sizeBuilder:=by kernel_rfl
 liesBuilder:=by kernel_rfl
 t5:=Tryz.underlying5
 a5:=Tryz.isAgg5
 z5:=Tryz.sizeOf5
 v5:=Tryz.zeroValue5
 infoByte:=by kernel_rfl
 cellsByte:=by kernel_rfl
 sizeByte:=by kernel_rfl
 neB5:=by decide }
def qFg:Go.Shelf.Ren:=⟨fun|171=>60|243=>122|246=>181|283=>260|284=>261|285=>262|286=>263|129=>100|317=>320|318=>321|319=>322|320=>323|337=>354|338=>355|n=>n,fun|3=>3|9=>9|2=>2|4=>4|171=>311|0=>0|53=>147|37=>179|5=>5|173=>313|212=>370|51=>242|20=>20|213=>371|46=>111|232=>174|233=>406|n=>n,fun|17=>2|18=>4|19=>5|n=>n⟩
theorem qKw:Go.Proofs.LaysM.n171 Tryz.prog qFg:={
 mixed:=by kernel_rfl
 f129:=Tryz.func100.trans (congrArg some (by kernel_rfl))
 f171:=Tryz.func60.trans (congrArg some (by kernel_rfl))
 f243:=Tryz.func122.trans (congrArg some (by kernel_rfl))
 f246:=Tryz.func181.trans (congrArg some (by kernel_rfl))
 f283:=Tryz.func260.trans (congrArg some (by kernel_rfl))
 f284:=Tryz.func261.trans (congrArg some (by kernel_rfl))
 f285:=Tryz.func262.trans (congrArg some (by kernel_rfl))
 f286:=Tryz.func263.trans (congrArg some (by kernel_rfl))
 f317:=Tryz.func320.trans (congrArg some (by kernel_rfl))
 f318:=Tryz.func321.trans (congrArg some (by kernel_rfl))
 f319:=Tryz.func322.trans (congrArg some (by kernel_rfl))
 f320:=Tryz.func323.trans (congrArg some (by kernel_rfl))
 f337:=Tryz.func354.trans (congrArg some (by kernel_rfl))
 f338:=Tryz.func355.trans (congrArg some (by kernel_rfl))
 t0:=Tryz.underlying0
 a0:=Tryz.isAgg0
 z0:=Tryz.sizeOf0
 v0:=Tryz.zeroValue0
 t2:=Tryz.underlying2
 a2:=Tryz.isAgg2
 z2:=Tryz.sizeOf2
 v2:=Tryz.zeroValue2
 t3:=Tryz.underlying3
 a3:=Tryz.isAgg3
 z3:=Tryz.sizeOf3
 v3:=Tryz.zeroValue3
 t4:=Tryz.underlying4
 a4:=Tryz.isAgg4
 z4:=Tryz.sizeOf4
 v4:=Tryz.zeroValue4
 t5:=Tryz.underlying5
 a5:=Tryz.isAgg5
 z5:=Tryz.sizeOf5
 v5:=Tryz.zeroValue5
 t9:=Tryz.underlying9
 a9:=Tryz.isAgg9
 z9:=Tryz.sizeOf9
 v9:=Tryz.zeroValue9
 t20:=Tryz.underlying20
 a20:=Tryz.isAgg20
 z20:=Tryz.sizeOf20
 v20:=Tryz.zeroValue20
 t37:=Tryz.underlying179
 a37:=Tryz.isAgg179
 z37:=Tryz.sizeOf179
 v37:=Tryz.zeroValue179
 t46:=Tryz.underlying111
 a46:=Tryz.isAgg111
 z46:=Tryz.sizeOf111
 v46:=Tryz.zeroValue111
 t51:=Tryz.underlying242
 a51:=Tryz.isAgg242
 z51:=Tryz.sizeOf242
 v51:=Tryz.zeroValue242
 t53:=Tryz.underlying147
 a53:=Tryz.isAgg147
 z53:=Tryz.sizeOf147
 v53:=Tryz.zeroValue147
 t171:=Tryz.underlying311
 a171:=Tryz.isAgg311
 z171:=Tryz.sizeOf311
 v171:=Tryz.zeroValue311
 t173:=Tryz.underlying313
 a173:=Tryz.isAgg313
 z173:=Tryz.sizeOf313
 v173:=Tryz.zeroValue313
 t212:=Tryz.underlying370
 a212:=Tryz.isAgg370
 z212:=Tryz.sizeOf370
 v212:=Tryz.zeroValue370
 t213:=Tryz.underlying371
 a213:=Tryz.isAgg371
 z213:=Tryz.sizeOf371
 t232:=Tryz.underlying174
 a232:=Tryz.isAgg174
 z232:=Tryz.sizeOf174
 v232:=Tryz.zeroValue174
 t233:=Tryz.underlying406
 a233:=Tryz.isAgg406
 z233:=Tryz.sizeOf406
 v233:=Tryz.zeroValue406
 g17:=by kernel_rfl
 g18:=by kernel_rfl
 g19:=by kernel_rfl
 i0:=by kernel_rfl
 i2:=by kernel_rfl
 i3:=by kernel_rfl
 i4:=by kernel_rfl
 i5:=by kernel_rfl
 i9:=by kernel_rfl
 i20:=by kernel_rfl
 i37:=by kernel_rfl
 i46:=by kernel_rfl
 i51:=by kernel_rfl
 i53:=by kernel_rfl
 i171:=by kernel_rfl
 i173:=by kernel_rfl
 i212:=by kernel_rfl
 i232:=by kernel_rfl
 i233:=by kernel_rfl
 m17:=by kernel_rfl
 m18:=by kernel_rfl
 m19:=by kernel_rfl }
def qC3:Go.Shelf.Ren:=⟨fun|105=>258|212=>317|99=>318|165=>184|166=>185|170=>319|169=>186|263=>351|264=>352|206=>353|240=>266|241=>267|276=>324|277=>325|n=>n,fun|9=>9|3=>3|4=>4|20=>20|0=>0|46=>111|109=>364|5=>5|72=>247|76=>251|51=>242|146=>393|53=>147|148=>395|70=>245|37=>179|75=>250|127=>318|164=>372|80=>253|n=>n,fun|n=>n⟩
theorem qNh:Go.Proofs.Lays.n105 Tryz.prog qC3:={
 mixed:=by kernel_rfl
 f99:=Tryz.func318.trans (congrArg some (by kernel_rfl))
 f105:=Tryz.func258.trans (congrArg some (by kernel_rfl))
 f165:=Tryz.func184.trans (congrArg some (by kernel_rfl))
 f166:=Tryz.func185.trans (congrArg some (by kernel_rfl))
 f169:=Tryz.func186.trans (congrArg some (by kernel_rfl))
 f170:=Tryz.func319.trans (congrArg some (by kernel_rfl))
 f206:=Tryz.func353.trans (congrArg some (by kernel_rfl))
 f212:=Tryz.func317.trans (congrArg some (by kernel_rfl))
 f240:=Tryz.func266.trans (congrArg some (by kernel_rfl))
 f241:=Tryz.func267.trans (congrArg some (by kernel_rfl))
 f263:=Tryz.func351.trans (congrArg some (by kernel_rfl))
 f264:=Tryz.func352.trans (congrArg some (by kernel_rfl))
 f276:=Tryz.func324.trans (congrArg some (by kernel_rfl))
 f277:=Tryz.func325.trans (congrArg some (by kernel_rfl))
 t0:=Tryz.underlying0
 a0:=Tryz.isAgg0
 z0:=Tryz.sizeOf0
 v0:=Tryz.zeroValue0
 t3:=Tryz.underlying3
 a3:=Tryz.isAgg3
 z3:=Tryz.sizeOf3
 v3:=Tryz.zeroValue3
 t4:=Tryz.underlying4
 a4:=Tryz.isAgg4
 z4:=Tryz.sizeOf4
 v4:=Tryz.zeroValue4
 t5:=Tryz.underlying5
 a5:=Tryz.isAgg5
 z5:=Tryz.sizeOf5
 v5:=Tryz.zeroValue5
 t9:=Tryz.underlying9
 a9:=Tryz.isAgg9
 z9:=Tryz.sizeOf9
 v9:=Tryz.zeroValue9
 t20:=Tryz.underlying20
 a20:=Tryz.isAgg20
 z20:=Tryz.sizeOf20
 v20:=Tryz.zeroValue20
 t37:=Tryz.underlying179
 a37:=Tryz.isAgg179
 z37:=Tryz.sizeOf179
 v37:=Tryz.zeroValue179
 t46:=Tryz.underlying111
 a46:=Tryz.isAgg111
 z46:=Tryz.sizeOf111
 v46:=Tryz.zeroValue111
 t51:=Tryz.underlying242
 a51:=Tryz.isAgg242
 z51:=Tryz.sizeOf242
 v51:=Tryz.zeroValue242
 t53:=Tryz.underlying147
 a53:=Tryz.isAgg147
 z53:=Tryz.sizeOf147
 v53:=Tryz.zeroValue147
 t70:=Tryz.underlying245
 a70:=Tryz.isAgg245
 z70:=Tryz.sizeOf245
 v70:=Tryz.zeroValue245
 t72:=Tryz.underlying247
 a72:=Tryz.isAgg247
 z72:=Tryz.sizeOf247
 v72:=Tryz.zeroValue247
 t75:=Tryz.underlying250
 a75:=Tryz.isAgg250
 z75:=Tryz.sizeOf250
 v75:=Tryz.zeroValue250
 t76:=Tryz.underlying251
 a76:=Tryz.isAgg251
 z76:=Tryz.sizeOf251
 v76:=Tryz.zeroValue251
 t109:=Tryz.underlying364
 a109:=Tryz.isAgg364
 z109:=Tryz.sizeOf364
 v109:=Tryz.zeroValue364
 t127:=Tryz.underlying318
 a127:=Tryz.isAgg318
 z127:=Tryz.sizeOf318
 v127:=Tryz.zeroValue318
 t146:=Tryz.underlying393
 a146:=Tryz.isAgg393
 z146:=Tryz.sizeOf393
 v146:=Tryz.zeroValue393
 t148:=Tryz.underlying395
 a148:=Tryz.isAgg395
 z148:=Tryz.sizeOf395
 v148:=Tryz.zeroValue395
 t164:=Tryz.underlying372
 a164:=Tryz.isAgg372
 z164:=Tryz.sizeOf372
 v164:=Tryz.zeroValue372 }
theorem qBt:Builder.Extra Tryz.prog qC3:={
 sizeBuilder:=by kernel_rfl
 liesBuilder:=by kernel_rfl
 t5:=Tryz.underlying5
 a5:=Tryz.isAgg5
 z5:=Tryz.sizeOf5
 v5:=Tryz.zeroValue5
 infoByte:=by kernel_rfl
 cellsByte:=by kernel_rfl
 sizeByte:=by kernel_rfl
 neB5:=by decide }
open Go.RowKit Go.Lib Go.Sort
theorem qKv (w:World) (k:Nat) (os:Array Obj):Keeps [] w (grow (w.drewN k) os):=by
 refine ⟨rfl,rfl,rfl,?_,fun j hj _=>?_⟩
 ·show w.heap.size≤(w.heap ++ os).size
  simp
 ·show (w.heap ++ os)[j]? = w.heap[j]?
  rw [Array.getElem?_append_left hj]
theorem qSk {w:World} (hT:Tabs w) {nm:String} (h:Tryz.prog.globalNamed nm = some 2):Lib.TabIs Tryz.prog w nm .u64 Lib.pow10Tab:=by
 obtain ⟨t,r,hb⟩:=hT.pow
 unfold Lib.TabIs World.var?
 rw [h]
 simp only [Option.bind_some,hb]
def dec (n:Int):ByteArray:=⟨(Lib.itoa n).toArray⟩
theorem p60 (n:Int) (w:World) (hT:Tabs w) (h0:-9223372036854775808≤n) (h1:n≤9223372036854775807):Ret Tryz.prog 60 [.int .i64 n] w (fun v w'=>v = .string (dec n)∧Keeps [] w w'):=by
 refine (Any.strconv_Itoa qKw n h0 h1 w (qSk hT (by kernel_rfl))).mono ?_
 rintro e w' ⟨rfl,k,os,rfl⟩
 exact ⟨_,rfl,rfl,qKv _ _ _⟩
theorem jBy (s:ByteArray) (c:Nat) (w:World) (hc:c≤9223372036854775807) (hl:s.size * c≤140737488355328):Ret Tryz.prog 258 [.string s,.int .i64 (c:Int)] w (fun v w'=>v = .string ⟨(Lib.repeatL s.data.toList c).toArray⟩∧Keeps [] w w'):=by
 refine (Any.strings_Repeat qNh qBt s c w hc hl).mono ?_
 rintro e w' ⟨rfl,h⟩
 exact ⟨_,rfl,rfl,.of_below h⟩
theorem jCl (xs:List ByteArray) (sep:ByteArray) (bk o c:Nat) (w:World) (hs:SlAt w 1 eS (some ⟨bk,o,none⟩) xs) (hbk:bk < w.heap.size) (hN:xs.length≤1000000) (hcap:xs.length≤c)
  (hlen:(Lib.join (xs.map (·.data.toList)) sep.data.toList).length≤140737488355328) :
  Ret Tryz.prog 127 [.slice (some ⟨bk,o,none⟩) xs.length c,.string sep] w (fun v w'=>v = .string ⟨(Lib.join (xs.map (·.data.toList)) sep.data.toList).toArray⟩∧Keeps [] w w'):=by
 refine (Any.strings_Join qNg qBs bk o c xs sep w ?_ hbk (by omega) hcap hlen).mono ?_
 ·intro j x hx
  obtain ⟨b,o',he,h⟩:=hs j x hx
  cases he
  have h2:=h 0 _ rfl
  rwa [show o + j * 1 + 0 = o + j by omega] at h2
 ·rintro e w' ⟨rfl,h⟩
  exact ⟨_,rfl,rfl,.of_below h⟩
end Go.Proofs.YtbgldmoikimmpaaGreatDoor
namespace Go.Proofs.YtbgldmoikimmpaaGreatDoor
open Go.Eng Go.Dig Go.Sha
def bl (s:ByteArray):List Nat:=s.data.toList.map UInt8.toNat
theorem xG (s:ByteArray):(bl s).length = s.size:=by
 unfold bl
 rw [List.length_map]
 rfl
theorem qVj (s:ByteArray):∀ d ∈ bl s,d < 256:=by
 intro d hd
 unfold bl at hd
 obtain ⟨x,_,rfl⟩:=List.mem_map.1 hd
 exact x.toNat_lt
theorem qVk (s:ByteArray) (i:Nat):bAt s i = (((bl s).getD i 0:Nat):Int):=by
 unfold bAt bl
 rw [List.getD_eq_getElem?_getD,List.getElem?_map]
 cases s.data.toList[i]?<;>rfl
theorem qI2 {l:List Nat} (h:∀ d ∈ l,d < 256) (i:Nat):l.getD i 0 < 256:=by
 rw [List.getD_eq_getElem?_getD]
 cases hx:l[i]? with
 | none=>decide
 | some v=>exact h v (List.mem_of_getElem? hx)
theorem vG (a b:ByteArray):bl (a ++ b) = bl a ++ bl b:=by
 unfold bl
 rw [← List.map_append,ByteArray.data_append,Array.toList_append]
theorem qVi (l:List UInt8):bl ⟨l.toArray⟩ = l.map UInt8.toNat:=rfl
theorem qFy (s:ByteArray) (a b:Nat):bl (s.extract a b) = ((bl s).take b).drop a:=by
 unfold bl
 rw [ByteArray.data_extract,Array.toList_extract,List.extract_eq_take_drop,← List.map_take,← List.map_drop,List.drop_take]
theorem qZ4 {a b:ByteArray} (h:bl a = bl b):a = b:=by
 unfold bl at h
 have h2:a.data.toList = b.data.toList:=by
  have h3:=congrArg (List.map UInt8.ofNat) h
  rw [List.map_map,List.map_map] at h3
  have h4:(UInt8.ofNat ∘ UInt8.toNat) = id:=by
   funext x
   exact UInt8.ofNat_toNat
  rwa [h4,List.map_id,List.map_id] at h3
 cases a;cases b
 congr 1
 exact Array.ext' h2
section
variable {P:Program} {n:FrK} {w:World} {F:Fr} {d:Option Tmp} {ty:TypeId} {pos:String} {aft:Array Edge} {g:Option (Nat × Bool)} {x y z:Operand} {t t':Nat}
theorem qF3 {l h:Nat} {q q':IntKind} {s:ByteArray} (ht:P.underlying t = some .string) (hx:ev n F x = .string s) (hy:ev n F y = .int q l) (hz:ev n F z = .int q' h) (hl:l≤h) (hh:h≤s.size) :
  PV P n w F ⟨d,.slice t x (some y) (some z) none,ty,pos,aft,g⟩ (.string (s.extract l h)):=by
 have hb:=yS (P:=P) (w:=w) (c:=.sliceB) hy hl
 have hb2:=yS (P:=P) (w:=w) (c:=.sliceAlen) hz hh
 simp [PV,execOp,Instr.sliceAt,Instr.slice,hx,zE ht,Instr.sliceBounds,hb,hb2]
theorem qJ7 {e k m b:Nat} (h:qG0 t = some (m,e,k)) (hx:ev n F x = .pointer (some ⟨b,0,none⟩)):PV Tryz.prog n w F ⟨d,.slice t x none none none,ty,pos,aft,g⟩ (.slice (some ⟨b,0,none⟩) m m):=by
 have h1:=(uE h).1
 have h2:=(uE h).2
 simp [PV,execOp,Instr.sliceAt,hx,Instr.sureAddr,zE h1,Instr.sliceBounds,h2.run,yH]
end
def cB (g:Nat→Nat) (i:Nat):Fr:=fun j=>if j < i then u8 (g j) else u8 0
theorem qEo (g:Nat→Nat) (m j:Nat) (h:j < m):qV (List.replicate m (u8 0)) j = cB g 0 j:=by
 rw [qFi _ _ h]
 unfold cB
 rw [if_neg (by omega)]
theorem qEp {g:Nat→Nat} {i:Nat}:yW (cB g i) (0 + i * 1) [u8 (g i)] = cB g (i + 1):=by
 funext j
 show (Fr.put (cB g i) (0 + i * 1) _) j = _
 unfold Fr.put cB
 by_cases h:j = 0 + i * 1
 ·have h:j = i:=by omega
  subst h
  rw [show 0 + j * 1 = j by omega,Nat.beq_refl,if_pos (Nat.lt_succ_self j)]
  rfl
 ·rw [zS h]
  show (if j < i then u8 (g j) else u8 0) = (if j < i + 1 then u8 (g j) else u8 0)
  by_cases h2:j < i
  ·rw [if_pos h2,if_pos (by omega)]
  ·rw [if_neg h2,if_neg (by omega)]
theorem qAo (ns:List Nat) (h:∀ d ∈ ns,d < 256):bl (kX (ns.map fun (x:Nat)=>(x:Int))) = ns:=by
 rw [qFw]
 show ((ns.map UInt8.ofNat)).map UInt8.toNat = ns
 rw [List.map_map]
 exact (List.map_congr_left (fun d hd=>by show (UInt8.ofNat d).toNat = id d;rw [UInt8.toNat_ofNat'];exact Nat.mod_eq_of_lt (h d hd))).trans (List.map_id _)
theorem qRl (g:Nat→Nat) (m:Nat):∀ (j:Nat) (v:Value),((((List.range m).map g).map fun (x:Nat)=>(x:Int)).map (Value.int .u8))[j]? = some v→cB g m (0 + j) = v:=by
 intro j v hj
 rw [List.getElem?_map,List.getElem?_map,List.getElem?_map] at hj
 by_cases h:j < m
 ·rw [List.getElem?_range h] at hj
  unfold cB
  rw [Nat.zero_add,if_pos h]
  simpa [u8] using hj
 ·rw [List.getElem?_eq_none (by simpa using h)] at hj
  cases hj
attribute [local irreducible] PV StepF wpl wpd WP Ret
theorem jBx (m:Nat) (w:World) (hm:m < 18446744073709551616):Ret Tryz.prog 259 [.int .u64 (m:Int)] w (fun v w'=>∃ s,v = .string s∧bl s = qEc m∧Keeps [] w w'):=by
 refine Ret.of_WP Tryz.func259 rfl Tryz.ntmps259 rfl ?_
 have hp:=Hp.start (M:=[]) (w:=w)
 (repeat (first|(with_reducible first|apply qF|apply qA|apply qE|apply qB)|(apply wlp;apply qD;exact fT rfl)))
 (apply wls;exact zR (cs:=List.replicate 8 (u8 0)) (m:=8) hp (jD rfl) rfl rfl;rintro _ w1 ⟨b,rfl,hp⟩)
 rw [xE (qEo (fun i=>m / 2 ^ (56 - 8 * i) % 256) 8)] at hp
 (repeat (first|(with_reducible first|apply qF|apply qK|apply qA|apply qE|apply qB)|(apply wlp;apply qC;exact fI rfl)))
 refine jE [4,5,6,7,8,9,10,11,12,13,14,15,16] (fun (i:Nat) F=>F.put 5 (.int .i64 (i:Int)))
  (fun i w'=>i≤8∧Hp w [] w' [blk b 8 (cB (fun i=>m / 2 ^ (56 - 8 * i) % 256) i) 368]) (fun i=>8 - i) 0
  (qG (Same.eq .refl) rfl) ⟨by omega,hp⟩ ?_
 clear hp
 rintro u0 i w2 ⟨hi,hp⟩
 (repeat (first|(with_reducible first|apply qF|apply qA|apply qE|apply qB)|(apply wlp;(apply jA<;>exact rfl);exact fB rfl)))
 refine qM rfl (fun h=>?_) (fun h=>?_)
 ·have hi:i < 8:=by omega
  (repeat (first|(with_reducible first|apply qF|apply qK|apply qA|apply qE|apply qB|apply qL)|(apply wlp;(first|apply qC|apply qD);exact fI rfl)))
  (apply wlp;(exact xU rfl rfl);exact qI (b:=((8 * i:Nat):Int)) (by rw [qN (by omega) (by omega)];omega))
  (apply wlp;(exact jN rfl rfl);exact qI (b:=((56 - 8 * i:Nat):Int)) (by rw [qN (by omega) (by omega)];omega))
  (apply wlp;exact xA (b:=56 - 8 * i) rfl rfl (by show 56 - 8 * i≤64;omega);exact qI (b:=((m / 2 ^ (56 - 8 * i):Nat):Int)) rfl)
  (apply wlp;exact uG rfl rfl rfl;exact fI rfl)
  (apply wlp;exact jG rfl rfl rfl hi;exact fP rfl)
  (apply zG;exact zD (cs:=[u8 (m / 2 ^ (56 - 8 * i) % 256)]) hp 0 rfl rfl rfl rfl (qQ rfl) (vN (by show 0 + i * 1 + 1≤8;omega)) rfl;rintro _ w3 ⟨rfl,hp⟩)
  rw [qEp (g:=fun i=>m / 2 ^ (56 - 8 * i) % 256)] at hp
  (repeat (with_reducible first|apply qA|apply qE|apply qB|apply qZ))
  (apply wlp;exact qY rfl rfl;exact qI (qN (by omega) (by omega)))
  (repeat (first|(with_reducible first|apply qE|apply qB)|(apply wlp;apply qC;exact fI rfl)))
  exact ⟨i + 1,qG (Same.eq (by repeat (first|exact Same.hav|exact Same.refl|refine Same.put rfl ?_|refine Same.havs rfl ?_))) rfl,⟨by omega,hp⟩,by omega⟩
 obtain rfl:i = 8:=by omega
 clear h hi
 (repeat (first|(with_reducible first|apply qF|apply qA|apply qB|apply qO|apply jB)|((with_reducible apply qP);exact rfl)))
 (apply wlp;exact qJ7 rfl rfl;exact fS rfl)
 (apply wlp;exact qHt (ns:=(qEc m).map fun (x:Nat)=>(x:Int)) rfl rfl rfl rfl (by rw [List.length_map,qB7]) (hp.cells 0 _ rfl rfl (qRl _ 8));exact fT rfl)
 (repeat (first|(with_reducible first|apply qE|apply qB|apply qT)|(apply wlp;apply qD;exact fT rfl)))
 exact qU rfl rfl ⟨_,rfl,_,rfl,qAo _ (qM6 m),hp.keeps⟩
end Go.Proofs.YtbgldmoikimmpaaGreatDoor
namespace Go.Proofs.YtbgldmoikimmpaaGreatDoor
open Go.Eng Go.Dig Go.Sha
theorem qL1 (s:ByteArray) {a b j:Nat} (h:a + j < b):bAt (s.extract a b) j = (((bl s).getD (a + j) 0:Nat):Int):=by
 rw [qVk,qFy,List.getD_eq_getElem?_getD,List.getD_eq_getElem?_getD,List.getElem?_drop,List.getElem?_take_of_lt h]
theorem qW7 (l:List Nat) {i:Nat} (h:i < l.length):(pad l).getD i 0 = l.getD i 0:=by
 unfold pad
 rw [List.getD_eq_getElem?_getD,List.getD_eq_getElem?_getD,List.getElem?_append_left h]
theorem qP6 (l:List Nat) {k:Nat} (h:k≤l.length):(pad l).drop k = l.drop k ++ 128 :: qGh l:=by
 unfold pad
 rw [List.drop_append_of_le_length h]
theorem qO8 (l:List Nat):∀ d ∈ qGh l,d < 256:=by
 intro d hd
 rcases List.mem_append.1 hd with h|h
 ·rw [List.mem_replicate] at h
  omega
 ·exact qM6 _ d h
theorem qP5 {l:List Nat} (h:∀ d ∈ l,d < 256):∀ d ∈ pad l,d < 256:=by
 intro d hd
 rcases List.mem_append.1 hd with h2|h2
 ·exact h d h2
 ·rcases List.mem_cons.1 h2 with rfl|h3
  ·decide
  ·exact qO8 l d h3
theorem qZ3 (c:Nat):bl ⟨(Lib.repeatL (ByteArray.mk #[0]).data.toList c).toArray⟩ = List.replicate c 0:=by
 rw [qVi]
 induction c with
 | zero=>rfl
 | succ c ih=>
  show ([0] ++ Lib.repeatL [0] c).map UInt8.toNat = _
  rw [List.map_append,List.replicate_succ]
  exact congrArg (fun x=>0 :: x) ih
theorem qCv (f:Fr) (s:St):∀ i,i < 8→yW f 0 (sv s) i = qV (sv s) i
 | 0,_=>rfl
 | 1,_=>rfl
 | 2,_=>rfl
 | 3,_=>rfl
 | 4,_=>rfl
 | 5,_=>rfl
 | 6,_=>rfl
 | 7,_=>rfl
 | i + 8,h=>by omega
theorem qUp (s:St):∀ i,i < 8→qV (sv s) (0 + i * 1) = u (wd s i)
 | 0,_=>rfl
 | 1,_=>rfl
 | 2,_=>rfl
 | 3,_=>rfl
 | 4,_=>rfl
 | 5,_=>rfl
 | 6,_=>rfl
 | 7,_=>rfl
 | i + 8,h=>by omega
theorem qRm (g:Nat→Nat) (m:Nat):(List.range m).map (fun j=>cB g m (0 + j)) = ((List.range m).map g).map u8:=by
 rw [List.map_map]
 refine List.map_congr_left fun j hj=>?_
 show cB g m (0 + j) = u8 (g j)
 unfold cB
 rw [Nat.zero_add,if_pos (List.mem_range.1 hj)]
theorem qIl {a b:List Value} (h:a = b):Value.agg a.toArray = .agg b.toArray:=by rw [h]
attribute [local irreducible] PV StepF wpl wpd WP Ret
attribute [local irreducible] Go.Sha.hs Go.Sha.pad Go.Sha.wd Go.Sha.shb
def hv (s:ByteArray):List Value:=(sha (bl s)).map u8
theorem qZm (s:ByteArray) (w:World) (hT:Tabs w) (hsz:s.size≤1099511627776) :
  Ret Tryz.prog 180 [.string s] w (fun v w'=>v = .agg (hv s).toArray∧Keeps [] w w'):=by
 have hl:=xG s
 have hlt:=qVj s
 have hpl:=qP5 hlt
 have hpm:=qLz (bl s)
 have hpn:=qHu (bl s)
 have hzp:qCn (bl s).length = (119 - (bl s).length % 64) % 64:=rfl
 have hf:fin (bl s) = hs (pad (bl s)) ((pad (bl s)).length / 64):=rfl
 refine Ret.of_WP Tryz.func180 rfl Tryz.ntmps180 rfl ?_
 have hp:=Hp.start (M:=[]) (w:=w)
 (repeat (with_reducible first|apply qF|apply qA))
 (apply wls;exact zR (cs:=List.replicate 32 (u8 0)) (m:=32) hp (jD rfl) rfl rfl;rintro _ w1 ⟨ob,rfl,hp⟩)
 (repeat (with_reducible first|apply qF|apply qA|apply qE|apply qB))
 (apply wlp;exact zP (vs:=sv ini) rfl rfl rfl rfl (hT.keep hp.keeps).first;exact (rfl:_ = Value.agg (sv ini).toArray))
 (apply wls;exact zR (cs:=List.replicate 8 (u 0)) (m:=8) hp (jD rfl) rfl rfl;rintro _ w2 ⟨sb,rfl,hp⟩)
 (apply zG;exact zD (cs:=sv ini) hp 0 rfl rfl rfl rfl (qQ rfl) rfl rfl;rintro _ w3 ⟨rfl,hp⟩)
 have hp:Hp w [] w3 [blk sb 8 (yW (qV (List.replicate 8 (u 0))) 0 (sv ini)) 243,blk ob 32 (qV (List.replicate 32 (u8 0))) 175]:=hp
 have h0:ini = hs (pad (bl s)) 0:=by rw [hs]
 rw [xE (qCv _ _),h0] at hp
 (repeat (first|(with_reducible first|apply qF|apply qA|apply qE|apply qB)|(apply wlp;((first|apply qC|(apply xP;exact rfl))<;>exact rfl);(first|exact fI rfl|exact fT rfl))))
 (apply wlp;exact yV rfl rfl (by decide);exact qI (b:=((s.size / 64:Nat):Int)) (vO 64 (by omega)))
 (apply wlp;(exact xU rfl rfl);exact qI (b:=((s.size / 64 * 64:Nat):Int)) (by rw [qN (by omega) (by omega)];omega))
 (repeat (first|(with_reducible first|apply qF|apply qK|apply qA|apply qE|apply qB)|(apply wlp;apply qD;exact fI rfl)))
 refine jE [5,15,16,17,18,19,20,21,22,23,24,25,26] (fun (k:Nat) F=>F.put 5 (.int .i64 ((64 * k:Nat):Int)))
  (fun k w'=>k≤s.size / 64∧Hp w [] w' [blk sb 8 (qV (sv (hs (pad (bl s)) k))) 243,blk ob 32 (qV (List.replicate 32 (u8 0))) 175]) (fun k=>s.size / 64 - k) 0
  (qG (Same.eq .refl) rfl) ⟨by omega,hp⟩ ?_
 clear hp
 rintro u0 k w4 ⟨hk,hp⟩
 (repeat (first|(with_reducible first|apply qF|apply qA|apply qE|apply qB)|(apply wlp;((first|apply qC|apply jA)<;>exact rfl);(first|exact fI rfl|exact fB rfl))))
 refine qM rfl (fun h=>?_) (fun h=>?_)
 ·have hk:k < s.size / 64:=by omega
  (repeat (with_reducible first|apply qF|apply qK|apply qB|apply qL))
  have hn:hs (pad (bl s)) (k + 1) = qJe (fun j=>(pad (bl s)).getD (64 * k + j) 0) (hs (pad (bl s)) k):=by rw [hs]
  refine xH jW (by kernel_rfl) (fun w'=>Hp w [] w' [blk sb 8 (qV (sv (hs (pad (bl s)) k))) 243,blk ob 32 (qV (List.replicate 32 (u8 0))) 175]) hp.drew ?_
  have hp:=hp.drew
  (apply wdp;exact rfl;(intro w hp;exact jQ rfl rfl rfl (hp.agg_blk 0 rfl rfl));exact (rfl:_ = Value.agg (sv (hs (pad (bl s)) k)).toArray))
  (apply wdp;exact rfl;(intro w hp;exact qC);exact fT rfl)
  (repeat ((apply wdp;exact rfl);(intro w hp;intros;apply qC);(intros;exact fI rfl)))
  (apply wdp;exact rfl;(intro w hp;exact qY rfl rfl);exact qI (b:=((64 * k + 64:Nat):Int)) (by rw [qN (by omega) (by omega)];omega))
  (apply wdp;exact rfl;(intro w hp;exact qF3 (vT rfl) rfl rfl rfl (show 64 * k≤64 * k + 64 by omega) (by omega));exact fT rfl)
  (apply wds;exact rfl;exact qH rfl qQh rfl (qZk _ _ (fun j=>(pad (bl s)).getD (64 * k + j) 0) _ (Ok.hs _ _) (fun j=>qI2 hpl _) (fun j hj=>(qL1 s (by omega)).trans (by rw [qW7 _ (by omega)])) (by rw [← xG,qFy,List.length_drop,List.length_take];omega) (hT.keep hp.keeps));rintro _ w5 ⟨rfl,hk2⟩;have hp:=hp.call hk2;refine ⟨hp,?_⟩)
  rw [← hn]
  (apply kH;exact rfl;exact rfl;exact zD (cs:=sv (hs (pad (bl s)) (k + 1))) hp 0 rfl rfl rfl rfl (qQ rfl) rfl rfl;rintro _ w6 ⟨rfl,hp⟩)
  have hp:Hp w [] w6 [blk sb 8 (yW (qV (sv (hs (pad (bl s)) k))) 0 (sv (hs (pad (bl s)) (k + 1)))) 243,blk ob 32 (qV (List.replicate 32 (u8 0))) 175]:=hp
  rw [xE (qCv _ _)] at hp
  refine jL ?_
  (repeat (first|(with_reducible first|apply qA|apply qB|apply qZ)|(apply wlp;apply qC;exact fI rfl)))
  (apply wlp;(exact qY rfl rfl);exact qI (b:=((64 * (k + 1):Nat):Int)) (by rw [qN (by omega) (by omega)];omega))
  (repeat (first|(with_reducible first|apply qE|apply qB)|(apply wlp;apply qD;exact fI rfl)))
  exact ⟨k + 1,qG (Same.eq (by repeat (first|exact Same.hav|exact Same.refl|refine Same.put rfl ?_|refine Same.havs rfl ?_))) rfl,⟨by omega,hp⟩,by omega⟩
 obtain rfl:k = s.size / 64:=by omega
 clear h hk
 (repeat (first|(with_reducible first|apply qF|apply qA|apply qB|apply qO|apply jB)|((with_reducible apply qP);exact rfl)|(apply wlp;apply qC;(first|exact fI rfl|exact fT rfl))))
 have e1:(s.extract (s.size / 64 * 64) s.size).size = s.size - s.size / 64 * 64:=by rw [ByteArray.size_extract,Nat.min_self]
 (apply wlp;exact qIy (vT rfl) rfl rfl (by omega);exact fT rfl)
 obtain ⟨r1,hr1⟩:∃ r1,s.extract (s.size / 64 * 64) s.size ++ (⟨#[128]⟩:ByteArray) = r1:=⟨_,rfl⟩
 (apply wlp;exact jY rfl rfl (by rw [e1];show _ + 1≤_;omega);exact congrArg Value.string hr1)
 have hb1:bl r1 = (bl s).drop (s.size / 64 * 64) ++ [128]:=by
  rw [← hr1,vG,qFy,List.take_of_length_le (by rw [hl];omega)]
  rfl
 have hs1:r1.size = s.size - s.size / 64 * 64 + 1:=by
  rw [← xG,hb1,List.length_append,List.length_drop,hl]
  rfl
 clear hr1 e1
 (repeat (first|(with_reducible first|apply qF|apply qA|apply qE|apply qB)|(apply wlp;((first|apply qC|apply qD|(apply xP;exact rfl))<;>exact rfl);(first|exact fI rfl|exact fT rfl))))
 (apply wlp;(exact jN rfl rfl);exact qI (b:=((120 - r1.size:Nat):Int)) (by rw [qN (by omega) (by omega)];omega))
 (apply wlp;exact yU rfl rfl (by decide);exact qI (b:=(((120 - r1.size) % 64:Nat):Int)) (yP _ 64))
 (apply wls;exact qH rfl qXb rfl (jBy ⟨#[0]⟩ ((120 - r1.size) % 64) _ (by omega) (by show 1 * _≤_;omega)))
 rintro _ w7 ⟨rfl,hk2⟩
 have hp:=hp.call hk2
 clear hk2
 have hb3:=qZ3 ((120 - r1.size) % 64)
 generalize (ByteArray.mk (Lib.repeatL (ByteArray.mk #[0]).data.toList ((120 - r1.size) % 64)).toArray) = r3 at hb3 ⊢
 (apply wlp;apply qC;exact fT rfl)
 (apply wlp;((apply xP;exact rfl)<;>exact rfl);exact fI rfl)
 (apply wlp;exact zQ rfl rfl rfl;exact qI (b:=(s.size:Int)) (by rw [IntKind.wrap_u64];omega))
 (apply wlp;exact qB4 (b:=8) rfl rfl (by omega);exact fI rfl)
 (apply wls;exact qH rfl qXa rfl (jBx (s.size * 8) _ (by omega)))
 rintro _ w8 ⟨r4,rfl,hb4,hk2⟩
 have hp:=hp.call hk2
 clear hk2
 have hs3:r3.size = (120 - r1.size) % 64:=by rw [← xG,hb3,List.length_replicate]
 have hs4:r4.size = 8:=by rw [← xG,hb4,qB7]
 (apply wlp;exact jY rfl rfl (by omega);exact fT rfl)
 have hs34:(r3 ++ r4).size = r3.size + r4.size:=by rw [← xG,vG,List.length_append,xG,xG]
 obtain ⟨r,hr⟩:∃ r,r1 ++ (r3 ++ r4) = r:=⟨_,rfl⟩
 (apply wlp;exact jY rfl rfl (by omega);exact congrArg Value.string hr)
 have hb:bl r = (pad (bl s)).drop (64 * (s.size / 64)):=by
  rw [← hr,vG,vG,hb1,hb3,hb4,qP6 _ (by omega),Nat.mul_comm 64,List.append_assoc]
  unfold qGh qCn
  rw [hl,show (120 - r1.size) % 64 = (119 - s.size % 64) % 64 by omega]
  rfl
 have hsr:r.size = (pad (bl s)).length - 64 * (s.size / 64):=by rw [← xG,hb,List.length_drop]
 clear hr hs34 hs3 hs4 hb3 hb4 hb1 hs1
 obtain ⟨N,hN⟩:∃ N,(pad (bl s)).length / 64 = N:=⟨_,rfl⟩
 rw [hN] at hf
 have hpN:(pad (bl s)).length = 64 * N:=by omega
 (repeat (first|(with_reducible first|apply qF|apply qK|apply qA|apply qE|apply qB)|(apply wlp;apply qD;(first|exact fI rfl|exact fT rfl))))
 refine jE [7,44,45,46,47,48,49,50,51,52,53,54,55,56] (fun (k:Nat) F=>F.put 7 (.int .i64 ((64 * k:Nat):Int)))
  (fun k w'=>k≤N - s.size / 64∧Hp w [] w' [blk sb 8 (qV (sv (hs (pad (bl s)) (s.size / 64 + k)))) 243,blk ob 32 (qV (List.replicate 32 (u8 0))) 175]) (fun k=>N - s.size / 64 - k) 0
  (qG (Same.eq .refl) rfl) ⟨by omega,hp⟩ ?_
 clear hp
 rintro u1 k w9 ⟨hk,hp⟩
 (repeat (first|(with_reducible first|apply qF|apply qA|apply qE|apply qB)|(apply wlp;((first|apply qC|(apply xP;exact rfl)|apply jA)<;>exact rfl);(first|exact fI rfl|exact fB rfl|exact fT rfl))))
 refine qM rfl (fun h=>?_) (fun h=>?_)
 ·have hk:k < N - s.size / 64:=by omega
  (repeat (with_reducible first|apply qF|apply qK|apply qB|apply qL))
  have hn:hs (pad (bl s)) (s.size / 64 + (k + 1)) = qJe (fun j=>(pad (bl s)).getD (64 * (s.size / 64 + k) + j) 0) (hs (pad (bl s)) (s.size / 64 + k)):=by
   rw [← Nat.add_assoc,hs]
  refine xH jW (by kernel_rfl) (fun w'=>Hp w [] w' [blk sb 8 (qV (sv (hs (pad (bl s)) (s.size / 64 + k)))) 243,blk ob 32 (qV (List.replicate 32 (u8 0))) 175]) hp.drew ?_
  have hp:=hp.drew
  (apply wdp;exact rfl;(intro w hp;exact jQ rfl rfl rfl (hp.agg_blk 0 rfl rfl));exact (rfl:_ = Value.agg (sv (hs (pad (bl s)) (s.size / 64 + k))).toArray))
  (apply wdp;exact rfl;(intro w hp;exact qC);exact fT rfl)
  (repeat ((apply wdp;exact rfl);(intro w hp;intros;apply qC);(intros;exact fI rfl)))
  (apply wdp;exact rfl;(intro w hp;exact qY rfl rfl);exact qI (b:=((64 * k + 64:Nat):Int)) (by rw [qN (by omega) (by omega)];omega))
  (apply wdp;exact rfl;(intro w hp;exact qF3 (vT rfl) rfl rfl rfl (show 64 * k≤64 * k + 64 by omega) (by omega));exact fT rfl)
  (apply wds;exact rfl;exact qH rfl qQh rfl (qZk _ _ (fun j=>(pad (bl s)).getD (64 * (s.size / 64 + k) + j) 0) _ (Ok.hs _ _) (fun j=>qI2 hpl _) (fun j hj=>(qL1 r (by omega)).trans (by rw [hb,List.getD_eq_getElem?_getD,List.getD_eq_getElem?_getD,List.getElem?_drop,show 64 * (s.size / 64) + (64 * k + j) = 64 * (s.size / 64 + k) + j by omega])) (by rw [← xG,qFy,List.length_drop,List.length_take,xG];omega) (hT.keep hp.keeps));rintro _ w5 ⟨rfl,hk2⟩;have hp:=hp.call hk2;refine ⟨hp,?_⟩)
  rw [← hn]
  (apply kH;exact rfl;exact rfl;exact zD (cs:=sv (hs (pad (bl s)) (s.size / 64 + (k + 1)))) hp 0 rfl rfl rfl rfl (qQ rfl) rfl rfl;rintro _ w6 ⟨rfl,hp⟩)
  have hp:Hp w [] w6 [blk sb 8 (yW (qV (sv (hs (pad (bl s)) (s.size / 64 + k)))) 0 (sv (hs (pad (bl s)) (s.size / 64 + (k + 1))))) 243,blk ob 32 (qV (List.replicate 32 (u8 0))) 175]:=hp
  rw [xE (qCv _ _)] at hp
  refine jL ?_
  (repeat (first|(with_reducible first|apply qA|apply qB|apply qZ)|(apply wlp;apply qC;exact fI rfl)))
  (apply wlp;(exact qY rfl rfl);exact qI (b:=((64 * (k + 1):Nat):Int)) (by rw [qN (by omega) (by omega)];omega))
  (repeat (first|(with_reducible first|apply qE|apply qB)|(apply wlp;apply qD;exact fI rfl)))
  exact ⟨k + 1,qG (Same.eq (by repeat (first|exact Same.hav|exact Same.refl|refine Same.put rfl ?_|refine Same.havs rfl ?_))) rfl,⟨by omega,hp⟩,by omega⟩
 have hk:s.size / 64 + k = N:=by omega
 rw [hk,← hf] at hp
 clear h hk
 (repeat (first|(with_reducible first|apply qF|apply qA|apply qB|apply qO|apply jB)|((with_reducible apply qP);exact rfl)))
 (apply wls;exact zR (cs:=List.replicate 32 (u8 0)) (m:=32) hp (jD rfl) rfl rfl;rintro _ w10 ⟨hb',rfl,hp⟩)
 rw [xE (qEo (shb (bl s)) 32)] at hp
 (repeat (first|(with_reducible first|apply qF|apply qK|apply qA|apply qE|apply qB)|(apply wlp;apply qC;exact fI rfl)))
 refine jE [9,57,58,59,60,61,62,63,64,65,66,67,68,69,70,71,72] (fun (i:Nat) F=>F.put 57 (.int .i64 (i:Int)))
  (fun i w'=>i≤32∧Hp w [] w' [blk hb' 32 (cB (shb (bl s)) i) 175,blk sb 8 (qV (sv (fin (bl s)))) 243,blk ob 32 (qV (List.replicate 32 (u8 0))) 175]) (fun i=>32 - i) 0
  (qG (Same.eq .refl) rfl) ⟨by omega,hp⟩ ?_
 clear hp
 rintro u2 i w11 ⟨hi,hp⟩
 (repeat (first|(with_reducible first|apply qF|apply qA|apply qE|apply qB)|(apply wlp;(apply jA<;>exact rfl);exact fB rfl)))
 refine qM rfl (fun h=>?_) (fun h=>?_)
 ·have hi:i < 32:=by omega
  have hq:i / 4 < 8:=by omega
  (repeat (first|(with_reducible first|apply qF|apply qK|apply qA|apply qE|apply qB|apply qL)|(apply wlp;(first|apply qC|apply qD);exact fI rfl)))
  (apply wlp;exact yV rfl rfl (by decide);exact qI (b:=((i / 4:Nat):Int)) (vO 4 (by omega)))
  (apply wlp;exact jG rfl rfl rfl hq;exact fP rfl)
  (apply wlp;exact qJ rfl rfl (hp.cell 1 rfl (zO (by omega)));exact (qUp _ _ hq))
  (repeat (apply wlp;apply qC;exact fI rfl))
  (apply wlp;exact yU rfl rfl (by decide);exact qI (b:=((i % 4:Nat):Int)) (yP i 4))
  (apply wlp;exact xU rfl rfl;exact qI (b:=((i % 4 * 8:Nat):Int)) (by rw [qN (by omega) (by omega)];omega))
  (apply wlp;exact jN rfl rfl;exact qI (b:=((24 - i % 4 * 8:Nat):Int)) (by rw [qN (by omega) (by omega)];omega))
  (apply wlp;exact xA (b:=24 - i % 4 * 8) rfl rfl (by show _≤32;omega);exact fI rfl)
  (apply wlp;exact uG rfl rfl rfl;exact qI (b:=((shb (bl s) i:Nat):Int)) (by unfold shb;rfl))
  (apply wlp;exact jG rfl rfl rfl hi;exact fP rfl)
  (apply zG;exact zD (cs:=[u8 (shb (bl s) i)]) hp 0 rfl rfl rfl rfl (qQ rfl) (vN (by show 0 + i * 1 + 1≤32;omega)) rfl;rintro _ w12 ⟨rfl,hp⟩)
  rw [qEp] at hp
  (repeat (with_reducible first|apply qA|apply qE|apply qB|apply qZ))
  (apply wlp;exact qY rfl rfl;exact qI (qN (by omega) (by omega)))
  (repeat (first|(with_reducible first|apply qE|apply qB)|(apply wlp;apply qC;exact fI rfl)))
  exact ⟨i + 1,qG (Same.eq (by repeat (first|exact Same.hav|exact Same.refl|refine Same.put rfl ?_|refine Same.havs rfl ?_))) rfl,⟨by omega,hp⟩,by omega⟩
 obtain rfl:i = 32:=by omega
 clear h hi
 (repeat (first|(with_reducible first|apply qF|apply qA|apply qB|apply qO|apply jB)|((with_reducible apply qP);exact rfl)))
 (apply wlp;exact jQ rfl rfl rfl (hp.agg_blk 0 rfl rfl);exact qIl (qRm (shb (bl s)) 32))
 (apply zG;exact zD (cs:=hv s) hp 2 rfl rfl rfl rfl (qQ rfl) rfl rfl;rintro _ w13 ⟨rfl,hp⟩)
 (repeat (with_reducible first|apply qE|apply qB|apply qT))
 exact yG rfl rfl rfl rfl (hp.agg_blk 2 rfl rfl) ⟨_,rfl,rfl,hp.keeps⟩
end Go.Proofs.YtbgldmoikimmpaaGreatDoor
namespace Go.Proofs.YtbgldmoikimmpaaGreatDoor
open Go.Eng Go.Dig Go.Sha
theorem qLu:∀ (vs:List Value) (f:Fr) (o i:Nat),i < o→yW f o vs i = f i
 | [],_,_,_,_=>rfl
 | v :: vs,f,o,i,h=>by
  show yW (f.put o v) (o + 1) vs i = f i
  rw [qLu vs _ _ _ (by omega)]
  unfold Fr.put
  rw [zS (by omega)]
  rfl
theorem qHq:∀ (vs:List Value) (f:Fr) (o j:Nat) (v:Value),vs[j]? = some v→yW f o vs (o + j) = v
 | [],_,_,_,_,h=>by simp at h
 | x :: vs,f,o,0,v,h=>by
  show yW (f.put o x) (o + 1) vs (o + 0) = v
  rw [qLu vs _ _ _ (by omega)]
  unfold Fr.put
  rw [Nat.add_zero,Nat.beq_refl]
  simpa using h
 | x :: vs,f,o,j + 1,v,h=>by
  show yW (f.put o x) (o + 1) vs (o + (j + 1)) = v
  rw [show o + (j + 1) = o + 1 + j by omega]
  exact qHq vs _ _ _ _ (by simpa using h)
def KV:List Value:=(List.range 64).map fun i=>u (kf i)
theorem qT9 (f:Fr) (i:Nat) (h:i < 64):yW f 0 KV i = u (kf i):=by
 have:=qHq KV f 0 i (u (kf i)) (by unfold KV;rw [List.getElem?_map,List.getElem?_range h];rfl)
 rwa [Nat.zero_add] at this
def sA (s r:St) (i:Nat):Fr:=fun j=>if j < i then u (wd (addS s r) j) else u (wd s j)
theorem qVr (s r:St):∀ i,i < 8→wd (addS s r) i = (wd s i + wd r i) % 4294967296
 | 0,_=>rfl
 | 1,_=>rfl
 | 2,_=>rfl
 | 3,_=>rfl
 | 4,_=>rfl
 | 5,_=>rfl
 | 6,_=>rfl
 | 7,_=>rfl
 | i + 8,h=>by omega
theorem qK0 (s:St) (i:Nat) (h:i < 8):qV (sv s) i = u (wd s i):=by
 match i,h with
 | 0,_=>rfl
 | 1,_=>rfl
 | 2,_=>rfl
 | 3,_=>rfl
 | 4,_=>rfl
 | 5,_=>rfl
 | 6,_=>rfl
 | 7,_=>rfl
 | i + 8,h=>omega
theorem qSv (s r:St) (i:Nat) (h:i < 8):qV (sv s) i = sA s r 0 i:=by
 rw [qK0 s i h]
 unfold sA
 rw [if_neg (by omega)]
theorem qVz (s r:St) (i:Nat) (h:i < 8):sA s r 8 i = qV (sv (addS s r)) i:=by
 rw [qK0 _ i h]
 unfold sA
 rw [if_pos h]
theorem qZe (s r:St) (i:Nat):sA s r i (0 + i * 1) = u (wd s i):=by
 unfold sA
 rw [show 0 + i * 1 = i by omega,if_neg (Nat.lt_irrefl i)]
theorem qSw {s r:St} {i:Nat}:yW (sA s r i) (0 + i * 1) [u (wd (addS s r) i)] = sA s r (i + 1):=by
 funext j
 show (Fr.put (sA s r i) (0 + i * 1) _) j = _
 unfold Fr.put sA
 by_cases h:j = 0 + i * 1
 ·have h:j = i:=by omega
  subst h
  rw [show 0 + j * 1 = j by omega,Nat.beq_refl,if_pos (Nat.lt_succ_self j)]
  rfl
 ·rw [zS h]
  show (if j < i then u (wd (addS s r) j) else u (wd s j)) = (if j < i + 1 then u (wd (addS s r) j) else u (wd s j))
  by_cases h2:j < i
  ·rw [if_pos h2,if_pos (by omega)]
  ·rw [if_neg h2,if_neg (by omega)]
theorem qSf (bt:Nat→Nat) (j:Nat) (h:j < 64):qV (List.replicate 64 (u 0)) j = wB bt 0 j:=by
 rw [qFi _ _ h]
 unfold wB
 rw [if_neg (by omega)]
theorem qJ0 (f:Fr) (s:St):∀ i,i < 8→yW f 0 (sv s) i = qV (sv s) i
 | 0,_=>rfl
 | 1,_=>rfl
 | 2,_=>rfl
 | 3,_=>rfl
 | 4,_=>rfl
 | 5,_=>rfl
 | 6,_=>rfl
 | 7,_=>rfl
 | i + 8,h=>by omega
attribute [local irreducible] PV StepF wpl wpd WP Ret
attribute [local irreducible] rr
theorem qG7 (x n:Nat) (w:World) (hx:x < 4294967296) (h1:1≤n) (h2:n≤31) :
  Ret Tryz.prog 265 [u x,.int .i64 (n:Int)] w (fun v w'=>v = u (rr x n)∧Keeps [] w w'):=by
 refine Ret.of_WP Tryz.func265 rfl Tryz.ntmps265 rfl ?_
 have hp:=Hp.start (M:=[]) (w:=w)
 (repeat (first|(with_reducible first|apply qF|apply qA|apply qE|apply qB)|(apply wlp;apply qD;exact fI rfl)))
 refine jX jW (by kernel_rfl) (fun w'=>Hp _ _ w' _) hp.drew ?_
 have hp:=hp.drew
 (apply wdp;exact rfl;(intro w hp;exact qC);exact fI rfl)
 (apply wdp;exact rfl;(intro w hp;exact qC);exact fI rfl)
 (apply wdp;exact rfl;(intro w hp;exact xA (b:=n) rfl rfl (by show n≤32;omega));exact fI rfl)
 (apply wdp;exact rfl;(intro w hp;exact qC);exact fI rfl)
 (apply wdp;exact rfl;(intro w hp;exact qC);exact fI rfl)
 (apply wdp;exact rfl;(intro w hp;exact jN rfl rfl);exact qI (b:=((32 - n:Nat):Int)) (by rw [qN (by omega) (by omega)];omega))
 (apply wdp;exact rfl;(intro w hp;exact wC (b:=32 - n) rfl rfl (by omega));exact fI rfl)
 (apply wdp;exact rfl;(intro w hp;exact qBn rfl rfl (qCh hx) (vB _));exact qI (b:=((rr x n:Nat):Int)) (by unfold rr;rfl))
 (apply wdp;exact rfl;(intro w hp;exact qD);exact fI rfl)
 refine jL ?_
 (repeat (with_reducible first|apply qB|apply qT))
 exact qU rfl rfl ⟨_,rfl,rfl,hp.keeps⟩
theorem jBw (w:World):Ret Tryz.prog 264 [] w (fun v w'=>v = .agg KV.toArray∧Keeps [] w w'):=by
 refine Ret.of_WP Tryz.func264 rfl Tryz.ntmps264 rfl ?_
 have hp:=Hp.start (M:=[]) (w:=w)
 (repeat (with_reducible first|apply qF|apply qA))
 (apply wls;exact zR (cs:=List.replicate 64 (u 0)) (m:=64) hp (jD rfl) rfl rfl;rintro _ w1 ⟨b,rfl,hp⟩)
 (repeat (with_reducible first|apply qF|apply qA|apply qE|apply qB))
 (apply wlp;exact uQ (vs:=(List.range 64).map fun i=>(i,u (kf i))) rfl rfl rfl rfl rfl rfl;exact (rfl:_ = Value.agg KV.toArray))
 (apply zG;exact zD (cs:=KV) hp 0 rfl rfl rfl rfl (qQ rfl) rfl rfl;rintro _ w2 ⟨rfl,hp⟩)
 (repeat (with_reducible first|apply qE|apply qB|apply qT))
 exact yG rfl rfl rfl rfl (hp.agg_blk 0 rfl rfl) ⟨_,rfl,rfl,hp.keeps⟩
theorem jC7 (s:St) (st:ByteArray) (bt:Nat→Nat) (w:World) (hs:Ok s) (hb:∀ k,bt k < 256) (hst:∀ k,k < 64→bAt st k = (bt k:Int)) (hsz:64≤st.size) :
  Ret Tryz.prog 183 [.agg (sv s).toArray,.string st] w (fun v w'=>v = .agg (sv (qJe bt s)).toArray∧Keeps [] w w'):=by
 have hwf:=fun j=>qUo hb j
 refine Ret.of_WP Tryz.func183 rfl Tryz.ntmps183 rfl ?_
 have hp:=Hp.start (M:=[]) (w:=w)
 (repeat (with_reducible first|apply qF|apply qA))
 (apply wls;exact qAj (cs:=sv s) (m:=8) hp rfl rfl rfl;rintro _ w1 ⟨sb,rfl,hp⟩)
 (apply wls;exact zR (cs:=List.replicate 8 (u 0)) (m:=8) hp (jD rfl) rfl rfl;rintro _ w2 ⟨rb,rfl,hp⟩)
 (repeat (with_reducible first|apply qF|apply qA|apply qE|apply qB))
 (apply wls;exact qH rfl qX9 rfl (jBw _))
 rintro _ w3 ⟨rfl,hk⟩
 have hp:=hp.call hk
 clear hk
 (apply wls;exact zR (cs:=List.replicate 64 (u 0)) (m:=64) hp (jD rfl) rfl rfl;rintro _ w3 ⟨kb,rfl,hp⟩)
 (apply zG;exact zD (cs:=KV) hp 0 rfl rfl rfl rfl (qQ rfl) rfl rfl;rintro _ w3 ⟨rfl,hp⟩)
 have hp:Hp w [] w3 [blk kb 64 (yW (qV (List.replicate 64 (u 0))) 0 KV) 315,blk rb 8 (qV (List.replicate 8 (u 0))) 243,blk sb 8 (qV (sv s)) 243]:=hp
 rw [xE (qT9 _)] at hp
 (repeat (with_reducible first|apply qF|apply qA|apply qE|apply qB))
 (apply wls;exact zR (cs:=List.replicate 64 (u 0)) (m:=64) hp (jD rfl) rfl rfl;rintro _ w3 ⟨wb,rfl,hp⟩)
 rw [xE (qSf bt)] at hp
 (repeat (first|(with_reducible first|apply qF|apply qK|apply qA|apply qE|apply qB)|(apply wlp;apply qD;exact fI rfl)))
 refine jE ([7,8,9] ++ List.range' 18 74) (fun (i:Nat) F=>F.put 7 (.int .i64 (i:Int)))
  (fun i w'=>i≤64∧Hp w [] w' [blk wb 64 (wB bt i) 315,blk kb 64 (fun j=>u (kf j)) 315,blk rb 8 (qV (List.replicate 8 (u 0))) 243,blk sb 8 (qV (sv s)) 243]) (fun i=>64 - i) 0
  (qG (Same.eq .refl) rfl) ⟨by omega,hp⟩ ?_
 clear hp
 rintro u1 i w4 ⟨hi,hp⟩
 (repeat (first|(with_reducible first|apply qF|apply qA|apply qE|apply qB)|(apply wlp;((first|apply qC|apply jA)<;>exact rfl);(first|exact fI rfl|exact fB rfl))))
 refine qM rfl (fun h=>?_) (fun h=>?_)
 ·have hi:i < 64:=by omega
  have hat:∀ k,k < i→∀ w',Hp w [] w' [blk wb 64 (wB bt i) 315,blk kb 64 (fun j=>u (kf j)) 315,blk rb 8 (qV (List.replicate 8 (u 0))) 243,blk sb 8 (qV (sv s)) 243]→w'.cell? ⟨wb,0 + k * 1,none⟩ = some (u (wf bt k)):=by
   intro k hk w' hp
   rw [hp.cell 0 rfl (zO (by omega)),qLd bt hk]
  (repeat (first|(with_reducible first|apply qF|apply qK|apply qA|apply qE|apply qB|apply qL)|(apply wlp;((first|apply qC|apply jA)<;>exact rfl);(first|exact fI rfl|exact fB rfl))))
  refine qM rfl (fun h6=>?_) (fun h6=>?_)
  ·have h6:i < 16:=by omega
   have hw0:_ = wf bt i:=(qVq hb i).trans (qO0 bt h6).symm
   have hz:∀ j,j < 64→j < st.size:=fun j hj=>by omega
   (repeat with_reducible apply qF)
   refine xH jW (by kernel_rfl) (fun w'=>Hp w [] w' [blk wb 64 (wB bt i) 315,blk kb 64 (fun j=>u (kf j)) 315,blk rb 8 (qV (List.replicate 8 (u 0))) 243,blk sb 8 (qV (sv s)) 243]) hp.drew ?_
   have hp:=hp.drew
   (apply wdp;exact rfl;(intro w hp;exact qC);exact fI rfl)
   (apply wdp;exact rfl;(intro w hp;exact qC);exact fT rfl)
   (apply wdp;exact rfl;(intro w hp;exact qC);exact fI rfl)
   (apply wdp;exact rfl;(intro w hp;exact xU rfl rfl);exact qI (b:=((4 * i:Nat):Int)) (by rw [qN (by omega) (by omega)];omega))
   (apply wdp;exact rfl;(intro w hp;exact zY (i:=4 * i) rfl rfl rfl (hz _ (by omega)));exact qI (b:=((bt (4 * i):Nat):Int)) (hst _ (by omega)))
   (apply wdp;exact rfl;(intro w hp;exact xM rfl rfl rfl);exact qI (b:=((bt (4 * i):Nat):Int)) (by have:=hb (4 * i);omega))
   (apply wdp;exact rfl;(intro w hp;exact wC (b:=24) rfl rfl (by decide));exact fI rfl)
   (apply wdp;exact rfl;(intro w hp;exact qC);exact fT rfl)
   (apply wdp;exact rfl;(intro w hp;exact qC);exact fI rfl)
   (apply wdp;exact rfl;(intro w hp;exact xU rfl rfl);exact qI (b:=((4 * i:Nat):Int)) (by rw [qN (by omega) (by omega)];omega))
   (apply wdp;exact rfl;(intro w hp;exact qY rfl rfl);exact qI (b:=((4 * i + 1:Nat):Int)) (by rw [qN (by omega) (by omega)];omega))
   (apply wdp;exact rfl;(intro w hp;exact zY (i:=4 * i + 1) rfl rfl rfl (hz _ (by omega)));exact qI (b:=((bt (4 * i + 1):Nat):Int)) (hst _ (by omega)))
   (apply wdp;exact rfl;(intro w hp;exact xM rfl rfl rfl);exact qI (b:=((bt (4 * i + 1):Nat):Int)) (by have:=hb (4 * i + 1);omega))
   (apply wdp;exact rfl;(intro w hp;exact wC (b:=16) rfl rfl (by decide));exact fI rfl)
   (apply wdp;exact rfl;(intro w hp;exact qBn rfl rfl (vB _) (vB _));exact fI rfl)
   (apply wdp;exact rfl;(intro w hp;exact qC);exact fT rfl)
   (apply wdp;exact rfl;(intro w hp;exact qC);exact fI rfl)
   (apply wdp;exact rfl;(intro w hp;exact xU rfl rfl);exact qI (b:=((4 * i:Nat):Int)) (by rw [qN (by omega) (by omega)];omega))
   (apply wdp;exact rfl;(intro w hp;exact qY rfl rfl);exact qI (b:=((4 * i + 2:Nat):Int)) (by rw [qN (by omega) (by omega)];omega))
   (apply wdp;exact rfl;(intro w hp;exact zY (i:=4 * i + 2) rfl rfl rfl (hz _ (by omega)));exact qI (b:=((bt (4 * i + 2):Nat):Int)) (hst _ (by omega)))
   (apply wdp;exact rfl;(intro w hp;exact xM rfl rfl rfl);exact qI (b:=((bt (4 * i + 2):Nat):Int)) (by have:=hb (4 * i + 2);omega))
   (apply wdp;exact rfl;(intro w hp;exact wC (b:=8) rfl rfl (by decide));exact fI rfl)
   (apply wdp;exact rfl;(intro w hp;exact qBn rfl rfl (qJ9 (vB _) (vB _)) (vB _));exact fI rfl)
   (apply wdp;exact rfl;(intro w hp;exact qC);exact fT rfl)
   (apply wdp;exact rfl;(intro w hp;exact qC);exact fI rfl)
   (apply wdp;exact rfl;(intro w hp;exact xU rfl rfl);exact qI (b:=((4 * i:Nat):Int)) (by rw [qN (by omega) (by omega)];omega))
   (apply wdp;exact rfl;(intro w hp;exact qY rfl rfl);exact qI (b:=((4 * i + 3:Nat):Int)) (by rw [qN (by omega) (by omega)];omega))
   (apply wdp;exact rfl;(intro w hp;exact zY (i:=4 * i + 3) rfl rfl rfl (hz _ (by omega)));exact qI (b:=((bt (4 * i + 3):Nat):Int)) (hst _ (by omega)))
   (apply wdp;exact rfl;(intro w hp;exact xM rfl rfl rfl);exact qI (b:=((bt (4 * i + 3):Nat):Int)) (by have:=hb (4 * i + 3);omega))
   (apply wdp;exact rfl;(intro w hp;exact qBn rfl rfl (qJ9 (qJ9 (vB _) (vB _)) (vB _)) (Nat.lt_trans (hb _) (by decide)));exact fI rfl)
   (apply wdp;exact rfl;(intro w hp;exact jG rfl rfl rfl hi);exact fP rfl)
   (apply kH;exact rfl;exact rfl;exact zD (cs:=[u (wf bt i)]) hp 0 rfl rfl rfl (congrArg (fun x=>[u x]) hw0) (qQ rfl) (vN (by show 0 + i * 1 + 1≤64;omega)) rfl;rintro _ w6 ⟨rfl,hp⟩)
   rw [qH9 rfl] at hp
   refine jL ?_
   (repeat (first|(with_reducible first|apply qA|apply qB|apply qO|apply jB)|((with_reducible apply qP);exact rfl)|(apply wlp;apply qC;exact fI rfl)))
   (apply wlp;exact qY rfl rfl;exact qI (qN (by omega) (by omega)))
   (repeat (first|(with_reducible first|apply qE|apply qB)|(apply wlp;apply qD;exact fI rfl)))
   exact ⟨i + 1,qG (Same.eq (by repeat (first|exact Same.hav|exact Same.refl|refine Same.put rfl ?_|refine Same.havs rfl ?_))) rfl,⟨by omega,hp⟩,by omega⟩
  ·have hi6:16≤i:=by omega
   have hX:=hwf (i - 15)
   have hY:=hwf (i - 2)
   have hw0:=qO1 bt hi6
   (repeat (first|(with_reducible first|apply qF|apply qA|apply qB|apply qL)|(apply wlp;apply qC;exact fI rfl)))
   (apply wlp;(exact jN rfl rfl);exact qI (b:=((i - 15:Nat):Int)) (by rw [qN (by omega) (by omega)];omega))
   (apply wlp;exact jG rfl rfl rfl (show i - 15 < 64 by omega);exact fP rfl)
   (apply wlp;exact qJ rfl rfl (hat _ (by omega) _ hp);exact fI rfl)
   (apply wlp;exact qD;exact fI rfl)
   (repeat (with_reducible first|apply qF|apply qA|apply qE|apply qB))
   (apply wlp;exact qC;exact fI rfl)
   (apply wlp;(exact jN rfl rfl);exact qI (b:=((i - 2:Nat):Int)) (by rw [qN (by omega) (by omega)];omega))
   (apply wlp;exact jG rfl rfl rfl (show i - 2 < 64 by omega);exact fP rfl)
   (apply wlp;exact qJ rfl rfl (hat _ (by omega) _ hp);exact fI rfl)
   (apply wlp;exact qD;exact fI rfl)
   (repeat (with_reducible first|apply qE|apply qB))
   refine xH jW (by kernel_rfl) (fun w'=>Hp w [] w' [blk wb 64 (wB bt i) 315,blk kb 64 (fun j=>u (kf j)) 315,blk rb 8 (qV (List.replicate 8 (u 0))) 243,blk sb 8 (qV (sv s)) 243]) hp.drew ?_
   have hp:=hp.drew
   (apply wdp;exact rfl;(intro w hp;exact qC);exact fI rfl)
   (apply wdp;exact rfl;(intro w hp;exact qC);exact fI rfl)
   (apply wdp;exact rfl;(intro w hp;exact jN rfl rfl);exact qI (b:=((i - 16:Nat):Int)) (by rw [qN (by omega) (by omega)];omega))
   (apply wdp;exact rfl;(intro w hp;exact jG rfl rfl rfl (show i - 16 < 64 by omega));exact fP rfl)
   (apply wdp;exact rfl;(intro w hp;exact qJ rfl rfl (hat _ (by omega) w hp));exact fI rfl)
   (apply wdp;exact rfl;(intro w hp;exact qC);exact fI rfl)
   (apply wds;exact rfl;exact qH rfl wZ rfl (qG7 _ 7 _ hX (by decide) (by decide)))
   rintro _ w5 ⟨rfl,hk⟩
   have hp:=hp.call hk
   clear hk
   refine ⟨hp,?_⟩
   (apply wdp;exact rfl;(intro w hp;exact qC);exact fI rfl)
   (apply wds;exact rfl;exact qH rfl wZ rfl (qG7 _ 18 _ hX (by decide) (by decide)))
   rintro _ w5 ⟨rfl,hk⟩
   have hp:=hp.call hk
   clear hk
   refine ⟨hp,?_⟩
   (apply wdp;exact rfl;(intro w hp;exact xC rfl rfl (xR hX _) (xR hX _));exact fI rfl)
   (apply wdp;exact rfl;(intro w hp;exact qC);exact fI rfl)
   (apply wdp;exact rfl;(intro w hp;exact xA (b:=3) rfl rfl (by decide));exact fI rfl)
   (apply wdp;exact rfl;(intro w hp;exact xC rfl rfl (wS (xR hX _) (xR hX _)) (qCh hX));exact fI rfl)
   (apply wdp;exact rfl;(intro w hp;exact zH rfl rfl);exact fI rfl)
   (apply wdp;exact rfl;(intro w hp;exact qC);exact fI rfl)
   (apply wdp;exact rfl;(intro w hp;exact jN rfl rfl);exact qI (b:=((i - 7:Nat):Int)) (by rw [qN (by omega) (by omega)];omega))
   (apply wdp;exact rfl;(intro w hp;exact jG rfl rfl rfl (show i - 7 < 64 by omega));exact fP rfl)
   (apply wdp;exact rfl;(intro w hp;exact qJ rfl rfl (hat _ (by omega) w hp));exact fI rfl)
   (apply wdp;exact rfl;(intro w hp;exact zH rfl rfl);exact fI rfl)
   (apply wdp;exact rfl;(intro w hp;exact qC);exact fI rfl)
   (apply wds;exact rfl;exact qH rfl wZ rfl (qG7 _ 17 _ hY (by decide) (by decide)))
   rintro _ w5 ⟨rfl,hk⟩
   have hp:=hp.call hk
   clear hk
   refine ⟨hp,?_⟩
   (apply wdp;exact rfl;(intro w hp;exact qC);exact fI rfl)
   (apply wds;exact rfl;exact qH rfl wZ rfl (qG7 _ 19 _ hY (by decide) (by decide)))
   rintro _ w5 ⟨rfl,hk⟩
   have hp:=hp.call hk
   clear hk
   refine ⟨hp,?_⟩
   (apply wdp;exact rfl;(intro w hp;exact xC rfl rfl (xR hY _) (xR hY _));exact fI rfl)
   (apply wdp;exact rfl;(intro w hp;exact qC);exact fI rfl)
   (apply wdp;exact rfl;(intro w hp;exact xA (b:=10) rfl rfl (by decide));exact fI rfl)
   (apply wdp;exact rfl;(intro w hp;exact xC rfl rfl (wS (xR hY _) (xR hY _)) (qCh hY));exact fI rfl)
   (apply wdp;exact rfl;(intro w hp;exact zH rfl rfl);exact fI rfl)
   (apply wdp;exact rfl;(intro w hp;exact jG rfl rfl rfl hi);exact fP rfl)
   (apply kH;exact rfl;exact rfl;exact zD (cs:=[u (wf bt i)]) hp 0 rfl rfl rfl (congrArg (fun x=>[u x]) hw0.symm) (qQ rfl) (vN (by show 0 + i * 1 + 1≤64;omega)) rfl;rintro _ w6 ⟨rfl,hp⟩)
   rw [qH9 rfl] at hp
   refine jL ?_
   (repeat (first|(with_reducible first|apply qA|apply qB|apply qZ)|(apply wlp;apply qC;exact fI rfl)))
   (apply wlp;exact qY rfl rfl;exact qI (qN (by omega) (by omega)))
   (repeat (first|(with_reducible first|apply qE|apply qB)|(apply wlp;apply qD;exact fI rfl)))
   exact ⟨i + 1,qG (Same.eq (by repeat (first|exact Same.hav|exact Same.refl|refine Same.put rfl ?_|refine Same.havs rfl ?_))) rfl,⟨by omega,hp⟩,by omega⟩
 obtain rfl:i = 64:=by omega
 clear h hi
 (repeat (first|(with_reducible first|apply qF|apply qA|apply qB|apply qO|apply jB)|((with_reducible apply qP);exact rfl)))
 (apply wlp;exact jQ rfl rfl rfl (hp.agg_blk 3 rfl rfl);exact (rfl:_ = Value.agg (sv s).toArray))
 (apply wls;exact zR (cs:=List.replicate 8 (u 0)) (m:=8) hp (jD rfl) rfl rfl;rintro _ w5 ⟨vb,rfl,hp⟩)
 (apply zG;exact zD (cs:=sv s) hp 0 rfl rfl rfl rfl (qQ rfl) rfl rfl;rintro _ w6 ⟨rfl,hp⟩)
 have hp:Hp w [] w6 [blk vb 8 (yW (qV (List.replicate 8 (u 0))) 0 (sv s)) 243,blk wb 64 (wB bt 64) 315,blk kb 64 (fun j=>u (kf j)) 315,blk rb 8 (qV (List.replicate 8 (u 0))) 243,blk sb 8 (qV (sv s)) 243]:=hp
 rw [xE (qJ0 _ _)] at hp
 (repeat (first|(with_reducible first|apply qF|apply qK|apply qA|apply qE|apply qB)|(apply wlp;apply qD;exact fI rfl)))
 refine jE ([11,12,13,14,15] ++ List.range' 93 82) (fun (i:Nat) F=>F.put 11 (.int .i64 (i:Int)))
  (fun i w'=>i≤64∧Hp w [] w' [blk vb 8 (qV (sv (rds bt s i))) 243,blk wb 64 (wB bt 64) 315,blk kb 64 (fun j=>u (kf j)) 315,blk rb 8 (qV (List.replicate 8 (u 0))) 243,blk sb 8 (qV (sv s)) 243]) (fun i=>64 - i) 0
  (qG (Same.eq .refl) rfl) ⟨by omega,hp⟩ ?_
 clear hp
 rintro u2 i w7 ⟨hi,hp⟩
 have hr:=hs.rds bt i
 have hrn:rds bt s (i + 1) = rnd (kf i) (wf bt i) (rds bt s i):=rfl
 have hend:∀ h:i = 64,qJe bt s = addS s (rds bt s i):=fun h=>by subst h;rfl
 generalize rds bt s i = r at hr hrn hend hp
 (repeat (first|(with_reducible first|apply qF|apply qA|apply qE|apply qB)|(apply wlp;((first|apply qC|apply jA)<;>exact rfl);(first|exact fI rfl|exact fB rfl))))
 refine qM rfl (fun h=>?_) (fun h=>?_)
 ·have hi:i < 64:=by omega
  have hat:∀ w',Hp w [] w' [blk vb 8 (qV (sv r)) 243,blk wb 64 (wB bt 64) 315,blk kb 64 (fun j=>u (kf j)) 315,blk rb 8 (qV (List.replicate 8 (u 0))) 243,blk sb 8 (qV (sv s)) 243]→w'.cell? ⟨wb,0 + i * 1,none⟩ = some (u (wf bt i)):=by
   intro w' hp
   rw [hp.cell 1 rfl (zO (by omega)),qLd bt hi]
  have hkt:∀ w',Hp w [] w' [blk vb 8 (qV (sv r)) 243,blk wb 64 (wB bt 64) 315,blk kb 64 (fun j=>u (kf j)) 315,blk rb 8 (qV (List.replicate 8 (u 0))) 243,blk sb 8 (qV (sv s)) 243]→w'.cell? ⟨kb,0 + i * 1,none⟩ = some (u (kf i)):=by
   intro w' hp
   rw [hp.cell 2 rfl (zO (by omega)),show 0 + i * 1 = i by omega]
  have hke:=hr.e
  have hka:=hr.a
  (repeat (with_reducible first|apply qF|apply qK|apply qA|apply qB|apply qL))
  (apply wlp;exact jG (i:=4) rfl rfl rfl (by decide);exact fP rfl)
  (apply wlp;exact qJ rfl rfl (hp.cell 0 rfl rfl);exact fI rfl)
  (apply wlp;exact qD;exact fI rfl)
  (repeat (with_reducible first|apply qF|apply qA|apply qE|apply qB))
  (apply wlp;exact jG (i:=0) rfl rfl rfl (by decide);exact fP rfl)
  (apply wlp;exact qJ rfl rfl (hp.cell 0 rfl rfl);exact fI rfl)
  (apply wlp;exact qD;exact fI rfl)
  (repeat (with_reducible first|apply qF|apply qE|apply qB))
  refine jX jW (by kernel_rfl) (fun w'=>Hp w [] w' [blk vb 8 (qV (sv r)) 243,blk wb 64 (wB bt 64) 315,blk kb 64 (fun j=>u (kf j)) 315,blk rb 8 (qV (List.replicate 8 (u 0))) 243,blk sb 8 (qV (sv s)) 243]) hp.drew ?_
  have hp:=hp.drew
  (apply wdp;exact rfl;(intro w hp;exact jG (i:=7) rfl rfl rfl (by decide));exact fP rfl)
  (apply wdp;exact rfl;(intro w hp;exact qJ rfl rfl (hp.cell 0 rfl rfl));exact fI rfl)
  (apply wdp;exact rfl;(intro w hp;exact qC);exact fI rfl)
  (apply wds;exact rfl;exact qH rfl wZ rfl (qG7 _ 6 _ hke (by decide) (by decide)))
  rintro _ w5 ⟨rfl,hk⟩
  have hp:=hp.call hk
  clear hk
  refine ⟨hp,?_⟩
  (apply wdp;exact rfl;(intro w hp;exact qC);exact fI rfl)
  (apply wds;exact rfl;exact qH rfl wZ rfl (qG7 _ 11 _ hke (by decide) (by decide)))
  rintro _ w5 ⟨rfl,hk⟩
  have hp:=hp.call hk
  clear hk
  refine ⟨hp,?_⟩
  (apply wdp;exact rfl;(intro w hp;exact xC rfl rfl (xR hke _) (xR hke _));exact fI rfl)
  (apply wdp;exact rfl;(intro w hp;exact qC);exact fI rfl)
  (apply wds;exact rfl;exact qH rfl wZ rfl (qG7 _ 25 _ hke (by decide) (by decide)))
  rintro _ w5 ⟨rfl,hk⟩
  have hp:=hp.call hk
  clear hk
  refine ⟨hp,?_⟩
  (apply wdp;exact rfl;(intro w hp;exact xC rfl rfl (wS (xR hke _) (xR hke _)) (xR hke _));exact fI rfl)
  (apply wdp;exact rfl;(intro w hp;exact zH rfl rfl);exact fI rfl)
  (apply wdp;exact rfl;(intro w hp;exact qC);exact fI rfl)
  (apply wdp;exact rfl;(intro w hp;exact jG (i:=5) rfl rfl rfl (by decide));exact fP rfl)
  (apply wdp;exact rfl;(intro w hp;exact qJ rfl rfl (hp.cell 0 rfl rfl));exact fI rfl)
  (apply wdp;exact rfl;(intro w hp;exact vU rfl rfl hr.e hr.f);exact fI rfl)
  (apply wdp;exact rfl;(intro w hp;exact qC);exact fI rfl)
  (apply wdp;exact rfl;(intro w hp;exact qJ6 rfl hke);exact fI rfl)
  (apply wdp;exact rfl;(intro w hp;exact jG (i:=6) rfl rfl rfl (by decide));exact fP rfl)
  (apply wdp;exact rfl;(intro w hp;exact qJ rfl rfl (hp.cell 0 rfl rfl));exact fI rfl)
  (apply wdp;exact rfl;(intro w hp;exact vU rfl rfl (Nat.lt_of_le_of_lt (Nat.sub_le _ _) (by decide)) hr.g);exact fI rfl)
  (apply wdp;exact rfl;(intro w hp;exact xC rfl rfl (kP hr.e) (kP (Nat.lt_of_le_of_lt (Nat.sub_le _ _) (by decide))));exact fI rfl)
  (apply wdp;exact rfl;(intro w hp;exact zH rfl rfl);exact fI rfl)
  (apply wdp;exact rfl;(intro w hp;exact qC);exact fI rfl)
  (apply wdp;exact rfl;(intro w hp;exact jG rfl rfl rfl hi);exact fP rfl)
  (apply wdp;exact rfl;(intro w hp;exact qJ rfl rfl (hkt _ hp));exact fI rfl)
  (apply wdp;exact rfl;(intro w hp;exact zH rfl rfl);exact fI rfl)
  (apply wdp;exact rfl;(intro w hp;exact qC);exact fI rfl)
  (apply wdp;exact rfl;(intro w hp;exact jG rfl rfl rfl hi);exact fP rfl)
  (apply wdp;exact rfl;(intro w hp;exact qJ rfl rfl (hat _ hp));exact fI rfl)
  (apply wdp;exact rfl;(intro w hp;exact zH rfl rfl);exact fI rfl)
  (apply wdp;exact rfl;(intro w hp;exact qD);exact qI (b:=((T1 (kf i) (wf bt i) r:Nat):Int)) rfl)
  refine jL ?_
  (repeat (with_reducible first|apply qF|apply qB))
  refine jX jW (by kernel_rfl) (fun w'=>Hp w [] w' [blk vb 8 (qV (sv r)) 243,blk wb 64 (wB bt 64) 315,blk kb 64 (fun j=>u (kf j)) 315,blk rb 8 (qV (List.replicate 8 (u 0))) 243,blk sb 8 (qV (sv s)) 243]) hp.drew ?_
  have hp:=hp.drew
  (apply wdp;exact rfl;(intro w hp;exact qC);exact fI rfl)
  (apply wds;exact rfl;exact qH rfl wZ rfl (qG7 _ 2 _ hka (by decide) (by decide)))
  rintro _ w5 ⟨rfl,hk⟩
  have hp:=hp.call hk
  clear hk
  refine ⟨hp,?_⟩
  (apply wdp;exact rfl;(intro w hp;exact qC);exact fI rfl)
  (apply wds;exact rfl;exact qH rfl wZ rfl (qG7 _ 13 _ hka (by decide) (by decide)))
  rintro _ w5 ⟨rfl,hk⟩
  have hp:=hp.call hk
  clear hk
  refine ⟨hp,?_⟩
  (apply wdp;exact rfl;(intro w hp;exact xC rfl rfl (xR hka _) (xR hka _));exact fI rfl)
  (apply wdp;exact rfl;(intro w hp;exact qC);exact fI rfl)
  (apply wds;exact rfl;exact qH rfl wZ rfl (qG7 _ 22 _ hka (by decide) (by decide)))
  rintro _ w5 ⟨rfl,hk⟩
  have hp:=hp.call hk
  clear hk
  refine ⟨hp,?_⟩
  (apply wdp;exact rfl;(intro w hp;exact xC rfl rfl (wS (xR hka _) (xR hka _)) (xR hka _));exact fI rfl)
  (apply wdp;exact rfl;(intro w hp;exact qC);exact fI rfl)
  (apply wdp;exact rfl;(intro w hp;exact jG (i:=1) rfl rfl rfl (by decide));exact fP rfl)
  (apply wdp;exact rfl;(intro w hp;exact qJ rfl rfl (hp.cell 0 rfl rfl));exact fI rfl)
  (apply wdp;exact rfl;(intro w hp;exact vU rfl rfl hr.a hr.b);exact fI rfl)
  (apply wdp;exact rfl;(intro w hp;exact qC);exact fI rfl)
  (apply wdp;exact rfl;(intro w hp;exact jG (i:=2) rfl rfl rfl (by decide));exact fP rfl)
  (apply wdp;exact rfl;(intro w hp;exact qJ rfl rfl (hp.cell 0 rfl rfl));exact fI rfl)
  (apply wdp;exact rfl;(intro w hp;exact vU rfl rfl hr.a hr.c);exact fI rfl)
  (apply wdp;exact rfl;(intro w hp;exact xC rfl rfl (kP hr.a) (kP hr.a));exact fI rfl)
  (apply wdp;exact rfl;(intro w hp;exact jG (i:=1) rfl rfl rfl (by decide));exact fP rfl)
  (apply wdp;exact rfl;(intro w hp;exact qJ rfl rfl (hp.cell 0 rfl rfl));exact fI rfl)
  (apply wdp;exact rfl;(intro w hp;exact jG (i:=2) rfl rfl rfl (by decide));exact fP rfl)
  (apply wdp;exact rfl;(intro w hp;exact qJ rfl rfl (hp.cell 0 rfl rfl));exact fI rfl)
  (apply wdp;exact rfl;(intro w hp;exact vU rfl rfl hr.b hr.c);exact fI rfl)
  (apply wdp;exact rfl;(intro w hp;exact xC rfl rfl (wS (kP hr.a) (kP hr.a)) (kP hr.b));exact fI rfl)
  (apply wdp;exact rfl;(intro w hp;exact zH rfl rfl);exact fI rfl)
  (apply wdp;exact rfl;(intro w hp;exact qD);exact qI (b:=((T2 r:Nat):Int)) rfl)
  refine jL ?_
  (repeat (with_reducible first|apply qA|apply qB))
  (apply wlp;exact qC;exact fI rfl)
  (apply wlp;exact qC;exact fI rfl)
  (apply wlp;exact zH rfl rfl;exact fI rfl)
  (apply wlp;exact jG (i:=0) rfl rfl rfl (by decide);exact fP rfl)
  (apply wlp;exact qJ rfl rfl (hp.cell 0 rfl rfl);exact fI rfl)
  (apply wlp;exact jG (i:=1) rfl rfl rfl (by decide);exact fP rfl)
  (apply wlp;exact qJ rfl rfl (hp.cell 0 rfl rfl);exact fI rfl)
  (apply wlp;exact jG (i:=2) rfl rfl rfl (by decide);exact fP rfl)
  (apply wlp;exact qJ rfl rfl (hp.cell 0 rfl rfl);exact fI rfl)
  (apply wlp;exact jG (i:=3) rfl rfl rfl (by decide);exact fP rfl)
  (apply wlp;exact qJ rfl rfl (hp.cell 0 rfl rfl);exact fI rfl)
  (apply wlp;exact qC;exact fI rfl)
  (apply wlp;exact zH rfl rfl;exact fI rfl)
  (apply wlp;exact jG (i:=4) rfl rfl rfl (by decide);exact fP rfl)
  (apply wlp;exact qJ rfl rfl (hp.cell 0 rfl rfl);exact fI rfl)
  (apply wlp;exact jG (i:=5) rfl rfl rfl (by decide);exact fP rfl)
  (apply wlp;exact qJ rfl rfl (hp.cell 0 rfl rfl);exact fI rfl)
  (apply wlp;exact jG (i:=6) rfl rfl rfl (by decide);exact fP rfl)
  (apply wlp;exact qJ rfl rfl (hp.cell 0 rfl rfl);exact fI rfl)
  (apply wlp;exact uQ (vs:=[(0,u ((T1 (kf i) (wf bt i) r + T2 r) % 4294967296)),(1,u r.a),(2,u r.b),(3,u r.c),(4,u ((r.d + T1 (kf i) (wf bt i) r) % 4294967296)),(5,u r.e),(6,u r.f),(7,u r.g)]) rfl rfl rfl rfl rfl rfl;exact (rfl:_ = Value.agg (sv (rnd (kf i) (wf bt i) r)).toArray))
  (apply zG;exact zD (cs:=sv (rnd (kf i) (wf bt i) r)) hp 0 rfl rfl rfl rfl (qQ rfl) rfl rfl;rintro _ w8 ⟨rfl,hp⟩)
  have hp:Hp w [] w8 [blk vb 8 (yW (qV (sv r)) 0 (sv (rnd (kf i) (wf bt i) r))) 243,blk wb 64 (wB bt 64) 315,blk kb 64 (fun j=>u (kf j)) 315,blk rb 8 (qV (List.replicate 8 (u 0))) 243,blk sb 8 (qV (sv s)) 243]:=hp
  rw [xE (qJ0 _ _),← hrn] at hp
  (repeat (first|(with_reducible first|apply qA|apply qE|apply qB|apply qZ)|(apply wlp;apply qC;exact fI rfl)))
  (apply wlp;exact qY rfl rfl;exact qI (qN (by omega) (by omega)))
  (repeat (first|(with_reducible first|apply qE|apply qB)|(apply wlp;apply qD;exact fI rfl)))
  exact ⟨i + 1,qG (Same.eq (by repeat (first|exact Same.hav|exact Same.refl|refine Same.put rfl ?_|refine Same.havs rfl ?_))) rfl,⟨by omega,hp⟩,by omega⟩
 have hi:i = 64:=by omega
 rw [hend hi]
 clear h hend hrn hi
 have hp:Hp w [] w7 [blk vb 8 (qV (sv r)) 243,blk wb 64 (wB bt 64) 315,blk kb 64 (fun j=>u (kf j)) 315,blk rb 8 (qV (List.replicate 8 (u 0))) 243,blk sb 8 (sA s r 0) 243]:=by
  rw [← xE (qSv s r)]
  exact hp
 (repeat (first|(with_reducible first|apply qF|apply qK|apply qA|apply qE|apply qB|apply qO|apply jB)|((with_reducible apply qP);exact rfl)|(apply wlp;apply qD;exact fI rfl)))
 refine jE ([16] ++ List.range' 175 13) (fun (i:Nat) F=>F.put 16 (.int .i64 (i:Int)))
  (fun i w'=>i≤8∧Hp w [] w' [blk vb 8 (qV (sv r)) 243,blk wb 64 (wB bt 64) 315,blk kb 64 (fun j=>u (kf j)) 315,blk rb 8 (qV (List.replicate 8 (u 0))) 243,blk sb 8 (sA s r i) 243]) (fun i=>8 - i) 0
  (qG (Same.eq .refl) rfl) ⟨by omega,hp⟩ ?_
 clear hp
 rintro u3 i w9 ⟨hi,hp⟩
 (repeat (first|(with_reducible first|apply qF|apply qA|apply qE|apply qB)|(apply wlp;((first|apply qC|apply jA)<;>exact rfl);(first|exact fI rfl|exact fB rfl))))
 refine qM rfl (fun h=>?_) (fun h=>?_)
 ·have hi:i < 8:=by omega
  (repeat (with_reducible first|apply qF|apply qK|apply qB|apply qL))
  refine xH jW (by kernel_rfl) (fun w'=>Hp w [] w' [blk vb 8 (qV (sv r)) 243,blk wb 64 (wB bt 64) 315,blk kb 64 (fun j=>u (kf j)) 315,blk rb 8 (qV (List.replicate 8 (u 0))) 243,blk sb 8 (sA s r i) 243]) hp.drew ?_
  have hp:=hp.drew
  (apply wdp;exact rfl;(intro w hp;exact qC);exact fI rfl)
  (apply wdp;exact rfl;(intro w hp;exact qC);exact fI rfl)
  (apply wdp;exact rfl;(intro w hp;exact jG rfl rfl rfl hi);exact fP rfl)
  (apply wdp;exact rfl;(intro w hp;exact qJ rfl rfl (hp.cell 4 rfl (zO (by omega))));exact (qZe s r i))
  (apply wdp;exact rfl;(intro w hp;exact qC);exact fI rfl)
  (apply wdp;exact rfl;(intro w hp;exact jG rfl rfl rfl hi);exact fP rfl)
  (apply wdp;exact rfl;(intro w hp;exact qJ rfl rfl (hp.cell 0 rfl (zO (by omega))));exact (qK0 r _ (by omega)))
  rw [show 0 + i * 1 = i by omega]
  (apply wdp;exact rfl;(intro w hp;exact zH rfl rfl);exact (congrArg u (qVr s r i hi).symm))
  (apply wdp;exact rfl;(intro w hp;exact jG rfl rfl rfl hi);exact fP rfl)
  (apply kH;exact rfl;exact rfl;exact zD (cs:=[u (wd (addS s r) i)]) hp 4 rfl rfl rfl rfl (qQ rfl) (vN (by show 0 + i * 1 + 1≤8;omega)) rfl;rintro _ w10 ⟨rfl,hp⟩)
  rw [qSw] at hp
  refine jL ?_
  (repeat (first|(with_reducible first|apply qA|apply qB|apply qZ)|(apply wlp;apply qC;exact fI rfl)))
  (apply wlp;exact qY rfl rfl;exact qI (qN (by omega) (by omega)))
  (repeat (first|(with_reducible first|apply qE|apply qB)|(apply wlp;apply qD;exact fI rfl)))
  exact ⟨i + 1,qG (Same.eq (by repeat (first|exact Same.hav|exact Same.refl|refine Same.put rfl ?_|refine Same.havs rfl ?_))) rfl,⟨by omega,hp⟩,by omega⟩
 obtain rfl:i = 8:=by omega
 clear h hi
 rw [xE (qVz s r)] at hp
 (repeat (first|(with_reducible first|apply qF|apply qA|apply qB|apply qO|apply jB)|((with_reducible apply qP);exact rfl)))
 (apply wlp;exact jQ rfl rfl rfl (hp.agg_blk 4 rfl rfl);exact (rfl:_ = Value.agg (sv (addS s r)).toArray))
 (apply zG;exact zD (cs:=sv (addS s r)) hp 3 rfl rfl rfl rfl (qQ rfl) rfl rfl;rintro _ w11 ⟨rfl,hp⟩)
 (repeat (with_reducible first|apply qE|apply qB|apply qT))
 exact yG rfl rfl rfl rfl (hp.agg_blk 3 rfl rfl) ⟨_,rfl,rfl,hp.keeps⟩
end Go.Proofs.YtbgldmoikimmpaaGreatDoor
namespace Go.Proofs.YtbgldmoikimmpaaGreatDoor
open Go.Eng Go.Dig Go.Sha
theorem qNe {n m:Nat} (h:m < 8):(qEc n).take (m + 1) = (qEc n).take m ++ [n / 2 ^ (56 - 8 * m) % 256]:=by
 unfold qEc
 rw [← List.map_take,← List.map_take,List.take_range,List.take_range,Nat.min_eq_left (by omega),Nat.min_eq_left (by omega),List.range_succ,List.map_append]
 rfl
attribute [local irreducible] PV StepF wpl wpd WP Ret
attribute [local irreducible] Go.Sha.hs Go.Sha.pad Go.Sha.wd Go.Sha.shb
theorem jC8 (s:ByteArray) (w:World) (hsz:s.size≤1099511627776) :
  Ret Tryz.prog 182 [.string s] w (fun v w'=>∃ r,v = .string r∧bl r = pad (bl s)∧Keeps [] w w'):=by
 have hl:=xG s
 have hzp:qCn (bl s).length = (119 - (bl s).length % 64) % 64:=rfl
 refine Ret.of_WP Tryz.func182 rfl Tryz.ntmps182 rfl ?_
 have hp:=Hp.start (M:=[]) (w:=w)
 (repeat (first|(with_reducible first|apply qF|apply qA|apply qE|apply qB)|(apply wlp;(first|apply qC|apply qD);exact fT rfl)))
 obtain ⟨r0,hr0⟩:∃ r0,s ++ (⟨#[128]⟩:ByteArray) = r0:=⟨_,rfl⟩
 (apply wlp;exact jY rfl rfl (by show _ + 1≤_;omega);exact congrArg Value.string hr0)
 have hb0:bl r0 = bl s ++ 128 :: List.replicate 0 0:=by
  rw [← hr0,vG]
  rfl
 (repeat (first|(with_reducible first|apply qF|apply qK|apply qE|apply qB)|(apply wlp;apply qD;exact fT rfl)))
 refine jE [3,8,9,10,11,12,13] (fun (X:Nat × ByteArray) F=>F.put 3 (.string X.2))
  (fun X w'=>X.1≤qCn (bl s).length∧bl X.2 = bl s ++ 128 :: List.replicate X.1 0∧Hp w [] w' []) (fun X=>qCn (bl s).length - X.1) (0,r0)
  (qG (Same.eq .refl) rfl) ⟨by omega,hb0,hp⟩ ?_
 clear hp
 rintro u0 ⟨k,r⟩ w1 ⟨hk,hb,hp⟩
 dsimp only at hk hb hp ⊢
 have hs:r.size = s.size + 1 + k:=by
  rw [← xG,hb,List.length_append,List.length_cons,List.length_replicate,hl]
  omega
 (repeat (with_reducible first|apply qF|apply qA))
 (apply wlp;exact qC;exact fT rfl)
 (apply wlp;exact xP rfl rfl;exact qI (b:=(r.size:Int)) rfl)
 (apply wlp;exact yU rfl rfl (by decide);exact qI (b:=((r.size % 64:Nat):Int)) (yP _ 64))
 (repeat (first|(with_reducible first|apply qE|apply qB)|(apply wlp;((apply zJ;(first|exact rfl|exact jR rfl (by assumption)))<;>exact rfl);exact fB rfl)))
 refine yQ rfl (fun h=>?_) (fun h=>?_)
 ·have hk:k < qCn (bl s).length:=by omega
  (repeat (first|(with_reducible first|apply qK|apply qA|apply qB|apply qL)|(apply wlp;apply qC;exact fT rfl)))
  obtain ⟨r2,hr2⟩:∃ r2,r ++ (⟨#[0]⟩:ByteArray) = r2:=⟨_,rfl⟩
  (apply wlp;exact jY rfl rfl (by show _ + 1≤_;omega);exact congrArg Value.string hr2)
  (repeat (first|(with_reducible first|apply qE|apply qB|apply qZ)|(apply wlp;apply qD;exact fT rfl)))
  refine ⟨(k + 1,r2),qG (Same.eq (by repeat (first|exact Same.hav|exact Same.refl|refine Same.put rfl ?_|refine Same.havs rfl ?_))) rfl,⟨hk,?_,hp⟩,by show _ - (k + 1) < _ - k;omega⟩
  show bl r2 = bl s ++ 128 :: List.replicate (k + 1) 0
  rw [← hr2,vG,hb,List.append_assoc,List.cons_append,List.replicate_succ']
  rfl
 have hk:k = qCn (bl s).length:=by omega
 subst hk
 clear h hb0
 (repeat (first|(with_reducible first|apply qF|apply qA|apply qB|apply qO|apply jB)|((with_reducible apply qP);exact rfl)))
 (apply wlp;exact qC;exact fT rfl)
 (apply wlp;exact xP rfl rfl;exact qI (b:=(s.size:Int)) rfl)
 (apply wlp;exact zQ rfl rfl rfl;exact qI (b:=(s.size:Int)) (by rw [IntKind.wrap_u64];omega))
 (apply wlp;exact qB4 (b:=8) rfl rfl (by omega);exact fI rfl)
 (repeat (first|(with_reducible first|apply qF|apply qK|apply qA|apply qE|apply qB)|(apply wlp;apply qD;exact fI rfl)))
 refine jE ([3,5] ++ List.range' 18 13) (fun (X:Nat × ByteArray) F=>(F.put 3 (.string X.2)).put 5 (.int .i64 (7 - (X.1:Int))))
  (fun X w'=>X.1≤8∧bl X.2 = bl s ++ 128 :: (List.replicate (qCn (bl s).length) 0 ++ (qEc (s.size * 8)).take X.1)∧Hp w [] w' []) (fun X=>8 - X.1) (0,r)
  (qG (qG (Same.eq .refl) rfl) rfl) ⟨by omega,by rw [List.take_zero,List.append_nil];exact hb,hp⟩ ?_
 clear hp
 rintro u1 ⟨m,r3⟩ w2 ⟨hm,hb3,hp⟩
 dsimp only at hm hb3 hp ⊢
 have hs3:r3.size = s.size + 1 + qCn (bl s).length + m:=by
  rw [← xG,hb3,List.length_append,List.length_cons,List.length_append,List.length_replicate,List.length_take,qB7,hl]
  omega
 (repeat (first|(with_reducible first|apply qF|apply qA|apply qE|apply qB)|(apply wlp;((first|apply qC|apply xF)<;>exact rfl);(first|exact fI rfl|exact fB rfl))))
 refine qM rfl (fun h=>?_) (fun h=>?_)
 ·have hm:m < 8:=by omega
  (repeat (first|(with_reducible first|apply qF|apply qK|apply qA|apply qB|apply qL)|(apply wlp;apply qC;(first|exact fI rfl|exact fT rfl))))
  (apply wlp;exact xU rfl rfl;exact qI (b:=((56 - 8 * m:Nat):Int)) (by rw [qN (by omega) (by omega)];omega))
  (apply wlp;exact xA (b:=56 - 8 * m) rfl rfl (by show _≤64;omega);exact fI rfl)
  (apply wlp;exact uG rfl rfl rfl;exact fI rfl)
  (apply wls;exact jP (vs:=[(0,u8 (s.size * 8 / 2 ^ (56 - 8 * m) % 256))]) (cs:=[u8 (s.size * 8 / 2 ^ (56 - 8 * m) % 256)]) hp rfl rfl rfl rfl rfl rfl rfl;rintro _ w3 ⟨b,rfl,hp⟩)
  (apply wlp;exact qHt (ns:=[s.size * 8 / 2 ^ (56 - 8 * m) % 256].map fun (x:Nat)=>(x:Int)) rfl rfl rfl rfl rfl (hp.cells 0 _ rfl rfl (fun j v hj=>by
   match j,hj with
   | 0,hj=>exact (Option.some.inj hj)));exact fT rfl)
  obtain ⟨r4,hr4⟩:∃ r4,r3 ++ kX ([s.size * 8 / 2 ^ (56 - 8 * m) % 256].map fun (x:Nat)=>(x:Int)) = r4:=⟨_,rfl⟩
  (apply wlp;exact jY rfl rfl (by rw [qDe];show _ + 1≤_;omega);exact congrArg Value.string hr4)
  have hp:=hp.tail
  (repeat (first|(with_reducible first|apply qA|apply qE|apply qB|apply qZ)|(apply wlp;(first|apply qC|apply qD);(first|exact fI rfl|exact fT rfl))))
  (apply wlp;exact jN rfl rfl;exact qI (b:=7 - ((m + 1:Nat):Int)) (by rw [qN (by omega) (by omega)];omega))
  (repeat (first|(with_reducible first|apply qE|apply qB)|(apply wlp;apply qD;exact fI rfl)))
  refine ⟨(m + 1,r4),qG (qG (Same.eq (by repeat (first|exact Same.hav|exact Same.refl|refine Same.put rfl ?_|refine Same.havs rfl ?_))) rfl) rfl,⟨hm,?_,hp⟩,by show 8 - (m + 1) < 8 - m;omega⟩
  show bl r4 = bl s ++ 128 :: (List.replicate (qCn (bl s).length) 0 ++ (qEc (s.size * 8)).take (m + 1))
  rw [← hr4,vG,hb3,qNe hm,qAo _ (fun d hd=>by rw [List.mem_singleton] at hd;subst hd;exact Nat.mod_lt _ (by decide)),List.append_assoc,List.cons_append,List.append_assoc]
 obtain rfl:m = 8:=by omega
 (repeat (first|(with_reducible first|apply qF|apply qA|apply qE|apply qB|apply qO|apply qT|apply jB)|((with_reducible apply qP);exact rfl)|(apply wlp;(first|apply qC|apply qD);exact fT rfl)))
 refine qU rfl rfl ⟨_,rfl,r3,rfl,?_,hp.keeps⟩
 rw [hb3,List.take_of_length_le (by rw [qB7];decide)]
 unfold pad qGh
 rw [hl]
theorem qZo (s:ByteArray) (w:World) (hsz:s.size≤1099511627776) :
  Ret Tryz.prog 124 [.string s] w (fun v w'=>v = .agg (hv s).toArray∧Keeps [] w w'):=by
 have hl:=xG s
 have hpl:=qP5 (qVj s)
 have hpm:=qLz (bl s)
 have hpn:=qHu (bl s)
 have hzp:qCn (bl s).length = (119 - (bl s).length % 64) % 64:=rfl
 have hf:fin (bl s) = hs (pad (bl s)) ((pad (bl s)).length / 64):=rfl
 obtain ⟨N,hN⟩:∃ N,(pad (bl s)).length / 64 = N:=⟨_,rfl⟩
 rw [hN] at hf
 have hpN:(pad (bl s)).length = 64 * N:=by omega
 refine Ret.of_WP Tryz.func124 rfl Tryz.ntmps124 rfl ?_
 have hp:=Hp.start (M:=[]) (w:=w)
 (repeat (with_reducible first|apply qF|apply qA))
 (apply wls;exact zR (cs:=List.replicate 32 (u8 0)) (m:=32) hp (jD rfl) rfl rfl;rintro _ w1 ⟨ob,rfl,hp⟩)
 (repeat (with_reducible first|apply qF|apply qA|apply qE|apply qB))
 (apply wlp;exact uQ (vs:=[(0,u ini.a),(1,u ini.b),(2,u ini.c),(3,u ini.d),(4,u ini.e),(5,u ini.f),(6,u ini.g),(7,u ini.h)]) rfl rfl rfl rfl rfl rfl;exact (rfl:_ = Value.agg (sv ini).toArray))
 (apply wls;exact zR (cs:=List.replicate 8 (u 0)) (m:=8) hp (jD rfl) rfl rfl;rintro _ w2 ⟨sb,rfl,hp⟩)
 (apply zG;exact zD (cs:=sv ini) hp 0 rfl rfl rfl rfl (qQ rfl) rfl rfl;rintro _ w3 ⟨rfl,hp⟩)
 have hp:Hp w [] w3 [blk sb 8 (yW (qV (List.replicate 8 (u 0))) 0 (sv ini)) 243,blk ob 32 (qV (List.replicate 32 (u8 0))) 175]:=hp
 have h0:ini = hs (pad (bl s)) 0:=by rw [hs]
 rw [xE (qCv _ _),h0] at hp
 (repeat (with_reducible first|apply qF|apply qA|apply qE|apply qB))
 (apply wlp;exact qC;exact fT rfl)
 (apply wls;exact qH rfl qXv rfl (jC8 s _ hsz))
 rintro _ w4 ⟨r,rfl,hb,hk2⟩
 have hp:=hp.call hk2
 clear hk2
 have hsr:r.size = 64 * N:=by rw [← xG,hb,hpN]
 (repeat (first|(with_reducible first|apply qF|apply qK|apply qA|apply qE|apply qB)|(apply wlp;apply qD;(first|exact fI rfl|exact fT rfl))))
 refine jE ([5] ++ List.range' 11 13) (fun (k:Nat) F=>F.put 5 (.int .i64 ((64 * k:Nat):Int)))
  (fun k w'=>k≤N∧Hp w [] w' [blk sb 8 (qV (sv (hs (pad (bl s)) k))) 243,blk ob 32 (qV (List.replicate 32 (u8 0))) 175]) (fun k=>N - k) 0
  (qG (Same.eq .refl) rfl) ⟨by omega,hp⟩ ?_
 clear hp
 rintro u1 k w9 ⟨hk,hp⟩
 (repeat (first|(with_reducible first|apply qF|apply qA|apply qE|apply qB)|(apply wlp;((first|apply qC|(apply xP;exact rfl)|apply jA)<;>exact rfl);(first|exact fI rfl|exact fB rfl|exact fT rfl))))
 refine qM rfl (fun h=>?_) (fun h=>?_)
 ·have hk:k < N:=by omega
  (repeat (with_reducible first|apply qF|apply qK|apply qB|apply qL))
  have hn:hs (pad (bl s)) (k + 1) = qJe (fun j=>(pad (bl s)).getD (64 * k + j) 0) (hs (pad (bl s)) k):=by rw [hs]
  refine xH jW (by kernel_rfl) (fun w'=>Hp w [] w' [blk sb 8 (qV (sv (hs (pad (bl s)) k))) 243,blk ob 32 (qV (List.replicate 32 (u8 0))) 175]) hp.drew ?_
  have hp:=hp.drew
  (apply wdp;exact rfl;(intro w hp;exact jQ rfl rfl rfl (hp.agg_blk 0 rfl rfl));exact (rfl:_ = Value.agg (sv (hs (pad (bl s)) k)).toArray))
  (apply wdp;exact rfl;(intro w hp;exact qC);exact fT rfl)
  (repeat ((apply wdp;exact rfl);(intro w hp;intros;apply qC);(intros;exact fI rfl)))
  (apply wdp;exact rfl;(intro w hp;exact qY rfl rfl);exact qI (b:=((64 * k + 64:Nat):Int)) (by rw [qN (by omega) (by omega)];omega))
  (apply wdp;exact rfl;(intro w hp;exact qF3 (vT rfl) rfl rfl rfl (show 64 * k≤64 * k + 64 by omega) (by omega));exact fT rfl)
  (apply wds;exact rfl;exact qH rfl qXu rfl (jC7 _ _ (fun j=>(pad (bl s)).getD (64 * k + j) 0) _ (Ok.hs _ _) (fun j=>qI2 hpl _) (fun j hj=>(qL1 r (by omega)).trans (by rw [hb])) (by rw [← xG,qFy,List.length_drop,List.length_take,xG];omega));rintro _ w5 ⟨rfl,hk2⟩;have hp:=hp.call hk2;refine ⟨hp,?_⟩)
  rw [← hn]
  (apply kH;exact rfl;exact rfl;exact zD (cs:=sv (hs (pad (bl s)) (k + 1))) hp 0 rfl rfl rfl rfl (qQ rfl) rfl rfl;rintro _ w6 ⟨rfl,hp⟩)
  have hp:Hp w [] w6 [blk sb 8 (yW (qV (sv (hs (pad (bl s)) k))) 0 (sv (hs (pad (bl s)) (k + 1)))) 243,blk ob 32 (qV (List.replicate 32 (u8 0))) 175]:=hp
  rw [xE (qCv _ _)] at hp
  refine jL ?_
  (repeat (first|(with_reducible first|apply qA|apply qB|apply qZ)|(apply wlp;apply qC;exact fI rfl)))
  (apply wlp;(exact qY rfl rfl);exact qI (b:=((64 * (k + 1):Nat):Int)) (by rw [qN (by omega) (by omega)];omega))
  (repeat (first|(with_reducible first|apply qE|apply qB)|(apply wlp;apply qD;exact fI rfl)))
  exact ⟨k + 1,qG (Same.eq (by repeat (first|exact Same.hav|exact Same.refl|refine Same.put rfl ?_|refine Same.havs rfl ?_))) rfl,⟨by omega,hp⟩,by omega⟩
 have hk:k = N:=by omega
 rw [hk,← hf] at hp
 clear h hk
 (repeat (first|(with_reducible first|apply qF|apply qA|apply qB|apply qO|apply jB)|((with_reducible apply qP);exact rfl)))
 (apply wls;exact zR (cs:=List.replicate 32 (u8 0)) (m:=32) hp (jD rfl) rfl rfl;rintro _ w10 ⟨hb',rfl,hp⟩)
 rw [xE (qEo (shb (bl s)) 32)] at hp
 (repeat (first|(with_reducible first|apply qF|apply qK|apply qA|apply qE|apply qB)|(apply wlp;apply qD;exact fI rfl)))
 refine jE ([7] ++ List.range' 24 16) (fun (i:Nat) F=>F.put 7 (.int .i64 (i:Int)))
  (fun i w'=>i≤32∧Hp w [] w' [blk hb' 32 (cB (shb (bl s)) i) 175,blk sb 8 (qV (sv (fin (bl s)))) 243,blk ob 32 (qV (List.replicate 32 (u8 0))) 175]) (fun i=>32 - i) 0
  (qG (Same.eq .refl) rfl) ⟨by omega,hp⟩ ?_
 clear hp
 rintro u2 i w11 ⟨hi,hp⟩
 (repeat (first|(with_reducible first|apply qF|apply qA|apply qE|apply qB)|(apply wlp;((first|apply qC|apply jA)<;>exact rfl);(first|exact fI rfl|exact fB rfl))))
 refine qM rfl (fun h=>?_) (fun h=>?_)
 ·have hi:i < 32:=by omega
  have hq:i / 4 < 8:=by omega
  (repeat (first|(with_reducible first|apply qF|apply qK|apply qA|apply qB|apply qL)|(apply wlp;apply qC;exact fI rfl)))
  (apply wlp;exact yV rfl rfl (by decide);exact qI (b:=((i / 4:Nat):Int)) (vO 4 (by omega)))
  (apply wlp;exact jG rfl rfl rfl hq;exact fP rfl)
  (apply wlp;exact qJ rfl rfl (hp.cell 1 rfl (zO (by omega)));exact (qUp _ _ hq))
  (repeat (apply wlp;apply qC;exact fI rfl))
  (apply wlp;exact yU rfl rfl (by decide);exact qI (b:=((i % 4:Nat):Int)) (yP i 4))
  (apply wlp;exact jN rfl rfl;exact qI (b:=((3 - i % 4:Nat):Int)) (by rw [qN (by omega) (by omega)];omega))
  (apply wlp;exact xU rfl rfl;exact qI (b:=((24 - i % 4 * 8:Nat):Int)) (by rw [qN (by omega) (by omega)];omega))
  (apply wlp;exact xA (b:=24 - i % 4 * 8) rfl rfl (by show _≤32;omega);exact fI rfl)
  (apply wlp;exact uG rfl rfl rfl;exact qI (b:=((shb (bl s) i:Nat):Int)) (by unfold shb;rfl))
  (apply wlp;exact jG rfl rfl rfl hi;exact fP rfl)
  (apply zG;exact zD (cs:=[u8 (shb (bl s) i)]) hp 0 rfl rfl rfl rfl (qQ rfl) (vN (by show 0 + i * 1 + 1≤32;omega)) rfl;rintro _ w12 ⟨rfl,hp⟩)
  rw [qEp] at hp
  (repeat (first|(with_reducible first|apply qA|apply qE|apply qB|apply qZ)|(apply wlp;apply qC;exact fI rfl)))
  (apply wlp;exact qY rfl rfl;exact qI (qN (by omega) (by omega)))
  (repeat (first|(with_reducible first|apply qE|apply qB)|(apply wlp;apply qD;exact fI rfl)))
  exact ⟨i + 1,qG (Same.eq (by repeat (first|exact Same.hav|exact Same.refl|refine Same.put rfl ?_|refine Same.havs rfl ?_))) rfl,⟨by omega,hp⟩,by omega⟩
 obtain rfl:i = 32:=by omega
 clear h hi
 (repeat (first|(with_reducible first|apply qF|apply qA|apply qB|apply qO|apply jB)|((with_reducible apply qP);exact rfl)))
 (apply wlp;exact jQ rfl rfl rfl (hp.agg_blk 0 rfl rfl);exact qIl (qRm (shb (bl s)) 32))
 (apply zG;exact zD (cs:=hv s) hp 2 rfl rfl rfl rfl (qQ rfl) rfl rfl;rintro _ w13 ⟨rfl,hp⟩)
 (repeat (with_reducible first|apply qE|apply qB|apply qT))
 exact yG rfl rfl rfl rfl (hp.agg_blk 2 rfl rfl) ⟨_,rfl,rfl,hp.keeps⟩
end Go.Proofs.YtbgldmoikimmpaaGreatDoor
namespace Go.Proofs.YtbgldmoikimmpaaGreatDoor
open Go.Eng Go.Dig Go.Sha Go.Grp
def nB (g:Nat→Nat):Nat→Nat
 | 0=>0
 | k + 1=>nB g k * 2 ^ 8 + g k
theorem qM3 {g:Nat→Nat} (h:∀ i,g i < 256):∀ k,nB g k < 256 ^ k
 | 0=>by simp [nB]
 | k + 1=>by
  have h1:=qM3 h k
  have h2:=h k
  show nB g k * 2 ^ 8 + g k < 256 ^ k * 256
  omega
def rB (g:Nat→Nat):Nat→Nat
 | 0=>g 0 % 128
 | k + 1=>rB g k * 256 + g (k + 1)
theorem qUu {g:Nat→Nat} (h:∀ i,g i < 256):∀ k,rB g k < 128 * 256 ^ k
 | 0=>by show g 0 % 128 < 128 * 1;omega
 | k + 1=>by
  have h1:=qUu h k
  have h2:=h (k + 1)
  show rB g k * 256 + g (k + 1) < 128 * (256 ^ k * 256)
  omega
theorem qGq {k:Nat} (h:k≤7):256 ^ k≤72057594037927936:=Nat.pow_le_pow_right (n:=256) (by decide) h
def qG8 (l:List Nat):Nat:=nB (shb l) 8 % 9223372036854775808
def qZq (l:List Nat):Nat:=rB (shb l) 7
def scP (l:List Nat):Nat:=qG8 ([115,47] ++ l) % 1152921504606845789
def elX (l:List Nat):Nat:=1 + qG8 ([101,47] ++ l) % 2305843009213691578
def elP (l:List Nat):Nat:=elX l * elX l % 2305843009213691579
def scR (l:List Nat):Nat:=qZq ([115,47] ++ l) % 1152921504606845789
theorem qOi (l:List Nat):scP l < 1152921504606845789:=Nat.mod_lt _ (by decide)
theorem qK4 (l:List Nat):scR l < 1152921504606845789:=Nat.mod_lt _ (by decide)
theorem qHy (l:List Nat):qG8 l < 9223372036854775808:=Nat.mod_lt _ (by decide)
theorem qGx (s:ByteArray) {i:Nat} (h:i < 32):qV (hv s) i = u8 (shb (bl s) i):=by
 rw [kW]
 unfold hv sha
 rw [List.getD_eq_getElem?_getD,List.getElem?_map,List.getElem?_map,List.getElem?_range h]
 rfl
theorem kM (s:ByteArray):(hv s).length = 32:=by
 unfold hv
 rw [List.length_map,qSq]
theorem qCw (f:Fr) (s:ByteArray) (i:Nat) (h:i < 32):yW f 0 (hv s) i = qV (hv s) i:=by
 have h2:(hv s)[i]? = some (qV (hv s) i):=by
  rw [kW,List.getD_eq_getElem?_getD,List.getElem?_eq_getElem (by rw [kM];exact h)]
  rfl
 have:=qHq (hv s) f 0 i _ h2
 rwa [Nat.zero_add] at this
section
variable {P:Program} {n:FrK} {w:World} {F:Fr} {d:Option Tmp} {ty:TypeId} {pos:String} {aft:Array Edge} {g:Option (Nat × Bool)} {x y:Operand} {t t':Nat}
theorem qP4 {a:Nat} (hx:ev n F x = .int .u64 (a:Int)) (hy:ev n F y = .int .u64 9223372036854775808) (ha:a < 18446744073709551616):PV P n w F ⟨d,.binOp .andNot t x y t',ty,pos,aft,g⟩ (.int .u64 ((a % 9223372036854775808:Nat):Int)):=by
 have h1:(BitVec.ofInt 64 (a:Int) &&& ~~~BitVec.ofInt 64 (9223372036854775808:Int)).toNat = a % 9223372036854775808:=by
  rw [BitVec.toNat_and,yX 64 a ha,show (~~~BitVec.ofInt 64 (9223372036854775808:Int)).toNat = 2 ^ 63 - 1 from by decide,Nat.and_two_pow_sub_one_eq_mod]
 have h3:=kS (show a % 9223372036854775808 < 18446744073709551616 by omega)
 simp only [PV,execOp,hx,hy,eqGuard,binOp,Op.intBits]
 show Sem.run P (pure (Next.value (Value.int IntKind.u64 (IntKind.u64.wrap ((BitVec.ofInt 64 (a:Int) &&& ~~~BitVec.ofInt 64 (9223372036854775808:Int)).toNat:Int))))) w = _
 rw [h1,h3]
 rfl
end
attribute [local irreducible] PV StepF wpl wpd WP Ret
attribute [local irreducible] Go.Sha.shb hv
theorem qZp (s:ByteArray) (w:World) (hT:Tabs w) (hsz:s.size≤1099511627776) :
  Ret Tryz.prog 121 [.string s] w (fun v w'=>v = .int .i64 (qG8 (bl s):Int)∧Keeps [] w w'):=by
 have hg:=qK3 (bl s)
 refine Ret.of_WP Tryz.func121 rfl Tryz.ntmps121 rfl ?_
 have hp:=Hp.start (M:=[]) (w:=w)
 (repeat (with_reducible first|apply qF|apply qA))
 (apply wlp;exact qD;exact fI rfl)
 (repeat (with_reducible first|apply qF|apply qA|apply qE|apply qB))
 (apply wlp;exact qC;exact fT rfl)
 (apply wls;exact qH rfl qQr rfl (qZm s _ (hT.keep hp.keeps) hsz))
 rintro _ w1 ⟨rfl,hk⟩
 have hp:=hp.call hk
 (apply wls;exact zR (cs:=List.replicate 32 (u8 0)) (m:=32) hp (jD rfl) rfl rfl;rintro _ w2 ⟨b,rfl,hp⟩)
 (apply zG;exact zD (cs:=hv s) hp 0 rfl rfl rfl rfl (by rw [kM];exact qQ rfl) (by rw [kM];rfl) (by unfold hv;rfl);rintro _ w3 ⟨rfl,hp⟩)
 have hp:Hp w [] w3 [blk b 32 (yW (qV (List.replicate 32 (u8 0))) 0 (hv s)) 175]:=hp
 rw [xE (qCw _ s)] at hp
 (repeat (first|(with_reducible first|apply qF|apply qK|apply qA|apply qE|apply qB)|(apply wlp;(first|apply qC|apply qD);exact fI rfl)))
 refine jE ([4,5] ++ List.range' 8 11) (fun (i:Nat) F=>(F.put 4 (.int .u64 ((nB (shb (bl s)) i:Nat):Int))).put 8 (.int .i64 (i:Int)))
  (fun i w'=>i≤8∧Hp w [] w' [blk b 32 (qV (hv s)) 175]) (fun i=>8 - i) 0
  (qG (qG (Same.eq .refl) rfl) rfl) ⟨by omega,hp⟩ ?_
 clear hp
 rintro u0 i w4 ⟨hi,hp⟩
 (repeat (first|(with_reducible first|apply qF|apply qA|apply qE|apply qB)|(apply wlp;(apply jA<;>exact rfl);exact fB rfl)))
 refine qM rfl (fun h=>?_) (fun h=>?_)
 ·have hi:i < 8:=by omega
  have h7:=qGq (show i≤7 by omega)
  have hn:=qM3 hg i
  have hgi:=hg i
  have hor:=qJa 8 (nB (shb (bl s)) i) (shb (bl s) i) hgi
  (repeat (with_reducible first|apply qF|apply qK|apply qA|apply qB|apply qL))
  (apply wlp;apply qC;exact fI rfl)
  (apply wlp;apply qD;exact fI rfl)
  (repeat (with_reducible first|apply qA|apply qE|apply qB))
  (apply wlp;apply qC;exact fI rfl)
  (apply wlp;exact kZ (b:=8) rfl rfl (by decide) (by omega);exact fI rfl)
  (apply wlp;apply qC;exact fI rfl)
  (apply wlp;exact jG rfl rfl rfl (show i < 32 by omega);exact fP rfl)
  (apply wlp;exact qJ rfl rfl (hp.cell 0 rfl (zO (by omega)));exact (qGx s (by omega)))
  rw [show 0 + i * 1 = i by omega]
  (apply wlp;exact zQ rfl rfl rfl;exact qI (b:=((shb (bl s) i:Nat):Int)) (kS (by omega)))
  (apply wlp;exact qAn rfl rfl (by omega) (by omega);exact qI (b:=((nB (shb (bl s)) (i + 1):Nat):Int)) (by rw [hor];rfl))
  (repeat (first|(with_reducible first|apply qA|apply qE|apply qB|apply qZ)|(apply wlp;apply qD;exact fI rfl)))
  (apply wlp;exact qY rfl rfl;exact qI (qN (by omega) (by omega)))
  (repeat (first|(with_reducible first|apply qE|apply qB)|(apply wlp;apply qC;exact fI rfl)))
  exact ⟨i + 1,qG (qG (Same.eq (by repeat (first|exact Same.hav|exact Same.refl|refine Same.put rfl ?_|refine Same.havs rfl ?_))) rfl) rfl,⟨by omega,hp⟩,by omega⟩
 obtain rfl:i = 8:=by omega
 clear h hi
 have h8:=qM3 hg 8
 (repeat (first|(with_reducible first|apply qF|apply qA|apply qB|apply qO|apply jB)|((with_reducible apply qP);exact rfl)|(apply wlp;apply qC;exact fI rfl)))
 (apply wlp;exact qP4 rfl rfl (by omega);exact qI (b:=((qG8 (bl s):Nat):Int)) rfl)
 have h9:=qHy (bl s)
 (apply wlp;exact zQ rfl rfl rfl;exact qI (b:=(qG8 (bl s):Int)) (qN (by omega) (by omega)))
 (repeat (first|(with_reducible first|apply qE|apply qB|apply qT)|(apply wlp;apply qD;exact fI rfl)))
 exact qU rfl rfl ⟨_,rfl,rfl,hp.keeps⟩
theorem jCm (s:ByteArray) (w:World) (hT:Tabs w) (hsz:s.size≤1000000000000) :
  Ret Tryz.prog 126 [.string s] w (fun v w'=>v = .int .i64 (scP (bl s):Int)∧Keeps [] w w'):=by
 have h9:=qHy ([115,47] ++ bl s)
 have hb2:bl ((⟨#[115,47]⟩:ByteArray) ++ s) = [115,47] ++ bl s:=by rw [vG];rfl
 have hs2:((⟨#[115,47]⟩:ByteArray) ++ s).size = 2 + s.size:=by rw [← xG,hb2,List.length_append,xG];rfl
 refine Ret.of_WP Tryz.func126 rfl Tryz.ntmps126 rfl ?_
 have hp:=Hp.start (M:=[]) (w:=w)
 (repeat (with_reducible first|apply qF|apply qA))
 (apply wlp;exact qD;exact fI rfl)
 (repeat (with_reducible first|apply qF|apply qA|apply qE|apply qB))
 (apply wlp;exact qC;exact fT rfl)
 (apply wlp;exact jY rfl rfl (by show 2 + _≤_;omega);exact fT rfl)
 (apply wls;exact qH rfl qR2 rfl (qZp _ _ (hT.keep hp.keeps) (by omega)))
 rintro _ w1 ⟨rfl,hk⟩
 have hp:=hp.call hk
 rw [hb2]
 (apply wls;exact qH rfl qAs rfl (p53 (qG8 ([115,47] ++ bl s):Int) 1152921504606845789 _ (by omega) (by omega) (by decide) (by decide)))
 rintro _ w2 ⟨rfl,hk⟩
 have hp:=hp.call hk
 (repeat (first|(with_reducible first|apply qE|apply qB|apply qT)|(apply wlp;apply qD;exact fI rfl)))
 exact qU rfl rfl ⟨_,rfl,congrArg (Value.int .i64) (Int.natCast_emod _ _).symm,hp.keeps⟩
theorem p59 (s:ByteArray) (w:World) (hT:Tabs w) (hsz:s.size≤1000000000000) :
  Ret Tryz.prog 59 [.string s] w (fun v w'=>v = .int .i64 (elP (bl s):Int)∧Keeps [] w w'):=by
 have h9:=qHy ([101,47] ++ bl s)
 have hb2:bl ((⟨#[101,47]⟩:ByteArray) ++ s) = [101,47] ++ bl s:=by rw [vG];rfl
 have hs2:((⟨#[101,47]⟩:ByteArray) ++ s).size = 2 + s.size:=by rw [← xG,hb2,List.length_append,xG];rfl
 have hx:(elX (bl s):Int) = 1 + (qG8 ([101,47] ++ bl s):Int) % 2305843009213691578:=by unfold elX;omega
 have hx2:elX (bl s)≤2305843009213691578:=by unfold elX;omega
 refine Ret.of_WP Tryz.func59 rfl Tryz.ntmps59 rfl ?_
 have hp:=Hp.start (M:=[]) (w:=w)
 (repeat (with_reducible first|apply qF|apply qA))
 (apply wlp;exact qD;exact fI rfl)
 (repeat (with_reducible first|apply qF|apply qA|apply qE|apply qB))
 (apply wlp;exact qC;exact fT rfl)
 (apply wlp;exact jY rfl rfl (by show 2 + _≤_;omega);exact fT rfl)
 (apply wls;exact qH rfl qR2 rfl (qZp _ _ (hT.keep hp.keeps) (by omega)))
 rintro _ w1 ⟨rfl,hk⟩
 have hp:=hp.call hk
 rw [hb2]
 (apply wls;exact qH rfl qAs rfl (p53 (qG8 ([101,47] ++ bl s):Int) 2305843009213691578 _ (by omega) (by omega) (by decide) (by decide)))
 rintro _ w2 ⟨rfl,hk⟩
 have hp:=hp.call hk
 (apply wlp;exact qY rfl rfl;exact qI (b:=(elX (bl s):Int)) (by rw [hx];exact qN (by omega) (by omega)))
 (repeat (first|(with_reducible first|apply qF|apply qA|apply qE|apply qB)|(apply wlp;(first|apply qC|apply qD);exact fI rfl)))
 (apply wls;exact qH rfl qBf rfl (p52 (elX (bl s):Int) (elX (bl s):Int) 2305843009213691579 _ (by omega) (by omega) (by omega) (by omega) (by decide) (by decide)))
 rintro _ w3 ⟨rfl,hk⟩
 have hp:=hp.call hk
 (repeat (first|(with_reducible first|apply qE|apply qB|apply qT)|(apply wlp;apply qD;exact fI rfl)))
 exact qU rfl rfl ⟨_,rfl,congrArg (Value.int .i64) (by unfold elP;rw [← Int.natCast_mul];exact (Int.natCast_emod _ _).symm),hp.keeps⟩
theorem qYq (l:List Nat):Mb (elP l):=by
 have h1:1≤elX l:=by unfold elX;omega
 have h2:elX l < gP:=by
  have:qG8 ([101,47] ++ l) % 2305843009213691578 < 2305843009213691578:=Nat.mod_lt _ (by decide)
  unfold elX gP
  omega
 exact qZs h1 h2
theorem jCo (s:ByteArray) (w:World) :
  Ret Tryz.prog 123 [.agg (hv s).toArray] w (fun v w'=>v = .int .i64 (qZq (bl s):Int)∧Keeps [] w w'):=by
 have hg:=qK3 (bl s)
 refine Ret.of_WP Tryz.func123 rfl Tryz.ntmps123 rfl ?_
 have hp:=Hp.start (M:=[]) (w:=w)
 (repeat (with_reducible first|apply qF|apply qA))
 (apply wls;exact qAj (cs:=hv s) (m:=32) hp rfl rfl (kM s);rintro _ w1 ⟨b,rfl,hp⟩)
 (apply wlp;exact qD;exact fI rfl)
 (repeat (with_reducible first|apply qF|apply qA|apply qE|apply qB))
 (apply wlp;exact jG (i:=0) rfl rfl rfl (by decide);exact fP rfl)
 (apply wlp;exact qJ rfl rfl (hp.cell 0 rfl rfl);exact (qGx s (by decide)))
 (apply wlp;exact yU rfl rfl (by decide);exact qI (b:=((rB (shb (bl s)) 0:Nat):Int)) (yP _ 128))
 have h0:rB (shb (bl s)) 0 < 128:=Nat.mod_lt _ (by decide)
 (apply wlp;exact zQ rfl rfl rfl;exact qI (b:=((rB (shb (bl s)) 0:Nat):Int)) (qN (by omega) (by omega)))
 (repeat (first|(with_reducible first|apply qF|apply qK|apply qA|apply qE|apply qB)|(apply wlp;apply qD;exact fI rfl)))
 refine jE ([3,4] ++ List.range' 9 11) (fun (i:Nat) F=>(F.put 3 (.int .i64 ((rB (shb (bl s)) i:Nat):Int))).put 4 (.int .i64 ((i + 1:Nat):Int)))
  (fun i w'=>i≤7∧Hp w [] w' [blk b 32 (qV (hv s)) 175]) (fun i=>7 - i) 0
  (qG (qG (Same.eq .refl) rfl) rfl) ⟨by omega,hp⟩ ?_
 clear hp
 rintro u0 i w4 ⟨hi,hp⟩
 (repeat (first|(with_reducible first|apply qF|apply qA|apply qE|apply qB)|(apply wlp;((first|apply qC|apply jA)<;>exact rfl);(first|exact fI rfl|exact fB rfl))))
 refine qM rfl (fun h=>?_) (fun h=>?_)
 ·have hi:i < 7:=by omega
  have h7:256 ^ i≤281474976710656:=Nat.pow_le_pow_right (n:=256) (by decide) (show i≤6 by omega)
  have hn:=qUu hg i
  have hgi:=hg (i + 1)
  (repeat (with_reducible first|apply qF|apply qK|apply qA|apply qB|apply qL))
  (apply wlp;apply qC;exact fI rfl)
  (apply wlp;(exact xU rfl rfl);exact qI (b:=((rB (shb (bl s)) i * 256:Nat):Int)) (by rw [qN (by omega) (by omega)];omega))
  (apply wlp;apply qC;exact fI rfl)
  (apply wlp;exact jG rfl rfl rfl (show i + 1 < 32 by omega);exact fP rfl)
  (apply wlp;exact qJ rfl rfl (hp.cell 0 rfl (zO (by omega)));exact (qGx s (by omega)))
  rw [show 0 + (i + 1) * 1 = i + 1 by omega]
  (apply wlp;exact zQ rfl rfl rfl;exact qI (b:=((shb (bl s) (i + 1):Nat):Int)) (qN (by omega) (by omega)))
  (apply wlp;exact qY rfl rfl;exact qI (b:=((rB (shb (bl s)) (i + 1):Nat):Int)) (by rw [qN (by omega) (by omega)];show _ = ((rB (shb (bl s)) i * 256 + shb (bl s) (i + 1):Nat):Int);omega))
  (repeat (first|(with_reducible first|apply qA|apply qE|apply qB|apply qZ)|(apply wlp;(first|apply qC|apply qD);exact fI rfl)))
  (apply wlp;(exact qY rfl rfl);exact qI (b:=((i + 1 + 1:Nat):Int)) (by rw [qN (by omega) (by omega)];omega))
  (repeat (first|(with_reducible first|apply qE|apply qB)|(apply wlp;apply qD;exact fI rfl)))
  exact ⟨i + 1,qG (qG (Same.eq (by repeat (first|exact Same.hav|exact Same.refl|refine Same.put rfl ?_|refine Same.havs rfl ?_))) rfl) rfl,⟨by omega,hp⟩,by omega⟩
 obtain rfl:i = 7:=by omega
 (repeat (first|(with_reducible first|apply qF|apply qA|apply qE|apply qB|apply qO|apply qT|apply jB)|((with_reducible apply qP);exact rfl)|(apply wlp;(first|apply qC|apply qD);exact fI rfl)))
 exact qU rfl rfl ⟨_,rfl,rfl,hp.keeps⟩
theorem p62 (s:ByteArray) (w:World) (hsz:s.size≤1000000000000) :
  Ret Tryz.prog 62 [.string s] w (fun v w'=>v = .int .i64 (scR (bl s):Int)∧Keeps [] w w'):=by
 have hb2:bl ((⟨#[115,47]⟩:ByteArray) ++ s) = [115,47] ++ bl s:=by rw [vG];rfl
 have hs2:((⟨#[115,47]⟩:ByteArray) ++ s).size = 2 + s.size:=by rw [← xG,hb2,List.length_append,xG];rfl
 refine Ret.of_WP Tryz.func62 rfl Tryz.ntmps62 rfl ?_
 have hp:=Hp.start (M:=[]) (w:=w)
 (repeat (with_reducible first|apply qF|apply qA))
 (apply wlp;exact qD;exact fI rfl)
 (repeat (with_reducible first|apply qF|apply qA|apply qE|apply qB))
 (apply wlp;exact qC;exact fT rfl)
 (apply wlp;exact jY rfl rfl (by show 2 + _≤_;omega);exact fT rfl)
 (apply wls;exact qH rfl qR1 rfl (qZo _ _ (by omega)))
 rintro _ w1 ⟨rfl,hk⟩
 have hp:=hp.call hk
 (apply wls;exact qH rfl qYg rfl (jCo _ _))
 rintro _ w2 ⟨rfl,hk⟩
 have hp:=hp.call hk
 rw [hb2]
 (apply wlp;exact yU rfl rfl (by decide);exact qI (b:=(scR (bl s):Int)) (yP _ 1152921504606845789))
 (repeat (first|(with_reducible first|apply qE|apply qB|apply qT)|(apply wlp;apply qD;exact fI rfl)))
 exact qU rfl rfl ⟨_,rfl,rfl,hp.keeps⟩
end Go.Proofs.YtbgldmoikimmpaaGreatDoor
namespace Go.Proofs.YtbgldmoikimmpaaGreatDoor
open Go.Eng Go.Dig Go.Lag
attribute [local irreducible] PV StepF wpl wpd WP Ret
theorem p64 (a m:Int) (w:World) (ha:-9223372036854775808≤a) (ha2:a≤9223372036854775807) (hm:1≤m) (hm2:m≤9223372036854775807) :
  Ret Tryz.prog 64 [.int .i64 a,.int .i64 m] w (fun v w'=>v = .int .i64 (a % m)∧Keeps [] w w'):=by
 have h1:=Int.emod_nonneg a (show m ≠ 0 by omega)
 have h2:=Int.emod_lt_of_pos a (show 0 < m by omega)
 have hc:=qEv a m hm
 refine Ret.of_WP Tryz.func64 rfl Tryz.ntmps64 rfl ?_
 have hp:=Hp.start (M:=[]) (w:=w)
 (repeat (first|(with_reducible first|apply qF|apply qA|apply qE|apply qB)|(apply wlp;(first|apply qC|apply qD);exact fI rfl)))
 (apply wlp;exact yU rfl rfl (by omega);exact fI rfl)
 generalize a.tmod m = r at hc
 (repeat (first|(with_reducible first|apply qF|apply qA|apply qE|apply qB)|(apply wlp;((first|apply qC|apply qD|apply jA)<;>exact rfl);(first|exact fI rfl|exact fB rfl))))
 refine qM rfl (fun h=>?_) (fun h=>?_)
 ·(repeat (first|with_reducible apply qA|(apply wlp;apply qC;exact fI rfl)))
  (apply wlp;exact qY rfl rfl;exact qI (b:=a % m) (by rw [qN (by omega) (by omega)];omega))
  (repeat (first|(with_reducible first|apply qF|apply qA|apply qE|apply qB|apply qT)|(apply wlp;(first|apply qC|apply qD);exact fI rfl)))
  exact qU rfl rfl ⟨_,rfl,rfl,hp.keeps⟩
 ·(repeat (first|(with_reducible first|apply qF|apply qA|apply qE|apply qB|apply qT|apply qL)|(apply wlp;(first|apply qC|apply qD);exact fI rfl)))
  exact qU rfl rfl ⟨_,rfl,qI (by omega),hp.keeps⟩
theorem qHw (a m:Nat) (w:World) (ha2:a≤9223372036854775807) (hm:1≤m) (hm2:m≤9223372036854775807) :
  Ret Tryz.prog 64 [.int .i64 (a:Int),.int .i64 (m:Int)] w (fun v w'=>v = .int .i64 ((a % m:Nat):Int)∧Keeps [] w w'):=by
 rw [Int.natCast_emod]
 exact p64 _ _ _ (by omega) (by omega) (by omega) (by omega)
theorem p63 (a b m:Nat) (w:World) (ha:a < m) (hb:b < m) (hm2:m≤9223372036854775807) :
  Ret Tryz.prog 63 [.int .i64 (a:Int),.int .i64 (b:Int),.int .i64 (m:Int)] w (fun v w'=>v = .int .i64 (((a + b) % m:Nat):Int)∧Keeps [] w w'):=by
 refine Ret.of_WP Tryz.func63 rfl Tryz.ntmps63 rfl ?_
 have hp:=Hp.start (M:=[]) (w:=w)
 (repeat (first|(with_reducible first|apply qF|apply qA|apply qE|apply qB)|(apply wlp;(first|apply qC|apply qD);exact fI rfl)))
 (apply wlp;(exact jN rfl rfl);exact qI (b:=((m - b:Nat):Int)) (by rw [qN (by omega) (by omega)];omega))
 (repeat (first|(with_reducible first|apply qE|apply qB)|(apply wlp;(apply xF<;>exact rfl);exact fB rfl)))
 refine qM rfl (fun h=>?_) (fun h=>?_)
 ·have he:=qJc ha hb (by omega)
  (repeat (first|(with_reducible first|apply qF|apply qA)|(apply wlp;apply qC;exact fI rfl)))
  (apply wlp;(exact jN rfl rfl);exact qI (b:=((m - b:Nat):Int)) (by rw [qN (by omega) (by omega)];omega))
  (apply wlp;(exact jN rfl rfl);exact qI (b:=((a + b - m:Nat):Int)) (by rw [qN (by omega) (by omega)];omega))
  (repeat (first|(with_reducible first|apply qE|apply qB|apply jV|apply qT)|(apply wlp;apply qD;exact fI rfl)))
  exact qU rfl rfl ⟨_,rfl,congrArg (fun x:Nat=>Value.int .i64 (x:Int)) he.symm,hp.keeps⟩
 ·have he:(a + b) % m = a + b:=Nat.mod_eq_of_lt (by omega)
  (repeat (first|(with_reducible first|apply qF|apply qA|apply qB|apply qL)|(apply wlp;apply qC;exact fI rfl)))
  (apply wlp;(exact qY rfl rfl);exact qI (b:=((a + b:Nat):Int)) (by rw [qN (by omega) (by omega)];omega))
  (repeat (first|(with_reducible first|apply qE|apply qB|apply qT)|(apply wlp;apply qD;exact fI rfl)))
  exact qU rfl rfl ⟨_,rfl,congrArg (fun x:Nat=>Value.int .i64 (x:Int)) he.symm,hp.keeps⟩
theorem p23 (a b m:Nat) (w:World) (ha:a≤9223372036854775807) (hb:b≤9223372036854775807) (hm:1≤m) (hm2:m≤9223372036854775807) :
  Ret Tryz.prog 23 [.int .i64 (a:Int),.int .i64 (b:Int),.int .i64 (m:Int)] w (fun v w'=>v = .int .i64 (((a + b) % m:Nat):Int)∧Keeps [] w w'):=by
 have h1:a % m < m:=Nat.mod_lt _ (by omega)
 have h2:b % m < m:=Nat.mod_lt _ (by omega)
 refine Ret.of_WP Tryz.func23 rfl Tryz.ntmps23 rfl ?_
 have hp:=Hp.start (M:=[]) (w:=w)
 (repeat (first|(with_reducible first|apply qF|apply qA|apply qE|apply qB)|(apply wlp;((first|apply qC|apply qD|apply jA)<;>exact rfl);(first|exact fI rfl|exact fB rfl))))
 refine qM rfl (fun h=>absurd h (by omega)) (fun _=>?_)
 (repeat (first|(with_reducible first|apply qF|apply qA|apply qB|apply qL)|(apply wlp;apply qC;exact fI rfl)))
 (apply wls;exact qH rfl qD8 rfl (qHw a m _ ha hm hm2))
 rintro _ w1 ⟨rfl,hk⟩
 have hp:=hp.call hk
 (repeat (apply wlp;apply qC;exact fI rfl))
 (apply wls;exact qH rfl qD8 rfl (qHw b m _ hb hm hm2))
 rintro _ w2 ⟨rfl,hk⟩
 have hp:=hp.call hk
 (repeat (apply wlp;apply qC;exact fI rfl))
 (apply wls;exact qH rfl qMb rfl (p63 _ _ m _ h1 h2 hm2))
 rintro _ w3 ⟨rfl,hk⟩
 have hp:=hp.call hk
 (repeat (first|(with_reducible first|apply qE|apply qB|apply qT)|(apply wlp;apply qD;exact fI rfl)))
 exact qU rfl rfl ⟨_,rfl,congrArg (fun x:Nat=>Value.int .i64 (x:Int)) (Nat.add_mod a b m).symm,hp.keeps⟩
theorem p77 (a b m:Nat) (w:World) (ha:a≤9223372036854775807) (hb:b≤9223372036854775807) (hm:1≤m) (hm2:m≤9223372036854775807) :
  Ret Tryz.prog 77 [.int .i64 (a:Int),.int .i64 (b:Int),.int .i64 (m:Int)] w (fun v w'=>v = .int .i64 (((a:Int) - b) % (m:Int))∧Keeps [] w w'):=by
 have h1:a % m < m:=Nat.mod_lt _ (by omega)
 have h2:b % m < m:=Nat.mod_lt _ (by omega)
 have he:((a:Int) - b) % (m:Int) = (((a % m:Nat):Int) - ((b % m:Nat):Int)) % (m:Int):=by
  rw [Int.sub_emod,Int.natCast_emod,Int.natCast_emod]
 refine Ret.of_WP Tryz.func77 rfl Tryz.ntmps77 rfl ?_
 have hp:=Hp.start (M:=[]) (w:=w)
 (repeat (first|(with_reducible first|apply qF|apply qA|apply qE|apply qB)|(apply wlp;((first|apply qC|apply qD|apply jA)<;>exact rfl);(first|exact fI rfl|exact fB rfl))))
 refine qM rfl (fun h=>absurd h (by omega)) (fun _=>?_)
 (repeat (first|(with_reducible first|apply qF|apply qA|apply qB|apply qL)|(apply wlp;apply qC;exact fI rfl)))
 (apply wls;exact qH rfl qD8 rfl (qHw a m _ ha hm hm2))
 rintro _ w1 ⟨rfl,hk⟩
 have hp:=hp.call hk
 (repeat (first|(with_reducible first|apply qF|apply qA|apply qE|apply qB)|(apply wlp;(first|apply qC|apply qD);exact fI rfl)))
 (apply wls;exact qH rfl qD8 rfl (qHw b m _ hb hm hm2))
 rintro _ w2 ⟨rfl,hk⟩
 have hp:=hp.call hk
 generalize a % m = x at *
 generalize b % m = y at *
 (repeat (first|(with_reducible first|apply qF|apply qA|apply qE|apply qB)|(apply wlp;((first|apply qC|apply qD|apply jA)<;>exact rfl);(first|exact fI rfl|exact fB rfl))))
 refine qM rfl (fun h=>?_) (fun h=>?_)
 ·(repeat (first|(with_reducible first|apply qF|apply qA)|(apply wlp;apply qC;exact fI rfl)))
  (apply wlp;(exact jN rfl rfl);exact qI (b:=((m - y:Nat):Int)) (by rw [qN (by omega) (by omega)];omega))
  (apply wlp;(exact qY rfl rfl);exact qI (b:=((x + (m - y):Nat):Int)) (by rw [qN (by omega) (by omega)];omega))
  (repeat (first|(with_reducible first|apply qE|apply qB|apply jV|apply qT)|(apply wlp;apply qD;exact fI rfl)))
  refine qU rfl rfl ⟨_,rfl,congrArg (Value.int .i64) ?_,hp.keeps⟩
  rw [he,← Int.add_emod_right,Int.emod_eq_of_lt (by omega) (by omega)]
  omega
 ·(repeat (first|(with_reducible first|apply qF|apply qA|apply qB|apply qL)|(apply wlp;apply qC;exact fI rfl)))
  (apply wlp;(exact jN rfl rfl);exact qI (b:=((x - y:Nat):Int)) (by rw [qN (by omega) (by omega)];omega))
  (repeat (first|(with_reducible first|apply qE|apply qB|apply qT)|(apply wlp;apply qD;exact fI rfl)))
  refine qU rfl rfl ⟨_,rfl,congrArg (Value.int .i64) ?_,hp.keeps⟩
  rw [he,Int.emod_eq_of_lt (by omega) (by omega)]
  omega
end Go.Proofs.YtbgldmoikimmpaaGreatDoor
namespace Go.Proofs.YtbgldmoikimmpaaGreatDoor
open Go.Eng Go.Dig Go.Lag
def MlI (c m x y o:Nat):Prop:=(o + x * y) % m = c % m∧x < m∧o < m
theorem MlI.even {c m x y o:Nat} (h:MlI c m x y o) (hy:y % 2 = 0):MlI c m ((x + x) % m) (y / 2) o:=by
 obtain ⟨h1,h2,h3⟩:=h
 refine ⟨?_,Nat.mod_lt _ (by omega),h3⟩
 rw [← h1,Nat.add_mod,Nat.mod_mul_mod,← Nat.add_mod]
 congr 2
 have e:y = 2 * (y / 2):=by omega
 conv=>rhs;rw [e]
 rw [← Nat.two_mul,Nat.mul_assoc,Nat.mul_left_comm]
theorem MlI.odd {c m x y o:Nat} (h:MlI c m x y o) (hy:y % 2 = 1):MlI c m ((x + x) % m) (y / 2) ((o + x) % m):=by
 obtain ⟨h1,h2,h3⟩:=h
 refine ⟨?_,Nat.mod_lt _ (by omega),Nat.mod_lt _ (by omega)⟩
 rw [← h1,Nat.mod_add_mod,Nat.add_mod,Nat.mod_mul_mod,← Nat.add_mod]
 congr 1
 have e:y = 2 * (y / 2) + 1:=by omega
 conv=>rhs;rw [e]
 rw [Nat.mul_add,Nat.mul_one,← Nat.two_mul,Nat.mul_assoc,Nat.mul_left_comm x 2]
 omega
attribute [local irreducible] PV StepF wpl wpd WP Ret
attribute [local irreducible] MlI
theorem p37 (a b m:Nat) (w:World) (ha:a≤9223372036854775807) (hb:b≤9223372036854775807) (hm:1≤m) (hm2:m≤9223372036854775807) :
  Ret Tryz.prog 37 [.int .i64 (a:Int),.int .i64 (b:Int),.int .i64 (m:Int)] w (fun v w'=>v = .int .i64 ((a * b % m:Nat):Int)∧Keeps [] w w'):=by
 have hx1:a % m < m:=Nat.mod_lt _ (by omega)
 have hy1:b % m < m:=Nat.mod_lt _ (by omega)
 have he:a * b % m = (a % m) * (b % m) % m:=Nat.mul_mod a b m
 refine Ret.of_WP Tryz.func37 rfl Tryz.ntmps37 rfl ?_
 have hp:=Hp.start (M:=[]) (w:=w)
 (repeat (first|(with_reducible first|apply qF|apply qA|apply qE|apply qB)|(apply wlp;((first|apply qC|apply qD|apply jA)<;>exact rfl);(first|exact fI rfl|exact fB rfl))))
 refine qM rfl (fun h=>absurd h (by omega)) (fun _=>?_)
 (repeat (first|(with_reducible first|apply qF|apply qA|apply qB|apply qL)|(apply wlp;apply qC;exact fI rfl)))
 (apply wls;exact qH rfl qD8 rfl (qHw a m _ ha hm hm2))
 rintro _ w1 ⟨rfl,hk⟩
 have hp:=hp.call hk
 clear hk
 (repeat (first|(with_reducible first|apply qF|apply qA|apply qE|apply qB)|(apply wlp;(first|apply qC|apply qD);exact fI rfl)))
 (apply wls;exact qH rfl qD8 rfl (qHw b m _ hb hm hm2))
 rintro _ w2 ⟨rfl,hk⟩
 have hp:=hp.call hk
 clear hk
 rw [he]
 generalize a % m = x0 at *
 generalize b % m = y0 at *
 skip
 (apply wlp;exact qD;exact fI rfl)
 (repeat (with_reducible first|apply qF|apply qA|apply qE|apply qB))
 (apply wlp;exact qC;exact fI rfl)
 obtain ⟨c,hc⟩:∃ c,decide ((x0:Int) < 2147483648) = c:=⟨_,rfl⟩
 obtain ⟨d,hd⟩:∃ d,decide ((y0:Int) < 2147483648) = d:=⟨_,rfl⟩
 (apply wlp;exact jA rfl rfl;exact congrArg Value.bool hc)
 (apply wlp;exact qC;exact fB rfl)
 (apply wlg;exact rfl;exact rfl;(intros;exact qC);(intros;exact fI rfl))
 (apply wlg;exact rfl;exact rfl;(intro hq;exact jA (jR rfl hq) rfl);(intro hq;exact congrArg Value.bool hd))
 (apply wlp;exact qKh rfl rfl rfl;exact fB rfl)
 (repeat (with_reducible first|apply qE|apply qB))
 refine zT rfl (fun h=>?_) (fun _=>?_)
 ·rw [← hc,← hd,Bool.and_eq_true,decide_eq_true_eq,decide_eq_true_eq] at h
  obtain ⟨h1,h2⟩:=h
  have hxy:x0 * y0≤2147483647 * 2147483647:=Nat.mul_le_mul (by omega) (by omega)
  (repeat (first|(with_reducible first|apply qF|apply qA)|(apply wlp;apply qC;exact fI rfl)))
  (apply wlp;(exact xU rfl rfl);exact qI (b:=((x0 * y0:Nat):Int)) (by rw [qN (by omega) (by omega)];omega))
  (repeat (apply wlp;apply qC;exact fI rfl))
  (apply wlp;exact yU rfl rfl (by omega);exact qI (b:=((x0 * y0 % m:Nat):Int)) (yP _ _))
  (repeat (first|(with_reducible first|apply qE|apply qB|apply jV|apply qT)|(apply wlp;apply qD;exact fI rfl)))
  exact qU rfl rfl ⟨_,rfl,rfl,hp.keeps⟩
 (repeat (first|(with_reducible first|apply qF|apply qK|apply qA|apply qE|apply qB|apply qL)|(apply wlp;apply qD;exact fI rfl)))
 refine jE ([7,8,9] ++ List.range' 29 15) (fun (X:Nat × Nat × Nat) F=>((F.put 7 (.int .i64 (X.1:Int))).put 8 (.int .i64 (X.2.1:Int))).put 9 (.int .i64 (X.2.2:Int)))
  (fun X w'=>X.2.1≤9223372036854775807∧X.1 < m∧X.2.2 < m∧MlI (x0 * y0) m X.1 X.2.1 X.2.2∧Hp w [] w' []) (fun X=>X.2.1) (x0,y0,0)
  (qG (qG (qG (Same.eq .refl) rfl) rfl) rfl) ⟨Nat.le_trans (Nat.le_of_lt hy1) hm2,hx1,hm,by unfold MlI;exact ⟨by rw [Nat.zero_add],hx1,hm⟩,hp⟩ ?_
 clear hp
 rintro u0 ⟨x,y,o⟩ w3 ⟨hy,hx,ho,hI,hp⟩
 dsimp only at hy hx ho hI hp ⊢
 (repeat (first|(with_reducible first|apply qF|apply qA|apply qE|apply qB)|(apply wlp;((first|apply qC|apply zA)<;>exact rfl);(first|exact fI rfl|exact fB rfl))))
 refine qM rfl (fun h=>?_) (fun h=>?_)
 ·have hy0:0 < y:=by omega
  (repeat (first|(with_reducible first|apply qF|apply qK|apply qA|apply qB|apply qL)|(apply wlp;apply qC;exact fI rfl)))
  (apply wlp;exact yU rfl rfl (by decide);exact qI (b:=((y % 2:Nat):Int)) (yP _ 2))
  (repeat (first|(with_reducible first|apply qE|apply qB)|(apply wlp;((apply zF;(first|exact rfl|exact jR rfl (by assumption)))<;>exact rfl);exact fB rfl)))
  refine qM rfl (fun h2=>?_) (fun h2=>?_)
  ·have h2:y % 2 = 1:=by omega
   (repeat (first|with_reducible apply qA|(apply wlp;apply qC;exact fI rfl)))
   (apply wls;exact qH rfl qMb rfl (p63 o x m _ ho hx hm2))
   rintro _ w4 ⟨rfl,hk⟩
   have hp:=hp.call hk
   clear hk
   (repeat (first|(with_reducible first|apply qF|apply qA|apply qE|apply qB)|(apply wlp;(first|apply qC|apply qD);exact fI rfl)))
   (apply wls;exact qH rfl qMb rfl (p63 x x m _ hx hx hm2))
   rintro _ w5 ⟨rfl,hk⟩
   have hp:=hp.call hk
   clear hk
   (repeat (first|(with_reducible first|apply qA|apply qE|apply qB)|(apply wlp;(first|apply qC|apply qD);exact fI rfl)))
   (apply wlp;exact yV rfl rfl (by decide);exact qI (b:=((y / 2:Nat):Int)) (vO 2 (by omega)))
   (repeat (first|(with_reducible first|apply qE|apply qB|apply qZ)|(apply wlp;apply qD;exact fI rfl)))
   exact ⟨((x + x) % m,y / 2,(o + x) % m),qG (qG (qG (Same.eq (by repeat (first|exact Same.hav|exact Same.refl|refine Same.put rfl ?_|refine Same.havs rfl ?_))) rfl) rfl) rfl,⟨Nat.le_trans (Nat.div_le_self y 2) hy,Nat.mod_lt _ (by omega),Nat.mod_lt _ (by omega),hI.odd h2,hp⟩,by show y / 2 < y;omega⟩
  ·have h2:y % 2 = 0:=by omega
   (repeat (first|(with_reducible first|apply qF|apply qA|apply qB|apply qL)|(apply wlp;apply qC;exact fI rfl)))
   (apply wls;exact qH rfl qMb rfl (p63 x x m _ hx hx hm2))
   rintro _ w5 ⟨rfl,hk⟩
   have hp:=hp.call hk
   clear hk
   (repeat (first|(with_reducible first|apply qA|apply qE|apply qB)|(apply wlp;(first|apply qC|apply qD);exact fI rfl)))
   (apply wlp;exact yV rfl rfl (by decide);exact qI (b:=((y / 2:Nat):Int)) (vO 2 (by omega)))
   (repeat (first|(with_reducible first|apply qE|apply qB|apply qZ)|(apply wlp;apply qD;exact fI rfl)))
   exact ⟨((x + x) % m,y / 2,o),qG (qG (qG (Same.eq (by repeat (first|exact Same.hav|exact Same.refl|refine Same.put rfl ?_|refine Same.havs rfl ?_))) rfl) rfl) rfl,⟨Nat.le_trans (Nat.div_le_self y 2) hy,Nat.mod_lt _ (by omega),ho,hI.even h2,hp⟩,by show y / 2 < y;omega⟩
 ·obtain rfl:y = 0:=by omega
  have hf:o = x0 * y0 % m:=by
   unfold MlI at hI
   have h3:=hI.1
   rwa [Nat.mul_zero,Nat.add_zero,Nat.mod_eq_of_lt ho] at h3
  (repeat (first|(with_reducible first|apply qF|apply qA|apply qE|apply qB|apply qO|apply qT|apply jB)|((with_reducible apply qP);exact rfl)|(apply wlp;(first|apply qC|apply qD);exact fI rfl)))
  exact qU rfl rfl ⟨_,rfl,congrArg (fun x:Nat=>Value.int .i64 (x:Int)) hf,hp.keeps⟩
end Go.Proofs.YtbgldmoikimmpaaGreatDoor
namespace Go.Proofs.YtbgldmoikimmpaaGreatDoor
open Go.Eng Go.Dig Go.Lag Go.Grp
def PwN (a n m k x p:Nat):Prop:=p * x ^ k % m = a ^ n % m
theorem PwN.start (a n m:Nat):PwN a n m n (a % m) (1 % m):=by
 unfold PwN
 rw [Nat.mod_mul_mod,Nat.one_mul,← Nat.pow_mod]
theorem PwN.even {a n m k x p:Nat} (h:PwN a n m k x p) (hk:k % 2 = 0):PwN a n m (k / 2) (x * x % m) p:=by
 unfold PwN at *
 rw [← h,Nat.mul_mod,← Nat.pow_mod,← Nat.mul_mod,← Nat.pow_two,← Nat.pow_mul]
 congr 3
 omega
theorem PwN.odd {a n m k x p:Nat} (h:PwN a n m k x p) (hk:k % 2 = 1):PwN a n m (k / 2) (x * x % m) (p * x % m):=by
 unfold PwN at *
 rw [← h,Nat.mod_mul_mod,Nat.mul_mod,← Nat.pow_mod,← Nat.mul_mod,← Nat.pow_two,← Nat.pow_mul,Nat.mul_assoc,← Nat.pow_succ']
 congr 3
 omega
attribute [local irreducible] PV StepF wpl wpd WP Ret
attribute [local irreducible] PwN
theorem p79 (a n m:Nat) (w:World) (ha:a≤9223372036854775807) (hn:n≤9223372036854775807) (hm:1≤m) (hm2:m≤9223372036854775807) :
  Ret Tryz.prog 79 [.int .i64 (a:Int),.int .i64 (n:Int),.int .i64 (m:Int)] w (fun v w'=>v = .int .i64 ((a ^ n % m:Nat):Int)∧Keeps [] w w'):=by
 refine Ret.of_WP Tryz.func79 rfl Tryz.ntmps79 rfl ?_
 have hp:=Hp.start (M:=[]) (w:=w)
 (repeat (with_reducible first|apply qF|apply qA))
 (apply wlp;apply qD;exact fI rfl)
 (repeat (with_reducible first|apply qF|apply qA|apply qE|apply qB))
 (apply wlp;apply qC;exact fI rfl)
 (apply wlp;(exact jA rfl rfl);exact jF (b:=false) (decide_eq_false (by omega)))
 (apply wlp;apply qC;exact fB rfl)
 ((apply jO;exact rfl;exact rfl);(apply qC);(intros;exact fI rfl))
 (apply jO;exact rfl;exact rfl;(exact jA rfl rfl);exact jF (b:=false) (decide_eq_false (by omega)))
 (apply wlp;exact jU rfl rfl;exact fB rfl)
 (repeat (with_reducible first|apply qE|apply qB))
 refine jI rfl ?_
 (repeat (first|(with_reducible first|apply qF|apply qA|apply qB|apply qL)|(apply wlp;apply qC;exact fI rfl)))
 (apply wls;exact qH rfl qD8 rfl (qHw 1 m _ (by decide) hm hm2))
 rintro _ w1 ⟨rfl,hk⟩
 have hp:=hp.call hk
 clear hk
 (repeat (first|(with_reducible first|apply qF|apply qA|apply qE|apply qB)|(apply wlp;(first|apply qC|apply qD);exact fI rfl)))
 (apply wls;exact qH rfl qD8 rfl (qHw a m _ ha hm hm2))
 rintro _ w2 ⟨rfl,hk⟩
 have hp:=hp.call hk
 clear hk
 (repeat (first|(with_reducible first|apply qF|apply qK|apply qE|apply qB)|(apply wlp;apply qD;exact fI rfl)))
 refine jE ([1,7,8] ++ List.range' 20 15) (fun (X:Nat × Nat × Nat) F=>((F.put 1 (.int .i64 (X.1:Int))).put 7 (.int .i64 (X.2.2:Int))).put 8 (.int .i64 (X.2.1:Int)))
  (fun X w'=>X.1≤9223372036854775807∧X.2.1 < m∧X.2.2 < m∧PwN a n m X.1 X.2.1 X.2.2∧Hp w [] w' []) (fun X=>X.1) (n,a % m,1 % m)
  (qG (qG (qG (Same.eq .refl) rfl) rfl) rfl) ⟨hn,Nat.mod_lt _ hm,Nat.mod_lt _ hm,.start a n m,hp⟩ ?_
 clear hp
 rintro u0 ⟨k,x,p⟩ w3 ⟨hk,hx,ho,hI,hp⟩
 dsimp only at hk hx ho hI hp ⊢
 (repeat (first|(with_reducible first|apply qF|apply qA|apply qE|apply qB)|(apply wlp;((first|apply qC|apply zA)<;>exact rfl);(first|exact fI rfl|exact fB rfl))))
 refine qM rfl (fun h=>?_) (fun h=>?_)
 ·have hk0:0 < k:=by omega
  (repeat (first|(with_reducible first|apply qF|apply qK|apply qA|apply qB|apply qL)|(apply wlp;apply qC;exact fI rfl)))
  (apply wlp;exact yU rfl rfl (by decide);exact qI (b:=((k % 2:Nat):Int)) (yP _ 2))
  (repeat (first|(with_reducible first|apply qE|apply qB)|(apply wlp;((apply zF;(first|exact rfl|exact jR rfl (by assumption)))<;>exact rfl);exact fB rfl)))
  refine qM rfl (fun h2=>?_) (fun h2=>?_)
  ·have h2:k % 2 = 1:=by omega
   (repeat (first|with_reducible apply qA|(apply wlp;apply qC;exact fI rfl)))
   (apply wls;exact qH rfl qBg rfl (p37 p x m _ (by omega) (by omega) hm hm2))
   rintro _ w4 ⟨rfl,hk3⟩
   have hp:=hp.call hk3
   clear hk3
   (repeat (first|(with_reducible first|apply qF|apply qA|apply qE|apply qB)|(apply wlp;(first|apply qC|apply qD);exact fI rfl)))
   (apply wls;exact qH rfl qBg rfl (p37 x x m _ (by omega) (by omega) hm hm2))
   rintro _ w5 ⟨rfl,hk3⟩
   have hp:=hp.call hk3
   clear hk3
   (repeat (first|(with_reducible first|apply qA|apply qE|apply qB)|(apply wlp;(first|apply qC|apply qD);exact fI rfl)))
   (apply wlp;exact yV rfl rfl (by decide);exact qI (b:=((k / 2:Nat):Int)) (vO 2 (by omega)))
   (repeat (first|(with_reducible first|apply qE|apply qB|apply qZ)|(apply wlp;apply qD;exact fI rfl)))
   exact ⟨(k / 2,x * x % m,p * x % m),qG (qG (qG (Same.eq (by repeat (first|exact Same.hav|exact Same.refl|refine Same.put rfl ?_|refine Same.havs rfl ?_))) rfl) rfl) rfl,⟨Nat.le_trans (Nat.div_le_self k 2) hk,Nat.mod_lt _ hm,Nat.mod_lt _ hm,hI.odd h2,hp⟩,by show k / 2 < k;omega⟩
  ·have h2:k % 2 = 0:=by omega
   (repeat (first|(with_reducible first|apply qF|apply qA|apply qB|apply qL)|(apply wlp;apply qC;exact fI rfl)))
   (apply wls;exact qH rfl qBg rfl (p37 x x m _ (by omega) (by omega) hm hm2))
   rintro _ w5 ⟨rfl,hk3⟩
   have hp:=hp.call hk3
   clear hk3
   (repeat (first|(with_reducible first|apply qA|apply qE|apply qB)|(apply wlp;(first|apply qC|apply qD);exact fI rfl)))
   (apply wlp;exact yV rfl rfl (by decide);exact qI (b:=((k / 2:Nat):Int)) (vO 2 (by omega)))
   (repeat (first|(with_reducible first|apply qE|apply qB|apply qZ)|(apply wlp;apply qD;exact fI rfl)))
   exact ⟨(k / 2,x * x % m,p),qG (qG (qG (Same.eq (by repeat (first|exact Same.hav|exact Same.refl|refine Same.put rfl ?_|refine Same.havs rfl ?_))) rfl) rfl) rfl,⟨Nat.le_trans (Nat.div_le_self k 2) hk,Nat.mod_lt _ hm,ho,hI.even h2,hp⟩,by show k / 2 < k;omega⟩
 ·obtain rfl:k = 0:=by omega
  have hf:p = a ^ n % m:=by
   unfold PwN at hI
   rwa [Nat.pow_zero,Nat.mul_one,Nat.mod_eq_of_lt ho] at hI
  (repeat (first|(with_reducible first|apply qF|apply qA|apply qE|apply qB|apply qO|apply qT|apply jB)|((with_reducible apply qP);exact rfl)|(apply wlp;(first|apply qC|apply qD);exact fI rfl)))
  exact qU rfl rfl ⟨_,rfl,congrArg (fun x:Nat=>Value.int .i64 (x:Int)) hf,hp.keeps⟩
end Go.Proofs.YtbgldmoikimmpaaGreatDoor
namespace Go.Proofs.YtbgldmoikimmpaaGreatDoor
open Go.Eng Go.Dig Go.Lag Go.Grp
structure InvR (a:Int) (m r s x y:Nat):Prop where
 gcd:Nat.gcd r s = 1
 cx:Cg (m:Int) ((x:Int) * a) (r:Int)
 cy:Cg (m:Int) ((y:Int) * a) (s:Int)
 rm:r≤m
 sm:s≤m
 xm:x < m
 ym:y < m
theorem InvR.next {a:Int} {m r s x y z:Nat} (h:InvR a m r s x y) (hs:0 < s) (hz:(z:Int) = ((x:Int) - ((r / s * y % m:Nat):Int)) % (m:Int)) (hzm:z < m):InvR a m s (r % s) y z:=by
 have hd:=Nat.div_add_mod r s
 refine ⟨?_,h.cy,?_,h.sm,Nat.le_trans (Nat.le_of_lt (Nat.mod_lt r hs)) h.sm,h.ym,hzm⟩
 ·rw [Nat.gcd_comm,← Nat.gcd_rec,Nat.gcd_comm]
  exact h.gcd
 ·have e2:((r % s:Nat):Int) = (r:Int) - (r / s:Nat) * (s:Int):=by
   have h9:(r:Int) = ((r / s * s + r % s:Nat):Int):=by rw [Nat.mul_comm,hd]
   rw [Int.natCast_add,Int.natCast_mul] at h9
   generalize ((r / s:Nat):Int) * (s:Int) = z at h9 ⊢
   omega
  rw [hz,e2]
  have h1:Cg (m:Int) (((x:Int) - ((r / s * y % m:Nat):Int)) % (m:Int)) ((x:Int) - ((r / s:Nat):Int) * (y:Int)):=by
   refine Cg.mod.trans (Cg.refl.sub ?_)
   rw [Int.natCast_emod,Int.natCast_mul]
   exact Cg.mod
  refine (h1.mul .refl).trans ?_
  rw [Int.sub_mul,Int.mul_assoc]
  exact h.cx.sub (Cg.refl.mul h.cy)
attribute [local irreducible] PV StepF wpl wpd WP Ret
theorem qW8 (a:Nat) (w:World) (h:Mb a):Ret Tryz.prog 130 [.int .i64 (a:Int)] w (fun v w'=>v = .bool true∧Keeps [] w w'):=by
 obtain ⟨h1,h2,h3⟩:=h
 have hP:gP = 2305843009213691579:=rfl
 have hQ:gQ = 1152921504606845789:=rfl
 rw [hP] at h2
 have h79:∀ w,Ret Tryz.prog 79 [.int .i64 (a:Int),.int .i64 1152921504606845789,.int .i64 2305843009213691579] w (fun v w'=>v = .int .i64 ((1:Nat):Int)∧Keeps [] w w'):=fun w=>by
  have h4:=p79 a gQ gP w (by omega) (by decide) (by decide) (by decide)
  rw [h3] at h4
  exact h4
 clear h3
 refine Ret.of_WP Tryz.func130 rfl Tryz.ntmps130 rfl ?_
 have hp:=Hp.start (M:=[]) (w:=w)
 (repeat (with_reducible first|apply qF|apply qA))
 (apply wlp;apply qD;exact fB rfl)
 (repeat (with_reducible first|apply qF|apply qA|apply qE|apply qB))
 (apply wlp;apply qC;exact fI rfl)
 (apply wlp;(exact xF rfl rfl);exact jF (b:=true) (decide_eq_true (by omega)))
 (apply wlp;apply qC;exact fB rfl)
 ((apply jO;exact rfl;exact rfl);(apply qC);(intros;exact fI rfl))
 (apply jO;exact rfl;exact rfl;(exact jA rfl rfl);exact jF (b:=true) (decide_eq_true (by omega)))
 (apply wlp;exact zM rfl rfl;exact fB rfl)
 (apply wlp;apply qC;exact fB rfl)
 ((apply jO;exact rfl;exact rfl);(apply qC);(intros;exact fI rfl))
 (apply qAu;exact rfl;exact rfl;exact qH rfl qFm rfl (h79 _);rintro _ w1 ⟨rfl,hk⟩;have hp:=hp.call hk)
 (apply jO;exact rfl;exact rfl;(exact zF rfl rfl);exact jF (b:=true) (decide_eq_true (by omega)))
 (apply wlp;exact zM rfl rfl;exact fB rfl)
 (repeat (first|(with_reducible first|apply qE|apply qB|apply qT)|(apply wlp;apply qD;exact fB rfl)))
 exact qU rfl rfl ⟨_,rfl,rfl,hp.keeps⟩
theorem p76 (a m:Nat) (w:World) (ha:a≤9223372036854775807) (hm:2≤m) (hm2:m≤9223372036854775807) (hg:Nat.gcd m a = 1) :
  Ret Tryz.prog 76 [.int .i64 (a:Int),.int .i64 (m:Int)] w (fun v w'=>(∃ z:Nat,v = .tuple #[.int .i64 (z:Int),.bool true]∧z < m∧Cg (m:Int) ((z:Int) * (a:Int)) 1)∧Keeps [] w w'):=by
 have hI:InvR (a:Int) m m (a % m) 0 1:=by
  refine ⟨?_,?_,?_,Nat.le_refl _,Nat.le_of_lt (Nat.mod_lt _ (by omega)),by omega,by omega⟩
  ·rw [Nat.gcd_comm,← Nat.gcd_rec]
   exact hg
  ·rw [Int.natCast_zero,Int.zero_mul]
   exact Cg.of_mod (by rw [Int.emod_self];rfl)
  ·rw [Int.natCast_one,Int.one_mul,Int.natCast_emod]
   exact Cg.mod.symm
 refine Ret.of_WP Tryz.func76 rfl Tryz.ntmps76 rfl ?_
 have hp:=Hp.start (M:=[]) (w:=w)
 (repeat (first|(with_reducible first|apply qF|apply qA|apply qE|apply qB)|(apply wlp;((first|apply qC|apply qD|apply jA)<;>exact rfl);(first|exact fI rfl|exact fB rfl))))
 refine qM rfl (fun h=>absurd h (by omega)) (fun _=>?_)
 (repeat (first|(with_reducible first|apply qF|apply qA|apply qE|apply qB|apply qL)|(apply wlp;(first|apply qC|apply qD);exact fI rfl)))
 (apply wls;exact qH rfl qD8 rfl (qHw a m _ ha (by omega) hm2))
 rintro _ w1 ⟨rfl,hk⟩
 have hp:=hp.call hk
 clear hk
 (repeat (first|(with_reducible first|apply qF|apply qK|apply qA|apply qE|apply qB)|(apply wlp;apply qD;exact fI rfl)))
 refine jE ([6,7,8,9,10,11,12] ++ List.range' 19 21) (fun (X:Nat × Nat × Nat × Nat) F=>(((F.put 6 (.int .i64 (X.1:Int))).put 7 (.int .i64 (X.2.1:Int))).put 8 (.int .i64 (X.2.2.1:Int))).put 9 (.int .i64 (X.2.2.2:Int)))
  (fun X w'=>InvR (a:Int) m X.1 X.2.1 X.2.2.1 X.2.2.2∧Hp w [] w' []) (fun X=>X.2.1) (m,a % m,0,1) (qG (qG (qG (qG (Same.eq .refl) rfl) rfl) rfl) rfl) ⟨hI,hp⟩ ?_
 clear hp hI
 rintro u ⟨r,s,x,y⟩ w2 ⟨hI,hp⟩
 dsimp only at hI hp ⊢
 have hrm:=hI.rm
 have hsm:=hI.sm
 have hxm:=hI.xm
 have hym:=hI.ym
 (repeat (first|(with_reducible first|apply qF|apply qA|apply qE|apply qB)|(apply wlp;((first|apply qC|apply zA)<;>exact rfl);(first|exact fI rfl|exact fB rfl))))
 refine qM rfl (fun h=>?_) (fun h=>?_)
 ·have hs:0 < s:=by omega
  have hq:r / s≤r:=Nat.div_le_self _ _
  have hd:=Nat.div_add_mod r s
  rw [Nat.mul_comm] at hd
  have hlt:=Nat.mod_lt r hs
  have hqm:r / s * y % m < m:=Nat.mod_lt _ (by omega)
  (repeat (first|(with_reducible first|apply qF|apply qK|apply qA|apply qB|apply qL)|(apply wlp;apply qC;exact fI rfl)))
  (apply wlp;exact yV rfl rfl (by omega);exact qI (b:=((r / s:Nat):Int)) (by rw [tdn];exact qD4 (Nat.le_trans hq (by omega))))
  (repeat (first|(with_reducible first|apply qF|apply qA|apply qE|apply qB)|(apply wlp;(first|apply qC|apply qD);exact fI rfl)))
  (apply wlp;exact xU rfl rfl;exact qI (b:=((r / s * s:Nat):Int)) (by rw [← Int.natCast_mul];exact qD4 (by omega)))
  (apply wlp;exact jN rfl rfl;exact qI (b:=((r % s:Nat):Int)) (by rw [qN (by omega) (by omega)];omega))
  (repeat (first|(with_reducible first|apply qF|apply qA|apply qE|apply qB)|(apply wlp;(first|apply qC|apply qD);exact fI rfl)))
  (apply wls;exact qH rfl qBg rfl (p37 (r / s) y m _ (by omega) (by omega) (by omega) hm2))
  rintro _ w3 ⟨rfl,hk⟩
  have hp:=hp.call hk
  clear hk
  (repeat (apply wlp;apply qC;exact fI rfl))
  (apply wls;exact qH rfl qV5 rfl (p77 x (r / s * y % m) m _ (by omega) (by omega) (by omega) hm2))
  rintro _ w4 ⟨rfl,hk⟩
  have hp:=hp.call hk
  clear hk
  obtain ⟨z,hz,hzm⟩:=qAm ((x:Int) - ((r / s * y % m:Nat):Int)) (m:=m) (by omega)
  have hI2:=hI.next hs hz.symm hzm
  rw [hz]
  (repeat (first|(with_reducible first|apply qF|apply qA|apply qE|apply qB|apply qZ)|(apply wlp;(first|apply qC|apply qD);exact fI rfl)))
  exact ⟨(s,r % s,y,z),qG (qG (qG (qG (Same.eq (by repeat (first|exact Same.hav|exact Same.refl|refine Same.put rfl ?_|refine Same.havs rfl ?_))) rfl) rfl) rfl) rfl,⟨hI2,hp⟩,hlt⟩
 obtain rfl:s = 0:=by omega
 have h1:=hI.gcd
 rw [Nat.gcd_zero_right] at h1
 subst h1
 (repeat (first|(with_reducible first|apply qF|apply qA|apply qB|apply qO|apply jB)|((with_reducible apply qP);exact rfl)))
 (apply wlp;apply qC;exact fI rfl)
 (apply wlp;exact zJ rfl rfl;exact jF (b:=false) rfl)
 (repeat (with_reducible first|apply qE|apply qB))
 refine jI rfl ?_
 (repeat (first|(with_reducible first|apply qF|apply qA|apply qE|apply qB|apply qT|apply qL)|(apply wlp;(first|apply qC|apply qD);(first|exact fI rfl|exact fB rfl))))
 exact zX rfl rfl rfl ⟨_,rfl,⟨x,rfl,hxm,hI.cx⟩,hp.keeps⟩
end Go.Proofs.YtbgldmoikimmpaaGreatDoor
namespace Go.Proofs.YtbgldmoikimmpaaGreatDoor
open Go.Eng Go.Dig Go.Sha
def qB3 (y:Nat):List UInt8:=if y = 0 then [] else Lib.decDigits y
theorem qKj {y:Nat} (h:0 < y):qB3 y = qB3 (y / 10) ++ [UInt8.ofNat (48 + y % 10)]:=by
 unfold qB3
 rw [if_neg (by omega),Lib.decDigits]
 split
 ·rw [if_pos (by omega),Nat.mod_eq_of_lt (by omega)]
  rfl
 ·rw [if_neg (by omega)]
theorem qN8 {y:Nat} (h:0 < y):qB3 y = Lib.decDigits y:=by
 unfold qB3
 rw [if_neg (by omega)]
theorem qDc:∀ (k x:Nat),x < 10 ^ (k + 1)→(Lib.decDigits x).length≤k + 1
 | 0,x,h=>by
  rw [Lib.decDigits,dif_pos (by simpa using h)]
  exact Nat.le_refl _
 | k + 1,x,h=>by
  rw [Lib.decDigits]
  split
  ·show 1≤_
   omega
  ·rw [List.length_append]
   have h2:=qDc k (x / 10) (by rw [Nat.pow_succ] at h;omega)
   show _ + 1≤_
   omega
def xD (x:Nat):ByteArray:=⟨(Lib.decDigits x).toArray⟩
theorem qId (x:Nat):xD x = dec (x:Int):=by
 unfold xD dec Lib.itoa
 rw [if_neg (by omega),Int.toNat_natCast]
attribute [local irreducible] PV StepF wpl wpd WP Ret
attribute [local irreducible] Fit ofN qB3
theorem p85 (x:Nat) (w:World) (hx:x≤9223372036854775807):Ret Tryz.prog 85 [.string (ofN x)] w (fun v w'=>v = .string (xD x)∧Keeps [] w w'):=by
 have hf:∀ y,y≤9223372036854775807→Fit y:=fun y hy=>Fit.small (by omega)
 have hsz:=fun y=>wD y
 refine Ret.of_WP Tryz.func85 rfl Tryz.ntmps85 rfl ?_
 have hp:=Hp.start (M:=[]) (w:=w)
 (repeat (with_reducible first|apply qF|apply qA))
 (apply wlp;exact qD;exact fT rfl)
 (repeat (with_reducible first|apply qF|apply qA|apply qE|apply qB))
 (apply wlp;exact qC;exact fT rfl)
 (apply wls;exact qH rfl kN rfl (qUc x _ (hf x hx)))
 rintro _ w1 ⟨rfl,hk⟩
 have hp:=hp.call hk
 clear hk
 (apply wlp;exact qD;exact fT rfl)
 (repeat (with_reducible first|apply qF|apply qA|apply qE|apply qB))
 (apply wlp;exact qC;exact fT rfl)
 (apply wlp;exact xP rfl rfl;exact fI rfl)
 by_cases h0:x = 0
 ·subst h0
  have h1:(ofN 0).size = 0:=hsz 0
  (apply wlp;exact zF rfl rfl;exact jF (b:=true) (decide_eq_true (by omega)))
  (repeat (with_reducible first|apply qE|apply qB))
  refine yI rfl ?_
  (repeat (first|(with_reducible first|apply qF|apply qA|apply qE|apply qB|apply jV|apply qT)|(apply wlp;apply qD;exact fT rfl)))
  exact qU rfl rfl ⟨_,rfl,congrArg Value.string (by unfold xD;rw [Lib.decDigits];rfl),hp.keeps⟩
 have h1:(ofN x).size ≠ 0:=by
  rw [hsz]
  intro h
  exact h0 ((yK (by decide)).1 (List.eq_nil_of_length_eq_zero h))
 (apply wlp;exact zF rfl rfl;exact jF (b:=false) (decide_eq_false (by omega)))
 (repeat (with_reducible first|apply qE|apply qB))
 refine jI rfl ?_
 (repeat (with_reducible first|apply qF|apply qA|apply qB|apply qL))
 (apply wlp;exact qD;exact fT rfl)
 (repeat (with_reducible first|apply qF|apply qK|apply qE|apply qB))
 have hdl:(Lib.decDigits x).length≤19:=qDc 18 x (by omega)
 refine jE ([0,3,4,5,6,7,8] ++ List.range' 14 23) (fun (X:Nat × ByteArray) F=>(F.put 0 (.string (ofN X.1))).put 3 (.string X.2))
  (fun X w'=>X.1≤x∧(Lib.decDigits x).map UInt8.toNat = (qB3 X.1).map UInt8.toNat ++ bl X.2∧Hp w [] w' []) (fun X=>X.1) (x,⟨#[]⟩)
  (qG (qG (Same.eq .refl) rfl) rfl) ⟨Nat.le_refl _,by rw [qN8 (by omega)];exact (List.append_nil _).symm,hp⟩ ?_
 clear hp
 rintro u0 ⟨y,s⟩ w2 ⟨hy,hd,hp⟩
 dsimp only at hy hd hp ⊢
 (repeat (with_reducible first|apply qF|apply qA))
 (apply wlp;exact qC;exact fT rfl)
 (apply wlp;exact xP rfl rfl;exact fI rfl)
 by_cases hy0:y = 0
 ·subst hy0
  have h2:(ofN 0).size = 0:=hsz 0
  (apply wlp;exact zA rfl rfl;exact jF (b:=false) (decide_eq_false (by omega)))
  (repeat (with_reducible first|apply qE|apply qB))
  refine jI rfl ?_
  (repeat (first|(with_reducible first|apply qF|apply qA|apply qE|apply qB|apply qO|apply qT|apply jB)|((with_reducible apply qP);exact rfl)|(apply wlp;(first|apply qC|apply qD);exact fT rfl)))
  refine qU rfl rfl ⟨_,rfl,congrArg Value.string (qZ4 ?_),hp.keeps⟩
  have h3:qB3 0 = []:=by unfold qB3;rfl
  rw [h3,List.map_nil,List.nil_append] at hd
  show bl s = bl (xD x)
  unfold xD
  exact hd.symm.trans (qVi _).symm
 have h2:(ofN y).size ≠ 0:=by
  rw [hsz]
  intro h
  exact hy0 ((yK (by decide)).1 (List.eq_nil_of_length_eq_zero h))
 (apply wlp;exact zA rfl rfl;exact jF (b:=true) (decide_eq_true (by omega)))
 (repeat (with_reducible first|apply qE|apply qB))
 refine yI rfl ?_
 (repeat (with_reducible first|apply qF|apply qK|apply qA|apply qB|apply qL))
 (apply wlp;exact qC;exact fT rfl)
 (apply wls;exact qH rfl qD7 rfl (c40 10 _ (by decide)))
 rintro _ w3 ⟨rfl,hk⟩
 have hp:=hp.call hk
 clear hk
 (apply wls;exact qH rfl qQz rfl (c92 y 10 _ (hf y (by omega)) (hf 10 (by decide)) (by decide)))
 rintro _ w4 ⟨rfl,hk⟩
 have hp:=hp.call hk
 clear hk
 (repeat (first|(with_reducible first|apply qF|apply qA|apply qE|apply qB)|(apply wlp;((first|apply qC|apply qD|apply jK)<;>exact rfl);(first|exact fB rfl|exact fT rfl|exact fU rfl))))
 have hl1:(jT 256 (y % 10)).length≤7:=Nat.le_trans (uS (by decide) (show y % 10 < 256 ^ 1 by omega)) (by decide)
 (apply wls;exact qH rfl qQy rfl (c88 (y % 10) _ hl1 (hf _ (by omega))))
 rintro _ w5 ⟨rfl,hk⟩
 have hp:=hp.call hk
 clear hk
 (repeat (first|(with_reducible first|apply qF|apply qA|apply qE|apply qB)|(apply wlp;((first|apply qC|apply qD|apply jK)<;>exact rfl);(first|exact fI rfl|exact fB rfl|exact fU rfl))))
 (apply wlp;exact qY rfl rfl;exact qI (b:=((48 + y % 10:Nat):Int)) (by rw [qN (by omega) (by omega)];omega))
 (apply wlp;exact uG rfl rfl rfl;exact qI (b:=((48 + y % 10:Nat):Int)) (by omega))
 (apply wls;exact jP (vs:=[(0,u8 (48 + y % 10))]) (cs:=[u8 (48 + y % 10)]) hp rfl rfl rfl rfl rfl rfl rfl;rintro _ w6 ⟨b,rfl,hp⟩)
 (apply wlp;exact qHt (ns:=[48 + y % 10].map fun (x:Nat)=>(x:Int)) rfl rfl rfl rfl rfl (hp.cells 0 _ rfl rfl (fun j v hj=>by
  match j,hj with
  | 0,hj=>exact (Option.some.inj hj)));exact fT rfl)
 (apply wlp;exact qC;exact fT rfl)
 have hp:=hp.tail
 have hsl:(bl s).length + (qB3 y).length≤19:=by
  have:=congrArg List.length hd
  rw [List.length_map,List.length_append,List.length_map] at this
  omega
 rw [xG] at hsl
 obtain ⟨s2,hs2⟩:∃ s2,kX ([48 + y % 10].map fun (x:Nat)=>(x:Int)) ++ s = s2:=⟨_,rfl⟩
 (apply wlp;exact jY rfl rfl (by rw [qDe];show 1 + _≤_;omega);exact congrArg Value.string hs2)
 (apply wlp;exact qD;exact fT rfl)
 (repeat (with_reducible first|apply qA|apply qE|apply qB))
 (apply wlp;exact qC;exact fT rfl)
 (apply wlp;exact qD;exact fT rfl)
 (repeat (with_reducible first|apply qE|apply qB|apply qZ))
 refine ⟨(y / 10,s2),qG (qG (Same.eq (by repeat (first|exact Same.hav|exact Same.refl|refine Same.put rfl ?_|refine Same.havs rfl ?_))) rfl) rfl,⟨Nat.le_trans (Nat.div_le_self y 10) hy,?_,hp⟩,by show y / 10 < y;omega⟩
 show _ = (qB3 (y / 10)).map UInt8.toNat ++ bl s2
 rw [hd,qKj (by omega),← hs2,vG,qAo _ (fun d hd=>by rw [List.mem_singleton] at hd;omega),List.map_append,List.append_assoc]
 congr 2
 show [(UInt8.ofNat (48 + y % 10)).toNat] = [48 + y % 10]
 rw [UInt8.toNat_ofNat',Nat.mod_eq_of_lt (by omega)]
end Go.Proofs.YtbgldmoikimmpaaGreatDoor
namespace Go.Proofs.YtbgldmoikimmpaaGreatDoor
open Go.Eng Go.Dig Go.Sha
theorem xY {x:Nat} (h:x≤9223372036854775807):(xD x).size≤19:=qDc 18 x (by omega)
theorem qJh (l:List Value) {m:Nat} (h:l.length = m):(List.range m).map (fun j=>qV l (0 + j)) = l:=by
 subst h
 apply List.ext_getElem
 ·simp
 ·intro i h1 h2
  rw [List.getElem_map,List.getElem_range,Nat.zero_add,kW,List.getD_eq_getElem?_getD,List.getElem?_eq_getElem h2]
  rfl
attribute [local irreducible] PV StepF wpl wpd WP Ret
attribute [local irreducible] Fit ofN xD hv
theorem qZl (x:Nat) (w:World) (hx:x≤9223372036854775807):Ret Tryz.prog 187 [.int .i64 (x:Int)] w (fun v w'=>v = .string (xD x)∧Keeps [] w w'):=by
 refine Ret.of_WP Tryz.func187 rfl Tryz.ntmps187 rfl ?_
 have hp:=Hp.start (M:=[]) (w:=w)
 (repeat (with_reducible first|apply qF|apply qA))
 (apply wlp;exact qD;exact fT rfl)
 (repeat (with_reducible first|apply qF|apply qA|apply qE|apply qB))
 (apply wlp;exact qC;exact fI rfl)
 (apply wlp;(exact zF rfl rfl);exact jF (b:=false) (decide_eq_false (by omega)))
 (repeat (with_reducible first|apply qE|apply qB))
 refine jI rfl ?_
 (repeat (with_reducible first|apply qF|apply qA|apply qB|apply qL))
 (apply wlp;exact qC;exact fI rfl)
 (apply wlp;(exact jA rfl rfl);exact jF (b:=false) (decide_eq_false (by omega)))
 (repeat (with_reducible first|apply qE|apply qB))
 refine jI rfl ?_
 (repeat (with_reducible first|apply qF|apply qA|apply qB|apply qL))
 (apply wlp;exact qC;exact fI rfl)
 (apply wls;exact qH rfl qD7 rfl (c40 x _ (by omega)))
 rintro _ w1 ⟨rfl,hk⟩
 have hp:=hp.call hk
 rw [Int.toNat_natCast]
 (apply wls;exact qH rfl qV3 rfl (p85 x _ hx))
 rintro _ w2 ⟨rfl,hk⟩
 have hp:=hp.call hk
 (apply wlp;exact qD;exact fT rfl)
 (repeat (with_reducible first|apply qE|apply qB|apply qT))
 exact qU rfl rfl ⟨_,rfl,rfl,hp.keeps⟩
theorem p40 (x:Nat) (w:World) (hx:x≤9223372036854775807):Ret Tryz.prog 40 [.int .i64 (x:Int)] w (fun v w'=>v = RV x 1∧Keeps [] w w'):=by
 refine Ret.of_WP Tryz.func40 rfl Tryz.ntmps40 rfl ?_
 have hp:=Hp.start (M:=[]) (w:=w)
 (repeat (first|(with_reducible first|apply qF|apply qA|apply qE|apply qB)|(apply wlp;((first|apply qC|apply xF)<;>exact rfl);(first|exact fI rfl|exact fB rfl))|(apply wls;exact yA hp (jD rfl);rintro _ w ⟨b,rfl,hp⟩)))
 refine qM rfl (fun _=>?_) (fun h=>absurd (Int.natCast_nonneg x) h)
 (repeat (first|(with_reducible first|apply qF|apply qA)|(apply wlp;apply qC;exact fI rfl)))
 (apply wls;exact qH rfl qD7 rfl (c40 x _ (by omega)))
 rintro _ w1 ⟨rfl,hk⟩
 have hp:=hp.call hk
 rw [Int.toNat_natCast]
 (apply wls;exact qH rfl qD7 rfl (c40 1 _ (by decide)))
 rintro _ w2 ⟨rfl,hk⟩
 have hp:=hp.call hk
 (repeat (first|(with_reducible first|apply qE|apply qB|apply jV|apply qT)|(apply wlp;((apply xJ;exact rfl)<;>exact rfl);exact fA3 rfl)|(apply zG;exact vK hp 0 rfl rfl rfl rfl (qQ rfl) rfl;rintro _ w ⟨rfl,hp⟩)))
 exact yG rfl rfl rfl rfl (hp.agg_blk 0 rfl rfl) ⟨_,rfl,rfl,hp.keeps⟩
theorem p39 (x:Nat) (w:World) (hx:x≤9223372036854775807):Ret Tryz.prog 39 [RV x 1] w (fun v w'=>v = .string (xD x)∧Keeps [] w w'):=by
 have hfx:Fit x:=Fit.small (by omega)
 have hR:Red x 1:=⟨Nat.gcd_one_right x,by decide,hfx,qBo⟩
 refine Ret.of_WP Tryz.func39 rfl Tryz.ntmps39 rfl ?_
 have hp:=Hp.start (M:=[]) (w:=w)
 (repeat (first|(with_reducible first|apply qF|apply qA|apply qE|apply qB)|(apply wlp;((first|apply qD|(apply jQ;exact rfl))<;>(first|exact rfl|exact hp.agg_blk 0 rfl rfl));(first|exact fT rfl|exact fA3 rfl))|(apply wls;exact qE1 hp rfl;rintro _ w ⟨b,rfl,hp⟩)))
 (apply wls;exact qH rfl jA9 rfl (p84 hR _))
 rintro _ w1 ⟨rfl,hk⟩
 have hp:=hp.call hk
 (repeat (first|(with_reducible first|apply qF|apply qA|apply qE|apply qB)|(apply wlp;((first|apply qS|(apply qJ;exact rfl))<;>(first|exact rfl|exact hp.cell 0 rfl rfl));(first|exact fP rfl|exact fT rfl))|(apply zG;exact vK hp 0 rfl rfl rfl rfl (qQ rfl) rfl;rintro _ w ⟨rfl,hp⟩)))
 (apply wls;exact qH rfl qV3 rfl (p85 x _ hx))
 rintro _ w2 ⟨rfl,hk⟩
 have hp:=hp.call hk
 (repeat (first|(with_reducible first|apply qF|apply qA|apply qE|apply qB)|(apply wlp;((first|apply qD|apply qS|(apply qJ;exact rfl))<;>(first|exact rfl|exact hp.cell 0 rfl rfl));(first|exact fB rfl|exact fP rfl|exact fT rfl))))
 refine jI rfl ?_
 (repeat (with_reducible first|apply qF|apply qB|apply qL))
 refine jX jW (by kernel_rfl) (fun w'=>Hp _ _ w' _) hp.drew ?_
 have hp:=hp.drew
 (repeat ((apply wdp;exact rfl);(intro w hp;intros;((first|apply qS|(apply qJ;exact rfl))<;>(first|exact rfl|exact hp.cell 0 rfl rfl)));(intros;(first|exact fP rfl|exact fT rfl))))
 (apply wds;exact rfl;exact qH rfl qD7 rfl (c40 1 _ (by decide)))
 rintro _ w3 ⟨rfl,hk⟩
 have hp:=hp.call hk
 refine ⟨hp,?_⟩
 (apply wds;exact rfl;exact qH rfl qQ9 rfl (c50 1 1 _ qBo qBo))
 rintro _ w4 ⟨rfl,hk⟩
 have hp:=hp.call hk
 refine ⟨hp,?_⟩
 (repeat ((apply wdp;exact rfl);(intro w hp;intros;((apply zJ;(first|exact rfl|exact jR rfl (by assumption)))<;>exact rfl));(intros;exact fB rfl)))
 refine jL ?_
 (repeat with_reducible apply qB)
 refine jI rfl ?_
 (repeat (first|(with_reducible first|apply qF|apply qA|apply qE|apply qB|apply qT|apply qL)|(apply wlp;(first|apply qC|apply qD);exact fT rfl)))
 exact qU rfl rfl ⟨_,rfl,rfl,hp.keeps⟩
theorem p12 (x:Nat) (w:World) (hx:x≤9223372036854775807):Ret Tryz.prog 12 [.int .i64 (x:Int)] w (fun v w'=>v = .string (xD x)∧Keeps [] w w'):=by
 refine Ret.of_WP Tryz.func12 rfl Tryz.ntmps12 rfl ?_
 have hp:=Hp.start (M:=[]) (w:=w)
 (repeat (first|(with_reducible first|apply qF|apply qA|apply qE|apply qB)|(apply wlp;(first|apply qC|apply qD);(first|exact fI rfl|exact fT rfl))))
 (apply wls;exact qH rfl jAu rfl (p40 x _ hx))
 rintro _ w1 ⟨rfl,hk⟩
 have hp:=hp.call hk
 (apply wls;exact qH rfl jAv rfl (p39 x _ hx))
 rintro _ w2 ⟨rfl,hk⟩
 have hp:=hp.call hk
 (repeat (first|(with_reducible first|apply qE|apply qB|apply qT)|(apply wlp;apply qD;exact fT rfl)))
 exact qU rfl rfl ⟨_,rfl,rfl,hp.keeps⟩
def xN (key idx:Nat):ByteArray:=(((⟨#[98,111,120,47]⟩:ByteArray) ++ xD key) ++ (⟨#[47]⟩:ByteArray)) ++ xD idx
theorem qJ8 {key idx:Nat} (h1:key≤9223372036854775807) (h2:idx≤9223372036854775807):((⟨#[98,111,120,47]⟩:ByteArray) ++ xD key).size≤23∧(((⟨#[98,111,120,47]⟩:ByteArray) ++ xD key) ++ (⟨#[47]⟩:ByteArray)).size≤24∧(xN key idx).size≤43:=by
 have e1:=xY h1
 have e2:=xY h2
 have ha:∀ a b:ByteArray,(a ++ b).size = a.size + b.size:=fun a b=>by rw [← xG,vG,List.length_append,xG,xG]
 have e3:(⟨#[98,111,120,47]⟩:ByteArray).size = 4:=rfl
 have e4:(⟨#[47]⟩:ByteArray).size = 1:=rfl
 unfold xN
 simp only [ha,e3,e4]
 omega
theorem jCj (key idx:Nat) (w:World) (h1:key≤9223372036854775807) (h2:idx≤9223372036854775807):Ret Tryz.prog 131 [.int .i64 (key:Int),.int .i64 (idx:Int)] w (fun v w'=>v = .agg (hv (xN key idx)).toArray∧Keeps [] w w'):=by
 obtain ⟨l1,l2,l3⟩:=qJ8 h1 h2
 have e1:=xY h1
 have e2:=xY h2
 refine Ret.of_WP Tryz.func131 rfl Tryz.ntmps131 rfl ?_
 have hp:=Hp.start (M:=[]) (w:=w)
 (repeat (with_reducible first|apply qF|apply qA))
 (apply wls;exact zR (cs:=List.replicate 32 (u8 0)) (m:=32) hp (jD rfl) rfl rfl;rintro _ w1 ⟨b,rfl,hp⟩)
 (repeat (with_reducible first|apply qF|apply qA|apply qE|apply qB))
 (apply wlp;exact qC;exact fI rfl)
 (apply wls;exact qH rfl qQq rfl (qZl key _ h1))
 rintro _ w2 ⟨rfl,hk⟩
 have hp:=hp.call hk
 (apply wlp;exact jY rfl rfl (by show 4 + _≤_;omega);exact fT rfl)
 (apply wlp;exact jY rfl rfl (by show _ + 1≤_;omega);exact fT rfl)
 (apply wlp;exact qC;exact fI rfl)
 (apply wls;exact qH rfl qQq rfl (qZl idx _ h2))
 rintro _ w3 ⟨rfl,hk⟩
 have hp:=hp.call hk
 (apply wlp;exact jY rfl rfl (by omega);exact (congrArg Value.string (show _ = xN key idx from rfl)))
 (apply wls;exact qH rfl qR1 rfl (qZo (xN key idx) _ (by omega)))
 rintro _ w4 ⟨rfl,hk⟩
 have hp:=hp.call hk
 (apply zG;exact zD (cs:=hv (xN key idx)) hp 0 rfl rfl rfl rfl (by rw [kM];exact qQ rfl) (by rw [kM];rfl) (by unfold hv;rfl);rintro _ w5 ⟨rfl,hp⟩)
 have hp:Hp w [] w5 [blk b 32 (yW (qV (List.replicate 32 (u8 0))) 0 (hv (xN key idx))) 175]:=hp
 rw [xE (qCw _ (xN key idx))] at hp
 (repeat (with_reducible first|apply qE|apply qB|apply qT))
 refine yG rfl rfl rfl rfl (hp.agg_blk 0 rfl rfl) ⟨_,rfl,?_,hp.keeps⟩
 exact qIl (qJh (hv (xN key idx)) (kM _))
end Go.Proofs.YtbgldmoikimmpaaGreatDoor
namespace Go.Eng
def It2 {α:Type} (P:Program) (g:FuncId) (lb:List Value) (enc enc2:α→Value) (xs:List α) (M:List Nat) (w:World):Prop:=
 ∀ (l:Nat) (J:List α→World→Prop),l < w.heap.size→(∀ (a:Addr) (v:Value),w.cell? a = some v→a.block ≠ l) →
  (∀ pre x W1,J pre W1→(∃ suf,xs = pre ++ x :: suf)→YieldAt Fence.wide 0 P l #[enc x,enc2 x] W1 fun e W'=>e = .returned (.bool true)∧J (pre ++ [x]) W'∧Keeps (l :: M) W1 W') →
  (∀ pre W W',J pre W→Priv w.heap.size W W'→J pre W')→J [] w →
  Ret P g (.func (.yield l) #[] #[] :: lb) w (fun _ W'=>J xs W')
section
variable {P:Program} {n:FrK} {Q:Exit→Fr→World→Prop} {QA:Exit→Act→World→Prop} {F:Fr} {w:World}
theorem jBg (t:Array Value) (p q:Nat) (v u:Value):((#[p,q]:Array Nat).zip #[v,u]).foldl (fun tmps (t,a)=>tmps.setIfInBounds t a) t = (t.setIfInBounds p v).setIfInBounds q u:=by
 simp
theorem qG2 {α:Type} {id p q sz:Nat} {ds:List Deferred} {assign body:Code} {gop:Operand} {gf:FuncId} {lb:List Value}
  (hg:ev ⟨sz,ds,none⟩ F gop = .func (.func gf) #[] lb.toArray) (eg:qX P gf)
  (enc enc2:α→Value) (xs:List α) (M:List Nat) (hM:∀ k ∈ M,k < w.heap.size)
  (I:List α→World→Prop) (hI:∀ pre W W',I pre W→Priv w.heap.size W W'→I pre W') (h0:I [] w)
  (hit:∀ W1,Keeps [] w W1→W1.heap.size = w.heap.size + 2→It2 P gf lb enc enc2 xs M W1) (F1:α→Fr)
  (hassign:∀ (l:Nat) (x:α) (W:World),WP P ⟨sz,[],some l⟩ assign (fun e F' W'=>e = .normal∧F' = F1 x∧W' = W) ((F.put p (enc x)).put q (enc2 x)) W)
  (hbody:∀ (l:Nat) (pre:List α) (x:α) (W:World),(∃ suf,xs = pre ++ x :: suf)→I pre W→WP P ⟨sz,[],some l⟩ body (fun e _ W'=>e = .normal∧I (pre ++ [x]) W'∧Keeps M W W') (F1 x) W)
  (hdone:∀ (D:Nat) (W:World),w.heap.size≤D→I xs W→W.heap[D]? = some (.deferred (some []))→QA .normal (act ⟨sz,{ target:=.collected D,args:=#[] } :: ds,none⟩ F) W) :
  WPA P ⟨sz,ds,none⟩ (.block id (.rangeFunc gop #[p,q] assign body)) QA F w:=by
 unfold WPA
 rw [FrK.fence_none rfl]
 refine wpIn_block (wpIn_rangeFunc ?_)
 intro fn hfn
 obtain ⟨rec,hrec⟩:∃ rec:LoopState→Option Code→Loop,rec = fun st pe=>{ state:=st,pending:=pe,fn,tmps:=(act ⟨sz,ds,none⟩ F).tmps,params:=#[p,q],assign,body,defers:=w.heap.size }:=⟨_,rfl⟩
 obtain ⟨W1,hW1⟩:∃ W1,(w.alloc (.deferred (some []))).alloc (.loop (rec .ready none)) = W1:=⟨_,rfl⟩
 have hL1:W1.heap[w.heap.size + 1]? = some (.loop (rec .ready none)):=by
  rw [← hW1]
  have:=World.alloc_heap_new (w.alloc (.deferred (some []))) (.loop (rec .ready none))
  rwa [World.size_alloc] at this
 have hK1:W1.heap[w.heap.size]? = some (.deferred (some [])):=by
  rw [← hW1]
  exact (Go.RowKit.Below.heap_alloc _ _ _ (by simp)).trans (World.alloc_heap_new w _)
 have hkp:Keeps [] w W1:=by
  rw [← hW1]
  exact (qB8 w _).trans (qB8 _ _) (by simp)
 have hsz:W1.heap.size = w.heap.size + 2:=by rw [← hW1];simp
 have hpw:Priv w.heap.size w W1:=⟨hkp.os,hkp.tape,hkp.output,hkp.size,fun k hk=>hkp.block k hk (by simp)⟩
 refine ⟨w.heap.size + 1,[{ target:=.collected w.heap.size,args:=#[] }],W1,{ target:=.fn (.func gf) lb.toArray,args:=#[.func (.yield (w.heap.size + 1)) #[] #[]] },W1,gf,
  #[.func (.yield (w.heap.size + 1)) #[] #[]] ++ lb.toArray,W1,?_,?_,fun _ _=>trivial,?_,fun h=>(by cases h),?_⟩
 ·rw [← hW1,hrec]
  exact run_enterLoop_outer _ _ _ _ _
 ·rw [zZ]
  simp only [resolve,hg]
  simp [go_sem]
  rfl
 ·have:=eg (#[.func (.yield (w.heap.size + 1)) #[] #[]] ++ lb.toArray) W1
  simp [invoke,go_sem]
  simpa using this
 ·have hc:=hit W1 hkp hsz (w.heap.size + 1) (fun pre W=>I pre W∧W.heap[w.heap.size + 1]? = some (.loop (rec .ready none))∧W.heap[w.heap.size]? = some (.deferred (some []))) (by omega) (fun a v hc e=>by simp [World.cell?,e,hL1] at hc) ?_ ?_ ⟨hI _ _ _ h0 hpw,hL1,hK1⟩
  ·have e:(#[.func (.yield (w.heap.size + 1)) #[] #[]] ++ lb.toArray:Array Value) = (.func (.yield (w.heap.size + 1)) #[] #[] :: lb).toArray:=by simp
   rw [e]
   refine callsIn_wide.2 (Calls.mono hc ?_)
   rintro e W2 ⟨v,rfl,hi,hl,hk⟩
   refine ⟨none,_,by have:=run_endLoop (P:=P) hl (by rw [hrec];simp);rw [hrec] at this;exact this,?_⟩
   exact hdone _ _ (Nat.le_refl _) (hI _ _ _ hi (Priv.put _ _ (by omega))) ((World.putObj_heap_other (by omega)).trans hk)
  ·rintro pre x W ⟨hi,hl,hk⟩ hsuf
   have hlt:w.heap.size + 1 < W.heap.size:=(Array.getElem?_eq_some_iff.1 hl).1
   have hy:=run_yield (P:=P) (args:=#[enc x,enc2 x]) hl (by rw [hrec];rfl)
   rw [hrec] at hy
   rw [← hrec] at hy
   have htm:((#[p,q]:Array Nat).zip #[enc x,enc2 x]).foldl (fun tmps (t,a)=>tmps.setIfInBounds t a) (act ⟨sz,ds,none⟩ F).tmps = (act ⟨sz,[],some (w.heap.size + 1)⟩ ((F.put p (enc x)).put q (enc2 x))).tmps:=by
    rw [jBg]
    have h1:=congrArg Act.tmps (xW ⟨sz,ds,none⟩ F (some p) (enc x))
    have h2:=congrArg Act.tmps (xW ⟨sz,ds,none⟩ (F.put p (enc x)) (some q) (enc2 x))
    have h3:(act ⟨sz,ds,none⟩ F).tmps.setIfInBounds p (enc x) = (act ⟨sz,ds,none⟩ (F.put p (enc x))).tmps:=h1
    rw [h3]
    exact h2
   refine ⟨fn,_,assign,body,by rw [hrec] at hy;exact hy,?_⟩
   rw [htm]
   refine roundIn_of_wpIn hfn ?_
   refine wpIn_mono (hassign (w.heap.size + 1) x W) ?_
   rintro e a1 w1 ⟨F',rfl,rfl,rfl,rfl⟩
   refine ⟨_,run_beginRound hl (by rw [hrec]),?_⟩
   obtain ⟨W2,hW2⟩:∃ W2,W2 = w1.putObj (w.heap.size + 1) (.loop { rec .ready none with state:=.busy }):=⟨_,rfl⟩
   have hl2:W2.heap[w.heap.size + 1]? = some (.loop { rec .ready none with state:=.busy }):=by rw [hW2];exact World.putObj_heap_same hlt
   have hk2:W2.heap[w.heap.size]? = some (.deferred (some [])):=by rw [hW2];exact (World.putObj_heap_other (by omega)).trans hk
   have hi2:I pre W2:=by rw [hW2];exact hI _ _ _ hi (Priv.put _ _ (by omega))
   have hkp2:Keeps [w.heap.size + 1] w1 W2:=by rw [hW2];exact qBp _ _ _
   rw [← hW2]
   refine wpIn_mono (hbody (w.heap.size + 1) pre x W2 hsuf hi2) ?_
   rintro e a3 W3 ⟨F3,rfl,rfl,hi3,hk3⟩
   have hlt2:=(Array.getElem?_eq_some_iff.1 hl2).1
   have hl3:W3.heap[w.heap.size + 1]? = some (.loop { rec .ready none with state:=.busy }):=(hk3.block _ hlt2 (fun hm=>by have:=hM _ hm;omega)).trans hl2
   have hd3:W3.heap[w.heap.size]? = some (.deferred (some [])):=(hk3.block _ (by omega) (fun hm=>by have:=hM _ hm;omega)).trans hk2
   have hr:=run_endRound (P:=P) none hl3
   refine ⟨_,_,hr,rfl,⟨hI _ _ _ hi3 (Priv.put _ _ (by omega)),?_,(World.putObj_heap_other (by omega)).trans hd3⟩,?_⟩
   ·rw [World.putObj_heap_same (Array.getElem?_eq_some_iff.1 hl3).1,hrec]
    rfl
   ·have s1:Keeps ((w.heap.size + 1) :: M) w1 W2:=⟨hkp2.os,hkp2.tape,hkp2.output,hkp2.size,fun k hk hm=>hkp2.block k hk (by simp at hm ⊢;exact hm.1)⟩
    have s2:=s1.trans hk3 (fun k hk=>.inr (by simp [hk]))
    exact s2.trans (qBp W3 (w.heap.size + 1) _) (fun k hk=>.inr (by simp at hk;simp [hk]))
  ·rintro pre W W' ⟨hi,hl,hk⟩ hp
   exact ⟨hI _ _ _ hi (hp.mono (by omega)),(hp.block _ (by omega)).trans hl,(hp.block _ (by omega)).trans hk⟩
end
theorem Keeps.priv {M:List Nat} {W W':World} {B:Nat} (h:Keeps M W W') (hB:B≤W.heap.size) (hM:∀ k ∈ M,B≤k):Priv B W W':=
 ⟨h.os,h.tape,h.output,h.size,fun k hk=>h.block k (by omega) (fun hm=>by have:=hM k hm;omega)⟩
theorem qH5 {P:Program} {n:FrK} {c:Code} {QA:Exit→Act→World→Prop} {F:Fr} {w:World} (S:List (Nat × Value)) (hS:qAt F S) (h:∀ F0:Fr,WPA P n c QA (F0.puts S) w):WPA P n c QA F w:=by
 rw [qA5 hS]
 exact h F
theorem qJx {P:Program} {n n':FrK} {y:Code} {QA:Exit→Act→World→Prop} {F:Fr} {w:World} (hr:n'.ro = none) (hr':n.ro = none) (h:WPA P n y QA F w):(Exit.then (fun a w=>y.wpIn n'.fence 0 P QA a w) QA) .normal (act n F) w:=by
 show y.wpIn n'.fence 0 P QA (act n F) w
 rw [FrK.fence_none hr]
 unfold WPA at h
 rw [FrK.fence_none hr'] at h
 exact h
theorem Hp.adopt1 {W:World} {b:Nat} {φ:Obj→Prop} (h:∃ o,W.heap[b]? = some o∧φ o):Hp W [b] W [(some b,φ)]:=by
 obtain ⟨o,ho,hr⟩:=h
 exact (Hp.start (M:=[b]) (w:=W)).adopt (b:=b) (o:=o) (by simp) ho hr (fun i p hi=>by simp at hi)
theorem Hp.newer {w0 w:World} {L:List Ent} (h:Hp w0 [] w L) {i b:Nat} {φ:Obj→Prop} (hi:L[i]? = some (some b,φ)):w0.heap.size≤b∧b < w.heap.size:=by
 refine ⟨?_,h.lt hi rfl⟩
 rcases h.own i _ hi b rfl with h|h
 ·exact h
 ·cases h
theorem Hp.ne {w0 w:World} {L:List Ent} (h:Hp w0 [] w L) {i j a b:Nat} {φ ψ:Obj→Prop} (hi:L[i]? = some (some a,φ)) (hj:L[j]? = some (some b,ψ)) (hij:i ≠ j):a ≠ b:=by
 rintro rfl
 exact h.dis i j _ _ hi hj hij a rfl rfl
end Go.Eng
namespace Go.Eng
section
variable {P:Program} {ops:Array Oper} {nd:Oper→Bool} {G:World→Prop} {K:Act→World→Prop} {Q:Exit→Act→World→Prop}
theorem qIk {n:FrK} {wG:World} (hwG:G wG) (hok:uH P ops nd = true) (hK:∀ a w,K a w→Q .normal a w):∀ (fuel:Nat) (listed:Array Bool) (a:Act) (w:World),listed.size = ops.size→(left ops listed).length≤fuel →
  (∀ i,i < ops.size→listed.getD i true = true→∀ j,((Region.before ops).getD i 0).testBit j = true→listed.getD j false = true) →
  (∀ j ∈ left ops listed,jZ (jJ ops j).op = false→wl P (jJ ops j).op = false→G w)→wpD P ops nd G K ((left ops listed).map (jJ ops)) a w→wpAnyIn n.fence 0 P .any ops Q fuel listed a w:=by
 intro fuel
 have done:∀ (listed:Array Bool) (a:Act) (w:World),left ops listed = []→wpD P ops nd G K ((left ops listed).map (jJ ops)) a w→Q .normal a w:=by
  intro listed a w hl h
  rw [hl] at h
  exact hK _ _ h
 have hrd:∀ (listed:Array Bool) i,i ∈ Region.ready .any ops listed ↔ i < ops.size∧listed.getD i true = false∧∀ e ∈ (jJ ops i).after.toList,Region.binds .any e = true→listed.getD e.on false = true:=by
  intro listed i
  simp only [Region.ready,List.mem_filter,List.mem_range,Bool.and_eq_true,Bool.not_eq_true']
  constructor
  ·rintro ⟨h1,h2,h3⟩
   refine ⟨h1,h2,?_⟩
   rw [Array.getElem?_eq_getElem h1] at h3
   simp only [Option.map_some,Option.getD_some] at h3
   rw [Array.all_eq_true_iff_forall_mem] at h3
   intro e he hb
   have:=h3 e (by simpa [jJ,h1] using he)
   rw [hb] at this
   simpa using this
  ·rintro ⟨h1,h2,h3⟩
   refine ⟨h1,h2,?_⟩
   rw [Array.getElem?_eq_getElem h1]
   simp only [Option.map_some,Option.getD_some]
   rw [Array.all_eq_true_iff_forall_mem]
   intro e he
   cases hb:Region.binds .any e
   ·rfl
   ·simpa using h3 e (by simpa [jJ,h1] using he) hb
 induction fuel with
 | zero=>
  intro listed a w hsz hlen _ _ h
  have hl:left ops listed = []:=List.eq_nil_of_length_eq_zero (by omega)
  refine ⟨?_,done _ _ _ hl h⟩
  rw [List.eq_nil_iff_forall_not_mem]
  intro i hi
  have:=(hrd listed i).1 hi
  have hm:i ∈ left ops listed:=zV.2 ⟨this.1,this.2.1⟩
  rw [hl] at hm
  cases hm
 | succ fuel ih=>
  intro listed a w hsz hlen hcl hG h
  refine ⟨fun hnone=>?_,fun i hi=>?_⟩
  ·cases hl:left ops listed with
   | nil=>exact done _ _ _ hl h
   | cons i0 rest=>
    exfalso
    have hm:i0 ∈ left ops listed:=by rw [hl];simp
    obtain ⟨h1,h2⟩:=zV.1 hm
    have:i0 ∈ Region.ready .any ops listed:=by
     refine (hrd listed i0).2 ⟨h1,h2,fun e he hb=>?_⟩
     have hlt:=yJ hok h1 e he hb
     have hs:=yD ops listed
     rw [hl] at hs
     by_cases hx:listed.getD e.on true = false
     ·have hm':e.on ∈ left ops listed:=zV.2 ⟨by omega,hx⟩
      rw [hl] at hm'
      rcases List.mem_cons.1 hm' with e1|e1
      ·omega
      ·have:=(List.pairwise_cons.1 hs).1 _ e1
       omega
     ·have hx':listed.getD e.on true = true:=by simpa using hx
      rw [Array.getD_eq_getD_getElem?] at hx' ⊢
      rw [Array.getElem?_eq_getElem (show e.on < listed.size by omega)] at hx' ⊢
      simpa using hx'
    rw [hnone] at this
    cases this
  ·obtain ⟨h1,h2,h3⟩:=(hrd listed i).1 hi
   have hm:i ∈ left ops listed:=zV.2 ⟨h1,h2⟩
   have hready:∀ j,((Region.before ops).getD i 0).testBit j = true→listed.getD j false = true:=by
    intro j hb
    obtain ⟨e,he,hbd,hor⟩:=vH h1 hb
    have hl:=h3 e he hbd
    rcases hor with rfl|hor
    ·exact hl
    ·have hlt:=yJ hok h1 e he hbd
     refine hcl e.on (by omega) ?_ j hor
     rw [Array.getD_eq_getD_getElem?] at hl ⊢
     rw [Array.getElem?_eq_getElem (show e.on < listed.size by omega)] at hl ⊢
     simpa using hl
   have hpull:=qZi (P:=P) (G:=G) (K:=K) hwG i (left ops listed) a w h hm (yD _ _) (by
    intro j hj hji
    rcases qE8 hok h1 hji with hb|hb
    ·exfalso
     obtain ⟨hj1,hj2⟩:=zV.1 hj
     obtain ⟨e,he,hbd,hor⟩:=vH h1 hb
     have hl:=h3 e he hbd
     have hjl:listed.getD j false = true:=by
      rcases hor with rfl|hor
      ·exact hl
      ·have hlt:=yJ hok h1 e he hbd
       refine hcl e.on (by omega) ?_ j hor
       rw [Array.getD_eq_getD_getElem?] at hl ⊢
       rw [Array.getElem?_eq_getElem (show e.on < listed.size by omega)] at hl ⊢
       simpa using hl
     rw [Array.getD_eq_getD_getElem?] at hjl hj2
     rw [Array.getElem?_eq_getElem (show j < listed.size by omega)] at hjl hj2
     simp at hjl hj2
     rw [hjl] at hj2
     cases hj2
    ·exact hb)
   have hlen':(left ops (listed.setIfInBounds i true)).length≤fuel:=by
    rw [vV h1 hsz]
    have:((left ops listed).filter (· != i)).length < (left ops listed).length:=by
     rw [List.length_filter_lt_length_iff_exists]
     exact ⟨i,hm,by simp⟩
    omega
   have hcl':∀ k,k < ops.size→(listed.setIfInBounds i true).getD k true = true→∀ j,((Region.before ops).getD k 0).testBit j = true→(listed.setIfInBounds i true).getD j false = true:=by
    intro k hk hkl j hb
    have hset:∀ (d:Bool) x,(listed.setIfInBounds i true).getD x d = if x = i then true else listed.getD x d:=by
     intro d x
     simp only [Array.getD_eq_getD_getElem?,Array.getElem?_setIfInBounds]
     by_cases hx:x = i
     ·subst hx
      simp [hsz,h1]
     ·rw [if_neg (fun e=>hx e.symm),if_neg hx]
    rw [hset] at hkl ⊢
    split
    ·rfl
    ·by_cases hki:k = i
     ·subst hki
      obtain ⟨e,he,hbd,hor⟩:=vH h1 hb
      have hl:=h3 e he hbd
      rcases hor with rfl|hor
      ·exact hl
      ·have hlt:=yJ hok h1 e he hbd
       refine hcl e.on (by omega) ?_ j hor
       rw [Array.getD_eq_getD_getElem?] at hl ⊢
       rw [Array.getElem?_eq_getElem (show e.on < listed.size by omega)] at hl ⊢
       simpa using hl
     ·rw [if_neg hki] at hkl
      exact hcl k hk hkl j hb
   have hnext:∀ a' w',(∀ j ∈ left ops (listed.setIfInBounds i true),jZ (jJ ops j).op = false→wl P (jJ ops j).op = false→G w')→wpD P ops nd G K (((left ops listed).filter (· != i)).map (jJ ops)) a' w'→wpAnyIn n.fence 0 P .any ops Q fuel (listed.setIfInBounds i true) a' w':=by
    intro a' w' hg hh
    rw [← vV h1 hsz] at hh
    exact ih _ a' w' (by simpa using hsz) hlen' hcl' hg hh
   have hsub:∀ j ∈ left ops (listed.setIfInBounds i true),j ∈ left ops listed∧j ≠ i:=by
    intro j hj
    rw [vV h1 hsz] at hj
    simpa using hj
   have hsame:∀ j ∈ left ops (listed.setIfInBounds i true),jZ (jJ ops j).op = false→wl P (jJ ops j).op = false→G w:=fun j hj=>hG j (hsub j hj).1
   have heff:jZ (jJ ops i).op = true→∀ w',(nd (jJ ops i) = true→G w')→∀ j ∈ left ops (listed.setIfInBounds i true),jZ (jJ ops j).op = false→wl P (jJ ops j).op = false→G w':=by
    intro hie w' hg j hj hjp hjw
    obtain ⟨hj1,hj2⟩:=zV.1 (hsub j hj).1
    rcases qE9 hok h1 hj1 hie hjp hjw with hn|hb
    ·exact hg hn
    ·exfalso
     have hjl:=hready j hb
     rw [Array.getD_eq_getD_getElem?] at hjl hj2
     rw [Array.getElem?_eq_getElem (show j < listed.size by omega)] at hjl hj2
     simp at hjl hj2
     rw [hjl] at hj2
     cases hj2
   have hio:ops[i]? = some (jJ ops i):=by simp [jJ,Array.getElem?_eq_getElem h1]
   unfold wpOpIn
   simp only [hio]
   by_cases hie:jZ (jJ ops i).op = true
   ·rw [if_pos hie] at hpull
    cases hw:Region.wanted (jJ ops i) (yielded ops a.tmps)
    ·simp only [Bool.false_eq_true,if_false]
     obtain ⟨hg,hh⟩:=hpull.2 hw
     exact ⟨fun _ _=>trivial,hnext _ _ (heff hie _ hg) hh⟩
    ·simp only [if_true]
     exact Step.wpIn (hpull.1 hw) fun v w' ⟨hg,hh⟩=>hnext _ _ (heff hie _ hg) hh
   ·rw [if_neg hie] at hpull
    obtain ⟨v,hv,hh⟩:=hpull
    rcases hv with ⟨hw,hr⟩|⟨hw,rfl⟩
    ·simp only [hw,if_true]
     refine Step.wpIn (R:=fun u w'=>u = v∧w' = w) (.inl ⟨v,w,?_,rfl,rfl⟩) ?_
     ·cases hwl:wl P (jJ ops i).op
      ·exact hr w (hG i hm (by simpa using hie) hwl)
      ·exact qJy hwl (hr wG hwG)
     rintro u w' ⟨rfl,rfl⟩
     exact hnext _ _ hsame hh
    ·simp only [hw,Bool.false_eq_true,if_false]
     exact ⟨fun _ _=>trivial,hnext _ _ hsame hh⟩
end
theorem qS2 {P:Program} {n:FrK} {Q:Exit→Fr→World→Prop} {F:Fr} {w:World} {id:Nat} {l:List Oper} (st:Bool) (hm:P.follows .mixedOrders = true) (hok:uH P l.toArray (qFe st) = true) (G:World→Prop) (hG:G w.drew)
  (h:wpd P n l.toArray st G l Q F w.drew):WP P n (.region id l.toArray true) Q F w:=by
 refine wpIn_region_any hm ?_
 refine qIk (G:=G) (K:=fun a w=>up n Q .normal a w) hG hok (fun _ _ h=>h) l.toArray.size _ _ _ (by simp) ?_ ?_ (fun _ _ _ _=>hG) ?_
 ·unfold left
  exact Nat.le_trans (List.length_filter_le _ _) (by simp)
 ·intro i hi hl
  have hi':i < l.length:=by simpa using hi
  simp [Array.getD_eq_getD_getElem?,hi'] at hl
 ·have e1:left l.toArray (Array.replicate l.toArray.size false) = List.range l.toArray.size:=by
   unfold left
   rw [List.filter_eq_self]
   intro i hi
   have:i < l.length:=by simpa using hi
   simp [Array.getD_eq_getD_getElem?,this]
  have e2:(List.range l.toArray.size).map (jJ l.toArray) = l:=by
   apply List.ext_getElem
   ·simp
   ·intro i h1 h2
    simp [jJ,Array.getD_eq_getD_getElem?,h2]
  rw [e1,e2]
  exact h
end Go.Eng
namespace Go.Eng
def lay:List (Nat × Nat)→Nat→Nat→List (Nat × Value)→Bool
 | [],_,_,[]=>true
 | (o',sz) :: pl,i,o,(j,v) :: ps=>Nat.beq j i && (Nat.beq o' o && (Nat.beq v.cells.size sz && lay pl (i + 1) (o + sz) ps))
 | _,_,_,_=>false
theorem qJi (place:Nat→Option (Nat × Nat)):∀ (ps:List (Nat × Value)) (pl:List (Nat × Nat)) (i o:Nat) (pre rest:List Value),(∀ j x,pl[j]? = some x→place (i + j) = some x)→lay pl i o ps = true→pre.length = o →
  rest.length = (pl.map (·.2)).sum→Instr.fill place (pre ++ rest).toArray ps = some (pre ++ ps.flatMap fun p=>p.2.cells.toList).toArray
 | [],[],i,o,pre,rest,_,_,_,hr=>by
  have:rest = []:=List.eq_nil_of_length_eq_zero (by simpa using hr)
  subst this
  simp [Instr.fill]
 | [],_ :: _,_,_,_,_,_,h,_,_=>by simp [lay] at h
 | _ :: _,[],_,_,_,_,_,h,_,_=>by simp [lay] at h
 | (j,v) :: ps,(o',sz) :: pl,i,o,pre,rest,hp,h,hpre,hr=>by
  simp only [lay,Bool.and_eq_true] at h
  obtain ⟨h1,h2,h3,h4⟩:=h
  have h1:j = i:=Nat.eq_of_beq_eq_true h1
  have h2:o' = o:=Nat.eq_of_beq_eq_true h2
  have h3:v.cells.size = sz:=Nat.eq_of_beq_eq_true h3
  subst h1 h2
  rw [List.map_cons,List.sum_cons] at hr
  have hpl:=hp 0 _ rfl
  rw [Nat.add_zero] at hpl
  have hvl:v.cells.toList.length = sz:=by simpa using h3
  have hz:v.cells.zipIdx.foldl (fun cs (x:Value × Nat)=>cs.setIfInBounds (o' + x.2) x.1) (pre ++ rest).toArray = (pre ++ v.cells.toList ++ rest.drop sz).toArray:=by
   rw [← Array.foldl_toList,Array.toList_zipIdx]
   have e:=qAg v.cells.toList (pre ++ rest) o' 0
   rw [Nat.add_zero,← hpre,qCt v.cells.toList pre rest (by omega),hvl] at e
   rw [← hpre]
   exact e
  simp only [Instr.fill,hpl]
  rw [if_neg (by simp [h3];omega)]
  have e2:v.cells.zipIdx.foldl (fun cs (x:Value × Nat)=>match x with|(c,j)=>cs.setIfInBounds (o' + j) c) (pre ++ rest).toArray = (pre ++ v.cells.toList ++ rest.drop sz).toArray:=hz
  rw [e2]
  have:=qJi place ps pl (j + 1) (o' + sz) (pre ++ v.cells.toList) (rest.drop sz) (fun q x hq=>by
   have:=hp (q + 1) x (by simpa using hq)
   rwa [show j + 1 + q = j + (q + 1) by omega]) h4 (by rw [List.length_append,hvl,hpre]) (by rw [List.length_drop];omega)
  rw [this,List.flatMap_cons,List.append_assoc]
theorem qKf {P:Program} {n:FrK} {w:World} {F:Fr} {d:Option Tmp} {ty:TypeId} {pos:String} {aft:Array Edge} {g:Option (Nat × Bool)} {t:TypeId} {fs:Array Field} {ps:Array (Nat × Operand)} {zs:List Value} {pl:List (Nat × Nat)} {vs:List (Nat × Value)}
  (ht:P.underlying t = some (.struct fs)) (hz:TZero P t (.agg zs.toArray)) (hpl:∀ w,(fs.mapM (fun f=>do pure (f.offset,← sizeOf f.type):Field→Sem (Nat × Nat))).run P w = .ok pl.toArray w) (hl:zs.length = (pl.map (·.2)).sum)
  (hvs:(ps.toList.map fun p=>(p.1,ev n F p.2)) = vs) (hlay:lay pl 0 0 vs = true):PV P n w F ⟨d,.build t ps,ty,pos,aft,g⟩ (.agg (vs.flatMap fun p=>p.2.cells.toList).toArray):=by
 refine qIz ht hz rfl hpl ?_
 have h:=qJi (pl.toArray[·]?) vs pl 0 0 [] zs (fun j x hx=>by rw [Nat.zero_add];simpa using hx) hlay rfl hl
 rw [List.nil_append,List.nil_append] at h
 have e:(ps.map fun (i,x)=>(i,ev n F x)).toList = vs:=by rw [uR,hvs]
 rw [e]
 exact h
end Go.Eng
namespace Go.Proofs.YtbgldmoikimmpaaGreatDoor
open Go.Eng Go.Dig Go.Sha Go.Grp Go.Sp
def eN (x:Nat):List Value:=[.int .i64 (x:Int)]
def fz {α β:Type} (f:α→β) (d:β) (l:List α) (i:Nat):List β:=(l.take i).map f ++ List.replicate (l.length - i) d
theorem qI4 {α β:Type} {f:α→β} {d:β} {l:List α}:fz f d l 0 = List.replicate l.length d:=by simp [fz]
theorem qKz {α β:Type} {f:α→β} {d:β} {l:List α}:fz f d l l.length = l.map f:=by simp [fz]
theorem qI5 {α β:Type} {f:α→β} {d:β} {l:List α} {i:Nat} (h:i≤l.length):(fz f d l i).length = l.length:=by
 simp only [fz,List.length_append,List.length_map,List.length_take,List.length_replicate]
 omega
theorem qKy {α β:Type} {f:α→β} {d:β} {l:List α} {i:Nat} (h:i < l.length):(fz f d l i).set i (f l[i]) = fz f d l (i + 1):=by
 unfold fz
 have e:((l.take i).map f).length = i:=by rw [List.length_map,List.length_take];omega
 rw [List.set_append_right _ _ (by omega),e,Nat.sub_self,show l.length - i = (l.length - (i + 1)) + 1 by omega,List.replicate_succ,List.set_cons_zero,List.take_succ_eq_append_getElem h,List.map_append,List.append_assoc]
 rfl
theorem wM {α β:Type} {s:Option Addr} {c:Nat} {l:List α} {l':List β} (h:SVL s c l) (e:l'.length = l.length):SVL s c l':=by
 unfold SVL at *
 rw [e]
 exact h
def jnN (ns:List Nat):ByteArray:=⟨(Lib.join ((ns.map xD).map (·.data.toList)) [47]).toArray⟩
def slT (wd:ByteArray) (ns:List Nat):ByteArray:=(wd ++ (⟨#[47]⟩:ByteArray)) ++ jnN ns
theorem qGt:∀ ns:List Nat,(∀ x ∈ ns,x≤9223372036854775807)→Lib.lens ((ns.map xD).map (·.data.toList))≤19 * ns.length
 | [],_=>Nat.le_refl _
 | x :: ns,h=>by
  have h1:=qGt ns fun y hy=>h y (List.mem_cons_of_mem _ hy)
  have h2:(xD x).data.toList.length≤19:=xY (h x List.mem_cons_self)
  unfold Lib.lens at *
  rw [List.map_cons,List.map_cons,List.map_cons,List.sum_cons,List.length_cons]
  omega
theorem qGw (ns:List Nat) (h:∀ x ∈ ns,x≤9223372036854775807):(Lib.join ((ns.map xD).map (·.data.toList)) [47]).length≤20 * ns.length:=by
 cases ns with
 | nil=>exact Nat.le_refl _
 | cons x ns=>
  have h1:=qGt (x :: ns) h
  rw [List.map_cons,List.map_cons,Lib.join_length,List.length_map,List.length_map]
  rw [List.map_cons,List.map_cons] at h1
  show 1 * ns.length + _≤20 * (ns.length + 1)
  have:(x :: ns).length = ns.length + 1:=rfl
  omega
theorem yE (a b:ByteArray):(a ++ b).size = a.size + b.size:=by rw [← xG,vG,List.length_append,xG,xG]
theorem qPu (ns:List Nat) (h:∀ x ∈ ns,x≤9223372036854775807):(jnN ns).size≤20 * ns.length:=qGw ns h
def pfA:List (Nat × Nat)→List Nat:=fun l=>l.map fun p=>p.1 ^ p.2 % 2305843009213691579
def pfK (x g h:Nat):Nat:=scP (bl (slT ⟨#[110,111,110,99,101]⟩ [x,g,h]))
def pfC (x g h:Nat):Nat:=scP (bl (slT ⟨#[101,113,117,97,108]⟩ [g,g ^ x % gP,h,h ^ x % gP,g ^ pfK x g h % gP,h ^ pfK x g h % gP]))
def pfZ (x g h:Nat):Nat:=(pfK x g h + pfC x g h * x % gQ) % gQ
def pfV (x g h:Nat):List Value:=[.int .i64 (pfC x g h:Int),.int .i64 (pfZ x g h:Int)]
attribute [local irreducible] PV StepF wpl wpd WP Ret
attribute [local irreducible] Fit ofN xD hv scP Lib.join pfK pfC pfZ
theorem p70 (wd:ByteArray) (ns:List Nat) (s:Option Addr) (c:Nat) (w:World) (hT:Tabs w) (hs:SlAt w 1 eN s ns) (hwd:wd.size≤100) (hn:ns.length≤100) (hb:∀ x ∈ ns,x≤9223372036854775807) :
  Ret Tryz.prog 70 [.string wd,.slice s ns.length c] w (fun v w'=>v = .int .i64 (scP (bl (slT wd ns)):Int)∧Keeps [] w w'):=by
 refine Ret.of_WP Tryz.func70 rfl Tryz.ntmps70 rfl ?_
 have hp:=Hp.start (M:=[]) (w:=w)
 (repeat (first|(with_reducible first|apply qF|apply qA|apply qE|apply qB)|(apply wlp;((first|apply qC|apply qD|(apply jC;exact rfl))<;>exact rfl);(first|exact fI rfl|exact fS rfl))))
 (apply wls;exact vL eS ⟨#[]⟩ hp rfl rfl rfl rfl rfl rfl rfl (by omega) rfl;rintro _ w1 ⟨b,rfl,hv,hp⟩)
 (repeat (first|(with_reducible first|apply qF|apply qK|apply qA|apply qE|apply qB)|(apply wlp;((first|apply qC|apply qD|(apply jC;exact rfl))<;>exact rfl);(first|exact fI rfl|exact fS rfl))))
 have hv:∀ i,i≤ns.length→SVL (some ⟨b,0,none⟩) ns.length (fz xD ⟨#[]⟩ ns i):=fun i hi=>wM hv (by rw [qI5 hi,List.length_replicate])
 refine jE ([6,7] ++ List.range' 13 11) (fun (i:Nat) F=>F.put 13 (.int .i64 (i:Int)))
  (fun i w'=>i≤ns.length∧Hp w [] w' [qW eS 9 1 (some ⟨b,0,none⟩) ns.length (fz xD ⟨#[]⟩ ns i)]) (fun i=>ns.length - i) 0 (qG (Same.eq .refl) rfl) ⟨Nat.zero_le _,by rw [qI4];exact hp⟩ ?_
 clear hp
 rintro u0 i w2 ⟨hi,hp⟩
 (repeat (first|(with_reducible first|apply qF|apply qA|apply qE|apply qB)|(apply wlp;(apply jA<;>exact rfl);exact fB rfl)))
 refine qM rfl (fun h=>?_) (fun h=>?_)
 ·have hlt:i < ns.length:=by omega
  have hlz:i < (fz xD ⟨#[]⟩ ns i).length:=by rw [qI5 hi];exact hlt
  obtain ⟨b0,o0,hs0,hc0⟩:=hs.base (by omega)
  have hci:=hc0 i _ (List.getElem?_eq_getElem hlt) 0 _ rfl
  have hbi:=hb _ (List.getElem_mem hlt)
  have hset:=qKy (f:=xD) (d:=⟨#[]⟩) hlt
  generalize ns[i] = x at hci hbi hset
  (repeat (first|(with_reducible first|apply qF|apply qK|apply qA|apply qE|apply qB|apply qL)|(apply wlp;((first|apply qC|apply qD|(apply qJ;exact rfl)|(apply qR;exact rfl))<;>(first|exact rfl|assumption|exact hp.old0 (by assumption)));(first|exact fI rfl|exact fP rfl|exact fS rfl))))
  (apply wls;exact qH rfl qMc rfl (p60 (x:Int) _ (hT.keep hp.keeps) (by omega) (by omega)))
  rintro _ w3 ⟨rfl,hk⟩
  have hp:=hp.call hk
  rw [← qId]
  (repeat (apply wlp;((apply qR;exact rfl)<;>(first|exact rfl|assumption));exact fP rfl))
  (apply zG;exact xO eS _ i (xD x) hp 0 rfl (hv i hi) hlz rfl rfl (fun _=>rfl) rfl rfl (qQ rfl);rintro _ w4 ⟨rfl,hp⟩)
  rw [hset] at hp
  (repeat (with_reducible first|apply qA|apply qE|apply qB|apply qZ))
  (apply wlp;(exact qY rfl rfl);exact qI (b:=((i + 1:Nat):Int)) (by rw [qN (by omega) (by omega)];omega))
  (repeat (first|(with_reducible first|apply qE|apply qB)|(apply wlp;apply qC;exact fI rfl)))
  exact ⟨i + 1,qG (Same.eq (by repeat (first|exact Same.hav|exact Same.refl|refine Same.put rfl ?_|refine Same.havs rfl ?_))) rfl,⟨by omega,hp⟩,by omega⟩
 obtain rfl:i = ns.length:=by omega
 have hv:=hv _ (Nat.le_refl _)
 rw [qKz] at hp hv
 have hj:=qGw ns hb
 have hjs:=qPu ns hb
 have hsA:=jS hp 0 rfl hv (fun _=>rfl)
 (repeat (first|(with_reducible first|apply qF|apply qA|apply qB|apply qO|apply jB)|((with_reducible apply qP);exact rfl)|(apply wlp;apply qC;exact fT rfl)))
 (apply wlp;exact jY rfl rfl (by show _ + 1≤_;omega);exact fT rfl)
 (repeat (apply wlp;apply qC;exact fS rfl))
 (apply wls;exact qH rfl qYd rfl (by
  have:=jCl (ns.map xD) ⟨#[47]⟩ b 0 ns.length w2 hsA (hp.lt (i:=0) rfl rfl) (by rw [List.length_map];omega) (by rw [List.length_map];exact Nat.le_refl _) (Nat.le_trans hj (by omega))
  rw [List.length_map] at this
  exact this))
 rintro _ w5 ⟨rfl,hk⟩
 have hp:=hp.call hk
 have h2:=yE wd (⟨#[47]⟩:ByteArray)
 have h3:(⟨#[47]⟩:ByteArray).size = 1:=rfl
 have h4:=yE (wd ++ (⟨#[47]⟩:ByteArray)) (jnN ns)
 (apply wlp;exact jY rfl rfl (by show _ + (jnN ns).size≤_;omega);exact congrArg Value.string (show _ = slT wd ns from rfl))
 (apply wls;exact qH rfl qYe rfl (jCm (slT wd ns) _ (hT.keep hp.keeps) (by unfold slT;omega)))
 rintro _ w6 ⟨rfl,hk⟩
 have hp:=hp.call hk
 (repeat (first|(with_reducible first|apply qE|apply qB|apply qT)|(apply wlp;apply qD;exact fI rfl)))
 exact qU rfl rfl ⟨_,rfl,rfl,hp.keeps⟩
end Go.Proofs.YtbgldmoikimmpaaGreatDoor
namespace Go.Proofs.YtbgldmoikimmpaaGreatDoor
open Go.Eng Go.Dig Go.Sha Go.Grp Go.Sp
theorem qI3:gP = 2305843009213691579:=rfl
theorem qBb:gQ = 1152921504606845789:=rfl
theorem qC1 (b e:Nat):b ^ e % gP < 2305843009213691579:=Nat.mod_lt _ (by decide)
theorem kQ {a:Nat} (h:Mb a):a < 2305843009213691579:=h.2.1
theorem qUw (x g h:Nat):pfK x g h < 1152921504606845789∧pfC x g h < 1152921504606845789∧pfZ x g h < 1152921504606845789:=by
 unfold pfK pfC pfZ
 exact ⟨qOi _,qOi _,Nat.mod_lt _ (by decide)⟩
attribute [local irreducible] PV StepF wpl wpd WP Ret
attribute [local irreducible] Fit ofN xD hv scP Lib.join pfK pfC pfZ Mb
theorem p71 (x k g xb kb:Nat) (w:World) (hx:x < 1152921504606845789) (hk:k < 1152921504606845789) (hg:g < 2305843009213691579) (h1:w.cell? ⟨xb,0,none⟩ = some (.int .i64 (x:Int))) (h2:w.cell? ⟨kb,0,none⟩ = some (.int .i64 (k:Int))) :
  Ret Tryz.prog 71 [.int .i64 (g:Int),.pointer (some ⟨xb,0,none⟩),.pointer (some ⟨kb,0,none⟩)] w (fun v w'=>v = .tuple #[.int .i64 ((g ^ x % gP:Nat):Int),.int .i64 ((g ^ k % gP:Nat):Int)]∧Keeps [] w w'):=by
 rw [qI3]
 refine Ret.of_WP Tryz.func71 rfl Tryz.ntmps71 rfl ?_
 have hp:=Hp.start (M:=[]) (w:=w)
 (repeat (first|(with_reducible first|apply qF|apply qA|apply qE|apply qB)|(apply wlp;apply qD;exact fI rfl)))
 refine jX jW (by kernel_rfl) (fun w'=>Hp _ _ w' _) hp.drew ?_
 have hp:=hp.drew
 (repeat ((apply wdp;exact rfl);(intro w hp;intros;((first|apply qC|(apply qJ;exact rfl))<;>(first|exact rfl|exact hp.old0 (by assumption))));(intros;exact fI rfl)))
 (apply wds;exact rfl;exact qH rfl qAd rfl (qDj g x 2305843009213691579 _ (by omega) (by omega) (by decide) (by decide)))
 rintro _ w1 ⟨rfl,hk⟩
 have hp:=hp.call hk
 refine ⟨hp,?_⟩
 (repeat ((apply wdp;exact rfl);(intro w hp;intros;((first|apply qC|(apply qJ;exact rfl))<;>(first|exact rfl|exact hp.old0 (by assumption))));(intros;exact fI rfl)))
 (apply wds;exact rfl;exact qH rfl qAd rfl (qDj g k 2305843009213691579 _ (by omega) (by omega) (by decide) (by decide)))
 rintro _ w2 ⟨rfl,hk⟩
 have hp:=hp.call hk
 refine ⟨hp,?_⟩
 (repeat ((apply wdp;exact rfl);(intro w hp;intros;apply qD);(intros;exact fI rfl)))
 refine jL ?_
 (repeat (with_reducible first|apply qB|apply qT))
 exact zX rfl rfl rfl ⟨_,rfl,rfl,hp.keeps⟩
theorem p26 (x g h:Nat) (w:World) (hT:Tabs w) (hx:x < 1152921504606845789) (hg:Mb g) (hh:Mb h) :
  Ret Tryz.prog 26 [.int .i64 (x:Int),.int .i64 (g:Int),.int .i64 (h:Int)] w (fun v w'=>v = .agg (pfV x g h).toArray∧Keeps [] w w'):=by
 have hgl:=kQ hg
 have hhl:=kQ hh
 obtain ⟨hkl,hcl,hzl⟩:=qUw x g h
 have hz:pfZ x g h = (pfK x g h + pfC x g h * x % gQ) % gQ:=by unfold pfZ;rfl
 have hkd:pfK x g h = scP (bl (slT ⟨#[110,111,110,99,101]⟩ [x,g,h])):=by unfold pfK;rfl
 have hcd:pfC x g h = scP (bl (slT ⟨#[101,113,117,97,108]⟩ [g,g ^ x % gP,h,h ^ x % gP,g ^ pfK x g h % gP,h ^ pfK x g h % gP])):=by unfold pfC;rfl
 refine Ret.of_WP Tryz.func26 rfl Tryz.ntmps26 rfl ?_
 have hp:=Hp.start (M:=[]) (w:=w)
 (repeat (first|(with_reducible first|apply qF|apply qA|apply qE|apply qB)|(apply wlp;apply qC;exact fI rfl)|(apply wls;exact vA hp (jD rfl);rintro _ w ⟨b,rfl,hp⟩)))
 (apply wls;exact qH rfl qC4 rfl (p69 g _ hg))
 rintro _ w1 ⟨rfl,hk⟩
 have hp:=hp.call hk
 (apply wlp;(apply zI<;>exact rfl);exact fB rfl)
 (apply wlp;apply qC;exact fB rfl)
 ((apply jO;exact rfl;exact rfl);(apply qC);(intros;exact fI rfl))
 (apply qAu;exact rfl;exact rfl;exact qH rfl qC4 rfl (p69 h _ hh);rintro _ w2 ⟨rfl,hk⟩;have hp:=hp.call hk)
 ((apply jO;exact rfl;exact rfl);((apply zI<;>exact rfl));(intros;exact fB rfl))
 (apply wlp;exact jU rfl rfl;exact fB rfl)
 (repeat (with_reducible first|apply qE|apply qB))
 refine jI rfl ?_
 (repeat (first|(with_reducible first|apply qF|apply qA|apply qB|apply qL)|(apply wlp;apply qC;exact fI rfl)))
 (apply wls;exact qH rfl qMd rfl (p49 (x:Int) 0 1152921504606845789 _ (by omega) (by omega) (by decide) (by decide) (by decide) (by decide)))
 rintro _ w3 ⟨rfl,hk⟩
 have hp:=hp.call hk
 have e1:((x:Int) + 0) % ((1152921504606845789:Nat):Int) = (x:Int):=by omega
 rw [e1]
 (repeat (first|(with_reducible first|apply qF|apply qA|apply qE|apply qB)|(apply wlp;((first|apply qC|(apply qJ;exact rfl))<;>(first|exact rfl|exact hp.cell 0 rfl rfl));exact fI rfl)|(apply wls;exact qBm hp (jD rfl) rfl;rintro _ w ⟨b,rfl,hp⟩)|(apply zG;exact xZ hp 0 rfl rfl rfl rfl (qQ rfl) rfl;rintro _ w ⟨rfl,hp⟩)))
 (apply wls;exact jP (cs:=[x,g,h].flatMap eN) hp rfl rfl rfl rfl rfl rfl rfl;rintro _ w6 ⟨nb,rfl,hp⟩)
 have hsA:SlAt w6 1 eN (some ⟨nb,0,none⟩) [x,g,h]:=kO [x,g,h] hp 0 rfl (fun _=>rfl)
 (apply wls;exact qH rfl qQa rfl (p70 ⟨#[110,111,110,99,101]⟩ [x,g,h] (some ⟨nb,0,none⟩) 3 _ (hT.keep hp.keeps) hsA (by decide) (by show 3≤100;decide) (by
  intro y hy
  rcases List.mem_cons.1 hy with rfl|hy
  ·omega
  rcases List.mem_cons.1 hy with rfl|hy
  ·omega
  rw [List.mem_singleton] at hy
  omega));rintro _ w7 ⟨rfl,hk⟩;have hp:=hp.call hk)
 rw [← hkd]
 have hp:=hp.tail
 (repeat (first|(with_reducible first|apply qF|apply qA|apply qE|apply qB)|(apply wlp;(first|apply qC|apply qD|apply vW);(first|exact fI rfl|exact fF2 rfl))|(apply wls;exact qBm hp (jD rfl) rfl;rintro _ w ⟨b,rfl,hp⟩)|(apply zG;exact xZ hp 0 rfl rfl rfl rfl (qQ rfl) rfl;rintro _ w ⟨rfl,hp⟩)))
 (apply wls;exact qH rfl qV6 rfl (p71 x (pfK x g h) g _ _ _ hx hkl hgl (hp.cell 1 rfl rfl) (hp.cell 0 rfl rfl));rintro _ w8 ⟨rfl,hk⟩;have hp:=hp.call hk)
 (repeat (first|(with_reducible first|apply qF|apply qA|apply qE|apply qB)|(apply wlp;((first|apply qC|apply qD|apply jK)<;>exact rfl);(first|exact fI rfl|exact fF2 rfl|exact fU rfl))))
 (apply wls;exact qH rfl qV6 rfl (p71 x (pfK x g h) h _ _ _ hx hkl hhl (hp.cell 1 rfl rfl) (hp.cell 0 rfl rfl));rintro _ w9 ⟨rfl,hk⟩;have hp:=hp.call hk)
 (repeat (first|(with_reducible first|apply qF|apply qA|apply qE|apply qB)|(apply wlp;((first|apply qC|apply qD|apply jK)<;>exact rfl);(first|exact fI rfl|exact fU rfl))))
 have b1:=qC1 g x
 have b2:=qC1 h x
 have b3:=qC1 g (pfK x g h)
 have b4:=qC1 h (pfK x g h)
 (apply wls;exact jP (cs:=[g,g ^ x % gP,h,h ^ x % gP,g ^ pfK x g h % gP,h ^ pfK x g h % gP].flatMap eN) hp rfl rfl rfl rfl rfl rfl rfl;rintro _ w10 ⟨nb,rfl,hp⟩)
 have hsA:SlAt w10 1 eN (some ⟨nb,0,none⟩) [g,g ^ x % gP,h,h ^ x % gP,g ^ pfK x g h % gP,h ^ pfK x g h % gP]:=kO [g,g ^ x % gP,h,h ^ x % gP,g ^ pfK x g h % gP,h ^ pfK x g h % gP] hp 0 rfl (fun _=>rfl)
 (apply wls;exact qH rfl qQa rfl (p70 ⟨#[101,113,117,97,108]⟩ [g,g ^ x % gP,h,h ^ x % gP,g ^ pfK x g h % gP,h ^ pfK x g h % gP] (some ⟨nb,0,none⟩) 6 _ (hT.keep hp.keeps) hsA (by decide) (by show 6≤100;decide) (by
  generalize g ^ x % gP = z1 at *
  generalize h ^ x % gP = z2 at *
  generalize g ^ pfK x g h % gP = z3 at *
  generalize h ^ pfK x g h % gP = z4 at *
  intro y hy
  simp only [List.mem_cons,List.not_mem_nil,or_false] at hy
  omega));rintro _ w11 ⟨rfl,hk⟩;have hp:=hp.call hk)
 rw [← hcd]
 have hp:=hp.tail
 (repeat (first|(with_reducible first|apply qF|apply qE|apply qB)|(apply wlp;apply qD;exact fI rfl)))
 refine xH jW (by kernel_rfl) (fun w'=>Hp _ _ w' _) hp.drew ?_
 have hp:=hp.drew
 (repeat ((apply wdp;exact rfl);(intro w hp;intros;((first|apply qC|(apply qJ;exact rfl))<;>(first|exact rfl|exact hp.cell 0 rfl rfl|exact hp.cell 1 rfl rfl)));(intros;exact fI rfl)))
 (apply wds;exact rfl;exact qH rfl qBf rfl (p52 (pfC x g h:Int) (x:Int) 1152921504606845789 _ (by omega) (by omega) (by omega) (by omega) (by decide) (by decide)))
 rintro _ w12 ⟨rfl,hk⟩
 have hp:=hp.call hk
 refine ⟨hp,?_⟩
 have e3:((pfC x g h:Nat):Int) * (x:Int) % ((1152921504606845789:Nat):Int) = ((pfC x g h * x % gQ:Nat):Int):=by rw [Int.natCast_emod,Int.natCast_mul,qBb]
 rw [e3]
 have hcx:pfC x g h * x % gQ < 1152921504606845789:=Nat.mod_lt _ (by decide)
 (apply wds;exact rfl;exact qH rfl qMd rfl (p49 (pfK x g h:Int) ((pfC x g h * x % gQ:Nat):Int) 1152921504606845789 _ (by omega) (by omega) (by omega) (by omega) (by decide) (by decide)))
 rintro _ w13 ⟨rfl,hk⟩
 have hp:=hp.call hk
 refine ⟨hp,?_⟩
 have e4:((pfK x g h:Nat):Int) + ((pfC x g h * x % gQ:Nat):Int) % ((1152921504606845789:Nat):Int) = ((pfC x g h * x % gQ:Nat):Int) + ((pfK x g h:Nat):Int):=by omega
 have e5:(((pfK x g h:Nat):Int) + ((pfC x g h * x % gQ:Nat):Int)) % ((1152921504606845789:Nat):Int) = (pfZ x g h:Int):=by
  rw [hz,← Int.natCast_add]
  exact (Int.natCast_emod _ _).symm
 rw [e5]
 (repeat ((apply wdp;exact rfl);(intro w hp;intros;((apply xJ;exact rfl)<;>exact rfl));(intros;exact fA2 rfl)))
 (apply kH;exact rfl;exact rfl;exact yN hp 2 rfl rfl rfl rfl (qQ rfl) rfl;rintro _ w14 ⟨rfl,hp⟩)
 refine jL ?_
 (repeat (with_reducible first|apply qB|apply qT))
 exact yG rfl rfl rfl rfl (hp.agg_blk 2 rfl rfl) ⟨_,rfl,rfl,hp.keeps⟩
theorem qZn (b a c z pb:Nat) (w:World) (hb:b < 2305843009213691579) (ha:a < 2305843009213691579) (hc:c < 1152921504606845789) (hz:z < 1152921504606845789) (h1:w.cell? ⟨pb,0,none⟩ = some (.int .i64 (c:Int))) (h2:w.cell? ⟨pb,1,none⟩ = some (.int .i64 (z:Int))) :
  Ret Tryz.prog 128 [.int .i64 (b:Int),.int .i64 (a:Int),.pointer (some ⟨pb,0,none⟩)] w (fun v w'=>v = .int .i64 (((b ^ z % gP) * (a ^ (gQ - c) % gP) % gP:Nat):Int)∧Keeps [] w w'):=by
 rw [qI3,qBb]
 refine Ret.of_WP Tryz.func128 rfl Tryz.ntmps128 rfl ?_
 have hp:=Hp.start (M:=[]) (w:=w)
 (repeat (first|(with_reducible first|apply qF|apply qA|apply qE|apply qB)|(apply wlp;apply qD;exact fI rfl)))
 refine jX jW (by kernel_rfl) (fun w'=>Hp _ _ w' _) hp.drew ?_
 have hp:=hp.drew
 (repeat ((apply wdp;exact rfl);(intro w hp;intros;((first|apply qC|apply qS|(apply qJ;exact rfl))<;>(first|exact rfl|exact hp.old0 (by assumption))));(intros;(first|exact fI rfl|exact fP rfl))))
 (apply wds;exact rfl;exact qH rfl qAd rfl (qDj b z 2305843009213691579 _ (by omega) (by omega) (by decide) (by decide)))
 rintro _ w1 ⟨rfl,hk⟩
 have hp:=hp.call hk
 refine ⟨hp,?_⟩
 (repeat ((apply wdp;exact rfl);(intro w hp;intros;((first|apply qC|apply qS|(apply qJ;exact rfl))<;>(first|exact rfl|exact hp.old0 (by assumption))));(intros;(first|exact fI rfl|exact fP rfl))))
 (apply wdp;exact rfl;(intro w hp;exact jN rfl rfl);exact qI (b:=((1152921504606845789 - c:Nat):Int)) (by rw [qN (by omega) (by omega)];omega))
 (apply wds;exact rfl;exact qH rfl qAd rfl (qDj a (1152921504606845789 - c) 2305843009213691579 _ (by omega) (by omega) (by decide) (by decide)))
 rintro _ w2 ⟨rfl,hk⟩
 have hp:=hp.call hk
 refine ⟨hp,?_⟩
 have b1:=qC1 b z
 have b2:=qC1 a (1152921504606845789 - c)
 rw [qI3] at b1 b2
 (apply wds;exact rfl;exact qH rfl qBf rfl (p52 _ _ 2305843009213691579 _ (by omega) (by omega) (by omega) (by omega) (by decide) (by decide)))
 rintro _ w3 ⟨rfl,hk⟩
 have hp:=hp.call hk
 refine ⟨hp,?_⟩
 (repeat ((apply wdp;exact rfl);(intro w hp;intros;apply qD);(intros;exact fI rfl)))
 refine jL ?_
 (repeat (with_reducible first|apply qB|apply qT))
 refine qU rfl rfl ⟨_,rfl,congrArg (Value.int .i64) ?_,hp.keeps⟩
 rw [Int.natCast_emod (_ * _),Int.natCast_mul]
theorem p72 (x g h:Nat) (w:World) (hT:Tabs w) (hx:x < 1152921504606845789) (hg:Mb g) (hh:Mb h) :
  Ret Tryz.prog 72 [.int .i64 (g:Int),.int .i64 ((g ^ x % gP:Nat):Int),.int .i64 (h:Int),.int .i64 ((h ^ x % gP:Nat):Int),.agg (pfV x g h).toArray] w (fun v w'=>v = .bool true∧Keeps [] w w'):=by
 have hgl:=kQ hg
 have hhl:=kQ hh
 have ha:=qCd hg x
 have hb:=qCd hh x
 have hal:=kQ ha
 have hbl:=kQ hb
 obtain ⟨hkl,hcl,hzl⟩:=qUw x g h
 have hz:pfZ x g h = (pfK x g h + pfC x g h * x % gQ) % gQ:=by unfold pfZ;rfl
 have hcd:pfC x g h = scP (bl (slT ⟨#[101,113,117,97,108]⟩ [g,g ^ x % gP,h,h ^ x % gP,g ^ pfK x g h % gP,h ^ pfK x g h % gP])):=by unfold pfC;rfl
 have s1:=qLm (g:=g) (x:=x) (k:=pfK x g h) (c:=pfC x g h) hg (by rw [qBb];omega)
 have s2:=qLm (g:=h) (x:=x) (k:=pfK x g h) (c:=pfC x g h) hh (by rw [qBb];omega)
 rw [← hz] at s1 s2
 have b3:=qC1 g (pfK x g h)
 have b4:=qC1 h (pfK x g h)
 have hV:pfV x g h = [.int .i64 (pfC x g h:Int),.int .i64 (pfZ x g h:Int)]:=by unfold pfV;rfl
 rw [hV]
 generalize e1:g ^ x % gP = a at *
 generalize e2:h ^ x % gP = a2 at *
 generalize g ^ pfK x g h % gP = r at *
 generalize h ^ pfK x g h % gP = s at *
 generalize pfC x g h = c at *
 generalize pfZ x g h = z at *
 clear hz hV
 refine Ret.of_WP Tryz.func72 rfl Tryz.ntmps72 rfl ?_
 have hp:=Hp.start (M:=[]) (w:=w)
 (repeat (first|(with_reducible first|apply qF|apply qA|apply qE|apply qB)|(apply wlp;(first|apply qC|apply qD);(first|exact fI rfl|exact fB rfl))|(apply wls;exact uY hp rfl;rintro _ w ⟨b,rfl,hp⟩)))
 (apply wls;exact qH rfl qC4 rfl (p69 g _ hg))
 rintro _ w1 ⟨rfl,hk⟩
 have hp:=hp.call hk
 (apply wlp;(apply zI<;>exact rfl);exact fB rfl)
 (apply wlp;apply qC;exact fB rfl)
 ((apply jO;exact rfl;exact rfl);(apply qC);(intros;exact fI rfl))
 (apply qAu;exact rfl;exact rfl;exact qH rfl qC4 rfl (p69 a _ ha);rintro _ w2 ⟨rfl,hk⟩;have hp:=hp.call hk)
 ((apply jO;exact rfl;exact rfl);((apply zI<;>exact rfl));(intros;exact fB rfl))
 (apply wlp;exact jU rfl rfl;exact fB rfl)
 (apply wlp;apply qC;exact fB rfl)
 ((apply jO;exact rfl;exact rfl);(apply qC);(intros;exact fI rfl))
 (apply qAu;exact rfl;exact rfl;exact qH rfl qC4 rfl (p69 h _ hh);rintro _ w3 ⟨rfl,hk⟩;have hp:=hp.call hk)
 ((apply jO;exact rfl;exact rfl);((apply zI<;>exact rfl));(intros;exact fB rfl))
 (apply wlp;exact jU rfl rfl;exact fB rfl)
 (apply wlp;apply qC;exact fB rfl)
 ((apply jO;exact rfl;exact rfl);(apply qC);(intros;exact fI rfl))
 (apply qAu;exact rfl;exact rfl;exact qH rfl qC4 rfl (p69 a2 _ hb);rintro _ w4 ⟨rfl,hk⟩;have hp:=hp.call hk)
 ((apply jO;exact rfl;exact rfl);((apply zI<;>exact rfl));(intros;exact fB rfl))
 (apply wlp;exact jU rfl rfl;exact fB rfl)
 (repeat (with_reducible first|apply qE|apply qB))
 refine jI rfl ?_
 (repeat (with_reducible first|apply qF|apply qA|apply qB|apply qL))
 (apply wlp;(apply qS<;>exact rfl);exact fP rfl)
 (apply wlp;((apply qJ;exact rfl)<;>(first|exact rfl|exact hp.cell 0 rfl rfl));exact fI rfl)
 (apply wlp;(exact jA rfl rfl);exact jF (b:=false) (decide_eq_false (by omega)))
 (apply wlp;apply qC;exact fB rfl)
 ((apply jO;exact rfl;exact rfl);((apply qS<;>exact rfl));(intros;exact fP rfl))
 ((apply jO;exact rfl;exact rfl);(((apply qJ;exact rfl)<;>(first|exact rfl|exact hp.cell 0 rfl rfl)));(intros;exact fI rfl))
 (apply jO;exact rfl;exact rfl;(exact zA rfl rfl);exact jF (b:=false) (decide_eq_false (by omega)))
 (apply wlp;exact jU rfl rfl;exact fB rfl)
 (apply wlp;apply qC;exact fB rfl)
 ((apply jO;exact rfl;exact rfl);((apply qS<;>exact rfl));(intros;exact fP rfl))
 ((apply jO;exact rfl;exact rfl);(((apply qJ;exact rfl)<;>(first|exact rfl|exact hp.cell 0 rfl rfl)));(intros;exact fI rfl))
 (apply jO;exact rfl;exact rfl;(exact jA rfl rfl);exact jF (b:=false) (decide_eq_false (by omega)))
 (apply wlp;exact jU rfl rfl;exact fB rfl)
 (apply wlp;apply qC;exact fB rfl)
 ((apply jO;exact rfl;exact rfl);((apply qS<;>exact rfl));(intros;exact fP rfl))
 ((apply jO;exact rfl;exact rfl);(((apply qJ;exact rfl)<;>(first|exact rfl|exact hp.cell 0 rfl rfl)));(intros;exact fI rfl))
 (apply jO;exact rfl;exact rfl;(exact zA rfl rfl);exact jF (b:=false) (decide_eq_false (by omega)))
 (apply wlp;exact jU rfl rfl;exact fB rfl)
 (repeat (with_reducible first|apply qE|apply qB))
 refine jI rfl ?_
 (repeat (first|(with_reducible first|apply qF|apply qA|apply qE|apply qB|apply qL)|(apply wlp;(first|apply qD|apply vW);exact fF1 rfl)))
 refine jX jW (by kernel_rfl) (fun w'=>Hp _ _ w' _) hp.drew ?_
 have hp:=hp.drew
 (repeat ((apply wdp;exact rfl);(intro w hp;intros;((first|apply qC|apply qS|(apply qJ;exact rfl))<;>(first|exact rfl|exact hp.cell 0 rfl rfl)));(intros;(first|exact fI rfl|exact fP rfl|exact fF1 rfl))))
 (apply wds;exact rfl;exact qH rfl qR0 rfl (qZn g a c z _ _ hgl hal hcl hzl (hp.cell 0 rfl rfl) (hp.cell 0 rfl rfl));rintro _ w5 ⟨rfl,hk⟩;have hp:=hp.call hk;refine ⟨hp,?_⟩)
 rw [s1]
 (repeat ((apply wdp;exact rfl);(intro w hp;intros;apply qC);(intros;(first|exact fI rfl|exact fF1 rfl))))
 (apply wds;exact rfl;exact qH rfl qR0 rfl (qZn h a2 c z _ _ hhl hbl hcl hzl (hp.cell 0 rfl rfl) (hp.cell 0 rfl rfl));rintro _ w6 ⟨rfl,hk⟩;have hp:=hp.call hk;refine ⟨hp,?_⟩)
 rw [s2]
 (apply wds;exact rfl;exact jP (cs:=[g,a,h,a2,r,s].flatMap eN) hp rfl rfl rfl rfl rfl rfl rfl;rintro _ w7 ⟨nb,rfl,hp2⟩;refine ⟨hp2.tail,?_⟩)
 have hsA:SlAt w7 1 eN (some ⟨nb,0,none⟩) [g,a,h,a2,r,s]:=kO [g,a,h,a2,r,s] hp2 0 rfl (fun _=>rfl)
 (apply wds;exact rfl;exact qH rfl qQa rfl (p70 ⟨#[101,113,117,97,108]⟩ [g,a,h,a2,r,s] (some ⟨nb,0,none⟩) 6 _ (hT.keep hp2.keeps) hsA (by decide) (by show 6≤100;decide) (by
  intro y hy
  simp only [List.mem_cons,List.not_mem_nil,or_false] at hy
  omega));rintro _ w8 ⟨rfl,hk⟩;have hp:=(hp2.call hk).tail;refine ⟨hp,?_⟩)
 rw [← hcd]
 (apply wdp;exact rfl;(intro w hp;exact zF rfl rfl);exact jF (b:=true) (decide_eq_true rfl))
 (repeat ((apply wdp;exact rfl);(intro w hp;intros;apply qD);(intros;exact fB rfl)))
 refine jL ?_
 (repeat (with_reducible first|apply qB|apply qT))
 exact qU rfl rfl ⟨_,rfl,rfl,hp.keeps⟩
end Go.Proofs.YtbgldmoikimmpaaGreatDoor
namespace Go.Proofs.YtbgldmoikimmpaaGreatDoor
open Go.Eng Go.Dig Go.Sha Go.Grp Go.Sp
def pwQ (x:Nat):Nat→Nat
 | 0=>1
 | i + 1=>pwQ x i * x % gQ
theorem qK8 (x i:Nat):pwQ x i < 1152921504606845789:=by
 cases i with
 | zero=>exact (by decide:1 < 1152921504606845789)
 | succ i=>exact Nat.mod_lt _ (by decide)
def pwF (x:Nat) (p:Nat):Nat→Nat
 | 0=>p
 | i + 1=>pwF x p i * x % gQ
theorem qIx (x p:Nat):∀ i,pwF x (p * x % gQ) i = pwF x p (i + 1)
 | 0=>rfl
 | i + 1=>by
  show pwF x (p * x % gQ) i * x % gQ = pwF x p (i + 1) * x % gQ
  rw [qIx x p i]
theorem qLt (x:Nat):∀ i,pwF x 1 i = pwQ x i
 | 0=>rfl
 | i + 1=>by
  show pwF x 1 i * x % gQ = pwQ x i * x % gQ
  rw [qLt x i]
theorem qJu (x c:Nat):∀ (l:List Nat) (acc p:Nat),atG x (l ++ [c]) acc p = atG x l acc p * (c ^ pwF x p l.length % gP) % gP
 | [],acc,p=>rfl
 | a :: l,acc,p=>by
  show atG x (l ++ [c]) _ _ = atG x l _ _ * (c ^ pwF x p (l.length + 1) % gP) % gP
  rw [qJu x c l,qIx]
def atI (cs:List Nat) (x i:Nat):Nat:=atG x (cs.take i) 1 1
theorem qJt {cs:List Nat} {x i:Nat} (h:i < cs.length):atI cs x (i + 1) = atI cs x i * (cs[i] ^ pwQ x i % gP) % gP:=by
 unfold atI
 rw [List.take_succ_eq_append_getElem h,qJu,qLt,List.length_take,Nat.min_eq_left (by omega)]
theorem qMt (cs:List Nat) (x:Nat):atI cs x cs.length = atP cs x:=by
 unfold atI atP
 rw [List.take_length]
theorem qL6 (x:Nat):∀ (l:List Nat) (acc p:Nat),acc < gP→atG x l acc p < gP
 | [],_,_,h=>h
 | _ :: l,_,_,_=>qL6 x l _ _ (Nat.mod_lt _ (by decide))
theorem qRw (cs:List Nat) (x i:Nat):atI cs x i < 2305843009213691579:=qL6 x _ _ _ (by decide)
theorem qRv (cs:List Nat) (x:Nat):atP cs x < 2305843009213691579:=qL6 x _ _ _ (by decide)
theorem qE2 {n i:Nat} (h:i < n):∃ suf,List.range n = List.range i ++ i :: suf:=by
 refine ⟨List.range' (i + 1) (n - (i + 1)),?_⟩
 rw [List.range_eq_range',List.range_eq_range',show n = i + (1 + (n - (i + 1))) by omega,← List.range'_append_1,← List.range'_append_1]
 rw [show i + (1 + (n - (i + 1))) - (i + 1) = n - (i + 1) by omega,Nat.zero_add]
 rfl
theorem qGm {n:Nat} {pre suf:List Nat} {x:Nat} (h:List.range n = pre ++ x :: suf):pre = List.range x∧x < n:=by
 have h1:(List.range n)[pre.length]? = some x:=by rw [h,List.getElem?_append_right (Nat.le_refl _),Nat.sub_self];rfl
 have hl:pre.length < n:=by
  have:=(List.getElem?_eq_some_iff.1 h1).1
  simpa using this
 have h2:(List.range n)[pre.length]? = some pre.length:=by rw [List.getElem?_range hl]
 rw [h1] at h2
 have hx:x = pre.length:=Option.some.inj h2
 refine ⟨?_,by omega⟩
 have h3:(List.range n).take pre.length = pre:=by rw [h,List.take_left' rfl]
 rw [List.take_range,Nat.min_eq_left (by omega),← hx] at h3
 exact h3.symm
attribute [local irreducible] PV StepF wpl wpd WP Ret
attribute [local irreducible] Fit ofN xD hv scP pwQ atI atP
theorem jCg (n x nb xb:Nat) (M:List Nat) (w:World) (h1:w.cell? ⟨nb,0,none⟩ = some (.int .i64 (n:Int))) (h2:w.cell? ⟨xb,0,none⟩ = some (.int .i64 (x:Int))) (hn:n≤1000000) (hx:x≤9223372036854775807)
  (hM1:nb ∉ M) (hM2:xb ∉ M) (hMlt:∀ k ∈ M,k < w.heap.size) :
  It2 Tryz.prog 140 [.pointer (some ⟨nb,0,none⟩),.pointer (some ⟨xb,0,none⟩)] (fun i:Nat=>Value.int .i64 (i:Int)) (fun i:Nat=>Value.int .i64 (pwQ x i:Int)) (List.range n) M w:=by
 intro ll J hll hlc hY hJ hJ0
 have hn1:nb ≠ ll:=hlc _ _ h1
 have hn2:xb ≠ ll:=hlc _ _ h2
 have hc1:nb ∉ ll :: M:=by simp;exact ⟨hn1,hM1⟩
 have hc2:xb ∉ ll :: M:=by simp;exact ⟨hn2,hM2⟩
 have hJk:∀ {pre:List Nat} {W W':World},J pre W→w.heap.size≤W.heap.size→Keeps [] W W'→J pre W':=fun h hs hk=>hJ _ _ _ h (Keeps.priv hk hs (by simp))
 refine Ret.of_WP Tryz.func140 rfl Tryz.ntmps140 rfl ?_
 (repeat (first|(with_reducible first|apply qF|apply qK|apply qA|apply qE|apply qB)|(apply wlp;((first|apply qC|apply qD|(apply qJ;exact rfl))<;>(first|exact rfl|assumption));exact fI rfl)))
 refine jE ([4,5] ++ List.range' 7 12) (fun (i:Nat) F=>(F.put 7 (.int .i64 (i:Int))).put 4 (.int .i64 (pwQ x i:Int)))
  (fun i W=>i≤n∧J (List.range i) W∧Keeps (ll :: M) w W) (fun i=>n - i) 0 (qG (qG (Same.eq .refl) rfl) (by unfold pwQ;rfl)) ⟨Nat.zero_le _,hJ0,.refl⟩ ?_
 rintro u0 i W ⟨hi,hJi,hk⟩
 have hpl:=qK8 x i
 have d1:=hk.cell h1 hc1
 have d2:=hk.cell h2 hc2
 (repeat (first|(with_reducible first|apply qF|apply qA|apply qE|apply qB)|(apply wlp;(apply jA<;>exact rfl);exact fB rfl)))
 refine qM rfl (fun h=>?_) (fun h=>?_)
 ·have hlt:i < n:=by omega
  (repeat (first|(with_reducible first|apply qF|apply qK|apply qA|apply qE|apply qB|apply qL)|(apply wlp;(first|apply qC|apply qD);(first|exact fI rfl|exact fF0 rfl))))
  (apply wlY;exact rfl;exact rfl;exact hY (List.range i) i _ hJi (qE2 hlt);rintro _ W1 ⟨rfl,hJ1,hk1⟩;refine ⟨_,rfl,?_⟩)
  have hk2:Keeps (ll :: M) w W1:=hk.trans hk1 (fun k hk=>.inr hk)
  have d1:=hk2.cell h1 hc1
  have d2:=hk2.cell h2 hc2
  rw [← List.range_succ] at hJ1
  (repeat (first|(with_reducible first|apply qE|apply qB)|(apply wlp;(apply zI<;>exact rfl);exact fB rfl)))
  refine jI rfl ?_
  (repeat (first|(with_reducible first|apply qA|apply qB|apply qL)|(apply wlp;((first|apply qC|(apply qJ;exact rfl))<;>(first|exact rfl|assumption));exact fI rfl)))
  (apply wls;exact qH rfl qBf rfl (p52 (pwQ x i:Int) (x:Int) 1152921504606845789 _ (by omega) (by omega) (by omega) (by omega) (by decide) (by decide));rintro _ W2 ⟨rfl,hk3⟩)
  have hJ2:=hJk hJ1 hk2.size hk3
  have hk4:Keeps (ll :: M) w W2:=hk2.trans hk3 (by simp)
  have e1:((pwQ x i:Nat):Int) * (x:Int) % ((1152921504606845789:Nat):Int) = (pwQ x (i + 1):Int):=by
   rw [← Int.natCast_mul,← Int.natCast_emod]
   conv=>rhs;unfold pwQ
   rfl
  rw [e1]
  (repeat (first|(with_reducible first|apply qA|apply qE|apply qB|apply qZ)|(apply wlp;apply qD;exact fI rfl)))
  (apply wlp;(exact qY rfl rfl);exact qI (b:=((i + 1:Nat):Int)) (by rw [qN (by omega) (by omega)];omega))
  (repeat (first|(with_reducible first|apply qE|apply qB)|(apply wlp;apply qC;exact fI rfl)))
  exact ⟨i + 1,qG (qG (Same.eq (by repeat (first|exact Same.hav|exact Same.refl|refine Same.put rfl ?_|refine Same.havs rfl ?_))) rfl) rfl,⟨by omega,hJ2,hk4⟩,by omega⟩
 obtain rfl:i = n:=by omega
 (repeat (first|(with_reducible first|apply qO|apply jB)|((with_reducible apply qP);exact rfl)))
 exact qF1 rfl ⟨_,rfl,hJi⟩
theorem p91 (n x:Nat) (w:World):Ret Tryz.prog 91 [.int .i64 (n:Int),.int .i64 (x:Int)] w (fun v w'=>∃ nb xb,v = .func (.func 140) #[] #[.pointer (some ⟨nb,0,none⟩),.pointer (some ⟨xb,0,none⟩)]∧Hp w [] w' [blk xb 1 (qV [.int .i64 (x:Int)]) 3,blk nb 1 (qV [.int .i64 (n:Int)]) 3]):=by
 refine Ret.of_WP Tryz.func91 rfl Tryz.ntmps91 rfl ?_
 have hp:=Hp.start (M:=[]) (w:=w)
 (repeat (first|(with_reducible first|apply qF|apply qA|apply qE|apply qB|apply qT)|(apply wlp;(first|apply qD|apply vW);(first|exact fF2 rfl|exact rfl))|(apply wls;exact qAp hp rfl rfl;rintro _ w ⟨b,rfl,hp⟩)))
 exact qU rfl rfl ⟨_,rfl,_,_,rfl,hp⟩
def atE (pb b2 nb xb:Nat) (s:Option Addr) (m c n x:Nat) (acc:Nat):List Ent:=
 [blk pb 1 (qV [.int .i64 (acc:Int)]) 3,blk b2 1 (qV [.slice s m c]) 23,blk nb 1 (qV [.int .i64 (n:Int)]) 3,blk xb 1 (qV [.int .i64 (x:Int)]) 3]
theorem p45 (cs:List Nat) (x:Nat) (s:Option Addr) (c:Nat) (w:World) (hs:SlAt w 1 eN s cs) (hl:cs.length≤1000000) (hx:x≤9223372036854775807) (hcs:∀ a ∈ cs,a < 2305843009213691579) :
  Ret Tryz.prog 45 [.slice s cs.length c,.int .i64 (x:Int)] w (fun v w'=>v = .int .i64 (atP cs x:Int)∧Keeps [] w w'):=by
 have hsw:cs ≠ []→∀ b o,s = some ⟨b,o,none⟩→b < w.heap.size:=fun h b o e=>hs.lt (fun _=>rfl) (by decide) h e
 refine Ret.of_marks Tryz.func45 rfl Tryz.ntmps45 rfl ?_
 have hp:=Hp.start (M:=[]) (w:=w)
 refine qIm ?_
 (repeat with_reducible apply qA)
 (apply wls;exact qAp hp rfl rfl;rintro _ w1 ⟨b2,rfl,hp⟩)
 (repeat (first|(with_reducible first|apply qE|apply qB)|(apply wlp;apply qD;exact fI rfl)))
 refine qIm ?_
 (repeat with_reducible apply qA)
 (apply wls;exact qBm hp (jD rfl) rfl;rintro _ w2 ⟨pb,rfl,hp⟩)
 (apply zG;exact xZ hp 0 rfl rfl rfl rfl (qQ rfl) rfl;rintro _ w3 ⟨rfl,hp⟩)
 have hp:=hp.norm 0 [.int .i64 1] rfl rfl
 (repeat (with_reducible first|apply qE|apply qB))
 refine qJw ?_
 (repeat (first|with_reducible apply qA|(apply wlp;((first|apply qC|(apply qJ;exact rfl)|(apply jC;exact rfl))<;>(first|exact rfl|exact hp.cell 1 rfl rfl));(first|exact fI rfl|exact fS rfl))))
 (apply wls;exact qH rfl jA7 rfl (p91 cs.length x _);rintro _ w4 ⟨nb,xb,rfl,hpo⟩;have hp:=hp.join hpo;clear hpo)
 have h10:atI cs x 0 = 1:=by unfold atI;rfl
 have hp:Hp w [] w4 (atE pb b2 nb xb s cs.length c cs.length x (atI cs x 0)):=by rw [h10];exact hp.picks [2,3,1,0] _ rfl rfl
 have hwp:=hp.newer (i:=0) rfl
 have hw2:=hp.newer (i:=1) rfl
 have hwn:=hp.newer (i:=2) rfl
 have hwx:=hp.newer (i:=3) rfl
 have hn2:=hp.ne (i:=1) (j:=0) rfl rfl (by decide)
 have hnn:=hp.ne (i:=2) (j:=0) rfl rfl (by decide)
 have hnx:=hp.ne (i:=3) (j:=0) rfl rfl (by decide)
 (repeat (with_reducible first|apply qE|apply qB))
 refine qH5 [(2,.pointer (some ⟨b2,0,none⟩)),(5,.pointer (some ⟨pb,0,none⟩)),(11,.func (.func 140) #[] #[.pointer (some ⟨nb,0,none⟩),.pointer (some ⟨xb,0,none⟩)])] ⟨rfl,rfl,rfl,trivial⟩ ?_
 intro F0
 refine qG2 (gf:=140) (lb:=[.pointer (some ⟨nb,0,none⟩),.pointer (some ⟨xb,0,none⟩)]) rfl qY8 (fun i:Nat=>Value.int .i64 (i:Int)) (fun i:Nat=>Value.int .i64 (pwQ x i:Int)) (List.range cs.length) [pb] ?_
  (fun pre W=>Hp w [] W (atE pb b2 nb xb s cs.length c cs.length x (atI cs x pre.length))) ?_ hp ?_
  (fun i=>((((F0.puts [(2,.pointer (some ⟨b2,0,none⟩)),(5,.pointer (some ⟨pb,0,none⟩)),(11,.func (.func 140) #[] #[.pointer (some ⟨nb,0,none⟩),.pointer (some ⟨xb,0,none⟩)])]).put 12 (.int .i64 (i:Int))).put 13 (.int .i64 (pwQ x i:Int))).put 6 (.int .i64 (i:Int))).put 7 (.int .i64 (pwQ x i:Int))) ?_ ?_ ?_
 ·intro k hk
  have e:k = pb:=by simpa using hk
  omega
 ·intro pre W W' h hpr
  refine h.priv hpr hp.keeps.size ?_
  intro p hpm b hb
  simp only [atE,List.mem_cons,List.mem_nil_iff,or_false] at hpm
  rcases hpm with rfl|rfl|rfl|rfl
  ·have:(some pb:Option Nat) = some b:=hb
   cases this;omega
  ·have:(some b2:Option Nat) = some b:=hb
   cases this;omega
  ·have:(some nb:Option Nat) = some b:=hb
   cases this;omega
  ·have:(some xb:Option Nat) = some b:=hb
   cases this;omega
 ·intro W1 hk hsz
  refine jCg cs.length x nb xb [pb] W1 (hk.cell (hp.cell 2 rfl rfl) (by simp)) (hk.cell (hp.cell 3 rfl rfl) (by simp)) hl hx (by simpa using hnn) (by simpa using hnx) ?_
  intro k hk2
  have e:k = pb:=by simpa using hk2
  omega
 ·intro ll i W
  (repeat (first|(with_reducible first|apply qF|apply qA|apply qE|apply qB)|(apply wlp;apply qD;exact fI rfl)))
  exact ⟨rfl,rfl,rfl⟩
 ·rintro ll pre i W ⟨suf,hsuf⟩ hpI
  obtain ⟨rfl,hil⟩:=qGm hsuf
  rw [List.length_append,List.length_range,List.length_singleton] at *
  have hpl:=qK8 x i
  have hal:=qRw cs x i
  have hst:=qJt (cs:=cs) (x:=x) hil
  obtain ⟨b0,o0,hs0,hc0⟩:=hs.base (by omega)
  have hci:=hc0 i _ (List.getElem?_eq_getElem hil) 0 _ rfl
  have hcl:=hcs _ (List.getElem_mem hil)
  generalize cs[i] = a at hci hcl hst
  have hci:W.cell? ⟨b0,o0 + i * 1,none⟩ = some (.int .i64 (a:Int)):=hpI.old0 hci
  have hb0:b0 ∉ [pb]:=by
   have:=hsw (by rintro rfl;simp at hil) b0 o0 hs0
   simp
   omega
  have c2:W.cell? ⟨b2,0,none⟩ = some (.slice s cs.length c):=hpI.cell 1 rfl rfl
  have hp1:=Hp.adopt1 (hpI.has 0 _ rfl pb rfl)
  generalize atI cs x i = acc at hp1 hal hst
  have hp1:Hp W [pb] W [blk pb 1 (qV [.int .i64 (acc:Int)]) 3]:=hp1
  have hnb2:b2 ∉ [pb]:=by simpa using hn2
  (repeat with_reducible apply qK)
  refine qS2 false jW (by kernel_rfl) (fun w'=>Hp W [pb] w' [blk pb 1 (qV [.int .i64 (acc:Int)]) 3]) hp1.drew ?_
  have hp:=hp1.drew
  (repeat ((apply wdp;exact rfl);(intro w hp;intros;((apply qJ;exact rfl)<;>(first|exact rfl|exact hp.cell 0 rfl rfl)));(intros;exact fI rfl)))
  (apply wdp;exact rfl;(intro w hp;exact qJ rfl rfl (hp.old c2 hnb2));exact fS rfl)
  (repeat ((apply wdp;exact rfl);(intro w hp;intros;((first|apply qC|(apply qJ;exact rfl)|(apply qR;exact rfl))<;>(first|exact rfl|assumption)));(intros;(first|exact fI rfl|exact fP rfl))))
  (apply wdp;exact rfl;(intro w hp;exact qJ rfl rfl (hp.old hci hb0));exact fI rfl)
  (repeat ((apply wdp;exact rfl);(intro w hp;intros;apply qC);(intros;exact fI rfl)))
  (apply wds;exact rfl;exact qH rfl qAd rfl (qDj a (pwQ x i) 2305843009213691579 _ (by omega) (by omega) (by decide) (by decide)))
  rintro _ w5 ⟨rfl,hk⟩
  have hp:=hp.call hk
  refine ⟨hp,?_⟩
  have hap:a ^ pwQ x i % 2305843009213691579 < 2305843009213691579:=Nat.mod_lt _ (by decide)
  (apply wds;exact rfl;exact qH rfl qBf rfl (p52 (acc:Int) _ 2305843009213691579 _ (by omega) (by omega) (by omega) (by omega) (by decide) (by decide));rintro _ w6 ⟨rfl,hk⟩;have hp:=hp.call hk;refine ⟨hp,?_⟩)
  have e1:(acc:Int) * ((a ^ pwQ x i % 2305843009213691579:Nat):Int) % ((2305843009213691579:Nat):Int) = (atI cs x (i + 1):Int):=by
   rw [hst,← Int.natCast_mul,← Int.natCast_emod]
   rfl
  rw [e1]
  (apply kH;exact rfl;exact rfl;exact xZ hp 0 rfl rfl rfl rfl (qQ rfl) rfl;rintro _ w7 ⟨rfl,hp⟩)
  have hp:=hp.norm 0 [.int .i64 (atI cs x (i + 1):Int)] rfl rfl
  refine jL ?_
  (repeat with_reducible apply qZ)
  refine ⟨rfl,?_,hp.keeps⟩
  exact hpI.upd (i:=0) (q:=blk pb 1 (qV [.int .i64 (atI cs x (i + 1):Int)]) 3) rfl hp.keeps (fun b hb=>by
   cases hb
   exact ⟨.inl rfl,hp.has 0 _ rfl pb rfl⟩)
 ·intro D W hD hpI hD2
  rw [List.length_range,qMt] at hpI
  have hpp:Keeps [] w (W.putObj D (.deferred none)):=(hpI.keeps).trans (qBp W D _) (fun k hk=>by
   have:k = D:=by simpa using hk
   subst this
   left
   have:=hp.keeps.size
   omega)
  refine qJx rfl rfl (qS4 ?_)
  have hp:=hpI
  (repeat (first|(with_reducible first|apply qF|apply qA|apply qE|apply qB|apply qT)|(apply wlp;((first|apply qD|(apply qJ;exact rfl))<;>(first|exact rfl|exact hp.cell 0 rfl rfl));exact fI rfl)))
  exact qIv rfl rfl rfl hD2 ⟨_,rfl,rfl,hpp⟩
end Go.Proofs.YtbgldmoikimmpaaGreatDoor
