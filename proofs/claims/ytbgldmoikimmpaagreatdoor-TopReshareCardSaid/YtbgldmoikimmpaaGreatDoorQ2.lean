/- Merged texts of ours: Ga Gd Ge Ja Jb Ra Ej Nt Lag Grp Sp Sq A1 A2 A3 Sha B1; conditions are the hypotheses of each law. -/
import Derived.Test.YtbgldmoikimmpaaGreatDoorQ1
import Derived.Shelf.Strconv.Itoa3
namespace Go.Proofs.YtbgldmoikimmpaaGreatDoor
open Go.Eng Go.Dig
theorem qL5 (x:Nat):(jT 256 x).reverse.dropWhile (· == 0) = (jT 256 x).reverse:=by
 have h:=qCq (yT (b:=256) (by decide) (Nat.le_refl (jT 256 x).length))
 have h1:dg 256 x (jT 256 x).length = jT 256 x:=by
  have:=uU (vC (b:=256) (by decide) x)
  rw [yR (by decide)] at this
  exact this.symm
 rwa [h1] at h
section
variable {P:Program} {n:Nat} {F:Fr} {w:World} {d:Option Tmp} {ty:TypeId} {pos:String} {aft:Array Edge} {g:Option (Nat × Bool)} {x y:Operand}
theorem qOu {ts:Array TypeId} {k:IntKind} {a b:Int} (hx:ev n F x = .int k a) (hy:ev n F y = .int k b):PV P n w F ⟨d,.call ⟨.builtin .max,#[x,y],ts⟩,ty,pos,aft,g⟩ (.int k (max a b)):=by
 have:(if a < b then b else a) = max a b:=by rw [Int.max_def];split<;>split<;>omega
 simp [PV,execOp,resolve,invoke,builtin,Builtin.max_,Builtin.max2,hx,hy,this]
theorem qLy {t t':Nat} (ht:qC8 t = some (5,1)) (ht':qBz t' = true) (hx:ev n F x = .slice none 0 0):PV Tryz.prog n w F ⟨d,.convert t t' x,ty,pos,aft,g⟩ (.string (bs [])):=by
 have h1:=zE (P:=Tryz.prog) (w:=w) (xT ht).1
 have h2:=zE (P:=Tryz.prog) (w:=w) (vT ht')
 have h3:=zE (P:=Tryz.prog) (w:=w) (qB9 (t:=5) (k:=.u8) rfl)
 simp only [PV,execOp,convert,hx,Sem.run_bind,h1,h2,Result.andThen_ok,h3]
 rfl
end
attribute [local irreducible] PV StepF wpl wpd WP Ret
attribute [local irreducible] Fit
theorem c67 (l:List Nat) (w:World) (hb:Bd 256 l) (hl:l.length≤9223372036854775806):Ret Tryz.prog 133 [.string (bs l)] w (fun v w'=>v = .string (bs (l.dropWhile (· == 0)))∧Keeps [] w w'):=by
 refine Ret.of_WP Tryz.func133 rfl Tryz.ntmps133 rfl ?_
 have hp:=Hp.start (M:=[]) (w:=w)
 (repeat (first|(with_reducible first|apply qF|apply qK|apply qA|apply qE|apply qB)|(apply wlp;apply qD;(first|exact fI rfl|exact fT rfl))))
 refine jE [3,4,5,6,7,8,9,10,11,12,13,14,15] (fun (k:Nat) F=>F.put 3 (.int .i64 (k:Int))) (fun k w'=>k≤l.length∧l.dropWhile (· == 0) = (l.drop k).dropWhile (· == 0)∧Hp w [] w' []) (fun k=>l.length - k) 0 (qG (Same.eq .refl) rfl) ⟨Nat.zero_le _,by simp,hp⟩ ?_
 clear hp
 rintro u k w1 ⟨hk,he,hp⟩
 (repeat (with_reducible first|apply qF|apply qA))
 (apply wlp;exact qC;exact fI rfl)
 (apply wlp;exact qC;exact fT rfl)
 (apply wlp;exact kL rfl rfl;exact fI rfl)
 by_cases hlt:k < l.length
 ·have hd:l.drop k = l[k] :: l.drop (k + 1):=List.drop_eq_getElem_cons hlt
  (apply wlp;(exact jA rfl rfl);exact jF (b:=true) (decide_eq_true (by omega)))
  (apply wlp;apply qC;exact fB rfl)
  (apply jO;exact rfl;exact rfl;exact qC;exact fT rfl)
  (apply jO;exact rfl;exact rfl;exact qC;exact fI rfl)
  (apply jO;exact rfl;exact rfl;exact qFc rfl rfl rfl hb hlt;exact fI rfl)
  generalize l[k] = y at hd
  (repeat (first|(with_reducible first|apply qE|apply qB)|(apply wlp;(intros;((first|exact zM rfl rfl|(apply zF;(first|exact rfl|exact jR rfl (by assumption))))<;>exact rfl));(intros;exact fB rfl))|((apply jO;exact rfl;exact rfl);(((first|exact zM rfl rfl|(apply zF;(first|exact rfl|exact jR rfl (by assumption))))<;>exact rfl));(intros;exact fB rfl))|(apply vS;exact rfl;exact rfl;exact rfl)|(apply vR;exact rfl;exact rfl)))
  refine qM rfl (fun h=>?_) (fun h=>?_)
  ·(repeat (first|(with_reducible first|apply qK|apply qA|apply qB|apply qL)|(apply wlp;apply qC;exact fI rfl)))
   (apply wlp;exact qY rfl rfl;exact qI (qN (by omega) (by omega)))
   (repeat (first|(with_reducible first|apply qE|apply qB|apply qZ)|(apply wlp;apply qD;exact fI rfl)))
   refine ⟨k + 1,qG (Same.eq (by repeat (first|exact Same.hav|exact Same.refl|refine Same.put rfl ?_|refine Same.havs rfl ?_))) rfl,⟨by omega,?_,hp⟩,by omega⟩
   have h0:y = 0:=by omega
   rw [he,hd,h0]
   rfl
  ·(repeat (first|(with_reducible first|apply qF|apply qA|apply qB|apply qO|apply jB)|((with_reducible apply qP);exact rfl)|(apply wlp;apply qC;(first|exact fI rfl|exact fT rfl))))
   (apply wlp;exact qFb rfl rfl rfl hk;exact fT rfl)
   (repeat (first|(with_reducible first|apply qE|apply qB|apply qT)|(apply wlp;apply qD;exact fT rfl)))
   refine qU rfl rfl ⟨_,rfl,?_,hp.keeps⟩
   have h0:y ≠ 0:=by omega
   have h1:(l.drop k).dropWhile (· == 0) = l.drop k:=by rw [hd];simp [h0]
   rw [he,h1]
   rfl
 ·obtain rfl:k = l.length:=by omega
  (apply wlp;(exact jA rfl rfl);exact jF (b:=false) (decide_eq_false (by omega)))
  (repeat (first|(with_reducible first|apply qE|apply qB)|(apply wlp;(intros;(first|apply qC|exact vX rfl));(intros;exact fB rfl))|(apply vS;exact rfl;exact rfl;exact rfl)|(apply vR;exact rfl;exact rfl)))
  refine jI rfl ?_
  (repeat (first|(with_reducible first|apply qF|apply qA|apply qB|apply qO|apply jB)|((with_reducible apply qP);exact rfl)|(apply wlp;apply qC;(first|exact fI rfl|exact fT rfl))))
  (apply wlp;exact qFb rfl rfl rfl hk;exact fT rfl)
  (repeat (first|(with_reducible first|apply qE|apply qB|apply qT)|(apply wlp;apply qD;exact fT rfl)))
  refine qU rfl rfl ⟨_,rfl,?_,hp.keeps⟩
  rw [he,List.drop_length]
  rfl
theorem qRn (st:ByteArray) (x:Nat) (w:World) (h:NS st x):Ret Tryz.prog 133 [.string st] w (fun v w'=>v = .string (ofN x)∧Keeps [] w w'):=by
 obtain ⟨br,rfl,hb,hl,rfl⟩:=h
 have h1:=c67 br w hb (by omega)
 have h2:br.dropWhile (· == 0) = (jT 256 (val 256 br.reverse)).reverse:=by
  have:=qAi (b:=256) (by decide) (Bd.rev hb)
  unfold yZ at this
  rw [List.reverse_reverse] at this
  rw [← this,List.reverse_reverse]
 rw [h2] at h1
 exact h1
theorem qUc (x:Nat) (w:World) (h:Fit x):Ret Tryz.prog 133 [.string (ofN x)] w (fun v w'=>v = .string (ofN x)∧Keeps [] w w'):=by
 have h8:=h.d8
 have:=c67 (jT 256 x).reverse w (Bd.rev (vC (by decide) x)) (by rw [List.length_reverse];omega)
 rw [qL5] at this
 exact this
theorem c40 (a:Int) (w:World) (h2:a≤9223372036854775807):Ret Tryz.prog 87 [.int .i64 a] w (fun v w'=>v = .string (ofN a.toNat)∧Keeps [] w w'):=by
 refine Ret.of_WP Tryz.func87 rfl Tryz.ntmps87 rfl ?_
 have hp:=(Hp.start (M:=[]) (w:=w)).nilL eB 5 1
 (repeat (first|(with_reducible first|apply qF|apply qK|apply qA|apply qE|apply qB)|(apply wlp;apply qD;(first|exact fI rfl|exact fS rfl|exact fT rfl))))
 by_cases h0:0 < a
 ·obtain ⟨x,rfl⟩:∃ x:Nat,a = x:=⟨a.toNat,by omega⟩
  have hx8:x < 256 ^ 8:=by
   have:(256:Nat) ^ 8 = 18446744073709551616:=by decide
   omega
  refine zW [3,4,5,6,7,8,9,10,11,12,13,14,15,16,17,18,19] (fun (j:Nat) (s:Option Addr) (c:Nat) F=>(F.put 4 (.int .i64 (8 * (j:Int) - 8))).put 3 (.slice s ((dg 256 x 8).drop j).reverse.length c))
   (fun j s c w'=>j≤8∧SVL s c ((dg 256 x 8).drop j).reverse∧Hp w [] w' [qW eB 5 1 s c ((dg 256 x 8).drop j).reverse]) (fun j _ _=>j) 8 none 0 (qG (qG (Same.eq .refl) rfl) rfl) ⟨Nat.le_refl _,SVL.nil,hp⟩ ?_
  clear hp
  rintro u j s c w1 ⟨hj,hv,hp⟩
  by_cases hj0:0 < j
  ·obtain ⟨i,rfl⟩:∃ i,j = i + 1:=⟨j - 1,by omega⟩
   have ei:(8 * ((i + 1:Nat):Int) - 8) = ((8 * i:Nat):Int):=by omega
   rw [ei]
   have hlt:i < (dg 256 x 8).length:=by rw [uI];omega
   have hgi:=qDr 256 8 x i (by omega)
   have hdr:((dg 256 x 8).drop i).reverse = ((dg 256 x 8).drop (i + 1)).reverse ++ [x / 256 ^ i % 256]:=by
    rw [List.drop_eq_getElem_cons hlt,List.reverse_cons]
    rw [List.getElem?_eq_getElem hlt] at hgi
    simp only [Option.some.injEq] at hgi
    rw [hgi]
   have hll:((dg 256 x 8).drop (i + 1)).reverse.length≤8:=by rw [List.length_reverse,List.length_drop,uI];omega
   generalize ((dg 256 x 8).drop (i + 1)).reverse = Z at *
   (repeat (with_reducible first|apply qF|apply qA))
   (apply wlp;apply qC;exact fI rfl)
   (apply wlp;(exact xF rfl rfl);exact jF (b:=true) (decide_eq_true (by omega)))
   (apply wlp;apply qC;exact fB rfl)
   (apply jO;exact rfl;exact rfl;exact qC;exact fI rfl)
   (apply jO;exact rfl;exact rfl;(exact zA rfl rfl);exact jF (b:=true) (decide_eq_true (by omega)))
   (repeat (first|(with_reducible first|apply qE|apply qB)|(apply wlp;(intros;exact zM rfl rfl);(intros;exact fB rfl))|(apply vS;exact rfl;exact rfl;exact rfl)|(apply vR;exact rfl;exact rfl)))
   refine yI rfl ?_
   (repeat (first|(with_reducible first|apply qF|apply qK|apply qA|apply qB|apply qL)|(apply wlp;apply qC;(first|exact fI rfl|exact fS rfl))))
   (apply wlp;exact xA (b:=8 * i) rfl rfl (by show 8 * i≤64;omega);exact qI (b:=((x / 256 ^ i:Nat):Int)) (by rw [show (256:Nat) ^ i = 2 ^ (8 * i) from by rw [Nat.pow_mul]]))
   (apply wlp;exact uG rfl rfl rfl;exact fI rfl)
   (apply wls;exact jP hp rfl rfl rfl rfl rfl rfl rfl;rintro _ w3 ⟨nb,rfl,hp⟩)
   (apply wls;exact zL eB Z (x / 256 ^ i % 256) hp 1 0 rfl rfl rfl rfl rfl rfl (fun _=>rfl) rfl rfl rfl hv rfl rfl (by omega);rintro _ w4 ⟨s',c',rfl,hv',hp⟩)
   have hp:=hp.tail
   have hp:Hp w [] w4 [qW eB 5 1 s' c' (Z ++ [x / 256 ^ i % 256])]:=hp
   rw [← hdr] at hv' hp ⊢
   (repeat (first|(with_reducible first|apply qA|apply qE|apply qB|apply qZ)|(apply wlp;(first|apply qC|apply qD);(first|exact fI rfl|exact fS rfl))))
   (apply wlp;exact jN rfl rfl;exact qI (qN (by omega) (by omega)))
   (repeat (first|(with_reducible first|apply qE|apply qB)|(apply wlp;apply qD;exact fI rfl)))
   exact ⟨i,s',c',qG (qG (Same.eq (by repeat (first|exact Same.hav|exact Same.refl|refine Same.put rfl ?_|refine Same.havs rfl ?_))) (qI (by omega))) rfl,⟨by omega,hv',hp⟩,by omega⟩
  ·obtain rfl:j = 0:=by omega
   rw [List.drop_zero] at hv hp ⊢
   have hne:(dg 256 x 8).reverse ≠ []:=by
    intro h
    have:=congrArg List.length h
    rw [List.length_reverse,uI] at this
    cases this
   obtain ⟨bb,rfl⟩:=hv.addr hne
   have h67:=c67 (dg 256 x 8).reverse
   rw [qCq hx8] at h67
   have hbd:Bd 256 (dg 256 x 8).reverse:=Bd.rev (qFu (by decide) 8 x)
   (repeat (with_reducible first|apply qF|apply qA))
   (apply wlp;apply qC;exact fI rfl)
   (apply wlp;(exact xF rfl rfl);exact jF (b:=false) (decide_eq_false (by omega)))
   (repeat (first|(with_reducible first|apply qE|apply qB)|(apply wlp;(intros;(first|apply qC|exact vX rfl));(intros;exact fB rfl))|(apply vS;exact rfl;exact rfl;exact rfl)|(apply vR;exact rfl;exact rfl)))
   refine jI rfl ?_
   (repeat (first|(with_reducible first|apply qF|apply qA|apply qB|apply qO|apply jB)|((with_reducible apply qP);exact rfl)|(apply wlp;(first|apply qC|apply zQ);exact fS rfl)))
   (apply wlp;exact qEg hp rfl rfl rfl rfl rfl hv;exact fT rfl)
   (apply wls;exact qH rfl kN rfl (h67 _ hbd (by rw [List.length_reverse,uI];decide));rintro _ w2 ⟨rfl,hk⟩;have hp:=hp.call hk)
   (repeat (first|(with_reducible first|apply qE|apply qB|apply qT)|(apply wlp;apply qD;exact fT rfl)))
   exact qU rfl rfl ⟨_,rfl,rfl,hp.keeps⟩
 ·have hz:a.toNat = 0:=by omega
  rw [hz]
  refine jE [3,4,5,6,7,8,9,10,11,12,13,14,15,16,17,18,19] (fun (_:Nat) F=>(F.put 4 (.int .i64 56)).put 3 (.slice none 0 0)) (fun _ w'=>Hp w [] w' [qW eB 5 1 none 0 []]) (fun _=>0) 0 (qG (qG (Same.eq .refl) rfl) rfl) hp ?_
  clear hp
  rintro u _ w1 hp
  (repeat (with_reducible first|apply qF|apply qA))
  (apply wlp;apply qC;exact fI rfl)
  (apply wlp;(exact xF rfl rfl);exact jF (b:=true) (decide_eq_true (by omega)))
  (apply wlp;apply qC;exact fB rfl)
  (apply jO;exact rfl;exact rfl;exact qC;exact fI rfl)
  (apply jO;exact rfl;exact rfl;(exact zA rfl rfl);exact jF (b:=false) (decide_eq_false (by omega)))
  (repeat (first|(with_reducible first|apply qE|apply qB)|(apply wlp;(intros;exact zM rfl rfl);(intros;exact fB rfl))|(apply vS;exact rfl;exact rfl;exact rfl)|(apply vR;exact rfl;exact rfl)))
  refine jI rfl ?_
  (repeat (first|(with_reducible first|apply qF|apply qA|apply qB|apply qO|apply jB)|((with_reducible apply qP);exact rfl)|(apply wlp;(first|apply qC|apply zQ);exact fS rfl)))
  (apply wlp;exact qLy rfl rfl rfl;exact fT rfl)
  (apply wls;exact qH rfl kN rfl (c67 [] _ .nil (by simp));rintro _ w2 ⟨rfl,hk⟩;have hp:=hp.call hk)
  (repeat (first|(with_reducible first|apply qE|apply qB|apply qT)|(apply wlp;apply qD;exact fT rfl)))
  exact qU rfl rfl ⟨_,rfl,rfl,hp.keeps⟩
end Go.Proofs.YtbgldmoikimmpaaGreatDoor
namespace Go.Proofs.YtbgldmoikimmpaaGreatDoor
open Go.Eng Go.Dig
def eD (d:Nat):List Value:=[.int .i64 (d:Int)]
def d24 (x:Nat):List Nat:=jT 16777216 x
theorem qBi (x:Nat):Bd 16777216 (d24 x):=vC (by decide) x
theorem qIe (x:Nat):val 16777216 (d24 x) = x:=yR (by decide) x
theorem qBq {x i:Nat} (h:i < (d24 x).length):(d24 x)[i] = x / 16777216 ^ i % 16777216:=qFs (by decide) h
theorem qCj {x i:Nat} (h:(d24 x).length≤i):x / 16777216 ^ i % 16777216 = 0:=qEa (by decide) h
theorem qCi {x i:Nat} (h:(d24 x).length≤i):x < 16777216 ^ i:=yT (by decide) h
theorem qIf {x i:Nat} (h:x < 16777216 ^ i):(d24 x).length≤i:=uS (by decide) h
theorem Fit.d24 {x:Nat} (h:Fit x):(d24 x).length≤100000:=by
 obtain ⟨k,h1,h2⟩:=h
 exact Nat.le_trans (qIf (Nat.lt_of_lt_of_le h2 (Nat.pow_le_pow_left (by decide) k))) (by omega)
theorem qWh {b x m:Nat} (hb:1 < b) (h1:b ^ m≤x) (h2:x < b ^ (m + 1)):(jT b x).length = m + 1:=by
 have h3:=uS hb h2
 rcases Nat.lt_or_ge (jT b x).length (m + 1) with h|h
 ·have:=yT hb (show (jT b x).length≤m by omega)
  omega
 ·omega
theorem qTe {x:Nat} (h:x ≠ 0):256 ^ ((jT 256 x).length - 1)≤x:=by
 rcases Nat.lt_or_ge x (256 ^ ((jT 256 x).length - 1)) with h1|h1
 ·have h2:=uS (b:=256) (by decide) h1
  have h3:(jT 256 x).length ≠ 0:=by
   intro h4
   exact h ((yK (b:=256) (by decide)).1 (List.eq_nil_of_length_eq_zero h4))
  omega
 ·exact h1
theorem qJ4 (j:Nat):16777216 ^ j = 256 ^ (3 * j):=by rw [Nat.pow_mul]
theorem qYs {x m:Nat} (h1:3 * m < (jT 256 x).length) (h2:(jT 256 x).length≤3 * (m + 1)):(d24 x).length = m + 1:=by
 have hx:x ≠ 0:=by
  rintro rfl
  simp [uT] at h1
 refine qWh (by decide) ?_ ?_
 ·rw [qJ4]
  exact Nat.le_trans (Nat.pow_le_pow_right (by decide) (by omega)) (qTe hx)
 ·rw [qJ4]
  exact yT (by decide) h2
theorem qPm (y t:Nat):(y / 256 % 256 ^ t) * 256 + y % 256 = y % 256 ^ (t + 1):=by
 rw [Nat.pow_succ,Nat.mul_comm (256 ^ t) 256,Nat.mod_mul]
 omega
theorem qOn {x i:Nat} (hi:i < (jT 256 x).length) (h:i < (jT 256 x).reverse.length):(jT 256 x).reverse[i] = x / 256 ^ ((jT 256 x).length - 1 - i) % 256:=by
 have h1:=qZ6 (x:=x) (i:=(jT 256 x).length - 1 - i) (by omega) (by rw [List.length_reverse];omega)
 have e:(jT 256 x).length - 1 - ((jT 256 x).length - 1 - i) = i:=by omega
 rw [← h1]
 congr 1
 exact e.symm
attribute [local irreducible] PV StepF wpl wpd WP Ret
attribute [local irreducible] Fit
theorem jBa (st:ByteArray) (x:Nat) (w:World) (hst:NS st x) (hl:(jT 256 x).length≤7):Ret Tryz.prog 135 [.string st] w (fun v w'=>v = .tuple #[.int .i64 (x:Int),.bool true]∧Keeps [] w w'):=by
 have hx7:x < 256 ^ 7:=yT (by decide) hl
 have e7:(256:Nat) ^ 7 = 72057594037927936:=by decide
 have hxl:=yT (b:=256) (by decide) (Nat.le_refl (jT 256 x).length)
 have hbd:Bd 256 (jT 256 x).reverse:=Bd.rev (vC (by decide) x)
 have hrl:(jT 256 x).reverse.length = (jT 256 x).length:=List.length_reverse
 refine Ret.of_WP Tryz.func135 rfl Tryz.ntmps135 rfl ?_
 have hp:=Hp.start (M:=[]) (w:=w)
 (repeat (first|(with_reducible first|apply qF|apply qA|apply qE|apply qB)|(apply wlp;(first|apply qC|apply qD);(first|exact fI rfl|exact fB rfl|exact fT rfl))))
 (apply wls;exact qH rfl kN rfl (qRn st x _ hst);rintro _ w1 ⟨rfl,hk⟩;have hp:=hp.call hk)
 skip
 (apply wlp;apply qD;exact fT rfl)
 (repeat (with_reducible first|apply qF|apply qA|apply qE|apply qB))
 (apply wlp;apply qC;exact fT rfl)
 (apply wlp;exact kL rfl rfl;exact qI (b:=((jT 256 x).length:Int)) (by rw [hrl]))
 (apply wlp;(exact zA rfl rfl);exact jF (b:=false) (decide_eq_false (by omega)))
 (apply wlp;apply qC;exact fB rfl)
 (apply jO;exact rfl;exact rfl;exact qC;exact fT rfl)
 (apply jO;exact rfl;exact rfl;exact kL rfl rfl;exact qI (b:=((jT 256 x).length:Int)) (by rw [hrl]))
 (apply jO;exact rfl;exact rfl;(exact zF rfl rfl);exact jF (b:=false) (decide_eq_false (by omega)))
 (repeat (first|(with_reducible first|apply qE|apply qB)|(apply wlp;(intros;(first|apply qC|exact vX rfl|exact jU rfl rfl));(intros;exact fB rfl))|((apply jO;exact rfl;exact rfl);((first|apply qC|exact vX rfl|exact jU rfl rfl));(intros;exact fB rfl))|(apply vS;exact rfl;exact rfl;exact rfl)|(apply vR;exact rfl;exact rfl)))
 refine jI rfl ?_
 (repeat (first|(with_reducible first|apply qF|apply qK|apply qA|apply qE|apply qB|apply qL)|(apply wlp;apply qD;exact fI rfl)))
 refine jE [4,5,21,22,23,24,25,26,27,28,29,30,31,32,33] (fun (k:Nat) F=>(F.put 5 (.int .i64 (k:Int))).put 4 (.int .i64 ((x / 256 ^ ((jT 256 x).length - k):Nat):Int))) (fun k w'=>k≤(jT 256 x).length∧Hp w [] w' []) (fun k=>(jT 256 x).length - k) 0 (qG (qG (Same.eq .refl) rfl) (qI (by rw [Nat.sub_zero,Nat.div_eq_of_lt hxl];rfl))) ⟨Nat.zero_le _,hp⟩ ?_
 clear hp
 rintro u k w2 ⟨hk,hp⟩
 (repeat (with_reducible first|apply qF|apply qA))
 (apply wlp;apply qC;exact fI rfl)
 (apply wlp;apply qC;exact fT rfl)
 (apply wlp;exact kL rfl rfl;exact qI (b:=((jT 256 x).length:Int)) (by rw [hrl]))
 (repeat (first|(with_reducible first|apply qE|apply qB)|(apply wlp;(apply jA<;>exact rfl);exact fB rfl)))
 refine qM rfl (fun h=>?_) (fun h=>?_)
 ·have hlt:k < (jT 256 x).length:=by omega
  have hlr:k < (jT 256 x).reverse.length:=by omega
  have hra:=qOn hlt hlr
  have hlb:=hbd.get hlr
  have hst:x / 256 ^ ((jT 256 x).length - (k + 1)) = x / 256 ^ ((jT 256 x).length - k) * 256 + (jT 256 x).reverse[k]:=by
   rw [hra,show (jT 256 x).length - 1 - k = (jT 256 x).length - (k + 1) from by omega,show (jT 256 x).length - k = (jT 256 x).length - (k + 1) + 1 from by omega,Nat.pow_succ,← Nat.div_div_eq_div_mul]
   omega
  have hle:x / 256 ^ ((jT 256 x).length - (k + 1))≤x:=Nat.div_le_self _ _
  (repeat (first|(with_reducible first|apply qF|apply qK|apply qA|apply qB|apply qL)|(apply wlp;apply qC;exact fI rfl)))
  (apply wlp;exact qKb (b:=8) rfl rfl (by decide);exact qI (b:=((x / 256 ^ ((jT 256 x).length - k) * 256:Nat):Int)) (by
   have e8:min (8:Int).toNat IntKind.i64.bits = 8:=by decide
   rw [e8,qN (by omega) (by omega)]
   omega))
  (apply wlp;apply qC;exact fT rfl)
  (apply wlp;apply qC;exact fI rfl)
  (apply wlp;exact qFc rfl rfl rfl hbd hlr;exact fI rfl)
  (apply wlp;exact zQ rfl rfl rfl;exact qI (b:=(((jT 256 x).reverse[k]:Nat):Int)) (qN (by omega) (by omega)))
  (apply wlp;exact qY rfl rfl;exact qI (b:=((x / 256 ^ ((jT 256 x).length - (k + 1)):Nat):Int)) (by rw [qN (by omega) (by omega)];omega))
  (repeat (first|(with_reducible first|apply qA|apply qE|apply qB|apply qZ)|(apply wlp;(first|apply qC|apply qD);exact fI rfl)))
  (apply wlp;exact qY rfl rfl;exact qI (qN (by omega) (by omega)))
  (repeat (first|(with_reducible first|apply qE|apply qB)|(apply wlp;apply qD;exact fI rfl)))
  exact ⟨k + 1,qG (qG (Same.eq (by repeat (first|exact Same.hav|exact Same.refl|refine Same.put rfl ?_|refine Same.havs rfl ?_))) rfl) rfl,⟨by omega,hp⟩,by omega⟩
 ·obtain rfl:k = (jT 256 x).length:=by omega
  rw [Nat.sub_self,Nat.pow_zero,Nat.div_one]
  (repeat (first|(with_reducible first|apply qF|apply qA|apply qE|apply qB|apply qO|apply qT|apply jB)|((with_reducible apply qP);exact rfl)|(apply wlp;(first|apply qC|apply qD);(first|exact fI rfl|exact fB rfl))))
  exact zX rfl rfl rfl ⟨_,rfl,rfl,hp.keeps⟩
theorem c88 (x:Nat) (w:World) (hl:(jT 256 x).length≤7) (hf:Fit x):Ret Tryz.prog 135 [.string (ofN x)] w (fun v w'=>v = .tuple #[.int .i64 (x:Int),.bool true]∧Keeps [] w w'):=jBa _ x w (NS.self hf) hl
theorem jBc (st:ByteArray) (x b:Nat) (w:World) (hst:NS st x) (hb:b≤7) (_hf:Fit x):Ret Tryz.prog 136 [.string st,.int .i64 (b:Int)] w (fun v w'=>(∃ q:Bool,q = decide ((jT 256 x).length≤b)∧v = .tuple #[.int .i64 (if q then (x:Int) else 0),.bool q])∧Keeps [] w w'):=by
 have hrl:(jT 256 x).reverse.length = (jT 256 x).length:=List.length_reverse
 refine Ret.of_WP Tryz.func136 rfl Tryz.ntmps136 rfl ?_
 have hp:=Hp.start (M:=[]) (w:=w)
 (repeat (first|(with_reducible first|apply qF|apply qA|apply qE|apply qB)|(apply wlp;(first|apply qC|apply qD);(first|exact fI rfl|exact fB rfl|exact fT rfl))))
 (apply wls;exact qH rfl kN rfl (qRn st x _ hst);rintro _ w1 ⟨rfl,hk⟩;have hp:=hp.call hk)
 (apply wlp;exact kL (l:=(jT 256 x).reverse) rfl rfl;exact qI (b:=((jT 256 x).length:Int)) (by rw [hrl]))
 (repeat (first|(with_reducible first|apply qE|apply qB)|(apply wlp;((first|apply qC|apply zA)<;>exact rfl);(first|exact fI rfl|exact fB rfl))))
 refine qM rfl (fun h=>?_) (fun h=>?_)
 ·(repeat (first|(with_reducible first|apply qF|apply qA|apply qE|apply qB|apply jV|apply qT)|(apply wlp;apply qD;(first|exact fI rfl|exact fB rfl))))
  exact zX rfl rfl rfl ⟨_,rfl,⟨false,(decide_eq_false (by omega)).symm,rfl⟩,hp.keeps⟩
 ·(repeat (first|(with_reducible first|apply qF|apply qA|apply qB|apply qL)|(apply wlp;apply qC;exact fT rfl)))
  (apply wls;exact qH rfl qQy rfl (jBa st x _ hst (by omega));rintro _ w2 ⟨rfl,hk⟩;have hp:=hp.call hk)
  (repeat (first|(with_reducible first|apply qE|apply qB|apply qT)|(apply wlp;((first|apply qD|apply jK)<;>exact rfl);(first|exact fI rfl|exact fB rfl))))
  exact zX rfl rfl rfl ⟨_,rfl,⟨true,(decide_eq_true (by omega)).symm,rfl⟩,hp.keeps⟩
theorem c68 (x b:Nat) (w:World) (hb:b≤7) (hf:Fit x):Ret Tryz.prog 136 [.string (ofN x),.int .i64 (b:Int)] w (fun v w'=>(∃ q:Bool,q = decide ((jT 256 x).length≤b)∧v = .tuple #[.int .i64 (if q then (x:Int) else 0),.bool q])∧Keeps [] w w'):=jBc _ x b w (NS.self hf) hb hf
end Go.Proofs.YtbgldmoikimmpaaGreatDoor
namespace Go.Proofs.YtbgldmoikimmpaaGreatDoor
open Go.Eng Go.Dig
theorem qLg (x:Nat) (l:List Nat):val 256 (x :: l).reverse = val 256 l.reverse + 256 ^ l.length * x:=by
 rw [List.reverse_cons,yM,List.length_reverse,qAh]
theorem qM5:∀ {l m:List Nat},Bd 256 l→Bd 256 m→l.length = m.length→Op.bytesLess (l.map UInt8.ofNat) (m.map UInt8.ofNat) = decide (val 256 l.reverse < val 256 m.reverse)
 | [],[],_,_,_=>rfl
 | [],y :: m,_,_,h=>by simp at h
 | x :: l,[],_,_,h=>by simp at h
 | x :: l,y :: m,hl,hm,h=>by
  have ih:=qM5 hl.tail hm.tail (by simpa using h)
  have hx:=hl.head
  have hy:=hm.head
  have h1:=yL (Bd.rev hl.tail)
  have h2:=yL (Bd.rev hm.tail)
  have hlen:l.length = m.length:=by simpa using h
  rw [List.length_reverse] at h1 h2
  rw [qLg,qLg,← hlen]
  rw [← hlen] at h2
  have ex:(UInt8.ofNat x).toNat = x:=by simp;omega
  have ey:(UInt8.ofNat y).toNat = y:=by simp;omega
  simp only [List.map_cons,Op.bytesLess]
  generalize 256 ^ l.length = P at *
  rcases Nat.lt_trichotomy x y with hxy|hxy|hxy
  ·have h3:P * (x + 1)≤P * y:=Nat.mul_le_mul_left P hxy
   rw [Nat.mul_add] at h3
   have h4:(UInt8.ofNat x) < (UInt8.ofNat y):=by rw [UInt8.lt_iff_toNat_lt,ex,ey];exact hxy
   have h5:val 256 l.reverse + P * x < val 256 m.reverse + P * y:=by omega
   simp [h4,h5]
  ·subst hxy
   have h4:¬ (UInt8.ofNat x) < (UInt8.ofNat x):=by rw [UInt8.lt_iff_toNat_lt];omega
   simp only [h4,ih]
   simp
  ·have h3:P * (y + 1)≤P * x:=Nat.mul_le_mul_left P hxy
   rw [Nat.mul_add] at h3
   have h4:(UInt8.ofNat y) < (UInt8.ofNat x):=by rw [UInt8.lt_iff_toNat_lt,ex,ey];exact hxy
   have h5:¬ (UInt8.ofNat x) < (UInt8.ofNat y):=by rw [UInt8.lt_iff_toNat_lt,ex,ey];omega
   have h6:(UInt8.ofNat x) ≠ (UInt8.ofNat y):=by
    intro e
    have:=congrArg UInt8.toNat e
    rw [ex,ey] at this
    omega
   have h7:¬ val 256 l.reverse + P * x < val 256 m.reverse + P * y:=by omega
   rw [decide_eq_false h7,decide_eq_false h5,beq_eq_false_iff_ne.2 h6]
   rfl
section
variable {P:Program} {n:Nat} {F:Fr} {w:World} {d:Option Tmp} {ty:TypeId} {pos:String} {aft:Array Edge} {g:Option (Nat × Bool)} {x y:Operand} {t t':Nat} {a b:ByteArray}
theorem qT3 (hx:ev n F x = .string a) (hy:ev n F y = .string b):PV P n w F ⟨d,.binOp .lss t x y t',ty,pos,aft,g⟩ (.bool (Op.bytesLess a.toList b.toList)):=by
 simp [PV,execOp,hx,hy,eqGuard,binOp,Op.stringOp]
theorem qT4 (hx:ev n F x = .string a) (hy:ev n F y = .string b):PV P n w F ⟨d,.binOp .gtr t x y t',ty,pos,aft,g⟩ (.bool (!(Op.bytesLess a.toList b.toList || decide (a = b)))):=by
 rw [← qDt]
 simp [PV,execOp,hx,hy,eqGuard,binOp,Op.stringOp]
end
theorem qPs {x y:Nat} (h:(jT 256 x).length = (jT 256 y).length):Op.bytesLess (ofN x).toList (ofN y).toList = decide (x < y):=by
 have e:∀ z,(ofN z).toList = (jT 256 z).reverse.map UInt8.ofNat:=by
  intro z
  rw [ByteArray.toList_eq]
  simp [ofN]
 rw [e,e,qM5 (Bd.rev (vC (by decide) x)) (Bd.rev (vC (by decide) y)) (by simpa using h),List.reverse_reverse,List.reverse_reverse,yR (by decide),yR (by decide)]
attribute [local irreducible] PV StepF wpl wpd WP Ret
attribute [local irreducible] Fit
theorem jD6 (sx sy:ByteArray) (x y:Nat) (w:World) (hx:NS sx x) (hy:NS sy y):Ret Tryz.prog 86 [.string sx,.string sy] w (fun v w'=>v = .int .i64 (if x < y then -1 else if x = y then 0 else 1)∧Keeps [] w w'):=by
 have hsx:=wD x
 have hsy:=wD y
 refine Ret.of_WP Tryz.func86 rfl Tryz.ntmps86 rfl ?_
 have hp:=Hp.start (M:=[]) (w:=w)
 (repeat (first|(with_reducible first|apply qF|apply qA|apply qE|apply qB)|(apply wlp;(first|apply qC|apply qD);(first|exact fI rfl|exact fT rfl))))
 (apply wls;exact qH rfl kN rfl (qRn sx x _ hx);rintro _ w1 ⟨rfl,hk⟩;have hp:=hp.call hk)
 (repeat (first|(with_reducible first|apply qF|apply qA|apply qE|apply qB)|(apply wlp;(first|apply qC|apply qD);exact fT rfl)))
 (apply wls;exact qH rfl kN rfl (qRn sy y _ hy);rintro _ w2 ⟨rfl,hk⟩;have hp:=hp.call hk)
 (repeat (first|(with_reducible first|apply qF|apply qA|apply qE|apply qB)|(apply wlp;((first|apply qC|apply qD|(apply xP;exact rfl)|(apply zJ;(first|exact rfl|exact jR rfl (by assumption))))<;>exact rfl);(first|exact fI rfl|exact fB rfl|exact fT rfl))))
 refine yQ rfl (fun h=>?_) (fun h=>?_)
 ·(repeat (first|(with_reducible first|apply qF|apply qA|apply qE|apply qB)|(apply wlp;((first|apply qC|(apply xP;exact rfl)|apply jA)<;>exact rfl);(first|exact fI rfl|exact fB rfl|exact fT rfl))))
  refine qM rfl (fun h2=>?_) (fun h2=>?_)
  ·have hlt:x < y:=vF (b:=256) (by decide) (by omega)
   (repeat (first|(with_reducible first|apply qF|apply qA|apply qE|apply qB|apply jV|apply qT)|(apply wlp;apply qD;exact fI rfl)))
   exact qU rfl rfl ⟨_,rfl,qI (by rw [if_pos hlt]),hp.keeps⟩
  ·have hlt:y < x:=vF (b:=256) (by decide) (by omega)
   (repeat (first|(with_reducible first|apply qF|apply qA|apply qE|apply qB|apply jV|apply qT|apply qL)|(apply wlp;apply qD;exact fI rfl)))
   exact qU rfl rfl ⟨_,rfl,qI (by rw [if_neg (by omega),if_neg (by omega)]),hp.keeps⟩
 ·have hl:(jT 256 x).length = (jT 256 y).length:=by omega
  have hle:=qPs hl
  have heq:=qKq x y
  (repeat (first|(with_reducible first|apply qF|apply qA|apply qB|apply qL)|(apply wlp;(first|apply qC|apply jA);exact fT rfl)))
  (apply wlp;exact qT3 rfl rfl;exact jF (b:=decide (x < y)) hle)
  (repeat (with_reducible first|apply qE|apply qB))
  refine qM rfl (fun h2=>?_) (fun h2=>?_)
  ·(repeat (first|(with_reducible first|apply qF|apply qA|apply qE|apply qB|apply jV|apply qT)|(apply wlp;apply qD;exact fI rfl)))
   exact qU rfl rfl ⟨_,rfl,qI (by rw [if_pos h2]),hp.keeps⟩
  ·(repeat (first|(with_reducible first|apply qF|apply qA|apply qB|apply qL)|(apply wlp;(first|apply qC|apply zA);exact fT rfl)))
   (apply wlp;exact qT4 rfl rfl;exact jF (b:=(!decide (x = y))) (by rw [hle,heq,decide_eq_false h2];rfl))
   (repeat (with_reducible first|apply qE|apply qB))
   refine yQ rfl (fun h3=>?_) (fun h3=>?_)
   ·(repeat (first|(with_reducible first|apply qF|apply qA|apply qE|apply qB|apply jV|apply qT)|(apply wlp;apply qD;exact fI rfl)))
    exact qU rfl rfl ⟨_,rfl,qI (by rw [if_neg h2,if_neg h3]),hp.keeps⟩
   ·(repeat (first|(with_reducible first|apply qF|apply qA|apply qE|apply qB|apply qT|apply qL)|(apply wlp;apply qD;exact fI rfl)))
    exact qU rfl rfl ⟨_,rfl,qI (by rw [if_neg h2,if_pos h3]),hp.keeps⟩
theorem c50 (x y:Nat) (w:World) (hx:Fit x) (hy:Fit y):Ret Tryz.prog 86 [.string (ofN x),.string (ofN y)] w (fun v w'=>v = .int .i64 (if x < y then -1 else if x = y then 0 else 1)∧Keeps [] w w'):=jD6 _ _ x y w (NS.self hx) (NS.self hy)
theorem jBb (st:ByteArray) (x:Nat) (w:World) (hst:NS st x) (hx:Fit x):Ret Tryz.prog 137 [.string st] w (fun v w'=>∃ s c,v = .slice s (d24 x).length c∧SVL s c (d24 x)∧Hp w [] w' [qW eD 3 1 s c (d24 x)]):=by
 have hL8:=hx.d8
 have hxl:=yT (b:=256) (by decide) (Nat.le_refl (jT 256 x).length)
 have hbd:Bd 256 (jT 256 x).reverse:=Bd.rev (vC (by decide) x)
 have hrl:(jT 256 x).reverse.length = (jT 256 x).length:=List.length_reverse
 have hra:=fun i hi h=>qOn (x:=x) (i:=i) hi h
 have hdn:∀ j,3 * j < (jT 256 x).length + 3→(jT 256 x).length≤3 * j→dg 16777216 x j = d24 x:=by
  intro j h1 h2
  have hlj:(d24 x).length = j:=by
   cases j with
   | zero=>
    have:x = 0:=(yK (b:=256) (by decide)).1 (List.eq_nil_of_length_eq_zero (by omega))
    subst this
    rfl
   | succ m=>exact qYs (by omega) (by omega)
  have:=uU (qBi x)
  rw [qIe,hlj] at this
  exact this.symm
 refine Ret.of_WP Tryz.func137 rfl Tryz.ntmps137 rfl ?_
 have hp:=(Hp.start (M:=[]) (w:=w)).nilL eD 3 1
 (repeat (first|(with_reducible first|apply qF|apply qA|apply qE|apply qB)|(apply wlp;(first|apply qC|apply qD);(first|exact fS rfl|exact fT rfl))))
 (apply wls;exact qH rfl kN rfl (qRn st x _ hst);rintro _ w1 ⟨rfl,hk⟩;have hp:=hp.call hk)
 skip
 (apply wlp;apply qD;exact fT rfl)
 (repeat (with_reducible first|apply qF|apply qA|apply qE|apply qB))
 (apply wlp;apply qD;exact fS rfl)
 (repeat (with_reducible first|apply qF|apply qA|apply qE|apply qB))
 (apply wlp;apply qC;exact fT rfl)
 (apply wlp;exact kL (l:=(jT 256 x).reverse) rfl rfl;exact qI (b:=((jT 256 x).length:Int)) (by rw [hrl]))
 generalize hL:(jT 256 x).length = L at *
 (repeat (first|(with_reducible first|apply qK|apply qE|apply qB)|(apply wlp;apply qD;exact fI rfl)))
 refine zW [3,4,5,6,11,12,13,14,15,16,17,18,19,20,21,22,23,24,25,26,27,28,29,30,31,32,33] (fun (j:Nat) (s:Option Addr) (c:Nat) F=>(F.put 4 (.int .i64 ((L:Int) - 3 * j))).put 3 (.slice s (dg 16777216 x j).length c))
  (fun j s c w'=>3 * j < L + 3∧SVL s c (dg 16777216 x j)∧Hp w [] w' [qW eD 3 1 s c (dg 16777216 x j)]) (fun j _ _=>L + 3 - 3 * j) 0 none 0 (qG (qG (Same.eq .refl) (qI (by omega))) rfl) ⟨by omega,SVL.nil,hp⟩ ?_
 clear hp
 rintro u j s c w2 ⟨hj,hv,hp⟩
 (repeat (first|(with_reducible first|apply qF|apply qA|apply qE|apply qB)|(apply wlp;((first|apply qC|apply zA)<;>exact rfl);(first|exact fI rfl|exact fB rfl))))
 refine qM rfl (fun h=>?_) (fun h=>?_)
 ·obtain ⟨e,he⟩:∃ e:Nat,e = L - 3 * j:=⟨_,rfl⟩
  have eL:(L:Int) - 3 * (j:Int) = (e:Int):=by omega
  rw [eL]
  have hll:(dg 16777216 x j).length≤100000:=by rw [uI];omega
  (repeat (first|(with_reducible first|apply qF|apply qK|apply qA|apply qE|apply qB|apply qL)|(apply wlp;(first|apply qC|apply qD);exact fI rfl)))
  (apply wlp;exact jN rfl rfl;exact qI (qN (by omega) (by omega)))
  (apply wlp;exact qOu rfl rfl;exact qI (b:=((e - 3:Nat):Int)) (by omega))
  (repeat (first|(with_reducible first|apply qK|apply qE|apply qB)|(apply wlp;apply qD;exact fI rfl)))
  refine jE [5,6,18,19,20,21,22,23,24,25,26,27,28,29] (fun (k:Nat) F=>(F.put 6 (.int .i64 (k:Int))).put 5 (.int .i64 ((x / 256 ^ (L - k) % 256 ^ (k - (e - 3)):Nat):Int))) (fun k w'=>e - 3≤k∧k≤e∧Hp w [] w' [qW eD 3 1 s c (dg 16777216 x j)]) (fun k=>e - k) (e - 3) (qG (qG (Same.eq .refl) rfl) (qI (by rw [Nat.sub_self,Nat.pow_zero,Nat.mod_one];rfl))) ⟨Nat.le_refl _,by omega,hp⟩ ?_
  clear hp
  rintro u2 k w3 ⟨hk1,hk2,hp⟩
  (repeat (first|(with_reducible first|apply qF|apply qA|apply qE|apply qB)|(apply wlp;((first|apply qC|apply jA)<;>exact rfl);(first|exact fI rfl|exact fB rfl))))
  refine qM rfl (fun h2=>?_) (fun h2=>?_)
  ·have hkl:k < (jT 256 x).reverse.length:=by omega
   have hrk:=hra k (by omega) hkl
   have hlb:=hbd.get hkl
   have hmn:=qPm (x / 256 ^ (L - 1 - k)) (k - (e - 3))
   rw [Nat.div_div_eq_div_mul,← Nat.pow_succ,show (L - 1 - k).succ = L - k from by omega,← hrk,show k - (e - 3) + 1 = k + 1 - (e - 3) from by omega,show L - 1 - k = L - (k + 1) from by omega] at hmn
   have hd1:x / 256 ^ (L - k) % 256 ^ (k - (e - 3)) < 65536:=by
    refine Nat.lt_of_lt_of_le (Nat.mod_lt _ (Nat.pow_pos (by decide))) ?_
    exact Nat.le_trans (Nat.pow_le_pow_right (by decide) (show k - (e - 3)≤2 by omega)) (by decide)
   generalize x / 256 ^ (L - k) % 256 ^ (k - (e - 3)) = D at *
   (repeat (first|(with_reducible first|apply qF|apply qK|apply qA|apply qB|apply qL)|(apply wlp;apply qC;exact fI rfl)))
   (apply wlp;(exact xU rfl rfl);exact qI (b:=((D * 256:Nat):Int)) (by rw [qN (by omega) (by omega)];omega))
   (apply wlp;apply qC;exact fT rfl)
   (apply wlp;apply qC;exact fI rfl)
   (apply wlp;exact qFc rfl rfl rfl hbd hkl;exact fI rfl)
   (apply wlp;exact zQ rfl rfl rfl;exact qI (b:=(((jT 256 x).reverse[k]:Nat):Int)) (qN (by omega) (by omega)))
   (apply wlp;exact qY rfl rfl;exact qI (b:=((x / 256 ^ (L - (k + 1)) % 256 ^ (k + 1 - (e - 3)):Nat):Int)) (by rw [qN (by omega) (by omega)];omega))
   (repeat (first|(with_reducible first|apply qA|apply qE|apply qB|apply qZ)|(apply wlp;(first|apply qC|apply qD);exact fI rfl)))
   (apply wlp;exact qY rfl rfl;exact qI (qN (by omega) (by omega)))
   (repeat (first|(with_reducible first|apply qE|apply qB)|(apply wlp;apply qD;exact fI rfl)))
   exact ⟨k + 1,qG (qG (Same.eq (by repeat (first|exact Same.hav|exact Same.refl|refine Same.put rfl ?_|refine Same.havs rfl ?_))) rfl) rfl,⟨by omega,by omega,hp⟩,by omega⟩
  ·obtain rfl:k = e:=by omega
   have hdig:x / 256 ^ (L - k) % 256 ^ (k - (k - 3)) = x / 16777216 ^ j % 16777216:=by
    rw [qJ4,show L - k = 3 * j from by omega]
    by_cases h3:3≤k
    ·rw [show k - (k - 3) = 3 from by omega]
    ·have h4:x / 256 ^ (3 * j) < 256 ^ k:=by
      rw [Nat.div_lt_iff_lt_mul (Nat.pow_pos (by decide)),← Nat.pow_add,show k + 3 * j = L from by omega]
      exact hxl
     have h5:x / 256 ^ (3 * j) < 16777216:=Nat.lt_of_lt_of_le h4 (Nat.le_trans (Nat.pow_le_pow_right (by decide) (show k≤3 by omega)) (by decide))
     rw [show k - (k - 3) = k from by omega,Nat.mod_eq_of_lt h4,Nat.mod_eq_of_lt h5]
   rw [hdig]
   have hsn:=qEk 16777216 j x
   (repeat (first|(with_reducible first|apply qA|apply qB|apply qO|apply jB)|((with_reducible apply qP);exact rfl)|(apply wlp;apply qC;(first|exact fI rfl|exact fS rfl))))
   (apply wls;exact jP hp rfl rfl rfl rfl rfl rfl rfl;rintro _ w4 ⟨nb,rfl,hp⟩)
   (apply wls;exact zL eD (dg 16777216 x j) (x / 16777216 ^ j % 16777216) hp 1 0 rfl rfl rfl rfl rfl rfl (fun _=>rfl) rfl rfl rfl hv rfl rfl (by omega);rintro _ w5 ⟨s',c',rfl,hv',hp⟩)
   have hp:=hp.tail
   have hp:Hp w [] w5 [qW eD 3 1 s' c' (dg 16777216 x j ++ [x / 16777216 ^ j % 16777216])]:=hp
   rw [← hsn] at hv' hp ⊢
   (repeat (first|(with_reducible first|apply qA|apply qE|apply qB|apply qZ)|(apply wlp;(first|apply qC|apply qD);(first|exact fI rfl|exact fS rfl))))
   (apply wlp;exact jN rfl rfl;exact qI (qN (by omega) (by omega)))
   (repeat (first|(with_reducible first|apply qE|apply qB)|(apply wlp;apply qD;exact fI rfl)))
   exact ⟨j + 1,s',c',qG (qG (Same.eq (by repeat (first|exact Same.hav|exact Same.refl|refine Same.put rfl ?_|refine Same.havs rfl ?_))) (qI (by omega))) rfl,⟨by omega,hv',hp⟩,by omega⟩
 ·rw [hdn j hj (by omega)] at hv hp ⊢
  (repeat (first|(with_reducible first|apply qF|apply qA|apply qE|apply qB|apply qO|apply qT|apply jB)|((with_reducible apply qP);exact rfl)|(apply wlp;(first|apply qC|apply qD);exact fS rfl)))
  exact qU rfl rfl ⟨_,rfl,s,c,rfl,hv,hp⟩
theorem c69 (x:Nat) (w:World) (hx:Fit x):Ret Tryz.prog 137 [.string (ofN x)] w (fun v w'=>∃ s c,v = .slice s (d24 x).length c∧SVL s c (d24 x)∧Hp w [] w' [qW eD 3 1 s c (d24 x)]):=jBb _ x w (NS.self hx) hx
theorem qPh {V k:Nat} {l:List Nat} (hb:Bd 16777216 l) (hV:V = val 16777216 l) (hk:k < l.length):((dg 256 V (3 * l.length)).drop (3 * k)).reverse = ((dg 256 V (3 * l.length)).drop (3 * (k + 1))).reverse ++ [l[k] / 65536 % 256,l[k] / 256 % 256,l[k] % 256]:=by
 have hl:(dg 256 V (3 * l.length)).length = 3 * l.length:=uI _ _ _
 have hg:=qD0 hb hk
 rw [← hV,qJ4] at hg
 have g:∀ i,i < 3→∀ (h:3 * k + i < (dg 256 V (3 * l.length)).length),(dg 256 V (3 * l.length))[3 * k + i] = l[k] / 256 ^ i % 256:=by
  intro i hi h
  have h1:=qDr 256 (3 * l.length) V (3 * k + i) (by omega)
  rw [List.getElem?_eq_getElem h] at h1
  simp only [Option.some.injEq] at h1
  rw [h1,hg,Nat.pow_add,← Nat.div_div_eq_div_mul]
  generalize V / 256 ^ (3 * k) = y
  have:i = 0∨i = 1∨i = 2:=by omega
  rcases this with rfl|rfl|rfl
  ·simp only [Nat.pow_zero,Nat.div_one];omega
  ·simp only [Nat.pow_one];omega
  ·rw [show (256:Nat) ^ 2 = 65536 from by decide];omega
 have h0:3 * k + 0 < (dg 256 V (3 * l.length)).length:=by omega
 have h1:3 * k + 1 < (dg 256 V (3 * l.length)).length:=by omega
 have h2:3 * k + 2 < (dg 256 V (3 * l.length)).length:=by omega
 have e0:=g 0 (by decide) h0
 have e1:=g 1 (by decide) h1
 have e2:=g 2 (by decide) h2
 rw [Nat.pow_zero,Nat.div_one] at e0
 rw [Nat.pow_one] at e1
 rw [show (256:Nat) ^ 2 = 65536 from by decide] at e2
 have d0:=List.drop_eq_getElem_cons h0
 have d1:=List.drop_eq_getElem_cons h1
 have d2:=List.drop_eq_getElem_cons h2
 rw [e0] at d0
 rw [e1] at d1
 rw [e2] at d2
 rw [show 3 * k = 3 * k + 0 from rfl,d0,show 3 * k + 0 + 1 = 3 * k + 1 from rfl,d1,show 3 * k + 1 + 1 = 3 * k + 2 from rfl,d2,show 3 * k + 2 + 1 = 3 * (k + 1) from by omega]
 simp
theorem c70 (l:List Nat) (s:Option Addr) (c:Nat) (w:World) (hs:SlAt w 1 eD s l) (hb:Bd 16777216 l) (hl:l.length≤100000):Ret Tryz.prog 138 [.slice s l.length c] w (fun v w'=>v = .string (ofN (val 16777216 l))∧Keeps [] w w'):=by
 obtain ⟨V,hV⟩:∃ V,V = val 16777216 l:=⟨_,rfl⟩
 have hVl:V < 256 ^ (3 * l.length):=by rw [hV,← qJ4];exact yL hb
 rw [← hV]
 have hdl:=uI 256 (3 * l.length) V
 have h67:=c67 (dg 256 V (3 * l.length)).reverse
 rw [qCq hVl] at h67
 have hbd:Bd 256 (dg 256 V (3 * l.length)).reverse:=Bd.rev (qFu (by decide) _ V)
 refine Ret.of_WP Tryz.func138 rfl Tryz.ntmps138 rfl ?_
 have hp:=(Hp.start (M:=[]) (w:=w)).nilL eB 5 1
 (repeat (first|(with_reducible first|apply qF|apply qA|apply qE|apply qB)|(apply wlp;((first|apply qC|apply qD|(apply jC;exact rfl))<;>exact rfl);(first|exact fI rfl|exact fS rfl|exact fT rfl))))
 (apply wlp;exact jN rfl rfl;exact qI (qN (by omega) (by omega)))
 (repeat (first|(with_reducible first|apply qK|apply qE|apply qB)|(apply wlp;apply qD;exact fI rfl)))
 refine zW [3,4,8,9,10,11,12,13,14,15,16,17,18,19,20,21,22,23,24,25,26,27,28,29,30,31] (fun (k:Nat) (s:Option Addr) (c:Nat) F=>(F.put 4 (.int .i64 ((k:Int) - 1))).put 3 (.slice s ((dg 256 V (3 * l.length)).drop (3 * k)).reverse.length c))
  (fun k s c w'=>k≤l.length∧SVL s c ((dg 256 V (3 * l.length)).drop (3 * k)).reverse∧Hp w [] w' [qW eB 5 1 s c ((dg 256 V (3 * l.length)).drop (3 * k)).reverse]) (fun k _ _=>k) l.length none 0 (qG (qG (Same.eq .refl) rfl) (by rw [List.drop_of_length_le (by omega)];rfl)) ⟨Nat.le_refl _,by rw [List.drop_of_length_le (by omega)];exact SVL.nil,by rw [List.drop_of_length_le (by omega)];exact hp⟩ ?_
 clear hp
 rintro u k s2 c2 w1 ⟨hk,hv,hp⟩
 (repeat (first|(with_reducible first|apply qF|apply qA|apply qE|apply qB)|(apply wlp;((first|apply qC|apply xF)<;>exact rfl);(first|exact fI rfl|exact fB rfl))))
 refine qM rfl (fun h=>?_) (fun h=>?_)
 ·obtain ⟨j,rfl⟩:∃ j,k = j + 1:=⟨k - 1,by omega⟩
  have hlt:j < l.length:=by omega
  have hst:=qPh hb hV hlt
  obtain ⟨b0,o0,hs0,hc0⟩:=hs.base (by omega)
  have hci:=hc0 j _ (List.getElem?_eq_getElem hlt) 0 _ rfl
  have hdb:=hb.get hlt
  have ej:((j + 1:Nat):Int) - 1 = (j:Int):=by omega
  rw [ej]
  generalize l[j] = D at *
  have hci:w.cell? ⟨b0,o0 + j * 1,none⟩ = some (.int .i64 (D:Int)):=hci
  have hll:((dg 256 V (3 * l.length)).drop (3 * (j + 1))).reverse.length≤300000:=by rw [List.length_reverse,List.length_drop];omega
  generalize ((dg 256 V (3 * l.length)).drop (3 * (j + 1))).reverse = Z at *
  (repeat (with_reducible first|apply qF|apply qK|apply qB|apply qL))
  refine xH jW (by kernel_rfl) (fun w'=>Hp w [] w' _) hp.drew ?_
  have hp:=hp.drew
  (repeat ((apply wdp;exact rfl);(intro w hp;intros;((first|apply qC|(apply qJ;exact rfl)|(apply qR;exact rfl))<;>(first|exact rfl|assumption|exact hp.old0 (by assumption))));(intros;(first|exact fI rfl|exact fP rfl|exact fS rfl))))
  (apply wdp;exact rfl;(intro w hp;exact xA (b:=16) rfl rfl (by decide));exact qI (b:=((D / 65536:Nat):Int)) rfl)
  (apply wdp;exact rfl;(intro w hp;exact uG rfl rfl rfl);exact fI rfl)
  (repeat ((apply wdp;exact rfl);(intro w hp;intros;((first|apply qC|(apply qJ;exact rfl)|(apply qR;exact rfl))<;>(first|exact rfl|assumption|exact hp.old0 (by assumption))));(intros;(first|exact fI rfl|exact fP rfl|exact fS rfl))))
  (apply wdp;exact rfl;(intro w hp;exact xA (b:=8) rfl rfl (by decide));exact qI (b:=((D / 256:Nat):Int)) rfl)
  (apply wdp;exact rfl;(intro w hp;exact uG rfl rfl rfl);exact fI rfl)
  (apply wdp;exact rfl;(intro w hp;exact qC);exact fS rfl)
  (apply wdp;exact rfl;(intro w hp;exact qC);exact fI rfl)
  (apply wdp;exact rfl;(intro w hp;exact qR rfl rfl rfl hs0 hlt);exact fP rfl)
  (apply wdp;exact rfl;(intro w hp;exact qJ rfl rfl (hp.old0 hci));exact fI rfl)
  (apply wdp;exact rfl;(intro w hp;exact uG rfl rfl rfl);exact fI rfl)
  (apply wds;exact rfl;exact jP hp rfl rfl rfl rfl rfl rfl rfl;rintro _ w2 ⟨nb,rfl,hp⟩;refine ⟨hp.tail,?_⟩)
  have hsn:SlAt w2 1 eB (some ⟨nb,0,none⟩) [D / 65536 % 256,D / 256 % 256,D % 256]:=kO [D / 65536 % 256,D / 256 % 256,D % 256] hp 0 rfl (fun _=>rfl)
  (apply qSc;exact rfl;exact rfl;exact qEx eB Z [D / 65536 % 256,D / 256 % 256,D % 256] hp 1 rfl rfl rfl rfl rfl rfl (fun _=>rfl) rfl rfl rfl hv hsn (fun _=>rfl) (by show Z.length + 3 < 1000000;omega);rintro _ w3 ⟨s',c',rfl,hv',hp⟩)
  (repeat ((apply wdp;exact rfl);(intro w hp;intros;apply qD);(intros;exact fS rfl)))
  refine jL ?_
  have hp:=hp.tail
  have hp:Hp w [] w3 [qW eB 5 1 s' c' (Z ++ [D / 65536 % 256,D / 256 % 256,D % 256])]:=hp
  rw [← hst] at hv' hp ⊢
  (repeat (first|(with_reducible first|apply qA|apply qB|apply qZ)|(apply wlp;apply qC;exact fI rfl)))
  (apply wlp;exact jN rfl rfl;exact qI (qN (by omega) (by omega)))
  (repeat (first|(with_reducible first|apply qE|apply qB)|(apply wlp;apply qD;exact fI rfl)))
  exact ⟨j,s',c',qG (qG (Same.eq (by repeat (first|exact Same.hav|exact Same.refl|refine Same.put rfl ?_|refine Same.havs rfl ?_))) rfl) rfl,⟨by omega,hv',hp⟩,by omega⟩
 ·obtain rfl:k = 0:=by omega
  rw [Nat.mul_zero,List.drop_zero] at hv hp ⊢
  by_cases hl0:l.length = 0
  ·have hn:(dg 256 V (3 * l.length)).reverse = []:=List.eq_nil_of_length_eq_zero (by rw [List.length_reverse];omega)
   rw [hn] at h67 hv hp ⊢
   rcases hv with ⟨e1,_⟩|⟨g,cap,e1,_⟩
   ·injection e1 with e2 _ e3
    subst e2 e3
    (repeat (first|(with_reducible first|apply qF|apply qA|apply qB|apply qO|apply jB)|((with_reducible apply qP);exact rfl)|(apply wlp;(first|apply qC|apply zQ);exact fS rfl)))
    (apply wlp;exact qLy rfl rfl rfl;exact fT rfl)
    (apply wls;exact qH rfl kN rfl (h67 _ .nil (by simp));rintro _ w2 ⟨rfl,hk⟩;have hp:=hp.call hk)
    (repeat (first|(with_reducible first|apply qE|apply qB|apply qT)|(apply wlp;apply qD;exact fT rfl)))
    exact qU rfl rfl ⟨_,rfl,rfl,hp.keeps⟩
   ·injection e1 with e2 _ e3
    subst e2
    (repeat (first|(with_reducible first|apply qF|apply qA|apply qB|apply qO|apply jB)|((with_reducible apply qP);exact rfl)|(apply wlp;(first|apply qC|apply zQ);exact fS rfl)))
    (apply wlp;exact qEg hp rfl rfl rfl rfl rfl (.inr ⟨g,cap,by rw [e3],by assumption⟩);exact fT rfl)
    (apply wls;exact qH rfl kN rfl (h67 _ .nil (by simp));rintro _ w2 ⟨rfl,hk⟩;have hp:=hp.call hk)
    (repeat (first|(with_reducible first|apply qE|apply qB|apply qT)|(apply wlp;apply qD;exact fT rfl)))
    exact qU rfl rfl ⟨_,rfl,rfl,hp.keeps⟩
  ·have hne:(dg 256 V (3 * l.length)).reverse ≠ []:=by
    intro h
    have:=congrArg List.length h
    rw [List.length_reverse,hdl] at this
    simp at this
    omega
   obtain ⟨bb,rfl⟩:=hv.addr hne
   (repeat (first|(with_reducible first|apply qF|apply qA|apply qB|apply qO|apply jB)|((with_reducible apply qP);exact rfl)|(apply wlp;(first|apply qC|apply zQ);exact fS rfl)))
   (apply wlp;exact qEg hp rfl rfl rfl rfl rfl hv;exact fT rfl)
   (apply wls;exact qH rfl kN rfl (h67 _ hbd (by rw [List.length_reverse,hdl];omega));rintro _ w2 ⟨rfl,hk⟩;have hp:=hp.call hk)
   (repeat (first|(with_reducible first|apply qE|apply qB|apply qT)|(apply wlp;apply qD;exact fT rfl)))
   exact qU rfl rfl ⟨_,rfl,rfl,hp.keeps⟩
end Go.Proofs.YtbgldmoikimmpaaGreatDoor
namespace Go.Proofs.YtbgldmoikimmpaaGreatDoor
open Go.Eng Go.Dig
theorem qEt {l:List Nat} (h:Bd 16777216 l):yZ l = d24 (val 16777216 l):=qAi (by decide) h
theorem qHr {n:Nat} {F:Fr} {w:World} {d:Option Tmp} {ty:TypeId} {pos:String} {aft:Array Edge} {g:Option (Nat × Bool)} {x y:Operand} {t t' a b:Nat} (hx:ev n F x = .int .i64 (a:Int)) (hy:ev n F y = .int .i64 (b:Int)) (hb:0 < b) (ha:a≤9223372036854775807):PV Tryz.prog n w F ⟨d,.binOp .quo t x y t',ty,pos,aft,g⟩ (.int .i64 ((a / b:Nat):Int)):=by
 have h:=yV (P:=Tryz.prog) (w:=w) (d:=d) (ty:=ty) (pos:=pos) (aft:=aft) (g:=g) (t:=t) (t':=t') hx hy (by omega)
 rwa [vO b ha] at h
theorem qLx {n:Nat} {F:Fr} {w:World} {d:Option Tmp} {ty:TypeId} {pos:String} {aft:Array Edge} {g:Option (Nat × Bool)} {x y:Operand} {t t' a b:Nat} (hx:ev n F x = .int .i64 (a:Int)) (hy:ev n F y = .int .i64 (b:Int)) (hb:0 < b):PV Tryz.prog n w F ⟨d,.binOp .rem t x y t',ty,pos,aft,g⟩ (.int .i64 ((a % b:Nat):Int)):=by
 have h:=yU (P:=Tryz.prog) (w:=w) (d:=d) (ty:=ty) (pos:=pos) (aft:=aft) (g:=g) (t:=t) (t':=t') hx hy (by omega)
 rwa [yP] at h
theorem qA0 (b:Nat) (l:List Nat) (d:Nat):val b (l ++ [d]) = val b l + b ^ l.length * d:=by rw [yM,qAh]
attribute [local irreducible] PV StepF wpl wpd WP Ret
attribute [local irreducible] Fit
theorem c89 (l:List Nat) (s:Option Addr) (c:Nat) (w:World) (hc:l.length≤c) (hm:l.length≤1000000) (hs:SlAt w 1 eD s l) :
  Ret Tryz.prog 190 [.slice s l.length c] w (fun v w'=>v = .slice s (yZ l).length c∧Keeps [] w w'):=by
 refine Ret.of_WP Tryz.func190 rfl Tryz.ntmps190 rfl ?_
 have hp:=Hp.start (M:=[]) (w:=w)
 (repeat (first|(with_reducible first|apply qF|apply qK|apply qA|apply qE|apply qB)|(apply wlp;apply qD;exact fS rfl)))
 refine jE [0,3,4,5,6,7,8,9,10,11,12,13,14,15,16,17,18,19] (fun (m:Nat) F=>F.put 0 (.slice s m c)) (fun m w'=>m≤l.length∧yZ l = yZ (l.take m)∧Hp w [] w' []) (fun m=>m) l.length (qG (Same.eq .refl) rfl) ⟨Nat.le_refl _,by rw [List.take_length],hp⟩ ?_
 clear hp
 rintro u m w1 ⟨hml,ht,hp⟩
 (repeat (with_reducible first|apply qF|apply qA))
 (apply wlp;apply qC;exact fS rfl)
 (apply wlp;((apply jC;exact rfl)<;>exact rfl);exact fI rfl)
 by_cases h0:0 < m
 ·obtain ⟨k,rfl⟩:∃ k,m = k + 1:=⟨m - 1,by omega⟩
  have hlt:k < l.length:=by omega
  have hk1:k < k + 1:=by omega
  have htk:=List.take_succ_eq_append_getElem hlt
  obtain ⟨b0,o0,hs0,hc0⟩:=hs.base (by omega)
  have hci:=hc0 k _ (List.getElem?_eq_getElem hlt) 0 _ rfl
  generalize l[k] = y at hci htk
  have hci:w.cell? ⟨b0,o0 + k * 1,none⟩ = some (.int .i64 (y:Int)):=hci
  (apply wlp;(exact zA rfl rfl);exact jF (b:=true) (decide_eq_true (by omega)))
  (repeat (first|(apply wlp;(intros;((first|apply qC|(apply jC;exact rfl))<;>exact rfl));(intros;(first|exact fI rfl|exact fB rfl|exact fS rfl)))|((apply jO;exact rfl;exact rfl);(((first|apply qC|(apply jC;exact rfl))<;>exact rfl));(intros;(first|exact fI rfl|exact fB rfl|exact fS rfl)))|(apply vS;exact rfl;exact rfl;exact rfl)|(apply vR;exact rfl;exact rfl)))
  (apply jO;exact rfl;exact rfl;(exact jN rfl rfl);exact qI (b:=((k:Nat):Int)) (by rw [qN (by omega) (by omega)];omega))
  (repeat (first|(with_reducible first|apply qE|apply qB)|(apply wlp;(intros;((first|(apply qJ;exact rfl)|exact zM rfl rfl|(apply zF;(first|exact rfl|exact jR rfl (by assumption)))|(apply qR;exact rfl))<;>(first|exact rfl|assumption|exact hp.old0 (by assumption))));(intros;(first|exact fI rfl|exact fB rfl|exact fP rfl)))|((apply jO;exact rfl;exact rfl);(((first|(apply qJ;exact rfl)|exact zM rfl rfl|(apply zF;(first|exact rfl|exact jR rfl (by assumption)))|(apply qR;exact rfl))<;>(first|exact rfl|assumption|exact hp.old0 (by assumption))));(intros;(first|exact fI rfl|exact fB rfl|exact fP rfl)))|(apply vS;exact rfl;exact rfl;exact rfl)|(apply vR;exact rfl;exact rfl)))
  refine qM rfl (fun h=>?_) (fun h=>?_)
  ·have hy:y = 0:=by omega
   subst hy
   (repeat (first|(with_reducible first|apply qK|apply qA|apply qB|apply qL)|(apply wlp;((first|apply qC|(apply jC;exact rfl))<;>exact rfl);(first|exact fI rfl|exact fS rfl))))
   (apply wlp;(exact jN rfl rfl);exact qI (b:=((k:Nat):Int)) (by rw [qN (by omega) (by omega)];omega))
   (apply wlp;exact uZ rfl rfl rfl (by omega);exact fS rfl)
   (repeat (first|(with_reducible first|apply qE|apply qB|apply qZ)|(apply wlp;apply qD;exact fS rfl)))
   refine ⟨k,qG (Same.eq (by repeat (first|exact Same.hav|exact Same.refl|refine Same.put rfl ?_|refine Same.havs rfl ?_))) rfl,⟨by omega,?_,hp⟩,by omega⟩
   rw [ht,htk,qAw]
  ·have hy:y ≠ 0:=by omega
   (repeat (first|(with_reducible first|apply qF|apply qA|apply qE|apply qB|apply qO|apply qT|apply jB)|((with_reducible apply qP);exact rfl)|(apply wlp;(first|apply qC|apply qD);exact fS rfl)))
   refine qU rfl rfl ⟨_,rfl,qDz ?_,hp.keeps⟩
   rw [ht,htk,qC5 hy]
   simp
   omega
 ·obtain rfl:m = 0:=by omega
  (apply wlp;(exact zA rfl rfl);exact jF (b:=false) (decide_eq_false (by omega)))
  (repeat (first|(with_reducible first|apply qE|apply qB)|(apply wlp;(intros;(first|apply qC|exact vX rfl));(intros;exact fB rfl))|(apply vS;exact rfl;exact rfl;exact rfl)|(apply vR;exact rfl;exact rfl)))
  refine jI rfl ?_
  (repeat (first|(with_reducible first|apply qF|apply qA|apply qE|apply qB|apply qO|apply qT|apply jB)|((with_reducible apply qP);exact rfl)|(apply wlp;(first|apply qC|apply qD);exact fS rfl)))
  refine qU rfl rfl ⟨_,rfl,qDz ?_,hp.keeps⟩
  rw [ht]
  rfl
theorem qG1 {P:Program} {n:Nat} {Q:Exit→Fr→World→Prop} {F:Fr} {w:World} {c:Code} {X Y Z T U:Type} (S:List Nat) (H:X→Y→Z→T→U→Fr→Fr) (I:X→Y→Z→T→U→World→Prop) (μ:X→Y→Z→T→U→Nat) (x0:X) (y0:Y) (z0:Z) (t0:T) (u0:U) (h0:F = H x0 y0 z0 t0 u0 (Fr.hav S F F)) (hi:I x0 y0 z0 t0 u0 w)
  (round:∀ (v:Fr) (x:X) (y:Y) (z:Z) (t:T) (u:U) (w:World),I x y z t u w→WP P n c (wL (fun F' w'=>∃ x' y' z' t' u',F' = H x' y' z' t' u' (Fr.hav S F' F)∧I x' y' z' t' u' w'∧μ x' y' z' t' u' < μ x y z t u) Q) (H x y z t u (Fr.hav S v F)) w):WP P n (.loop c) Q F w:=by
 refine jE S (fun (x:X × Y × Z × T × U)=>H x.1 x.2.1 x.2.2.1 x.2.2.2.1 x.2.2.2.2) (fun x=>I x.1 x.2.1 x.2.2.1 x.2.2.2.1 x.2.2.2.2) (fun x=>μ x.1 x.2.1 x.2.2.1 x.2.2.2.1 x.2.2.2.2) (x0,y0,z0,t0,u0) h0 hi ?_
 intro u x w hI
 refine qDg (round u x.1 x.2.1 x.2.2.1 x.2.2.2.1 x.2.2.2.2 w hI) ?_
 intro e F w h
 cases e with
 | normal=>
  obtain ⟨x',y',z',t',u',h1,h2,h3⟩:=h
  exact ⟨(x',y',z',t',u'),h1,h2,h3⟩
 | _=>exact h
theorem jD1 (x y:Nat) (s s2:Option Addr) (c c2:Nat) (w:World) (hx:SlAt w 1 eD s (d24 x)) (hy:SlAt w 1 eD s2 (d24 y)) (hlx:(d24 x).length≤100000) (hly:(d24 y).length≤100000) (hyx:y≤x) :
  Ret Tryz.prog 193 [.slice s (d24 x).length c,.slice s2 (d24 y).length c2] w (fun v w'=>∃ s' c' z,v = .slice s' (d24 (x - y)).length c'∧d24 (x - y) <+: z∧SVL s' c' z∧Hp w [] w' [qW eD 3 1 s' c' z]):=by
 refine Ret.of_WP Tryz.func193 rfl Tryz.ntmps193 rfl ?_
 have hp:=(Hp.start (M:=[]) (w:=w)).nilL eD 3 1
 (repeat (first|(with_reducible first|apply qF|apply qK|apply qA|apply qE|apply qB)|(apply wlp;apply qD;(first|exact fI rfl|exact fS rfl))))
 refine qG1 [5,6,7,8,9,10,11,12,13,14,15,16,17,18,19,20,21,22,23,24,25,26,27,28,29,30,31,32,33,34,35,36,37,38] (fun (i bo:Nat) (z:List Nat) (st:Option Addr) (ct:Nat) F=>((F.put 7 (.int .i64 (i:Int))).put 6 (.int .i64 (bo:Int))).put 5 (.slice st z.length ct))
  (fun i bo z st ct w'=>i≤(d24 x).length∧z.length = i∧Bd 16777216 z∧bo < 2∧val 16777216 z + y % 16777216 ^ i = x % 16777216 ^ i + bo * 16777216 ^ i∧SVL st ct z∧Hp w [] w' [qW eD 3 1 st ct z])
  (fun i _ _ _ _=>(d24 x).length - i) 0 0 [] none 0 (qG (qG (qG (Same.eq .refl) rfl) rfl) rfl) ⟨Nat.zero_le _,rfl,.nil,by decide,by simp [val,Nat.mod_one],SVL.nil,hp⟩ ?_
 clear hp
 rintro u i bo z st ct w2 ⟨hi,hzl,hzb,hbo,hval,hv,hp⟩
 (repeat (first|(with_reducible first|apply qF|apply qA|apply qE|apply qB)|(apply wlp;((first|apply qC|(apply jC;exact rfl)|apply jA)<;>exact rfl);(first|exact fI rfl|exact fB rfl|exact fS rfl))))
 refine qM rfl (fun h2=>?_) (fun h2=>?_)
 ·have hlt:i < (d24 x).length:=by omega
  obtain ⟨b0,o0,hs0,hc0⟩:=hx.base (by omega)
  have hci:=hc0 i _ (List.getElem?_eq_getElem hlt) 0 _ rfl
  have hbd:=(qBi x).get hlt
  have hg:=qBq hlt
  generalize (d24 x)[i] = dx at hci hbd hg
  have hci:w.cell? ⟨b0,o0 + i * 1,none⟩ = some (.int .i64 (dx:Int)):=hci
  obtain ⟨dy,hgy,hbdy⟩:∃ dy,dy = y / 16777216 ^ i % 16777216∧dy < 16777216:=⟨_,rfl,Nat.mod_lt _ (by decide)⟩
  (repeat (first|(with_reducible first|apply qF|apply qK|apply qA|apply qB|apply qL)|(apply wlp;((first|apply qC|(apply qJ;exact rfl)|(apply qR;exact rfl))<;>(first|exact rfl|assumption|exact hp.old0 (by assumption)));(first|exact fI rfl|exact fP rfl|exact fS rfl))))
  (apply wlp;exact jN rfl rfl;exact qI (qN (by omega) (by omega)))
  (repeat (first|(with_reducible first|apply qF|apply qA|apply qE|apply qB)|(apply wlp;((first|apply qC|apply qD|(apply jC;exact rfl)|apply jA)<;>exact rfl);(first|exact fI rfl|exact fB rfl|exact fS rfl))))
  refine qM rfl (fun h3=>?_) (fun h3=>?_)
  ·have hlty:i < (d24 y).length:=by omega
   obtain ⟨b1,o1,hs1,hc1⟩:=hy.base (by omega)
   have hcj:=hc1 i _ (List.getElem?_eq_getElem hlty) 0 _ rfl
   have hg2:=qBq hlty
   rw [← hgy] at hg2
   rw [hg2] at hcj
   have hcj:w.cell? ⟨b1,o1 + i * 1,none⟩ = some (.int .i64 (dy:Int)):=hcj
   (repeat (first|with_reducible apply qA|(apply wlp;((first|apply qC|(apply qJ;exact rfl)|(apply qR;exact rfl))<;>(first|exact rfl|assumption|exact hp.old0 (by assumption)));(first|exact fI rfl|exact fP rfl|exact fS rfl))))
   (apply wlp;exact jN rfl rfl;exact qI (qN (by omega) (by omega)))
   (repeat (first|(with_reducible first|apply qF|apply qA|apply qE|apply qB)|(apply wlp;((first|apply qC|apply qD|apply jA)<;>exact rfl);(first|exact fI rfl|exact fB rfl))))
   refine qM rfl (fun h4=>?_) (fun h4=>?_)
   ·obtain ⟨q,hq⟩:∃ q:Nat,(q:Int) = (dx:Int) - bo - dy + 16777216:=⟨((dx:Int) - bo - dy + 16777216).toNat,by omega⟩
    (repeat (first|(with_reducible first|apply qF|apply qA)|(apply wlp;apply qC;exact fI rfl)))
    (apply wlp;exact qY rfl rfl;exact qI (b:=(q:Int)) (by rw [qN (by omega) (by omega)];omega))
    (repeat (first|(with_reducible first|apply qA|apply qE|apply qB)|(apply wlp;(first|apply qC|apply qD);(first|exact fI rfl|exact fS rfl))))
    (apply wls;exact jP hp rfl rfl rfl rfl rfl rfl rfl;rintro _ w3 ⟨nb,rfl,hp⟩)
    (apply wls;exact zL eD z q hp 1 0 rfl rfl rfl rfl rfl rfl (fun _=>rfl) rfl rfl rfl hv rfl rfl (by omega);rintro _ w4 ⟨s',c',rfl,hv',hp⟩)
    have hp:=hp.tail
    (repeat (first|(with_reducible first|apply qA|apply qE|apply qB|apply qZ)|(apply wlp;(first|apply qC|apply qD);(first|exact fI rfl|exact fS rfl))))
    (apply wlp;exact qY rfl rfl;exact qI (qN (by omega) (by omega)))
    (repeat (first|(with_reducible first|apply qE|apply qB)|(apply wlp;apply qD;exact fI rfl)))
    refine ⟨i + 1,1,z ++ [q],s',c',qG (qG (qG (Same.eq (by repeat (first|exact Same.hav|exact Same.refl|refine Same.put rfl ?_|refine Same.havs rfl ?_))) rfl) rfl) rfl,⟨by omega,by simp [hzl],hzb.app (.cons (by omega) .nil),by omega,?_,hv',hp⟩,by omega⟩
    rw [qA0,hzl]
    refine qA2 hval ?_
    rw [← hg,← hgy]
    omega
   ·obtain ⟨q,hq⟩:∃ q:Nat,(q:Int) = (dx:Int) - bo - dy:=⟨((dx:Int) - bo - dy).toNat,by omega⟩
    rw [← hq]
    (repeat (first|(with_reducible first|apply qA|apply qB|apply qL)|(apply wlp;apply qC;(first|exact fI rfl|exact fS rfl))))
    (apply wls;exact jP hp rfl rfl rfl rfl rfl rfl rfl;rintro _ w3 ⟨nb,rfl,hp⟩)
    (apply wls;exact zL eD z q hp 1 0 rfl rfl rfl rfl rfl rfl (fun _=>rfl) rfl rfl rfl hv rfl rfl (by omega);rintro _ w4 ⟨s',c',rfl,hv',hp⟩)
    have hp:=hp.tail
    (repeat (first|(with_reducible first|apply qA|apply qE|apply qB|apply qZ)|(apply wlp;(first|apply qC|apply qD);(first|exact fI rfl|exact fS rfl))))
    (apply wlp;exact qY rfl rfl;exact qI (qN (by omega) (by omega)))
    (repeat (first|(with_reducible first|apply qE|apply qB)|(apply wlp;apply qD;exact fI rfl)))
    refine ⟨i + 1,0,z ++ [q],s',c',qG (qG (qG (Same.eq (by repeat (first|exact Same.hav|exact Same.refl|refine Same.put rfl ?_|refine Same.havs rfl ?_))) rfl) rfl) rfl,⟨by omega,by simp [hzl],hzb.app (.cons (by omega) .nil),by omega,?_,hv',hp⟩,by omega⟩
    rw [qA0,hzl]
    refine qA2 hval ?_
    rw [← hg,← hgy]
    omega
  ·have hdy:dy = 0:=by rw [hgy];exact qCj (by omega)
   (repeat (first|(with_reducible first|apply qF|apply qA|apply qE|apply qB|apply qL)|(apply wlp;((first|apply qC|apply qD|apply jA)<;>exact rfl);(first|exact fI rfl|exact fB rfl))))
   refine qM rfl (fun h4=>?_) (fun h4=>?_)
   ·obtain ⟨q,hq⟩:∃ q:Nat,(q:Int) = (dx:Int) - bo + 16777216:=⟨((dx:Int) - bo + 16777216).toNat,by omega⟩
    (repeat (first|(with_reducible first|apply qF|apply qA)|(apply wlp;apply qC;exact fI rfl)))
    (apply wlp;exact qY rfl rfl;exact qI (b:=(q:Int)) (by rw [qN (by omega) (by omega)];omega))
    (repeat (first|(with_reducible first|apply qA|apply qE|apply qB)|(apply wlp;(first|apply qC|apply qD);(first|exact fI rfl|exact fS rfl))))
    (apply wls;exact jP hp rfl rfl rfl rfl rfl rfl rfl;rintro _ w3 ⟨nb,rfl,hp⟩)
    (apply wls;exact zL eD z q hp 1 0 rfl rfl rfl rfl rfl rfl (fun _=>rfl) rfl rfl rfl hv rfl rfl (by omega);rintro _ w4 ⟨s',c',rfl,hv',hp⟩)
    have hp:=hp.tail
    (repeat (first|(with_reducible first|apply qA|apply qE|apply qB|apply qZ)|(apply wlp;(first|apply qC|apply qD);(first|exact fI rfl|exact fS rfl))))
    (apply wlp;exact qY rfl rfl;exact qI (qN (by omega) (by omega)))
    (repeat (first|(with_reducible first|apply qE|apply qB)|(apply wlp;apply qD;exact fI rfl)))
    refine ⟨i + 1,1,z ++ [q],s',c',qG (qG (qG (Same.eq (by repeat (first|exact Same.hav|exact Same.refl|refine Same.put rfl ?_|refine Same.havs rfl ?_))) rfl) rfl) rfl,⟨by omega,by simp [hzl],hzb.app (.cons (by omega) .nil),by omega,?_,hv',hp⟩,by omega⟩
    rw [qA0,hzl]
    refine qA2 hval ?_
    rw [← hg,← hgy]
    omega
   ·obtain ⟨q,hq⟩:∃ q:Nat,(q:Int) = (dx:Int) - bo:=⟨((dx:Int) - bo).toNat,by omega⟩
    rw [← hq]
    (repeat (first|(with_reducible first|apply qA|apply qB|apply qL)|(apply wlp;apply qC;(first|exact fI rfl|exact fS rfl))))
    (apply wls;exact jP hp rfl rfl rfl rfl rfl rfl rfl;rintro _ w3 ⟨nb,rfl,hp⟩)
    (apply wls;exact zL eD z q hp 1 0 rfl rfl rfl rfl rfl rfl (fun _=>rfl) rfl rfl rfl hv rfl rfl (by omega);rintro _ w4 ⟨s',c',rfl,hv',hp⟩)
    have hp:=hp.tail
    (repeat (first|(with_reducible first|apply qA|apply qE|apply qB|apply qZ)|(apply wlp;(first|apply qC|apply qD);(first|exact fI rfl|exact fS rfl))))
    (apply wlp;exact qY rfl rfl;exact qI (qN (by omega) (by omega)))
    (repeat (first|(with_reducible first|apply qE|apply qB)|(apply wlp;apply qD;exact fI rfl)))
    refine ⟨i + 1,0,z ++ [q],s',c',qG (qG (qG (Same.eq (by repeat (first|exact Same.hav|exact Same.refl|refine Same.put rfl ?_|refine Same.havs rfl ?_))) rfl) rfl) rfl,⟨by omega,by simp [hzl],hzb.app (.cons (by omega) .nil),by omega,?_,hv',hp⟩,by omega⟩
    rw [qA0,hzl]
    refine qA2 hval ?_
    rw [← hg,← hgy]
    omega
 ·obtain rfl:i = (d24 x).length:=by omega
  have hV:val 16777216 z = x - y:=by
   have hzlt:=yL hzb
   rw [hzl] at hzlt
   exact qLk hval (qCi (Nat.le_refl _)) hyx hzlt
  have hst:SlAt w2 1 eD st z:=jS hp 0 rfl hv (fun _=>rfl)
  have htz:yZ z = d24 (x - y):=by rw [qEt hzb,hV]
  have h89:=c89 z st ct w2 hv.cap (by omega) hst
  rw [htz] at h89
  (repeat (first|(with_reducible first|apply qF|apply qA|apply qB|apply qO|apply jB)|((with_reducible apply qP);exact rfl)|(apply wlp;apply qC;exact fS rfl)))
  (apply wls;exact qH rfl qL2 rfl h89;rintro _ w3 ⟨rfl,hk⟩;have hp:=hp.call hk)
  (repeat (first|(with_reducible first|apply qE|apply qB|apply qT)|(apply wlp;apply qD;exact fS rfl)))
  exact qU rfl rfl ⟨_,rfl,st,ct,z,rfl,htz ▸ vJ z,hv,hp⟩
end Go.Proofs.YtbgldmoikimmpaaGreatDoor
namespace Go.Proofs.YtbgldmoikimmpaaGreatDoor
open Go.Eng Go.Dig
theorem Fit.d24s {x:Nat} (h:Fit x):(Go.Proofs.YtbgldmoikimmpaaGreatDoor.d24 x).length≤4000:=by
 obtain ⟨k,h1,h2⟩:=h
 exact Nat.le_trans (qIf (Nat.lt_of_lt_of_le h2 (Nat.pow_le_pow_left (by decide) k))) h1
theorem qOc {x b:Nat} (h:(jT 256 x).length≤b) (hb:b≤7):x < 72057594037927936:=by
 have h1:x < 256 ^ 7:=yT (by decide) (Nat.le_trans h hb)
 rwa [show (256:Nat) ^ 7 = 72057594037927936 from by decide] at h1
attribute [local irreducible] PV StepF wpl wpd WP Ret
attribute [local irreducible] Fit
end Go.Proofs.YtbgldmoikimmpaaGreatDoor
namespace Go.Proofs.YtbgldmoikimmpaaGreatDoor
open Go.Eng Go.Dig
theorem qJz {b x d i c z c' V:Nat} (h:V + c * b ^ i = x % b ^ i * d) (hz:z + b * c' = x / b ^ i % b * d + c):(V + b ^ i * z) + c' * b ^ (i + 1) = x % b ^ (i + 1) * d:=by
 rw [xX,Nat.add_mul,← h,Nat.mul_assoc,Nat.pow_succ]
 have e:b ^ i * (z + b * c') = b ^ i * (x / b ^ i % b * d + c):=by rw [hz]
 rw [Nat.mul_add,Nat.mul_add] at e
 have e2:b ^ i * (b * c') = c' * (b ^ i * b):=by rw [Nat.mul_comm c',Nat.mul_assoc]
 have e3:b ^ i * c = c * b ^ i:=Nat.mul_comm _ _
 omega
theorem qJm {x d:Nat} (hd:d < 16777216):(d24 (x * d)).length≤(d24 x).length + 1:=by
 refine qIf ?_
 rw [Nat.pow_succ]
 have h1:x < 16777216 ^ (d24 x).length:=qCi (Nat.le_refl _)
 by_cases h0:d = 0
 ·subst h0
  simp
  exact Nat.pow_pos (by decide)
 ·exact Nat.mul_lt_mul_of_lt_of_le h1 (by omega) (by decide)
theorem qYu {b x y n:Nat} (hb:0 < b) (hx:x < b ^ n) (hy:y < b ^ n) (h:∀ j,j < n→x / b ^ j % b = y / b ^ j % b):x = y:=by
 have h1:=qMi (b:=b) (x:=x) (y:=y) (i:=0) (n:=n) (fun j hj=>by
  by_cases hjn:j < n
  ·exact h j hjn
  ·have e:∀ z,z < b ^ n→z / b ^ j = 0:=fun z hz=>Nat.div_eq_of_lt (Nat.lt_of_lt_of_le hz (Nat.pow_le_pow_right hb (by omega)))
   rw [e x hx,e y hy]) hb hx hy
 have h2:=uC b x 0
 have h3:=uC b y 0
 by_cases hn:0 < n
 ·have h4:=h 0 hn
  rw [Nat.pow_zero,Nat.div_one] at h2 h3 h4
  rw [Nat.div_one] at h4
  rw [h2,h3,h1,h4]
 ·obtain rfl:n = 0:=by omega
  rw [Nat.pow_zero] at hx hy
  omega
attribute [local irreducible] PV StepF wpl wpd WP Ret
attribute [local irreducible] Fit
theorem c99 (x d:Nat) (s:Option Addr) (c:Nat) (w:World) (hx:SlAt w 1 eD s (d24 x)) (hlx:(d24 x).length≤100000) (hd:d < 16777216) :
  Ret Tryz.prog 194 [.slice s (d24 x).length c,.int .i64 (d:Int)] w (fun v w'=>∃ s' c',v = .slice s' (d24 (x * d)).length c'∧(d24 (x * d)).length≤c'∧SlAt w' 1 eD s' (d24 (x * d))∧Keeps [] w w'):=by
 refine Ret.of_WP Tryz.func194 rfl Tryz.ntmps194 rfl ?_
 have hp:=(Hp.start (M:=[]) (w:=w)).nilL eD 3 1
 (repeat (first|(with_reducible first|apply qF|apply qK|apply qA|apply qE|apply qB)|(apply wlp;apply qD;(first|exact fI rfl|exact fS rfl))))
 refine qG1 [5,6,7,8,9,10,11,12,13,14,15,16,17,18,19,20,21,22,23,24,25,26,27,28,29] (fun (i cy:Nat) (z:List Nat) (st:Option Addr) (ct:Nat) F=>((F.put 7 (.int .i64 (i:Int))).put 6 (.int .i64 (cy:Int))).put 5 (.slice st z.length ct))
  (fun i cy z st ct w'=>i≤(d24 x).length∧z.length = i∧Bd 16777216 z∧cy < 16777216∧val 16777216 z + cy * 16777216 ^ i = x % 16777216 ^ i * d∧SVL st ct z∧Hp w [] w' [qW eD 3 1 st ct z])
  (fun i _ _ _ _=>(d24 x).length - i) 0 0 [] none 0 (qG (qG (qG (Same.eq .refl) rfl) rfl) rfl) ⟨Nat.zero_le _,rfl,.nil,by decide,by simp [val,Nat.mod_one],SVL.nil,hp⟩ ?_
 clear hp
 rintro u i cy z st ct w2 ⟨hi,hzl,hzb,hcy,hval,hv,hp⟩
 (repeat (first|(with_reducible first|apply qF|apply qA|apply qE|apply qB)|(apply wlp;((first|apply qC|(apply jC;exact rfl)|apply jA)<;>exact rfl);(first|exact fI rfl|exact fB rfl|exact fS rfl))))
 refine qM rfl (fun h2=>?_) (fun h2=>?_)
 ·have hlt:i < (d24 x).length:=by omega
  obtain ⟨b0,o0,hs0,hc0⟩:=hx.base (by omega)
  have hci:=hc0 i _ (List.getElem?_eq_getElem hlt) 0 _ rfl
  have hbd:=(qBi x).get hlt
  have hg:=qBq hlt
  generalize (d24 x)[i] = dx at hci hbd hg
  have hci:w.cell? ⟨b0,o0 + i * 1,none⟩ = some (.int .i64 (dx:Int)):=hci
  have hm:dx * d≤16777215 * 16777215:=Nat.mul_le_mul (by omega) (by omega)
  obtain ⟨q,hq⟩:∃ q,q = dx * d + cy:=⟨_,rfl⟩
  (repeat (first|(with_reducible first|apply qF|apply qK|apply qA|apply qB|apply qL)|(apply wlp;((first|apply qC|(apply qJ;exact rfl)|(apply qR;exact rfl))<;>(first|exact rfl|assumption|exact hp.old0 (by assumption)));(first|exact fI rfl|exact fP rfl|exact fS rfl))))
  (apply wlp;exact xU rfl rfl;exact qI (b:=((dx * d:Nat):Int)) (by rw [← Int.natCast_mul,qN (by omega) (by omega)]))
  (apply wlp;apply qC;exact fI rfl)
  (apply wlp;exact qY rfl rfl;exact qI (b:=(q:Int)) (by rw [qN (by omega) (by omega)];omega))
  (repeat (first|(with_reducible first|apply qF|apply qA|apply qE|apply qB)|(apply wlp;(first|apply qC|apply qD);(first|exact fI rfl|exact fS rfl))))
  (apply wlp;exact qLx (b:=16777216) rfl rfl (by decide);exact fI rfl)
  (apply wls;exact jP hp rfl rfl rfl rfl rfl rfl rfl;rintro _ w3 ⟨nb,rfl,hp⟩)
  (apply wls;exact zL eD z (q % 16777216) hp 1 0 rfl rfl rfl rfl rfl rfl (fun _=>rfl) rfl rfl rfl hv rfl rfl (by omega);rintro _ w4 ⟨s',c',rfl,hv',hp⟩)
  have hp:=hp.tail
  (repeat (first|(with_reducible first|apply qA|apply qE|apply qB)|(apply wlp;(first|apply qC|apply qD);(first|exact fI rfl|exact fS rfl))))
  (apply wlp;exact qHr (b:=16777216) rfl rfl (by decide) (by omega);exact fI rfl)
  (repeat (first|(with_reducible first|apply qA|apply qE|apply qB|apply qZ)|(apply wlp;(first|apply qC|apply qD);exact fI rfl)))
  (apply wlp;exact qY rfl rfl;exact qI (qN (by omega) (by omega)))
  (repeat (first|(with_reducible first|apply qE|apply qB)|(apply wlp;apply qD;exact fI rfl)))
  refine ⟨i + 1,q / 16777216,z ++ [q % 16777216],s',c',qG (qG (qG (Same.eq (by repeat (first|exact Same.hav|exact Same.refl|refine Same.put rfl ?_|refine Same.havs rfl ?_))) rfl) rfl) rfl,⟨by omega,by simp [hzl],hzb.app (.cons (by omega) .nil),by omega,?_,hv',hp⟩,by omega⟩
  rw [qA0,hzl]
  refine qJz hval ?_
  rw [← hg]
  omega
 ·obtain rfl:i = (d24 x).length:=by omega
  have hxl:x < 16777216 ^ (d24 x).length:=qCi (Nat.le_refl _)
  rw [Nat.mod_eq_of_lt hxl] at hval
  (repeat (first|(with_reducible first|apply qF|apply qA|apply qB|apply qO|apply jB)|((with_reducible apply qP);exact rfl)|(apply wlp;apply qC;(first|exact fI rfl|exact fS rfl))))
  (apply wls;exact jP hp rfl rfl rfl rfl rfl rfl rfl;rintro _ w3 ⟨nb,rfl,hp⟩)
  (apply wls;exact zL eD z cy hp 1 0 rfl rfl rfl rfl rfl rfl (fun _=>rfl) rfl rfl rfl hv rfl rfl (by omega);rintro _ w4 ⟨s',c',rfl,hv',hp⟩)
  have hp:=hp.tail
  have hst:SlAt w4 1 eD s' (z ++ [cy]):=jS hp 0 rfl hv' (fun _=>rfl)
  have hzb2:Bd 16777216 (z ++ [cy]):=hzb.app (.cons hcy .nil)
  have hV:val 16777216 (z ++ [cy]) = x * d:=by
   rw [qA0,hzl,← hval,Nat.mul_comm cy]
  have htz:yZ (z ++ [cy]) = d24 (x * d):=by rw [qEt hzb2,hV]
  have h89:=c89 (z ++ [cy]) s' c' w4 hv'.cap (by simp;omega) hst
  rw [htz] at h89
  (apply wls;exact qH rfl qL2 rfl h89;rintro _ w5 ⟨rfl,hk⟩;have hp:=hp.call hk)
  (repeat (first|(with_reducible first|apply qE|apply qB|apply qT)|(apply wlp;apply qD;exact fS rfl)))
  refine qU rfl rfl ⟨_,rfl,s',c',rfl,?_,?_,hp.keeps⟩
  ·rw [← htz]
   exact Nat.le_trans (vJ _).length_le hv'.cap
  ·rw [← htz]
   exact (hst.pre (vJ _)).keep0 hk
theorem c97 (x y:Nat) (s s2:Option Addr) (c c2:Nat) (w:World) (hx:SlAt w 1 eD s (d24 x)) (hy:SlAt w 1 eD s2 (d24 y)) (hlx:(d24 x).length≤1000000) (hly:(d24 y).length≤1000000) :
  Ret Tryz.prog 191 [.slice s (d24 x).length c,.slice s2 (d24 y).length c2] w (fun v w'=>∃ r:Int,v = .int .i64 r∧(0≤r ↔ y≤x)∧(r≤0 ↔ x≤y)∧Keeps [] w w'):=by
 refine Ret.of_WP Tryz.func191 rfl Tryz.ntmps191 rfl ?_
 have hp:=Hp.start (M:=[]) (w:=w)
 (repeat (first|(with_reducible first|apply qF|apply qA|apply qE|apply qB)|(apply wlp;((first|apply qC|apply qD|(apply jC;exact rfl)|(apply zJ;(first|exact rfl|exact jR rfl (by assumption))))<;>exact rfl);(first|exact fI rfl|exact fB rfl|exact fS rfl))))
 refine yQ rfl (fun h=>?_) (fun h=>?_)
 ·(repeat (first|(with_reducible first|apply qF|apply qA)|(apply wlp;((first|apply qC|(apply jC;exact rfl))<;>exact rfl);(first|exact fI rfl|exact fS rfl))))
  (apply wlp;exact jN rfl rfl;exact qI (qN (by omega) (by omega)))
  (repeat (first|(with_reducible first|apply qE|apply qB|apply jV|apply qT)|(apply wlp;apply qD;exact fI rfl)))
  refine qU rfl rfl ⟨_,rfl,_,rfl,?_,?_,hp.keeps⟩
  all_goals
   rcases Nat.lt_or_ge (d24 x).length (d24 y).length with hl|hl
   ·have:=vF (b:=16777216) (x:=x) (y:=y) (by decide) hl
    omega
   ·have:=vF (b:=16777216) (x:=y) (y:=x) (by decide) (show (d24 y).length < (d24 x).length by omega)
    omega
 ·have hle:(d24 x).length = (d24 y).length:=by omega
  have hxl:x < 16777216 ^ (d24 x).length:=qCi (Nat.le_refl _)
  have hyl:y < 16777216 ^ (d24 x).length:=by rw [hle];exact qCi (Nat.le_refl _)
  (repeat (first|(with_reducible first|apply qF|apply qA|apply qB|apply qL)|(apply wlp;((first|apply qC|(apply jC;exact rfl))<;>exact rfl);(first|exact fI rfl|exact fS rfl))))
  (apply wlp;exact jN rfl rfl;exact qI (qN (by omega) (by omega)))
  (repeat (first|(with_reducible first|apply qK|apply qE|apply qB)|(apply wlp;apply qD;exact fI rfl)))
  refine jE [4,5,19,20,21,22,23,24,25,26,27,28,29,30,31,32,33,34,35,36,37,38,39,40] (fun (k:Nat) F=>F.put 5 (.int .i64 ((k:Int) - 1))) (fun k w'=>k≤(d24 x).length∧(∀ j,k≤j→j < (d24 x).length→x / 16777216 ^ j % 16777216 = y / 16777216 ^ j % 16777216)∧Hp w [] w' []) (fun k=>k) (d24 x).length (qG (Same.eq .refl) rfl) ⟨Nat.le_refl _,fun j h1 h2=>by omega,hp⟩ ?_
  clear hp
  rintro u k w1 ⟨hk,hall,hp⟩
  (repeat (first|(with_reducible first|apply qF|apply qA|apply qE|apply qB)|(apply wlp;((first|apply qC|apply xF)<;>exact rfl);(first|exact fI rfl|exact fB rfl))))
  refine qM rfl (fun h2=>?_) (fun h2=>?_)
  ·obtain ⟨i,rfl⟩:∃ i,k = i + 1:=⟨k - 1,by omega⟩
   rw [show (((i + 1:Nat):Int) - 1) = (i:Int) from by omega]
   have hlt:i < (d24 x).length:=by omega
   have hlty:i < (d24 y).length:=by omega
   obtain ⟨b0,o0,hs0,hc0⟩:=hx.base (by omega)
   obtain ⟨b1,o1,hs1,hc1⟩:=hy.base (by omega)
   have hci:=hc0 i _ (List.getElem?_eq_getElem hlt) 0 _ rfl
   have hcj:=hc1 i _ (List.getElem?_eq_getElem hlty) 0 _ rfl
   have hgx:=qBq hlt
   have hgy:=qBq hlty
   have hbx:=(qBi x).get hlt
   have hby:=(qBi y).get hlty
   generalize (d24 x)[i] = dx at hci hgx hbx
   generalize (d24 y)[i] = dy at hcj hgy hby
   have hci:w.cell? ⟨b0,o0 + i * 1,none⟩ = some (.int .i64 (dx:Int)):=hci
   have hcj:w.cell? ⟨b1,o1 + i * 1,none⟩ = some (.int .i64 (dy:Int)):=hcj
   have htop:x / 16777216 ^ (i + 1) = y / 16777216 ^ (i + 1):=qMi (n:=(d24 x).length) (fun j hj=>by
    by_cases hjn:j < (d24 x).length
    ·exact hall j (by omega) hjn
    ·rw [qCj (by omega),qCj (by omega)]) (by decide) hxl hyl
   (repeat (with_reducible first|apply qF|apply qK|apply qB|apply qL))
   refine jX jW (by kernel_rfl) (fun w'=>Hp _ _ w' _) hp.drew ?_
   have hp:=hp.drew
   (apply wdp;exact rfl;(intro w hp;exact qC);exact fS rfl)
   (apply wdp;exact rfl;(intro w hp;exact qC);exact fI rfl)
   (apply wdp;exact rfl;(intro w hp;exact qR rfl rfl rfl hs0 hlt);exact fP rfl)
   (apply wdp;exact rfl;(intro w hp;exact qJ rfl rfl (hp.old0 hci));exact fI rfl)
   (apply wdp;exact rfl;(intro w hp;exact qC);exact fS rfl)
   (apply wdp;exact rfl;(intro w hp;exact qC);exact fI rfl)
   (apply wdp;exact rfl;(intro w hp;exact qR rfl rfl rfl hs1 hlty);exact fP rfl)
   (apply wdp;exact rfl;(intro w hp;exact qJ rfl rfl (hp.old0 hcj));exact fI rfl)
   (repeat (first|((apply wdp;exact rfl);(intro w hp;intros;((apply zJ;(first|exact rfl|exact jR rfl (by assumption)))<;>exact rfl));(intros;exact fB rfl))|(apply uN;exact rfl;exact rfl;exact rfl;exact rfl)|(apply uM;exact rfl;exact rfl;exact rfl)))
   refine jL ?_
   refine yQ rfl (fun h3=>?_) (fun h3=>?_)
   ·(repeat with_reducible apply qF)
    refine jX jW (by kernel_rfl) (fun w'=>Hp _ _ w' _) hp.drew ?_
    have hp:=hp.drew
    (apply wdp;exact rfl;(intro w hp;exact qC);exact fS rfl)
    (apply wdp;exact rfl;(intro w hp;exact qC);exact fI rfl)
    (apply wdp;exact rfl;(intro w hp;exact qR rfl rfl rfl hs0 hlt);exact fP rfl)
    (apply wdp;exact rfl;(intro w hp;exact qJ rfl rfl (hp.old0 hci));exact fI rfl)
    (apply wdp;exact rfl;(intro w hp;exact qC);exact fS rfl)
    (apply wdp;exact rfl;(intro w hp;exact qC);exact fI rfl)
    (apply wdp;exact rfl;(intro w hp;exact qR rfl rfl rfl hs1 hlty);exact fP rfl)
    (apply wdp;exact rfl;(intro w hp;exact qJ rfl rfl (hp.old0 hcj));exact fI rfl)
    (apply wdp;exact rfl;(intro w hp;exact jN rfl rfl);exact qI (qN (by omega) (by omega)))
    (repeat (first|((apply wdp;exact rfl);(intro w hp;intros;apply qD);(intros;exact fI rfl))|(apply uN;exact rfl;exact rfl;exact rfl;exact rfl)|(apply uM;exact rfl;exact rfl;exact rfl)))
    refine jL ?_
    (repeat (with_reducible first|apply qB|apply jV|apply qA9|apply qT))
    refine qU rfl rfl ⟨_,rfl,_,rfl,?_,?_,hp.keeps⟩
    all_goals
     rcases Nat.lt_or_ge dx dy with hl|hl
     ·have:=wQ (b:=16777216) (x:=x) (y:=y) (i:=i) (by decide) htop (by rw [← hgx,← hgy];exact hl)
      omega
     ·have:=wQ (b:=16777216) (x:=y) (y:=x) (i:=i) (by decide) htop.symm (by rw [← hgx,← hgy];omega)
      omega
   ·(repeat (first|(with_reducible first|apply qA|apply qB|apply qZ|apply qL)|(apply wlp;apply qC;exact fI rfl)))
    (apply wlp;exact jN rfl rfl;exact qI (qN (by omega) (by omega)))
    (repeat (first|(with_reducible first|apply qE|apply qB)|(apply wlp;apply qD;exact fI rfl)))
    refine ⟨i,qG (Same.eq (by repeat (first|exact Same.hav|exact Same.refl|refine Same.put rfl ?_|refine Same.havs rfl ?_))) rfl,⟨by omega,fun j h4 h5=>?_,hp⟩,by omega⟩
    by_cases hj:j = i
    ·subst hj
     rw [← hgx,← hgy]
     omega
    ·exact hall j (by omega) h5
  ·obtain rfl:k = 0:=by omega
   have hxy:x = y:=qYu (by decide) hxl hyl (fun j hj=>hall j (Nat.zero_le _) hj)
   (repeat (first|(with_reducible first|apply qF|apply qA|apply qE|apply qB|apply qO|apply qT|apply jB)|((with_reducible apply qP);exact rfl)|(apply wlp;apply qD;exact fI rfl)))
   exact qU rfl rfl ⟨_,rfl,0,rfl,by omega,by omega,hp.keeps⟩
theorem c98 (x y:Nat) (s s2:Option Addr) (c c2:Nat) (w:World) (hx:SlAt w 1 eD s (d24 x)) (hy:SlAt w 1 eD s2 (d24 y)) (hlx:(d24 x).length≤100000) (hly:(d24 y).length≤100000) (hy0:0 < y) (hq:x / y < 16777216) :
  Ret Tryz.prog 192 [.slice s (d24 x).length c,.slice s2 (d24 y).length c2] w (fun v w'=>v = .int .i64 ((x / y:Nat):Int)∧Keeps [] w w'):=by
 refine Ret.of_WP Tryz.func192 rfl Tryz.ntmps192 rfl ?_
 have hp:=Hp.start (M:=[]) (w:=w)
 (repeat (first|(with_reducible first|apply qF|apply qK|apply qA|apply qE|apply qB)|(apply wlp;apply qD;exact fI rfl)))
 refine uF [5,6,7,8,9,10,11,12,13,14,15,16,17,18,19,20,21,22,23,24] (fun (lo hi:Nat) F=>(F.put 5 (.int .i64 (lo:Int))).put 6 (.int .i64 (hi:Int))) (fun lo hi w'=>lo≤x / y∧x / y≤hi∧hi≤16777215∧Hp w [] w' []) (fun lo hi=>hi - lo) 0 16777215 (qG (qG (Same.eq .refl) rfl) rfl) ⟨Nat.zero_le _,by omega,by omega,hp⟩ ?_
 clear hp
 rintro u lo hi w1 ⟨hlo,hhi,hb,hp⟩
 (repeat (first|(with_reducible first|apply qF|apply qA|apply qE|apply qB)|(apply wlp;((first|apply qC|apply jA)<;>exact rfl);(first|exact fI rfl|exact fB rfl))))
 refine qM rfl (fun h=>?_) (fun h=>?_)
 ·obtain ⟨m,hm⟩:∃ m,m = (lo + hi + 1) / 2:=⟨_,rfl⟩
  have hlt:=qJm (x:=y) (d:=m) (by omega)
  (repeat (first|(with_reducible first|apply qF|apply qK|apply qA|apply qB|apply qL)|(apply wlp;apply qC;exact fI rfl)))
  (apply wlp;(exact qY rfl rfl);exact qI (b:=((lo + hi:Nat):Int)) (by rw [qN (by omega) (by omega)];omega))
  (apply wlp;(exact qY rfl rfl);exact qI (b:=((lo + hi + 1:Nat):Int)) (by rw [qN (by omega) (by omega)];omega))
  (apply wlp;exact qHr (b:=2) rfl rfl (by decide) (by omega);exact qI (b:=(m:Int)) (by rw [hm]))
  (repeat (first|(with_reducible first|apply qF|apply qA|apply qE|apply qB)|(apply wlp;(first|apply qC|apply qD);(first|exact fI rfl|exact fS rfl))))
  (apply wls;exact qH rfl qQn rfl (c99 y m s2 c2 _ (hy.keep0 hp.keeps) hly (by omega));rintro _ w2 ⟨s3,c3,rfl,_,hs3,hk⟩;have hp:=hp.call hk)
  (repeat (apply wlp;apply qC;exact fS rfl))
  (apply wls;exact qH rfl qQo rfl (c97 (y * m) x s3 s c3 c _ hs3 (hx.keep0 hp.keeps) (by omega) (by omega));rintro _ w3 ⟨r,rfl,_,hr,hk⟩;have hp:=hp.call hk)
  (repeat (first|(with_reducible first|apply qE|apply qB)|(apply wlp;(apply kB<;>exact rfl);exact fB rfl)))
  refine qM rfl (fun h2=>?_) (fun h2=>?_)
  ·have:m≤x / y:=(Nat.le_div_iff_mul_le hy0).2 (by rw [Nat.mul_comm];exact hr.1 h2)
   (repeat (first|(with_reducible first|apply qA|apply qE|apply qB|apply qZ)|(apply wlp;(first|apply qC|apply qD);exact fI rfl)))
   exact ⟨m,hi,qG (qG (Same.eq (by repeat (first|exact Same.hav|exact Same.refl|refine Same.put rfl ?_|refine Same.havs rfl ?_))) rfl) rfl,⟨by omega,by omega,by omega,hp⟩,by omega⟩
  ·have:x / y < m:=(Nat.div_lt_iff_lt_mul hy0).2 (by
    rw [Nat.mul_comm]
    have:¬ y * m≤x:=fun h=>h2 (hr.2 h)
    omega)
   (repeat (first|with_reducible apply qA|(apply wlp;apply qC;exact fI rfl)))
   (apply wlp;(exact jN rfl rfl);exact qI (b:=((m - 1:Nat):Int)) (by rw [qN (by omega) (by omega)];omega))
   (repeat (first|(with_reducible first|apply qE|apply qB|apply qZ)|(apply wlp;apply qD;exact fI rfl)))
   exact ⟨lo,m - 1,qG (qG (Same.eq (by repeat (first|exact Same.hav|exact Same.refl|refine Same.put rfl ?_|refine Same.havs rfl ?_))) rfl) rfl,⟨by omega,by omega,by omega,hp⟩,by omega⟩
 ·obtain rfl:lo = x / y:=by omega
  (repeat (first|(with_reducible first|apply qF|apply qA|apply qE|apply qB|apply qO|apply qT|apply jB)|((with_reducible apply qP);exact rfl)|(apply wlp;(first|apply qC|apply qD);exact fI rfl)))
  exact qU rfl rfl ⟨_,rfl,rfl,hp.keeps⟩
end Go.Proofs.YtbgldmoikimmpaaGreatDoor
namespace Go.Proofs.YtbgldmoikimmpaaGreatDoor
open Go.Eng Go.Dig
theorem qOq {B x y i dx:Nat} (hy:0 < y) (hd:dx = x / B ^ i % B) (hB:0 < B) :
  x / B ^ i / y = (dx + B * (x / B ^ (i + 1) % y)) / y + B * (x / B ^ (i + 1) / y)∧x / B ^ i % y = (dx + B * (x / B ^ (i + 1) % y)) % y∧(dx + B * (x / B ^ (i + 1) % y)) / y < B:=by
 have h1:=uC B x i
 rw [← hd] at h1
 generalize x / B ^ (i + 1) = X at *
 rw [h1]
 have h2:=Nat.div_add_mod X y
 have hr:=Nat.mod_lt X hy
 generalize X / y = q at *
 generalize X % y = r at *
 have h3:B * X + dx = (dx + B * r) + y * (B * q):=by
  rw [← h2,Nat.mul_add,← Nat.mul_assoc,← Nat.mul_assoc,Nat.mul_comm B y]
  omega
 rw [h3]
 refine ⟨?_,?_,?_⟩
 ·rw [Nat.add_mul_div_left _ _ hy]
 ·rw [Nat.add_mul_mod_self_left]
 ·refine (Nat.div_lt_iff_lt_mul hy).2 ?_
  have h4:dx < B:=by rw [hd];exact Nat.mod_lt _ hB
  have h5:B * (r + 1)≤B * y:=Nat.mul_le_mul_left B hr
  rw [Nat.mul_add] at h5
  omega
theorem qT0 (k d:Nat) (T:List Nat):(List.replicate (k + 1) 0 ++ T).set k d = List.replicate k 0 ++ (d :: T):=by
 rw [List.replicate_succ',List.append_assoc,List.set_append_right _ _ (by simp)]
 simp
theorem qOo (k:Nat) (T:List Nat):List.replicate (k + 1) 0 ++ T = List.replicate k 0 ++ (0 :: T):=by
 rw [List.replicate_succ',List.append_assoc]
 rfl
theorem qMv {R dx:Nat} (hd:dx < 16777216):yZ (dx :: d24 R) = d24 (dx + 16777216 * R):=by
 rw [qEt (.cons hd (qBi R))]
 show d24 (dx + 16777216 * val 16777216 (d24 R)) = _
 rw [qIe]
theorem qGg (b d:Nat) (l:List Nat):val b (d :: l) = d + b * val b l:=rfl
theorem qO2 (b:Nat):val b [] = 0:=rfl
theorem qRe:d24 0 = []:=rfl
theorem qSn:Value.slice none (d24 0).length 0 = .slice none 0 0:=rfl
attribute [local irreducible] PV StepF wpl wpd WP Ret
attribute [local irreducible] Fit d24 val
theorem jD0 (sx:ByteArray) (x y:Nat) (w:World) (hnx:NS sx x) (hx:Fit x) (hy:Fit y) (hy0:0 < y):Ret Tryz.prog 134 [.string sx,.string (ofN y)] w (fun v w'=>v = .tuple #[.string (ofN (x / y)),.string (ofN (x % y)),.bool true]∧Keeps [] w w'):=by
 have hsy:=wD y
 have hny:(jT 256 y).length ≠ 0:=fun h=>by
  have:=(yK (b:=256) (by decide)).1 (List.eq_nil_of_length_eq_zero h)
  omega
 refine Ret.of_WP Tryz.func134 rfl Tryz.ntmps134 rfl ?_
 have hp:=Hp.start (M:=[]) (w:=w)
 (repeat (first|(with_reducible first|apply qF|apply qA|apply qE|apply qB)|(apply wlp;(first|apply qC|apply qD);(first|exact fB rfl|exact fT rfl))))
 (apply wls;exact qH rfl kN rfl (qUc y _ hy);rintro _ w1 ⟨rfl,hk⟩;have hp:=hp.call hk)
 (repeat (first|(with_reducible first|apply qF|apply qA|apply qE|apply qB)|(apply wlp;((first|apply qC|apply qD|(apply xP;exact rfl)|(apply zF;(first|exact rfl|exact jR rfl (by assumption))))<;>exact rfl);(first|exact fI rfl|exact fB rfl|exact fT rfl))))
 refine qM rfl (fun h=>absurd h (by omega)) (fun _=>?_)
 (repeat (first|(with_reducible first|apply qF|apply qA|apply qB|apply qL)|(apply wlp;apply qC;exact fT rfl)))
 (apply wls;exact qH rfl qQx rfl (jBc sx x 7 _ hnx (by decide) hx);rintro _ w2 ⟨⟨p,hpe,rfl⟩,hk⟩;have hp:=hp.call hk)
 skip
 (apply wlp;exact qC;exact fU rfl)
 (repeat (first|(with_reducible first|apply qF|apply qA|apply qE|apply qB)|(apply wlp;((first|apply qC|apply qD|apply jK)<;>exact rfl);(first|exact fI rfl|exact fB rfl|exact fT rfl))))
 (apply wls;exact qH rfl qQx rfl (c68 y 7 _ (by decide) hy);rintro _ w3 ⟨⟨q,hqe,rfl⟩,hk⟩;have hp:=hp.call hk)
 (apply wlp;exact qC;exact fU rfl)
 (apply wlp;(apply jK<;>exact rfl);exact fI rfl)
 (apply wlp;(apply jK<;>exact rfl);exact fB rfl)
 (apply wlp;apply qD;exact fI rfl)
 (apply wlp;apply qD;exact fB rfl)
 (repeat (with_reducible first|apply qF|apply qA|apply qE|apply qB))
 (apply wlp;apply qC;exact fB rfl)
 (apply wlp;apply qC;exact fB rfl)
 (repeat (first|(with_reducible first|apply qE|apply qB)|((first|apply wlp|(apply wlg;exact rfl;exact rfl));(intros;(first|apply qC|exact qKh rfl rfl rfl));(intros;exact fB rfl))))
 refine zT rfl (fun h=>?_) (fun h=>?_)
 ·obtain ⟨rfl,rfl⟩:p = true∧q = true:=by
   revert h
   cases p<;>cases q<;>simp
  have hx7:=qOc (of_decide_eq_true hpe.symm) (Nat.le_refl _)
  have hy7:=qOc (of_decide_eq_true hqe.symm) (Nat.le_refl _)
  have hd1:x / y≤x:=Nat.div_le_self _ _
  have hd2:x % y≤x:=Nat.mod_le _ _
  simp only [if_true]
  (repeat with_reducible apply qF)
  refine jX jW (by kernel_rfl) (fun w'=>Hp _ _ w' _) hp.drew ?_
  have hp:=hp.drew
  (apply wdp;exact rfl;(intro w hp;exact qC);exact fI rfl)
  (apply wdp;exact rfl;(intro w hp;exact qC);exact fI rfl)
  (apply wdp;exact rfl;(intro w hp;exact qHr rfl rfl hy0 (by omega));exact fI rfl)
  (apply wds;exact rfl;exact qH rfl qD7 rfl (c40 _ _ (by omega));rintro _ w4 ⟨rfl,hk⟩;have hp:=hp.call hk;refine ⟨hp,?_⟩)
  rw [Int.toNat_natCast]
  (apply wdp;exact rfl;(intro w hp;exact qC);exact fI rfl)
  (apply wdp;exact rfl;(intro w hp;exact qC);exact fI rfl)
  (apply wdp;exact rfl;(intro w hp;exact qLx rfl rfl hy0);exact fI rfl)
  (apply wds;exact rfl;exact qH rfl qD7 rfl (c40 _ _ (by omega));rintro _ w5 ⟨rfl,hk⟩;have hp:=hp.call hk;refine ⟨hp,?_⟩)
  rw [Int.toNat_natCast]
  (repeat (first|((apply wdp;exact rfl);(intro w hp;intros;apply qD);(intros;(first|exact fB rfl|exact fT rfl)))|(apply uN;exact rfl;exact rfl;exact rfl;exact rfl)|(apply uM;exact rfl;exact rfl;exact rfl)))
  refine jL ?_
  (repeat (with_reducible first|apply qB|apply jV|apply qT))
  exact qB1 rfl rfl rfl rfl ⟨_,rfl,rfl,hp.keeps⟩
 ·have hlx:=hx.d24
  have hly:=hy.d24
  clear h hpe hqe
  (repeat (first|(with_reducible first|apply qF|apply qA|apply qB|apply qL)|(apply wlp;apply qC;exact fT rfl)))
  (apply wls;exact qH rfl qQw rfl (jBb sx x _ hnx hx);rintro _ w4 ⟨su,cu,rfl,hvu,hpo⟩;have hsu:=jS hpo 0 rfl hvu (fun _=>rfl);have hp:=hp.call hpo.keeps;clear hpo)
  (repeat (first|(with_reducible first|apply qF|apply qA|apply qE|apply qB)|(apply wlp;(first|apply qC|apply qD);(first|exact fS rfl|exact fT rfl))))
  (apply wls;exact qH rfl qQw rfl (c69 y _ hy);rintro _ w5 ⟨sv,cv,rfl,hvv,hpo⟩;have hsv:=jS hpo 0 rfl hvv (fun _=>rfl);have hsu:=hsu.keep0 hpo.keeps;have hp:=hp.call hpo.keeps;clear hpo)
  have hk5:=hp.keeps
  clear hp
  have hp:=(Hp.start (M:=[]) (w:=w5)).nilL eD 3 1
  (repeat (first|(with_reducible first|apply qF|apply qA|apply qE|apply qB)|(apply wlp;((first|apply qC|apply qD|(apply jC;exact rfl))<;>exact rfl);(first|exact fI rfl|exact fS rfl))))
  (apply wls;exact vL eD 0 hp rfl rfl rfl rfl rfl rfl rfl (by omega) rfl;rintro _ w6 ⟨g,rfl,hv,hp⟩)
  (repeat (first|(with_reducible first|apply qF|apply qA|apply qE|apply qB)|(apply wlp;((first|apply qC|apply qD|(apply jC;exact rfl))<;>exact rfl);(first|exact fI rfl|exact fS rfl))))
  (apply wlp;exact jN rfl rfl;exact qI (qN (by omega) (by omega)))
  (repeat (first|(with_reducible first|apply qK|apply qE|apply qB)|(apply wlp;apply qD;exact fI rfl)))
  refine qG1 [14,15,53,54,55,56,57,58,59,60,61,62,63,64,65,66,67,68,69,70,71,72,73,74,75,76,77,78,79,80,81,82] (fun (k:Nat) (T z:List Nat) (sr:Option Addr) (cr:Nat) F=>(F.put 15 (.int .i64 ((k:Int) - 1))).put 14 (.slice sr (d24 (x / 16777216 ^ k % y)).length cr))
   (fun k T z sr cr w'=>k≤(d24 x).length∧k + T.length = (d24 x).length∧Bd 16777216 T∧val 16777216 T = x / 16777216 ^ k / y∧d24 (x / 16777216 ^ k % y) <+: z∧SVL sr cr z∧SVL (some ⟨g,0,none⟩) (d24 x).length (List.replicate k 0 ++ T)∧Hp w5 [] w' [qW eD 3 1 (some ⟨g,0,none⟩) (d24 x).length (List.replicate k 0 ++ T),qW eD 3 1 sr cr z])
   (fun k _ _ _ _=>k) (d24 x).length [] [] none 0 ?_ ?_ ?_
  ·refine qG (qG (Same.eq .refl) rfl) ?_
   rw [Nat.div_eq_of_lt (qCi (Nat.le_refl _)),Nat.zero_mod,qSn]
   rfl
  ·have e0:x / 16777216 ^ (d24 x).length = 0:=Nat.div_eq_of_lt (qCi (Nat.le_refl _))
   rw [e0,Nat.zero_mod,Nat.zero_div,List.append_nil]
   exact ⟨Nat.le_refl _,by simp,.nil,qO2 _,qRe ▸ List.nil_prefix,SVL.nil,hv,hp⟩
  clear hp hv
  rintro u k T z sr cr w7 ⟨hk,hkT,hTb,hTv,hpre,hvz,hvq,hp⟩
  (repeat (first|(with_reducible first|apply qF|apply qA|apply qE|apply qB)|(apply wlp;((first|apply qC|apply xF)<;>exact rfl);(first|exact fI rfl|exact fB rfl))))
  refine qM rfl (fun h2=>?_) (fun h2=>?_)
  ·obtain ⟨i,rfl⟩:∃ i,k = i + 1:=⟨k - 1,by omega⟩
   rw [show (((i + 1:Nat):Int) - 1) = (i:Int) from by omega]
   have hlt:i < (d24 x).length:=by omega
   obtain ⟨b0,o0,hs0,hc0⟩:=hsu.base (by omega)
   have hci:=hc0 i _ (List.getElem?_eq_getElem hlt) 0 _ rfl
   have hbd:=(qBi x).get hlt
   have hgx:=qBq hlt
   generalize (d24 x)[i] = dx at hci hbd hgx
   have hci:w5.cell? ⟨b0,o0 + i * 1,none⟩ = some (.int .i64 (dx:Int)):=hci
   obtain ⟨hq1,hq2,hq3⟩:=qOq (B:=16777216) (x:=x) (y:=y) (i:=i) hy0 hgx (by decide)
   have hrl:(d24 (x / 16777216 ^ (i + 1) % y)).length≤4000:=(Nat.le_trans (hy.le (Nat.le_of_lt (Nat.mod_lt _ hy0))).d24s (by decide):_≤4000)
   have htp:=qMv (R:=x / 16777216 ^ (i + 1) % y) hbd
   generalize x / 16777216 ^ (i + 1) % y = R at *
   obtain ⟨R1,hR1⟩:∃ R1,R1 = dx + 16777216 * R:=⟨_,rfl⟩
   rw [← hR1] at hq1 hq2 hq3 htp
   have hl1:(d24 R1).length≤(d24 R).length + 1:=by
    have h9:=(vJ (dx :: d24 R)).length_le
    rw [List.length_cons,htp] at h9
    exact h9
   generalize d24 R = DR at *
   (repeat (first|(with_reducible first|apply qF|apply qK|apply qA|apply qB|apply qL)|(apply wlp;((first|apply qC|(apply qJ;exact rfl)|(apply qR;exact rfl))<;>(first|exact rfl|assumption|exact hp.old0 (by assumption)));(first|exact fI rfl|exact fP rfl|exact fS rfl))))
   (apply wls;exact jP hp rfl rfl rfl rfl rfl rfl rfl;rintro _ w8 ⟨nb,rfl,hp⟩)
   have hp:Hp w5 [] w8 [qW eD 3 1 (some ⟨nb,0,none⟩) 1 [dx],qW eD 3 1 (some ⟨g,0,none⟩) (d24 x).length (List.replicate (i + 1) 0 ++ T),qW eD 3 1 sr cr z]:=hp.rowOf 0 1 1 rfl rfl
   have hv1:SVL (some ⟨nb,0,none⟩) 1 [dx]:=.inr ⟨nb,1,rfl,Nat.le_refl _,by unfold maxLen;omega⟩
   (repeat (apply wlp;apply qC;exact fS rfl))
   (apply wls;exact qEx eD [dx] (DR) hp 0 rfl rfl rfl rfl rfl rfl (fun _=>rfl) rfl rfl rfl hv1 ((jS hp 2 rfl hvz (fun _=>rfl)).pre hpre) (fun _=>rfl) (by simp;omega);rintro _ w9 ⟨s1,c1,rfl,hv2,hp⟩)
   have hp:Hp w5 [] w9 [qW eD 3 1 s1 c1 (dx :: DR),qW eD 3 1 (some ⟨g,0,none⟩) (d24 x).length (List.replicate (i + 1) 0 ++ T),qW eD 3 1 sr cr z]:=hp
   have hp:=hp.picks [0,1] [qW eD 3 1 s1 c1 (dx :: DR),qW eD 3 1 (some ⟨g,0,none⟩) (d24 x).length (List.replicate (i + 1) 0 ++ T)] rfl rfl
   have h89:=c89 (dx :: DR) s1 c1 w9 hv2.cap (by rw [List.length_cons];omega) (jS hp 0 rfl hv2 (fun _=>rfl))
   rw [htp] at h89
   (apply wls;exact qH rfl qL2 rfl h89;rintro _ w10 ⟨rfl,hk⟩;have hp:=hp.call hk)
   have hpr1:d24 R1 <+: (dx :: DR):=htp ▸ vJ _
   (repeat (first|(with_reducible first|apply qF|apply qA|apply qE|apply qB)|(apply wlp;(first|apply qC|apply qD);exact fS rfl)))
   (apply wls;exact qH rfl qQo rfl (c97 R1 y s1 sv c1 cv _ ((jS hp 0 rfl hv2 (fun _=>rfl)).pre hpr1) (hsv.keep0 hp.keeps) (by omega) (by omega));rintro _ w11 ⟨r,rfl,hr,_,hk⟩;have hp:=hp.call hk)
   (repeat (first|(with_reducible first|apply qE|apply qB)|(apply wlp;(apply xF<;>exact rfl);exact fB rfl)))
   refine qM rfl (fun h3=>?_) (fun h3=>?_)
   ·have hle:y≤R1:=hr.1 h3
    obtain ⟨d,hd⟩:∃ d,d = R1 / y:=⟨_,rfl⟩
    have hiq:i < (List.replicate (i + 1) 0 ++ T).length:=by simp;omega
    have hyd:y * d≤R1:=by rw [hd];exact Nat.mul_div_le R1 y
    have hmod:R1 - y * d = R1 % y:=by
     have:=Nat.div_add_mod R1 y
     rw [← hd] at this
     omega
    have hll:(d24 (y * d)).length≤100000:=by
     have:=qJm (x:=y) (d:=d) (by omega)
     have:=hy.d24s
     omega
    (repeat (first|(with_reducible first|apply qF|apply qA)|(apply wlp;apply qC;(first|exact fI rfl|exact fS rfl))))
    (apply wls;exact qH rfl qXs rfl (c98 R1 y s1 sv c1 cv _ ((jS hp 0 rfl hv2 (fun _=>rfl)).pre hpr1) (hsv.keep0 hp.keeps) (by omega) (by omega) hy0 hq3);rintro _ w12 ⟨rfl,hk⟩;have hp:=hp.call hk)
    rw [← hd]
    (apply wlp;exact qR rfl rfl rfl rfl hlt;exact fP rfl)
    (apply zG;exact xO eD _ i d hp 1 rfl hvq hiq rfl rfl (fun _=>rfl) rfl rfl (qQ rfl);rintro _ w13 ⟨rfl,hp⟩)
    have hvq2:SVL (some ⟨g,0,none⟩) (d24 x).length (List.replicate i 0 ++ (d :: T)):=by
     have e:(List.replicate i 0 ++ (d :: T)).length = (d24 x).length:=by simp;omega
     unfold SVL
     rw [e]
     exact .inr ⟨g,_,rfl,Nat.le_refl _,by unfold maxLen;omega⟩
    have hp:Hp w5 [] w13 [qW eD 3 1 s1 c1 (dx :: DR),qW eD 3 1 (some ⟨g,0,none⟩) (d24 x).length (List.replicate i 0 ++ (d :: T))]:=by
     rw [← qT0]
     exact hp
    have hcd:w13.cell? ⟨g,0 + i * 1,none⟩ = some (.int .i64 (d:Int)):=by
     have hsq:=jS hp 1 rfl hvq2 (fun _=>rfl)
     obtain ⟨b3,o3,e3,hc3⟩:=hsq.base (by simp;omega)
     cases e3
     exact hc3 i d (by simp) 0 _ rfl
    (repeat (first|(with_reducible first|apply qA|apply qE|apply qB)|(apply wlp;((first|apply qC|(apply qJ;exact rfl)|(apply qR;exact rfl))<;>(first|exact rfl|assumption));(first|exact fI rfl|exact fP rfl|exact fS rfl))))
    (apply wls;exact qH rfl qQn rfl (c99 y d sv cv _ (hsv.keep0 hp.keeps) hly (by omega));rintro _ w14 ⟨s3,c3,rfl,_,hs3,hk⟩;have hp:=hp.call hk)
    (apply wls;exact qH rfl qXr rfl (jD1 R1 (y * d) s1 s3 c1 c3 _ ((jS hp 0 rfl hv2 (fun _=>rfl)).pre hpr1) hs3 (by omega) hll hyd);rintro _ w15 ⟨s4,c4,z4,rfl,hpr4,hv4,hpo⟩;have hp:=hp.join hpo;clear hpo)
    rw [hmod]
    rw [hmod] at hpr4
    rw [← hq2]
    rw [← hq2] at hpr4
    (repeat (first|(with_reducible first|apply qA|apply qE|apply qB|apply qZ)|(apply wlp;(first|apply qC|apply qD);(first|exact fI rfl|exact fS rfl))))
    (apply wlp;exact jN rfl rfl;exact qI (qN (by omega) (by omega)))
    (repeat (first|(with_reducible first|apply qE|apply qB)|(apply wlp;apply qD;exact fI rfl)))
    refine ⟨i,d :: T,z4,s4,c4,qG (qG (Same.eq (by repeat (first|exact Same.hav|exact Same.refl|refine Same.put rfl ?_|refine Same.havs rfl ?_))) rfl) rfl,⟨by omega,by simp;omega,.cons (by omega) hTb,?_,hpr4,hv4,hvq2,hp.picks [2,0] _ rfl rfl⟩,by omega⟩
    rw [qGg,hTv,hd,hq1]
   ·have hlt1:R1 < y:=by
     rcases Nat.lt_or_ge R1 y with h|h
     ·exact h
     ·exact absurd (hr.2 h) h3
    have e1:R1 / y = 0:=Nat.div_eq_of_lt hlt1
    have e2:R1 % y = R1:=Nat.mod_eq_of_lt hlt1
    rw [e1,Nat.zero_add] at hq1
    rw [e2] at hq2
    rw [← hq2] at hpr1
    rw [← hq2]
    (repeat (first|(with_reducible first|apply qA|apply qB|apply qZ|apply qL)|(apply wlp;apply qC;exact fI rfl)))
    (apply wlp;exact jN rfl rfl;exact qI (qN (by omega) (by omega)))
    (repeat (first|(with_reducible first|apply qE|apply qB)|(apply wlp;apply qD;exact fI rfl)))
    rw [qOo] at hvq hp
    refine ⟨i,0 :: T,_,s1,c1,qG (qG (Same.eq (by repeat (first|exact Same.hav|exact Same.refl|refine Same.put rfl ?_|refine Same.havs rfl ?_))) rfl) rfl,⟨by omega,by simp;omega,.cons (by omega) hTb,?_,hpr1,hv2,hvq,hp.picks [1,0] _ rfl rfl⟩,by omega⟩
    rw [qGg,hTv,hq1,Nat.zero_add]
  ·obtain rfl:k = 0:=by omega
   rw [Nat.pow_zero,Nat.div_one] at hTv hpre
   rw [Nat.pow_zero,Nat.div_one]
   have hrl:(d24 (x % y)).length≤100000:=hx.mod.d24
   have hp:Hp w5 [] w7 [qW eD 3 1 (some ⟨g,0,none⟩) (d24 x).length T,qW eD 3 1 sr cr z]:=hp
   have hvq:SVL (some ⟨g,0,none⟩) (d24 x).length T:=hvq
   have hTl:T.length = (d24 x).length:=by omega
   have h70:=fun w' h=>c70 T (some ⟨g,0,none⟩) (d24 x).length w' h hTb (by omega)
   rw [hTl,hTv] at h70
   have h71:=fun w' h=>c70 (d24 (x % y)) sr cr w' h (qBi _) hrl
   rw [qIe] at h71
   (repeat (first|(with_reducible first|apply qF|apply qA|apply qB|apply qO|apply jB)|((with_reducible apply qP);exact rfl)|(apply wlp;apply qC;exact fS rfl)))
   (apply wls;exact qH rfl qQv rfl (h70 _ (jS hp 0 rfl hvq (fun _=>rfl)));rintro _ w8 ⟨rfl,hk⟩;have hp:=hp.call hk)
   (repeat (apply wlp;apply qC;exact fS rfl))
   (apply wls;exact qH rfl qQv rfl (h71 _ ((jS hp 1 rfl hvz (fun _=>rfl)).pre hpre));rintro _ w9 ⟨rfl,hk⟩;have hp:=hp.call hk)
   (repeat (first|(with_reducible first|apply qE|apply qB|apply qT)|(apply wlp;apply qD;(first|exact fB rfl|exact fT rfl))))
   exact qB1 rfl rfl rfl rfl ⟨_,rfl,rfl,hk5.trans hp.keeps (by simp)⟩
theorem c92 (x y:Nat) (w:World) (hx:Fit x) (hy:Fit y) (hy0:0 < y):Ret Tryz.prog 134 [.string (ofN x),.string (ofN y)] w (fun v w'=>v = .tuple #[.string (ofN (x / y)),.string (ofN (x % y)),.bool true]∧Keeps [] w w'):=jD0 _ x y w (NS.self hx) hx hy hy0
end Go.Proofs.YtbgldmoikimmpaaGreatDoor
namespace Go.Proofs.YtbgldmoikimmpaaGreatDoor
open Go.Eng Go.Dig
attribute [local irreducible] PV StepF wpl wpd WP Ret
attribute [local irreducible] Fit ofN
theorem c85 (x:Nat) (w:World):Ret Tryz.prog 188 [.string (ofN x)] w (fun v w'=>v = .bool true∧Keeps [] w w'):=by
 have hsz:=wD x
 refine Ret.of_WP Tryz.func188 rfl Tryz.ntmps188 rfl ?_
 have hp:=Hp.start (M:=[]) (w:=w)
 (repeat (with_reducible first|apply qF|apply qA))
 (apply wlp;apply qD;exact fB rfl)
 (repeat (with_reducible first|apply qF|apply qA|apply qE|apply qB))
 (apply wlp;apply qC;exact fT rfl)
 (apply wlp;((apply xP;exact rfl)<;>exact rfl);exact fI rfl)
 by_cases h0:x = 0
 ·have h1:(ofN x).size = 0:=by rw [hsz,h0];rfl
  (apply wlp;exact zF rfl rfl;exact jF (b:=true) (decide_eq_true (by omega)))
  (repeat (first|(with_reducible first|apply qE|apply qB|apply qT)|(apply wlp;(intros;(first|apply qC|apply qD|exact qOs rfl));(intros;exact fB rfl))|(apply vS;exact rfl;exact rfl;exact rfl)|(apply vR;exact rfl;exact rfl)))
  exact qU rfl rfl ⟨_,rfl,rfl,hp.keeps⟩
 ·obtain ⟨h1,hb⟩:=qM1 h0
  (apply wlp;exact zF rfl rfl;exact jF (b:=false) (decide_eq_false (by omega)))
  (apply wlp;apply qC;exact fB rfl)
  ((apply jO;exact rfl;exact rfl);(apply qC);(intros;exact fT rfl))
  (apply jO;exact rfl;exact rfl;exact zY (i:=0) rfl rfl rfl h1;exact fI rfl)
  (apply jO;exact rfl;exact rfl;exact zJ rfl rfl;exact jF (b:=true) (ndt hb))
  (repeat (first|(with_reducible first|apply qE|apply qB|apply qT)|(apply wlp;(intros;(first|apply qD|exact jU rfl rfl));(intros;exact fB rfl))|(apply vS;exact rfl;exact rfl;exact rfl)|(apply vR;exact rfl;exact rfl)))
  exact qU rfl rfl ⟨_,rfl,rfl,hp.keeps⟩
theorem c91 (x y:Nat) (w:World) (hx:Fit x) (hy:Fit y):Ret Tryz.prog 189 [.string (ofN x),.string (ofN y)] w (fun v w'=>v = .string (ofN (Nat.gcd x y))∧Keeps [] w w'):=by
 refine Ret.of_WP Tryz.func189 rfl Tryz.ntmps189 rfl ?_
 have hp:=Hp.start (M:=[]) (w:=w)
 (repeat (first|(with_reducible first|apply qF|apply qA|apply qE|apply qB)|(apply wlp;(first|apply qC|apply qD);exact fT rfl)))
 (apply wls;exact qH rfl kN rfl (qUc x _ hx);rintro _ w1 ⟨rfl,hk⟩;have hp:=hp.call hk)
 (repeat (first|(with_reducible first|apply qF|apply qA|apply qE|apply qB)|(apply wlp;(first|apply qC|apply qD);exact fT rfl)))
 (apply wls;exact qH rfl kN rfl (qUc y _ hy);rintro _ w2 ⟨rfl,hk⟩;have hp:=hp.call hk)
 (repeat (first|(with_reducible first|apply qF|apply qK|apply qE|apply qB)|(apply wlp;apply qD;exact fT rfl)))
 refine uF [0,1,5,6,7,12,13,14,15,16,17,18,19,20,21,22,23] (fun (a b:Nat) F=>(F.put 0 (.string (ofN a))).put 1 (.string (ofN b))) (fun a b w'=>Fit a∧Fit b∧Nat.gcd a b = Nat.gcd x y∧Hp w [] w' []) (fun _ b=>b) x y (qG (qG (Same.eq .refl) rfl) rfl) ⟨hx,hy,rfl,hp⟩ ?_
 clear hp
 rintro u a b w3 ⟨ha,hb,hg,hp⟩
 have hsz:=wD b
 (repeat (first|(with_reducible first|apply qF|apply qA|apply qE|apply qB)|(apply wlp;((first|apply qC|(apply xP;exact rfl)|apply zA)<;>exact rfl);(first|exact fI rfl|exact fB rfl|exact fT rfl))))
 refine qM rfl (fun h=>?_) (fun h=>?_)
 ·have hb0:0 < b:=by
   rcases Nat.eq_zero_or_pos b with h0|h0
   ·subst h0
    rw [hsz,uT] at h
    simp at h
   ·exact h0
  have hlt:=Nat.mod_lt a hb0
  (repeat (first|(with_reducible first|apply qF|apply qK|apply qA|apply qB|apply qL)|(apply wlp;apply qC;exact fT rfl)))
  (apply wls;exact qH rfl qQz rfl (c92 a b _ ha hb hb0);rintro _ w4 ⟨rfl,hk⟩;have hp:=hp.call hk)
  (repeat (first|(with_reducible first|apply qF|apply qA|apply qE|apply qB|apply qZ)|(apply wlp;((first|apply qC|apply qD|apply jK)<;>exact rfl);(first|exact fB rfl|exact fT rfl|exact fU rfl))))
  exact ⟨b,a % b,qG (qG (Same.eq (by repeat (first|exact Same.hav|exact Same.refl|refine Same.put rfl ?_|refine Same.havs rfl ?_))) rfl) rfl,⟨hb,ha.mod,by rw [← qPx];exact hg,hp⟩,hlt⟩
 ·obtain rfl:b = 0:=by
   rcases Nat.eq_zero_or_pos b with h0|h0
   ·exact h0
   ·have:=(qM1 (n:=b) (by omega)).1
    omega
  rw [Nat.gcd_zero_right] at hg
  subst hg
  (repeat (first|(with_reducible first|apply qF|apply qA|apply qE|apply qB|apply qO|apply qT|apply jB)|((with_reducible apply qP);exact rfl)|(apply wlp;(first|apply qC|apply qD);exact fT rfl)))
  exact qU rfl rfl ⟨_,rfl,rfl,hp.keeps⟩
theorem qBo:Fit 1:=Fit.small (by decide)
def eQ (q:Nat × Nat):List Value:=[.bool false,.string (ofN q.1),.string (ofN q.2)]
structure Red (n d:Nat):Prop where
 g:Nat.gcd n d = 1
 d0:0 < d
 fn:Fit n
 fd:Fit d
theorem jCi {n d:Nat} (h:Red n d) (w:World):Ret Tryz.prog 132 [RV n d] w (fun v w'=>v = .bool true∧Keeps [] w w'):=by
 have he:=qKq n 0
 rw [qJb] at he
 have hed:=qKq d 0
 rw [qJb] at hed
 have hd0:=h.d0
 refine Ret.of_WP Tryz.func132 rfl Tryz.ntmps132 rfl ?_
 have hp:=Hp.start (M:=[]) (w:=w)
 (repeat (first|(with_reducible first|apply qF|apply qA|apply qE|apply qB)|(apply wlp;((first|apply qD|apply qS|(apply qJ;exact rfl))<;>(first|exact rfl|exact hp.cell 0 rfl rfl));(first|exact fB rfl|exact fP rfl|exact fT rfl))|(apply wls;exact qE1 hp rfl;rintro _ w ⟨b,rfl,hp⟩)))
 (apply wls;exact qH rfl qQp rfl (c85 n _))
 rintro _ w1 ⟨rfl,hk⟩
 have hp:=hp.call hk
 (repeat (first|(with_reducible first|apply qF|apply qA|apply qE|apply qB)|(apply wlp;((first|apply qD|apply qS|(apply qJ;exact rfl))<;>(first|exact rfl|exact hp.cell 0 rfl rfl));(first|exact fB rfl|exact fP rfl|exact fT rfl))))
 (apply wls;exact qH rfl qQp rfl (c85 d _))
 rintro _ w2 ⟨rfl,hk⟩
 have hp:=hp.call hk
 skip
 (apply wlp;apply qD;exact fB rfl)
 (repeat (with_reducible first|apply qF|apply qA|apply qE|apply qB))
 (apply wlp;apply qC;exact fB rfl)
 (apply wlp;(apply zI<;>exact rfl);exact fB rfl)
 (apply wlp;apply qC;exact fB rfl)
 ((apply jO;exact rfl;exact rfl);(apply qC);(intros;exact fB rfl))
 ((apply jO;exact rfl;exact rfl);((apply zI<;>exact rfl));(intros;exact fB rfl))
 (apply wlp;exact jU rfl rfl;exact fB rfl)
 (apply wlp;apply qC;exact fB rfl)
 ((apply jO;exact rfl;exact rfl);((apply qS<;>exact rfl));(intros;exact fP rfl))
 ((apply jO;exact rfl;exact rfl);(((apply qJ;exact rfl)<;>(first|exact rfl|exact hp.cell 0 rfl rfl)));(intros;exact fT rfl))
 (apply jO;exact rfl;exact rfl;exact uO rfl rfl;exact jF (b:=false) (hed.trans (decide_eq_false (by omega))))
 (apply wlp;exact jU rfl rfl;exact fB rfl)
 (repeat (with_reducible first|apply qE|apply qB))
 refine jI rfl ?_
 (repeat (with_reducible first|apply qF|apply qA|apply qB|apply qL))
 (apply wlp;(apply qS<;>exact rfl);exact fP rfl)
 (apply wlp;((apply qJ;exact rfl)<;>(first|exact rfl|exact hp.cell 0 rfl rfl));exact fT rfl)
 by_cases h0:n = 0
 ·have hd1:d = 1:=by have:=h.g;rw [h0,Nat.gcd_zero_left] at this;exact this
  (apply wlp;exact uO rfl rfl;exact jF (b:=true) (he.trans (decide_eq_true h0)))
  (repeat (with_reducible first|apply qE|apply qB))
  refine yI rfl ?_
  (repeat with_reducible apply qF)
  refine jX jW (by kernel_rfl) (fun w'=>Hp _ _ w' _) hp.drew ?_
  have hp:=hp.drew
  (repeat (first|((apply wdp;exact rfl);(intro w hp;intros;((first|apply qC|apply qS|(apply qJ;exact rfl)|apply zI)<;>(first|exact rfl|exact hp.cell 0 rfl rfl)));(intros;(first|exact fB rfl|exact fP rfl|exact fT rfl)))|((apply vD;exact rfl;exact rfl;exact rfl);(intro w hp;((first|apply qC|apply qS|(apply qJ;exact rfl)|apply zI)<;>(first|exact rfl|exact hp.cell 0 rfl rfl)));(intros;(first|exact fB rfl|exact fP rfl|exact fT rfl)))|(apply uN;exact rfl;exact rfl;exact rfl;exact rfl)|(apply uM;exact rfl;exact rfl;exact rfl)))
  (apply qEs;exact rfl;exact rfl;exact rfl;exact qH rfl qD7 rfl (c40 1 _ (by decide));rintro _ w3 ⟨rfl,hk⟩;have hp:=hp.call hk;refine ⟨hp,?_⟩)
  rw [show (1:Int).toNat = 1 from rfl]
  (apply qEs;exact rfl;exact rfl;exact rfl;exact qH rfl qQ9 rfl (c50 d 1 _ h.fd qBo);rintro _ w4 ⟨rfl,hk⟩;have hp:=hp.call hk;refine ⟨hp,?_⟩)
  rw [hd1,if_neg (by omega),if_pos rfl]
  (apply vD;exact rfl;exact rfl;exact rfl;(intro w hp;exact zF rfl rfl);exact jF (b:=true) (by decide))
  (repeat (first|((apply wdp;exact rfl);(intro w hp;intros;(first|apply qD|exact zM rfl rfl));(intros;exact fB rfl))|(apply uN;exact rfl;exact rfl;exact rfl;exact rfl)|(apply uM;exact rfl;exact rfl;exact rfl)))
  refine jL ?_
  (repeat (with_reducible first|apply qB|apply jV|apply qT))
  exact qU rfl rfl ⟨_,rfl,rfl,hp.keeps⟩
 ·(apply wlp;exact uO rfl rfl;exact jF (b:=false) (he.trans (decide_eq_false h0)))
  (repeat (with_reducible first|apply qE|apply qB))
  refine jI rfl ?_
  (repeat (first|(with_reducible first|apply qF|apply qA|apply qB|apply qL)|(apply wlp;((first|apply qS|(apply qJ;exact rfl))<;>(first|exact rfl|exact hp.cell 0 rfl rfl));(first|exact fP rfl|exact fT rfl))))
  (apply wls;exact qH rfl qXt rfl (c91 n d _ h.fn h.fd))
  rintro _ w3 ⟨rfl,hk⟩
  have hp:=hp.call hk
  skip
  (apply wls;exact qH rfl qD7 rfl (c40 1 _ (by decide)))
  rintro _ w4 ⟨rfl,hk⟩
  have hp:=hp.call hk
  rw [show (1:Int).toNat = 1 from rfl,h.g]
  skip
  (apply wls;exact qH rfl qQ9 rfl (c50 1 1 _ qBo qBo))
  rintro _ w5 ⟨rfl,hk⟩
  have hp:=hp.call hk
  rw [if_neg (by omega),if_pos rfl]
  (apply wlp;exact zF rfl rfl;exact jF (b:=true) (by decide))
  (repeat (first|(with_reducible first|apply qE|apply qB|apply qT)|(apply wlp;apply qD;exact fB rfl)))
  exact qU rfl rfl ⟨_,rfl,rfl,hp.keeps⟩
theorem p84 {n d:Nat} (h:Red n d) (w:World):Ret Tryz.prog 84 [RV n d] w (fun v w'=>v = RV n d∧Keeps [] w w'):=by
 refine Ret.of_WP Tryz.func84 rfl Tryz.ntmps84 rfl ?_
 have hp:=Hp.start (M:=[]) (w:=w)
 (repeat (first|(with_reducible first|apply qF|apply qA|apply qE|apply qB)|(apply wlp;((apply jQ;exact rfl)<;>(first|exact rfl|exact hp.agg_blk 1 rfl rfl));exact fA3 rfl)|(apply wls;(first|exact qE1 hp rfl|exact yA hp (jD rfl));rintro _ w ⟨b,rfl,hp⟩)))
 (apply wls;exact qH rfl qYa rfl (jCi h _))
 rintro _ w1 ⟨rfl,hk⟩
 have hp:=hp.call hk
 (repeat (first|(with_reducible first|apply qF|apply qA|apply qE|apply qB)|(apply wlp;((first|apply qC|apply qD|apply zI)<;>exact rfl);exact fB rfl)))
 refine jI rfl ?_
 (repeat (first|(with_reducible first|apply qF|apply qA|apply qE|apply qB|apply qT|apply qL)|(apply wlp;((apply jQ;exact rfl)<;>(first|exact rfl|exact hp.agg_blk 1 rfl rfl));exact fA3 rfl)|(apply zG;exact vK hp 0 rfl rfl rfl rfl (qQ rfl) rfl;rintro _ w ⟨rfl,hp⟩)))
 exact yG rfl rfl rfl rfl (hp.agg_blk 0 rfl rfl) ⟨_,rfl,rfl,hp.keeps⟩
end Go.Proofs.YtbgldmoikimmpaaGreatDoor
namespace Go.Eng
def qMf (ops:Array Oper):Bool:=(List.range ops.size).all fun i=>(jJ ops i).after.toList.all fun e=>!Region.binds .any e || decide (e.on < i)
def qJv (ops:Array Oper) (i:Nat) (D:Nat→Bool):Bool:=(jJ ops i).after.toList.all fun e=>!Region.binds .any e || D e.on
section
variable {P:Program} {ops:Array Oper} {Q:Exit→Act→World→Prop}
theorem qL9 (hed:qMf ops = true) (I:(Nat→Bool)→Act→World→Prop)
  (hstep:∀ (i:Nat) (D:Nat→Bool) (a:Act) (w:World),i < ops.size→D i = false→qJv ops i D = true→I D a w→EffStep P ops (jJ ops i) a w (fun a' w'=>I (fun j=>D j || Nat.beq j i) a' w'))
  (hend:∀ (D:Nat→Bool) (a:Act) (w:World),(∀ i,i < ops.size→D i = true)→I D a w→Q .normal a w) :
  ∀ (fuel:Nat) (listed:Array Bool) (a:Act) (w:World),listed.size = ops.size→(left ops listed).length≤fuel→I (fun i=>listed.getD i false) a w→wpAny P .any ops Q fuel listed a w:=by
 have hedge:∀ i,i < ops.size→∀ e ∈ (jJ ops i).after.toList,Region.binds .any e = true→e.on < i:=by
  intro i hi e he hb
  have h1:=List.all_eq_true.1 hed i (by simpa using hi)
  have h2:=List.all_eq_true.1 h1 e he
  rw [hb] at h2
  simpa using h2
 have hgd:∀ (listed:Array Bool) (i:Nat),listed.size = ops.size→i < ops.size→listed.getD i true = listed.getD i false:=by
  intro listed i hsz hi
  simp [Array.getD_eq_getD_getElem?,hsz,hi]
 have done:∀ (listed:Array Bool) (a:Act) (w:World),listed.size = ops.size→left ops listed = []→I (fun i=>listed.getD i false) a w→Q .normal a w:=by
  intro listed a w hsz hl h
  refine hend _ a w (fun i hi=>?_) h
  have:¬ i ∈ left ops listed:=by rw [hl];simp
  rw [zV] at this
  rw [← hgd listed i hsz hi]
  cases hx:listed.getD i true
  ·exact absurd ⟨hi,hx⟩ this
  ·rfl
 have hrd:∀ (listed:Array Bool) i,i ∈ Region.ready .any ops listed ↔ i < ops.size∧listed.getD i true = false∧∀ e ∈ (jJ ops i).after.toList,Region.binds .any e = true→listed.getD e.on false = true:=by
  intro listed i
  simp only [Region.ready,List.mem_filter,List.mem_range,Bool.and_eq_true,Bool.not_eq_true']
  constructor
  ·rintro ⟨h1,h2,h3⟩
   refine ⟨h1,h2,?_⟩
   rw [Array.getElem?_eq_getElem h1] at h3
   simp only [Option.map_some,Option.getD_some] at h3
   rw [Array.all_eq_true_iff_forall_mem] at h3
   intro e he hb
   have:=h3 e (by simpa [jJ,h1] using he)
   rw [hb] at this
   simpa using this
  ·rintro ⟨h1,h2,h3⟩
   refine ⟨h1,h2,?_⟩
   rw [Array.getElem?_eq_getElem h1]
   simp only [Option.map_some,Option.getD_some]
   rw [Array.all_eq_true_iff_forall_mem]
   intro e he
   cases hb:Region.binds .any e
   ·rfl
   ·simpa using h3 e (by simpa [jJ,h1] using he) hb
 intro fuel
 induction fuel with
 | zero=>
  intro listed a w hsz hlen h
  have hl:left ops listed = []:=List.eq_nil_of_length_eq_zero (by omega)
  refine ⟨?_,done _ _ _ hsz hl h⟩
  rw [List.eq_nil_iff_forall_not_mem]
  intro i hi
  have:=(hrd listed i).1 hi
  have hm:i ∈ left ops listed:=zV.2 ⟨this.1,this.2.1⟩
  rw [hl] at hm
  cases hm
 | succ fuel ih=>
  intro listed a w hsz hlen h
  refine ⟨fun hnone=>?_,fun i hi=>?_⟩
  ·cases hl:left ops listed with
   | nil=>exact done _ _ _ hsz hl h
   | cons i0 rest=>
    exfalso
    have hm:i0 ∈ left ops listed:=by rw [hl];simp
    obtain ⟨h1,h2⟩:=zV.1 hm
    have:i0 ∈ Region.ready .any ops listed:=by
     refine (hrd listed i0).2 ⟨h1,h2,fun e he hb=>?_⟩
     have hlt:=hedge i0 h1 e he hb
     have hs:=yD ops listed
     rw [hl] at hs
     by_cases hx:listed.getD e.on true = false
     ·have hm':e.on ∈ left ops listed:=zV.2 ⟨by omega,hx⟩
      rw [hl] at hm'
      rcases List.mem_cons.1 hm' with e1|e1
      ·omega
      ·have:=(List.pairwise_cons.1 hs).1 _ e1
       omega
     ·rw [← hgd listed e.on hsz (by omega)]
      simpa using hx
    rw [hnone] at this
    cases this
  ·obtain ⟨h1,h2,h3⟩:=(hrd listed i).1 hi
   have hm:i ∈ left ops listed:=zV.2 ⟨h1,h2⟩
   have hD:listed.getD i false = false:=by rw [← hgd listed i hsz h1];exact h2
   have hA:qJv ops i (fun i=>listed.getD i false) = true:=by
    unfold qJv
    rw [List.all_eq_true]
    intro e he
    cases hb:Region.binds .any e
    ·rfl
    ·simpa using h3 e he hb
   have hlen':(left ops (listed.setIfInBounds i true)).length≤fuel:=by
    rw [vV h1 hsz]
    have:=qCf (qAl (yD ops listed)) hm
    omega
   have hset:(fun j=>(fun i=>listed.getD i false) j || Nat.beq j i) = (fun j=>(listed.setIfInBounds i true).getD j false):=by
    funext j
    by_cases hj:j = i
    ·subst hj
     have:Nat.beq j j = true:=Nat.beq_refl j
     simp [Array.getD_eq_getD_getElem?,hsz,h1]
    ·have:Nat.beq j i = false:=zS hj
     simp only [this,Bool.or_false,Array.getD_eq_getD_getElem?,Array.getElem?_setIfInBounds]
     rw [if_neg (fun e=>hj e.symm)]
   have hst:=hstep i _ a w h1 hD hA h
   rw [hset] at hst
   have hio:ops[i]? = some (jJ ops i):=by simp [jJ,Array.getElem?_eq_getElem h1]
   have hnext:∀ a' w',I (fun j=>(listed.setIfInBounds i true).getD j false) a' w'→wpAny P .any ops Q fuel (listed.setIfInBounds i true) a' w':=fun a' w' h=>ih _ a' w' (by simpa using hsz) hlen' h
   unfold wpOp
   simp only [hio]
   cases hw:Region.wanted (jJ ops i) (yielded ops a.tmps)
   ·simp only [Bool.false_eq_true,if_false]
    exact hnext _ _ (hst.2 hw)
   ·simp only [if_true]
    exact .inl ((hst.1 hw).wp fun v w' h=>hnext _ _ h)
end
section
variable {P:Program} {n:FrK} {Q:Exit→Fr→World→Prop} {F:Fr} {w:World} {ops:Array Oper}
def qZ7 (P:Program) (n:FrK) (ops:Array Oper) (o:Oper) (F:Fr) (w:World) (K:Fr→World→Prop):Prop:=EffStep P ops o (act n F) w (fun a' w'=>∃ F',a' = act n F'∧K F' w')
theorem qS3 {id:Nat} {l:List Oper} (hm:P.follows .mixedOrders = true) (hed:qMf l.toArray = true) (I:(Nat→Bool)→Fr→World→Prop) (h0:I (fun _=>false) F w.drew)
  (hstep:∀ (i:Nat) (D:Nat→Bool) (F:Fr) (w:World),i < l.length→D i = false→qJv l.toArray i D = true→I D F w→qZ7 P n l.toArray (jJ l.toArray i) F w (fun F' w'=>I (fun j=>D j || Nat.beq j i) F' w'))
  (hend:∀ (D:Nat→Bool) (F:Fr) (w:World),(∀ i,i < l.length→D i = true)→I D F w→Q .normal F w) (hr:n.ro = none:=by rfl):WP P n (.region id l.toArray true) Q F w:=by
 unfold WP
 rw [FrK.fence_none hr]
 refine wpIn_wide.2 (wp_region_any hm ?_)
 refine qL9 hed (fun D a w=>∃ F',a = act n F'∧I D F' w) ?_ ?_ l.toArray.size _ _ _ (by simp) ?_ ⟨F,rfl,?_⟩
 ·rintro i D a w hi hD hA ⟨F',rfl,hI⟩
  exact hstep i D F' w (by simpa using hi) hD hA hI
 ·rintro D a w hD ⟨F',rfl,hI⟩
  exact ⟨F',rfl,hend D F' w (fun i hi=>hD i (by simpa using hi)) hI⟩
 ·unfold left
  exact Nat.le_trans (List.length_filter_le _ _) (by simp)
 ·have:(fun i=>(Array.replicate l.toArray.size false).getD i false) = (fun _=>false):=by
   funext i
   simp only [Array.getD_eq_getD_getElem?]
   rw [Array.getElem?_replicate]
   split<;>rfl
  rw [this]
  exact h0
variable {d:Nat} {op:Op} {ty:TypeId} {pos:String} {aft:Array Edge} {K:Fr→World→Prop}
theorem qR4 {R:Value→World→Prop} (hs:StepF P n ⟨some d,op,ty,pos,aft,none⟩ F w R) (h:∀ v w',R v w'→K (F.put d v) w'):qZ7 P n ops ⟨some d,op,ty,pos,aft,none⟩ F w K:=
 ⟨fun _=>Step.mono hs fun v w' hr=>⟨F.put d v,by rw [xW];rfl,h v w' hr⟩,fun hw=>by simp [Region.wanted] at hw⟩
theorem qE7 {r v:Value} (hp:PV P n w F ⟨some d,op,ty,pos,aft,none⟩ r) (hv:r = v) (h:K (F.put d v) w):qZ7 P n ops ⟨some d,op,ty,pos,aft,none⟩ F w K:=by
 subst hv
 refine qR4 (R:=fun u w'=>u = r∧w' = w) (.inl ⟨r,w,?_,rfl,rfl⟩) ?_
 ·rw [zZ];exact hp
 ·rintro u w' ⟨rfl,rfl⟩;exact h
end
theorem qFh:∀ {S:List Nat} {i:Nat},i ∈ S→inS S i = true
 | [],_,h=>by cases h
 | d :: S,i,h=>by
  simp only [inS]
  rcases List.mem_cons.1 h with rfl|h
  ·rw [Nat.beq_refl];rfl
  ·rw [qFh h]
   cases Nat.beq i d<;>rfl
structure Dn (b m:Nat) (V:Nat→Value) (F0:Fr) (D:Nat→Bool) (F:Fr):Prop where
 at_:∀ j,j < m→D j = true→F (b + j) = V j
 out:∀ s,s < b∨b + m≤s→F s = F0 s
theorem Dn.start {b m:Nat} {V:Nat→Value} {F0:Fr}:Dn b m V F0 (fun _=>false) F0:=⟨by simp,fun _ _=>rfl⟩
theorem Dn.put {b m i:Nat} {V:Nat→Value} {F0 F:Fr} {D:Nat→Bool} (h:Dn b m V F0 D F) (hi:i < m):Dn b m V F0 (fun j=>D j || Nat.beq j i) (F.put (b + i) (V i)):=by
 refine ⟨fun j hj hD=>?_,fun s hs=>?_⟩
 ·by_cases hji:j = i
  ·subst hji
   have:Nat.beq (b + j) (b + j) = true:=Nat.beq_refl _
   simp [Fr.put]
  ·have h1:Nat.beq j i = false:=zS hji
   rw [h1,Bool.or_false] at hD
   have h2:Nat.beq (b + j) (b + i) = false:=zS (by omega)
   simp only [Fr.put,h2,cond_false]
   exact h.at_ j hj hD
 ·have h2:Nat.beq s (b + i) = false:=zS (by omega)
  simp only [Fr.put,h2,cond_false]
  exact h.out s hs
theorem Dn.same {b m:Nat} {V:Nat→Value} {F0 F:Fr} {D:Nat→Bool} (h:Dn b m V F0 D F):Same (List.range' b m) F F0:=by
 intro s hs
 refine h.out s ?_
 rcases Nat.lt_or_ge s b with h1|h1
 ·exact .inl h1
 ·rcases Nat.lt_or_ge s (b + m) with h2|h2
  ·rw [qFh (List.mem_range'_1.2 ⟨h1,h2⟩)] at hs
   cases hs
  ·exact .inr h2
theorem Dn.congr {b m:Nat} {V:Nat→Value} {F0 F:Fr} {D D':Nat→Bool} (h:Dn b m V F0 D F) (hd:∀ j,j < m→D' j = D j):Dn b m V F0 D' F:=⟨fun j hj h2=>h.at_ j hj (by rw [← hd j hj];exact h2),h.out⟩
theorem Dn.slot {b m:Nat} {n:FrK} {V:Nat→Value} {F0 F:Fr} {D:Nat→Bool} (h:Dn b m V F0 D F) (j:Nat) (hD:D j = true) (hj:Nat.blt j m = true) (hn:Nat.blt (b + j) n.sz = true):ev n F (.tmp (b + j)) = V j:=by
 simp only [ev,hn,cond_true]
 exact h.at_ j (wE hj) hD
theorem Dn.old {b m:Nat} {n:FrK} {V:Nat→Value} {F0 F:Fr} {D:Nat→Bool} (h:Dn b m V F0 D F) (s:Nat) (hs:(Nat.blt s b || Nat.ble (b + m) s) = true) (hn:Nat.blt s n.sz = true):ev n F (.tmp s) = F0 s:=by
 simp only [ev,hn,cond_true]
 refine h.out s ?_
 rcases Bool.or_eq_true _ _ ▸ hs with h1|h1
 ·exact .inl (wE h1)
 ·exact .inr (Nat.le_of_ble_eq_true h1)
end Go.Eng
namespace Go.Nt
def Pr (p:Nat):Prop:=2≤p∧∀ d,d ∣ p→d = 1∨d = p
theorem qG9 {a b m:Nat} (h:b≤a) (hd:m ∣ a - b):a % m = b % m:=by
 obtain ⟨k,hk⟩:=hd
 have:a = b + m * k:=by omega
 rw [this,Nat.add_mul_mod_self_left]
theorem cancel {a b c m:Nat} (hc:Nat.Coprime c m) (h:c * a % m = c * b % m):a % m = b % m:=by
 have key:∀ {a b:Nat},b≤a→c * a % m = c * b % m→a % m = b % m:=fun {a b} hab h=>by
  have h1:=Nat.sub_mod_eq_zero_of_mod_eq h
  rw [← Nat.mul_sub] at h1
  have h2:m ∣ c * (a - b):=Nat.dvd_of_mod_eq_zero h1
  exact qG9 hab (Nat.Coprime.dvd_of_dvd_mul_left hc.symm h2)
 rcases Nat.le_total b a with hab|hab
 ·exact key hab h
 ·exact (key hab h.symm).symm
theorem Pr.cop {p a:Nat} (h:Pr p) (ha:¬ p ∣ a):Nat.Coprime a p:=by
 rcases h.2 (Nat.gcd a p) (Nat.gcd_dvd_right a p) with h1|h1
 ·exact h1
 ·exact absurd (h1 ▸ Nat.gcd_dvd_left a p) ha
theorem Pr.mul {p a b:Nat} (h:Pr p) (hd:p ∣ a * b):p ∣ a∨p ∣ b:=by
 by_cases ha:p ∣ a
 ·exact .inl ha
 ·exact .inr (Nat.Coprime.dvd_of_dvd_mul_left (h.cop ha).symm hd)
theorem qW6:∀ n:Nat,2≤n→∃ r,Pr r∧r ∣ n:=by
 intro n
 induction n using Nat.strongRecOn with
 | ind n ih=>
  intro hn
  by_cases h:Pr n
  ·exact ⟨n,h,Nat.dvd_refl n⟩
  ·have:∃ d,d ∣ n∧d ≠ 1∧d ≠ n:=by
    apply Classical.byContradiction
    intro hno
    refine h ⟨hn,fun d hd=>?_⟩
    by_cases h1:d = 1
    ·exact .inl h1
    ·by_cases h2:d = n
     ·exact .inr h2
     ·exact absurd ⟨d,hd,h1,h2⟩ hno
   obtain ⟨d,hd,h1,h2⟩:=this
   have hdpos:0 < d:=Nat.pos_of_dvd_of_pos hd (by omega)
   have hdle:=Nat.le_of_dvd (by omega) hd
   obtain ⟨r,hr,hrd⟩:=ih d (by omega) (by omega)
   exact ⟨r,hr,Nat.dvd_trans hrd hd⟩
theorem qUv {n:Nat} (hn:2≤n) (h:∀ r,Pr r→r ∣ n→n < r * r):Pr n:=by
 refine ⟨hn,fun d hd=>?_⟩
 apply Classical.byContradiction
 intro hno
 have h1:d ≠ 1:=fun e=>hno (.inl e)
 have h2:d ≠ n:=fun e=>hno (.inr e)
 have hdpos:0 < d:=Nat.pos_of_dvd_of_pos hd (by omega)
 obtain ⟨e,he⟩:=hd
 have he1:e ≠ 0:=by rintro rfl;omega
 have he2:e ≠ 1:=by rintro rfl;omega
 have key:∀ {d e:Nat},n = d * e→2≤d→d≤e→False:=fun {d e} he hd2 hde=>by
  obtain ⟨r,hr,hrd⟩:=qW6 d hd2
  have hrle:=Nat.le_of_dvd (by omega) hrd
  have:=h r hr (Nat.dvd_trans hrd ⟨e,he⟩)
  have h3:r * r≤d * e:=Nat.mul_le_mul hrle (by omega)
  omega
 rcases Nat.le_total d e with hde|hde
 ·exact key he (by omega) hde
 ·exact key (d:=e) (e:=d) (by rw [he,Nat.mul_comm]) (by omega) hde
theorem qE4:∀ {a b:List Nat},a.Nodup→(∀ x ∈ a,x ∈ b)→b.length≤a.length→a.Perm b
 | [],b,_,_,hl=>by
  have:b = []:=List.eq_nil_of_length_eq_zero (by simpa using hl)
  rw [this]
 | x :: a,b,hn,hs,hl=>by
  obtain ⟨hx,hn⟩:=List.nodup_cons.1 hn
  have hxb:=hs x List.mem_cons_self
  have hp:=List.perm_cons_erase hxb
  have hlen:=hp.length_eq
  rw [List.length_cons] at hlen hl
  exact ((qE4 hn (fun y hy=>(List.mem_erase_of_ne (by rintro rfl;exact hx hy)).2 (hs y (List.mem_cons_of_mem _ hy))) (by omega)).cons x).trans hp.symm
def qC0:List Nat→Nat
 | []=>1
 | x :: l=>x * qC0 l
theorem qKi {a b:List Nat} (h:a.Perm b):qC0 a = qC0 b:=by
 induction h with
 | nil=>rfl
 | cons x _ ih=>simp only [qC0,ih]
 | swap x y l=>simp only [qC0];rw [← Nat.mul_assoc,← Nat.mul_assoc,Nat.mul_comm x y]
 | trans _ _ h1 h2=>exact h1.trans h2
theorem qGo (a p:Nat):∀ l:List Nat,qC0 (l.map fun i=>a * i % p) % p = a ^ l.length * qC0 l % p
 | []=>rfl
 | x :: l=>by
  have ih:=qGo a p l
  show (a * x % p) * qC0 (l.map fun i=>a * i % p) % p = a ^ (l.length + 1) * (x * qC0 l) % p
  rw [Nat.mul_mod,Nat.mod_mod,ih,← Nat.mul_mod]
  congr 1
  rw [Nat.pow_succ]
  ac_rfl
theorem qGp {p:Nat}:∀ l:List Nat,(∀ x ∈ l,Nat.Coprime x p)→Nat.Coprime (qC0 l) p
 | [],_=>Nat.coprime_one_left p
 | x :: l,h=>Nat.Coprime.mul_left (h x List.mem_cons_self) (qGp l fun y hy=>h y (List.mem_cons_of_mem _ hy))
theorem qI7 {p a:Nat} (hp:Pr p) (ha:¬ p ∣ a):a ^ (p - 1) % p = 1:=by
 have hp2:=hp.1
 obtain ⟨l,hl⟩:∃ l,l = (List.range (p - 1)).map (· + 1):=⟨_,rfl⟩
 have hmem:∀ x,x ∈ l ↔ 1≤x∧x < p:=fun x=>by
  rw [hl,List.mem_map]
  constructor
  ·rintro ⟨y,hy,rfl⟩
   have:=List.mem_range.1 hy
   omega
  ·rintro ⟨h1,h2⟩
   exact ⟨x - 1,List.mem_range.2 (by omega),by omega⟩
 have hlen:l.length = p - 1:=by rw [hl];simp
 have hnd:l.Nodup:=by
  rw [hl]
  unfold List.Nodup
  rw [List.pairwise_map]
  exact List.nodup_range.imp fun h e=>h (by omega)
 have hno:∀ x,1≤x→x < p→¬ p ∣ x:=fun x h1 h2 hd=>by
  have:=Nat.le_of_dvd (by omega) hd
  omega
 have hperm:(l.map fun i=>a * i % p).Perm l:=by
  refine qE4 ?_ ?_ (by simp)
  ·unfold List.Nodup
   rw [List.pairwise_map]
   refine List.Pairwise.imp_of_mem (fun {x y} hx hy hne e=>hne ?_) hnd
   have h1:=cancel (hp.cop ha) e
   have hx:=(hmem x).1 hx
   have hy:=(hmem y).1 hy
   rw [Nat.mod_eq_of_lt hx.2,Nat.mod_eq_of_lt hy.2] at h1
   exact h1
  ·intro y hy
   obtain ⟨x,hx,rfl⟩:=List.mem_map.1 hy
   have hx:=(hmem x).1 hx
   refine (hmem _).2 ⟨?_,Nat.mod_lt _ (by omega)⟩
   apply Classical.byContradiction
   intro h0
   have h0:a * x % p = 0:=by omega
   rcases hp.mul (Nat.dvd_of_mod_eq_zero h0) with h|h
   ·exact ha h
   ·exact hno x hx.1 hx.2 h
 have h1:=qGo a p l
 rw [qKi hperm,hlen] at h1
 have hc:=qGp (p:=p) l fun x hx=>hp.cop (hno x ((hmem x).1 hx).1 ((hmem x).1 hx).2)
 have h2:=cancel (a:=a ^ (p - 1)) (b:=1) hc (by rw [Nat.mul_one,Nat.mul_comm,← h1])
 rw [h2,Nat.mod_eq_of_lt (by omega)]
theorem qE3 {b r m:Nat} (hr:2≤r) (h:b ^ m % r = 1) (k:Nat):b ^ (m * k) % r = 1:=by
 rw [Nat.pow_mul,Nat.pow_mod,h,Nat.one_pow,Nat.mod_eq_of_lt (by omega)]
theorem qJ2 {b r m n:Nat} (hr:2≤r) (hm:b ^ m % r = 1) (hn:b ^ n % r = 1):b ^ (n % m) % r = 1:=by
 have h1:b ^ n = b ^ (m * (n / m)) * b ^ (n % m):=by rw [← Nat.pow_add,Nat.div_add_mod]
 rw [h1,Nat.mul_mod,qE3 hr hm,Nat.one_mul,Nat.mod_mod] at hn
 exact hn
theorem qJ3 {b r:Nat} (hr:2≤r) (m n:Nat):b ^ m % r = 1→b ^ n % r = 1→b ^ (Nat.gcd m n) % r = 1:=by
 induction m,n using Nat.gcd.induction with
 | H0 n=>intro _ h;rw [Nat.gcd_zero_left];exact h
 | H1 m n _ ih=>
  intro hm hn
  rw [Nat.gcd_rec]
  exact ih (qJ2 hr hm hn) hm
theorem qKt {a b n r:Nat} (hr:r ∣ n) (h:a % n = b % n):a % r = b % r:=by
 rw [← Nat.mod_mod_of_dvd a hr,h,Nat.mod_mod_of_dvd b hr]
theorem qJ5 {n q k a:Nat} (hn:2≤n) (hk:n - 1 = q * k) (hq:Pr q) (hqq:n < q * q) (h1:a ^ (n - 1) % n = 1) (h2:Nat.gcd (a ^ k % n + (n - 1)) n = 1):Pr n:=by
 refine qUv hn fun r hr hrn=>?_
 have hr2:=hr.1
 have e1:a ^ (n - 1) % r = 1:=by
  have:=qKt hrn (h1.trans (Nat.mod_eq_of_lt (show 1 < n by omega)).symm)
  rw [this,Nat.mod_eq_of_lt (by omega)]
 have e2:(a ^ k) ^ q % r = 1:=by rw [← Nat.pow_mul,Nat.mul_comm k q,← hk];exact e1
 have e3:¬ a ^ k % r = 1:=by
  intro e
  have h5:r ∣ a ^ k % n + (n - 1):=by
   have h6:(a ^ k % n + (n - 1)) % r = n % r:=by
    have:(a ^ k % n) % r = 1 % r:=by rw [Nat.mod_mod_of_dvd _ hrn,e,Nat.mod_eq_of_lt (by omega)]
    rw [Nat.add_mod,this,← Nat.add_mod,show 1 + (n - 1) = n by omega]
   rw [Nat.mod_eq_zero_of_dvd hrn] at h6
   exact Nat.dvd_of_mod_eq_zero h6
  have:=Nat.dvd_gcd h5 hrn
  rw [h2] at this
  have:=Nat.le_of_dvd (by omega) this
  omega
 have e4:¬ r ∣ a ^ k:=by
  intro hd
  have hq2:=hq.1
  have:r ∣ (a ^ k) ^ q:=Nat.dvd_trans hd ⟨(a ^ k) ^ (q - 1),by
   rw [← Nat.pow_succ']
   congr 1
   omega⟩
  rw [Nat.mod_eq_zero_of_dvd this] at e2
  omega
 have e5:=qI7 hr e4
 by_cases hd:q ∣ r - 1
 ·have h7:=Nat.le_of_dvd (by omega) hd
  have:q * q≤r * r:=Nat.mul_le_mul (by omega) (by omega)
  omega
 ·exfalso
  have hc:Nat.gcd (r - 1) q = 1:=hq.cop hd
  have:=qJ3 hr2 (r - 1) q e5 e2
  rw [hc,Nat.pow_one] at this
  exact e3 this
def pmA:Nat→Nat→Nat→Nat→Nat
 | 0,_,_,m=>1 % m
 | f + 1,a,n,m=>if n = 0 then 1 % m else if n % 2 = 1 then a * pmA f (a * a % m) (n / 2) m % m else pmA f (a * a % m) (n / 2) m
theorem qHs (m:Nat):∀ (f a n:Nat),n < 2 ^ f→pmA f a n m = a ^ n % m
 | 0,a,n,h=>by
  have:n = 0:=by simpa using h
  subst this
  rfl
 | f + 1,a,n,h=>by
  have ih:=qHs m f (a * a % m) (n / 2) (by rw [Nat.pow_succ] at h;omega)
  have hsq:(a * a % m) ^ (n / 2) % m = a ^ (2 * (n / 2)) % m:=by
   rw [← Nat.pow_mod,Nat.pow_mul,Nat.pow_two]
  rw [pmA]
  by_cases h0:n = 0
  ·rw [if_pos h0,h0]
   rfl
  ·rw [if_neg h0]
   by_cases h1:n % 2 = 1
   ·rw [if_pos h1,ih,hsq,Nat.mul_mod_mod,← Nat.pow_succ']
    congr 2
    omega
   ·rw [if_neg h1,ih,hsq]
    congr 2
    omega
theorem qP3 {n q k a:Nat} (hn:2≤n) (h64:n < 2 ^ 64) (hk:n - 1 = q * k) (hq:Pr q) (hqq:n < q * q) (h1:pmA 64 a (n - 1) n = 1) (h2:Nat.gcd (pmA 64 a k n + (n - 1)) n = 1):Pr n:=by
 have hk64:k < 2 ^ 64:=by
  have:k≤q * k:=Nat.le_mul_of_pos_left k (by have:=hq.1;omega)
  omega
 rw [qHs n 64 a (n - 1) (by omega)] at h1
 rw [qHs n 64 a k hk64] at h2
 exact qJ5 hn hk hq hqq h1 h2
theorem pr0:Pr 95189:=qUv (by decide) fun r hr hd=>by
 apply Classical.byContradiction
 intro h
 have hr2:=hr.1
 have hr309:r < 309:=by
  apply Classical.byContradiction
  intro h3
  have:309 * 309≤r * r:=Nat.mul_le_mul (by omega) (by omega)
  omega
 have hall:(List.range 309).all (fun d=>decide (d < 2) || decide (95189 % d ≠ 0)) = true:=by decide +kernel
 have:=List.all_eq_true.1 hall r (List.mem_range.2 hr309)
 rw [decide_eq_false (by omega),Bool.false_or,decide_eq_true_eq] at this
 exact this (Nat.mod_eq_zero_of_dvd hd)
theorem pr1:Pr 2835870689:=qP3 (q:=95189) (k:=29792) (a:=3) (by decide) (by decide) (by decide +kernel) pr0 (by decide +kernel) (by decide +kernel) (by decide +kernel)
theorem pr2:Pr 5671741379:=qP3 (q:=2835870689) (k:=2) (a:=2) (by decide) (by decide) (by decide +kernel) pr1 (by decide +kernel) (by decide +kernel) (by decide +kernel)
theorem pr3:Pr 288230376151711447:=qP3 (q:=5671741379) (k:=50818674) (a:=2) (by decide) (by decide) (by decide +kernel) pr2 (by decide +kernel) (by decide +kernel) (by decide +kernel)
theorem prQ:Pr 1152921504606845789:=qP3 (q:=288230376151711447) (k:=4) (a:=2) (by decide) (by decide) (by decide +kernel) pr3 (by decide +kernel) (by decide +kernel) (by decide +kernel)
theorem prP:Pr 2305843009213691579:=qP3 (q:=1152921504606845789) (k:=2) (a:=2) (by decide) (by decide) (by decide +kernel) prQ (by decide +kernel) (by decide +kernel) (by decide +kernel)
end Go.Nt
namespace Go.Lag
def ev:List Int→Int→Int
 | [],_=>0
 | a :: c,x=>a + x * ev c x
def pr (f:Int→Int):List Int→Int
 | []=>1
 | x :: l=>f x * pr f l
def sm (f:Int→Int):List Int→Int
 | []=>0
 | x :: l=>f x + sm f l
theorem qLv {f:Int→Int} {a b:List Int} (h:a.Perm b):pr f a = pr f b:=by
 induction h with
 | nil=>rfl
 | cons x _ ih=>simp only [pr,ih]
 | swap x y l=>simp only [pr];rw [← Int.mul_assoc,← Int.mul_assoc,Int.mul_comm (f x)]
 | trans _ _ h1 h2=>exact h1.trans h2
theorem qSm {f:Int→Int} {a b:List Int} (h:a.Perm b):sm f a = sm f b:=by
 induction h with
 | nil=>rfl
 | cons x _ ih=>simp only [sm,ih]
 | swap x y l=>simp only [sm];omega
 | trans _ _ h1 h2=>exact h1.trans h2
theorem qK1 (f g:Int→Int):∀ l:List Int,sm (fun x=>f x + g x) l = sm f l + sm g l
 | []=>rfl
 | x :: l=>by simp only [sm,qK1 f g l];omega
theorem qEw (c:Int) (f:Int→Int):∀ l:List Int,sm (fun x=>c * f x) l = c * sm f l
 | []=>by simp [sm]
 | x :: l=>by simp only [sm,qEw c f l,Int.mul_add]
theorem qCs {f g:Int→Int}:∀ {l:List Int},(∀ x ∈ l,f x = g x)→sm f l = sm g l
 | [],_=>rfl
 | x :: l,h=>by
  simp only [sm]
  rw [h x List.mem_cons_self,qCs fun y hy=>h y (List.mem_cons_of_mem _ hy)]
def Cg (M a b:Int):Prop:=M ∣ a - b
theorem Cg.refl {M a:Int}:Cg M a a:=⟨0,by simp⟩
theorem Cg.of_eq {M a b:Int} (h:a = b):Cg M a b:=h ▸ Cg.refl
theorem Cg.symm {M a b:Int} (h:Cg M a b):Cg M b a:=by
 obtain ⟨k,hk⟩:=h
 exact ⟨-k,by rw [Int.mul_neg];omega⟩
theorem Cg.trans {M a b c:Int} (h:Cg M a b) (h2:Cg M b c):Cg M a c:=by
 obtain ⟨k,hk⟩:=h
 obtain ⟨q,hq⟩:=h2
 exact ⟨k + q,by rw [Int.mul_add];omega⟩
theorem Cg.add {M a b c d:Int} (h:Cg M a b) (h2:Cg M c d):Cg M (a + c) (b + d):=by
 obtain ⟨k,hk⟩:=h
 obtain ⟨q,hq⟩:=h2
 exact ⟨k + q,by rw [Int.mul_add];omega⟩
theorem Cg.neg {M a b:Int} (h:Cg M a b):Cg M (-a) (-b):=by
 obtain ⟨k,hk⟩:=h
 exact ⟨-k,by rw [Int.mul_neg];omega⟩
theorem Cg.sub {M a b c d:Int} (h:Cg M a b) (h2:Cg M c d):Cg M (a - c) (b - d):=by
 rw [Int.sub_eq_add_neg,Int.sub_eq_add_neg]
 exact h.add h2.neg
theorem Cg.mul {M a b c d:Int} (h:Cg M a b) (h2:Cg M c d):Cg M (a * c) (b * d):=by
 obtain ⟨k,hk⟩:=h
 obtain ⟨q,hq⟩:=h2
 refine ⟨k * c + b * q,?_⟩
 have e1:a = b + M * k:=by omega
 have e2:c - d = M * q:=hq
 have:a * c - b * d = (a - b) * c + b * (c - d):=by rw [Int.sub_mul,Int.mul_sub];omega
 rw [this,hk,e2,Int.mul_add,Int.mul_assoc,Int.mul_left_comm b M q]
theorem Cg.mod {M a:Int}:Cg M (a % M) a:=⟨-(a / M),by have:=Int.mul_ediv_add_emod a M;rw [Int.mul_neg];omega⟩
theorem Cg.eq {M a b:Int} (h:Cg M a b):a % M = b % M:=by
 obtain ⟨k,hk⟩:=h
 have:a = b + M * k:=by omega
 rw [this,Int.add_mul_emod_self_left]
theorem Cg.of_mod {M a b:Int} (h:a % M = b % M):Cg M a b:=(Cg.mod.symm.trans (Cg.of_eq h)).trans Cg.mod
theorem qL4 {M a b:Int} (h:Cg M a b):∀ n:Nat,Cg M (a ^ n) (b ^ n)
 | 0=>.of_eq (by rw [Int.pow_zero,Int.pow_zero])
 | n + 1=>by
  rw [Int.pow_succ,Int.pow_succ]
  exact (qL4 h n).mul h
theorem qUq {M:Int} {f g:Int→Int}:∀ {l:List Int},(∀ x ∈ l,Cg M (f x) (g x))→Cg M (sm f l) (sm g l)
 | [],_=>.refl
 | x :: _,h=>(h x List.mem_cons_self).add (qUq fun y hy=>h y (List.mem_cons_of_mem _ hy))
def Un (M d:Int):Prop:=∃ u,Cg M (u * d) 1
theorem Un.one {M:Int}:Un M 1:=⟨1,.refl⟩
theorem Un.mul {M a b:Int} (h:Un M a) (h2:Un M b):Un M (a * b):=by
 obtain ⟨u,hu⟩:=h
 obtain ⟨v,hv⟩:=h2
 refine ⟨u * v,?_⟩
 have:u * v * (a * b) = (u * a) * (v * b):=by ac_rfl
 rw [this]
 exact hu.mul hv
theorem Un.cancel {M a b d:Int} (h:Un M d) (h2:Cg M (a * d) (b * d)):Cg M a b:=by
 obtain ⟨u,hu⟩:=h
 have e1:∀ z,Cg M (z * d * u) z:=fun z=>by
  have:z * d * u = z * (u * d):=by ac_rfl
  rw [this]
  have:=(Cg.refl (a:=z)).mul hu
  rwa [Int.mul_one] at this
 exact ((e1 a).symm.trans (h2.mul .refl)).trans (e1 b)
theorem qO4 {M:Int} {f:Int→Int}:∀ {l:List Int},(∀ x ∈ l,Un M (f x))→Un M (pr f l)
 | [],_=>.one
 | x :: _,h=>(h x List.mem_cons_self).mul (qO4 fun y hy=>h y (List.mem_cons_of_mem _ hy))
theorem qQ3 (a:Int):∀ c:List Int,c ≠ []→∃ g:List Int,g.length + 1 = c.length∧∀ x,ev c x = ev c a + (x - a) * ev g x
 | [],h=>absurd rfl h
 | [b],_=>⟨[],rfl,fun x=>by simp [ev]⟩
 | b :: b' :: c,_=>by
  obtain ⟨g,hg,hx⟩:=qQ3 a (b' :: c) (by simp)
  refine ⟨ev (b' :: c) a :: g,by simpa using hg,fun x=>?_⟩
  show b + x * ev (b' :: c) x = b + a * ev (b' :: c) a + (x - a) * (ev (b' :: c) a + x * ev g x)
  rw [hx x]
  generalize ev (b' :: c) a = A
  generalize ev g x = G
  have e1:x * ((x - a) * G) = (x - a) * (x * G):=by ac_rfl
  rw [Int.mul_add,Int.mul_add,e1,Int.sub_mul x a A]
  omega
def IsF (M:Int) (S:List Int) (x lam:Int):Prop:=Cg M (lam * pr (fun y=>y - x) (S.erase x)) (pr (fun y=>y) (S.erase x))
theorem qNo {S:List Int} {P:Int→Int→Prop} (h:∀ x ∈ S,∃ y,P x y):∃ f:Int→Int,∀ x ∈ S,P x (f x):=
 ⟨fun x=>Classical.epsilon fun y=>P x y,fun x hx=>Classical.epsilon_spec (h x hx)⟩
theorem qNf {M:Int} {S:List Int} {lam:Int→Int} {n:Nat} (hl:S.length = n + 2) (hn:S.Nodup) (hu:∀ x ∈ S,∀ y ∈ S,x ≠ y→Un M (y - x)) (hF:∀ x ∈ S,IsF M S x (lam x))
  (ih:∀ (S:List Int) (lam:Int→Int),S.length = n + 1→S.Nodup→(∀ x ∈ S,∀ y ∈ S,x ≠ y→Un M (y - x))→(∀ x ∈ S,IsF M S x (lam x))→∀ c:List Int,c.length≤n + 1→Cg M (sm (fun x=>lam x * ev c x) S) (ev c 0))
  {a:Int} (ha:a ∈ S) (g:List Int) (hg:g.length≤n + 1):Cg M (sm (fun x=>lam x * ((x - a) * ev g x)) S) (-a * ev g 0):=by
 have hp:=List.perm_cons_erase ha
 obtain ⟨S',hS'⟩:∃ S',S' = S.erase a:=⟨_,rfl⟩
 rw [← hS'] at hp
 have hn2:(a :: S').Nodup:=hp.nodup_iff.1 hn
 obtain ⟨haS',hnS'⟩:=List.nodup_cons.1 hn2
 have hlen:S'.length = n + 1:=by have:=hp.length_eq;rw [List.length_cons] at this;omega
 have hmem:∀ x ∈ S',x ∈ S:=fun x hx=>hp.mem_iff.2 (List.mem_cons_of_mem _ hx)
 have hu':∀ x ∈ S',∀ y ∈ S',x ≠ y→Un M (y - x):=fun x hx y hy=>hu x (hmem x hx) y (hmem y hy)
 have hub:∀ x ∈ S',Un M (pr (fun y=>y - x) (S'.erase x)):=fun x hx=>qO4 fun y hy=>by
  have hy':=List.mem_of_mem_erase hy
  refine hu' x hx y hy' ?_
  rintro rfl
  exact (List.Nodup.not_mem_erase hnS') hy
 obtain ⟨mu,hmu⟩:∃ mu:Int→Int,∀ x ∈ S',IsF M S' x (mu x):=qNo fun x hx=>by
  obtain ⟨u,hu⟩:=hub x hx
  refine ⟨u * pr (fun y=>y) (S'.erase x),?_⟩
  unfold IsF
  have e:u * pr (fun y=>y) (S'.erase x) * pr (fun y=>y - x) (S'.erase x) = (u * pr (fun y=>y - x) (S'.erase x)) * pr (fun y=>y) (S'.erase x):=by ac_rfl
  rw [e]
  have h2:=hu.mul (Cg.refl (M:=M) (a:=pr (fun y=>y) (S'.erase x)))
  rwa [Int.one_mul] at h2
 have hrel:∀ x ∈ S',Cg M (lam x * (x - a)) (-a * mu x):=by
  intro x hx
  have hxa:x ≠ a:=by rintro rfl;exact haS' hx
  have hpe:(S.erase x).Perm (a :: S'.erase x):=by
   have h1:(S.erase x).Perm ((a :: S').erase x):=hp.erase x
   rw [List.erase_cons_tail (by simpa using fun e=>hxa e.symm)] at h1
   exact h1
  have h1:=hF x (hmem x hx)
  unfold IsF at h1
  rw [qLv hpe,qLv hpe] at h1
  have h2:=hmu x hx
  unfold IsF at h2
  simp only [pr] at h1
  have h3:Cg M ((lam x * (a - x)) * pr (fun y=>y - x) (S'.erase x)) ((a * mu x) * pr (fun y=>y - x) (S'.erase x)):=by
   have e1:(lam x * (a - x)) * pr (fun y=>y - x) (S'.erase x) = lam x * ((a - x) * pr (fun y=>y - x) (S'.erase x)):=by ac_rfl
   have e2:(a * mu x) * pr (fun y=>y - x) (S'.erase x) = a * (mu x * pr (fun y=>y - x) (S'.erase x)):=by ac_rfl
   rw [e1,e2]
   exact h1.trans ((Cg.refl).mul h2.symm)
  have h4:=((hub x hx).cancel h3).neg
  have e1:lam x * (x - a) = -(lam x * (a - x)):=by rw [Int.mul_sub,Int.mul_sub];omega
  have e2:-a * mu x = -(a * mu x):=by rw [Int.neg_mul]
  rw [e1,e2]
  exact h4
 have h5:=ih S' mu hlen hnS' hu' hmu g hg
 rw [qSm hp]
 show Cg M (lam a * ((a - a) * ev g a) + sm (fun x=>lam x * ((x - a) * ev g x)) S') _
 rw [Int.sub_self,Int.zero_mul,Int.mul_zero,Int.zero_add]
 have h6:Cg M (sm (fun x=>lam x * ((x - a) * ev g x)) S') (sm (fun x=>-a * (mu x * ev g x)) S'):=qUq fun x hx=>by
  have e1:lam x * ((x - a) * ev g x) = lam x * (x - a) * ev g x:=by rw [Int.mul_assoc]
  have e2:-a * (mu x * ev g x) = -a * mu x * ev g x:=by rw [Int.mul_assoc]
  rw [e1,e2]
  exact (hrel x hx).mul .refl
 rw [qEw] at h6
 exact h6.trans (Cg.refl.mul h5)
theorem qZt {M:Int}:∀ (n:Nat) (S:List Int) (lam:Int→Int),S.length = n + 1→S.Nodup→(∀ x ∈ S,∀ y ∈ S,x ≠ y→Un M (y - x))→(∀ x ∈ S,IsF M S x (lam x))→∀ c:List Int,c.length≤n + 1→Cg M (sm (fun x=>lam x * ev c x) S) (ev c 0)
 | 0,S,lam,hl,_,_,hF,c,hc=>by
  obtain ⟨a,rfl⟩:∃ a,S = [a]:=List.length_eq_one_iff.1 hl
  have h1:=hF a (by simp)
  unfold IsF at h1
  rw [List.erase_cons_head] at h1
  simp only [pr,Int.mul_one] at h1
  have hev:∃ b,∀ x,ev c x = b:=by
   match c,hc with
   | [],_=>exact ⟨0,fun _=>rfl⟩
   | [b],_=>exact ⟨b,fun x=>by simp [ev]⟩
  obtain ⟨b,hb⟩:=hev
  simp only [sm,hb]
  have:=h1.mul (Cg.refl (M:=M) (a:=b))
  rw [Int.one_mul] at this
  rwa [Int.add_zero]
 | n + 1,S,lam,hl,hn,hu,hF,c,hc=>by
  have hst:=fun {a:Int} (ha:a ∈ S) (g:List Int) (hg:g.length≤n + 1)=>qNf hl hn hu hF (qZt n) ha g hg
  obtain ⟨a,b,S2,rfl⟩:∃ a b S2,S = a :: b :: S2:=by
   match S,hl with
   | a :: b :: S2,_=>exact ⟨a,b,S2,rfl⟩
  have ha:a ∈ a :: b :: S2:=by simp
  have hb:b ∈ a :: b :: S2:=by simp
  have hab:a ≠ b:=by
   rintro rfl
   simp at hn
  have hone:Cg M (sm lam (a :: b :: S2)) 1:=by
   have h1:=hst ha [1] (by simp)
   have h2:=hst hb [1] (by simp)
   have e:∀ z:Int,sm (fun x=>lam x * ((x - z) * ev [1] x)) (a :: b :: S2) = sm (fun x=>lam x * x) (a :: b :: S2) + -z * sm lam (a :: b :: S2):=fun z=>by
    rw [← qEw,← qK1]
    refine qCs fun x _=>?_
    show lam x * ((x - z) * (1 + x * 0)) = lam x * x + -z * lam x
    rw [Int.mul_zero,Int.add_zero,Int.mul_one,Int.mul_sub,Int.neg_mul,Int.mul_comm z]
    omega
   rw [e] at h1 h2
   have e0:ev [1] 0 = 1:=rfl
   rw [e0,Int.mul_one] at h1 h2
   have h3:=h1.sub h2
   generalize sm (fun x=>lam x * x) (a :: b :: S2) = X at h3
   generalize sm lam (a :: b :: S2) = L at h3 ⊢
   have h4:Cg M (L * (b - a)) (1 * (b - a)):=by
    have e1:L * (b - a) = X + -a * L - (X + -b * L):=by
     rw [Int.mul_sub,Int.neg_mul,Int.neg_mul,Int.mul_comm L b,Int.mul_comm L a]
     omega
    have e2:1 * (b - a) = -a - -b:=by omega
    rw [e1,e2]
    exact h3
   exact (hu a ha b hb hab).cancel h4
  by_cases hc0:c = []
  ·subst hc0
   have:sm (fun x=>lam x * ev [] x) (a :: b :: S2) = 0:=by
    have:=qEw 0 lam (a :: b :: S2)
    rw [Int.zero_mul] at this
    rw [← this]
    refine qCs fun x _=>?_
    show lam x * 0 = 0 * lam x
    rw [Int.mul_zero,Int.zero_mul]
   rw [this]
   exact .refl
  ·obtain ⟨g,hg,hx⟩:=qQ3 a c hc0
   have h1:=hst ha g (by omega)
   have e:sm (fun x=>lam x * ev c x) (a :: b :: S2) = ev c a * sm lam (a :: b :: S2) + sm (fun x=>lam x * ((x - a) * ev g x)) (a :: b :: S2):=by
    rw [← qEw,← qK1]
    refine qCs fun x _=>?_
    rw [hx x,Int.mul_add,Int.mul_comm (lam x)]
   rw [e,hx 0]
   have h2:=((Cg.refl (M:=M) (a:=ev c a)).mul hone).add h1
   rw [Int.mul_one] at h2
   have e3:(0 - a) * ev g 0 = -a * ev g 0:=by rw [Int.zero_sub]
   rw [e3]
   exact h2
end Go.Lag
namespace Go.Grp
open Go.Nt Go.Lag
def gP:Nat:=2305843009213691579
def gQ:Nat:=1152921504606845789
theorem qUz:gP = 2 * gQ + 1:=by decide
theorem prQ':Pr gQ:=prQ
theorem jBm:Pr gP:=prP
def Mb (a:Nat):Prop:=1≤a∧a < gP∧a ^ gQ % gP = 1
theorem gP2:2≤gP:=by decide
theorem gQ2:2≤gQ:=by decide
theorem qUy {a:Nat} (h:a ^ gQ % gP = 1):Mb (a % gP):=by
 have h1:(a % gP) ^ gQ % gP = 1:=by rw [← Nat.pow_mod];exact h
 refine ⟨?_,Nat.mod_lt _ (by have:=gP2;omega),h1⟩
 apply Classical.byContradiction
 intro h0
 have h0:a % gP = 0:=by omega
 rw [h0,Nat.zero_pow (by have:=gQ2;omega)] at h1
 have:=gP2
 rw [Nat.zero_mod] at h1
 omega
theorem qCd {a:Nat} (ha:Mb a) (n:Nat):Mb (a ^ n % gP):=qUy (by
 rw [← Nat.pow_mul,Nat.mul_comm,Nat.pow_mul,Nat.pow_mod,ha.2.2,Nat.one_pow]
 decide)
theorem qDl:Mb 4:=⟨by decide,by decide,by
 rw [← qHs gP 64 4 gQ (by decide)]
 decide +kernel⟩
theorem qZs {x:Nat} (h1:1≤x) (h2:x < gP):Mb (x * x % gP):=qUy (by
 rw [← Nat.pow_two,← Nat.pow_mul]
 have h:=qI7 jBm (a:=x) (fun hd=>by
  have:=Nat.le_of_dvd (by omega) hd
  omega)
 rw [qUz,Nat.add_sub_cancel] at h
 rw [qUz]
 exact h)
theorem qMa {a:Nat} (ha:Mb a) (n:Nat):a ^ (n % gQ) % gP = a ^ n % gP:=by
 have h1:a ^ n = a ^ (gQ * (n / gQ)) * a ^ (n % gQ):=by rw [← Nat.pow_add,Nat.div_add_mod]
 rw [h1,Nat.mul_mod,qE3 gP2 ha.2.2,Nat.one_mul,Nat.mod_mod]
theorem qFl {a:Nat} (ha:Mb a) {m n:Nat} (h:m % gQ = n % gQ):a ^ m % gP = a ^ n % gP:=by rw [← qMa ha m,h,qMa ha n]
theorem qLm {g x k c:Nat} (hg:Mb g) (hc:c≤gQ):(g ^ ((k + c * x % gQ) % gQ) % gP) * ((g ^ x % gP) ^ (gQ - c) % gP) % gP = g ^ k % gP:=by
 have e1:g ^ ((k + c * x % gQ) % gQ) % gP = g ^ (k + c * x) % gP:=qFl hg (by rw [Nat.mod_mod,Nat.add_mod_mod])
 rw [e1,← Nat.pow_mod,← Nat.pow_mul,← Nat.mul_mod,← Nat.pow_add]
 refine qFl hg ?_
 have e2:k + c * x + x * (gQ - c) = k + gQ * x:=by
  rw [Nat.mul_sub,Nat.mul_comm c x,Nat.mul_comm gQ x]
  have:=Nat.mul_le_mul_left x hc
  omega
 rw [e2,Nat.add_mul_mod_self_left]
def ltF (l:List (Nat × Nat)) (acc:Nat):Nat:=l.foldl (fun acc p=>acc * (p.1 ^ p.2 % gP) % gP) acc
theorem qI0 {b:Nat}:∀ (l:List (Nat × Nat)) (e:Nat),ltF (l.map fun p=>(b ^ p.1 % gP,p.2)) (b ^ e % gP) % gP = b ^ (e + (l.map fun p=>p.1 * p.2).sum) % gP
 | [],e=>by simp [ltF]
 | p :: l,e=>by
  have ih:=qI0 (b:=b) l (e + p.1 * p.2)
  have e1:b ^ e % gP * ((b ^ p.1 % gP) ^ p.2 % gP) % gP = b ^ (e + p.1 * p.2) % gP:=by
   rw [← Nat.pow_mod,← Nat.pow_mul,← Nat.mul_mod,← Nat.pow_add]
  show ltF (l.map fun p=>(b ^ p.1 % gP,p.2)) (b ^ e % gP * ((b ^ p.1 % gP) ^ p.2 % gP) % gP) % gP = _
  rw [e1,ih,List.map_cons,List.sum_cons,Nat.add_assoc]
end Go.Grp
namespace Go.Sp
open Go.Nt Go.Lag Go.Grp
def vl (c:List Nat) (x:Nat):Nat:=c.foldr (fun a r=>(r * x % gQ + a) % gQ) 0
def toI (c:List Nat):List Int:=c.map fun (n:Nat)=>(n:Int)
theorem cgN {a b:Nat} (h:a % gQ = b % gQ):Cg (gQ:Int) a b:=Cg.of_mod (by rw [← Int.natCast_emod,← Int.natCast_emod,h])
theorem qPg {a b:Nat} (h:Cg (gQ:Int) a b):a % gQ = b % gQ:=by
 have:=h.eq
 rw [← Int.natCast_emod,← Int.natCast_emod] at this
 exact Int.ofNat.inj this
theorem qJd (a:Nat):Cg (gQ:Int) ((a % gQ:Nat):Int) a:=cgN (Nat.mod_mod _ _)
theorem qBu {c:List Nat} {x:Nat}:vl c x < gQ:=by
 have h0:0 < gQ:=by decide
 cases c with
 | nil=>exact h0
 | cons a c=>exact Nat.mod_lt _ h0
theorem qLf:∀ (c:List Nat) (x:Nat),Cg (gQ:Int) (vl c x:Int) (ev (toI c) (x:Int))
 | [],x=>.refl
 | a :: c,x=>by
  have ih:=qLf c x
  show Cg (gQ:Int) (((vl c x * x % gQ + a) % gQ:Nat):Int) ((a:Int) + (x:Int) * ev (toI c) (x:Int))
  refine (qJd _).trans ?_
  rw [Int.natCast_add,Int.add_comm]
  refine Cg.refl.add ((qJd _).trans ?_)
  rw [Int.natCast_mul,Int.mul_comm]
  exact Cg.refl.mul ih
theorem qLe {c:List Nat} {a:Nat} (h:a < gQ):vl (a :: c) 0 = a:=by
 show (vl c 0 * 0 % gQ + a) % gQ = a
 rw [Nat.mul_zero,Nat.zero_mod,Nat.zero_add,Nat.mod_eq_of_lt h]
def atG (x:Nat):List Nat→Nat→Nat→Nat
 | [],acc,_=>acc
 | c :: cs,acc,p=>atG x cs (acc * (c ^ p % gP) % gP) (p * x % gQ)
def atP (cs:List Nat) (x:Nat):Nat:=atG x cs 1 1
def pws (b:Nat) (c:List Nat):List Nat:=c.map fun e=>b ^ e % gP
def atS (x:Nat):List Nat→Nat→Nat
 | [],_=>0
 | c :: cs,p=>c * p + atS x cs (p * x % gQ)
theorem qRx (b x:Nat):∀ (c:List Nat) (e p:Nat),atG x (pws b c) (b ^ e % gP) p = b ^ (e + atS x c p) % gP
 | [],e,p=>by simp [pws,atG,atS]
 | a :: c,e,p=>by
  have ih:=qRx b x c (e + a * p) (p * x % gQ)
  show atG x (pws b c) (b ^ e % gP * ((b ^ a % gP) ^ p % gP) % gP) (p * x % gQ) = b ^ (e + (a * p + atS x c (p * x % gQ))) % gP
  have e1:b ^ e % gP * ((b ^ a % gP) ^ p % gP) % gP = b ^ (e + a * p) % gP:=by
   rw [← Nat.pow_mod,← Nat.pow_mul,← Nat.mul_mod,← Nat.pow_add]
  rw [e1,ih,Nat.add_assoc]
theorem qRu (x:Nat):∀ (c:List Nat) (p:Nat),Cg (gQ:Int) (atS x c p:Int) ((p:Int) * ev (toI c) (x:Int))
 | [],p=>.of_eq (by show ((0:Nat):Int) = (p:Int) * 0;rw [Int.mul_zero];rfl)
 | a :: c,p=>by
  have ih:=qRu x c (p * x % gQ)
  show Cg (gQ:Int) ((a * p + atS x c (p * x % gQ):Nat):Int) ((p:Int) * ((a:Int) + (x:Int) * ev (toI c) (x:Int)))
  rw [Int.natCast_add,Int.natCast_mul,Int.mul_add,Int.mul_comm (a:Int),← Int.mul_assoc]
  refine Cg.refl.add (ih.trans (Cg.mul ?_ .refl))
  rw [← Int.natCast_mul]
  exact qJd _
theorem qRt {b:Nat} (hb:Mb b) (c:List Nat) (x:Nat):atP (pws b c) x = b ^ vl c x % gP:=by
 have h:=qRx b x c 0 1
 have h1:b ^ 0 % gP = 1:=by rw [Nat.pow_zero];decide
 rw [h1,Nat.zero_add] at h
 refine h.trans (qFl hb (qPg ?_))
 have:=qRu x c 1
 rw [show ((1:Nat):Int) = 1 from rfl,Int.one_mul] at this
 exact this.trans (qLf c x).symm
structure Pts (S:List Nat):Prop where
 nd:S.Nodup
 bd:∀ x ∈ S,1≤x∧x < gQ
def prN:List Nat→Nat
 | []=>1
 | x :: l=>x * prN l % gQ
def fac (S:List Nat) (x:Nat):Nat:=prN (S.erase x) * prN ((S.erase x).map fun y=>(y + (gQ - x)) % gQ) ^ (gQ - 2) % gQ
theorem qQ0 {S:List Nat} {x:Nat}:fac S x < gQ:=Nat.mod_lt _ (by decide)
theorem qKk {f:Int→Int} {g:Nat→Nat}:∀ {l:List Nat},(∀ y ∈ l,Cg (gQ:Int) (g y:Int) (f (y:Int)))→Cg (gQ:Int) (prN (l.map g):Int) (pr f (toI l))
 | [],_=>.refl
 | x :: l,h=>by
  show Cg (gQ:Int) ((g x * prN (l.map g) % gQ:Nat):Int) (f (x:Int) * pr f (toI l))
  refine (qJd _).trans ?_
  rw [Int.natCast_mul]
  exact (h x List.mem_cons_self).mul (qKk fun y hy=>h y (List.mem_cons_of_mem _ hy))
theorem qEe {a b:Nat} (h:(a:Int) = (b:Int)):a = b:=Int.ofNat.inj h
theorem qA1 (x:Nat):∀ l:List Nat,(toI l).erase (x:Int) = toI (l.erase x)
 | []=>rfl
 | y :: l=>by
  by_cases h:y = x
  ·subst h
   show ((y:Int) :: toI l).erase (y:Int) = _
   rw [List.erase_cons_head,List.erase_cons_head]
  ·have h2:¬ ((y:Int) = (x:Int)):=fun e=>h (qEe e)
   show ((y:Int) :: toI l).erase (x:Int) = _
   rw [List.erase_cons_tail (by simpa using h2),List.erase_cons_tail (by simpa using h),qA1 x l]
   rfl
theorem qMw {l:List Nat} (h:l.Nodup):(toI l).Nodup:=by
 unfold toI List.Nodup
 rw [List.pairwise_map]
 exact h.imp fun hab e=>hab (qEe e)
theorem qZa {d:Int} (h:¬ (gQ:Int) ∣ d):∃ z:Nat,Cg (gQ:Int) d z∧Cg (gQ:Int) (((z ^ (gQ - 2):Nat):Int) * d) 1:=by
 have h0:0 < gQ:=by decide
 obtain ⟨z,hz⟩:∃ z:Nat,d % (gQ:Int) = z:=⟨(d % (gQ:Int)).toNat,by have:=Int.emod_nonneg d (show (gQ:Int) ≠ 0 by omega);omega⟩
 have hc:Cg (gQ:Int) d z:=by rw [← hz];exact Cg.mod.symm
 refine ⟨z,hc,(Cg.refl.mul hc).trans ?_⟩
 have hnd:¬ gQ ∣ z:=by
  intro hd
  refine h ?_
  have h1:(gQ:Int) ∣ (z:Int):=Int.ofNat_dvd.2 hd
  obtain ⟨k,hk⟩:=hc
  obtain ⟨q,hq⟩:=h1
  exact ⟨k + q,by rw [Int.mul_add];omega⟩
 have hf:=qI7 prQ' (a:=z) hnd
 rw [← Int.natCast_mul,← Nat.pow_succ,show (gQ - 2).succ = gQ - 1 from by decide]
 exact cgN (hf.trans (by decide))
theorem qLh {S:List Nat} (h:Pts S):∀ x ∈ toI S,∀ y ∈ toI S,x ≠ y→Un (gQ:Int) (y - x):=by
 intro x hx y hy hxy
 obtain ⟨a,ha,rfl⟩:=List.mem_map.1 hx
 obtain ⟨b,hb,rfl⟩:=List.mem_map.1 hy
 have h1:=h.bd a ha
 have h2:=h.bd b hb
 have hnd:¬ (gQ:Int) ∣ (b:Int) - (a:Int):=by
  rintro ⟨k,hk⟩
  have hk2:k = 0:=by
   have hq:(gQ:Int) = 1152921504606845789:=rfl
   rw [hq] at hk
   have:(gQ:Nat) = 1152921504606845789:=rfl
   omega
  rw [hk2,Int.mul_zero] at hk
  exact hxy (by omega)
 obtain ⟨z,_,h3⟩:=qZa hnd
 exact ⟨_,h3⟩
theorem qFz {S:List Nat} (h:Pts S) {x:Nat} (hx:x ∈ S):Un (gQ:Int) (pr (fun y=>y - (x:Int)) (toI (S.erase x))):=by
 refine qO4 fun y hy=>?_
 have hx':(x:Int) ∈ toI S:=List.mem_map.2 ⟨x,hx,rfl⟩
 obtain ⟨b,hb,rfl⟩:=List.mem_map.1 hy
 have hb':(b:Int) ∈ toI S:=List.mem_map.2 ⟨b,List.mem_of_mem_erase hb,rfl⟩
 refine qLh h _ hx' _ hb' ?_
 intro e
 have e:=qEe e
 subst e
 exact List.Nodup.not_mem_erase h.nd hb
theorem qVt {x y:Nat} (hx:x < gQ):Cg (gQ:Int) (((y + (gQ - x)) % gQ:Nat):Int) ((y:Int) - (x:Int)):=by
 refine (qJd _).trans ⟨1,?_⟩
 omega
theorem qQ1 {S:List Nat} (h:Pts S) {x:Nat} (hx:x ∈ S):IsF (gQ:Int) (toI S) (x:Int) (fac S x:Int):=by
 have hxb:=(h.bd x hx).2
 have hA:Cg (gQ:Int) (prN (S.erase x):Int) (pr (fun y=>y) (toI (S.erase x))):=by
  have:=qKk (f:=fun y=>y) (g:=fun y=>y) (l:=S.erase x) (fun y _=>.refl)
  rwa [List.map_id'] at this
 have hB:Cg (gQ:Int) (prN ((S.erase x).map fun y=>(y + (gQ - x)) % gQ):Int) (pr (fun y=>y - (x:Int)) (toI (S.erase x))):=qKk fun y _=>qVt hxb
 have hU:=qFz h hx
 unfold IsF
 rw [qA1]
 unfold fac
 generalize prN (S.erase x) = A at *
 generalize prN ((S.erase x).map fun y=>(y + (gQ - x)) % gQ) = B at *
 generalize pr (fun y=>y - (x:Int)) (toI (S.erase x)) = D at *
 have hnd:¬ gQ ∣ B:=by
  intro hd
  obtain ⟨u,hu⟩:=hU
  have h1:Cg (gQ:Int) (u * (B:Int)) 1:=(Cg.refl.mul hB).trans hu
  obtain ⟨q,hq⟩:=hd
  obtain ⟨k,hk⟩:=h1
  have e:u * ((B:Nat):Int) = (gQ:Int) * (u * (q:Int)):=by rw [hq,Int.natCast_mul];ac_rfl
  rw [e] at hk
  have h2:(gQ:Int) * (u * (q:Int) - k) = 1:=by rw [Int.mul_sub];omega
  have h3:(gQ:Int) ∣ 1:=⟨_,h2.symm⟩
  have:=Int.le_of_dvd (by decide) h3
  exact absurd this (by decide)
 have hf:=qI7 prQ' (a:=B) hnd
 have h1:Cg (gQ:Int) (((B ^ (gQ - 2):Nat):Int) * (B:Int)) 1:=by
  rw [← Int.natCast_mul,← Nat.pow_succ,show (gQ - 2).succ = gQ - 1 from by decide]
  exact cgN (hf.trans (by decide))
 refine ((qJd _).mul hB.symm).trans (Cg.trans ?_ hA)
 rw [Int.natCast_mul,Int.mul_assoc]
 have:=(Cg.refl (M:=(gQ:Int)) (a:=(A:Int))).mul h1
 rwa [Int.mul_one] at this
theorem qJj {S:List Nat} (h:Pts S) {x z:Nat} (hx:x ∈ S) (hz:z < gQ) (h2:IsF (gQ:Int) (toI S) (x:Int) (z:Int)):z = fac S x:=by
 have h1:=qQ1 h hx
 unfold IsF at h1 h2
 have hU:=qFz h hx
 rw [qA1] at h1 h2
 have h3:=qPg (hU.cancel (h2.trans h1.symm))
 rwa [Nat.mod_eq_of_lt hz,Nat.mod_eq_of_lt qQ0] at h3
def qGe (l:List (Nat × Nat)) (acc:Nat):Nat:=l.foldl (fun a p=>(a + p.1 * p.2 % gQ) % gQ) acc
theorem qEn:∀ (l:List (Nat × Nat)) {acc:Nat},acc < gQ→qGe l acc < gQ
 | [],_,h=>h
 | p :: l,_,_=>qEn l (Nat.mod_lt _ (by decide))
theorem qIg:∀ (l:List (Nat × Nat)) (acc:Nat),qGe l acc % gQ = (acc + (l.map fun p=>p.1 * p.2).sum) % gQ
 | [],acc=>by simp [qGe]
 | p :: l,acc=>by
  show qGe l ((acc + p.1 * p.2 % gQ) % gQ) % gQ = _
  rw [qIg l,List.map_cons,List.sum_cons,Nat.mod_add_mod,Nat.add_right_comm,Nat.add_mod_mod]
  congr 1
  omega
def cmb (S ns:List Nat):Nat:=qGe (ns.zip (S.map (fac S))) 0
def lft (S ns:List Nat):Nat:=ltF (ns.zip (S.map (fac S))) 1
theorem qI1:∀ (l:List (Nat × Nat)) {acc:Nat},acc < gP→ltF l acc < gP
 | [],_,h=>h
 | p :: l,_,_=>qI1 l (Nat.mod_lt _ (by decide))
theorem qWg {S ns:List Nat}:lft S ns < gP:=qI1 _ (by decide)
theorem qTq (S ns:List Nat):lft S ns % gP = lft S ns:=Nat.mod_eq_of_lt qWg
theorem qRg {S ns:List Nat}:cmb S ns < gQ:=qEn _ (by decide)
theorem qEm (S ns:List Nat):cmb S ns = (((ns.zip (S.map (fac S))).map fun p=>p.1 * p.2).sum) % gQ:=by
 have h:=qIg (ns.zip (S.map (fac S))) 0
 rw [Nat.zero_add] at h
 rw [← h]
 exact (Nat.mod_eq_of_lt qRg).symm
theorem qTp {b:Nat} (hb:Mb b) (S ns:List Nat):lft S (pws b ns) = b ^ cmb S ns % gP:=by
 have h:=qI0 (b:=b) (ns.zip (S.map (fac S))) 0
 rw [Nat.pow_zero,Nat.zero_add,show 1 % gP = 1 from by decide] at h
 have e:((ns.zip (S.map (fac S))).map fun p=>(b ^ p.1 % gP,p.2)) = (pws b ns).zip (S.map (fac S)):=by
  unfold pws
  rw [List.zip_map_left]
  rfl
 rw [e] at h
 have h2:lft S (pws b ns) % gP = _:=h
 rw [qTq] at h2
 rw [h2]
 refine qFl hb ?_
 rw [qEm,Nat.mod_mod]
theorem qVw (S:List Nat) (f g:Nat→Nat):((((S.map f).zip (S.map g)).map fun p=>p.1 * p.2).sum:Nat) = (S.map fun x=>f x * g x).sum:=by
 rw [List.zip_map',List.map_map]
 rfl
theorem qO9 {f:Nat→Nat} {F:Int→Int}:∀ {S:List Nat},(∀ x ∈ S,Cg (gQ:Int) (f x:Int) (F (x:Int)))→Cg (gQ:Int) ((S.map f).sum:Int) (sm F (toI S))
 | [],_=>.refl
 | x :: S,h=>by
  rw [List.map_cons,List.sum_cons,Int.natCast_add]
  exact (h x List.mem_cons_self).add (qO9 fun y hy=>h y (List.mem_cons_of_mem _ hy))
def qZx (S:List Nat) (z:Int):Int:=(fac S z.toNat:Int)
theorem qPw {S:List Nat} (h:Pts S) {c:List Nat} (h0:S ≠ []) (hl:c.length≤S.length):cmb S (S.map (vl c)) = vl c 0:=by
 rw [qEm,qVw]
 have h1:Cg (gQ:Int) ((S.map fun x=>vl c x * fac S x).sum:Int) (sm (fun z=>qZx S z * ev (toI c) z) (toI S)):=qO9 fun x _=>by
  rw [Int.natCast_mul,Int.mul_comm]
  exact Cg.refl.mul (qLf c x)
 obtain ⟨n,hn⟩:∃ n,S.length = n + 1:=⟨S.length - 1,by have:=List.length_pos_iff.2 h0;omega⟩
 have h2:=qZt n (toI S) (qZx S) (by unfold toI;rw [List.length_map];exact hn) (qMw h.nd) (qLh h) (fun z hz=>by
  obtain ⟨x,hx,rfl⟩:=List.mem_map.1 hz
  exact qQ1 h hx) (toI c) (by unfold toI;rw [List.length_map];omega)
 have h3:=qLf c 0
 have h4:=qPg ((h1.trans h2).trans h3.symm)
 rwa [Nat.mod_eq_of_lt (qBu (c:=c) (x:=0))] at h4
def nxt (S:List Nat) (ps:List (List Nat)) (j:Nat):Nat:=cmb S (ps.map fun p=>p.getD j 0)
theorem qDy {α:Type} (f g:α→Nat):∀ l:List α,(l.map fun x=>f x + g x).sum = (l.map f).sum + (l.map g).sum
 | []=>rfl
 | x :: l=>by simp only [List.map_cons,List.sum_cons,qDy f g l];omega
theorem qDx {α:Type} (c:Nat) (f:α→Nat):∀ l:List α,(l.map fun x=>c * f x).sum = c * (l.map f).sum
 | []=>rfl
 | x :: l=>by simp only [List.map_cons,List.sum_cons,qDx c f l,Nat.mul_add]
theorem qIs {α:Type} {f g:α→Nat}:∀ {l:List α},(∀ x ∈ l,f x % gQ = g x % gQ)→(l.map f).sum % gQ = (l.map g).sum % gQ
 | [],_=>rfl
 | x :: l,h=>by
  rw [List.map_cons,List.map_cons,List.sum_cons,List.sum_cons,Nat.add_mod,h x List.mem_cons_self,qIs fun y hy=>h y (List.mem_cons_of_mem _ hy),← Nat.add_mod]
theorem qWa (z:List (List Nat × Nat)) (x:Nat):∀ (m:Nat),(∀ p ∈ z,p.1.length = m) →
  vl ((List.range m).map fun j=>((z.map fun p=>p.1.getD j 0 * p.2).sum) % gQ) x = ((z.map fun p=>vl p.1 x * p.2).sum) % gQ:=by
 intro m
 induction m generalizing z with
 | zero=>
  intro h
  show 0 = _
  have:(z.map fun p=>vl p.1 x * p.2).sum = 0:=by
   have e:(z.map fun p=>vl p.1 x * p.2) = z.map fun _=>0:=List.map_congr_left fun p hp=>by
    have:=List.eq_nil_of_length_eq_zero (h p hp)
    rw [this]
    show 0 * p.2 = 0
    rw [Nat.zero_mul]
   rw [e]
   clear e h
   induction z with
   | nil=>rfl
   | cons _ _ ih=>simpa using ih
  rw [this]
  rfl
 | succ m ih=>
  intro h
  have ht:=ih (z.map fun p=>(p.1.tail,p.2)) (fun q hq=>by
   obtain ⟨p,hp,rfl⟩:=List.mem_map.1 hq
   show p.1.tail.length = m
   rw [List.length_tail,h p hp]
   rfl)
  rw [List.range_succ_eq_map,List.map_cons,List.map_map]
  have e1:((List.range m).map ((fun j=>((z.map fun p=>p.1.getD j 0 * p.2).sum) % gQ) ∘ Nat.succ)) = (List.range m).map fun j=>((((z.map fun p=>(p.1.tail,p.2))).map fun p=>p.1.getD j 0 * p.2).sum) % gQ:=List.map_congr_left fun j _=>by
   show ((z.map fun p=>p.1.getD (j + 1) 0 * p.2).sum) % gQ = _
   rw [List.map_map]
   congr 2
   refine List.map_congr_left fun p _=>?_
   show p.1.getD (j + 1) 0 * p.2 = p.1.tail.getD j 0 * p.2
   congr 1
   cases p.1<;>rfl
  rw [e1]
  show (vl _ x * x % gQ + _) % gQ = _
  rw [ht,List.map_map]
  have e2:∀ p ∈ z,(vl p.1 x * p.2) % gQ = (x * (vl p.1.tail x * p.2) + p.1.getD 0 0 * p.2) % gQ:=fun p hp=>by
   cases hp1:p.1 with
   | nil=>have:=h p hp;rw [hp1] at this;cases this
   | cons a c=>
    show ((vl c x * x % gQ + a) % gQ * p.2) % gQ = (x * (vl c x * p.2) + a * p.2) % gQ
    rw [Nat.mod_mul_mod,Nat.add_mul,Nat.add_mod,Nat.mod_mul_mod,← Nat.add_mod]
    congr 2
    ac_rfl
  rw [qIs e2,qDy,qDx]
  generalize (z.map fun p=>p.1.getD 0 0 * p.2).sum = A
  have e3:(z.map fun p=>vl p.1.tail x * p.2).sum = (z.map ((fun p=>vl p.1 x * p.2) ∘ fun p=>(p.1.tail,p.2))).sum:=rfl
  rw [e3]
  generalize (z.map ((fun p=>vl p.1 x * p.2) ∘ fun p=>(p.1.tail,p.2))).sum = B
  rw [Nat.add_mod_mod,Nat.mod_mul_mod,Nat.mod_add_mod,Nat.mul_comm]
theorem qIn (f:List Nat→Nat) (ps:List (List Nat)) (l:List Nat):(((ps.map f).zip l).map fun p=>p.1 * p.2) = (ps.zip l).map fun p=>f p.1 * p.2:=by
 rw [List.zip_map_left,List.map_map]
 rfl
theorem qTh {S:List Nat} {ps:List (List Nat)} {m:Nat} (hm:∀ p ∈ ps,p.length = m) (x:Nat):vl ((List.range m).map (nxt S ps)) x = cmb S (ps.map fun p=>vl p x):=by
 have h:=qWa (ps.zip (S.map (fac S))) x m (fun p hp=>hm p.1 (List.of_mem_zip hp).1)
 rw [qEm,qIn (fun p=>vl p x),← h]
 congr 1
 refine List.map_congr_left fun j _=>?_
 show nxt S ps j = _
 unfold nxt
 rw [qEm,qIn (fun p=>p.getD j 0)]
theorem qNc {S:List Nat} (h:Pts S) (h0:S ≠ []) {c:List Nat} (hl:c.length≤S.length) {ps:List (List Nat)} (hps:(ps.map fun p=>p.getD 0 0) = S.map (vl c)):nxt S ps 0 = vl c 0:=by
 unfold nxt
 rw [hps]
 exact qPw h h0 hl
end Go.Sp
namespace Go.Sp
open Go.Nt Go.Lag Go.Grp
theorem qF7 (f:Int→Int) (x:Int):∀ l:List Int,pr f (l ++ [x]) = pr f l * f x
 | []=>by simp [pr]
 | y :: l=>by
  show f y * pr f (l ++ [x]) = f y * pr f l * f x
  rw [qF7 f x l,Int.mul_assoc]
def sk (S:List Nat) (i j:Nat):List Nat:=(S.take j).eraseIdx i
theorem qLl (S:List Nat) (i:Nat):sk S i 0 = []:=by simp [sk]
theorem qUr {S:List Nat} {i:Nat} (h:i < S.length):sk S i (i + 1) = sk S i i:=by
 unfold sk
 have e:(S.take i).length = i:=by rw [List.length_take];omega
 rw [List.take_succ_eq_append_getElem h,List.eraseIdx_append_of_length_le (by omega),e,Nat.sub_self,List.eraseIdx_cons_zero,List.append_nil,List.eraseIdx_of_length_le (by omega)]
theorem qOd {S:List Nat} {i j:Nat} (hj:j < S.length) (h:j ≠ i):sk S i (j + 1) = sk S i j ++ [S[j]]:=by
 unfold sk
 have e:(S.take j).length = j:=by rw [List.length_take];omega
 rw [List.take_succ_eq_append_getElem hj]
 by_cases hlt:i < j
 ·rw [List.eraseIdx_append_of_lt_length (by omega)]
 ·rw [List.eraseIdx_append_of_length_le (by omega),e,List.eraseIdx_of_length_le (l:=S.take j) (by omega),List.eraseIdx_of_length_le (by simp;omega)]
theorem qBd:∀ {S:List Nat} (_:S.Nodup) {i:Nat} (h:i < S.length),S.eraseIdx i = S.erase S[i]
 | a :: S,hn,0,_=>by rw [List.eraseIdx_cons_zero,List.getElem_cons_zero,List.erase_cons_head]
 | a :: S,hn,i + 1,h=>by
  obtain ⟨h1,h2⟩:=List.nodup_cons.1 hn
  have h':i < S.length:=by simpa using h
  have hne:a ≠ S[i]:=fun e=>h1 (e ▸ List.getElem_mem h')
  rw [List.eraseIdx_cons_succ,List.getElem_cons_succ,List.erase_cons_tail (by simpa using hne),qBd h2 h']
theorem qK2 {S:List Nat} (hn:S.Nodup) {i:Nat} (h:i < S.length):sk S i S.length = S.erase S[i]:=by
 unfold sk
 rw [List.take_length,qBd hn h]
theorem qHe (a b:List Nat):toI (a ++ b) = toI a ++ toI b:=by simp [toI]
structure FacI (S:List Nat) (i x j a b:Nat):Prop where
 ha:Cg (gQ:Int) (a:Int) (pr (fun y=>y) (toI (sk S i j)))
 hb:Cg (gQ:Int) (b:Int) (pr (fun y=>y - (x:Int)) (toI (sk S i j)))
theorem FacI.zero {S:List Nat} {i x:Nat}:FacI S i x 0 1 1:=by
 constructor<;>(rw [qLl];exact .refl)
theorem FacI.same {S:List Nat} {i x a b:Nat} (h:FacI S i x i a b) (hi:i < S.length):FacI S i x (i + 1) a b:=by
 obtain ⟨h1,h2⟩:=h
 constructor<;>(rw [qUr hi];assumption)
theorem FacI.next {S:List Nat} {i x j a b:Nat} (h:FacI S i x j a b) (hj:j < S.length) (hne:j ≠ i) {a' b':Nat} (h1:a' % gQ = a * S[j] % gQ) (h2:Cg (gQ:Int) (b':Int) ((b:Int) * ((S[j]:Int) - (x:Int)))):FacI S i x (j + 1) a' b':=by
 constructor
 ·rw [qOd hj hne,qHe]
  show Cg _ _ (pr _ (toI (sk S i j) ++ [(S[j]:Int)]))
  rw [qF7]
  refine (cgN h1).trans ?_
  rw [Int.natCast_mul]
  exact h.ha.mul .refl
 ·rw [qOd hj hne,qHe]
  show Cg _ _ (pr _ (toI (sk S i j) ++ [(S[j]:Int)]))
  rw [qF7]
  exact h2.trans (h.hb.mul .refl)
theorem FacI.cop {S:List Nat} (hS:Pts S) {i a b:Nat} (hi:i < S.length) (h:FacI S i S[i] S.length a b):¬ gQ ∣ b:=by
 have hU:=qFz hS (List.getElem_mem hi)
 have hB:=h.hb
 rw [qK2 hS.nd hi] at hB
 intro hd
 obtain ⟨u,hu⟩:=hU
 have h1:Cg (gQ:Int) (u * (b:Int)) 1:=(Cg.refl.mul hB).trans hu
 obtain ⟨q,hq⟩:=hd
 obtain ⟨k,hk⟩:=h1
 have e:u * ((b:Nat):Int) = (gQ:Int) * (u * (q:Int)):=by rw [hq,Int.natCast_mul];ac_rfl
 rw [e] at hk
 have h2:(gQ:Int) * (u * (q:Int) - k) = 1:=by rw [Int.mul_sub];omega
 have h3:(gQ:Int) ∣ 1:=⟨_,h2.symm⟩
 exact absurd (Int.le_of_dvd (by decide) h3) (by decide)
theorem qZw {b:Nat} (h:¬ gQ ∣ b):Nat.gcd gQ b = 1:=by
 have:=prQ'.cop h
 rw [Nat.gcd_comm]
 exact this
theorem FacI.done {S:List Nat} (hS:Pts S) {i a b z:Nat} (hi:i < S.length) (h:FacI S i S[i] S.length a b) (hz:Cg (gQ:Int) ((z:Int) * (b:Int)) 1):a * z % gQ = fac S S[i]:=by
 refine qJj hS (List.getElem_mem hi) (Nat.mod_lt _ (by decide)) ?_
 unfold IsF
 have hA:=h.ha
 have hB:=h.hb
 rw [qK2 hS.nd hi] at hA hB
 rw [qA1]
 generalize pr (fun y=>y - (S[i]:Int)) (toI (S.erase S[i])) = D at *
 generalize pr (fun y=>y) (toI (S.erase S[i])) = E at *
 refine ((qJd _).mul hB.symm).trans (Cg.trans ?_ hA)
 rw [Int.natCast_mul,Int.mul_assoc]
 have:=(Cg.refl (M:=(gQ:Int)) (a:=(a:Int))).mul hz
 rwa [Int.mul_one] at this
def FacR (S:List Nat) (i x j f:Nat):Prop:=Cg (gQ:Int) ((f:Int) * pr (fun y=>y - (x:Int)) (toI (sk S i j))) (pr (fun y=>y) (toI (sk S i j)))
theorem FacR.zero {S:List Nat} {i x:Nat}:FacR S i x 0 1:=by
 unfold FacR
 rw [qLl]
 exact .refl
theorem FacR.same {S:List Nat} {i x f:Nat} (h:FacR S i x i f) (hi:i < S.length):FacR S i x (i + 1) f:=by
 unfold FacR at *
 rw [qUr hi]
 exact h
theorem FacR.next {S:List Nat} {i x j f z f':Nat} (h:FacR S i x j f) (hj:j < S.length) (hne:j ≠ i) (hz:Cg (gQ:Int) ((z:Int) * ((S[j]:Int) - (x:Int))) 1) (hf:f' % gQ = f * (S[j] * z) % gQ):FacR S i x (j + 1) f':=by
 unfold FacR at *
 rw [qOd hj hne,qHe]
 show Cg _ ((f':Int) * pr _ (toI (sk S i j) ++ [(S[j]:Int)])) (pr _ (toI (sk S i j) ++ [(S[j]:Int)]))
 rw [qF7,qF7]
 generalize pr (fun y=>y - (x:Int)) (toI (sk S i j)) = D at *
 generalize pr (fun y=>y) (toI (sk S i j)) = E at *
 have h1:Cg (gQ:Int) (f':Int) ((f:Int) * ((S[j]:Int) * (z:Int))):=by
  have:=cgN hf
  rwa [Int.natCast_mul,Int.natCast_mul] at this
 refine (h1.mul .refl).trans ?_
 have e:(f:Int) * ((S[j]:Int) * (z:Int)) * (D * ((S[j]:Int) - (x:Int))) = ((f:Int) * D) * (S[j]:Int) * ((z:Int) * ((S[j]:Int) - (x:Int))):=by ac_rfl
 rw [e]
 have:=(h.mul (Cg.refl (a:=(S[j]:Int)))).mul hz
 rwa [Int.mul_one] at this
theorem FacR.done {S:List Nat} (hS:Pts S) {i f:Nat} (hi:i < S.length) (hf:f < gQ) (h:FacR S i S[i] S.length f):f = fac S S[i]:=by
 refine qJj hS (List.getElem_mem hi) hf ?_
 unfold FacR at h
 unfold IsF
 rw [qK2 hS.nd hi] at h
 rw [qA1]
 exact h
theorem qR7 {S:List Nat} (hS:Pts S) {x y:Nat} (hx:x ∈ S) (hy:y ∈ S) (hne:x ≠ y) {d:Nat} (hd:(d:Int) = ((y:Int) - (x:Int)) % (gQ:Int)):Nat.gcd gQ d = 1:=by
 refine qZw fun h=>?_
 have h1:=hS.bd x hx
 have h2:=hS.bd y hy
 have h3:(gQ:Int) ∣ ((y:Int) - (x:Int)) % (gQ:Int):=by rw [← hd];exact Int.ofNat_dvd.2 h
 obtain ⟨k0,hk0⟩:=h3
 have hme:=Int.mul_ediv_add_emod ((y:Int) - (x:Int)) (gQ:Int)
 obtain ⟨k,hk⟩:∃ k,(y:Int) - (x:Int) = (gQ:Int) * k:=⟨((y:Int) - (x:Int)) / (gQ:Int) + k0,by rw [Int.mul_add];omega⟩
 have hq:(gQ:Nat) = 1152921504606845789:=rfl
 have hqi:(gQ:Int) = 1152921504606845789:=rfl
 rw [hqi] at hk
 omega
def wJ (k:Nat):List Nat→List (List Nat)
 | []=>[]
 | w :: ws=>List.range' k w :: wJ (k + w) ws
theorem qA6 (ws:List Nat):∀ k,(wJ k ws).length = ws.length:=by
 induction ws with
 | nil=>intro k;rfl
 | cons w ws ih=>intro k;simp [wJ,ih]
theorem qCx:∀ (ws:List Nat) (k i:Nat) (h:i < ws.length),(wJ k ws)[i]? = some (List.range' (k + (ws.take i).sum) ws[i])
 | w :: ws,k,0,_=>by simp [wJ]
 | w :: ws,k,i + 1,h=>by
  have:=qCx ws (k + w) i (by simpa using h)
  simp only [wJ,List.getElem?_cons_succ,List.take_succ_cons,List.sum_cons,List.getElem_cons_succ]
  rw [this,Nat.add_assoc]
theorem qF5:∀ (ws:List Nat) (k:Nat),((wJ k ws).map List.length).sum = ws.sum
 | [],_=>rfl
 | w :: ws,k=>by simp [wJ,qF5 ws]
theorem zU:∀ (ws:List Nat) (i:Nat),(ws.take i).sum≤ws.sum
 | [],i=>by simp
 | w :: ws,0=>by simp
 | w :: ws,i + 1=>by
  have:=zU ws i
  simp only [List.take_succ_cons,List.sum_cons]
  omega
theorem qBy {ws:List Nat} {i:Nat} (h:i < ws.length):(ws.take (i + 1)).sum = (ws.take i).sum + ws[i]:=by
 rw [List.take_succ_eq_append_getElem h,List.sum_append]
 simp
def ndN (n:Nat):Nat:=(n - 1) / 3 + 1
end Go.Sp
namespace Go.Proofs.YtbgldmoikimmpaaGreatDoor
open Go.Eng Go.Dig
theorem qTs:∀ i:Fin 256,∃ t:Fin 9,bAt lenT i.val = (t.val:Int)∧i.val < 2 ^ t.val:=by decide +kernel
theorem qTt {i:Nat} (h:i < 256):∃ t:Nat,bAt lenT i = (t:Int)∧t≤8∧i < 2 ^ t:=by
 obtain ⟨t,h1,h2⟩:=qTs ⟨i,h⟩
 exact ⟨t.val,h1,by omega,h2⟩
theorem qPr {x x' n t:Nat} (h:x' = x / 2 ^ n) (h2:x' < 2 ^ t):x < 2 ^ (n + t):=by
 have hp:0 < 2 ^ n:=Nat.pow_pos (by decide)
 subst h
 have:=(Nat.div_lt_iff_lt_mul hp).1 h2
 rwa [← Nat.pow_add,Nat.add_comm t n] at this
theorem qEv (a m:Int) (hm:1≤m):(a.tmod m < 0∧a.tmod m + m = a % m)∨(0≤a.tmod m∧a.tmod m = a % m):=by
 have h1:=Int.emod_nonneg a (show m ≠ 0 by omega)
 have h2:=Int.emod_lt_of_pos a (show 0 < m by omega)
 rw [Int.tmod_eq_emod]
 split
 ·right
  omega
 ·left
  omega
theorem qJc {x y m:Nat} (hx:x < m) (hy:y < m) (h:m≤x + y):(x + y) % m = x + y - m:=by
 rw [Nat.mod_eq_sub_mod h,Nat.mod_eq_of_lt (by omega)]
def dbl (X Y m c i:Nat):Nat:=X * (Y / 2 ^ (c - i)) % m
theorem qRa {X Y m c:Nat} (h:Y < 2 ^ c):dbl X Y m c 0 = 0:=by
 unfold dbl
 rw [Nat.sub_zero,Nat.div_eq_of_lt h,Nat.mul_zero,Nat.zero_mod]
theorem qU4 (X Y m c:Nat):dbl X Y m c c = X * Y % m:=by
 unfold dbl
 rw [Nat.sub_self,Nat.pow_zero,Nat.div_one]
theorem qMh {Y c i:Nat} (h:i < c):Y / 2 ^ (c - 1 - i) = 2 * (Y / 2 ^ (c - i)) + Y / 2 ^ (c - 1 - i) % 2:=by
 have e:c - i = (c - 1 - i) + 1:=by omega
 rw [e,Nat.pow_succ,← Nat.div_div_eq_div_mul]
 omega
theorem qNl {X Y m c i:Nat} (h:i < c) (hb:Y / 2 ^ (c - 1 - i) % 2 = 0):dbl X Y m c (i + 1) = (dbl X Y m c i + dbl X Y m c i) % m:=by
 have h1:=qMh (Y:=Y) h
 rw [hb] at h1
 unfold dbl
 rw [show c - (i + 1) = c - 1 - i by omega,h1,← Nat.two_mul,Nat.mul_mod_mod]
 congr 1
 rw [Nat.add_zero,Nat.mul_left_comm]
theorem qNk {X Y m c i:Nat} (h:i < c) (hb:Y / 2 ^ (c - 1 - i) % 2 = 1):dbl X Y m c (i + 1) = ((dbl X Y m c i + dbl X Y m c i) % m + X) % m:=by
 have h1:=qMh (Y:=Y) h
 rw [hb] at h1
 unfold dbl
 rw [show c - (i + 1) = c - 1 - i by omega,h1,← Nat.two_mul,Nat.mul_mod_mod,Nat.mod_add_mod]
 congr 1
 rw [Nat.mul_add,Nat.mul_one,Nat.mul_left_comm]
theorem qYr {X Y m c i:Nat} (hm:0 < m):dbl X Y m c i < m:=Nat.mod_lt _ hm
attribute [local irreducible] PV StepF wpl wpd WP Ret
attribute [local irreducible] dbl
theorem jCs (x:Nat) (w:World) (hx:x < 18446744073709551616) :
  Ret Tryz.prog 100 [.int .u64 (x:Int)] w (fun v w'=>∃ t:Nat,v = .int .i64 (t:Int)∧t≤64∧x < 2 ^ t∧Keeps [] w w'):=by
 refine Ret.of_WP Tryz.func100 rfl Tryz.ntmps100 rfl ?_
 have hp:=Hp.start (M:=[]) (w:=w)
 (repeat (first|(with_reducible first|apply qF|apply qA|apply qE|apply qB)|(apply wlp;((first|apply qC|apply qD|apply xF)<;>exact rfl);(first|exact fI rfl|exact fB rfl))))
 refine qCm (fun F w1=>∃ x' n:Nat,x' = x / 2 ^ n∧x' < 4294967296∧n≤32∧Hp w [] w1 []∧qAt F [(0,.int .u64 (x':Int)),(2,.int .i64 (n:Int))]) ?_ ?_
 ·refine qM rfl (fun h=>?_) (fun h=>?_)
  ·(repeat (first|(with_reducible first|apply qF|apply qA)|(apply wlp;apply qC;exact fI rfl)))
   (apply wlp;exact xA (b:=32) rfl rfl (by decide);exact qI (b:=((x / 4294967296:Nat):Int)) rfl)
   (repeat (first|(with_reducible first|apply qA|apply qE|apply qB)|(apply wlp;apply qD;exact fI rfl)))
   exact ⟨x / 4294967296,32,rfl,by omega,by omega,hp,rfl,rfl,trivial⟩
  ·(repeat (with_reducible first|apply qB|apply qL))
   exact ⟨x,0,by simp,by omega,by omega,hp,rfl,rfl,trivial⟩
 clear hp
 rintro F w1 ⟨x1,n1,e1,h11,hn1,hp,hF⟩
 refine wF _ hF ?_
 intro F0
 clear hF
 (repeat (first|(with_reducible first|apply qF|apply qA|apply qE|apply qB)|(apply wlp;((first|apply qC|apply xF)<;>exact rfl);(first|exact fI rfl|exact fB rfl))))
 refine qCm (fun F w1=>∃ x' n:Nat,x' = x / 2 ^ n∧x' < 65536∧n≤48∧Hp w [] w1 []∧qAt F [(0,.int .u64 (x':Int)),(2,.int .i64 (n:Int))]) ?_ ?_
 ·refine qM rfl (fun h=>?_) (fun h=>?_)
  ·(repeat (first|(with_reducible first|apply qF|apply qA)|(apply wlp;apply qC;exact fI rfl)))
   (apply wlp;exact xA (b:=16) rfl rfl (by decide);exact qI (b:=((x1 / 65536:Nat):Int)) rfl)
   (repeat (first|(with_reducible first|apply qA|apply qE|apply qB)|(apply wlp;(first|apply qC|apply qD);exact fI rfl)))
   (apply wlp;(exact qY rfl rfl);exact qI (b:=((n1 + 16:Nat):Int)) (by rw [qN (by omega) (by omega)];omega))
   (repeat (first|(with_reducible first|apply qE|apply qB)|(apply wlp;apply qD;exact fI rfl)))
   refine ⟨x1 / 65536,n1 + 16,?_,by omega,by omega,hp,rfl,rfl,trivial⟩
   rw [e1,Nat.pow_add,← Nat.div_div_eq_div_mul]
  ·(repeat (with_reducible first|apply qB|apply qL))
   exact ⟨x1,n1,e1,by omega,by omega,hp,rfl,rfl,trivial⟩
 clear hp e1 h11 hn1 x1 n1
 rintro F w1 ⟨x1,n1,e1,h11,hn1,hp,hF⟩
 refine wF _ hF ?_
 intro F0
 clear hF
 (repeat (first|(with_reducible first|apply qF|apply qA|apply qE|apply qB)|(apply wlp;((first|apply qC|apply xF)<;>exact rfl);(first|exact fI rfl|exact fB rfl))))
 refine qCm (fun F w1=>∃ x' n:Nat,x' = x / 2 ^ n∧x' < 256∧n≤56∧Hp w [] w1 []∧qAt F [(0,.int .u64 (x':Int)),(2,.int .i64 (n:Int))]) ?_ ?_
 ·refine qM rfl (fun h=>?_) (fun h=>?_)
  ·(repeat (first|(with_reducible first|apply qF|apply qA)|(apply wlp;apply qC;exact fI rfl)))
   (apply wlp;exact xA (b:=8) rfl rfl (by decide);exact qI (b:=((x1 / 256:Nat):Int)) rfl)
   (repeat (first|(with_reducible first|apply qA|apply qE|apply qB)|(apply wlp;(first|apply qC|apply qD);exact fI rfl)))
   (apply wlp;(exact qY rfl rfl);exact qI (b:=((n1 + 8:Nat):Int)) (by rw [qN (by omega) (by omega)];omega))
   (repeat (first|(with_reducible first|apply qE|apply qB)|(apply wlp;apply qD;exact fI rfl)))
   refine ⟨x1 / 256,n1 + 8,?_,by omega,by omega,hp,rfl,rfl,trivial⟩
   rw [e1,Nat.pow_add,← Nat.div_div_eq_div_mul]
  ·(repeat (with_reducible first|apply qB|apply qL))
   exact ⟨x1,n1,e1,by omega,by omega,hp,rfl,rfl,trivial⟩
 clear hp e1 h11 hn1 x1 n1
 rintro F w1 ⟨x1,n1,e1,h11,hn1,hp,hF⟩
 refine wF _ hF ?_
 intro F0
 clear hF
 obtain ⟨t,ht,ht8,hu⟩:=qTt h11
 (repeat (with_reducible first|apply qF|apply qA))
 (apply wlp;apply qC;exact fI rfl)
 (apply wlp;apply qC;exact fI rfl)
 (apply wlp;exact uG rfl rfl rfl;exact qI (b:=(x1:Int)) (by omega))
 (apply wlp;exact zY (s:=lenT) rfl rfl rfl (by rw [qGu];exact h11);exact qI (b:=(t:Int)) ht)
 (apply wlp;exact zQ rfl rfl rfl;exact qI (b:=(t:Int)) (qN (by omega) (by omega)))
 (apply wlp;(exact qY rfl rfl);exact qI (b:=((n1 + t:Nat):Int)) (by rw [qN (by omega) (by omega)];omega))
 (repeat (first|(with_reducible first|apply qE|apply qB|apply qT)|(apply wlp;apply qD;exact fI rfl)))
 exact qU rfl rfl ⟨_,rfl,n1 + t,rfl,by omega,qPr e1 hu,hp.keeps⟩
theorem p53 (a m:Int) (w:World) (ha:-9223372036854775808≤a) (ha2:a≤9223372036854775807) (hm:1≤m) (hm2:m≤9223372036854775807) :
  Ret Tryz.prog 53 [.int .i64 a,.int .i64 m] w (fun v w'=>v = .int .i64 (a % m)∧Keeps [] w w'):=by
 have h1:=Int.emod_nonneg a (show m ≠ 0 by omega)
 have h2:=Int.emod_lt_of_pos a (show 0 < m by omega)
 have hc:=qEv a m hm
 refine Ret.of_WP Tryz.func53 rfl Tryz.ntmps53 rfl ?_
 have hp:=Hp.start (M:=[]) (w:=w)
 (repeat (first|(with_reducible first|apply qF|apply qA|apply qE|apply qB)|(apply wlp;(first|apply qC|apply qD);exact fI rfl)))
 (apply wlp;exact yU rfl rfl (by omega);exact fI rfl)
 generalize a.tmod m = r at hc
 (repeat (first|(with_reducible first|apply qF|apply qA|apply qE|apply qB)|(apply wlp;((first|apply qC|apply qD|apply jA)<;>exact rfl);(first|exact fI rfl|exact fB rfl))))
 refine qM rfl (fun h=>?_) (fun h=>?_)
 ·(repeat (first|with_reducible apply qA|(apply wlp;apply qC;exact fI rfl)))
  (apply wlp;exact qY rfl rfl;exact qI (b:=a % m) (by rw [qN (by omega) (by omega)];omega))
  (repeat (first|(with_reducible first|apply qF|apply qA|apply qE|apply qB|apply qT)|(apply wlp;(first|apply qC|apply qD);exact fI rfl)))
  exact qU rfl rfl ⟨_,rfl,rfl,hp.keeps⟩
 ·(repeat (first|(with_reducible first|apply qF|apply qA|apply qE|apply qB|apply qT|apply qL)|(apply wlp;(first|apply qC|apply qD);exact fI rfl)))
  exact qU rfl rfl ⟨_,rfl,qI (by omega),hp.keeps⟩
theorem p98 (x y m:Nat) (w:World) (hx:x < m) (hy:y < m) (hm:m≤9223372036854775807) :
  Ret Tryz.prog 98 [.int .u64 (x:Int),.int .u64 (y:Int),.int .u64 (m:Int)] w (fun v w'=>v = .int .u64 (((x + y) % m:Nat):Int)∧Keeps [] w w'):=by
 refine Ret.of_WP Tryz.func98 rfl Tryz.ntmps98 rfl ?_
 have hp:=Hp.start (M:=[]) (w:=w)
 (repeat (first|(with_reducible first|apply qF|apply qA|apply qE|apply qB)|(apply wlp;(first|apply qC|apply qD);exact fI rfl)))
 (apply wlp;exact uA rfl rfl (by omega);exact fI rfl)
 (repeat (first|(with_reducible first|apply qF|apply qA|apply qE|apply qB)|(apply wlp;((first|apply qC|apply qD|apply xF)<;>exact rfl);(first|exact fI rfl|exact fB rfl))))
 refine qM rfl (fun h=>?_) (fun h=>?_)
 ·have e:=qJc hx hy (by omega)
  (repeat (first|with_reducible apply qA|(apply wlp;apply qC;exact fI rfl)))
  (apply wlp;exact jN rfl rfl;exact qI (b:=(((x + y) % m:Nat):Int)) (by rw [e,show ((x + y:Nat):Int) - (m:Int) = ((x + y - m:Nat):Int) by omega,kS (by omega)]))
  (repeat (first|(with_reducible first|apply qF|apply qA|apply qE|apply qB|apply qT)|(apply wlp;(first|apply qC|apply qD);exact fI rfl)))
  exact qU rfl rfl ⟨_,rfl,rfl,hp.keeps⟩
 ·have e:(x + y) % m = x + y:=Nat.mod_eq_of_lt (by omega)
  rw [e]
  (repeat (first|(with_reducible first|apply qF|apply qA|apply qE|apply qB|apply qT|apply qL)|(apply wlp;(first|apply qC|apply qD);exact fI rfl)))
  exact qU rfl rfl ⟨_,rfl,rfl,hp.keeps⟩
theorem qAm (a:Int) {m:Nat} (hm:1≤m):∃ X:Nat,a % (m:Int) = X∧X < m:=
 ⟨(a % (m:Int)).toNat,by
  have h1:=Int.emod_nonneg a (show (m:Int) ≠ 0 by omega)
  have h2:=Int.emod_lt_of_pos a (show 0 < (m:Int) by omega)
  omega,by
  have h1:=Int.emod_nonneg a (show (m:Int) ≠ 0 by omega)
  have h2:=Int.emod_lt_of_pos a (show 0 < (m:Int) by omega)
  omega⟩
theorem qDs {z:Int} {X:Nat} (h:z = X) (hX:X < 18446744073709551616):IntKind.u64.wrap z = (X:Int):=by rw [h,kS hX]
theorem p52 (a b:Int) (m:Nat) (w:World) (ha:-9223372036854775808≤a) (ha2:a≤9223372036854775807) (hb:-9223372036854775808≤b) (hb2:b≤9223372036854775807) (hm:1≤m) (hm2:m≤9223372036854775807) :
  Ret Tryz.prog 52 [.int .i64 a,.int .i64 b,.int .i64 (m:Int)] w (fun v w'=>v = .int .i64 (a * b % (m:Int))∧Keeps [] w w'):=by
 obtain ⟨X,hX,hXm⟩:=qAm a hm
 obtain ⟨Y,hY,hYm⟩:=qAm b hm
 have hfin:a * b % (m:Int) = ((X * Y % m:Nat):Int):=by
  rw [Int.mul_emod,hX,hY]
  exact (Int.natCast_emod (X * Y) m).symm
 rw [hfin]
 refine Ret.of_WP Tryz.func52 rfl Tryz.ntmps52 rfl ?_
 have hp:=Hp.start (M:=[]) (w:=w)
 (repeat (first|(with_reducible first|apply qF|apply qA|apply qE|apply qB)|(apply wlp;((first|apply qC|apply qD|apply jA)<;>exact rfl);(first|exact fI rfl|exact fB rfl))))
 refine qM rfl (fun h=>absurd h (by omega)) (fun _=>?_)
 (repeat (first|(with_reducible first|apply qF|apply qA|apply qB|apply qL)|(apply wlp;apply qC;exact fI rfl)))
 (apply wls;exact qH rfl qAs rfl (p53 a (m:Int) _ ha ha2 (by omega) (by omega)))
 rintro _ w1 ⟨rfl,hk⟩
 have hp:=hp.call hk
 (apply wlp;exact zQ rfl rfl rfl;exact qI (qDs hX (by omega)))
 (repeat (apply wlp;apply qC;exact fI rfl))
 (apply wls;exact qH rfl qAs rfl (p53 b (m:Int) _ hb hb2 (by omega) (by omega)))
 rintro _ w2 ⟨rfl,hk⟩
 have hp:=hp.call hk
 (apply wlp;exact zQ rfl rfl rfl;exact qI (qDs hY (by omega)))
 (apply wlp;apply qC;exact fI rfl)
 (apply wlp;exact zQ rfl rfl rfl;exact qI (qDs rfl (by omega)))
 (repeat (first|(with_reducible first|apply qF|apply qA|apply qE|apply qB)|(apply wlp;(first|apply qC|apply qD);exact fI rfl)))
 (apply wls;exact qH rfl qYp rfl (jCs Y _ (by omega)))
 rintro _ w3 ⟨c,rfl,hc,hYc,hk⟩
 have hp:=hp.call hk
 have h0:=qRa (X:=X) (m:=m) hYc
 have hall:=qU4 X Y m c
 (repeat (first|(with_reducible first|apply qF|apply qK|apply qA|apply qE|apply qB)|(apply wlp;(first|apply qC|apply qD);exact fI rfl)))
 refine jE [10,12,28,29,30,31,32,33,34,35,36,37,38,39,40,41,42,43,44,45,46,47] (fun (i:Nat) F=>(F.put 10 (.int .u64 (dbl X Y m c i:Int))).put 28 (.int .i64 (i:Int))) (fun i w'=>i≤c∧Hp w [] w' []) (fun i=>c - i) 0 (qG (qG (Same.eq .refl) (by show Value.int .u64 0 = _;rw [h0];rfl)) rfl) ⟨Nat.zero_le _,hp⟩ ?_
 clear hp h0
 rintro u i w4 ⟨hi,hp⟩
 (repeat (first|(with_reducible first|apply qF|apply qA|apply qE|apply qB)|(apply wlp;(apply jA<;>exact rfl);exact fB rfl)))
 refine qM rfl (fun h=>?_) (fun h=>?_)
 ·have hic:i < c:=by omega
  have hd:=qYr (X:=X) (Y:=Y) (m:=m) (c:=c) (i:=i) (by omega)
  have hs0:=qNl (X:=X) (Y:=Y) (m:=m) hic
  have hs1:=qNk (X:=X) (Y:=Y) (m:=m) hic
  have hb2:Y / 2 ^ (c - 1 - i) % 2 < 2:=Nat.mod_lt _ (by decide)
  have hyd:Y / 2 ^ (c - 1 - i)≤Y:=Nat.div_le_self _ _
  (repeat (first|(with_reducible first|apply qF|apply qK|apply qA|apply qE|apply qB|apply qL)|(apply wlp;(first|apply qC|apply qD);exact fI rfl)))
  (apply wls;exact qH rfl qQ8 rfl (p98 (dbl X Y m c i) (dbl X Y m c i) m _ hd hd hm2))
  rintro _ w5 ⟨rfl,hk⟩
  have hp:=hp.call hk
  have hd2:(dbl X Y m c i + dbl X Y m c i) % m < m:=Nat.mod_lt _ (by omega)
  (repeat (first|(with_reducible first|apply qF|apply qA|apply qE|apply qB)|(apply wlp;(first|apply qC|apply qD);exact fI rfl)))
  (apply wlp;(exact jN rfl rfl);exact qI (b:=((c - 1:Nat):Int)) (by rw [qN (by omega) (by omega)];omega))
  (repeat (apply wlp;apply qC;exact fI rfl))
  (apply wlp;(exact jN rfl rfl);exact qI (b:=((c - 1 - i:Nat):Int)) (by rw [qN (by omega) (by omega)];omega))
  (apply wlp;exact xA (b:=c - 1 - i) rfl rfl (by show _≤64;omega);exact fI rfl)
  generalize Y / 2 ^ (c - 1 - i) = z at hs0 hs1 hb2 hyd
  (apply wlp;exact qFa (b:=1) (k:=1) rfl rfl (by omega) rfl (by decide);exact fI rfl)
  (repeat (first|(with_reducible first|apply qE|apply qB)|(apply wlp;((apply zF;(first|exact rfl|exact jR rfl (by assumption)))<;>exact rfl);exact fB rfl)))
  refine qM rfl (fun hq=>?_) (fun hq=>?_)
  ·have hs:=hs1 (by omega)
   (repeat (first|with_reducible apply qA|(apply wlp;apply qC;exact fI rfl)))
   (apply wls;exact qH rfl qQ8 rfl (p98 ((dbl X Y m c i + dbl X Y m c i) % m) X m _ hd2 hXm hm2))
   rintro _ w6 ⟨rfl,hk⟩
   have hp:=hp.call hk
   rw [← hs]
   (repeat (first|(with_reducible first|apply qA|apply qE|apply qB|apply qZ)|(apply wlp;apply qD;exact fI rfl)))
   (apply wlp;(exact qY rfl rfl);exact qI (b:=((i + 1:Nat):Int)) (by rw [qN (by omega) (by omega)];omega))
   (repeat (first|(with_reducible first|apply qE|apply qB)|(apply wlp;apply qC;exact fI rfl)))
   exact ⟨i + 1,qG (qG (Same.eq (by repeat (first|exact Same.hav|exact Same.refl|refine Same.put rfl ?_|refine Same.havs rfl ?_))) rfl) rfl,⟨by omega,hp⟩,by omega⟩
  ·have hs:=hs0 (by omega)
   rw [← hs]
   (repeat (with_reducible first|apply qA|apply qB|apply qZ|apply qL))
   (apply wlp;(exact qY rfl rfl);exact qI (b:=((i + 1:Nat):Int)) (by rw [qN (by omega) (by omega)];omega))
   (repeat (first|(with_reducible first|apply qE|apply qB)|(apply wlp;apply qC;exact fI rfl)))
   exact ⟨i + 1,qG (qG (Same.eq (by repeat (first|exact Same.hav|exact Same.refl|refine Same.put rfl ?_|refine Same.havs rfl ?_))) rfl) rfl,⟨by omega,hp⟩,by omega⟩
 obtain rfl:i = c:=by omega
 rw [hall]
 have hlt:X * Y % m < m:=Nat.mod_lt _ (by omega)
 (repeat (first|(with_reducible first|apply qF|apply qA|apply qE|apply qB|apply qO|apply qT|apply jB)|((with_reducible apply qP);exact rfl)|(apply wlp;((first|apply qC|apply qD|apply zQ)<;>exact rfl);exact fI rfl)))
 exact qU rfl rfl ⟨_,rfl,qI (qN (by omega) (by omega)),hp.keeps⟩
end Go.Proofs.YtbgldmoikimmpaaGreatDoor
namespace Go.Proofs.YtbgldmoikimmpaaGreatDoor
open Go.Eng Go.Dig Go.Lag
theorem jBf {n:Nat} (h:n < 9223372036854775808):qMs (n:Int) 1 = ((n % 2:Nat):Int):=by
 unfold qMs
 have h1:(BitVec.ofInt 64 (n:Int) &&& BitVec.ofInt 64 (1:Int)).toNat = n % 2:=by
  rw [BitVec.toNat_and,show (1:Int) = ((1:Nat):Int) from rfl,yX 64 n (by omega),yX 64 1 (by decide),Nat.and_one_is_mod]
 rw [h1,qN (by omega) (by omega)]
theorem qJf (a:Int) (k:Nat):a ^ (2 * k) = (a * a) ^ k:=by rw [Int.pow_mul,Int.pow_succ,Int.pow_succ,Int.pow_zero,Int.one_mul]
def PwI (a:Int) (n m:Nat) (x:Nat × Int × Int):Prop:=x.2.2 * x.2.1 ^ x.1 % (m:Int) = a ^ n % (m:Int)
theorem PwI.start (a:Int) (n m:Nat):PwI a n m (n,a,1 % (m:Int)):=by
 unfold PwI
 show 1 % (m:Int) * a ^ n % (m:Int) = _
 rw [Int.mul_emod,Int.emod_emod,← Int.mul_emod,Int.one_mul]
theorem PwI.even {a x p:Int} {n m k:Nat} (h:PwI a n m (k,x,p)) (hk:k % 2 = 0):PwI a n m (k / 2,x * x % (m:Int),p):=by
 unfold PwI at *
 rw [← h]
 show p * (x * x % (m:Int)) ^ (k / 2) % (m:Int) = p * x ^ k % (m:Int)
 have e:x ^ k = (x * x) ^ (k / 2):=by rw [← qJf];congr 1;omega
 exact (Cg.refl.mul (qL4 Cg.mod _):Cg (m:Int) (p * (x * x % (m:Int)) ^ (k / 2)) (p * (x * x) ^ (k / 2))).eq.trans (by rw [e])
theorem PwI.odd {a x p:Int} {n m k:Nat} (h:PwI a n m (k,x,p)) (hk:k % 2 = 1):PwI a n m (k / 2,x * x % (m:Int),p * x % (m:Int)):=by
 unfold PwI at *
 rw [← h]
 show p * x % (m:Int) * (x * x % (m:Int)) ^ (k / 2) % (m:Int) = p * x ^ k % (m:Int)
 have e:p * x ^ k = p * x * (x * x) ^ (k / 2):=by
  rw [← qJf]
  have e2:k = 2 * (k / 2) + 1:=by omega
  conv=>lhs;rw [e2,Int.pow_succ]
  ac_rfl
 rw [e]
 exact (Cg.mod.mul (qL4 Cg.mod _):Cg (m:Int) (p * x % (m:Int) * (x * x % (m:Int)) ^ (k / 2)) (p * x * (x * x) ^ (k / 2))).eq
theorem PwI.done {a x p:Int} {n m:Nat} (h:PwI a n m (0,x,p)) (hp:p % (m:Int) = p):p = a ^ n % (m:Int):=by
 unfold PwI at h
 have h:p * x ^ 0 % (m:Int) = a ^ n % (m:Int):=h
 rw [Int.pow_zero,Int.mul_one,hp] at h
 exact h
attribute [local irreducible] PV StepF wpl wpd WP Ret
theorem p49 (a b:Int) (m:Nat) (w:World) (ha:-9223372036854775808≤a) (ha2:a≤9223372036854775807) (hb:-9223372036854775808≤b) (hb2:b≤9223372036854775807) (hm:1≤m) (hm2:m≤9223372036854775807) :
  Ret Tryz.prog 49 [.int .i64 a,.int .i64 b,.int .i64 (m:Int)] w (fun v w'=>v = .int .i64 ((a + b) % (m:Int))∧Keeps [] w w'):=by
 obtain ⟨X,hX,hXm⟩:=qAm a hm
 obtain ⟨Y,hY,hYm⟩:=qAm b hm
 have hfin:(a + b) % (m:Int) = (((X + Y) % m:Nat):Int):=by
  rw [Int.add_emod,hX,hY]
  exact (Int.natCast_emod (X + Y) m).symm
 rw [hfin]
 have hlt:(X + Y) % m < m:=Nat.mod_lt _ (by omega)
 refine Ret.of_WP Tryz.func49 rfl Tryz.ntmps49 rfl ?_
 have hp:=Hp.start (M:=[]) (w:=w)
 (repeat (first|(with_reducible first|apply qF|apply qA|apply qE|apply qB)|(apply wlp;((first|apply qC|apply qD|apply jA)<;>exact rfl);(first|exact fI rfl|exact fB rfl))))
 refine qM rfl (fun h=>absurd h (by omega)) (fun _=>?_)
 (repeat (first|(with_reducible first|apply qF|apply qA|apply qB|apply qL)|(apply wlp;apply qC;exact fI rfl)))
 (apply wls;exact qH rfl qAs rfl (p53 a (m:Int) _ ha ha2 (by omega) (by omega)))
 rintro _ w1 ⟨rfl,hk⟩
 have hp:=hp.call hk
 (apply wlp;exact zQ rfl rfl rfl;exact qI (qDs hX (by omega)))
 (repeat (apply wlp;apply qC;exact fI rfl))
 (apply wls;exact qH rfl qAs rfl (p53 b (m:Int) _ hb hb2 (by omega) (by omega)))
 rintro _ w2 ⟨rfl,hk⟩
 have hp:=hp.call hk
 (apply wlp;exact zQ rfl rfl rfl;exact qI (qDs hY (by omega)))
 (apply wlp;apply qC;exact fI rfl)
 (apply wlp;exact zQ rfl rfl rfl;exact qI (qDs rfl (by omega)))
 (apply wls;exact qH rfl qQ8 rfl (p98 X Y m _ hXm hYm hm2))
 rintro _ w3 ⟨rfl,hk⟩
 have hp:=hp.call hk
 (apply wlp;exact zQ rfl rfl rfl;exact qI (b:=(((X + Y) % m:Nat):Int)) (qN (by omega) (by omega)))
 (repeat (first|(with_reducible first|apply qE|apply qB|apply qT)|(apply wlp;apply qD;exact fI rfl)))
 exact qU rfl rfl ⟨_,rfl,rfl,hp.keeps⟩
theorem jCe (a b:Int) (m:Nat) (w:World) (ha:-9223372036854775808≤a) (ha2:a≤9223372036854775807) (hb:-9223372036854775808≤b) (hb2:b≤9223372036854775807) (hm:1≤m) (hm2:m≤9223372036854775807) :
  Ret Tryz.prog 142 [.int .i64 a,.int .i64 b,.int .i64 (m:Int)] w (fun v w'=>v = .int .i64 ((a - b) % (m:Int))∧Keeps [] w w'):=by
 have h1:=Int.emod_nonneg a (show (m:Int) ≠ 0 by omega)
 have h2:=Int.emod_lt_of_pos a (show 0 < (m:Int) by omega)
 have h3:=Int.emod_nonneg b (show (m:Int) ≠ 0 by omega)
 have h4:=Int.emod_lt_of_pos b (show 0 < (m:Int) by omega)
 have hfin:(a - b) % (m:Int) = (a % (m:Int) - b % (m:Int)) % (m:Int):=(Int.sub_emod a b m)
 rw [hfin]
 refine Ret.of_WP Tryz.func142 rfl Tryz.ntmps142 rfl ?_
 have hp:=Hp.start (M:=[]) (w:=w)
 (repeat (first|(with_reducible first|apply qF|apply qA|apply qE|apply qB)|(apply wlp;((first|apply qC|apply qD|apply jA)<;>exact rfl);(first|exact fI rfl|exact fB rfl))))
 refine qM rfl (fun h=>absurd h (by omega)) (fun _=>?_)
 (repeat (first|(with_reducible first|apply qF|apply qA|apply qB|apply qL)|(apply wlp;apply qC;exact fI rfl)))
 (apply wls;exact qH rfl qAs rfl (p53 a (m:Int) _ ha ha2 (by omega) (by omega)))
 rintro _ w1 ⟨rfl,hk⟩
 have hp:=hp.call hk
 (repeat (apply wlp;apply qC;exact fI rfl))
 (apply wls;exact qH rfl qAs rfl (p53 b (m:Int) _ hb hb2 (by omega) (by omega)))
 rintro _ w2 ⟨rfl,hk⟩
 have hp:=hp.call hk
 (apply wlp;exact jN rfl rfl;exact qI (b:=a % (m:Int) - b % (m:Int)) (qN (by omega) (by omega)))
 (repeat (apply wlp;apply qC;exact fI rfl))
 (apply wls;exact qH rfl qAs rfl (p53 (a % (m:Int) - b % (m:Int)) (m:Int) _ (by omega) (by omega) (by omega) (by omega)))
 rintro _ w3 ⟨rfl,hk⟩
 have hp:=hp.call hk
 (repeat (first|(with_reducible first|apply qE|apply qB|apply qT)|(apply wlp;apply qD;exact fI rfl)))
 exact qU rfl rfl ⟨_,rfl,rfl,hp.keeps⟩
theorem p51 (a b:Int) (m mb:Nat) (w:World) (hb0:w.cell? ⟨mb,0,none⟩ = some (.int .i64 (m:Int))) (ha:-9223372036854775808≤a) (ha2:a≤9223372036854775807) (hb:-9223372036854775808≤b) (hb2:b≤9223372036854775807) (hm:1≤m) (hm2:m≤9223372036854775807) :
  Ret Tryz.prog 51 [.int .i64 a,.int .i64 b,.pointer (some ⟨mb,0,none⟩)] w (fun v w'=>v = .int .i64 (a * b % (m:Int))∧Keeps [] w w'):=by
 refine Ret.of_WP Tryz.func51 rfl Tryz.ntmps51 rfl ?_
 have hp:=Hp.start (M:=[]) (w:=w)
 (repeat (first|(with_reducible first|apply qF|apply qA|apply qE|apply qB)|(apply wlp;((first|apply qC|apply qD|(apply qJ;exact rfl))<;>(first|exact rfl|assumption));exact fI rfl)))
 (apply wls;exact qH rfl qBf rfl (p52 a b m _ ha ha2 hb hb2 hm hm2))
 rintro _ w1 ⟨rfl,hk⟩
 have hp:=hp.call hk
 (repeat (first|(with_reducible first|apply qE|apply qB|apply qT)|(apply wlp;apply qD;exact fI rfl)))
 exact qU rfl rfl ⟨_,rfl,rfl,hp.keeps⟩
theorem p16 (a:Int) (n m:Nat) (w:World) (ha:-9223372036854775808≤a) (ha2:a≤9223372036854775807) (hn:n≤9223372036854775807) (hm:1≤m) (hm2:m≤9223372036854775807) :
  Ret Tryz.prog 16 [.int .i64 a,.int .i64 (n:Int),.int .i64 (m:Int)] w (fun v w'=>v = .int .i64 (a ^ n % (m:Int))∧Keeps [] w w'):=by
 have hm0:0 < (m:Int):=by omega
 have hbd:∀ z:Int,0≤z % (m:Int)∧z % (m:Int) < m:=fun z=>⟨Int.emod_nonneg z (by omega),Int.emod_lt_of_pos z hm0⟩
 refine Ret.of_WP Tryz.func16 rfl Tryz.ntmps16 rfl ?_
 have hp:=Hp.start (M:=[]) (w:=w)
 (repeat (with_reducible first|apply qF|apply qA))
 (apply wls;exact qAp hp rfl rfl;rintro _ w1 ⟨mb,rfl,hp⟩)
 (apply wlp;apply qD;exact fI rfl)
 (repeat (with_reducible first|apply qF|apply qA|apply qE|apply qB))
 (apply wlp;((apply qJ;exact rfl)<;>(first|exact rfl|exact hp.cell 0 rfl rfl));exact fI rfl)
 (apply wlp;(exact jA rfl rfl);exact jF (b:=false) (decide_eq_false (by omega)))
 (apply wlp;apply qC;exact fB rfl)
 ((apply jO;exact rfl;exact rfl);(apply qC);(intros;exact fI rfl))
 (apply jO;exact rfl;exact rfl;(exact jA rfl rfl);exact jF (b:=false) (decide_eq_false (by omega)))
 (apply wlp;exact jU rfl rfl;exact fB rfl)
 (repeat (with_reducible first|apply qE|apply qB))
 refine jI rfl ?_
 (repeat (first|(with_reducible first|apply qF|apply qA|apply qE|apply qB|apply qL)|(apply wlp;((first|apply qD|(apply qJ;exact rfl)|apply vW)<;>(first|exact rfl|exact hp.cell 0 rfl rfl));(first|exact fI rfl|exact fF1 rfl))))
 (apply wls;exact qH rfl qAs rfl (p53 1 (m:Int) _ (by decide) (by decide) (by omega) (by omega)))
 rintro _ w2 ⟨rfl,hk⟩
 have hp:=hp.call hk
 have hp:Hp w [] w2 [blk mb 1 (qV [.int .i64 (m:Int)]) 3]:=hp
 (repeat (first|(with_reducible first|apply qF|apply qK|apply qE|apply qB)|(apply wlp;apply qD;exact fI rfl)))
 refine jE [0,1,8,18,19,20,21,22,23,24,25,26,27,28,29,30,31,32] (fun (X:Nat × Int × Int) F=>((F.put 0 (.int .i64 X.2.1)).put 1 (.int .i64 (X.1:Int))).put 8 (.int .i64 X.2.2))
  (fun X w'=>X.1≤n∧PwI a n m X∧(-9223372036854775808≤X.2.1∧X.2.1≤9223372036854775807)∧X.2.2 % (m:Int) = X.2.2∧Hp w [] w' [blk mb 1 (qV [.int .i64 (m:Int)]) 3]) (fun X=>X.1) (n,a,1 % (m:Int))
  (qG (qG (qG (Same.eq .refl) rfl) rfl) rfl) ⟨Nat.le_refl _,.start a n m,⟨ha,ha2⟩,Int.emod_emod _ _,hp⟩ ?_
 clear hp
 rintro u ⟨k,x,p⟩ w3 ⟨hk,hI,hx,hpm,hp⟩
 dsimp only at hk hx hpm hp ⊢
 have hp0:=hbd p
 rw [hpm] at hp0
 have hxx:=hbd (x * x)
 have hpx:=hbd (p * x)
 (repeat (first|(with_reducible first|apply qF|apply qA|apply qE|apply qB)|(apply wlp;((first|apply qC|apply zA)<;>exact rfl);(first|exact fI rfl|exact fB rfl))))
 refine qM rfl (fun h=>?_) (fun h=>?_)
 ·have hk0:0 < k:=by omega
  (repeat (first|(with_reducible first|apply qF|apply qK|apply qA|apply qB|apply qL)|(apply wlp;apply qC;exact fI rfl)))
  (apply wlp;exact qT7 rfl rfl;exact qI (jBf (by omega)))
  (repeat (first|(with_reducible first|apply qE|apply qB)|(apply wlp;((apply zF;(first|exact rfl|exact jR rfl (by assumption)))<;>exact rfl);exact fB rfl)))
  refine qM rfl (fun h1=>?_) (fun h1=>?_)
  ·have hk1:k % 2 = 1:=by omega
   (repeat (first|with_reducible apply qA|(apply wlp;apply qC;(first|exact fI rfl|exact fF1 rfl))))
   (apply wls;exact qH rfl qQc rfl (p51 p x m mb _ (hp.cell 0 rfl rfl) (by omega) (by omega) hx.1 hx.2 hm hm2);rintro _ w4 ⟨rfl,hk4⟩;have hp:=hp.call hk4)
   (repeat (first|(with_reducible first|apply qA|apply qE|apply qB)|(apply wlp;(first|apply qC|apply qD);(first|exact fI rfl|exact fF1 rfl))))
   (apply wls;exact qH rfl qQc rfl (p51 x x m mb _ (hp.cell 0 rfl rfl) hx.1 hx.2 hx.1 hx.2 hm hm2);rintro _ w5 ⟨rfl,hk5⟩;have hp:=hp.call hk5)
   (repeat (first|(with_reducible first|apply qA|apply qE|apply qB|apply qZ)|(apply wlp;(first|apply qC|apply qD);exact fI rfl)))
   (apply wlp;exact xA (b:=1) rfl rfl (by decide);exact qI (b:=((k / 2:Nat):Int)) rfl)
   (repeat (first|(with_reducible first|apply qE|apply qB)|(apply wlp;apply qD;exact fI rfl)))
   exact ⟨(k / 2,x * x % (m:Int),p * x % (m:Int)),qG (qG (qG (Same.eq (by repeat (first|exact Same.hav|exact Same.refl|refine Same.put rfl ?_|refine Same.havs rfl ?_))) rfl) rfl) rfl,⟨by dsimp only;omega,hI.odd hk1,⟨by dsimp only;omega,by dsimp only;omega⟩,Int.emod_emod _ _,hp⟩,by dsimp only;omega⟩
  ·have hk1:k % 2 = 0:=by omega
   (repeat (first|(with_reducible first|apply qA|apply qB|apply qL)|(apply wlp;apply qC;(first|exact fI rfl|exact fF1 rfl))))
   (apply wls;exact qH rfl qQc rfl (p51 x x m mb _ (hp.cell 0 rfl rfl) hx.1 hx.2 hx.1 hx.2 hm hm2);rintro _ w5 ⟨rfl,hk5⟩;have hp:=hp.call hk5)
   (repeat (first|(with_reducible first|apply qA|apply qE|apply qB|apply qZ)|(apply wlp;(first|apply qC|apply qD);exact fI rfl)))
   (apply wlp;exact xA (b:=1) rfl rfl (by decide);exact qI (b:=((k / 2:Nat):Int)) rfl)
   (repeat (first|(with_reducible first|apply qE|apply qB)|(apply wlp;apply qD;exact fI rfl)))
   exact ⟨(k / 2,x * x % (m:Int),p),qG (qG (qG (Same.eq (by repeat (first|exact Same.hav|exact Same.refl|refine Same.put rfl ?_|refine Same.havs rfl ?_))) rfl) rfl) rfl,⟨by dsimp only;omega,hI.even hk1,⟨by dsimp only;omega,by dsimp only;omega⟩,hpm,hp⟩,by dsimp only;omega⟩
 obtain rfl:k = 0:=by omega
 have he:=hI.done hpm
 (repeat (first|(with_reducible first|apply qF|apply qA|apply qE|apply qB|apply qO|apply qT|apply jB)|((with_reducible apply qP);exact rfl)|(apply wlp;(first|apply qC|apply qD);exact fI rfl)))
 exact qU rfl rfl ⟨_,rfl,qI he,hp.keeps⟩
theorem qDj (a n m:Nat) (w:World) (ha2:a≤9223372036854775807) (hn:n≤9223372036854775807) (hm:1≤m) (hm2:m≤9223372036854775807) :
  Ret Tryz.prog 16 [.int .i64 (a:Int),.int .i64 (n:Int),.int .i64 (m:Int)] w (fun v w'=>v = .int .i64 ((a ^ n % m:Nat):Int)∧Keeps [] w w'):=
 (p16 (a:Int) n m w (by omega) (by omega) hn hm hm2).mono fun v w' ⟨hv,hk⟩=>⟨by rw [hv,← Int.natCast_pow,← Int.natCast_emod],hk⟩
theorem p69 (a:Nat) (w:World) (h:Go.Grp.Mb a):Ret Tryz.prog 69 [.int .i64 (a:Int)] w (fun v w'=>v = .bool true∧Keeps [] w w'):=by
 obtain ⟨h1,h2,h3⟩:=h
 have hP:Go.Grp.gP = 2305843009213691579:=rfl
 have hQ:Go.Grp.gQ = 1152921504606845789:=rfl
 rw [hP] at h2
 have h16:∀ w,Ret Tryz.prog 16 [.int .i64 (a:Int),.int .i64 1152921504606845789,.int .i64 2305843009213691579] w (fun v w'=>v = .int .i64 ((1:Nat):Int)∧Keeps [] w w'):=fun w=>by
  have h4:=qDj a Go.Grp.gQ Go.Grp.gP w (by omega) (by decide) (by decide) (by decide)
  rw [h3] at h4
  exact h4
 clear h3
 refine Ret.of_WP Tryz.func69 rfl Tryz.ntmps69 rfl ?_
 have hp:=Hp.start (M:=[]) (w:=w)
 (repeat (with_reducible first|apply qF|apply qA))
 (apply wlp;apply qD;exact fB rfl)
 (repeat (with_reducible first|apply qF|apply qA|apply qE|apply qB))
 (apply wlp;apply qC;exact fI rfl)
 (apply wlp;(exact xF rfl rfl);exact jF (b:=true) (decide_eq_true (by omega)))
 (apply wlp;apply qC;exact fB rfl)
 ((apply jO;exact rfl;exact rfl);(apply qC);(intros;exact fI rfl))
 (apply jO;exact rfl;exact rfl;(exact kB rfl rfl);exact jF (b:=true) (decide_eq_true (by omega)))
 (apply wlp;exact zM rfl rfl;exact fB rfl)
 (apply wlp;apply qC;exact fB rfl)
 ((apply jO;exact rfl;exact rfl);(apply qC);(intros;exact fI rfl))
 (apply qAu;exact rfl;exact rfl;exact qH rfl qAd rfl (h16 _);rintro _ w1 ⟨rfl,hk⟩;have hp:=hp.call hk)
 (apply jO;exact rfl;exact rfl;(exact zF rfl rfl);exact jF (b:=true) (decide_eq_true (by omega)))
 (apply wlp;exact zM rfl rfl;exact fB rfl)
 (repeat (first|(with_reducible first|apply qE|apply qB|apply qT)|(apply wlp;apply qD;exact fB rfl)))
 exact qU rfl rfl ⟨_,rfl,rfl,hp.keeps⟩
end Go.Proofs.YtbgldmoikimmpaaGreatDoor
namespace Go.Proofs.YtbgldmoikimmpaaGreatDoor
open Go.Eng Go.Dig Go.Lag
structure InvI (a:Int) (m x y:Nat) (s t:Int):Prop where
 gcd:Nat.gcd x y = 1
 cs:Cg (m:Int) (s * a) (x:Int)
 ct:Cg (m:Int) (t * a) (y:Int)
 bd:x * t.natAbs + y * s.natAbs = m
 sg:(0≤s∧t≤0)∨(s≤0∧0≤t)
 xm:x≤m
 ym:y≤m
 sm:s.natAbs≤m
 tm:t.natAbs≤m
theorem InvI.start {a:Int} {m r:Nat} (hm:1≤m) (hr:a % (m:Int) = r) (hrm:r < m) (hg:Nat.gcd m r = 1):InvI a m m r 0 1:=by
 refine ⟨hg,?_,?_,by simp,.inr ⟨by omega,by omega⟩,Nat.le_refl _,by omega,by omega,by omega⟩
 ·exact ⟨-1,by omega⟩
 ·rw [Int.one_mul,← hr]
  exact Cg.mod.symm
theorem qUj {s t:Int} {q:Nat} (h:(0≤s∧t≤0)∨(s≤0∧0≤t)):(s - q * t).natAbs = s.natAbs + q * t.natAbs:=by
 rcases h with ⟨h1,h2⟩|⟨h1,h2⟩
 ·obtain ⟨S,rfl⟩:∃ S:Nat,s = S:=⟨s.toNat,by omega⟩
  obtain ⟨T,rfl⟩:∃ T:Nat,t = -(T:Int):=⟨(-t).toNat,by omega⟩
  rw [Int.mul_neg,Int.sub_neg,Int.natAbs_neg,Int.natAbs_natCast,Int.natAbs_natCast,← Int.natCast_mul,← Int.natCast_add,Int.natAbs_natCast]
 ·obtain ⟨S,rfl⟩:∃ S:Nat,s = -(S:Int):=⟨(-s).toNat,by omega⟩
  obtain ⟨T,rfl⟩:∃ T:Nat,t = T:=⟨t.toNat,by omega⟩
  have e:-(S:Int) - (q:Int) * (T:Int) = -((S + q * T:Nat):Int):=by rw [Int.natCast_add,Int.natCast_mul];omega
  rw [e,Int.natAbs_neg,Int.natAbs_neg,Int.natAbs_natCast,Int.natAbs_natCast,Int.natAbs_natCast]
theorem InvI.next {a:Int} {m x y:Nat} {s t:Int} (h:InvI a m x y s t) (hy:0 < y):InvI a m y (x % y) t (s - (x / y:Nat) * t)∧((x / y:Nat) * t.natAbs)≤m:=by
 have hd:=Nat.div_add_mod x y
 have ha:=qUj (q:=x / y) h.sg
 have hbd:y * (s - (x / y:Nat) * t).natAbs + x % y * t.natAbs = m:=by
  rw [ha,← h.bd,Nat.mul_add,← Nat.mul_assoc]
  have:x * t.natAbs = (y * (x / y)) * t.natAbs + x % y * t.natAbs:=by rw [← Nat.add_mul,hd]
  omega
 have hle:(s - (x / y:Nat) * t).natAbs≤m:=by
  have:1 * (s - (x / y:Nat) * t).natAbs≤y * (s - (x / y:Nat) * t).natAbs:=Nat.mul_le_mul_right _ hy
  omega
 refine ⟨⟨?_,h.ct,?_,hbd,?_,h.ym,Nat.le_trans (Nat.mod_le _ _) h.xm,h.tm,hle⟩,by rw [ha] at hle;omega⟩
 ·rw [Nat.gcd_comm,← Nat.gcd_rec,Nat.gcd_comm]
  exact h.gcd
 ·have e1:(s - (x / y:Nat) * t) * a = s * a - (x / y:Nat) * (t * a):=by rw [Int.sub_mul,Int.mul_assoc]
  have e2:((x % y:Nat):Int) = (x:Int) - (x / y:Nat) * (y:Int):=by
   have h9:(x:Int) = ((x / y * y + x % y:Nat):Int):=by rw [Nat.mul_comm,hd]
   rw [Int.natCast_add,Int.natCast_mul] at h9
   generalize ((x / y:Nat):Int) * (y:Int) = z at h9 ⊢
   omega
  rw [e1,e2]
  exact h.cs.sub (Cg.refl.mul h.ct)
 ·rcases h.sg with ⟨h1,h2⟩|⟨h1,h2⟩
  ·right
   have h9:((x / y:Nat):Int) * t≤0:=Int.mul_nonpos_of_nonneg_of_nonpos (Int.natCast_nonneg _) h2
   generalize ((x / y:Nat):Int) * t = z at h9 ⊢
   omega
  ·left
   have h9:0≤((x / y:Nat):Int) * t:=Int.mul_nonneg (Int.natCast_nonneg _) h2
   generalize ((x / y:Nat):Int) * t = z at h9 ⊢
   omega
theorem InvI.done {a:Int} {m x:Nat} {s t:Int} (h:InvI a m x 0 s t):x = 1∧Cg (m:Int) (s * a) 1:=by
 have:=h.gcd
 rw [Nat.gcd_zero_right] at this
 subst this
 exact ⟨rfl,h.cs⟩
theorem qD4 {k:Nat} (h:k≤9223372036854775807):IntKind.i64.wrap (k:Int) = (k:Int):=qN (by omega) (by omega)
theorem tdn {x y:Nat}:(x:Int).tdiv (y:Int) = ((x / y:Nat):Int):=by rw [Int.tdiv_eq_ediv_of_nonneg (by omega),← Int.natCast_ediv]
attribute [local irreducible] PV StepF wpl wpd WP Ret
theorem jCd (a:Int) (m:Nat) (w:World) (ha:-9223372036854775808≤a) (ha2:a≤9223372036854775807) (hm:2≤m) (hm2:m≤4611686018427387904) (hg:∀ r:Nat,a % (m:Int) = r→Nat.gcd m r = 1) :
  Ret Tryz.prog 143 [.int .i64 a,.int .i64 (m:Int)] w (fun v w'=>(∃ z:Nat,v = .tuple #[.int .i64 (z:Int),.bool true]∧z < m∧Cg (m:Int) ((z:Int) * a) 1)∧Keeps [] w w'):=by
 obtain ⟨r,hr,hrm⟩:=qAm a (m:=m) (by omega)
 have hI:=InvI.start (by omega) hr hrm (hg r hr)
 refine Ret.of_WP Tryz.func143 rfl Tryz.ntmps143 rfl ?_
 have hp:=Hp.start (M:=[]) (w:=w)
 (repeat (first|(with_reducible first|apply qF|apply qA|apply qE|apply qB)|(apply wlp;((first|apply qC|apply qD|apply jA)<;>exact rfl);(first|exact fI rfl|exact fB rfl))))
 refine qM rfl (fun h=>absurd h (by omega)) (fun _=>?_)
 (repeat (first|(with_reducible first|apply qF|apply qA|apply qB|apply qL)|(apply wlp;apply qC;exact fI rfl)))
 (apply wls;exact qH rfl qAs rfl (p53 a (m:Int) _ ha ha2 (by omega) (by omega)))
 rintro _ w1 ⟨rfl,hk⟩
 have hp:=hp.call hk
 rw [hr]
 (repeat (first|(with_reducible first|apply qF|apply qK|apply qA|apply qE|apply qB)|(apply wlp;apply qD;exact fI rfl)))
 refine jE [6,7,8,9,10,17,18,19,20,21,22,23,24,25,26,27,28,29,30,31] (fun (X:Nat × Nat × Int × Int) F=>(((F.put 6 (.int .i64 (X.1:Int))).put 7 (.int .i64 (X.2.1:Int))).put 8 (.int .i64 X.2.2.1)).put 9 (.int .i64 X.2.2.2))
  (fun X w'=>InvI a m X.1 X.2.1 X.2.2.1 X.2.2.2∧Hp w [] w' []) (fun X=>X.2.1) (m,r,0,1) (qG (qG (qG (qG (Same.eq .refl) rfl) rfl) rfl) rfl) ⟨hI,hp⟩ ?_
 clear hp hI
 rintro u ⟨x,y,s,t⟩ w2 ⟨hI,hp⟩
 dsimp only at hI hp ⊢
 have hxm:=hI.xm
 have hym:=hI.ym
 have hsm:=hI.sm
 have htm:=hI.tm
 (repeat (first|(with_reducible first|apply qF|apply qA|apply qE|apply qB)|(apply wlp;((first|apply qC|apply zA)<;>exact rfl);(first|exact fI rfl|exact fB rfl))))
 refine qM rfl (fun h=>?_) (fun h=>?_)
 ·have hy:0 < y:=by omega
  obtain ⟨hI2,hqt⟩:=hI.next hy
  have hlt:=Nat.mod_lt x hy
  have htm2:=hI2.tm
  have hq:x / y≤x:=Nat.div_le_self _ _
  have hqa:(((x / y:Nat):Int) * t).natAbs = (x / y) * t.natAbs:=by rw [Int.natAbs_mul,Int.natAbs_natCast]
  have hq1:-9223372036854775808≤((x / y:Nat):Int) * t∧((x / y:Nat):Int) * t≤9223372036854775807:=by
   rw [← hqa] at hqt
   generalize ((x / y:Nat):Int) * t = z at hqt
   omega
  have hq2:-9223372036854775808≤s - ((x / y:Nat):Int) * t∧s - ((x / y:Nat):Int) * t≤9223372036854775807:=by
   generalize s - ((x / y:Nat):Int) * t = z at htm2
   omega
  (repeat (first|(with_reducible first|apply qF|apply qK|apply qA|apply qB|apply qL)|(apply wlp;apply qC;exact fI rfl)))
  (apply wlp;exact yV rfl rfl (by omega);exact qI (b:=((x / y:Nat):Int)) (by rw [tdn];exact qD4 (Nat.le_trans hq (by omega))))
  (repeat (first|(with_reducible first|apply qF|apply qE|apply qB)|(apply wlp;apply qD;exact fI rfl)))
  refine jX jW (by kernel_rfl) (fun w'=>Hp _ _ w' _) hp.drew ?_
  have hp:=hp.drew
  (repeat ((apply wdp;exact rfl);(intro w hp;intros;apply qC);(intros;exact fI rfl)))
  (apply wdp;exact rfl;(intro w hp;exact yU rfl rfl (by omega));exact qI (yP x y))
  (repeat ((apply wdp;exact rfl);(intro w hp;intros;apply qD);(intros;exact fI rfl)))
  refine jL ?_
  (repeat (first|(with_reducible first|apply qA|apply qB)|(apply wlp;apply qC;exact fI rfl)))
  (apply wlp;exact xU rfl rfl;exact qI (b:=((x / y:Nat):Int) * t) (qN hq1.1 hq1.2))
  (apply wlp;exact jN rfl rfl;exact qI (b:=s - ((x / y:Nat):Int) * t) (qN hq2.1 hq2.2))
  (repeat (first|(with_reducible first|apply qE|apply qB|apply qZ)|(apply wlp;apply qD;exact fI rfl)))
  exact ⟨(y,x % y,t,s - ((x / y:Nat):Int) * t),qG (qG (qG (qG (Same.eq (by repeat (first|exact Same.hav|exact Same.refl|refine Same.put rfl ?_|refine Same.havs rfl ?_))) rfl) rfl) rfl) rfl,⟨hI2,hp⟩,hlt⟩
 obtain rfl:y = 0:=by omega
 obtain ⟨rfl,hc⟩:=hI.done
 obtain ⟨z,hz,hzm⟩:=qAm s (m:=m) (by omega)
 (repeat (first|(with_reducible first|apply qF|apply qA|apply qB|apply qO|apply jB)|((with_reducible apply qP);exact rfl)))
 (apply wlp;apply qC;exact fI rfl)
 (apply wlp;exact zJ rfl rfl;exact jF (b:=false) rfl)
 (repeat (with_reducible first|apply qE|apply qB))
 refine jI rfl ?_
 (repeat (first|(with_reducible first|apply qF|apply qA|apply qB|apply qL)|(apply wlp;apply qC;exact fI rfl)))
 (apply wls;exact qH rfl qAs rfl (p53 s (m:Int) _ (by omega) (by omega) (by omega) (by omega)))
 rintro _ w3 ⟨rfl,hk⟩
 have hp:=hp.call hk
 (repeat (first|(with_reducible first|apply qE|apply qB|apply qT)|(apply wlp;apply qD;(first|exact fI rfl|exact fB rfl))))
 rw [hz]
 refine zX rfl rfl rfl ⟨_,rfl,⟨z,rfl,hzm,?_⟩,hp.keeps⟩
 rw [← hz]
 exact (Cg.mod.mul .refl).trans hc
end Go.Proofs.YtbgldmoikimmpaaGreatDoor
namespace Go.Sha
def rr (x n:Nat):Nat:=(x / 2 ^ n) ||| (x * 2 ^ (32 - n) % 4294967296)
def g0 (x:Nat):Nat:=(rr x 7 ^^^ rr x 18) ^^^ (x / 2 ^ 3)
def g1 (y:Nat):Nat:=(rr y 17 ^^^ rr y 19) ^^^ (y / 2 ^ 10)
def f1 (e:Nat):Nat:=(rr e 6 ^^^ rr e 11) ^^^ rr e 25
def f0 (a:Nat):Nat:=(rr a 2 ^^^ rr a 13) ^^^ rr a 22
def ch (e f g:Nat):Nat:=(e &&& f) ^^^ ((4294967295 - e) &&& g)
def mj (a b c:Nat):Nat:=((a &&& b) ^^^ (a &&& c)) ^^^ (b &&& c)
theorem wS {a b:Nat} (ha:a < 4294967296) (hb:b < 4294967296):a ^^^ b < 4294967296:=Nat.xor_lt_two_pow (n:=32) ha hb
theorem qJ9 {a b:Nat} (ha:a < 4294967296) (hb:b < 4294967296):a ||| b < 4294967296:=Nat.or_lt_two_pow (n:=32) ha hb
theorem kP {a b:Nat} (ha:a < 4294967296):a &&& b < 4294967296:=Nat.lt_of_le_of_lt Nat.and_le_left ha
theorem qCh {a n:Nat} (ha:a < 4294967296):a / 2 ^ n < 4294967296:=Nat.lt_of_le_of_lt (Nat.div_le_self a _) ha
theorem vB (a:Nat):a % 4294967296 < 4294967296:=Nat.mod_lt _ (by decide)
theorem xR {x:Nat} (h:x < 4294967296) (n:Nat):rr x n < 4294967296:=qJ9 (qCh h) (vB _)
structure St where
 a:Nat
 b:Nat
 c:Nat
 d:Nat
 e:Nat
 f:Nat
 g:Nat
 h:Nat
structure Ok (s:St):Prop where
 a:s.a < 4294967296
 b:s.b < 4294967296
 c:s.c < 4294967296
 d:s.d < 4294967296
 e:s.e < 4294967296
 f:s.f < 4294967296
 g:s.g < 4294967296
 h:s.h < 4294967296
def t1 (k w:Nat) (s:St):Nat:=(((s.h + f1 s.e) % 4294967296 + ch s.e s.f s.g) % 4294967296 + k) % 4294967296 + w
def T1 (k w:Nat) (s:St):Nat:=t1 k w s % 4294967296
def T2 (s:St):Nat:=(f0 s.a + mj s.a s.b s.c) % 4294967296
def rnd (k w:Nat) (s:St):St:=⟨(T1 k w s + T2 s) % 4294967296,s.a,s.b,s.c,(s.d + T1 k w s) % 4294967296,s.e,s.f,s.g⟩
theorem Ok.rnd {s:St} (h:Ok s) (k w:Nat):Ok (rnd k w s):=⟨vB _,h.a,h.b,h.c,vB _,h.e,h.f,h.g⟩
def wp (bt:Nat→Nat) (j:Nat):Nat→Nat
 | 0=>0
 | k + 1=>(wp bt j k * 2 ^ 8 % 4294967296) ||| bt (4 * j + k)
theorem qUn {bt:Nat→Nat} (hb:∀ k,bt k < 256) (j:Nat):∀ k,wp bt j k < 4294967296
 | 0=>by simp [wp]
 | k + 1=>qJ9 (vB _) (by have:=hb (4 * j + k);omega)
theorem qHx (x b:Nat) (h:b < 256):(x * 256) ||| b = x * 256 + b:=by
 have:=Nat.shiftLeft_add_eq_or_of_lt (i:=8) (b:=b) (by omega) x
 rw [Nat.shiftLeft_eq] at this
 exact this.symm
theorem qJa (k x b:Nat) (h:b < 2 ^ k):(x * 2 ^ k) ||| b = x * 2 ^ k + b:=by
 have:=Nat.shiftLeft_add_eq_or_of_lt (i:=k) (b:=b) h x
 rw [Nat.shiftLeft_eq] at this
 exact this.symm
theorem wp4 {bt:Nat→Nat} (hb:∀ k,bt k < 256) (j:Nat):wp bt j 4 = bt (4 * j) * 2 ^ 24 + bt (4 * j + 1) * 2 ^ 16 + bt (4 * j + 2) * 2 ^ 8 + bt (4 * j + 3):=by
 have h0:=hb (4 * j)
 have h1:=hb (4 * j + 1)
 have h2:=hb (4 * j + 2)
 have h3:=hb (4 * j + 3)
 have e1:wp bt j 1 = bt (4 * j):=by simp [wp]
 have e2:wp bt j 2 = bt (4 * j) * 256 + bt (4 * j + 1):=by
  show (wp bt j 1 * 2 ^ 8 % 4294967296) ||| bt (4 * j + 1) = _
  rw [e1,Nat.mod_eq_of_lt (by omega),qHx _ _ h1]
 have e3:wp bt j 3 = (bt (4 * j) * 256 + bt (4 * j + 1)) * 256 + bt (4 * j + 2):=by
  show (wp bt j 2 * 2 ^ 8 % 4294967296) ||| bt (4 * j + 2) = _
  rw [e2,Nat.mod_eq_of_lt (by omega),qHx _ _ h2]
 show (wp bt j 3 * 2 ^ 8 % 4294967296) ||| bt (4 * j + 3) = _
 rw [e3,Nat.mod_eq_of_lt (by omega),qHx _ _ h3]
 omega
theorem qVq {bt:Nat→Nat} (hb:∀ k,bt k < 256) (j:Nat) :
  (((bt (4 * j) * 2 ^ 24 % 4294967296) ||| (bt (4 * j + 1) * 2 ^ 16 % 4294967296)) ||| (bt (4 * j + 2) * 2 ^ 8 % 4294967296)) ||| bt (4 * j + 3) = wp bt j 4:=by
 have h0:=hb (4 * j)
 have h1:=hb (4 * j + 1)
 have h2:=hb (4 * j + 2)
 have h3:=hb (4 * j + 3)
 rw [wp4 hb,Nat.mod_eq_of_lt (by omega),Nat.mod_eq_of_lt (by omega),Nat.mod_eq_of_lt (by omega)]
 have e1:=qJa 24 (bt (4 * j)) (bt (4 * j + 1) * 2 ^ 16) (by omega)
 have e2:=qJa 16 (bt (4 * j) * 2 ^ 8 + bt (4 * j + 1)) (bt (4 * j + 2) * 2 ^ 8) (by omega)
 have e3:=qJa 8 ((bt (4 * j) * 2 ^ 8 + bt (4 * j + 1)) * 2 ^ 8 + bt (4 * j + 2)) (bt (4 * j + 3)) (by omega)
 rw [e1,show bt (4 * j) * 2 ^ 24 + bt (4 * j + 1) * 2 ^ 16 = (bt (4 * j) * 2 ^ 8 + bt (4 * j + 1)) * 2 ^ 16 by omega,e2,
  show (bt (4 * j) * 2 ^ 8 + bt (4 * j + 1)) * 2 ^ 16 + bt (4 * j + 2) * 2 ^ 8 = ((bt (4 * j) * 2 ^ 8 + bt (4 * j + 1)) * 2 ^ 8 + bt (4 * j + 2)) * 2 ^ 8 by omega,e3]
def wf (bt:Nat→Nat) (n:Nat):Nat:=
 if n < 16 then wp bt n 4 else (((wf bt (n - 16) + g0 (wf bt (n - 15))) % 4294967296 + wf bt (n - 7)) % 4294967296 + g1 (wf bt (n - 2))) % 4294967296
termination_by n
decreasing_by all_goals omega
theorem qO0 (bt:Nat→Nat) {n:Nat} (h:n < 16):wf bt n = wp bt n 4:=by rw [wf,if_pos h]
theorem qO1 (bt:Nat→Nat) {n:Nat} (h:16≤n):wf bt n = (((wf bt (n - 16) + g0 (wf bt (n - 15))) % 4294967296 + wf bt (n - 7)) % 4294967296 + g1 (wf bt (n - 2))) % 4294967296:=by rw [wf,if_neg (by omega)]
theorem qUo {bt:Nat→Nat} (hb:∀ k,bt k < 256) (n:Nat):wf bt n < 4294967296:=by
 rcases Nat.lt_or_ge n 16 with h|h
 ·rw [qO0 bt h];exact qUn hb _ _
 ·rw [qO1 bt h];exact vB _
def K64:List Nat:=[0x428a2f98,0x71374491,0xb5c0fbcf,0xe9b5dba5,0x3956c25b,0x59f111f1,0x923f82a4,0xab1c5ed5,
 0xd807aa98,0x12835b01,0x243185be,0x550c7dc3,0x72be5d74,0x80deb1fe,0x9bdc06a7,0xc19bf174,
 0xe49b69c1,0xefbe4786,0x0fc19dc6,0x240ca1cc,0x2de92c6f,0x4a7484aa,0x5cb0a9dc,0x76f988da,
 0x983e5152,0xa831c66d,0xb00327c8,0xbf597fc7,0xc6e00bf3,0xd5a79147,0x06ca6351,0x14292967,
 0x27b70a85,0x2e1b2138,0x4d2c6dfc,0x53380d13,0x650a7354,0x766a0abb,0x81c2c92e,0x92722c85,
 0xa2bfe8a1,0xa81a664b,0xc24b8b70,0xc76c51a3,0xd192e819,0xd6990624,0xf40e3585,0x106aa070,
 0x19a4c116,0x1e376c08,0x2748774c,0x34b0bcb5,0x391c0cb3,0x4ed8aa4a,0x5b9cca4f,0x682e6ff3,
 0x748f82ee,0x78a5636f,0x84c87814,0x8cc70208,0x90befffa,0xa4506ceb,0xbef9a3f7,0xc67178f2]
def kf (i:Nat):Nat:=K64.getD i 0
def rds (bt:Nat→Nat) (s:St):Nat→St
 | 0=>s
 | i + 1=>rnd (kf i) (wf bt i) (rds bt s i)
theorem Ok.rds {s:St} (h:Ok s) (bt:Nat→Nat):∀ i,Ok (rds bt s i)
 | 0=>h
 | i + 1=>(Ok.rds h bt i).rnd _ _
def addS (s r:St):St:=⟨(s.a + r.a) % 4294967296,(s.b + r.b) % 4294967296,(s.c + r.c) % 4294967296,(s.d + r.d) % 4294967296,(s.e + r.e) % 4294967296,(s.f + r.f) % 4294967296,(s.g + r.g) % 4294967296,(s.h + r.h) % 4294967296⟩
theorem Ok.addS (s r:St):Ok (addS s r):=⟨vB _,vB _,vB _,vB _,vB _,vB _,vB _,vB _⟩
def qJe (bt:Nat→Nat) (s:St):St:=addS s (rds bt s 64)
def ini:St:=⟨0x6a09e667,0xbb67ae85,0x3c6ef372,0xa54ff53a,0x510e527f,0x9b05688c,0x1f83d9ab,0x5be0cd19⟩
theorem Ok.ini:Ok ini:=⟨by decide,by decide,by decide,by decide,by decide,by decide,by decide,by decide⟩
def hs (m:List Nat):Nat→St
 | 0=>ini
 | i + 1=>qJe (fun k=>m.getD (64 * i + k) 0) (hs m i)
theorem Ok.hs (m:List Nat):∀ i,Ok (hs m i)
 | 0=>Ok.ini
 | _ + 1=>Ok.addS _ _
def qEc (n:Nat):List Nat:=(List.range 8).map fun i=>n / 2 ^ (56 - 8 * i) % 256
def qCn (n:Nat):Nat:=(119 - n % 64) % 64
def qGh (s:List Nat):List Nat:=List.replicate (qCn s.length) 0 ++ qEc (s.length * 8)
def pad (s:List Nat):List Nat:=s ++ 128 :: qGh s
theorem qB7 (n:Nat):(qEc n).length = 8:=by simp [qEc]
theorem qM6 (n:Nat):∀ d ∈ qEc n,d < 256:=by
 intro d hd
 unfold qEc at hd
 obtain ⟨i,_,rfl⟩:=List.mem_map.1 hd
 exact Nat.mod_lt _ (by decide)
theorem qHu (s:List Nat):(pad s).length = s.length + 9 + qCn s.length:=by
 simp only [pad,qGh,List.length_append,List.length_cons,List.length_replicate,qB7]
 omega
theorem qLz (s:List Nat):(pad s).length % 64 = 0:=by
 rw [qHu]
 unfold qCn
 omega
def wd (s:St) (j:Nat):Nat:=[s.a,s.b,s.c,s.d,s.e,s.f,s.g,s.h].getD j 0
def fin (s:List Nat):St:=hs (pad s) ((pad s).length / 64)
def shb (s:List Nat) (i:Nat):Nat:=wd (fin s) (i / 4) / 2 ^ (24 - i % 4 * 8) % 256
theorem qK3 (s:List Nat) (i:Nat):shb s i < 256:=Nat.mod_lt _ (by decide)
def sha (s:List Nat):List Nat:=(List.range 32).map (shb s)
theorem qSq (s:List Nat):(sha s).length = 32:=by simp [sha]
end Go.Sha
namespace Go.Proofs.YtbgldmoikimmpaaGreatDoor
open Go.Eng Go.Dig Go.Sha
def u (x:Nat):Value:=.int .u32 (x:Int)
def sv (s:St):List Value:=[u s.a,u s.b,u s.c,u s.d,u s.e,u s.f,u s.g,u s.h]
structure Tabs (w:World):Prop where
 first:∀ j v,(sv ini)[j]? = some v→w.cell? ⟨0,0 + j,none⟩ = some v
 pow:∃ t r,w.heap[2]? = some (.cells (Lib.pow10Tab.map fun z=>Value.int .u64 z).toArray t r)
 cons:∀ i,i < 64→w.cell? ⟨1,0 + i * 1,none⟩ = some (u (kf i))
theorem Tabs.keep {w w':World} (h:Tabs w) (hk:Keeps [] w w'):Tabs w':=
 ⟨fun j v hv=>hk.cell (h.first j v hv) (by simp),by
  obtain ⟨t,r,hb⟩:=h.pow
  exact ⟨t,r,(hk.block 2 (by rcases Nat.lt_or_ge 2 w.heap.size with h|h;exact h;rw [Array.getElem?_eq_none h] at hb;cases hb) (by simp)).trans hb⟩,fun i hi=>hk.cell (h.cons i hi) (by simp)⟩
theorem vN {a b:Nat} (h:a≤b):Nat.ble a b = true:=Nat.ble_eq_true_of_le h
theorem xE {b m t:Nat} {f g:Fr} (h:∀ i,i < m→f i = g i):blk b m f t = blk b m g t:=by
 have:(Array.ofFn (n:=m) fun i=>f i) = Array.ofFn (n:=m) fun i=>g i:=by
  apply Array.ext
  ·simp
  ·intro i h1 h2
   simp only [Array.getElem_ofFn]
   exact h i (by simpa using h1)
 unfold blk qCk
 rw [this]
section
variable {P:Program} {n:FrK} {w:World} {F:Fr} {d:Option Tmp} {ty:TypeId} {pos:String} {aft:Array Edge} {g:Option (Nat × Bool)} {x y:Operand} {t t':Nat}
theorem qW3 {k:IntKind} {a:Int} (hx:ev n F x = .int k a):PV P n w F ⟨d,.unOp .neg t x,ty,pos,aft,g⟩ (.int k (k.wrap (-a))):=by
 simp [PV,execOp,hx,Op.unary,Op.intArith]
theorem qJ6 {a:Nat} (hx:ev n F x = .int .u32 (a:Int)) (ha:a < 4294967296):PV P n w F ⟨d,.unOp .xor t x,ty,pos,aft,g⟩ (u (4294967295 - a)):=by
 have h1:(BitVec.ofInt 32 (4294967295:Int) ^^^ BitVec.ofInt 32 (a:Int)).toNat = 4294967295 - a:=by
  rw [show BitVec.ofInt 32 (4294967295:Int) = BitVec.allOnes 32 from rfl,BitVec.allOnes_xor,BitVec.toNat_not,yX 32 a ha]
 have h3:=qHc (show 4294967295 - a < 2 ^ 32 by omega)
 simp only [PV,execOp,hx,Op.unary,Op.intBits]
 show Sem.run P (pure (Next.value (Value.int IntKind.u32 (IntKind.u32.wrap ((BitVec.ofInt 32 (4294967295:Int) ^^^ BitVec.ofInt 32 (a:Int)).toNat:Int))))) w = _
 rw [h1,h3]
 rfl
theorem qBn {a b:Nat} (hx:ev n F x = .int .u32 (a:Int)) (hy:ev n F y = .int .u32 (b:Int)) (ha:a < 4294967296) (hb:b < 4294967296):PV P n w F ⟨d,.binOp .or t x y t',ty,pos,aft,g⟩ (u (a ||| b)):=qHn hx hy ha hb
theorem xC {a b:Nat} (hx:ev n F x = .int .u32 (a:Int)) (hy:ev n F y = .int .u32 (b:Int)) (ha:a < 4294967296) (hb:b < 4294967296):PV P n w F ⟨d,.binOp .xor t x y t',ty,pos,aft,g⟩ (u (a ^^^ b)):=by
 have h1:(BitVec.ofInt 32 (a:Int) ^^^ BitVec.ofInt 32 (b:Int)).toNat = a ^^^ b:=by
  rw [BitVec.toNat_xor,yX 32 a ha,yX 32 b hb]
 have h2:a ^^^ b < 2 ^ 32:=Nat.xor_lt_two_pow ha hb
 have h3:=qHc h2
 simp only [PV,execOp,hx,hy,eqGuard,binOp,Op.intBits]
 show Sem.run P (pure (Next.value (Value.int IntKind.u32 (IntKind.u32.wrap ((BitVec.ofInt 32 (a:Int) ^^^ BitVec.ofInt 32 (b:Int)).toNat:Int))))) w = _
 rw [h1,h3]
 rfl
theorem vU {a b:Nat} (hx:ev n F x = .int .u32 (a:Int)) (hy:ev n F y = .int .u32 (b:Int)) (ha:a < 4294967296) (hb:b < 4294967296):PV P n w F ⟨d,.binOp .and t x y t',ty,pos,aft,g⟩ (u (a &&& b)):=by
 have h1:(BitVec.ofInt 32 (a:Int) &&& BitVec.ofInt 32 (b:Int)).toNat = a &&& b:=by
  rw [BitVec.toNat_and,yX 32 a ha,yX 32 b hb]
 have h2:a &&& b < 2 ^ 32:=Nat.and_lt_two_pow a hb
 have h3:=qHc h2
 simp only [PV,execOp,hx,hy,eqGuard,binOp,Op.intBits]
 show Sem.run P (pure (Next.value (Value.int IntKind.u32 (IntKind.u32.wrap ((BitVec.ofInt 32 (a:Int) &&& BitVec.ofInt 32 (b:Int)).toNat:Int))))) w = _
 rw [h1,h3]
 rfl
end
attribute [local irreducible] PV StepF wpl wpd WP Ret
theorem jBo (x n:Nat) (w:World) (hx:x < 4294967296) (h1:1≤n) (h2:n≤31) :
  Ret Tryz.prog 350 [u x,.int .i64 (-(n:Int))] w (fun v w'=>v = u (rr x n)∧Keeps [] w w'):=by
 refine Ret.of_WP Tryz.func350 rfl Tryz.ntmps350 rfl ?_
 have hp:=Hp.start (M:=[]) (w:=w)
 (repeat (with_reducible first|apply qF|apply qA))
 (apply wlp;apply qD;exact fI rfl)
 (repeat (with_reducible first|apply qF|apply qA|apply qE|apply qB))
 (apply wlp;apply qC;exact fI rfl)
 (apply wlp;exact zQ rfl rfl rfl;exact qI (b:=((18446744073709551616 - n:Nat):Int)) (by rw [IntKind.wrap_u64];omega))
 (apply wlp;exact qFa (k:=5) rfl rfl (by omega) rfl (by decide);exact qI (b:=((32 - n:Nat):Int)) (by omega))
 (repeat (first|(with_reducible first|apply qF|apply qA|apply qE|apply qB)|(apply wlp;(first|apply qC|apply qD);exact fI rfl)))
 (apply wlp;exact wC (b:=32 - n) rfl rfl (by omega);exact qI (b:=((x * 2 ^ (32 - n) % 4294967296:Nat):Int)) rfl)
 (repeat (apply wlp;apply qC;exact fI rfl))
 (apply wlp;exact jN rfl rfl;exact qI (b:=(n:Int)) (by rw [IntKind.wrap_u64];omega))
 (apply wlp;exact xA (b:=n) rfl rfl (by show n≤32;omega);exact qI (b:=((x / 2 ^ n:Nat):Int)) rfl)
 (apply wlp;exact qBn rfl rfl (vB _) (qCh hx);exact qI (b:=((rr x n:Nat):Int)) (by rw [Nat.or_comm];rfl))
 (repeat (first|(with_reducible first|apply qE|apply qB|apply qT)|(apply wlp;apply qD;exact fI rfl)))
 exact qU rfl rfl ⟨_,rfl,rfl,hp.keeps⟩
theorem qG6 (x n:Nat) (w:World) (hx:x < 4294967296) (h1:1≤n) (h2:n≤31) :
  Ret Tryz.prog 316 [u x,.int .i64 (n:Int)] w (fun v w'=>v = u (rr x n)∧Keeps [] w w'):=by
 refine Ret.of_WP Tryz.func316 rfl Tryz.ntmps316 rfl ?_
 have hp:=Hp.start (M:=[]) (w:=w)
 (repeat (with_reducible first|apply qF|apply qA))
 (apply wlp;apply qD;exact fI rfl)
 (repeat (with_reducible first|apply qF|apply qA|apply qE|apply qB))
 (apply wlp;apply qC;exact fI rfl)
 (apply wlp;apply qC;exact fI rfl)
 (apply wlp;exact qW3 rfl;exact qI (b:=-(n:Int)) (qN (by omega) (by omega)))
 (apply wls;exact qH rfl qWz rfl (jBo x n _ hx h1 h2))
 rintro _ w1 ⟨rfl,hk⟩
 have hp:=hp.call hk
 (repeat (first|(with_reducible first|apply qE|apply qB|apply qT)|(apply wlp;apply qD;exact fI rfl)))
 exact qU rfl rfl ⟨_,rfl,rfl,hp.keeps⟩
end Go.Proofs.YtbgldmoikimmpaaGreatDoor
