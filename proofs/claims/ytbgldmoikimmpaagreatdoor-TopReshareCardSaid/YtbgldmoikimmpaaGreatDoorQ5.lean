/- Merged texts of ours: J3 J4 K1 K2 K3 K4 Sr K5 K6 K7 Lp; conditions are the hypotheses of each law. -/
import Derived.Test.YtbgldmoikimmpaaGreatDoorQ4
namespace Go.Proofs.YtbgldmoikimmpaaGreatDoor
open Go.Eng Go.Dig Go.Sha Go.Lag Go.Grp Go.Sp
def mbT (i:Nat):ByteArray:=(⟨#[109,101,109,98,101,114,32]⟩:ByteArray) ++ xD i
def qCu (first i:Nat):Nat:=wI (bl (mbT (first + i)))
theorem qSs (first i:Nat):qCu first i < 1152921504606845789:=qLp _
structure CwP (first:Nat) (ms:List Mem) (secs:List Nat):Prop where
 sl:secs.length = ms.length
 id:ms.map Mem.id = List.range' first ms.length
 wt:∀ m ∈ ms,1≤m.wt∧m.wt≤3
 pb:ms.map Mem.pb = pws 4 secs
 sb:∀ x ∈ secs,x < 1152921504606845789
structure CwOk (first:Nat) (ms:List Mem) (secs:List Nat):Prop where
 p:CwP first ms secs
 l1:1≤ms.length
 l4:ms.length≤4
theorem CwP.nil (first:Nat):CwP first [] []:=⟨rfl,rfl,by simp,rfl,by simp⟩
theorem CwP.snoc {first:Nat} {ms:List Mem} {secs:List Nat} (h:CwP first ms secs) {z x:Nat} (hz:z < 3) (hx:x < 1152921504606845789):CwP first (ms ++ [⟨first + ms.length,1 + z,4 ^ x % gP⟩]) (secs ++ [x]):=by
 refine ⟨by simp [h.sl],?_,?_,?_,?_⟩
 ·rw [List.map_append,h.id,List.length_append,List.map_singleton,List.length_singleton,← List.range'_append_1]
  rfl
 ·intro m hm
  rcases List.mem_append.1 hm with hm|hm
  ·exact h.wt m hm
  ·rw [List.mem_singleton.1 hm]
   dsimp only
   omega
 ·rw [List.map_append,h.pb]
  unfold pws
  rw [List.map_append]
  rfl
 ·intro y hy
  rcases List.mem_append.1 hy with hy|hy
  ·exact h.sb y hy
  ·rw [List.mem_singleton.1 hy]
   exact hx
theorem qLj:∀ {ws:List Nat},(∀ x ∈ ws,x≤3)→ws.sum≤3 * ws.length
 | [],_=>by simp
 | w :: ws,h=>by
  have h1:=h w List.mem_cons_self
  have h2:=qLj fun y hy=>h y (List.mem_cons_of_mem _ hy)
  simp only [List.sum_cons,List.length_cons]
  omega
theorem CwOk.ms {first:Nat} {ms:List Mem} {secs:List Nat} (h:CwOk first ms secs) (hf:first≤1000):MsOk ms:=by
 have hw:∀ x ∈ zC ms,1≤x∧x≤3:=fun x hx=>by
  obtain ⟨m,hm,rfl⟩:=List.mem_map.1 hx
  exact h.p.wt m hm
 have h1:=h.l1
 have h4:=h.l4
 have hs:=qLj (ws:=zC ms) fun x hx=>(hw x hx).2
 have hl:=uX ms
 refine ⟨by rw [h.p.id];exact List.nodup_range' ,⟨by omega,by omega,fun x hx=>(hw x hx).1,fun x hx=>by have:=(hw x hx).2;omega,by omega⟩,?_,?_⟩
 ·intro m hm
  have:m.id ∈ ms.map Mem.id:=List.mem_map.2 ⟨m,hm,rfl⟩
  rw [h.p.id,List.mem_range'_1] at this
  omega
 ·intro m hm
  have:m.pb ∈ ms.map Mem.pb:=List.mem_map.2 ⟨m,hm,rfl⟩
  rw [h.p.pb] at this
  obtain ⟨x,_,hx⟩:=List.mem_map.1 this
  rw [← hx]
  exact qC1 4 x
attribute [local irreducible] PV StepF wpl wpd WP Ret
attribute [local irreducible] Fit ofN xD hv scP xN yC yY atP Mb inL fac zB inP lft elP pfC pfZ bsR dec scR wI qCu
set_option maxHeartbeats 4000000 in
theorem p10 (l:List Int) (first:Nat) (s:Option Addr) (c:Nat) (w:World) (hs:SlAt w 1 eI s l) (hl:l.length≤9223372036854775807) (hf:first≤1000) :
  Ret Tryz.prog 10 [.slice s l.length c,.int .i64 (first:Int)] w (fun v w'=>∃ ms secs sM cM sS cS,v = .tuple #[.slice sM ms.length cM,.slice sS secs.length cS]∧CwOk first ms secs∧SVL sM cM ms∧SVL sS cS secs∧Hp w [] w' [qW eMe 80 3 sM cM ms,qW eN 3 1 sS cS secs]):=by
 have hsw:l ≠ []→∀ b o,s = some ⟨b,o,none⟩→b < w.heap.size:=fun h b o e=>hs.lt (fun _=>rfl) (by decide) h e
 refine Ret.of_WP Tryz.func10 rfl Tryz.ntmps10 rfl ?_
 have hp:=Hp.start (M:=[]) (w:=w)
 (repeat (first|(with_reducible first|apply qF|apply qA|apply qE|apply qB)|(apply wlp;((first|apply qC|apply qD|(apply xJ;exact rfl))<;>exact rfl);(first|exact fS rfl|exact fA2 rfl))))
 (apply wls;exact uY hp rfl;rintro _ w1 ⟨nb,rfl,hp⟩)
 have hp:Hp w [] w1 [blk nb 2 (qV [.slice s l.length c,.int .i64 ((0:Nat):Int)]) 84]:=hp
 have hnw:=hp.newer (i:=0) rfl
 have hsn:l ≠ []→∀ b o,s = some ⟨b,o,none⟩→b ≠ nb:=fun h b o e=>by have:=hsw h b o e;omega
 (repeat (first|(with_reducible first|apply qF|apply qA|apply qE|apply qB)|(apply wlp;(first|apply qC|apply qD);exact fP rfl)))
 (apply wls;exact qH rfl qQj rfl (p25 l 4 0 nb c s _ (by decide) (by decide) hl (hs.keep0 hp.keeps) (hp.has 0 _ rfl nb rfl) (by omega) hsn);rintro _ w2 ⟨z0,k0,rfl,hz0,hk0,hkk,hob⟩;have hp:=hp.callAt 0 rfl hkk hob;clear hob hkk)
 have hp:Hp w [] w2 [blk nb 2 (qV [.slice s l.length c,.int .i64 (k0:Int)]) 84]:=hp
 (apply wlp;(exact qY rfl rfl);exact qI (b:=((1 + z0:Nat):Int)) (by rw [qN (by omega) (by omega)];omega))
 (repeat (first|(with_reducible first|apply qF|apply qK|apply qA|apply qE|apply qB)|(apply wlp;apply qD;(first|exact fI rfl|exact fS rfl))))
 have hp:=(hp.nilL eN 3 1).nilL eMe 80 3
 have hp:Hp w [] w2 [qW eMe 80 3 none 0 [],qW eN 3 1 none 0 [],blk nb 2 (qV [.slice s l.length c,.int .i64 (k0:Int)]) 84]:=hp
 refine jE ([8,9,10,11,12] ++ List.range' 19 29) (fun (X:List Mem × List Nat × Nat × (Option Addr × Nat) × (Option Addr × Nat)) F=>((F.put 10 (.int .i64 (X.1.length:Int))).put 8 (.slice X.2.2.2.1.1 X.1.length X.2.2.2.1.2)).put 9 (.slice X.2.2.2.2.1 X.2.1.length X.2.2.2.2.2))
  (fun X w'=>X.1.length≤1 + z0∧CwP first X.1 X.2.1∧X.2.2.1≤l.length∧SVL X.2.2.2.1.1 X.2.2.2.1.2 X.1∧SVL X.2.2.2.2.1 X.2.2.2.2.2 X.2.1∧Hp w [] w' [qW eMe 80 3 X.2.2.2.1.1 X.2.2.2.1.2 X.1,qW eN 3 1 X.2.2.2.2.1 X.2.2.2.2.2 X.2.1,blk nb 2 (qV [.slice s l.length c,.int .i64 (X.2.2.1:Int)]) 84]) (fun X=>1 + z0 - X.1.length) ([],[],k0,(none,0),(none,0))
  (qG (qG (qG (Same.eq .refl) rfl) rfl) rfl) ⟨Nat.zero_le _,CwP.nil first,hk0,SVL.nil,SVL.nil,hp⟩ ?_
 (repeat clear hp)
 clear hk0 k0
 rintro u0 ⟨ms,secs,k,⟨sM,cM⟩,⟨sS,cS⟩⟩ w3 ⟨hi,hC,hk,hv1,hv2,hp⟩
 dsimp only at hi hC hk hv1 hv2 hp ⊢
 have hsl:=hC.sl
 (repeat (first|(with_reducible first|apply qF|apply qA|apply qE|apply qB)|(apply wlp;((first|apply qC|apply jA)<;>exact rfl);(first|exact fI rfl|exact fB rfl))))
 refine qM rfl (fun h=>?_) (fun h=>?_)
 ·have hd:=xY (show first + ms.length≤9223372036854775807 by omega)
  have hms:=yE (⟨#[109,101,109,98,101,114,32]⟩:ByteArray) (xD (first + ms.length))
  have e1:(⟨#[109,101,109,98,101,114,32]⟩:ByteArray).size = 7:=rfl
  have hmt:(mbT (first + ms.length)).size≤26:=by unfold mbT;omega
  have hxl:=qSs first ms.length
  have hx:wI (bl (mbT (first + ms.length))) = qCu first ms.length:=by unfold qCu;rfl
  (repeat (first|(with_reducible first|apply qF|apply qK|apply qA|apply qB|apply qL)|(apply wlp;apply qC;exact fI rfl)))
  (apply wlp;(exact qY rfl rfl);exact qI (b:=((first + ms.length:Nat):Int)) (by rw [qN (by omega) (by omega)];omega))
  (apply wls;exact qH rfl qAe rfl (p12 (first + ms.length) _ (by omega)))
  rintro _ w4 ⟨rfl,hkk⟩
  have hp:=hp.call hkk
  (apply wlp;exact jY rfl rfl (by show 7 + _≤_;omega);exact congrArg Value.string (show _ = mbT (first + ms.length) from rfl))
  (apply wls;exact qH rfl jAx rfl (p33 (mbT (first + ms.length)) _ (by omega)))
  rintro _ w5 ⟨rfl,hkk⟩
  have hp:=hp.call hkk
  rw [hx]
  generalize qCu first ms.length = x at hxl
  (repeat (first|(with_reducible first|apply qF|apply qA|apply qE|apply qB)|(apply wlp;((first|apply qC|apply qD|apply jK)<;>exact rfl);(first|exact fI rfl|exact fS rfl|exact fU rfl))))
  (apply wlp;(exact qY rfl rfl);exact qI (b:=((first + ms.length:Nat):Int)) (by rw [qN (by omega) (by omega)];omega))
  (repeat (apply wlp;apply qC;exact fP rfl))
  (apply wls;exact qH rfl qQj rfl (p25 l 3 k nb c s _ (by decide) (by decide) hl (hs.keep0 hp.keeps) (hp.has 2 _ rfl nb rfl) hk hsn);rintro _ w6 ⟨z,k',rfl,hz,hk',hkk,hob⟩;have hp:=hp.callAt 2 rfl hkk hob;clear hob hkk)
  have hp:Hp w [] w6 [qW eMe 80 3 sM cM ms,qW eN 3 1 sS cS secs,blk nb 2 (qV [.slice s l.length c,.int .i64 (k':Int)]) 84]:=hp
  have hCs:=hC.snoc hz hxl
  (apply wlp;(exact qY rfl rfl);exact qI (b:=((1 + z:Nat):Int)) (by rw [qN (by omega) (by omega)];omega))
  (repeat (apply wlp;((first|apply qC|(apply xJ;exact rfl))<;>exact rfl);(first|exact fI rfl|exact fA3 rfl)))
  (apply wls;exact jP (cs:=eMe ⟨first + ms.length,1 + z,4 ^ x % gP⟩) hp rfl rfl rfl rfl rfl rfl rfl;rintro _ w7 ⟨nb2,rfl,hp⟩)
  (apply wls;exact zL eMe ms ⟨first + ms.length,1 + z,4 ^ x % gP⟩ hp 1 0 rfl rfl rfl rfl rfl rfl (fun _=>rfl) rfl rfl rfl hv1 rfl rfl (by omega);rintro _ w8 ⟨sM',cM',rfl,hv1',hp⟩)
  have hp:=hp.tail
  (repeat (first|(with_reducible first|apply qA|apply qE|apply qB)|(apply wlp;(first|apply qC|apply qD);(first|exact fI rfl|exact fS rfl))))
  (apply wls;exact jP (cs:=eN x) hp rfl rfl rfl rfl rfl rfl rfl;rintro _ w9 ⟨nb3,rfl,hp⟩)
  (apply wls;exact zL eN secs x hp 2 0 rfl rfl rfl rfl rfl rfl (fun _=>rfl) rfl rfl rfl hv2 rfl rfl (by omega);rintro _ w10 ⟨sS',cS',rfl,hv2',hp⟩)
  have hp:=hp.tail
  have hml:(ms ++ [(⟨first + ms.length,1 + z,4 ^ x % gP⟩:Mem)]).length = ms.length + 1:=by simp
  (repeat (first|(with_reducible first|apply qA|apply qE|apply qB|apply qZ)|(apply wlp;(first|apply qC|apply qD);(first|exact fI rfl|exact fS rfl))))
  (apply wlp;(exact qY rfl rfl);exact qI (b:=((ms.length + 1:Nat):Int)) (by rw [qN (by omega) (by omega)];omega))
  (repeat (first|(with_reducible first|apply qE|apply qB)|(apply wlp;apply qD;exact fI rfl)))
  exact ⟨(ms ++ [(⟨first + ms.length,1 + z,4 ^ x % gP⟩:Mem)],secs ++ [x],k',(sM',cM'),(sS',cS')),qG (qG (qG (Same.eq (by repeat (first|exact Same.hav|exact Same.refl|refine Same.put rfl ?_|refine Same.havs rfl ?_))) (by show Value.int .i64 ((ms.length + 1:Nat):Int) = _;rw [← hml])) rfl) rfl,⟨by dsimp only;omega,hCs,hk',hv1',hv2',hp⟩,by dsimp only;omega⟩
 have hml:ms.length = 1 + z0:=by omega
 (repeat (first|(with_reducible first|apply qF|apply qA|apply qE|apply qB|apply qO|apply qT|apply jB)|((with_reducible apply qP);exact rfl)|(apply wlp;(first|apply qC|apply qD);exact fS rfl)))
 exact zX rfl rfl rfl ⟨_,rfl,ms,secs,sM,cM,sS,cS,rfl,⟨hC,by omega,by omega⟩,hv1,hv2,hp.sub (List.sublist_append_left [_,_] [_])⟩
theorem qSi {c:List Nat} {x i:Nat} (h:i < c.length):vl (c.drop i) x = (vl (c.drop (i + 1)) x * x % gQ + c[i]) % gQ:=by
 rw [List.drop_eq_getElem_cons h]
 rfl
theorem p27 (cs:List Nat) (x:Nat) (s:Option Addr) (c:Nat) (w:World) (hs:SlAt w 1 eN s cs) (hl:cs.length≤1000000) (hx:x≤9223372036854775807) (hcs:∀ a ∈ cs,a < 1152921504606845789) :
  Ret Tryz.prog 27 [.slice s cs.length c,.int .i64 (x:Int)] w (fun v w'=>v = .int .i64 (vl cs x:Int)∧Keeps [] w w'):=by
 have h0:vl (cs.drop cs.length) x = 0:=by rw [List.drop_length];rfl
 have hlt:∀ i,vl (cs.drop i) x < 1152921504606845789:=fun i=>qBu
 refine Ret.of_WP Tryz.func27 rfl Tryz.ntmps27 rfl ?_
 have hp:=Hp.start (M:=[]) (w:=w)
 (repeat (first|(with_reducible first|apply qF|apply qA|apply qE|apply qB)|(apply wlp;((first|apply qC|apply qD|(apply jC;exact rfl))<;>exact rfl);(first|exact fI rfl|exact fS rfl))))
 (apply wlp;exact jN rfl rfl;exact qI (b:=(cs.length:Int) - 1) (qN (by omega) (by omega)))
 (repeat (first|(with_reducible first|apply qK|apply qE|apply qB)|(apply wlp;apply qD;exact fI rfl)))
 refine jE ([5,6] ++ List.range' 10 12) (fun (i:Nat) F=>(F.put 6 (.int .i64 ((i:Int) - 1))).put 5 (.int .i64 (vl (cs.drop i) x:Int)))
  (fun i w'=>i≤cs.length∧Hp w [] w' []) (fun i=>i) cs.length (qG (qG (Same.eq .refl) rfl) (by rw [h0];rfl)) ⟨Nat.le_refl _,hp⟩ ?_
 clear hp
 rintro u0 i w2 ⟨hi,hp⟩
 (repeat (first|(with_reducible first|apply qF|apply qA|apply qE|apply qB)|(apply wlp;((first|apply qC|apply xF)<;>exact rfl);(first|exact fI rfl|exact fB rfl))))
 refine qM rfl (fun h=>?_) (fun h=>?_)
 ·obtain ⟨j,rfl⟩:∃ j,i = j + 1:=⟨i - 1,by omega⟩
  have hj:j < cs.length:=by omega
  obtain ⟨b0,o0,hs0,hc0⟩:=hs.base (by omega)
  have hci:=hc0 j _ (List.getElem?_eq_getElem hj) 0 _ rfl
  have hv:=qSi (x:=x) hj
  have hva:=hcs _ (List.getElem_mem hj)
  have hl1:=hlt (j + 1)
  generalize cs[j] = a at hci hv hva
  generalize vl (cs.drop (j + 1)) x = z at hv hl1
  rw [show ((j + 1:Nat):Int) - 1 = (j:Int) by omega]
  (repeat (with_reducible first|apply qF|apply qK|apply qB|apply qL))
  refine jX jW (by kernel_rfl) (fun w'=>Hp _ _ w' _) hp.drew ?_
  have hp:=hp.drew
  (repeat ((apply wdp;exact rfl);(intro w hp;intros;apply qC);(intros;exact fI rfl)))
  (apply wds;exact rfl;exact qH rfl qBg rfl (p37 z x 1152921504606845789 _ (by omega) (by omega) (by decide) (by decide)))
  rintro _ w3 ⟨rfl,hk⟩
  have hp:=hp.call hk
  refine ⟨hp,?_⟩
  (repeat ((apply wdp;exact rfl);(intro w hp;intros;((first|apply qC|(apply qJ;exact rfl)|(apply qR;exact rfl))<;>(first|exact rfl|assumption|exact hp.old0 (by assumption))));(intros;(first|exact fI rfl|exact fP rfl|exact fS rfl))))
  have hzl:z * x % 1152921504606845789 < 1152921504606845789:=Nat.mod_lt _ (by decide)
  (apply wds;exact rfl;exact qH rfl qQl rfl (p23 (z * x % 1152921504606845789) a 1152921504606845789 _ (by omega) (by omega) (by decide) (by decide)))
  rintro _ w4 ⟨rfl,hk⟩
  have hp:=hp.call hk
  refine ⟨hp,?_⟩
  have hv:vl (cs.drop j) x = (z * x % 1152921504606845789 + a) % 1152921504606845789:=hv
  rw [← hv]
  (repeat ((apply wdp;exact rfl);(intro w hp;intros;apply qD);(intros;exact fI rfl)))
  refine jL ?_
  (repeat (with_reducible first|apply qA|apply qB|apply qZ))
  (apply wlp;apply qC;exact fI rfl)
  (apply wlp;exact jN rfl rfl;exact qI (b:=(j:Int) - 1) (qN (by omega) (by omega)))
  (repeat (first|(with_reducible first|apply qE|apply qB)|(apply wlp;apply qD;exact fI rfl)))
  exact ⟨j,qG (qG (Same.eq (by repeat (first|exact Same.hav|exact Same.refl|refine Same.put rfl ?_|refine Same.havs rfl ?_))) rfl) rfl,⟨by omega,hp⟩,by omega⟩
 obtain rfl:i = 0:=by omega
 rw [List.drop_zero]
 (repeat (first|(with_reducible first|apply qF|apply qA|apply qE|apply qB|apply qO|apply qT|apply jB)|((with_reducible apply qP);exact rfl)|(apply wlp;(first|apply qC|apply qD);exact fI rfl)))
 exact qU rfl rfl ⟨_,rfl,rfl,hp.keeps⟩
theorem p78 (l:List Nat) (s:Option Addr) (c:Nat) (w:World) (hs:SlAt w 1 eN s l) (hm:∀ a ∈ l,Mb a) (hl:l.length≤1000000):Ret Tryz.prog 78 [.slice s l.length c] w (fun v w'=>v = .bool true∧Keeps [] w w'):=by
 refine Ret.of_WP Tryz.func78 rfl Tryz.ntmps78 rfl ?_
 have hp:=Hp.start (M:=[]) (w:=w)
 (repeat (first|(with_reducible first|apply qF|apply qK|apply qA|apply qE|apply qB)|(apply wlp;apply qD;(first|exact fI rfl|exact fB rfl))))
 refine jE ([2,3,4] ++ List.range' 5 13) (fun (i:Nat) F=>F.put 3 (.int .i64 (i:Int)))
  (fun i w'=>i≤l.length∧Hp w [] w' []) (fun i=>l.length - i) 0 (qG (Same.eq .refl) rfl) ⟨Nat.zero_le _,hp⟩ ?_
 clear hp
 rintro u0 i w2 ⟨hi,hp⟩
 (repeat (first|(with_reducible first|apply qF|apply qA|apply qE|apply qB)|(apply wlp;((first|apply qC|(apply jC;exact rfl)|apply jA)<;>exact rfl);(first|exact fI rfl|exact fB rfl|exact fS rfl))))
 refine qM rfl (fun h=>?_) (fun h=>?_)
 ·have hlt:i < l.length:=by omega
  obtain ⟨b0,o0,hs0,hc0⟩:=hs.base (by omega)
  have hci:=hc0 i _ (List.getElem?_eq_getElem hlt) 0 _ rfl
  have hma:=hm _ (List.getElem_mem hlt)
  generalize l[i] = a at hci hma
  (repeat (first|(with_reducible first|apply qF|apply qK|apply qA|apply qB|apply qL)|(apply wlp;((first|apply qC|(apply qJ;exact rfl)|(apply qR;exact rfl))<;>(first|exact rfl|assumption|exact hp.old0 (by assumption)));(first|exact fI rfl|exact fP rfl|exact fS rfl))))
  (apply wls;exact qH rfl qL3 rfl (qW8 a _ hma))
  rintro _ w3 ⟨rfl,hk⟩
  have hp:=hp.call hk
  (repeat (first|(with_reducible first|apply qF|apply qA|apply qE|apply qB)|(apply wlp;((first|apply qC|apply qD|apply zI)<;>exact rfl);exact fB rfl)))
  refine jI rfl ?_
  (repeat (first|(with_reducible first|apply qA|apply qB|apply qZ|apply qL)|(apply wlp;apply qC;exact fI rfl)))
  (apply wlp;(exact qY rfl rfl);exact qI (b:=((i + 1:Nat):Int)) (by rw [qN (by omega) (by omega)];omega))
  (repeat (first|(with_reducible first|apply qE|apply qB)|(apply wlp;apply qD;exact fI rfl)))
  exact ⟨i + 1,qG (Same.eq (by repeat (first|exact Same.hav|exact Same.refl|refine Same.put rfl ?_|refine Same.havs rfl ?_))) rfl,⟨by omega,hp⟩,by omega⟩
 (repeat (first|(with_reducible first|apply qF|apply qA|apply qE|apply qB|apply qO|apply qT|apply jB)|((with_reducible apply qP);exact rfl)|(apply wlp;apply qD;exact fB rfl)))
 exact qU rfl rfl ⟨_,rfl,rfl,hp.keeps⟩
theorem p83 (cs:List Nat) (x:Nat) (s:Option Addr) (c:Nat) (w:World) (hs:SlAt w 1 eN s cs) (hl:cs.length≤1000000) (hx:x≤9223372036854775807) (hcs:∀ a ∈ cs,a < 2305843009213691579) :
  Ret Tryz.prog 83 [.slice s cs.length c,.int .i64 (x:Int)] w (fun v w'=>v = .int .i64 (atP cs x:Int)∧Keeps [] w w'):=by
 have h10:atI cs x 0 = 1:=by unfold atI;rfl
 have h11:pwQ x 0 = 1:=rfl
 refine Ret.of_WP Tryz.func83 rfl Tryz.ntmps83 rfl ?_
 have hp:=Hp.start (M:=[]) (w:=w)
 (repeat (first|(with_reducible first|apply qF|apply qK|apply qA|apply qE|apply qB)|(apply wlp;apply qD;exact fI rfl)))
 refine jE ([5,6,7] ++ List.range' 8 17) (fun (i:Nat) F=>((F.put 7 (.int .i64 (i:Int))).put 5 (.int .i64 (atI cs x i:Int))).put 6 (.int .i64 (pwQ x i:Int)))
  (fun i w'=>i≤cs.length∧Hp w [] w' []) (fun i=>cs.length - i) 0 (qG (qG (qG (Same.eq .refl) rfl) (by rw [h10];rfl)) (by rw [h11];rfl)) ⟨Nat.zero_le _,hp⟩ ?_
 clear hp
 rintro u0 i w2 ⟨hi,hp⟩
 have hpl:=qK8 x i
 have hal:=qRw cs x i
 (repeat (first|(with_reducible first|apply qF|apply qA|apply qE|apply qB)|(apply wlp;((first|apply qC|(apply jC;exact rfl)|apply jA)<;>exact rfl);(first|exact fI rfl|exact fB rfl|exact fS rfl))))
 refine qM rfl (fun h=>?_) (fun h=>?_)
 ·have hlt:i < cs.length:=by omega
  obtain ⟨b0,o0,hs0,hc0⟩:=hs.base (by omega)
  have hci:=hc0 i _ (List.getElem?_eq_getElem hlt) 0 _ rfl
  have hst:=qJt (cs:=cs) (x:=x) hlt
  have hcl:=hcs _ (List.getElem_mem hlt)
  generalize cs[i] = a at hci hst hcl
  have hpn:pwQ x (i + 1) = pwQ x i * x % 1152921504606845789:=rfl
  generalize pwQ x i = q at hpl hst hpn
  generalize atI cs x i = acc at hal hst
  (repeat (first|(with_reducible first|apply qF|apply qK|apply qA|apply qB|apply qL)|(apply wlp;((first|apply qC|(apply qJ;exact rfl)|(apply qR;exact rfl))<;>(first|exact rfl|assumption|exact hp.old0 (by assumption)));(first|exact fI rfl|exact fP rfl|exact fS rfl))))
  (apply wls;exact qH rfl qFm rfl (p79 a q 2305843009213691579 _ (by omega) (by omega) (by decide) (by decide)))
  rintro _ w3 ⟨rfl,hk⟩
  have hp:=hp.call hk
  have hzl:a ^ q % 2305843009213691579 < 2305843009213691579:=Nat.mod_lt _ (by decide)
  (apply wls;exact qH rfl qBg rfl (p37 acc (a ^ q % 2305843009213691579) 2305843009213691579 _ (by omega) (by omega) (by decide) (by decide)))
  rintro _ w4 ⟨rfl,hk⟩
  have hp:=hp.call hk
  have hst:atI cs x (i + 1) = acc * (a ^ q % 2305843009213691579) % 2305843009213691579:=hst
  rw [← hst]
  (repeat (first|(with_reducible first|apply qA|apply qE|apply qB)|(apply wlp;(first|apply qC|apply qD);exact fI rfl)))
  (apply wls;exact qH rfl qBg rfl (p37 q x 1152921504606845789 _ (by omega) (by omega) (by decide) (by decide)))
  rintro _ w5 ⟨rfl,hk⟩
  have hp:=hp.call hk
  rw [← hpn]
  (repeat (first|(with_reducible first|apply qA|apply qE|apply qB|apply qZ)|(apply wlp;(first|apply qC|apply qD);exact fI rfl)))
  (apply wlp;(exact qY rfl rfl);exact qI (b:=((i + 1:Nat):Int)) (by rw [qN (by omega) (by omega)];omega))
  (repeat (first|(with_reducible first|apply qE|apply qB)|(apply wlp;apply qD;exact fI rfl)))
  exact ⟨i + 1,qG (qG (qG (Same.eq (by repeat (first|exact Same.hav|exact Same.refl|refine Same.put rfl ?_|refine Same.havs rfl ?_))) rfl) rfl) rfl,⟨by omega,hp⟩,by omega⟩
 obtain rfl:i = cs.length:=by omega
 rw [qMt]
 (repeat (first|(with_reducible first|apply qF|apply qA|apply qE|apply qB|apply qO|apply qT|apply jB)|((with_reducible apply qP);exact rfl)|(apply wlp;(first|apply qC|apply qD);exact fI rfl)))
 exact qU rfl rfl ⟨_,rfl,rfl,hp.keeps⟩
theorem jCn (d:DlV) (n:Nat) (w:World) (hd:DlAt w d) (ho:DlOk d n) (hn:n≤1000000):Ret Tryz.prog 125 [.agg (eDl d).toArray,.int .i64 (n:Int)] w (fun v w'=>v = .bool true∧Keeps [] w w'):=by
 obtain ⟨s1,c1,cs,pt,s2,c2,bx⟩:=d
 obtain ⟨hbl,hcl,hcn,hsz,hmb,hpt⟩:=ho
 obtain ⟨hd1,hd2⟩:=hd
 dsimp only at hbl hcl hcn hsz hmb hpt hd1 hd2
 have hE:eDl ⟨s1,c1,cs,pt,s2,c2,bx⟩ = [.slice s1 cs.length c1,.int .i64 (pt:Int),.slice s2 bx.length c2]:=rfl
 rw [hE]
 clear hE
 refine Ret.of_WP Tryz.func125 rfl Tryz.ntmps125 rfl ?_
 have hp:=Hp.start (M:=[]) (w:=w)
 (repeat (with_reducible first|apply qF|apply qA))
 (apply wls;exact qE1 hp rfl;rintro _ w1 ⟨b2,rfl,hp⟩)
 (repeat (first|(with_reducible first|apply qF|apply qA|apply qE|apply qB)|(apply wlp;((first|apply qD|apply qS|(apply qJ;exact rfl))<;>(first|exact rfl|exact hp.cell 0 rfl rfl));(first|exact fI rfl|exact fB rfl|exact fP rfl))))
 (apply wls;exact qH rfl qL3 rfl (qW8 pt _ hpt))
 rintro _ w3 ⟨rfl,hk⟩
 have hp:=hp.call hk
 (repeat (first|(with_reducible first|apply qF|apply qA|apply qE|apply qB)|(apply wlp;((first|apply qD|apply qS|(apply qJ;exact rfl))<;>(first|exact rfl|exact hp.cell 0 rfl rfl));(first|exact fB rfl|exact fP rfl|exact fS rfl))))
 (apply wls;exact qH rfl qV4 rfl (p78 cs s1 c1 _ (hd1.keep0 hp.keeps) hmb (by omega)))
 rintro _ w4 ⟨rfl,hk⟩
 have hp:=hp.call hk
 (repeat (first|(with_reducible first|apply qF|apply qA|apply qE|apply qB)|((first|apply wlp|(apply wlg;exact rfl;exact rfl));(intros;((first|apply qC|apply qD|apply qS|(apply qJ;exact rfl)|(apply jC;exact rfl)|exact qAq rfl rfl rfl|apply jA|apply zA|(apply zJ;(first|exact rfl|exact jR rfl (by assumption)))|apply zI)<;>(first|exact rfl|exact jR rfl (by assumption)|exact hp.cell 0 rfl rfl)));(intros;(first|exact fI rfl|exact fB rfl|exact fP rfl|exact fS rfl)))))
 refine zT rfl (fun h=>absurd h (by simp;omega)) (fun _=>?_)
 (repeat (first|(with_reducible first|apply qF|apply qK|apply qA|apply qE|apply qB|apply qL)|(apply wlp;apply qD;exact fI rfl)))
 refine jE ([4,7] ++ List.range' 40 12) (fun (i:Nat) F=>F.put 7 (.int .i64 (i:Int)))
  (fun i w'=>i≤n∧Hp w [] w' [blk b2 3 (qV [.slice s1 cs.length c1,.int .i64 (pt:Int),.slice s2 bx.length c2]) 54]) (fun i=>n - i) 0 (qG (Same.eq .refl) rfl) ⟨Nat.zero_le _,hp⟩ ?_
 (repeat clear hp)
 rintro u0 i w2 ⟨hi,hp⟩
 (repeat (first|(with_reducible first|apply qF|apply qA|apply qE|apply qB)|(apply wlp;((first|apply qC|apply jA)<;>exact rfl);(first|exact fI rfl|exact fB rfl))))
 refine qM rfl (fun h=>?_) (fun h=>?_)
 ·have hlt:i < bx.length:=by omega
  obtain ⟨b0,o0,hs0,hc0⟩:=hd2.base (by omega)
  have hci:=hc0 i _ (List.getElem?_eq_getElem hlt) 0 _ rfl
  have hsa:=hsz _ (List.getElem_mem hlt)
  generalize bx[i] = a at hci hsa
  (repeat (first|(with_reducible first|apply qF|apply qK|apply qA|apply qE|apply qB|apply qL)|(apply wlp;((first|apply qC|apply qS|(apply qJ;exact rfl)|(apply xP;exact rfl)|(apply zJ;(first|exact rfl|exact jR rfl (by assumption)))|(apply qR;exact rfl))<;>(first|exact rfl|assumption|exact hp.cell 0 rfl rfl|exact hp.old0 (by assumption)));(first|exact fI rfl|exact fB rfl|exact fP rfl|exact fS rfl|exact fT rfl))))
  refine zT rfl (fun h=>absurd h (by simp;omega)) (fun _=>?_)
  (repeat (first|(with_reducible first|apply qA|apply qB|apply qZ|apply qL)|(apply wlp;apply qC;exact fI rfl)))
  (apply wlp;(exact qY rfl rfl);exact qI (b:=((i + 1:Nat):Int)) (by rw [qN (by omega) (by omega)];omega))
  (repeat (first|(with_reducible first|apply qE|apply qB)|(apply wlp;apply qD;exact fI rfl)))
  exact ⟨i + 1,qG (Same.eq (by repeat (first|exact Same.hav|exact Same.refl|refine Same.put rfl ?_|refine Same.havs rfl ?_))) rfl,⟨by omega,hp⟩,by omega⟩
 (repeat (first|(with_reducible first|apply qF|apply qA|apply qE|apply qB|apply qO|apply qT|apply jB)|((with_reducible apply qP);exact rfl)|(apply wlp;apply qD;exact fB rfl)))
 exact qU rfl rfl ⟨_,rfl,rfl,hp.keeps⟩
end Go.Proofs.YtbgldmoikimmpaaGreatDoor
namespace Go.Proofs.YtbgldmoikimmpaaGreatDoor
open Go.Eng Go.Dig Go.Sha Go.Lag Go.Grp Go.Sp
def dlE (d:DlV):List Ent:=[qW eN 3 1 d.s1 d.c1 d.cs,qW eS 9 1 d.s2 d.c2 d.bx]
structure DlOw (d:DlV):Prop where
 v1:SVL d.s1 d.c1 d.cs
 v2:SVL d.s2 d.c2 d.bx
theorem jB8 {w0 w:World} {M:List Nat} {L:List Ent} {d:DlV} (hp:Hp w0 M w L) (h:DlOw d) (hm:∀ p ∈ dlE d,p ∈ L):DlAt w d:=
 ⟨xL hp (hm _ List.mem_cons_self) h.v1 (fun _=>rfl),xL hp (hm _ (List.mem_cons_of_mem _ List.mem_cons_self)) h.v2 (fun _=>rfl)⟩
def bxL (cs keys:List Nat) (n m:Nat):List ByteArray:=(List.range m).map fun i=>yY (vl cs (i + 1)) (keys.getD i 0 ^ n % gP) i
theorem qMm (cs keys:List Nat) (n m:Nat):(bxL cs keys n m).length = m:=by simp [bxL]
theorem qRp (cs keys:List Nat) (n m:Nat):bxL cs keys n (m + 1) = bxL cs keys n m ++ [yY (vl cs (m + 1)) (keys.getD m 0 ^ n % gP) m]:=by
 unfold bxL
 rw [List.range_succ,List.map_append]
 rfl
structure DlHon (d:DlV) (cs keys:List Nat):Prop where
 cm:d.cs = pws 4 cs
 pt:∃ n,n < 1152921504606845789∧d.pt = 4 ^ n % gP∧d.bx = bxL cs keys n keys.length
theorem wO (b:Nat) (c:List Nat):(pws b c).length = c.length:=List.length_map _
theorem qOr {b:Nat} {c:List Nat} {i:Nat} (h:i < c.length):(pws b c).take (i + 1) = (pws b c).take i ++ [b ^ c[i] % gP]:=by
 rw [List.take_succ_eq_append_getElem (by rw [wO];exact h)]
 unfold pws
 rw [List.getElem_map]
theorem qF2 {b:Nat} (hb:Mb b) (c:List Nat):∀ a ∈ pws b c,Mb a:=by
 intro a ha
 obtain ⟨x,_,rfl⟩:=List.mem_map.1 ha
 exact qCd hb x
theorem DlHon.ok {d:DlV} {cs keys:List Nat} (h:DlHon d cs keys) (h1:1≤cs.length) (h2:cs.length≤keys.length):DlOk d keys.length∧d.cs.length = cs.length:=by
 obtain ⟨n,hn,hpt,hbx⟩:=h.pt
 have hl:d.cs.length = cs.length:=by rw [h.cm,wO]
 refine ⟨⟨by rw [hbx,qMm],by omega,by omega,?_,by rw [h.cm];exact qF2 qDl cs,by rw [hpt];exact qCd qDl n⟩,hl⟩
 rw [hbx]
 intro x hx
 obtain ⟨i,_,rfl⟩:=List.mem_map.1 hx
 exact qH1 _ _ _
attribute [local irreducible] PV StepF wpl wpd WP Ret
attribute [local irreducible] Fit ofN xD hv scP xN yC yY atP Mb inL fac zB inP lft elP pfC pfZ bsR dec scR wI qCu
set_option maxHeartbeats 4000000 in
theorem p35 (cs keys:List Nat) (sd:ByteArray) (s1 s2:Option Addr) (c1 c2:Nat) (w:World) (hs1:SlAt w 1 eN s1 cs) (hs2:SlAt w 1 eN s2 keys) (hc1:1≤cs.length) (hck:cs.length≤keys.length) (hk60:keys.length≤60) (hcb:∀ a ∈ cs,a < 1152921504606845789) (hkm:∀ a ∈ keys,Mb a) (hsd:sd.size≤1000000) :
  Ret Tryz.prog 35 [.slice s1 cs.length c1,.slice s2 keys.length c2,.string sd] w (fun v w'=>∃ d:DlV,v = .tuple #[.agg (eDl d).toArray,.bool true]∧DlOw d∧DlHon d cs keys∧Hp w [] w' (dlE d)):=by
 have hpt:=yE (⟨#[112,111,105,110,116,47]⟩:ByteArray) sd
 have e6:(⟨#[112,111,105,110,116,47]⟩:ByteArray).size = 6:=rfl
 refine Ret.of_WP Tryz.func35 rfl Tryz.ntmps35 rfl ?_
 have hp:=Hp.start (M:=[]) (w:=w)
 (repeat (with_reducible first|apply qF|apply qA))
 (apply wls;exact yA hp (jD rfl);rintro _ w1 ⟨b6,rfl,hp⟩)
 (repeat (first|(with_reducible first|apply qF|apply qA|apply qE|apply qB)|(apply wlp;(first|apply qC|apply qD);(first|exact fB rfl|exact fS rfl))))
 (apply wls;exact qH rfl qV4 rfl (p78 keys s2 c2 _ (hs2.keep0 hp.keeps) hkm (by omega)))
 rintro _ w2 ⟨rfl,hk⟩
 have hp:=hp.call hk
 (repeat (first|(with_reducible first|apply qF|apply qA|apply qE|apply qB)|((first|apply wlp|(apply wlg;exact rfl;exact rfl));(intros;((first|apply qC|apply qD|(apply jC;exact rfl)|exact qAq rfl rfl rfl|apply jA|apply zA|apply zI)<;>(first|exact rfl|exact jR rfl (by assumption))));(intros;(first|exact fI rfl|exact fB rfl|exact fS rfl)))))
 refine zT rfl (fun h=>absurd h (by simp;omega)) (fun _=>?_)
 (repeat (first|(with_reducible first|apply qF|apply qK|apply qA|apply qE|apply qB|apply qL)|(apply wlp;apply qD;exact fI rfl)))
 refine jE ([7,9] ++ List.range' 41 19) (fun (i:Nat) F=>F.put 9 (.int .i64 (i:Int)))
  (fun i w'=>i≤cs.length∧Hp w [] w' [blk b6 3 (qV [.slice none 0 0,.int .i64 0,.slice none 0 0]) 54]) (fun i=>cs.length - i) 0 (qG (Same.eq .refl) rfl) ⟨Nat.zero_le _,hp⟩ ?_
 (repeat clear hp)
 rintro u0 i w3 ⟨hi,hp⟩
 (repeat (first|(with_reducible first|apply qF|apply qA|apply qE|apply qB)|(apply wlp;((first|apply qC|(apply jC;exact rfl)|apply jA)<;>exact rfl);(first|exact fI rfl|exact fB rfl|exact fS rfl))))
 refine qM rfl (fun h=>?_) (fun h=>?_)
 ·have hlt:i < cs.length:=by omega
  obtain ⟨b0,o0,hs0,hc0⟩:=hs1.base (by omega)
  have hci:=hc0 i _ (List.getElem?_eq_getElem hlt) 0 _ rfl
  have hba:=hcb _ (List.getElem_mem hlt)
  generalize cs[i] = a at hci hba
  (repeat (first|(with_reducible first|apply qF|apply qK|apply qA|apply qE|apply qB|apply qL)|((first|apply wlp|(apply wlg;exact rfl;exact rfl));(intros;((first|apply qC|(apply qJ;exact rfl)|exact jU rfl rfl|apply jA|apply xF|(apply qR;exact rfl))<;>(first|exact rfl|assumption|exact hp.old0 (by assumption))));(intros;(first|exact fI rfl|exact fB rfl|exact fP rfl|exact fS rfl)))))
  refine zT rfl (fun h=>absurd h (by simp;omega)) (fun _=>?_)
  (repeat (first|(with_reducible first|apply qA|apply qB|apply qZ|apply qL)|(apply wlp;apply qC;exact fI rfl)))
  (apply wlp;(exact qY rfl rfl);exact qI (b:=((i + 1:Nat):Int)) (by rw [qN (by omega) (by omega)];omega))
  (repeat (first|(with_reducible first|apply qE|apply qB)|(apply wlp;apply qD;exact fI rfl)))
  exact ⟨i + 1,qG (Same.eq (by repeat (first|exact Same.hav|exact Same.refl|refine Same.put rfl ?_|refine Same.havs rfl ?_))) rfl,⟨by omega,hp⟩,by omega⟩
 clear hi
 (repeat (first|(with_reducible first|apply qF|apply qA|apply qB|apply qO|apply jB)|((with_reducible apply qP);exact rfl)|(apply wlp;apply qC;exact fT rfl)))
 (apply wlp;exact jY rfl rfl (by show 6 + _≤_;omega);exact fT rfl)
 (apply wls;exact qH rfl qQb rfl (p62 _ _ (by omega));rintro _ w4 ⟨rfl,hk⟩;have hp:=hp.call hk)
 have hnl:=qK4 (bl ((⟨#[112,111,105,110,116,47]⟩:ByteArray) ++ sd))
 generalize scR (bl ((⟨#[112,111,105,110,116,47]⟩:ByteArray) ++ sd)) = n at hnl
 (repeat (first|(with_reducible first|apply qF|apply qA|apply qE|apply qB)|(apply wlp;(first|apply qC|apply qD);exact fI rfl)))
 (apply wls;exact qH rfl qFm rfl (p79 4 n 2305843009213691579 _ (by omega) (by omega) (by decide) (by decide)))
 rintro _ w5 ⟨rfl,hk⟩
 have hp:=hp.call hk
 obtain ⟨pt,hptd⟩:∃ pt,pt = 4 ^ n % 2305843009213691579:=⟨_,rfl⟩
 rw [← hptd]
 (repeat (apply wlp;((apply xJ;exact rfl)<;>exact rfl);exact fA3 rfl))
 (apply wls;exact yA hp (jD rfl);rintro _ w6 ⟨b11,rfl,hp⟩)
 (apply zG;exact vK hp 0 rfl rfl rfl rfl (qQ rfl) rfl;rintro _ w7 ⟨rfl,hp⟩)
 have hp:=hp.norm 0 [.slice none 0 0,.int .i64 (pt:Int),.slice none 0 0] rfl rfl
 have hp:=hp.nilL eN 3 1
 (repeat (first|(with_reducible first|apply qF|apply qK|apply qA|apply qE|apply qB)|(apply wlp;apply qD;exact fI rfl)))
 have hpl:=wO 4 cs
 have htl:∀ i,i≤cs.length→((pws 4 cs).take i).length = i:=fun i hi=>by rw [List.length_take];omega
 have hp:Hp w [] w7 [qW eN 3 1 none 0 ((pws 4 cs).take 0),blk b11 3 (qV [.slice none ((pws 4 cs).take 0).length 0,.int .i64 (pt:Int),.slice none 0 0]) 54,blk b6 3 (qV [.slice none 0 0,.int .i64 0,.slice none 0 0]) 54]:=hp
 refine jE ([12] ++ List.range' 66 16) (fun (X:Nat × Option Addr × Nat) F=>F.put 12 (.int .i64 (X.1:Int)))
  (fun X w'=>X.1≤cs.length∧SVL X.2.1 X.2.2 ((pws 4 cs).take X.1)∧Hp w [] w' [qW eN 3 1 X.2.1 X.2.2 ((pws 4 cs).take X.1),blk b11 3 (qV [.slice X.2.1 ((pws 4 cs).take X.1).length X.2.2,.int .i64 (pt:Int),.slice none 0 0]) 54,blk b6 3 (qV [.slice none 0 0,.int .i64 0,.slice none 0 0]) 54]) (fun X=>cs.length - X.1) (0,none,0) (qG (Same.eq .refl) rfl) ⟨Nat.zero_le _,SVL.nil,hp⟩ ?_
 (repeat clear hp)
 rintro u1 ⟨i,sa,ca⟩ w8 ⟨hi,hsv,hp⟩
 dsimp only at hi hsv hp ⊢
 have hti:=htl i hi
 (repeat (first|(with_reducible first|apply qF|apply qA|apply qE|apply qB)|(apply wlp;((first|apply qC|(apply jC;exact rfl)|apply jA)<;>exact rfl);(first|exact fI rfl|exact fB rfl|exact fS rfl))))
 refine qM rfl (fun h=>?_) (fun h=>?_)
 ·have hlt:i < cs.length:=by omega
  obtain ⟨b0,o0,hs0,hc0⟩:=hs1.base (by omega)
  have hci:=hc0 i _ (List.getElem?_eq_getElem hlt) 0 _ rfl
  have hba:=hcb _ (List.getElem_mem hlt)
  have htn:=qOr (b:=4) hlt
  generalize cs[i] = a at hci hba htn
  (repeat (with_reducible first|apply qF|apply qK|apply qB|apply qL))
  refine xH jW (by kernel_rfl) (fun w'=>Hp _ _ w' _) hp.drew ?_
  have hp:=hp.drew
  (repeat ((apply wdp;exact rfl);(intro w hp;intros;((first|apply qC|apply qS|(apply qJ;exact rfl)|(apply qR;exact rfl))<;>(first|exact rfl|assumption|exact hp.cell 1 rfl rfl|exact hp.old0 (by assumption))));(intros;(first|exact fI rfl|exact fP rfl|exact fS rfl))))
  (apply wds;exact rfl;exact qH rfl qFm rfl (p79 4 a 2305843009213691579 _ (by omega) (by omega) (by decide) (by decide)))
  rintro _ w9 ⟨rfl,hk⟩
  have hp:=hp.call hk
  refine ⟨hp,?_⟩
  (apply wds;exact rfl;exact jP (cs:=eN (4 ^ a % 2305843009213691579)) hp rfl rfl rfl rfl rfl rfl rfl;rintro _ w10 ⟨nb,rfl,hp⟩;refine ⟨hp.tail,?_⟩)
  (apply qSc;exact rfl;exact rfl;exact zL eN ((pws 4 cs).take i) (4 ^ a % 2305843009213691579) hp 1 0 rfl rfl rfl rfl rfl rfl (fun _=>rfl) rfl rfl rfl hsv rfl rfl (by omega);rintro _ w11 ⟨s',c',rfl,hsv',hp⟩)
  have htn:(pws 4 cs).take (i + 1) = (pws 4 cs).take i ++ [4 ^ a % 2305843009213691579]:=htn
  rw [← htn] at hsv' hp
  rw [← htn]
  (repeat ((apply wdp;exact rfl);(intro w hp;intros;(apply qS<;>exact rfl));(intros;exact fP rfl)))
  (apply kH;exact rfl;exact rfl;exact xZ hp 2 rfl rfl rfl rfl (qQ rfl) rfl;rintro _ w12 ⟨rfl,hp⟩)
  have hp:=hp.norm 2 [.slice s' ((pws 4 cs).take (i + 1)).length c',.int .i64 (pt:Int),.slice none 0 0] rfl rfl
  refine jL ?_
  (repeat (first|(with_reducible first|apply qA|apply qB|apply qZ)|(apply wlp;apply qC;exact fI rfl)))
  (apply wlp;(exact qY rfl rfl);exact qI (b:=((i + 1:Nat):Int)) (by rw [qN (by omega) (by omega)];omega))
  (repeat (first|(with_reducible first|apply qE|apply qB)|(apply wlp;apply qD;exact fI rfl)))
  exact ⟨(i + 1,s',c'),qG (Same.eq (by repeat (first|exact Same.hav|exact Same.refl|refine Same.put rfl ?_|refine Same.havs rfl ?_))) rfl,⟨by dsimp only;omega,hsv',hp.tail⟩,by dsimp only;omega⟩
 obtain rfl:i = cs.length:=by omega
 have hall:(pws 4 cs).take cs.length = pws 4 cs:=by rw [← hpl,List.take_length]
 rw [hall] at hsv hp
 clear hti htl
 have hp:=hp.nilL eS 9 1
 have hp:Hp w [] w8 [qW eS 9 1 none 0 (bxL cs keys n 0),qW eN 3 1 sa ca (pws 4 cs),blk b11 3 (qV [.slice sa (pws 4 cs).length ca,.int .i64 (pt:Int),.slice none (bxL cs keys n 0).length 0]) 54,blk b6 3 (qV [.slice none 0 0,.int .i64 0,.slice none 0 0]) 54]:=hp
 (repeat (first|(with_reducible first|apply qF|apply qK|apply qA|apply qE|apply qB|apply qO|apply jB)|((with_reducible apply qP);exact rfl)|(apply wlp;apply qD;exact fI rfl)))
 refine jE ([13] ++ List.range' 82 23) (fun (X:Nat × Option Addr × Nat) F=>F.put 13 (.int .i64 (X.1:Int)))
  (fun X w'=>X.1≤keys.length∧SVL X.2.1 X.2.2 (bxL cs keys n X.1)∧Hp w [] w' [qW eS 9 1 X.2.1 X.2.2 (bxL cs keys n X.1),qW eN 3 1 sa ca (pws 4 cs),blk b11 3 (qV [.slice sa (pws 4 cs).length ca,.int .i64 (pt:Int),.slice X.2.1 (bxL cs keys n X.1).length X.2.2]) 54,blk b6 3 (qV [.slice none 0 0,.int .i64 0,.slice none 0 0]) 54]) (fun X=>keys.length - X.1) (0,none,0) (qG (Same.eq .refl) rfl) ⟨Nat.zero_le _,SVL.nil,hp⟩ ?_
 (repeat clear hp)
 rintro u2 ⟨i,sb,cb⟩ w9 ⟨hi,hsv2,hp⟩
 dsimp only at hi hsv2 hp ⊢
 have hbl:=qMm cs keys n i
 (repeat (first|(with_reducible first|apply qF|apply qA|apply qE|apply qB)|(apply wlp;((first|apply qC|(apply jC;exact rfl)|apply jA)<;>exact rfl);(first|exact fI rfl|exact fB rfl|exact fS rfl))))
 refine qM rfl (fun h=>?_) (fun h=>?_)
 ·have hlt:i < keys.length:=by omega
  obtain ⟨b0,o0,hs0,hc0⟩:=hs2.base (by omega)
  have hci:=hc0 i _ (List.getElem?_eq_getElem hlt) 0 _ rfl
  have hba:=kQ (hkm _ (List.getElem_mem hlt))
  have hbn:=qRp cs keys n i
  rw [xV hlt] at hbn
  generalize keys[i] = a at hci hba hbn
  have hvl:vl cs (i + 1) < 1152921504606845789:=qBu
  have hal:a ^ n % 2305843009213691579 < 2305843009213691579:=Nat.mod_lt _ (by decide)
  (repeat (with_reducible first|apply qF|apply qK|apply qB|apply qL))
  refine xH jW (by kernel_rfl) (fun w'=>Hp _ _ w' _) hp.drew ?_
  have hp:=hp.drew
  (repeat ((apply wdp;exact rfl);(intro w hp;intros;((first|apply qC|apply qS|(apply qJ;exact rfl))<;>(first|exact rfl|exact hp.cell 2 rfl rfl)));(intros;(first|exact fI rfl|exact fP rfl|exact fS rfl))))
  (apply wdp;exact rfl;(intro w hp;exact qY rfl rfl);exact qI (b:=((i + 1:Nat):Int)) (by rw [qN (by omega) (by omega)];omega))
  (apply wds;exact rfl;exact qH rfl qVe rfl (p27 cs (i + 1) s1 c1 _ (hs1.keep0 hp.keeps) (by omega) (by omega) hcb))
  rintro _ w10 ⟨rfl,hk⟩
  have hp:=hp.call hk
  refine ⟨hp,?_⟩
  (repeat ((apply wdp;exact rfl);(intro w hp;intros;((first|apply qC|(apply qJ;exact rfl)|(apply qR;exact rfl))<;>(first|exact rfl|assumption|exact hp.old0 (by assumption))));(intros;(first|exact fI rfl|exact fP rfl|exact fS rfl))))
  (apply wds;exact rfl;exact qH rfl qFm rfl (p79 a n 2305843009213691579 _ (by omega) (by omega) (by decide) (by decide)))
  rintro _ w11 ⟨rfl,hk⟩
  have hp:=hp.call hk
  refine ⟨hp,?_⟩
  (repeat ((apply wdp;exact rfl);(intro w hp;intros;apply qC);(intros;exact fI rfl)))
  (apply wds;exact rfl;exact qH rfl jAd rfl (p80 (vl cs (i + 1)) (a ^ n % 2305843009213691579) i _ (by omega) (by omega) (by omega)))
  rintro _ w12 ⟨rfl,hk⟩
  have hp:=hp.call hk
  refine ⟨hp,?_⟩
  have hbn:bxL cs keys n (i + 1) = bxL cs keys n i ++ [yY (vl cs (i + 1)) (a ^ n % 2305843009213691579) i]:=hbn
  generalize yY (vl cs (i + 1)) (a ^ n % 2305843009213691579) i = z at hbn
  (apply wds;exact rfl;exact jP (cs:=eS z) hp rfl rfl rfl rfl rfl rfl rfl;rintro _ w13 ⟨nb,rfl,hp⟩;refine ⟨hp.tail,?_⟩)
  (apply qSc;exact rfl;exact rfl;exact zL eS (bxL cs keys n i) z hp 1 0 rfl rfl rfl rfl rfl rfl (fun _=>rfl) rfl rfl rfl hsv2 rfl rfl (by omega);rintro _ w14 ⟨s',c',rfl,hsv',hp⟩)
  rw [← hbn] at hsv' hp
  rw [← hbn]
  (repeat ((apply wdp;exact rfl);(intro w hp;intros;(apply qS<;>exact rfl));(intros;exact fP rfl)))
  (apply kH;exact rfl;exact rfl;exact xZ hp 3 rfl rfl rfl rfl (qQ rfl) rfl;rintro _ w15 ⟨rfl,hp⟩)
  have hp:=hp.norm 3 [.slice sa (pws 4 cs).length ca,.int .i64 (pt:Int),.slice s' (bxL cs keys n (i + 1)).length c'] rfl rfl
  refine jL ?_
  (repeat (first|(with_reducible first|apply qA|apply qB|apply qZ)|(apply wlp;apply qC;exact fI rfl)))
  (apply wlp;(exact qY rfl rfl);exact qI (b:=((i + 1:Nat):Int)) (by rw [qN (by omega) (by omega)];omega))
  (repeat (first|(with_reducible first|apply qE|apply qB)|(apply wlp;apply qD;exact fI rfl)))
  exact ⟨(i + 1,s',c'),qG (Same.eq (by repeat (first|exact Same.hav|exact Same.refl|refine Same.put rfl ?_|refine Same.havs rfl ?_))) rfl,⟨by dsimp only;omega,hsv',hp.tail⟩,by dsimp only;omega⟩
 obtain rfl:i = keys.length:=by omega
 (repeat (first|(with_reducible first|apply qF|apply qA|apply qB|apply qO|apply jB)|((with_reducible apply qP);exact rfl)|(apply wlp;((apply jQ;exact rfl)<;>(first|exact rfl|exact hp.agg_blk 2 rfl rfl));exact fA3 rfl)))
 (apply zG;exact vK hp 3 rfl rfl rfl rfl (qQ rfl) rfl;rintro _ w16 ⟨rfl,hp⟩)
 have hp:=hp.norm 3 [.slice sa (pws 4 cs).length ca,.int .i64 (pt:Int),.slice sb (bxL cs keys n keys.length).length cb] rfl rfl
 (repeat (first|(with_reducible first|apply qE|apply qB|apply qT)|(apply wlp;apply qD;exact fB rfl)))
 exact kE rfl rfl rfl rfl rfl (hp.agg_blk 3 rfl rfl) ⟨_,rfl,⟨sa,ca,pws 4 cs,pt,sb,cb,bxL cs keys n keys.length⟩,rfl,⟨hsv,hsv2⟩,⟨rfl,n,hnl,hptd,rfl⟩,hp.picks [1,0] _ rfl rfl⟩
end Go.Proofs.YtbgldmoikimmpaaGreatDoor
namespace Go.Proofs.YtbgldmoikimmpaaGreatDoor
open Go.Eng Go.Dig Go.Sha Go.Lag Go.Grp Go.Sp
structure RwOw (s:Option Addr) (c:Nat) (rs:List NRow):Prop where
 out:SVL s c rs
 row:∀ r ∈ rs,SVL r.s r.c r.l
def rwE (s:Option Addr) (c:Nat) (rs:List NRow):List Ent:=qW eNR 23 1 s c rs :: rs.map wU
theorem qZf {w0 w:World} {M:List Nat} {L:List Ent} {s:Option Addr} {c:Nat} {rs:List NRow} (hp:Hp w0 M w L) (h:RwOw s c rs) (hm:∀ p ∈ rwE s c rs,p ∈ L):RowsAt w s rs:=
 ⟨xL hp (hm _ List.mem_cons_self) h.out (fun _=>rfl),fun r hr=>xL hp (hm _ (List.mem_cons_of_mem _ (List.mem_map.2 ⟨r,hr,rfl⟩))) (h.row r hr) (fun _=>rfl)⟩
theorem qN6 (ws:List Nat):∀ (k i:Nat),(h:i < ws.length)→(wJ k ws).take (i + 1) = (wJ k ws).take i ++ [List.range' (k + (ws.take i).sum) ws[i]]:=by
 intro k i h
 have h2:i < (wJ k ws).length:=by rw [qA6];exact h
 rw [List.take_succ_eq_append_getElem h2]
 have h3:=qCx ws k i h
 rw [List.getElem?_eq_getElem h2] at h3
 rw [Option.some.inj h3]
attribute [local irreducible] PV StepF wpl wpd WP Ret
attribute [local irreducible] Fit ofN xD hv scP xN yC yY atP Mb inL fac zB inP lft elP pfC pfZ bsR dec scR wI qCu
set_option maxHeartbeats 4000000 in
theorem p66 (ms:List Mem) (s:Option Addr) (c:Nat) (w:World) (hs:SlAt w 3 eMe s ms) (ho:MsOk ms) :
  Ret Tryz.prog 66 [.slice s ms.length c] w (fun v w'=>∃ s' c' rs,v = .tuple #[.slice s' rs.length c',.bool true]∧RwOw s' c' rs∧kD rs = wJ 1 (zC ms)∧Hp w [] w' (rwE s' c' rs)):=by
 obtain ⟨hl1,hl2⟩:=ho.len
 have hwl:=uX ms
 have hwg:=fun {i:Nat} (h:i < ms.length)=>qCo h
 have hmax:=ho.wo.max
 have hs60:=ho.wo.sum
 have hsp:=ho.wo.sp
 have h20:=fun w h=>p20 ms s c w h ho
 generalize zC ms = ws at *
 have hpl:=qA6 ws 1
 refine Ret.of_WP Tryz.func66 rfl Tryz.ntmps66 rfl ?_
 have hp:=Hp.start (M:=[]) (w:=w)
 (repeat (first|(with_reducible first|apply qF|apply qA|apply qE|apply qB)|(apply wlp;(first|apply qC|apply qD);(first|exact fB rfl|exact fS rfl))))
 (apply wls;exact qH rfl qFn rfl (h20 _ hs);rintro _ w1 ⟨rfl,hk⟩;have hp:=hp.call hk)
 (repeat (first|(with_reducible first|apply qE|apply qB)|(apply wlp;((apply zF;(first|exact rfl|exact jR rfl (by assumption)))<;>exact rfl);exact fB rfl)))
 refine qM rfl (fun h=>absurd h (by omega)) (fun _=>?_)
 (repeat (first|(with_reducible first|apply qF|apply qK|apply qA|apply qE|apply qB|apply qL)|(apply wlp;apply qD;(first|exact fI rfl|exact fS rfl))))
 have hp:=hp.nilL eNR 23 1
 have hp:Hp w [] w1 (rwE none 0 []):=hp
 refine jE (List.range' 4 5 ++ List.range' 12 25) (fun (X:Nat × List NRow × Option Addr × Nat) F=>((F.put 6 (.int .i64 (X.1:Int))).put 5 (.int .i64 ((ws.take X.1).sum:Int))).put 4 (.slice X.2.2.1 X.2.1.length X.2.2.2))
  (fun X w'=>X.1≤ms.length∧kD X.2.1 = (wJ 1 ws).take X.1∧RwOw X.2.2.1 X.2.2.2 X.2.1∧Hp w [] w' (rwE X.2.2.1 X.2.2.2 X.2.1)) (fun X=>ms.length - X.1) (0,[],none,0) (qG (qG (qG (Same.eq .refl) rfl) rfl) rfl) ⟨Nat.zero_le _,rfl,⟨SVL.nil,by simp⟩,hp⟩ ?_
 (repeat clear hp)
 rintro u0 ⟨i,rs,so,co⟩ w2 ⟨hi,hrn,hrw,hp⟩
 dsimp only at hi hrn hrw hp ⊢
 have hle:=zU ws i
 have hrl:rs.length = i:=by
  have:=congrArg List.length hrn
  unfold kD at this
  rw [List.length_map,List.length_take] at this
  omega
 (repeat (first|(with_reducible first|apply qF|apply qA|apply qE|apply qB)|(apply wlp;((first|apply qC|(apply jC;exact rfl)|apply jA)<;>exact rfl);(first|exact fI rfl|exact fB rfl|exact fS rfl))))
 refine qM rfl (fun h=>?_) (fun h=>?_)
 ·have hlt:i < ms.length:=by omega
  have hltw:i < ws.length:=by omega
  obtain ⟨b0,o0,hs0,hc0⟩:=hs.base (by omega)
  have hci:=hc0 i _ (List.getElem?_eq_getElem hlt)
  have hnx:=qBy hltw
  have hle2:=zU ws (i + 1)
  have hgi:=hwg hlt
  rw [xV hltw] at hgi
  have htk:=qN6 ws 1 i hltw
  rw [hgi] at hnx htk
  have hw20:ms[i].wt≤20:=by rw [← hgi];exact hmax _ (List.getElem_mem hltw)
  generalize ms[i] = m at hci hnx htk hw20
  obtain ⟨id,wt,pb⟩:=m
  dsimp only at hnx htk hw20
  have hcw:w.cell? ⟨b0,o0 + i * 3 + 1,none⟩ = some (.int .i64 (wt:Int)):=hci 1 _ rfl
  clear hci
  (repeat (first|(with_reducible first|apply qF|apply qK|apply qA|apply qE|apply qB|apply qL)|(apply wlp;apply qD;(first|exact fI rfl|exact fS rfl))))
  have hp:=hp.nilL eN 3 1
  refine zW ([5,7,8] ++ List.range' 18 15) (fun (j:Nat) (s':Option Addr) (c':Nat) F=>((F.put 8 (.int .i64 (j:Int))).put 5 (.int .i64 (((ws.take i).sum + j:Nat):Int))).put 7 (.slice s' (List.range' (1 + (ws.take i).sum) j).length c'))
   (fun j s' c' w'=>j≤wt∧SVL s' c' (List.range' (1 + (ws.take i).sum) j)∧Hp w [] w' (qW eN 3 1 s' c' (List.range' (1 + (ws.take i).sum) j) :: rwE so co rs)) (fun j _ _=>wt - j) 0 none 0 (qG (qG (qG (Same.eq .refl) rfl) rfl) rfl) ⟨Nat.zero_le _,SVL.nil,hp⟩ ?_
  (repeat clear hp)
  rintro u1 j s1 c1 w3 ⟨hj,hsv,hp⟩
  have hjl:(List.range' (1 + (ws.take i).sum) j).length = j:=List.length_range'
  (repeat (first|(with_reducible first|apply qF|apply qA|apply qE|apply qB)|(apply wlp;((first|apply qC|apply qS|(apply qJ;exact rfl)|apply jA|(apply qR;exact rfl))<;>(first|exact rfl|assumption|exact hp.old0 (by assumption)));(first|exact fI rfl|exact fB rfl|exact fP rfl|exact fS rfl))))
  refine qM rfl (fun h=>?_) (fun h=>?_)
  ·have hsn:List.range' (1 + (ws.take i).sum) (j + 1) = List.range' (1 + (ws.take i).sum) j ++ [(ws.take i).sum + (j + 1)]:=by
    rw [List.range'_concat]
    congr 2
    omega
   (repeat (first|(with_reducible first|apply qF|apply qK|apply qA|apply qB|apply qL)|(apply wlp;apply qC;exact fI rfl)))
   (apply wlp;(exact qY rfl rfl);exact qI (b:=(((ws.take i).sum + (j + 1):Nat):Int)) (by rw [qN (by omega) (by omega)];omega))
   (repeat (first|(with_reducible first|apply qA|apply qE|apply qB)|(apply wlp;(first|apply qC|apply qD);(first|exact fI rfl|exact fS rfl))))
   (apply wls;exact jP hp rfl rfl rfl rfl rfl rfl rfl;rintro _ w4 ⟨nb,rfl,hp⟩)
   (apply wls;exact zL eN (List.range' (1 + (ws.take i).sum) j) ((ws.take i).sum + (j + 1)) hp 1 0 rfl rfl rfl rfl rfl rfl (fun _=>rfl) rfl rfl rfl hsv rfl rfl (by omega);rintro _ w5 ⟨s',c',rfl,hsv',hp⟩)
   rw [← hsn] at hsv' hp
   rw [← hsn]
   (repeat (first|(with_reducible first|apply qA|apply qE|apply qB|apply qZ)|(apply wlp;(first|apply qC|apply qD);(first|exact fI rfl|exact fS rfl))))
   (apply wlp;(exact qY rfl rfl);exact qI (b:=((j + 1:Nat):Int)) (by rw [qN (by omega) (by omega)];omega))
   (repeat (first|(with_reducible first|apply qE|apply qB)|(apply wlp;apply qD;exact fI rfl)))
   exact ⟨j + 1,s',c',qG (qG (qG (Same.eq (by repeat (first|exact Same.hav|exact Same.refl|refine Same.put rfl ?_|refine Same.havs rfl ?_))) rfl) rfl) rfl,⟨by omega,hsv',hp.tail⟩,by omega⟩
  obtain rfl:j = wt:=by omega
  (repeat (first|(with_reducible first|apply qA|apply qB|apply qO|apply jB)|((with_reducible apply qP);exact rfl)|(apply wlp;apply qC;exact fS rfl)))
  (apply wls;exact jP (cs:=eNR ⟨s1,c1,List.range' (1 + (ws.take i).sum) j⟩) hp rfl rfl rfl rfl rfl rfl rfl;rintro _ w6 ⟨nb,rfl,hp⟩)
  (apply wls;exact zL eNR rs ⟨s1,c1,List.range' (1 + (ws.take i).sum) j⟩ hp 2 0 rfl rfl rfl rfl rfl rfl (fun _=>rfl) rfl rfl rfl hrw.out rfl rfl (by omega);rintro _ w7 ⟨s',c',rfl,hsv',hp⟩)
  have hp:Hp w [] w7 (wU ⟨s1,c1,List.range' (1 + (ws.take i).sum) j⟩ :: qW eNR 23 1 s' c' (rs ++ [⟨s1,c1,List.range' (1 + (ws.take i).sum) j⟩]) :: rs.map wU):=hp.tail
  have hp:Hp w [] w7 (rwE s' c' (rs ++ [⟨s1,c1,List.range' (1 + (ws.take i).sum) j⟩])):=hp.perm (by
   unfold rwE
   rw [List.map_append]
   exact (List.Perm.swap _ _ _).trans ((List.perm_append_comm (l₁:=[wU ⟨s1,c1,List.range' (1 + (ws.take i).sum) j⟩])).cons _))
  have hrw2:RwOw s' c' (rs ++ [⟨s1,c1,List.range' (1 + (ws.take i).sum) j⟩]):=⟨hsv',fun r hr=>by
   rcases List.mem_append.1 hr with hr|hr
   ·exact hrw.row r hr
   ·rw [List.mem_singleton.1 hr]
    exact hsv⟩
  have hrn2:kD (rs ++ [⟨s1,c1,List.range' (1 + (ws.take i).sum) j⟩]) = (wJ 1 ws).take (i + 1):=by
   unfold kD at *
   rw [List.map_append,hrn,htk]
   rfl
  rw [← hnx]
  (repeat (first|(with_reducible first|apply qA|apply qE|apply qB|apply qZ)|(apply wlp;(first|apply qC|apply qD);(first|exact fI rfl|exact fS rfl))))
  (apply wlp;(exact qY rfl rfl);exact qI (b:=((i + 1:Nat):Int)) (by rw [qN (by omega) (by omega)];omega))
  (repeat (first|(with_reducible first|apply qE|apply qB)|(apply wlp;apply qD;exact fI rfl)))
  exact ⟨(i + 1,rs ++ [(⟨s1,c1,List.range' (1 + (ws.take i).sum) j⟩:NRow)],s',c'),qG (qG (qG (Same.eq (by repeat (first|exact Same.hav|exact Same.refl|refine Same.put rfl ?_|refine Same.havs rfl ?_))) rfl) rfl) rfl,⟨by dsimp only;omega,hrn2,hrw2,hp⟩,by dsimp only;omega⟩
 have hi2:(wJ 1 ws).take i = wJ 1 ws:=List.take_of_length_le (by omega)
 rw [hi2] at hrn
 (repeat (first|(with_reducible first|apply qF|apply qA|apply qE|apply qB|apply qO|apply qT|apply jB)|((with_reducible apply qP);exact rfl)|(apply wlp;(first|apply qC|apply qD);(first|exact fB rfl|exact fS rfl))))
 exact zX rfl rfl rfl ⟨_,rfl,so,co,rs,rfl,hrw,hrn,hp⟩
theorem p34 (S:List Nat) (s:Option Addr) (c:Nat) (w:World) (hs:SlAt w 1 eN s S) (hP:Pts S) (hl:S.length≤1000000) :
  Ret Tryz.prog 34 [.slice s S.length c] w (fun v w'=>∃ s' c',v = .slice s' S.length c'∧SVL s' c' ((List.range S.length).map (zB S))∧Hp w [] w' [qW eN 3 1 s' c' ((List.range S.length).map (zB S))]):=by
 have hrl:∀ i,((List.range i).map (zB S)).length = i:=fun i=>by rw [List.length_map,List.length_range]
 refine Ret.of_WP Tryz.func34 rfl Tryz.ntmps34 rfl ?_
 have hp:=Hp.start (M:=[]) (w:=w)
 (repeat (first|(with_reducible first|apply qF|apply qK|apply qA|apply qE|apply qB)|(apply wlp;apply qD;(first|exact fI rfl|exact fS rfl))))
 have hp:=hp.nilL eN 3 1
 refine zW (List.range' 3 46) (fun (i:Nat) (s':Option Addr) (c':Nat) F=>(F.put 4 (.int .i64 (i:Int))).put 3 (.slice s' ((List.range i).map (zB S)).length c'))
  (fun i s' c' w'=>i≤S.length∧SVL s' c' ((List.range i).map (zB S))∧Hp w [] w' [qW eN 3 1 s' c' ((List.range i).map (zB S))]) (fun i _ _=>S.length - i) 0 none 0 (qG (qG (Same.eq .refl) rfl) rfl) ⟨Nat.zero_le _,SVL.nil,hp⟩ ?_
 (repeat clear hp)
 rintro u0 i s1 c1 w2 ⟨hi,hsv,hp⟩
 have hri:=hrl i
 (repeat (first|(with_reducible first|apply qF|apply qA|apply qE|apply qB)|(apply wlp;((first|apply qC|(apply jC;exact rfl)|apply jA)<;>exact rfl);(first|exact fI rfl|exact fB rfl|exact fS rfl))))
 refine qM rfl (fun h=>?_) (fun h=>?_)
 ·have hlt:i < S.length:=by omega
  obtain ⟨b0,o0,hs0,hc0⟩:=hs.base (by omega)
  have hcc:=fun j (hj:j < S.length)=>hc0 j _ (List.getElem?_eq_getElem hj) 0 _ rfl
  have hci:=hcc i hlt
  have hxb:=qF6 hP hlt
  have hfa:=qBc hlt
  have hfl:=qAb S i
  have hdone:=fun f hf h=>FacR.done (f:=f) hP hlt hf h
  have hsn:(List.range (i + 1)).map (zB S) = (List.range i).map (zB S) ++ [zB S i]:=by
   rw [List.range_succ,List.map_append]
   rfl
  have hgcd:=fun j (hj:j < S.length) (hne:S[i] ≠ S[j]) (d:Nat) hd=>qR7 hP (List.getElem_mem hlt) (List.getElem_mem hj) hne (d:=d) hd
  have hne:∀ j (hj:j < S.length),j ≠ i→S[i] ≠ S[j]:=fun j hj hij e=>by
   have hn:=hP.nd
   rw [List.nodup_iff_pairwise_ne,List.pairwise_iff_getElem] at hn
   rcases Nat.lt_or_ge j i with h|h
   ·exact hn j i hj hlt h e.symm
   ·exact hn i j hlt hj (by omega) e
  generalize S[i] = x at hci hxb hfa hdone hne hgcd
  (repeat (first|(with_reducible first|apply qF|apply qK|apply qA|apply qE|apply qB|apply qL)|(apply wlp;apply qD;exact fI rfl)))
  refine jE ([5,6,7,8] ++ List.range' 15 30) (fun (X:Nat × Nat) F=>(F.put 6 (.int .i64 (X.1:Int))).put 5 (.int .i64 (X.2:Int)))
   (fun X w'=>X.1≤S.length∧X.2 < 1152921504606845789∧FacR S i x X.1 X.2∧Hp w [] w' [qW eN 3 1 s1 c1 ((List.range i).map (zB S))]) (fun X=>S.length - X.1) (0,1) (qG (qG (Same.eq .refl) rfl) rfl) ⟨Nat.zero_le _,by decide,FacR.zero,hp⟩ ?_
  (repeat clear hp)
  rintro u1 ⟨j,f⟩ w3 ⟨hj,hf,hF,hp⟩
  dsimp only at hj hf hF hp ⊢
  (repeat (first|(with_reducible first|apply qF|apply qA|apply qE|apply qB)|(apply wlp;((first|apply qC|(apply jC;exact rfl)|apply jA)<;>exact rfl);(first|exact fI rfl|exact fB rfl|exact fS rfl))))
  refine qM rfl (fun h=>?_) (fun h=>?_)
  ·have hltj:j < S.length:=by omega
   have hcj:=hcc j hltj
   have hyb:=qF6 hP hltj
   (repeat (first|(with_reducible first|apply qF|apply qK|apply qA|apply qE|apply qB|apply qL)|(apply wlp;((first|apply qC|(apply zJ;(first|exact rfl|exact jR rfl (by assumption))))<;>exact rfl);(first|exact fI rfl|exact fB rfl))))
   refine yQ rfl (fun hij=>?_) (fun hij=>?_)
   ·have hji:j ≠ i:=by omega
    have hnx:=fun f' z h1 h2=>hF.next (f':=f') (z:=z) hltj hji h1 h2
    have hgj:=hgcd j hltj (hne j hltj hji)
    generalize S[j] = y at hcj hyb hnx hgj
    (repeat with_reducible apply qF)
    refine jX jW (by kernel_rfl) (fun w'=>Hp _ _ w' _) hp.drew ?_
    have hp:=hp.drew
    (repeat ((apply wdp;exact rfl);(intro w hp;intros;((first|apply qC|(apply qJ;exact rfl)|(apply qR;exact rfl))<;>(first|exact rfl|assumption|exact hp.old0 (by assumption))));(intros;(first|exact fI rfl|exact fP rfl|exact fS rfl))))
    (apply wds;exact rfl;exact qH rfl qV5 rfl (p77 y x 1152921504606845789 _ (by omega) (by omega) (by decide) (by decide)))
    rintro _ w4 ⟨rfl,hk⟩
    have hp:=hp.call hk
    refine ⟨hp,?_⟩
    obtain ⟨d,hd,hdl⟩:=qAm ((y:Int) - (x:Int)) (m:=1152921504606845789) (by decide)
    have hg:=hgj d hd.symm
    rw [hd]
    (apply wds;exact rfl;exact qH rfl jAf rfl (p76 d 1152921504606845789 _ (by omega) (by decide) (by decide) hg);rintro _ w5 ⟨⟨z,rfl,hzl,hz⟩,hk⟩;have hp:=hp.call hk;refine ⟨hp,?_⟩)
    (repeat ((apply wdp;exact rfl);(intro w hp;intros;((first|apply qC|apply qD|apply jK)<;>exact rfl));(intros;(first|exact fI rfl|exact fB rfl|exact fU rfl))))
    refine jL ?_
    (repeat (first|(with_reducible first|apply qA|apply qB)|(apply wlp;((first|apply qC|(apply qJ;exact rfl)|(apply qR;exact rfl))<;>(first|exact rfl|assumption|exact hp.old0 (by assumption)));(first|exact fI rfl|exact fP rfl|exact fS rfl))))
    (apply wls;exact qH rfl qBg rfl (p37 y z 1152921504606845789 _ (by omega) (by omega) (by decide) (by decide)))
    rintro _ w6 ⟨rfl,hk⟩
    have hp:=hp.call hk
    have hyz:y * z % 1152921504606845789 < 1152921504606845789:=Nat.mod_lt _ (by decide)
    (apply wls;exact qH rfl qBg rfl (p37 f (y * z % 1152921504606845789) 1152921504606845789 _ (by omega) (by omega) (by decide) (by decide)))
    rintro _ w7 ⟨rfl,hk⟩
    have hp:=hp.call hk
    have hf2:f * (y * z % 1152921504606845789) % 1152921504606845789 < 1152921504606845789:=Nat.mod_lt _ (by decide)
    have hz2:Cg (gQ:Int) ((z:Int) * ((y:Int) - (x:Int))) 1:=by
     refine (Cg.refl.mul ?_).trans hz
     rw [← hd]
     exact Cg.mod.symm
    have hF2:=hnx (f * (y * z % 1152921504606845789) % 1152921504606845789) z hz2 (by
     show f * (y * z % gQ) % gQ % gQ = _
     rw [Nat.mod_mod,Nat.mul_mod_mod])
    generalize f * (y * z % 1152921504606845789) % 1152921504606845789 = f' at hF2 hf2
    (repeat (first|(with_reducible first|apply qA|apply qE|apply qB|apply qZ)|(apply wlp;(first|apply qC|apply qD);exact fI rfl)))
    (apply wlp;(exact qY rfl rfl);exact qI (b:=((j + 1:Nat):Int)) (by rw [qN (by omega) (by omega)];omega))
    (repeat (first|(with_reducible first|apply qE|apply qB)|(apply wlp;apply qD;exact fI rfl)))
    exact ⟨(j + 1,f'),qG (qG (Same.eq (by repeat (first|exact Same.hav|exact Same.refl|refine Same.put rfl ?_|refine Same.havs rfl ?_))) rfl) rfl,⟨by dsimp only;omega,hf2,hF2,hp⟩,by dsimp only;omega⟩
   ·have hji:j = i:=by omega
    subst hji
    have hF2:=hF.same hltj
    (repeat (first|(with_reducible first|apply qA|apply qB|apply qZ|apply qL)|(apply wlp;apply qC;exact fI rfl)))
    (apply wlp;(exact qY rfl rfl);exact qI (b:=((j + 1:Nat):Int)) (by rw [qN (by omega) (by omega)];omega))
    (repeat (first|(with_reducible first|apply qE|apply qB)|(apply wlp;apply qD;exact fI rfl)))
    exact ⟨(j + 1,f),qG (qG (Same.eq (by repeat (first|exact Same.hav|exact Same.refl|refine Same.put rfl ?_|refine Same.havs rfl ?_))) rfl) rfl,⟨by dsimp only;omega,hf,hF2,hp⟩,by dsimp only;omega⟩
  obtain rfl:j = S.length:=by omega
  have hend:=hdone f hf hF
  rw [← hfa] at hend
  rw [hend]
  (repeat (first|(with_reducible first|apply qA|apply qB|apply qO|apply jB)|((with_reducible apply qP);exact rfl)|(apply wlp;apply qC;(first|exact fI rfl|exact fS rfl))))
  (apply wls;exact jP hp rfl rfl rfl rfl rfl rfl rfl;rintro _ w8 ⟨nb,rfl,hp⟩)
  (apply wls;exact zL eN ((List.range i).map (zB S)) (zB S i) hp 1 0 rfl rfl rfl rfl rfl rfl (fun _=>rfl) rfl rfl rfl hsv rfl rfl (by omega);rintro _ w9 ⟨s',c',rfl,hsv',hp⟩)
  rw [← hsn] at hsv' hp
  rw [← hsn]
  (repeat (first|(with_reducible first|apply qA|apply qE|apply qB|apply qZ)|(apply wlp;(first|apply qC|apply qD);(first|exact fI rfl|exact fS rfl))))
  (apply wlp;(exact qY rfl rfl);exact qI (b:=((i + 1:Nat):Int)) (by rw [qN (by omega) (by omega)];omega))
  (repeat (first|(with_reducible first|apply qE|apply qB)|(apply wlp;apply qD;exact fI rfl)))
  exact ⟨i + 1,s',c',qG (qG (Same.eq (by repeat (first|exact Same.hav|exact Same.refl|refine Same.put rfl ?_|refine Same.havs rfl ?_))) rfl) rfl,⟨by omega,hsv',hp.tail⟩,by omega⟩
 obtain rfl:i = S.length:=by omega
 rw [hri]
 (repeat (first|(with_reducible first|apply qF|apply qA|apply qE|apply qB|apply qO|apply qT|apply jB)|((with_reducible apply qP);exact rfl)|(apply wlp;(first|apply qC|apply qD);exact fS rfl)))
 exact qU rfl rfl ⟨_,rfl,s1,c1,rfl,hsv,hp⟩
end Go.Proofs.YtbgldmoikimmpaaGreatDoor
namespace Go.Proofs.YtbgldmoikimmpaaGreatDoor
open Go.Eng Go.Dig Go.Sha Go.Lag Go.Grp Go.Sp
def mxI (ds:List DlV) (fs:List Nat) (j i:Nat):Nat:=ltF (((ds.take i).map fun d=>d.cs.getD j 0).zip fs) 1
def mxF (ds:List DlV) (fs:List Nat) (j:Nat):Nat:=ltF ((ds.map fun d=>d.cs.getD j 0).zip fs) 1
theorem qTi (ds:List DlV) (fs:List Nat) (j:Nat):mxI ds fs j ds.length = mxF ds fs j:=by
 unfold mxI mxF
 rw [List.take_length]
theorem qPj (ds:List DlV) (fs:List Nat) (j:Nat):mxI ds fs j 0 = 1:=by
 unfold mxI
 simp [ltF]
theorem qWe (ds:List DlV) (fs:List Nat) (j i:Nat):mxI ds fs j i < 2305843009213691579:=qI1 _ (by decide)
theorem qEq {α β:Type}:∀ (l:List α) (m:List β) (x:α) (y:β),m[l.length]? = some y→(l ++ [x]).zip m = l.zip m ++ [(x,y)]
 | [],m,x,y,h=>by
  cases m with
  | nil=>cases h
  | cons b m=>
   have h:some b = some y:=h
   cases h
   simp
 | a :: l,m,x,y,h=>by
  cases m with
  | nil=>cases h
  | cons b m=>
   have ih:=qEq l m x y (by simpa using h)
   simp [ih]
theorem qPk {ds:List DlV} {fs:List Nat} (j:Nat) {i:Nat} (h:i < ds.length) (h2:i < fs.length):mxI ds fs j (i + 1) = mxI ds fs j i * (((ds[i]).cs.getD j 0) ^ fs[i] % gP) % gP:=by
 unfold mxI
 rw [List.take_succ_eq_append_getElem h,List.map_append,List.map_singleton]
 rw [qEq _ fs _ (fs[i]) (by rw [List.length_map,List.length_take,Nat.min_eq_left (by omega),List.getElem?_eq_getElem h2])]
 unfold ltF
 rw [List.foldl_append]
 rfl
theorem qTj {S:List Nat} {ds:List DlV} (h:ds.length = S.length) (j:Nat):mxF ds ((List.range S.length).map (zB S)) j = nxC S ds j:=by
 have e:(List.range S.length).map (zB S) = S.map (fac S):=by
  refine List.ext_getElem (by simp) fun i h1 h2=>?_
  rw [List.getElem_map,List.getElem_map,List.getElem_range]
  exact qBc (by simpa using h2)
 rw [e]
 rfl
attribute [local irreducible] PV StepF wpl wpd WP Ret
attribute [local irreducible] Fit ofN xD hv scP xN yC yY atP Mb inL fac zB inP lft elP pfC pfZ bsR dec scR wI qCu mxI mxF
theorem p82 (k:KyV) (ws:List Nat) (w:World) (hk:KyAt w k) (ho:KyOk k ws):Ret Tryz.prog 82 [.agg (eKy k).toArray] w (fun v w'=>v = .int .i64 (ws.sum:Int)∧Keeps [] w w'):=by
 have hlen:=ho.len
 have hrow:=fun {i:Nat} (h:i < k.rs.length)=>ho.row h
 have hs60:=ho.wo.sum
 have hwl:=ho.wo.len
 clear ho
 obtain ⟨s1,c1,cs,s2,c2,rs⟩:=k
 obtain ⟨hcs,hrs⟩:=hk
 dsimp only at hlen hrow hcs hrs
 have hE:eKy ⟨s1,c1,cs,s2,c2,rs⟩ = [.slice s1 cs.length c1,.slice s2 rs.length c2]:=rfl
 rw [hE]
 clear hE
 refine Ret.of_WP Tryz.func82 rfl Tryz.ntmps82 rfl ?_
 have hp:=Hp.start (M:=[]) (w:=w)
 (repeat (with_reducible first|apply qF|apply qA))
 (apply wls;exact uY hp rfl;rintro _ w1 ⟨kb,rfl,hp⟩)
 (repeat (first|(with_reducible first|apply qF|apply qK|apply qA|apply qE|apply qB)|(apply wlp;apply qD;exact fI rfl)))
 refine jE ([3,4] ++ List.range' 5 15) (fun (i:Nat) F=>(F.put 4 (.int .i64 (i:Int))).put 3 (.int .i64 (((ws.take i).sum:Nat):Int)))
  (fun i w'=>i≤rs.length∧Hp w [] w' [blk kb 2 (qV [.slice s1 cs.length c1,.slice s2 rs.length c2]) 27]) (fun i=>rs.length - i) 0 (qG (qG (Same.eq .refl) rfl) rfl) ⟨Nat.zero_le _,hp⟩ ?_
 clear hp
 rintro u0 i w2 ⟨hi,hp⟩
 have hle:=zU ws i
 (repeat (first|(with_reducible first|apply qF|apply qA|apply qE|apply qB)|(apply wlp;((first|apply qC|apply qS|(apply qJ;exact rfl)|(apply jC;exact rfl)|apply jA)<;>(first|exact rfl|exact hp.cell 0 rfl rfl));(first|exact fI rfl|exact fB rfl|exact fP rfl|exact fS rfl))))
 refine qM rfl (fun h=>?_) (fun h=>?_)
 ·have hlt:i < rs.length:=by omega
  obtain ⟨b0,o0,hs0,hc0⟩:=hrs.at_.base (by omega)
  have hci:=hc0 i _ (List.getElem?_eq_getElem hlt) 0 _ rfl
  have hri:=hrow hlt
  have hnx:=yF ws i
  have hle2:=zU ws (i + 1)
  generalize rs[i] = r at hci hri
  generalize ws.getD i 0 = m at hri hnx
  obtain ⟨sr,cr,lr⟩:=r
  dsimp only at hri
  have hlr:lr.length = m:=by rw [hri,List.length_range']
  have hci:w.cell? ⟨b0,o0 + i * 1 + 0,none⟩ = some (.slice sr lr.length cr):=hci
  (repeat (first|(with_reducible first|apply qF|apply qK|apply qA|apply qB|apply qL)|(apply wlp;((first|apply qC|apply qS|(apply qJ;exact rfl)|(apply jC;exact rfl)|(apply qR;exact rfl))<;>(first|exact rfl|assumption|exact hp.cell 0 rfl rfl|exact hp.old0 (by assumption)));(first|exact fI rfl|exact fP rfl|exact fS rfl))))
  (apply wlp;(exact qY rfl rfl);exact qI (b:=(((ws.take (i + 1)).sum:Nat):Int)) (by rw [qN (by omega) (by omega)];omega))
  (repeat (first|(with_reducible first|apply qA|apply qE|apply qB|apply qZ)|(apply wlp;(first|apply qC|apply qD);exact fI rfl)))
  (apply wlp;(exact qY rfl rfl);exact qI (b:=((i + 1:Nat):Int)) (by rw [qN (by omega) (by omega)];omega))
  (repeat (first|(with_reducible first|apply qE|apply qB)|(apply wlp;apply qD;exact fI rfl)))
  exact ⟨i + 1,qG (qG (Same.eq (by repeat (first|exact Same.hav|exact Same.refl|refine Same.put rfl ?_|refine Same.havs rfl ?_))) rfl) rfl,⟨by omega,hp⟩,by omega⟩
 obtain rfl:i = rs.length:=by omega
 have e1:(ws.take rs.length).sum = ws.sum:=by rw [hlen,List.take_length]
 rw [e1]
 clear hle e1
 (repeat (first|(with_reducible first|apply qF|apply qA|apply qE|apply qB|apply qO|apply qT|apply jB)|((with_reducible apply qP);exact rfl)|(apply wlp;(first|apply qC|apply qD);exact fI rfl)))
 exact qU rfl rfl ⟨_,rfl,rfl,hp.keeps⟩
theorem p81 (k:KyV) (ws:List Nat) (w:World) (hk:KyAt w k) (ho:KyOk k ws):Ret Tryz.prog 81 [.agg (eKy k).toArray] w (fun v w'=>v = .bool true∧Keeps [] w w'):=by
 have hlen:=ho.len
 have hrow:=fun {i:Nat} (h:i < k.rs.length)=>ho.row h
 have hsp:=ho.wo.sp
 have hs60:=ho.wo.sum
 have hpos:=ho.wo.pos
 have hwl:=ho.wo.len
 have hnd:=ho.nd
 have hmb:=ho.mb
 have hndl:=yO hsp
 clear ho
 obtain ⟨s1,c1,cs,s2,c2,rs⟩:=k
 obtain ⟨hcs,hrs⟩:=hk
 dsimp only at hlen hrow hnd hmb hcs hrs
 have hE:eKy ⟨s1,c1,cs,s2,c2,rs⟩ = [.slice s1 cs.length c1,.slice s2 rs.length c2]:=rfl
 rw [hE]
 clear hE
 refine Ret.of_WP Tryz.func81 rfl Tryz.ntmps81 rfl ?_
 have hp:=Hp.start (M:=[]) (w:=w)
 (repeat (with_reducible first|apply qF|apply qA))
 (apply wls;exact uY hp rfl;rintro _ w1 ⟨kb,rfl,hp⟩)
 (repeat (first|(with_reducible first|apply qF|apply qK|apply qA|apply qE|apply qB)|(apply wlp;apply qD;(first|exact fI rfl|exact fB rfl))))
 refine jE ([2,3,4,5] ++ List.range' 8 36) (fun (i:Nat) F=>(F.put 4 (.int .i64 (i:Int))).put 3 (.int .i64 (((ws.take i).sum:Nat):Int)))
  (fun i w'=>i≤rs.length∧Hp w [] w' [blk kb 2 (qV [.slice s1 cs.length c1,.slice s2 rs.length c2]) 27]) (fun i=>rs.length - i) 0 (qG (qG (Same.eq .refl) rfl) rfl) ⟨Nat.zero_le _,hp⟩ ?_
 clear hp
 rintro u0 i w2 ⟨hi,hp⟩
 have hle:=zU ws i
 (repeat (first|(with_reducible first|apply qF|apply qA|apply qE|apply qB)|(apply wlp;((first|apply qC|apply qS|(apply qJ;exact rfl)|(apply jC;exact rfl)|apply jA)<;>(first|exact rfl|exact hp.cell 0 rfl rfl));(first|exact fI rfl|exact fB rfl|exact fP rfl|exact fS rfl))))
 refine qM rfl (fun h=>?_) (fun h=>?_)
 ·have hlt:i < rs.length:=by omega
  obtain ⟨b0,o0,hs0,hc0⟩:=hrs.at_.base (by omega)
  have hci:=hc0 i _ (List.getElem?_eq_getElem hlt) 0 _ rfl
  have hri:=hrow hlt
  have hsl:=hrs.row _ (List.getElem_mem hlt)
  have hnx:=yF ws i
  have hle2:=zU ws (i + 1)
  have hwp:=hpos _ (uB (l:=ws) (i:=i) (by omega))
  generalize rs[i] = r at hci hri hsl
  generalize ws.getD i 0 = m at hri hnx hwp
  obtain ⟨sr,cr,lr⟩:=r
  dsimp only at hri hsl
  have hlr:lr.length = m:=by rw [hri,List.length_range']
  have hci:w.cell? ⟨b0,o0 + i * 1 + 0,none⟩ = some (.slice sr lr.length cr):=hci
  (repeat (first|(with_reducible first|apply qF|apply qK|apply qA|apply qE|apply qB|apply qL)|(apply wlp;((first|apply qC|apply qS|(apply qJ;exact rfl)|(apply jC;exact rfl)|(apply zF;(first|exact rfl|exact jR rfl (by assumption)))|(apply qR;exact rfl))<;>(first|exact rfl|assumption|exact hp.cell 0 rfl rfl|exact hp.old0 (by assumption)));(first|exact fI rfl|exact fB rfl|exact fP rfl|exact fS rfl))))
  refine qM rfl (fun h=>absurd h (by omega)) (fun _=>?_)
  (repeat (first|(with_reducible first|apply qF|apply qK|apply qA|apply qE|apply qB|apply qL)|(apply wlp;apply qD;exact fI rfl)))
  refine jE ([2,3,5] ++ List.range' 22 22) (fun (j:Nat) F=>(F.put 5 (.int .i64 (j:Int))).put 3 (.int .i64 (((ws.take i).sum + j:Nat):Int)))
   (fun j w'=>j≤lr.length∧Hp w [] w' [blk kb 2 (qV [.slice s1 cs.length c1,.slice s2 rs.length c2]) 27]) (fun j=>lr.length - j) 0 (qG (qG (Same.eq .refl) rfl) rfl) ⟨Nat.zero_le _,hp⟩ ?_
  clear hp
  rintro u1 j w3 ⟨hj,hp⟩
  (repeat (first|(with_reducible first|apply qF|apply qA|apply qE|apply qB)|(apply wlp;((first|apply qC|apply qS|(apply qJ;exact rfl)|(apply jC;exact rfl)|apply jA|(apply qR;exact rfl))<;>(first|exact rfl|assumption|exact hp.cell 0 rfl rfl|exact hp.old0 (by assumption)));(first|exact fI rfl|exact fB rfl|exact fP rfl|exact fS rfl))))
  refine qM rfl (fun h=>?_) (fun h=>?_)
  ·have hltj:j < lr.length:=by omega
   obtain ⟨b1,o1,hs1,hc1⟩:=hsl.base (by omega)
   have hcj:=hc1 j _ (List.getElem?_eq_getElem hltj) 0 _ rfl
   have hgj:lr[j] = (ws.take i).sum + (j + 1):=by
    have:lr[j]? = some (1 + (ws.take i).sum + 1 * j):=by rw [hri,List.getElem?_range' (by omega)]
    rw [List.getElem?_eq_getElem hltj] at this
    have:=Option.some.inj this
    omega
   rw [hgj] at hcj
   (repeat (first|(with_reducible first|apply qF|apply qK|apply qA|apply qB|apply qL)|(apply wlp;apply qC;exact fI rfl)))
   (apply wlp;(exact qY rfl rfl);exact qI (b:=(((ws.take i).sum + (j + 1):Nat):Int)) (by rw [qN (by omega) (by omega)];omega))
   (repeat (first|(with_reducible first|apply qF|apply qA|apply qE|apply qB)|(apply wlp;((first|apply qC|apply qD|apply qS|(apply qJ;exact rfl)|(apply zJ;(first|exact rfl|exact jR rfl (by assumption)))|(apply qR;exact rfl))<;>(first|exact rfl|assumption|exact hp.cell 0 rfl rfl|exact hp.old0 (by assumption)));(first|exact fI rfl|exact fB rfl|exact fP rfl|exact fS rfl))))
   refine zT rfl (fun h=>absurd h (by simp)) (fun _=>?_)
   (repeat (first|(with_reducible first|apply qA|apply qB|apply qZ|apply qL)|(apply wlp;apply qC;exact fI rfl)))
   (apply wlp;(exact qY rfl rfl);exact qI (b:=((j + 1:Nat):Int)) (by rw [qN (by omega) (by omega)];omega))
   (repeat (first|(with_reducible first|apply qE|apply qB)|(apply wlp;apply qD;exact fI rfl)))
   exact ⟨j + 1,qG (qG (Same.eq (by repeat (first|exact Same.hav|exact Same.refl|refine Same.put rfl ?_|refine Same.havs rfl ?_))) rfl) rfl,⟨by omega,hp⟩,by omega⟩
  obtain rfl:j = lr.length:=by omega
  have e1:(ws.take i).sum + lr.length = (ws.take (i + 1)).sum:=by omega
  rw [e1]
  (repeat (first|(with_reducible first|apply qA|apply qB|apply qZ|apply qO|apply jB)|((with_reducible apply qP);exact rfl)|(apply wlp;apply qC;exact fI rfl)))
  (apply wlp;(exact qY rfl rfl);exact qI (b:=((i + 1:Nat):Int)) (by rw [qN (by omega) (by omega)];omega))
  (repeat (first|(with_reducible first|apply qE|apply qB)|(apply wlp;apply qD;exact fI rfl)))
  exact ⟨i + 1,qG (qG (Same.eq (by repeat (first|exact Same.hav|exact Same.refl|refine Same.put rfl ?_|refine Same.havs rfl ?_))) rfl) rfl,⟨by omega,hp⟩,by omega⟩
 obtain rfl:i = rs.length:=by omega
 have e1:(ws.take rs.length).sum = ws.sum:=by rw [hlen,List.take_length]
 rw [e1]
 clear hle e1
 (repeat (first|(with_reducible first|apply qF|apply qB|apply qO|apply jB)|((with_reducible apply qP);exact rfl)))
 refine jX jW (by kernel_rfl) (fun w'=>Hp _ _ w' _) hp.drew ?_
 have hp:=hp.drew
 (apply wdp;exact rfl;(intro w hp;exact qC);exact fI rfl)
 (apply wdp;exact rfl;(intro w hp;exact jA rfl rfl);exact jF (b:=false) (decide_eq_false (by omega)))
 (apply wdp;exact rfl;(intro w hp;exact qC);exact fB rfl)
 (apply vD;exact rfl;exact rfl;exact rfl;(intro w hp;exact qC);exact fI rfl)
 (apply vD;exact rfl;exact rfl;exact rfl;(intro w hp;exact zA rfl rfl);exact jF (b:=false) (decide_eq_false (by omega)))
 (apply wdp;exact rfl;(intro w hp;exact jU rfl rfl);exact fB rfl)
 (apply wdp;exact rfl;(intro w hp;exact qC);exact fB rfl)
 (repeat (first|((apply vD;exact rfl;exact rfl;exact rfl);(intro w hp;((first|apply qC|apply qS|(apply qJ;exact rfl)|(apply jC;exact rfl))<;>(first|exact rfl|exact hp.cell 0 rfl rfl)));(intros;(first|exact fI rfl|exact fP rfl|exact fS rfl)))|(apply uN;exact rfl;exact rfl;exact rfl;exact rfl)|(apply uM;exact rfl;exact rfl;exact rfl)))
 (apply qEs;exact rfl;exact rfl;exact rfl;exact qH rfl qFp rfl (p19 ws.sum _ hsp (by omega));rintro _ w4 ⟨rfl,hk⟩;have hp:=hp.call hk;refine ⟨hp,?_⟩)
 (apply vD;exact rfl;exact rfl;exact rfl;(intro w hp;exact zJ rfl rfl);exact jF (b:=false) (ndf (by omega)))
 (apply wdp;exact rfl;(intro w hp;exact jU rfl rfl);exact fB rfl)
 refine jL ?_
 (repeat with_reducible apply qB)
 refine jI rfl ?_
 (repeat (first|(with_reducible first|apply qF|apply qK|apply qA|apply qE|apply qB|apply qL)|(apply wlp;apply qD;exact fI rfl)))
 refine jE ([2,6,7] ++ List.range' 58 15) (fun (i:Nat) F=>F.put 6 (.int .i64 (i:Int)))
  (fun i w'=>i≤cs.length∧Hp w [] w' [blk kb 2 (qV [.slice s1 cs.length c1,.slice s2 rs.length c2]) 27]) (fun i=>cs.length - i) 0 (qG (Same.eq .refl) rfl) ⟨Nat.zero_le _,hp⟩ ?_
 (repeat clear hp)
 rintro u2 q w5 ⟨hq,hp⟩
 (repeat (first|(with_reducible first|apply qF|apply qA|apply qE|apply qB)|(apply wlp;((first|apply qC|apply qS|(apply qJ;exact rfl)|(apply jC;exact rfl)|apply jA)<;>(first|exact rfl|exact hp.cell 0 rfl rfl));(first|exact fI rfl|exact fB rfl|exact fP rfl|exact fS rfl))))
 refine qM rfl (fun h=>?_) (fun h=>?_)
 ·have hlt:q < cs.length:=by omega
  obtain ⟨b0,o0,hs0,hc0⟩:=hcs.base (by omega)
  have hci:=hc0 q _ (List.getElem?_eq_getElem hlt) 0 _ rfl
  have hma:=hmb _ (List.getElem_mem hlt)
  generalize cs[q] = a at hci hma
  (repeat (first|(with_reducible first|apply qF|apply qK|apply qA|apply qB|apply qL)|(apply wlp;((first|apply qC|apply qS|(apply qJ;exact rfl)|(apply qR;exact rfl))<;>(first|exact rfl|assumption|exact hp.cell 0 rfl rfl|exact hp.old0 (by assumption)));(first|exact fI rfl|exact fP rfl|exact fS rfl))))
  (apply wls;exact qH rfl qL3 rfl (qW8 a _ hma))
  rintro _ w6 ⟨rfl,hk⟩
  have hp:=hp.call hk
  (repeat (first|(with_reducible first|apply qF|apply qA|apply qE|apply qB)|(apply wlp;((first|apply qC|apply qD|apply zI)<;>exact rfl);exact fB rfl)))
  refine jI rfl ?_
  (repeat (first|(with_reducible first|apply qA|apply qB|apply qZ|apply qL)|(apply wlp;apply qC;exact fI rfl)))
  (apply wlp;(exact qY rfl rfl);exact qI (b:=((q + 1:Nat):Int)) (by rw [qN (by omega) (by omega)];omega))
  (repeat (first|(with_reducible first|apply qE|apply qB)|(apply wlp;apply qD;exact fI rfl)))
  exact ⟨q + 1,qG (Same.eq (by repeat (first|exact Same.hav|exact Same.refl|refine Same.put rfl ?_|refine Same.havs rfl ?_))) rfl,⟨by omega,hp⟩,by omega⟩
 (repeat (first|(with_reducible first|apply qF|apply qA|apply qE|apply qB|apply qO|apply qT|apply jB)|((with_reducible apply qP);exact rfl)|(apply wlp;apply qD;exact fB rfl)))
 exact qU rfl rfl ⟨_,rfl,rfl,hp.keeps⟩
theorem p65 (ds:List DlV) (n:Nat) (s:Option Addr) (c:Nat) (w:World) (hs:SlAt w 3 eDl s ds) (hd:∀ d ∈ ds,DlAt w d) (ho:∀ d ∈ ds,DlOk d n∧d.cs.length = ndN n) (h1:1≤n) (hn:n≤1000000) (hl:ds.length≤1000000) (h0:1≤ds.length) :
  Ret Tryz.prog 65 [.slice s ds.length c,.int .i64 (n:Int)] w (fun v w'=>v = .bool true∧Keeps [] w w'):=by
 refine Ret.of_WP Tryz.func65 rfl Tryz.ntmps65 rfl ?_
 have hp:=Hp.start (M:=[]) (w:=w)
 (repeat (first|(with_reducible first|apply qF|apply qK|apply qA|apply qE|apply qB)|(apply wlp;apply qD;(first|exact fI rfl|exact fB rfl))))
 refine jE ([4,5,6] ++ List.range' 7 25) (fun (i:Nat) F=>F.put 5 (.int .i64 (i:Int)))
  (fun i w'=>i≤ds.length∧Hp w [] w' []) (fun i=>ds.length - i) 0 (qG (Same.eq .refl) rfl) ⟨Nat.zero_le _,hp⟩ ?_
 clear hp
 rintro u0 i w2 ⟨hi,hp⟩
 (repeat (first|(with_reducible first|apply qF|apply qA|apply qE|apply qB)|(apply wlp;((first|apply qC|(apply jC;exact rfl)|apply jA)<;>exact rfl);(first|exact fI rfl|exact fB rfl|exact fS rfl))))
 refine qM rfl (fun h=>?_) (fun h=>?_)
 ·have hlt:i < ds.length:=by omega
  obtain ⟨b0,o0,hs0,hc0⟩:=hs.base (by omega)
  have hci:=hc0 i _ (List.getElem?_eq_getElem hlt)
  have hdi:=hd _ (List.getElem_mem hlt)
  obtain ⟨hoi,hcn⟩:=ho _ (List.getElem_mem hlt)
  have h90:=fun (w:World) (hda:DlAt w ds[i])=>jCn ds[i] n w hda hoi hn
  generalize ds[i] = d at hci hdi hcn h90
  obtain ⟨s1,c1,cs,pt,s2,c2,bx⟩:=d
  have hE:eDl ⟨s1,c1,cs,pt,s2,c2,bx⟩ = [.slice s1 cs.length c1,.int .i64 (pt:Int),.slice s2 bx.length c2]:=rfl
  dsimp only at hcn
  rw [hE] at h90 hci
  have hcd:w.cell? ⟨b0,o0 + i * 3 + 0,none⟩ = some (.slice s1 cs.length c1):=hci 0 _ rfl
  (repeat (first|(with_reducible first|apply qF|apply qK|apply qA|apply qB|apply qL)|(apply wlp;((first|apply qC|(apply jQ;exact rfl)|(apply qR;exact rfl))<;>(first|exact rfl|assumption));(first|exact fI rfl|exact fP rfl|exact fS rfl))))
  (apply wlp;exact zP (vs:=[.slice s1 cs.length c1,.int .i64 (pt:Int),.slice s2 bx.length c2]) rfl rfl rfl rfl (fun j v hv=>hp.old0 (hci j v hv));exact fA3 rfl)
  (repeat (apply wlp;apply qC;exact fI rfl))
  (apply wls;exact qH rfl qYf rfl (h90 _ (hdi.keep hp.keeps));rintro _ w5 ⟨rfl,hk⟩;have hp:=hp.call hk)
  (repeat (first|(with_reducible first|apply qF|apply qE|apply qB)|(apply wlp;apply qD;exact fB rfl)))
  refine jX jW (by kernel_rfl) (fun w'=>Hp _ _ w' _) hp.drew ?_
  have hp:=hp.drew
  (apply wdp;exact rfl;(intro w hp;exact qC);exact fB rfl)
  (apply wdp;exact rfl;(intro w hp;exact zI rfl);exact fB rfl)
  (apply wdp;exact rfl;(intro w hp;exact qC);exact fB rfl)
  (repeat (first|((apply vD;exact rfl;exact rfl;exact rfl);(intro w hp;((first|apply qC|apply qS|(apply qJ;exact rfl)|(apply jC;exact rfl)|(apply qR;exact rfl))<;>(first|exact rfl|assumption|exact hp.old0 (by assumption))));(intros;(first|exact fI rfl|exact fP rfl|exact fS rfl)))|(apply uN;exact rfl;exact rfl;exact rfl;exact rfl)|(apply uM;exact rfl;exact rfl;exact rfl)))
  (apply qEs;exact rfl;exact rfl;exact rfl;exact qH rfl qFp rfl (p19 n _ h1 hn);rintro _ w6 ⟨rfl,hk⟩;have hp:=hp.call hk;refine ⟨hp,?_⟩)
  (apply vD;exact rfl;exact rfl;exact rfl;(intro w hp;exact zJ rfl rfl);exact jF (b:=false) (ndf (by omega)))
  (apply wdp;exact rfl;(intro w hp;exact jU rfl rfl);exact fB rfl)
  refine jL ?_
  (repeat with_reducible apply qB)
  refine jI rfl ?_
  (repeat (first|(with_reducible first|apply qA|apply qB|apply qZ|apply qL)|(apply wlp;apply qC;exact fI rfl)))
  (apply wlp;(exact qY rfl rfl);exact qI (b:=((i + 1:Nat):Int)) (by rw [qN (by omega) (by omega)];omega))
  (repeat (first|(with_reducible first|apply qE|apply qB)|(apply wlp;apply qD;exact fI rfl)))
  exact ⟨i + 1,qG (Same.eq (by repeat (first|exact Same.hav|exact Same.refl|refine Same.put rfl ?_|refine Same.havs rfl ?_))) rfl,⟨by omega,hp⟩,by omega⟩
 (repeat (first|(with_reducible first|apply qF|apply qA|apply qB|apply qO|apply jB)|((with_reducible apply qP);exact rfl)))
 (apply wlp;apply qC;exact fS rfl)
 (apply wlp;((apply jC;exact rfl)<;>exact rfl);exact fI rfl)
 (apply wlp;exact zA rfl rfl;exact jF (b:=true) (decide_eq_true (by omega)))
 (repeat (first|(with_reducible first|apply qE|apply qB|apply qT)|(apply wlp;apply qD;exact fB rfl)))
 exact qU rfl rfl ⟨_,rfl,rfl,hp.keeps⟩
theorem p67 (ds:List DlV) (fs:List Nat) (nd:Nat) (s s2:Option Addr) (c c2:Nat) (w:World) (hs:SlAt w 3 eDl s ds) (hd:∀ d ∈ ds,DlAt w d) (hf:SlAt w 1 eN s2 fs) (hfl:fs.length = ds.length) (hfb:∀ x ∈ fs,x≤9223372036854775807)
  (hdl:∀ d ∈ ds,d.cs.length = nd) (hmb:∀ d ∈ ds,∀ a ∈ d.cs,a < 2305843009213691579) (hl:ds.length≤1000000) (hn:nd≤1000000) :
  Ret Tryz.prog 67 [.slice s ds.length c,.slice s2 fs.length c2,.int .i64 (nd:Int)] w (fun v w'=>∃ s' c',v = .slice s' nd c'∧SVL s' c' ((List.range nd).map (mxF ds fs))∧Hp w [] w' [qW eN 3 1 s' c' ((List.range nd).map (mxF ds fs))]):=by
 have hrl:∀ j,((List.range j).map (mxF ds fs)).length = j:=fun j=>by rw [List.length_map,List.length_range]
 have hall:=qTi ds fs
 refine Ret.of_WP Tryz.func67 rfl Tryz.ntmps67 rfl ?_
 have hp:=Hp.start (M:=[]) (w:=w)
 (repeat (first|(with_reducible first|apply qF|apply qK|apply qA|apply qE|apply qB)|(apply wlp;apply qD;(first|exact fI rfl|exact fS rfl))))
 have hp:=hp.nilL eN 3 1
 refine zW (List.range' 7 34) (fun (j:Nat) (s':Option Addr) (c':Nat) F=>(F.put 8 (.int .i64 (j:Int))).put 7 (.slice s' ((List.range j).map (mxF ds fs)).length c'))
  (fun j s' c' w'=>j≤nd∧SVL s' c' ((List.range j).map (mxF ds fs))∧Hp w [] w' [qW eN 3 1 s' c' ((List.range j).map (mxF ds fs))]) (fun j _ _=>nd - j) 0 none 0 (qG (qG (Same.eq .refl) rfl) rfl) ⟨Nat.zero_le _,SVL.nil,hp⟩ ?_
 (repeat clear hp)
 rintro u0 j s1 c1 w2 ⟨hj,hsv,hp⟩
 have hrj:=hrl j
 (repeat (first|(with_reducible first|apply qF|apply qA|apply qE|apply qB)|(apply wlp;((first|apply qC|apply jA)<;>exact rfl);(first|exact fI rfl|exact fB rfl))))
 refine qM rfl (fun h=>?_) (fun h=>?_)
 ·have hlt:j < nd:=by omega
  have hsn:(List.range (j + 1)).map (mxF ds fs) = (List.range j).map (mxF ds fs) ++ [mxF ds fs j]:=by
   rw [List.range_succ,List.map_append]
   rfl
  (repeat (first|(with_reducible first|apply qF|apply qK|apply qA|apply qE|apply qB|apply qL)|(apply wlp;apply qD;exact fI rfl)))
  have hz:=qPj ds fs j
  refine jE ([9,10] ++ List.range' 16 21) (fun (i:Nat) F=>(F.put 10 (.int .i64 (i:Int))).put 9 (.int .i64 ((mxI ds fs j i:Nat):Int)))
   (fun i w'=>i≤ds.length∧Hp w [] w' [qW eN 3 1 s1 c1 ((List.range j).map (mxF ds fs))]) (fun i=>ds.length - i) 0 (qG (qG (Same.eq .refl) rfl) (by rw [hz];rfl)) ⟨Nat.zero_le _,hp⟩ ?_
  (repeat clear hp)
  rintro u1 i w3 ⟨hi,hp⟩
  have hml:=qWe ds fs j i
  (repeat (first|(with_reducible first|apply qF|apply qA|apply qE|apply qB)|(apply wlp;((first|apply qC|(apply jC;exact rfl)|apply jA)<;>exact rfl);(first|exact fI rfl|exact fB rfl|exact fS rfl))))
  refine qM rfl (fun h=>?_) (fun h=>?_)
  ·have hlti:i < ds.length:=by omega
   have hltf:i < fs.length:=by omega
   obtain ⟨b0,o0,hs0,hc0⟩:=hs.base (by omega)
   have hci:=hc0 i _ (List.getElem?_eq_getElem hlti) 0 _ rfl
   have hdi:=(hd _ (List.getElem_mem hlti)).cs
   have hdn:=hdl _ (List.getElem_mem hlti)
   have hma:=hmb _ (List.getElem_mem hlti)
   have hst:=qPk (ds:=ds) (fs:=fs) j hlti (by omega)
   obtain ⟨b1,o1,hs1,hc1⟩:=hf.base (by omega)
   have hcf:=hc1 i _ (List.getElem?_eq_getElem (show i < fs.length by omega)) 0 _ rfl
   have hfx:=hfb _ (List.getElem_mem (show i < fs.length by omega))
   generalize fs[i] = f at hst hcf hfx
   generalize ds[i] = d at hci hdi hdn hma hst
   obtain ⟨sd,cd,cs,pt,sx,cx,bx⟩:=d
   dsimp only at hdi hdn hma hst
   have hci:w.cell? ⟨b0,o0 + i * 3 + 0,none⟩ = some (.slice sd cs.length cd):=hci
   obtain ⟨b2,o2,hs2,hc2⟩:=hdi.base (by omega)
   have hltc:j < cs.length:=by omega
   have hcj:=hc2 j _ (List.getElem?_eq_getElem hltc) 0 _ rfl
   rw [xV hltc] at hst
   have hml2:=hma _ (List.getElem_mem hltc)
   generalize cs[j] = a at hst hcj hml2
   (repeat (with_reducible first|apply qF|apply qK|apply qB|apply qL))
   refine jX jW (by kernel_rfl) (fun w'=>Hp _ _ w' _) hp.drew ?_
   have hp:=hp.drew
   (repeat ((apply wdp;exact rfl);(intro w hp;intros;((first|apply qC|apply qS|(apply qJ;exact rfl)|(apply qR;exact rfl))<;>(first|exact rfl|assumption|exact hp.old0 (by assumption))));(intros;(first|exact fI rfl|exact fP rfl|exact fS rfl))))
   (apply wds;exact rfl;exact qH rfl qFm rfl (p79 a f 2305843009213691579 _ (by omega) (by omega) (by decide) (by decide)))
   rintro _ w4 ⟨rfl,hk⟩
   have hp:=hp.call hk
   refine ⟨hp,?_⟩
   have hzl:a ^ f % 2305843009213691579 < 2305843009213691579:=Nat.mod_lt _ (by decide)
   (apply wds;exact rfl;exact qH rfl qBg rfl (p37 (mxI ds fs j i) (a ^ f % 2305843009213691579) 2305843009213691579 _ (by omega) (by omega) (by decide) (by decide));rintro _ w5 ⟨rfl,hk⟩;have hp:=hp.call hk;refine ⟨hp,?_⟩)
   have hst:mxI ds fs j (i + 1) = mxI ds fs j i * (a ^ f % 2305843009213691579) % 2305843009213691579:=hst
   rw [← hst]
   (repeat ((apply wdp;exact rfl);(intro w hp;intros;apply qD);(intros;exact fI rfl)))
   refine jL ?_
   (repeat (first|(with_reducible first|apply qA|apply qB|apply qZ)|(apply wlp;apply qC;exact fI rfl)))
   (apply wlp;(exact qY rfl rfl);exact qI (b:=((i + 1:Nat):Int)) (by rw [qN (by omega) (by omega)];omega))
   (repeat (first|(with_reducible first|apply qE|apply qB)|(apply wlp;apply qD;exact fI rfl)))
   exact ⟨i + 1,qG (qG (Same.eq (by repeat (first|exact Same.hav|exact Same.refl|refine Same.put rfl ?_|refine Same.havs rfl ?_))) rfl) rfl,⟨by omega,hp⟩,by omega⟩
  obtain rfl:i = ds.length:=by omega
  rw [hall]
  (repeat (first|(with_reducible first|apply qA|apply qB|apply qO|apply jB)|((with_reducible apply qP);exact rfl)|(apply wlp;apply qC;(first|exact fI rfl|exact fS rfl))))
  (apply wls;exact jP hp rfl rfl rfl rfl rfl rfl rfl;rintro _ w8 ⟨nb,rfl,hp⟩)
  (apply wls;exact zL eN ((List.range j).map (mxF ds fs)) (mxF ds fs j) hp 1 0 rfl rfl rfl rfl rfl rfl (fun _=>rfl) rfl rfl rfl hsv rfl rfl (by omega);rintro _ w9 ⟨s',c',rfl,hsv',hp⟩)
  rw [← hsn] at hsv' hp
  rw [← hsn]
  (repeat (first|(with_reducible first|apply qA|apply qE|apply qB|apply qZ)|(apply wlp;(first|apply qC|apply qD);(first|exact fI rfl|exact fS rfl))))
  (apply wlp;(exact qY rfl rfl);exact qI (b:=((j + 1:Nat):Int)) (by rw [qN (by omega) (by omega)];omega))
  (repeat (first|(with_reducible first|apply qE|apply qB)|(apply wlp;apply qD;exact fI rfl)))
  exact ⟨j + 1,s',c',qG (qG (Same.eq (by repeat (first|exact Same.hav|exact Same.refl|refine Same.put rfl ?_|refine Same.havs rfl ?_))) rfl) rfl,⟨by omega,hsv',hp.tail⟩,by omega⟩
 obtain rfl:j = nd:=by omega
 rw [hrj]
 (repeat (first|(with_reducible first|apply qF|apply qA|apply qE|apply qB|apply qO|apply qT|apply jB)|((with_reducible apply qP);exact rfl)|(apply wlp;(first|apply qC|apply qD);exact fS rfl)))
 exact qU rfl rfl ⟨_,rfl,s1,c1,rfl,hsv,hp⟩
end Go.Proofs.YtbgldmoikimmpaaGreatDoor
namespace Go.Proofs.YtbgldmoikimmpaaGreatDoor
open Go.Eng Go.Dig Go.Sha Go.Lag Go.Grp Go.Sp
theorem qSd {P:Program} {n:FrK} {Q:Exit→Fr→World→Prop} {F:Fr} {w:World} {ops:Array Oper} {st:Bool} {G:World→Prop} {i:Nat} {op:Op} {ty:TypeId} {pos:String} {aft:Array Edge} {l:List Nat} {R:Value→World→Prop}
  (ho:jJ ops i = ⟨none,op,ty,pos,aft,none⟩) (hs:StepF P n ⟨none,op,ty,pos,aft,none⟩ F w R) (h:∀ v w',R v w'→G w'∧wpe P n ops st G l Q F w'):wpb P n ops st G i l Q F w:=by
 unfold wpb
 rw [ho]
 refine ⟨fun _=>Step.mono hs fun v w' hr=>⟨fun _=>(h v w' hr).1,(h v w' hr).2⟩,fun hw=>?_⟩
 simp [Region.wanted] at hw
def xQ (s:Option Addr) (c:Nat) (ds:List DlV):List Ent:=qW eDl 54 3 s c ds :: ds.flatMap dlE
structure DlsOw (s:Option Addr) (c:Nat) (ds:List DlV):Prop where
 out:SVL s c ds
 each:∀ d ∈ ds,DlOw d
theorem qIb {w0 w:World} {M:List Nat} {L:List Ent} {s:Option Addr} {c:Nat} {ds:List DlV} (hp:Hp w0 M w L) (h:DlsOw s c ds) (hm:∀ p ∈ xQ s c ds,p ∈ L):SlAt w 3 eDl s ds∧∀ d ∈ ds,DlAt w d:=
 ⟨xL hp (hm _ List.mem_cons_self) h.out (fun _=>rfl),fun d hd=>jB8 hp (h.each d hd) fun p hp=>hm _ (List.mem_cons_of_mem _ (List.mem_flatMap.2 ⟨d,hd,hp⟩))⟩
def kyE (k:KyV):List Ent:=qW eN 3 1 k.s1 k.c1 k.cs :: rwE k.s2 k.c2 k.rs
structure KyOw (k:KyV):Prop where
 v1:SVL k.s1 k.c1 k.cs
 v2:RwOw k.s2 k.c2 k.rs
theorem qZu {w0 w:World} {M:List Nat} {L:List Ent} {k:KyV} (hp:Hp w0 M w L) (h:KyOw k) (hm:∀ p ∈ kyE k,p ∈ L):KyAt w k:=
 ⟨xL hp (hm _ List.mem_cons_self) h.v1 (fun _=>rfl),qZf hp h.v2 fun p hp=>hm _ (List.mem_cons_of_mem _ hp)⟩
def sdT (sd:ByteArray) (n:Nat):ByteArray:=(sd ++ (⟨#[32]⟩:ByteArray)) ++ xD n
structure DlsHon (ds:List DlV) (ps:List (List Nat)) (keys:List Nat):Prop where
 len:ds.length = ps.length
 each:∀ i (h:i < ds.length) (h2:i < ps.length),DlHon ds[i] ps[i] keys
theorem DlsHon.nil (keys:List Nat):DlsHon [] [] keys:=⟨rfl,fun _ h _=>absurd h (Nat.not_lt_zero _)⟩
theorem DlsHon.snoc {ds:List DlV} {ps:List (List Nat)} {keys:List Nat} (h:DlsHon ds ps keys) {d:DlV} {p:List Nat} (hd:DlHon d p keys):DlsHon (ds ++ [d]) (ps ++ [p]) keys:=by
 have hl:=h.len
 refine ⟨by simp [hl],fun i h1 h2=>?_⟩
 by_cases hi:i < ds.length
 ·rw [List.getElem_append_left hi,List.getElem_append_left (by omega)]
  exact h.each i hi (by omega)
 ·have e:i = ds.length:=by simp at h1;omega
  subst e
  rw [List.getElem_append_right (Nat.le_refl _),List.getElem_append_right (by omega)]
  simpa [hl] using hd
theorem DlsHon.mem {ds:List DlV} {ps:List (List Nat)} {keys:List Nat} (h:DlsHon ds ps keys) {d:DlV} (hd:d ∈ ds):∃ p ∈ ps,DlHon d p keys:=by
 obtain ⟨i,hi,rfl⟩:=List.getElem_of_mem hd
 have h2:i < ps.length:=by rw [← h.len];exact hi
 exact ⟨ps[i],List.getElem_mem h2,h.each i hi h2⟩
theorem DlsHon.ok {ds:List DlV} {ps:List (List Nat)} {keys:List Nat} (h:DlsHon ds ps keys) {n:Nat} (hk:keys.length = n) (h1:1≤n) (hp:∀ p ∈ ps,p.length = ndN n):∀ d ∈ ds,DlOk d n∧d.cs.length = ndN n:=by
 intro d hd
 obtain ⟨p,hpm,hh⟩:=h.mem hd
 have hl:=hp p hpm
 have:=vM n
 have:=yO h1
 rw [← hk] at *
 have:=hh.ok (by omega) (by omega)
 rwa [hl] at this
def psM (ms:List Mem) (sd:ByteArray) (nd:Nat):List (List Nat):=ms.map fun m=>uP (bl (sdT sd m.id)) nd
theorem qTc (ms:List Mem) (sd:ByteArray) (nd:Nat):(psM ms sd nd).length = ms.length:=List.length_map _
theorem qOz {ms:List Mem} {i:Nat} (h:i < ms.length) (sd:ByteArray) (nd:Nat):psM (ms.take (i + 1)) sd nd = psM (ms.take i) sd nd ++ [uP (bl (sdT sd ms[i].id)) nd]:=by
 unfold psM
 rw [List.take_succ_eq_append_getElem h,List.map_append]
 rfl
theorem qTb {ms:List Mem} {sd:ByteArray} {nd:Nat} {p:List Nat} (h:p ∈ psM ms sd nd):p.length = nd∧∀ x ∈ p,x < 1152921504606845789:=by
 obtain ⟨m,_,rfl⟩:=List.mem_map.1 h
 exact ⟨kY _ _,qCz _ _⟩
theorem qIt (sd:ByteArray) {n:Nat} (h:n≤9223372036854775807):(sdT sd n).size≤sd.size + 20:=by
 unfold sdT
 have h1:=yE (sd ++ (⟨#[32]⟩:ByteArray)) (xD n)
 have h2:=yE sd (⟨#[32]⟩:ByteArray)
 have h3:(⟨#[32]⟩:ByteArray).size = 1:=rfl
 have h4:=xY h
 omega
theorem qJs {ms:List Mem} (h:∀ m ∈ ms,Mb m.pb):∀ a ∈ xS ms,Mb a:=by
 intro a ha
 obtain ⟨m,hm,hx⟩:=List.mem_flatMap.1 ha
 rw [(List.mem_replicate.1 hx).2]
 exact h m hm
attribute [local irreducible] PV StepF wpl wpd WP Ret
attribute [local irreducible] Fit ofN xD hv scP xN yC yY atP Mb inL fac zB inP lft elP pfC pfZ bsR dec scR wI qCu mxI mxF
set_option maxHeartbeats 4000000 in
theorem p21 (ms:List Mem) (sd:ByteArray) (s:Option Addr) (c:Nat) (w:World) (hs:SlAt w 3 eMe s ms) (ho:MsOk ms) (hmb:∀ m ∈ ms,Mb m.pb) (hsd:sd.size≤1000) :
  Ret Tryz.prog 21 [.slice s ms.length c,.string sd] w (fun v w'=>∃ s' c' ds,v = .slice s' ds.length c'∧DlsOw s' c' ds∧DlsHon ds (psM ms sd (ndN (zC ms).sum)) (xS ms)∧Hp w [] w' (xQ s' c' ds)):=by
 obtain ⟨hl1,hl2⟩:=ho.len
 have h20:=fun w h=>p20 ms s c w h ho
 have h36:=fun w h=>p36 ms s c w h ho
 have hbl:=uD ms
 have hs60:=ho.wo.sum
 have hsp:=ho.wo.sp
 have hib:=ho.ib
 have hkm:=qJs hmb
 obtain ⟨n,hn⟩:∃ n,n = (zC ms).sum:=⟨_,rfl⟩
 rw [← hn] at hbl hs60 hsp ⊢
 simp only [← hn] at h20
 have hndl:=yO hsp
 have hndp:=vM n
 obtain ⟨nd,hnd⟩:∃ nd,nd = ndN n:=⟨_,rfl⟩
 have h19:=fun w=>p19 n w hsp (by omega)
 rw [← hnd] at hndl hndp ⊢
 simp only [← hnd] at h19
 refine Ret.of_WP Tryz.func21 rfl Tryz.ntmps21 rfl ?_
 have hp:=Hp.start (M:=[]) (w:=w)
 (repeat (first|(with_reducible first|apply qF|apply qK|apply qA|apply qE|apply qB)|(apply wlp;apply qD;(first|exact fI rfl|exact fS rfl))))
 have hp:=hp.nilL eDl 54 3
 have hp:Hp w [] w (xQ none 0 []):=hp
 refine jE (List.range' 5 44) (fun (X:List DlV × Option Addr × Nat) F=>(F.put 6 (.int .i64 (X.1.length:Int))).put 5 (.slice X.2.1 X.1.length X.2.2))
  (fun X w'=>X.1.length≤ms.length∧DlsOw X.2.1 X.2.2 X.1∧DlsHon X.1 (psM (ms.take X.1.length) sd nd) (xS ms)∧Hp w [] w' (xQ X.2.1 X.2.2 X.1)) (fun X=>ms.length - X.1.length) ([],none,0) (qG (qG (Same.eq .refl) rfl) rfl) ⟨Nat.zero_le _,⟨SVL.nil,by simp⟩,DlsHon.nil _,hp⟩ ?_
 (repeat clear hp)
 rintro u0 ⟨ds,so,co⟩ w2 ⟨hi,how,hon,hp⟩
 dsimp only at hi how hon hp ⊢
 (repeat (first|(with_reducible first|apply qF|apply qA|apply qE|apply qB)|(apply wlp;((first|apply qC|(apply jC;exact rfl)|apply jA)<;>exact rfl);(first|exact fI rfl|exact fB rfl|exact fS rfl))))
 refine qM rfl (fun h=>?_) (fun h=>?_)
 ·have hlt:ds.length < ms.length:=by omega
  obtain ⟨b0,o0,hs0,hc0⟩:=hs.base (by omega)
  have hci:=hc0 ds.length _ (List.getElem?_eq_getElem hlt)
  have hib:=hib _ (List.getElem_mem hlt)
  have hps:=qOz hlt sd nd
  generalize ms[ds.length] = m at hci hib hps
  obtain ⟨id,wt,pb⟩:=m
  dsimp only at hib hps
  have hcw:w.cell? ⟨b0,o0 + ds.length * 3 + 0,none⟩ = some (.int .i64 (id:Int)):=hci 0 _ rfl
  clear hci
  have hsz:=qIt sd (n:=id) (by omega)
  have h1:=yE sd (⟨#[32]⟩:ByteArray)
  have h2:=yE (sd ++ (⟨#[32]⟩:ByteArray)) (xD id)
  have h3:(⟨#[32]⟩:ByteArray).size = 1:=rfl
  have h4:=xY (show id≤9223372036854775807 by omega)
  have hpl:=kY (bl (sdT sd id)) nd
  have hpb:=qCz (bl (sdT sd id)) nd
  obtain ⟨tx,htx⟩:∃ tx,tx = sdT sd id:=⟨_,rfl⟩
  have htx2:(sd ++ (⟨#[32]⟩:ByteArray)) ++ xD id = tx:=by rw [htx];rfl
  rw [← htx] at hps hsz hpl hpb
  (repeat (first|(with_reducible first|apply qF|apply qK|apply qA|apply qB|apply qL)|(apply wlp;apply qC;exact fT rfl)))
  (apply wlp;exact jY rfl rfl (by show _ + 1≤_;omega);exact fT rfl)
  (repeat (apply wlp;((first|apply qC|apply qS|(apply qJ;exact rfl)|(apply qR;exact rfl))<;>(first|exact rfl|assumption|exact hp.old0 (by assumption)));(first|exact fI rfl|exact fP rfl|exact fS rfl)))
  (apply wls;exact qH rfl qAe rfl (p12 id _ (by omega)))
  rintro _ w3 ⟨rfl,hk⟩
  have hp:=hp.call hk
  (apply wlp;exact jY rfl rfl (by omega);exact congrArg Value.string htx2)
  (repeat (apply wlp;apply qC;exact fS rfl))
  (apply wls;exact qH rfl qFn rfl (h20 _ (hs.keep0 hp.keeps));rintro _ w4 ⟨rfl,hk⟩;have hp:=hp.call hk)
  (apply wls;exact qH rfl qFp rfl (h19 _);rintro _ w5 ⟨rfl,hk⟩;have hp:=hp.call hk)
  (apply wls;exact qH rfl qQm rfl (p22 tx nd _ (by omega) (by omega));rintro _ w6 ⟨sp,cp,rfl,hsvp,hpo⟩;have hp:=hp.join hpo;clear hpo)
  rw [← hpl]
  generalize uP (bl tx) nd = p at hps hpl hpb hsvp hp
  have hp:Hp w [] w6 (qW eN 3 1 sp cp p :: xQ so co ds):=hp
  (repeat (first|(with_reducible first|apply qF|apply qE|apply qB)|(apply wlp;apply qD;exact fS rfl)))
  refine qDh true [0,1,2,3,4,5,6,7,8,9,10,11,12,13,14,15,16,17,18] jW (by kernel_rfl) rfl (fun w'=>Hp w [] w' (qW eN 3 1 sp cp p :: xQ so co ds)) hp.drew ?_
  have hp:=hp.drew
  (repeat ((apply wep;exact rfl;exact rfl);(intro w hp;intros;apply qC);(intros;exact fS rfl)))
  refine qH8 16 rfl (by kernel_rfl) rfl rfl ?eA ?eB
  case' eA=>
   (apply wbs;exact rfl;exact qH rfl qMe rfl (h36 _ (hs.keep0 hp.keeps));rintro _ w7 ⟨sk,ck,rfl,hsk,hpo⟩;have hp:=hp.join hpo;clear hpo;refine ⟨hp.sub (List.sublist_append_right [_] _),?_⟩)
   have hp:Hp w [] w7 ([qW eN 3 1 sk ck (xS ms),qW eN 3 1 sp cp p] ++ xQ so co ds):=hp
   (repeat ((apply wep;exact rfl;exact rfl);(intro w hp;intros;apply qC);(intros;exact fT rfl)))
   (apply wep;exact rfl;exact rfl;(intro w hp;exact jY rfl rfl (by show _ + 1≤_;omega));exact fT rfl)
   (repeat ((apply wep;exact rfl;exact rfl);(intro w hp;intros;((first|apply qC|apply qS|(apply qJ;exact rfl)|(apply qR;exact rfl))<;>(first|exact rfl|assumption|exact hp.old0 (by assumption))));(intros;(first|exact fI rfl|exact fP rfl|exact fS rfl))))
   refine qH8 16 rfl (by kernel_rfl) rfl rfl ?eC ?eD
   case' eC=>
    (apply wbs;exact rfl;exact qH rfl qAe rfl (p12 id _ (by omega));rintro _ w8 ⟨rfl,hk⟩;have hp:=hp.call hk;refine ⟨hp.sub (List.sublist_append_right [_] _),?_⟩)
    (apply wep;exact rfl;exact rfl;(intro w hp;exact jY rfl rfl (by omega));exact congrArg Value.string htx2)
    refine qH8 16 rfl (by kernel_rfl) rfl rfl ?eE ?eF
    case' eE=>
     (apply wbs;exact rfl;exact qH rfl qE6 rfl (p35 p (xS ms) tx sp sk cp ck _ (jS hp 1 rfl hsvp (fun _=>rfl)) (jS hp 0 rfl hsk (fun _=>rfl)) (by omega) (by omega) (by omega) hpb hkm (by omega));rintro _ w9 ⟨⟨s1,c1,cs,pt,s2,c2,bx⟩,rfl,hdo,hdh,hpo⟩;have hp:=hp.join hpo;clear hpo;refine ⟨hp.sub (List.sublist_append_right [_,_,_] _),?_⟩)
     have hp:Hp w [] w9 ([qW eN 3 1 s1 c1 cs,qW eS 9 1 s2 c2 bx,qW eN 3 1 sk ck (xS ms),qW eN 3 1 sp cp p] ++ xQ so co ds):=hp
     (repeat ((apply wep;exact rfl;exact rfl);(intro w hp;intros;((first|apply qC|apply jK)<;>exact rfl));(intros;(first|exact fB rfl|exact fA3 rfl|exact fU rfl))))
     refine uL rfl (by kernel_rfl) ?_ rfl
     (apply wbs;exact rfl;exact yA hp (jD rfl);rintro _ w10 ⟨b8,rfl,hp⟩;refine ⟨hp.sub (List.sublist_append_right [_,_,_,_] _),?_⟩)
     have hp:Hp w [] w10 ([blk b8 3 (qV [.slice none 0 0,.int .i64 0,.slice none 0 0]) 54,qW eN 3 1 s1 c1 cs,qW eS 9 1 s2 c2 bx,qW eN 3 1 sk ck (xS ms),qW eN 3 1 sp cp p] ++ xQ so co ds):=hp
     skip
    case' eF=>
     (apply wbs;exact rfl;exact yA hp (jD rfl);rintro _ w10 ⟨b8,rfl,hp⟩;refine ⟨hp.sub (List.sublist_append_right [_,_] _),?_⟩)
     have hp:Hp w [] w10 ([blk b8 3 (qV [.slice none 0 0,.int .i64 0,.slice none 0 0]) 54,qW eN 3 1 sk ck (xS ms),qW eN 3 1 sp cp p] ++ xQ so co ds):=hp
     refine uL rfl (by kernel_rfl) ?_ rfl
     (apply wbs;exact rfl;exact qH rfl qE6 rfl (p35 p (xS ms) tx sp sk cp ck _ (jS hp 2 rfl hsvp (fun _=>rfl)) (jS hp 1 rfl hsk (fun _=>rfl)) (by omega) (by omega) (by omega) hpb hkm (by omega));rintro _ w9 ⟨⟨s1,c1,cs,pt,s2,c2,bx⟩,rfl,hdo,hdh,hpo⟩;have hp:=hp.join hpo;clear hpo;refine ⟨hp.sub (List.sublist_append_right [_,_,_,_] _),?_⟩)
     have hp:=hp.perm (List.perm_middle (l₁:=[_,_]))
     have hp:Hp w [] w9 ([blk b8 3 (qV [.slice none 0 0,.int .i64 0,.slice none 0 0]) 54,qW eN 3 1 s1 c1 cs,qW eS 9 1 s2 c2 bx,qW eN 3 1 sk ck (xS ms),qW eN 3 1 sp cp p] ++ xQ so co ds):=hp
     (repeat ((apply wep;exact rfl;exact rfl);(intro w hp;intros;((first|apply qC|apply jK)<;>exact rfl));(intros;(first|exact fB rfl|exact fA3 rfl|exact fU rfl))))
   case' eD=>
    (apply wbs;exact rfl;exact yA hp (jD rfl);rintro _ w10 ⟨b8,rfl,hp⟩;refine ⟨hp.sub (List.sublist_append_right [_,_] _),?_⟩)
    have hp:Hp w [] w10 ([blk b8 3 (qV [.slice none 0 0,.int .i64 0,.slice none 0 0]) 54,qW eN 3 1 sk ck (xS ms),qW eN 3 1 sp cp p] ++ xQ so co ds):=hp
    refine uL rfl (by kernel_rfl) ?_ rfl
    (apply wbs;exact rfl;exact qH rfl qAe rfl (p12 id _ (by omega));rintro _ w8 ⟨rfl,hk⟩;have hp:=hp.call hk;refine ⟨hp.sub (List.sublist_append_right [_,_] _),?_⟩)
    (apply wep;exact rfl;exact rfl;(intro w hp;exact jY rfl rfl (by omega));exact congrArg Value.string htx2)
    refine uL rfl (by kernel_rfl) ?_ rfl
    (apply wbs;exact rfl;exact qH rfl qE6 rfl (p35 p (xS ms) tx sp sk cp ck _ (jS hp 2 rfl hsvp (fun _=>rfl)) (jS hp 1 rfl hsk (fun _=>rfl)) (by omega) (by omega) (by omega) hpb hkm (by omega));rintro _ w9 ⟨⟨s1,c1,cs,pt,s2,c2,bx⟩,rfl,hdo,hdh,hpo⟩;have hp:=hp.join hpo;clear hpo;refine ⟨hp.sub (List.sublist_append_right [_,_,_,_] _),?_⟩)
    have hp:=hp.perm (List.perm_middle (l₁:=[_,_]))
    have hp:Hp w [] w9 ([blk b8 3 (qV [.slice none 0 0,.int .i64 0,.slice none 0 0]) 54,qW eN 3 1 s1 c1 cs,qW eS 9 1 s2 c2 bx,qW eN 3 1 sk ck (xS ms),qW eN 3 1 sp cp p] ++ xQ so co ds):=hp
    (repeat ((apply wep;exact rfl;exact rfl);(intro w hp;intros;((first|apply qC|apply jK)<;>exact rfl));(intros;(first|exact fB rfl|exact fA3 rfl|exact fU rfl))))
  case' eB=>
   (apply wbs;exact rfl;exact yA hp (jD rfl);rintro _ w10 ⟨b8,rfl,hp⟩;refine ⟨hp.sub (List.sublist_append_right [_] _),?_⟩)
   have hp:Hp w [] w10 ([blk b8 3 (qV [.slice none 0 0,.int .i64 0,.slice none 0 0]) 54,qW eN 3 1 sp cp p] ++ xQ so co ds):=hp
   refine uL rfl (by kernel_rfl) ?_ rfl
   (apply wbs;exact rfl;exact qH rfl qMe rfl (h36 _ (hs.keep0 hp.keeps));rintro _ w7 ⟨sk,ck,rfl,hsk,hpo⟩;have hp:=hp.join hpo;clear hpo;refine ⟨hp.sub (List.sublist_append_right [_,_] _),?_⟩)
   have hp:=hp.perm (List.Perm.swap _ _ _)
   have hp:Hp w [] w7 ([blk b8 3 (qV [.slice none 0 0,.int .i64 0,.slice none 0 0]) 54,qW eN 3 1 sk ck (xS ms),qW eN 3 1 sp cp p] ++ xQ so co ds):=hp
   (repeat ((apply wep;exact rfl;exact rfl);(intro w hp;intros;apply qC);(intros;exact fT rfl)))
   (apply wep;exact rfl;exact rfl;(intro w hp;exact jY rfl rfl (by show _ + 1≤_;omega));exact fT rfl)
   (repeat ((apply wep;exact rfl;exact rfl);(intro w hp;intros;((first|apply qC|apply qS|(apply qJ;exact rfl)|(apply qR;exact rfl))<;>(first|exact rfl|assumption|exact hp.old0 (by assumption))));(intros;(first|exact fI rfl|exact fP rfl|exact fS rfl))))
   refine uL rfl (by kernel_rfl) ?_ rfl
   (apply wbs;exact rfl;exact qH rfl qAe rfl (p12 id _ (by omega));rintro _ w8 ⟨rfl,hk⟩;have hp:=hp.call hk;refine ⟨hp.sub (List.sublist_append_right [_,_] _),?_⟩)
   (apply wep;exact rfl;exact rfl;(intro w hp;exact jY rfl rfl (by omega));exact congrArg Value.string htx2)
   refine uL rfl (by kernel_rfl) ?_ rfl
   (apply wbs;exact rfl;exact qH rfl qE6 rfl (p35 p (xS ms) tx sp sk cp ck _ (jS hp 2 rfl hsvp (fun _=>rfl)) (jS hp 1 rfl hsk (fun _=>rfl)) (by omega) (by omega) (by omega) hpb hkm (by omega));rintro _ w9 ⟨⟨s1,c1,cs,pt,s2,c2,bx⟩,rfl,hdo,hdh,hpo⟩;have hp:=hp.join hpo;clear hpo;refine ⟨hp.sub (List.sublist_append_right [_,_,_,_] _),?_⟩)
   have hp:=hp.perm (List.perm_middle (l₁:=[_,_]))
   have hp:Hp w [] w9 ([blk b8 3 (qV [.slice none 0 0,.int .i64 0,.slice none 0 0]) 54,qW eN 3 1 s1 c1 cs,qW eS 9 1 s2 c2 bx,qW eN 3 1 sk ck (xS ms),qW eN 3 1 sp cp p] ++ xQ so co ds):=hp
   (repeat ((apply wep;exact rfl;exact rfl);(intro w hp;intros;((first|apply qC|apply jK)<;>exact rfl));(intros;(first|exact fB rfl|exact fA3 rfl|exact fU rfl))))
  all_goals (
  refine uL rfl (by kernel_rfl) ?_ rfl
  (apply qSd;exact rfl;exact vK hp 0 rfl rfl rfl rfl (qQ rfl) rfl;rintro _ w11 ⟨rfl,hp⟩;refine ⟨hp.sub (List.sublist_append_right [_,_,_,_] _),?_⟩)
  have hp:=hp.norm 0 [.slice s1 cs.length c1,.int .i64 (pt:Int),.slice s2 bx.length c2] rfl rfl
  (repeat ((apply wep;exact rfl;exact rfl);(intro w hp;intros;apply qD);(intros;exact fB rfl)))
  refine qEd ?_
  (repeat (with_reducible first|apply qA|apply qB))
  (apply wlp;apply qC;exact fS rfl)
  (apply wlp;exact zP (vs:=[.slice s1 cs.length c1,.int .i64 (pt:Int),.slice s2 bx.length c2]) rfl rfl rfl rfl (fun j v hv=>hp.agg_blk (k:=3) (o:=0) 0 rfl rfl j v hv);exact fA3 rfl)
  (apply wls;exact jP (cs:=eDl ⟨s1,c1,cs,pt,s2,c2,bx⟩) hp rfl rfl rfl rfl rfl rfl rfl;rintro _ w12 ⟨nb,rfl,hp⟩)
  have hp:Hp w [] w12 ([blk nb (eDl ⟨s1,c1,cs,pt,s2,c2,bx⟩).length (qV (eDl ⟨s1,c1,cs,pt,s2,c2,bx⟩)) 54,blk b8 3 (qV [.slice s1 cs.length c1,.int .i64 (pt:Int),.slice s2 bx.length c2]) 54,qW eN 3 1 s1 c1 cs,qW eS 9 1 s2 c2 bx,qW eN 3 1 sk ck (xS ms),qW eN 3 1 sp cp p,qW eDl 54 3 so co ds] ++ ds.flatMap dlE):=hp
  (apply wls;exact zL eDl ds ⟨s1,c1,cs,pt,s2,c2,bx⟩ hp 6 0 rfl rfl rfl rfl rfl rfl (fun _=>rfl) rfl rfl rfl how.out rfl rfl (by omega);rintro _ w13 ⟨s',c',rfl,hsv',hp⟩)
  have hp:=(((hp.tail).tail).dropAt 2).dropAt 2
  have hp:Hp w [] w13 (dlE ⟨s1,c1,cs,pt,s2,c2,bx⟩ ++ (qW eDl 54 3 s' c' (ds ++ [⟨s1,c1,cs,pt,s2,c2,bx⟩]) :: ds.flatMap dlE)):=hp
  have hp:Hp w [] w13 (xQ s' c' (ds ++ [⟨s1,c1,cs,pt,s2,c2,bx⟩])):=hp.perm (by
   unfold xQ
   rw [List.flatMap_append,List.flatMap_singleton]
   exact List.perm_append_comm)
  have how2:DlsOw s' c' (ds ++ [⟨s1,c1,cs,pt,s2,c2,bx⟩]):=⟨hsv',fun d hd=>by
   rcases List.mem_append.1 hd with hd|hd
   ·exact how.each d hd
   ·rw [List.mem_singleton.1 hd]
    exact hdo⟩
  have hon2:=hon.snoc hdh
  rw [← hps] at hon2
  have hml:(ds ++ [(⟨s1,c1,cs,pt,s2,c2,bx⟩:DlV)]).length = ds.length + 1:=by simp
  (repeat (first|(with_reducible first|apply qA|apply qE|apply qB|apply qZ)|(apply wlp;(first|apply qC|apply qD);(first|exact fI rfl|exact fS rfl))))
  (apply wlp;(exact qY rfl rfl);exact qI (b:=((ds.length + 1:Nat):Int)) (by rw [qN (by omega) (by omega)];omega))
  (repeat (first|(with_reducible first|apply qE|apply qB)|(apply wlp;apply qD;exact fI rfl)))
  exact ⟨(ds ++ [(⟨s1,c1,cs,pt,s2,c2,bx⟩:DlV)],s',c'),qG (qG (Same.eq (by repeat (first|exact Same.hav|exact Same.refl|refine Same.put rfl ?_|refine Same.havs rfl ?_))) (by show Value.int .i64 ((ds.length + 1:Nat):Int) = _;rw [← hml])) rfl,⟨by dsimp only;omega,how2,by dsimp only;rw [hml,hpl];exact hon2,hp⟩,by dsimp only;omega⟩)
 have hi2:ms.take ds.length = ms:=List.take_of_length_le (by omega)
 rw [hi2] at hon
 (repeat (first|(with_reducible first|apply qF|apply qA|apply qE|apply qB|apply qO|apply qT|apply jB)|((with_reducible apply qP);exact rfl)|(apply wlp;(first|apply qC|apply qD);exact fS rfl)))
 exact qU rfl rfl ⟨_,rfl,so,co,ds,rfl,how,hon,hp⟩
set_option maxHeartbeats 4000000 in
theorem p24 (ms:List Mem) (ds:List DlV) (s s2:Option Addr) (c c2:Nat) (w:World) (hs:SlAt w 3 eMe s ms) (ho:MsOk ms) (hd:SlAt w 3 eDl s2 ds) (hda:∀ d ∈ ds,DlAt w d) (hok:∀ d ∈ ds,DlOk d (zC ms).sum∧d.cs.length = ndN (zC ms).sum) (h0:1≤ds.length) (hdl:ds.length≤1000) :
  Ret Tryz.prog 24 [.slice s ms.length c,.slice s2 ds.length c2] w (fun v w'=>∃ k:KyV,v = .tuple #[.agg (eKy k).toArray,.bool true]∧KyOw k∧k.cs = (List.range (ndN (zC ms).sum)).map (mxF ds (List.replicate ds.length 1))∧kD k.rs = wJ 1 (zC ms)∧Hp w [] w' (kyE k)):=by
 have h20:=fun w h=>p20 ms s c w h ho
 have h66:=fun w h=>p66 ms s c w h ho
 have hs60:=ho.wo.sum
 have hsp:=ho.wo.sp
 obtain ⟨n,hn⟩:∃ n,n = (zC ms).sum:=⟨_,rfl⟩
 rw [← hn] at hs60 hsp ⊢
 simp only [← hn] at h20 hok
 have hndl:=yO hsp
 have h19:=fun w=>p19 n w hsp (by omega)
 have h65:=fun w h h2=>p65 ds n s2 c2 w h h2 hok hsp (by omega) (by omega) h0
 have hcb:∀ d ∈ ds,∀ a ∈ d.cs,a < 2305843009213691579:=fun d hd a ha=>kQ ((hok d hd).1.mb a ha)
 have hcl:∀ d ∈ ds,d.cs.length = ndN n:=fun d hd=>(hok d hd).2
 obtain ⟨nd,hnd⟩:∃ nd,nd = ndN n:=⟨_,rfl⟩
 rw [← hnd] at hndl ⊢
 simp only [← hnd] at h19 hcl
 clear hok
 refine Ret.of_WP Tryz.func24 rfl Tryz.ntmps24 rfl ?_
 have hp:=Hp.start (M:=[]) (w:=w)
 (repeat (with_reducible first|apply qF|apply qA))
 (apply wls;exact vA hp (jD rfl);rintro _ w1 ⟨b4,rfl,hp⟩)
 (repeat (first|(with_reducible first|apply qF|apply qA|apply qE|apply qB)|(apply wlp;(first|apply qC|apply qD);(first|exact fB rfl|exact fS rfl))))
 (apply wls;exact qH rfl qFn rfl (h20 _ (hs.keep0 hp.keeps));rintro _ w2 ⟨rfl,hk⟩;have hp:=hp.call hk)
 (repeat (first|(with_reducible first|apply qF|apply qA|apply qE|apply qB)|(apply wlp;(first|apply qC|apply qD);(first|exact fI rfl|exact fS rfl))))
 (apply wls;exact qH rfl qV9 rfl (h65 _ (hd.keep0 hp.keeps) (fun d hd=>(hda d hd).keep hp.keeps));rintro _ w3 ⟨rfl,hk⟩;have hp:=hp.call hk)
 (apply wlp;apply qD;exact fB rfl)
 (repeat (with_reducible first|apply qF|apply qA|apply qE|apply qB))
 (apply wlp;apply qC;exact fI rfl)
 (apply wlp;(exact zF rfl rfl);exact jF (b:=false) (decide_eq_false (by omega)))
 (apply wlp;apply qC;exact fB rfl)
 ((apply jO;exact rfl;exact rfl);(apply qC);(intros;exact fB rfl))
 ((apply jO;exact rfl;exact rfl);((apply zI<;>exact rfl));(intros;exact fB rfl))
 (apply wlp;exact jU rfl rfl;exact fB rfl)
 (repeat (with_reducible first|apply qE|apply qB))
 refine jI rfl ?_
 (repeat (first|(with_reducible first|apply qF|apply qK|apply qA|apply qE|apply qB|apply qL)|(apply wlp;apply qD;(first|exact fI rfl|exact fS rfl))))
 have hp:=hp.nilL eN 3 1
 have hp:Hp w [] w3 [qW eN 3 1 none 0 (List.replicate 0 1),blk b4 2 (qV [.slice none 0 0,.slice none 0 0]) 27]:=hp
 refine zW ([8,9] ++ List.range' 24 9) (fun (i:Nat) (s':Option Addr) (c':Nat) F=>(F.put 9 (.int .i64 (i:Int))).put 8 (.slice s' (List.replicate i 1).length c'))
  (fun i s' c' w'=>i≤ds.length∧SVL s' c' (List.replicate i 1)∧Hp w [] w' [qW eN 3 1 s' c' (List.replicate i 1),blk b4 2 (qV [.slice none 0 0,.slice none 0 0]) 27]) (fun i _ _=>ds.length - i) 0 none 0 (qG (qG (Same.eq .refl) rfl) rfl) ⟨Nat.zero_le _,SVL.nil,hp⟩ ?_
 (repeat clear hp)
 rintro u0 i s1 c1 w4 ⟨hi,hsv,hp⟩
 have hrl:(List.replicate i 1).length = i:=List.length_replicate
 (repeat (first|(with_reducible first|apply qF|apply qA|apply qE|apply qB)|(apply wlp;((first|apply qC|(apply jC;exact rfl)|apply jA)<;>exact rfl);(first|exact fI rfl|exact fB rfl|exact fS rfl))))
 refine qM rfl (fun h=>?_) (fun h=>?_)
 ·have hsn:List.replicate (i + 1) 1 = List.replicate i 1 ++ [1]:=List.replicate_succ'
  (repeat (first|(with_reducible first|apply qF|apply qK|apply qA|apply qB|apply qL)|(apply wlp;apply qC;exact fS rfl)))
  (apply wls;exact jP (cs:=eN 1) hp rfl rfl rfl rfl rfl rfl rfl;rintro _ w8 ⟨nb,rfl,hp⟩)
  (apply wls;exact zL eN (List.replicate i 1) 1 hp 1 0 rfl rfl rfl rfl rfl rfl (fun _=>rfl) rfl rfl rfl hsv rfl rfl (by omega);rintro _ w9 ⟨s',c',rfl,hsv',hp⟩)
  rw [← hsn] at hsv' hp
  rw [← hsn]
  (repeat (first|(with_reducible first|apply qA|apply qE|apply qB|apply qZ)|(apply wlp;(first|apply qC|apply qD);(first|exact fI rfl|exact fS rfl))))
  (apply wlp;(exact qY rfl rfl);exact qI (b:=((i + 1:Nat):Int)) (by rw [qN (by omega) (by omega)];omega))
  (repeat (first|(with_reducible first|apply qE|apply qB)|(apply wlp;apply qD;exact fI rfl)))
  exact ⟨i + 1,s',c',qG (qG (Same.eq (by repeat (first|exact Same.hav|exact Same.refl|refine Same.put rfl ?_|refine Same.havs rfl ?_))) rfl) rfl,⟨by omega,hsv',hp.tail⟩,by omega⟩
 obtain rfl:i = ds.length:=by omega
 have hob:∀ x ∈ List.replicate ds.length 1,x≤9223372036854775807:=fun x hx=>by rw [(List.mem_replicate.1 hx).2];decide
 obtain ⟨ones,hones⟩:∃ ones,ones = List.replicate ds.length 1:=⟨_,rfl⟩
 rw [← hones] at hsv hp hrl hob ⊢
 (repeat (first|(with_reducible first|apply qF|apply qA|apply qB|apply qO|apply jB)|((with_reducible apply qP);exact rfl)|(apply wlp;apply qC;exact fS rfl)))
 (apply wls;exact qH rfl qV8 rfl (h66 _ (hs.keep0 hp.keeps));rintro _ w5 ⟨sr,cr,rs,rfl,hrw,hrn,hpo⟩;have hp:=hp.joinT [] (rwE sr cr rs) hpo;clear hpo)
 have hp:Hp w [] w5 ([qW eN 3 1 s1 c1 ones,blk b4 2 (qV [.slice none 0 0,.slice none 0 0]) 27] ++ rwE sr cr rs):=hp
 (repeat (first|(with_reducible first|apply qF|apply qA|apply qE|apply qB)|(apply wlp;((first|apply qC|apply qD|apply jK)<;>exact rfl);(first|exact fI rfl|exact fB rfl|exact fS rfl|exact fU rfl))))
 (apply wls;exact qH rfl qFp rfl (h19 _);rintro _ w6 ⟨rfl,hk⟩;have hp:=hp.call hk)
 (apply wls;exact qH rfl qV7 rfl (p67 ds ones nd s2 s1 c2 c1 _ (hd.keep0 hp.keeps) (fun d hd=>(hda d hd).keep hp.keeps) (jS hp 0 rfl hsv (fun _=>rfl)) hrl hob hcl hcb (by omega) (by omega));rintro _ w7 ⟨sm,cm,rfl,hsm,hpo⟩;have hp:=hp.join hpo;clear hpo)
 have hml:((List.range nd).map (mxF ds ones)).length = nd:=by rw [List.length_map,List.length_range]
 obtain ⟨cms,hcms⟩:∃ cms,cms = (List.range nd).map (mxF ds ones):=⟨_,rfl⟩
 rw [← hcms] at hml hsm hp
 have hp:Hp w [] w7 ([qW eN 3 1 sm cm cms,qW eN 3 1 s1 c1 ones,blk b4 2 (qV [.slice none 0 0,.slice none 0 0]) 27] ++ rwE sr cr rs):=hp
 rw [← hml]
 (repeat (apply wlp;((first|apply qC|(apply xJ;exact rfl))<;>exact rfl);(first|exact fS rfl|exact fA2 rfl)))
 (apply zG;exact yN hp 2 rfl rfl rfl rfl (qQ rfl) rfl;rintro _ w8 ⟨rfl,hp⟩)
 have hp:=hp.norm 2 [.slice sm cms.length cm,.slice sr rs.length cr] rfl rfl
 (repeat (first|(with_reducible first|apply qE|apply qB|apply qT)|(apply wlp;apply qD;exact fB rfl)))
 exact kE rfl rfl rfl rfl rfl (hp.agg_blk 2 rfl rfl) ⟨_,rfl,⟨sm,cm,cms,sr,cr,rs⟩,rfl,⟨hsm,hrw⟩,by dsimp only;rw [hml];exact hcms,hrn,(hp.dropAt 2).dropAt 1⟩
end Go.Proofs.YtbgldmoikimmpaaGreatDoor
namespace Go.Eng
section
variable {P:Program} {n:FrK} {F:Fr} {w:World} {d:Option Tmp} {ty:TypeId} {pos:String} {aft:Array Edge} {g:Option (Nat × Bool)} {x y:Operand}
theorem qK9 {t e k b o m c l:Nat} {q:IntKind} (ht:P.underlying t = some (.slice e)) (hk:TSize P e k) (hx:ev n F x = .slice (some ⟨b,o,none⟩) m c) (hl:ev n F y = .int q l) (h1:l≤m) (_h2:m≤c) :
  PV P n w F ⟨d,.slice t x (some y) none none,ty,pos,aft,g⟩ (.slice (some ⟨b,if c = l then o else o + l * k,none⟩) (m - l) (c - l)):=by
 have hb3:=yS (P:=P) (w:=w) (c:=.sliceB) hl h1
 by_cases hne:c = l
 ·simp [PV,execOp,Instr.sliceAt,Instr.slice,hx,zE ht,Instr.sliceBounds,hb3,hk.run,hne]
 ·simp [PV,execOp,Instr.sliceAt,Instr.slice,hx,zE ht,Instr.sliceBounds,hb3,hk.run,hne,yH]
end
end Go.Eng
namespace Go.Proofs.YtbgldmoikimmpaaGreatDoor
open Go.Eng Go.Dig Go.Sha Go.Lag Go.Grp Go.Sp
def loS (c l:Nat):Nat:=if c = l then 0 else 0 + l * 1
section
variable {n:FrK} {F:Fr} {w:World} {d:Option Tmp} {ty:TypeId} {pos:String} {aft:Array Edge} {g:Option (Nat × Bool)} {x y:Operand}
theorem qKn {gb c z:Nat} {q:IntKind} {l:List Nat} (hx:ev n F x = .slice (some ⟨gb,0,none⟩) l.length c) (hy:ev n F y = .int q z) (h1:z≤l.length) (h2:l.length≤c) :
  PV Tryz.prog n w F ⟨d,.slice 23 x (some y) none none,ty,pos,aft,g⟩ (.slice (some ⟨gb,loS c z,none⟩) (l.drop z).length (c - z)):=by
 rw [List.length_drop]
 exact qK9 (xT (t:=23) rfl).1 (xT (t:=23) (e:=3) (k:=1) rfl).2 hx hy h1 h2
theorem qKm {gb c z:Nat} {q:IntKind} {l:List Nat} (hx:ev n F x = .slice (some ⟨gb,0,none⟩) l.length c) (hy:ev n F y = .int q z) (h1:z≤l.length) (h2:l.length≤c) :
  PV Tryz.prog n w F ⟨d,.slice 23 x none (some y) none,ty,pos,aft,g⟩ (.slice (some ⟨gb,0,none⟩) (l.take z).length c):=by
 rw [List.length_take,Nat.min_eq_left h1]
 exact uZ (t:=23) (e:=3) (k:=1) rfl hx hy (by omega)
end
theorem qUm {w:World} {gb c z:Nat} {l:List Nat} (h:SlAt w 1 eN (some ⟨gb,0,none⟩) l) (hc:l.length≤c):SlAt w 1 eN (some ⟨gb,loS c z,none⟩) (l.drop z):=by
 intro i x hx
 rw [List.getElem?_drop] at hx
 obtain ⟨b,o,e,hcell⟩:=h (z + i) x hx
 cases e
 have hlt:=(List.getElem?_eq_some_iff.1 hx).1
 refine ⟨gb,loS c z,rfl,fun j v hv=>?_⟩
 have:=hcell j v hv
 have hne:¬ c = z:=by omega
 unfold loS
 rw [if_neg hne]
 rw [show 0 + z * 1 + i * 1 + j = 0 + (z + i) * 1 + j by omega]
 exact this
structure GrV where
 sM:Option Addr
 cM:Nat
 ms:List Mem
 sS:Option Addr
 cS:Nat
 secs:List Nat
 sC:Option Addr
 cC:Nat
 cf:List Nat
 k:KyV
def eGr (g:GrV):List Value:=[.slice g.sM g.ms.length g.cM,.slice g.sS g.secs.length g.cS,.slice g.sC g.cf.length g.cC,.slice g.k.s1 g.k.cs.length g.k.c1,.slice g.k.s2 g.k.rs.length g.k.c2]
structure GrAt (w:World) (g:GrV):Prop where
 ms:SlAt w 3 eMe g.sM g.ms
 cf:SlAt w 1 eN g.sC g.cf
 k:KyAt w g.k
structure GrOk (g:GrV):Prop where
 mo:MsOk g.ms
 pk:PkOk g.k (zC g.ms) g.cf
theorem GrOk.len {g:GrV} (h:GrOk g):g.cf.length = g.k.cs.length:=by rw [h.pk.pk,wO]
structure ChOk (xs:List Nat) (n nd:Nat):Prop where
 len:xs.length = nd
 nd:xs.Nodup
 bd:∀ x ∈ xs,1≤x∧x≤n
theorem ChOk.of_perm {xs rest:List Nat} {n nd:Nat} (h:(xs ++ rest).Perm (List.range' 1 n)) (hl:xs.length = nd):ChOk xs n nd:=by
 have hnd:(xs ++ rest).Nodup:=h.nodup_iff.2 List.nodup_range'
 refine ⟨hl,(List.nodup_append.1 hnd).1,fun x hx=>?_⟩
 have:=h.subset (List.mem_append_left rest hx)
 rw [List.mem_range'_1] at this
 omega
attribute [local irreducible] PV StepF wpl wpd WP Ret
attribute [local irreducible] Fit ofN xD hv scP xN yC yY atP Mb inL fac zB inP lft elP pfC pfZ bsR dec scR wI qCu mxI mxF
theorem p8 (g:GrV) (x:Nat) (w:World) (hc:SlAt w 1 eN g.sC g.cf) (hl:g.cf.length≤1000000) (hb:∀ a ∈ g.cf,a < 1152921504606845789) (hx:x≤9223372036854775807) :
  Ret Tryz.prog 8 [.agg (eGr g).toArray,.int .i64 (x:Int)] w (fun v w'=>v = .agg #[.int .i64 (x:Int),.int .i64 (vl g.cf x:Int)]∧Keeps [] w w'):=by
 obtain ⟨sM,cM,ms,sS,cS,secs,sC,cC,cf,⟨s1,c1,cs,s2,c2,rs⟩⟩:=g
 dsimp only at hc hl hb ⊢
 have hE:eGr ⟨sM,cM,ms,sS,cS,secs,sC,cC,cf,⟨s1,c1,cs,s2,c2,rs⟩⟩ = [.slice sM ms.length cM,.slice sS secs.length cS,.slice sC cf.length cC,.slice s1 cs.length c1,.slice s2 rs.length c2]:=rfl
 rw [hE]
 clear hE
 refine Ret.of_WP Tryz.func8 rfl Tryz.ntmps8 rfl ?_
 have hp:=Hp.start (M:=[]) (w:=w)
 (repeat (with_reducible first|apply qF|apply qA))
 (apply wls;exact qOj hp rfl;rintro _ w1 ⟨kb,rfl,hp⟩)
 (apply wls;exact vA hp (jD rfl);rintro _ w2 ⟨rb,rfl,hp⟩)
 (repeat (first|(with_reducible first|apply qF|apply qA|apply qE|apply qB)|(apply wlp;((first|apply qC|apply qS|(apply qJ;exact rfl))<;>(first|exact rfl|exact hp.cell 1 rfl rfl));(first|exact fI rfl|exact fP rfl|exact fS rfl))))
 (apply wls;exact qH rfl qVe rfl (p27 cf x sC cC _ (hc.keep0 hp.keeps) hl hx hb))
 rintro _ w3 ⟨rfl,hk⟩
 have hp:=hp.call hk
 (repeat (apply wlp;((apply xJ;exact rfl)<;>exact rfl);exact fA2 rfl))
 (apply zG;exact yN hp 0 rfl rfl rfl rfl (qQ rfl) rfl;rintro _ w4 ⟨rfl,hp⟩)
 have hp:=hp.norm 0 [.int .i64 (x:Int),.int .i64 (vl cf x:Int)] rfl rfl
 (repeat (with_reducible first|apply qE|apply qB|apply qT))
 exact yG rfl rfl rfl rfl (hp.agg_blk 0 rfl rfl) ⟨_,rfl,rfl,hp.keeps⟩
set_option maxHeartbeats 4000000 in
theorem p6 (g:GrV) (l:List Int) (s:Option Addr) (c:Nat) (w:World) (hg:GrAt w g) (ho:GrOk g) (hs:SlAt w 1 eI s l) (hl:l.length≤9223372036854775807) :
  Ret Tryz.prog 6 [.agg (eGr g).toArray,.slice s l.length c] w (fun v w'=>∃ s' c' xs,v = .slice s' xs.length c'∧ChOk xs (zC g.ms).sum g.k.cs.length∧SVL s' c' xs∧Hp w [] w' [qW eN 3 1 s' c' xs]):=by
 have h20:=fun w h=>p20 g.ms g.sM g.cM w h ho.mo
 have hMs:=hg.ms
 have hs60:=ho.mo.wo.sum
 have hsp:=ho.mo.wo.sp
 have hndn:=ho.pk.ko.nd
 have hndl:=yO hsp
 clear hg ho
 obtain ⟨sM,cM,ms,sS,cS,secs,sC,cC,cf,⟨s1,c1,cs,s2,c2,rs⟩⟩:=g
 dsimp only at h20 hMs hs60 hsp hndn hndl ⊢
 generalize (zC ms).sum = n at h20 hs60 hsp hndn hndl ⊢
 rw [← hndn] at hndl
 clear hndn
 have hE:eGr ⟨sM,cM,ms,sS,cS,secs,sC,cC,cf,⟨s1,c1,cs,s2,c2,rs⟩⟩ = [.slice sM ms.length cM,.slice sS secs.length cS,.slice sC cf.length cC,.slice s1 cs.length c1,.slice s2 rs.length c2]:=rfl
 rw [hE]
 clear hE
 have hsw:l ≠ []→∀ b o,s = some ⟨b,o,none⟩→b < w.heap.size:=fun h b o e=>hs.lt (fun _=>rfl) (by decide) h e
 refine Ret.of_WP Tryz.func6 rfl Tryz.ntmps6 rfl ?_
 have hp:=Hp.start (M:=[]) (w:=w)
 (repeat (with_reducible first|apply qF|apply qA))
 (apply wls;exact qOj hp rfl;rintro _ w1 ⟨kb,rfl,hp⟩)
 (repeat (first|(with_reducible first|apply qF|apply qK|apply qA|apply qE|apply qB)|(apply wlp;apply qD;(first|exact fI rfl|exact fS rfl))))
 have hp:=hp.nilL eN 3 1
 have hp:Hp w [] w1 [qW eN 3 1 none 0 (List.range' 1 0),blk kb 5 (qV [.slice sM ms.length cM,.slice sS secs.length cS,.slice sC cf.length cC,.slice s1 cs.length c1,.slice s2 rs.length c2]) 29]:=hp
 refine zW ([5,6] ++ List.range' 10 11) (fun (i:Nat) (s':Option Addr) (c':Nat) F=>(F.put 6 (.int .i64 ((i + 1:Nat):Int))).put 5 (.slice s' (List.range' 1 i).length c'))
  (fun i s' c' w'=>i≤n∧SVL s' c' (List.range' 1 i)∧Hp w [] w' [qW eN 3 1 s' c' (List.range' 1 i),blk kb 5 (qV [.slice sM ms.length cM,.slice sS secs.length cS,.slice sC cf.length cC,.slice s1 cs.length c1,.slice s2 rs.length c2]) 29]) (fun i _ _=>n - i) 0 none 0 (qG (qG (Same.eq .refl) rfl) rfl) ⟨Nat.zero_le _,SVL.nil,hp⟩ ?_
 (repeat clear hp)
 rintro u0 i sr cr w2 ⟨hi,hsv,hp⟩
 have hrl:(List.range' 1 i).length = i:=List.length_range'
 (repeat (first|(with_reducible first|apply qF|apply qA)|(apply wlp;((first|apply qC|apply qS|(apply qJ;exact rfl))<;>(first|exact rfl|exact hp.cell 1 rfl rfl));(first|exact fI rfl|exact fP rfl|exact fS rfl))))
 (apply wls;exact qH rfl qFn rfl (h20 _ (hMs.keep0 hp.keeps));rintro _ w3 ⟨rfl,hk⟩;have hp:=hp.call hk)
 (repeat (first|(with_reducible first|apply qE|apply qB)|(apply wlp;(apply kB<;>exact rfl);exact fB rfl)))
 refine qM rfl (fun h=>?_) (fun h=>?_)
 ·have hsn:List.range' 1 (i + 1) = List.range' 1 i ++ [i + 1]:=by
   rw [List.range'_concat]
   congr 2
   omega
  (repeat (first|(with_reducible first|apply qF|apply qK|apply qA|apply qB|apply qL)|(apply wlp;apply qC;(first|exact fI rfl|exact fS rfl))))
  (apply wls;exact jP (cs:=eN (i + 1)) hp rfl rfl rfl rfl rfl rfl rfl;rintro _ w4 ⟨nb,rfl,hp⟩)
  (apply wls;exact zL eN (List.range' 1 i) (i + 1) hp 1 0 rfl rfl rfl rfl rfl rfl (fun _=>rfl) rfl rfl rfl hsv rfl rfl (by omega);rintro _ w5 ⟨s',c',rfl,hsv',hp⟩)
  rw [← hsn] at hsv' hp
  rw [← hsn]
  (repeat (first|(with_reducible first|apply qA|apply qE|apply qB|apply qZ)|(apply wlp;(first|apply qC|apply qD);(first|exact fI rfl|exact fS rfl))))
  (apply wlp;(exact qY rfl rfl);exact qI (b:=((i + 1 + 1:Nat):Int)) (by rw [qN (by omega) (by omega)];omega))
  (repeat (first|(with_reducible first|apply qE|apply qB)|(apply wlp;apply qD;exact fI rfl)))
  exact ⟨i + 1,s',c',qG (qG (Same.eq (by repeat (first|exact Same.hav|exact Same.refl|refine Same.put rfl ?_|refine Same.havs rfl ?_))) rfl) rfl,⟨by omega,hsv',hp.tail⟩,by omega⟩
 obtain rfl:i = n:=by omega
 (repeat (first|(with_reducible first|apply qF|apply qA|apply qB|apply qO|apply jB)|((with_reducible apply qP);exact rfl)|(apply wlp;((first|apply qC|(apply xJ;exact rfl))<;>exact rfl);(first|exact fS rfl|exact fA2 rfl))))
 (apply wls;exact uY hp rfl;rintro _ w4 ⟨mb,rfl,hp⟩)
 have hnw:=hp.newer (i:=0) rfl
 have hsn:l ≠ []→∀ b o,s = some ⟨b,o,none⟩→b ≠ mb:=fun h b o e=>by have:=hsw h b o e;omega
 (repeat (first|(with_reducible first|apply qF|apply qK|apply qA|apply qE|apply qB)|(apply wlp;apply qD;(first|exact fP rfl|exact fS rfl))))
 have hp:=hp.nilL eN 3 1
 have hp:Hp w [] w4 [qW eN 3 1 none 0 [],blk mb 2 (qV [.slice s l.length c,.int .i64 ((0:Nat):Int)]) 84,qW eN 3 1 sr cr (List.range' 1 i),blk kb 5 (qV [.slice sM ms.length cM,.slice sS secs.length cS,.slice sC cf.length cC,.slice s1 cs.length c1,.slice s2 rs.length c2]) 29]:=hp
 refine jE ([5,8,9] ++ List.range' 24 33) (fun (X:List Nat × List Nat × Nat × (Option Addr × Nat) × (Option Addr × Nat)) F=>(F.put 5 (.slice X.2.2.2.2.1 X.2.1.length X.2.2.2.2.2)).put 8 (.slice X.2.2.2.1.1 X.1.length X.2.2.2.1.2))
  (fun X w'=>X.1.length≤cs.length∧(X.1 ++ X.2.1).Perm (List.range' 1 i)∧X.2.2.1≤l.length∧SVL X.2.2.2.1.1 X.2.2.2.1.2 X.1∧SVL X.2.2.2.2.1 X.2.2.2.2.2 X.2.1∧Hp w [] w' [qW eN 3 1 X.2.2.2.1.1 X.2.2.2.1.2 X.1,blk mb 2 (qV [.slice s l.length c,.int .i64 (X.2.2.1:Int)]) 84,qW eN 3 1 X.2.2.2.2.1 X.2.2.2.2.2 X.2.1,blk kb 5 (qV [.slice sM ms.length cM,.slice sS secs.length cS,.slice sC cf.length cC,.slice s1 cs.length c1,.slice s2 rs.length c2]) 29]) (fun X=>cs.length - X.1.length) ([],List.range' 1 i,0,(none,0),(sr,cr))
  (qG (qG (Same.eq .refl) rfl) rfl) ⟨Nat.zero_le _,by simp,Nat.zero_le _,SVL.nil,hsv,hp⟩ ?_
 (repeat clear hp)
 clear hsv hrl
 rintro u1 ⟨out,rest,k,⟨so,co⟩,⟨sr,cr⟩⟩ w5 ⟨hol,hperm,hk,hv1,hv2,hp⟩
 dsimp only at hol hperm hk hv1 hv2 hp ⊢
 have hlen:out.length + rest.length = i:=by have:=hperm.length_eq;simpa using this
 (repeat (with_reducible first|apply qF|apply qA))
 (apply wlp;apply qC;exact fS rfl)
 (apply wlp;((apply jC;exact rfl)<;>exact rfl);exact fI rfl)
 (apply wlp;(apply qS<;>exact rfl);exact fP rfl)
 (apply wlp;(apply qS<;>exact rfl);exact fP rfl)
 (apply wlp;((apply qJ;exact rfl)<;>(first|exact rfl|exact hp.cell 3 rfl rfl));exact fS rfl)
 (apply wlp;((apply jC;exact rfl)<;>exact rfl);exact fI rfl)
 by_cases hlt:out.length < cs.length
 ·(apply wlp;(exact jA rfl rfl);exact jF (b:=true) (decide_eq_true (by omega)))
  (apply wlp;apply qC;exact fB rfl)
  ((apply jO;exact rfl;exact rfl);(apply qC);(intros;exact fS rfl))
  ((apply jO;exact rfl;exact rfl);(((apply jC;exact rfl)<;>exact rfl));(intros;exact fI rfl))
  (apply jO;exact rfl;exact rfl;exact zA rfl rfl;exact jF (b:=true) (decide_eq_true (by omega)))
  (apply wlp;exact zM rfl rfl;exact fB rfl)
  (repeat (with_reducible first|apply qE|apply qB))
  refine yI rfl ?_
  (repeat (first|(with_reducible first|apply qF|apply qK|apply qA|apply qB|apply qL)|(apply wlp;((first|apply qC|(apply jC;exact rfl))<;>exact rfl);(first|exact fI rfl|exact fP rfl|exact fS rfl))))
  (apply wls;exact qH rfl qQj rfl (p25 l rest.length k mb c s _ (by omega) (by omega) hl (hs.keep0 hp.keeps) (hp.has 1 _ rfl mb rfl) hk hsn);rintro _ w6 ⟨z,k',rfl,hz,hk',hkk,hob⟩;have hp:=hp.callAt 1 rfl hkk hob;clear hob hkk)
  have hp:Hp w [] w6 [qW eN 3 1 so co out,blk mb 2 (qV [.slice s l.length c,.int .i64 (k':Int)]) 84,qW eN 3 1 sr cr rest,blk kb 5 (qV [.slice sM ms.length cM,.slice sS secs.length cS,.slice sC cf.length cC,.slice s1 cs.length c1,.slice s2 rs.length c2]) 29]:=hp
  have hne:rest ≠ []:=by rintro rfl;cases hz
  obtain ⟨gb,rfl⟩:=hv2.addr hne
  have hcap:=hv2.cap
  have hcz:=xK hp 2 rfl hv2 (fun _=>rfl) (List.getElem?_eq_getElem hz) 0 _ rfl
  have hcz:w6.cell? ⟨gb,0 + z * 1 + 0,none⟩ = some (.int .i64 (rest[z]:Int)):=hcz
  have hpm:(out ++ [rest[z]] ++ (rest.take z ++ rest.drop (z + 1))).Perm (out ++ rest):=by
   have e:rest = rest.take z ++ rest[z] :: rest.drop (z + 1):=by rw [List.getElem_cons_drop,List.take_append_drop]
   conv=>rhs;rw [e]
   rw [List.append_assoc]
   exact List.Perm.append_left _ (show (rest[z] :: (rest.take z ++ rest.drop (z + 1))).Perm _ from List.perm_middle.symm)
  generalize rest[z] = x at hcz hpm
  (repeat (first|(with_reducible first|apply qF|apply qA|apply qE|apply qB)|(apply wlp;((first|apply qC|apply qD|(apply qJ;exact rfl)|(apply qR;exact rfl))<;>(first|exact rfl|assumption));(first|exact fI rfl|exact fP rfl|exact fS rfl))))
  (apply wls;exact jP (cs:=eN x) hp rfl rfl rfl rfl rfl rfl rfl;rintro _ w7 ⟨nb,rfl,hp⟩)
  (apply wls;exact zL eN out x hp 1 0 rfl rfl rfl rfl rfl rfl (fun _=>rfl) rfl rfl rfl hv1 rfl rfl (by omega);rintro _ w8 ⟨so',co',rfl,hv1',hp⟩)
  have hp:=hp.tail
  (repeat (first|(with_reducible first|apply qE|apply qB)|(apply wlp;apply qD;exact fS rfl)))
  refine jX jW (by kernel_rfl) (fun w'=>Hp _ _ w' _) hp.drew ?_
  have hp:=hp.drew
  (apply wds;exact rfl;exact jP (cs:=[]) hp rfl rfl rfl rfl rfl rfl rfl;rintro _ w9 ⟨nb2,rfl,hp⟩;refine ⟨hp.tail,?_⟩)
  (repeat ((apply wdp;exact rfl);(intro w hp;intros;apply qC);(intros;(first|exact fI rfl|exact fS rfl))))
  (apply wdp;exact rfl;(intro w hp;exact qKm rfl rfl (by omega) hcap);exact fS rfl)
  (apply wds;exact rfl;exact qOg eN (rest.take z) hp 0 rfl rfl rfl rfl rfl rfl (fun _=>rfl) rfl rfl rfl ((jS hp 3 rfl hv2 (fun _=>rfl)).pre (List.take_prefix _ _)) (fun _=>rfl) (by rw [List.length_take];omega);rintro _ w10 ⟨sa,ca,rfl,hva,hp⟩;refine ⟨hp.tail,?_⟩)
  have hp:Hp w [] w10 [qW eN 3 1 sa ca (rest.take z),qW eN 3 1 so' co' (out ++ [x]),blk mb 2 (qV [.slice s l.length c,.int .i64 (k':Int)]) 84,qW eN 3 1 (some ⟨gb,0,none⟩) cr rest,blk kb 5 (qV [.slice sM ms.length cM,.slice sS secs.length cS,.slice sC cf.length cC,.slice s1 cs.length c1,.slice s2 rs.length c2]) 29]:=hp
  (repeat ((apply wdp;exact rfl);(intro w hp;intros;apply qC);(intros;(first|exact fI rfl|exact fS rfl))))
  (apply wdp;exact rfl;(intro w hp;exact qY rfl rfl);exact qI (b:=((z + 1:Nat):Int)) (by rw [qN (by omega) (by omega)];omega))
  (apply wdp;exact rfl;(intro w hp;exact qKn rfl rfl (by omega) hcap);exact fS rfl)
  (apply wds;exact rfl;exact qEx eN (rest.take z) (rest.drop (z + 1)) hp 0 rfl rfl rfl rfl rfl rfl (fun _=>rfl) rfl rfl rfl hva (qUm (jS hp 3 rfl hv2 (fun _=>rfl)) hcap) (fun _=>rfl) (by rw [List.length_take,List.length_drop];omega);rintro _ w11 ⟨sb,cb,rfl,hvb,hp⟩;refine ⟨hp.tail,?_⟩)
  have hp:=hp.picks [1,2,0,4] [qW eN 3 1 so' co' (out ++ [x]),blk mb 2 (qV [.slice s l.length c,.int .i64 (k':Int)]) 84,qW eN 3 1 sb cb (rest.take z ++ rest.drop (z + 1)),blk kb 5 (qV [.slice sM ms.length cM,.slice sS secs.length cS,.slice sC cf.length cC,.slice s1 cs.length c1,.slice s2 rs.length c2]) 29] rfl rfl
  (repeat ((apply wdp;exact rfl);(intro w hp;intros;apply qD);(intros;exact fS rfl)))
  refine jL ?_
  (repeat (with_reducible first|apply qB|apply qZ))
  exact ⟨(out ++ [x],rest.take z ++ rest.drop (z + 1),k',(so',co'),(sb,cb)),qG (qG (Same.eq (by repeat (first|exact Same.hav|exact Same.refl|refine Same.put rfl ?_|refine Same.havs rfl ?_))) rfl) rfl,⟨by simp;omega,hpm.trans hperm,hk',hv1',hvb,hp⟩,by simp;omega⟩
 ·(apply wlp;(exact jA rfl rfl);exact jF (b:=false) (decide_eq_false (by omega)))
  (apply wlp;apply qC;exact fB rfl)
  (repeat (first|(with_reducible first|apply qE|apply qB)|(apply wlp;(intros;exact vX rfl);(intros;exact fB rfl))|(apply vS;exact rfl;exact rfl;exact rfl)|(apply vR;exact rfl;exact rfl)))
  skip
  refine jI rfl ?_
  (repeat (first|(with_reducible first|apply qF|apply qA|apply qE|apply qB|apply qO|apply qT|apply jB)|((with_reducible apply qP);exact rfl)|(apply wlp;(first|apply qC|apply qD);exact fS rfl)))
  exact qU rfl rfl ⟨_,rfl,so,co,out,rfl,ChOk.of_perm hperm (by omega),hv1,hp.pick 0 rfl⟩
end Go.Proofs.YtbgldmoikimmpaaGreatDoor
namespace Go.Proofs.YtbgldmoikimmpaaGreatDoor
open Go.Eng Go.Dig Go.Sha Go.Lag Go.Grp Go.Sp
def cmI (ps:List (List Nat)) (fs:List Nat) (i j:Nat):Nat:=qGe (((ps.take i).map fun p=>p.getD j 0).zip fs) 0
def cmA (ps:List (List Nat)) (fs:List Nat) (j:Nat):Nat:=qGe ((ps.map fun p=>p.getD j 0).zip fs) 0
theorem qMj (ps:List (List Nat)) (fs:List Nat) (j:Nat):cmI ps fs ps.length j = cmA ps fs j:=by
 unfold cmI cmA
 rw [List.take_length]
theorem qRh (ps:List (List Nat)) (fs:List Nat) (j:Nat):cmI ps fs 0 j = 0:=by
 unfold cmI
 simp [qGe]
theorem qRi (ps:List (List Nat)) (fs:List Nat) (i j:Nat):cmI ps fs i j < 1152921504606845789:=qEn _ (by decide)
theorem qRj (ps:List (List Nat)) (fs:List Nat) (j:Nat):cmA ps fs j < 1152921504606845789:=qEn _ (by decide)
theorem qJn {ps:List (List Nat)} {fs:List Nat} (j:Nat) {i:Nat} (h:i < ps.length) (h2:i < fs.length):cmI ps fs (i + 1) j = (cmI ps fs i j + (ps[i]).getD j 0 * fs[i] % gQ) % gQ:=by
 unfold cmI
 rw [List.take_succ_eq_append_getElem h,List.map_append,List.map_singleton]
 rw [qEq _ fs _ (fs[i]) (by rw [List.length_map,List.length_take,Nat.min_eq_left (by omega),List.getElem?_eq_getElem h2])]
 unfold qGe
 rw [List.foldl_append]
 rfl
theorem qWf {ds:List DlV} {ps:List (List Nat)} {keys fs:List Nat} {nd j:Nat} (h:DlsHon ds ps keys) (hp:∀ p ∈ ps,p.length = nd) (hj:j < nd):mxF ds fs j = 4 ^ cmA ps fs j % gP:=by
 have e1:(ds.map fun d=>d.cs.getD j 0) = (ps.map fun p=>p.getD j 0).map fun e=>4 ^ e % gP:=by
  rw [List.map_map]
  refine List.ext_getElem (by simp [h.len]) fun i h1 h2=>?_
  rw [List.getElem_map,List.getElem_map]
  have h3:i < ds.length:=by simpa using h1
  have h4:i < ps.length:=by simpa using h2
  have hh:=(h.each i h3 h4).cm
  have hl:=hp _ (List.getElem_mem h4)
  rw [hh]
  show (pws 4 ps[i]).getD j 0 = 4 ^ (ps[i]).getD j 0 % gP
  have h5:j < (ps[i]).length:=by omega
  rw [xV (by rw [wO];exact h5),xV h5]
  unfold pws
  rw [List.getElem_map]
 have h0:=qI0 (b:=4) ((ps.map fun p=>p.getD j 0).zip fs) 0
 have e2:((ps.map fun p=>p.getD j 0).zip fs).map (fun p=>(4 ^ p.1 % gP,p.2)) = (((ps.map fun p=>p.getD j 0).map fun e=>4 ^ e % gP).zip fs):=by
  generalize (ps.map fun p=>p.getD j 0) = X
  rw [List.zip_map_left]
  rfl
 rw [e2,← e1,Nat.pow_zero,show 1 % gP = 1 from by decide,Nat.zero_add] at h0
 have h2:mxF ds fs j % gP = _:=h0
 have h3:mxF ds fs j < gP:=by
  unfold mxF
  exact qI1 _ (by decide)
 rw [Nat.mod_eq_of_lt h3] at h2
 rw [h2]
 refine qFl qDl ?_
 have:=qIg ((ps.map fun p=>p.getD j 0).zip fs) 0
 rw [Nat.zero_add] at this
 exact this.symm
theorem qHz {ds:List DlV} {ps:List (List Nat)} {keys fs:List Nat} {nd:Nat} (h:DlsHon ds ps keys) (hp:∀ p ∈ ps,p.length = nd):(List.range nd).map (mxF ds fs) = pws 4 ((List.range nd).map (cmA ps fs)):=by
 unfold pws
 rw [List.map_map]
 refine List.map_congr_left fun j hj=>?_
 exact qWf h hp (by simpa using hj)
theorem qTx (S:List Nat):(List.range S.length).map (zB S) = S.map (fac S):=by
 refine List.ext_getElem (by simp) fun i h1 h2=>?_
 rw [List.getElem_map,List.getElem_map,List.getElem_range]
 exact qBc (by simpa using h2)
theorem qMk (S:List Nat) (ps:List (List Nat)):cmA ps ((List.range S.length).map (zB S)) = nxt S ps:=by
 rw [qTx]
 rfl
def md (A B:Nat→Nat) (m j:Nat):List Nat:=(List.range m).map fun q=>if q < j then B q else A q
theorem qPo (A B:Nat→Nat) (m j:Nat):(md A B m j).length = m:=by simp [md]
theorem qM4 (A B:Nat→Nat) (m:Nat):md A B m 0 = (List.range m).map A:=by simp [md]
theorem qPp (A B:Nat→Nat) (m:Nat):md A B m m = (List.range m).map B:=by
 unfold md
 refine List.map_congr_left fun q hq=>?_
 rw [if_pos (by simpa using hq)]
theorem qKu {A B:Nat→Nat} {m j:Nat} (h:j < m):(md A B m j)[j]? = some (A j):=by
 unfold md
 rw [List.getElem?_map,List.getElem?_range h]
 simp
theorem qPn {A B:Nat→Nat} {m j:Nat} (h:j < m):(md A B m j).set j (B j) = md A B m (j + 1):=by
 unfold md
 refine List.ext_getElem (by simp) fun i h1 h2=>?_
 rw [List.getElem_set]
 simp only [List.getElem_map,List.getElem_range]
 split
 ·next e=>subst e;rw [if_pos (by omega)]
 ·next e=>
  by_cases hi:i < j
  ·rw [if_pos hi,if_pos (by omega)]
  ·rw [if_neg hi,if_neg (by omega)]
theorem qIp (ps:List (List Nat)) (fs:List Nat) (m:Nat):List.replicate m 0 = (List.range m).map (cmI ps fs 0):=by
 refine List.ext_getElem (by simp) fun i h1 h2=>?_
 rw [List.getElem_replicate,List.getElem_map,qRh]
def grE (g:GrV):List Ent:=qW eN 3 1 g.sC g.cC g.cf :: qW eMe 80 3 g.sM g.cM g.ms :: qW eN 3 1 g.sS g.cS g.secs :: kyE g.k
structure GrOw (g:GrV):Prop where
 cf:SVL g.sC g.cC g.cf
 ms:SVL g.sM g.cM g.ms
 secs:SVL g.sS g.cS g.secs
 k:KyOw g.k
end Go.Proofs.YtbgldmoikimmpaaGreatDoor
namespace Go.Eng
theorem qGz (place:Nat→Option (Nat × Nat)) (tl:List Value):∀ (ps:List (Nat × Value)) (pl:List (Nat × Nat)) (i o:Nat) (pre rest:List Value),(∀ j x,pl[j]? = some x→place (i + j) = some x)→lay pl i o ps = true→pre.length = o →
  rest.length = (pl.map (·.2)).sum→Instr.fill place (pre ++ (rest ++ tl)).toArray ps = some (pre ++ ((ps.flatMap fun p=>p.2.cells.toList) ++ tl)).toArray
 | [],[],i,o,pre,rest,_,_,_,hr=>by
  have:rest = []:=List.eq_nil_of_length_eq_zero (by simpa using hr)
  subst this
  simp [Instr.fill]
 | [],_ :: _,_,_,_,_,_,h,_,_=>by simp [lay] at h
 | _ :: _,[],_,_,_,_,_,h,_,_=>by simp [lay] at h
 | (j,v) :: ps,(o',sz) :: pl,i,o,pre,rest,hp,h,hpre,hr=>by
  simp only [lay,Bool.and_eq_true] at h
  obtain ⟨h1,h2,h3,h4⟩:=h
  have h1:j = i:=Nat.eq_of_beq_eq_true h1
  have h2:o' = o:=Nat.eq_of_beq_eq_true h2
  have h3:v.cells.size = sz:=Nat.eq_of_beq_eq_true h3
  subst h1 h2
  rw [List.map_cons,List.sum_cons] at hr
  have hpl:=hp 0 _ rfl
  rw [Nat.add_zero] at hpl
  have hvl:v.cells.toList.length = sz:=by simpa using h3
  have hz:v.cells.zipIdx.foldl (fun cs (x:Value × Nat)=>cs.setIfInBounds (o' + x.2) x.1) (pre ++ (rest ++ tl)).toArray = (pre ++ v.cells.toList ++ (rest.drop sz ++ tl)).toArray:=by
   rw [← Array.foldl_toList,Array.toList_zipIdx]
   have e:=qAg v.cells.toList (pre ++ (rest ++ tl)) o' 0
   rw [Nat.add_zero,← hpre,qCt v.cells.toList pre (rest ++ tl) (by rw [List.length_append];omega),hvl,List.drop_append_of_le_length (by omega)] at e
   rw [← hpre]
   exact e
  simp only [Instr.fill,hpl]
  rw [if_neg (by simp [h3];omega)]
  have e2:v.cells.zipIdx.foldl (fun cs (x:Value × Nat)=>match x with|(c,j)=>cs.setIfInBounds (o' + j) c) (pre ++ (rest ++ tl)).toArray = (pre ++ v.cells.toList ++ (rest.drop sz ++ tl)).toArray:=hz
  rw [e2]
  have:=qGz place tl ps pl (j + 1) (o' + sz) (pre ++ v.cells.toList) (rest.drop sz) (fun q x hq=>by
   have:=hp (q + 1) x (by simpa using hq)
   rwa [show j + 1 + q = j + (q + 1) by omega]) h4 (by rw [List.length_append,hvl,hpre]) (by rw [List.length_drop];omega)
  rw [this,List.flatMap_cons,List.append_assoc,List.append_assoc]
theorem qF4 {P:Program} {n:FrK} {w:World} {F:Fr} {d:Option Tmp} {ty:TypeId} {pos:String} {aft:Array Edge} {g:Option (Nat × Bool)} {t:TypeId} {fs:Array Field} {ps:Array (Nat × Operand)} {zs tl:List Value} {pl pl':List (Nat × Nat)} {vs:List (Nat × Value)}
  (ht:P.underlying t = some (.struct fs)) (hz:TZero P t (.agg (zs ++ tl).toArray)) (hpl:∀ w,(fs.mapM (fun f=>do pure (f.offset,← sizeOf f.type):Field→Sem (Nat × Nat))).run P w = .ok (pl ++ pl').toArray w) (hl:zs.length = (pl.map (·.2)).sum)
  (hvs:(ps.toList.map fun p=>(p.1,ev n F p.2)) = vs) (hlay:lay pl 0 0 vs = true):PV P n w F ⟨d,.build t ps,ty,pos,aft,g⟩ (.agg ((vs.flatMap fun p=>p.2.cells.toList) ++ tl).toArray):=by
 refine qIz ht hz rfl hpl ?_
 have h:=qGz ((pl ++ pl').toArray[·]?) tl vs pl 0 0 [] zs (fun j x hx=>by
  have:=(List.getElem?_eq_some_iff.1 hx).1
  rw [Nat.zero_add]
  simp [List.getElem?_append_left this,hx]) hlay rfl hl
 rw [List.nil_append,List.nil_append] at h
 have e:(ps.map fun (i,x)=>(i,ev n F x)).toList = vs:=by rw [uR,hvs]
 rw [e]
 exact h
end Go.Eng
namespace Go.Proofs.YtbgldmoikimmpaaGreatDoor
open Go.Eng Go.Dig Go.Sha Go.Lag Go.Grp Go.Sp
def sdF:ByteArray:=⟨#[102,105,114,115,116]⟩
theorem qSt (n:Nat):(⟨#[102,105,114,115,116,32]⟩:ByteArray) ++ xD n = sdT sdF n:=rfl
def psF (ms:List Mem) (nd:Nat):List (List Nat):=psM ms sdF nd
theorem qTd (ms:List Mem) (nd:Nat):(psF ms nd).length = ms.length:=qTc _ _ _
theorem qW5 {ms:List Mem} {nd i:Nat} (h:i < ms.length) (h2:i < (psF ms nd).length):(psF ms nd)[i] = uP (bl (sdT sdF ms[i].id)) nd:=by
 exact List.getElem_map _
theorem qVh {first:Nat} {ms:List Mem} {secs:List Nat} (h:CwOk first ms secs):∀ m ∈ ms,Mb m.pb:=fun m hm=>qF2 qDl secs _ (by rw [← h.p.pb];exact List.mem_map.2 ⟨m,hm,rfl⟩)
attribute [local irreducible] PV StepF wpl wpd WP Ret
attribute [local irreducible] Fit ofN xD hv scP xN yC yY atP Mb inL fac zB inP lft elP pfC pfZ bsR dec scR wI qCu mxI mxF cmI cmA sdT
set_option maxHeartbeats 4000000 in
theorem p5 (l:List Int) (s:Option Addr) (c:Nat) (w:World) (hs:SlAt w 1 eI s l) (hl:l.length≤9223372036854775807) :
  Ret Tryz.prog 5 [.slice s l.length c] w (fun v w'=>∃ g:GrV,v = .agg (eGr g).toArray∧GrOk g∧GrOw g∧Hp w [] w' (grE g)):=by
 refine Ret.of_WP Tryz.func5 rfl Tryz.ntmps5 rfl ?_
 have hp:=Hp.start (M:=[]) (w:=w)
 (repeat (with_reducible first|apply qF|apply qA))
 (apply wls;exact wN hp (jD rfl);rintro _ w1 ⟨b2,rfl,hp⟩)
 (repeat (first|(with_reducible first|apply qF|apply qA|apply qE|apply qB)|(apply wlp;apply qC;exact fS rfl)))
 (apply wls;exact qH rfl qVg rfl (p10 l 1 s c _ (hs.keep0 hp.keeps) hl (by decide));rintro _ w2 ⟨ms,secs,sM,cM,sS,cS,rfl,hC,hvM,hvS,hpo⟩;have hp:=hp.join hpo;clear hpo)
 have ho:=hC.ms (by decide)
 have hmb:=qVh hC
 obtain ⟨hl1,hl2⟩:=ho.len
 have h20:=fun w h=>p20 ms sM cM w h ho
 have hs60:=ho.wo.sum
 have hsp:=ho.wo.sp
 have hib:=ho.ib
 have hbk:=uD ms
 have h21:=fun w h=>p21 ms sdF sM cM w h ho hmb (by decide)
 have h24:=fun ds s2 c2 w h1 h2 h3 h4 h5 h6=>p24 ms ds sM s2 cM c2 w h1 ho h2 h3 h4 h5 h6
 obtain ⟨n,hn⟩:∃ n,n = (zC ms).sum:=⟨_,rfl⟩
 rw [← hn] at hs60 hsp hbk
 simp only [← hn] at h20 h21 h24
 have hndl:=yO hsp
 have hndp:=vM n
 have h19:=fun w=>p19 n w hsp (by omega)
 obtain ⟨nd,hnd⟩:∃ nd,nd = ndN n:=⟨_,rfl⟩
 rw [← hnd] at hndl hndp
 simp only [← hnd] at h19 h21 h24
 have hp:Hp w [] w2 [qW eMe 80 3 sM cM ms,qW eN 3 1 sS cS secs,blk b2 5 (qV [.slice none 0 0,.slice none 0 0,.slice none 0 0,.slice none 0 0,.slice none 0 0]) 29]:=hp
 (repeat (first|(with_reducible first|apply qF|apply qA|apply qE|apply qB)|(apply wlp;((first|apply qC|apply qD|apply jK|apply qCb)<;>exact rfl);(first|exact fS rfl|exact fU rfl))))
 (apply wlp;exact qF4 (zs:=[.slice none 0 0,.slice none 0 0]) (tl:=[.slice none 0 0,.slice none 0 0,.slice none 0 0]) (pl:=[(0,1),(1,1)]) (pl':=[(2,1),(3,2)]) Tryz.underlying29 (jD (z:=.agg #[.slice none 0 0,.slice none 0 0,.slice none 0 0,.slice none 0 0,.slice none 0 0]) rfl) (fun w=>by kernel_rfl) rfl rfl rfl;exact fA5 rfl)
 (apply wls;exact wN hp (jD rfl);rintro _ w3 ⟨b5,rfl,hp⟩)
 (apply zG;exact qAk hp 0 rfl rfl rfl rfl (qQ rfl) rfl;rintro _ w4 ⟨rfl,hp⟩)
 have hp:=hp.norm 0 [.slice sM ms.length cM,.slice sS secs.length cS,.slice none 0 0,.slice none 0 0,.slice none 0 0] rfl rfl
 (repeat (first|(with_reducible first|apply qF|apply qA|apply qE|apply qB)|(apply wlp;apply qC;exact fS rfl)))
 (apply wls;exact qH rfl qFn rfl (h20 _ (jS hp 1 rfl hvM (fun _=>rfl)));rintro _ w5 ⟨rfl,hk⟩;have hp:=hp.call hk)
 (apply wls;exact qH rfl qFp rfl (h19 _);rintro _ w6 ⟨rfl,hk⟩;have hp:=hp.call hk)
 (repeat (first|(with_reducible first|apply qF|apply qK|apply qA|apply qE|apply qB)|(apply wlp;apply qD;exact fI rfl)))
 have hp:=hp.nilL eN 3 1
 have hp:Hp w [] w6 [qW eN 3 1 none 0 (List.replicate 0 0),blk b5 5 (qV [.slice sM ms.length cM,.slice sS secs.length cS,.slice none (List.replicate 0 0).length 0,.slice none 0 0,.slice none 0 0]) 29,qW eMe 80 3 sM cM ms,qW eN 3 1 sS cS secs,blk b2 5 (qV [.slice none 0 0,.slice none 0 0,.slice none 0 0,.slice none 0 0,.slice none 0 0]) 29]:=hp
 refine jE ([7] ++ List.range' 23 10) (fun (X:Nat × Option Addr × Nat) F=>F.put 7 (.int .i64 (X.1:Int)))
  (fun X w'=>X.1≤nd∧SVL X.2.1 X.2.2 (List.replicate X.1 0)∧Hp w [] w' [qW eN 3 1 X.2.1 X.2.2 (List.replicate X.1 0),blk b5 5 (qV [.slice sM ms.length cM,.slice sS secs.length cS,.slice X.2.1 (List.replicate X.1 0).length X.2.2,.slice none 0 0,.slice none 0 0]) 29,qW eMe 80 3 sM cM ms,qW eN 3 1 sS cS secs,blk b2 5 (qV [.slice none 0 0,.slice none 0 0,.slice none 0 0,.slice none 0 0,.slice none 0 0]) 29]) (fun X=>nd - X.1) (0,none,0) (qG (Same.eq .refl) rfl) ⟨Nat.zero_le _,SVL.nil,hp⟩ ?_
 (repeat clear hp)
 rintro u0 ⟨j,sC,cC⟩ w7 ⟨hj,hvC,hp⟩
 dsimp only at hj hvC hp ⊢
 have hrl:(List.replicate j 0).length = j:=List.length_replicate
 (repeat (first|(with_reducible first|apply qF|apply qA|apply qE|apply qB)|(apply wlp;((first|apply qC|apply jA)<;>exact rfl);(first|exact fI rfl|exact fB rfl))))
 refine qM rfl (fun h=>?_) (fun h=>?_)
 ·have hsn:List.replicate (j + 1) 0 = List.replicate j 0 ++ [0]:=List.replicate_succ'
  (repeat (first|(with_reducible first|apply qF|apply qK|apply qA|apply qB|apply qL)|(apply wlp;((first|apply qS|(apply qJ;exact rfl))<;>(first|exact rfl|exact hp.cell 1 rfl rfl));(first|exact fP rfl|exact fS rfl))))
  (apply wls;exact jP (cs:=eN 0) hp rfl rfl rfl rfl rfl rfl rfl;rintro _ w8 ⟨nb,rfl,hp⟩)
  (apply wls;exact zL eN (List.replicate j 0) 0 hp 1 0 rfl rfl rfl rfl rfl rfl (fun _=>rfl) rfl rfl rfl hvC rfl rfl (by omega);rintro _ w9 ⟨s',c',rfl,hsv',hp⟩)
  rw [← hsn] at hsv' hp
  rw [← hsn]
  have hp:=hp.tail
  (repeat (apply wlp;(apply qS<;>exact rfl);exact fP rfl))
  (apply zG;exact xZ hp 1 rfl rfl rfl rfl (qQ rfl) rfl;rintro _ w10 ⟨rfl,hp⟩)
  have hp:=hp.norm 1 [.slice sM ms.length cM,.slice sS secs.length cS,.slice s' (List.replicate (j + 1) 0).length c',.slice none 0 0,.slice none 0 0] rfl rfl
  (repeat (first|(with_reducible first|apply qA|apply qE|apply qB|apply qZ)|(apply wlp;apply qC;exact fI rfl)))
  (apply wlp;(exact qY rfl rfl);exact qI (b:=((j + 1:Nat):Int)) (by rw [qN (by omega) (by omega)];omega))
  (repeat (first|(with_reducible first|apply qE|apply qB)|(apply wlp;apply qD;exact fI rfl)))
  exact ⟨(j + 1,s',c'),qG (Same.eq (by repeat (first|exact Same.hav|exact Same.refl|refine Same.put rfl ?_|refine Same.havs rfl ?_))) rfl,⟨by dsimp only;omega,hsv',hp⟩,by dsimp only;omega⟩
 obtain rfl:j = nd:=by omega
 rw [hrl] at hp
 clear hrl hj
 have hne:List.replicate j 0 ≠ []:=by intro e;have:=congrArg List.length e;simp at this;omega
 obtain ⟨gc,rfl⟩:=hvC.addr hne
 clear hne
 obtain ⟨ones,hones⟩:∃ ones,ones = List.replicate ms.length 1:=⟨_,rfl⟩
 have honl:ones.length = ms.length:=by rw [hones,List.length_replicate]
 have hon1:∀ i (h:i < ones.length),ones[i] = 1:=fun i h=>(List.mem_replicate.1 (show ones[i] ∈ List.replicate ms.length 1 by rw [← hones];exact List.getElem_mem h)).2
 obtain ⟨ps,hps⟩:∃ ps,ps = psF ms j:=⟨_,rfl⟩
 have hpl:ps.length = ms.length:=by rw [hps];exact qTd _ _
 have hpat:∀ i (h:i < ms.length) (h2:i < ps.length),ps[i] = uP (bl (sdT sdF ms[i].id)) j:=fun i h h2=>by subst hps;exact qW5 h h2
 have hpnd:∀ p ∈ ps,p.length = j:=fun p hp=>by rw [hps] at hp;exact (qTb hp).1
 rw [qIp ps ones j] at hp hvC
 (repeat (first|(with_reducible first|apply qF|apply qA|apply qB|apply qO|apply jB)|((with_reducible apply qP);exact rfl)|(apply wlp;((first|apply qS|(apply qJ;exact rfl))<;>(first|exact rfl|exact hp.cell 1 rfl rfl));(first|exact fP rfl|exact fS rfl))))
 (apply wls;exact qH rfl jB4 rfl (h21 _ (jS hp 2 rfl hvM (fun _=>rfl)));rintro _ w8 ⟨sd,cd,ds,rfl,hdow,hdh,hpo⟩;have hp:=hp.joinT [] (xQ sd cd ds) hpo;clear hpo)
 have hdh:DlsHon ds ps (xS ms):=by rw [hps];exact hdh
 have hdl:ds.length = ms.length:=by rw [hdh.len,hpl]
 have hp:Hp w [] w8 ([qW eN 3 1 (some ⟨gc,0,none⟩) cC ((List.range j).map (cmI ps ones 0)),blk b5 5 (qV [.slice sM ms.length cM,.slice sS secs.length cS,.slice (some ⟨gc,0,none⟩) j cC,.slice none 0 0,.slice none 0 0]) 29,qW eMe 80 3 sM cM ms,qW eN 3 1 sS cS secs,blk b2 5 (qV [.slice none 0 0,.slice none 0 0,.slice none 0 0,.slice none 0 0,.slice none 0 0]) 29] ++ xQ sd cd ds):=hp
 (repeat (first|(with_reducible first|apply qF|apply qK|apply qA|apply qE|apply qB)|(apply wlp;apply qD;(first|exact fI rfl|exact fS rfl))))
 refine jE ([9,10,11] ++ List.range' 36 34) (fun (i:Nat) F=>F.put 9 (.int .i64 (i:Int)))
  (fun i w'=>i≤ms.length∧Hp w [] w' ([qW eN 3 1 (some ⟨gc,0,none⟩) cC ((List.range j).map (cmI ps ones i)),blk b5 5 (qV [.slice sM ms.length cM,.slice sS secs.length cS,.slice (some ⟨gc,0,none⟩) j cC,.slice none 0 0,.slice none 0 0]) 29,qW eMe 80 3 sM cM ms,qW eN 3 1 sS cS secs,blk b2 5 (qV [.slice none 0 0,.slice none 0 0,.slice none 0 0,.slice none 0 0,.slice none 0 0]) 29] ++ xQ sd cd ds)) (fun i=>ms.length - i) 0 (qG (Same.eq .refl) rfl) ⟨Nat.zero_le _,hp⟩ ?_
 (repeat clear hp)
 rintro u1 i w9 ⟨hi,hp⟩
 (repeat (first|(with_reducible first|apply qF|apply qA|apply qE|apply qB)|(apply wlp;((first|apply qC|(apply jC;exact rfl)|apply jA)<;>exact rfl);(first|exact fI rfl|exact fB rfl|exact fS rfl))))
 refine qM rfl (fun h=>?_) (fun h=>?_)
 ·have hlt:i < ms.length:=by omega
  have hneM:ms ≠ []:=by rintro rfl;cases hlt
  obtain ⟨gm,rfl⟩:=hvM.addr hneM
  have hcm:=xK hp 2 rfl hvM (fun _=>rfl) (List.getElem?_eq_getElem hlt) 0 _ rfl
  have hib:=hib _ (List.getElem_mem hlt)
  have hpi:=hpat i hlt (by omega)
  have hst:=fun q=>qJn (ps:=ps) (fs:=ones) q (i:=i) (by omega) (by omega)
  rw [hpi,hon1 i (by omega)] at hst
  clear hpi
  generalize ms[i] = m at hcm hib hst
  obtain ⟨id,wt,pb⟩:=m
  dsimp only at hib hst
  have hcm:w9.cell? ⟨gm,0 + i * 3 + 0,none⟩ = some (.int .i64 (id:Int)):=hcm
  obtain ⟨tx,htx⟩:∃ tx,tx = sdT sdF id:=⟨_,rfl⟩
  have htx2:(⟨#[102,105,114,115,116,32]⟩:ByteArray) ++ xD id = tx:=by rw [htx];exact qSt id
  have hd:=xY (show id≤9223372036854775807 by omega)
  have htz:tx.size≤30:=by
   have:=yE (⟨#[102,105,114,115,116,32]⟩:ByteArray) (xD id)
   have h6:(⟨#[102,105,114,115,116,32]⟩:ByteArray).size = 6:=rfl
   rw [← htx2]
   omega
  rw [← htx] at hst
  have hpb:=qCz (bl tx) j
  have hplen:=kY (bl tx) j
  (repeat (first|(with_reducible first|apply qF|apply qK|apply qA|apply qB|apply qL)|(apply wlp;((first|apply qC|apply qS|(apply qJ;exact rfl)|(apply qR;exact rfl))<;>(first|exact rfl|assumption));(first|exact fI rfl|exact fP rfl|exact fS rfl))))
  (apply wls;exact qH rfl qAe rfl (p12 id _ (by omega)))
  rintro _ w10 ⟨rfl,hk⟩
  have hp:=hp.call hk
  (apply wlp;exact jY rfl rfl (by show 6 + _≤_;omega);exact congrArg Value.string htx2)
  (repeat (apply wlp;apply qC;exact fI rfl))
  (apply wls;exact qH rfl qQm rfl (p22 tx j _ (by omega) (by omega));rintro _ w11 ⟨sp,cp,rfl,hvp,hpo⟩;have hp:=hp.join hpo;clear hpo)
  generalize uP (bl tx) j = p at hst hpb hplen hvp hp
  have hp:Hp w [] w11 ([qW eN 3 1 sp cp p,qW eN 3 1 (some ⟨gc,0,none⟩) cC (md (cmI ps ones i) (cmI ps ones (i + 1)) j 0),blk b5 5 (qV [.slice (some ⟨gm,0,none⟩) ms.length cM,.slice sS secs.length cS,.slice (some ⟨gc,0,none⟩) j cC,.slice none 0 0,.slice none 0 0]) 29,qW eMe 80 3 (some ⟨gm,0,none⟩) cM ms,qW eN 3 1 sS cS secs,blk b2 5 (qV [.slice none 0 0,.slice none 0 0,.slice none 0 0,.slice none 0 0,.slice none 0 0]) 29] ++ xQ sd cd ds):=by rw [qM4];exact hp
  (repeat (first|(with_reducible first|apply qF|apply qK|apply qA|apply qE|apply qB)|(apply wlp;apply qD;(first|exact fI rfl|exact fS rfl))))
  refine jE ([11] ++ List.range' 51 19) (fun (q:Nat) F=>F.put 11 (.int .i64 (q:Int)))
   (fun q w'=>q≤j∧Hp w [] w' ([qW eN 3 1 sp cp p,qW eN 3 1 (some ⟨gc,0,none⟩) cC (md (cmI ps ones i) (cmI ps ones (i + 1)) j q),blk b5 5 (qV [.slice (some ⟨gm,0,none⟩) ms.length cM,.slice sS secs.length cS,.slice (some ⟨gc,0,none⟩) j cC,.slice none 0 0,.slice none 0 0]) 29,qW eMe 80 3 (some ⟨gm,0,none⟩) cM ms,qW eN 3 1 sS cS secs,blk b2 5 (qV [.slice none 0 0,.slice none 0 0,.slice none 0 0,.slice none 0 0,.slice none 0 0]) 29] ++ xQ sd cd ds)) (fun q=>j - q) 0 (qG (Same.eq .refl) rfl) ⟨Nat.zero_le _,hp⟩ ?_
  (repeat clear hp)
  clear hcm
  rintro u2 q w12 ⟨hq,hp⟩
  (repeat (first|(with_reducible first|apply qF|apply qA|apply qE|apply qB)|(apply wlp;((first|apply qC|apply jA)<;>exact rfl);(first|exact fI rfl|exact fB rfl))))
  refine qM rfl (fun h=>?_) (fun h=>?_)
  ·have hltq:q < j:=by omega
   have hltp:q < p.length:=by omega
   have hmdl:=qPo (cmI ps ones i) (cmI ps ones (i + 1)) j q
   have hvmd:SVL (some ⟨gc,0,none⟩) cC (md (cmI ps ones i) (cmI ps ones (i + 1)) j q):=wM hvC (by rw [hmdl];simp)
   have hcc:=xK hp 1 rfl hvmd (fun _=>rfl) (qKu hltq) 0 _ rfl
   have hcc:w12.cell? ⟨gc,0 + q * 1 + 0,none⟩ = some (.int .i64 (cmI ps ones i q:Int)):=hcc
   have hnep:p ≠ []:=by rintro rfl;cases hltp
   obtain ⟨gp,rfl⟩:=hvp.addr hnep
   have hcp:=xK hp 0 rfl hvp (fun _=>rfl) (List.getElem?_eq_getElem hltp) 0 _ rfl
   have hcp:w12.cell? ⟨gp,0 + q * 1 + 0,none⟩ = some (.int .i64 (p[q]:Int)):=hcp
   have hpq:=hpb _ (List.getElem_mem hltp)
   have hst2:=hst q
   rw [xV hltp,Nat.mul_one,Nat.add_mod_mod] at hst2
   have hset:=qPn (A:=cmI ps ones i) (B:=cmI ps ones (i + 1)) hltq
   have hcl:=qRi ps ones i q
   generalize hxe:p[q] = x at hcp hpq hst2
   generalize hae:cmI ps ones i q = a at hcc hst2 hcl
   generalize cmI ps ones (i + 1) q = a' at hst2 hset
   (repeat (with_reducible first|apply qF|apply qK|apply qB|apply qL))
   refine xH jW (by kernel_rfl) (fun w'=>Hp _ _ w' _) hp.drew ?_
   have hp:=hp.drew
   (repeat ((apply wdp;exact rfl);(intro w hp;intros;((first|apply qC|apply qS|(apply qJ;exact rfl)|(apply qR;exact rfl))<;>(first|exact rfl|assumption|exact hp.cell 2 rfl rfl)));(intros;(first|exact fI rfl|exact fP rfl|exact fS rfl))))
   (apply wdp;exact rfl;(intro w hp;exact qJ rfl rfl (xK hp 1 rfl hvmd (fun _=>rfl) (qKu hltq) 0 _ rfl));exact congrArg (fun z:Nat=>Value.int .i64 (z:Int)) hae)
   (repeat ((apply wdp;exact rfl);(intro w hp;intros;((first|apply qC|(apply qJ;exact rfl)|(apply qR;exact rfl))<;>(first|exact rfl|assumption)));(intros;(first|exact fI rfl|exact fP rfl|exact fS rfl))))
   (apply wdp;exact rfl;(intro w hp;exact qJ rfl rfl (xK hp 0 rfl hvp (fun _=>rfl) (List.getElem?_eq_getElem hltp) 0 _ rfl));exact congrArg (fun z:Nat=>Value.int .i64 (z:Int)) hxe)
   (apply wds;exact rfl;exact qH rfl qQl rfl (p23 a x 1152921504606845789 _ (by omega) (by omega) (by decide) (by decide));rintro _ w13 ⟨rfl,hk⟩;have hp:=hp.call hk;refine ⟨hp,?_⟩)
   have hst2:a' = (a + x) % 1152921504606845789:=hst2
   rw [← hst2]
   (repeat ((apply wdp;exact rfl);(intro w hp;intros;((apply qR;exact rfl)<;>(first|exact rfl|assumption)));(intros;exact fP rfl)))
   (apply kH;exact rfl;exact rfl;exact xO eN (md (cmI ps ones i) (cmI ps ones (i + 1)) j q) q a' hp 1 rfl hvmd (by rw [hmdl];exact hltq) rfl rfl (fun _=>rfl) rfl rfl (qQ rfl);rintro _ w14 ⟨rfl,hp⟩)
   have hp:Hp w [] w14 ([qW eN 3 1 (some ⟨gp,0,none⟩) cp p,qW eN 3 1 (some ⟨gc,0,none⟩) cC (md (cmI ps ones i) (cmI ps ones (i + 1)) j (q + 1)),blk b5 5 (qV [.slice (some ⟨gm,0,none⟩) ms.length cM,.slice sS secs.length cS,.slice (some ⟨gc,0,none⟩) j cC,.slice none 0 0,.slice none 0 0]) 29,qW eMe 80 3 (some ⟨gm,0,none⟩) cM ms,qW eN 3 1 sS cS secs,blk b2 5 (qV [.slice none 0 0,.slice none 0 0,.slice none 0 0,.slice none 0 0,.slice none 0 0]) 29] ++ xQ sd cd ds):=by rw [← hset];exact hp
   refine jL ?_
   (repeat (first|(with_reducible first|apply qA|apply qB|apply qZ)|(apply wlp;apply qC;exact fI rfl)))
   (apply wlp;(exact qY rfl rfl);exact qI (b:=((q + 1:Nat):Int)) (by rw [qN (by omega) (by omega)];omega))
   (repeat (first|(with_reducible first|apply qE|apply qB)|(apply wlp;apply qD;exact fI rfl)))
   exact ⟨q + 1,qG (Same.eq (by repeat (first|exact Same.hav|exact Same.refl|refine Same.put rfl ?_|refine Same.havs rfl ?_))) rfl,⟨by omega,hp⟩,by omega⟩
  obtain rfl:q = j:=by omega
  rw [qPp] at hp
  have hp:=hp.tail
  (repeat (first|(with_reducible first|apply qA|apply qB|apply qZ|apply qO|apply jB)|((with_reducible apply qP);exact rfl)|(apply wlp;apply qC;exact fI rfl)))
  (apply wlp;(exact qY rfl rfl);exact qI (b:=((i + 1:Nat):Int)) (by rw [qN (by omega) (by omega)];omega))
  (repeat (first|(with_reducible first|apply qE|apply qB)|(apply wlp;apply qD;exact fI rfl)))
  exact ⟨i + 1,qG (Same.eq (by repeat (first|exact Same.hav|exact Same.refl|refine Same.put rfl ?_|refine Same.havs rfl ?_))) rfl,⟨by omega,hp⟩,by omega⟩
 obtain rfl:i = ms.length:=by omega
 have hfin:cmI ps ones ms.length = cmA ps ones:=by
  rw [← hpl]
  funext q
  exact qMj ps ones q
 rw [hfin] at hp
 have hok:∀ d ∈ ds,DlOk d n∧d.cs.length = j:=by
  have:=hdh.ok hbk hsp (fun p hp=>(hpnd p hp).trans hnd)
  rwa [← hnd] at this
 obtain ⟨hda,hdb⟩:=qIb hp hdow (fun p hp=>List.mem_append_right _ hp)
 (repeat (first|(with_reducible first|apply qF|apply qA|apply qB|apply qO|apply jB)|((with_reducible apply qP);exact rfl)|(apply wlp;((first|apply qC|apply qS|(apply qJ;exact rfl))<;>(first|exact rfl|exact hp.cell 1 rfl rfl));(first|exact fP rfl|exact fS rfl))))
 (apply wls;exact qH rfl jB3 rfl (h24 ds sd cd _ (jS hp 2 rfl hvM (fun _=>rfl)) hda hdb hok (by omega) (by omega));rintro _ w13 ⟨⟨s1,c1,cs,s2,c2,rs⟩,rfl,hkow,hkcs,hkr,hpo⟩;have hp:=hp.joinT [] (kyE ⟨s1,c1,cs,s2,c2,rs⟩) hpo;clear hpo)
 dsimp only at hkcs hkr
 rw [hdl,← hones,qHz hdh hpnd] at hkcs
 have hp:Hp w [] w13 ([qW eN 3 1 (some ⟨gc,0,none⟩) cC ((List.range j).map (cmA ps ones)),blk b5 5 (qV [.slice sM ms.length cM,.slice sS secs.length cS,.slice (some ⟨gc,0,none⟩) j cC,.slice none 0 0,.slice none 0 0]) 29,qW eMe 80 3 sM cM ms,qW eN 3 1 sS cS secs,blk b2 5 (qV [.slice none 0 0,.slice none 0 0,.slice none 0 0,.slice none 0 0,.slice none 0 0]) 29] ++ (xQ sd cd ds ++ kyE ⟨s1,c1,cs,s2,c2,rs⟩)):=by rw [← List.append_assoc];exact hp
 (repeat (apply wlp;((first|apply qC|apply qS|apply jK)<;>exact rfl);(first|exact fB rfl|exact fP rfl|exact fA2 rfl|exact fU rfl)))
 (apply zG;exact yN hp 1 rfl rfl rfl rfl (qQ rfl) rfl;rintro _ w14 ⟨rfl,hp⟩)
 have hp:=hp.norm 1 [.slice sM ms.length cM,.slice sS secs.length cS,.slice (some ⟨gc,0,none⟩) j cC,.slice s1 cs.length c1,.slice s2 rs.length c2] rfl rfl
 (repeat (with_reducible first|apply qF|apply qA|apply qE|apply qB))
 (apply wlp;exact zP (vs:=[.slice sM ms.length cM,.slice sS secs.length cS,.slice (some ⟨gc,0,none⟩) j cC,.slice s1 cs.length c1,.slice s2 rs.length c2]) rfl rfl rfl rfl (fun j v hv=>hp.agg_blk (k:=5) (o:=0) 1 rfl rfl j v hv);exact fA5 rfl)
 (apply zG;exact qAk hp 4 rfl rfl rfl rfl (qQ rfl) rfl;rintro _ w15 ⟨rfl,hp⟩)
 have hp:=hp.norm 4 [.slice sM ms.length cM,.slice sS secs.length cS,.slice (some ⟨gc,0,none⟩) j cC,.slice s1 cs.length c1,.slice s2 rs.length c2] rfl rfl
 (repeat (with_reducible first|apply qE|apply qB|apply qT))
 have hcfl:((List.range j).map (cmA ps ones)).length = j:=by rw [List.length_map,List.length_range]
 refine yG rfl rfl rfl rfl (hp.agg_blk 4 rfl rfl) ⟨_,rfl,⟨sM,cM,ms,sS,cS,secs,some ⟨gc,0,none⟩,cC,(List.range j).map (cmA ps ones),⟨s1,c1,cs,s2,c2,rs⟩⟩,?_,⟨ho,⟨⟨hkr,ho.wo,?_,?_⟩,hkcs,?_⟩⟩,⟨wM hvC (by rw [hcfl];simp),hvM,hvS,hkow⟩,?_⟩
 ·unfold eGr
  dsimp only
  rw [hcfl]
  rfl
 ·dsimp only
  rw [hkcs,wO,hcfl,hnd,hn]
 ·dsimp only
  rw [hkcs]
  exact qF2 qDl _
 ·intro a ha
  obtain ⟨q,_,rfl⟩:=List.mem_map.1 ha
  exact qRj _ _ _
 ·exact hp.sub (((((((List.sublist_append_right (xQ sd cd ds) (kyE ⟨s1,c1,cs,s2,c2,rs⟩)).cons _).cons_cons _).cons_cons _).cons _).cons_cons _))
end Go.Proofs.YtbgldmoikimmpaaGreatDoor
namespace Go.Proofs.YtbgldmoikimmpaaGreatDoor
open Go.Eng Go.Dig Go.Sha Go.Lag Go.Grp Go.Sp
attribute [local irreducible] PV StepF wpl wpd WP Ret
attribute [local irreducible] Fit ofN xD hv scP xN yC yY atP Mb inL fac zB inP lft elP pfC pfZ bsR dec scR wI qCu mxI mxF cmI cmA sdT
set_option maxHeartbeats 8000000 in
theorem p38 (k:KyV) (ws:List Nat) (ms:List Mem) (S:List Nat) (ds:List DlV) (sM sF sD:Option Addr) (cM cF cD:Nat) (w:World) (hk:KyAt w k) (hM:SlAt w 3 eMe sM ms) (hF:SlAt w 1 eN sF S) (hD:SlAt w 3 eDl sD ds) (hDa:∀ d ∈ ds,DlAt w d) (ho:AgOk k ws ms S ds) :
  Ret Tryz.prog 38 [.agg (eKy k).toArray,.slice sM ms.length cM,.slice sF S.length cF,.slice sD ds.length cD] w
   (fun v w'=>∃ k':KyV,v = .tuple #[.agg (eKy k').toArray,.bool true]∧KyOw k'∧k'.cs = (List.range (ndN (zC ms).sum)).map (mxF ds ((List.range S.length).map (zB S)))∧kD k'.rs = wJ 1 (zC ms)∧Hp w [] w' (kyE k')):=by
 obtain ⟨hko,hmo,hP,hsl,hdl,hdok,hle,hfst⟩:=ho
 have hk81:=fun (w':World) (hka:KyAt w' k)=>p81 k ws w' hka hko
 have hk82:=fun (w':World) (hka:KyAt w' k)=>p82 k ws w' hka hko
 have hw60:=hko.wo.sum
 have hwsp:=hko.wo.sp
 have hcl:=hko.nd
 have hcmb:=hko.mb
 have h20:=fun w h=>p20 ms sM cM w h hmo
 have h66:=fun w h=>p66 ms sM cM w h hmo
 have hm60:=hmo.wo.sum
 have hmsp:=hmo.wo.sp
 have hndm:=yO hmsp
 have hndp:=vM (zC ms).sum
 obtain ⟨n,hn⟩:∃ n,n = (zC ms).sum:=⟨_,rfl⟩
 obtain ⟨nd,hnd⟩:∃ nd,nd = ndN n:=⟨_,rfl⟩
 rw [← hn] at hm60 hmsp hndm hdok hndp ⊢
 simp only [← hn] at h20
 have h19:=fun w=>p19 n w hmsp (by omega)
 have hcb:∀ d ∈ ds,∀ a ∈ d.cs,a < 2305843009213691579:=fun d hd a ha=>kQ ((hdok d hd).1.mb a ha)
 have hkeep:=fun {w':World} (h:Keeps [] w w')=>hk.keep h
 have hcs:=hk.cs
 have hcs2:k.cs.length≤60:=by
  have:=yO hwsp
  omega
 have hP0:S ≠ []:=by
  intro h
  rw [h] at hsl
  have:=vM ws.sum
  rw [← hcl,← hsl] at this
  cases this
 have hSpos:0 < S.length:=List.length_pos_iff.2 hP0
 have h65:=fun w h h2=>p65 ds n sD cD w h h2 hdok hmsp (by omega) (by omega) (by omega)
 rw [← hnd] at hndm hdok hndp ⊢
 simp only [← hnd] at h19
 obtain ⟨s1,c1,cs,s2,c2,rk⟩:=k
 have hE:eKy ⟨s1,c1,cs,s2,c2,rk⟩ = [.slice s1 cs.length c1,.slice s2 rk.length c2]:=rfl
 rw [hE] at hk81 hk82 ⊢
 dsimp only at hcl hcmb hcs hcs2 hsl hfst
 refine Ret.of_WP Tryz.func38 rfl Tryz.ntmps38 rfl ?_
 have hp:=Hp.start (M:=[]) (w:=w)
 (repeat (with_reducible first|apply qF|apply qA))
 (apply wls;exact uY hp rfl;rintro _ w1 ⟨b4,rfl,hp⟩)
 (apply wls;exact vA hp (jD rfl);rintro _ w2 ⟨b8,rfl,hp⟩)
 (repeat (first|(with_reducible first|apply qF|apply qA|apply qE|apply qB)|(apply wlp;(first|apply qC|apply qD);(first|exact fB rfl|exact fS rfl))))
 (apply wls;exact qH rfl qFn rfl (h20 _ (hM.keep0 hp.keeps));rintro _ w3 ⟨rfl,hk⟩;have hp:=hp.call hk)
 (repeat (first|(with_reducible first|apply qF|apply qA|apply qE|apply qB)|(apply wlp;((first|apply qD|(apply jQ;exact rfl))<;>(first|exact rfl|exact hp.agg_blk 1 rfl rfl));(first|exact fI rfl|exact fA2 rfl))))
 (apply wls;exact qH rfl jAc rfl (hk81 _ (hkeep hp.keeps));rintro _ w4 ⟨rfl,hk⟩;have hp:=hp.call hk)
 (apply wlp;apply qD;exact fB rfl)
 (repeat (with_reducible first|apply qF|apply qA|apply qE|apply qB))
 (apply wlp;apply qC;exact fB rfl)
 (apply wlp;(apply zI<;>exact rfl);exact fB rfl)
 (apply wlp;apply qC;exact fB rfl)
 ((apply jO;exact rfl;exact rfl);(apply qC);(intros;exact fI rfl))
 (apply jO;exact rfl;exact rfl;(exact zF rfl rfl);exact jF (b:=false) (decide_eq_false (by omega)))
 (apply wlp;exact jU rfl rfl;exact fB rfl)
 (apply wlp;apply qC;exact fB rfl)
 ((apply jO;exact rfl;exact rfl);(apply qC);(intros;exact fS rfl))
 ((apply jO;exact rfl;exact rfl);(((apply jC;exact rfl)<;>exact rfl));(intros;exact fI rfl))
 ((apply jO;exact rfl;exact rfl);((apply qS<;>exact rfl));(intros;exact fP rfl))
 ((apply jO;exact rfl;exact rfl);(((apply qJ;exact rfl)<;>(first|exact rfl|exact hp.cell 1 rfl rfl)));(intros;exact fS rfl))
 ((apply jO;exact rfl;exact rfl);(((apply jC;exact rfl)<;>exact rfl));(intros;exact fI rfl))
 (apply jO;exact rfl;exact rfl;(exact zJ rfl rfl);exact jF (b:=false) (ndf (by omega)))
 (apply wlp;exact jU rfl rfl;exact fB rfl)
 (apply wlp;apply qC;exact fB rfl)
 ((apply jO;exact rfl;exact rfl);(apply qC);(intros;exact fS rfl))
 ((apply jO;exact rfl;exact rfl);(((apply jC;exact rfl)<;>exact rfl));(intros;exact fI rfl))
 ((apply jO;exact rfl;exact rfl);(apply qC);(intros;exact fS rfl))
 ((apply jO;exact rfl;exact rfl);(((apply jC;exact rfl)<;>exact rfl));(intros;exact fI rfl))
 (apply jO;exact rfl;exact rfl;(exact zJ rfl rfl);exact jF (b:=false) (ndf (by omega)))
 (apply wlp;exact jU rfl rfl;exact fB rfl)
 (apply wlp;apply qC;exact fB rfl)
 ((apply jO;exact rfl;exact rfl);(apply qC);(intros;exact fS rfl))
 ((apply jO;exact rfl;exact rfl);(apply qC);(intros;exact fI rfl))
 (apply qAu;exact rfl;exact rfl;exact qH rfl qV9 rfl (h65 _ (hD.keep0 hp.keeps) (fun d hd=>(hDa d hd).keep hp.keeps));rintro _ w5 ⟨rfl,hk⟩;have hp:=hp.call hk)
 ((apply jO;exact rfl;exact rfl);((apply zI<;>exact rfl));(intros;exact fB rfl))
 (apply wlp;exact jU rfl rfl;exact fB rfl)
 (repeat (with_reducible first|apply qE|apply qB))
 refine jI rfl ?_
 (repeat (first|(with_reducible first|apply qF|apply qK|apply qA|apply qE|apply qB|apply qL)|(apply wlp;apply qD;exact fI rfl)))
 refine jE ([9,12,13] ++ List.range' 48 53) (fun (i:Nat) F=>F.put 12 (.int .i64 (i:Int)))
  (fun i w'=>i≤S.length∧Hp w [] w' [blk b8 2 (qV [.slice none 0 0,.slice none 0 0]) 27,blk b4 2 (qV [.slice s1 cs.length c1,.slice s2 rk.length c2]) 27]) (fun i=>S.length - i) 0 (qG (Same.eq .refl) rfl) ⟨Nat.zero_le _,hp⟩ ?_
 (repeat clear hp)
 rintro u0 i w8 ⟨hi,hp⟩
 (repeat (first|(with_reducible first|apply qF|apply qA|apply qE|apply qB)|(apply wlp;((first|apply qC|(apply jC;exact rfl)|apply jA)<;>exact rfl);(first|exact fI rfl|exact fB rfl|exact fS rfl))))
 refine qM rfl (fun h=>?_) (fun h=>?_)
 ·have hlt:i < S.length:=by omega
  have hltd:i < ds.length:=by omega
  obtain ⟨b0,o0,hs0,hc0⟩:=hF.base (by omega)
  have hcc:=fun j (hj:j < S.length)=>hc0 j _ (List.getElem?_eq_getElem hj) 0 _ rfl
  have hci:=hcc i hlt
  obtain ⟨b1,o1,hs1,hc1⟩:=hD.base (by omega)
  have hcj:=hc1 i _ (List.getElem?_eq_getElem hltd)
  have hxb:=qF6 hP hlt
  have hx1:=(hP.bd _ (List.getElem_mem hlt)).1
  have hxl:=hle _ (List.getElem_mem hlt)
  have hfi:=hfst i hlt hltd
  have hda:=hDa _ (List.getElem_mem hltd)
  obtain ⟨hdo,hdn⟩:=hdok _ (List.getElem_mem hltd)
  have hd1:=hdo.cl
  have hne:∀ j (hj:j < S.length),j < i→S[j] ≠ S[i]:=fun j hj hij e=>by
   have hn:=hP.nd
   rw [List.nodup_iff_pairwise_ne,List.pairwise_iff_getElem] at hn
   exact hn j i hj hlt hij e
  generalize S[i] = x at hci hxb hx1 hxl hfi hne
  generalize ds[i] = d at hcj hfi hda hdn hd1
  obtain ⟨d1,e1,dcs,dpt,d2,e2,dbx⟩:=d
  have hda:=hda.cs
  dsimp only at hda hdn hfi hd1
  have hcj:w.cell? ⟨b1,o1 + i * 3 + 0,none⟩ = some (.slice d1 dcs.length e1):=hcj 0 _ rfl
  obtain ⟨b2,o2,hs2,hc2⟩:=hda.base (by omega)
  have hcd:=hc2 0 _ (List.getElem?_eq_getElem (by omega)) 0 _ rfl
  rw [← xV (l:=dcs) (i:=0) (by omega),hfi] at hcd
  have hat:=qRv cs x
  have hz0:0 < dcs.length:=by omega
  (repeat (first|(with_reducible first|apply qF|apply qK|apply qA|apply qE|apply qB|apply qL)|(apply wlp;apply qD;exact fI rfl)))
  refine jE ([9,13] ++ List.range' 54 15) (fun (j:Nat) F=>F.put 13 (.int .i64 (j:Int)))
   (fun j w'=>j≤i∧Hp w [] w' [blk b8 2 (qV [.slice none 0 0,.slice none 0 0]) 27,blk b4 2 (qV [.slice s1 cs.length c1,.slice s2 rk.length c2]) 27]) (fun j=>i - j) 0 (qG (Same.eq .refl) rfl) ⟨Nat.zero_le _,hp⟩ ?_
  (repeat clear hp)
  rintro u1 j w9 ⟨hj,hp⟩
  (repeat (first|(with_reducible first|apply qF|apply qA|apply qE|apply qB)|(apply wlp;((first|apply qC|apply jA)<;>exact rfl);(first|exact fI rfl|exact fB rfl))))
  refine qM rfl (fun h=>?_) (fun h=>?_)
  ·have hltj:j < S.length:=by omega
   have hcy:=hcc j hltj
   have hnj:=hne j hltj (by omega)
   generalize S[j] = y at hcy hnj
   (repeat (with_reducible first|apply qF|apply qK|apply qB|apply qL))
   refine jX jW (by kernel_rfl) (fun w'=>Hp _ _ w' _) hp.drew ?_
   have hp:=hp.drew
   (repeat ((apply wdp;exact rfl);(intro w hp;intros;((first|apply qC|(apply qJ;exact rfl)|(apply zF;(first|exact rfl|exact jR rfl (by assumption)))|(apply qR;exact rfl))<;>(first|exact rfl|assumption|exact hp.old0 (by assumption))));(intros;(first|exact fI rfl|exact fB rfl|exact fP rfl|exact fS rfl))))
   refine jL ?_
   (repeat with_reducible apply qB)
   refine qM rfl (fun h=>absurd h (by omega)) (fun _=>?_)
   (repeat (first|(with_reducible first|apply qA|apply qB|apply qZ|apply qL)|(apply wlp;apply qC;exact fI rfl)))
   (apply wlp;(exact qY rfl rfl);exact qI (b:=((j + 1:Nat):Int)) (by rw [qN (by omega) (by omega)];omega))
   (repeat (first|(with_reducible first|apply qE|apply qB)|(apply wlp;apply qD;exact fI rfl)))
   exact ⟨j + 1,qG (Same.eq (by repeat (first|exact Same.hav|exact Same.refl|refine Same.put rfl ?_|refine Same.havs rfl ?_))) rfl,⟨by omega,hp⟩,by omega⟩
  clear hj h
  (repeat (first|(with_reducible first|apply qF|apply qB|apply qO|apply jB)|((with_reducible apply qP);exact rfl)))
  refine jX jW (by kernel_rfl) (fun w'=>Hp _ _ w' _) hp.drew ?_
  have hp:=hp.drew
  have hxd:decide ((x:Int) < 1) = false:=decide_eq_false (by omega)
  (repeat ((first|(apply wdp;exact rfl)|(apply wdg;exact rfl;exact rfl;exact rfl));(intro w hp;intros;((first|apply qC|(apply qJ;exact rfl)|(apply jQ;exact rfl)|apply jA|(apply qR;exact rfl))<;>(first|exact rfl|exact jR rfl (by assumption)|assumption|exact hp.agg_blk 1 rfl rfl|exact hp.old0 (by assumption))));(intros;(first|exact fI rfl|exact fB rfl|exact fP rfl|exact fS rfl|exact fA2 rfl))))
  rw [hxd]
  (repeat (first|(apply uN;exact rfl;exact rfl;exact rfl;exact rfl)|(apply uM;exact rfl;exact rfl;exact rfl)))
  (apply qEs;exact rfl;exact rfl;exact rfl;exact qH rfl jAb rfl (hk82 _ (hkeep hp.keeps));rintro _ w10 ⟨rfl,hk⟩;have hp:=hp.call hk;refine ⟨hp,?_⟩)
  (apply vD;exact rfl;exact rfl;exact rfl;(intro w hp;exact zA rfl rfl);exact jF (b:=false) (decide_eq_false (by omega)))
  (apply wdp;exact rfl;(intro w hp;exact jU rfl rfl);exact fB rfl)
  (apply wdp;exact rfl;(intro w hp;exact qC);exact fB rfl)
  (repeat (first|((apply vD;exact rfl;exact rfl;exact rfl);(intro w hp;((first|apply qC|apply qS|(apply qJ;exact rfl)|(apply qR;exact rfl))<;>(first|exact rfl|assumption|exact hp.cell 1 rfl rfl|exact hp.old0 (by assumption))));(intros;(first|exact fI rfl|exact fP rfl|exact fS rfl)))|(apply uN;exact rfl;exact rfl;exact rfl;exact rfl)|(apply uM;exact rfl;exact rfl;exact rfl)))
  (apply qEs;exact rfl;exact rfl;exact rfl;exact qH rfl jAa rfl (p83 cs x s1 c1 _ (hcs.keep0 hp.keeps) (by omega) (by omega) (fun a ha=>kQ (hcmb a ha)));rintro _ w11 ⟨rfl,hk⟩;have hp:=hp.call hk;refine ⟨hp,?_⟩)
  (apply vD;exact rfl;exact rfl;exact rfl;(intro w hp;exact zJ rfl rfl);exact jF (b:=false) (ndf (by omega)))
  (apply wdp;exact rfl;(intro w hp;exact jU rfl rfl);exact fB rfl)
  refine jL ?_
  (repeat with_reducible apply qB)
  refine jI rfl ?_
  (repeat (first|(with_reducible first|apply qA|apply qB|apply qZ|apply qL)|(apply wlp;apply qC;exact fI rfl)))
  (apply wlp;(exact qY rfl rfl);exact qI (b:=((i + 1:Nat):Int)) (by rw [qN (by omega) (by omega)];omega))
  (repeat (first|(with_reducible first|apply qE|apply qB)|(apply wlp;apply qD;exact fI rfl)))
  exact ⟨i + 1,qG (Same.eq (by repeat (first|exact Same.hav|exact Same.refl|refine Same.put rfl ?_|refine Same.havs rfl ?_))) rfl,⟨by omega,hp⟩,by omega⟩
 clear hi h
 have hfl:((List.range S.length).map (zB S)).length = S.length:=by rw [List.length_map,List.length_range]
 have hfb:∀ x ∈ (List.range S.length).map (zB S),x≤9223372036854775807:=fun x hx=>by
  obtain ⟨q,_,rfl⟩:=List.mem_map.1 hx
  have:=qAb S q
  omega
 (repeat (first|(with_reducible first|apply qF|apply qA|apply qB|apply qO|apply jB)|((with_reducible apply qP);exact rfl)|(apply wlp;apply qC;exact fS rfl)))
 (apply wls;exact qH rfl qV8 rfl (h66 _ (hM.keep0 hp.keeps));rintro _ w9 ⟨sr,cr,rs,rfl,hrw,hrn,hpo⟩;have hp:=hp.joinT [] (rwE sr cr rs) hpo;clear hpo)
 have hp:Hp w [] w9 ([blk b8 2 (qV [.slice none 0 0,.slice none 0 0]) 27,blk b4 2 (qV [.slice s1 cs.length c1,.slice s2 rk.length c2]) 27] ++ rwE sr cr rs):=hp
 (repeat (first|(with_reducible first|apply qF|apply qA|apply qE|apply qB)|(apply wlp;((first|apply qC|apply qD|apply jK)<;>exact rfl);(first|exact fB rfl|exact fS rfl|exact fU rfl))))
 (apply wls;exact qH rfl qVc rfl (p34 S sF cF _ (hF.keep0 hp.keeps) hP (by omega));rintro _ w10 ⟨sf,cf,rfl,hvf,hpo⟩;have hp:=hp.join hpo;clear hpo)
 obtain ⟨fs,hfs⟩:∃ fs,fs = (List.range S.length).map (zB S):=⟨_,rfl⟩
 rw [← hfs] at hfl hfb hvf hp ⊢
 have hp:Hp w [] w10 ([qW eN 3 1 sf cf fs,blk b8 2 (qV [.slice none 0 0,.slice none 0 0]) 27,blk b4 2 (qV [.slice s1 cs.length c1,.slice s2 rk.length c2]) 27] ++ rwE sr cr rs):=hp
 rw [← hfl]
 (repeat (apply wlp;apply qC;exact fI rfl))
 (apply wls;exact qH rfl qFp rfl (h19 _);rintro _ w11 ⟨rfl,hk⟩;have hp:=hp.call hk)
 (apply wls;exact qH rfl qV7 rfl (p67 ds fs nd sD sf cD cf _ (hD.keep0 hp.keeps) (fun d hd=>(hDa d hd).keep hp.keeps) (jS hp 0 rfl hvf (fun _=>rfl)) (by omega) hfb (fun d hd=>(hdok d hd).2) hcb (by omega) (by omega));rintro _ w12 ⟨sm,cm,rfl,hsm,hpo⟩;have hp:=hp.join hpo;clear hpo)
 have hml:((List.range nd).map (mxF ds fs)).length = nd:=by rw [List.length_map,List.length_range]
 obtain ⟨cms,hcms⟩:∃ cms,cms = (List.range nd).map (mxF ds fs):=⟨_,rfl⟩
 rw [← hcms] at hml hsm hp
 have hp:Hp w [] w12 ([qW eN 3 1 sm cm cms,qW eN 3 1 sf cf fs,blk b8 2 (qV [.slice none 0 0,.slice none 0 0]) 27,blk b4 2 (qV [.slice s1 cs.length c1,.slice s2 rk.length c2]) 27] ++ rwE sr cr rs):=hp
 rw [← hml]
 (repeat (apply wlp;((first|apply qC|(apply xJ;exact rfl))<;>exact rfl);(first|exact fS rfl|exact fA2 rfl)))
 (apply zG;exact yN hp 2 rfl rfl rfl rfl (qQ rfl) rfl;rintro _ w13 ⟨rfl,hp⟩)
 have hp:=hp.norm 2 [.slice sm cms.length cm,.slice sr rs.length cr] rfl rfl
 (repeat (first|(with_reducible first|apply qE|apply qB|apply qT)|(apply wlp;apply qD;exact fB rfl)))
 exact kE rfl rfl rfl rfl rfl (hp.agg_blk 2 rfl rfl) ⟨_,rfl,⟨sm,cm,cms,sr,cr,rs⟩,rfl,⟨hsm,hrw⟩,by dsimp only;rw [hml];exact hcms,hrn,((hp.dropAt 3).dropAt 2).dropAt 1⟩
end Go.Proofs.YtbgldmoikimmpaaGreatDoor
namespace Go.Eng
section
variable {P:Program} {n:FrK} {F:Fr} {w:World} {d:Option Tmp} {ty:TypeId} {pos:String} {aft:Array Edge} {g:Option (Nat × Bool)} {x:Operand}
theorem qN5 {s:TypeId} {fs:Array Field} {f:Field} {i:Nat} {vs:Array Value} {v:Value} (hs:P.underlying s = some (.struct fs)) (hf:fs[i]? = some f) (hx:ev n F x = .agg vs) (hp:∀ w,(part f.type vs f.offset).run P w = .ok v w) :
  PV P n w F ⟨d,.field s x i,ty,pos,aft,g⟩ v:=by
 simp [PV,execOp,Instr.field,hx,zE hs,hf,asAgg,hp]
end
end Go.Eng
namespace Go.Proofs.YtbgldmoikimmpaaGreatDoor
open Go.Eng Go.Dig Go.Sha Go.Lag Go.Grp Go.Sp
def psG (cf S:List Nat) (sd:ByteArray) (nd:Nat):List (List Nat):=S.map fun x=>(uP (bl (sdT sd x)) nd).set 0 (vl cf x)
theorem qCy (cf S:List Nat) (sd:ByteArray) (nd:Nat):(psG cf S sd nd).length = S.length:=List.length_map _
theorem qP1 {cf S:List Nat} {sd:ByteArray} {nd i:Nat} (h:i < S.length) (h2:i < (psG cf S sd nd).length):(psG cf S sd nd)[i] = (uP (bl (sdT sd S[i])) nd).set 0 (vl cf S[i]):=List.getElem_map _
theorem qEf {cf S:List Nat} {sd:ByteArray} {nd:Nat} {p:List Nat} (h:p ∈ psG cf S sd nd):p.length = nd∧∀ x ∈ p,x < 1152921504606845789:=by
 obtain ⟨x,_,rfl⟩:=List.mem_map.1 h
 refine ⟨by rw [List.length_set,kY],fun y hy=>?_⟩
 rcases List.mem_or_eq_of_mem_set hy with hy|rfl
 ·exact qCz _ _ y hy
 ·exact qBu
theorem qP0 {cf S:List Nat} {sd:ByteArray} {nd:Nat} (h:1≤nd):(psG cf S sd nd).map (fun p=>p.getD 0 0) = S.map (vl cf):=by
 unfold psG
 rw [List.map_map]
 refine List.map_congr_left fun x _=>?_
 show ((uP (bl (sdT sd x)) nd).set 0 (vl cf x)).getD 0 0 = _
 rw [xV (by rw [List.length_set,kY];exact h),List.getElem_set_self]
theorem ChOk.pts {S:List Nat} {n nd:Nat} (h:ChOk S n nd) (hn:n≤1000000):Pts S:=⟨h.nd,fun x hx=>by
 have:=h.bd x hx
 have:(gQ:Nat) = 1152921504606845789:=rfl
 omega⟩
theorem qVl {g:GrV} {ms:List Mem} {S:List Nat} {ds:List DlV} {sd:ByteArray} (ho:GrOk g) (hmo:MsOk ms) (hS:ChOk S (zC g.ms).sum g.k.cs.length) (hon:DlsHon ds (psG g.cf S sd (ndN (zC ms).sum)) (xS ms)):AgOk g.k (zC g.ms) ms S ds:=by
 have hsp:=hmo.wo.sp
 refine ⟨ho.pk.ko,hmo,hS.pts (by have:=ho.mo.wo.sum;omega),hS.len,by rw [hon.len,qCy],hon.ok (uD ms) hsp (fun p hp=>(qEf hp).1),fun x hx=>(hS.bd x hx).2,fun i h1 h2=>?_⟩
 have h3:i < (psG g.cf S sd (ndN (zC ms).sum)).length:=by rw [qCy];exact h1
 rw [(hon.each i h2 h3).cm,qP1 h1 h3,ho.pk.pk,qRt qDl]
 have hl:0 < ((uP (bl (sdT sd S[i])) (ndN (zC ms).sum)).set 0 (vl g.cf S[i])).length:=by
  rw [List.length_set,kY]
  exact vM _
 rw [xV (by rw [wO];exact hl)]
 unfold pws
 rw [List.getElem_map,List.getElem_set_self]
attribute [local irreducible] PV StepF wpl wpd WP Ret
attribute [local irreducible] Fit ofN xD hv scP xN yC yY atP Mb inL fac zB inP lft elP pfC pfZ bsR dec scR wI qCu mxI mxF cmI cmA sdT
set_option maxHeartbeats 16000000 in
theorem p11 (g:GrV) (ms:List Mem) (secs S:List Nat) (sd:ByteArray) (sM sS sF:Option Addr) (cM cS cF:Nat) (w:World) (hg:GrAt w g) (ho:GrOk g) (hM:SlAt w 3 eMe sM ms) (hmo:MsOk ms) (hmb:∀ m ∈ ms,Mb m.pb) (hF:SlAt w 1 eN sF S) (hS:ChOk S (zC g.ms).sum g.k.cs.length) (hsd:sd.size≤1000) :
  Ret Tryz.prog 11 [.agg (eGr g).toArray,.slice sM ms.length cM,.slice sS secs.length cS,.slice sF S.length cF,.string sd] w
   (fun v w'=>∃ (sC:Option Addr) (cC:Nat) (k:KyV) (so:Option Addr) (co:Nat) (ds:List DlV),v = .tuple #[.agg (eGr ⟨sM,cM,ms,sS,cS,secs,sC,cC,(List.range (ndN (zC ms).sum)).map (nxt S (psG g.cf S sd (ndN (zC ms).sum))),k⟩).toArray,.slice so ds.length co] ∧
    GrOk ⟨sM,cM,ms,sS,cS,secs,sC,cC,(List.range (ndN (zC ms).sum)).map (nxt S (psG g.cf S sd (ndN (zC ms).sum))),k⟩∧SVL sC cC ((List.range (ndN (zC ms).sum)).map (nxt S (psG g.cf S sd (ndN (zC ms).sum))))∧KyOw k∧DlsOw so co ds∧DlsHon ds (psG g.cf S sd (ndN (zC ms).sum)) (xS ms) ∧
    Hp w [] w' (qW eN 3 1 sC cC ((List.range (ndN (zC ms).sum)).map (nxt S (psG g.cf S sd (ndN (zC ms).sum)))) :: (xQ so co ds ++ kyE k))):=by
 have hag:=fun ds (hon:DlsHon ds (psG g.cf S sd (ndN (zC ms).sum)) (xS ms))=>qVl ho hmo hS hon
 have h8:=fun x w h h2=>p8 g x w h (by have:=ho.len;have:=ho.pk.ko.nd;have:=yO ho.mo.wo.sp;have:=ho.mo.wo.sum;omega) ho.pk.cb h2
 have h38:=fun ds sD cD w hk hM' hF' hD hDa hag=>p38 g.k (zC g.ms) ms S ds sM sF sD cM cF cD w hk hM' hF' hD hDa hag
 have hgn:=ho.mo.wo.sum
 have hgsp:=ho.mo.wo.sp
 have hSl:=hS.len
 have hPt:=hS.pts (by omega)
 have hSb:=hS.bd
 have hndg:=ho.pk.ko.nd
 have hndgl:=yO hgsp
 have hgcf:=hg.cf
 have hgk:=hg.k
 have h20:=fun w h=>p20 ms sM cM w h hmo
 have h36:=fun w h=>p36 ms sM cM w h hmo
 have hs60:=hmo.wo.sum
 have hsp:=hmo.wo.sp
 have hbk:=uD ms
 have hkm:=qJs hmb
 obtain ⟨n,hn⟩:∃ n,n = (zC ms).sum:=⟨_,rfl⟩
 rw [← hn] at hs60 hsp hbk ⊢
 simp only [← hn] at h20 hag h38
 have hndl:=yO hsp
 have hndp:=vM n
 have h19:=fun w=>p19 n w hsp (by omega)
 obtain ⟨nd,hnd⟩:∃ nd,nd = ndN n:=⟨_,rfl⟩
 rw [← hnd] at hndl hndp ⊢
 simp only [← hnd] at h19 hag h38
 obtain ⟨cf0,hcf0⟩:∃ cf0,cf0 = g.cf:=⟨_,rfl⟩
 rw [← hcf0] at h8 ⊢
 obtain ⟨ps,hps⟩:∃ ps,ps = psG cf0 S sd nd:=⟨_,rfl⟩
 have hpl:ps.length = S.length:=by rw [hps];exact qCy _ _ _ _
 have hpat:∀ i (h:i < S.length) (h2:i < ps.length),ps[i] = (uP (bl (sdT sd S[i])) nd).set 0 (vl cf0 S[i]):=fun i h h2=>by subst hps;exact qP1 h h2
 have hpnd:∀ p ∈ ps,p.length = nd:=fun p hp=>by rw [hps] at hp;exact (qEf hp).1
 rw [← hcf0,← hps] at hag
 rw [← hps]
 have hE:eGr g = [.slice g.sM g.ms.length g.cM,.slice g.sS g.secs.length g.cS,.slice g.sC g.cf.length g.cC,.slice g.k.s1 g.k.cs.length g.k.c1,.slice g.k.s2 g.k.rs.length g.k.c2]:=rfl
 have hEk:eKy g.k = [.slice g.k.s1 g.k.cs.length g.k.c1,.slice g.k.s2 g.k.rs.length g.k.c2]:=rfl
 rw [hE] at h8 ⊢
 rw [hEk] at h38
 clear hE hEk ho hg hS
 refine Ret.of_WP Tryz.func11 rfl Tryz.ntmps11 rfl ?_
 have hp:=Hp.start (M:=[]) (w:=w)
 (repeat (with_reducible first|apply qF|apply qA))
 (apply wls;exact qOj hp rfl;rintro _ w1 ⟨b5,rfl,hp⟩)
 (apply wls;exact wN hp (jD rfl);rintro _ w2 ⟨b10,rfl,hp⟩)
 (repeat (first|(with_reducible first|apply qF|apply qA|apply qE|apply qB)|(apply wlp;(first|apply qC|apply qD);exact fS rfl)))
 (apply wls;exact qH rfl qFn rfl (h20 _ (hM.keep0 hp.keeps));rintro _ w5 ⟨rfl,hk⟩;have hp:=hp.call hk)
 (apply wls;exact qH rfl qFp rfl (h19 _);rintro _ w6 ⟨rfl,hk⟩;have hp:=hp.call hk)
 (repeat (first|(with_reducible first|apply qF|apply qA|apply qE|apply qB)|(apply wlp;(first|apply qC|apply qD|apply qCb);(first|exact fI rfl|exact fS rfl))))
 (apply wlp;exact qF4 (zs:=[.slice none 0 0,.slice none 0 0]) (tl:=[.slice none 0 0,.slice none 0 0,.slice none 0 0]) (pl:=[(0,1),(1,1)]) (pl':=[(2,1),(3,2)]) Tryz.underlying29 (jD (z:=.agg #[.slice none 0 0,.slice none 0 0,.slice none 0 0,.slice none 0 0,.slice none 0 0]) rfl) (fun w=>by kernel_rfl) rfl rfl rfl;exact fA5 rfl)
 (apply wls;exact wN hp (jD rfl);rintro _ w3 ⟨b13,rfl,hp⟩)
 (apply zG;exact qAk hp 0 rfl rfl rfl rfl (qQ rfl) rfl;rintro _ w4 ⟨rfl,hp⟩)
 have hp:=hp.norm 0 [.slice sM ms.length cM,.slice sS secs.length cS,.slice none 0 0,.slice none 0 0,.slice none 0 0] rfl rfl
 (repeat (first|(with_reducible first|apply qF|apply qK|apply qA|apply qE|apply qB)|(apply wlp;apply qD;(first|exact fI rfl|exact fS rfl))))
 have hp:=hp.nilL eN 3 1
 have hp:Hp w [] w4 [qW eN 3 1 none 0 (List.replicate 0 0),blk b13 5 (qV [.slice sM ms.length cM,.slice sS secs.length cS,.slice none (List.replicate 0 0).length 0,.slice none 0 0,.slice none 0 0]) 29,blk b10 5 (qV [.slice none 0 0,.slice none 0 0,.slice none 0 0,.slice none 0 0,.slice none 0 0]) 29,blk b5 5 (qV [.slice g.sM g.ms.length g.cM,.slice g.sS g.secs.length g.cS,.slice g.sC g.cf.length g.cC,.slice g.k.s1 g.k.cs.length g.k.c1,.slice g.k.s2 g.k.rs.length g.k.c2]) 29]:=hp
 have hp:=hp.picks [0,1,3,2] [qW eN 3 1 none 0 (List.replicate 0 0),blk b13 5 (qV [.slice sM ms.length cM,.slice sS secs.length cS,.slice none (List.replicate 0 0).length 0,.slice none 0 0,.slice none 0 0]) 29,blk b5 5 (qV [.slice g.sM g.ms.length g.cM,.slice g.sS g.secs.length g.cS,.slice g.sC g.cf.length g.cC,.slice g.k.s1 g.k.cs.length g.k.c1,.slice g.k.s2 g.k.rs.length g.k.c2]) 29,blk b10 5 (qV [.slice none 0 0,.slice none 0 0,.slice none 0 0,.slice none 0 0,.slice none 0 0]) 29] rfl rfl
 refine jE ([15] ++ List.range' 28 10) (fun (X:Nat × Option Addr × Nat) F=>F.put 15 (.int .i64 (X.1:Int)))
  (fun X w'=>X.1≤nd∧SVL X.2.1 X.2.2 (List.replicate X.1 0)∧Hp w [] w' [qW eN 3 1 X.2.1 X.2.2 (List.replicate X.1 0),blk b13 5 (qV [.slice sM ms.length cM,.slice sS secs.length cS,.slice X.2.1 (List.replicate X.1 0).length X.2.2,.slice none 0 0,.slice none 0 0]) 29,blk b5 5 (qV [.slice g.sM g.ms.length g.cM,.slice g.sS g.secs.length g.cS,.slice g.sC g.cf.length g.cC,.slice g.k.s1 g.k.cs.length g.k.c1,.slice g.k.s2 g.k.rs.length g.k.c2]) 29,blk b10 5 (qV [.slice none 0 0,.slice none 0 0,.slice none 0 0,.slice none 0 0,.slice none 0 0]) 29]) (fun X=>nd - X.1) (0,none,0) (qG (Same.eq .refl) rfl) ⟨Nat.zero_le _,SVL.nil,hp⟩ ?_
 (repeat clear hp)
 rintro u0 ⟨j,sC,cC⟩ w7 ⟨hj,hvC,hp⟩
 dsimp only at hj hvC hp ⊢
 have hrl:(List.replicate j 0).length = j:=List.length_replicate
 (repeat (first|(with_reducible first|apply qF|apply qA|apply qE|apply qB)|(apply wlp;((first|apply qC|apply jA)<;>exact rfl);(first|exact fI rfl|exact fB rfl))))
 refine qM rfl (fun h=>?_) (fun h=>?_)
 ·have hsn:List.replicate (j + 1) 0 = List.replicate j 0 ++ [0]:=List.replicate_succ'
  (repeat (first|(with_reducible first|apply qF|apply qK|apply qA|apply qB|apply qL)|(apply wlp;((first|apply qS|(apply qJ;exact rfl))<;>(first|exact rfl|exact hp.cell 1 rfl rfl));(first|exact fP rfl|exact fS rfl))))
  (apply wls;exact jP (cs:=eN 0) hp rfl rfl rfl rfl rfl rfl rfl;rintro _ w8 ⟨nb,rfl,hp⟩)
  (apply wls;exact zL eN (List.replicate j 0) 0 hp 1 0 rfl rfl rfl rfl rfl rfl (fun _=>rfl) rfl rfl rfl hvC rfl rfl (by omega);rintro _ w9 ⟨s',c',rfl,hsv',hp⟩)
  rw [← hsn] at hsv' hp
  rw [← hsn]
  have hp:=hp.tail
  (repeat (apply wlp;(apply qS<;>exact rfl);exact fP rfl))
  (apply zG;exact xZ hp 1 rfl rfl rfl rfl (qQ rfl) rfl;rintro _ w10 ⟨rfl,hp⟩)
  have hp:=hp.norm 1 [.slice sM ms.length cM,.slice sS secs.length cS,.slice s' (List.replicate (j + 1) 0).length c',.slice none 0 0,.slice none 0 0] rfl rfl
  (repeat (first|(with_reducible first|apply qA|apply qE|apply qB|apply qZ)|(apply wlp;apply qC;exact fI rfl)))
  (apply wlp;(exact qY rfl rfl);exact qI (b:=((j + 1:Nat):Int)) (by rw [qN (by omega) (by omega)];omega))
  (repeat (first|(with_reducible first|apply qE|apply qB)|(apply wlp;apply qD;exact fI rfl)))
  exact ⟨(j + 1,s',c'),qG (Same.eq (by repeat (first|exact Same.hav|exact Same.refl|refine Same.put rfl ?_|refine Same.havs rfl ?_))) rfl,⟨by dsimp only;omega,hsv',hp⟩,by dsimp only;omega⟩
 obtain rfl:nd = j:=by omega
 rw [hrl] at hp
 clear hrl hj
 have hne:List.replicate nd 0 ≠ []:=by intro e;have:=congrArg List.length e;simp at this;omega
 obtain ⟨gc,rfl⟩:=hvC.addr hne
 clear hne
 (repeat (first|(with_reducible first|apply qF|apply qA|apply qB|apply qO|apply jB)|((with_reducible apply qP);exact rfl)|(apply wlp;apply qC;exact fS rfl)))
 (apply wls;exact qH rfl qVc rfl (p34 S sF cF _ (hF.keep0 hp.keeps) hPt (by omega));rintro _ w8 ⟨sf,cfc,rfl,hvf,hpo⟩;have hp:=hp.join hpo;clear hpo)
 have hfb:∀ x ∈ (List.range S.length).map (zB S),x < 1152921504606845789:=fun x hx=>by
  obtain ⟨q,_,rfl⟩:=List.mem_map.1 hx
  exact qAb S q
 have hfl:((List.range S.length).map (zB S)).length = S.length:=by rw [List.length_map,List.length_range]
 have hnx:=qMk S ps
 have hmx:=fun (ds:List DlV) (hon:DlsHon ds ps (xS ms))=>qHz (fs:=(List.range S.length).map (zB S)) hon hpnd
 obtain ⟨fs,hfs⟩:∃ fs,fs = (List.range S.length).map (zB S):=⟨_,rfl⟩
 rw [← hfs] at hfl hfb hvf hp hnx
 simp only [← hfs] at hmx h38
 rw [← hnx]
 rw [qIp ps fs nd] at hp hvC
 have hp:=hp.nilL eDl 54 3
 have hp:Hp w [] w8 (qW eDl 54 3 none 0 [] :: [qW eN 3 1 sf cfc fs,qW eN 3 1 (some ⟨gc,0,none⟩) cC ((List.range nd).map (cmI ps fs 0)),blk b13 5 (qV [.slice sM ms.length cM,.slice sS secs.length cS,.slice (some ⟨gc,0,none⟩) nd cC,.slice none 0 0,.slice none 0 0]) 29,blk b5 5 (qV [.slice g.sM g.ms.length g.cM,.slice g.sS g.secs.length g.cS,.slice g.sC g.cf.length g.cC,.slice g.k.s1 g.k.cs.length g.k.c1,.slice g.k.s2 g.k.rs.length g.k.c2]) 29,blk b10 5 (qV [.slice none 0 0,.slice none 0 0,.slice none 0 0,.slice none 0 0,.slice none 0 0]) 29]):=hp
 have hp:Hp w [] w8 ([qW eN 3 1 sf cfc fs,qW eN 3 1 (some ⟨gc,0,none⟩) cC ((List.range nd).map (cmI ps fs 0)),blk b13 5 (qV [.slice sM ms.length cM,.slice sS secs.length cS,.slice (some ⟨gc,0,none⟩) nd cC,.slice none 0 0,.slice none 0 0]) 29,blk b5 5 (qV [.slice g.sM g.ms.length g.cM,.slice g.sS g.secs.length g.cS,.slice g.sC g.cf.length g.cC,.slice g.k.s1 g.k.cs.length g.k.c1,.slice g.k.s2 g.k.rs.length g.k.c2]) 29,blk b10 5 (qV [.slice none 0 0,.slice none 0 0,.slice none 0 0,.slice none 0 0,.slice none 0 0]) 29] ++ xQ none 0 []):=hp.perm (List.perm_append_comm (l₁:=[_]))
 (repeat (first|(with_reducible first|apply qF|apply qK|apply qA|apply qE|apply qB)|(apply wlp;apply qD;(first|exact fI rfl|exact fS rfl))))
 refine jE ([14,17,18,19,20,21] ++ List.range' 40 68) (fun (X:List DlV × Option Addr × Nat) F=>(F.put 17 (.int .i64 (X.1.length:Int))).put 14 (.slice X.2.1 X.1.length X.2.2))
  (fun X w'=>X.1.length≤S.length∧DlsOw X.2.1 X.2.2 X.1∧DlsHon X.1 (ps.take X.1.length) (xS ms)∧Hp w [] w' ([qW eN 3 1 sf cfc fs,qW eN 3 1 (some ⟨gc,0,none⟩) cC ((List.range nd).map (cmI ps fs X.1.length)),blk b13 5 (qV [.slice sM ms.length cM,.slice sS secs.length cS,.slice (some ⟨gc,0,none⟩) nd cC,.slice none 0 0,.slice none 0 0]) 29,blk b5 5 (qV [.slice g.sM g.ms.length g.cM,.slice g.sS g.secs.length g.cS,.slice g.sC g.cf.length g.cC,.slice g.k.s1 g.k.cs.length g.k.c1,.slice g.k.s2 g.k.rs.length g.k.c2]) 29,blk b10 5 (qV [.slice none 0 0,.slice none 0 0,.slice none 0 0,.slice none 0 0,.slice none 0 0]) 29] ++ xQ X.2.1 X.2.2 X.1)) (fun X=>S.length - X.1.length) ([],none,0) (qG (qG (Same.eq .refl) rfl) rfl) ⟨Nat.zero_le _,⟨SVL.nil,by simp⟩,DlsHon.nil _,hp⟩ ?_
 (repeat clear hp)
 rintro u1 ⟨ds,so,co⟩ w9 ⟨hi,how,hon,hp⟩
 dsimp only at hi how hon hp ⊢
 (repeat (first|(with_reducible first|apply qF|apply qA|apply qE|apply qB)|(apply wlp;((first|apply qC|(apply jC;exact rfl)|apply jA)<;>exact rfl);(first|exact fI rfl|exact fB rfl|exact fS rfl))))
 refine qM rfl (fun h=>?_) (fun h=>?_)
 ·have hlt:ds.length < S.length:=by omega
  obtain ⟨b0,o0,hs0,hc0⟩:=hF.base (by omega)
  have hci:=hc0 ds.length _ (List.getElem?_eq_getElem hlt) 0 _ rfl
  have hib:=hSb _ (List.getElem_mem hlt)
  have hltp:ds.length < ps.length:=by omega
  have hpi:=hpat ds.length hlt hltp
  have hps1:=List.take_succ_eq_append_getElem hltp
  have hst:=fun q=>qJn (ps:=ps) (fs:=fs) q (i:=ds.length) hltp (by omega)
  rw [hpi] at hps1 hst
  clear hpi
  have hltf:ds.length < fs.length:=by omega
  have hfx:=hfb _ (List.getElem_mem hltf)
  generalize hfe:fs[ds.length] = f at hst hfx
  generalize S[ds.length] = id at hci hib hps1 hst
  have hsz:=qIt sd (n:=id) (by omega)
  have h1:=yE sd (⟨#[32]⟩:ByteArray)
  have h2:=yE (sd ++ (⟨#[32]⟩:ByteArray)) (xD id)
  have h3:(⟨#[32]⟩:ByteArray).size = 1:=rfl
  have h4:=xY (show id≤9223372036854775807 by omega)
  have hpl0:=kY (bl (sdT sd id)) nd
  have hpb0:=qCz (bl (sdT sd id)) nd
  obtain ⟨tx,htx⟩:∃ tx,tx = sdT sd id:=⟨_,rfl⟩
  have htx2:(sd ++ (⟨#[32]⟩:ByteArray)) ++ xD id = tx:=by rw [htx];unfold sdT;rfl
  rw [← htx] at hps1 hst hsz hpl0 hpb0
  (repeat (first|(with_reducible first|apply qF|apply qK|apply qA|apply qB|apply qL)|(apply wlp;apply qC;exact fT rfl)))
  (apply wlp;exact jY rfl rfl (by show _ + 1≤_;omega);exact fT rfl)
  (repeat (apply wlp;((first|apply qC|(apply qJ;exact rfl)|(apply qR;exact rfl))<;>(first|exact rfl|assumption|exact hp.old0 (by assumption)));(first|exact fI rfl|exact fP rfl|exact fS rfl)))
  (apply wls;exact qH rfl qAe rfl (p12 id _ (by omega)))
  rintro _ w10 ⟨rfl,hk⟩
  have hp:=hp.call hk
  (apply wlp;exact jY rfl rfl (by omega);exact congrArg Value.string htx2)
  (repeat (apply wlp;apply qC;exact fI rfl))
  (apply wls;exact qH rfl qQm rfl (p22 tx nd _ (by omega) (by omega));rintro _ w11 ⟨sp,cp,rfl,hsvp,hpo⟩;have hp:=hp.join hpo;clear hpo)
  have hyb:vl cf0 id < 1152921504606845789:=qBu
  have h8i:=fun w h=>h8 id w h (by omega)
  generalize vl cf0 id = y at hps1 hst hyb h8i
  generalize uP (bl tx) nd = p0 at hps1 hst hpl0 hpb0 hsvp hp
  have hz0:0 < nd:=by omega
  have hne0:p0 ≠ []:=by rintro rfl;simp at hpl0;omega
  obtain ⟨gp,rfl⟩:=hsvp.addr hne0
  have hp:Hp w [] w11 ([qW eN 3 1 (some ⟨gp,0,none⟩) cp p0] ++ ([qW eN 3 1 sf cfc fs,qW eN 3 1 (some ⟨gc,0,none⟩) cC ((List.range nd).map (cmI ps fs ds.length)),blk b13 5 (qV [.slice sM ms.length cM,.slice sS secs.length cS,.slice (some ⟨gc,0,none⟩) nd cC,.slice none 0 0,.slice none 0 0]) 29,blk b5 5 (qV [.slice g.sM g.ms.length g.cM,.slice g.sS g.secs.length g.cS,.slice g.sC g.cf.length g.cC,.slice g.k.s1 g.k.cs.length g.k.c1,.slice g.k.s2 g.k.rs.length g.k.c2]) 29,blk b10 5 (qV [.slice none 0 0,.slice none 0 0,.slice none 0 0,.slice none 0 0,.slice none 0 0]) 29] ++ xQ so co ds)):=hp
  (repeat (first|(with_reducible first|apply qF|apply qE|apply qB)|(apply wlp;apply qD;exact fS rfl)))
  refine xH jW (by kernel_rfl) (fun w'=>Hp _ _ w' _) hp.drew ?_
  have hp:=hp.drew
  (repeat ((apply wdp;exact rfl);(intro w hp;intros;((first|apply qC|(apply qJ;exact rfl)|(apply jQ;exact rfl)|(apply qR;exact rfl))<;>(first|exact rfl|assumption|exact hp.old0 (by assumption)|exact hp.agg_blk 4 rfl rfl)));(intros;(first|exact fI rfl|exact fP rfl|exact fS rfl|exact rfl))))
  (apply wds;exact rfl;exact qH rfl jAe rfl (h8i _ (by rw [hcf0];exact hgcf.keep0 hp.keeps));rintro _ w12 ⟨rfl,hk⟩;have hp:=hp.call hk;refine ⟨hp,?_⟩)
  (apply wdp;exact rfl;(intro w hp;exact qN5 (v:=.int .i64 (y:Int)) Tryz.underlying39 rfl rfl (fun w=>by kernel_rfl));exact fI rfl)
  (repeat ((apply wdp;exact rfl);(intro w hp;intros;((apply qR;exact rfl)<;>(first|exact rfl|assumption)));(intros;exact fP rfl)))
  (apply kH;exact rfl;exact rfl;exact xO eN p0 0 y hp 0 rfl hsvp (by omega) rfl rfl (fun _=>rfl) rfl rfl (qQ rfl);rintro _ w13 ⟨rfl,hp⟩)
  have hpl:(p0.set 0 y).length = nd:=by rw [List.length_set];exact hpl0
  have hpb:∀ x ∈ p0.set 0 y,x < 1152921504606845789:=fun x hx=>by
   rcases List.mem_or_eq_of_mem_set hx with hx|rfl
   ·exact hpb0 x hx
   ·exact hyb
  have hsvp:=hsvp.set 0 y
  obtain ⟨sp,hsp0⟩:∃ sp,sp = (some ⟨gp,0,none⟩:Option Addr):=⟨_,rfl⟩
  rw [← hsp0] at hsvp hp ⊢
  generalize p0.set 0 y = p at hps1 hst hpl hpb hsvp hp
  have hp:Hp w [] w13 ([qW eN 3 1 sp cp p] ++ ([qW eN 3 1 sf cfc fs,qW eN 3 1 (some ⟨gc,0,none⟩) cC ((List.range nd).map (cmI ps fs ds.length)),blk b13 5 (qV [.slice sM ms.length cM,.slice sS secs.length cS,.slice (some ⟨gc,0,none⟩) nd cC,.slice none 0 0,.slice none 0 0]) 29,blk b5 5 (qV [.slice g.sM g.ms.length g.cM,.slice g.sS g.secs.length g.cS,.slice g.sC g.cf.length g.cC,.slice g.k.s1 g.k.cs.length g.k.c1,.slice g.k.s2 g.k.rs.length g.k.c2]) 29,blk b10 5 (qV [.slice none 0 0,.slice none 0 0,.slice none 0 0,.slice none 0 0,.slice none 0 0]) 29] ++ xQ so co ds)):=hp
  have h35:=fun sk ck w h1 h2=>p35 p (xS ms) tx sp sk cp ck w h1 h2 (by omega) (by omega) (by omega) hpb hkm (by omega)
  simp only [hpl] at h35
  refine jL ?_
  (repeat (with_reducible first|apply qF|apply qB))
  refine qDh true [0,1,2,3,4,5,6,7,8,9,10,11,12,13,14,15,16,17] jW (by kernel_rfl) rfl (fun w'=>Hp w [] w' (qW eN 3 1 sp cp p :: ([qW eN 3 1 sf cfc fs,qW eN 3 1 (some ⟨gc,0,none⟩) cC ((List.range nd).map (cmI ps fs ds.length)),blk b13 5 (qV [.slice sM ms.length cM,.slice sS secs.length cS,.slice (some ⟨gc,0,none⟩) nd cC,.slice none 0 0,.slice none 0 0]) 29,blk b5 5 (qV [.slice g.sM g.ms.length g.cM,.slice g.sS g.secs.length g.cS,.slice g.sC g.cf.length g.cC,.slice g.k.s1 g.k.cs.length g.k.c1,.slice g.k.s2 g.k.rs.length g.k.c2]) 29,blk b10 5 (qV [.slice none 0 0,.slice none 0 0,.slice none 0 0,.slice none 0 0,.slice none 0 0]) 29] ++ xQ so co ds))) hp.drew ?_
  have hp:=hp.drew
  (repeat ((apply wep;exact rfl;exact rfl);(intro w hp;intros;apply qC);(intros;exact fS rfl)))
  refine qH8 15 rfl (by kernel_rfl) rfl rfl ?eA ?eB
  case' eA=>
   (apply wbs;exact rfl;exact qH rfl qMe rfl (h36 _ (hM.keep0 hp.keeps));rintro _ w7 ⟨sk,ck,rfl,hsk,hpo⟩;have hp:=hp.join hpo;clear hpo;refine ⟨hp.sub (List.sublist_append_right [_] _),?_⟩)
   have hp:Hp w [] w7 ([qW eN 3 1 sk ck (xS ms),qW eN 3 1 sp cp p] ++ ([qW eN 3 1 sf cfc fs,qW eN 3 1 (some ⟨gc,0,none⟩) cC ((List.range nd).map (cmI ps fs ds.length)),blk b13 5 (qV [.slice sM ms.length cM,.slice sS secs.length cS,.slice (some ⟨gc,0,none⟩) nd cC,.slice none 0 0,.slice none 0 0]) 29,blk b5 5 (qV [.slice g.sM g.ms.length g.cM,.slice g.sS g.secs.length g.cS,.slice g.sC g.cf.length g.cC,.slice g.k.s1 g.k.cs.length g.k.c1,.slice g.k.s2 g.k.rs.length g.k.c2]) 29,blk b10 5 (qV [.slice none 0 0,.slice none 0 0,.slice none 0 0,.slice none 0 0,.slice none 0 0]) 29] ++ xQ so co ds)):=hp
   (repeat ((apply wep;exact rfl;exact rfl);(intro w hp;intros;apply qC);(intros;exact fT rfl)))
   (apply wep;exact rfl;exact rfl;(intro w hp;exact jY rfl rfl (by show _ + 1≤_;omega));exact fT rfl)
   (repeat ((apply wep;exact rfl;exact rfl);(intro w hp;intros;((first|apply qC|(apply qJ;exact rfl)|(apply qR;exact rfl))<;>(first|exact rfl|assumption|exact hp.old0 (by assumption))));(intros;(first|exact fI rfl|exact fP rfl|exact fS rfl))))
   refine qH8 15 rfl (by kernel_rfl) rfl rfl ?eC ?eD
   case' eC=>
    (apply wbs;exact rfl;exact qH rfl qAe rfl (p12 id _ (by omega));rintro _ w8 ⟨rfl,hk⟩;have hp:=hp.call hk;refine ⟨hp.sub (List.sublist_append_right [_] _),?_⟩)
    (apply wep;exact rfl;exact rfl;(intro w hp;exact jY rfl rfl (by omega));exact congrArg Value.string htx2)
    refine qH8 15 rfl (by kernel_rfl) rfl rfl ?eE ?eF
    case' eE=>
     (apply wbs;exact rfl;exact qH rfl qE6 rfl (h35 sk ck _ (jS hp 1 rfl hsvp (fun _=>rfl)) (jS hp 0 rfl hsk (fun _=>rfl)));rintro _ w9 ⟨⟨s1,c1,cs,pt,s2,c2,bx⟩,rfl,hdo,hdh,hpo⟩;have hp:=hp.join hpo;clear hpo;refine ⟨hp.sub (List.sublist_append_right [_,_,_] _),?_⟩)
     have hp:Hp w [] w9 ([qW eN 3 1 s1 c1 cs,qW eS 9 1 s2 c2 bx,qW eN 3 1 sk ck (xS ms),qW eN 3 1 sp cp p] ++ ([qW eN 3 1 sf cfc fs,qW eN 3 1 (some ⟨gc,0,none⟩) cC ((List.range nd).map (cmI ps fs ds.length)),blk b13 5 (qV [.slice sM ms.length cM,.slice sS secs.length cS,.slice (some ⟨gc,0,none⟩) nd cC,.slice none 0 0,.slice none 0 0]) 29,blk b5 5 (qV [.slice g.sM g.ms.length g.cM,.slice g.sS g.secs.length g.cS,.slice g.sC g.cf.length g.cC,.slice g.k.s1 g.k.cs.length g.k.c1,.slice g.k.s2 g.k.rs.length g.k.c2]) 29,blk b10 5 (qV [.slice none 0 0,.slice none 0 0,.slice none 0 0,.slice none 0 0,.slice none 0 0]) 29] ++ xQ so co ds)):=hp
     (repeat ((apply wep;exact rfl;exact rfl);(intro w hp;intros;((first|apply qC|apply jK)<;>exact rfl));(intros;(first|exact fB rfl|exact fA3 rfl|exact fU rfl))))
     refine uL rfl (by kernel_rfl) ?_ rfl
     (apply wbs;exact rfl;exact yA hp (jD rfl);rintro _ w10 ⟨b8,rfl,hp⟩;refine ⟨hp.sub (List.sublist_append_right [_,_,_,_] _),?_⟩)
     have hp:Hp w [] w10 ([blk b8 3 (qV [.slice none 0 0,.int .i64 0,.slice none 0 0]) 54,qW eN 3 1 s1 c1 cs,qW eS 9 1 s2 c2 bx,qW eN 3 1 sk ck (xS ms),qW eN 3 1 sp cp p] ++ ([qW eN 3 1 sf cfc fs,qW eN 3 1 (some ⟨gc,0,none⟩) cC ((List.range nd).map (cmI ps fs ds.length)),blk b13 5 (qV [.slice sM ms.length cM,.slice sS secs.length cS,.slice (some ⟨gc,0,none⟩) nd cC,.slice none 0 0,.slice none 0 0]) 29,blk b5 5 (qV [.slice g.sM g.ms.length g.cM,.slice g.sS g.secs.length g.cS,.slice g.sC g.cf.length g.cC,.slice g.k.s1 g.k.cs.length g.k.c1,.slice g.k.s2 g.k.rs.length g.k.c2]) 29,blk b10 5 (qV [.slice none 0 0,.slice none 0 0,.slice none 0 0,.slice none 0 0,.slice none 0 0]) 29] ++ xQ so co ds)):=hp
     skip
    case' eF=>
     (apply wbs;exact rfl;exact yA hp (jD rfl);rintro _ w10 ⟨b8,rfl,hp⟩;refine ⟨hp.sub (List.sublist_append_right [_,_] _),?_⟩)
     have hp:Hp w [] w10 ([blk b8 3 (qV [.slice none 0 0,.int .i64 0,.slice none 0 0]) 54,qW eN 3 1 sk ck (xS ms),qW eN 3 1 sp cp p] ++ ([qW eN 3 1 sf cfc fs,qW eN 3 1 (some ⟨gc,0,none⟩) cC ((List.range nd).map (cmI ps fs ds.length)),blk b13 5 (qV [.slice sM ms.length cM,.slice sS secs.length cS,.slice (some ⟨gc,0,none⟩) nd cC,.slice none 0 0,.slice none 0 0]) 29,blk b5 5 (qV [.slice g.sM g.ms.length g.cM,.slice g.sS g.secs.length g.cS,.slice g.sC g.cf.length g.cC,.slice g.k.s1 g.k.cs.length g.k.c1,.slice g.k.s2 g.k.rs.length g.k.c2]) 29,blk b10 5 (qV [.slice none 0 0,.slice none 0 0,.slice none 0 0,.slice none 0 0,.slice none 0 0]) 29] ++ xQ so co ds)):=hp
     refine uL rfl (by kernel_rfl) ?_ rfl
     (apply wbs;exact rfl;exact qH rfl qE6 rfl (h35 sk ck _ (jS hp 2 rfl hsvp (fun _=>rfl)) (jS hp 1 rfl hsk (fun _=>rfl)));rintro _ w9 ⟨⟨s1,c1,cs,pt,s2,c2,bx⟩,rfl,hdo,hdh,hpo⟩;have hp:=hp.join hpo;clear hpo;refine ⟨hp.sub (List.sublist_append_right [_,_,_,_] _),?_⟩)
     have hp:=hp.perm (List.perm_middle (l₁:=[_,_]))
     have hp:Hp w [] w9 ([blk b8 3 (qV [.slice none 0 0,.int .i64 0,.slice none 0 0]) 54,qW eN 3 1 s1 c1 cs,qW eS 9 1 s2 c2 bx,qW eN 3 1 sk ck (xS ms),qW eN 3 1 sp cp p] ++ ([qW eN 3 1 sf cfc fs,qW eN 3 1 (some ⟨gc,0,none⟩) cC ((List.range nd).map (cmI ps fs ds.length)),blk b13 5 (qV [.slice sM ms.length cM,.slice sS secs.length cS,.slice (some ⟨gc,0,none⟩) nd cC,.slice none 0 0,.slice none 0 0]) 29,blk b5 5 (qV [.slice g.sM g.ms.length g.cM,.slice g.sS g.secs.length g.cS,.slice g.sC g.cf.length g.cC,.slice g.k.s1 g.k.cs.length g.k.c1,.slice g.k.s2 g.k.rs.length g.k.c2]) 29,blk b10 5 (qV [.slice none 0 0,.slice none 0 0,.slice none 0 0,.slice none 0 0,.slice none 0 0]) 29] ++ xQ so co ds)):=hp
     (repeat ((apply wep;exact rfl;exact rfl);(intro w hp;intros;((first|apply qC|apply jK)<;>exact rfl));(intros;(first|exact fB rfl|exact fA3 rfl|exact fU rfl))))
   case' eD=>
    (apply wbs;exact rfl;exact yA hp (jD rfl);rintro _ w10 ⟨b8,rfl,hp⟩;refine ⟨hp.sub (List.sublist_append_right [_,_] _),?_⟩)
    have hp:Hp w [] w10 ([blk b8 3 (qV [.slice none 0 0,.int .i64 0,.slice none 0 0]) 54,qW eN 3 1 sk ck (xS ms),qW eN 3 1 sp cp p] ++ ([qW eN 3 1 sf cfc fs,qW eN 3 1 (some ⟨gc,0,none⟩) cC ((List.range nd).map (cmI ps fs ds.length)),blk b13 5 (qV [.slice sM ms.length cM,.slice sS secs.length cS,.slice (some ⟨gc,0,none⟩) nd cC,.slice none 0 0,.slice none 0 0]) 29,blk b5 5 (qV [.slice g.sM g.ms.length g.cM,.slice g.sS g.secs.length g.cS,.slice g.sC g.cf.length g.cC,.slice g.k.s1 g.k.cs.length g.k.c1,.slice g.k.s2 g.k.rs.length g.k.c2]) 29,blk b10 5 (qV [.slice none 0 0,.slice none 0 0,.slice none 0 0,.slice none 0 0,.slice none 0 0]) 29] ++ xQ so co ds)):=hp
    refine uL rfl (by kernel_rfl) ?_ rfl
    (apply wbs;exact rfl;exact qH rfl qAe rfl (p12 id _ (by omega));rintro _ w8 ⟨rfl,hk⟩;have hp:=hp.call hk;refine ⟨hp.sub (List.sublist_append_right [_,_] _),?_⟩)
    (apply wep;exact rfl;exact rfl;(intro w hp;exact jY rfl rfl (by omega));exact congrArg Value.string htx2)
    refine uL rfl (by kernel_rfl) ?_ rfl
    (apply wbs;exact rfl;exact qH rfl qE6 rfl (h35 sk ck _ (jS hp 2 rfl hsvp (fun _=>rfl)) (jS hp 1 rfl hsk (fun _=>rfl)));rintro _ w9 ⟨⟨s1,c1,cs,pt,s2,c2,bx⟩,rfl,hdo,hdh,hpo⟩;have hp:=hp.join hpo;clear hpo;refine ⟨hp.sub (List.sublist_append_right [_,_,_,_] _),?_⟩)
    have hp:=hp.perm (List.perm_middle (l₁:=[_,_]))
    have hp:Hp w [] w9 ([blk b8 3 (qV [.slice none 0 0,.int .i64 0,.slice none 0 0]) 54,qW eN 3 1 s1 c1 cs,qW eS 9 1 s2 c2 bx,qW eN 3 1 sk ck (xS ms),qW eN 3 1 sp cp p] ++ ([qW eN 3 1 sf cfc fs,qW eN 3 1 (some ⟨gc,0,none⟩) cC ((List.range nd).map (cmI ps fs ds.length)),blk b13 5 (qV [.slice sM ms.length cM,.slice sS secs.length cS,.slice (some ⟨gc,0,none⟩) nd cC,.slice none 0 0,.slice none 0 0]) 29,blk b5 5 (qV [.slice g.sM g.ms.length g.cM,.slice g.sS g.secs.length g.cS,.slice g.sC g.cf.length g.cC,.slice g.k.s1 g.k.cs.length g.k.c1,.slice g.k.s2 g.k.rs.length g.k.c2]) 29,blk b10 5 (qV [.slice none 0 0,.slice none 0 0,.slice none 0 0,.slice none 0 0,.slice none 0 0]) 29] ++ xQ so co ds)):=hp
    (repeat ((apply wep;exact rfl;exact rfl);(intro w hp;intros;((first|apply qC|apply jK)<;>exact rfl));(intros;(first|exact fB rfl|exact fA3 rfl|exact fU rfl))))
  case' eB=>
   (apply wbs;exact rfl;exact yA hp (jD rfl);rintro _ w10 ⟨b8,rfl,hp⟩;refine ⟨hp.sub (List.sublist_append_right [_] _),?_⟩)
   have hp:Hp w [] w10 ([blk b8 3 (qV [.slice none 0 0,.int .i64 0,.slice none 0 0]) 54,qW eN 3 1 sp cp p] ++ ([qW eN 3 1 sf cfc fs,qW eN 3 1 (some ⟨gc,0,none⟩) cC ((List.range nd).map (cmI ps fs ds.length)),blk b13 5 (qV [.slice sM ms.length cM,.slice sS secs.length cS,.slice (some ⟨gc,0,none⟩) nd cC,.slice none 0 0,.slice none 0 0]) 29,blk b5 5 (qV [.slice g.sM g.ms.length g.cM,.slice g.sS g.secs.length g.cS,.slice g.sC g.cf.length g.cC,.slice g.k.s1 g.k.cs.length g.k.c1,.slice g.k.s2 g.k.rs.length g.k.c2]) 29,blk b10 5 (qV [.slice none 0 0,.slice none 0 0,.slice none 0 0,.slice none 0 0,.slice none 0 0]) 29] ++ xQ so co ds)):=hp
   refine uL rfl (by kernel_rfl) ?_ rfl
   (apply wbs;exact rfl;exact qH rfl qMe rfl (h36 _ (hM.keep0 hp.keeps));rintro _ w7 ⟨sk,ck,rfl,hsk,hpo⟩;have hp:=hp.join hpo;clear hpo;refine ⟨hp.sub (List.sublist_append_right [_,_] _),?_⟩)
   have hp:=hp.perm (List.Perm.swap _ _ _)
   have hp:Hp w [] w7 ([blk b8 3 (qV [.slice none 0 0,.int .i64 0,.slice none 0 0]) 54,qW eN 3 1 sk ck (xS ms),qW eN 3 1 sp cp p] ++ ([qW eN 3 1 sf cfc fs,qW eN 3 1 (some ⟨gc,0,none⟩) cC ((List.range nd).map (cmI ps fs ds.length)),blk b13 5 (qV [.slice sM ms.length cM,.slice sS secs.length cS,.slice (some ⟨gc,0,none⟩) nd cC,.slice none 0 0,.slice none 0 0]) 29,blk b5 5 (qV [.slice g.sM g.ms.length g.cM,.slice g.sS g.secs.length g.cS,.slice g.sC g.cf.length g.cC,.slice g.k.s1 g.k.cs.length g.k.c1,.slice g.k.s2 g.k.rs.length g.k.c2]) 29,blk b10 5 (qV [.slice none 0 0,.slice none 0 0,.slice none 0 0,.slice none 0 0,.slice none 0 0]) 29] ++ xQ so co ds)):=hp
   (repeat ((apply wep;exact rfl;exact rfl);(intro w hp;intros;apply qC);(intros;exact fT rfl)))
   (apply wep;exact rfl;exact rfl;(intro w hp;exact jY rfl rfl (by show _ + 1≤_;omega));exact fT rfl)
   (repeat ((apply wep;exact rfl;exact rfl);(intro w hp;intros;((first|apply qC|(apply qJ;exact rfl)|(apply qR;exact rfl))<;>(first|exact rfl|assumption|exact hp.old0 (by assumption))));(intros;(first|exact fI rfl|exact fP rfl|exact fS rfl))))
   refine uL rfl (by kernel_rfl) ?_ rfl
   (apply wbs;exact rfl;exact qH rfl qAe rfl (p12 id _ (by omega));rintro _ w8 ⟨rfl,hk⟩;have hp:=hp.call hk;refine ⟨hp.sub (List.sublist_append_right [_,_] _),?_⟩)
   (apply wep;exact rfl;exact rfl;(intro w hp;exact jY rfl rfl (by omega));exact congrArg Value.string htx2)
   refine uL rfl (by kernel_rfl) ?_ rfl
   (apply wbs;exact rfl;exact qH rfl qE6 rfl (h35 sk ck _ (jS hp 2 rfl hsvp (fun _=>rfl)) (jS hp 1 rfl hsk (fun _=>rfl)));rintro _ w9 ⟨⟨s1,c1,cs,pt,s2,c2,bx⟩,rfl,hdo,hdh,hpo⟩;have hp:=hp.join hpo;clear hpo;refine ⟨hp.sub (List.sublist_append_right [_,_,_,_] _),?_⟩)
   have hp:=hp.perm (List.perm_middle (l₁:=[_,_]))
   have hp:Hp w [] w9 ([blk b8 3 (qV [.slice none 0 0,.int .i64 0,.slice none 0 0]) 54,qW eN 3 1 s1 c1 cs,qW eS 9 1 s2 c2 bx,qW eN 3 1 sk ck (xS ms),qW eN 3 1 sp cp p] ++ ([qW eN 3 1 sf cfc fs,qW eN 3 1 (some ⟨gc,0,none⟩) cC ((List.range nd).map (cmI ps fs ds.length)),blk b13 5 (qV [.slice sM ms.length cM,.slice sS secs.length cS,.slice (some ⟨gc,0,none⟩) nd cC,.slice none 0 0,.slice none 0 0]) 29,blk b5 5 (qV [.slice g.sM g.ms.length g.cM,.slice g.sS g.secs.length g.cS,.slice g.sC g.cf.length g.cC,.slice g.k.s1 g.k.cs.length g.k.c1,.slice g.k.s2 g.k.rs.length g.k.c2]) 29,blk b10 5 (qV [.slice none 0 0,.slice none 0 0,.slice none 0 0,.slice none 0 0,.slice none 0 0]) 29] ++ xQ so co ds)):=hp
   (repeat ((apply wep;exact rfl;exact rfl);(intro w hp;intros;((first|apply qC|apply jK)<;>exact rfl));(intros;(first|exact fB rfl|exact fA3 rfl|exact fU rfl))))
  all_goals (
  refine uL rfl (by kernel_rfl) ?_ rfl
  (apply qSd;exact rfl;exact vK hp 0 rfl rfl rfl rfl (qQ rfl) rfl;rintro _ w14 ⟨rfl,hp⟩;refine ⟨hp.sub (List.sublist_append_right [_,_,_,_] _),?_⟩)
  have hp:=hp.norm 0 [.slice s1 cs.length c1,.int .i64 (pt:Int),.slice s2 bx.length c2] rfl rfl
  (repeat ((apply wep;exact rfl;exact rfl);(intro w hp;intros;apply qD);(intros;exact fB rfl)))
  refine qEd ?_
  (repeat (with_reducible first|apply qF|apply qA|apply qB))
  (apply wlp;apply qC;exact fS rfl)
  (apply wlp;exact zP (vs:=[.slice s1 cs.length c1,.int .i64 (pt:Int),.slice s2 bx.length c2]) rfl rfl rfl rfl (fun j v hv=>hp.agg_blk (k:=3) (o:=0) 0 rfl rfl j v hv);exact fA3 rfl)
  (apply wls;exact jP (cs:=eDl ⟨s1,c1,cs,pt,s2,c2,bx⟩) hp rfl rfl rfl rfl rfl rfl rfl;rintro _ w15 ⟨nb,rfl,hp⟩)
  have hp:Hp w [] w15 ([blk nb (eDl ⟨s1,c1,cs,pt,s2,c2,bx⟩).length (qV (eDl ⟨s1,c1,cs,pt,s2,c2,bx⟩)) 54,blk b8 3 (qV [.slice s1 cs.length c1,.int .i64 (pt:Int),.slice s2 bx.length c2]) 54,qW eN 3 1 s1 c1 cs,qW eS 9 1 s2 c2 bx,qW eN 3 1 sk ck (xS ms),qW eN 3 1 sp cp p] ++ ([qW eN 3 1 sf cfc fs,qW eN 3 1 (some ⟨gc,0,none⟩) cC ((List.range nd).map (cmI ps fs ds.length)),blk b13 5 (qV [.slice sM ms.length cM,.slice sS secs.length cS,.slice (some ⟨gc,0,none⟩) nd cC,.slice none 0 0,.slice none 0 0]) 29,blk b5 5 (qV [.slice g.sM g.ms.length g.cM,.slice g.sS g.secs.length g.cS,.slice g.sC g.cf.length g.cC,.slice g.k.s1 g.k.cs.length g.k.c1,.slice g.k.s2 g.k.rs.length g.k.c2]) 29,blk b10 5 (qV [.slice none 0 0,.slice none 0 0,.slice none 0 0,.slice none 0 0,.slice none 0 0]) 29] ++ (qW eDl 54 3 so co ds :: ds.flatMap dlE))):=hp
  (apply wls;exact zL eDl ds ⟨s1,c1,cs,pt,s2,c2,bx⟩ hp 11 0 rfl rfl rfl rfl rfl rfl (fun _=>rfl) rfl rfl rfl how.out rfl rfl (by omega);rintro _ w16 ⟨s',c',rfl,hsv',hp⟩)
  have hp:=(((hp.tail).tail).dropAt 2)
  have hp:Hp w [] w16 (dlE ⟨s1,c1,cs,pt,s2,c2,bx⟩ ++ (([qW eN 3 1 sp cp p] ++ [qW eN 3 1 sf cfc fs,qW eN 3 1 (some ⟨gc,0,none⟩) cC ((List.range nd).map (cmI ps fs ds.length)),blk b13 5 (qV [.slice sM ms.length cM,.slice sS secs.length cS,.slice (some ⟨gc,0,none⟩) nd cC,.slice none 0 0,.slice none 0 0]) 29,blk b5 5 (qV [.slice g.sM g.ms.length g.cM,.slice g.sS g.secs.length g.cS,.slice g.sC g.cf.length g.cC,.slice g.k.s1 g.k.cs.length g.k.c1,.slice g.k.s2 g.k.rs.length g.k.c2]) 29,blk b10 5 (qV [.slice none 0 0,.slice none 0 0,.slice none 0 0,.slice none 0 0,.slice none 0 0]) 29]) ++ (qW eDl 54 3 s' c' (ds ++ [⟨s1,c1,cs,pt,s2,c2,bx⟩]) :: ds.flatMap dlE))):=hp
  have hp:Hp w [] w16 (([qW eN 3 1 sp cp p] ++ [qW eN 3 1 sf cfc fs,qW eN 3 1 (some ⟨gc,0,none⟩) cC ((List.range nd).map (cmI ps fs ds.length)),blk b13 5 (qV [.slice sM ms.length cM,.slice sS secs.length cS,.slice (some ⟨gc,0,none⟩) nd cC,.slice none 0 0,.slice none 0 0]) 29,blk b5 5 (qV [.slice g.sM g.ms.length g.cM,.slice g.sS g.secs.length g.cS,.slice g.sC g.cf.length g.cC,.slice g.k.s1 g.k.cs.length g.k.c1,.slice g.k.s2 g.k.rs.length g.k.c2]) 29,blk b10 5 (qV [.slice none 0 0,.slice none 0 0,.slice none 0 0,.slice none 0 0,.slice none 0 0]) 29]) ++ xQ s' c' (ds ++ [⟨s1,c1,cs,pt,s2,c2,bx⟩])):=hp.perm (by
   unfold xQ
   rw [List.flatMap_append,List.flatMap_singleton]
   refine List.perm_append_comm.trans ?_
   rw [List.append_assoc]
   exact List.Perm.refl _)
  have how2:DlsOw s' c' (ds ++ [⟨s1,c1,cs,pt,s2,c2,bx⟩]):=⟨hsv',fun d hd=>by
   rcases List.mem_append.1 hd with hd|hd
   ·exact how.each d hd
   ·rw [List.mem_singleton.1 hd]
    exact hdo⟩
  have hon2:=hon.snoc hdh
  rw [← hps1] at hon2
  have hml:(ds ++ [(⟨s1,c1,cs,pt,s2,c2,bx⟩:DlV)]).length = ds.length + 1:=by simp
  generalize (ds ++ [(⟨s1,c1,cs,pt,s2,c2,bx⟩:DlV)]) = ds' at *
  have hp:Hp w [] w16 ([qW eN 3 1 sp cp p,qW eN 3 1 sf cfc fs,qW eN 3 1 (some ⟨gc,0,none⟩) cC (md (cmI ps fs ds.length) (cmI ps fs (ds.length + 1)) nd 0),blk b13 5 (qV [.slice sM ms.length cM,.slice sS secs.length cS,.slice (some ⟨gc,0,none⟩) nd cC,.slice none 0 0,.slice none 0 0]) 29,blk b5 5 (qV [.slice g.sM g.ms.length g.cM,.slice g.sS g.secs.length g.cS,.slice g.sC g.cf.length g.cC,.slice g.k.s1 g.k.cs.length g.k.c1,.slice g.k.s2 g.k.rs.length g.k.c2]) 29,blk b10 5 (qV [.slice none 0 0,.slice none 0 0,.slice none 0 0,.slice none 0 0,.slice none 0 0]) 29] ++ xQ s' c' ds'):=by rw [qM4];exact hp
  (repeat (first|(with_reducible first|apply qF|apply qK|apply qA|apply qE|apply qB)|(apply wlp;apply qD;(first|exact fI rfl|exact fS rfl))))
  refine jE ([21] ++ List.range' 84 24) (fun (q:Nat) F=>F.put 21 (.int .i64 (q:Int)))
   (fun q w'=>q≤nd∧Hp w [] w' ([qW eN 3 1 sp cp p,qW eN 3 1 sf cfc fs,qW eN 3 1 (some ⟨gc,0,none⟩) cC (md (cmI ps fs ds.length) (cmI ps fs (ds.length + 1)) nd q),blk b13 5 (qV [.slice sM ms.length cM,.slice sS secs.length cS,.slice (some ⟨gc,0,none⟩) nd cC,.slice none 0 0,.slice none 0 0]) 29,blk b5 5 (qV [.slice g.sM g.ms.length g.cM,.slice g.sS g.secs.length g.cS,.slice g.sC g.cf.length g.cC,.slice g.k.s1 g.k.cs.length g.k.c1,.slice g.k.s2 g.k.rs.length g.k.c2]) 29,blk b10 5 (qV [.slice none 0 0,.slice none 0 0,.slice none 0 0,.slice none 0 0,.slice none 0 0]) 29] ++ xQ s' c' ds')) (fun q=>nd - q) 0 (qG (Same.eq .refl) rfl) ⟨Nat.zero_le _,hp⟩ ?_
  (repeat clear hp)
  rintro u2 q w17 ⟨hq,hp⟩
  (repeat (first|(with_reducible first|apply qF|apply qA|apply qE|apply qB)|(apply wlp;((first|apply qC|apply jA)<;>exact rfl);(first|exact fI rfl|exact fB rfl))))
  refine qM rfl (fun h=>?_) (fun h=>?_)
  ·have hltq:q < nd:=by omega
   have hltp':q < p.length:=by omega
   have hmdl:=qPo (cmI ps fs ds.length) (cmI ps fs (ds.length + 1)) nd q
   have hvmd:SVL (some ⟨gc,0,none⟩) cC (md (cmI ps fs ds.length) (cmI ps fs (ds.length + 1)) nd q):=wM hvC (by rw [hmdl];simp)
   subst hsp0
   have hnef:fs ≠ []:=by rintro rfl;cases hltf
   obtain ⟨gf,rfl⟩:=hvf.addr hnef
   have hpq:=hpb _ (List.getElem_mem hltp')
   have hst2:=hst q
   rw [xV hltp',Nat.mul_comm] at hst2
   have hset:=qPn (A:=cmI ps fs ds.length) (B:=cmI ps fs (ds.length + 1)) hltq
   have hcl:=qRi ps fs ds.length q
   generalize hxe:p[q] = x at hpq hst2
   generalize hae:cmI ps fs ds.length q = a at hst2 hcl
   generalize cmI ps fs (ds.length + 1) q = a' at hst2 hset
   (repeat (with_reducible first|apply qF|apply qK|apply qB|apply qL))
   refine xH jW (by kernel_rfl) (fun w'=>Hp _ _ w' _) hp.drew ?_
   have hp:=hp.drew
   (repeat ((apply wdp;exact rfl);(intro w hp;intros;((first|apply qC|apply qS|(apply qJ;exact rfl)|(apply qR;exact rfl))<;>(first|exact rfl|assumption|exact hp.cell 3 rfl rfl)));(intros;(first|exact fI rfl|exact fP rfl|exact fS rfl))))
   (apply wdp;exact rfl;(intro w hp;exact qJ rfl rfl (xK hp 2 rfl hvmd (fun _=>rfl) (qKu hltq) 0 _ rfl));exact congrArg (fun z:Nat=>Value.int .i64 (z:Int)) hae)
   (repeat ((apply wdp;exact rfl);(intro w hp;intros;((first|apply qC|(apply qJ;exact rfl)|(apply qR;exact rfl))<;>(first|exact rfl|assumption)));(intros;(first|exact fI rfl|exact fP rfl|exact fS rfl))))
   (apply wdp;exact rfl;(intro w hp;exact qJ rfl rfl (xK hp 1 rfl hvf (fun _=>rfl) (List.getElem?_eq_getElem hltf) 0 _ rfl));exact congrArg (fun z:Nat=>Value.int .i64 (z:Int)) hfe)
   (repeat ((apply wdp;exact rfl);(intro w hp;intros;((first|apply qC|(apply qJ;exact rfl)|(apply qR;exact rfl))<;>(first|exact rfl|assumption)));(intros;(first|exact fI rfl|exact fP rfl|exact fS rfl))))
   (apply wdp;exact rfl;(intro w hp;exact qJ rfl rfl (xK hp 0 rfl hsvp (fun _=>rfl) (List.getElem?_eq_getElem hltp') 0 _ rfl));exact congrArg (fun z:Nat=>Value.int .i64 (z:Int)) hxe)
   (apply wds;exact rfl;exact qH rfl qBg rfl (p37 f x 1152921504606845789 _ (by omega) (by omega) (by decide) (by decide));rintro _ w18 ⟨rfl,hk⟩;have hp:=hp.call hk;refine ⟨hp,?_⟩)
   have hfxl:f * x % 1152921504606845789 < 1152921504606845789:=Nat.mod_lt _ (by decide)
   (apply wds;exact rfl;exact qH rfl qQl rfl (p23 a (f * x % 1152921504606845789) 1152921504606845789 _ (by omega) (by omega) (by decide) (by decide));rintro _ w19 ⟨rfl,hk⟩;have hp:=hp.call hk;refine ⟨hp,?_⟩)
   have hst2:a' = (a + f * x % 1152921504606845789) % 1152921504606845789:=hst2
   rw [← hst2]
   (repeat ((apply wdp;exact rfl);(intro w hp;intros;((apply qR;exact rfl)<;>(first|exact rfl|assumption)));(intros;exact fP rfl)))
   (apply kH;exact rfl;exact rfl;exact xO eN (md (cmI ps fs ds.length) (cmI ps fs (ds.length + 1)) nd q) q a' hp 2 rfl hvmd (by rw [hmdl];exact hltq) rfl rfl (fun _=>rfl) rfl rfl (qQ rfl);rintro _ w20 ⟨rfl,hp⟩)
   have hp:Hp w [] w20 ([qW eN 3 1 (some ⟨gp,0,none⟩) cp p,qW eN 3 1 (some ⟨gf,0,none⟩) cfc fs,qW eN 3 1 (some ⟨gc,0,none⟩) cC (md (cmI ps fs ds.length) (cmI ps fs (ds.length + 1)) nd (q + 1)),blk b13 5 (qV [.slice sM ms.length cM,.slice sS secs.length cS,.slice (some ⟨gc,0,none⟩) nd cC,.slice none 0 0,.slice none 0 0]) 29,blk b5 5 (qV [.slice g.sM g.ms.length g.cM,.slice g.sS g.secs.length g.cS,.slice g.sC g.cf.length g.cC,.slice g.k.s1 g.k.cs.length g.k.c1,.slice g.k.s2 g.k.rs.length g.k.c2]) 29,blk b10 5 (qV [.slice none 0 0,.slice none 0 0,.slice none 0 0,.slice none 0 0,.slice none 0 0]) 29] ++ xQ s' c' ds'):=by rw [← hset];exact hp
   refine jL ?_
   (repeat (first|(with_reducible first|apply qA|apply qB|apply qZ)|(apply wlp;apply qC;exact fI rfl)))
   (apply wlp;(exact qY rfl rfl);exact qI (b:=((q + 1:Nat):Int)) (by rw [qN (by omega) (by omega)];omega))
   (repeat (first|(with_reducible first|apply qE|apply qB)|(apply wlp;apply qD;exact fI rfl)))
   exact ⟨q + 1,qG (Same.eq (by repeat (first|exact Same.hav|exact Same.refl|refine Same.put rfl ?_|refine Same.havs rfl ?_))) rfl,⟨by omega,hp⟩,by omega⟩
  obtain rfl:nd = q:=by omega
  rw [qPp] at hp
  have hp:=hp.tail
  (repeat (first|(with_reducible first|apply qA|apply qB|apply qZ|apply qO|apply jB)|((with_reducible apply qP);exact rfl)|(apply wlp;apply qC;exact fI rfl)))
  (apply wlp;(exact qY rfl rfl);exact qI (b:=((ds.length + 1:Nat):Int)) (by rw [qN (by omega) (by omega)];omega))
  (repeat (first|(with_reducible first|apply qE|apply qB)|(apply wlp;apply qD;exact fI rfl)))
  exact ⟨(ds',s',c'),qG (qG (Same.eq (by repeat (first|exact Same.hav|exact Same.refl|refine Same.put rfl ?_|refine Same.havs rfl ?_))) (by show Value.int .i64 ((ds.length + 1:Nat):Int) = _;rw [← hml])) rfl,⟨by dsimp only;omega,how2,by dsimp only;rw [hml];exact hon2,by dsimp only;rw [hml];exact hp⟩,by dsimp only;omega⟩)
 have hdsl:ds.length = S.length:=by omega
 have hfin:cmI ps fs ds.length = cmA ps fs:=by
  rw [hdsl,← hpl]
  funext q
  exact qMj ps fs q
 have hi2:ps.take ds.length = ps:=List.take_of_length_le (by omega)
 rw [hi2] at hon
 rw [hfin] at hp
 obtain ⟨hda,hdb⟩:=qIb hp how (fun p hp=>List.mem_append_right _ hp)
 (repeat (first|(with_reducible first|apply qF|apply qA|apply qB|apply qO|apply jB)|((with_reducible apply qP);exact rfl)))
 (apply wlp;(apply qS<;>exact rfl);exact fP rfl)
 (apply wlp;exact zP (vs:=[.slice g.k.s1 g.k.cs.length g.k.c1,.slice g.k.s2 g.k.rs.length g.k.c2]) rfl rfl rfl rfl (fun j v hv=>hp.agg_blk (k:=2) (o:=3) 3 rfl rfl j v hv);exact fA2 rfl)
 (repeat (apply wlp;apply qC;exact fS rfl))
 (apply wls;exact qH rfl jAw rfl (h38 ds so co _ (hgk.keep hp.keeps) (hM.keep0 hp.keeps) (hF.keep0 hp.keeps) hda hdb (hag ds hon));rintro _ w13 ⟨⟨s1,c1,cs,s2,c2,rs⟩,rfl,hkow,hkcs,hkr,hpo⟩;have hp:=hp.joinT [] (kyE ⟨s1,c1,cs,s2,c2,rs⟩) hpo;clear hpo)
 dsimp only at hkcs hkr
 rw [hmx ds hon] at hkcs
 have hp:Hp w [] w13 ([qW eN 3 1 sf cfc fs,qW eN 3 1 (some ⟨gc,0,none⟩) cC ((List.range nd).map (cmA ps fs)),blk b13 5 (qV [.slice sM ms.length cM,.slice sS secs.length cS,.slice (some ⟨gc,0,none⟩) nd cC,.slice none 0 0,.slice none 0 0]) 29,blk b5 5 (qV [.slice g.sM g.ms.length g.cM,.slice g.sS g.secs.length g.cS,.slice g.sC g.cf.length g.cC,.slice g.k.s1 g.k.cs.length g.k.c1,.slice g.k.s2 g.k.rs.length g.k.c2]) 29,blk b10 5 (qV [.slice none 0 0,.slice none 0 0,.slice none 0 0,.slice none 0 0,.slice none 0 0]) 29] ++ (xQ so co ds ++ kyE ⟨s1,c1,cs,s2,c2,rs⟩)):=by rw [← List.append_assoc];exact hp
 (repeat (apply wlp;((first|apply qC|apply qS|apply jK)<;>exact rfl);(first|exact fB rfl|exact fP rfl|exact fA2 rfl|exact fU rfl)))
 (apply zG;exact yN hp 2 rfl rfl rfl rfl (qQ rfl) rfl;rintro _ w14 ⟨rfl,hp⟩)
 have hp:=hp.norm 2 [.slice sM ms.length cM,.slice sS secs.length cS,.slice (some ⟨gc,0,none⟩) nd cC,.slice s1 cs.length c1,.slice s2 rs.length c2] rfl rfl
 (repeat (with_reducible first|apply qF|apply qA|apply qE|apply qB))
 (apply wlp;exact zP (vs:=[.slice sM ms.length cM,.slice sS secs.length cS,.slice (some ⟨gc,0,none⟩) nd cC,.slice s1 cs.length c1,.slice s2 rs.length c2]) rfl rfl rfl rfl (fun j v hv=>hp.agg_blk (k:=5) (o:=0) 2 rfl rfl j v hv);exact fA5 rfl)
 (apply wlp;apply qC;exact fS rfl)
 (apply zG;exact qAk hp 4 rfl rfl rfl rfl (qQ rfl) rfl;rintro _ w15 ⟨rfl,hp⟩)
 have hp:=hp.norm 4 [.slice sM ms.length cM,.slice sS secs.length cS,.slice (some ⟨gc,0,none⟩) nd cC,.slice s1 cs.length c1,.slice s2 rs.length c2] rfl rfl
 (repeat (first|(with_reducible first|apply qE|apply qB|apply qT)|(apply wlp;apply qD;exact fS rfl)))
 have hcfl:((List.range nd).map (cmA ps fs)).length = nd:=by rw [List.length_map,List.length_range]
 refine kE rfl rfl rfl rfl rfl (hp.agg_blk 4 rfl rfl) ⟨_,rfl,some ⟨gc,0,none⟩,cC,⟨s1,c1,cs,s2,c2,rs⟩,so,co,ds,?_,⟨hmo,⟨⟨hkr,hmo.wo,?_,?_⟩,hkcs,?_⟩⟩,wM hvC (by rw [hcfl];simp),hkow,how,hon,?_⟩
 ·unfold eGr
  dsimp only
  rw [hcfl]
  rfl
 ·dsimp only
  rw [hkcs,wO,hcfl,hnd,hn]
 ·dsimp only
  rw [hkcs]
  exact qF2 qDl _
 ·intro a ha
  obtain ⟨q,_,rfl⟩:=List.mem_map.1 ha
  exact qRj _ _ _
 ·exact hp.sub ((((((List.Sublist.refl (xQ so co ds ++ kyE ⟨s1,c1,cs,s2,c2,rs⟩)).cons _).cons _).cons _).cons_cons _).cons _)
end Go.Proofs.YtbgldmoikimmpaaGreatDoor
namespace Go.Proofs.YtbgldmoikimmpaaGreatDoor
open Go.Eng Go.Dig Go.Sha Go.Lag Go.Grp Go.Sp
theorem qPa {d:DlV} {p keys:List Nat} {sec idx:Nat} (h:DlHon d p keys) (hi:idx < keys.length) (hk:keys.getD idx 0 = 4 ^ sec % gP) :
  d.bx[idx]? = some (yY (vl p (idx + 1)) (d.pt ^ sec % gP) idx)∧4 ^ vl p (idx + 1) % gP = atP d.cs (idx + 1):=by
 obtain ⟨n,hn,hpt,hbx⟩:=h.pt
 constructor
 ·rw [hbx]
  unfold bxL
  rw [List.getElem?_map,List.getElem?_range hi]
  show some (yY (vl p (idx + 1)) (keys.getD idx 0 ^ n % gP) idx) = _
  rw [hk,hpt]
  have e:(4 ^ sec % gP) ^ n % gP = (4 ^ n % gP) ^ sec % gP:=by
   rw [← Nat.pow_mod,← Nat.pow_mod,← Nat.pow_mul,← Nat.pow_mul,Nat.mul_comm]
  rw [e]
 ·rw [h.cm]
  exact (qRt qDl p (idx + 1)).symm
theorem qMp:∀ (ms:List Mem) (m j:Nat) (h:m < ms.length),j < ms[m].wt→(xS ms).getD (((zC ms).take m).sum + j) 0 = ms[m].pb
 | a :: ms,0,j,_,hj=>by
  have hj:j < a.wt:=hj
  show (List.replicate a.wt a.pb ++ xS ms).getD (0 + j) 0 = a.pb
  rw [Nat.zero_add,List.getD_eq_getElem?_getD,List.getElem?_append_left (by simpa using hj),List.getElem?_replicate_of_lt hj]
  rfl
 | a :: ms,m + 1,j,h,hj=>by
  have ih:=qMp ms m j (by simpa using h) hj
  show (List.replicate a.wt a.pb ++ xS ms).getD ((a.wt :: (zC ms).take m).sum + j) 0 = (ms[m]'(by simpa using h)).pb
  rw [← ih,List.sum_cons,List.getD_eq_getElem?_getD,List.getElem?_append_right (by simp;omega),List.getD_eq_getElem?_getD]
  congr 2
  simp
  omega
theorem qYt {first:Nat} {ms:List Mem} {secs:List Nat} (h:CwOk first ms secs) {m j:Nat} (hm:m < ms.length) (hm2:m < secs.length) (hj:j < ms[m].wt):(xS ms).getD (((zC ms).take m).sum + j) 0 = 4 ^ secs[m] % gP:=by
 rw [qMp ms m j hm hj]
 have e:=h.p.pb
 have e2:(ms.map Mem.pb)[m]? = (pws 4 secs)[m]?:=by rw [e]
 unfold pws at e2
 rw [List.getElem?_map,List.getElem?_map,List.getElem?_eq_getElem hm,List.getElem?_eq_getElem hm2] at e2
 exact Option.some.inj e2
theorem qPi {S:List Nat} {ds:List DlV} {ps:List (List Nat)} {keys:List Nat} {nd:Nat} (hon:DlsHon ds ps keys) (hp:∀ p ∈ ps,p.length = nd) (hl:ds.length = S.length):(List.range nd).map (nxC S ds) = pws 4 ((List.range nd).map (nxt S ps)):=by
 have e:(List.range nd).map (nxC S ds) = (List.range nd).map (mxF ds ((List.range S.length).map (zB S))):=List.map_congr_left fun j _=>(qTj hl j).symm
 rw [e,qHz hon hp,qMk]
theorem qWb (S:List Nat) (ps:List (List Nat)) (j:Nat):nxt S ps j < gQ:=qRg
theorem qKs {S cf:List Nat} {sd:ByteArray} {nd:Nat} (hP:Pts S) (h0:S ≠ []) (hl:cf.length≤S.length) (hnd:1≤nd):vl ((List.range nd).map (nxt S (psG cf S sd nd))) 0 = vl cf 0:=by
 obtain ⟨m,rfl⟩:∃ m,nd = m + 1:=⟨nd - 1,by omega⟩
 have hz:=qNc hP h0 hl (qP0 (cf:=cf) (S:=S) (sd:=sd) hnd)
 rw [List.range_succ_eq_map,List.map_cons,qLe (qWb _ _ _),hz]
theorem jB9 {cs cf:List Nat} (hk:cs = pws 4 cf) (hl:0 < cf.length) (hb:∀ a ∈ cf,a < 1152921504606845789):cs[0]? = some (4 ^ vl cf 0 % gP):=by
 subst hk
 cases cf with
 | nil=>cases hl
 | cons a cf=>
  rw [qLe (hb a List.mem_cons_self)]
  rfl
theorem qKr {S cf:List Nat} {sd:ByteArray} {nd:Nat} (x:Nat):cmb S ((psG cf S sd nd).map fun p=>vl p x) = vl ((List.range nd).map (nxt S (psG cf S sd nd))) x:=(qTh (fun p hp=>(qEf hp).1) x).symm
end Go.Proofs.YtbgldmoikimmpaaGreatDoor
