/- For every input the law TopFair returns true and its arguments read as before, with the listed tables tied to the program's text; no conditions beyond the given statement's own. -/
import Derived.Test.YtplkndjlfkkjlaaGreatDoorP10
import Derived.Test.YtplkndjlfkkjlaaGreatDoorP7
import Derived.Test.YtplkndjlfkkjlaaGreatDoorP8
import Derived.Test.YtplkndjlfkkjlaaGreatDoorP9
import Derived.SevenTiedAt
namespace Go.Proofs.YtplkndjlfkkjlaaGreatDoor
open Go.Proofs.Tryz
open Go.Eng Go.ChangeShapes Go.WideShapes Go.ChangeAt Go.RowKit
set_option maxRecDepth 100000 in
theorem qL8(os:Os)(started:os.Started)(H:Type)(enc:TypeId×Value→H):
  ReturnsInHanded {} Tryz.checked os 3 .any (fun w args=>(Rows.topFairSpec.pre enc Tryz.prog Tryz.f3 Rows.topFairRow.domain false w args∧laidMetH Tryz.prog Rows.topFairRow.laid w)∧sizedMet enc Tryz.prog Tryz.f3 (OpenSpec.ofChange Rows.topFairSpec) false w args)
   (Rows.topFairSpec.post enc Tryz.prog Tryz.f3 false true false false):=by
 refine returnsInHanded_of_change_and (C:=Tryz.checked) (X:=fun w _=>laidMetH Tryz.prog Rows.topFairRow.laid w) (fun _ _ _ hh h=>h.of_heap hh) zCv started O3 func3
  (ChangeSpec.witness_at (enc:=enc) (C:=Tryz.checked) (os:=os) (X:=fun w _=>laidMetH Tryz.prog Rows.topFairRow.laid w) false (qOx os) #[Zs,Zs] 8 O O3 O3 O3 O3 O3 (qO1 os _)) ?_
 intro W base args ds gs before x0 hW _ hg hX _;have hj:=hW;obtain⟨p,q,xk,hV,rfl,hm,ln⟩:=hW;have hA:DataW.TrodAll enc Tryz.prog W 0 (fun _=>true) true Tryz.f3.params.toList args.toList ds p:=xk;rw[Tryz.params3] at hA;obtain⟨v0,v1,d0,d1,p0,p1,rfl,rfl,rfl,h0,h1⟩:=trodAll_two hA;obtain⟨rfl,rfl⟩:=trodVars_none hV;have hl:∀(j:Nat) t v,Tryz.f3.params[j]? =some t→(#[v0,v1]:Array Value)[j]? =some v→Value.okWide Tryz.prog W .any base t v:=x0;rw[Tryz.params3] at hl;have hn:(DataW.weightsEach Tryz.prog (Tryz.f3.params.toList++[]) ([d0,d1]++[])).all (·≤reachBytes)=true:=hg;rw[Tryz.params3,bH,bH] at hn;obtain⟨f0,h0⟩:=h0;obtain⟨s,c,l,e0,dr,hs0⟩:=qXs h0;have s6:=qF3 Tryz.underlying22 (hl 0 22 v0 O O) e0;obtain⟨f1,h1⟩:=h1;obtain⟨s1,c1,l1,e1,zh,hq⟩:=qXs h1;have s7:=qF3 Tryz.underlying22 (hl 1 22 v1 O O) e1;subst s6 s7;refine sAs (p3 l l1 s s1 c c1 W (qPy hX) hs0 hq dr zh) fun e W' ⟨v,he,hv,hk⟩=>?_
 subst hv
 exact⟨_,he,jAv hj O O3 (fun t ht=>by
  rw[show Tryz.f3.params.toList=[22,22] from by rw[Tryz.params3]] at ht;simp only[bE,mE,sAt] at ht;rcases ht with rfl|rfl
  ·exact⟨O3,iT O3⟩
  exact⟨O3,iT O3⟩) O O O hk⟩
theorem xQ{a b:Bool}(h1:a=true)(h2:b=true):(a&&b)=true:=by rw[h1,h2];rfl
set_option maxRecDepth 100000 in
theorem qNm:joinedFacts Tryz.prog 3 Tryz.f3 Rows.topFairSpec Rows.topFairRow=true:=by
 unfold joinedFacts;exact(xQ (xQ (xQ (xQ (xQ (xQ (xQ (xQ (xQ (xQ (xQ (xQ (xQ (xQ (xQ (xQ (xQ (xQ (xQ (xQ (xQ (xQ (xQ (xQ (xQ (xQ (xQ (xQ (xQ (xQ (xQ jPx jPw) jPv) jPu) jPt) O3) O3) O3) O3) jPs) jPr) jPq) jPp) O3) O3) O3) O3) O3) O3) O3) O3) O3) jPo) O3) O3) O3) O3) O3) O3) O3) O3) O3)
theorem qSo:Rows.TopFairSaid:=
 OpenClaim.holds_of_wide 3 Tryz.f3 O O O O O O O ⟨O,O,O,O,O⟩ O O O O O jf_a20 func3 qNm
  jPn (by unfold Func.isWrapper;first|(rw[if_pos (by decide+kernel)];kernel_rfl)|(rw[if_neg (by decide+kernel)];exact⟨O,O⟩))
  (fun os started H enc _=>qL8 os started H enc)
theorem topFair_proved:Rows.TopFairCardSaid:=
 Claim7.holds_tied_plain_at .later [] [.data,.data,.data,.data,.data,.data,.pinned] true (true, "e89e871c736305d361c85978f457fe638a313a1ec54ce59abeb776cd9c314d45") false
  qSo (fun _ h=>by cases h) jPm (fun _ h=>by cases h) topFair_row_tie O ⟨O,O⟩ jPj O
  (fun f fn hf oC=>by
   obtain rfl:f=3:=gM (jf_a20.symm.trans hf)|>.symm;obtain rfl:fn=Tryz.f3:=(gM (func3.symm.trans oC)).symm
   exact⟨jPk,fun j t ht=>by
    rw[Tryz.params3] at ht;rcases j with _|j
    ·obtain rfl:t=22:=by simpa using ht.symm
     exact mEr
    rcases j with _|j
    ·obtain rfl:t=22:=by simpa using ht.symm
     exact mEr
    simp at ht
   ⟩)
  jPl
#print axioms topFair_proved
end Go.Proofs.YtplkndjlfkkjlaaGreatDoor
