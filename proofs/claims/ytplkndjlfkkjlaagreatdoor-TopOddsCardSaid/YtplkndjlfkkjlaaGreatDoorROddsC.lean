/- For every input the law TopOdds returns true and its arguments read as before, with the listed tables tied to the program's text; no conditions beyond the given statement's own. -/
import Derived.Test.YtplkndjlfkkjlaaGreatDoorP10
import Derived.Test.YtplkndjlfkkjlaaGreatDoorP11
import Derived.Test.YtplkndjlfkkjlaaGreatDoorP8
import Derived.Test.YtplkndjlfkkjlaaGreatDoorP9
import Derived.SevenTiedAt
namespace Go.Proofs.YtplkndjlfkkjlaaGreatDoor
open Go.Proofs.Tryz
open Go.Eng Go.ChangeShapes Go.WideShapes Go.ChangeAt Go.RowKit
set_option maxRecDepth 100000 in
theorem zJy(os:Os)(started:os.Started)(H:Type)(enc:TypeId×Value→H):
  ReturnsInHanded {} Tryz.checked os 4 .any (fun w args=>(Rows.topOddsSpec.pre enc Tryz.prog Tryz.f4 Rows.topOddsRow.domain false w args∧laidMetH Tryz.prog Rows.topOddsRow.laid w)∧sizedMet enc Tryz.prog Tryz.f4 (OpenSpec.ofChange Rows.topOddsSpec) false w args)
   (Rows.topOddsSpec.post enc Tryz.prog Tryz.f4 false true false false):=by
 refine returnsInHanded_of_change_and (C:=Tryz.checked) (X:=fun w _=>laidMetH Tryz.prog Rows.topOddsRow.laid w) (fun _ _ _ hh h=>h.of_heap hh) zCv started O3 func4
  (ChangeSpec.witness_at (enc:=enc) (C:=Tryz.checked) (os:=os) (X:=fun w _=>laidMetH Tryz.prog Rows.topOddsRow.laid w) false (qOx os) #[.agg #[Zs,Zs]] 8 O O3 O3 O3 O3 O3 (qO1 os _)) ?_
 intro W base args ds gs before x0 hW _ ha hX _;have dk:=hW;obtain⟨p,q,rm,hV,rfl,dm,df⟩:=hW;have hA:DataW.TrodAll enc Tryz.prog W 0 (fun _=>true) true Tryz.f4.params.toList args.toList ds p:=rm;rw[Tryz.params4] at hA;obtain⟨v0,d0,rfl,rfl,h0⟩:=trodAll_one hA;obtain⟨rfl,rfl⟩:=trodVars_none hV;have hj:∀(j:Nat) t v,Tryz.f4.params[j]? =some t→(#[v0]:Array Value)[j]? =some v→Value.okWide Tryz.prog W .any base t v:=x0;rw[Tryz.params4] at hj;have hg:(DataW.weightsEach Tryz.prog (Tryz.f4.params.toList++[]) ([d0]++[])).all (·≤reachBytes)=true:=ha;rw[Tryz.params4,bO,bO] at hg;obtain⟨f0,h0⟩:=h0;obtain⟨s,c,s',c',l,l',e0,⟨zg,hs0⟩,dr,hq⟩:=zOi h0;have eH:=jLp e0 (by show 2≤2;omega);subst eH;refine Ns (q4 l l' s s' c c' W (qPy hX) hs0 hq zg dr) fun e W' ⟨v,he,hv,hk⟩=>?_
 subst hv
 exact⟨_,he,jAv dk O O3 (fun t ht=>by
  rw[show Tryz.f4.params.toList=[57] from by rw[Tryz.params4]] at ht;simp only[aP,mJ,HA] at ht;rcases ht with rfl
  exact⟨O3,mV O3⟩) O O O hk⟩
theorem xQ{a b:Bool}(h1:a=true)(h2:b=true):(a&&b)=true:=by rw[h1,h2];rfl
set_option maxRecDepth 100000 in
theorem zK3:joinedFacts Tryz.prog 4 Tryz.f4 Rows.topOddsSpec Rows.topOddsRow=true:=by
 unfold joinedFacts;exact(xQ (xQ (xQ (xQ (xQ (xQ (xQ (xQ (xQ (xQ (xQ (xQ (xQ (xQ (xQ (xQ (xQ (xQ (xQ (xQ (xQ (xQ (xQ (xQ (xQ (xQ (xQ (xQ (xQ (xQ (xQ jPx jPw) jPv) jPu) jPt) O3) O3) O3) O3) jPs) jPr) jPq) jPp) O3) O3) O3) O3) O3) O3) O3) O3) O3) jPo) O3) O3) O3) O3) O3) O3) O3) O3) O3)
theorem zL4:Rows.TopOddsSaid:=
 OpenClaim.holds_of_wide 4 Tryz.f4 O O O O O O O ⟨O,O,O,O,O⟩ O O O O O jf_a20 func4 zK3
  jPn (by unfold Func.isWrapper;first|(rw[if_pos (by decide+kernel)];kernel_rfl)|(rw[if_neg (by decide+kernel)];exact⟨O,O⟩))
  (fun os started H enc _=>zJy os started H enc)
theorem topOdds_proved:Rows.TopOddsCardSaid:=
 Claim7.holds_tied_plain_at .later [] [.data,.data,.data,.data,.data,.data,.pinned] true (true, "e89e871c736305d361c85978f457fe638a313a1ec54ce59abeb776cd9c314d45") false
  zL4 (fun _ h=>by cases h) jPm (fun _ h=>by cases h) topOdds_row_tie O ⟨O,O⟩ jPj O
  (fun f fn hf rb=>by
   obtain rfl:f=4:=lI (jf_a20.symm.trans hf)|>.symm;obtain rfl:fn=Tryz.f4:=(lI (func4.symm.trans rb)).symm
   exact⟨jPk,fun j t ht=>by
    rw[Tryz.params4] at ht;rcases j with _|j
    ·obtain rfl:t=57:=by simpa using ht.symm
     exact(show Tryz.prog.wantsStandIn 57=false by kernel_rfl)
    simp at ht
   ⟩)
  jPl
#print axioms topOdds_proved
end Go.Proofs.YtplkndjlfkkjlaaGreatDoor
