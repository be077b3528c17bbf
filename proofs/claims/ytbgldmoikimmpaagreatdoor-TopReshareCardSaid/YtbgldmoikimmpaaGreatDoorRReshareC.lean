/- For every input the law TopReshare returns true and its arguments read as before, with the listed tables tied to the program's text; no conditions beyond the given statement's own. -/
import Derived.Test.YtbgldmoikimmpaaGreatDoorQ9
import Derived.SevenTiedAt
namespace Go.Proofs.YtbgldmoikimmpaaGreatDoor
open Go.Eng Go.ChangeShapes Go.WideShapes Go.ChangeAt Go.RowKit
set_option maxRecDepth 100000 in
theorem qCp (os:Os) (started:os.Started) (H:Type) (enc:TypeId × Value→H) :
  ReturnsInHanded {} Tryz.checked os 3 .any (fun w args=>(Rows.topReshareSpec.pre enc Tryz.prog Tryz.f3 Rows.topReshareRow.domain false w args∧laidMetH Tryz.prog Rows.topReshareRow.laid w)∧sizedMet enc Tryz.prog Tryz.f3 (OpenSpec.ofChange Rows.topReshareSpec) false w args)
   (Rows.topReshareSpec.post enc Tryz.prog Tryz.f3 false true false false):=by
 refine returnsInHanded_of_change_and (C:=Tryz.checked) (X:=fun w _=>laidMetH Tryz.prog Rows.topReshareRow.laid w) (fun _ _ _ hh h=>h.of_heap hh) jCt started (by kernel_rfl) Tryz.func3
  (ChangeSpec.witness_at (enc:=enc) (C:=Tryz.checked) (os:=os) (X:=fun w _=>laidMetH Tryz.prog Rows.topReshareRow.laid w) false (qGv os) #[.slice none 0 0,.slice none 0 0,.int .i64 0] 8 rfl (by kernel_rfl) (by kernel_rfl) (by kernel_rfl) (by kernel_rfl) (by kernel_rfl) (qGb os _)) ?_
 intro W base args ds gs before hval hW _ hsz hX _
 have hW':=hW
 obtain ⟨p,q,hA0,hV,rfl,hfz,hnd⟩:=hW
 have hA:DataW.TrodAll enc Tryz.prog W 0 (fun _=>true) true Tryz.f3.params.toList args.toList ds p:=hA0
 rw [Tryz.params3] at hA
 obtain ⟨v0,v1,v2,d0,d1,d2,p0,p1,p2,rfl,rfl,rfl,h0,h1,h2⟩:=trodAll_three hA
 obtain ⟨rfl,rfl⟩:=trodVars_none hV
 have hval':∀ (j:Nat) t v,Tryz.f3.params[j]? = some t→(#[v0,v1,v2]:Array Value)[j]? = some v→Value.okWide Tryz.prog W .any base t v:=hval
 rw [Tryz.params3] at hval'
 have hsz':(DataW.weightsEach Tryz.prog (Tryz.f3.params.toList ++ []) ([d0,d1,d2] ++ [])).all (·≤reachBytes) = true:=hsz
 rw [Tryz.params3,List.append_nil,List.append_nil] at hsz'
 obtain ⟨f0,h0⟩:=h0
 obtain ⟨s,c,l,e0,hl0,hs0⟩:=qT1 h0
 have hv0:=qAx Tryz.underlying22 (hval' 0 22 v0 rfl rfl) e0
 obtain ⟨f1,h1⟩:=h1
 obtain ⟨s1,c1,l1,e1,hl1,hs1⟩:=qLs h1
 have hv1:=qAx Tryz.underlying23 (hval' 1 23 v1 rfl rfl) e1
 obtain ⟨n2,hv2,_,_,hw2⟩:=open_int Tryz.underlying3 (hval' 2 3 v2 rfl rfl) h2
 have m2a:IntKind.i64.min = -9223372036854775808:=by decide
 have m2b:IntKind.i64.max = 9223372036854775807:=by decide
 simp only [Lit.wf,Bool.and_eq_true,decide_eq_true_eq,m2a,m2b] at hw2
 subst hv0 hv1 hv2
 refine Calls.mono (p3 (fun w h=>p4 w h) l l1 n2 s s1 c c1 W (qHf hX) hs0 hs1 hl0 hl1 hw2.1 hw2.2) fun e W' ⟨v,he,hv,hk⟩=>?_
 subst hv
 exact ⟨_,he,qN9 hW' rfl (by kernel_rfl) (fun t ht=>by
  rw [show Tryz.f3.params.toList = [22,23,3] from by rw [Tryz.params3]] at ht
  simp only [List.mem_cons,List.mem_nil_iff,or_false] at ht
  rcases ht with rfl|rfl|rfl
  ·exact ⟨by kernel_rfl,of_decide_eq_true (by kernel_rfl)⟩
  ·exact ⟨by kernel_rfl,of_decide_eq_true (by kernel_rfl)⟩
  ·exact ⟨by kernel_rfl,of_decide_eq_true (by kernel_rfl)⟩) rfl rfl rfl hk⟩
theorem xI {a b:Bool} (h1:a = true) (h2:b = true):(a && b) = true:=by rw [h1,h2];rfl
set_option maxRecDepth 100000 in
theorem qDi:joinedFacts Tryz.prog 3 Tryz.f3 Rows.topReshareSpec Rows.topReshareRow = true:=by
 unfold joinedFacts
 exact (xI (xI (xI (xI (xI (xI (xI (xI (xI (xI (xI (xI (xI (xI (xI (xI (xI (xI (xI (xI (xI (xI (xI (xI (xI (xI (xI (xI (xI (xI (xI qWw qWv) qWu) qWt) qWs) (by kernel_rfl)) (by kernel_rfl)) (by kernel_rfl)) (by kernel_rfl)) qWr) qWq) qWp) qWo) (by kernel_rfl)) (by kernel_rfl)) (by kernel_rfl)) (by kernel_rfl)) (by kernel_rfl)) (by kernel_rfl)) (by kernel_rfl)) (by kernel_rfl)) (by kernel_rfl)) qWn) (by kernel_rfl)) (by kernel_rfl)) (by kernel_rfl)) (by kernel_rfl)) (by kernel_rfl)) (by kernel_rfl)) (by kernel_rfl)) (by kernel_rfl)) (by kernel_rfl))
theorem qEu:Rows.TopReshareSaid:=
 OpenClaim.holds_of_wide 3 Tryz.f3 rfl rfl rfl rfl rfl rfl rfl ⟨rfl,rfl,rfl,rfl,rfl⟩ rfl rfl rfl rfl rfl jf_a20 Tryz.func3 qDi
  qWm (by unfold Func.isWrapper;first|(rw [if_pos (by decide +kernel)];kernel_rfl)|(rw [if_neg (by decide +kernel)];exact ⟨rfl,rfl⟩))
  (fun os started H enc _=>qCp os started H enc)
theorem topReshare_proved:Rows.TopReshareCardSaid:=
 Claim7.holds_tied_plain_at .later [] [.data, .data, .data, .data, .data, .data, .pinned] true (true, "78d2b33d4299b13d6ddb0f511c64c1c8b6f7d66faeeaa35cb34eb636de0ec4f6") false
  qEu (fun _ h=>by cases h) qWl (fun _ h=>by cases h) topReshare_row_tie rfl ⟨rfl,rfl⟩ qWi rfl
  (fun f fn hf hfn=>by
   obtain rfl:f = 3:=Option.some.inj (jf_a20.symm.trans hf) |>.symm
   obtain rfl:fn = Tryz.f3:=(Option.some.inj (Tryz.func3.symm.trans hfn)).symm
   exact ⟨qWj,fun j t ht=>by
    rw [Tryz.params3] at ht
    rcases j with _|j
    ·obtain rfl:t = 22:=by simpa using ht.symm
     exact (show Tryz.prog.wantsStandIn 22 = false by kernel_rfl)
    ·rcases j with _|j
     ·obtain rfl:t = 23:=by simpa using ht.symm
      exact (show Tryz.prog.wantsStandIn 23 = false by kernel_rfl)
     ·rcases j with _|j
      ·obtain rfl:t = 3:=by simpa using ht.symm
       exact (show Tryz.prog.wantsStandIn 3 = false by kernel_rfl)
      ·simp at ht
   ⟩)
  qWk
#print axioms topReshare_proved
end Go.Proofs.YtbgldmoikimmpaaGreatDoor
