/- Merged texts of ours: EngA EngB EngC EngD EngE EngM EngF EngG EngH EngI EngJ Ty EngK; conditions are the hypotheses of each law. -/
import Derived.WalkKit
import Derived.Orders
import Derived.TacticsIn
import Derived.Sort.LoopGhostIn
import Derived.Maps.RangeRun
import Derived.Laws.BytesString
import Derived.Test.YtbgldmoikimmpaaGreatDoorProg
import Derived.KernelRfl
namespace Go.Eng
def jZ:Op→Bool
 | .move _|.assign _|.pick ..|.fieldAddr ..|.field ..|.load ..|.nilCheck _|.binOp ..|.unOp ..|.convert ..|.makeInterface ..
 | .makeFunc ..|.slice ..|.indexAddr ..|.index ..|.extract ..|.lookup ..|.build ..=>false
 | .call c=>match c.callee with|.builtin .len|.builtin .min|.builtin .max|.builtin .cap=>false|_=>true
 | _=>true
def qFd:Op→Bool
 | .select ..=>false
 | _=>true
def Step (P:Program) (o:Oper) (a:Act) (w:World) (R:Value→World→Prop):Prop:=
 (∃ v w',(execOp a.eval o).run P w = .ok (.value v) w'∧R v w') ∨
 (∃ w',(execOp a.eval o).run P w = .ok .skip w'∧R undef w') ∨
 (∃ f args w1,(execOp a.eval o).run P w = .ok (.enter f args) w1∧Calls P f args w1 (fun e w'=>∃ v,e = .returned v∧R v w'))
theorem Step.mono {P:Program} {o:Oper} {a:Act} {w:World} {R R':Value→World→Prop} (h:Step P o a w R) (hr:∀ v w',R v w'→R' v w'):Step P o a w R':=by
 rcases h with ⟨v,w',h1,h2⟩|⟨w',h1,h2⟩|⟨f,args,w1,h1,h2⟩
 ·exact .inl ⟨v,w',h1,hr _ _ h2⟩
 ·exact .inr (.inl ⟨w',h1,hr _ _ h2⟩)
 ·exact .inr (.inr ⟨f,args,w1,h1,h2.mono fun e w' ⟨v,he,hv⟩=>⟨v,he,hr _ _ hv⟩⟩)
theorem Step.out {P:Program} {o:Oper} {a:Act} {w:World} {R:Value→World→Prop} (h:Step P o a w R):∃ v w',R v w':=by
 rcases h with ⟨v,w',_,h2⟩|⟨w',_,h2⟩|⟨f,args,w1,_,h2⟩
 ·exact ⟨v,w',h2⟩
 ·exact ⟨_,w',h2⟩
 ·obtain ⟨e,w',fr,⟨v,_,hv⟩,_⟩:=h2 []
  exact ⟨v,w',hv⟩
theorem Step.congr {P:Program} {o:Oper} {a a':Act} {w:World} {R:Value→World→Prop} (he:execOp a'.eval o = execOp a.eval o) (h:Step P o a w R):Step P o a' w R:=by
 unfold Step at *
 rw [he]
 exact h
theorem Step.wp {P:Program} {o:Oper} {a:Act} {w:World} {R:Value→World→Prop} {K:Act→World→Prop} {Q:Exit→Act→World→Prop} (h:Step P o a w R)
  (hk:∀ v w',R v w'→K (a.put o.dst v) w'):o.wp P a w K Q:=by
 unfold Oper.wp
 rcases h with ⟨v,w',h1,h2⟩|⟨w',h1,h2⟩|⟨f,args,w1,h1,h2⟩
 ·rw [h1];exact hk _ _ h2
 ·rw [h1];exact hk _ _ h2
 ·rw [h1]
  exact h2.mono fun e w' ⟨v,he,hv⟩=>by subst he;exact hk _ _ hv
def YV (P:Program) (ops:Array Oper) (G:World→Prop) (o:Oper) (a:Act) (v:Value):Prop:=
 (Region.wanted o (yielded ops a.tmps) = true∧∀ w,G w→(execOp a.eval o).run P w = .ok (.value v) w) ∨
 (Region.wanted o (yielded ops a.tmps) = false∧v = undef)
theorem YV.congr {P:Program} {ops:Array Oper} {G:World→Prop} {o:Oper} {a a':Act} {v:Value} (he:execOp a'.eval o = execOp a.eval o)
  (hw:Region.wanted o (yielded ops a'.tmps) = Region.wanted o (yielded ops a.tmps)) (h:YV P ops G o a v):YV P ops G o a' v:=by
 unfold YV at *
 rw [he,hw]
 exact h
theorem YV.uniq {P:Program} {ops:Array Oper} {G:World→Prop} {o:Oper} {a:Act} {v v':Value} {w:World} (hw:G w) (h:YV P ops G o a v) (h':YV P ops G o a v'):v = v':=by
 rcases h with ⟨h1,h2⟩|⟨h1,h2⟩<;>rcases h' with ⟨h3,h4⟩|⟨h3,h4⟩
 ·have e1:=h2 w hw
  have e2:=h4 w hw
  rw [e1] at e2
  simpa using e2
 ·rw [h1] at h3;cases h3
 ·rw [h1] at h3;cases h3
 ·rw [h2,h4]
def EffStep (P:Program) (ops:Array Oper) (o:Oper) (a:Act) (w:World) (K:Act→World→Prop):Prop:=
 (Region.wanted o (yielded ops a.tmps) = true→Step P o a w (fun v w'=>K (a.put o.dst v) w')) ∧
 (Region.wanted o (yielded ops a.tmps) = false→K (a.put o.dst undef) w)
theorem EffStep.mono {P:Program} {ops:Array Oper} {o:Oper} {a:Act} {w:World} {K K':Act→World→Prop} (h:EffStep P ops o a w K) (hk:∀ a w,K a w→K' a w):EffStep P ops o a w K':=
 ⟨fun hw=>(h.1 hw).mono fun _ _=>hk _ _,fun hw=>hk _ _ (h.2 hw)⟩
def wl (P:Program):Op→Bool
 | .move _|.assign _=>true
 | .fieldAddr s _ i=>match P.underlying s with
  | some (.struct fs)=>match fs[i]? with
   | some f=>match (P.info? f.type).map (·.size) with
    | some (_ + 1)=>true
    | _=>false
   | none=>false
  | _=>false
 | .indexAddr t _ _=>match P.underlying t with
  | some (.slice e)=>(P.info? e).isSome
  | _=>false
 | _=>false
theorem qJy {P:Program} {ρ:Operand→Value} {o:Oper} {w w':World} {v:Value} (h:wl P o.op = true) (hr:(execOp ρ o).run P w = .ok (.value v) w):(execOp ρ o).run P w' = .ok (.value v) w':=by
 cases o with
 | mk dst op ty pos aft g=>
  cases op<;>first|(cases h;done)|skip
  ·simpa [execOp] using hr
  ·simpa [execOp] using hr
  ·rename_i s x i
   simp only [wl] at h
   split at h
   ·rename_i fs hfs
    split at h
    ·rename_i f hf
     split at h
     ·rename_i k hk
      have hsz:∀ w,(sizeOf f.type).run P w = .ok (k + 1) w:=by
       intro w
       cases hi:P.info? f.type with
       | none=>simp [hi] at hk
       | some inf=>simp [hi] at hk;simp [sizeOf,typeInfo,hi,hk]
      have hu:∀ w,(underlying s).run P w = .ok (.struct fs) w:=fun w=>by simp [underlying,hfs]
      simp only [execOp,Instr.fieldAt,Sem.run_bind,hu,Result.andThen_ok,hf] at hr ⊢
      cases hx:ρ x with
      | pointer a=>
       cases a with
       | none=>simp [hx,Instr.sureAddr] at hr
       | some a=>
        simp [hx,Instr.sureAddr,fieldPlace,hsz] at hr ⊢
        exact hr
      | _=>simp [hx,Instr.sureAddr] at hr
     ·cases h
    ·cases h
   ·cases h
  ·rename_i t x y
   simp only [wl] at h
   split at h
   ·rename_i e he
    obtain ⟨inf,hinf⟩:=Option.isSome_iff_exists.1 h
    have hsz:∀ w,(sizeOf e).run P w = .ok inf.size w:=fun w=>by simp [sizeOf,typeInfo,hinf]
    have hu:∀ w,(underlying t).run P w = .ok (.slice e) w:=fun w=>by simp [underlying,he]
    simp only [execOp,Instr.indexAt,Sem.run_bind] at hr ⊢
    cases hy:ρ y with
    | int k i=>
     cases hx:ρ x with
     | slice b m c=>
      cases b with
      | none=>
       simp [hy,hx,asIntOf,hu,boundsPanic,runtimePanic] at hr
       split at hr<;>(try split at hr)<;>cases hr
      | some a=>
       by_cases hb:0≤i∧i < m
       ·simp [hy,hx,asIntOf,hu,hsz,hb] at hr ⊢
        exact hr
       ·simp [hy,hx,asIntOf,hu,hb,boundsPanic,runtimePanic] at hr
        split at hr<;>(try split at hr)<;>cases hr
     | _=>simp [hy,hx,asIntOf,hu] at hr
    | pointer p=>cases p<;>simp [hy,asIntOf] at hr
    | _=>simp [hy,asIntOf] at hr
   ·cases h
def wpD (P:Program) (ops:Array Oper) (nd:Oper→Bool) (G:World→Prop) (K:Act→World→Prop):List Oper→Act→World→Prop
 | [],a,w=>K a w
 | o :: rest,a,w=>
  if jZ o.op then EffStep P ops o a w (fun a' w'=>(nd o = true→G w')∧wpD P ops nd G K rest a' w')
  else ∃ v,YV P ops G o a v∧wpD P ops nd G K rest (a.put o.dst v) w
def jJ (ops:Array Oper) (i:Nat):Oper:=ops.getD i default
def wV (ops:Array Oper) (p i:Oper):Bool:=p.apart ops i && !(jZ p.op && jZ i.op) && qFd p.op && qFd i.op
section
variable {P:Program} {ops:Array Oper} {nd:Oper→Bool} {G:World→Prop} {K:Act→World→Prop}
theorem qHi {o:Oper} (h:qFd o.op = true):∀ cs b,o.op ≠ .select cs b:=by
 intro cs b e
 rw [e] at h
 cases h
theorem qZi {wG:World} (hwG:G wG) (i:Nat):∀ (l:List Nat) (a:Act) (w:World),wpD P ops nd G K (l.map (jJ ops)) a w→i ∈ l→l.Pairwise (· < ·) →
  (∀ j ∈ l,j < i→wV ops (jJ ops j) (jJ ops i) = true) →
  if jZ (jJ ops i).op then EffStep P ops (jJ ops i) a w (fun a' w'=>(nd (jJ ops i) = true→G w')∧wpD P ops nd G K ((l.filter (· != i)).map (jJ ops)) a' w')
  else ∃ v,YV P ops G (jJ ops i) a v∧wpD P ops nd G K ((l.filter (· != i)).map (jJ ops)) (a.put (jJ ops i).dst v) w:=by
 intro l
 induction l with
 | nil=>intro a w _ h;cases h
 | cons p rest ih=>
  intro a w h hi hs hok
  obtain ⟨hs1,hs2⟩:=List.pairwise_cons.1 hs
  by_cases hp:p = i
  ·subst hp
   have hf:(p :: rest).filter (· != p) = rest:=by
    rw [List.filter_cons]
    simp only [bne_self_eq_false,Bool.false_eq_true,if_false]
    rw [List.filter_eq_self]
    intro x hx
    have:=hs1 x hx
    simp
    omega
   rw [hf]
   simpa [wpD] using h
  ·have hir:i ∈ rest:=by
    rcases List.mem_cons.1 hi with e|e
    ·exact absurd e.symm hp
    ·exact e
   have hlt:p < i:=hs1 i hir
   have hpi:=hok p (by simp) hlt
   have hrest:∀ j ∈ rest,j < i→wV ops (jJ ops j) (jJ ops i) = true:=fun j hj=>hok j (by simp [hj])
   have hf:(p :: rest).filter (· != i) = p :: rest.filter (· != i):=by
    rw [List.filter_cons,if_pos (by simpa using hp)]
   rw [hf,List.map_cons]
   simp only [wV,Bool.and_eq_true,Bool.not_eq_true',Bool.and_eq_false_iff] at hpi
   obtain ⟨⟨⟨hap,heff⟩,hsp⟩,hsi⟩:=hpi
   obtain ⟨h1,h2,h3⟩:=Oper.apart_spec hap
   have ei:∀ (a:Act) (v:Value),execOp (a.put (jJ ops p).dst v).eval (jJ ops i) = execOp a.eval (jJ ops i):=fun a v=>execOp_put _ (qHi hsi) a _ v h1
   have ep:∀ (a:Act) (v:Value),execOp (a.put (jJ ops i).dst v).eval (jJ ops p) = execOp a.eval (jJ ops p):=fun a v=>execOp_put _ (qHi hsp) a _ v h3
   have wi:∀ (a:Act) (v:Value),Region.wanted (jJ ops i) (yielded ops (a.put (jJ ops p).dst v).tmps) = Region.wanted (jJ ops i) (yielded ops a.tmps):=fun a v=>wanted_put _ a _ v h1
   have wq:∀ (a:Act) (v:Value),Region.wanted (jJ ops p) (yielded ops (a.put (jJ ops i).dst v).tmps) = Region.wanted (jJ ops p) (yielded ops a.tmps):=fun a v=>wanted_put _ a _ v h3
   have hc:∀ (a:Act) (v u:Value),(a.put (jJ ops p).dst v).put (jJ ops i).dst u = (a.put (jJ ops i).dst u).put (jJ ops p).dst v:=fun a v u=>Act.put_comm a v u h2
   rw [List.map_cons] at h
   by_cases hpe:jZ (jJ ops p).op = true
   ·
    have hie:jZ (jJ ops i).op = false:=by
     rcases heff with e|e
     ·rw [hpe] at e;cases e
     ·exact e
    rw [if_neg (by rw [hie];simp)]
    simp only [wpD,hpe,if_true] at h
    have key:∀ u w',wpD P ops nd G K (rest.map (jJ ops)) (a.put (jJ ops p).dst u) w'→∃ v,YV P ops G (jJ ops i) a v∧wpD P ops nd G K ((rest.filter (· != i)).map (jJ ops)) ((a.put (jJ ops p).dst u).put (jJ ops i).dst v) w':=by
     intro u w' hr
     have:=ih _ _ hr hir hs2 hrest
     rw [if_neg (by rw [hie];simp)] at this
     obtain ⟨v,hv,hr'⟩:=this
     exact ⟨v,hv.congr (ei a u).symm (wi a u).symm,hr'⟩
    have hex:∃ v,YV P ops G (jJ ops i) a v:=by
     cases hwp:Region.wanted (jJ ops p) (yielded ops a.tmps)
     ·obtain ⟨_,hr⟩:=h.2 hwp
      obtain ⟨v,hv,_⟩:=key _ _ hr
      exact ⟨v,hv⟩
     ·obtain ⟨u,w',_,hr⟩:=(h.1 hwp).out
      obtain ⟨v,hv,_⟩:=key _ _ hr
      exact ⟨v,hv⟩
    obtain ⟨v,hv⟩:=hex
    refine ⟨v,hv,?_⟩
    simp only [wpD,hpe,if_true]
    have key2:∀ u w',((nd (jJ ops p) = true→G w')∧wpD P ops nd G K (rest.map (jJ ops)) (a.put (jJ ops p).dst u) w') →
      (nd (jJ ops p) = true→G w')∧wpD P ops nd G K ((rest.filter (· != i)).map (jJ ops)) ((a.put (jJ ops i).dst v).put (jJ ops p).dst u) w':=by
     rintro u w' ⟨hg',hr⟩
     obtain ⟨v',hv',hr'⟩:=key _ _ hr
     have:=hv.uniq hwG hv'
     subst this
     rw [hc] at hr'
     exact ⟨hg',hr'⟩
    refine ⟨fun hw=>?_,fun hw=>?_⟩
    ·rw [wq] at hw
     exact ((h.1 hw).congr (ep a v)).mono fun u w' hh=>key2 u w' hh
    ·rw [wq] at hw
     exact key2 _ _ (h.2 hw)
   ·
    have hpe':jZ (jJ ops p).op = false:=by simpa using hpe
    simp only [wpD,hpe',Bool.false_eq_true,if_false] at h
    obtain ⟨vp,hvp,hr⟩:=h
    have hh:=ih _ _ hr hir hs2 hrest
    by_cases hie:jZ (jJ ops i).op = true
    ·rw [if_pos hie] at hh ⊢
     have key:∀ u w',((nd (jJ ops i) = true→G w')∧wpD P ops nd G K ((rest.filter (· != i)).map (jJ ops)) ((a.put (jJ ops p).dst vp).put (jJ ops i).dst u) w') →
       (nd (jJ ops i) = true→G w')∧wpD P ops nd G K (jJ ops p :: (rest.filter (· != i)).map (jJ ops)) (a.put (jJ ops i).dst u) w':=by
      rintro u w' ⟨hg',hr'⟩
      refine ⟨hg',?_⟩
      simp only [wpD,hpe',Bool.false_eq_true,if_false]
      rw [hc] at hr'
      exact ⟨vp,hvp.congr (ep a u) (wq a u),hr'⟩
     refine ⟨fun hw=>?_,fun hw=>?_⟩
     ·exact ((hh.1 (by rw [wi];exact hw)).congr (ei a vp).symm).mono fun u w' hx=>key u w' hx
     ·exact key _ _ (hh.2 (by rw [wi];exact hw))
    ·rw [if_neg hie] at hh ⊢
     obtain ⟨v,hv,hr'⟩:=hh
     refine ⟨v,hv.congr (ei a vp).symm (wi a vp).symm,?_⟩
     simp only [wpD,hpe',Bool.false_eq_true,if_false]
     rw [hc] at hr'
     exact ⟨vp,hvp.congr (ep a v) (wq a v),hr'⟩
def uH (P:Program) (ops:Array Oper) (nd:Oper→Bool):Bool:=
 (List.range ops.size).all fun i=>(jJ ops i).after.all (fun e=>!Region.binds .any e || decide (e.on < i)) &&
  (!jZ (jJ ops i).op || nd (jJ ops i) || (List.range ops.size).all fun j=>jZ (jJ ops j).op || wl P (jJ ops j).op || ((Region.before ops).getD i 0).testBit j) &&
  (List.range i).all fun j=>((Region.before ops).getD i 0).testBit j || wV ops (jJ ops j) (jJ ops i)
def vZ (acc:Array Nat) (o:Oper):Array Nat:=acc.push (o.after.foldl (fun s e=>if Region.binds .any e then s ||| 2 ^ e.on ||| acc.getD e.on 0 else s) 0)
theorem qH2 (acc:Array Nat) (j:Nat):∀ (l:List Edge) (s:Nat),(l.foldl (fun s e=>if Region.binds .any e then s ||| 2 ^ e.on ||| acc.getD e.on 0 else s) s).testBit j = true →
  s.testBit j = true∨∃ e ∈ l,Region.binds .any e = true∧(e.on = j∨(acc.getD e.on 0).testBit j = true)
 | [],s,h=>.inl h
 | e :: l,s,h=>by
  simp only [List.foldl_cons] at h
  rcases qH2 acc j l _ h with h'|⟨e',he',hb,hh⟩
  ·by_cases hb:Region.binds .any e = true
   ·rw [if_pos hb] at h'
    simp only [Nat.testBit_or,Bool.or_eq_true] at h'
    rcases h' with (h'|h')|h'
    ·exact .inl h'
    ·refine .inr ⟨e,by simp,hb,.inl ?_⟩
     rw [Nat.testBit_two_pow] at h'
     simpa using h'
    ·exact .inr ⟨e,by simp,hb,.inr h'⟩
   ·rw [if_neg hb] at h'
    exact .inl h'
  ·exact .inr ⟨e',by simp [he'],hb,hh⟩
theorem qIj:∀ (l:List Oper) (acc:Array Nat) (k:Nat),k < acc.size→(l.foldl vZ acc).getD k 0 = acc.getD k 0
 | [],_,_,_=>rfl
 | o :: l,acc,k,hk=>by
  rw [List.foldl_cons,qIj l _ k (by simp [vZ];omega)]
  simp only [vZ,Array.getD_eq_getD_getElem?,Array.getElem?_push]
  rw [if_neg (by omega)]
theorem qMr:∀ (l:List Oper) (acc:Array Nat) (k:Nat) (o:Oper) (j:Nat),l[k]? = some o→((l.foldl vZ acc).getD (acc.size + k) 0).testBit j = true →
  ∃ e ∈ o.after.toList,Region.binds .any e = true∧(e.on = j∨((l.foldl vZ acc).getD e.on 0).testBit j = true)
 | [],_,_,_,_,h,_=>by simp at h
 | x :: l,acc,0,o,j,h,hb=>by
  have hx:x = o:=by simpa using h
  subst hx
  have h0:((x :: l).foldl vZ acc).getD (acc.size + 0) 0 = x.after.foldl (fun s e=>if Region.binds .any e then s ||| 2 ^ e.on ||| acc.getD e.on 0 else s) 0:=by
   rw [List.foldl_cons,qIj l _ _ (by simp [vZ])]
   simp [vZ,Array.getD_eq_getD_getElem?]
  rw [h0,← Array.foldl_toList] at hb
  rcases qH2 acc j _ _ hb with h'|⟨e,he,hbd,hh⟩
  ·simp at h'
  ·refine ⟨e,he,hbd,hh.imp id fun hh=>?_⟩
   by_cases hlt:e.on < acc.size
   ·rw [qIj (x :: l) acc e.on hlt]
    exact hh
   ·rw [Array.getD_eq_getD_getElem?,Array.getElem?_eq_none (by omega)] at hh
    simp at hh
 | x :: l,acc,k + 1,o,j,h,hb=>by
  rw [List.foldl_cons] at hb ⊢
  have hsz:(vZ acc x).size = acc.size + 1:=by simp [vZ]
  have:=qMr l (vZ acc x) k o j (by simpa using h) (by rw [hsz];rw [show acc.size + 1 + k = acc.size + (k + 1) from by omega];exact hb)
  exact this
theorem qNs (ops:Array Oper):Region.before ops = ops.toList.foldl vZ #[]:=by
 unfold Region.before
 rw [← Array.foldl_toList]
 rfl
theorem vH {ops:Array Oper} {i j:Nat} (hi:i < ops.size) (h:((Region.before ops).getD i 0).testBit j = true) :
  ∃ e ∈ (jJ ops i).after.toList,Region.binds .any e = true∧(e.on = j∨((Region.before ops).getD e.on 0).testBit j = true):=by
 rw [qNs] at h ⊢
 have ho:ops.toList[i]? = some (jJ ops i):=by
  simp [jJ,Array.getElem?_eq_getElem hi]
 have:=qMr ops.toList #[] i (jJ ops i) j ho (by simpa using h)
 exact this
theorem yJ {P:Program} {ops:Array Oper} {nd:Oper→Bool} (h:uH P ops nd = true) {i:Nat} (hi:i < ops.size):∀ e ∈ (jJ ops i).after.toList,Region.binds .any e = true→e.on < i:=by
 intro e he hb
 simp only [uH,List.all_eq_true,Bool.and_eq_true] at h
 have h1:=(h i (by simpa using hi)).1.1
 rw [Array.all_eq_true_iff_forall_mem] at h1
 have:=h1 e (by simpa using he)
 rw [hb] at this
 simpa using this
theorem qE8 {P:Program} {ops:Array Oper} {nd:Oper→Bool} (h:uH P ops nd = true) {i j:Nat} (hi:i < ops.size) (hj:j < i):((Region.before ops).getD i 0).testBit j = true∨wV ops (jJ ops j) (jJ ops i) = true:=by
 simp only [uH,List.all_eq_true,Bool.and_eq_true] at h
 have h1:=(h i (by simpa using hi)).2 j (by simpa using hj)
 simpa using h1
theorem qE9 {P:Program} {ops:Array Oper} {nd:Oper→Bool} (h:uH P ops nd = true) {i j:Nat} (hi:i < ops.size) (hj:j < ops.size) (he:jZ (jJ ops i).op = true) (hp:jZ (jJ ops j).op = false) (hwl:wl P (jJ ops j).op = false) :
  nd (jJ ops i) = true∨((Region.before ops).getD i 0).testBit j = true:=by
 simp only [uH,List.all_eq_true,Bool.and_eq_true] at h
 have h1:=(h i (by simpa using hi)).1.2
 rw [he] at h1
 simp only [Bool.not_true,Bool.false_or,Bool.or_eq_true,List.all_eq_true] at h1
 rcases h1 with h1|h1
 ·exact .inl h1
 ·have:=h1 j (by simpa using hj)
  rw [hp,hwl] at this
  exact .inr (by simpa using this)
def left (ops:Array Oper) (listed:Array Bool):List Nat:=(List.range ops.size).filter fun i=>!listed.getD i true
theorem yD (ops:Array Oper) (listed:Array Bool):(left ops listed).Pairwise (· < ·):=List.Pairwise.filter _ List.pairwise_lt_range
theorem zV {ops:Array Oper} {listed:Array Bool} {i:Nat}:i ∈ left ops listed ↔ i < ops.size∧listed.getD i true = false:=by
 simp [left]
theorem vV {ops:Array Oper} {listed:Array Bool} {i:Nat} (hi:i < ops.size) (hsz:listed.size = ops.size):left ops (listed.setIfInBounds i true) = (left ops listed).filter (· != i):=by
 unfold left
 rw [List.filter_filter]
 apply List.filter_congr
 intro x hx
 by_cases hxi:x = i
 ·subst hxi
  simp [Array.getD_eq_getD_getElem?,hsz,hi]
 ·have:(listed.setIfInBounds i true).getD x true = listed.getD x true:=by
   simp only [Array.getD_eq_getD_getElem?,Array.getElem?_setIfInBounds]
   rw [if_neg (by omega)]
  rw [this]
  simp [hxi]
variable {Q:Exit→Act→World→Prop}
theorem qL8 {wG:World} (hwG:G wG) (hok:uH P ops nd = true) (hK:∀ a w,K a w→Q .normal a w):∀ (fuel:Nat) (listed:Array Bool) (a:Act) (w:World),listed.size = ops.size→(left ops listed).length≤fuel →
  (∀ i,i < ops.size→listed.getD i true = true→∀ j,((Region.before ops).getD i 0).testBit j = true→listed.getD j false = true) →
  (∀ j ∈ left ops listed,jZ (jJ ops j).op = false→wl P (jJ ops j).op = false→G w)→wpD P ops nd G K ((left ops listed).map (jJ ops)) a w→wpAny P .any ops Q fuel listed a w:=by
 intro fuel
 have done:∀ (listed:Array Bool) (a:Act) (w:World),left ops listed = []→wpD P ops nd G K ((left ops listed).map (jJ ops)) a w→Q .normal a w:=by
  intro listed a w hl h
  rw [hl] at h
  exact hK _ _ h
 have hrd:∀ (listed:Array Bool) i,i ∈ Region.ready .any ops listed ↔ i < ops.size∧listed.getD i true = false∧∀ e ∈ (jJ ops i).after.toList,Region.binds .any e = true→listed.getD e.on false = true:=by
  intro listed i
  simp only [Region.ready,List.mem_filter,List.mem_range,Bool.and_eq_true,Bool.not_eq_true']
  constructor
  ·rintro ⟨h1,h2,h3⟩
   refine ⟨h1,h2,?_⟩
   rw [Array.getElem?_eq_getElem h1] at h3
   simp only [Option.map_some,Option.getD_some] at h3
   rw [Array.all_eq_true_iff_forall_mem] at h3
   intro e he hb
   have:=h3 e (by simpa [jJ,h1] using he)
   rw [hb] at this
   simpa using this
  ·rintro ⟨h1,h2,h3⟩
   refine ⟨h1,h2,?_⟩
   rw [Array.getElem?_eq_getElem h1]
   simp only [Option.map_some,Option.getD_some]
   rw [Array.all_eq_true_iff_forall_mem]
   intro e he
   cases hb:Region.binds .any e
   ·rfl
   ·simpa using h3 e (by simpa [jJ,h1] using he) hb
 induction fuel with
 | zero=>
  intro listed a w hsz hlen _ _ h
  have hl:left ops listed = []:=List.eq_nil_of_length_eq_zero (by omega)
  refine ⟨?_,done _ _ _ hl h⟩
  rw [List.eq_nil_iff_forall_not_mem]
  intro i hi
  have:=(hrd listed i).1 hi
  have hm:i ∈ left ops listed:=zV.2 ⟨this.1,this.2.1⟩
  rw [hl] at hm
  cases hm
 | succ fuel ih=>
  intro listed a w hsz hlen hcl hG h
  refine ⟨fun hnone=>?_,fun i hi=>?_⟩
  ·cases hl:left ops listed with
   | nil=>exact done _ _ _ hl h
   | cons i0 rest=>
    exfalso
    have hm:i0 ∈ left ops listed:=by rw [hl];simp
    obtain ⟨h1,h2⟩:=zV.1 hm
    have:i0 ∈ Region.ready .any ops listed:=by
     refine (hrd listed i0).2 ⟨h1,h2,fun e he hb=>?_⟩
     have hlt:=yJ hok h1 e he hb
     have hs:=yD ops listed
     rw [hl] at hs
     by_cases hx:listed.getD e.on true = false
     ·have hm':e.on ∈ left ops listed:=zV.2 ⟨by omega,hx⟩
      rw [hl] at hm'
      rcases List.mem_cons.1 hm' with e1|e1
      ·omega
      ·have:=(List.pairwise_cons.1 hs).1 _ e1
       omega
     ·have hx':listed.getD e.on true = true:=by simpa using hx
      rw [Array.getD_eq_getD_getElem?] at hx' ⊢
      rw [Array.getElem?_eq_getElem (show e.on < listed.size by omega)] at hx' ⊢
      simpa using hx'
    rw [hnone] at this
    cases this
  ·obtain ⟨h1,h2,h3⟩:=(hrd listed i).1 hi
   have hm:i ∈ left ops listed:=zV.2 ⟨h1,h2⟩
   have hready:∀ j,((Region.before ops).getD i 0).testBit j = true→listed.getD j false = true:=by
    intro j hb
    obtain ⟨e,he,hbd,hor⟩:=vH h1 hb
    have hl:=h3 e he hbd
    rcases hor with rfl|hor
    ·exact hl
    ·have hlt:=yJ hok h1 e he hbd
     refine hcl e.on (by omega) ?_ j hor
     rw [Array.getD_eq_getD_getElem?] at hl ⊢
     rw [Array.getElem?_eq_getElem (show e.on < listed.size by omega)] at hl ⊢
     simpa using hl
   have hpull:=qZi (P:=P) (G:=G) (K:=K) hwG i (left ops listed) a w h hm (yD _ _) (by
    intro j hj hji
    rcases qE8 hok h1 hji with hb|hb
    ·exfalso
     obtain ⟨hj1,hj2⟩:=zV.1 hj
     obtain ⟨e,he,hbd,hor⟩:=vH h1 hb
     have hl:=h3 e he hbd
     have hjl:listed.getD j false = true:=by
      rcases hor with rfl|hor
      ·exact hl
      ·have hlt:=yJ hok h1 e he hbd
       refine hcl e.on (by omega) ?_ j hor
       rw [Array.getD_eq_getD_getElem?] at hl ⊢
       rw [Array.getElem?_eq_getElem (show e.on < listed.size by omega)] at hl ⊢
       simpa using hl
     rw [Array.getD_eq_getD_getElem?] at hjl hj2
     rw [Array.getElem?_eq_getElem (show j < listed.size by omega)] at hjl hj2
     simp at hjl hj2
     rw [hjl] at hj2
     cases hj2
    ·exact hb)
   have hlen':(left ops (listed.setIfInBounds i true)).length≤fuel:=by
    rw [vV h1 hsz]
    have:((left ops listed).filter (· != i)).length < (left ops listed).length:=by
     rw [List.length_filter_lt_length_iff_exists]
     exact ⟨i,hm,by simp⟩
    omega
   have hcl':∀ k,k < ops.size→(listed.setIfInBounds i true).getD k true = true→∀ j,((Region.before ops).getD k 0).testBit j = true→(listed.setIfInBounds i true).getD j false = true:=by
    intro k hk hkl j hb
    have hset:∀ (d:Bool) x,(listed.setIfInBounds i true).getD x d = if x = i then true else listed.getD x d:=by
     intro d x
     simp only [Array.getD_eq_getD_getElem?,Array.getElem?_setIfInBounds]
     by_cases hx:x = i
     ·subst hx
      simp [hsz,h1]
     ·rw [if_neg (fun e=>hx e.symm),if_neg hx]
    rw [hset] at hkl ⊢
    split
    ·rfl
    ·by_cases hki:k = i
     ·subst hki
      obtain ⟨e,he,hbd,hor⟩:=vH h1 hb
      have hl:=h3 e he hbd
      rcases hor with rfl|hor
      ·exact hl
      ·have hlt:=yJ hok h1 e he hbd
       refine hcl e.on (by omega) ?_ j hor
       rw [Array.getD_eq_getD_getElem?] at hl ⊢
       rw [Array.getElem?_eq_getElem (show e.on < listed.size by omega)] at hl ⊢
       simpa using hl
     ·rw [if_neg hki] at hkl
      exact hcl k hk hkl j hb
   have hnext:∀ a' w',(∀ j ∈ left ops (listed.setIfInBounds i true),jZ (jJ ops j).op = false→wl P (jJ ops j).op = false→G w')→wpD P ops nd G K (((left ops listed).filter (· != i)).map (jJ ops)) a' w'→wpAny P .any ops Q fuel (listed.setIfInBounds i true) a' w':=by
    intro a' w' hg hh
    rw [← vV h1 hsz] at hh
    exact ih _ a' w' (by simpa using hsz) hlen' hcl' hg hh
   have hsub:∀ j ∈ left ops (listed.setIfInBounds i true),j ∈ left ops listed∧j ≠ i:=by
    intro j hj
    rw [vV h1 hsz] at hj
    simpa using hj
   have hsame:∀ j ∈ left ops (listed.setIfInBounds i true),jZ (jJ ops j).op = false→wl P (jJ ops j).op = false→G w:=fun j hj=>hG j (hsub j hj).1
   have heff:jZ (jJ ops i).op = true→∀ w',(nd (jJ ops i) = true→G w')→∀ j ∈ left ops (listed.setIfInBounds i true),jZ (jJ ops j).op = false→wl P (jJ ops j).op = false→G w':=by
    intro hie w' hg j hj hjp hjw
    obtain ⟨hj1,hj2⟩:=zV.1 (hsub j hj).1
    rcases qE9 hok h1 hj1 hie hjp hjw with hn|hb
    ·exact hg hn
    ·exfalso
     have hjl:=hready j hb
     rw [Array.getD_eq_getD_getElem?] at hjl hj2
     rw [Array.getElem?_eq_getElem (show j < listed.size by omega)] at hjl hj2
     simp at hjl hj2
     rw [hjl] at hj2
     cases hj2
   have hio:ops[i]? = some (jJ ops i):=by simp [jJ,Array.getElem?_eq_getElem h1]
   unfold wpOp
   simp only [hio]
   by_cases hie:jZ (jJ ops i).op = true
   ·rw [if_pos hie] at hpull
    cases hw:Region.wanted (jJ ops i) (yielded ops a.tmps)
    ·simp only [Bool.false_eq_true,if_false]
     obtain ⟨hg,hh⟩:=hpull.2 hw
     exact hnext _ _ (heff hie _ hg) hh
    ·simp only [if_true]
     exact .inl ((hpull.1 hw).wp fun v w' ⟨hg,hh⟩=>hnext _ _ (heff hie _ hg) hh)
   ·rw [if_neg hie] at hpull
    obtain ⟨v,hv,hh⟩:=hpull
    rcases hv with ⟨hw,hr⟩|⟨hw,rfl⟩
    ·simp only [hw,if_true]
     refine .inl (Step.wp (R:=fun u w'=>u = v∧w' = w) (.inl ⟨v,w,?_,rfl,rfl⟩) ?_)
     ·cases hwl:wl P (jJ ops i).op
      ·exact hr w (hG i hm (by simpa using hie) hwl)
      ·exact qJy hwl (hr wG hwG)
     rintro u w' ⟨rfl,rfl⟩
     exact hnext _ _ hsame hh
    ·simp only [hw,Bool.false_eq_true,if_false]
     exact hnext _ _ hsame hh
theorem qLc {id:Nat} {a:Act} {w:World} (hm:P.follows .mixedOrders = true) (hok:uH P ops nd = true) (G:World→Prop) (hG:G w.drew)
  (h:wpD P ops nd G (fun a w=>Q .normal a w) ops.toList a w.drew):(Code.region id ops true).wp P Q a w:=by
 refine wp_region_any hm ?_
 refine qL8 (G:=G) (K:=fun a w=>Q .normal a w) hG hok (fun _ _ h=>h) ops.size _ a _ (by simp) ?_ ?_ (fun _ _ _ _=>hG) ?_
 ·unfold left
  exact Nat.le_trans (List.length_filter_le _ _) (by simp)
 ·intro i hi hl
  simp [Array.getD_eq_getD_getElem?,hi] at hl
 ·have e1:left ops (Array.replicate ops.size false) = List.range ops.size:=by
   unfold left
   rw [List.filter_eq_self]
   intro i hi
   have:i < ops.size:=by simpa using hi
   simp [Array.getD_eq_getD_getElem?,this]
  have e2:(List.range ops.size).map (jJ ops) = ops.toList:=by
   apply List.ext_getElem
   ·simp
   ·intro i h1 h2
    have:i < ops.size:=by simpa using h2
    simp [jJ,Array.getD_eq_getD_getElem?,this]
  rw [e1,e2]
  exact h
end
end Go.Eng
namespace Go.Eng
theorem zS {i d:Nat} (h:i ≠ d):Nat.beq i d = false:=by
 cases hb:Nat.beq i d
 ·rfl
 ·exact absurd (Nat.eq_of_beq_eq_true hb) h
theorem zO {a b:Nat} (h:a < b):Nat.blt a b = true:=Nat.ble_eq_true_of_le h
theorem qFf {a b:Nat} (h:¬ a < b):Nat.blt a b = false:=by
 cases hb:Nat.blt a b
 ·rfl
 ·exact absurd (Nat.le_of_ble_eq_true hb) h
theorem wE {a b:Nat} (h:Nat.blt a b = true):a < b:=Nat.le_of_ble_eq_true h
abbrev Fr:=Nat→Value
def Fr.put (F:Fr) (d:Nat) (v:Value):Fr:=fun i=>bif Nat.beq i d then v else F i
def Fr.putO (F:Fr) (d:Option Nat) (v:Value):Fr:=match d with
 | none=>F
 | some d=>F.put d v
def qV:List Value→Fr
 | [],_=>undef
 | v :: _,0=>v
 | _ :: l,i + 1=>qV l i
def inS:List Nat→Nat→Bool
 | [],_=>false
 | d :: S,i=>bif Nat.beq i d then true else inS S i
def Fr.hav (S:List Nat) (u F:Fr):Fr:=fun i=>bif inS S i then u i else F i
structure FrK where
 sz:Nat
 ds:List Deferred
 ro:Option Nat
@[reducible] def FrK.of (n:Nat):FrK:=⟨n,[],none⟩
instance:Coe Nat FrK:=⟨FrK.of⟩
def FrK.fence (n:FrK):Fence:={ Fence.wide with round:=n.ro }
theorem FrK.fence_none {n:FrK} (h:n.ro = none):n.fence = Fence.wide:=by
 unfold FrK.fence
 rw [h]
 rfl
def ev (n:FrK) (F:Fr) (x:Operand):Value:=match x with
 | .tmp t=>bif Nat.blt t n.sz then F t else undef
 | .const v=>v
 | .global g=>.pointer (some ⟨g,0,none⟩)
 | .func f=>.func (.func f) #[] #[]
def act (n:FrK) (F:Fr):Act:={ tmps:=Array.ofFn (n:=n.sz) fun i=>F i,defers:=n.ds }
theorem xW (n:FrK) (F:Fr) (d:Option Nat) (v:Value):(act n F).put d v = act n (F.putO d v):=by
 cases d with
 | none=>rfl
 | some d=>
  simp only [Act.put,act,Fr.putO]
  congr 1
  apply Array.ext
  ·simp
  ·intro i h1 h2
   have h3:i < n.sz:=by simpa using h2
   rw [Array.getElem_setIfInBounds (by simpa using h3)]
   simp only [Array.getElem_ofFn,Fr.put]
   by_cases h:d = i
   ·subst h;simp
   ·rw [if_neg h,zS (fun e=>h e.symm)];rfl
theorem zZ (n:FrK) (F:Fr):(act n F).eval = ev n F:=by
 funext x
 cases x with
 | tmp t=>
  simp only [Act.eval,act,ev,Array.getD_eq_getD_getElem?]
  by_cases h:t < n.sz
  ·simp [h,zO h]
  ·simp [h,qFf h]
 | const v=>rfl
 | global g=>rfl
 | func f=>rfl
def up (n:FrK) (Q:Exit→Fr→World→Prop):Exit→Act→World→Prop:=fun e a w=>∃ F,a = act n F∧Q e F w
def WP (P:Program) (n:FrK) (c:Code) (Q:Exit→Fr→World→Prop) (F:Fr) (w:World):Prop:=c.wpIn n.fence 0 P (up n Q) (act n F) w
def wL (K:Fr→World→Prop) (Q:Exit→Fr→World→Prop):Exit→Fr→World→Prop:=fun e F w=>match e with
 | .normal=>K F w
 | e=>Q e F w
def qD3 (id:Nat) (Q:Exit→Fr→World→Prop):Exit→Fr→World→Prop:=fun e F w=>match e with
 | .exit id'=>match Nat.beq id' id with
  | true=>Q .normal F w
  | false=>Q (.exit id') F w
 | e=>Q e F w
theorem qB {K:Fr→World→Prop} {Q:Exit→Fr→World→Prop} {F:Fr} {w:World} (h:K F w):wL K Q .normal F w:=h
theorem jV {K:Fr→World→Prop} {Q:Exit→Fr→World→Prop} {F:Fr} {w:World} (h:Q .ret F w):wL K Q .ret F w:=h
theorem qO {K:Fr→World→Prop} {Q:Exit→Fr→World→Prop} {F:Fr} {w:World} {i:Nat} (h:Q (.exit i) F w):wL K Q (.exit i) F w:=h
theorem qZ {id:Nat} {Q:Exit→Fr→World→Prop} {F:Fr} {w:World} (h:Q .normal F w):qD3 id Q .normal F w:=h
theorem qA9 {id:Nat} {Q:Exit→Fr→World→Prop} {F:Fr} {w:World} (h:Q .ret F w):qD3 id Q .ret F w:=h
theorem qP {id i:Nat} {Q:Exit→Fr→World→Prop} {F:Fr} {w:World} (hi:Nat.beq i id = true) (h:Q .normal F w):qD3 id Q (.exit i) F w:=by
 simp only [qD3,hi];exact h
theorem qJg {id i:Nat} {Q:Exit→Fr→World→Prop} {F:Fr} {w:World} (hi:Nat.beq i id = false) (h:Q (.exit i) F w):qD3 id Q (.exit i) F w:=by
 simp only [qD3,hi];exact h
section
variable {P:Program} {n:FrK} {Q:Exit→Fr→World→Prop} {F:Fr} {w:World}
theorem qDg {c:Code} {Q':Exit→Fr→World→Prop} (h:WP P n c Q F w) (hq:∀ e F w,Q e F w→Q' e F w):WP P n c Q' F w:=
 wpIn_mono h fun _ _ _ ⟨F,h1,h2⟩=>⟨F,h1,hq _ _ _ h2⟩
theorem qF {x y:Code} (h:WP P n x (wL (fun F w=>WP P n y Q F w) Q) F w):WP P n (.seq x y) Q F w:=by
 refine wpIn_seq (wpIn_mono h ?_)
 rintro e a w ⟨F,rfl,h2⟩
 cases e<;>first|exact h2|exact ⟨F,rfl,h2⟩
theorem qK {id:Nat} {c:Code} (h:WP P n c (qD3 id Q) F w):WP P n (.block id c) Q F w:=by
 refine wpIn_block (wpIn_mono h ?_)
 rintro e a w ⟨F,rfl,h2⟩
 cases e with
 | exit id'=>
  simp only [Exit.inBlock]
  by_cases hid:id' = id
  ·subst hid
   simp only [if_true]
   have hb:Nat.beq id' id' = true:=Nat.beq_refl id'
   simp only [qD3,hb] at h2
   exact ⟨F,rfl,h2⟩
  ·rw [if_neg hid]
   have hb:Nat.beq id' id = false:=zS hid
   simp only [qD3,hb] at h2
   exact ⟨F,rfl,h2⟩
 | _=>exact ⟨F,rfl,h2⟩
theorem zT {c:Operand} {x y:Code} {t:Bool} (hc:ev n F c = .bool t) (ht:t = true→WP P n x Q F w) (hf:t = false→WP P n y Q F w):WP P n (.cond c x y) Q F w:=
 wpIn_cond_split (by rw [zZ];exact hc) ht hf
theorem qM {c:Operand} {x y:Code} {p:Prop} [Decidable p] (hc:ev n F c = .bool (decide p)) (ht:p→WP P n x Q F w) (hf:¬ p→WP P n y Q F w):WP P n (.cond c x y) Q F w:=
 zT hc (fun h=>ht (of_decide_eq_true h)) (fun h=>hf (of_decide_eq_false h))
theorem yQ {c:Operand} {x y:Code} {p:Prop} [Decidable p] (hc:ev n F c = .bool (!decide p)) (ht:¬ p→WP P n x Q F w) (hf:p→WP P n y Q F w):WP P n (.cond c x y) Q F w:=
 zT hc (fun h=>ht (of_decide_eq_false (by simpa using h))) (fun h=>hf (of_decide_eq_true (by simpa using h)))
theorem yI {c:Operand} {x y:Code} (hc:ev n F c = .bool true) (h:WP P n x Q F w):WP P n (.cond c x y) Q F w:=zT hc (fun _=>h) (fun e=>by cases e)
theorem jI {c:Operand} {x y:Code} (hc:ev n F c = .bool false) (h:WP P n y Q F w):WP P n (.cond c x y) Q F w:=zT hc (fun e=>by cases e) (fun _=>h)
theorem qL (h:Q .normal F w):WP P n .skip Q F w:=wpIn_skip ⟨F,rfl,h⟩
theorem qS1 {l:Nat} (h:Q .normal F w):WP P n (.label l) Q F w:=wpIn_label ⟨F,rfl,h⟩
theorem jB {id:Nat} (h:Q (.exit id) F w):WP P n (.exit id) Q F w:=wpIn_exit ⟨F,rfl,h⟩
theorem qT (h:Q .ret F w):WP P n .ret Q F w:=wpIn_ret ⟨F,rfl,h⟩
theorem qTn {c:Code} {a:Act} {QA:Exit→Act→World→Prop} (I:Nat→Act→World→Prop) (m0:Nat) (h0:I m0 a w)
  (round:∀ m a w,I m a w→c.wpIn n.fence 0 P (Exit.then (fun a' w'=>∃ m',m' < m∧I m' a' w') QA) a w):(Code.loop c).wpIn n.fence 0 P QA a w:=
 wpIn_loop_ghost I m0 h0 round
theorem qUl {c:Code} {X:Type} (G:Fr→X→Fr) (I:X→World→Prop) (μ:X→Nat) (u0:Fr) (x0:X) (h0:F = G u0 x0) (hi:I x0 w)
  (round:∀ (u:Fr) (x:X) (w:World),I x w→WP P n c (wL (fun F' w'=>∃ x',F' = G F' x'∧I x' w'∧μ x' < μ x) Q) (G u x) w):WP P n (.loop c) Q F w:=by
 refine qTn (fun m a w=>∃ u x,a = act n (G u x)∧I x w∧μ x = m) _ ⟨u0,x0,by rw [h0],hi,rfl⟩ ?_
 rintro m a w ⟨u,x,rfl,hI,rfl⟩
 refine wpIn_mono (round u x w hI) ?_
 rintro e a w' ⟨F',rfl,h2⟩
 cases e with
 | normal=>
  obtain ⟨x',hF,hI',hlt⟩:=h2
  exact ⟨μ x',hlt,F',x',by rw [← hF],hI',rfl⟩
 | _=>exact ⟨F',rfl,h2⟩
def Same (S:List Nat) (F F':Fr):Prop:=∀ i,inS S i = false→F i = F' i
theorem Same.refl {S:List Nat} {F:Fr}:Same S F F:=fun _ _=>rfl
theorem Same.put {S:List Nat} {d:Nat} {v:Value} {F F':Fr} (h1:inS S d = true) (h:Same S F F'):Same S (F.put d v) F':=by
 intro i hi'
 have hne:Nat.beq i d = false:=by
  refine zS ?_
  rintro rfl
  rw [h1] at hi'
  cases hi'
 simp only [Fr.put,hne,cond_false]
 exact h i hi'
theorem Same.hav {S:List Nat} {u F:Fr}:Same S (Fr.hav S u F) F:=by
 intro i hi'
 simp only [Fr.hav,hi',cond_false]
theorem qM7:∀ (S:List Nat) (i:Nat),inS S i = true→i ∈ S
 | [],_,h=>by cases h
 | d :: S,i,h=>by
  simp only [inS] at h
  cases hb:Nat.beq i d
  ·rw [hb] at h
   exact List.mem_cons_of_mem _ (qM7 S i h)
  ·rw [Nat.eq_of_beq_eq_true hb]
   exact List.mem_cons_self
theorem Same.havs {S S':List Nat} {u F F':Fr} (h:S'.all (inS S) = true) (h2:Same S F F'):Same S (Fr.hav S' u F) F':=by
 intro i hi'
 have hn:inS S' i = false:=by
  cases hb:inS S' i
  ·rfl
  ·have:=List.all_eq_true.1 h i (qM7 S' i hb)
   rw [hi'] at this
   cases this
 simp only [Fr.hav,hn,cond_false]
 exact h2 i hi'
theorem Same.eq {S:List Nat} {F F':Fr} (h:Same S F' F):F' = Fr.hav S F' F:=by
 funext i
 simp only [Fr.hav]
 cases hb:inS S i
 ·exact h i hb
 ·rfl
theorem jE {c:Code} {X:Type} (S:List Nat) (H:X→Fr→Fr) (I:X→World→Prop) (μ:X→Nat) (x0:X) (h0:F = H x0 (Fr.hav S F F)) (hi:I x0 w)
  (round:∀ (u:Fr) (x:X) (w:World),I x w→WP P n c (wL (fun F' w'=>∃ x',F' = H x' (Fr.hav S F' F)∧I x' w'∧μ x' < μ x) Q) (H x (Fr.hav S u F)) w):WP P n (.loop c) Q F w:=
 qUl (fun u x=>H x (Fr.hav S u F)) I μ F x0 h0 hi round
theorem uF {c:Code} {X Y:Type} (S:List Nat) (H:X→Y→Fr→Fr) (I:X→Y→World→Prop) (μ:X→Y→Nat) (x0:X) (y0:Y) (h0:F = H x0 y0 (Fr.hav S F F)) (hi:I x0 y0 w)
  (round:∀ (u:Fr) (x:X) (y:Y) (w:World),I x y w→WP P n c (wL (fun F' w'=>∃ x' y',F' = H x' y' (Fr.hav S F' F)∧I x' y' w'∧μ x' y' < μ x y) Q) (H x y (Fr.hav S u F)) w):WP P n (.loop c) Q F w:=by
 refine jE S (fun (x:X × Y)=>H x.1 x.2) (fun x=>I x.1 x.2) (fun x=>μ x.1 x.2) (x0,y0) h0 hi ?_
 intro u x w hI
 refine qDg (round u x.1 x.2 w hI) ?_
 intro e F w h
 cases e with
 | normal=>
  obtain ⟨x',y',h1,h2,h3⟩:=h
  exact ⟨(x',y'),h1,h2,h3⟩
 | _=>exact h
theorem zW {c:Code} {X Y Z:Type} (S:List Nat) (H:X→Y→Z→Fr→Fr) (I:X→Y→Z→World→Prop) (μ:X→Y→Z→Nat) (x0:X) (y0:Y) (z0:Z) (h0:F = H x0 y0 z0 (Fr.hav S F F)) (hi:I x0 y0 z0 w)
  (round:∀ (u:Fr) (x:X) (y:Y) (z:Z) (w:World),I x y z w→WP P n c (wL (fun F' w'=>∃ x' y' z',F' = H x' y' z' (Fr.hav S F' F)∧I x' y' z' w'∧μ x' y' z' < μ x y z) Q) (H x y z (Fr.hav S u F)) w):WP P n (.loop c) Q F w:=by
 refine jE S (fun (x:X × Y × Z)=>H x.1 x.2.1 x.2.2) (fun x=>I x.1 x.2.1 x.2.2) (fun x=>μ x.1 x.2.1 x.2.2) (x0,y0,z0) h0 hi ?_
 intro u x w hI
 refine qDg (round u x.1 x.2.1 x.2.2 w hI) ?_
 intro e F w h
 cases e with
 | normal=>
  obtain ⟨x',y',z',h1,h2,h3⟩:=h
  exact ⟨(x',y',z'),h1,h2,h3⟩
 | _=>exact h
theorem qG {F H:Fr} {d:Nat} {v:Value} (h:F = H) (hv:F d = v):F = H.put d v:=by
 subst h
 funext i
 simp only [Fr.put]
 cases hb:Nat.beq i d
 ·rfl
 ·have:=Nat.eq_of_beq_eq_true hb
  subst this
  exact hv
end
def PV (P:Program) (n:FrK) (w:World) (F:Fr) (o:Oper) (v:Value):Prop:=(execOp (ev n F) o).run P w = .ok (.value v) w
def StepF (P:Program) (n:FrK) (o:Oper) (F:Fr) (w:World) (R:Value→World→Prop):Prop:=Step P o (act n F) w R
def wpl (P:Program) (n:FrK) (ops:Array Oper) (l:List Oper) (Q:Exit→Fr→World→Prop) (F:Fr) (w:World):Prop:=wpListIn n.fence 0 P ops (up n Q) l (act n F) w
def qFe (st:Bool) (o:Oper):Bool:=st || match o.op with
 | .store ..=>false
 | .mapUpdate ..=>false
 | .call c=>match c.callee with
  | .builtin .append=>false
  | _=>true
 | _=>true
def wpd (P:Program) (n:FrK) (ops:Array Oper) (st:Bool) (G:World→Prop) (l:List Oper) (Q:Exit→Fr→World→Prop) (F:Fr) (w:World):Prop:=
 wpD P ops (qFe st) G (fun a w=>up n Q .normal a w) l (act n F) w
theorem Step.noDefer {P:Program} {o:Oper} {a:Act} {w:World} {R:Value→World→Prop} (h:Step P o a w R):∀ c,o.op ≠ .defer c:=by
 intro c hc
 have key:∀ x w',(execOp a.eval o).run P w = .ok x w'→∃ d,x = .defer d:=by
  intro x w' hx
  simp only [execOp,hc,Sem.run_bind] at hx
  cases hr:(resolve a.eval c o.type).run P w with
  | ok d w1=>
   rw [hr] at hx
   simp only [Result.andThen_ok,Sem.run_pure] at hx
   injection hx with h1 h2
   exact ⟨d,h1.symm⟩
  | halt r w1=>
   rw [hr] at hx
   cases hx
 rcases h with ⟨v,w',h1,h2⟩|⟨w',h1,h2⟩|⟨f,args,w1,h1,h2⟩
 ·obtain ⟨d,hd⟩:=key _ _ h1
  cases hd
 ·obtain ⟨d,hd⟩:=key _ _ h1
  cases hd
 ·obtain ⟨d,hd⟩:=key _ _ h1
  cases hd
theorem Step.wpIn {P:Program} {n:FrK} {o:Oper} {a:Act} {w:World} {R:Value→World→Prop} {K:Act→World→Prop} {Q:Exit→Act→World→Prop} (h:Step P o a w R)
  (hk:∀ v w',R v w'→K (a.put o.dst v) w'):o.wpIn n.fence 0 P a w K Q:=by
 refine ⟨fun _ _=>trivial,?_⟩
 rw [Oper.semAt_eq _ _ _ h.noDefer]
 rcases h with ⟨v,w',h1,h2⟩|⟨w',h1,h2⟩|⟨f,args,w1,h1,h2⟩
 ·rw [h1];exact hk _ _ h2
 ·rw [h1];exact hk _ _ h2
 ·rw [h1]
  refine ⟨fun h=>(by cases h),?_⟩
  refine (callsIn_wide (n:=0 - 1)).2 (h2.mono fun e w' ⟨v,he,hv⟩=>?_)
  subst he
  exact hk _ _ hv
def Sel (b:Bool) (v:Value):Value:=if b then v else undef
section
variable {P:Program} {n:FrK} {Q:Exit→Fr→World→Prop} {F:Fr} {w:World} {ops:Array Oper} {o:Oper} {rest:List Oper} {st:Bool} {G:World→Prop}
theorem qA {id:Nat} {l:List Oper} (h:wpl P n l.toArray l Q F w):WP P n (.region id l.toArray false) Q F w:=wpIn_region_lit h
theorem jX {id:Nat} {l:List Oper} (hm:P.follows .mixedOrders = true) (hok:uH P l.toArray (qFe true) = true) (G:World→Prop) (hG:G w.drew)
  (h:wpd P n l.toArray true G l Q F w.drew) (hr:n.ro = none:=by rfl):WP P n (.region id l.toArray true) Q F w:=by
 unfold WP
 rw [FrK.fence_none hr]
 exact wpIn_wide.2 (qLc hm hok G hG h)
theorem xH {id:Nat} {l:List Oper} (hm:P.follows .mixedOrders = true) (hok:uH P l.toArray (qFe false) = true) (G:World→Prop) (hG:G w.drew)
  (h:wpd P n l.toArray false G l Q F w.drew) (hr:n.ro = none:=by rfl):WP P n (.region id l.toArray true) Q F w:=by
 unfold WP
 rw [FrK.fence_none hr]
 exact wpIn_wide.2 (qLc hm hok G hG h)
theorem qE (h:Q .normal F w):wpl P n ops [] Q F w:=wpListIn_nil ⟨F,rfl,h⟩
theorem jL (h:Q .normal F w):wpd P n ops st G [] Q F w:=⟨F,rfl,h⟩
theorem qEr {R:Value→World→Prop} (hg:o.guard = none) (hs:StepF P n o F w R) (h:∀ v w',R v w'→wpl P n ops rest Q (F.putO o.dst v) w'):wpl P n ops (o :: rest) Q F w:=by
 refine wpListIn_plain hg fun K hK=>Step.wpIn hs fun v w' hr=>hK _ _ ?_
 rw [xW]
 exact h v w' hr
theorem qNw {r v:Value} (hg:o.guard = none) (hp:PV P n w F o r) (hv:r = v) (h:wpl P n ops rest Q (F.putO o.dst v) w):wpl P n ops (o :: rest) Q F w:=by
 subst hv
 refine qEr (R:=fun u w'=>u = r∧w' = w) hg (.inl ⟨r,w,?_,rfl,rfl⟩) ?_
 ·rw [zZ];exact hp
 ·rintro u w' ⟨rfl,rfl⟩;exact h
def kF (ops:Array Oper) (j:Nat):Option Nat:=(ops[j]?).bind (·.dst)
theorem kR {j:Nat} {want c:Bool} {d:Nat} (hg:o.guard = some (j,want)) (hj:kF ops j = some d) (hc:ev n F (.tmp d) = .bool c) :
  Region.wanted o (yielded ops (act n F).tmps) = (c == want):=by
 simp only [Region.wanted,hg,yielded]
 unfold kF at hj
 rw [hj]
 have hlt:d < n.sz:=by
  by_cases h:d < n.sz
  ·exact h
  ·simp [ev,qFf h,undef] at hc
 have hb:Nat.blt d n.sz = true:=zO hlt
 simp only [ev,hb,cond_true] at hc
 simp [act,hlt,hc]
theorem qVo {r v:Value} {j:Nat} {want c:Bool} {d:Nat} (hg:o.guard = some (j,want)) (hj:kF ops j = some d) (hc:ev n F (.tmp d) = .bool c)
  (hp:(c == want) = true→PV P n w F o r) (hv:(c == want) = true→r = v) (h:wpl P n ops rest Q (F.putO o.dst (Sel (c == want) v)) w):wpl P n ops (o :: rest) Q F w:=by
 unfold wpl wpListIn
 rw [kR hg hj hc]
 cases hcw:(c == want)
 ·rw [hcw] at h
  simp only [Bool.false_eq_true,if_false]
  rw [xW]
  exact ⟨fun _ _=>trivial,h⟩
 ·rw [hcw] at h
  simp only [if_true]
  refine Step.wpIn (R:=fun u w'=>u = v∧w' = w) (.inl ⟨v,w,?_,rfl,rfl⟩) ?_
  ·rw [zZ,← hv hcw];exact hp hcw
  ·rintro u w' ⟨rfl,rfl⟩
   rw [xW]
   exact h
theorem qDw {j:Nat} {want b c:Bool} {d:Nat} (hg:o.guard = some (j,want)) (hj:kF ops j = some d) (hc:ev n F (.tmp d) = Sel b (.bool c)) :
  Region.wanted o (yielded ops (act n F).tmps) = (b && (c == want)):=by
 cases b
 ·simp only [Region.wanted,hg,yielded]
  unfold kF at hj
  rw [hj]
  have hv:(act n F).tmps[d]? = none∨(act n F).tmps[d]? = some undef:=by
   by_cases h:d < n.sz
   ·right
    have hb:Nat.blt d n.sz = true:=zO h
    simp only [ev,hb,cond_true,Sel] at hc
    simp [act,h,hc]
   ·left
    simp [act,h]
  rcases hv with hv|hv<;>simp [hv,undef]
 ·exact (kR hg hj hc).trans (by simp)
theorem qSa {r v:Value} {j:Nat} {want b c:Bool} {d:Nat} (hg:o.guard = some (j,want)) (hj:kF ops j = some d) (hc:ev n F (.tmp d) = Sel b (.bool c))
  (hp:b = true→(b && (c == want)) = true→PV P n w F o r) (hv:b = true→(b && (c == want)) = true→r = v) (h:wpl P n ops rest Q (F.putO o.dst (Sel (b && (c == want)) v)) w):wpl P n ops (o :: rest) Q F w:=by
 unfold wpl wpListIn
 rw [qDw hg hj hc]
 cases hcw:(b && (c == want))
 ·rw [hcw] at h
  simp only [Bool.false_eq_true,if_false]
  rw [xW]
  exact ⟨fun _ _=>trivial,h⟩
 ·rw [hcw] at h
  have hb:b = true:=by simp at hcw;exact hcw.1
  simp only [if_true]
  refine Step.wpIn (R:=fun u w'=>u = v∧w' = w) (.inl ⟨v,w,?_,rfl,rfl⟩) ?_
  ·rw [zZ,← hv hb hcw];exact hp hb hcw
  ·rintro u w' ⟨rfl,rfl⟩
   rw [xW]
   exact h
theorem qSb {r v:Value} {j:Nat} {want b c:Bool} {d:Nat} (he:jZ o.op = false) (hg:o.guard = some (j,want)) (hj:kF ops j = some d) (hc:ev n F (.tmp d) = Sel b (.bool c))
  (hp:b = true→(b && (c == want)) = true→∀ w,G w→PV P n w F o r) (hv:b = true→(b && (c == want)) = true→r = v) (h:wpd P n ops st G rest Q (F.putO o.dst (Sel (b && (c == want)) v)) w):wpd P n ops st G (o :: rest) Q F w:=by
 unfold wpd wpD
 rw [if_neg (by rw [he];simp)]
 refine ⟨Sel (b && (c == want)) v,?_,by rw [xW];exact h⟩
 unfold YV
 rw [qDw hg hj hc]
 cases hcw:(b && (c == want))
 ·exact .inr ⟨rfl,rfl⟩
 ·have hb:b = true:=by simp at hcw;exact hcw.1
  refine .inl ⟨rfl,fun w hw=>?_⟩
  rw [zZ]
  have:=hp hb hcw w hw
  rw [hv hb hcw] at this
  exact this
theorem qNy {r v:Value} (he:jZ o.op = false) (hg:o.guard = none) (hp:∀ w,G w→PV P n w F o r) (hv:r = v) (h:wpd P n ops st G rest Q (F.putO o.dst v) w):wpd P n ops st G (o :: rest) Q F w:=by
 subst hv
 unfold wpd wpD
 rw [if_neg (by rw [he];simp)]
 refine ⟨r,.inl ⟨by simp [Region.wanted,hg],fun w hw=>?_⟩,?_⟩
 ·rw [zZ];exact hp w hw
 ·rw [xW];exact h
theorem qVp {r v:Value} {j:Nat} {want c:Bool} {d:Nat} (he:jZ o.op = false) (hg:o.guard = some (j,want)) (hj:kF ops j = some d) (hc:ev n F (.tmp d) = .bool c)
  (hp:(c == want) = true→∀ w,G w→PV P n w F o r) (hv:(c == want) = true→r = v) (h:wpd P n ops st G rest Q (F.putO o.dst (Sel (c == want) v)) w):wpd P n ops st G (o :: rest) Q F w:=by
 unfold wpd wpD
 rw [if_neg (by rw [he];simp)]
 refine ⟨Sel (c == want) v,?_,by rw [xW];exact h⟩
 unfold YV
 rw [kR hg hj hc]
 cases hcw:(c == want)
 ·exact .inr ⟨rfl,rfl⟩
 ·refine .inl ⟨rfl,fun w hw=>?_⟩
  rw [zZ]
  have:=hp hcw w hw
  rw [hv hcw] at this
  exact this
theorem qNx {R:Value→World→Prop} (he:jZ o.op = true) (hg:o.guard = none) (hs:StepF P n o F w R) (h:∀ v w',R v w'→G w'∧wpd P n ops st G rest Q (F.putO o.dst v) w') :
  wpd P n ops st G (o :: rest) Q F w:=by
 unfold wpd wpD
 rw [if_pos he]
 refine ⟨fun _=>hs.mono fun v w' hr=>?_,fun hw=>?_⟩
 ·rw [xW];exact ⟨fun _=>(h v w' hr).1,(h v w' hr).2⟩
 ·simp [Region.wanted,hg] at hw
theorem qGf {R:Value→World→Prop} (he:jZ o.op = true) (hn:qFe false o = false) (hg:o.guard = none) (hs:StepF P n o F w R) (h:∀ v w',R v w'→wpd P n ops false G rest Q (F.putO o.dst v) w') :
  wpd P n ops false G (o :: rest) Q F w:=by
 unfold wpd wpD
 rw [if_pos he]
 refine ⟨fun _=>hs.mono fun v w' hr=>?_,fun hw=>?_⟩
 ·rw [xW];exact ⟨fun hh=>(by rw [hn] at hh;cases hh),h v w' hr⟩
 ·simp [Region.wanted,hg] at hw
theorem jR {x:Operand} {b:Bool} {v:Value} (h:ev n F x = Sel b v) (hb:b = true):ev n F x = v:=by
 rw [h,hb];rfl
def qIw (P:Program) (n:FrK) (fn:Func) (R:Ending→World→Prop):Exit→Fr→World→Prop:=fun e F w=>match e with
 | .normal|.ret=>∃ v,(results fn (act n F).tmps).run P w = .ok v w∧R (.returned v) w
 | _=>False
theorem qJq {f:FuncId} {fn:Func} {c:Code} {args:List Value} {R:Ending→World→Prop} (hf:P.funcs[f]? = some fn) (hb:fn.body = some c) {m:Nat} (hn:fn.ntmps = m) (hsz:args.length≤m)
  (h:WP P (FrK.of m) c (qIw P (FrK.of m) fn R) (qV args) w):Calls P f args.toArray w R:=by
 refine calls_of_wp hf hb ?_
 have ha:({ tmps:=args.toArray ++ Array.replicate (fn.ntmps - args.toArray.size) undef,defers:=[] }:Act) = act (FrK.of m) (qV args):=by
  simp only [act]
  congr 1
  apply Array.ext
  ·simp [hn];omega
  ·intro i h1 h2
   simp only [Array.getElem_ofFn]
   have hfr:∀ (l:List Value) (i:Nat),qV l i = l.getD i undef:=by
    intro l
    induction l with
    | nil=>intro i;simp [qV]
    | cons x l ih=>intro i;cases i<;>simp [qV,ih]
   rw [hfr]
   by_cases hi:i < args.length
   ·rw [Array.getElem_append_left (by simpa using hi)]
    simp [List.getD_eq_getElem?_getD,hi]
   ·rw [Array.getElem_append_right (by simpa using hi)]
    simp [List.getD_eq_getElem?_getD,hi]
 rw [ha]
 refine wpIn_wide.1 (wpIn_mono (n:=0) (F:=Fence.wide) h ?_)
 rintro e a w ⟨F,rfl,h2⟩
 cases e<;>first|exact ⟨rfl,h2⟩|exact h2.elim
theorem qU {fn:Func} {R:Ending→World→Prop} {t:Nat} {v:Value} (h:fn.results = #[.tmp t]) (hv:ev n F (.tmp t) = v) (hr:R (.returned v) w):qIw P n fn R .ret F w:=by
 refine ⟨v,?_,hr⟩
 rw [results_tmp h]
 rw [← hv,← zZ]
 rfl
theorem zX {fn:Func} {R:Ending→World→Prop} {t u:Nat} {v v':Value} (h:fn.results = #[.tmp t,.tmp u]) (hv:ev n F (.tmp t) = v) (hv':ev n F (.tmp u) = v') (hr:R (.returned (.tuple #[v,v'])) w):qIw P n fn R .ret F w:=by
 refine ⟨.tuple #[v,v'],?_,hr⟩
 rw [results_tmp2 h]
 rw [← hv,← hv',← zZ]
 rfl
theorem qF1 {fn:Func} {R:Ending→World→Prop} (h:fn.results = #[]) (hr:R (.returned (.tuple #[])) w):qIw P n fn R .normal F w:=⟨_,results_none h _ _ _,hr⟩
end
end Go.Eng
namespace Go.Eng
def TSize (P:Program) (t k:Nat):Prop:=(P.info? t).map (·.size) = some k
def TZero (P:Program) (t:Nat) (z:Value):Prop:=(P.info? t).map (·.zero) = some (some z)
def TBytes (P:Program) (t k:Nat):Prop:=(P.info? t).map (·.bytes) = some k
def qPv:TypeDesc→Bool
 | .struct _=>false
 | .array _ _=>false
 | _=>true
def qKx:TypeDesc→Bool
 | .struct _=>true
 | .array _ _=>true
 | _=>false
section
variable {P:Program} {w:World}
theorem TSize.run {t k:Nat} (h:TSize P t k):(sizeOf t).run P w = .ok k w:=by
 unfold TSize at h
 cases hi:P.info? t with
 | none=>simp [hi] at h
 | some i=>simp [hi] at h;simp [sizeOf,typeInfo,hi,h]
theorem TZero.run {t:Nat} {z:Value} (h:TZero P t z):(zeroValue t).run P w = .ok z w:=by
 unfold TZero at h
 cases hi:P.info? t with
 | none=>simp [hi] at h
 | some i=>simp [hi] at h;simp [zeroValue,typeInfo,hi,h]
theorem TBytes.ex {t k:Nat} (h:TBytes P t k):∃ i,P.info? t = some i∧i.bytes = k:=by
 unfold TBytes at h
 cases hi:P.info? t with
 | none=>simp [hi] at h
 | some i=>simp [hi] at h;exact ⟨i,rfl,h⟩
theorem zE {t:Nat} {d:TypeDesc} (h:P.underlying t = some d):(underlying t).run P w = .ok d w:=by simp [underlying,h]
theorem qSy {t:Nat} {d:TypeDesc} (h:P.underlying t = some d) (h1:qPv d = true):(isAgg t).run P w = .ok false w:=by
 unfold isAgg
 simp only [Sem.run_bind,zE h,Result.andThen_ok]
 cases d<;>first|rfl|cases h1
theorem qEz {t:Nat} {d:TypeDesc} (h:P.underlying t = some d) (h1:qKx d = true):(isAgg t).run P w = .ok true w:=by
 unfold isAgg
 simp only [Sem.run_bind,zE h,Result.andThen_ok]
 cases d<;>first|rfl|cases h1
end
section
variable {P:Program} {n:FrK} {w:World} {F:Fr} {d:Option Tmp} {ty:TypeId} {pos:String} {aft:Array Edge} {g:Option (Nat × Bool)} {x y:Operand}
theorem qC:PV P n w F ⟨d,.move x,ty,pos,aft,g⟩ (ev n F x):=by simp [PV,execOp]
theorem qD:PV P n w F ⟨d,.assign x,ty,pos,aft,g⟩ (ev n F x):=by simp [PV,execOp]
theorem qAc (v:Value):ev n F (.const v) = v:=rfl
theorem qKh {c b:Bool} {c':Bool} (hx:ev n F x = .bool c) (hy:ev n F y = Sel (c' == true) (.bool b)) (hc:c = c') :
  PV P n w F ⟨d,.pick x y (.const (.bool false)),ty,pos,aft,g⟩ (.bool (c && b)):=by
 subst hc
 simp only [PV,execOp,hx,hy,asBool,qAc]
 cases c<;>rfl
theorem qAq {c b:Bool} {c':Bool} (hx:ev n F x = .bool c) (hy:ev n F y = Sel (c' == false) (.bool b)) (hc:c = c') :
  PV P n w F ⟨d,.pick x (.const (.bool true)) y,ty,pos,aft,g⟩ (.bool (c || b)):=by
 subst hc
 simp only [PV,execOp,hx,hy,asBool,qAc]
 cases c<;>rfl
theorem zI {c:Bool} {t:Nat} (hx:ev n F x = .bool c):PV P n w F ⟨d,.unOp .not t x,ty,pos,aft,g⟩ (.bool (!c)):=by
 simp [PV,execOp,hx,Op.unary]
theorem qHo {a:Addr} (hx:ev n F x = .pointer (some a)):PV P n w F ⟨d,.nilCheck x,ty,pos,aft,g⟩ (.pointer (some a)):=by
 simp [PV,execOp,hx]
theorem jK {vs:Array Value} {i:Nat} {v:Value} (hx:ev n F x = .tuple vs) (hv:vs[i]? = some v):PV P n w F ⟨d,.extract x i,ty,pos,aft,g⟩ v:=by
 simp [PV,execOp,hx,Instr.extract,hv]
theorem vW {fn:Fn} {a b:Array Operand}:PV P n w F ⟨d,.makeFunc fn a b,ty,pos,aft,g⟩ (.func fn (a.toList.map (ev n F)).toArray (b.toList.map (ev n F)).toArray):=by
 have h:∀ a:Array Operand,a.map (ev n F) = (a.toList.map (ev n F)).toArray:=fun a=>by cases a;simp
 simp [PV,execOp,Instr.makeFunc,h]
section
variable {t t':Nat} {k:IntKind} {a b:Int}
theorem qY (hx:ev n F x = .int k a) (hy:ev n F y = .int k b):PV P n w F ⟨d,.binOp .add t x y t',ty,pos,aft,g⟩ (.int k (k.wrap (a + b))):=by
 simp [PV,execOp,hx,hy,eqGuard,binOp,Op.intArith]
theorem jN (hx:ev n F x = .int k a) (hy:ev n F y = .int k b):PV P n w F ⟨d,.binOp .sub t x y t',ty,pos,aft,g⟩ (.int k (k.wrap (a - b))):=by
 simp [PV,execOp,hx,hy,eqGuard,binOp,Op.intArith]
theorem xU (hx:ev n F x = .int k a) (hy:ev n F y = .int k b):PV P n w F ⟨d,.binOp .mul t x y t',ty,pos,aft,g⟩ (.int k (k.wrap (a * b))):=by
 simp [PV,execOp,hx,hy,eqGuard,binOp,Op.intArith]
theorem yV (hx:ev n F x = .int k a) (hy:ev n F y = .int k b) (hb:b ≠ 0):PV P n w F ⟨d,.binOp .quo t x y t',ty,pos,aft,g⟩ (.int k (k.wrap (a.tdiv b))):=by
 simp [PV,execOp,hx,hy,eqGuard,binOp,Op.intDiv,hb]
theorem yU (hx:ev n F x = .int k a) (hy:ev n F y = .int k b) (hb:b ≠ 0):PV P n w F ⟨d,.binOp .rem t x y t',ty,pos,aft,g⟩ (.int k (a.tmod b)):=by
 simp [PV,execOp,hx,hy,eqGuard,binOp,Op.intDiv,hb]
theorem jA (hx:ev n F x = .int k a) (hy:ev n F y = .int k b):PV P n w F ⟨d,.binOp .lss t x y t',ty,pos,aft,g⟩ (.bool (decide (a < b))):=by
 simp [PV,execOp,hx,hy,eqGuard,binOp,Op.intCmp]
theorem kB (hx:ev n F x = .int k a) (hy:ev n F y = .int k b):PV P n w F ⟨d,.binOp .leq t x y t',ty,pos,aft,g⟩ (.bool (decide (a≤b))):=by
 simp [PV,execOp,hx,hy,eqGuard,binOp,Op.intCmp]
theorem zA (hx:ev n F x = .int k a) (hy:ev n F y = .int k b):PV P n w F ⟨d,.binOp .gtr t x y t',ty,pos,aft,g⟩ (.bool (decide (b < a))):=by
 simp [PV,execOp,hx,hy,eqGuard,binOp,Op.intCmp]
theorem xF (hx:ev n F x = .int k a) (hy:ev n F y = .int k b):PV P n w F ⟨d,.binOp .geq t x y t',ty,pos,aft,g⟩ (.bool (decide (b≤a))):=by
 simp [PV,execOp,hx,hy,eqGuard,binOp,Op.intCmp]
theorem zF (hx:ev n F x = .int k a) (hy:ev n F y = .int k b):PV P n w F ⟨d,.binOp .eql t x y t',ty,pos,aft,g⟩ (.bool (decide (a = b))):=by
 simp [PV,execOp,hx,hy,eqGuard,binOp,Op.intCmp]
 rfl
theorem zJ (hx:ev n F x = .int k a) (hy:ev n F y = .int k b):PV P n w F ⟨d,.binOp .neq t x y t',ty,pos,aft,g⟩ (.bool (!decide (a = b))):=by
 simp [PV,execOp,hx,hy,eqGuard,binOp,Op.intCmp,bne]
 rfl
theorem qT6 {k':IntKind} (hd:P.underlying t' = some (.int k')) (hs:∃ q,P.underlying t = some q) (hx:ev n F x = .int k a) :
  PV P n w F ⟨d,.convert t t' x,ty,pos,aft,g⟩ (.int k' (k'.wrap a)):=by
 obtain ⟨q,hq⟩:=hs
 simp [PV,execOp,hx,convert,zE hq,zE hd,Conv.intToInt]
theorem qOt {ts:Array TypeId} (hx:ev n F x = .int k a) (hy:ev n F y = .int k b):PV P n w F ⟨d,.call ⟨.builtin .min,#[x,y],ts⟩,ty,pos,aft,g⟩ (.int k (min a b)):=by
 have:(if b < a then b else a) = min a b:=by rw [Int.min_def];split<;>split<;>omega
 simp [PV,execOp,resolve,invoke,builtin,Builtin.min_,Builtin.min2,hx,hy,this]
end
theorem qN {z:Int} (h1:-9223372036854775808≤z) (h2:z≤9223372036854775807):IntKind.i64.wrap z = z:=by
 rw [IntKind.wrap_i64];omega
theorem qZb {z:Int} (h1:0≤z) (h2:z≤255):IntKind.u8.wrap z = z:=by
 rw [IntKind.wrap_u8];omega
theorem qI {k:IntKind} {a b:Int} (h:a = b):Value.int k a = .int k b:=by rw [h]
theorem jF {a b:Bool} (h:a = b):Value.bool a = .bool b:=by rw [h]
section
variable {t t':Nat} {a b:ByteArray}
theorem qDt (a b:ByteArray):(a.toList == b.toList) = decide (a = b):=by
 rw [Bool.eq_iff_iff]
 simp only [beq_iff_eq,decide_eq_true_eq,ByteArray.toList_eq]
 constructor
 ·intro h
  cases a;cases b
  congr 1
  exact Array.toList_inj.1 h
 ·rintro rfl;rfl
theorem uO (hx:ev n F x = .string a) (hy:ev n F y = .string b):PV P n w F ⟨d,.binOp .eql t x y t',ty,pos,aft,g⟩ (.bool (decide (a = b))):=by
 rw [← qDt]
 simp [PV,execOp,hx,hy,eqGuard,binOp,Op.stringOp]
theorem jY (hx:ev n F x = .string a) (hy:ev n F y = .string b) (hl:a.size + b.size≤9223372036854775807):PV P n w F ⟨d,.binOp .add t x y t',ty,pos,aft,g⟩ (.string (a ++ b)):=by
 have hm:IntKind.i64.max = 9223372036854775807:=rfl
 simp [PV,execOp,hx,hy,eqGuard,binOp,Op.stringOp,hm]
 omega
theorem qT5 {q:Nat} {p:TypeId} (hq:P.underlying p = some .string) (hx:ev n F x = .string a):PV P n w F ⟨d,.call ⟨.builtin .len,#[x],#[p]⟩,q,pos,aft,g⟩ (.int .i64 a.size):=by
 simp [PV,execOp,resolve,invoke,builtin,Builtin.len_,hx,zE hq,goInt]
theorem qW4 {q:Nat} {p:TypeId} {e:TypeId} {s:Option Addr} {m c:Nat} (hq:P.underlying p = some (.slice e)) (hx:ev n F x = .slice s m c):PV P n w F ⟨d,.call ⟨.builtin .len,#[x],#[p]⟩,q,pos,aft,g⟩ (.int .i64 m):=by
 simp [PV,execOp,resolve,invoke,builtin,Builtin.len_,hx,zE hq,goInt]
def bAt (s:ByteArray) (i:Nat):Int:=((s.data.toList[i]?).getD 0).toNat
theorem qZ5 (s:ByteArray) {i:Nat} (hi:i < s.size):bAt s i = (s[i]'hi).toNat:=by
 have:i < s.data.toList.length:=by simpa using hi
 unfold bAt
 rw [List.getElem?_eq_getElem this]
 rfl
theorem qKc {k:IntKind} {i:Nat} (hq:P.underlying t = some .string) (hx:ev n F x = .string a) (hy:ev n F y = .int k i) (hi:i < a.size) :
  PV P n w F ⟨d,.index t x y,ty,pos,aft,g⟩ (.int .u8 (bAt a i)):=by
 have:a[i]? = some (a[i]'hi):=by simp [hi]
 simp [PV,execOp,Instr.index,hx,hy,asIntOf,zE hq,this,qZ5 a hi]
end
theorem yH (b o k:Nat):(⟨b,o,none⟩:Addr).add k = ⟨b,o + k,none⟩:=by
 unfold Addr.add
 split
 ·rename_i h;subst h;rfl
 ·rfl
theorem qOx {s:TypeId} {fs:Array Field} {f:Field} {i b o k:Nat} (hs:P.underlying s = some (.struct fs)) (hf:fs[i]? = some f) (hk:TSize P f.type (k + 1)) (hx:ev n F x = .pointer (some ⟨b,o,none⟩)) :
  PV P n w F ⟨d,.fieldAddr s x i,ty,pos,aft,g⟩ (.pointer (some ⟨b,o + f.offset,none⟩)):=by
 simp [PV,execOp,Instr.fieldAt,hx,zE hs,hf,Instr.sureAddr,fieldPlace,hk.run,yH]
def jM (P:Program) (s i off k:Nat):Prop:=(match P.underlying s with
 | some (.struct fs)=>(fs[i]?).map (fun f=>(f.offset,(P.info? f.type).map (·.size)))
 | _=>none) = some (off,some (k + 1))
theorem jH {s i b o off k:Nat} (h:jM P s i off k) (hx:ev n F x = .pointer (some ⟨b,o,none⟩)) :
  PV P n w F ⟨d,.fieldAddr s x i,ty,pos,aft,g⟩ (.pointer (some ⟨b,o + off,none⟩)):=by
 unfold jM at h
 split at h
 ·rename_i fs hs
  cases hf:fs[i]? with
  | none=>simp [hf] at h
  | some f=>
   simp [hf] at h
   obtain ⟨rfl,h2⟩:=h
   refine qOx (k:=k) hs hf ?_ hx
   unfold TSize
   simpa using h2
 ·cases h
theorem qOw {t e k m c b o i:Nat} {q:IntKind} {s:Option Addr} (ht:P.underlying t = some (.slice e)) (hk:TSize P e k) (hx:ev n F x = .slice s m c) (hy:ev n F y = .int q i) (hs:s = some ⟨b,o,none⟩) (hi:i < m) :
  PV P n w F ⟨d,.indexAddr t x y,ty,pos,aft,g⟩ (.pointer (some ⟨b,o + i * k,none⟩)):=by
 subst hs
 have h1:(i:Int) < (m:Int):=by omega
 simp [PV,execOp,Instr.indexAt,hx,hy,asIntOf,zE ht,hi,hk.run,yH]
theorem qKd {t e k m b o i:Nat} {q:IntKind} (ht:P.underlying t = some (.array m e)) (hk:TSize P e k) (hx:ev n F x = .pointer (some ⟨b,o,none⟩)) (hy:ev n F y = .int q i) (hi:i < m) :
  PV P n w F ⟨d,.indexAddr t x y,ty,pos,aft,g⟩ (.pointer (some ⟨b,o + i * k,none⟩)):=by
 have h1:(i:Int) < (m:Int):=by omega
 simp [PV,execOp,Instr.indexAt,Instr.sureAddr,hx,hy,asIntOf,zE ht,hi,hk.run,yH]
theorem kJ (b o:Nat):∀ (vs:List Value) (i:Nat) (acc:Array Value),(∀ j v,vs[j]? = some v→w.cell? ⟨b,o + i + j,none⟩ = some v) →
  (loadCellsFrom ⟨b,o,none⟩ i vs.length acc).run P w = .ok (acc ++ vs.toArray) w
 | [],i,acc,_=>by simp [loadCellsFrom]
 | v :: vs,i,acc,h=>by
  have h0:=h 0 v rfl
  have hr:=kJ b o vs (i + 1) (acc.push v) (fun j u hu=>by have:=h (j + 1) u (by simpa using hu);rw [show o + (i + 1) + j = o + i + (j + 1) from by omega];exact this)
  simp only [List.length_cons,loadCellsFrom,Sem.run_bind,yH]
  have hl:(load (⟨b,o + i,none⟩:Addr)).run P w = .ok v w:=by
   simp only [load,Sem.run]
   rw [show o + i = o + i + 0 from rfl,h0]
  rw [hl]
  simp only [Result.andThen_ok]
  rw [hr]
  simp
theorem qHp {t:TypeId} {q:TypeDesc} {b o:Nat} {v:Value} (hq:P.underlying t = some q) (h1:qPv q = true) (hx:ev n F x = .pointer (some ⟨b,o,none⟩)) (hc:w.cell? ⟨b,o,none⟩ = some v) :
  PV P n w F ⟨d,.load t x,ty,pos,aft,g⟩ v:=by
 simp [PV,execOp,Instr.loadAt,hx,Instr.sureAddr,loadVar,qSy hq h1,load,Sem.run,hc]
theorem qOv {t:TypeId} {q:TypeDesc} {b o k:Nat} {vs:List Value} (hq:P.underlying t = some q) (h1:qKx q = true) (hk:TSize P t k) (hx:ev n F x = .pointer (some ⟨b,o,none⟩))
  (hl:vs.length = k) (hc:∀ j v,vs[j]? = some v→w.cell? ⟨b,o + j,none⟩ = some v) :
  PV P n w F ⟨d,.load t x,ty,pos,aft,g⟩ (.agg vs.toArray):=by
 subst hl
 have:=kJ (P:=P) (w:=w) b o vs 0 #[] (fun j v hv=>by simpa using hc j v hv)
 simp [PV,execOp,Instr.loadAt,hx,Instr.sureAddr,loadVar,qEz hq h1,loadCells,hk.run,this]
theorem yS {v:Value} {k:IntKind} {i m:Nat} {c:BoundsCode} (hv:v = .int k i) (h:i≤m):(Instr.sliceBound v m c).run P w = .ok i w:=by
 have:(i:Int)≤(m:Int):=by omega
 simp [Instr.sliceBound,hv,asIntOf,h]
theorem qIz {t:TypeId} {fs:Array Field} {ps:Array (Nat × Operand)} {zs cs:Array Value} {pl:Array (Nat × Nat)} {z:Value} (ht:P.underlying t = some (.struct fs)) (hz:TZero P t z) (hzs:z.cells = zs)
  (hpl:∀ w,(fs.mapM (fun f=>do pure (f.offset,← sizeOf f.type):Field→Sem (Nat × Nat))).run P w = .ok pl w) (hf:Instr.fill (pl[·]?) zs (ps.map fun (i,x)=>(i,ev n F x)).toList = some cs) :
  PV P n w F ⟨d,.build t ps,ty,pos,aft,g⟩ (.agg cs):=by
 subst hzs
 simp only [PV,execOp,Instr.build,Sem.run_bind,hz.run,Result.andThen_ok,zE ht,hpl,hf]
 rfl
end
end Go.Eng
namespace Go.Eng
open Go.RowKit (Below)
structure Keeps (M:List Nat) (w w':World):Prop where
 os:w'.os = w.os
 tape:w'.tape = w.tape
 output:w'.output = w.output
 size:w.heap.size≤w'.heap.size
 block:∀ k,k < w.heap.size→k ∉ M→w'.heap[k]? = w.heap[k]?
theorem Keeps.refl {M:List Nat} {w:World}:Keeps M w w:=⟨rfl,rfl,rfl,Nat.le_refl _,fun _ _ _=>rfl⟩
theorem Keeps.below {w w':World} (h:Keeps [] w w'):Below w.heap.size w w':=⟨h.os,h.tape,h.output,h.size,fun k hk=>h.block k hk (by simp)⟩
theorem Keeps.of_below {w w':World} (h:Below w.heap.size w w'):Keeps [] w w':=⟨h.os,h.tape,h.output,h.size,fun k hk _=>h.block k hk⟩
theorem Keeps.trans {M N:List Nat} {a b c:World} (h:Keeps M a b) (h2:Keeps N b c) (hN:∀ k ∈ N,a.heap.size≤k∨k ∈ M):Keeps M a c:=
 ⟨h2.os.trans h.os,h2.tape.trans h.tape,h2.output.trans h.output,Nat.le_trans h.size h2.size,fun k hk hm=>(h2.block k (Nat.lt_of_lt_of_le hk h.size) (fun hn=>by rcases hN k hn with h1|h1;omega;exact hm h1)).trans (h.block k hk hm)⟩
theorem Keeps.drew {M:List Nat} {w w':World} (h:Keeps M w w'):Keeps M w w'.drew:=⟨h.os,h.tape,h.output,h.size,h.block⟩
theorem Keeps.cell {M:List Nat} {w w':World} (h:Keeps M w w') {a:Addr} {v:Value} (hc:w.cell? a = some v) (hm:a.block ∉ M):w'.cell? a = some v:=
 (World.cell?_of_block (h.block a.block (World.block_lt_of_cell? w a hc) hm)).trans hc
theorem qB8 (w:World) (o:Obj):Keeps [] w (w.alloc o):=⟨rfl,rfl,rfl,by simp,fun k hk _=>Go.RowKit.Below.heap_alloc w o k hk⟩
abbrev Ent:=Option Nat × (Obj→Prop)
structure Hp (w0:World) (M:List Nat) (w:World) (L:List Ent):Prop where
 keeps:Keeps M w0 w
 own:∀ (i:Nat) (p:Ent),L[i]? = some p→∀ b,p.1 = some b→w0.heap.size≤b∨b ∈ M
 has:∀ (i:Nat) (p:Ent),L[i]? = some p→∀ b,p.1 = some b→∃ o,w.heap[b]? = some o∧p.2 o
 dis:∀ (i j:Nat) (p q:Ent),L[i]? = some p→L[j]? = some q→i ≠ j→∀ b,p.1 = some b→q.1 ≠ some b
section
variable {w0 w w':World} {M:List Nat} {L:List Ent}
theorem Hp.start {w:World}:Hp w M w []:=⟨.refl,by simp,by simp,by simp⟩
theorem Hp.of_keeps {w0 w:World} (h:Keeps M w0 w):Hp w0 M w []:=⟨h,by simp,by simp,by simp⟩
theorem Hp.drew (h:Hp w0 M w L):Hp w0 M w.drew L:=⟨h.keeps.drew,h.own,h.has,h.dis⟩
theorem Hp.lt (h:Hp w0 M w L) {i:Nat} {p:Ent} (hi:L[i]? = some p) {b:Nat} (hb:p.1 = some b):b < w.heap.size:=by
 obtain ⟨o,ho,_⟩:=h.has i p hi b hb
 exact (Array.getElem?_eq_some_iff.1 ho).1
theorem Hp.call (h:Hp w0 M w L) (hk:Keeps [] w w'):Hp w0 M w' L:=by
 refine ⟨h.keeps.trans hk (by simp),h.own,fun i p hi b hb=>?_,h.dis⟩
 obtain ⟨o,ho,hp⟩:=h.has i p hi b hb
 exact ⟨o,by rw [hk.block b (h.lt hi hb) (by simp)];exact ho,hp⟩
theorem Hp.add (h:Hp w0 M w L) (hk:Keeps [] w w') {q:Ent} (hq:∀ b,q.1 = some b→w.heap.size≤b∧∃ o,w'.heap[b]? = some o∧q.2 o):Hp w0 M w' (q :: L):=by
 have h':=h.call hk
 refine ⟨h'.keeps,fun i p hi b hb=>?_,fun i p hi b hb=>?_,fun i j p r hi hj hne b hb=>?_⟩
 ·cases i with
  | zero=>simp at hi;subst hi;exact .inl (Nat.le_trans h.keeps.size (hq b hb).1)
  | succ i=>exact h.own i p (by simpa using hi) b hb
 ·cases i with
  | zero=>simp at hi;subst hi;exact (hq b hb).2
  | succ i=>exact h'.has i p (by simpa using hi) b hb
 ·cases i with
  | zero=>
   simp at hi;subst hi
   cases j with
   | zero=>exact absurd rfl hne
   | succ j=>
    intro e
    have h1:=(hq b hb).1
    have h2:=h.lt (i:=j) (by simpa using hj) e
    omega
  | succ i=>
   cases j with
   | zero=>
    simp at hj;subst hj
    intro e
    have h1:=(hq b e).1
    have h2:=h.lt (i:=i) (by simpa using hi) hb
    omega
   | succ j=>exact h.dis i j p r (by simpa using hi) (by simpa using hj) (by omega) b hb
theorem Hp.alloc (h:Hp w0 M w L) (o:Obj) {φ:Obj→Prop} (hφ:φ o):Hp w0 M (w.alloc o) ((some w.heap.size,φ) :: L):=
 h.add (qB8 w o) (by
  intro b hb
  simp at hb
  subst hb
  exact ⟨Nat.le_refl _,o,heap_alloc_new w o,hφ⟩)
theorem Hp.tail {q:Ent} (h:Hp w0 M w (q :: L)):Hp w0 M w L:=
 ⟨h.keeps,fun i p hi=>h.own (i + 1) p (by simpa using hi),fun i p hi=>h.has (i + 1) p (by simpa using hi),fun i j p r hi hj hne=>h.dis (i + 1) (j + 1) p r (by simpa using hi) (by simpa using hj) (by omega)⟩
theorem Hp.adopt (h:Hp w0 M w L) {b:Nat} {q:Obj→Prop} {o:Obj} (hb:b ∈ M) (ho:w.heap[b]? = some o) (hq:q o) (hne:∀ (i:Nat) (p:Ent),L[i]? = some p→p.1 ≠ some b):Hp w0 M w ((some b,q) :: L):=by
 refine ⟨h.keeps,fun i p hi c hc=>?_,fun i p hi c hc=>?_,fun i j p r hi hj hij c hc=>?_⟩
 ·cases i with
  | zero=>simp at hi;subst hi;simp at hc;subst hc;exact .inr hb
  | succ i=>exact h.own i p (by simpa using hi) c hc
 ·cases i with
  | zero=>simp at hi;subst hi;simp at hc;subst hc;exact ⟨o,ho,hq⟩
  | succ i=>exact h.has i p (by simpa using hi) c hc
 ·cases i with
  | zero=>
   simp at hi;subst hi;simp at hc;subst hc
   cases j with
   | zero=>exact absurd rfl hij
   | succ j=>exact hne j r (by simpa using hj)
  | succ i=>
   cases j with
   | zero=>
    simp at hj;subst hj
    intro e
    simp at e;subst e
    exact hne i p (by simpa using hi) hc
   | succ j=>exact h.dis i j p r (by simpa using hi) (by simpa using hj) (by omega) c hc
theorem Hp.upd (h:Hp w0 M w L) {i:Nat} {p q:Ent} (hi:L[i]? = some p) (hk:Keeps p.1.toList w w') (hq:∀ b,q.1 = some b→(p.1 = some b∨w.heap.size≤b)∧∃ o,w'.heap[b]? = some o∧q.2 o) :
  Hp w0 M w' (L.set i q):=by
 have hlen:i < L.length:=(List.getElem?_eq_some_iff.1 hi).1
 refine ⟨?_,fun k r hr b hb=>?_,fun k r hr b hb=>?_,fun k j r s hr hs hne b hb=>?_⟩
 ·refine h.keeps.trans hk ?_
  intro k hk'
  have:p.1 = some k:=by simpa [Option.mem_toList,eq_comm] using hk'
  exact h.own i p hi k this
 ·rw [List.getElem?_set] at hr
  by_cases hik:i = k
  ·subst hik
   simp [hlen] at hr
   subst hr
   rcases (hq b hb).1 with h1|h1
   ·exact h.own i p hi b h1
   ·exact .inl (Nat.le_trans h.keeps.size h1)
  ·rw [if_neg hik] at hr
   exact h.own k r hr b hb
 ·rw [List.getElem?_set] at hr
  by_cases hik:i = k
  ·subst hik
   simp [hlen] at hr
   subst hr
   exact (hq b hb).2
  ·rw [if_neg hik] at hr
   obtain ⟨o,ho,hro⟩:=h.has k r hr b hb
   refine ⟨o,?_,hro⟩
   rw [hk.block b (h.lt hr hb) ?_]
   ·exact ho
   ·intro hm
    have:p.1 = some b:=by simpa [Option.mem_toList,eq_comm] using hm
    exact h.dis k i r p hr hi (fun e=>hik e.symm) b hb this
 ·rw [List.getElem?_set] at hr hs
  by_cases hik:i = k
  ·subst hik
   rw [if_neg hne] at hs
   simp [hlen] at hr
   subst hr
   intro e
   rcases (hq b hb).1 with h1|h1
   ·exact h.dis i j p s hi hs hne b h1 e
   ·have:=h.lt hs e;omega
  ·rw [if_neg hik] at hr
   by_cases hij:i = j
   ·subst hij
    simp [hlen] at hs
    subst hs
    intro e
    rcases (hq b e).1 with h1|h1
    ·exact h.dis k i r p hr hi hne b hb h1
    ·have:=h.lt hr hb;omega
   ·rw [if_neg hij] at hs
    exact h.dis k j r s hr hs hne b hb
theorem Hp.weak (h:Hp w0 M w L) {i:Nat} {p:Ent} {φ:Obj→Prop} (hi:L[i]? = some p) (hφ:∀ o,p.2 o→φ o):Hp w0 M w (L.set i (p.1,φ)):=by
 refine h.upd hi (w':=w) .refl ?_
 intro b hb
 obtain ⟨o,ho,hp⟩:=h.has i p hi b hb
 exact ⟨.inl hb,o,ho,hφ o hp⟩
theorem Hp.old0 {w0 w:World} {L:List Ent} (h:Hp w0 [] w L) {a:Addr} {v:Value} (hc:w0.cell? a = some v):w.cell? a = some v:=h.keeps.cell hc (by simp)
theorem Hp.old (h:Hp w0 M w L) {a:Addr} {v:Value} (hc:w0.cell? a = some v) (hm:a.block ∉ M):w.cell? a = some v:=h.keeps.cell hc hm
end
def qCk (m:Nat) (f:Fr) (t:TypeId):Obj→Prop:=fun o=>o = .cells (Array.ofFn (n:=m) fun i=>f i) t (0,0)
def blk (b m:Nat) (f:Fr) (t:TypeId):Ent:=(some b,qCk m f t)
section
variable {w0 w w':World} {M:List Nat} {L:List Ent}
theorem qJp {b m o:Nat} {f:Fr} {t:TypeId} (hb:w.heap[b]? = some (.cells (Array.ofFn (n:=m) fun i=>f i) t (0,0))) (ho:o < m):w.cell? ⟨b,o,none⟩ = some (f o):=by
 simp [World.cell?,hb,ho]
theorem Hp.cell (h:Hp w0 M w L) (i:Nat) {b m o:Nat} {f:Fr} {t:TypeId} (hi:L[i]? = some (blk b m f t)) (ho:Nat.blt o m = true):w.cell? ⟨b,o,none⟩ = some (f o):=by
 obtain ⟨ob,h1,h2⟩:=h.has i _ hi b rfl
 have h3:ob = .cells (Array.ofFn (n:=m) fun i=>f i) t (0,0):=h2
 subst h3
 exact qJp h1 (wE ho)
theorem Hp.cells (h:Hp w0 M w L) (i:Nat) {b m o:Nat} {f:Fr} {t:TypeId} (vs:List Value) (hi:L[i]? = some (blk b m f t)) (ho:Nat.ble (o + vs.length) m = true)
  (hv:∀ j v,vs[j]? = some v→f (o + j) = v):∀ j v,vs[j]? = some v→w.cell? ⟨b,o + j,none⟩ = some v:=by
 intro j v hj
 have hlt:j < vs.length:=(List.getElem?_eq_some_iff.1 hj).1
 rw [h.cell i hi (zO (by have:=Nat.le_of_ble_eq_true ho;omega)),hv j v hj]
theorem Hp.agg_blk (h:Hp w0 M w L) (i:Nat) {b m o k:Nat} {f:Fr} {t:TypeId} (hi:L[i]? = some (blk b m f t)) (ho:Nat.ble (o + k) m = true) :
  ∀ (j:Nat) (v:Value),((List.range k).map fun j=>f (o + j))[j]? = some v→w.cell? ⟨b,o + j,none⟩ = some v:=by
 intro j v hj
 rw [List.getElem?_map] at hj
 by_cases hlt:j < k
 ·rw [List.getElem?_range hlt] at hj
  simp at hj
  rw [h.cell i hi (zO (by have:=Nat.le_of_ble_eq_true ho;omega)),hj]
 ·rw [List.getElem?_eq_none (by simpa using hlt)] at hj
  cases hj
def yW (f:Fr) (o:Nat):List Value→Fr
 | []=>f
 | v :: vs=>yW (f.put o v) (o + 1) vs
def wK:Value→Bool
 | .agg _=>false
 | .tuple _=>false
 | _=>true
theorem qK7 {P:Program} {b o m:Nat} {f:Fr} {t:TypeId} {v:Value} (hb:w.heap[b]? = some (.cells (Array.ofFn (n:=m) fun i=>f i) t (0,0))) (ho:o < m) (h1:wK v = true) :
  ∃ w',(store ⟨b,o,none⟩ v).run P w = .ok () w'∧Keeps [b] w w'∧w'.heap[b]? = some (.cells (Array.ofFn (n:=m) fun i=>(f.put o v) i) t (0,0)):=by
 have hc:=qJp hb ho
 have hf:w.frozen? ⟨b,o,none⟩ = false:=by simp [World.frozen?,hb]
 refine ⟨w.setCell ⟨b,o,none⟩ v,?_,⟨rfl,rfl,rfl,by simp [World.setCell],fun k _ hm=>?_⟩,?_⟩
 ·cases v<;>first|(cases h1;done)|simp [store,Sem.run,hc,hf]
 ·simp only [World.setCell,Array.getElem?_modify]
  rw [if_neg (by simp at hm;omega)]
 ·simp only [World.setCell,Array.getElem?_modify,if_true,hb,Option.map_some]
  congr 2
  apply Array.ext
  ·simp
  ·intro i h1 h2
   have hi:i < m:=by simpa using h2
   simp only [Option.isSome_none,Bool.false_eq_true,if_false]
   rw [Array.getElem_setIfInBounds (by simpa using hi)]
   simp only [Array.getElem_ofFn,Fr.put]
   by_cases h:o = i
   ·subst h;simp
   ·rw [if_neg h,zS (fun e=>h e.symm)];rfl
theorem qEy {P:Program} {b m:Nat} {t:TypeId}:∀ (vs:List Value) (w:World) (f:Fr) (o i:Nat),w.heap[b]? = some (.cells (Array.ofFn (n:=m) fun i=>f i) t (0,0))→o + i + vs.length≤m→vs.all wK = true →
  ∃ w',(storeCells ⟨b,o,none⟩ vs i).run P w = .ok () w'∧Keeps [b] w w'∧w'.heap[b]? = some (.cells (Array.ofFn (n:=m) fun j=>(yW f (o + i) vs) j) t (0,0))
 | [],w,f,o,i,hb,_,_=>⟨w,by simp [storeCells],.refl,hb⟩
 | v :: vs,w,f,o,i,hb,hl,h1=>by
  simp only [List.all_cons,Bool.and_eq_true] at h1
  simp only [List.length_cons] at hl
  obtain ⟨w1,r1,k1,b1⟩:=qK7 (P:=P) (o:=o + i) hb (by omega) h1.1
  obtain ⟨w2,r2,k2,b2⟩:=qEy (P:=P) vs w1 (f.put (o + i) v) o (i + 1) b1 (by omega) h1.2
  refine ⟨w2,?_,k1.trans k2 (fun k hk=>.inr hk),b2⟩
  simp only [storeCells,yH,Sem.run_bind,r1,Result.andThen_ok,r2]
end
section
variable {P:Program} {n:FrK} {w0 w:World} {M:List Nat} {L:List Ent} {F:Fr} {d:Option Tmp} {ty:TypeId} {pos:String} {aft:Array Edge} {g:Option (Nat × Bool)} {x y:Operand}
theorem kT {o:Oper} {v:Value} {w':World} {R:Value→World→Prop} (h:(execOp (ev n F) o).run P w = .ok (.value v) w') (hr:R v w'):StepF P n o F w R:=.inl ⟨v,w',by rw [zZ];exact h,hr⟩
theorem qC6 {o:Oper} {w':World} {R:Value→World→Prop} (h:(execOp (ev n F) o).run P w = .ok .skip w') (hr:R undef w'):StepF P n o F w R:=.inr (.inl ⟨w',by rw [zZ];exact h,hr⟩)
theorem kW:∀ (l:List Value) (i:Nat),qV l i = l.getD i undef:=by
 intro l
 induction l with
 | nil=>intro i;simp [qV]
 | cons x l ih=>intro i;cases i<;>simp [qV,ih]
theorem qFj (l:List Value):(Array.ofFn (n:=l.length) fun i=>qV l i) = l.toArray:=by
 apply Array.ext
 ·simp
 ·intro i h1 h2
  simp [kW]
theorem qAj {t:TypeId} {v:Value} {cs:List Value} {m:Nat} (hp:Hp w0 M w L) (hx:ev n F x = v) (hcs:v.cells.toList = cs) (hm:cs.length = m) :
  StepF P n ⟨d,.box t x,ty,pos,aft,g⟩ F w (fun u w'=>∃ b,u = .pointer (some ⟨b,0,none⟩)∧Hp w0 M w' (blk b m (qV cs) t :: L)):=by
 subst hm
 have hfr:=qFj
 refine kT (v:=.pointer (some ⟨w.heap.size,0,none⟩)) (w':=w.alloc (.cells v.cells t)) ?_ ⟨_,rfl,hp.alloc _ ?_⟩
 ·simp [execOp,Instr.box,newVar,newRow,newObj,hx,Sem.run]
 ·show _ = _
  rw [hfr,← hcs]
theorem zR {t:TypeId} {z:Value} {cs:List Value} {m:Nat} (hp:Hp w0 M w L) (hz:TZero P t z) (hcs:z.cells.toList = cs) (hm:cs.length = m) :
  StepF P n ⟨d,.alloc t,ty,pos,aft,g⟩ F w (fun u w'=>∃ b,u = .pointer (some ⟨b,0,none⟩)∧Hp w0 M w' (blk b m (qV cs) t :: L)):=by
 have hfr:=qFj
 subst hm
 refine kT (v:=.pointer (some ⟨w.heap.size,0,none⟩)) (w':=w.alloc (.cells z.cells t)) ?_ ⟨_,rfl,hp.alloc _ ?_⟩
 ·simp only [execOp,Instr.alloc,Sem.run_bind,hz.run,Result.andThen_ok]
  simp [newVar,newRow,newObj,Sem.run]
 ·show _ = _
  rw [hfr,← hcs]
theorem zD {t tb:TypeId} {v:Value} {cs:List Value} {b o m:Nat} {f:Fr} (hp:Hp w0 M w L) (i:Nat) (hx:ev n F x = .pointer (some ⟨b,o,none⟩)) (hy:ev n F y = v) (hi:L[i]? = some (blk b m f tb))
  (hcs:v.cells.toList = cs) (hk:TSize P t cs.length) (ho:Nat.ble (o + cs.length) m = true) (h1:cs.all wK = true) :
  StepF P n ⟨d,.store t x y,ty,pos,aft,g⟩ F w (fun u w'=>u = undef∧Hp w0 M w' (L.set i (blk b m (yW f o cs) tb))):=by
 obtain ⟨ob,hb1,hb2⟩:=hp.has i _ hi b rfl
 have hb3:ob = .cells (Array.ofFn (n:=m) fun i=>f i) tb (0,0):=hb2
 subst hb3
 obtain ⟨w',hr,hk',hb'⟩:=qEy (P:=P) cs w f o 0 hb1 (by have:=Nat.le_of_ble_eq_true ho;omega) h1
 refine qC6 (w':=w') ?_ ⟨rfl,hp.upd hi (by simpa [blk] using hk') ?_⟩
 ·have hsz:v.cells.size = cs.length:=by rw [← hcs];simp
  have hk2:=hk.run (w:=w)
  simp only [execOp,Instr.storeAt,hx,hy,Instr.sureAddr,storeVar,Sem.run_bind,Sem.run_pure,Result.andThen_ok,hk2,hsz,hcs]
  simp [hr]
 ·intro b' hb''
  have:b' = b:=by simpa [blk,eq_comm] using hb''
  subst this
  exact ⟨.inl rfl,_,hb',rfl⟩
def Ret (P:Program) (f:FuncId) (args:List Value) (w:World) (R:Value→World→Prop):Prop:=Calls P f args.toArray w (fun e w'=>∃ v,e = .returned v∧R v w')
theorem Ret.mono {f:FuncId} {args:List Value} {R R':Value→World→Prop} (h:Ret P f args w R) (hr:∀ v w',R v w'→R' v w'):Ret P f args w R':=
 Calls.mono h fun _ _ ⟨v,he,hv⟩=>⟨v,he,hr _ _ hv⟩
def qX (P:Program) (f:FuncId):Prop:=∀ (args:Array Value) (w:World),(callFunc f args).run P w = .ok (.enter f args) w
theorem qH {ts:Array TypeId} {args:Array Operand} {f:FuncId} {first caps:Array Value} {vs:List Value} {R:Value→World→Prop} (hx:ev n F x = .func (.func f) first caps) (he:qX P f)
  (hargs:first.toList ++ args.toList.map (ev n F) ++ caps.toList = vs) (hc:Ret P f vs w R) :
  StepF P n ⟨d,.call ⟨.value x,args,ts⟩,ty,pos,aft,g⟩ F w R:=by
 refine .inr (.inr ⟨f,vs.toArray,w,?_,hc⟩)
 rw [zZ]
 have ha:first ++ args.map (ev n F) ++ caps = vs.toArray:=by
  rw [← hargs]
  simp
 simp only [execOp,resolve,Sem.run_bind,hx,Deferred.ofValue,Sem.run_pure,Result.andThen_ok,invoke]
 rw [ha]
 exact he _ _
theorem Ret.of_WP {f:FuncId} {fn:Func} {c:Code} {args:List Value} {R:Value→World→Prop} (hf:P.funcs[f]? = some fn) (hb:fn.body = some c) {m:Nat} (hn:fn.ntmps = m) (hsz:Nat.ble args.length m = true)
  (h:WP P (FrK.of m) c (qIw P (FrK.of m) fn (fun e w'=>∃ v,e = .returned v∧R v w')) (qV args) w):Ret P f args w R:=
 qJq hf hb hn (Nat.le_of_ble_eq_true hsz) h
end
end Go.Eng
namespace Go.Eng
section
variable {P:Program} {n:FrK} {Q:Exit→Fr→World→Prop} {F:Fr} {w:World} {ops:Array Oper} {rest:List Oper} {st:Bool} {G:World→Prop}
variable {d:Nat} {op:Op} {ty:TypeId} {pos:String} {aft:Array Edge}
theorem wlp {r v:Value} (hp:PV P n w F ⟨some d,op,ty,pos,aft,none⟩ r) (hv:r = v) (h:wpl P n ops rest Q (F.put d v) w):wpl P n ops (⟨some d,op,ty,pos,aft,none⟩ :: rest) Q F w:=qNw rfl hp hv h
theorem wlg {r v:Value} {j:Nat} {want c:Bool} {e:Nat} (hj:kF ops j = some e) (hc:ev n F (.tmp e) = .bool c)
  (hp:(c == want) = true→PV P n w F ⟨some d,op,ty,pos,aft,some (j,want)⟩ r) (hv:(c == want) = true→r = v) (h:wpl P n ops rest Q (F.put d (Sel (c == want) v)) w):wpl P n ops (⟨some d,op,ty,pos,aft,some (j,want)⟩ :: rest) Q F w:=qVo rfl hj hc hp hv h
theorem jBh {r v:Value} {j:Nat} {want b c:Bool} {e:Nat} (hj:kF ops j = some e) (hc:ev n F (.tmp e) = Sel b (.bool c))
  (hp:b = true→(b && (c == want)) = true→PV P n w F ⟨some d,op,ty,pos,aft,some (j,want)⟩ r) (hv:b = true→(b && (c == want)) = true→r = v) (h:wpl P n ops rest Q (F.put d (Sel (b && (c == want)) v)) w):wpl P n ops (⟨some d,op,ty,pos,aft,some (j,want)⟩ :: rest) Q F w:=qSa rfl hj hc hp hv h
theorem jBi {r v:Value} {j:Nat} {want b c:Bool} {e:Nat} (he:jZ op = false) (hj:kF ops j = some e) (hc:ev n F (.tmp e) = Sel b (.bool c))
  (hp:∀ w,G w→b = true→(b && (c == want)) = true→PV P n w F ⟨some d,op,ty,pos,aft,some (j,want)⟩ r) (hv:b = true→(b && (c == want)) = true→r = v) (h:wpd P n ops st G rest Q (F.put d (Sel (b && (c == want)) v)) w):wpd P n ops st G (⟨some d,op,ty,pos,aft,some (j,want)⟩ :: rest) Q F w:=qSb he rfl hj hc (fun a b c d=>hp c d a b) hv h
theorem wls {R:Value→World→Prop} (hs:StepF P n ⟨some d,op,ty,pos,aft,none⟩ F w R) (h:∀ v w',R v w'→wpl P n ops rest Q (F.put d v) w'):wpl P n ops (⟨some d,op,ty,pos,aft,none⟩ :: rest) Q F w:=qEr rfl hs h
theorem zG {R:Value→World→Prop} (hs:StepF P n ⟨none,op,ty,pos,aft,none⟩ F w R) (h:∀ v w',R v w'→wpl P n ops rest Q F w'):wpl P n ops (⟨none,op,ty,pos,aft,none⟩ :: rest) Q F w:=qEr rfl hs h
theorem wdp {r v:Value} (he:jZ op = false) (hp:∀ w,G w→PV P n w F ⟨some d,op,ty,pos,aft,none⟩ r) (hv:r = v) (h:wpd P n ops st G rest Q (F.put d v) w):wpd P n ops st G (⟨some d,op,ty,pos,aft,none⟩ :: rest) Q F w:=qNy he rfl hp hv h
theorem wdg {r v:Value} {j:Nat} {want c:Bool} {e:Nat} (he:jZ op = false) (hj:kF ops j = some e) (hc:ev n F (.tmp e) = .bool c)
  (hp:∀ w,G w→(c == want) = true→PV P n w F ⟨some d,op,ty,pos,aft,some (j,want)⟩ r) (hv:(c == want) = true→r = v) (h:wpd P n ops st G rest Q (F.put d (Sel (c == want) v)) w):wpd P n ops st G (⟨some d,op,ty,pos,aft,some (j,want)⟩ :: rest) Q F w:=qVp he rfl hj hc (fun a b c=>hp b c a) hv h
theorem wds {R:Value→World→Prop} (he:jZ op = true) (hs:StepF P n ⟨some d,op,ty,pos,aft,none⟩ F w R) (h:∀ v w',R v w'→G w'∧wpd P n ops st G rest Q (F.put d v) w'):wpd P n ops st G (⟨some d,op,ty,pos,aft,none⟩ :: rest) Q F w:=qNx he rfl hs h
theorem kH {R:Value→World→Prop} (he:jZ op = true) (hn:qFe false ⟨none,op,ty,pos,aft,none⟩ = false) (hs:StepF P n ⟨none,op,ty,pos,aft,none⟩ F w R) (h:∀ v w',R v w'→wpd P n ops false G rest Q F w'):wpd P n ops false G (⟨none,op,ty,pos,aft,none⟩ :: rest) Q F w:=qGf he hn rfl hs h
theorem qSc {R:Value→World→Prop} (he:jZ op = true) (hn:qFe false ⟨some d,op,ty,pos,aft,none⟩ = false) (hs:StepF P n ⟨some d,op,ty,pos,aft,none⟩ F w R) (h:∀ v w',R v w'→wpd P n ops false G rest Q (F.put d v) w'):wpd P n ops false G (⟨some d,op,ty,pos,aft,none⟩ :: rest) Q F w:=qGf he hn rfl hs h
end
section
variable {P:Program} {n:FrK} {w0 w:World} {M:List Nat} {L:List Ent} {F:Fr} {d:Option Tmp} {ty:TypeId} {pos:String} {aft:Array Edge} {g:Option (Nat × Bool)} {x y:Operand} {t tb:TypeId}
theorem qAp {c0:Value} (hp:Hp w0 M w L) (hx:ev n F x = c0) (h1:wK c0 = true):StepF P n ⟨d,.box t x,ty,pos,aft,g⟩ F w (fun u w'=>∃ b,u = .pointer (some ⟨b,0,none⟩)∧Hp w0 M w' (blk b 1 (qV [c0]) t :: L)):=qAj hp hx (by cases c0<;>first|rfl|cases h1) rfl
theorem qBm {c0:Value} (hp:Hp w0 M w L) (hz:TZero P t c0) (h1:wK c0 = true):StepF P n ⟨d,.alloc t,ty,pos,aft,g⟩ F w (fun u w'=>∃ b,u = .pointer (some ⟨b,0,none⟩)∧Hp w0 M w' (blk b 1 (qV [c0]) t :: L)):=zR hp hz (by cases c0<;>first|rfl|cases h1) rfl
theorem xZ {c0:Value} {b o m:Nat} {f:Fr} (hp:Hp w0 M w L) (i:Nat) (hx:ev n F x = .pointer (some ⟨b,o,none⟩)) (hy:ev n F y = c0) (h1:wK c0 = true) (hi:L[i]? = some (blk b m f tb)) (hk:TSize P t 1) (ho:Nat.ble (o + 1) m = true) :
  StepF P n ⟨d,.store t x y,ty,pos,aft,g⟩ F w (fun u w'=>u = undef∧Hp w0 M w' (L.set i (blk b m (yW f o [c0]) tb))):=zD hp i hx hy hi (by cases c0<;>first|rfl|cases h1) hk ho (by simp [h1])
theorem uY {c0 c1:Value} (hp:Hp w0 M w L) (hx:ev n F x = (.agg #[c0,c1])):StepF P n ⟨d,.box t x,ty,pos,aft,g⟩ F w (fun u w'=>∃ b,u = .pointer (some ⟨b,0,none⟩)∧Hp w0 M w' (blk b 2 (qV [c0,c1]) t :: L)):=qAj hp hx rfl rfl
theorem vA {c0 c1:Value} (hp:Hp w0 M w L) (hz:TZero P t (.agg #[c0,c1])):StepF P n ⟨d,.alloc t,ty,pos,aft,g⟩ F w (fun u w'=>∃ b,u = .pointer (some ⟨b,0,none⟩)∧Hp w0 M w' (blk b 2 (qV [c0,c1]) t :: L)):=zR hp hz rfl rfl
theorem yN {c0 c1:Value} {b o m:Nat} {f:Fr} (hp:Hp w0 M w L) (i:Nat) (hx:ev n F x = .pointer (some ⟨b,o,none⟩)) (hy:ev n F y = (.agg #[c0,c1])) (h1:[c0,c1].all wK = true) (hi:L[i]? = some (blk b m f tb)) (hk:TSize P t 2) (ho:Nat.ble (o + 2) m = true) :
  StepF P n ⟨d,.store t x y,ty,pos,aft,g⟩ F w (fun u w'=>u = undef∧Hp w0 M w' (L.set i (blk b m (yW f o [c0,c1]) tb))):=zD hp i hx hy hi rfl hk ho h1
theorem qE1 {c0 c1 c2:Value} (hp:Hp w0 M w L) (hx:ev n F x = (.agg #[c0,c1,c2])):StepF P n ⟨d,.box t x,ty,pos,aft,g⟩ F w (fun u w'=>∃ b,u = .pointer (some ⟨b,0,none⟩)∧Hp w0 M w' (blk b 3 (qV [c0,c1,c2]) t :: L)):=qAj hp hx rfl rfl
theorem yA {c0 c1 c2:Value} (hp:Hp w0 M w L) (hz:TZero P t (.agg #[c0,c1,c2])):StepF P n ⟨d,.alloc t,ty,pos,aft,g⟩ F w (fun u w'=>∃ b,u = .pointer (some ⟨b,0,none⟩)∧Hp w0 M w' (blk b 3 (qV [c0,c1,c2]) t :: L)):=zR hp hz rfl rfl
theorem vK {c0 c1 c2:Value} {b o m:Nat} {f:Fr} (hp:Hp w0 M w L) (i:Nat) (hx:ev n F x = .pointer (some ⟨b,o,none⟩)) (hy:ev n F y = (.agg #[c0,c1,c2])) (h1:[c0,c1,c2].all wK = true) (hi:L[i]? = some (blk b m f tb)) (hk:TSize P t 3) (ho:Nat.ble (o + 3) m = true) :
  StepF P n ⟨d,.store t x y,ty,pos,aft,g⟩ F w (fun u w'=>u = undef∧Hp w0 M w' (L.set i (blk b m (yW f o [c0,c1,c2]) tb))):=zD hp i hx hy hi rfl hk ho h1
theorem qUs {c0 c1 c2 c3:Value} (hp:Hp w0 M w L) (hx:ev n F x = (.agg #[c0,c1,c2,c3])):StepF P n ⟨d,.box t x,ty,pos,aft,g⟩ F w (fun u w'=>∃ b,u = .pointer (some ⟨b,0,none⟩)∧Hp w0 M w' (blk b 4 (qV [c0,c1,c2,c3]) t :: L)):=qAj hp hx rfl rfl
theorem qHk {c0 c1 c2 c3:Value} (hp:Hp w0 M w L) (hz:TZero P t (.agg #[c0,c1,c2,c3])):StepF P n ⟨d,.alloc t,ty,pos,aft,g⟩ F w (fun u w'=>∃ b,u = .pointer (some ⟨b,0,none⟩)∧Hp w0 M w' (blk b 4 (qV [c0,c1,c2,c3]) t :: L)):=zR hp hz rfl rfl
theorem qHh {c0 c1 c2 c3:Value} {b o m:Nat} {f:Fr} (hp:Hp w0 M w L) (i:Nat) (hx:ev n F x = .pointer (some ⟨b,o,none⟩)) (hy:ev n F y = (.agg #[c0,c1,c2,c3])) (h1:[c0,c1,c2,c3].all wK = true) (hi:L[i]? = some (blk b m f tb)) (hk:TSize P t 4) (ho:Nat.ble (o + 4) m = true) :
  StepF P n ⟨d,.store t x y,ty,pos,aft,g⟩ F w (fun u w'=>u = undef∧Hp w0 M w' (L.set i (blk b m (yW f o [c0,c1,c2,c3]) tb))):=zD hp i hx hy hi rfl hk ho h1
theorem qOj {c0 c1 c2 c3 c4:Value} (hp:Hp w0 M w L) (hx:ev n F x = (.agg #[c0,c1,c2,c3,c4])):StepF P n ⟨d,.box t x,ty,pos,aft,g⟩ F w (fun u w'=>∃ b,u = .pointer (some ⟨b,0,none⟩)∧Hp w0 M w' (blk b 5 (qV [c0,c1,c2,c3,c4]) t :: L)):=qAj hp hx rfl rfl
theorem wN {c0 c1 c2 c3 c4:Value} (hp:Hp w0 M w L) (hz:TZero P t (.agg #[c0,c1,c2,c3,c4])):StepF P n ⟨d,.alloc t,ty,pos,aft,g⟩ F w (fun u w'=>∃ b,u = .pointer (some ⟨b,0,none⟩)∧Hp w0 M w' (blk b 5 (qV [c0,c1,c2,c3,c4]) t :: L)):=zR hp hz rfl rfl
theorem qAk {c0 c1 c2 c3 c4:Value} {b o m:Nat} {f:Fr} (hp:Hp w0 M w L) (i:Nat) (hx:ev n F x = .pointer (some ⟨b,o,none⟩)) (hy:ev n F y = (.agg #[c0,c1,c2,c3,c4])) (h1:[c0,c1,c2,c3,c4].all wK = true) (hi:L[i]? = some (blk b m f tb)) (hk:TSize P t 5) (ho:Nat.ble (o + 5) m = true) :
  StepF P n ⟨d,.store t x y,ty,pos,aft,g⟩ F w (fun u w'=>u = undef∧Hp w0 M w' (L.set i (blk b m (yW f o [c0,c1,c2,c3,c4]) tb))):=zD hp i hx hy hi rfl hk ho h1
theorem qHj {c0 c1 c2 c3 c4 c5:Value} (hp:Hp w0 M w L) (hz:TZero P t (.agg #[c0,c1,c2,c3,c4,c5])):StepF P n ⟨d,.alloc t,ty,pos,aft,g⟩ F w (fun u w'=>∃ b,u = .pointer (some ⟨b,0,none⟩)∧Hp w0 M w' (blk b 6 (qV [c0,c1,c2,c3,c4,c5]) t :: L)):=zR hp hz rfl rfl
theorem qHg {c0 c1 c2 c3 c4 c5:Value} {b o m:Nat} {f:Fr} (hp:Hp w0 M w L) (i:Nat) (hx:ev n F x = .pointer (some ⟨b,o,none⟩)) (hy:ev n F y = (.agg #[c0,c1,c2,c3,c4,c5])) (h1:[c0,c1,c2,c3,c4,c5].all wK = true) (hi:L[i]? = some (blk b m f tb)) (hk:TSize P t 6) (ho:Nat.ble (o + 6) m = true) :
  StepF P n ⟨d,.store t x y,ty,pos,aft,g⟩ F w (fun u w'=>u = undef∧Hp w0 M w' (L.set i (blk b m (yW f o [c0,c1,c2,c3,c4,c5]) tb))):=zD hp i hx hy hi rfl hk ho h1
theorem kU {c0 c1 c2 c3 c4 c5 c6 c7 c8 c9 c10 c11 c12:Value} (hp:Hp w0 M w L) (hx:ev n F x = (.agg #[c0,c1,c2,c3,c4,c5,c6,c7,c8,c9,c10,c11,c12])):StepF P n ⟨d,.box t x,ty,pos,aft,g⟩ F w (fun u w'=>∃ b,u = .pointer (some ⟨b,0,none⟩)∧Hp w0 M w' (blk b 13 (qV [c0,c1,c2,c3,c4,c5,c6,c7,c8,c9,c10,c11,c12]) t :: L)):=qAj hp hx rfl rfl
theorem qOk {c0 c1 c2 c3 c4 c5 c6 c7 c8 c9 c10 c11 c12:Value} (hp:Hp w0 M w L) (hz:TZero P t (.agg #[c0,c1,c2,c3,c4,c5,c6,c7,c8,c9,c10,c11,c12])):StepF P n ⟨d,.alloc t,ty,pos,aft,g⟩ F w (fun u w'=>∃ b,u = .pointer (some ⟨b,0,none⟩)∧Hp w0 M w' (blk b 13 (qV [c0,c1,c2,c3,c4,c5,c6,c7,c8,c9,c10,c11,c12]) t :: L)):=zR hp hz rfl rfl
theorem qOb {c0 c1 c2 c3 c4 c5 c6 c7 c8 c9 c10 c11 c12:Value} {b o m:Nat} {f:Fr} (hp:Hp w0 M w L) (i:Nat) (hx:ev n F x = .pointer (some ⟨b,o,none⟩)) (hy:ev n F y = (.agg #[c0,c1,c2,c3,c4,c5,c6,c7,c8,c9,c10,c11,c12])) (h1:[c0,c1,c2,c3,c4,c5,c6,c7,c8,c9,c10,c11,c12].all wK = true) (hi:L[i]? = some (blk b m f tb)) (hk:TSize P t 13) (ho:Nat.ble (o + 13) m = true) :
  StepF P n ⟨d,.store t x y,ty,pos,aft,g⟩ F w (fun u w'=>u = undef∧Hp w0 M w' (L.set i (blk b m (yW f o [c0,c1,c2,c3,c4,c5,c6,c7,c8,c9,c10,c11,c12]) tb))):=zD hp i hx hy hi rfl hk ho h1
end
theorem fI {r:Value} {k:IntKind} {a:Int} (h:r = .int k a):r = .int k a:=h
theorem fB {r:Value} {a:Bool} (h:r = .bool a):r = .bool a:=h
theorem fP {r:Value} {b o:Nat} (h:r = .pointer (some ⟨b,o,none⟩)):r = .pointer (some ⟨b,o,none⟩):=h
theorem fS {r:Value} {s:Option Addr} {m c:Nat} (h:r = .slice s m c):r = .slice s m c:=h
theorem fT {r:Value} {s:ByteArray} (h:r = .string s):r = .string s:=h
theorem fF {r:Value} {f:Fn} {a b:Array Value} (h:r = .func f a b):r = .func f a b:=h
theorem fF0 {r:Value} {f:Fn} (h:r = .func f #[] #[]):r = .func f #[] #[]:=h
theorem fF1 {r:Value} {f:Fn} {a:Value} (h:r = .func f #[] #[a]):r = .func f #[] #[a]:=h
theorem fF2 {r:Value} {f:Fn} {a b:Value} (h:r = .func f #[] #[a,b]):r = .func f #[] #[a,b]:=h
theorem fM {r:Value} {s:Option Nat} (h:r = .map s):r = .map s:=h
theorem fU {r:Value} {vs:Array Value} (h:r = .tuple vs):r = .tuple vs:=h
theorem fA2 {r c0 c1:Value} (h:r = .agg #[c0,c1]):r = .agg #[c0,c1]:=h
theorem fA3 {r c0 c1 c2:Value} (h:r = .agg #[c0,c1,c2]):r = .agg #[c0,c1,c2]:=h
theorem fA4 {r c0 c1 c2 c3:Value} (h:r = .agg #[c0,c1,c2,c3]):r = .agg #[c0,c1,c2,c3]:=h
theorem fA5 {r c0 c1 c2 c3 c4:Value} (h:r = .agg #[c0,c1,c2,c3,c4]):r = .agg #[c0,c1,c2,c3,c4]:=h
theorem fA6 {r c0 c1 c2 c3 c4 c5:Value} (h:r = .agg #[c0,c1,c2,c3,c4,c5]):r = .agg #[c0,c1,c2,c3,c4,c5]:=h
theorem qQ2 {r c0 c1 c2 c3 c4 c5 c6 c7 c8 c9 c10 c11 c12:Value} (h:r = .agg #[c0,c1,c2,c3,c4,c5,c6,c7,c8,c9,c10,c11,c12]):r = .agg #[c0,c1,c2,c3,c4,c5,c6,c7,c8,c9,c10,c11,c12]:=h
end Go.Eng
namespace Go.Eng
structure KeyEnc (α:Type) [DecidableEq α] where
 kd:TypeDesc
 enc:α→Value
 same:∀ a b,Instr.sameNow kd (enc a) (enc b) = some (decide (a = b))
 bits:∀ a,Instr.sameBits 10000 (enc a) (enc a) = true
 plain:∀ (P:Program) (w:World) (e:Bool) (t:TypeId) (a:α),P.underlying t = some kd→(Instr.checkKey e 10000 t (enc a)).run P w = .ok () w
def kInt:KeyEnc Int where
 kd:=.int .i64
 enc a:=.int .i64 a
 same a b:=by simp [Instr.sameNow];rfl
 bits a:=by simp [Instr.sameBits]
 plain P w e t a h:=by
  unfold Instr.checkKey
  simp [zE h]
theorem qH3 (a b:ByteArray):(a == b) = decide (a = b):=by
 rw [beq_toListBytes,qDt]
def jDb:KeyEnc ByteArray where
 kd:=.string
 enc a:=.string a
 same a b:=by simp only [Instr.sameNow,qH3]
 bits a:=by simp [Instr.sameBits,qH3]
 plain P w e t a h:=by
  unfold Instr.checkKey
  simp [zE h]
section
variable {α:Type} [DecidableEq α] (K:KeyEnc α)
def qBe (x:α × Value × Nat):MapEntry:={ key:=K.enc x.1,val:=x.2.1,born:=x.2.2 }
def lk (l:List (α × Value × Nat)) (a:α):Option Value:=(l.find? (fun x=>decide (x.1 = a))).map (·.2.1)
structure MOk (l:List (α × Value × Nat)) (clock:Nat):Prop where
 born:∀ x ∈ l,x.2.2 < clock
 nd:(l.map (·.2.2)).Nodup
 keys:(l.map (·.1)).Nodup
def qTm (f:α→Option Value):Obj→Prop:=fun o=>∃ (l:List (α × Value × Nat)) (clock:Nat),o = .map (l.map (qBe K)).toArray clock∧(∀ a,lk l a = f a)∧MOk l clock
omit [DecidableEq α] in
theorem MOk.upd {l:List (α × Value × Nat)} {clock:Nat} (h:MOk l clock) (k:Nat) (v:Value):MOk (l.modify k fun x=>(x.1,v,x.2.2)) clock:=by
 have e1:(l.modify k fun x=>(x.1,v,x.2.2)).map (·.2.2) = l.map (·.2.2):=by
  apply List.ext_getElem?
  intro i
  simp only [List.getElem?_map,List.getElem?_modify]
  by_cases hi:k = i<;>simp [hi]<;>cases l[i]?<;>rfl
 have e2:(l.modify k fun x=>(x.1,v,x.2.2)).map (·.1) = l.map (·.1):=by
  apply List.ext_getElem?
  intro i
  simp only [List.getElem?_map,List.getElem?_modify]
  by_cases hi:k = i<;>simp [hi]<;>cases l[i]?<;>rfl
 refine ⟨fun x hx=>?_,by rw [e1];exact h.nd,by rw [e2];exact h.keys⟩
 have:x.2.2 ∈ l.map (·.2.2):=by rw [← e1];exact List.mem_map_of_mem hx
 obtain ⟨y,hy,e⟩:=List.mem_map.1 this
 rw [← e]
 exact h.born y hy
theorem MOk.push {l:List (α × Value × Nat)} {clock:Nat} (h:MOk l clock) {a:α} {v:Value} (hn:lk l a = none):MOk (l ++ [(a,v,clock)]) (clock + 1):=by
 refine ⟨fun x hx=>?_,?_,?_⟩
 ·rcases List.mem_append.1 hx with hx|hx
  ·exact Nat.lt_succ_of_lt (h.born x hx)
  ·rw [List.mem_singleton.1 hx]
   exact Nat.lt_succ_self _
 ·rw [List.map_append,List.nodup_append]
  refine ⟨h.nd,by simp,?_⟩
  intro x hx y hy e
  obtain ⟨z,hz,rfl⟩:=List.mem_map.1 hx
  have:y = clock:=by simpa using hy
  have:=h.born z hz
  omega
 ·rw [List.map_append,List.nodup_append]
  refine ⟨h.keys,by simp,?_⟩
  intro x hx y hy e
  obtain ⟨z,hz,rfl⟩:=List.mem_map.1 hx
  have hy:y = a:=by simpa using hy
  subst hy
  unfold lk at hn
  rw [Option.map_eq_none_iff,List.find?_eq_none] at hn
  exact hn z hz (by simpa using e)
def fnd (a:α):List (α × Value × Nat)→Nat→Option (Nat × Value)
 | [],_=>none
 | x :: l,i=>if a = x.1 then some (i,x.2.1) else fnd a l (i + 1)
theorem qFk (a:α):∀ (l:List (α × Value × Nat)) (i:Nat),Instr.findNow K.kd (K.enc a) (l.map (qBe K)) i = some (fnd a l i)
 | [],i=>rfl
 | x :: l,i=>by
  simp only [List.map_cons,Instr.findNow,qBe,K.same,fnd]
  by_cases h:a = x.1
  ·simp [h]
  ·simp only [h,decide_false,if_false]
   exact qFk a l (i + 1)
theorem qI6 (a:α):∀ (l:List (α × Value × Nat)) (i:Nat),(fnd a l i).map (·.2) = lk l a
 | [],i=>rfl
 | x :: l,i=>by
  simp only [fnd,lk,List.find?_cons]
  by_cases h:a = x.1
  ·simp [h]
  ·have h':¬ x.1 = a:=fun e=>h e.symm
   simp only [h,h',if_false,decide_false]
   exact qI6 a l (i + 1)
theorem qM8 (a:α) (v:Value):∀ (l:List (α × Value × Nat)) (i:Nat) (j:Nat) (u:Value),fnd a l i = some (j,u) →
  ∃ k,j = i + k∧k < l.length∧(∃ x,l[k]? = some x∧x.1 = a)∧∀ b,lk (l.modify k fun x=>(x.1,v,x.2.2)) b = if b = a then some v else lk l b
 | [],i,j,u,h=>by cases h
 | x :: l,i,j,u,h=>by
  simp only [fnd] at h
  by_cases hx:a = x.1
  ·rw [if_pos hx] at h
   cases h
   refine ⟨0,rfl,by simp,⟨x,rfl,hx.symm⟩,fun b=>?_⟩
   simp only [List.modify_zero_cons,lk,List.find?_cons]
   by_cases hb:x.1 = b
   ·have hba:b = a:=by rw [hx,hb]
    simp [hb,hba]
   ·have hba:¬ b = a:=by rw [hx];exact fun e=>hb e.symm
    simp [hb,hba]
  ·rw [if_neg hx] at h
   obtain ⟨k,hj,hk,⟨y,hy,hya⟩,hb⟩:=qM8 a v l (i + 1) j u h
   refine ⟨k + 1,by omega,by simp;omega,⟨y,by simpa using hy,hya⟩,fun b=>?_⟩
   have:=hb b
   simp only [lk,List.modify_succ_cons,List.find?_cons] at this ⊢
   by_cases hxb:x.1 = b
   ·have hba:¬ b = a:=fun e=>hx (by rw [← e,hxb])
    simp [hxb,hba]
   ·simp only [hxb,decide_false]
    exact this
theorem qTo (a:α) (v:Value) (c:Nat) (l:List (α × Value × Nat)) (h:lk l a = none) (b:α):lk (l ++ [(a,v,c)]) b = if b = a then some v else lk l b:=by
 unfold lk at *
 rw [List.find?_append]
 by_cases hb:b = a
 ·subst hb
  rw [Option.map_eq_none_iff] at h
  simp [h]
 ·rw [if_neg hb]
  cases hf:l.find? (fun x=>decide (x.1 = b)) with
  | some y=>simp
  | none=>
   have:¬ a = b:=fun e=>hb e.symm
   simp [this]
variable {P:Program} {w0 w:World} {M:List Nat} {L:List Ent}
theorem qB0 {t:TypeId} (ht:P.underlying t = some K.kd) (a:α) (l:List (α × Value × Nat)):(Instr.findKey t (K.enc a) (l.map (qBe K))).run P w = .ok (fnd a l 0) w:=by
 simp only [Instr.findKey,Sem.run_bind,zE ht,Result.andThen_ok,qFk]
 rfl
theorem qOl {mt kt et:TypeId} {z:Value} {b:Nat} {f:α→Option Value} {o:Obj} (hm:P.underlying mt = some (.map kt et)) (hk:P.underlying kt = some K.kd) (hz:TZero P et z) (hb:w.heap[b]? = some o) (ho:qTm K f o) (a:α) :
  (Instr.lookup mt (.map (some b)) (K.enc a) false).run P w = .ok ((f a).getD z) w:=by
 obtain ⟨l,clock,rfl,hl,hok⟩:=ho
 have hg:(getObj b).run P w = .ok (.map (l.map (qBe K)).toArray clock) w:=by simp [getObj,Sem.run,hb]
 simp only [Instr.lookup,Sem.run_bind,zE hm,Result.andThen_ok,hg,K.plain P w _ kt a hk,Sem.run_pure,qB0 K hk]
 rw [← hl a,← qI6 a l 0]
 cases hf:fnd a l 0 with
 | none=>simp [hz.run]
 | some y=>simp
theorem qSx {mt kt et:TypeId} {b:Nat} {f:α→Option Value} {o:Obj} (hm:P.underlying mt = some (.map kt et)) (hk:P.underlying kt = some K.kd) (hb:w.heap[b]? = some o) (ho:qTm K f o) (a:α) (v:Value) :
  ∃ w' o',(Instr.mapUpdate mt (.map (some b)) (K.enc a) v).run P w = .ok () w'∧Keeps [b] w w'∧w'.heap[b]? = some o'∧qTm K (fun x=>if x = a then some v else f x) o':=by
 obtain ⟨l,clock,rfl,hl,hok⟩:=ho
 have hg:(getObj b).run P w = .ok (.map (l.map (qBe K)).toArray clock) w:=by simp [getObj,Sem.run,hb]
 have hlt:b < w.heap.size:=(Array.getElem?_eq_some_iff.1 hb).1
 have hset:∀ o',(setObj b o').run P w = .ok () { w with heap:=w.heap.setIfInBounds b o' }:=by
  intro o'
  simp [setObj,Sem.run,hb]
 have hkeep:∀ o',Keeps [b] w { w with heap:=w.heap.setIfInBounds b o' }:=fun o'=>⟨rfl,rfl,rfl,by simp,fun k _ hk'=>by
  show (w.heap.setIfInBounds b o')[k]? = _
  rw [Array.getElem?_setIfInBounds,if_neg (by simp at hk';omega)]⟩
 have hget:∀ o',(w.heap.setIfInBounds b o')[b]? = some o':=fun o'=>by simp [hlt]
 cases hf:fnd a l 0 with
 | none=>
  refine ⟨_,_,?_,hkeep _,hget _,l ++ [(a,v,clock)],clock + 1,rfl,fun x=>?_,hok.push (by rw [← qI6 a l 0,hf];rfl)⟩
  ·simp only [Instr.mapUpdate,Sem.run_bind,zE hm,Result.andThen_ok,hg,K.plain P w _ kt a hk,qB0 K hk,hf,hset]
   simp [qBe]
  ·rw [qTo a v clock l (by rw [← qI6 a l 0,hf];rfl),hl x]
 | some y=>
  obtain ⟨j,u⟩:=y
  obtain ⟨k,hj,hk',⟨x,hx,hxa⟩,hlk⟩:=qM8 a v l 0 j u hf
  have hjk:j = k:=by omega
  subst hjk
  refine ⟨_,_,?_,hkeep _,hget _,l.modify j fun x=>(x.1,v,x.2.2),clock,rfl,fun x=>?_,hok.upd _ _⟩
  ·have hkey:(((l.map (qBe K)).toArray[j]?).map (·.key)).getD (K.enc a) = K.enc a:=by
    simp [hx,qBe,hxa]
   simp only [Instr.mapUpdate,Sem.run_bind,zE hm,Result.andThen_ok,hg,K.plain P w _ kt a hk,qB0 K hk,hf,hkey,Instr.keyThatStays,K.bits,if_true,Sem.run_pure,hset]
   congr 3
   congr 1
   apply Array.ext_getElem?
   intro i
   simp only [Array.getElem?_modify,List.getElem?_toArray,List.getElem?_map,List.getElem?_modify]
   by_cases hij:j = i
   ·subst hij
    simp [hx,qBe,hxa]
   ·simp [hij]
  ·rw [hlk x,hl x]
end
section
variable {α:Type} [DecidableEq α] {K:KeyEnc α} {P:Program} {n:FrK} {w0 w:World} {M:List Nat} {L:List Ent} {F:Fr} {d:Option Tmp} {ty:TypeId} {pos:String} {aft:Array Edge} {g:Option (Nat × Bool)} {x y z:Operand}
def qAv (K:KeyEnc α) (b:Nat) (f:α→Option Value):Ent:=(some b,qTm K f)
theorem qA4 {mt kt et:TypeId} {zv:Value} {b:Nat} {f:α→Option Value} {a:α} (hp:Hp w0 M w L) (i:Nat) (hi:L[i]? = some (qAv K b f)) (hx:ev n F x = .map (some b)) (hy:ev n F y = K.enc a)
  (hm:P.underlying mt = some (.map kt et)) (hk:P.underlying kt = some K.kd) (hz:TZero P et zv):PV P n w F ⟨d,.lookup mt x y false,ty,pos,aft,g⟩ ((f a).getD zv):=by
 obtain ⟨o,ho,hf⟩:=hp.has i _ hi b rfl
 simp [PV,execOp,hx,hy,qOl K hm hk hz ho hf a]
theorem qMy {mt kt et:TypeId} {b:Nat} {f:α→Option Value} {a:α} {v:Value} (hp:Hp w0 M w L) (i:Nat) (hi:L[i]? = some (qAv K b f)) (hx:ev n F x = .map (some b)) (hy:ev n F y = K.enc a) (hv:ev n F z = v)
  (hm:P.underlying mt = some (.map kt et)) (hk:P.underlying kt = some K.kd) :
  StepF P n ⟨d,.mapUpdate mt x y z,ty,pos,aft,g⟩ F w (fun u w'=>u = undef∧Hp w0 M w' (L.set i (qAv K b (fun x=>if x = a then some v else f x)))):=by
 obtain ⟨o,ho,hf⟩:=hp.has i _ hi b rfl
 obtain ⟨w',o',hr,hk',hb',hf'⟩:=qSx (P:=P) K hm hk ho hf a v
 refine qC6 (w':=w') ?_ ⟨rfl,hp.upd hi (by simpa [qAv] using hk') ?_⟩
 ·simp [execOp,hx,hy,hv,hr]
 ·intro b1 hb1
  have:b1 = b:=by simpa [qAv,eq_comm] using hb1
  subst this
  exact ⟨.inl rfl,o',hb',hf'⟩
theorem kA {mt:TypeId} (K:KeyEnc α) (hp:Hp w0 M w L) :
  StepF P n ⟨d,.makeMap mt none,ty,pos,aft,g⟩ F w (fun u w'=>∃ b,u = .map (some b)∧Hp w0 M w' (qAv K b (fun _=>none) :: L)):=by
 refine kT (v:=.map (some w.heap.size)) (w':=w.alloc (.map #[] 0)) ?_ ⟨_,rfl,hp.alloc _ ?_⟩
 ·simp [execOp,Instr.makeMap,newObj,Sem.run]
 ·exact ⟨[],0,rfl,fun a=>rfl,by simp,by simp,by simp⟩
def wH (S:α→Bool):α→Option Value:=fun a=>if S a = true then some (.bool true) else none
omit [DecidableEq α] in
theorem qAz (S:α→Bool) (a:α):(wH S a).getD (.bool false) = .bool (S a):=by
 unfold wH
 cases S a<;>rfl
omit [DecidableEq α] in
theorem qGk (S:α→Bool) (h:∀ a,S a = false):wH S = fun _=>none:=by
 funext a
 simp [wH,h a]
theorem qOh (S:α→Bool) (a:α):(fun x=>if x = a then some (.bool true) else wH S x) = wH (fun x=>decide (x = a) || S x):=by
 funext x
 unfold wH
 by_cases h:x = a<;>simp [h]
theorem qA3 {mt kt et:TypeId} {b:Nat} {S:α→Bool} {a:α} (hp:Hp w0 M w L) (i:Nat) (hi:L[i]? = some (qAv K b (wH S))) (hx:ev n F x = .map (some b)) (hy:ev n F y = K.enc a) (hv:ev n F z = .bool true)
  (hm:P.underlying mt = some (.map kt et)) (hk:P.underlying kt = some K.kd) :
  StepF P n ⟨d,.mapUpdate mt x y z,ty,pos,aft,g⟩ F w (fun u w'=>u = undef∧Hp w0 M w' (L.set i (qAv K b (wH (fun x=>decide (x = a) || S x))))):=by
 rw [← qOh]
 exact qMy hp i hi hx hy hv hm hk
end
section
variable {α:Type} [DecidableEq α] {K:KeyEnc α} {P:Program} {n:FrK} {w0 w:World} {M:List Nat} {L:List Ent} {F:Fr} {d:Option Tmp} {ty:TypeId} {pos:String} {aft:Array Edge} {g:Option (Nat × Bool)} {x y z:Operand}
def jDa (K:KeyEnc α) (b:Nat) (l:List (α × Value × Nat)) (clock:Nat):Ent:=(some b,fun o=>o = .map (l.map (qBe K)).toArray clock)
def jD9 (r b since:Nat) (seen:Array Nat):Ent:=(some r,fun o=>o = .mapIter (some b) since seen since)
def jD8 (l:List (α × Value × Nat)) (seen:Array Nat):Nat:=(l.filter fun x=>!decide (x.2.2 ∈ seen)).length
omit [DecidableEq α] in
end
end Go.Eng
namespace Go.Eng
def qG4 (cs:List Value) (o:Nat):List Value→List Value
 | []=>cs
 | v :: vs=>qG4 (cs.set o v) (o + 1) vs
theorem qE0:∀ (vs cs:List Value) (o:Nat),(qG4 cs o vs).length = cs.length
 | [],_,_=>rfl
 | v :: vs,cs,o=>by simp [qG4,qE0 vs]
theorem qAg:∀ (vs cs:List Value) (o k:Nat),(vs.zipIdx k).foldl (fun (a:Array Value) (x:Value × Nat)=>a.setIfInBounds (o + x.2) x.1) cs.toArray = (qG4 cs (o + k) vs).toArray
 | [],_,_,_=>rfl
 | v :: vs,cs,o,k=>by
  simp only [List.zipIdx_cons,List.foldl_cons,qG4]
  have h:(cs.toArray).setIfInBounds (o + k) v = (cs.set (o + k) v).toArray:=by simp
  rw [h,qAg vs _ o (k + 1)]
  rfl
def qD6 (sz:Nat) (cs:List Value):List (Nat × Value)→List Value
 | []=>cs
 | (i,v) :: ps=>qD6 sz (qG4 cs (i * sz) v.cells.toList) ps
theorem qEj (place:Nat→Option (Nat × Nat)) (sz k:Nat) (hpl:∀ i,i < k→place i = some (i * sz,sz)):∀ (ps:List (Nat × Value)) (cs:List Value),cs.length = k * sz →
  (ps.all fun p=>Nat.blt p.1 k && Nat.beq p.2.cells.size sz) = true→Instr.fill place cs.toArray ps = some (qD6 sz cs ps).toArray
 | [],cs,_,_=>rfl
 | (i,v) :: ps,cs,hl,h=>by
  simp only [List.all_cons,Bool.and_eq_true] at h
  obtain ⟨⟨h1,h2⟩,h3⟩:=h
  have hi:=wE h1
  have hs:v.cells.size = sz:=Nat.eq_of_beq_eq_true h2
  have hle:i * sz + sz≤k * sz:=by
   rw [← Nat.succ_mul]
   exact Nat.mul_le_mul_right sz hi
  have hz:v.cells.zipIdx.foldl (fun cs (x:Value × Nat)=>cs.setIfInBounds (i * sz + x.2) x.1) cs.toArray = (qG4 cs (i * sz) v.cells.toList).toArray:=by
   rw [← Array.foldl_toList,Array.toList_zipIdx]
   have:=qAg v.cells.toList cs (i * sz) 0
   simpa using this
  simp only [Instr.fill,hpl i hi]
  rw [if_neg (by simp [hs,hl];omega)]
  rw [hz]
  exact qEj place sz k hpl ps _ (by rw [qE0];exact hl) h3
def qS7 (P:Program) (t k:Nat):Prop:=∃ fs,P.underlying t = some (.struct fs)∧∀ w,∃ pl:Array (Nat × Nat),(fs.mapM (fun f=>do pure (f.offset,← sizeOf f.type):Field→Sem (Nat × Nat))).run P w = .ok pl w∧∀ i,i < k→pl[i]? = some (i * 1,1)
section
variable {P:Program} {n:FrK} {w0 w:World} {M:List Nat} {L:List Ent} {F:Fr} {d:Option Tmp} {ty:TypeId} {pos:String} {aft:Array Edge} {g:Option (Nat × Bool)} {x y:Operand}
theorem uR (n:FrK) (F:Fr) (ps:Array (Nat × Operand)):(ps.map fun (i,x)=>(i,ev n F x)).toList = ps.toList.map fun p=>(p.1,ev n F p.2):=by
 cases ps;simp
theorem qKe {t:TypeId} {k:Nat} {ps:Array (Nat × Operand)} {zs:List Value} (hf:qS7 P t k) (hz:TZero P t (.agg zs.toArray)) (hl:zs.length = k)
  (hall:((ps.toList.map fun p=>(p.1,ev n F p.2)).all fun p=>Nat.blt p.1 k && Nat.beq p.2.cells.size 1) = true) :
  PV P n w F ⟨d,.build t ps,ty,pos,aft,g⟩ (.agg (qD6 1 zs (ps.toList.map fun p=>(p.1,ev n F p.2))).toArray):=by
 obtain ⟨fs,ht,hw⟩:=hf
 obtain ⟨pl,hpl,hp⟩:=hw w
 have hfill:=qEj (pl[·]?) 1 k hp _ zs (by omega) hall
 simp only [PV,execOp,Instr.build,Sem.run_bind,hz.run,Result.andThen_ok,zE ht,hpl,Value.cells,uR,hfill]
 rfl
theorem qKg {t e:TypeId} {k sz:Nat} {ps:Array (Nat × Operand)} {zs:List Value} (ht:P.underlying t = some (.array k e)) (hs:TSize P e sz) (hz:TZero P t (.agg zs.toArray)) (hl:zs.length = k * sz)
  (hall:((ps.toList.map fun p=>(p.1,ev n F p.2)).all fun p=>Nat.blt p.1 k && Nat.beq p.2.cells.size sz) = true) :
  PV P n w F ⟨d,.build t ps,ty,pos,aft,g⟩ (.agg (qD6 sz zs (ps.toList.map fun p=>(p.1,ev n F p.2))).toArray):=by
 have hfill:=qEj (fun i=>some (i * sz,sz)) sz k (fun _ _=>rfl) _ zs hl hall
 simp only [PV,execOp,Instr.build,Sem.run_bind,hz.run,Result.andThen_ok,zE ht,hs.run,Value.cells,uR,hfill]
 rfl
theorem qCt:∀ (vs pre rest:List Value),vs.length≤rest.length→qG4 (pre ++ rest) pre.length vs = pre ++ vs ++ rest.drop vs.length
 | [],pre,rest,_=>by simp [qG4]
 | v :: vs,pre,[],h=>by simp at h
 | v :: vs,pre,r :: rest,h=>by
  simp only [qG4]
  have h1:(pre ++ r :: rest).set pre.length v = (pre ++ [v]) ++ rest:=by
   rw [List.set_append_right _ _ (Nat.le_refl _)]
   simp
  have:=qCt vs (pre ++ [v]) rest (by simpa using h)
  rw [h1]
  simp only [List.length_append,List.length_cons,List.length_nil] at this
  rw [this]
  simp
def wP (sz:Nat):Nat→List (Nat × Value)→Bool
 | _,[]=>true
 | i,(j,v) :: ps=>Nat.beq j i && Nat.beq v.cells.size sz && wP sz (i + 1) ps
theorem qDn (sz:Nat):∀ (ps:List (Nat × Value)) (i:Nat) (pre rest:List Value),wP sz i ps = true→pre.length = i * sz→rest.length = ps.length * sz →
  qD6 sz (pre ++ rest) ps = pre ++ ps.flatMap (fun p=>p.2.cells.toList)
 | [],i,pre,rest,_,_,h=>by
  have:rest = []:=List.eq_nil_of_length_eq_zero (by simpa using h)
  simp [qD6,this]
 | (j,v) :: ps,i,pre,rest,ho,hp,hr=>by
  simp only [wP,Bool.and_eq_true] at ho
  obtain ⟨⟨h1,h2⟩,h3⟩:=ho
  have hj:j = i:=Nat.eq_of_beq_eq_true h1
  have hs:v.cells.size = sz:=Nat.eq_of_beq_eq_true h2
  subst hj
  have hlen:v.cells.toList.length = sz:=by simpa using hs
  have hr':rest.length = ps.length * sz + sz:=by rw [hr,List.length_cons,Nat.succ_mul]
  simp only [qD6]
  rw [← hp,qCt _ _ _ (by rw [hlen,hr'];omega)]
  rw [qDn sz ps (j + 1) (pre ++ v.cells.toList) (rest.drop v.cells.toList.length) h3 (by rw [List.length_append,hlen,hp,Nat.succ_mul]) (by rw [List.length_drop,hlen,hr'];omega)]
  simp
theorem qB5 (sz k:Nat):∀ (ps:List (Nat × Value)) (i:Nat),wP sz i ps = true→i + ps.length≤k→(ps.all fun p=>Nat.blt p.1 k && Nat.beq p.2.cells.size sz) = true
 | [],_,_,_=>rfl
 | (j,v) :: ps,i,ho,hl=>by
  simp only [wP,Bool.and_eq_true] at ho
  obtain ⟨⟨h1,h2⟩,h3⟩:=ho
  have hj:j = i:=Nat.eq_of_beq_eq_true h1
  simp only [List.length_cons] at hl
  simp only [List.all_cons,Bool.and_eq_true]
  exact ⟨⟨zO (by omega),h2⟩,qB5 sz k ps (i + 1) h3 (by omega)⟩
theorem qG3 {t e:TypeId} {sz k:Nat} {ps:Array (Nat × Operand)} {z:Value} {vs:List (Nat × Value)} {cs:List Value} (hp:Hp w0 M w L) (ht:P.underlying t = some (.slice e)) (hs:TSize P e sz) (hz:TZero P e z)
  (hvs:(ps.toList.map fun p=>(p.1,ev n F p.2)) = vs) (ho:wP sz 0 vs = true) (hk:vs.length = k) (hcs:vs.flatMap (fun p=>p.2.cells.toList) = cs) (hsm:k * sz≤16777216) :
  StepF P n ⟨d,.buildSlice t k ps,ty,pos,aft,g⟩ F w (fun u w'=>∃ b,u = .slice (some ⟨b,0,none⟩) k k∧Hp w0 M w' (blk b cs.length (qV cs) e :: L)):=by
 subst hvs
 obtain ⟨zs,hzs⟩:∃ zs:List Value,zs = (Array.range (k * sz)).toList.map (z.cells[· % z.cells.size]!):=⟨_,rfl⟩
 have hzl:zs.length = k * sz:=by rw [hzs];simp
 have hfill:=qEj (fun i=>some (i * sz,sz)) sz k (fun _ _=>rfl) _ zs hzl (qB5 sz k _ 0 ho (by omega))
 have hord:=qDn sz (ps.toList.map fun p=>(p.1,ev n F p.2)) 0 [] zs ho (by simp) (by rw [hzl,hk])
 simp only [List.nil_append] at hord
 rw [hord,hcs] at hfill
 refine kT (v:=.slice (some ⟨w.heap.size,0,none⟩) k k) (w':=w.alloc (.cells cs.toArray e)) ?_ ⟨_,rfl,hp.alloc _ ?_⟩
 ·have hbig:¬ k * sz > 2 ^ 24:=by
   have:(2:Nat) ^ 24 = 16777216:=rfl
   omega
  by_cases h0:k * sz = 0
  ·have hzn:zs = []:=List.eq_nil_of_length_eq_zero (by omega)
   rw [hzn] at hfill
   have hcsn:Array.map (fun x=>(#[]:Array Value)[x % (#[]:Array Value).size]!) (Array.range (k * sz)) = (#[]:Array Value):=by rw [h0];simp
   simp only [execOp,Instr.buildSlice,Sem.run_bind,zE ht,Result.andThen_ok,hs.run,if_neg hbig,if_pos h0,Sem.run_pure,uR]
   rw [hcsn]
   simp [newRow,newObj,Sem.run,hfill]
  ·have hzz:Array.map (fun x=>z.cells[x % z.cells.size]!) (Array.range (k * sz)) = zs.toArray:=by
    rw [hzs]
    apply Array.ext'
    simp
   simp only [execOp,Instr.buildSlice,Sem.run_bind,zE ht,Result.andThen_ok,hs.run,if_neg hbig,if_neg h0,hz.run,Sem.run_pure,uR]
   rw [hzz]
   simp [newRow,newObj,Sem.run,hfill]
 ·show _ = _
  rw [qFj]
end
def qZg (e size cap n:Nat) (xs:List Value):Obj→Prop:=fun o=>∃ cur,o = .cells cur e (0,0)∧cur.size = cap * size∧cur.toList.take (n * size) = xs
def qZd:Value→Nat
 | .slice _ _ c=>c
 | _=>0
def qEb (v:Value) (e size n:Nat) (xs:List Value):Ent:=(v.ownBlock,qZg e size (qZd v) n xs)
def SV (v:Value) (n:Nat):Prop:=(v = .slice none 0 0∧n = 0)∨∃ g cap,v = .slice (some ⟨g,0,none⟩) n cap∧n≤cap∧cap≤maxLen
theorem SV.nil:SV (.slice none 0 0) 0:=.inl ⟨rfl,rfl⟩
theorem SV.ex {v:Value} {n:Nat} (h:SV v n):∃ s c,v = .slice s n c:=by
 rcases h with ⟨rfl,rfl⟩|⟨g,cap,rfl,_⟩
 ·exact ⟨_,_,rfl⟩
 ·exact ⟨_,_,rfl⟩
section
variable {w0 w w':World} {M:List Nat} {L:List Ent} {v:Value} {e size n:Nat} {xs:List Value}
theorem Hp.addNil (h:Hp w0 M w L) (φ:Obj→Prop):Hp w0 M w ((none,φ) :: L):=h.add .refl (by simp)
theorem Hp.owns (h:Hp w0 M w L) {i:Nat} (hi:L[i]? = some (qEb v e size n xs)) (hv:SV v n) (hl:xs.length = n * size):w.ownsRow 0 e size v n xs:=by
 refine ⟨hl,?_⟩
 rcases hv with ⟨rfl,rfl⟩|⟨g,cap,rfl,h1,h2⟩
 ·exact .inl ⟨rfl,rfl⟩
 ·obtain ⟨o,ho,cur,rfl,hsz,htk⟩:=h.has i _ hi g rfl
  exact .inr ⟨g,cap,cur,rfl,Nat.zero_le _,ho,h1,h2,hsz,htk⟩
theorem Hp.own_cell (h:Hp w0 M w L) {i g cap j:Nat} {u:Value} (hi:L[i]? = some (qEb (.slice (some ⟨g,0,none⟩) n cap) e size n xs)) (hj:xs[j]? = some u):w.cell? ⟨g,0 + j,none⟩ = some u:=by
 obtain ⟨o,ho,cur,rfl,_,htk⟩:=h.has i _ hi g rfl
 rw [← htk,List.getElem?_take] at hj
 split at hj
 ·simpa [World.cell?,ho] using hj
 ·cases hj
end
section
variable {P:Program} {n:FrK} {w0 w:World} {M:List Nat} {L:List Ent} {F:Fr} {d:Option Tmp} {ty:TypeId} {pos:String} {aft:Array Edge} {g:Option (Nat × Bool)} {x y:Operand}
theorem qMz {t e:TypeId} {size by_:Nat} {z v:Value} {m k c:Nat} {xs news:List Value} {s:Option Addr} (hp:Hp w0 M w L) (i:Nat) (ht:P.underlying t = some (.slice e)) (hs:TSize P e size) (hby:TBytes P e by_) (hz:TZero P e z)
  (hzs:z.cells.size = size) (hpos:0 < size) (hx:ev n F x = v) (hy:ev n F y = .slice s k c) (hi:L[i]? = some (qEb v e size m xs)) (hv:SV v m) (hl:xs.length = m * size) (hn:news.length = k * size)
  (hsrc:∀ (j:Nat) (u:Value),news[j]? = some u→∃ b o,s = some ⟨b,o,none⟩∧w.cell? ⟨b,o + j,none⟩ = some u) (h1:∀ u ∈ news,wK u = true)
  (hb1:m + k≤maxLen) (hb2:(m + k) * by_≤140737488355328) :
  StepF P n ⟨d,.call ⟨.builtin .append,#[x,y],#[t,t]⟩,ty,pos,aft,g⟩ F w (fun u w'=>SV u (m + k)∧Hp w0 M w' (L.set i (qEb u e size (m + k) (xs ++ news)))):=by
 obtain ⟨inf,hinf,hib⟩:=hby.ex
 have his:inf.size = size:=by
  unfold TSize at hs
  simpa [hinf] using hs
 have hiz:inf.zero = some z:=by
  unfold TZero at hz
  simpa [hinf] using hz
 have hone:∀ u ∈ news,u.oneCell' = true:=by
  intro u hu
  have:=h1 u hu
  cases u<;>first|rfl|(cases this)
 have howns:=hp.owns hi hv hl
 by_cases hk:k = 0
 ·subst hk
  have hnn:news = []:=List.eq_nil_of_length_eq_zero (by simpa using hn)
  subst hnn
  have hrun:(Builtin.append_ #[t,t] ty #[v,.slice s 0 c]).run P w = .ok v w:=by
   rcases hv with ⟨rfl,rfl⟩|⟨gb,cap,rfl,h2,h3⟩
   ·cases s<;>simp [Builtin.append_,zE ht,hs.run,Builtin.lenOf,Builtin.firstCells,loadCells,loadCellsFrom]
   ·cases s<;>simp [Builtin.append_,zE ht,hs.run,Builtin.lenOf,Builtin.firstCells,loadCells,loadCellsFrom,h2,storeCells]
  refine kT (v:=v) (w':=w) ?_ ⟨by simpa using hv,?_⟩
  ·simp only [execOp,resolve,Sem.run_bind,Sem.run_pure,Result.andThen_ok,invoke,builtin]
   simp [hx,hy,hrun]
  ·have:L.set i (qEb v e size (m + 0) (xs ++ [])) = L:=by
    simp only [Nat.add_zero,List.append_nil]
    apply List.ext_getElem?
    intro j
    rw [List.getElem?_set]
    by_cases hij:i = j
    ·subst hij
     have hlt:=(List.getElem?_eq_some_iff.1 hi).1
     rw [if_pos rfl,if_pos hlt,hi]
    ·rw [if_neg hij]
   rw [this]
   exact hp
 ·have hnl:0 < news.length:=by rw [hn];exact Nat.mul_pos (by omega) hpos
  obtain ⟨b,o,hsa,_⟩:=hsrc 0 news[0] (List.getElem?_eq_getElem hnl)
  subst hsa
  have hcells:∀ (j:Nat) (u:Value),news[j]? = some u→w.cell? ((⟨b,o,none⟩:Addr).add j) = some u:=by
   intro j u hu
   obtain ⟨b',o',e1,e2⟩:=hsrc j u hu
   cases e1
   rw [yH]
   exact e2
  obtain ⟨v',w',hrun,hown',hgrow,_⟩:=run_append_own (P:=P) w 0 t ty e inf z size by_ ht hinf hiz his hib hzs hpos v m xs howns ⟨b,o,none⟩ k c news hn hcells hone hb1 hb2 (Nat.zero_le _)
  refine kT (v:=v') (w':=w') ?_ ⟨?_,hp.upd hi ?_ ?_⟩
  ·simp only [execOp,resolve,Sem.run_bind,Sem.run_pure,Result.andThen_ok,invoke,builtin]
   simp [hx,hy,hrun]
  ·rcases hown'.2 with ⟨h2,h3⟩|⟨g2,cap,cur,h2,_,_,h4,h5,_⟩
   ·exact .inl ⟨h2,h3⟩
   ·exact .inr ⟨g2,cap,h2,h4,h5⟩
  ·refine ⟨hgrow.os,hgrow.tape,hgrow.output,hgrow.size,fun q hq hm=>hgrow.block q hq ?_⟩
   intro e1
   apply hm
   simp only [qEb]
   rw [← e1]
   simp
  ·intro q hq
   rcases hown'.2 with ⟨h2,h3⟩|⟨g2,cap,cur,h2,_,h6,h4,h5,h7,h8⟩
   ·exact absurd h3 (by omega)
   ·subst h2
    have hqg:q = g2:=by simpa [qEb,Value.ownBlock,eq_comm] using hq
    subst hqg
    refine ⟨?_,_,h6,cur,rfl,h7,h8⟩
    rcases hv with ⟨rfl,rfl⟩|⟨gb,cap0,rfl,hc1,hc2⟩
    ·have hxs:xs = []:=List.eq_nil_of_length_eq_zero (by simpa using hl)
     subst hxs
     obtain ⟨v2,w2,hrun2,hown2,_,_⟩:=run_append_own (P:=P) w w.heap.size t ty e inf z size by_ ht hinf hiz his hib hzs hpos (.slice none 0 0) 0 [] (World.ownsRow_nil _ _ _ _) ⟨b,o,none⟩ k c news hn hcells hone hb1 hb2 (Nat.le_refl _)
     rw [hrun] at hrun2
     cases hrun2
     rcases hown2.2 with ⟨h9,_⟩|⟨g3,_,_,h9,h10,_⟩
     ·cases h9
     ·cases h9
      exact .inr h10
    ·obtain ⟨o9,ho9,cur9,rfl,hsz9,htk9⟩:=hp.has i _ hi gb rfl
     have hsz9':cur9.size = cap0 * size:=hsz9
     by_cases hroom:m + k≤cap0
     ·have hfit:m * inf.size + news.length≤cur9.size:=by
       rw [hn,his,hsz9',← Nat.add_mul]
       exact Nat.mul_le_mul_right _ hroom
      have hr:=run_append_room (P:=P) w t ty e inf ht hinf gb m cap0 cur9 ho9 ⟨b,o,none⟩ k c news (by rw [his];exact hn) hcells hone hroom hfit
      rw [hrun] at hr
      cases hr
      exact .inl rfl
     ·have holds:=howns.cells (g:=gb) rfl
      have hr:=run_append_grow (P:=P) w t ty e inf z ht hinf hiz ⟨gb,0,none⟩ m cap0 xs (by rw [his];exact hl) holds ⟨b,o,none⟩ k c news (by rw [his];exact hn) hcells (by omega) (by unfold maxLen at hb1;omega) (growslice_fits (by omega) (by rw [hib];exact hb2))
      rw [hrun] at hr
      cases hr
      exact .inr (Nat.le_refl _)
end
end Go.Eng
namespace Go.Eng
section
variable {P:Program} {n:FrK} {w0 w:World} {M:List Nat} {L:List Ent} {F:Fr} {d:Option Tmp} {ty:TypeId} {pos:String} {aft:Array Edge} {g:Option (Nat × Bool)} {x y:Operand} {ts:Array TypeId} {f:FuncId}
theorem StepF.mono {o:Oper} {R R':Value→World→Prop} (h:StepF P n o F w R) (hr:∀ v w',R v w'→R' v w'):StepF P n o F w R':=Step.mono h hr
end
def SlAt {α:Type} (w:World) (k:Nat) (enc:α→List Value) (s:Option Addr) (l:List α):Prop:=
 ∀ (i:Nat) (x:α),l[i]? = some x→∃ b o,s = some ⟨b,o,none⟩∧∀ (j:Nat) (v:Value),(enc x)[j]? = some v→w.cell? ⟨b,o + i * k + j,none⟩ = some v
theorem SlAt.keep {α:Type} {w w':World} {k:Nat} {enc:α→List Value} {s:Option Addr} {l:List α} {M:List Nat} (h:SlAt w k enc s l) (hk:Keeps M w w') (hM:l ≠ []→∀ b o,s = some ⟨b,o,none⟩→b ∉ M):SlAt w' k enc s l:=by
 intro i x hx
 obtain ⟨b,o,hs,hc⟩:=h i x hx
 exact ⟨b,o,hs,fun j v hv=>hk.cell (hc j v hv) (hM (by rintro rfl;simp at hx) b o hs)⟩
theorem SlAt.keep0 {α:Type} {w w':World} {k:Nat} {enc:α→List Value} {s:Option Addr} {l:List α} (h:SlAt w k enc s l) (hk:Keeps [] w w'):SlAt w' k enc s l:=h.keep hk (by simp)
theorem SlAt.base {α:Type} {w:World} {k:Nat} {enc:α→List Value} {s:Option Addr} {l:List α} (h:SlAt w k enc s l) (hl:0 < l.length) :
  ∃ b o,s = some ⟨b,o,none⟩∧∀ (i:Nat) (x:α),l[i]? = some x→∀ (j:Nat) (v:Value),(enc x)[j]? = some v→w.cell? ⟨b,o + i * k + j,none⟩ = some v:=by
 obtain ⟨b,o,hs,_⟩:=h 0 _ (List.getElem?_eq_getElem hl)
 refine ⟨b,o,hs,fun i x hx=>?_⟩
 obtain ⟨b',o',hs',hc⟩:=h i x hx
 rw [hs] at hs'
 cases hs'
 exact hc
def eI (x:Int):List Value:=[.int .i64 x]
def eS (x:ByteArray):List Value:=[.string x]
theorem wR {α β:Type} (enc:α→List β) (k:Nat) (hk:∀ x,(enc x).length = k):∀ (l:List α) (j q:Nat) (x:α) (v:β),l[j]? = some x→(enc x)[q]? = some v→(l.flatMap enc)[j * k + q]? = some v
 | [],j,q,x,v,h,_=>by simp at h
 | y :: l,0,q,x,v,h,hv=>by
  have:y = x:=by simpa using h
  subst this
  have hq:q < (enc y).length:=(List.getElem?_eq_some_iff.1 hv).1
  simp only [List.flatMap_cons,Nat.zero_mul,Nat.zero_add]
  rw [List.getElem?_append_left hq]
  exact hv
 | y :: l,j + 1,q,x,v,h,hv=>by
  simp only [List.flatMap_cons]
  rw [List.getElem?_append_right (by rw [hk,Nat.succ_mul];omega),hk]
  rw [show (j + 1) * k + q - k = j * k + q from by rw [Nat.succ_mul];omega]
  exact wR enc k hk l j q x v (by simpa using h) hv
theorem kG {α β:Type} (enc:α→List β) (k:Nat) (hk:∀ x,(enc x).length = k):∀ (l:List α),(l.flatMap enc).length = l.length * k
 | []=>by simp
 | y :: l=>by simp [List.flatMap_cons,hk,kG enc k hk l,Nat.succ_mul];omega
theorem qP8 {α:Type} {w0 w:World} {M:List Nat} {L:List Ent} {i e k:Nat} {enc:α→List Value} {s:Option Addr} {c:Nat} {l:List α} (hp:Hp w0 M w L) (hi:L[i]? = some (qEb (.slice s l.length c) e k l.length (l.flatMap enc))) (hv:SV (.slice s l.length c) l.length)
  (hk:∀ x,(enc x).length = k):SlAt w k enc s l:=by
 intro j x hx
 rcases hv with ⟨h1,h2⟩|⟨g,cap,h1,_⟩
 ·have:l = []:=List.eq_nil_of_length_eq_zero h2
  subst this
  simp at hx
 ·cases h1
  refine ⟨g,0,rfl,fun q v hv=>?_⟩
  have hidx:=wR enc k hk l j q x v hx hv
  have:=hp.own_cell hi hidx
  rw [← Nat.add_assoc] at this
  exact this
theorem SlAt.src {α:Type} {w:World} {k:Nat} {enc:α→List Value} {s:Option Addr} {l:List α} (h:SlAt w k enc s l) (hk:∀ x,(enc x).length = k) :
  ∀ (j:Nat) (u:Value),(l.flatMap enc)[j]? = some u→∃ b o,s = some ⟨b,o,none⟩∧w.cell? ⟨b,o + j,none⟩ = some u:=by
 intro j u hu
 have hlen:=(List.getElem?_eq_some_iff.1 hu).1
 rw [kG enc k hk] at hlen
 have hk0:0 < k:=by
  rcases Nat.eq_zero_or_pos k with h0|h0
  ·subst h0;simp at hlen
  ·exact h0
 have hl0:0 < l.length:=by
  rcases Nat.eq_zero_or_pos l.length with h0|h0
  ·rw [h0] at hlen;simp at hlen
  ·exact h0
 obtain ⟨b,o,hs,hc⟩:=h.base hl0
 have hq:j / k < l.length:=(Nat.div_lt_iff_lt_mul hk0).2 hlen
 have hx:=List.getElem?_eq_getElem hq
 have hm:j % k < (enc l[j / k]).length:=by rw [hk];exact Nat.mod_lt _ hk0
 have hv:=List.getElem?_eq_getElem hm
 have h1:=wR enc k hk l (j / k) (j % k) _ _ hx hv
 have hjk:j / k * k + j % k = j:=by rw [Nat.mul_comm];exact Nat.div_add_mod j k
 rw [hjk,hu] at h1
 refine ⟨b,o,hs,?_⟩
 have:=hc (j / k) _ hx (j % k) _ hv
 rw [Nat.add_assoc,hjk] at this
 rw [this,h1]
theorem qMq {w0 w:World} {M:List Nat} {L:List Ent} {b t:Nat} {cs:List Value} (hp:Hp w0 M w L) (i:Nat) (hi:L[i]? = some (blk b cs.length (qV cs) t)) :
  ∀ (j:Nat) (u:Value),cs[j]? = some u→∃ b' o,(some ⟨b,0,none⟩:Option Addr) = some ⟨b',o,none⟩∧w.cell? ⟨b',o + j,none⟩ = some u:=by
 intro j u hu
 have hlt:=(List.getElem?_eq_some_iff.1 hu).1
 refine ⟨b,0,rfl,?_⟩
 rw [Nat.zero_add,hp.cell i hi (zO hlt),kW]
 rw [List.getD_eq_getElem?_getD,hu]
 rfl
end Go.Eng
namespace Go.Eng
section
variable {P:Program} {n:FrK} {Q:Exit→Fr→World→Prop} {F:Fr} {w:World} {ops:Array Oper} {rest:List Oper} {G:World→Prop}
variable {d:Nat} {op:Op} {ty:TypeId} {pos:String} {aft:Array Edge}
theorem qAu {R:Value→World→Prop} {j:Nat} {want:Bool} {e:Nat} (hj:kF ops j = some e) (hc:ev n F (.tmp e) = .bool want)
  (hs:StepF P n ⟨some d,op,ty,pos,aft,some (j,want)⟩ F w R) (h:∀ v w',R v w'→wpl P n ops rest Q (F.put d v) w') :
  wpl P n ops (⟨some d,op,ty,pos,aft,some (j,want)⟩ :: rest) Q F w:=by
 unfold wpl wpListIn
 rw [kR rfl hj hc]
 simp only [beq_self_eq_true,if_true]
 refine Step.wpIn hs ?_
 intro u w' hr
 rw [xW]
 exact h u w' hr
theorem jO {r v:Value} {j:Nat} {want:Bool} {e:Nat} (hj:kF ops j = some e) (hc:ev n F (.tmp e) = .bool want)
  (hp:PV P n w F ⟨some d,op,ty,pos,aft,some (j,want)⟩ r) (hv:r = v) (h:wpl P n ops rest Q (F.put d v) w):wpl P n ops (⟨some d,op,ty,pos,aft,some (j,want)⟩ :: rest) Q F w:=by
 subst hv
 refine qAu (R:=fun u w'=>u = r∧w' = w) hj hc (.inl ⟨r,w,?_,rfl,rfl⟩) ?_
 ·rw [zZ];exact hp
 ·rintro u w' ⟨rfl,rfl⟩;exact h
end
theorem kO {α:Type} {w0 w:World} {M:List Nat} {L:List Ent} {k b t:Nat} {enc:α→List Value} (l:List α) (hp:Hp w0 M w L) (i:Nat) (hi:L[i]? = some (blk b (l.flatMap enc).length (qV (l.flatMap enc)) t))
  (hk:∀ x,(enc x).length = k):SlAt w k enc (some ⟨b,0,none⟩) l:=by
 intro j x hx
 refine ⟨b,0,rfl,fun q v hv=>?_⟩
 have hidx:=wR enc k hk l j q x v hx hv
 obtain ⟨b',o',e1,e2⟩:=qMq hp i hi _ _ hidx
 cases e1
 rw [Nat.add_assoc]
 exact e2
theorem qNp {cs:List Value} {e size n:Nat} {o:Obj} (hl:cs.length = n * size) (h:qCk cs.length (qV cs) e o):qZg e size n n cs o:=by
 refine ⟨_,h,by simp [hl],?_⟩
 rw [List.take_of_length_le (by simp [hl])]
 apply List.ext_getElem
 ·simp
 ·intro i h1 h2
  simp [kW]
theorem Hp.rowOf {w0 w:World} {M:List Nat} {L:List Ent} {cs:List Value} {b e:Nat} (hp:Hp w0 M w L) (i size n:Nat) (hi:L[i]? = some (blk b cs.length (qV cs) e)) (hl:cs.length = n * size) :
  Hp w0 M w (L.set i (qEb (.slice (some ⟨b,0,none⟩) n n) e size n cs)):=hp.weak hi fun _ h=>qNp hl h
theorem qS5 {α:Type} {w:World} {k:Nat} {enc:α→List Value} {s:Option Addr}:SlAt w k enc s []:=by intro i x hx;simp at hx
section
variable {P:Program} {n:FrK} {F:Fr} {w:World} {d:Option Tmp} {ty:TypeId} {pos:String} {aft:Array Edge} {g:Option (Nat × Bool)} {x y:Operand}
theorem qH4 (a:Addr):a.add 0 = a:=rfl
end
theorem qDv {α:Type} {w:World} {k:Nat} {enc:α→List Value} {s:Option Addr} {l:List α} (h:SlAt w k enc s l) (n:Nat):SlAt w k enc s (l.take n):=by
 intro i x hx
 rw [List.getElem?_take] at hx
 split at hx
 ·exact h i x hx
 ·cases hx
section
variable {w0 w w':World} {M:List Nat} {L:List Ent}
theorem Hp.norm (hp:Hp w0 M w L) (i:Nat) {b m:Nat} {f:Fr} {t:TypeId} (cs:List Value) (hi:L[i]? = some (blk b m f t)) (h:(List.range m).map f = cs):Hp w0 M w (L.set i (blk b m (qV cs) t)):=by
 refine hp.weak hi fun o ho=>?_
 have ho:o = .cells (Array.ofFn (n:=m) fun i=>f i) t (0,0):=ho
 subst ho
 subst h
 show _ = _
 congr 1
 apply Array.ext
 ·simp
 ·intro j h1 h2
  have hj:j < m:=by simpa using h1
  simp [kW]
theorem Hp.callAt (hp:Hp w0 M w L) (i:Nat) {b m:Nat} {f g:Fr} {t:TypeId} (hi:L[i]? = some (blk b m f t)) (hk:Keeps [b] w w') (ho:∃ o,w'.heap[b]? = some o∧qCk m g t o):Hp w0 M w' (L.set i (blk b m g t)):=
 hp.upd hi hk (by
  intro q hq
  have:q = b:=by simpa [blk,eq_comm] using hq
  subst this
  exact ⟨.inl rfl,ho⟩)
end
section
variable {w0 w w':World} {M:List Nat} {L:List Ent}
theorem Hp.pick (h:Hp w0 M w L) (i:Nat) {p:Ent} (hi:L[i]? = some p):Hp w0 M w [p]:=by
 refine ⟨h.keeps,fun k q hk b hb=>?_,fun k q hk b hb=>?_,fun k j q r hk hj hne=>?_⟩
 ·cases k with
  | zero=>simp at hk;subst hk;exact h.own i p hi b hb
  | succ k=>simp at hk
 ·cases k with
  | zero=>simp at hk;subst hk;exact h.has i p hi b hb
  | succ k=>simp at hk
 ·cases k with
  | zero=>
   cases j with
   | zero=>exact absurd rfl hne
   | succ j=>simp at hj
  | succ k=>simp at hk
end
theorem Hp.takeN {w0 w:World} {M:List Nat} {L:List Ent} (h:Hp w0 M w L) (n:Nat):Hp w0 M w (L.take n):=by
 have key:∀ (i:Nat) (p:Ent),(L.take n)[i]? = some p→L[i]? = some p:=by
  intro i p hi
  rw [List.getElem?_take] at hi
  split at hi
  ·exact hi
  ·cases hi
 exact ⟨h.keeps,fun i p hi=>h.own i p (key i p hi),fun i p hi=>h.has i p (key i p hi),fun i j p q hi hj=>h.dis i j p q (key i p hi) (key j q hj)⟩
theorem Hp.join {w0 w w':World} {M:List Nat} {L L':List Ent} (h:Hp w0 M w L) (h':Hp w [] w' L'):Hp w0 M w' (L' ++ L):=by
 have hc:=h.call h'.keeps
 have key:∀ (i:Nat) (p:Ent),(L' ++ L)[i]? = some p→(i < L'.length∧L'[i]? = some p)∨(L'.length≤i∧L[i - L'.length]? = some p):=by
  intro i p hi
  rw [List.getElem?_append] at hi
  split at hi
  ·rename_i hlt
   exact .inl ⟨hlt,hi⟩
  ·rename_i hlt
   exact .inr ⟨by omega,hi⟩
 have hnew:∀ (i:Nat) (p:Ent),L'[i]? = some p→∀ b,p.1 = some b→w.heap.size≤b:=by
  intro i p hi b hb
  rcases h'.own i p hi b hb with h1|h1
  ·exact h1
  ·cases h1
 refine ⟨hc.keeps,fun i p hi b hb=>?_,fun i p hi b hb=>?_,fun i j p q hi hj hne b hb=>?_⟩
 ·rcases key i p hi with ⟨_,h1⟩|⟨_,h1⟩
  ·exact .inl (Nat.le_trans h.keeps.size (hnew i p h1 b hb))
  ·exact h.own _ p h1 b hb
 ·rcases key i p hi with ⟨_,h1⟩|⟨_,h1⟩
  ·exact h'.has _ p h1 b hb
  ·exact hc.has _ p h1 b hb
 ·rcases key i p hi with ⟨_,h1⟩|⟨h0,h1⟩<;>rcases key j q hj with ⟨_,h2⟩|⟨h3,h2⟩
  ·exact h'.dis i j p q h1 h2 hne b hb
  ·intro e
   have:=hnew i p h1 b hb
   have:=h.lt h2 e
   omega
  ·intro e
   have:=hnew j q h2 b e
   have:=h.lt h1 hb
   omega
  ·exact h.dis _ _ p q h1 h2 (by omega) b hb
theorem qCm {P:Program} {n:FrK} {x:Code} {K:Fr→World→Prop} {Q:Exit→Fr→World→Prop} {F:Fr} {w:World} (R:Fr→World→Prop) (h:WP P n x (wL R Q) F w) (h2:∀ F w,R F w→K F w):WP P n x (wL K Q) F w:=by
 refine qDg h ?_
 intro e F w h
 cases e<;>first|exact h2 _ _ h|exact h
def qW {α:Type} (enc:α→List Value) (e k:Nat) (s:Option Addr) (c:Nat) (l:List α):Ent:=qEb (.slice s l.length c) e k l.length (l.flatMap enc)
def SVL {α:Type} (s:Option Addr) (c:Nat) (l:List α):Prop:=SV (.slice s l.length c) l.length
theorem SVL.nil {α:Type}:SVL (α:=α) none 0 []:=.inl ⟨rfl,rfl⟩
theorem SVL.cap {α:Type} {s:Option Addr} {c:Nat} {l:List α} (h:SVL s c l):l.length≤c:=by
 rcases h with ⟨h,_⟩|⟨g,cap,h,h2,_⟩
 ·injection h with _ h1 h2
  omega
 ·injection h with _ _ h3
  omega
theorem Hp.nilL {α:Type} {w0 w:World} {M:List Nat} {L:List Ent} (h:Hp w0 M w L) (enc:α→List Value) (e k:Nat):Hp w0 M w (qW enc e k none 0 [] :: L):=h.addNil _
theorem jS {α:Type} {w0 w:World} {M:List Nat} {L:List Ent} {e k:Nat} {enc:α→List Value} {s:Option Addr} {c:Nat} {l:List α} (hp:Hp w0 M w L) (i:Nat) (hi:L[i]? = some (qW enc e k s c l)) (hv:SVL s c l)
  (hk:∀ x,(enc x).length = k):SlAt w k enc s l:=qP8 hp hi hv hk
theorem SlAt.lt {α:Type} {w:World} {k:Nat} {enc:α→List Value} {s:Option Addr} {l:List α} (h:SlAt w k enc s l) (hk:∀ x,(enc x).length = k) (hk0:0 < k) (hl:l ≠ []) {b o:Nat} (hs:s = some ⟨b,o,none⟩):b < w.heap.size:=by
 obtain ⟨x,l',rfl⟩:∃ x l',l = x :: l':=by cases l with|nil=>exact absurd rfl hl|cons x l'=>exact ⟨x,l',rfl⟩
 obtain ⟨b',o',hs',hc⟩:=h 0 x rfl
 rw [hs] at hs'
 cases hs'
 have:=hc 0 _ (List.getElem?_eq_getElem (by rw [hk];exact hk0))
 exact World.block_lt_of_cell? w _ this
theorem qGy {l:List Nat} {i:Nat} (h:i ∉ l):l.filter (· != i) = l:=by
 rw [List.filter_eq_self]
 intro x hx
 have:x ≠ i:=by
  rintro rfl
  exact h hx
 simpa using this
theorem qCf {l:List Nat} {i:Nat} (hs:l.Nodup) (h:i ∈ l):(l.filter (· != i)).length + 1 = l.length:=by
 induction l with
 | nil=>cases h
 | cons p rest ih=>
  obtain ⟨h1,h2⟩:=List.nodup_cons.1 hs
  by_cases hp:p = i
  ·subst hp
   rw [List.filter_cons]
   simp only [bne_self_eq_false,Bool.false_eq_true,if_false]
   rw [qGy h1]
   rfl
  ·have hir:i ∈ rest:=by
    rcases List.mem_cons.1 h with e|e
    ·exact absurd e.symm hp
    ·exact e
   rw [List.filter_cons,if_pos (by simpa using hp)]
   simp only [List.length_cons]
   rw [ih h2 hir]
theorem qAl {l:List Nat} (h:l.Pairwise (· < ·)):l.Nodup:=h.imp fun h=>Nat.ne_of_lt h
end Go.Eng
namespace Go.Eng
def kC (ops:Array Oper) (i j:Nat):Bool:=((Region.before ops).getD i 0).testBit j
def wX (ops:Array Oper) (i:Nat) (rest:List Nat):List Nat:=rest.filter fun x=>jZ (jJ ops x).op && !kC ops x i
def wpE (P:Program) (ops:Array Oper) (nd:Oper→Bool) (G:World→Prop) (K:Act→World→Prop):Nat→List Nat→Act→World→Prop
 | 0,_,a,w=>K a w
 | _ + 1,[],a,w=>K a w
 | n + 1,i :: rest,a,w=>
  if jZ (jJ ops i).op then ∀ x ∈ i :: wX ops i rest,EffStep P ops (jJ ops x) a w (fun a' w'=>(nd (jJ ops x) = true→G w')∧wpE P ops nd G K n ((i :: rest).filter (· != x)) a' w')
  else ∃ v,YV P ops G (jJ ops i) a v∧wpE P ops nd G K n rest (a.put (jJ ops i).dst v) w
def qEh (ops:Array Oper) (j i:Nat):Bool:=
 kC ops i j || (if jZ (jJ ops j).op && jZ (jJ ops i).op then (List.range ops.size).all fun x=>!kC ops i x || decide (x < j) else wV ops (jJ ops j) (jJ ops i))
def vY (P:Program) (ops:Array Oper) (nd:Oper→Bool):Bool:=
 (List.range ops.size).all fun i=>(jJ ops i).after.all (fun e=>!Region.binds .any e || decide (e.on < i)) &&
  (!jZ (jJ ops i).op || nd (jJ ops i) || (List.range ops.size).all fun j=>jZ (jJ ops j).op || wl P (jJ ops j).op || kC ops i j) &&
  (List.range i).all fun j=>qEh ops j i
section
variable {P:Program} {ops:Array Oper} {nd:Oper→Bool} {G:World→Prop} {K:Act→World→Prop} {Q:Exit→Act→World→Prop}
theorem qDa (h:vY P ops nd = true) {i:Nat} (hi:i < ops.size):∀ e ∈ (jJ ops i).after.toList,Region.binds .any e = true→e.on < i:=by
 intro e he hb
 simp only [vY,List.all_eq_true,Bool.and_eq_true] at h
 have h1:=(h i (by simpa using hi)).1.1
 rw [Array.all_eq_true_iff_forall_mem] at h1
 have:=h1 e (by simpa using he)
 rw [hb] at this
 simpa using this
theorem qIa (h:vY P ops nd = true) {i j:Nat} (hi:i < ops.size) (hj:j < ops.size) (he:jZ (jJ ops i).op = true) (hp:jZ (jJ ops j).op = false) (hwl:wl P (jJ ops j).op = false):nd (jJ ops i) = true∨kC ops i j = true:=by
 simp only [vY,List.all_eq_true,Bool.and_eq_true] at h
 have h1:=(h i (by simpa using hi)).1.2
 rw [he] at h1
 simp only [Bool.not_true,Bool.false_or,Bool.or_eq_true,List.all_eq_true] at h1
 rcases h1 with h1|h1
 ·exact .inl h1
 ·have:=h1 j (by simpa using hj)
  rw [hp,hwl] at this
  exact .inr (by simpa using this)
theorem qD9 (h:vY P ops nd = true) {i j:Nat} (hi:i < ops.size) (hj:j < i):qEh ops j i = true:=by
 simp only [vY,List.all_eq_true,Bool.and_eq_true] at h
 exact (h i (by simpa using hi)).2 j (by simpa using hj)
theorem qDk (h:vY P ops nd = true) {i j:Nat} (hi:i < ops.size) (hj:j < i) (hb:kC ops i j = false) (hm:¬ (jZ (jJ ops j).op = true∧jZ (jJ ops i).op = true)):wV ops (jJ ops j) (jJ ops i) = true:=by
 have:=qD9 h hi hj
 unfold qEh at this
 rw [hb,if_neg (by simpa using hm)] at this
 simpa using this
theorem qNb (h:vY P ops nd = true) {i j:Nat} (hi:i < ops.size) (hj:j < i) (hb:kC ops i j = false) (h1:jZ (jJ ops j).op = true) (h2:jZ (jJ ops i).op = true):∀ x,x < ops.size→j≤x→kC ops i x = false:=by
 intro x hx hjx
 have:=qD9 h hi hj
 unfold qEh at this
 rw [hb,if_pos (by simp [h1,h2])] at this
 simp only [Bool.false_or,List.all_eq_true] at this
 have:=this x (by simpa using hx)
 cases hbb:kC ops i x
 ·rfl
 ·rw [hbb] at this
  simp at this
  omega
theorem qKp {o o':Oper} (h:wV ops o o' = true):o.apart ops o' = true∧qFd o.op = true∧qFd o'.op = true:=by
 simp only [wV,Bool.and_eq_true] at h
 exact ⟨h.1.1.1,h.1.2,h.2⟩
structure Commute (ops:Array Oper) (p i:Oper):Prop where
 ei:∀ (a:Act) (v:Value),execOp (a.put p.dst v).eval i = execOp a.eval i
 ep:∀ (a:Act) (v:Value),execOp (a.put i.dst v).eval p = execOp a.eval p
 wi:∀ (a:Act) (v:Value),Region.wanted i (yielded ops (a.put p.dst v).tmps) = Region.wanted i (yielded ops a.tmps)
 wq:∀ (a:Act) (v:Value),Region.wanted p (yielded ops (a.put i.dst v).tmps) = Region.wanted p (yielded ops a.tmps)
 hc:∀ (a:Act) (v u:Value),(a.put p.dst v).put i.dst u = (a.put i.dst u).put p.dst v
theorem Commute.of {p i:Oper} (h:wV ops p i = true):Commute ops p i:=by
 obtain ⟨hap,hsp,hsi⟩:=qKp h
 obtain ⟨h1,h2,h3⟩:=Oper.apart_spec hap
 exact ⟨fun a v=>execOp_put _ (qHi hsi) a _ v h1,fun a v=>execOp_put _ (qHi hsp) a _ v h3,fun a v=>wanted_put _ a _ v h1,fun a v=>wanted_put _ a _ v h3,fun a v u=>Act.put_comm a v u h2⟩
theorem Commute.symm {p i:Oper} (h:Commute ops p i):Commute ops i p:=⟨h.ep,h.ei,h.wq,h.wi,fun a v u=>(h.hc a u v).symm⟩
theorem qZh {wG:World} (hwG:G wG) (hok:vY P ops nd = true) (i:Nat) (hi0:i < ops.size):∀ (n:Nat) (l:List Nat) (a:Act) (w:World),l.length = n + 1→(∀ x ∈ l,x < ops.size)→wpE P ops nd G K (n + 1) l a w→i ∈ l→l.Pairwise (· < ·) →
  (∀ j ∈ l,kC ops i j = false) →
  if jZ (jJ ops i).op then EffStep P ops (jJ ops i) a w (fun a' w'=>(nd (jJ ops i) = true→G w')∧wpE P ops nd G K n (l.filter (· != i)) a' w')
  else ∃ v,YV P ops G (jJ ops i) a v∧wpE P ops nd G K n (l.filter (· != i)) (a.put (jJ ops i).dst v) w:=by
 intro n
 induction n with
 | zero=>
  intro l a w hlen hlt h hi hs hb
  match l,hlen with
  | [p],_=>
   have:i = p:=by simpa using hi
   subst this
   simp only [wpE] at h
   by_cases he:jZ (jJ ops i).op = true
   ·rw [if_pos he] at h ⊢
    exact h i (by simp)
   ·rw [if_neg he] at h ⊢
    rw [List.filter_cons]
    simp only [bne_self_eq_false,Bool.false_eq_true,if_false,List.filter_nil]
    exact h
 | succ n ih=>
  intro l a w hlen hlt h hi hs hb
  match l,hlen with
  | p :: rest,hlen=>
   have hlen':rest.length = n + 1:=by simpa using hlen
   obtain ⟨hs1,hs2⟩:=List.pairwise_cons.1 hs
   have hnd:=qAl hs
   by_cases hp:p = i
   ·subst hp
    have hf:(p :: rest).filter (· != p) = rest:=by
     rw [List.filter_cons]
     simp only [bne_self_eq_false,Bool.false_eq_true,if_false]
     exact qGy (List.nodup_cons.1 hnd).1
    rw [wpE] at h
    by_cases he:jZ (jJ ops p).op = true
    ·rw [if_pos he] at h ⊢
     exact h p (by simp)
    ·rw [if_neg he] at h ⊢
     rw [hf]
     exact h
   ·have hir:i ∈ rest:=by
     rcases List.mem_cons.1 hi with e|e
     ·exact absurd e.symm hp
     ·exact e
    have hpi:p < i:=hs1 i hir
    have hbp:kC ops i p = false:=hb p (by simp)
    have hf:(p :: rest).filter (· != i) = p :: rest.filter (· != i):=by
     rw [List.filter_cons,if_pos (by simpa using hp)]
    have hltr:∀ x ∈ rest,x < ops.size:=fun x hx=>hlt x (by simp [hx])
    have hbr:∀ j ∈ rest,kC ops i j = false:=fun j hj=>hb j (by simp [hj])
    rw [wpE] at h
    by_cases hpe:jZ (jJ ops p).op = true
    ·rw [if_pos hpe] at h
     by_cases hie:jZ (jJ ops i).op = true
     ·rw [if_pos hie]
      exact h i (by
       rw [List.mem_cons]
       right
       unfold wX
       rw [List.mem_filter]
       exact ⟨hir,by simp [hie,hbp]⟩)
     ·have hiep:jZ (jJ ops i).op = false:=by simpa using hie
      rw [if_neg hie]
      have hbr2:∀ x ∈ p :: wX ops p rest,x ∈ p :: rest∧x ≠ i∧jZ (jJ ops x).op = true∧Commute ops (jJ ops x) (jJ ops i):=by
       intro x hx
       have hxl:x ∈ p :: rest∧jZ (jJ ops x).op = true∧(x = p∨(x ∈ rest∧kC ops x p = false)):=by
        rcases List.mem_cons.1 hx with rfl|hx
        ·exact ⟨by simp,hpe,.inl rfl⟩
        ·unfold wX at hx
         rw [List.mem_filter] at hx
         simp only [Bool.and_eq_true,Bool.not_eq_true'] at hx
         exact ⟨by simp [hx.1],hx.2.1,.inr ⟨hx.1,hx.2.2⟩⟩
       obtain ⟨hxm,hxe,hxo⟩:=hxl
       have hxi:x ≠ i:=by
        rintro rfl
        rw [hiep] at hxe
        cases hxe
       refine ⟨hxm,hxi,hxe,?_⟩
       rcases Nat.lt_or_gt_of_ne hxi with hlt'|hlt'
       ·exact Commute.of (qDk hok hi0 hlt' (hb x hxm) (by rw [hiep];simp))
       ·rcases hxo with rfl|⟨hxr,hxb⟩
        ·omega
        ·have hbx:=qNb hok (hlt x hxm) (hs1 x hxr) hxb hpe hxe i hi0 (by omega)
         exact (Commute.of (qDk hok (hlt x hxm) hlt' hbx (by rw [hiep];simp))).symm
      have key:∀ x ∈ p :: wX ops p rest,∀ u w',wpE P ops nd G K (n + 1) ((p :: rest).filter (· != x)) (a.put (jJ ops x).dst u) w' →
        ∃ v,YV P ops G (jJ ops i) a v∧wpE P ops nd G K n (((p :: rest).filter (· != x)).filter (· != i)) ((a.put (jJ ops x).dst u).put (jJ ops i).dst v) w':=by
       intro x hx u w' hr
       obtain ⟨hxm,hxi,hxe,hcm⟩:=hbr2 x hx
       have hfl:=qCf hnd hxm
       have:=ih _ (a.put (jJ ops x).dst u) w' (by simp only [List.length_cons] at hfl;omega) (fun y hy=>hlt y (List.mem_filter.1 hy).1) hr (by
        rw [List.mem_filter]
        exact ⟨hi,by simpa using fun e:i = x=>hxi e.symm⟩) (hs.filter _) (fun j hj=>hb j (List.mem_filter.1 hj).1)
       rw [if_neg hie] at this
       obtain ⟨v,hv,hr'⟩:=this
       exact ⟨v,hv.congr (hcm.ei a u).symm (hcm.wi a u).symm,hr'⟩
      have hex:∃ v,YV P ops G (jJ ops i) a v:=by
       have h0:=h p (by simp)
       cases hwp:Region.wanted (jJ ops p) (yielded ops a.tmps)
       ·obtain ⟨_,hr⟩:=h0.2 hwp
        obtain ⟨v,hv,_⟩:=key p (by simp) _ _ hr
        exact ⟨v,hv⟩
       ·obtain ⟨u,w',_,hr⟩:=(h0.1 hwp).out
        obtain ⟨v,hv,_⟩:=key p (by simp) _ _ hr
        exact ⟨v,hv⟩
      obtain ⟨v,hv⟩:=hex
      refine ⟨v,hv,?_⟩
      rw [hf,wpE,if_pos hpe]
      have hfl:wX ops p (rest.filter (· != i)) = wX ops p rest:=by
       unfold wX
       rw [List.filter_filter]
       apply List.filter_congr
       intro y _
       by_cases hyi:y = i
       ·subst hyi
        simp [hiep]
       ·simp [hyi]
      rw [hfl]
      intro x hx
      obtain ⟨hxm,hxi,hxe,hcm⟩:=hbr2 x hx
      have hsw:((p :: rest).filter (· != x)).filter (· != i) = (p :: rest.filter (· != i)).filter (· != x):=by
       rw [← hf,List.filter_filter,List.filter_filter]
       apply List.filter_congr
       intro y _
       rw [Bool.and_comm]
      have key2:∀ u w',((nd (jJ ops x) = true→G w')∧wpE P ops nd G K (n + 1) ((p :: rest).filter (· != x)) (a.put (jJ ops x).dst u) w') →
        (nd (jJ ops x) = true→G w')∧wpE P ops nd G K n ((p :: rest.filter (· != i)).filter (· != x)) ((a.put (jJ ops i).dst v).put (jJ ops x).dst u) w':=by
       rintro u w' ⟨hg',hr⟩
       obtain ⟨v',hv',hr'⟩:=key x hx _ _ hr
       have:=hv.uniq hwG hv'
       subst this
       rw [hsw,hcm.hc] at hr'
       exact ⟨hg',hr'⟩
      refine ⟨fun hw=>?_,fun hw=>?_⟩
      ·rw [hcm.wq] at hw
       exact (((h x hx).1 hw).congr (hcm.ep a v)).mono fun u w' hh=>key2 u w' hh
      ·rw [hcm.wq] at hw
       exact key2 _ _ ((h x hx).2 hw)
    ·have hpe':jZ (jJ ops p).op = false:=by simpa using hpe
     rw [if_neg hpe] at h
     obtain ⟨vp,hvp,hr⟩:=h
     have hh:=ih rest _ w hlen' hltr hr hir hs2 hbr
     have hcm:Commute ops (jJ ops p) (jJ ops i):=Commute.of (qDk hok hi0 hpi hbp (by rw [hpe'];simp))
     rw [hf]
     by_cases hie:jZ (jJ ops i).op = true
     ·rw [if_pos hie] at hh ⊢
      have key:∀ u w',((nd (jJ ops i) = true→G w')∧wpE P ops nd G K n (rest.filter (· != i)) ((a.put (jJ ops p).dst vp).put (jJ ops i).dst u) w') →
        (nd (jJ ops i) = true→G w')∧wpE P ops nd G K (n + 1) (p :: rest.filter (· != i)) (a.put (jJ ops i).dst u) w':=by
       rintro u w' ⟨hg',hr'⟩
       refine ⟨hg',?_⟩
       rw [wpE,if_neg hpe]
       rw [hcm.hc] at hr'
       exact ⟨vp,hvp.congr (hcm.ep a u) (hcm.wq a u),hr'⟩
      refine ⟨fun hw=>?_,fun hw=>?_⟩
      ·exact ((hh.1 (by rw [hcm.wi];exact hw)).congr (hcm.ei a vp).symm).mono fun u w' hx=>key u w' hx
      ·exact key _ _ (hh.2 (by rw [hcm.wi];exact hw))
     ·rw [if_neg hie] at hh ⊢
      obtain ⟨v,hv,hr'⟩:=hh
      refine ⟨v,hv.congr (hcm.ei a vp).symm (hcm.wi a vp).symm,?_⟩
      rw [wpE,if_neg hpe]
      rw [hcm.hc] at hr'
      exact ⟨vp,hvp.congr (hcm.ep a v) (hcm.wq a v),hr'⟩
theorem qL7 {wG:World} (hwG:G wG) (hok:vY P ops nd = true) (hK:∀ a w,K a w→Q .normal a w):∀ (fuel:Nat) (listed:Array Bool) (a:Act) (w:World),listed.size = ops.size→(left ops listed).length≤fuel →
  (∀ i,i < ops.size→listed.getD i true = true→∀ j,((Region.before ops).getD i 0).testBit j = true→listed.getD j false = true) →
  (∀ j ∈ left ops listed,jZ (jJ ops j).op = false→wl P (jJ ops j).op = false→G w)→wpE P ops nd G K (left ops listed).length (left ops listed) a w→wpAny P .any ops Q fuel listed a w:=by
 intro fuel
 have done:∀ (listed:Array Bool) (a:Act) (w:World),left ops listed = []→wpE P ops nd G K (left ops listed).length (left ops listed) a w→Q .normal a w:=by
  intro listed a w hl h
  rw [hl] at h
  exact hK _ _ h
 have hrd:∀ (listed:Array Bool) i,i ∈ Region.ready .any ops listed ↔ i < ops.size∧listed.getD i true = false∧∀ e ∈ (jJ ops i).after.toList,Region.binds .any e = true→listed.getD e.on false = true:=by
  intro listed i
  simp only [Region.ready,List.mem_filter,List.mem_range,Bool.and_eq_true,Bool.not_eq_true']
  constructor
  ·rintro ⟨h1,h2,h3⟩
   refine ⟨h1,h2,?_⟩
   rw [Array.getElem?_eq_getElem h1] at h3
   simp only [Option.map_some,Option.getD_some] at h3
   rw [Array.all_eq_true_iff_forall_mem] at h3
   intro e he hb
   have:=h3 e (by simpa [jJ,h1] using he)
   rw [hb] at this
   simpa using this
  ·rintro ⟨h1,h2,h3⟩
   refine ⟨h1,h2,?_⟩
   rw [Array.getElem?_eq_getElem h1]
   simp only [Option.map_some,Option.getD_some]
   rw [Array.all_eq_true_iff_forall_mem]
   intro e he
   cases hb:Region.binds .any e
   ·rfl
   ·simpa using h3 e (by simpa [jJ,h1] using he) hb
 induction fuel with
 | zero=>
  intro listed a w hsz hlen _ _ h
  have hl:left ops listed = []:=List.eq_nil_of_length_eq_zero (by omega)
  refine ⟨?_,done _ _ _ hl h⟩
  rw [List.eq_nil_iff_forall_not_mem]
  intro i hi
  have:=(hrd listed i).1 hi
  have hm:i ∈ left ops listed:=zV.2 ⟨this.1,this.2.1⟩
  rw [hl] at hm
  cases hm
 | succ fuel ih=>
  intro listed a w hsz hlen hcl hG h
  refine ⟨fun hnone=>?_,fun i hi=>?_⟩
  ·cases hl:left ops listed with
   | nil=>exact done _ _ _ hl h
   | cons i0 rest=>
    exfalso
    have hm:i0 ∈ left ops listed:=by rw [hl];simp
    obtain ⟨h1,h2⟩:=zV.1 hm
    have:i0 ∈ Region.ready .any ops listed:=by
     refine (hrd listed i0).2 ⟨h1,h2,fun e he hb=>?_⟩
     have hlt:=qDa hok h1 e he hb
     have hs:=yD ops listed
     rw [hl] at hs
     by_cases hx:listed.getD e.on true = false
     ·have hm':e.on ∈ left ops listed:=zV.2 ⟨by omega,hx⟩
      rw [hl] at hm'
      rcases List.mem_cons.1 hm' with e1|e1
      ·omega
      ·have:=(List.pairwise_cons.1 hs).1 _ e1
       omega
     ·have hx':listed.getD e.on true = true:=by simpa using hx
      rw [Array.getD_eq_getD_getElem?] at hx' ⊢
      rw [Array.getElem?_eq_getElem (show e.on < listed.size by omega)] at hx' ⊢
      simpa using hx'
    rw [hnone] at this
    cases this
  ·obtain ⟨h1,h2,h3⟩:=(hrd listed i).1 hi
   have hm:i ∈ left ops listed:=zV.2 ⟨h1,h2⟩
   have hready:∀ j,((Region.before ops).getD i 0).testBit j = true→listed.getD j false = true:=by
    intro j hb
    obtain ⟨e,he,hbd,hor⟩:=vH h1 hb
    have hl:=h3 e he hbd
    rcases hor with rfl|hor
    ·exact hl
    ·have hlt:=qDa hok h1 e he hbd
     refine hcl e.on (by omega) ?_ j hor
     rw [Array.getD_eq_getD_getElem?] at hl ⊢
     rw [Array.getElem?_eq_getElem (show e.on < listed.size by omega)] at hl ⊢
     simpa using hl
   have hnb:∀ j ∈ left ops listed,kC ops i j = false:=by
    intro j hj
    cases hb:kC ops i j
    ·rfl
    ·exfalso
     obtain ⟨hj1,hj2⟩:=zV.1 hj
     have hjl:=hready j hb
     rw [Array.getD_eq_getD_getElem?] at hjl hj2
     rw [Array.getElem?_eq_getElem (show j < listed.size by omega)] at hjl hj2
     simp at hjl hj2
     rw [hjl] at hj2
     cases hj2
   obtain ⟨n,hn⟩:∃ n,(left ops listed).length = n + 1:=by
    cases hl:left ops listed with
    | nil=>rw [hl] at hm;cases hm
    | cons x y=>exact ⟨y.length,rfl⟩
   have hfl:=qCf (qAl (yD ops listed)) hm
   have hn':(left ops (listed.setIfInBounds i true)).length = n:=by
    rw [vV h1 hsz]
    omega
   rw [hn] at h
   have hpull:=qZh (P:=P) (G:=G) (K:=K) hwG hok i h1 n (left ops listed) a w hn (fun x hx=>(zV.1 hx).1) h hm (yD _ _) hnb
   have hlen':(left ops (listed.setIfInBounds i true)).length≤fuel:=by omega
   have hcl':∀ k,k < ops.size→(listed.setIfInBounds i true).getD k true = true→∀ j,((Region.before ops).getD k 0).testBit j = true→(listed.setIfInBounds i true).getD j false = true:=by
    intro k hk hkl j hb
    have hset:∀ (d:Bool) x,(listed.setIfInBounds i true).getD x d = if x = i then true else listed.getD x d:=by
     intro d x
     simp only [Array.getD_eq_getD_getElem?,Array.getElem?_setIfInBounds]
     by_cases hx:x = i
     ·subst hx
      simp [hsz,h1]
     ·rw [if_neg (fun e=>hx e.symm),if_neg hx]
    rw [hset] at hkl ⊢
    split
    ·rfl
    ·by_cases hki:k = i
     ·subst hki
      exact hready j hb
     ·rw [if_neg hki] at hkl
      exact hcl k hk hkl j hb
   have hsub:∀ j ∈ left ops (listed.setIfInBounds i true),j ∈ left ops listed∧j ≠ i:=by
    intro j hj
    rw [vV h1 hsz] at hj
    simpa using hj
   have hsame:∀ j ∈ left ops (listed.setIfInBounds i true),jZ (jJ ops j).op = false→wl P (jJ ops j).op = false→G w:=fun j hj=>hG j (hsub j hj).1
   have heff:jZ (jJ ops i).op = true→∀ w',(nd (jJ ops i) = true→G w')→∀ j ∈ left ops (listed.setIfInBounds i true),jZ (jJ ops j).op = false→wl P (jJ ops j).op = false→G w':=by
    intro hie w' hg j hj hjp hjw
    obtain ⟨hj1,_⟩:=hsub j hj
    rcases qIa hok h1 (zV.1 hj1).1 hie hjp hjw with hb|hb
    ·exact hg hb
    ·rw [hnb j hj1] at hb
     cases hb
   have hnext:∀ a' w',(∀ j ∈ left ops (listed.setIfInBounds i true),jZ (jJ ops j).op = false→wl P (jJ ops j).op = false→G w')→wpE P ops nd G K n ((left ops listed).filter (· != i)) a' w'→wpAny P .any ops Q fuel (listed.setIfInBounds i true) a' w':=by
    intro a' w' hg hh
    rw [← vV h1 hsz] at hh
    exact ih _ a' w' (by simpa using hsz) hlen' hcl' hg (by rw [hn'];exact hh)
   have hio:ops[i]? = some (jJ ops i):=by simp [jJ,Array.getElem?_eq_getElem h1]
   unfold wpOp
   simp only [hio]
   by_cases hie:jZ (jJ ops i).op = true
   ·rw [if_pos hie] at hpull
    cases hw:Region.wanted (jJ ops i) (yielded ops a.tmps)
    ·simp only [Bool.false_eq_true,if_false]
     obtain ⟨hg,hh⟩:=hpull.2 hw
     exact hnext _ _ (heff hie _ hg) hh
    ·simp only [if_true]
     exact .inl ((hpull.1 hw).wp fun v w' ⟨hg,hh⟩=>hnext _ _ (heff hie _ hg) hh)
   ·rw [if_neg hie] at hpull
    obtain ⟨v,hv,hh⟩:=hpull
    rcases hv with ⟨hw,hr⟩|⟨hw,rfl⟩
    ·simp only [hw,if_true]
     refine .inl (Step.wp (R:=fun u w'=>u = v∧w' = w) (.inl ⟨v,w,?_,rfl,rfl⟩) ?_)
     ·cases hwl:wl P (jJ ops i).op
      ·exact hr w (hG i hm (by simpa using hie) hwl)
      ·exact qJy hwl (hr wG hwG)
     rintro u w' ⟨rfl,rfl⟩
     exact hnext _ _ hsame hh
    ·simp only [hw,Bool.false_eq_true,if_false]
     exact hnext _ _ hsame hh
theorem qNz {id:Nat} {a:Act} {w:World} (hm:P.follows .mixedOrders = true) (hok:vY P ops nd = true) (G:World→Prop) (hG:G w.drew)
  (h:wpE P ops nd G (fun a w=>Q .normal a w) ops.size (List.range ops.size) a w.drew):(Code.region id ops true).wp P Q a w:=by
 refine wp_region_any hm ?_
 have e1:left ops (Array.replicate ops.size false) = List.range ops.size:=by
  unfold left
  rw [List.filter_eq_self]
  intro i hi
  have:i < ops.size:=by simpa using hi
  simp [Array.getD_eq_getD_getElem?,this]
 refine qL7 (G:=G) (K:=fun a w=>Q .normal a w) hG hok (fun _ _ h=>h) ops.size _ a _ (by simp) ?_ ?_ (fun _ _ _ _=>hG) ?_
 ·unfold left
  exact Nat.le_trans (List.length_filter_le _ _) (by simp)
 ·intro i hi hl
  simp [Array.getD_eq_getD_getElem?,hi] at hl
 ·rw [e1,List.length_range]
  exact h
end
def wpe (P:Program) (n:FrK) (ops:Array Oper) (st:Bool) (G:World→Prop) (l:List Nat) (Q:Exit→Fr→World→Prop) (F:Fr) (w:World):Prop:=
 wpE P ops (qFe st) G (fun a w=>up n Q .normal a w) l.length l (act n F) w
def wpb (P:Program) (n:FrK) (ops:Array Oper) (st:Bool) (G:World→Prop) (x:Nat) (l:List Nat) (Q:Exit→Fr→World→Prop) (F:Fr) (w:World):Prop:=
 EffStep P ops (jJ ops x) (act n F) w (fun a' w'=>(qFe st (jJ ops x) = true→G w')∧wpE P ops (qFe st) G (fun a w=>up n Q .normal a w) l.length l a' w')
section
variable {P:Program} {n:FrK} {Q:Exit→Fr→World→Prop} {F:Fr} {w:World} {ops:Array Oper} {rest:List Nat} {st:Bool} {G:World→Prop}
variable {i d:Nat} {op:Op} {ty:TypeId} {pos:String} {aft:Array Edge}
theorem qDh {id:Nat} {l:List Oper} (st:Bool) (is:List Nat) (hm:P.follows .mixedOrders = true) (hok:vY P l.toArray (qFe st) = true) (hl:List.range l.length = is) (G:World→Prop) (hG:G w.drew)
  (h:wpe P n l.toArray st G is Q F w.drew) (hr:n.ro = none:=by rfl):WP P n (.region id l.toArray true) Q F w:=by
 subst hl
 unfold WP
 rw [FrK.fence_none hr]
 refine wpIn_wide.2 (qNz hm hok G hG ?_)
 unfold wpe at h
 rw [List.length_range] at h
 rw [List.size_toArray]
 exact h
theorem qEd (h:Q .normal F w):wpe P n ops st G [] Q F w:=⟨F,rfl,h⟩
theorem wep {r v:Value} (ho:jJ ops i = ⟨some d,op,ty,pos,aft,none⟩) (he:jZ op = false) (hp:∀ w,G w→PV P n w F ⟨some d,op,ty,pos,aft,none⟩ r) (hv:r = v) (h:wpe P n ops st G rest Q (F.put d v) w):wpe P n ops st G (i :: rest) Q F w:=by
 subst hv
 unfold wpe
 simp only [List.length_cons,wpE]
 rw [ho,if_neg (by simp [he])]
 refine ⟨r,.inl ⟨by simp [Region.wanted],fun w hw=>?_⟩,?_⟩
 ·rw [zZ];exact hp w hw
 ·rw [xW];exact h
theorem uL (he:jZ (jJ ops i).op = true) (hf:wX ops i rest = []) (h:wpb P n ops st G i ((i :: rest).filter (· != i)) Q F w) (hn:Nat.beq ((i :: rest).filter (· != i)).length rest.length = true):wpe P n ops st G (i :: rest) Q F w:=by
 unfold wpe
 simp only [List.length_cons,wpE]
 rw [if_pos he,hf]
 intro x hx
 have:x = i:=by simpa using hx
 subst this
 unfold wpb at h
 rw [Nat.eq_of_beq_eq_true hn] at h
 exact h
theorem qH8 (k:Nat) (he:jZ (jJ ops i).op = true) (hf:wX ops i rest = [k]) (hn:Nat.beq ((i :: rest).filter (· != i)).length rest.length = true) (hn2:Nat.beq ((i :: rest).filter (· != k)).length rest.length = true)
  (h:wpb P n ops st G i ((i :: rest).filter (· != i)) Q F w) (h2:wpb P n ops st G k ((i :: rest).filter (· != k)) Q F w):wpe P n ops st G (i :: rest) Q F w:=by
 unfold wpe
 simp only [List.length_cons,wpE]
 rw [if_pos he,hf]
 intro x hx
 have:x = i∨x = k:=by simpa using hx
 rcases this with rfl|rfl
 ·unfold wpb at h
  rw [Nat.eq_of_beq_eq_true hn] at h
  exact h
 ·unfold wpb at h2
  rw [Nat.eq_of_beq_eq_true hn2] at h2
  exact h2
theorem wbs {l:List Nat} {R:Value→World→Prop} (ho:jJ ops i = ⟨some d,op,ty,pos,aft,none⟩) (hs:StepF P n ⟨some d,op,ty,pos,aft,none⟩ F w R) (h:∀ v w',R v w'→G w'∧wpe P n ops st G l Q (F.put d v) w'):wpb P n ops st G i l Q F w:=by
 unfold wpb
 rw [ho]
 refine ⟨fun _=>Step.mono hs fun v w' hr=>?_,fun hw=>?_⟩
 ·rw [xW]
  exact ⟨fun _=>(h v w' hr).1,(h v w' hr).2⟩
 ·simp [Region.wanted] at hw
end
end Go.Eng
namespace Go.Eng
def kX (ns:List Int):ByteArray:=ns.foldl (fun r n=>r.push (UInt8.ofNat n.toNat)) ByteArray.empty
theorem qDu (ns:List Int):∀ r:ByteArray,(ns.foldl (fun r n=>r.push (UInt8.ofNat n.toNat)) r).size = r.size + ns.length:=by
 induction ns with
 | nil=>intro r;simp
 | cons n ns ih=>
  intro r
  rw [List.foldl_cons,ih,ByteArray.size_push,List.length_cons]
  omega
theorem qDe (ns:List Int):(kX ns).size = ns.length:=by
 unfold kX
 rw [qDu]
 simp
section
variable {P:Program} {n:FrK} {w:World} {F:Fr} {d:Option Tmp} {ty:TypeId} {pos:String} {aft:Array Edge} {g:Option (Nat × Bool)} {x y:Operand}
theorem qN4 {b o len:Nat} {vs:List Value} (hl:vs.length = len) (hc:∀ (j:Nat) (v:Value),vs[j]? = some v→w.cell? ⟨b,o + j,none⟩ = some v):(loadCells ⟨b,o,none⟩ len).run P w = .ok vs.toArray w:=by
 subst hl
 have:=kJ (P:=P) (w:=w) b o vs 0 #[] (fun j v hv=>by simpa using hc j v hv)
 simp [loadCells,this]
theorem qOy {t t' e b o len cap:Nat} {ns:List Int} (ht:P.underlying t = some (.slice e)) (he:P.underlying e = some (.int .u8)) (ht':P.underlying t' = some .string) (hx:ev n F x = .slice (some ⟨b,o,none⟩) len cap) (hl:ns.length = len)
  (hc:∀ (j:Nat) (v:Value),(ns.map (Value.int .u8))[j]? = some v→w.cell? ⟨b,o + j,none⟩ = some v):PV P n w F ⟨d,.convert t t' x,ty,pos,aft,g⟩ (.string (kX ns)):=by
 have h1:=qN4 (P:=P) (len:=len) (by simpa using hl) hc
 have h2:=run_bytesToString (P:=P) w ⟨b,o,none⟩ len cap ns h1
 simp only [PV,execOp,convert,hx,Sem.run_bind,zE ht,zE ht',Result.andThen_ok,zE he,h2]
 rfl
end
end Go.Eng
namespace Go.Proofs.YtbgldmoikimmpaaGreatDoor
open Go.Eng
def qPc:Nat→Bool
 | 2=>true
 | 3=>true
 | 4=>true
 | 5=>true
 | 9=>true
 | 21=>true
 | 22=>true
 | 23=>true
 | 25=>true
 | 31=>true
 | 41=>true
 | 46=>true
 | 52=>true
 | 63=>true
 | 64=>true
 | 65=>true
 | 68=>true
 | 69=>true
 | 82=>true
 | 92=>true
 | 93=>true
 | 111=>true
 | 112=>true
 | 114=>true
 | 147=>true
 | 152=>true
 | 160=>true
 | 179=>true
 | 188=>true
 | 190=>true
 | 201=>true
 | 230=>true
 | 242=>true
 | 262=>true
 | 318=>true
 | 363=>true
 | 376=>true
 | 381=>true
 | 399=>true
 | 403=>true
 | 407=>true
 | _=>false
theorem qPb {t:Nat} (h:qPc t = true):∃ q,Tryz.prog.underlying t = some q∧qPv q = true:=by
 unfold qPc at h
 split at h
 ·exact ⟨_,Tryz.underlying2,rfl⟩
 ·exact ⟨_,Tryz.underlying3,rfl⟩
 ·exact ⟨_,Tryz.underlying4,rfl⟩
 ·exact ⟨_,Tryz.underlying5,rfl⟩
 ·exact ⟨_,Tryz.underlying9,rfl⟩
 ·exact ⟨_,Tryz.underlying21,rfl⟩
 ·exact ⟨_,Tryz.underlying22,rfl⟩
 ·exact ⟨_,Tryz.underlying23,rfl⟩
 ·exact ⟨_,Tryz.underlying25,rfl⟩
 ·exact ⟨_,Tryz.underlying31,rfl⟩
 ·exact ⟨_,Tryz.underlying41,rfl⟩
 ·exact ⟨_,Tryz.underlying46,rfl⟩
 ·exact ⟨_,Tryz.underlying52,rfl⟩
 ·exact ⟨_,Tryz.underlying63,rfl⟩
 ·exact ⟨_,Tryz.underlying64,rfl⟩
 ·exact ⟨_,Tryz.underlying65,rfl⟩
 ·exact ⟨_,Tryz.underlying68,rfl⟩
 ·exact ⟨_,Tryz.underlying69,rfl⟩
 ·exact ⟨_,Tryz.underlying82,rfl⟩
 ·exact ⟨_,Tryz.underlying92,rfl⟩
 ·exact ⟨_,Tryz.underlying93,rfl⟩
 ·exact ⟨_,Tryz.underlying111,rfl⟩
 ·exact ⟨_,Tryz.underlying112,rfl⟩
 ·exact ⟨_,Tryz.underlying114,rfl⟩
 ·exact ⟨_,Tryz.underlying147,rfl⟩
 ·exact ⟨_,Tryz.underlying152,rfl⟩
 ·exact ⟨_,Tryz.underlying160,rfl⟩
 ·exact ⟨_,Tryz.underlying179,rfl⟩
 ·exact ⟨_,Tryz.underlying188,rfl⟩
 ·exact ⟨_,Tryz.underlying190,rfl⟩
 ·exact ⟨_,Tryz.underlying201,rfl⟩
 ·exact ⟨_,Tryz.underlying230,rfl⟩
 ·exact ⟨_,Tryz.underlying242,rfl⟩
 ·exact ⟨_,Tryz.underlying262,rfl⟩
 ·exact ⟨_,Tryz.underlying318,rfl⟩
 ·exact ⟨_,Tryz.underlying363,rfl⟩
 ·exact ⟨_,Tryz.underlying376,rfl⟩
 ·exact ⟨_,Tryz.underlying381,rfl⟩
 ·exact ⟨_,Tryz.underlying399,rfl⟩
 ·exact ⟨_,Tryz.underlying403,rfl⟩
 ·exact ⟨_,Tryz.underlying407,rfl⟩
 ·cases h
def qB6:Nat→Option Nat
 | 27=>some 2
 | 29=>some 5
 | 34=>some 2
 | 36=>some 4
 | 39=>some 2
 | 54=>some 3
 | 62=>some 2
 | 67=>some 13
 | 72=>some 6
 | 80=>some 3
 | 84=>some 2
 | 102=>some 3
 | 174=>some 32
 | 175=>some 32
 | 186=>some 16
 | 187=>some 16
 | 192=>some 3
 | 194=>some 6
 | 197=>some 2
 | 203=>some 3
 | 243=>some 8
 | 315=>some 64
 | 327=>some 2
 | 358=>some 256
 | 359=>some 256
 | 368=>some 8
 | 370=>some 20
 | 371=>some 65
 | 406=>some 64
 | 409=>some 256
 | 411=>some 2
 | 412=>some 32
 | _=>none
theorem qDm {t k:Nat} (h:qB6 t = some k):∃ q,Tryz.prog.underlying t = some q∧qKx q = true:=by
 unfold qB6 at h
 split at h
 ·exact ⟨_,Tryz.underlying27,rfl⟩
 ·exact ⟨_,Tryz.underlying29,rfl⟩
 ·exact ⟨_,Tryz.underlying34,rfl⟩
 ·exact ⟨_,Tryz.underlying36,rfl⟩
 ·exact ⟨_,Tryz.underlying39,rfl⟩
 ·exact ⟨_,Tryz.underlying54,rfl⟩
 ·exact ⟨_,Tryz.underlying62,rfl⟩
 ·exact ⟨_,Tryz.underlying67,rfl⟩
 ·exact ⟨_,Tryz.underlying72,rfl⟩
 ·exact ⟨_,Tryz.underlying80,rfl⟩
 ·exact ⟨_,Tryz.underlying84,rfl⟩
 ·exact ⟨_,Tryz.underlying102,rfl⟩
 ·exact ⟨_,Tryz.underlying174,rfl⟩
 ·exact ⟨_,Tryz.underlying175,rfl⟩
 ·exact ⟨_,Tryz.underlying186,rfl⟩
 ·exact ⟨_,Tryz.underlying187,rfl⟩
 ·exact ⟨_,Tryz.underlying192,rfl⟩
 ·exact ⟨_,Tryz.underlying194,rfl⟩
 ·exact ⟨_,Tryz.underlying197,rfl⟩
 ·exact ⟨_,Tryz.underlying203,rfl⟩
 ·exact ⟨_,Tryz.underlying243,rfl⟩
 ·exact ⟨_,Tryz.underlying315,rfl⟩
 ·exact ⟨_,Tryz.underlying327,rfl⟩
 ·exact ⟨_,Tryz.underlying358,rfl⟩
 ·exact ⟨_,Tryz.underlying359,rfl⟩
 ·exact ⟨_,Tryz.underlying368,rfl⟩
 ·exact ⟨_,Tryz.underlying370,rfl⟩
 ·exact ⟨_,Tryz.underlying371,rfl⟩
 ·exact ⟨_,Tryz.underlying406,rfl⟩
 ·exact ⟨_,Tryz.underlying409,rfl⟩
 ·exact ⟨_,Tryz.underlying411,rfl⟩
 ·exact ⟨_,Tryz.underlying412,rfl⟩
 ·cases h
def qAy:Nat→Option Nat
 | 2=>some 1
 | 3=>some 1
 | 4=>some 1
 | 5=>some 1
 | 9=>some 1
 | 21=>some 1
 | 22=>some 1
 | 23=>some 1
 | 25=>some 1
 | 27=>some 2
 | 29=>some 5
 | 31=>some 1
 | 34=>some 2
 | 36=>some 4
 | 39=>some 2
 | 41=>some 1
 | 46=>some 1
 | 52=>some 1
 | 54=>some 3
 | 62=>some 2
 | 63=>some 1
 | 64=>some 1
 | 65=>some 1
 | 67=>some 13
 | 68=>some 1
 | 69=>some 1
 | 72=>some 6
 | 80=>some 3
 | 82=>some 1
 | 84=>some 2
 | 92=>some 1
 | 93=>some 1
 | 102=>some 3
 | 111=>some 1
 | 112=>some 1
 | 114=>some 1
 | 147=>some 1
 | 152=>some 1
 | 160=>some 1
 | 174=>some 32
 | 175=>some 32
 | 179=>some 1
 | 186=>some 16
 | 187=>some 16
 | 188=>some 1
 | 190=>some 1
 | 192=>some 3
 | 194=>some 6
 | 197=>some 2
 | 201=>some 1
 | 203=>some 3
 | 230=>some 1
 | 242=>some 1
 | 243=>some 8
 | 262=>some 1
 | 315=>some 64
 | 318=>some 1
 | 327=>some 2
 | 358=>some 256
 | 359=>some 256
 | 363=>some 1
 | 368=>some 8
 | 370=>some 20
 | 371=>some 65
 | 376=>some 1
 | 381=>some 1
 | 399=>some 1
 | 403=>some 1
 | 406=>some 64
 | 407=>some 1
 | 409=>some 256
 | 411=>some 2
 | 412=>some 32
 | _=>none
theorem qQ {t k:Nat} (h:qAy t = some k):TSize Tryz.prog t k:=by
 unfold qAy at h
 split at h
 ·cases h;unfold TSize;kernel_rfl
 ·cases h;unfold TSize;kernel_rfl
 ·cases h;unfold TSize;kernel_rfl
 ·cases h;unfold TSize;kernel_rfl
 ·cases h;unfold TSize;kernel_rfl
 ·cases h;unfold TSize;kernel_rfl
 ·cases h;unfold TSize;kernel_rfl
 ·cases h;unfold TSize;kernel_rfl
 ·cases h;unfold TSize;kernel_rfl
 ·cases h;unfold TSize;kernel_rfl
 ·cases h;unfold TSize;kernel_rfl
 ·cases h;unfold TSize;kernel_rfl
 ·cases h;unfold TSize;kernel_rfl
 ·cases h;unfold TSize;kernel_rfl
 ·cases h;unfold TSize;kernel_rfl
 ·cases h;unfold TSize;kernel_rfl
 ·cases h;unfold TSize;kernel_rfl
 ·cases h;unfold TSize;kernel_rfl
 ·cases h;unfold TSize;kernel_rfl
 ·cases h;unfold TSize;kernel_rfl
 ·cases h;unfold TSize;kernel_rfl
 ·cases h;unfold TSize;kernel_rfl
 ·cases h;unfold TSize;kernel_rfl
 ·cases h;unfold TSize;kernel_rfl
 ·cases h;unfold TSize;kernel_rfl
 ·cases h;unfold TSize;kernel_rfl
 ·cases h;unfold TSize;kernel_rfl
 ·cases h;unfold TSize;kernel_rfl
 ·cases h;unfold TSize;kernel_rfl
 ·cases h;unfold TSize;kernel_rfl
 ·cases h;unfold TSize;kernel_rfl
 ·cases h;unfold TSize;kernel_rfl
 ·cases h;unfold TSize;kernel_rfl
 ·cases h;unfold TSize;kernel_rfl
 ·cases h;unfold TSize;kernel_rfl
 ·cases h;unfold TSize;kernel_rfl
 ·cases h;unfold TSize;kernel_rfl
 ·cases h;unfold TSize;kernel_rfl
 ·cases h;unfold TSize;kernel_rfl
 ·cases h;unfold TSize;kernel_rfl
 ·cases h;unfold TSize;kernel_rfl
 ·cases h;unfold TSize;kernel_rfl
 ·cases h;unfold TSize;kernel_rfl
 ·cases h;unfold TSize;kernel_rfl
 ·cases h;unfold TSize;kernel_rfl
 ·cases h;unfold TSize;kernel_rfl
 ·cases h;unfold TSize;kernel_rfl
 ·cases h;unfold TSize;kernel_rfl
 ·cases h;unfold TSize;kernel_rfl
 ·cases h;unfold TSize;kernel_rfl
 ·cases h;unfold TSize;kernel_rfl
 ·cases h;unfold TSize;kernel_rfl
 ·cases h;unfold TSize;kernel_rfl
 ·cases h;unfold TSize;kernel_rfl
 ·cases h;unfold TSize;kernel_rfl
 ·cases h;unfold TSize;kernel_rfl
 ·cases h;unfold TSize;kernel_rfl
 ·cases h;unfold TSize;kernel_rfl
 ·cases h;unfold TSize;kernel_rfl
 ·cases h;unfold TSize;kernel_rfl
 ·cases h;unfold TSize;kernel_rfl
 ·cases h;unfold TSize;kernel_rfl
 ·cases h;unfold TSize;kernel_rfl
 ·cases h;unfold TSize;kernel_rfl
 ·cases h;unfold TSize;kernel_rfl
 ·cases h;unfold TSize;kernel_rfl
 ·cases h;unfold TSize;kernel_rfl
 ·cases h;unfold TSize;kernel_rfl
 ·cases h;unfold TSize;kernel_rfl
 ·cases h;unfold TSize;kernel_rfl
 ·cases h;unfold TSize;kernel_rfl
 ·cases h;unfold TSize;kernel_rfl
 ·cases h;unfold TSize;kernel_rfl
 ·cases h
def qC8:Nat→Option (Nat × Nat)
 | 22=>some (23,1)
 | 23=>some (3,1)
 | 25=>some (80,3)
 | 31=>some (36,4)
 | 46=>some (54,3)
 | 52=>some (9,1)
 | 63=>some (62,2)
 | 64=>some (327,2)
 | 65=>some (203,3)
 | 69=>some (68,1)
 | 93=>some (39,2)
 | 112=>some (194,6)
 | 114=>some (102,3)
 | 152=>some (197,2)
 | 160=>some (4,1)
 | 179=>some (5,1)
 | 188=>some (192,3)
 | 230=>some (242,1)
 | _=>none
theorem xT {t e k:Nat} (h:qC8 t = some (e,k)):Tryz.prog.underlying t = some (.slice e)∧TSize Tryz.prog e k:=by
 unfold qC8 at h
 split at h
 ·cases h;exact ⟨Tryz.underlying22,qQ rfl⟩
 ·cases h;exact ⟨Tryz.underlying23,qQ rfl⟩
 ·cases h;exact ⟨Tryz.underlying25,qQ rfl⟩
 ·cases h;exact ⟨Tryz.underlying31,qQ rfl⟩
 ·cases h;exact ⟨Tryz.underlying46,qQ rfl⟩
 ·cases h;exact ⟨Tryz.underlying52,qQ rfl⟩
 ·cases h;exact ⟨Tryz.underlying63,qQ rfl⟩
 ·cases h;exact ⟨Tryz.underlying64,qQ rfl⟩
 ·cases h;exact ⟨Tryz.underlying65,qQ rfl⟩
 ·cases h;exact ⟨Tryz.underlying69,qQ rfl⟩
 ·cases h;exact ⟨Tryz.underlying93,qQ rfl⟩
 ·cases h;exact ⟨Tryz.underlying112,qQ rfl⟩
 ·cases h;exact ⟨Tryz.underlying114,qQ rfl⟩
 ·cases h;exact ⟨Tryz.underlying152,qQ rfl⟩
 ·cases h;exact ⟨Tryz.underlying160,qQ rfl⟩
 ·cases h;exact ⟨Tryz.underlying179,qQ rfl⟩
 ·cases h;exact ⟨Tryz.underlying188,qQ rfl⟩
 ·cases h;exact ⟨Tryz.underlying230,qQ rfl⟩
 ·cases h
def qG0:Nat→Option (Nat × Nat × Nat)
 | 174=>some (32,5,1)
 | 175=>some (32,5,1)
 | 186=>some (16,5,1)
 | 187=>some (16,5,1)
 | 243=>some (8,242,1)
 | 315=>some (64,242,1)
 | 358=>some (256,4,1)
 | 359=>some (256,4,1)
 | 368=>some (8,5,1)
 | 370=>some (20,147,1)
 | 371=>some (65,5,1)
 | 406=>some (64,5,1)
 | 409=>some (256,5,1)
 | 412=>some (16,411,2)
 | _=>none
theorem uE {t m e k:Nat} (h:qG0 t = some (m,e,k)):Tryz.prog.underlying t = some (.array m e)∧TSize Tryz.prog e k:=by
 unfold qG0 at h
 split at h
 ·cases h;exact ⟨Tryz.underlying174,qQ rfl⟩
 ·cases h;exact ⟨Tryz.underlying175,qQ rfl⟩
 ·cases h;exact ⟨Tryz.underlying186,qQ rfl⟩
 ·cases h;exact ⟨Tryz.underlying187,qQ rfl⟩
 ·cases h;exact ⟨Tryz.underlying243,qQ rfl⟩
 ·cases h;exact ⟨Tryz.underlying315,qQ rfl⟩
 ·cases h;exact ⟨Tryz.underlying358,qQ rfl⟩
 ·cases h;exact ⟨Tryz.underlying359,qQ rfl⟩
 ·cases h;exact ⟨Tryz.underlying368,qQ rfl⟩
 ·cases h;exact ⟨Tryz.underlying370,qQ rfl⟩
 ·cases h;exact ⟨Tryz.underlying371,qQ rfl⟩
 ·cases h;exact ⟨Tryz.underlying406,qQ rfl⟩
 ·cases h;exact ⟨Tryz.underlying409,qQ rfl⟩
 ·cases h;exact ⟨Tryz.underlying412,qQ rfl⟩
 ·cases h
def qBz:Nat→Bool
 | 9=>true
 | 68=>true
 | _=>false
theorem vT {t:Nat} (h:qBz t = true):Tryz.prog.underlying t = some .string:=by
 unfold qBz at h
 split at h
 ·exact Tryz.underlying9
 ·exact Tryz.underlying68
 ·cases h
def qBa:Nat→Option IntKind
 | 2=>some .i64
 | 3=>some .i64
 | 5=>some .u8
 | 21=>some .i32
 | 41=>some .i64
 | 111=>some .u64
 | 147=>some .u64
 | 242=>some .u32
 | 262=>some .i8
 | 381=>some .i64
 | 399=>some .u64
 | _=>none
theorem qB9 {t:Nat} {k:IntKind} (h:qBa t = some k):Tryz.prog.underlying t = some (.int k):=by
 unfold qBa at h
 split at h
 ·cases h;exact Tryz.underlying2
 ·cases h;exact Tryz.underlying3
 ·cases h;exact Tryz.underlying5
 ·cases h;exact Tryz.underlying21
 ·cases h;exact Tryz.underlying41
 ·cases h;exact Tryz.underlying111
 ·cases h;exact Tryz.underlying147
 ·cases h;exact Tryz.underlying242
 ·cases h;exact Tryz.underlying262
 ·cases h;exact Tryz.underlying381
 ·cases h;exact Tryz.underlying399
 ·cases h
def qM9:Nat→Nat→Option Nat
 | 27,0=>some 0
 | 27,1=>some 1
 | 29,0=>some 0
 | 29,1=>some 1
 | 29,2=>some 2
 | 29,3=>some 3
 | 34,0=>some 0
 | 34,1=>some 1
 | 36,0=>some 0
 | 36,1=>some 1
 | 36,2=>some 2
 | 39,0=>some 0
 | 39,1=>some 1
 | 54,0=>some 0
 | 54,1=>some 1
 | 54,2=>some 2
 | 62,0=>some 0
 | 62,1=>some 1
 | 67,0=>some 0
 | 67,1=>some 1
 | 67,2=>some 2
 | 67,3=>some 3
 | 67,4=>some 4
 | 67,5=>some 5
 | 67,6=>some 6
 | 67,7=>some 7
 | 67,8=>some 8
 | 67,9=>some 9
 | 67,10=>some 10
 | 67,11=>some 11
 | 67,12=>some 12
 | 72,0=>some 0
 | 72,1=>some 1
 | 72,2=>some 2
 | 72,3=>some 3
 | 72,4=>some 4
 | 72,5=>some 5
 | 80,0=>some 0
 | 80,1=>some 1
 | 80,2=>some 2
 | 84,0=>some 0
 | 84,1=>some 1
 | 102,0=>some 0
 | 102,1=>some 1
 | 102,2=>some 2
 | 192,0=>some 0
 | 192,1=>some 1
 | 192,2=>some 2
 | 194,0=>some 0
 | 194,1=>some 1
 | 194,2=>some 2
 | 194,3=>some 3
 | 194,4=>some 4
 | 194,5=>some 5
 | 197,0=>some 0
 | 197,1=>some 1
 | 203,0=>some 0
 | 203,1=>some 1
 | 203,2=>some 2
 | 327,0=>some 0
 | 327,1=>some 1
 | 411,0=>some 0
 | 411,1=>some 1
 | _,_=>none
section
variable {n:FrK} {w:World} {F:Fr} {d:Option Tmp} {ty:TypeId} {pos:String} {aft:Array Edge} {g:Option (Nat × Bool)} {x y:Operand}
set_option maxHeartbeats 2000000 in
theorem qS {s i off b o:Nat} (h:qM9 s i = some off) (hx:ev n F x = .pointer (some ⟨b,o,none⟩)):PV Tryz.prog n w F ⟨d,.fieldAddr s x i,ty,pos,aft,g⟩ (.pointer (some ⟨b,o + off,none⟩)):=by
 unfold qM9 at h
 split at h
 ·cases h;exact jH (k:=0) (by unfold jM;kernel_rfl) hx
 ·cases h;exact jH (k:=0) (by unfold jM;kernel_rfl) hx
 ·cases h;exact jH (k:=0) (by unfold jM;kernel_rfl) hx
 ·cases h;exact jH (k:=0) (by unfold jM;kernel_rfl) hx
 ·cases h;exact jH (k:=0) (by unfold jM;kernel_rfl) hx
 ·cases h;exact jH (k:=1) (by unfold jM;kernel_rfl) hx
 ·cases h;exact jH (k:=0) (by unfold jM;kernel_rfl) hx
 ·cases h;exact jH (k:=0) (by unfold jM;kernel_rfl) hx
 ·cases h;exact jH (k:=0) (by unfold jM;kernel_rfl) hx
 ·cases h;exact jH (k:=0) (by unfold jM;kernel_rfl) hx
 ·cases h;exact jH (k:=1) (by unfold jM;kernel_rfl) hx
 ·cases h;exact jH (k:=0) (by unfold jM;kernel_rfl) hx
 ·cases h;exact jH (k:=0) (by unfold jM;kernel_rfl) hx
 ·cases h;exact jH (k:=0) (by unfold jM;kernel_rfl) hx
 ·cases h;exact jH (k:=0) (by unfold jM;kernel_rfl) hx
 ·cases h;exact jH (k:=0) (by unfold jM;kernel_rfl) hx
 ·cases h;exact jH (k:=0) (by unfold jM;kernel_rfl) hx
 ·cases h;exact jH (k:=0) (by unfold jM;kernel_rfl) hx
 ·cases h;exact jH (k:=0) (by unfold jM;kernel_rfl) hx
 ·cases h;exact jH (k:=0) (by unfold jM;kernel_rfl) hx
 ·cases h;exact jH (k:=0) (by unfold jM;kernel_rfl) hx
 ·cases h;exact jH (k:=0) (by unfold jM;kernel_rfl) hx
 ·cases h;exact jH (k:=0) (by unfold jM;kernel_rfl) hx
 ·cases h;exact jH (k:=0) (by unfold jM;kernel_rfl) hx
 ·cases h;exact jH (k:=0) (by unfold jM;kernel_rfl) hx
 ·cases h;exact jH (k:=0) (by unfold jM;kernel_rfl) hx
 ·cases h;exact jH (k:=0) (by unfold jM;kernel_rfl) hx
 ·cases h;exact jH (k:=0) (by unfold jM;kernel_rfl) hx
 ·cases h;exact jH (k:=0) (by unfold jM;kernel_rfl) hx
 ·cases h;exact jH (k:=0) (by unfold jM;kernel_rfl) hx
 ·cases h;exact jH (k:=0) (by unfold jM;kernel_rfl) hx
 ·cases h;exact jH (k:=0) (by unfold jM;kernel_rfl) hx
 ·cases h;exact jH (k:=0) (by unfold jM;kernel_rfl) hx
 ·cases h;exact jH (k:=0) (by unfold jM;kernel_rfl) hx
 ·cases h;exact jH (k:=0) (by unfold jM;kernel_rfl) hx
 ·cases h;exact jH (k:=0) (by unfold jM;kernel_rfl) hx
 ·cases h;exact jH (k:=0) (by unfold jM;kernel_rfl) hx
 ·cases h;exact jH (k:=0) (by unfold jM;kernel_rfl) hx
 ·cases h;exact jH (k:=0) (by unfold jM;kernel_rfl) hx
 ·cases h;exact jH (k:=0) (by unfold jM;kernel_rfl) hx
 ·cases h;exact jH (k:=0) (by unfold jM;kernel_rfl) hx
 ·cases h;exact jH (k:=0) (by unfold jM;kernel_rfl) hx
 ·cases h;exact jH (k:=0) (by unfold jM;kernel_rfl) hx
 ·cases h;exact jH (k:=0) (by unfold jM;kernel_rfl) hx
 ·cases h;exact jH (k:=0) (by unfold jM;kernel_rfl) hx
 ·cases h;exact jH (k:=0) (by unfold jM;kernel_rfl) hx
 ·cases h;exact jH (k:=0) (by unfold jM;kernel_rfl) hx
 ·cases h;exact jH (k:=0) (by unfold jM;kernel_rfl) hx
 ·cases h;exact jH (k:=0) (by unfold jM;kernel_rfl) hx
 ·cases h;exact jH (k:=0) (by unfold jM;kernel_rfl) hx
 ·cases h;exact jH (k:=0) (by unfold jM;kernel_rfl) hx
 ·cases h;exact jH (k:=0) (by unfold jM;kernel_rfl) hx
 ·cases h;exact jH (k:=0) (by unfold jM;kernel_rfl) hx
 ·cases h;exact jH (k:=0) (by unfold jM;kernel_rfl) hx
 ·cases h;exact jH (k:=0) (by unfold jM;kernel_rfl) hx
 ·cases h;exact jH (k:=0) (by unfold jM;kernel_rfl) hx
 ·cases h;exact jH (k:=0) (by unfold jM;kernel_rfl) hx
 ·cases h;exact jH (k:=0) (by unfold jM;kernel_rfl) hx
 ·cases h;exact jH (k:=0) (by unfold jM;kernel_rfl) hx
 ·cases h;exact jH (k:=0) (by unfold jM;kernel_rfl) hx
 ·cases h;exact jH (k:=0) (by unfold jM;kernel_rfl) hx
 ·cases h;exact jH (k:=0) (by unfold jM;kernel_rfl) hx
 ·cases h;exact jH (k:=0) (by unfold jM;kernel_rfl) hx
 ·cases h
theorem qJ {t b o:Nat} {v:Value} (h:qPc t = true) (hx:ev n F x = .pointer (some ⟨b,o,none⟩)) (hc:w.cell? ⟨b,o,none⟩ = some v):PV Tryz.prog n w F ⟨d,.load t x,ty,pos,aft,g⟩ v:=by
 obtain ⟨q,h1,h2⟩:=qPb h
 exact qHp h1 h2 hx hc
theorem zP {t b o k:Nat} {vs:List Value} (h:qB6 t = some k) (hz:qAy t = some k) (hx:ev n F x = .pointer (some ⟨b,o,none⟩)) (hl:vs.length = k) (hc:∀ (j:Nat) (v:Value),vs[j]? = some v→w.cell? ⟨b,o + j,none⟩ = some v) :
  PV Tryz.prog n w F ⟨d,.load t x,ty,pos,aft,g⟩ (.agg vs.toArray):=by
 obtain ⟨q,h1,h2⟩:=qDm h
 exact qOv h1 h2 (qQ hz) hx hl hc
theorem jQ {t b o k:Nat} {f:Fr} (h:qB6 t = some k) (hz:qAy t = some k) (hx:ev n F x = .pointer (some ⟨b,o,none⟩)) (hc:∀ (j:Nat) (v:Value),((List.range k).map fun j=>f (o + j))[j]? = some v→w.cell? ⟨b,o + j,none⟩ = some v) :
  PV Tryz.prog n w F ⟨d,.load t x,ty,pos,aft,g⟩ (.agg ((List.range k).map fun j=>f (o + j)).toArray):=zP h hz hx (by simp) hc
theorem qR {t e k m c b o i:Nat} {q:IntKind} {s:Option Addr} (h:qC8 t = some (e,k)) (hx:ev n F x = .slice s m c) (hy:ev n F y = .int q i) (hs:s = some ⟨b,o,none⟩) (hi:i < m) :
  PV Tryz.prog n w F ⟨d,.indexAddr t x y,ty,pos,aft,g⟩ (.pointer (some ⟨b,o + i * k,none⟩)):=qOw (xT h).1 (xT h).2 hx hy hs hi
theorem jG {t e k m b o i:Nat} {q:IntKind} (h:qG0 t = some (m,e,k)) (hx:ev n F x = .pointer (some ⟨b,o,none⟩)) (hy:ev n F y = .int q i) (hi:i < m) :
  PV Tryz.prog n w F ⟨d,.indexAddr t x y,ty,pos,aft,g⟩ (.pointer (some ⟨b,o + i * k,none⟩)):=qKd (uE h).1 (uE h).2 hx hy hi
theorem jC {q p e k:Nat} {s:Option Addr} {m c:Nat} (h:qC8 p = some (e,k)) (hx:ev n F x = .slice s m c):PV Tryz.prog n w F ⟨d,.call ⟨.builtin .len,#[x],#[p]⟩,q,pos,aft,g⟩ (.int .i64 m):=qW4 (xT h).1 hx
theorem xP {q p:Nat} {s:ByteArray} (h:qBz p = true) (hx:ev n F x = .string s):PV Tryz.prog n w F ⟨d,.call ⟨.builtin .len,#[x],#[p]⟩,q,pos,aft,g⟩ (.int .i64 s.size):=qT5 (vT h) hx
theorem zY {t:Nat} {s:ByteArray} {k:IntKind} {i:Nat} (h:qBz t = true) (hx:ev n F x = .string s) (hy:ev n F y = .int k i) (hi:i < s.size):PV Tryz.prog n w F ⟨d,.index t x y,ty,pos,aft,g⟩ (.int .u8 (bAt s i)):=
 qKc (vT h) hx hy hi
theorem zQ {t t':Nat} {k k' q:IntKind} {a:Int} (h:qBa t = some q) (h':qBa t' = some k') (hx:ev n F x = .int k a):PV Tryz.prog n w F ⟨d,.convert t t' x,ty,pos,aft,g⟩ (.int k' (k'.wrap a)):=
 qT6 (qB9 h') ⟨_,qB9 h⟩ hx
end
def uW:Nat→Option Value
 | 2=>some (.int .i64 0)
 | 3=>some (.int .i64 0)
 | 4=>some (.bool false)
 | 5=>some (.int .u8 0)
 | 9=>some (.string ⟨#[]⟩)
 | 21=>some (.int .i32 0)
 | 22=>some (.slice none 0 0)
 | 23=>some (.slice none 0 0)
 | 25=>some (.slice none 0 0)
 | 27=>some (.agg #[.slice none 0 0,.slice none 0 0])
 | 29=>some (.agg #[.slice none 0 0,.slice none 0 0,.slice none 0 0,.slice none 0 0,.slice none 0 0])
 | 31=>some (.slice none 0 0)
 | 34=>some (.agg #[.int .i64 0,.int .i64 0])
 | 36=>some (.agg #[.int .i64 0,.int .i64 0,.int .i64 0,.int .i64 0])
 | 39=>some (.agg #[.int .i64 0,.int .i64 0])
 | 41=>some (.int .i64 0)
 | 46=>some (.slice none 0 0)
 | 52=>some (.slice none 0 0)
 | 54=>some (.agg #[.slice none 0 0,.int .i64 0,.slice none 0 0])
 | 62=>some (.agg #[.int .i64 0,.int .i64 0])
 | 63=>some (.slice none 0 0)
 | 64=>some (.slice none 0 0)
 | 65=>some (.slice none 0 0)
 | 67=>some (.agg #[.string ⟨#[]⟩,.int .i64 0,.int .i64 0,.int .i64 0,.int .i64 0,.int .i64 0,.slice none 0 0,.bool false,.slice none 0 0,.int .i64 0,.int .i64 0,.slice none 0 0,.slice none 0 0])
 | 68=>some (.string ⟨#[]⟩)
 | 69=>some (.slice none 0 0)
 | 72=>some (.agg #[.int .i64 0,.string ⟨#[]⟩,.int .i64 0,.slice none 0 0,.slice none 0 0,.slice none 0 0])
 | 80=>some (.agg #[.int .i64 0,.int .i64 0,.int .i64 0])
 | 82=>some (.pointer none)
 | 84=>some (.agg #[.slice none 0 0,.int .i64 0])
 | 92=>some (.map none)
 | 93=>some (.slice none 0 0)
 | 102=>some (.agg #[.bool false,.string ⟨#[]⟩,.string ⟨#[]⟩])
 | 111=>some (.int .u64 0)
 | 112=>some (.slice none 0 0)
 | 114=>some (.slice none 0 0)
 | 147=>some (.int .u64 0)
 | 152=>some (.slice none 0 0)
 | 160=>some (.slice none 0 0)
 | 174=>some (.agg #[.int .u8 0,.int .u8 0,.int .u8 0,.int .u8 0,.int .u8 0,.int .u8 0,.int .u8 0,.int .u8 0,.int .u8 0,.int .u8 0,.int .u8 0,.int .u8 0,.int .u8 0,.int .u8 0,.int .u8 0,.int .u8 0,.int .u8 0,.int .u8 0,.int .u8 0,.int .u8 0,.int .u8 0,.int .u8 0,.int .u8 0,.int .u8 0,.int .u8 0,.int .u8 0,.int .u8 0,.int .u8 0,.int .u8 0,.int .u8 0,.int .u8 0,.int .u8 0])
 | 175=>some (.agg #[.int .u8 0,.int .u8 0,.int .u8 0,.int .u8 0,.int .u8 0,.int .u8 0,.int .u8 0,.int .u8 0,.int .u8 0,.int .u8 0,.int .u8 0,.int .u8 0,.int .u8 0,.int .u8 0,.int .u8 0,.int .u8 0,.int .u8 0,.int .u8 0,.int .u8 0,.int .u8 0,.int .u8 0,.int .u8 0,.int .u8 0,.int .u8 0,.int .u8 0,.int .u8 0,.int .u8 0,.int .u8 0,.int .u8 0,.int .u8 0,.int .u8 0,.int .u8 0])
 | 179=>some (.slice none 0 0)
 | 186=>some (.agg #[.int .u8 0,.int .u8 0,.int .u8 0,.int .u8 0,.int .u8 0,.int .u8 0,.int .u8 0,.int .u8 0,.int .u8 0,.int .u8 0,.int .u8 0,.int .u8 0,.int .u8 0,.int .u8 0,.int .u8 0,.int .u8 0])
 | 187=>some (.agg #[.int .u8 0,.int .u8 0,.int .u8 0,.int .u8 0,.int .u8 0,.int .u8 0,.int .u8 0,.int .u8 0,.int .u8 0,.int .u8 0,.int .u8 0,.int .u8 0,.int .u8 0,.int .u8 0,.int .u8 0,.int .u8 0])
 | 188=>some (.slice none 0 0)
 | 190=>some (.nilFunc)
 | 192=>some (.agg #[.string ⟨#[]⟩,.int .i64 0,.nilFunc])
 | 194=>some (.agg #[.int .i64 0,.int .i64 0,.int .i64 0,.slice none 0 0,.slice none 0 0,.slice none 0 0])
 | 197=>some (.agg #[.int .i64 0,.int .i64 0])
 | 201=>some (.map none)
 | 203=>some (.agg #[.string ⟨#[]⟩,.int .i64 0,.int .i64 0])
 | 230=>some (.slice none 0 0)
 | 242=>some (.int .u32 0)
 | 243=>some (.agg #[.int .u32 0,.int .u32 0,.int .u32 0,.int .u32 0,.int .u32 0,.int .u32 0,.int .u32 0,.int .u32 0])
 | 262=>some (.int .i8 0)
 | 315=>some (.agg #[.int .u32 0,.int .u32 0,.int .u32 0,.int .u32 0,.int .u32 0,.int .u32 0,.int .u32 0,.int .u32 0,.int .u32 0,.int .u32 0,.int .u32 0,.int .u32 0,.int .u32 0,.int .u32 0,.int .u32 0,.int .u32 0,.int .u32 0,.int .u32 0,.int .u32 0,.int .u32 0,.int .u32 0,.int .u32 0,.int .u32 0,.int .u32 0,.int .u32 0,.int .u32 0,.int .u32 0,.int .u32 0,.int .u32 0,.int .u32 0,.int .u32 0,.int .u32 0,.int .u32 0,.int .u32 0,.int .u32 0,.int .u32 0,.int .u32 0,.int .u32 0,.int .u32 0,.int .u32 0,.int .u32 0,.int .u32 0,.int .u32 0,.int .u32 0,.int .u32 0,.int .u32 0,.int .u32 0,.int .u32 0,.int .u32 0,.int .u32 0,.int .u32 0,.int .u32 0,.int .u32 0,.int .u32 0,.int .u32 0,.int .u32 0,.int .u32 0,.int .u32 0,.int .u32 0,.int .u32 0,.int .u32 0,.int .u32 0,.int .u32 0,.int .u32 0])
 | 318=>some (.pointer none)
 | 327=>some (.agg #[.string ⟨#[]⟩,.int .i64 0])
 | 363=>some (.pointer none)
 | 368=>some (.agg #[.int .u8 0,.int .u8 0,.int .u8 0,.int .u8 0,.int .u8 0,.int .u8 0,.int .u8 0,.int .u8 0])
 | 370=>some (.agg #[.int .u64 0,.int .u64 0,.int .u64 0,.int .u64 0,.int .u64 0,.int .u64 0,.int .u64 0,.int .u64 0,.int .u64 0,.int .u64 0,.int .u64 0,.int .u64 0,.int .u64 0,.int .u64 0,.int .u64 0,.int .u64 0,.int .u64 0,.int .u64 0,.int .u64 0,.int .u64 0])
 | 376=>some (.map none)
 | 381=>some (.int .i64 0)
 | 399=>some (.int .u64 0)
 | 403=>some (.pointer none)
 | 406=>some (.agg #[.int .u8 0,.int .u8 0,.int .u8 0,.int .u8 0,.int .u8 0,.int .u8 0,.int .u8 0,.int .u8 0,.int .u8 0,.int .u8 0,.int .u8 0,.int .u8 0,.int .u8 0,.int .u8 0,.int .u8 0,.int .u8 0,.int .u8 0,.int .u8 0,.int .u8 0,.int .u8 0,.int .u8 0,.int .u8 0,.int .u8 0,.int .u8 0,.int .u8 0,.int .u8 0,.int .u8 0,.int .u8 0,.int .u8 0,.int .u8 0,.int .u8 0,.int .u8 0,.int .u8 0,.int .u8 0,.int .u8 0,.int .u8 0,.int .u8 0,.int .u8 0,.int .u8 0,.int .u8 0,.int .u8 0,.int .u8 0,.int .u8 0,.int .u8 0,.int .u8 0,.int .u8 0,.int .u8 0,.int .u8 0,.int .u8 0,.int .u8 0,.int .u8 0,.int .u8 0,.int .u8 0,.int .u8 0,.int .u8 0,.int .u8 0,.int .u8 0,.int .u8 0,.int .u8 0,.int .u8 0,.int .u8 0,.int .u8 0,.int .u8 0,.int .u8 0])
 | 407=>some (.pointer none)
 | 411=>some (.agg #[.int .u8 0,.int .u8 0])
 | 412=>some (.agg #[.int .u8 0,.int .u8 0,.int .u8 0,.int .u8 0,.int .u8 0,.int .u8 0,.int .u8 0,.int .u8 0,.int .u8 0,.int .u8 0,.int .u8 0,.int .u8 0,.int .u8 0,.int .u8 0,.int .u8 0,.int .u8 0,.int .u8 0,.int .u8 0,.int .u8 0,.int .u8 0,.int .u8 0,.int .u8 0,.int .u8 0,.int .u8 0,.int .u8 0,.int .u8 0,.int .u8 0,.int .u8 0,.int .u8 0,.int .u8 0,.int .u8 0,.int .u8 0])
 | _=>none
theorem jD {t:Nat} {z:Value} (h:uW t = some z):TZero Tryz.prog t z:=by
 unfold uW at h
 split at h
 ·cases h;unfold TZero;kernel_rfl
 ·cases h;unfold TZero;kernel_rfl
 ·cases h;unfold TZero;kernel_rfl
 ·cases h;unfold TZero;kernel_rfl
 ·cases h;unfold TZero;kernel_rfl
 ·cases h;unfold TZero;kernel_rfl
 ·cases h;unfold TZero;kernel_rfl
 ·cases h;unfold TZero;kernel_rfl
 ·cases h;unfold TZero;kernel_rfl
 ·cases h;unfold TZero;kernel_rfl
 ·cases h;unfold TZero;kernel_rfl
 ·cases h;unfold TZero;kernel_rfl
 ·cases h;unfold TZero;kernel_rfl
 ·cases h;unfold TZero;kernel_rfl
 ·cases h;unfold TZero;kernel_rfl
 ·cases h;unfold TZero;kernel_rfl
 ·cases h;unfold TZero;kernel_rfl
 ·cases h;unfold TZero;kernel_rfl
 ·cases h;unfold TZero;kernel_rfl
 ·cases h;unfold TZero;kernel_rfl
 ·cases h;unfold TZero;kernel_rfl
 ·cases h;unfold TZero;kernel_rfl
 ·cases h;unfold TZero;kernel_rfl
 ·cases h;unfold TZero;kernel_rfl
 ·cases h;unfold TZero;kernel_rfl
 ·cases h;unfold TZero;kernel_rfl
 ·cases h;unfold TZero;kernel_rfl
 ·cases h;unfold TZero;kernel_rfl
 ·cases h;unfold TZero;kernel_rfl
 ·cases h;unfold TZero;kernel_rfl
 ·cases h;unfold TZero;kernel_rfl
 ·cases h;unfold TZero;kernel_rfl
 ·cases h;unfold TZero;kernel_rfl
 ·cases h;unfold TZero;kernel_rfl
 ·cases h;unfold TZero;kernel_rfl
 ·cases h;unfold TZero;kernel_rfl
 ·cases h;unfold TZero;kernel_rfl
 ·cases h;unfold TZero;kernel_rfl
 ·cases h;unfold TZero;kernel_rfl
 ·cases h;unfold TZero;kernel_rfl
 ·cases h;unfold TZero;kernel_rfl
 ·cases h;unfold TZero;kernel_rfl
 ·cases h;unfold TZero;kernel_rfl
 ·cases h;unfold TZero;kernel_rfl
 ·cases h;unfold TZero;kernel_rfl
 ·cases h;unfold TZero;kernel_rfl
 ·cases h;unfold TZero;kernel_rfl
 ·cases h;unfold TZero;kernel_rfl
 ·cases h;unfold TZero;kernel_rfl
 ·cases h;unfold TZero;kernel_rfl
 ·cases h;unfold TZero;kernel_rfl
 ·cases h;unfold TZero;kernel_rfl
 ·cases h;unfold TZero;kernel_rfl
 ·cases h;unfold TZero;kernel_rfl
 ·cases h;unfold TZero;kernel_rfl
 ·cases h;unfold TZero;kernel_rfl
 ·cases h;unfold TZero;kernel_rfl
 ·cases h;unfold TZero;kernel_rfl
 ·cases h;unfold TZero;kernel_rfl
 ·cases h;unfold TZero;kernel_rfl
 ·cases h;unfold TZero;kernel_rfl
 ·cases h;unfold TZero;kernel_rfl
 ·cases h;unfold TZero;kernel_rfl
 ·cases h;unfold TZero;kernel_rfl
 ·cases h;unfold TZero;kernel_rfl
 ·cases h;unfold TZero;kernel_rfl
 ·cases h;unfold TZero;kernel_rfl
 ·cases h;unfold TZero;kernel_rfl
 ·cases h;unfold TZero;kernel_rfl
 ·cases h
def qCl:Nat→Option Nat
 | 2=>some 8
 | 3=>some 8
 | 4=>some 1
 | 5=>some 1
 | 9=>some 16
 | 21=>some 4
 | 22=>some 24
 | 23=>some 24
 | 25=>some 24
 | 27=>some 48
 | 29=>some 120
 | 31=>some 24
 | 34=>some 16
 | 36=>some 32
 | 39=>some 16
 | 41=>some 8
 | 46=>some 24
 | 52=>some 24
 | 54=>some 56
 | 62=>some 16
 | 63=>some 24
 | 64=>some 24
 | 65=>some 24
 | 67=>some 176
 | 68=>some 16
 | 69=>some 24
 | 72=>some 104
 | 80=>some 24
 | 82=>some 8
 | 84=>some 32
 | 92=>some 8
 | 93=>some 24
 | 102=>some 40
 | 111=>some 8
 | 112=>some 24
 | 114=>some 24
 | 147=>some 8
 | 152=>some 24
 | 160=>some 24
 | 174=>some 32
 | 175=>some 32
 | 179=>some 24
 | 186=>some 16
 | 187=>some 16
 | 188=>some 24
 | 190=>some 8
 | 192=>some 32
 | 194=>some 96
 | 197=>some 16
 | 201=>some 8
 | 203=>some 32
 | 230=>some 24
 | 242=>some 4
 | 243=>some 32
 | 262=>some 1
 | 315=>some 256
 | 318=>some 8
 | 327=>some 24
 | 358=>some 256
 | 359=>some 256
 | 363=>some 8
 | 368=>some 8
 | 370=>some 160
 | 371=>some 65
 | 376=>some 8
 | 381=>some 8
 | 399=>some 8
 | 403=>some 8
 | 406=>some 64
 | 407=>some 8
 | 409=>some 256
 | 411=>some 2
 | 412=>some 32
 | _=>none
theorem qH0 {t k:Nat} (h:qCl t = some k):TBytes Tryz.prog t k:=by
 unfold qCl at h
 split at h
 ·cases h;unfold TBytes;kernel_rfl
 ·cases h;unfold TBytes;kernel_rfl
 ·cases h;unfold TBytes;kernel_rfl
 ·cases h;unfold TBytes;kernel_rfl
 ·cases h;unfold TBytes;kernel_rfl
 ·cases h;unfold TBytes;kernel_rfl
 ·cases h;unfold TBytes;kernel_rfl
 ·cases h;unfold TBytes;kernel_rfl
 ·cases h;unfold TBytes;kernel_rfl
 ·cases h;unfold TBytes;kernel_rfl
 ·cases h;unfold TBytes;kernel_rfl
 ·cases h;unfold TBytes;kernel_rfl
 ·cases h;unfold TBytes;kernel_rfl
 ·cases h;unfold TBytes;kernel_rfl
 ·cases h;unfold TBytes;kernel_rfl
 ·cases h;unfold TBytes;kernel_rfl
 ·cases h;unfold TBytes;kernel_rfl
 ·cases h;unfold TBytes;kernel_rfl
 ·cases h;unfold TBytes;kernel_rfl
 ·cases h;unfold TBytes;kernel_rfl
 ·cases h;unfold TBytes;kernel_rfl
 ·cases h;unfold TBytes;kernel_rfl
 ·cases h;unfold TBytes;kernel_rfl
 ·cases h;unfold TBytes;kernel_rfl
 ·cases h;unfold TBytes;kernel_rfl
 ·cases h;unfold TBytes;kernel_rfl
 ·cases h;unfold TBytes;kernel_rfl
 ·cases h;unfold TBytes;kernel_rfl
 ·cases h;unfold TBytes;kernel_rfl
 ·cases h;unfold TBytes;kernel_rfl
 ·cases h;unfold TBytes;kernel_rfl
 ·cases h;unfold TBytes;kernel_rfl
 ·cases h;unfold TBytes;kernel_rfl
 ·cases h;unfold TBytes;kernel_rfl
 ·cases h;unfold TBytes;kernel_rfl
 ·cases h;unfold TBytes;kernel_rfl
 ·cases h;unfold TBytes;kernel_rfl
 ·cases h;unfold TBytes;kernel_rfl
 ·cases h;unfold TBytes;kernel_rfl
 ·cases h;unfold TBytes;kernel_rfl
 ·cases h;unfold TBytes;kernel_rfl
 ·cases h;unfold TBytes;kernel_rfl
 ·cases h;unfold TBytes;kernel_rfl
 ·cases h;unfold TBytes;kernel_rfl
 ·cases h;unfold TBytes;kernel_rfl
 ·cases h;unfold TBytes;kernel_rfl
 ·cases h;unfold TBytes;kernel_rfl
 ·cases h;unfold TBytes;kernel_rfl
 ·cases h;unfold TBytes;kernel_rfl
 ·cases h;unfold TBytes;kernel_rfl
 ·cases h;unfold TBytes;kernel_rfl
 ·cases h;unfold TBytes;kernel_rfl
 ·cases h;unfold TBytes;kernel_rfl
 ·cases h;unfold TBytes;kernel_rfl
 ·cases h;unfold TBytes;kernel_rfl
 ·cases h;unfold TBytes;kernel_rfl
 ·cases h;unfold TBytes;kernel_rfl
 ·cases h;unfold TBytes;kernel_rfl
 ·cases h;unfold TBytes;kernel_rfl
 ·cases h;unfold TBytes;kernel_rfl
 ·cases h;unfold TBytes;kernel_rfl
 ·cases h;unfold TBytes;kernel_rfl
 ·cases h;unfold TBytes;kernel_rfl
 ·cases h;unfold TBytes;kernel_rfl
 ·cases h;unfold TBytes;kernel_rfl
 ·cases h;unfold TBytes;kernel_rfl
 ·cases h;unfold TBytes;kernel_rfl
 ·cases h;unfold TBytes;kernel_rfl
 ·cases h;unfold TBytes;kernel_rfl
 ·cases h;unfold TBytes;kernel_rfl
 ·cases h;unfold TBytes;kernel_rfl
 ·cases h;unfold TBytes;kernel_rfl
 ·cases h;unfold TBytes;kernel_rfl
 ·cases h
def qPq:Nat→Option (Nat × Nat × Value)
 | 92=>some (3,4,.bool false)
 | _=>none
theorem zK {t k e:Nat} {z:Value} (h:qPq t = some (k,e,z)):Tryz.prog.underlying t = some (.map k e)∧Tryz.prog.underlying k = some kInt.kd∧TZero Tryz.prog e z:=by
 unfold qPq at h
 split at h
 ·cases h;exact ⟨Tryz.underlying92,Tryz.underlying3,jD rfl⟩
 ·cases h
def jCu:Nat→Option (Nat × Nat × Value)
 | 201=>some (9,3,.int .i64 0)
 | 376=>some (9,4,.bool false)
 | _=>none
def qL0:Nat→Option Nat
 | 27=>some 2
 | 34=>some 2
 | 39=>some 2
 | 54=>some 3
 | 62=>some 2
 | 67=>some 13
 | 72=>some 6
 | 80=>some 3
 | 84=>some 2
 | 102=>some 3
 | 192=>some 3
 | 194=>some 6
 | 197=>some 2
 | 203=>some 3
 | 327=>some 2
 | 411=>some 2
 | _=>none
theorem qNi {t k:Nat} (h:qL0 t = some k):qS7 Tryz.prog t k:=by
 unfold qL0 at h
 split at h
 ·cases h;exact ⟨_,Tryz.underlying27,fun w=>⟨#[(0,1),(1,1)],by kernel_rfl,by decide⟩⟩
 ·cases h;exact ⟨_,Tryz.underlying34,fun w=>⟨#[(0,1),(1,1)],by kernel_rfl,by decide⟩⟩
 ·cases h;exact ⟨_,Tryz.underlying39,fun w=>⟨#[(0,1),(1,1)],by kernel_rfl,by decide⟩⟩
 ·cases h;exact ⟨_,Tryz.underlying54,fun w=>⟨#[(0,1),(1,1),(2,1)],by kernel_rfl,by decide⟩⟩
 ·cases h;exact ⟨_,Tryz.underlying62,fun w=>⟨#[(0,1),(1,1)],by kernel_rfl,by decide⟩⟩
 ·cases h;exact ⟨_,Tryz.underlying67,fun w=>⟨#[(0,1),(1,1),(2,1),(3,1),(4,1),(5,1),(6,1),(7,1),(8,1),(9,1),(10,1),(11,1),(12,1)],by kernel_rfl,by decide⟩⟩
 ·cases h;exact ⟨_,Tryz.underlying72,fun w=>⟨#[(0,1),(1,1),(2,1),(3,1),(4,1),(5,1)],by kernel_rfl,by decide⟩⟩
 ·cases h;exact ⟨_,Tryz.underlying80,fun w=>⟨#[(0,1),(1,1),(2,1)],by kernel_rfl,by decide⟩⟩
 ·cases h;exact ⟨_,Tryz.underlying84,fun w=>⟨#[(0,1),(1,1)],by kernel_rfl,by decide⟩⟩
 ·cases h;exact ⟨_,Tryz.underlying102,fun w=>⟨#[(0,1),(1,1),(2,1)],by kernel_rfl,by decide⟩⟩
 ·cases h;exact ⟨_,Tryz.underlying192,fun w=>⟨#[(0,1),(1,1),(2,1)],by kernel_rfl,by decide⟩⟩
 ·cases h;exact ⟨_,Tryz.underlying194,fun w=>⟨#[(0,1),(1,1),(2,1),(3,1),(4,1),(5,1)],by kernel_rfl,by decide⟩⟩
 ·cases h;exact ⟨_,Tryz.underlying197,fun w=>⟨#[(0,1),(1,1)],by kernel_rfl,by decide⟩⟩
 ·cases h;exact ⟨_,Tryz.underlying203,fun w=>⟨#[(0,1),(1,1),(2,1)],by kernel_rfl,by decide⟩⟩
 ·cases h;exact ⟨_,Tryz.underlying327,fun w=>⟨#[(0,1),(1,1)],by kernel_rfl,by decide⟩⟩
 ·cases h;exact ⟨_,Tryz.underlying411,fun w=>⟨#[(0,1),(1,1)],by kernel_rfl,by decide⟩⟩
 ·cases h
section
variable {n:FrK} {w w0:World} {M:List Nat} {L:List Ent} {F:Fr} {d:Option Tmp} {ty:TypeId} {pos:String} {aft:Array Edge} {g:Option (Nat × Bool)} {x y:Operand}
theorem xJ {t k:Nat} {ps:Array (Nat × Operand)} {zs:List Value} (hf:qL0 t = some k) (hz:uW t = some (.agg zs.toArray)) (hl:zs.length = k)
  (hall:((ps.toList.map fun p=>(p.1,ev n F p.2)).all fun p=>Nat.blt p.1 k && Nat.beq p.2.cells.size 1) = true) :
  PV Tryz.prog n w F ⟨d,.build t ps,ty,pos,aft,g⟩ (.agg (qD6 1 zs (ps.toList.map fun p=>(p.1,ev n F p.2))).toArray):=qKe (qNi hf) (jD hz) hl hall
theorem qCb {t k e sz:Nat} {ps:Array (Nat × Operand)} {zs:List Value} (ht:qG0 t = some (k,e,sz)) (hz:uW t = some (.agg zs.toArray)) (hl:zs.length = k * sz)
  (hall:((ps.toList.map fun p=>(p.1,ev n F p.2)).all fun p=>Nat.blt p.1 k && Nat.beq p.2.cells.size sz) = true) :
  PV Tryz.prog n w F ⟨d,.build t ps,ty,pos,aft,g⟩ (.agg (qD6 sz zs (ps.toList.map fun p=>(p.1,ev n F p.2))).toArray):=qKg (uE ht).1 (uE ht).2 (jD hz) hl hall
theorem jP {t e sz k:Nat} {ps:Array (Nat × Operand)} {z:Value} {vs:List (Nat × Value)} {cs:List Value} (hp:Hp w0 M w L) (ht:qC8 t = some (e,sz)) (hz:uW e = some z)
  (hvs:(ps.toList.map fun p=>(p.1,ev n F p.2)) = vs) (ho:wP sz 0 vs = true) (hk:vs.length = k) (hcs:vs.flatMap (fun p=>p.2.cells.toList) = cs) (hsm:Nat.ble (k * sz) 16777216 = true) :
  StepF Tryz.prog n ⟨d,.buildSlice t k ps,ty,pos,aft,g⟩ F w (fun u w'=>∃ b,u = .slice (some ⟨b,0,none⟩) k k∧Hp w0 M w' (blk b cs.length (qV cs) e :: L)):=
 qG3 hp (xT ht).1 (xT ht).2 (jD hz) hvs ho hk hcs (Nat.le_of_ble_eq_true hsm)
theorem qGj {t e size by_:Nat} {z v:Value} {m k c:Nat} {xs news:List Value} {s:Option Addr} (hp:Hp w0 M w L) (i:Nat) (ht:qC8 t = some (e,size)) (hby:qCl e = some by_) (hz:uW e = some z)
  (hzs:z.cells.size = size) (hpos:Nat.blt 0 size = true) (hx:ev n F x = v) (hy:ev n F y = .slice s k c) (hi:L[i]? = some (qEb v e size m xs)) (hv:SV v m) (hl:xs.length = m * size) (hn:news.length = k * size)
  (hsrc:∀ (j:Nat) (u:Value),news[j]? = some u→∃ b o,s = some ⟨b,o,none⟩∧w.cell? ⟨b,o + j,none⟩ = some u) (h1:∀ u ∈ news,wK u = true)
  (hb1:m + k≤maxLen) (hb2:(m + k) * by_≤140737488355328) :
  StepF Tryz.prog n ⟨d,.call ⟨.builtin .append,#[x,y],#[t,t]⟩,ty,pos,aft,g⟩ F w (fun u w'=>SV u (m + k)∧Hp w0 M w' (L.set i (qEb u e size (m + k) (xs ++ news)))):=
 qMz hp i (xT ht).1 (xT ht).2 (qH0 hby) (jD hz) hzs (wE hpos) hx hy hi hv hl hn hsrc h1 hb1 hb2
end
theorem qIu {n:Nat} {F:Fr} {w:World} {fn:Func} {p ty b o k:Nat} {vs:List Value} (h:fn.results = #[.cell p ty]) (h1:qB6 ty = some k) (hz:qAy ty = some k) (hx:ev n F (.tmp p) = .pointer (some ⟨b,o,none⟩)) (hl:vs.length = k)
  (hc:∀ (j:Nat) (v:Value),vs[j]? = some v→w.cell? ⟨b,o + j,none⟩ = some v):(results fn (act n F).tmps).run Tryz.prog w = .ok (.agg vs.toArray) w:=by
 obtain ⟨q,hq,hq1⟩:=qDm h1
 have hk:=qQ hz
 subst hl
 have:=kJ (P:=Tryz.prog) (w:=w) b o vs 0 #[] (fun j v hv=>by simpa using hc j v hv)
 have hx':(act n F).tmps.getD p undef = .pointer (some ⟨b,o,none⟩):=by
  rw [← hx,← zZ]
  rfl
 have hx2:(act n F).tmps[p]?.getD undef = .pointer (some ⟨b,o,none⟩):=by simpa using hx'
 simp [results,h,hx2,asAddr,loadVar,qEz hq hq1,loadCells,hk.run,this]
theorem yG {n:Nat} {F:Fr} {w:World} {fn:Func} {R:Ending→World→Prop} {p ty b o k:Nat} {f:Fr} (h:fn.results = #[.cell p ty]) (h1:qB6 ty = some k) (hz:qAy ty = some k) (hx:ev n F (.tmp p) = .pointer (some ⟨b,o,none⟩))
  (hc:∀ (j:Nat) (v:Value),((List.range k).map fun j=>f (o + j))[j]? = some v→w.cell? ⟨b,o + j,none⟩ = some v) (hr:R (.returned (.agg ((List.range k).map fun j=>f (o + j)).toArray)) w):qIw Tryz.prog n fn R .ret F w:=
 ⟨_,qIu h h1 hz hx (by simp) hc,hr⟩
section
variable {n:FrK} {F:Fr} {w:World} {d:Option Tmp} {ty:TypeId} {pos:String} {aft:Array Edge} {g:Option (Nat × Bool)} {x y:Operand}
theorem uZ {t e k m c h:Nat} {q:IntKind} {s:Option Addr} (ht:qC8 t = some (e,k)) (hx:ev n F x = .slice s m c) (hy:ev n F y = .int q h) (hh:h≤c) :
  PV Tryz.prog n w F ⟨d,.slice t x none (some y) none,ty,pos,aft,g⟩ (.slice s h c):=by
 have hb:=yS (P:=Tryz.prog) (w:=w) (c:=.sliceAcap) hy hh
 have e1:(if c = 0 then s else s.map (·.add (0 * k))) = s:=by
  split
  ·rfl
  ·cases s<;>simp [qH4]
 simp only [PV,execOp,Instr.sliceAt,Instr.slice,hx,Sem.run_bind,zE (xT ht).1,Result.andThen_ok,Instr.sliceBounds,Sem.run_pure,Option.map_none,Option.map_some,hb,(xT ht).2.run,if_true,Nat.sub_zero,e1]
theorem uQ {t k e sz:Nat} {ps:Array (Nat × Operand)} {zs:List Value} {vs:List (Nat × Value)} (ht:qG0 t = some (k,e,sz)) (hz:uW t = some (.agg zs.toArray)) (hl:zs.length = k * sz)
  (hvs:(ps.toList.map fun p=>(p.1,ev n F p.2)) = vs) (ho:wP sz 0 vs = true) (hk:vs.length = k) :
  PV Tryz.prog n w F ⟨d,.build t ps,ty,pos,aft,g⟩ (.agg (vs.flatMap fun p=>p.2.cells.toList).toArray):=by
 have h1:=qCb (w:=w) (d:=d) (ty:=ty) (pos:=pos) (aft:=aft) (g:=g) (n:=n) (F:=F) (ps:=ps) ht hz hl (by rw [hvs];exact qB5 sz k vs 0 ho (by omega))
 have h2:=qDn sz vs 0 [] zs ho (by simp) (by rw [hl,hk])
 rw [hvs] at h1
 rw [List.nil_append,List.nil_append] at h2
 rw [h2] at h1
 exact h1
end
section
variable {n:FrK} {w w0:World} {M:List Nat} {L:List Ent} {F:Fr} {d:Option Tmp} {ty:TypeId} {pos:String} {aft:Array Edge} {g:Option (Nat × Bool)} {x y:Operand}
theorem zL {α:Type} (enc:α→List Value) (l:List α) (xv:α) {t e k by_ b c:Nat} {z:Value} {s:Option Addr} (hp:Hp w0 M w L) (i j:Nat) (ht:qC8 t = some (e,k)) (hby:qCl e = some by_) (hz:uW e = some z)
  (hzs:z.cells.size = k) (hpos:Nat.blt 0 k = true) (hb:Nat.ble by_ 1000 = true) (hk:∀ x,(enc x).length = k) (hx:ev n F x = .slice s l.length c) (hy:ev n F y = .slice (some ⟨b,0,none⟩) 1 1)
  (hi:L[i]? = some (qW enc e k s c l)) (hv:SVL s c l) (hj:L[j]? = some (blk b (enc xv).length (qV (enc xv)) e)) (h1:(enc xv).all wK = true) (hlen:l.length < 1000000) :
  StepF Tryz.prog n ⟨d,.call ⟨.builtin .append,#[x,y],#[t,t]⟩,ty,pos,aft,g⟩ F w
   (fun u w'=>∃ s' c',u = .slice s' (l ++ [xv]).length c'∧SVL s' c' (l ++ [xv])∧Hp w0 M w' (L.set i (qW enc e k s' c' (l ++ [xv])))):=by
 have hb':=Nat.le_of_ble_eq_true hb
 have hb2:(l.length + 1) * by_≤1000000 * 1000:=Nat.mul_le_mul (by omega) hb'
 refine (qGj hp i ht hby hz hzs hpos hx hy hi hv (kG enc k hk l) (by rw [hk];omega) (qMq hp j hj) (by simpa [List.all_eq_true] using h1) (by unfold maxLen;omega) (by omega)).mono ?_
 rintro u w' ⟨h2,h3⟩
 obtain ⟨s',c',rfl⟩:=h2.ex
 have e1:(l ++ [xv]).length = l.length + 1:=by simp
 have e2:(l ++ [xv]).flatMap enc = l.flatMap enc ++ enc xv:=by simp
 refine ⟨s',c',by rw [e1],by unfold SVL;rw [e1];exact h2,?_⟩
 unfold qW
 rw [e1,e2]
 exact h3
end
section
variable {n:FrK} {w w0:World} {M:List Nat} {L:List Ent} {F:Fr} {d:Option Tmp} {ty:TypeId} {pos:String} {aft:Array Edge} {g:Option (Nat × Bool)} {x y:Operand}
theorem qEx {α:Type} (enc:α→List Value) (l l2:List α) {t e k by_ c c2:Nat} {z:Value} {s s2:Option Addr} (hp:Hp w0 M w L) (i:Nat) (ht:qC8 t = some (e,k)) (hby:qCl e = some by_) (hz:uW e = some z)
  (hzs:z.cells.size = k) (hpos:Nat.blt 0 k = true) (hb:Nat.ble by_ 1000 = true) (hk:∀ x,(enc x).length = k) (hx:ev n F x = .slice s l.length c) (hy:ev n F y = .slice s2 l2.length c2)
  (hi:L[i]? = some (qW enc e k s c l)) (hv:SVL s c l) (hs:SlAt w k enc s2 l2) (h1:∀ x,(enc x).all wK = true) (hlen:l.length + l2.length < 1000000) :
  StepF Tryz.prog n ⟨d,.call ⟨.builtin .append,#[x,y],#[t,t]⟩,ty,pos,aft,g⟩ F w
   (fun u w'=>∃ s' c',u = .slice s' (l ++ l2).length c'∧SVL s' c' (l ++ l2)∧Hp w0 M w' (L.set i (qW enc e k s' c' (l ++ l2)))):=by
 have hb':=Nat.le_of_ble_eq_true hb
 have hb2:(l.length + l2.length) * by_≤1000000 * 1000:=Nat.mul_le_mul (by omega) hb'
 refine (qGj hp i ht hby hz hzs hpos hx hy hi hv (kG enc k hk l) (kG enc k hk l2) (hs.src hk) ?_ (by unfold maxLen;omega) (by omega)).mono ?_
 ·intro u hu
  rw [List.mem_flatMap] at hu
  obtain ⟨a,_,ha⟩:=hu
  exact List.all_eq_true.1 (h1 a) u ha
 rintro u w' ⟨h2,h3⟩
 obtain ⟨s',c',rfl⟩:=h2.ex
 have e1:(l ++ l2).length = l.length + l2.length:=by simp
 have e2:(l ++ l2).flatMap enc = l.flatMap enc ++ l2.flatMap enc:=by simp
 refine ⟨s',c',by rw [e1],by unfold SVL;rw [e1];exact h2,?_⟩
 unfold qW
 rw [e1,e2]
 exact h3
theorem qOg {α:Type} (enc:α→List Value) (l:List α) {t e k by_ b c:Nat} {z:Value} {s:Option Addr} (hp:Hp w0 M w L) (i:Nat) (ht:qC8 t = some (e,k)) (hby:qCl e = some by_) (hz:uW e = some z)
  (hzs:z.cells.size = k) (hpos:Nat.blt 0 k = true) (hb:Nat.ble by_ 1000 = true) (hk:∀ x,(enc x).length = k) (hx:ev n F x = .slice (some ⟨b,0,none⟩) 0 0) (hy:ev n F y = .slice s l.length c)
  (hi:L[i]? = some (blk b 0 (qV []) e)) (hs:SlAt w k enc s l) (h1:∀ x,(enc x).all wK = true) (hlen:l.length < 1000000) :
  StepF Tryz.prog n ⟨d,.call ⟨.builtin .append,#[x,y],#[t,t]⟩,ty,pos,aft,g⟩ F w
   (fun u w'=>∃ s' c',u = .slice s' l.length c'∧SVL s' c' l∧Hp w0 M w' (L.set i (qW enc e k s' c' l))):=by
 have hr:=hp.rowOf (cs:=[]) i k 0 hi (by simp)
 have hlt:=(List.getElem?_eq_some_iff.1 hi).1
 refine (qEx enc ([]:List α) l (s:=some ⟨b,0,none⟩) (c:=0) hr i ht hby hz hzs hpos hb hk hx hy (by rw [List.getElem?_set,if_pos rfl,if_pos hlt];rfl) (.inr ⟨b,0,rfl,by simp,by unfold maxLen;omega⟩) hs h1 (by simpa using hlen)).mono ?_
 rintro u w' ⟨s',c',h2,h3,h4⟩
 rw [List.set_set] at h4
 exact ⟨s',c',h2,h3,h4⟩
theorem qHt {t t' e b o len cap:Nat} {ns:List Int} (ht:qC8 t = some (e,1)) (he:qBa e = some .u8) (ht':qBz t' = true) (hx:ev n F x = .slice (some ⟨b,o,none⟩) len cap) (hl:ns.length = len)
  (hc:∀ (j:Nat) (v:Value),(ns.map (Value.int .u8))[j]? = some v→w.cell? ⟨b,o + j,none⟩ = some v):PV Tryz.prog n w F ⟨d,.convert t t' x,ty,pos,aft,g⟩ (.string (kX ns)):=qOy (xT ht).1 (qB9 he) (vT ht') hx hl hc
end
theorem jW:Tryz.prog.follows .mixedOrders = true:=by kernel_rfl
theorem jCz:qX Tryz.prog 4:=fun _ _=>by kernel_rfl
theorem jCy:qX Tryz.prog 5:=fun _ _=>by kernel_rfl
theorem qWy:qX Tryz.prog 6:=fun _ _=>by kernel_rfl
theorem qU1:qX Tryz.prog 7:=fun _ _=>by kernel_rfl
theorem jAe:qX Tryz.prog 8:=fun _ _=>by kernel_rfl
theorem qU0:qX Tryz.prog 9:=fun _ _=>by kernel_rfl
theorem qVg:qX Tryz.prog 10:=fun _ _=>by kernel_rfl
theorem qR3:qX Tryz.prog 11:=fun _ _=>by kernel_rfl
theorem qAe:qX Tryz.prog 12:=fun _ _=>by kernel_rfl
theorem jB7:qX Tryz.prog 13:=fun _ _=>by kernel_rfl
theorem qVf:qX Tryz.prog 14:=fun _ _=>by kernel_rfl
theorem jB6:qX Tryz.prog 15:=fun _ _=>by kernel_rfl
theorem qAd:qX Tryz.prog 16:=fun _ _=>by kernel_rfl
theorem jB5:qX Tryz.prog 17:=fun _ _=>by kernel_rfl
theorem qQs:qX Tryz.prog 18:=fun _ _=>by kernel_rfl
theorem qFp:qX Tryz.prog 19:=fun _ _=>by kernel_rfl
theorem qFn:qX Tryz.prog 20:=fun _ _=>by kernel_rfl
theorem jB4:qX Tryz.prog 21:=fun _ _=>by kernel_rfl
theorem qQm:qX Tryz.prog 22:=fun _ _=>by kernel_rfl
theorem qQl:qX Tryz.prog 23:=fun _ _=>by kernel_rfl
theorem jB3:qX Tryz.prog 24:=fun _ _=>by kernel_rfl
theorem qQj:qX Tryz.prog 25:=fun _ _=>by kernel_rfl
theorem jB2:qX Tryz.prog 26:=fun _ _=>by kernel_rfl
theorem qVe:qX Tryz.prog 27:=fun _ _=>by kernel_rfl
theorem qVd:qX Tryz.prog 28:=fun _ _=>by kernel_rfl
theorem jB1:qX Tryz.prog 29:=fun _ _=>by kernel_rfl
theorem jB0:qX Tryz.prog 30:=fun _ _=>by kernel_rfl
theorem jAz:qX Tryz.prog 31:=fun _ _=>by kernel_rfl
theorem jAy:qX Tryz.prog 32:=fun _ _=>by kernel_rfl
theorem jAx:qX Tryz.prog 33:=fun _ _=>by kernel_rfl
theorem qVc:qX Tryz.prog 34:=fun _ _=>by kernel_rfl
theorem qE6:qX Tryz.prog 35:=fun _ _=>by kernel_rfl
theorem qMe:qX Tryz.prog 36:=fun _ _=>by kernel_rfl
theorem qBg:qX Tryz.prog 37:=fun _ _=>by kernel_rfl
theorem jAw:qX Tryz.prog 38:=fun _ _=>by kernel_rfl
theorem jAv:qX Tryz.prog 39:=fun _ _=>by kernel_rfl
theorem jAu:qX Tryz.prog 40:=fun _ _=>by kernel_rfl
theorem qVb:qX Tryz.prog 41:=fun _ _=>by kernel_rfl
theorem jAt:qX Tryz.prog 42:=fun _ _=>by kernel_rfl
theorem jAs:qX Tryz.prog 43:=fun _ _=>by kernel_rfl
theorem qQf:qX Tryz.prog 44:=fun _ _=>by kernel_rfl
theorem qQe:qX Tryz.prog 45:=fun _ _=>by kernel_rfl
theorem qQd:qX Tryz.prog 46:=fun _ _=>by kernel_rfl
theorem qVa:qX Tryz.prog 47:=fun _ _=>by kernel_rfl
theorem jAr:qX Tryz.prog 48:=fun _ _=>by kernel_rfl
theorem qMd:qX Tryz.prog 49:=fun _ _=>by kernel_rfl
theorem jAq:qX Tryz.prog 50:=fun _ _=>by kernel_rfl
theorem qQc:qX Tryz.prog 51:=fun _ _=>by kernel_rfl
theorem qBf:qX Tryz.prog 52:=fun _ _=>by kernel_rfl
theorem qAs:qX Tryz.prog 53:=fun _ _=>by kernel_rfl
theorem jAp:qX Tryz.prog 54:=fun _ _=>by kernel_rfl
theorem jAo:qX Tryz.prog 57:=fun _ _=>by kernel_rfl
theorem jAn:qX Tryz.prog 58:=fun _ _=>by kernel_rfl
theorem jAm:qX Tryz.prog 59:=fun _ _=>by kernel_rfl
theorem qMc:qX Tryz.prog 60:=fun _ _=>by kernel_rfl
theorem jAl:qX Tryz.prog 61:=fun _ _=>by kernel_rfl
theorem qQb:qX Tryz.prog 62:=fun _ _=>by kernel_rfl
theorem qMb:qX Tryz.prog 63:=fun _ _=>by kernel_rfl
theorem qD8:qX Tryz.prog 64:=fun _ _=>by kernel_rfl
theorem qV9:qX Tryz.prog 65:=fun _ _=>by kernel_rfl
theorem qV8:qX Tryz.prog 66:=fun _ _=>by kernel_rfl
theorem qV7:qX Tryz.prog 67:=fun _ _=>by kernel_rfl
theorem jAk:qX Tryz.prog 68:=fun _ _=>by kernel_rfl
theorem qC4:qX Tryz.prog 69:=fun _ _=>by kernel_rfl
theorem qQa:qX Tryz.prog 70:=fun _ _=>by kernel_rfl
theorem qV6:qX Tryz.prog 71:=fun _ _=>by kernel_rfl
theorem jAj:qX Tryz.prog 72:=fun _ _=>by kernel_rfl
theorem jAi:qX Tryz.prog 73:=fun _ _=>by kernel_rfl
theorem jAh:qX Tryz.prog 74:=fun _ _=>by kernel_rfl
theorem jAg:qX Tryz.prog 75:=fun _ _=>by kernel_rfl
theorem jAf:qX Tryz.prog 76:=fun _ _=>by kernel_rfl
theorem qV5:qX Tryz.prog 77:=fun _ _=>by kernel_rfl
theorem qV4:qX Tryz.prog 78:=fun _ _=>by kernel_rfl
theorem qFm:qX Tryz.prog 79:=fun _ _=>by kernel_rfl
theorem jAd:qX Tryz.prog 80:=fun _ _=>by kernel_rfl
theorem jAc:qX Tryz.prog 81:=fun _ _=>by kernel_rfl
theorem jAb:qX Tryz.prog 82:=fun _ _=>by kernel_rfl
theorem jAa:qX Tryz.prog 83:=fun _ _=>by kernel_rfl
theorem jA9:qX Tryz.prog 84:=fun _ _=>by kernel_rfl
theorem qV3:qX Tryz.prog 85:=fun _ _=>by kernel_rfl
theorem qQ9:qX Tryz.prog 86:=fun _ _=>by kernel_rfl
theorem qD7:qX Tryz.prog 87:=fun _ _=>by kernel_rfl
theorem qV2:qX Tryz.prog 89:=fun _ _=>by kernel_rfl
theorem jA8:qX Tryz.prog 90:=fun _ _=>by kernel_rfl
theorem jA7:qX Tryz.prog 91:=fun _ _=>by kernel_rfl
theorem jA6:qX Tryz.prog 92:=fun _ _=>by kernel_rfl
theorem qV1:qX Tryz.prog 93:=fun _ _=>by kernel_rfl
theorem qV0:qX Tryz.prog 94:=fun _ _=>by kernel_rfl
theorem jA5:qX Tryz.prog 95:=fun _ _=>by kernel_rfl
theorem jA4:qX Tryz.prog 96:=fun _ _=>by kernel_rfl
theorem jA3:qX Tryz.prog 97:=fun _ _=>by kernel_rfl
theorem qQ8:qX Tryz.prog 98:=fun _ _=>by kernel_rfl
theorem jA2:qX Tryz.prog 99:=fun _ _=>by kernel_rfl
theorem qYp:qX Tryz.prog 100:=fun _ _=>by kernel_rfl
theorem qYo:qX Tryz.prog 101:=fun _ _=>by kernel_rfl
theorem qYn:qX Tryz.prog 102:=fun _ _=>by kernel_rfl
theorem qYm:qX Tryz.prog 113:=fun _ _=>by kernel_rfl
theorem qYl:qX Tryz.prog 115:=fun _ _=>by kernel_rfl
theorem qYk:qX Tryz.prog 116:=fun _ _=>by kernel_rfl
theorem qYj:qX Tryz.prog 117:=fun _ _=>by kernel_rfl
theorem qYi:qX Tryz.prog 118:=fun _ _=>by kernel_rfl
theorem qI9:qX Tryz.prog 119:=fun _ _=>by kernel_rfl
theorem qYh:qX Tryz.prog 120:=fun _ _=>by kernel_rfl
theorem qR2:qX Tryz.prog 121:=fun _ _=>by kernel_rfl
theorem qYg:qX Tryz.prog 123:=fun _ _=>by kernel_rfl
theorem qR1:qX Tryz.prog 124:=fun _ _=>by kernel_rfl
theorem qYf:qX Tryz.prog 125:=fun _ _=>by kernel_rfl
theorem qYe:qX Tryz.prog 126:=fun _ _=>by kernel_rfl
theorem qYd:qX Tryz.prog 127:=fun _ _=>by kernel_rfl
theorem qR0:qX Tryz.prog 128:=fun _ _=>by kernel_rfl
theorem qYc:qX Tryz.prog 129:=fun _ _=>by kernel_rfl
theorem qL3:qX Tryz.prog 130:=fun _ _=>by kernel_rfl
theorem qYb:qX Tryz.prog 131:=fun _ _=>by kernel_rfl
theorem qYa:qX Tryz.prog 132:=fun _ _=>by kernel_rfl
theorem kN:qX Tryz.prog 133:=fun _ _=>by kernel_rfl
theorem qQz:qX Tryz.prog 134:=fun _ _=>by kernel_rfl
theorem qQy:qX Tryz.prog 135:=fun _ _=>by kernel_rfl
theorem qQx:qX Tryz.prog 136:=fun _ _=>by kernel_rfl
theorem qQw:qX Tryz.prog 137:=fun _ _=>by kernel_rfl
theorem qQv:qX Tryz.prog 138:=fun _ _=>by kernel_rfl
theorem qY9:qX Tryz.prog 139:=fun _ _=>by kernel_rfl
theorem qY8:qX Tryz.prog 140:=fun _ _=>by kernel_rfl
theorem qY7:qX Tryz.prog 141:=fun _ _=>by kernel_rfl
theorem qY6:qX Tryz.prog 142:=fun _ _=>by kernel_rfl
theorem qY5:qX Tryz.prog 143:=fun _ _=>by kernel_rfl
theorem qY4:qX Tryz.prog 144:=fun _ _=>by kernel_rfl
theorem qY3:qX Tryz.prog 145:=fun _ _=>by kernel_rfl
theorem qY2:qX Tryz.prog 146:=fun _ _=>by kernel_rfl
theorem qDp:qX Tryz.prog 168:=fun _ _=>by kernel_rfl
theorem qY1:qX Tryz.prog 169:=fun _ _=>by kernel_rfl
theorem qFr:qX Tryz.prog 170:=fun _ _=>by kernel_rfl
theorem qY0:qX Tryz.prog 171:=fun _ _=>by kernel_rfl
theorem qQu:qX Tryz.prog 172:=fun _ _=>by kernel_rfl
theorem qXz:qX Tryz.prog 173:=fun _ _=>by kernel_rfl
theorem qXy:qX Tryz.prog 174:=fun _ _=>by kernel_rfl
theorem qFq:qX Tryz.prog 175:=fun _ _=>by kernel_rfl
theorem qXx:qX Tryz.prog 176:=fun _ _=>by kernel_rfl
theorem qI8:qX Tryz.prog 177:=fun _ _=>by kernel_rfl
theorem qQt:qX Tryz.prog 178:=fun _ _=>by kernel_rfl
theorem qXw:qX Tryz.prog 179:=fun _ _=>by kernel_rfl
theorem qQr:qX Tryz.prog 180:=fun _ _=>by kernel_rfl
theorem qXv:qX Tryz.prog 182:=fun _ _=>by kernel_rfl
theorem qXu:qX Tryz.prog 183:=fun _ _=>by kernel_rfl
theorem qQq:qX Tryz.prog 187:=fun _ _=>by kernel_rfl
theorem qQp:qX Tryz.prog 188:=fun _ _=>by kernel_rfl
theorem qXt:qX Tryz.prog 189:=fun _ _=>by kernel_rfl
theorem qL2:qX Tryz.prog 190:=fun _ _=>by kernel_rfl
theorem qQo:qX Tryz.prog 191:=fun _ _=>by kernel_rfl
theorem qXs:qX Tryz.prog 192:=fun _ _=>by kernel_rfl
theorem qXr:qX Tryz.prog 193:=fun _ _=>by kernel_rfl
theorem qQn:qX Tryz.prog 194:=fun _ _=>by kernel_rfl
theorem qXq:qX Tryz.prog 195:=fun _ _=>by kernel_rfl
theorem qXp:qX Tryz.prog 196:=fun _ _=>by kernel_rfl
theorem qXo:qX Tryz.prog 197:=fun _ _=>by kernel_rfl
theorem qFo:qX Tryz.prog 198:=fun _ _=>by kernel_rfl
theorem qXn:qX Tryz.prog 199:=fun _ _=>by kernel_rfl
theorem qXm:qX Tryz.prog 200:=fun _ _=>by kernel_rfl
theorem qXl:qX Tryz.prog 201:=fun _ _=>by kernel_rfl
theorem qXk:qX Tryz.prog 202:=fun _ _=>by kernel_rfl
theorem qXj:qX Tryz.prog 203:=fun _ _=>by kernel_rfl
theorem qCg:qX Tryz.prog 247:=fun _ _=>by kernel_rfl
theorem qQk:qX Tryz.prog 248:=fun _ _=>by kernel_rfl
theorem qXi:qX Tryz.prog 249:=fun _ _=>by kernel_rfl
theorem qXh:qX Tryz.prog 250:=fun _ _=>by kernel_rfl
theorem qQi:qX Tryz.prog 251:=fun _ _=>by kernel_rfl
theorem qXg:qX Tryz.prog 252:=fun _ _=>by kernel_rfl
theorem qXf:qX Tryz.prog 253:=fun _ _=>by kernel_rfl
theorem qXe:qX Tryz.prog 254:=fun _ _=>by kernel_rfl
theorem qXd:qX Tryz.prog 255:=fun _ _=>by kernel_rfl
theorem qXc:qX Tryz.prog 256:=fun _ _=>by kernel_rfl
theorem qQh:qX Tryz.prog 257:=fun _ _=>by kernel_rfl
theorem qXb:qX Tryz.prog 258:=fun _ _=>by kernel_rfl
theorem qXa:qX Tryz.prog 259:=fun _ _=>by kernel_rfl
theorem qX9:qX Tryz.prog 264:=fun _ _=>by kernel_rfl
theorem wZ:qX Tryz.prog 265:=fun _ _=>by kernel_rfl
theorem qX8:qX Tryz.prog 268:=fun _ _=>by kernel_rfl
theorem qX7:qX Tryz.prog 269:=fun _ _=>by kernel_rfl
theorem qQg:qX Tryz.prog 271:=fun _ _=>by kernel_rfl
theorem qX6:qX Tryz.prog 272:=fun _ _=>by kernel_rfl
theorem qX5:qX Tryz.prog 273:=fun _ _=>by kernel_rfl
theorem qX4:qX Tryz.prog 274:=fun _ _=>by kernel_rfl
theorem qX3:qX Tryz.prog 311:=fun _ _=>by kernel_rfl
theorem qX2:qX Tryz.prog 312:=fun _ _=>by kernel_rfl
theorem wY:qX Tryz.prog 316:=fun _ _=>by kernel_rfl
theorem qX1:qX Tryz.prog 326:=fun _ _=>by kernel_rfl
theorem qX0:qX Tryz.prog 328:=fun _ _=>by kernel_rfl
theorem qWz:qX Tryz.prog 350:=fun _ _=>by kernel_rfl
end Go.Proofs.YtbgldmoikimmpaaGreatDoor
namespace Go.Eng
section
variable {w0 w w':World} {M:List Nat} {L L':List Ent}
def qVm (p q:Ent):Prop:=∀ b,p.1 = some b→q.1 ≠ some b
theorem Hp.dis' (h:Hp w0 M w L):L.Pairwise qVm:=by
 rw [List.pairwise_iff_getElem]
 intro i j hi hj hij
 exact h.dis i j _ _ (List.getElem?_eq_getElem hi) (List.getElem?_eq_getElem hj) (by omega)
theorem Hp.own' (h:Hp w0 M w L) {p:Ent} (hp:p ∈ L):∀ b,p.1 = some b→w0.heap.size≤b∨b ∈ M:=by
 obtain ⟨i,hi⟩:=List.getElem?_of_mem hp
 exact h.own i p hi
theorem Hp.has' (h:Hp w0 M w L) {p:Ent} (hp:p ∈ L):∀ b,p.1 = some b→∃ o,w.heap[b]? = some o∧p.2 o:=by
 obtain ⟨i,hi⟩:=List.getElem?_of_mem hp
 exact h.has i p hi
theorem Hp.of' (hk:Keeps M w0 w) (ho:∀ p ∈ L,∀ b,p.1 = some b→w0.heap.size≤b∨b ∈ M) (hh:∀ p ∈ L,∀ b,p.1 = some b→∃ o,w.heap[b]? = some o∧p.2 o) (hd:L.Pairwise qVm):Hp w0 M w L:=by
 rw [List.pairwise_iff_getElem] at hd
 refine ⟨hk,fun i p hi=>ho p (List.mem_of_getElem? hi),fun i p hi=>hh p (List.mem_of_getElem? hi),fun i j p q hi hj hne b hb hq=>?_⟩
 obtain ⟨hi',rfl⟩:=List.getElem?_eq_some_iff.1 hi
 obtain ⟨hj',rfl⟩:=List.getElem?_eq_some_iff.1 hj
 rcases Nat.lt_or_gt_of_ne hne with h|h
 ·exact hd i j hi' hj' h b hb hq
 ·exact hd j i hj' hi' h b hq hb
theorem Hp.perm (h:Hp w0 M w L) (hp:L.Perm L'):Hp w0 M w L':=
 .of' h.keeps (fun _ hm=>h.own' (hp.mem_iff.2 hm)) (fun _ hm=>h.has' (hp.mem_iff.2 hm)) ((hp.pairwise_iff (fun hxy b hb hq=>hxy b hq hb)).1 h.dis')
theorem Hp.sub (h:Hp w0 M w L) (hs:L'.Sublist L):Hp w0 M w L':=
 .of' h.keeps (fun _ hm=>h.own' (hs.subset hm)) (fun _ hm=>h.has' (hs.subset hm)) (h.dis'.sublist hs)
theorem Hp.dropAt (h:Hp w0 M w L) (i:Nat):Hp w0 M w (L.eraseIdx i):=h.sub (List.eraseIdx_sublist L i)
theorem Hp.picks (h:Hp w0 M w L) (is:List Nat) (ps:List Ent) (hn:decide is.Nodup = true) (he:is.map (fun i=>L[i]?) = ps.map some):Hp w0 M w ps:=by
 have hnd:=of_decide_eq_true hn
 have hlen:is.length = ps.length:=by
  have:=congrArg List.length he
  simpa using this
 have key:∀ (k:Nat) (p:Ent),ps[k]? = some p→∃ i,is[k]? = some i∧L[i]? = some p:=by
  intro k p hk
  have h1:=congrArg (fun l=>l[k]?) he
  simp only [List.getElem?_map,hk,Option.map_some] at h1
  cases h2:is[k]? with
  | none=>rw [h2] at h1;simp at h1
  | some i=>rw [h2] at h1;exact ⟨i,rfl,by simpa using h1⟩
 refine ⟨h.keeps,fun k p hk=>?_,fun k p hk=>?_,fun k m p q hk hm hkm=>?_⟩
 ·obtain ⟨i,_,hi⟩:=key k p hk
  exact h.own i p hi
 ·obtain ⟨i,_,hi⟩:=key k p hk
  exact h.has i p hi
 ·obtain ⟨i,hi1,hi⟩:=key k p hk
  obtain ⟨j,hj1,hj⟩:=key m q hm
  refine h.dis i j p q hi hj ?_
  rintro rfl
  apply hkm
  obtain ⟨hk1,e1⟩:=List.getElem?_eq_some_iff.1 hi1
  obtain ⟨hm1,e2⟩:=List.getElem?_eq_some_iff.1 hj1
  exact (List.getElem_inj hnd).1 (e1.trans e2.symm)
theorem xL {α:Type} {e k:Nat} {enc:α→List Value} {s:Option Addr} {c:Nat} {l:List α} (hp:Hp w0 M w L) (hm:qW enc e k s c l ∈ L) (hv:SVL s c l) (hk:∀ x,(enc x).length = k):SlAt w k enc s l:=by
 obtain ⟨i,hi⟩:=List.getElem?_of_mem hm
 exact jS hp i hi hv hk
theorem SVL.addr {α:Type} {s:Option Addr} {c:Nat} {l:List α} (h:SVL s c l) (hl:l ≠ []):∃ g,s = some ⟨g,0,none⟩:=by
 rcases h with ⟨h,h2⟩|⟨g,cap,h,_⟩
 ·exact absurd (List.eq_nil_of_length_eq_zero h2) hl
 ·injection h with h1
  exact ⟨g,h1⟩
theorem SVL.set {α:Type} {s:Option Addr} {c:Nat} {l:List α} (h:SVL s c l) (i:Nat) (x:α):SVL s c (l.set i x):=by
 unfold SVL at *
 rwa [List.length_set]
end
theorem qK6 {P:Program} {w:World} {b o:Nat} {cur:Array Value} {t:TypeId} {v:Value} (hb:w.heap[b]? = some (.cells cur t (0,0))) (ho:o < cur.size) (h1:wK v = true) :
  ∃ w',(store ⟨b,o,none⟩ v).run P w = .ok () w'∧Keeps [b] w w'∧w'.heap[b]? = some (.cells (cur.setIfInBounds o v) t (0,0)):=by
 have hc:w.cell? ⟨b,o,none⟩ = some cur[o]:=by simp [World.cell?,hb,ho]
 have hf:w.frozen? ⟨b,o,none⟩ = false:=by simp [World.frozen?,hb]
 refine ⟨w.setCell ⟨b,o,none⟩ v,?_,⟨rfl,rfl,rfl,by simp [World.setCell],fun k _ hm=>?_⟩,?_⟩
 ·cases v<;>first|(cases h1;done)|simp [store,Sem.run,hc,hf]
 ·simp only [World.setCell,Array.getElem?_modify]
  rw [if_neg (by simp at hm;omega)]
 ·simp only [World.setCell,Array.getElem?_modify,if_true,hb,Option.map_some]
  simp
theorem qE5 {α:Type} (enc:α→List Value) (v:Value) (xv:α) (hk:∀ x,(enc x).length = 1) (hv:enc xv = [v]):∀ (l:List α) (i:Nat),(l.set i xv).flatMap enc = (l.flatMap enc).set i v
 | [],i=>by simp
 | y :: l,0=>by
  obtain ⟨u,hu⟩:∃ u,enc y = [u]:=List.length_eq_one_iff.1 (hk y)
  simp [hu,hv]
 | y :: l,i + 1=>by
  obtain ⟨u,hu⟩:∃ u,enc y = [u]:=List.length_eq_one_iff.1 (hk y)
  simp only [List.set_cons_succ,List.flatMap_cons,hu,List.cons_append,List.nil_append]
  rw [qE5 enc v xv hk hv l i]
section
variable {P:Program} {n:FrK} {w0 w:World} {M:List Nat} {L:List Ent} {F:Fr} {d:Option Tmp} {ty:TypeId} {pos:String} {aft:Array Edge} {g:Option (Nat × Bool)} {x y:Operand}
theorem xO {α:Type} (enc:α→List Value) (l:List α) (i:Nat) (xv:α) {t e gb c:Nat} {v:Value} (hp:Hp w0 M w L) (j:Nat) (hj:L[j]? = some (qW enc e 1 (some ⟨gb,0,none⟩) c l)) (hvl:SVL (some ⟨gb,0,none⟩) c l) (hi:i < l.length)
  (hx:ev n F x = .pointer (some ⟨gb,0 + i * 1,none⟩)) (hy:ev n F y = v) (hk:∀ x,(enc x).length = 1) (hv:enc xv = [v]) (h1:wK v = true) (hz:TSize P t 1) :
  StepF P n ⟨d,.store t x y,ty,pos,aft,g⟩ F w (fun u w'=>u = undef∧Hp w0 M w' (L.set j (qW enc e 1 (some ⟨gb,0,none⟩) c (l.set i xv)))):=by
 obtain ⟨o,ho,cur,rfl,hsz,htk⟩:=hp.has j _ hj gb rfl
 have hsz:cur.size = c * 1:=hsz
 have hcap:=hvl.cap
 have hlen:(l.flatMap enc).length = l.length * 1:=kG enc 1 hk l
 obtain ⟨w',hr,hk',hb'⟩:=qK6 (P:=P) (o:=0 + i * 1) (v:=v) ho (by omega) h1
 refine qC6 (w':=w') ?_ ⟨rfl,hp.upd hj hk' ?_⟩
 ·have hcs:v.cells.size = 1:=by cases v<;>first|rfl|cases h1
  have hcl:v.cells.toList = [v]:=by cases v<;>first|rfl|cases h1
  have hz2:=hz.run (w:=w)
  simp only [execOp,Instr.storeAt,hx,hy,Instr.sureAddr,storeVar,Sem.run_bind,Sem.run_pure,Result.andThen_ok,hz2,hcs,hcl]
  simp only [storeCells,yH]
  simp only [Nat.add_zero] at hr ⊢
  rw [if_neg (by simp)]
  simp only [Sem.run_bind,hr,Result.andThen_ok]
  rfl
 ·intro b1 hb1
  have hb1:b1 = gb:=by
   have:(some gb:Option Nat) = some b1:=hb1
   simpa [eq_comm] using this
  subst hb1
  refine ⟨.inl rfl,_,hb',cur.setIfInBounds (0 + i * 1) v,rfl,?_,?_⟩
  ·show _ = c * 1
   simp
   omega
  ·rw [qE5 enc v xv hk hv,List.length_set,← htk]
   simp only [Array.toList_setIfInBounds]
   rw [List.take_set]
   simp
end
def qMs (a b:Int):Int:=IntKind.i64.wrap ((BitVec.ofInt 64 a &&& BitVec.ofInt 64 b).toNat)
section
variable {P:Program} {n:FrK} {w:World} {F:Fr} {d:Option Tmp} {ty:TypeId} {pos:String} {aft:Array Edge} {g:Option (Nat × Bool)} {x y:Operand} {t t':Nat} {k q:IntKind} {a b:Int}
theorem qW2 (hx:ev n F x = .int k a) (hy:ev n F y = .int q b) (hb:0≤b):PV P n w F ⟨d,.binOp .shr t x y t',ty,pos,aft,g⟩ (.int k (a.fdiv (2 ^ min b.toNat k.bits))):=by
 simp [PV,execOp,hx,hy,eqGuard,binOp,Op.shift]
 omega
theorem qT7 (hx:ev n F x = .int .i64 a) (hy:ev n F y = .int .i64 b):PV P n w F ⟨d,.binOp .and t x y t',ty,pos,aft,g⟩ (.int .i64 (qMs a b)):=by
 simp only [PV,execOp,hx,hy,eqGuard,binOp,Op.intBits,qMs]
 rfl
end
def Fr.puts (F:Fr):List (Nat × Value)→Fr
 | []=>F
 | p :: S=>(Fr.puts F S).put p.1 p.2
def qAt (F:Fr):List (Nat × Value)→Prop
 | []=>True
 | p :: S=>F p.1 = p.2∧qAt F S
theorem qA5 {F:Fr}:∀ {S:List (Nat × Value)},qAt F S→F = F.puts S
 | [],_=>rfl
 | _ :: _,h=>qG (qA5 h.2) h.1
theorem wF {P:Program} {n:FrK} {c:Code} {Q:Exit→Fr→World→Prop} {F:Fr} {w:World} (S:List (Nat × Value)) (hS:qAt F S) (h:∀ F0:Fr,WP P n c Q (F0.puts S) w):WP P n c Q F w:=by
 rw [qA5 hS]
 exact h F
section
variable {P:Program} {n:FrK} {Q:Exit→Fr→World→Prop} {F:Fr} {w:World} {ops:Array Oper} {rest:List Oper} {st:Bool} {G:World→Prop}
variable {d:Nat} {op:Op} {ty:TypeId} {pos:String} {aft:Array Edge}
theorem qEs {R:Value→World→Prop} {j:Nat} {want:Bool} {e:Nat} (he:jZ op = true) (hj:kF ops j = some e) (hc:ev n F (.tmp e) = .bool want)
  (hs:StepF P n ⟨some d,op,ty,pos,aft,some (j,want)⟩ F w R) (h:∀ v w',R v w'→G w'∧wpd P n ops st G rest Q (F.put d v) w') :
  wpd P n ops st G (⟨some d,op,ty,pos,aft,some (j,want)⟩ :: rest) Q F w:=by
 unfold wpd wpD
 rw [if_pos he]
 unfold EffStep
 rw [kR rfl hj hc]
 refine ⟨fun _=>Step.mono hs fun v w' hr=>?_,fun hw=>?_⟩
 ·rw [xW];exact ⟨fun _=>(h v w' hr).1,(h v w' hr).2⟩
 ·simp at hw
theorem vD {r v:Value} {j:Nat} {want:Bool} {e:Nat} (he:jZ op = false) (hj:kF ops j = some e) (hc:ev n F (.tmp e) = .bool want)
  (hp:∀ w,G w→PV P n w F ⟨some d,op,ty,pos,aft,some (j,want)⟩ r) (hv:r = v) (h:wpd P n ops st G rest Q (F.put d v) w):wpd P n ops st G (⟨some d,op,ty,pos,aft,some (j,want)⟩ :: rest) Q F w:=by
 subst hv
 unfold wpd wpD
 rw [if_neg (by simp [he])]
 refine ⟨r,.inl ⟨?_,fun w hw=>?_⟩,?_⟩
 ·rw [kR rfl hj hc]
  simp
 ·rw [zZ];exact hp w hw
 ·rw [xW];exact h
end
theorem Hp.joinT {w0 w w':World} {M:List Nat} {L:List Ent} (h:Hp w0 M w L) (A B:List Ent) (h':Hp w [] w' (A ++ B)):Hp w0 M w' (A ++ (L ++ B)):=by
 refine (h.join h').perm ?_
 rw [List.append_assoc]
 exact List.Perm.append_left _ List.perm_append_comm
theorem Same.putB {S:List Nat} {d:Nat} {v:Value} {F F':Fr} (h1:F' d = v) (h:Same S F F'):Same S (F.put d v) F':=by
 intro i hi
 simp only [Fr.put]
 cases hb:Nat.beq i d
 ·exact h i hi
 ·rw [Nat.eq_of_beq_eq_true hb]
  exact h1.symm
theorem xK {α:Type} {w0 w:World} {M:List Nat} {L:List Ent} {e k g c q:Nat} {enc:α→List Value} {l:List α} {x:α} (hp:Hp w0 M w L) (i:Nat) (hi:L[i]? = some (qW enc e k (some ⟨g,0,none⟩) c l)) (hv:SVL (some ⟨g,0,none⟩) c l) (hk:∀ x,(enc x).length = k) (hx:l[q]? = some x) :
  ∀ (j:Nat) (v:Value),(enc x)[j]? = some v→w.cell? ⟨g,0 + q * k + j,none⟩ = some v:=by
 obtain ⟨b,o,hs,hc⟩:=jS hp i hi hv hk q x hx
 cases hs
 exact hc
def jDc (p:Ent):Ent:=(p.1,fun o=>∃ q cur cur' t,p.2 q∧q = .cells cur t (0,0)∧o = .cells cur' t (0,0)∧cur'.size = cur.size)
section
variable {P:Program} {n:FrK} {w0 w:World} {M:List Nat} {L:List Ent} {F:Fr} {d:Option Tmp} {ty:TypeId} {pos:String} {aft:Array Edge} {g:Option (Nat × Bool)} {x y:Operand}
end
end Go.Eng
