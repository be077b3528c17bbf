/- Merged texts of ours; conditions are the hypotheses of each law. -/
import Derived.Test.YtplkndjlfkkjlaaGreatDoorP0
import Derived.Shelf.Strconv.Itoa3
import Derived.Shelf.Strings.OnBuilder
import Derived.Shelf.LaysM
import Derived.Shelf.Strings.Repeat
namespace Go.Eng
variable{G K:Prop}{w0:World}{M:List Nat}{p:Prop}{L:List Ent}{A H:Prop}{b:Nat}{P:Program}{F:Fr}{X:Type}
theorem nIa(h:p:=by first|exact O|exact jP O (by assumption)|assumption|exact hp.cell 0 O O|exact hp.cell 1 O O|exact hp.cell 2 O O|exact hp.cell 3 O O|exact hp.j4 0 O O|exact hp.j4 1 O O|exact hp.j4 2 O O|exact hp.j4 3 O O|exact hp.j7 (by assumption)|exact hp.cell 4 O O|exact hp.cell 5 O O|exact hp.cell 6 O O|exact hp.cell 7 O O|exact hp.j4 4 O O|exact hp.j4 5 O O|exact hp.j4 6 O O|exact hp.j4 7 O O):p:=h
theorem nIb(h:p:=by intros;(first|exact fI O|exact fB O|exact fP O|exact fS O|exact fT O|exact fF0 O|exact fF1 O|exact fF2 O|exact fF3 O|exact fF O|exact fA2 O|exact fA3 O|exact fA6 O|exact qJd O|exact fM O|exact fU O|exact jP O (by assumption)|exact fL O|exact O)):p:=h
theorem nIc(h:p:=by first|exact jD hp 0 O O O O (qD O) O|exact xM hp 0 O O O O (qD O) O|exact qW hp 0 O O O O (qD O) O|exact zU hp 0 O O O O (qD O) O|exact xC hp 0 O O O O (qD O) O|exact jD hp 1 O O O O (qD O) O|exact xM hp 1 O O O O (qD O) O|exact qW hp 1 O O O O (qD O) O|exact zU hp 1 O O O O (qD O) O|exact xC hp 1 O O O O (qD O) O):p:=h
theorem nId(h:p:=by intros;((first|apply qP|apply qY|apply xF|(apply qS;exact O)|(apply vO;exact O)|(apply qC7;exact O)|(apply uZ;exact O)|exact qA3 O|exact qC2 O|exact kL O O|exact yT O O|exact qC6 O O O|exact qF7 O O O|apply zQ|apply uG|apply xJ|apply vE|(apply zW;(first|exact O|exact jP O (by assumption)))|(apply kB;(first|exact O|exact jP O (by assumption)))|apply qAp|apply qC5|apply yU|apply kY|apply kA|(apply zA;exact O)|apply zY|exact kD O O O (by assumption)|exact vB O O O|exact kC O O O|apply zX|(apply uI;exact O)|exact qA4 (jP O (by assumption)) O (by assumption) O|exact qC3 (jP O (by assumption)) O (by assumption) O|exact qA5 O O|exact qC4 O O|(apply xV;(first|exact O|exact jP O (by assumption)))|(apply qA2;(first|exact O|exact jP O (by assumption)))|apply yH|(apply jS;exact O))<;>exact nIa)):p:=h
theorem nIe(h:p:=by first|exact uS hp O O|exact wY hp O|exact qBw hp O|exact qDh hp O|exact zO hp O|exact zT hp (qJ O) O|exact wZ hp (qJ O)|exact jK hp (qJ O)|exact vA hp (qJ O)|exact kP hp (qJ O)):p:=h
theorem nIf(h:p:=by first|exact O|exact jP O (by assumption)):p:=h
structure Kx(K:Prop):Prop where
 x:K
theorem jM(k:K)(h:Kx K→G:=by intro k;((first|apply wlp|(apply wlg;exact O;exact O)|(apply jIp;exact O;exact O));exact nId;exact nIb);exact k.x):G:=h ⟨k⟩
theorem qA(k:K)(h:Kx K→G:=by intro k;(repeat(first|(with_reducible first|apply qEj|apply qCn|apply qBq|apply qFv|apply qDx|apply qG9|apply qBl|apply qBn|apply qAj|apply qJo|apply qGn|apply qEi|apply qDs|apply qDr|apply kQ9|apply qG6)|((with_reducible apply qAu);exact O)|((with_reducible apply wN);exact O)|((first|apply wlp|(apply wlg;exact O;exact O)|(apply jIp;exact O;exact O));exact nId;exact nIb)));exact k.x):G:=h ⟨k⟩
theorem qR(k:K)(h:Kx K→G:=by intro k;(repeat(first|(with_reducible first|apply qEj|apply qCn|apply qBq|apply qFv|apply qDx|apply qG9|apply qBl|apply qBn|apply qAj|apply qJo|apply qGn|apply qEi|apply qDs|apply qDr|apply kQ9|apply qG6)|((with_reducible apply qAu);exact O)|((with_reducible apply wN);exact O)));exact k.x):G:=h ⟨k⟩
theorem qX(k:K)(h:Kx K→G:=by intro k;(repeat((first|(apply wdp;exact O)|(apply wdg;exact O;exact O;exact O)|(apply jUy;exact O;exact O;exact O));(intro w hp;intros;((first|apply qP|apply qY|apply xF|(apply qS;exact O)|(apply vO;exact O)|(apply qC7;exact O)|(apply uZ;exact O)|exact qA3 O|exact qC2 O|exact kL O O|exact yT O O|exact qC6 O O O|exact qF7 O O O|apply zQ|apply uG|apply xJ|apply vE|(apply zW;exact nIf)|(apply kB;exact nIf)|apply qAp|apply qC5|apply yU|apply kY|apply kA|(apply zA;exact O)|apply zY|exact kD O O O (by assumption)|exact vB O O O|exact kC O O O|apply zX|(apply uI;exact O)|exact qA4 (jP O (by assumption)) O (by assumption) O|exact qC3 (jP O (by assumption)) O (by assumption) O|exact qA5 O O|exact qC4 O O|(apply xV;exact nIf)|(apply qA2;exact nIf)|apply yH|(apply jS;exact O))<;>exact nIa));exact nIb));exact k.x):G:=h ⟨k⟩
theorem jL(k:K)(h:Kx K→G:=by intro k;(repeat(first|(with_reducible first|apply qEj|apply qCn|apply qBq|apply qFv|apply qDx|apply qG9|apply qBl|apply qBn|apply qAj|apply qJo|apply qGn|apply qEi|apply qDs|apply qDr|apply kQ9|apply qG6)|((with_reducible apply qAu);exact O)|((with_reducible apply wN);exact O)|(apply wlp;exact nId;exact nIb)|((apply vX;exact O;exact O);(((first|apply qP|apply qY|apply xF|(apply qS;exact O)|(apply vO;exact O)|(apply qC7;exact O)|(apply uZ;exact O)|exact qA3 O|exact qC2 O|exact kL O O|exact yT O O|exact qC6 O O O|exact qF7 O O O|apply zQ|apply uG|apply xJ|apply vE|(apply zW;exact nIf)|(apply kB;exact nIf)|apply qAp|apply qC5|apply yU|apply kY|apply kA|(apply zA;exact O)|apply zY|exact kD O O O (by assumption)|exact vB O O O|exact kC O O O|apply zX|(apply uI;exact O)|exact qA4 (jP O (by assumption)) O (by assumption) O|exact qC3 (jP O (by assumption)) O (by assumption) O|exact qA5 O O|exact qC4 O O|(apply xV;exact nIf)|(apply qA2;exact nIf)|apply yH|(apply jS;exact O))<;>exact nIa));exact nIb)|(apply jZ8;exact O;exact O;exact O)|(apply jZ7;exact O;exact O)));exact k.x):G:=h ⟨k⟩
theorem xA(k:K)(h:Kx K→G:=by intro k;(repeat(first|((apply wdp;exact O);(intro w hp;intros;((first|apply qP|apply qY|apply xF|(apply qS;exact O)|(apply vO;exact O)|(apply qC7;exact O)|(apply uZ;exact O)|exact qA3 O|exact qC2 O|exact kL O O|exact yT O O|exact qC6 O O O|exact qF7 O O O|apply zQ|apply uG|apply xJ|apply vE|(apply zW;exact nIf)|(apply kB;exact nIf)|apply qAp|apply qC5|apply yU|apply kY|apply kA|(apply zA;exact O)|apply zY|exact kD O O O (by assumption)|exact vB O O O|exact kC O O O|apply zX|(apply uI;exact O)|exact qA4 (jP O (by assumption)) O (by assumption) O|exact qC3 (jP O (by assumption)) O (by assumption) O|exact qA5 O O|exact qC4 O O|(apply xV;exact nIf)|(apply qA2;exact nIf)|apply yH|(apply jS;exact O))<;>exact nIa));exact nIb)|((apply yG;exact O;exact O;exact O);(intro w hp;((first|apply qP|apply qY|apply xF|(apply qS;exact O)|(apply vO;exact O)|(apply qC7;exact O)|(apply uZ;exact O)|exact qA3 O|exact qC2 O|exact kL O O|exact yT O O|exact qC6 O O O|exact qF7 O O O|apply zQ|apply uG|apply xJ|apply vE|(apply zW;exact nIf)|(apply kB;exact nIf)|apply qAp|apply qC5|apply yU|apply kY|apply kA|(apply zA;exact O)|apply zY|exact kD O O O (by assumption)|exact vB O O O|exact kC O O O|apply zX|(apply uI;exact O)|exact qA4 (jP O (by assumption)) O (by assumption) O|exact qC3 (jP O (by assumption)) O (by assumption) O|exact qA5 O O|exact qC4 O O|(apply xV;exact nIf)|(apply qA2;exact nIf)|apply yH|(apply jS;exact O))<;>exact nIa));exact nIb)|(apply jZe;exact O;exact O;exact O;exact O)|(apply jZd;exact O;exact O;exact O)));exact k.x):G:=h ⟨k⟩
theorem jZb(k:K)(h:Kx K→G:=by intro k;(repeat(first|(with_reducible first|apply qEj|apply qCn|apply qBq|apply qFv|apply qDx|apply qG9|apply qBl|apply qBn|apply qAj|apply qJo|apply qGn|apply qEi|apply qDs|apply qDr|apply kQ9|apply qG6)|((with_reducible apply qAu);exact O)|((with_reducible apply wN);exact O)|(apply wlp;(first|exact qY|exact qP);exact O)));exact k.x):G:=h ⟨k⟩
theorem zP(k:K)(h:Kx K→G:=by intro k;(repeat((apply wep;exact O;exact O);(intro w hp;intros;((first|apply qP|apply qY|apply xF|(apply qS;exact O)|(apply vO;exact O)|(apply qC7;exact O)|(apply uZ;exact O)|exact qA3 O|exact qC2 O|exact kL O O|exact yT O O|exact qC6 O O O|exact qF7 O O O|apply zQ|apply uG|apply xJ|apply vE|(apply zW;exact nIf)|(apply kB;exact nIf)|apply qAp|apply qC5|apply yU|apply kY|apply kA|(apply zA;exact O)|apply zY|exact kD O O O (by assumption)|exact vB O O O|exact kC O O O|apply zX|(apply uI;exact O)|exact qA4 (jP O (by assumption)) O (by assumption) O|exact qC3 (jP O (by assumption)) O (by assumption) O|exact qA5 O O|exact qC4 O O|(apply xV;exact nIf)|(apply qA2;exact nIf)|apply yH|(apply jS;exact O))<;>exact nIa));exact nIb));exact k.x):G:=h ⟨k⟩
theorem jIq(k:K)(h:Kx K→G:=by intro k;(repeat((apply jNk;exact O;exact O);(intro w hp;intros;((first|apply qP|apply qY|apply xF|(apply qS;exact O)|(apply vO;exact O)|(apply qC7;exact O)|(apply uZ;exact O)|exact qA3 O|exact qC2 O|exact kL O O|exact yT O O|exact qC6 O O O|exact qF7 O O O|apply zQ|apply uG|apply xJ|apply vE|(apply zW;exact nIf)|(apply kB;exact nIf)|apply qAp|apply qC5|apply yU|apply kY|apply kA|(apply zA;exact O)|apply zY|exact kD O O O (by assumption)|exact vB O O O|exact kC O O O|apply zX|(apply uI;exact O)|exact qA4 (jP O (by assumption)) O (by assumption) O|exact qC3 (jP O (by assumption)) O (by assumption) O|exact qA5 O O|exact qC4 O O|(apply xV;exact nIf)|(apply qA2;exact nIf)|apply yH|(apply jS;exact O))<;>exact nIa));exact nIb));exact k.x):G:=h ⟨k⟩
theorem qAd(k:K)(h:Kx K→G:=by intro k;((apply vX;exact O;exact O);(((first|apply qP|apply qY|apply xF|(apply qS;exact O)|(apply vO;exact O)|(apply qC7;exact O)|(apply uZ;exact O)|exact qA3 O|exact qC2 O|exact kL O O|exact yT O O|exact qC6 O O O|exact qF7 O O O|apply zQ|apply uG|apply xJ|apply vE|(apply zW;exact nIf)|(apply kB;exact nIf)|apply qAp|apply qC5|apply yU|apply kY|apply kA|(apply zA;exact O)|apply zY|exact kD O O O (by assumption)|exact vB O O O|exact kC O O O|apply zX|(apply uI;exact O)|exact qA4 (jP O (by assumption)) O (by assumption) O|exact qC3 (jP O (by assumption)) O (by assumption) O|exact qA5 O O|exact qC4 O O|(apply xV;exact nIf)|(apply qA2;exact nIf)|apply yH|(apply jS;exact O))<;>exact nIa));exact nIb);exact k.x):G:=h ⟨k⟩
theorem qHs(k:K)(h:Kx K→G:=by intro k;(first|(with_reducible first|apply qEj|apply qCn|apply qBq|apply qFv|apply qDx|apply qG9|apply qBl|apply qBn|apply qAj|apply qJo|apply qGn|apply qEi|apply qDs|apply qDr|apply kQ9|apply qG6)|((with_reducible apply qAu);exact O)|((with_reducible apply wN);exact O));exact k.x):G:=h ⟨k⟩
theorem qBs{K:World→Prop}(k:∀w,Hp w0 M w L→K w)(h:Kx (∀w,Hp w0 M w L→K w)→G:=by intro k;(repeat first|refine qHs ?_|refine jM ?_|(apply jI;exact nIc;rintro _ w ⟨rfl,hp⟩));exact k.x w hp):G:=h ⟨k⟩
theorem vK{L:Nat→List Ent}{K:World→Nat→Prop}(k:∀w b,Hp w0 M w (L b)→K w b)(h:Kx (∀w b,Hp w0 M w (L b)→K w b)→G:=by intro k;(repeat first|refine qHs ?_|refine jM ?_|(apply jI;exact nIc;rintro _ w ⟨rfl,hp⟩)|(apply wls;exact nIe;rintro _ w ⟨b,rfl,hp⟩));exact k.x w b hp):G:=h ⟨k⟩
theorem qSk{L:Nat→Nat→List Ent}{K:World→Nat→Nat→Prop}(k:∀w b1 b,Hp w0 M w (L b1 b)→K w b1 b)(h:Kx (∀w b1 b,Hp w0 M w (L b1 b)→K w b1 b)→G:=by intro k;(repeat first|refine qHs ?_|refine jM ?_|(apply jI;exact nIc;rintro _ w ⟨rfl,hp⟩));(apply wls;exact nIe;rintro _ w ⟨b1,rfl,hp⟩);(repeat first|refine qHs ?_|refine jM ?_|(apply jI;exact nIc;rintro _ w ⟨rfl,hp⟩)|(apply wls;exact nIe;rintro _ w ⟨b,rfl,hp⟩));exact k.x w b1 b hp):G:=h ⟨k⟩
theorem jC5{L:Nat→Nat→Nat→List Ent}{K:World→Nat→Nat→Nat→Prop}(k:∀w b1 b2 b,Hp w0 M w (L b1 b2 b)→K w b1 b2 b)(h:Kx (∀w b1 b2 b,Hp w0 M w (L b1 b2 b)→K w b1 b2 b)→G:=by intro k;(repeat first|refine qHs ?_|refine jM ?_|(apply jI;exact nIc;rintro _ w ⟨rfl,hp⟩));(apply wls;exact nIe;rintro _ w ⟨b1,rfl,hp⟩);(repeat first|refine qHs ?_|refine jM ?_|(apply jI;exact nIc;rintro _ w ⟨rfl,hp⟩));(apply wls;exact nIe;rintro _ w ⟨b2,rfl,hp⟩);(repeat first|refine qHs ?_|refine jM ?_|(apply jI;exact nIc;rintro _ w ⟨rfl,hp⟩)|(apply wls;exact nIe;rintro _ w ⟨b,rfl,hp⟩));exact k.x w b1 b2 b hp):G:=h ⟨k⟩
structure Kn(b:Nat):Prop where
 x:True
theorem Kn.e{z:Int}(_:Kn b)(h:z=(b:Int)):Iv z=Iv (b:Int):=by rw[h]
theorem tU{f:FuncId}(h:qI P f:=by exact fun _ _=>O3):qI P f:=h
theorem tK(a:A)(k:K)(h:A→Kx K→G:=by intro a k;(first|apply wls|(apply wds;exact O)|(apply wbs;exact O)|(apply uR;exact O;exact O)|(apply qHt;exact O;exact O;exact O)|apply jI);exact qC O tU O a;exact k.x):G:=h a ⟨k⟩
theorem tL(a:A)(k:K)(h:A→Kx K→G:=by intro a k;refine qA ?_;apply wls;exact qC O tU O a;exact k.x):G:=h a ⟨k⟩
theorem tC{K:World→Prop}(a:A)(k:∀w,Hp w0 M w L→K w)(h:A→Kx (∀w,Hp w0 M w L→K w)→G:=by intro a k;refine tK a ?_;rintro _ w ⟨rfl,hk⟩;exact k.x w (hp.call hk)):G:=h a ⟨k⟩
theorem tD{K:World→Prop}(a:A)(k:∀w,Hp w0 M w L→K w)(h:A→Kx (∀w,Hp w0 M w L→K w)→G:=by intro a k;refine qA ?_;refine tK a ?_;rintro _ w ⟨rfl,hk⟩;exact k.x w (hp.call hk)):G:=h a ⟨k⟩
theorem tE{K:World→Prop}(a:A)(k:∀w,Hp w0 M w L→K w)(h:A→Kx (∀w,Hp w0 M w L→K w)→G:=by intro a k;refine jL ?_;refine tK a ?_;rintro _ w ⟨rfl,hk⟩;exact k.x w (hp.call hk)):G:=h a ⟨k⟩
theorem tG{K:World→Prop}(a:A)(k:∀w,Hp w0 M w L→K w)(h:A→Kx (∀w,Hp w0 M w L→K w)→G:=by intro a k;refine tK a ?_;rintro _ w ⟨rfl,hk⟩;have hp:=hp.call hk;exact⟨by first|exact hp|exact hp.H|exact hp.C,k.x w hp⟩):G:=h a ⟨k⟩
theorem tH{K:World→Prop}(a:A)(k:∀w,Hp w0 M w L→K w)(h:A→Kx (∀w,Hp w0 M w L→K w)→G:=by intro a k;refine qX ?_;refine tG a k.x):G:=h a ⟨k⟩
theorem tA(k:K)(h:Kx K→G:=by intro k;(first|apply wlp|(apply wdp;exact O;intro w hp)|(apply vX;exact O;exact O)|(apply yG;exact O;exact O;exact O;intro w hp));(first|exact qO O O|exact jN O O|exact vD O O);exact qF (qK O1 O1);exact k.x):G:=h ⟨k⟩
theorem tB(k:K)(h:Kx K→G:=by intro k;refine qA ?_;refine tA k.x):G:=h ⟨k⟩
theorem tn(n:Kn b)(k:Kx K)(h:Kn b→Kx K→G:=by intro n k;(first|apply wlp|(apply wdp;exact O;intro w hp)|(apply vX;exact O;exact O)|(apply yG;exact O;exact O;exact O;intro w hp));(first|exact qO O O|exact jN O O|exact vD O O);exact n.e (by rw[qK O1 O1];omega);exact k.x):G:=h n k
theorem tN(b:Nat)(k:K)(h:Kn b→Kx K→G:=by intro n k;exact tn n k):G:=h ⟨trivial⟩ ⟨k⟩
theorem tM(b:Nat)(k:K)(h:Kn b→Kx K→G:=by intro n k;refine qA ?_;exact tn n k):G:=h ⟨trivial⟩ ⟨k⟩
theorem tS{K:World→Prop}(k:∀w,Hp w0 M w L→K w)(h:Kx (∀w,Hp w0 M w L→K w)→G:=by intro k;(first|apply jI|(apply xH;exact O;exact O));(first|exact jD hp 0 O O O O (qD O) O|exact xM hp 0 O O O O (qD O) O|exact qW hp 0 O O O O (qD O) O|exact zU hp 0 O O O O (qD O) O|exact xC hp 0 O O O O (qD O) O|exact jD hp 1 O O O O (qD O) O|exact xM hp 1 O O O O (qD O) O|exact qW hp 1 O O O O (qD O) O|exact zU hp 1 O O O O (qD O) O|exact xC hp 1 O O O O (qD O) O|exact jD hp 2 O O O O (qD O) O|exact xM hp 2 O O O O (qD O) O|exact qW hp 2 O O O O (qD O) O|exact zU hp 2 O O O O (qD O) O|exact xC hp 2 O O O O (qD O) O|exact jD hp 3 O O O O (qD O) O|exact xM hp 3 O O O O (qD O) O|exact qW hp 3 O O O O (qD O) O|exact zU hp 3 O O O O (qD O) O|exact xC hp 3 O O O O (qD O) O|exact jD hp 4 O O O O (qD O) O|exact xM hp 4 O O O O (qD O) O|exact qW hp 4 O O O O (qD O) O|exact zU hp 4 O O O O (qD O) O|exact xC hp 4 O O O O (qD O) O|exact jD hp 5 O O O O (qD O) O|exact xM hp 5 O O O O (qD O) O|exact qW hp 5 O O O O (qD O) O|exact zU hp 5 O O O O (qD O) O|exact xC hp 5 O O O O (qD O) O);rintro _ w ⟨rfl,hp⟩;exact k.x w hp):G:=h ⟨k⟩
theorem tT{K:World→Prop}(k:∀w,Hp w0 M w L→K w)(h:Kx (∀w,Hp w0 M w L→K w)→G:=by intro k;refine qA ?_;refine tS k.x):G:=h ⟨k⟩
theorem tQ{L:Nat→List Ent}{K:World→Nat→Prop}(k:∀w b,Hp w0 M w (L b)→K w b)(h:Kx (∀w b,Hp w0 M w (L b)→K w b)→G:=by intro k;apply wls;exact nIe;rintro _ w ⟨b,rfl,hp⟩;exact k.x w b hp):G:=h ⟨k⟩
theorem tw0{n:FrK}{c:Code}{Q:Exit→Fr→World→Prop}{w:World}(k:Hp w [] w []→WP P n c Q F w):WP P n c Q F w:=k Hp.start
theorem tW{B:Prop}(a:A)(b:B)(k:H→K)(h:A→B→Kx (H→K)→G:=by intro a b k;refine Ret.j9 a O b O ?_;exact tw0 k.x):G:=h a b ⟨k⟩
theorem tI{q K1 K2:Prop}(a:p→K1)(b:q→K2)(h:Kx (p→K1)→Kx (q→K2)→G:=by intro a b;refine qA ?_;exact qH O a.x b.x):G:=h ⟨a⟩ ⟨b⟩
theorem tJ(k:K)(h:Kx K→G:=by intro k;refine qN O ?_;refine qA ?_;exact k.x):G:=h ⟨k⟩
theorem tX(k:H→K)(h:Kx (H→K)→G:=by intro k;refine jW jG O3 (fun w'=>Hp _ _ w' _) hp.N ?_;exact k.x hp.N):G:=h ⟨k⟩
theorem tY(k:H→K)(h:Kx (H→K)→G:=by intro k;refine qA ?_;refine tX k.x):G:=h ⟨k⟩
theorem tZ{S:List Nat}{F':Fr}(h:Same S F' F:=by repeat(first|exact Same.l7|exact Same.refl|refine Same.put O ?_|refine Same.x9 O ?_)):F'=Fr.l7 S F' F:=h.eq
theorem O5(h:p:=by first|exact tZ|exact qB tZ O|exact qB (qB tZ O) O|exact qB (qB (qB tZ O) O) O|exact qB (qB (qB (qB tZ O) O) O) O):p:=h
section
variable {P:Program}{n:FrK}{Q:Exit→Fr→World→Prop}{F:Fr}{w:World}{ops:Array Oper}{rest:List Oper}{d:Nat}{op:Op}{ty:TypeId}{pos:String}{aft:Array Edge}{r v:Value}
theorem tR(hp:PV P n w F ⟨some d,op,ty,pos,aft,none⟩ r)(h:wpl P n ops rest Q (F.put d v) w)(hv:r=v:=by first|exact fI O|exact fB O|exact fP O|exact fS O|exact fT O|exact fF0 O|exact fF1 O|exact fF2 O|exact fF3 O|exact fF O|exact fA2 O|exact fA3 O|exact fA6 O|exact qJd O|exact fM O|exact fU O|exact O):wpl P n ops (⟨some d,op,ty,pos,aft,none⟩::rest) Q F w:=wlp hp hv h
theorem tP{st:Bool}{G:World→Prop}(hp:∀w,G w→PV P n w F ⟨some d,op,ty,pos,aft,none⟩ r)(h:wpd P n ops st G rest Q (F.put d v) w)(he:zC op=false:=by rfl)(hv:r=v:=by first|exact fI O|exact fB O|exact fP O|exact fS O|exact fT O|exact fF0 O|exact fF1 O|exact fF2 O|exact fF3 O|exact fF O|exact fA2 O|exact fA3 O|exact fA6 O|exact qJd O|exact fM O|exact fU O|exact O):wpd P n ops st G (⟨some d,op,ty,pos,aft,none⟩::rest) Q F w:=wdp he hp hv h
theorem tF{f:X→Value}{H:X→World→Prop}(hs:StepF P n ⟨some d,op,ty,pos,aft,none⟩ F w (fun v w'=>∃b,v=f b∧H b w'))(h:∀w' b,H b w'→wpl P n ops rest Q (F.put d (f b)) w'):wpl P n ops (⟨some d,op,ty,pos,aft,none⟩::rest) Q F w:=wls hs (by rintro _ w ⟨b,rfl,h'⟩;exact h w b h')
theorem tFb{Y:Type}{f:X→Y→Value}{H:X→Y→World→Prop}(hs:StepF P n ⟨some d,op,ty,pos,aft,none⟩ F w (fun v w'=>∃b c,v=f b c∧H b c w'))(h:∀w' b c,H b c w'→wpl P n ops rest Q (F.put d (f b c)) w'):wpl P n ops (⟨some d,op,ty,pos,aft,none⟩::rest) Q F w:=wls hs (by rintro _ w ⟨b,c,rfl,h'⟩;exact h w b c h')
theorem tO{V:Value}{H:World→Prop}(hs:StepF P n ⟨none,op,ty,pos,aft,none⟩ F w (fun v w'=>v=V∧H w'))(h:∀w',H w'→wpl P n ops rest Q F w'):wpl P n ops (⟨none,op,ty,pos,aft,none⟩::rest) Q F w:=jI hs (by rintro _ w ⟨rfl,h'⟩;exact h w h')
end
theorem tV(k:K)(h:Kx K→G:=by intro k;refine qA ?_;refine qM O O ?_;exact k.x):G:=h ⟨k⟩
end Go.Eng
namespace Go.Proofs.YtplkndjlfkkjlaaGreatDoor
open Go.Eng
abbrev Rt:=@Ret Tryz.prog
abbrev Rk(f:FuncId)(l:List Value)(w:World)(V:Value):Prop:=Ret Tryz.prog f l w (fun v w'=>v=V∧Keeps [] w w')
end Go.Proofs.YtplkndjlfkkjlaaGreatDoor
namespace Go.Eng
section
variable{G K:Prop}
theorem gA0(k:K)(h:Kx K→G:=by intro zzk;refine tB ?_;refine qA ?_;exact zzk.x):G:=h ⟨k⟩
theorem gA1(k:K)(h:Kx K→G:=by intro zzk;refine qR ?_;refine jM ?_;exact zzk.x):G:=h ⟨k⟩
theorem gA2(k:K)(h:Kx K→G:=by intro zzk;refine tJ ?_;refine tA ?_;refine qA ?_;exact zzk.x):G:=h ⟨k⟩
theorem gA3(k:K)(h:Kx K→G:=by intro zzk;refine qA ?_;refine tJ ?_;exact zzk.x):G:=h ⟨k⟩
theorem gA4(k:K)(h:Kx K→G:=by intro zzk;refine gA1 ?_;refine jM ?_;exact zzk.x):G:=h ⟨k⟩
theorem gA5(k:K)(h:Kx K→G:=by intro zzk;refine tM (k+1) ?_;refine qA ?_;exact zzk.x):G:=h ⟨k⟩
theorem gA6(k:K)(h:Kx K→G:=by intro zzk;refine tJ ?_;refine tN (i+1+1) ?_;refine qA ?_;exact zzk.x):G:=h ⟨k⟩
theorem gA7(k:K)(h:Kx K→G:=by intro zzk;refine tM (i+1) ?_;refine qA ?_;exact zzk.x):G:=h ⟨k⟩
theorem gA8(k:K)(h:Kx K→G:=by intro zzk;refine tM (j+1) ?_;refine qA ?_;exact zzk.x):G:=h ⟨k⟩
theorem gA9(k:K)(h:Kx K→G:=by intro zzk;refine gA3 ?_;refine tN (i+1) ?_;refine qA ?_;exact zzk.x):G:=h ⟨k⟩
theorem gAa(k:K)(h:Kx K→G:=by intro zzk;refine jL ?_;refine tJ ?_;exact zzk.x):G:=h ⟨k⟩
theorem gAb(k:K)(h:Kx K→G:=by intro zzk;refine qA ?_;refine tR (uU O O O1) ?_;exact zzk.x):G:=h ⟨k⟩
theorem gAc(k:K)(h:Kx K→G:=by intro zzk;refine qA ?_;refine tR (xP (b:=32) O O O2) ?_;refine gA0 ?_;exact zzk.x):G:=h ⟨k⟩
theorem gAd(k:K)(h:Kx K→G:=by intro zzk;refine zP ?_;refine zP ?_;exact zzk.x):G:=h ⟨k⟩
theorem gAe(k:K)(h:Kx K→G:=by intro zzk;refine jM ?_;refine qAd ?_;exact zzk.x):G:=h ⟨k⟩
theorem gAf(k:K)(h:Kx K→G:=by intro zzk;refine qX ?_;refine qU ?_;exact zzk.x):G:=h ⟨k⟩
theorem gAg(k:K)(h:Kx K→G:=by intro zzk;refine zP ?_;refine yZ ?_;exact zzk.x):G:=h ⟨k⟩
theorem gAh(k:K)(h:Kx K→G:=by intro zzk;refine jL ?_;refine gA2 ?_;exact zzk.x):G:=h ⟨k⟩
end
open List (range range' replicate)
variable{i j:Nat}{wG:World}{id:Nat}
def xE(ops:Array Oper)(i j:Nat):Bool:=((Region.before ops).getD i 0).testBit j
def qCf(ops:Array Oper)(i:Nat)(rest:List Nat):List Nat:=rest.filter fun x=>zC (jA ops x).op&& !xE ops x i
def wpE(P:Program)(ops:Array Oper)(nd:Oper→Bool)(G:World→Prop)(K:Act→World→Prop):Nat→List Nat→Act→World→Prop
 |0,_,a,w=>K a w
 |_+1,[],a,w=>K a w
 |n+1,i::rest,a,w=>
  if zC (jA ops i).op then∀x∈i::qCf ops i rest,EffStep P ops (jA ops x) a w (fun a' w'=>(nd (jA ops x)=true→G w')∧wpE P ops nd G K n ((i::rest).filter (· !=x)) a' w')
  else∃v,YV P ops G (jA ops i) a v∧wpE P ops nd G K n rest (a.put (jA ops i).dst v) w
def qKr(ops:Array Oper)(j i:Nat):Bool:=
 xE ops i j||(if zC (jA ops j).op&&zC (jA ops i).op then(range ops.size).all fun x=>!xE ops i x||decide (x<j) else qC8 ops (jA ops j) (jA ops i))
def uP(P:Program)(ops:Array Oper)(nd:Oper→Bool):Bool:=
 (range ops.size).all fun i=>(jA ops i).after.all (fun e=>!Region.binds .any e||decide (e.on<i))&&
  (!zC (jA ops i).op||nd (jA ops i)||(range ops.size).all fun j=>zC (jA ops j).op||wl P (jA ops j).op||xE ops i j)&&
  (range i).all fun j=>qKr ops j i
section
variable {P:Program}{ops:Array Oper}{nd:Oper→Bool}{G:World→Prop}{K:Act→World→Prop}{Q:Exit→Act→World→Prop}
theorem qEg(h:uP P ops nd=true)(hi:i<ops.size):∀e∈(jA ops i).after.toList,Region.binds .any e=true→e.on<i:=by
 simp only[uP,cU,aF] at h;have h1:=(h i (by grind)).1.1;rw[cZ] at h1;grind
theorem qRn(h:uP P ops nd=true)(hi:i<ops.size)(hj:j<ops.size)(he:zC (jA ops i).op=true)(hp:zC (jA ops j).op=false)(hx:wl P (jA ops j).op=false):nd (jA ops i)=true∨xE ops i j=true:=by
 simp only[uP,cU,aF] at h;grind
theorem qIm(h:uP P ops nd=true)(hi:i<ops.size)(hj:j<i):qKr ops j i=true:=by
 simp only[uP,cU,aF] at h;grind
theorem qJ4(h:uP P ops nd=true)(hi:i<ops.size)(hj:j<i)(hb:xE ops i j=false)(hm:¬(zC (jA ops j).op=true∧zC (jA ops i).op=true)):qC8 ops (jA ops j) (jA ops i)=true:=by
 have:=qIm h hi hj;unfold qKr at this;grind
theorem jB1(h:uP P ops nd=true)(hi:i<ops.size)(hj:j<i)(hb:xE ops i j=false)(h1:zC (jA ops j).op=true)(h2:zC (jA ops i).op=true):∀x,x<ops.size→j≤x→xE ops i x=false:=by
 have:=qIm h hi hj;unfold qKr at this;grind
theorem qVv{o o':Oper}(h:qC8 ops o o'=true):o.apart ops o'=true∧qM8 o.op=true∧qM8 o'.op=true:=by
 simp only[qC8,aF] at h;grind
structure Commute(ops:Array Oper)(p i:Oper):Prop where
 ei:∀(a:Act) (v:Value),execOp (a.put p.dst v).eval i=execOp a.eval i
 ep:∀(a:Act) (v:Value),execOp (a.put i.dst v).eval p=execOp a.eval p
 wi:∀(a:Act) (v:Value),Region.wanted i (yielded ops (a.put p.dst v).tmps)=Region.wanted i (yielded ops a.tmps)
 wq:∀(a:Act) (v:Value),Region.wanted p (yielded ops (a.put i.dst v).tmps)=Region.wanted p (yielded ops a.tmps)
 hc:∀(a:Act) (v u:Value),(a.put p.dst v).put i.dst u=(a.put i.dst u).put p.dst v
theorem Commute.of{p i:Oper}(h:qC8 ops p i=true):Commute ops p i:=by
 obtain⟨hL,h7,hH⟩:=qVv h;obtain⟨h1,h2,h3⟩:=Oper.apart_spec hL;exact⟨fun a v=>execOp_put _ (qQ4 hH) a _ v h1,fun a v=>execOp_put _ (qQ4 h7) a _ v h3,fun a v=>wanted_put _ a _ v h1,fun a v=>wanted_put _ a _ v h3,fun a v u=>Act.put_comm a v u h2⟩
theorem Commute.symm{p i:Oper}(h:Commute ops p i):Commute ops i p:=⟨h.ep,h.ei,h.wq,h.wi,fun a v u=>(h.hc a u v).symm⟩
theorem jW8(h8:G wG)(hn:uP P ops nd=true)(i:Nat)(zz:i<ops.size):∀(n:Nat) (l:List Nat) (a:Act) (w:World),l.length=n+1→(∀x∈l,x<ops.size)→wpE P ops nd G K (n+1) l a w→i∈l→l.Pairwise (·<·)→
  (∀j∈l,xE ops i j=false)→
  if zC (jA ops i).op then EffStep P ops (jA ops i) a w (fun a' w'=>(nd (jA ops i)=true→G w')∧wpE P ops nd G K n (l.filter (· !=i)) a' w')
  else∃v,YV P ops G (jA ops i) a v∧wpE P ops nd G K n (l.filter (· !=i)) (a.put (jA ops i).dst v) w:=by
 intro n;induction n with
 |zero=>
  intro l a w hQ hl h hi hs hb
  match l,hQ with
  |[p],_=>
   have:=by simpa using hi
   subst this;simp only[wpE] at h;by_cases he:zC (jA ops i).op=true
   ·rw[if_pos he] at h⊢;exact h i O4
   rw[if_neg he] at h⊢;exact h
 |succ n ih=>
  intro l a w hQ hl h hi hs hb
  match l,hQ with
  |p::rest,hQ=>
   have xg:=by simpa using hQ
   obtain⟨hq,h5⟩:=bO.1 hs;have ln:=qDz hs;by_cases hp:p=i
   ·have hf:(p::rest).filter (· !=p)=rest:=by
     rw[mD];simp only[pR,eE,iW];exact qJa (lS.1 ln).1
    rw[wpE] at h;grind
   have hg:i∈rest:=by
    rcases bE.1 hi with e|e
    ·omega
    exact e
   have h9:=hq i hg;have qe:=hb p O4;have hf:(p::rest).filter (· !=i)=p::rest.filter (· !=i):=by
    rw[mD,if_pos (by grind)]
   have qh:∀x∈rest,x<_:=fun x hx=>hl x (by simp[hx])
   have yh:∀j∈rest,_=_:=fun j hj=>hb j (by simp[hj])
   rw[wpE] at h;by_cases h4:zC (jA ops p).op=true
   ·rw[if_pos h4] at h;by_cases ht:zC (jA ops i).op=true
    ·rw[if_pos ht]
     exact h i (by
      unfold qCf;grind)
    have qg:=by simpa using ht
    rw[if_neg ht];have qf:∀x∈p::qCf ops p rest,x∈p::rest∧x≠i∧zC (jA ops x).op=true∧Commute ops (jA ops x) (jA ops i):=by
     intro x hx;have e1:x∈p::rest∧zC (jA ops x).op=true∧(x=p∨(x∈rest∧xE ops x p=false)):=by
      rcases bE.1 hx with rfl|hx
      ·grind
      unfold qCf at hx;rw[fN] at hx;simp only[aF,lA] at hx;exact⟨by grind,hx.2.1,.inr ⟨hx.1,hx.2.2⟩⟩
     obtain⟨nh,qd,yk⟩:=e1;have hM:x≠i:=by
      rintro rfl;rw[qg] at qd;cases qd
     refine⟨nh,hM,qd,?_⟩;rcases sAu hM with h3|h3
     ·exact Commute.of (qJ4 hn zz h3 (hb x nh) (by grind))
     rcases yk with rfl|⟨h7,li⟩
     ·omega
     have fw:=jB1 hn (hl x nh) (hq x h7) li h4 qd i zz O1;exact(Commute.of (qJ4 hn (hl x nh) h3 fw (by grind))).symm
    have key:∀x∈p::qCf ops p rest,∀u w',wpE P ops nd G K (n+1) ((p::rest).filter (· !=x)) (a.put (jA ops x).dst u) w'→
      ∃v,YV P ops G (jA ops i) a v∧wpE P ops nd G K n (((p::rest).filter (· !=x)).filter (· !=i)) ((a.put (jA ops x).dst u).put (jA ops i).dst v) w':=by
     intro x hx u w' hr;obtain⟨nh,hM,qd,qa⟩:=qf x hx;have qc:=qCg ln nh
     have:=ih _ (a.put (jA ops x).dst u) w' O1 (fun y hy=>hl y (fN.1 hy).1) hr (by
      grind) (hs.filter _) (fun j hj=>hb j (fN.1 hj).1)
     rw[if_neg ht] at this;obtain⟨v,hv,hz⟩:=this;exact⟨v,hv.congr (qa.ei a u).symm (qa.wi a u).symm,hz⟩
    have hex:∃v,YV P ops G (jA ops i) a v:=by
     have h0:=h p O4;cases hwp:Region.wanted (jA ops p) (yielded ops a.tmps)
     ·obtain⟨_,hr⟩:=h0.2 hwp;grind
     exact mD8
    obtain⟨v,hv⟩:=hex;refine⟨v,hv,?_⟩;rw[hf,wpE,if_pos h4];have qc:qCf ops p (rest.filter (· !=i))=qCf ops p rest:=by
     unfold qCf;rw[iX];apply mR;intro y _;by_cases p0:y=i
     ·grind
     simp[p0]
    rw[qc];intro x hx;obtain⟨nh,hM,qd,qa⟩:=qf x hx;have qb:((p::rest).filter (· !=x)).filter (· !=i)=(p::rest.filter (· !=i)).filter (· !=x):=by
     exact mF4
    have hF:∀u w',((nd (jA ops x)=true→G w')∧wpE P ops nd G K (n+1) ((p::rest).filter (· !=x)) (a.put (jA ops x).dst u) w')→
      (nd (jA ops x)=true→G w')∧wpE P ops nd G K n ((p::rest.filter (· !=i)).filter (· !=x)) ((a.put (jA ops i).dst v).put (jA ops x).dst u) w':=by
     rintro u w' ⟨h6,hr⟩;obtain⟨v',hm,hz⟩:=key x hx _ _ hr;have:=hv.aB4 h8 hm;subst this;rw[qb,qa.hc] at hz;exact⟨h6,hz⟩
    refine⟨fun hw=>?_,fun hw=>?_⟩
    ·exact mE3
    rw[qa.wq] at hw;exact hF _ _ ((h x hx).2 hw)
   have hJ:=by simpa using h4
   rw[if_neg h4] at h;obtain⟨vp,hD,hr⟩:=h;have hh:=ih _ _ w xg qh hr hg h5 yh;have qa:=Commute.of (qJ4 hn zz h9 qe (by grind));rw[hf];by_cases ht:zC (jA ops i).op=true
   ·rw[if_pos ht] at hh⊢;have key:∀u w',((nd (jA ops i)=true→G w')∧wpE P ops nd G K n (rest.filter (· !=i)) ((a.put (jA ops p).dst vp).put (jA ops i).dst u) w')→
      (nd (jA ops i)=true→G w')∧wpE P ops nd G K (n+1) (p::rest.filter (· !=i)) (a.put (jA ops i).dst u) w':=by
     rintro u w' ⟨h6,hz⟩;refine⟨h6,?_⟩;rw[wpE,if_neg h4];rw[qa.hc] at hz;exact⟨vp,hD.congr (qa.ep a u) (qa.wq a u),hz⟩
    refine⟨fun hw=>?_,fun hw=>?_⟩
    ·exact mDt
    exact key _ _ (hh.2 (by rw[qa.wi];exact hw))
   rw[if_neg ht] at hh⊢;obtain⟨v,hv,hz⟩:=hh;refine⟨v,hv.congr (qa.ei a vp).symm (qa.wi a vp).symm,?_⟩;rw[wpE,if_neg h4];rw[qa.hc] at hz;exact⟨vp,hD.congr (qa.ep a v) (qa.wq a v),hz⟩
theorem qWy(h8:G wG)(hy:uP P ops nd=true)(hK:∀a w,K a w→Q .normal a w):∀(fuel:Nat) (listed:Array Bool) (a:Act) (w:World),listed.size=ops.size→(left ops listed).length≤fuel→
  (∀i,i<ops.size→listed.getD i true=true→∀j,((Region.before ops).getD i 0).testBit j=true→listed.getD j false=true)→
  (∀j∈left ops listed,zC (jA ops j).op=false→wl P (jA ops j).op=false→G w)→wpE P ops nd G K (left ops listed).length (left ops listed) a w→wpAny P .any ops Q fuel listed a w:=by
 intro fuel;have done:∀(listed:Array _) (a:Act) (w:World),left ops listed=[]→wpE P ops nd G K (left ops listed).length (left ops listed) a w→Q .normal a w:=by
  exact mDa
 have hZ:∀(listed:Array _) i,i∈Region.ready .any ops listed↔i<ops.size∧listed.getD i true=false∧∀e∈(jA ops i).after.toList,Region.binds .any e=true→listed.getD e.on false=true:=by
  intro listed i;simp only[Region.ready,fN,aO,aF,lA];constructor
  ·exact mAc
  rintro⟨h1,h2,h3⟩;refine⟨h1,h2,?_⟩;rw[aP h1];simp only[eC,iH];rw[cZ];intro e he;cases hb:Region.binds .any e
  ·rfl
  exact mBy
 induction fuel with
 |zero=>
  exact mB7
 |succ fuel ih=>
  intro listed a w ht hQ hP hG h;refine⟨fun xp=>?_,fun i hi=>?_⟩
  ·cases hl:left ops listed with
   |nil=>grind
   |cons i0 rest=>
    exfalso;have hm:i0∈left ops listed:=by rw[hl];simp
    obtain⟨h1,h2⟩:=zZ.1 hm;have:i0∈Region.ready .any ops listed:=by
     refine(hZ listed i0).2 ⟨h1,h2,fun e he hb=>?_⟩;have hq:=qEg hy h1 e he hb;have hs:=yN ops listed;rw[hl] at hs;by_cases hx:listed.getD e.on true=false
     ·have xe:_∈left ops _:=zZ.2 ⟨O1,hx⟩;rw[hl] at xe;rcases bE.1 xe with e1|e1
      ·omega
      exact mDz
     have hX:listed.getD e.on true=true:=by simpa using hx
     exact mBg
    grind
  obtain⟨h1,h2,h3⟩:=(hZ _ i).1 hi;have hm:=zZ.2 ⟨h1,h2⟩;have xn:∀j,((Region.before ops).getD i 0).testBit j=true→listed.getD j false=true:=by
   intro j hb;obtain⟨e,he,hz,hV⟩:=vR h1 hb;have hl:=h3 e he hz;rcases hV with rfl|hV
   ·exact hl
   have hq:=qEg hy h1 e he hz;exact mB3
  have ss:∀j∈left ops listed,xE ops i j=false:=by
   intro j hj;cases hb:xE ops i j
   ·rfl
   exfalso;obtain⟨xa,hS⟩:=zZ.1 hj;exact mB1
  obtain⟨n,hn⟩:∃n,(left ops listed).length=n+1:=by
   cases hl:left _ _ with
   |nil=>grind
   |cons x y=>simp
  have qc:=qCg (qDz (yN _ _)) hm;have ql:(left ops (listed.setIfInBounds i true)).length=n:=by
   rw[uV h1 ht];omega
  rw[hn] at h;have xb:=jW8 h8 hy i h1 n _ a w hn (fun x hx=>(zZ.1 hx).1) h hm (yN _ _) ss;have xg:(left ops (listed.setIfInBounds i true)).length≤fuel:=O1;have xo:∀k,k<ops.size→(listed.setIfInBounds i true).getD k true=true→∀j,((Region.before ops).getD k 0).testBit j=true→(listed.setIfInBounds i true).getD j false=true:=by
   intro k hk hU j hb;have hT:∀(d:Bool) x,(listed.setIfInBounds i true).getD x d=if x=i then true else listed.getD x d:=by
    intro d x;simp only[aJ,fY];by_cases hx:x=i
    ·grind
    exact mDv
   rw[hT] at hU⊢;split
   ·rfl
   by_cases xf:k=i
   ·grind
   exact mDr
  have xh:∀j∈left ops (listed.setIfInBounds i true),j∈left ops listed∧j≠i:=by
   intro j hj;rw[uV h1 ht] at hj;simpa using hj
  have xj:=fun j hj=>hG j (xh j hj).1
  have hE:zC (jA ops i).op=true→∀w',(nd (jA ops i)=true→G w')→∀j∈left ops (listed.setIfInBounds i true),zC (jA ops j).op=false→wl P (jA ops j).op=false→G w':=by
   intro h4 w' hg j hj xl xk;obtain⟨xa,_⟩:=xh j hj;rcases qRn hy h1 (zZ.1 xa).1 h4 xl xk with hb|hb
   ·grind
   rw[ss j xa] at hb;cases hb
  have xc:∀a' w',(∀j∈left ops (listed.setIfInBounds i true),zC (jA ops j).op=false→wl P (jA ops j).op=false→G w')→wpE P ops nd G K n ((left ops listed).filter (· !=i)) a' w'→wpAny P .any ops Q fuel (listed.setIfInBounds i true) a' w':=by
   intro a' w' hg hh;rw[←uV h1 ht] at hh;exact ih _ a' w' (by grind) xg xo hg (by rw[ql];exact hh)
  have xi:ops[i]? =some (jA ops i):=by simp[jA,aP h1]
  unfold wpOp;simp[xi];by_cases h4:zC (jA ops i).op=true
  ·rw[if_pos h4] at xb;cases hw:Region.wanted _ _
   ·obtain⟨hg,hh⟩:=xb.2 hw;grind
   exact mDu
  rw[if_neg h4] at xb;obtain⟨v,hv,hh⟩:=xb;rcases hv with⟨hw,hr⟩|⟨hw,rfl⟩
  ·simp only[hw,if_true];refine .inl (Step.wp (R:=fun u w'=>u=v∧w'=w) (.inl ⟨v,w,?_,O,O⟩) ?_)
   ·cases hwl:wl P (jA ops i).op
    ·grind
    exact qPo hwl (hr wG h8)
   exact mDi
  grind
theorem jC3{a:Act}{w:World}(hm:P.follows .mixedOrders=true)(hn:uP P ops nd=true)(G:World→Prop)(hG:G w.drew)
  (h:wpE P ops nd G (fun a w=>Q .normal a w) ops.size (range ops.size) a w.drew):(Code.region id ops true).wp P Q a w:=by
 refine sA6 hm ?_;have e1:left ops (Array.replicate ops.size false)=range ops.size:=by
  unfold left;rw[lU];intro i hi;have:i<ops.size:=by simpa using hi
  simp[aJ,this]
 refine qWy (K:=fun a w=>Q _ a w) hG hn (fun _ _ h=>h) _ _ a _ O4 ?_ ?_ (fun _ _ _ _=>hG) ?_
 ·grind
 ·intro i hi hl;simp[hi] at hl
 rw[e1,dA];exact h
end
def wpe(P:Program)(n:FrK)(ops:Array Oper)(st:Bool)(G:World→Prop)(l:List Nat)(Q:Exit→Fr→World→Prop)(F:Fr)(w:World):Prop:=
 wpE P ops (qEv st) G (fun a w=>up n Q .normal a w) l.length l (act n F) w
def wpb(P:Program)(n:FrK)(ops:Array Oper)(st:Bool)(G:World→Prop)(x:Nat)(l:List Nat)(Q:Exit→Fr→World→Prop)(F:Fr)(w:World):Prop:=
 EffStep P ops (jA ops x) (act n F) w (fun a' w'=>(qEv st (jA ops x)=true→G w')∧wpE P ops (qEv st) G (fun a w=>up n Q .normal a w) l.length l a' w')
section
variable {P:Program}{n:FrK}{Q:Exit→Fr→World→Prop}{F:Fr}{w:World}{ops:Array Oper}{rest:List Nat}{st:Bool}{G:World→Prop}
variable {i d:Nat}{op:Op}{ty:TypeId}{pos:String}{aft:Array Edge}
theorem qCm{l:List Oper}(st:Bool)(is:List Nat)(hm:P.follows .mixedOrders=true)(hn:uP P l.toArray (qEv st)=true)(hl:range l.length=is)(G:World→Prop)(hG:G w.drew)
  (h:wpe P n l.toArray st G is Q F w.drew) (hr:n.ro=none:=by rfl):WP P n (.region id l.toArray true) Q F w:=by
 subst hl;unfold WP;rw[FrK.k8 hr];refine pH.2 (jC3 hm hn G hG ?_);unfold wpe at h;rw[dA] at h;exact h
theorem yZ(h:Q .normal F w):wpe P n ops st G [] Q F w:=⟨F,O,h⟩
theorem wep{r v:Value}(ho:jA ops i=⟨some d,op,ty,pos,aft,none⟩)(he:zC op=false)(hp:∀w,G w→PV P n w F ⟨some d,op,ty,pos,aft,none⟩ r)(hv:r=v)(h:wpe P n ops st G rest Q (F.put d v) w):wpe P n ops st G (i::rest) Q F w:=by
 subst hv;unfold wpe;simp only[bT,wpE];rw[ho,if_neg (by simp[he])];refine⟨r,.inl ⟨by simp[Region.wanted],fun w hw=>?_⟩,?_⟩
 ·rw[zF];exact hp w hw
 rw[zN];exact h
theorem xO(he:zC (jA ops i).op=true)(hf:qCf ops i rest=[])(h:wpb P n ops st G i ((i::rest).filter (· !=i)) Q F w)(hn:Nat.beq ((i::rest).filter (· !=i)).length rest.length=true):wpe P n ops st G (i::rest) Q F w:=by
 unfold wpe;simp only[bT,wpE];rw[if_pos he,hf];intro x hx;have:=by simpa using hx
 subst this;unfold wpb at h;exact mDm
theorem qD7(k:Nat)(he:zC (jA ops i).op=true)(hf:qCf ops i rest=[k])(hn:Nat.beq ((i::rest).filter (· !=i)).length rest.length=true)(zi:Nat.beq ((i::rest).filter (· !=k)).length rest.length=true)
  (h:wpb P n ops st G i ((i::rest).filter (· !=i)) Q F w) (h2:wpb P n ops st G k ((i::rest).filter (· !=k)) Q F w):wpe P n ops st G (i::rest) Q F w:=by
 unfold wpe;simp only[bT,wpE];rw[if_pos he,hf];intro x hx;have:=by simpa using hx
 rcases this with rfl|rfl
 ·unfold wpb at h;exact mDm
 unfold wpb at h2;rw[bF zi] at h2;exact h2
theorem wbs{l:List Nat}{R:Value→World→Prop}(ho:jA ops i=⟨some d,op,ty,pos,aft,none⟩)(hs:StepF P n ⟨some d,op,ty,pos,aft,none⟩ F w R)(h:∀v w',R v w'→G w'∧wpe P n ops st G l Q (F.put d v) w'):wpb P n ops st G i l Q F w:=by
 unfold wpb;rw[ho];refine⟨fun _=>Step.mono hs fun v w' hr=>?_,fun hw=>?_⟩
 ·rw[zN];exact mB5
 exact mDq
end
end Go.Eng
namespace Go.Dig
open List (range range' replicate)
section
variable{b:Nat}{l:List Nat}{n d:Nat}{m:List Nat}{k:Nat}
def val(b:Nat):List Nat→Nat
 |[]=>0
 |d::l=>d+b*val b l
def Bd(b:Nat)(l:List Nat):Prop:=∀d∈l,d<b
theorem Bd.nil:Bd b []:=by intro d h;cases h
theorem Bd.cons(h:d<b)(hl:Bd b l):Bd b (d::l):=by
 intro x hx;rcases bE.1 hx with rfl|hx
 ·exact h
 exact hl x hx
theorem Bd.head(h:Bd b (d::l)):d<b:=h d O4
theorem Bd.tail(h:Bd b (d::l)):Bd b l:=fun x hx=>h x (by simp[hx])
theorem Bd.aA1(h:Bd b l)(h2:Bd b m):Bd b (l++m):=by
 intro x hx;rcases fO.1 hx with hx|hx
 ·exact h x hx
 exact h2 x hx
theorem Bd.left(h:Bd b (l++m)):Bd b l:=fun x hx=>h x (by simp[hx])
theorem Bd.right(h:Bd b (l++m)):Bd b m:=fun x hx=>h x (by simp[hx])
theorem Bd.get{i:Nat}(h:Bd b l)(hi:i<l.length):l[i]<b:=h _ (bX hi)
theorem Bd.take{b:Nat}{l:List Nat}(h:Bd b l)(i:Nat):Bd b (l.take i):=fun x hx=>h x (gF hx)
theorem Bd.drop{b:Nat}{l:List Nat}(h:Bd b l)(i:Nat):Bd b (l.drop i):=fun x hx=>h x (List.mem_of_mem_drop hx)
theorem Bd.set{b i d:Nat}{l:List Nat}(h:Bd b l)(hd:d<b):Bd b (l.set i d):=by
 intro x hx;rcases sAy hx with hx|hx
 ·exact h x hx
 omega
theorem vT(b:Nat)(l m:List Nat):val b (l++m)=val b l+b^l.length*val b m:=by
 induction l with
 |nil=>simp[val]
 |cons d l ih=>
  simp[mG,val,ih,bT,dD];grind
theorem qDv(b d:Nat):val b [d]=d:=by simp[val]
theorem kK(h:Bd b l):val b l<b^l.length:=by
 induction l with
 |nil=>simp[val]
 |cons d l ih=>
  have h1:=ih h.tail;have h2:=h.head;simp only[val,bT,dD];have h3:b*(_+1)≤_:=dK b h1;grind
theorem qD8(b n:Nat):val b (replicate n 0)=0:=by
 induction n with
 |zero=>rfl
 |succ n ih=>rw[sZ,val,ih];simp
theorem wS(hb:0<b)(n:Nat):Bd b (replicate n 0):=by
 intro d hd;grind
theorem qAz(b:Nat)(l:List Nat)(i:Nat)(hi:i≤l.length):val b l=val b (l.take i)+b^i*val b (l.drop i):=by
 have h:=vT b (l.take i) (l.drop i);rw[eO,bV,eM hi] at h;exact h
theorem qGv(b:Nat)(l:List Nat)(i:Nat)(hi:i<l.length):val b (l.take (i+1))=val b (l.take i)+b^i*l[i]:=by
 rw[aG,vT,bV,eM O1,qDv]
theorem qFw(b:Nat)(l:List Nat)(i d:Nat)(hi:i<l.length):val b (l.set i d)+b^i*l[i]=val b l+b^i*d:=by
 induction l generalizing i with
 |nil=>grind
 |cons x l ih=>
  cases i with
  |zero=>simp[val];omega
  |succ i=>
   simp[List.set_cons_succ,val,pX,dD];grind
def dg(b n:Nat):Nat→List Nat
 |0=>[]
 |m+1=>n%b::dg b (n/b) m
theorem qAw(b m:Nat):∀n,(dg b n m).length=m:=by
 induction m with
 |zero=>intro n;rfl
 |succ m ih=>simp[dg,ih]
theorem qK6(hb:0<b)(m:Nat):∀n,Bd b (dg b n m):=by
 induction m with
 |zero=>intro n;exact .nil
 |succ m ih=>intro n;exact .cons (dG _ hb) (ih _)
theorem qN0(b m:Nat):∀n,val b (dg b n m)=n%b^m:=by
 induction m with
 |zero=>simp[dg,val,mC]
 |succ m ih=>
  intro n;simp[dg,val,ih,dD];rw[bW _ b,Nat.mod_mul]
theorem qIn(h:d<b):(d+b*n)%b=d∧(d+b*n)/b=n:=by
 have hb:0<b:=O1;exact⟨by rw[iE,aN h],by rw[mS _ _ hb,eJ h,fH]⟩
theorem wP(h:Bd b l):l=dg b (val b l) l.length:=by
 induction l with
 |nil=>rfl
 |cons d l ih=>
  simp only[val,bT,dg];rw[(qIn h.head).1,(qIn h.head).2,←ih h.tail]
theorem qJh(b m:Nat):∀n i,i<m→(dg b n m)[i]? =some (n/b^i%b):=by
 induction m with
 |zero=>omega
 |succ m ih=>
  intro n i h;cases i with
  |zero=>simp[dg]
  |succ i=>
   simp[dg,List.getElem?_cons_succ];rw[ih _ i O1,dM,dD,bW]
def kO(l:List Nat):List Nat:=(l.reverse.dropWhile (·==0)).reverse
theorem qEy(l:List Nat):kO (l++[0])=kO l:=by
 simp[kO]
theorem qH9(h:d≠0):kO (l++[d])=l++[d]:=by
 simp[kO,h]
def qMz(b:Nat):Nat→Nat→List Nat
 |0,_=>[]
 |k+1,n=>if n=0 then[] else n%b::qMz b k (n/b)
def jY(b n:Nat):List Nat:=qMz b n n
theorem jHa(hb:1<b):∀(n k m:Nat),n≤k→n≤m→qMz b k n=qMz b m n:=by
 intro n;induction n using Nat.strongRecOn with
 |_ n ih=>
  intro k m hk hm;by_cases h:n=0
  ·subst h;cases k<;>cases m<;>simp[qMz]
  obtain⟨k,rfl⟩:∃k',k=k'+1:=⟨k-1,O1⟩;obtain⟨m,rfl⟩:∃m',m=m'+1:=⟨m-1,O1⟩;simp only[qMz,if_neg h];have hl:=pC (Nat.pos_of_ne_zero h) hb;grind
theorem qBo(b:Nat):jY b 0=[]:=O
section
variable {b:Nat}(hb:1<b)
include hb
theorem qFn(h:n≠0):jY b n=n%b::jY b (n/b):=by
 obtain⟨k,rfl⟩:∃k,n=k+1:=⟨n-1,O1⟩;unfold jY;simp only[qMz,if_neg h];have hl:=pC (Nat.pos_of_ne_zero h) hb;rw[jHa hb _ k _ O1 (bM _)]
theorem yX(n:Nat):val b (jY b n)=n:=by
 induction n using Nat.strongRecOn with
 |_ n ih=>
  by_cases h:n=0
  ·subst h;rfl
  rw[qFn hb h,val,ih _ (pC O1 hb)];exact Nat.mod_add_div n b
theorem vQ(n:Nat):Bd b (jY b n):=by
 induction n using Nat.strongRecOn with
 |_ n ih=>
  by_cases h:n=0
  ·subst h;exact .nil
  rw[qFn hb h];exact .cons (dG _ O1) (ih _ (pC O1 hb))
theorem wO:jY b n=[]↔n=0:=by
 constructor
 ·intro h;have:=yX hb n;rw[h] at this;exact this.symm
 rintro rfl;rfl
theorem qGe(n:Nat):∀l d,jY b n=l++[d]→d≠0:=by
 induction n using Nat.strongRecOn with
 |_ n ih=>
  intro l d h;by_cases h0:n=0
  ·subst h0;rw[qBo] at h;simp at h
  rw[qFn hb h0] at h;cases l with
  |nil=>
   simp[lT,sH] at h;obtain⟨h1,h2⟩:=h;have h3:=(wO hb).1 h2;have h5:n<b:=by
    rcases Nat.div_eq_zero_iff.1 h3 with h6|h6
    ·omega
    exact h6
   rw[←h1,aN h5];exact h0
  |cons x l=>
   simp[mG,sH] at h;exact ih _ (pC O1 hb) l d h.2
theorem jL3(h:Bd b l)(hl:∀m d,l=m++[d]→d≠0):l=jY b (val b l):=by
 induction l with
 |nil=>rfl
 |cons d l ih=>
  have hg:∀m e,l=m++[e]→e≠0:=fun m e he=>hl (d::m) e (by grind)
  have xr:d+b*val b l≠0:=by
   intro h0;have hd:d=0:=O1;have hv:val b l=0:=by
    have:b*val b l=0:=O1;rcases Nat.mul_eq_zero.1 this with h2|h2
    ·omega
    exact h2
   cases hl2:l with
   |nil=>
    subst hl2;exact hl [] d O hd
   |cons x t=>
    have:=ih h.tail hg;rw[hv,qBo,hl2] at this;grind
  rw[val,qFn hb xr,(qIn h.head).1,(qIn h.head).2,←ih h.tail hg]
omit hb in
theorem qHb{α:Type}(l:List α):l=[]∨∃m d,l=m++[d]:=by
 rcases iV l with h|⟨m,d,h⟩
 ·grind
 grind
theorem qDw:Bd b l→kO l=jY b (val b l):=by
 intro h;generalize hn:l.length=n;induction n generalizing l with
 |zero=>
  have:=aZ hn;subst this;rfl
 |succ n ih=>
  rcases qHb l with rfl|⟨m,d,rfl⟩
  ·grind
  by_cases hd:d=0
  ·subst hd;rw[qEy,ih h.left (by grind),vT];simp[val]
  rw[qH9 hd];refine jL3 hb h ?_;intro m' d' e;have:=List.append_inj' e O;grind
theorem qBa{x y:Nat}(h:(jY b x).length<(jY b y).length):x<y:=by
 rcases qHb (jY b y) with hy|⟨m,d,hy⟩
 ·grind
 have h1:=kK (vQ hb x);rw[yX hb] at h1;have h2:=yX hb y;rw[hy,vT] at h2;have h3:=qGe hb y m d hy;have h4:(jY b x).length≤m.length:=by rw[hy] at h;simp at h;omega
 have h5:_≤b^_:=aR O1 h4;have h6:_*1≤b^m.length*val b [d]:=dK _ (by simp[val];omega);omega
theorem vI(h:(jY b n).length≤k):n<b^k:=by
 have h1:=kK (vQ hb n);rw[yX hb] at h1;exact cJ h1 (aR O1 h)
theorem qAs(h:n<b^k):(jY b n).length≤k:=by
 induction k generalizing n with
 |zero=>
  have:=by simpa using h
  subst this;simp[qBo]
 |succ k ih=>
  by_cases h0:n=0
  ·grind
  rw[qFn hb h0,bT];have:n/b<b^k:=by
   rw[dU O1];rwa[dD] at h
  grind
theorem jIw{m:Nat}(h:n<b^m):kO (dg b n m)=jY b n:=by
 rw[qDw hb (qK6 O1 m n),qN0,aN h]
end
end
variable{b i y x n c V z c' d:Nat}
theorem yV(b n i:Nat):n%b^(i+1)=n%b^i+b^i*(n/b^i%b):=Nat.mod_pow_succ
theorem qMy(hb:1<b)(hi:i<(jY b n).length):(jY b n)[i]=n/b^i%b:=by
 have h1:=by
  have:=wP (vQ hb n);rwa[yX hb] at this
 have h2:=qJh b _ n i hi;grind
theorem qK5(hb:1<b)(hi:(jY b n).length≤i):n/b^i%b=0:=by
 rw[eJ (vI hb hi),oL]
theorem qNh(h:V+c*b^i=x%b^i+y%b^i)(hz:z+b*c'=c+x/b^i%b+y/b^i%b):(V+b^i*z)+c'*b^(i+1)=x%b^(i+1)+y%b^(i+1):=by
 rw[yV,yV,dD];grind
theorem qDd(h:V+y%b^i=x%b^i+c*b^i)(hz:z+c+y/b^i%b=x/b^i%b+b*c'):(V+b^i*z)+y%b^(i+1)=x%b^(i+1)+c'*b^(i+1):=by
 rw[yV,yV,dD];grind
theorem qXb(h:V+y%b^n=x%b^n+c*b^n)(hx:x<b^n)(hy:y≤x)(hV:V<b^n):V=x-y:=by
 rw[aN hx,aN O1] at h;cases c with
 |zero=>omega
 |succ c=>
  grind
theorem qZi(h:∀j,i<j→x/b^j%b=y/b^j%b)(hb:0<b)(hx:x<b^n)(hy:y<b^n):x/b^(i+1)=y/b^(i+1):=by
 have up:∀m,∀j,i+1≤j→j+m=max n (i+1)→x/b^j=y/b^j:=by
  intro m;induction m with
  |zero=>
   intro j hj hm;have fm:n≤j:=O1;have h1:=cJ hx (aR hb fm);have h2:=cJ hy (aR hb fm);rw[eJ h1,eJ h2]
  |succ m ih=>
   intro j hj hm;have h1:=ih (j+1) O1 O1;have h2:=h j O1;rw[←fV (x/b^j) b,←fV (y/b^j) b,dM,dM,←dD,h1,h2]
 exact up (max n (i+1)-(i+1)) _ O1 O1
theorem qB9(b x i:Nat):x/b^i=b*(x/b^(i+1))+x/b^i%b:=by
 rw[dD,←dM];exact(fV _ _).symm
theorem qCs(hb:0<b)(h:x/b^(i+1)=y/b^(i+1))(hd:x/b^i%b<y/b^i%b):x<y:=by
 have h1:x/b^i<y/b^i:=by
  rw[qB9 b x i,qB9 b y i,h];omega
 have hp:0<b^i:=gJ hb;have h2:=oY y (b^i);have h3:=sU x hp;have h4:b^i*(_+1)≤_:=dK _ h1;grind
theorem jEe{V' j old P:Nat}(h:V+c*b^(i+j)=P+d*(y%b^j)*b^i)(hz:z+b*c'=c+d*(y/b^j%b)+old)(hs:V'+b^(i+j)*old=V+b^(i+j)*z):
  V'+c'*b^(i+(j+1))=P+d*(y%b^(j+1))*b^i:=by
 rw[yV];grind
theorem jK4:x%b^(i+1)*y=x%b^i*y+(x/b^i%b)*y*b^i:=by
 rw[yV,fE];grind
theorem jK5{e o:Nat}(hc:c<b)(hd:d<b)(he:e<b)(ho:o<b):c+d*e+o<b*b:=by
 have h1:d*e≤(b-1)*(b-1):=cF O1 O1;obtain⟨m,rfl⟩:∃m,b=m+1:=⟨b-1,O1⟩;grind
theorem qSn{l:List Nat}(hb:0<b){k:Nat}(hv:val b l<b^k)(hi:i<l.length)(xf:k≤i):l[i]=0:=by
 have h1:=qAz b l i O1;have h2:=aX hi;rw[h2,val,iC] at h1;have h3:=aR hb xf;by_cases h4:l[i]=0
 ·exact h4
 have h5:b^i*1≤b^i*l[i]:=dK _ O1;omega
def ofN(n:Nat):ByteArray:=⟨((jY 256 n).reverse.map UInt8.ofNat).toArray⟩
theorem qI9(n:Nat):(ofN n).size=(jY 256 n).length:=by
 show(((jY 256 n).reverse.map UInt8.ofNat).toArray).size=_
 simp
theorem qI8:ofN 0=⟨#[]⟩:=O
theorem qQx{m:Nat}(h:ofN m=ofN n):m=n:=by
 have h1:(jY 256 m).reverse.map UInt8.ofNat=(jY 256 n).reverse.map UInt8.ofNat:=by
  have:=aQ (fun a:ByteArray=>a.data.toList) h;simpa[ofN] using this
 have key:∀k,((jY 256 k).reverse.map UInt8.ofNat).map UInt8.toNat=(jY 256 k).reverse:=by
  intro k;rw[iP]
  conv=>rhs;rw[←sBs (jY 256 k).reverse]
  apply lV;intro d hd;have hg:d<256:=vQ O2 k d (by grind);simp;omega
 have h2:=aQ (List.map UInt8.toNat) h1;rw[key,key] at h2;have h3:=List.reverse_inj.1 h2;have:=aQ (val 256) h3;rwa[yX O2,yX O2] at this
end Go.Dig
namespace Go.Proofs.YtplkndjlfkkjlaaGreatDoor
open List (range range' replicate)
open Tryz
section
open Go.Eng Go.Dig
variable{t:Nat}{q:IntKind}{t' a:Nat}{k:IntKind}
section
variable {n:Nat}{F:Fr}{w:World}{d:Option Tmp}{ty:TypeId}{pos:String}{aft:Array Edge}{g:Option (Nat×Bool)}{x y:Operand}
theorem qVu{e k m c h:Nat}{s:Option Addr}(ht:qDg t=some (e,k))(hx:ev n F x= .slice s m c)(hy:ev n F y= .int q h)(hh:h≤c):
  PV Tryz.prog n w F ⟨d,.slice t x none (some y) none,ty,pos,aft,g⟩ (.slice s h c):=qC0 (zK ht).1 (zK ht).2 hx hy hh
theorem kD(h:qFh t=some q)(h':qFh t'=some .u64)(hx:ev n F x= .int .u32 (a:Int))(ha:a<4294967296):PV Tryz.prog n w F ⟨d,.convert t t' x,ty,pos,aft,g⟩ (.int .u64 (a:Int)):=by
 have:=zX (w:=w) (d:=d) (ty:=ty) (pos:=pos) (aft:=aft) (g:=g) h h' hx;rwa[wU O1] at this
theorem vB(h:qFh t=some q)(h':qFh t'=some .u32)(hx:ev n F x= .int k (a:Int)):PV Tryz.prog n w F ⟨d,.convert t t' x,ty,pos,aft,g⟩ (.int .u32 ((a%4294967296:Nat):Int)):=by
 have:=zX (w:=w) (d:=d) (ty:=ty) (pos:=pos) (aft:=aft) (g:=g) h h' hx;rwa[qPt] at this
theorem kC(h:qFh t=some q)(h':qFh t'=some .u8)(hx:ev n F x= .int k (a:Int)):PV Tryz.prog n w F ⟨d,.convert t t' x,ty,pos,aft,g⟩ (.int .u8 ((a%256:Nat):Int)):=by
 have:=zX (w:=w) (d:=d) (ty:=ty) (pos:=pos) (aft:=aft) (g:=g) h h' hx;rwa[jNo] at this
end
attribute [local irreducible] PV StepF wpl wpd WP Ret
def eW(d:Nat):List Value:=[.int .u32 (d:Int)]
theorem uM(l:List Nat):kO l<+:l:=by
 unfold kO;have h:=List.dropWhile_suffix (l:=l.reverse) (·==0);grind
theorem c66(l:List Nat)(s:Option Addr)(c:Nat)(w:World)(hc:l.length≤c)(hm:c≤maxLen)(hs:SlAt w 1 eW s l):
  Rk 132 [.slice s l.length c] w (.slice s (kO l).length c):=by
 have qa:c≤9223372036854775807:=by unfold maxLen at hm;omega
 refine tW func132 ntmps132 fun hp=>?_;refine qA ?_;refine qQ [0,3,4,5,6,7,8,9,10,11,12,13,14,15,16,17,18,19] (fun k F=>F.put 0 (.slice s k c)) (fun k w'=>k≤l.length∧kO (l.take k)=kO l∧Hp w [] w' []) (fun k=>k) _ (qB (Same.eq .refl) O) ⟨O1,O4,hp⟩ ?_;clear hp;rintro u k w1 ⟨hk,ht,hp⟩;rcases dH k with h0|h0
 ·subst h0;refine gAa ?_;refine qM O O ⟨_,O,qGz ?_,hp.C⟩;rw[←ht];rfl
 have hl:k-1<l.length:=O1;have hg:k-1<k:=O1;obtain⟨b0,o0,hs0,yq⟩:=hs.base O1;have yp:=yq _ _ (aA hl) 0 _ O;have e8:=aG hl;rw[show k-1+1=k from by omega] at e8;refine gA4 ?_;refine wlp (xJ O O) (qV (aD O1)) (jL ?_);refine tN (k-1) ?_;refine jL (qH O (fun h=>?_) (fun h=>?_))
 ·have hz:l[k-1]=0:=O1;refine tM (k-1) ?_;refine tR (qVu O O O O1) ?_;refine qA ?_;refine⟨_,qB O5 O,⟨O1,?_,hp⟩,O1⟩;rw[e8,hz,qEy] at ht;exact ht
 have hz:l[k-1]≠0:=O1;refine qA ?_;refine qM O O ⟨_,O,qGz ?_,hp.C⟩;rw[e8,qH9 hz,←e8] at ht;grind
end
section
open Go.Eng Go.Dig
attribute [local irreducible] PV StepF wpl wpd WP Ret
variable{x i:Nat}{w:World}{c:Nat}{s:Option Addr}
def dN(x:Nat):List Nat:=jY 4294967296 x
theorem qK7(x:Nat):Bd 4294967296 (dN x):=vQ O2 x
theorem qA9(h:i<(dN x).length):(dN x)[i]=x/4294967296^i%4294967296:=qMy O2 h
theorem qP8(h:(dN x).length≤i):x/4294967296^i%4294967296=0:=qK5 O2 h
theorem qAh(h:(dN x).length≤i):x<4294967296^i:=vI O2 h
theorem jHh(h:x<4294967296^i):(dN x).length≤i:=qAs O2 h
theorem qKz:dN 0=[]:=O
theorem jHg:dN x=[]↔x=0:=wO O2
theorem qX8{l:List Nat}(h:Bd 4294967296 l):kO l=dN (val 4294967296 l):=qDw O2 h
structure DA(w:World)(x:Nat)(s:Option Addr)(c:Nat):Prop where
 cap:(dN x).length≤c
 max:c≤maxLen
 at_:SlAt w 1 eW s (dN x)
theorem DA.j5{w':World}(h:DA w x s c)(hk:Keeps [] w w'):DA w' x s c:=⟨h.cap,h.max,h.at_.j6 hk⟩
theorem DA.zero(w:World):DA w 0 none 0:=⟨by simp[qKz],O4,by intro i x hx;simp[qKz] at hx⟩
theorem DA.len(h:DA w x s c):(dN x).length≤9223372036854775807:=by
 have h1:=h.cap;have h2:=h.max;unfold maxLen at h2;omega
theorem qWu{w0:World}{z:List Nat}{g:Nat}(hp:Hp w0 [] w [qG eW 208 1 (Ad g) c z])(hv:SVL (Ad g) c z)(hc:c≤maxLen)(hb:Bd 4294967296 z)(hx:val 4294967296 z=x):
  Rt 132 [.slice (Ad g) z.length c] w (fun v w'=>∃s' c',v= .slice s' (dN x).length c'∧DA w' x s' c'∧Keeps [] w0 w'):=by
 have hs:=qZ hp 0 O hv (fun _=>O);refine Ret.mono (c66 z _ c w hv.cap hc hs) ?_;rintro v w' ⟨rfl,hk⟩;have e:kO z=dN x:=by rw[qX8 hb,hx]
 refine⟨_,_,qGz (by rw[e]),⟨?_,hc,?_⟩,hp.C.trans hk O4⟩
 ·rw[←e];exact bL (uM z).length_le hv.cap
 rw[←e];exact(hs.pre (uM z)).j6 hk
theorem qHg{a k d:Nat}(h:a<2^k):a|||(d*2^k)=a+d*2^k:=by
 rw[rV,bW,←sAh h d,oM]
theorem c58(x:Nat)(s:Option Addr)(c:Nat)(w:World)(hx:x<18446744073709551616)(hd:DA w x s c):
  Rk 248 [.slice s (dN x).length c] w (.int .u64 (x:Int)):=by
 have oy:_≤2:=jHh O1;refine tW func248 ntmps248 fun hp=>?_;refine qA ?_;refine qQ [3,4,5,8,9,10,11,12,13,14,15,16,17,18,19,20] (fun(i:Nat) F=>(F.put 3 (.int _ (x%4294967296^i:Nat))).put 8 (.int _ i)) (fun i w'=>i≤(dN x).length∧Hp w [] w' []) (fun i=>(dN x).length-i) 0 (qB (qB (Same.eq .refl) (qF O1)) O) ⟨O1,hp⟩ ?_;clear hp;rintro u i w1 ⟨hi,hp⟩;refine tI (fun h2=>?_) fun h2=>?_
 ·have hl:i<(dN x).length:=O1;obtain⟨b0,o0,hs0,yq⟩:=hd.at_.base O1;have yp:=yq i _ (aA hl) 0 _ O;have h3:=(qK7 x).get hl;have hg:=qA9 hl;generalize (dN x)[i]=di at yp h3 hg;have ea:4294967296^i=2^(32*i):=by rw[iJ]
  have ia:x%4294967296^i<2^(32*i):=by rw[←ea];exact dG _ (gJ O2)
  have hh:x%4294967296^i<_:=bY (rN _ _) hx;have hq:=yV 4294967296 x i;rw[←hg] at hq;have hj:x%4294967296^(i+1)=x%4294967296^i+di*2^(32*i):=by rw[hq,ea,bW (2^(32*i)) di]
  have yw:di*2^(32*i)<18446744073709551616:=by
   have:=rN x (4294967296^(i+1));omega
  refine tM (32*i) (tR (qB7 O O O1 yw) ?_);refine wlp (qG2 O O hh yw) (qF (b:=(x%4294967296^(i+1):Nat)) (by rw[qHg ia,hj])) (tB ?_);refine qA ?_;exact mAd
 refine qA ?_;refine qM O O ⟨_,O,qF ?_,hp.C⟩;rw[aN (qAh O1)]
theorem c39(x:Nat)(w:World)(hx:x<18446744073709551616):
  Rt 65 [.int .u64 (x:Int)] w (fun v w'=>∃s' c',v= .slice s' (dN x).length c'∧DA w' x s' c'∧Keeps [] w w'):=by
 refine tW func65 ntmps65 fun hp=>?_;refine qA ?_;refine wlp (xP O O O2) (qF (b:=(x/4294967296:Nat)) O) (wlp (vB O O O) (qF (b:=(x/4294967296:Nat)) O1) ?_);refine tF (jC hp O O O O O O O) fun w1 nb hp=>?_;have hp:Hp w [] w1 [qG eW 208 1 _ 2 [_,_]]:=hp.rowOf 0 1 2 O O;have hv:SVL _ 2 [x%4294967296,x/4294967296]:=.inr ⟨nb,2,O,bM _,by unfold maxLen;omega⟩;have hb:Bd 4294967296 [x%4294967296,x/4294967296]:=.cons O1 (.cons O1 .nil);refine tK (qWu hp hv (by unfold maxLen;omega) hb (x:=x) (by simp only[val];omega)) ?_;rintro _ w2 ⟨s',c',rfl,hd,hk⟩;refine tV ?_;exact⟨_,O,s',c',O,hd,hk⟩
theorem c71(x y:Nat)(s s2:Option Addr)(c c2:Nat)(w:World)(hx:DA w x s c)(hy:DA w y s2 c2):
  Rk 73 [.slice s (dN x).length c,.slice s2 (dN y).length c2] w (Iv (if x<y then-1 else if x=y then 0 else 1)):=by
 have um:=hx.len;refine tW func73 ntmps73 fun hp=>?_;refine qA (xI O (fun h=>?_) (fun h=>?_))
 ·refine tI (fun h2=>?_) fun h2=>?_
  ·have hl:=qBa (b:=4294967296) O2 (by
    have:(dN x).length<(dN y).length:=O1
    exact this)
   exact mBd
  have hl:=qBa (b:=4294967296) O2 (by
   have:(dN y).length<(dN x).length:=O1
   exact this)
  exact mBd
 refine gA0 ?_;refine qQ [4,5,19,20,21,22,23,24,25,26,27,28,29,30,31,32,33,34,35,36,37,38,39,40] (fun(i:Nat) F=>F.put 5 (.int _ (i-1))) (fun i w'=>i≤(dN x).length∧x/4294967296^i=y/4294967296^i∧Hp w [] w' []) (fun i=>i) _ (qB (Same.eq .refl) O) ⟨O1,?_,hp⟩ ?_
 ·rw[eJ (qAh O1),eJ (qAh O1)]
 clear hp;rintro u i w1 ⟨hi,he,hp⟩;refine tI (fun h2=>?_) fun h2=>?_
 ·obtain⟨j,rfl⟩:∃j,i=j+1:=⟨i-1,O1⟩;have hl:j<(dN x).length:=O1;have zj:j<(dN y).length:=O1;obtain⟨b0,o0,hs0,yq⟩:=hx.at_.base O1;have yp:=yq j _ (aA hl) 0 _ O;obtain⟨b1,o1,hq,sY⟩:=hy.at_.base O1;have zu:=sY j _ (aA zj) 0 _ O;have hg:=qA9 hl;have zt:=qA9 zj;generalize (dN x)[j]=dx at yp hg;generalize (dN y)[j]=dy at zu zt;have ej:(j+1:Nat)-1=(j:Int):=O1;rw[ej];refine qR ?_;refine tX fun hp=>?_;refine qX (qU ?_);refine qA (xI O (fun h=>?_) (fun h=>?_))
  ·refine qR ?_;refine tX fun hp=>?_;refine qX (qU ?_);refine tI (fun h3=>?_) fun h3=>?_
   ·have hh:=qCs O2 he O1;exact mBd
   have hh:=qCs O2 he.symm O1;exact mBd
  refine gA0 ?_;refine⟨j,qB O5 O,⟨O1,?_,hp⟩,O1⟩;rw[qB9,qB9 4294967296 y j,he,←hg,←zt];omega
 obtain rfl:i=0:=O1;have ft:=by simpa using he
 exact mBd
end
section
open Go.Eng Go.Dig
variable{l:List Nat}{i d:Nat}
section
variable {n:Nat}{w0 w:World}{M:List Nat}{L:List Ent}{F:Fr}{d:Option Tmp}{ty:TypeId}{pos:String}{aft:Array Edge}{g:Option (Nat×Bool)}{x y:Operand}
theorem yE{α:Type}(enc:α→List Value)(x0:α){t e ba m:Nat}{kl kc:IntKind}{z:Value}(hp:Hp w0 M w L)(ht:qDg t=some (e,1))(hz:wT e=some z)(x3:qEh e=some ba)
  (hx:ev n F x= .int kl m) (hy:ev n F y= .int kc m) (hj:enc x0=[z]) (h1:kM z=true) (hm:(ba+1)*m<281000000000000) (hb:Nat.ble ba 1000=true):
  StepF Tryz.prog n ⟨d,.makeSlice t x y,ty,pos,aft,g⟩ F w (fun u w'=>∃b,u= .slice (Ad b) m m∧SVL (Ad b) m (replicate m x0)∧Hp w0 M w' (qG enc e 1 (Ad b) m (replicate m x0)::L)):=
 jCo _ x0 hp (zK ht).1 (zK ht).2 (qJ hz) (qBp x3) hx hy hj h1 hm hb
end
theorem take_set(h:i<l.length):(l.set i d).take (i+1)=l.take i++[d]:=by
 rw[aG (by grind),rS];congr 1
 ·rw[mY (by grind)]
 simp
theorem yM{b:Nat}(h:i<l.length):val b ((l.set i d).take (i+1))=val b (l.take i)+b^i*d:=by
 rw[take_set h,vT,bV,eM O1,qDv]
attribute [local irreducible] PV StepF wpl wpd WP Ret
theorem c44(x y:Nat)(s s2:Option Addr)(c c2:Nat)(w:World)(hx:DA w x s c)(hy:DA w y s2 c2)(um:(dN x).length≤10000000000000)(un:(dN y).length≤10000000000000):
  Rt 122 [.slice s (dN x).length c,.slice s2 (dN y).length c2] w (fun v w'=>∃s' c',v= .slice s' (dN (x+y)).length c'∧DA w' (x+y) s' c'∧Keeps [] w w'):=by
 refine tW func122 ntmps122 fun hp=>?_;refine qA (qAy (fun F w1=>∃x' y' s s2 c c2,x'+y'=x+y∧(dN y').length≤(dN x').length∧(dN x').length≤10000000000000∧DA w x' s c∧DA w y' s2 c2∧Hp w [] w1 []∧qAb F [(0,.slice s (dN x').length c),(1,.slice s2 (dN y').length c2)]) ?_ ?_)
 ·refine qH O (fun h=>?_) (fun h=>?_)
  ·refine qA ?_;exact⟨y,x,s2,s,c2,c,O1,O1,O1,hy,hx,hp,O,O,trivial⟩
  refine qA ?_;exact⟨x,y,s,s2,c,c2,O,O1,O1,hx,hy,hp,O,O,trivial⟩
 clear hp hx hy um un;rintro F w1 ⟨x',y',s,s2,c,c2,ft,yw,um,hx,hy,hp,hF⟩;rw[←ft];have hj:(dN x').length<(dN x').length+1:=O1;refine yL _ hF ?_;intro F0;clear hF;refine tM ((dN x').length+1) ?_;refine tF (yE eW 0 hp O O O O O O O O1 O) fun w2 g⟨hv,hp⟩=>qA (kS [6,7,21,22,23,24,25,26,27,28,29,30,31,32,33,34,35,36,37,38,39,40,41,42,43,44,45,46,47,48,49] (fun(i cy:Nat) z F=>(F.put 21 (.int _ i)).put 6 (.int _ cy))
  (fun i cy z w'=>i≤(dN x').length∧z.length=(dN x').length+1∧Bd 4294967296 z∧cy<2∧val 4294967296 (z.take i)+cy*4294967296^i=x'%4294967296^i+y'%4294967296^i∧SVL _ _ z∧Hp w [] w' [qG eW 208 1 _ _ z])
  (fun i _ _=>(dN x').length-i) 0 0 _ (qB (qB (Same.eq .refl) O) O) ⟨O1,O4,wS O2 _,O1,by simp[val,mC],hv,hp⟩ ?_)
 clear hp hv;rintro u i cy z w3 ⟨hi,x2,x1,si,x0,hv,hp⟩;refine tI (fun h2=>?_) fun h2=>?_
 ·have hl:i<(dN x').length:=O1;have zm:i<(dN x').length+1:=O1;have xz:i<z.length:=O1;obtain⟨b0,o0,hs0,yq⟩:=hx.at_.base O1;have yp:=yq i _ (aA hl) 0 _ O;have hh:=(qK7 x').get hl;have hg:=qA9 hl;generalize (dN x')[i]=dx at yp hh hg;refine gAb ?_;refine qA ?_;obtain⟨dy,fc,fj⟩:∃dy,dy=y'/4294967296^i%4294967296∧dy<4294967296:=⟨_,O,dG _ O2⟩;refine qH O (fun h3=>?_) (fun h3=>?_)
  ·have fe:i<(dN y').length:=O1;obtain⟨b1,o1,hq,sY⟩:=hy.at_.base O1;have zu:=sY i _ (aA fe) 0 _ O;have zt:=qA9 fe;rw[←fc] at zt;rw[zt] at zu;refine gAb ?_;refine qA (tO (zL eW z i _ hp 0 O hv xz O O (fun _=>O) O O (qD O)) fun w4 hp=>?_);refine gAc ?_;refine⟨i+1,_,_,qB O5 O,⟨O1,?_,?_,?_,?_,hv.set _ _,hp⟩,O1⟩
   ·grind
   ·exact x1.set O1
   ·omega
   rw[yM xz];exact qNh x0 O1
  have fh:dy=0:=by rw[fc];exact qP8 O1
  refine qA (tO (zL eW z i _ hp 0 O hv xz O O (fun _=>O) O O (qD O)) fun w4 hp=>?_);refine gAc ?_;refine⟨i+1,_,_,qB O5 O,⟨O1,?_,?_,?_,?_,hv.set _ _,hp⟩,O1⟩
  ·grind
  ·exact x1.set O1
  ·omega
  rw[yM xz];exact qNh x0 O1
 obtain rfl:i=(dN x').length:=O1;have xz:(dN x').length<z.length:=O1;refine qA (tO (zL eW z _ _ hp 0 O hv xz O O (fun _=>O) O O (qD O)) fun w4 hp=>?_);have hv:=hv.set (dN x').length (cy%4294967296);have hb:Bd 4294967296 (z.set (dN x').length (cy%4294967296)):=x1.set O1;have hV:val 4294967296 (z.set (dN x').length (cy%4294967296))=x'+y':=by
  have h1:=yM (b:=4294967296) (d:=cy%4294967296) xz;rw[bR (by grind)] at h1;rw[h1,aN (show cy<4294967296 by omega),bW,x0,aN (qAh (bM _)),aN (qAh yw)]
 refine qA ?_;refine tFb (qC O qFm (by rw[fZ,x2];rfl) (qWu hp hv (by unfold maxLen;omega) hb hV)) fun w2 s' c'⟨hd,hk⟩=>tV ?_;exact⟨_,O,s',c',O,hd,hk⟩
theorem c72(x y:Nat)(s s2:Option Addr)(c c2:Nat)(w:World)(hx:DA w x s c)(hy:DA w y s2 c2)(um:(dN x).length≤10000000000000)(fg:y≤x):
  Rt 176 [.slice s (dN x).length c,.slice s2 (dN y).length c2] w (fun v w'=>∃s' c',v= .slice s' (dN (x-y)).length c'∧DA w' (x-y) s' c'∧Keeps [] w w'):=by
 have un:=hy.len;refine tW func176 ntmps176 fun hp=>?_;refine qA ?_;refine tF (yE eW 0 hp O O O O O O O O1 O) fun w2 g⟨hv,hp⟩=>qA (kS [6,7,8,14,15,16,17,18,19,20,21,22,23,24,25,26,27,28,29,30,31,32,33,34,35,36,37,38,39,40,41,42] (fun(i cy:Nat) z F=>(F.put 14 (.int _ i)).put 6 (.int _ cy))
  (fun i cy z w'=>i≤(dN x).length∧z.length=(dN x).length∧Bd 4294967296 z∧cy<2∧val 4294967296 (z.take i)+y%4294967296^i=x%4294967296^i+cy*4294967296^i∧SVL _ _ z∧Hp w [] w' [qG eW 208 1 _ _ z])
  (fun i _ _=>(dN x).length-i) 0 0 _ (qB (qB (Same.eq .refl) O) O) ⟨O1,O4,wS O2 _,O1,by simp[val,mC],hv,hp⟩ ?_)
 clear hp hv;rintro u i cy z w3 ⟨hi,x2,x1,si,x0,hv,hp⟩;refine tI (fun h2=>?_) fun h2=>?_
 ·have hl:i<(dN x).length:=O1;have xz:i<z.length:=O1;obtain⟨b0,o0,hs0,yq⟩:=hx.at_.base O1;have yp:=yq i _ (aA hl) 0 _ O;have hh:=(qK7 x).get hl;have hg:=qA9 hl;generalize (dN x)[i]=dx at yp hh hg;refine qA ?_;refine tR (qA6 O O O1) ?_;refine qA ?_;obtain⟨dy,fc,fj⟩:∃dy,dy=y/4294967296^i%4294967296∧dy<4294967296:=⟨_,O,dG _ O2⟩;refine qH O (fun h3=>?_) (fun h3=>?_)
  ·have fe:i<(dN y).length:=O1;obtain⟨b1,o1,hq,sY⟩:=hy.at_.base O1;have zu:=sY i _ (aA fe) 0 _ O;have zt:=qA9 fe;rw[←fc] at zt;rw[zt] at zu;refine qA ?_;refine tR (qA6 O O O1) ?_;refine qA (tO (zL eW z i _ hp 0 O hv xz O O (fun _=>O) O O (qD O)) fun w4 hp=>?_);refine qA ?_;refine tR (xP (b:=63) O O O2) ?_;refine gA0 ?_;refine⟨i+1,_,_,qB O5 O,⟨O1,?_,?_,?_,?_,hv.set _ _,hp⟩,O1⟩
   ·grind
   ·exact x1.set O1
   ·unfold qGq;omega
   rw[yM xz];exact qDd x0 (by unfold qGq;omega)
  have fh:dy=0:=by rw[fc];exact qP8 O1
  refine qA (tO (zL eW z i _ hp 0 O hv xz O O (fun _=>O) O O (qD O)) fun w4 hp=>?_);refine qA ?_;refine tR (xP (b:=63) O O O2) ?_;refine gA0 ?_;refine⟨i+1,_,_,qB O5 O,⟨O1,?_,?_,?_,?_,hv.set _ _,hp⟩,O1⟩
  ·grind
  ·exact x1.set O1
  ·unfold qGq;omega
  rw[yM xz];exact qDd x0 (by unfold qGq;omega)
 obtain rfl:i=(dN x).length:=O1;have hV:=by
  rw[bR O1] at x0;refine qXb x0 (qAh (bM _)) fg ?_;have:=kK x1;rwa[x2] at this
 refine qA ?_;refine tFb (qC O qFm (by rw[x2];rfl) (qWu hp hv (by unfold maxLen;omega) x1 hV)) fun w2 s' c'⟨hd,hk⟩=>tV ?_;exact⟨_,O,s',c',O,hd,hk⟩
end
section
open Go.Eng Go.Dig
attribute [local irreducible] PV StepF wpl wpd WP Ret
theorem c46(x y:Nat)(s s2:Option Addr)(c c2:Nat)(w:World)(hx:DA w x s c)(hy:DA w y s2 c2)(um:(dN x).length≤10000000000000)(un:(dN y).length≤10000000000000):
  Rt 143 [.slice s (dN x).length c,.slice s2 (dN y).length c2] w (fun v w'=>∃s' c',v= .slice s' (dN (x*y)).length c'∧DA w' (x*y) s' c'∧Keeps [] w w'):=by
 refine tW func143 ntmps143 fun hp=>?_;refine tM ((dN x).length+(dN y).length) ?_;refine tF (yE eW 0 hp O O O O O O O O1 O) fun w2 g⟨hv,hp⟩=>qA (kT [6,7,8,9,10,19,20,21,22,23,24,25,26,27,28,29,30,31,32,33,34,35,36,37,38,39,40,41,42,43,44,45,46,47,48,49,50,51,52,53,54,55,56,57,58,59,60,61,62,63,64] (fun(i:Nat) _z F=>F.put 19 (.int _ i))
  (fun i z w'=>i≤(dN x).length∧z.length=(dN x).length+(dN y).length∧Bd 4294967296 z∧val 4294967296 z=x%4294967296^i*y∧SVL _ _ z∧Hp w [] w' [qG eW 208 1 _ _ z])
  (fun i _=>(dN x).length-i) 0 _ (qB (Same.eq .refl) O) ⟨O1,O4,wS O2 _,by simp[qD8,mC],hv,hp⟩ ?_)
 clear hp hv;rintro u i z w3 ⟨hi,x2,x1,x0,hv,hp⟩;refine tI (fun h2=>?_) fun h2=>?_
 ·have hl:i<(dN x).length:=O1;obtain⟨b0,o0,hs0,yq⟩:=hx.at_.base O1;have yp:=yq i _ (aA hl) 0 _ O;have hh:=(qK7 x).get hl;have hg:=qA9 hl;generalize (dN x)[i]=dx at yp hh hg;have tf:z[i+(dN y).length]? =some 0:=by
   have h1:i+(dN y).length<z.length:=O1;rw[aA h1];congr 1;refine qSn (b:=4294967296) O2 (k:=i+(dN y).length) ?_ h1 (bM _);rw[x0,dW];exact rK (dG _ (gJ O2)) (qAh (bM _))
  refine qA (kS [8,9,10,26,27,28,29,30,31,32,33,34,35,36,37,38,39,40,41,42,43,44,45,46,47,48,49,50,51,52,53,54,55] (fun(j cy:Nat) _z F=>(F.put 26 (.int _ j)).put 8 (.int _ cy))
   (fun j cy z w'=>j≤(dN y).length∧z.length=(dN x).length+(dN y).length∧Bd 4294967296 z∧cy<4294967296∧val 4294967296 z+cy*4294967296^(i+j)=x%4294967296^i*y+dx*(y%4294967296^j)*4294967296^i∧z[i+(dN y).length]? =some 0∧SVL _ _ z∧Hp w [] w' [qG eW 208 1 _ _ z])
   (fun j _ _=>(dN y).length-j) 0 0 z (qB (qB (Same.eq .refl) O) O) ⟨O1,x2,x1,O1,by grind,tf,hv,hp⟩ ?_)
  clear hp hv x2 x1 x0 tf z;rintro u2 j cy z w4 ⟨hj,x2,x1,si,x0,tf,hv,hp⟩;refine tI (fun h3=>?_) fun h3=>?_
  ·have bB:j<(dN y).length:=O1;have nu:i+j<(dN x).length+(dN y).length:=O1;have hm:i+j<z.length:=O1;obtain⟨b1,o1,hq,sY⟩:=hy.at_.base O1;have zu:=sY j _ (aA bB) 0 _ O;have zx:=(qK7 y).get bB;have zt:=qA9 bB;generalize (dN y)[j]=dy at zu zx zt;have yc:=zS hp 0 O hv (fun _=>O) (aA hm) 0 _ O;have yg:=x1.get hm;have hT:=fun d=>qFw 4294967296 z _ d hm
   generalize z[i+j]=old at yc yg hT;have yi:=jK5 si hh zx yg;have hmul:dx*dy<18446744073709551616:=O1;refine qA (tR (qI0 O O hmul) ?_);refine tM (i+j) ?_;refine gAb ?_;refine tR (uU O O O1) ?_;refine tM (i+j) ?_;refine qA (tO (zL eW z _ _ hp 0 O hv hm O O (fun _=>O) O O (qD O)) fun w4 hp=>?_);refine gAc ?_;refine⟨j+1,_,_,qB O5 O,⟨O1,?_,?_,?_,?_,?_,hv.set _ _,hp⟩,O1⟩
   ·grind
   ·exact x1.set O1
   ·omega
   ·exact jEe x0 (by grind) (hT _)
   grind
  obtain rfl:j=(dN y).length:=O1;have nu:i+(dN y).length<(dN x).length+(dN y).length:=O1;have hm:i+(dN y).length<z.length:=O1;refine tM (i+(dN y).length) ?_;refine qA (tO (zL eW z _ _ hp 0 O hv hm O O (fun _=>O) O O (qD O)) fun w4 hp=>?_);refine gA0 ?_;refine⟨i+1,_,qB O5 O,⟨O1,?_,?_,?_,hv.set _ _,hp⟩,O1⟩
  ·grind
  ·exact x1.set O1
  have h1:=qFw 4294967296 z _ (cy%4294967296) hm;have h0:=by
   rw[aA hm] at tf;simpa using tf
  rw[h0,sBh,iF,aN si,bW,x0,aN (qAh (bM _))] at h1;rw[aN si,h1,jK4,←hg]
 rw[aN (qAh O1)] at x0;exact mBe
end
section
open Go.Eng Go.Dig
variable{l:List Nat}{i t:Nat}
def bs(l:List Nat):ByteArray:=⟨(l.map UInt8.ofNat).toArray⟩
theorem qM7(n:Nat):ofN n=bs (jY 256 n).reverse:=O
theorem qIt(l:List Nat):(bs l).size=l.length:=by
 show((l.map UInt8.ofNat).toArray).size=_
 simp
theorem jYa(h:Bd 256 l)(hi:i<l.length):bAt (bs l) i=(l[i]:Int):=by
 have h1:=h.get hi;unfold bAt bs;simp only[dF,aA hi,eC,iH];simp;omega
theorem jLi(l:List Nat)(k:Nat):(bs l).extract k (bs l).size=bs (l.drop k):=by
 apply ByteArray.ext;rw[ByteArray.data_extract,qIt];simp[bs];rw[bR O4]
theorem jTs:bs l=⟨#[]⟩↔l=[]:=by
 constructor
 ·intro h;have:=aQ ByteArray.size h;rw[qIt] at this;exact aZ this
 rintro rfl;rfl
theorem qRx(ns:List Int):∀r:ByteArray,(ns.foldl (fun r n=>r.push (UInt8.ofNat n.toNat)) r).data=r.data++(ns.map fun n=>UInt8.ofNat n.toNat).toArray:=by
 induction ns with
 |nil=>simp
 |cons n ns ih=>
  intro r;rw[iO,ih,ByteArray.data_push];simp
theorem qN8(l:List Nat):kN (l.map fun(d:Nat)=>(d:Int))=bs l:=by
 apply ByteArray.ext;unfold kN;rw[qRx];simp[bs]
theorem qHu{x m:Nat}(h:x<256^m):(dg 256 x m).reverse.dropWhile (·==0)=(jY 256 x).reverse:=by
 rw[←jIw O2 h];simp[kO]
section
variable {n:Nat}{F:Fr}{w:World}{d:Option Tmp}{ty:TypeId}{pos:String}{aft:Array Edge}{g:Option (Nat×Bool)}{x y:Operand}
theorem qLz{k:Nat}{q:IntKind}(ht:qGy t=true)(hx:ev n F x= .string (bs l))(hy:ev n F y= .int q k)(hl:k≤l.length):
  PV Tryz.prog n w F ⟨d,.slice t x (some y) none none,ty,pos,aft,g⟩ (.string (bs (l.drop k))):=by
 rw[←jLi];exact qT4 (wV ht) hx hy (by rw[qIt];exact hl)
theorem qM0{k:IntKind}(h:qGy t=true)(hx:ev n F x= .string (bs l))(hy:ev n F y= .int k i)(hb:Bd 256 l)(hi:i<l.length):PV Tryz.prog n w F ⟨d,.index t x y,ty,pos,aft,g⟩ (.int .u8 (l[i]:Int)):=by
 rw[←jYa hb hi];exact zY h hx hy (by rw[qIt];exact hi)
theorem qA7{q p:Nat}(h:qGy p=true)(hx:ev n F x= .string (bs l)):PV Tryz.prog n w F ⟨d,.call ⟨.builtin .len,#[x],#[p]⟩,q,pos,aft,g⟩ (Iv l.length):=by
 have:=uZ (q:=q) (w:=w) (d:=d) (pos:=pos) (aft:=aft) (g:=g) h hx;rwa[qIt] at this
end
theorem qO2(h:l≠[])(h0:l[0]'(nA.2 h)=0):l.dropWhile (·==0)=(l.drop 1).dropWhile (·==0):=by
 cases l with
 |nil=>simp
 |cons a l=>
  subst h0;simp
theorem qO3(h:l≠[])(h0:l[0]'(nA.2 h)≠0):l.dropWhile (·==0)=l:=by
 cases l with
 |nil=>simp
 |cons a l=>
  simp at h0;simp[h0]
attribute [local irreducible] PV StepF wpl wpd WP Ret
theorem c93(l:List Nat)(w:World)(hb:Bd 256 l)(hl:l.length≤9223372036854775807):
  Rt 270 [.string (bs l),.int .u8 0] w (fun v w'=>v= .string (bs (l.dropWhile (·==0)))∧Keeps [] w w'):=by
 refine tW func270 ntmps270 fun hp=>?_;refine qA (qQ [0,5,6,7,8,9,10,11,12,13,14,15] (fun m F=>F.put 0 (.string (bs m))) (fun m w'=>Bd 256 m∧m.length≤9223372036854775807∧m.dropWhile _=l.dropWhile (·==0)∧Hp w [] w' []) (fun m=>m.length) l (qB (Same.eq .refl) O) ⟨hb,hl,O,hp⟩ ?_);clear hp hb hl;rintro u m w1 ⟨hb,hl,he,hp⟩;rw[←he];clear he;by_cases h0:m=[]
 ·subst h0;refine gAa ?_;exact mAb
 have xx:=nA.2 h0;refine qR ?_;refine jM (tR (qA7 O O) ?_);refine wlp (xJ O O) (qV (aD O1)) (jL ?_);apply vX;exact O;exact O;exact qM0 O O O hb xx;exact fI O;refine jL (qH O (fun h=>?_) (fun h=>?_))
 ·have hz:m[0]=0:=O1;refine qA ?_;refine tR (qLz (k:=1) O O O O1) ?_;refine qA ?_;exact⟨_,qB O5 O,⟨hb.drop 1,by grind,(qO2 h0 hz).symm,hp⟩,by grind⟩
 have hz:m[0]≠0:=O1;refine qA ?_;refine qM O O ⟨_,O,?_,hp.C⟩;rw[qO3 h0 hz];rfl
theorem c87(l:List Nat)(w:World)(hb:Bd 256 l)(hl:l.length≤9223372036854775807):
  Rt 190 [.string (bs l),.string ⟨#[0]⟩] w (fun v w'=>v= .string (bs (l.dropWhile (·==0)))∧Keeps [] w w'):=by
 refine tW func190 ntmps190 fun hp=>?_;by_cases h0:l=[]
 ·subst h0;refine jL (jB O ?_);exact mA0
 have xr:¬_=_:=fun e=>h0 (jTs.1 e)
 refine gA1 ?_;refine qR ?_;refine jM (wlp (xV O O) (qV (aB xr)) ?_);refine jL (qN O ?_);refine gA1 ?_;refine jM (wlp (zW O O) (qV (aD O)) ?_);refine gAe ?_;apply vX;exact O;exact O;exact qM0 (l:=[0]) (i:=0) O O O (.cons O2 .nil) O2;exact fI O;apply vX;exact O;exact O;exact zQ O O;exact qV (b:=true) O;refine jL (jB O ?_);refine gA4 ?_;refine wlp (qM0 O O O (.cons O2 .nil) O2) (qF (b:=0) O) (tC (c93 l _ hb hl) fun w2 hp=>?_);exact mA0
theorem c65(l:List Nat)(w:World)(hb:Bd 256 l)(hl:l.length≤9223372036854775807):
  Rt 131 [.string (bs l)] w (fun v w'=>v= .string (bs (l.dropWhile (·==0)))∧Keeps [] w w'):=by
 refine tW func131 ntmps131 fun hp=>?_;refine tD (c87 l _ hb hl) fun w2 hp=>?_;exact mA0
end
section
open Go.Eng Go.Dig
variable{i x b:Nat}{l:List Nat}{r:Nat}
theorem qCt(k:Nat)(h:i≤9223372036854775807):IntKind.i64.wrap ((i:Int).tdiv (k:Int))=((i/k:Nat):Int):=by
 rw[sAl O1,←Int.natCast_ediv];have h1:=Int.ofNat_le.2 (fR i k);have h0:(0:Int)≤(i/k:Nat):=Int.natCast_nonneg _;exact qK O1 O1
theorem qEc(i k:Nat):(i:Int).tmod (k:Int)=((i%k:Nat):Int):=by
 grind
theorem jCb{q:Nat}(h:q<l.length):b^q*l[q]≤val b l:=by
 have h1:=qAz b l q O1;rw[aX h,val,iC] at h1;omega
theorem qVs(i:Nat):256^i=4294967296^(i/4)*2^(8*(i%4)):=by
 conv=>lhs;rw[←fV i 4,dW,iJ]
 rw[iJ]
theorem zBz(h:r<4):2^(8*r)≤16777216:=by
 have:2^(8*r)≤2^24:=aR O2 O1;omega
theorem jHw{d:Nat}(hr:r<4)(hd:d<256):(d+1)*2^(8*r)≤4294967296:=by
 have h1:=zBz hr;have h2:(d+1)*_≤256*_:=cF O1 h1;omega
theorem jTx(h:i<(jY 256 x).length)(h2:(jY 256 x).length-1-i<(jY 256 x).reverse.length):(jY 256 x).reverse[(jY 256 x).length-1-i]=x/256^i%256:=by
 rw[List.getElem_reverse,←qMy O2 h];grind
theorem Bd.rev(h:Bd b l):Bd b l.reverse:=fun d hd=>h d (by grind)
def NS(st:ByteArray)(x:Nat):Prop:=∃br:List Nat,st=bs br∧Bd 256 br∧br.length≤10000000000000∧x=val 256 br.reverse
theorem NS.aB6(hl:(jY 256 x).length≤10000000000000):NS (ofN x) x:=
 ⟨_,qM7 x,Bd.rev (vQ O2 x),by grind,by rw[iY,yX O2]⟩
theorem jYb{br:List Nat}{n:Nat}(hb:Bd 256 br)(hn:br.length=n)(hx:x=val 256 br.reverse)(hi:i<n)(h2:n-1-i<br.length):br[n-1-i]=x/256^i%256:=by
 have h:=wP (Bd.rev hb);have h3:=qJh 256 n x i hi;grind
attribute [local irreducible] PV StepF wpl wpd WP Ret
theorem jHv(st:ByteArray)(x:Nat)(w:World)(xy:NS st x):
  Rt 74 [.string st] w (fun v w'=>∃s' c',v= .slice s' (dN x).length c'∧DA w' x s' c'∧Keeps [] w w'):=by
 obtain⟨br,rfl,yj,hl,yk⟩:=xy;obtain⟨n,ye⟩:∃n,br.length=n:=⟨_,O⟩;have hx:x<256^n:=by
  rw[yk,←ye,←fX];exact kK (Bd.rev yj)
 have x3:∀{i:Nat},i<n→∀(h2:_<_),_=_:=jYb yj ye yk
 rw[ye] at hl;clear yk;obtain⟨m,hm⟩:∃m,m=(n+3)/4:=⟨_,O⟩;refine tW func74 ntmps74 fun hp=>?_;refine gA1 ?_;refine qR ?_;refine jM (wlp (qA7 O O) (qF (by rw[ye])) ?_);refine tN (n+3) ?_;refine wlp (qC1 O O O2) (qF (b:=m) (by rw[hm];exact qCt 4 O1)) (tF (yE eW 0 hp O O O O O O O O1 O) fun w2 g⟨hv,hp⟩=>?_);refine jM ?_;refine qR ?_;refine jM (wlp (qA7 O O) (qF (by rw[ye])) ?_);refine qA (kT [4,12,13,14,15,16,17,18,19,20,21,22,23,24,25,26,27,28,29,30,31,32,33,34] (fun(i:Nat) _z F=>F.put 12 (.int _ i))
  (fun i z w'=>i≤n∧z.length=m∧Bd 4294967296 z∧val 4294967296 z=x%256^i∧SVL _ m z∧Hp w [] w' [qG eW 208 1 _ m z])
  (fun i _=>n-i) 0 _ (qB (Same.eq .refl) O) ⟨O1,O4,wS O2 _,by simp[qD8,mC],hv,hp⟩ ?_)
 clear hp hv;rintro u i z w3 ⟨hi,x2,x1,x0,hv,hp⟩;refine tI (fun h2=>?_) fun h2=>?_
 ·have hg:i<n:=O1;have yd:i/4<m:=O1;have xz:i/4<z.length:=O1;have hr:i%4<4:=O1;have yl:n-1-i<br.length:=O1;have yc:=zS hp 0 O hv (fun _=>O) (aA xz) 0 _ O;have x4:=jCb (b:=4294967296) xz;have yg:=x1.get xz;have hT:=fun d=>qFw 4294967296 z _ d xz
  have hd:=x3 hg yl;have yn:=yj.get yl;generalize hq:z[i/4]=old at yc x4 yg hT;generalize yh:br[n-1-i]=dd at hd yn;have hold:=by
   have h1:val 4294967296 z<256^i:=by rw[x0];exact dG _ (gJ O2)
   rw[qVs] at h1;exact sAx (bY x4 h1)
  have yi:=jHw hr yn;have yf:dd*2^(8*(i%4))<4294967296:=by
   rw[fE] at yi;omega
  have ya:old+dd*2^(8*(i%4))<4294967296:=by
   rw[fE] at yi;omega
  refine qA ?_;refine jU jG O3 (fun w'=>Hp w [] w' _) hp.N ?_;have hp:=hp.N;refine qX ?_;refine wdp O (fun w hp=>qC1 O O O2) (qF (qCt 4 O1)) (tP (fun w hp=>zA O O O O yd) ?_);refine wdp O (fun w hp=>qS O O (zS hp 0 O hv (fun _=>O) (aA _) 0 _ O)) (qF (by rw[hq])) (tP (fun w hp=>qP) ?_);refine tP (fun w hp=>qP) (wdp O (fun w hp=>qA7 O O) (qF (by rw[ye])) ?_);refine tN (n-1) ?_;refine qX ?_;refine tN (n-1-i) (wdp O (fun w hp=>qM0 O O O yj _) (qF (by rw[yh])) ?_);refine wdp O (fun w hp=>vB O O O) (qF (b:=dd) O1) (qX ?_);refine wdp O (fun w hp=>qCz O O O2) (qF (qEc i 4)) (tN (8*(i%4)) ?_);refine wdp O (fun w hp=>qLv O O O1) (qF O1) (wdp O (fun w hp=>qQh O O yg yf) (qF (by rw[qHg hold])) ?_);refine tP (fun w hp=>zA O O O O yd) ?_;apply xH;exact O;exact O;exact zL eW z _ _ hp 0 O hv xz O O (fun _=>O) O O (qD O);rintro _ w4 ⟨rfl,hp⟩;refine qU (tB ?_);refine qA ?_;refine⟨i+1,_,qB O5 O,⟨O1,?_,x1.set ya,?_,hv.set _ _,hp⟩,O1⟩
  ·grind
  have h1:=hT (old+dd*2^(8*(i%4)));rw[iC,x0] at h1;rw[yV,←hd];have h3:256^i*dd=4294967296^(i/4)*(dd*2^(8*(i%4))):=by rw[qVs];ac_rfl
  omega
 obtain rfl:i=n:=O1;rw[aN hx] at x0;exact mBe
theorem c45(x:Nat)(w:World)(hl:(jY 256 x).length≤10000000000000):
  Rt 74 [.string (ofN x)] w (fun v w'=>∃s' c',v= .slice s' (dN x).length c'∧DA w' x s' c'∧Keeps [] w w'):=jHv _ x w (NS.aB6 hl)
end
section
open Go.Eng Go.Dig
def eB(d:Nat):List Value:=[.int .u8 (d:Int)]
theorem qKy(b m:Nat):∀n,dg b n (m+1)=dg b n m++[n/b^m%b]:=by
 induction m with
 |zero=>simp[dg]
 |succ m ih=>
  intro n;rw[dg,ih,dM,dD,bW];rfl
theorem qUa{l:List Nat}{k d:Nat}(h:k<l.length):(l.set k d).drop k=d::l.drop (k+1):=by
 rw[aX (by grind),oW O1];simp
theorem jLh(x i:Nat):x/4294967296^(i/4)%4294967296/2^(8*(i%4))%256=x/256^i%256:=by
 have e:4294967296=2^(8*(i%4))*2^(8*(4-i%4)):=by
  rw[←dW,show 8*(i%4)+8*(4-i%4)=32 from by omega]
 have h1:x/4294967296^(i/4)%4294967296/2^(8*(i%4))=x/4294967296^(i/4)/2^(8*(i%4))%2^(8*(4-i%4)):=by
  conv=>lhs;arg 1;arg 2;rw[e]
  exact sAm _ _ _
 have h2:256∣2^(8*(4-i%4)):=by
  rw[show(256:Nat)=2^8 from O];exact Nat.pow_dvd_pow 2 O1
 rw[h1,pD _ h2,dM,←qVs]
section
variable {n:Nat}{w0 w:World}{M:List Nat}{L:List Ent}{F:Fr}{d:Option Tmp}{ty:TypeId}{pos:String}{aft:Array Edge}{g:Option (Nat×Bool)}{x:Operand}
theorem qKn{t t' b m:Nat}{z:List Nat}{c:Nat}(hp:Hp w0 M w L)(ht:qDg t=some (5,1))(yo:qGy t'=true)(hx:ev n F x= .slice (Ad b) m c)(hl:z.length=m)(hi:L[0]? =some (qG eB 5 1 (Ad b) c z))(hv:SVL (Ad b) c z):
  PV Tryz.prog n w F ⟨d,.convert t t' x,ty,pos,aft,g⟩ (.string (bs z)):=by
 rw[←qN8];refine qVo (zK ht).1 (qFg O) (wV yo) hx (by grind) ?_;intro j v hj;simp only[iP,dF,Option.map_eq_some_iff] at hj;obtain⟨q,hq,rfl⟩:=hj;have:=zS hp 0 hi hv (fun _=>O) hq 0 _ O;grind
end
attribute [local irreducible] PV StepF wpl wpd WP Ret
theorem c38(x:Nat)(s:Option Addr)(c:Nat)(w:World)(hd:DA w x s c)(hl:(dN x).length≤10000000000000):
  Rk 64 [.slice s (dN x).length c] w (.string (ofN x)):=by
 have hx:=qAh (bM (dN x).length);obtain⟨m,hm⟩:∃m,m=4*(dN x).length:=⟨_,O⟩;have yr:x<256^m:=by
  rw[hm,iJ];exact hx
 refine tW func64 ntmps64 fun hp=>?_;refine tM m ?_;refine tF (yE eB 0 hp O O O O O O O O1 O) fun w2 g⟨hv,hp⟩=>qA (kT [4,11,12,13,14,15,16,17,18,19,20,21,22,23,24,25,26,27,28,29,30,31] (fun(i:Nat) _z F=>F.put 11 (.int _ i))
  (fun i z w'=>i≤m∧z.length=m∧Bd 256 z∧z.drop (m-i)=(dg 256 x i).reverse∧SVL _ m z∧Hp w [] w' [qG eB 5 1 _ m z])
  (fun i _=>m-i) 0 _ (qB (Same.eq .refl) O) ⟨O1,O4,wS O2 _,by simp[dg],hv,hp⟩ ?_)
 clear hp hv;rintro u i z w3 ⟨hi,x2,x1,x0,hv,hp⟩;refine tI (fun h2=>?_) fun h2=>?_
 ·have hq:i/4<(dN x).length:=O1;have hk:m-1-i<m:=O1;have ys:m-1-i<z.length:=O1;obtain⟨b0,o0,hs0,yq⟩:=hd.at_.base O1;have yp:=yq _ _ (aA hq) 0 _ O;have hg:=qA9 hq;generalize (dN x)[i/4]=dx at yp hg;have x3:=jLh x i;rw[←hg] at x3;refine tM (m-1) ?_;refine tM (m-1-i) ?_;refine qA ?_;refine wlp (qC1 O O O2) (qF (qCt 4 O1)) (qA ?_);refine wlp (qCz O O O2) (qF (qEc i 4)) (tN (8*(i%4)) ?_);refine tR (xP O O (by show 8*(i%4)≤32;omega)) (wlp (kC O O O) (qF (by rw[x3])) ?_);refine qA (tO (zL eB z _ _ hp 0 O hv ys O O (fun _=>O) O O (qD O)) fun w4 hp=>?_);refine gA0 ?_;refine⟨i+1,_,qB O5 O,⟨O1,?_,x1.set O1,?_,hv.set _ _,hp⟩,O1⟩
  ·grind
  rw[show m-(i+1)=m-1-i from O1,qUa ys,qKy,lD,←x0,show m-1-i+1=m-i from by omega];rfl
 obtain rfl:i=m:=O1;rw[lW,sAn] at x0;have yt:z.length≤9223372036854775807:=O1;refine qA (tR (qKn hp O O O x2 O hv) ?_);refine tC (c65 z _ x1 yt) fun w4 hp=>?_;refine qA ?_;refine qM O O ⟨_,O,?_,hp.C⟩;rw[qM7,←qHu yr,x0];rfl
end
section
open Go.Eng Go.Dig
variable{x k y:Nat}
theorem jEy(h:x<2^k)(hk:k≤10000000000000):(dN x).length≤10000000000000:=
 bL (jHh (cJ h (nC O2 k))) hk
theorem zD7(h:x<2^k)(hk:k≤10000000000000):(jY 256 x).length≤10000000000000:=
 bL (qAs O2 (cJ h (nC O2 k))) hk
def Fit(x:Nat):Prop:=∃k,k≤1000000000000∧x<2^k
theorem Fit.of(h:x<2^k)(hk:k≤1000000000000):Fit x:=⟨k,hk,h⟩
theorem Fit.le(h:Fit y)(hk:x≤y):Fit x:=by
 obtain⟨k,h1,h2⟩:=h;exact⟨k,h1,O1⟩
theorem Fit.d32(h:Fit x):(dN x).length≤10000000000000:=by
 obtain⟨k,h1,h2⟩:=h;exact jEy h2 O1
theorem Fit.d8(h:Fit x):(jY 256 x).length≤10000000000000:=by
 obtain⟨k,h1,h2⟩:=h;exact zD7 h2 O1
theorem Fit.add(hx:Fit x)(hy:Fit y):(dN (x+y)).length≤10000000000000:=by
 obtain⟨k,h1,h2⟩:=hx;obtain⟨q,h3,h4⟩:=hy;refine jEy (k:=max k q+1) ?_ O1;have h5:2^k≤2^max k q:=aR O2 O1;have h6:2^q≤2^max k q:=aR O2 O1;omega
theorem Fit.mul(hx:Fit x)(hy:Fit y):(dN (x*y)).length≤10000000000000:=by
 obtain⟨k,h1,h2⟩:=hx;obtain⟨q,h3,h4⟩:=hy;refine jEy (k:=k+q) ?_ O1;rw[dW];exact rK h2 h4
theorem Fit.small(h:x<18446744073709551616):Fit x:=Fit.of (k:=64) O1 O2
attribute [local irreducible] PV StepF wpl wpd WP Ret
attribute [local irreducible] Fit
theorem c13(a:Int)(w:World)(h2:a≤9223372036854775807):Rk 18 [Iv a] w (.string (ofN a.toNat)):=by
 refine tW func18 ntmps18 fun hp=>?_;refine tI (fun h=>?_) fun h=>?_
 ·refine qA ?_;refine qM O O ⟨_,O,?_,hp.C⟩;rw[show a.toNat=0 from by omega];rfl
 obtain⟨x,rfl⟩:∃x:Nat,a=x:=⟨a.toNat,O1⟩;have hx:x<18446744073709551616:=O1;refine qR ?_;refine jM (wlp (zX O O O) (qF (wU hx)) ?_);refine tK (c39 x _ hx) ?_;rintro _ w1 ⟨s,c,rfl,hd,hk⟩;have hp:=hp.call hk;refine tC (c38 x s c _ hd (Fit.small hx).d32) fun w2 hp=>?_;exact mA0
theorem NS.self(h:Fit x):NS (ofN x) x:=NS.aB6 h.d8
theorem zGi(sx sy:ByteArray)(x y:Nat)(w:World)(hx:NS sx x)(hy:NS sy y):Rk 21 [.string sx,.string sy] w (Iv (if x<y then-1 else if x=y then 0 else 1)):=by
 refine tW func21 ntmps21 fun hp=>?_;refine tL (jHv sx x _ hx) ?_;rintro _ w1 ⟨s,c,rfl,hd,hk⟩;have hp:=hp.call hk;refine tL (jHv sy y _ hy) ?_;rintro _ w2 ⟨s2,c2,rfl,yu,hk⟩;have hp:=hp.call hk;have hd:=hd.j5 hk;refine tD (c71 x y s s2 c c2 _ hd yu) fun w3 hp=>?_;exact mA0
theorem c47(x y:Nat)(w:World)(hx:Fit x)(hy:Fit y):Rk 21 [.string (ofN x),.string (ofN y)] w (Iv (if x<y then-1 else if x=y then 0 else 1)):=zGi _ _ x y w (NS.self hx) (NS.self hy)
theorem c17(x y:Nat)(w:World)(hx:Fit x)(hy:Fit y):Rk 48 [.string (ofN x),.string (ofN y)] w (.string (ofN (x+y))):=by
 refine tW func48 ntmps48 fun hp=>?_;refine tL (c45 x _ hx.d8) ?_;rintro _ w1 ⟨s,c,rfl,hd,hk⟩;have hp:=hp.call hk;refine tL (c45 y _ hy.d8) ?_;rintro _ w2 ⟨s2,c2,rfl,yu,hk⟩;have hp:=hp.call hk;have hd:=hd.j5 hk;refine tL (c44 x y s s2 c c2 _ hd yu hx.d32 hy.d32) ?_;rintro _ w3 ⟨s3,c3,rfl,yv,hk⟩;have hp:=hp.call hk;refine tD (c38 _ s3 c3 _ yv (hx.add hy)) fun w4 hp=>?_;exact mA0
theorem c18(x y:Nat)(w:World)(hx:Fit x)(hy:Fit y):Rk 81 [.string (ofN x),.string (ofN y)] w (.string (ofN (x*y))):=by
 refine tW func81 ntmps81 fun hp=>?_;refine tL (c45 x _ hx.d8) ?_;rintro _ w1 ⟨s,c,rfl,hd,hk⟩;have hp:=hp.call hk;refine tL (c45 y _ hy.d8) ?_;rintro _ w2 ⟨s2,c2,rfl,yu,hk⟩;have hp:=hp.call hk;have hd:=hd.j5 hk;refine tL (c46 x y s s2 c c2 _ hd yu hx.d32 hy.d32) ?_;rintro _ w3 ⟨s3,c3,rfl,yv,hk⟩;have hp:=hp.call hk;refine tD (c38 _ s3 c3 _ yv (hx.mul hy)) fun w4 hp=>?_;exact mA0
theorem zGh(sx sy:ByteArray)(x y:Nat)(w:World)(yx:NS sx x)(yy:NS sy y)(hx:Fit x)(_hy:Fit y):Rk 107 [.string sx,.string sy] w (.tuple #[.string (ofN (x-y)),.bool (decide (y≤x))]):=by
 refine tW func107 ntmps107 fun hp=>?_;refine tL (jHv sx x _ yx) ?_;rintro _ w1 ⟨s,c,rfl,hd,hk⟩;have hp:=hp.call hk;refine tL (jHv sy y _ yy) ?_;rintro _ w2 ⟨s2,c2,rfl,yu,hk⟩;have hp:=hp.call hk;have hd:=hd.j5 hk;refine tL (c71 x y s s2 c c2 _ hd yu) ?_;rintro _ w3 ⟨rfl,hk⟩;have hp:=hp.call hk;have hd:=hd.j5 hk;have yu:=yu.j5 hk;refine tI (fun h=>?_) fun h=>?_
 ·refine qA ?_;refine xU O O O ⟨_,O,?_,hp.C⟩;rw[show x-y=0 from O1,aB (show¬y≤x by omega)];rfl
 have yw:y≤x:=by
  split at h
  ·omega
  omega
 refine tL (c72 x y s s2 c c2 _ hd yu hx.d32 yw) ?_;rintro _ w4 ⟨s3,c3,rfl,yv,hk⟩;have hp:=hp.call hk;refine tD (c38 _ s3 c3 _ yv (hx.le O1).d32) fun w5 hp=>?_;refine qA ?_;refine xU O O O ⟨_,O,?_,hp.C⟩;rw[aD yw];rfl
theorem c49(x y:Nat)(w:World)(hx:Fit x)(hy:Fit y):Rk 107 [.string (ofN x),.string (ofN y)] w (.tuple #[.string (ofN (x-y)),.bool (decide (y≤x))]):=zGh _ _ x y w (NS.self hx) (NS.self hy) hx hy
end
section
open Go.Eng Go.Dig
variable{b r d e a:Nat}
theorem jDh{x j:Nat}(hd:0<d)(hr:r=x/b^(j+1)%d):(r*b+x/b^j%b)/d+b*(x/b^(j+1)/d)=x/b^j/d∧(r*b+x/b^j%b)%d=x/b^j%d:=by
 have h1:=qB9 b x j;generalize x/b^(j+1)=y at*
 generalize x/b^j%b=e at*
 have h2:x/b^j=(r*b+e)+d*(b*(y/d)):=by
  rw[h1,hr];have:=fV y d;have h3:b*y=b*(d*(y/d)+y%d):=by rw[this]
  rw[h3,iC,bW (y%d) b,←fK,←fK,bW b d];omega
 rw[h2,mS _ _ hd,iE];omega
theorem jJj(hr:r<d)(he:e<b):(r*b+e)/d<b:=by
 rw[dU O1];have:(r+1)*b≤d*b:=aL b hr;grind
theorem jD2{q:Nat}(hr:r<q)(hq:q<4294967296)(he:e<4294967296):r*4294967296+e<18446744073709551616:=O1
section
variable {n:Nat}{F:Fr}{w:World}{d:Option Tmp}{ty:TypeId}{pos:String}{aft:Array Edge}{g:Option (Nat×Bool)}{x y:Operand}{t t':Nat}
theorem qLx(hx:ev n F x= .int .u64 (a:Int))(hy:ev n F y= .int .u64 (b:Int))(hb:0<b)(ha:a<18446744073709551616):PV Tryz.prog n w F ⟨d,.binOp .quo t x y t',ty,pos,aft,g⟩ (.int .u64 ((a/b:Nat):Int)):=by
 have h:=qC1 (P:=Tryz.prog) (w:=w) (d:=d) (ty:=ty) (pos:=pos) (aft:=aft) (g:=g) (t:=t) (t':=t') hx hy O1;rwa[sAl O1,←Int.natCast_ediv,wU (bY (fR a b) ha)] at h
theorem qLw(hx:ev n F x= .int .u64 (a:Int))(hy:ev n F y= .int .u64 (b:Int))(hb:0<b):PV Tryz.prog n w F ⟨d,.binOp .rem t x y t',ty,pos,aft,g⟩ (.int .u64 ((a%b:Nat):Int)):=by
 exact mCg
end
attribute [local irreducible] PV StepF wpl wpd WP Ret
theorem c74(x q:Nat)(s:Option Addr)(c:Nat)(w:World)(hx:DA w x s c)(hl:(dN x).length≤10000000000000)(hq:0<q)(yz:q<4294967296):
  Rt 192 [.slice s (dN x).length c,.int .u32 (q:Int)] w (fun v w'=>∃s' c',v= .tuple #[.slice s' (dN (x/q)).length c',.int .u32 ((x%q:Nat):Int)]∧DA w' (x/q) s' c'∧Keeps [] w w'):=by
 refine tW func192 ntmps192 fun hp=>?_;refine qA ?_;refine tF (yE eW 0 hp O O O O O O O O1 O) fun w2 g⟨hv,hp⟩=>tB ?_;refine qA ?_;refine kS [7,8,15,16,17,18,19,20,21,22,23,24,25,26,27,28,29,30,31,32,33,34,35,36,37,38] (fun(k r:Nat) _z F=>(F.put 8 (.int _ (k-1))).put 7 (.int _ r))
  (fun k r z w'=>k≤(dN x).length∧z.length=(dN x).length∧Bd 4294967296 z∧r=x/4294967296^k%q∧val 4294967296 (z.drop k)=x/4294967296^k/q∧SVL _ _ z∧Hp w [] w' [qG eW 208 1 _ _ z])
  (fun k _ _=>k) _ 0 _ (qB (qB (Same.eq .refl) O) O) ⟨O1,O4,wS O2 _,?_,?_,hv,hp⟩ ?_
 ·rw[eJ (qAh O1),oL]
 ·rw[eJ (qAh O1),Nat.zero_div,nJ O4];rfl
 clear hp hv;rintro u k r z w3 ⟨hi,x2,x1,hr,x0,hv,hp⟩;refine tI (fun h2=>?_) fun h2=>?_
 ·obtain⟨j,rfl⟩:∃j,k=j+1:=⟨k-1,O1⟩;have hh:j<(dN x).length:=O1;have xz:j<z.length:=O1;have y2:r<q:=by rw[hr];exact dG _ hq
  obtain⟨b0,o0,hs0,yq⟩:=hx.at_.base O1;have yp:=yq j _ (aA hh) 0 _ O;have h3:=(qK7 x).get hh;have hg:=qA9 hh;generalize (dN x)[j]=dx at yp h3 hg;obtain⟨hj,h5⟩:=jDh hq hr;rw[←hg] at hj h5;have y0:=jJj y2 h3;have yf:r*2^32<18446744073709551616:=by
   have h:=jD2 (e:=0) y2 yz O2;rw[iF] at h;rw[show(2:Nat)^32=4294967296 from by decide];exact h
  have zb:=jD2 y2 yz h3;have za:dx<18446744073709551616:=O1;have ej:(j+1:Nat)-1=(j:Int):=O1;rw[ej];refine qA (tR (qB7 (b:=32) O O O2 yf) ?_);refine qA (wlp (qG2 O O yf za) (qF (b:=(r*4294967296+dx:Nat)) (by rw[rV,qHg h3,oM])) ?_);refine qA (tR (qLx O O hq zb) ?_);refine wlp (vB O O O) (qF (by rw[aN y0])) (qA ?_);refine tO (zL eW z j _ hp 0 O hv xz O O (fun _=>O) O O (qD O)) fun w4 hp=>qA (tR (qLw O O hq) ?_);refine gA0 ?_;refine⟨j,_,_,qB O5 O,⟨O1,?_,x1.set y0,h5,?_,hv.set _ _,hp⟩,O1⟩
  ·grind
  rw[qUa xz,val,x0];omega
 obtain rfl:k=0:=O1;rw[nK,sA0] at hr x0;have y2:r<q:=by rw[hr];exact dG _ hq
 refine qA ?_;refine tFb (qC O qFm (by rw[x2];rfl) (qWu hp hv (by unfold maxLen;omega) x1 x0)) fun w2 s' c'⟨hd,hk⟩=>qA ?_;refine xU (v:=.slice s' _ c') (v':=.int _ (r%4294967296:Nat)) O O O ⟨_,O,s',c',?_,hd,hk⟩;grind
end
section
open Go.Eng Go.Dig
def lenT:ByteArray:=⟨#[0,1,2,2,3,3,3,3,4,4,4,4,4,4,4,4,5,5,5,5,5,5,5,5,5,5,5,5,5,5,5,5,6,6,6,6,6,6,6,6,6,6,6,6,6,6,6,6,6,6,6,6,6,6,6,6,6,6,6,6,6,6,6,6,7,7,7,7,7,7,7,7,7,7,7,7,7,7,7,7,7,7,7,7,7,7,7,7,7,7,7,7,7,7,7,7,7,7,7,7,7,7,7,7,7,7,7,7,7,7,7,7,7,7,7,7,7,7,7,7,7,7,7,7,7,7,7,7,8,8,8,8,8,8,8,8,8,8,8,8,8,8,8,8,8,8,8,8,8,8,8,8,8,8,8,8,8,8,8,8,8,8,8,8,8,8,8,8,8,8,8,8,8,8,8,8,8,8,8,8,8,8,8,8,8,8,8,8,8,8,8,8,8,8,8,8,8,8,8,8,8,8,8,8,8,8,8,8,8,8,8,8,8,8,8,8,8,8,8,8,8,8,8,8,8,8,8,8,8,8,8,8,8,8,8,8,8,8,8,8,8,8,8,8,8,8,8,8,8,8,8,8,8,8,8,8]⟩
theorem jKl:∀i:Fin 256,i.val≠0→∃t:Fin 9,bAt lenT i.val=(t.val:Int)∧0<t.val∧2^(t.val-1)≤i.val∧i.val<2^t.val:=by decide+kernel
theorem jKm{i:Nat}(h:i<256)(h0:i≠0):∃t:Nat,bAt lenT i=(t:Int)∧0<t∧t≤8∧2^(t-1)≤i∧i<2^t:=by
 obtain⟨t,h1,h2,h3,h4⟩:=jKl ⟨i,h⟩ h0;grind
theorem qOw:lenT.size=256:=by decide+kernel
attribute [local irreducible] PV StepF wpl wpd WP Ret
theorem jB6{x x' n t:Nat}(h:x'=x/2^n)(h1:2^(t-1)≤x')(h2:x'<2^t)(ht:0<t):2^(n+t-1)≤x∧x<2^(n+t):=by
 have hp:0<2^n:=gJ O2;subst h;constructor
 ·have:=(mL hp).1 h1;rwa[←dW,show t-1+n=n+t-1 from by omega] at this
 have:=(dU hp).1 h2;grind
theorem c90(x:Nat)(w:World)(h0:0<x)(hx:x<4294967296):
  Rt 329 [.int .u32 (x:Int)] w (fun v w'=>∃t:Nat,v=Iv (t:Int)∧0<t∧t≤32∧2^(t-1)≤x∧x<2^t∧Keeps [] w w'):=by
 refine tW func329 ntmps329 fun hp=>?_;refine qA (qAy (fun F w1=>∃x' n:Nat,x'=x/2^n∧0<x'∧x'<65536∧n≤16∧Hp w [] w1 []∧qAb F [(0,.int .u32 x'),(2,Iv n)]) ?_ ?_)
 ·refine qH O (fun h=>?_) (fun h=>?_)
  ·refine qA ?_;refine wlp (xP O O O2) (qF (b:=(x/65536:Nat)) O) (qA ?_);exact⟨_,16,O,O1,O1,O1,hp,O,O,trivial⟩
  refine qA ?_;exact⟨x,0,O4,h0,O1,O1,hp,O,O,trivial⟩
 clear hp;rintro F w1 ⟨x1,n1,e1,ze,zd,zc,hp,hF⟩;refine yL _ hF ?_;intro F0;clear hF;refine qA (qAy (fun F w1=>∃x' n:Nat,x'=x/2^n∧0<x'∧x'<256∧n≤24∧Hp w [] w1 []∧qAb F [(0,.int .u32 x'),(2,Iv n)]) ?_ ?_)
 ·refine qH O (fun h=>?_) (fun h=>?_)
  ·refine qA ?_;refine wlp (xP O O O2) (qF (b:=(x1/256:Nat)) O) (tM (n1+8) ?_);refine qA ?_;refine⟨_,_,?_,O1,O1,O1,hp,O,O,trivial⟩;rw[e1,dW,←dM]
  refine qA ?_;exact⟨x1,n1,e1,ze,O1,O1,hp,O,O,trivial⟩
 rintro F w1 ⟨x1,n1,e1,ze,zd,zc,hp,hF⟩;refine yL _ hF ?_;intro F0;obtain⟨t,ht,zf,zg,hl,hu⟩:=jKm zd O1;refine gA4 ?_;refine wlp (kC O O O) (qF (b:=x1) O1) (wlp (zY (s:=lenT) O O O (by rw[qOw];omega)) (qF ht) ?_);refine wlp (zX O O O) (qF (qK O1 O1)) (tN (n1+t) ?_);refine qA ?_;obtain⟨q1,q2⟩:=jB6 e1 hl hu zf;exact qM O O ⟨_,O,_,O,O1,O1,q1,q2,hp.C⟩
theorem c75(x:Nat)(w:World)(h0:0<x)(hx:x<4294967296):
  Rt 249 [.int .u32 (x:Int)] w (fun v w'=>∃s:Nat,v=Iv (s:Int)∧s≤31∧2147483648≤x*2^s∧x*2^s<4294967296∧Keeps [] w w'):=by
 refine tW func249 ntmps249 fun hp=>?_;refine tL (c90 x _ h0 hx) ?_;rintro _ w1 ⟨t,rfl,zf,ht,hl,hu,hk⟩;have hp:=hp.call hk;refine tN (32-t) ?_;refine qA ?_;refine qM O O ⟨_,O,_,O,O1,?_,?_,hp.C⟩
 ·have:=aL (2^(32-t)) hl;rwa[←dW,show t-1+(32-t)=31 from by omega] at this
 have:=(oA (gJ (n:=32-t) (by decide:0<2))).2 hu;rwa[←dW,show t+(32-t)=32 from by omega] at this
end
section
open Go.Eng Go.Dig
variable{s e q old:Nat}
theorem jAk(hs:s≤31):∃q,e*2^s%4294967296=q*2^s∧q<2^(32-s):=by
 refine⟨e%2^(32-s),?_,O1⟩;have e1:4294967296=2^(32-s)*2^s:=by rw[←dW,show 32-s+s=32 from by omega]
 rw[e1,Nat.mul_mod_mul_right]
theorem jJ9(hs:s≤31)(he:e<4294967296):e*2^s<9223372036854775808:=by
 have h1:2^s≤_:=aR O2 hs;have h2:e*2^s≤4294967295*_:=cF O1 h1;omega
theorem jJ8(hs:s≤31)(hq:q<2^(32-s))(ho:old<2^s):old+q*2^s<4294967296:=by
 have h1:(q+1)*2^s≤_:=aL _ hq;rw[←dW,show 32-s+s=32 from O1,fE] at h1;omega
theorem jD1{b V V1 V2 x i T:Nat}(h:V=x%b^i*2^s)(hT:q+b*(T/b)=T)(hx:T=x/b^i%b*2^s)(h1:V1+b^i*old=V+b^i*(old+q))(h2:V2+b^(i+1)*0=V1+b^(i+1)*(T/b)):V2=x%b^(i+1)*2^s:=by
 rw[yV,fE];grind
attribute [local irreducible] PV StepF wpl wpd WP Ret
theorem c76(x k:Nat)(s:Option Addr)(c:Nat)(w:World)(hx:DA w x s c)(hl:(dN x).length≤10000000000000)(hk:k≤31):
  Rt 250 [.slice s (dN x).length c,Iv (k:Int)] w (fun v w'=>∃g,v= .slice (Ad g) ((dN x).length+1) ((dN x).length+1)∧SVL (Ad g) ((dN x).length+1) (dg 4294967296 (x*2^k) ((dN x).length+1))∧Hp w [] w' [qG eW 208 1 (Ad g) ((dN x).length+1) (dg 4294967296 (x*2^k) ((dN x).length+1))]):=by
 have zh:(dN x).length<(dN x).length+1:=O1;refine tW func250 ntmps250 fun hp=>?_;refine tM ((dN x).length+1) ?_;refine tF (yE eW 0 hp O O O O O O O O1 O) fun w2 g⟨hv,hp⟩=>qA (kT [6,7,8,15,16,17,18,19,20,21,22,23,24,25,26,27,28,29,30,31,32,33,34,35,36,37,38,39] (fun(i:Nat) _z F=>F.put 15 (.int _ i))
  (fun i z w'=>i≤(dN x).length∧z.length=(dN x).length+1∧Bd 4294967296 z∧val 4294967296 z=x%4294967296^i*2^k∧SVL _ _ z∧Hp w [] w' [qG eW 208 1 _ _ z])
  (fun i _=>(dN x).length-i) 0 _ (qB (Same.eq .refl) O) ⟨O1,O4,wS O2 _,by simp[qD8,mC],hv,hp⟩ ?_)
 clear hp hv;rintro u i z w3 ⟨hi,x2,x1,x0,hv,hp⟩;refine tI (fun h2=>?_) fun h2=>?_
 ·have hh:i<(dN x).length:=O1;have zm:i<(dN x).length+1:=O1;have zj:i+1<(dN x).length+1:=O1;have xz:i<z.length:=O1;have zn:i+1<z.length:=O1;have zo:val 4294967296 z<4294967296^i*2^k:=by
   rw[x0];exact(oA (gJ O2)).2 (dG _ (gJ O2))
  have hold:=sAx (bY (jCb xz) zo);have xc:=by
   refine qSn (b:=4294967296) O2 (k:=i+1) (cJ zo ?_) zn (bM _);rw[dD];exact dK _ (bL (aR O2 hk) O2)
  obtain⟨b0,o0,hs0,yq⟩:=hx.at_.base O1;have yp:=yq i _ (aA hh) 0 _ O;have h3:=(qK7 x).get hh;have hg:=qA9 hh;generalize (dN x)[i]=dx at yp h3 hg;have yc:=zS hp 0 O hv (fun _=>O) (aA xz) 0 _ O;have yg:=x1.get xz;have hj:=fun d=>qFw 4294967296 z i d xz
  generalize z[i]=old at yc yg hj hold;obtain⟨q,hq,yz⟩:=jAk (e:=dx) hk;have hT:=jJ9 hk h3;have zk:=jJ8 hk yz hold;have yf:dx*2^k<18446744073709551616:=O1;have zl:dx*2^k/4294967296<4294967296:=by
   generalize dx*2^k=T at hT;omega
  refine qA (tR (qB7 O O O1 yf) ?_);refine qA ?_;refine wlp (qQh O O yg O1) (qF (by rw[hq,qHg hold])) (qA ?_);refine tO (zL eW z i _ hp 0 O hv xz O O (fun _=>O) O O (qD O)) fun w4 hp=>?_;have hv:=hv.set i (old+q*2^k);have zr:(z.set i (old+q*2^k)).length=(dN x).length+1:=by rw[fZ,x2]
  have zq:i+1<(z.set i (old+q*2^k)).length:=O1;have zp:=fun d=>qFw 4294967296 _ _ d zq
  have zi:(z.set i _)[i+1]=0:=by
   rw[List.getElem_set_ne O1];exact xc
  rw[zi] at zp;refine gA7 ?_;refine wlp (xP O O O2) (qF (b:=(dx*2^k/4294967296:Nat)) O) (wlp (vB O O O) (qF (by rw[aN zl])) ?_);refine qA (tO (zL eW _ _ _ hp 0 O hv zq O O (fun _=>O) O O (qD O)) fun w5 hp=>?_);refine gA0 ?_;refine⟨i+1,_,qB O5 O,⟨O1,?_,(x1.set zk).set zl,?_,hv.set _ _,hp⟩,O1⟩
  ·grind
  refine jD1 x0 ?_ (by rw[hg]) (hj _) (zp _);omega
 rw[aN (qAh O1)] at x0;have hz:z=dg 4294967296 (x*2^k) ((dN x).length+1):=by rw[←x0,←x2];exact wP x1
 subst hz;refine tV ?_;exact⟨_,O,g,O,hv,hp⟩
end
section
open Go.Eng Go.Dig
theorem qIf{b:Nat}{l:List Nat}(h:Bd b l){i:Nat}(hi:i<l.length):l[i]=val b l/b^i%b:=by
 have h1:=qJh b _ (val b l) i hi;rw[←wP h,aA hi] at h1;grind
theorem jAj{V i k:Nat}(hk:k≤31):(V/4294967296^i%4294967296+V/4294967296^(i+1)%4294967296*2^32)/2^k%4294967296=V/2^k/4294967296^i%4294967296:=by
 have h1:V/4294967296^i%4294967296+V/4294967296^(i+1)%4294967296*2^32=V/4294967296^i%(4294967296*4294967296):=by
  rw[Nat.mod_mul,dD,←dM,bW (_%_) (2^32)]
 have e:4294967296*4294967296=2^k*(2^(32-k)*4294967296):=by
  rw[←fK,←dW,show k+(32-k)=32 from by omega]
 rw[h1,e,sAm,Nat.mod_mul_left_mod,dM,dM,bW]
theorem qZa{b n i:Nat}(z:List Nat)(h:z.take i=dg b n i)(hi:i<z.length):(z.set i (n/b^i%b)).take (i+1)=dg b n (i+1):=by
 rw[take_set hi,h,qKy]
attribute [local irreducible] PV StepF wpl wpd WP Ret
theorem c80(l:List Nat)(k:Nat)(s:Option Addr)(c:Nat)(w:World)(hs:SlAt w 1 eW s l)(hb:Bd 4294967296 l)(hl:l.length≤10000000000000)(hk:k≤31):
  Rt 254 [.slice s l.length c,Iv (k:Int)] w (fun v w'=>∃g,v= .slice (Ad g) l.length l.length∧SVL (Ad g) l.length (dg 4294967296 (val 4294967296 l/2^k) l.length)∧Hp w [] w' [qG eW 208 1 (Ad g) l.length (dg 4294967296 (val 4294967296 l/2^k) l.length)]):=by
 refine tW func254 ntmps254 fun hp=>?_;refine qA ?_;refine tF (yE eW 0 hp O O O O O O O O1 O) fun w2 g⟨hv,hp⟩=>qA (kT [6,7,13,14,15,16,17,18,19,20,21,22,23,24,25,26,27,28,29,30,31,32,33,34,35,36,37,38,39,40,41,42] (fun(i:Nat) _z F=>F.put 13 (.int _ i))
  (fun i z w'=>i≤l.length∧z.length=l.length∧z.take i=dg 4294967296 (val 4294967296 l/2^k) i∧SVL _ _ z∧Hp w [] w' [qG eW 208 1 _ _ z])
  (fun i _=>l.length-i) 0 _ (qB (Same.eq .refl) O) ⟨O1,O4,O,hv,hp⟩ ?_)
 clear hp hv;rintro u i z w3 ⟨hi,x2,x0,hv,hp⟩;refine tI (fun h2=>?_) fun h2=>?_
 ·have hh:i<l.length:=O1;have xz:i<z.length:=O1;obtain⟨b0,o0,hs0,yq⟩:=hs.base O1;have yp:=yq i _ (aA hh) 0 _ O;have hj:=hb.get hh;have hg:=qIf hb hh;generalize l[i]=dx at yp hj hg;have zw:=jAj (V:=val 4294967296 l) (i:=i) hk;rw[←hg] at zw;have zy:dx<2^32:=hj;have za:dx<18446744073709551616:=O1;refine tM (i+1) ?_;refine tI (fun h3=>?_) fun h3=>?_
  ·have zj:i+1<l.length:=O1;have zu:=yq _ _ (aA zj) 0 _ O;have zx:=hb.get zj;have zt:=qIf hb zj;generalize l[i+1]=dy at zu zx zt;rw[←zt] at zw;have yf:dy*2^32<18446744073709551616:=by
    rw[show(2:Nat)^32=4294967296 from by decide];omega
   refine tM (i+1) ?_;refine qA (tR (qB7 (b:=32) O O O2 yf) ?_);refine wlp (qG2 O O za yf) (qF (by rw[qHg zy])) (qA ?_);exact mAw
  have zv:val 4294967296 l/4294967296^(i+1)%4294967296=0:=by
   have h4:=kK hb;rw[show l.length=i+1 from by omega] at h4;rw[eJ h4,oL]
  rw[zv,Nat.zero_mul,iF] at zw;refine qA ?_;exact mAw
 obtain rfl:i=l.length:=O1;have hz:z=dg 4294967296 (val 4294967296 l/2^k) l.length:=by rw[←x0,bR O1]
 subst hz;refine tV ?_;exact⟨_,O,g,O,hv,hp⟩
end
section
open Go.Eng Go.Dig
variable{i:Nat}{m A C:List Nat}
theorem qFz{d:Nat}(hi:i<m.length):(A++m++C).set (A.length+i) d=A++m.set i d++C:=by
 grind
theorem qIi(hi:i<m.length):(A++m++C)[A.length+i]? =some m[i]:=by
 grind
def Tl(m m0:List Nat)(i:Nat):Prop:=m.drop i=m0.drop i
theorem Tl.get{m0:List Nat}(h:Tl m m0 i)(hi:i<m.length)(zz:i<m0.length):m[i]=m0[i]:=by
 unfold Tl at h;rw[aX hi,aX zz] at h;grind
theorem Tl.set{m m0:List Nat}{i d:Nat}(h:Tl m m0 i)(hi:i<m.length)(zz:i<m0.length):Tl (m.set i d) m0 (i+1):=by
 unfold Tl at*
 rw[aX hi,aX zz] at h;rw[oW O1];grind
theorem jAc{b V u v G cy bo z cx ba lo T:Nat}(h:V+G*(v%b^i)=u%b^i+(cy+bo)*b^i)(hT:T=cy+G*(v/b^i%b))(z1:lo+b*cx=T)(hz:z+lo+bo=u/b^i%b+b*ba):
  (V+b^i*z)+G*(v%b^(i+1))=u%b^(i+1)+(cx+ba)*b^(i+1):=by
 rw[yV,yV,dD];grind
end
section
open Go.Eng Go.Dig
variable{n b cy t G V v:Nat}
theorem jI8{P:Program}{Q:Exit→Fr→World→Prop}{F:Fr}{w:World}{c:Code}{X Y Z T:Type}(S:List Nat)(H:X→Y→Z→T→Fr→Fr)(I:X→Y→Z→T→World→Prop)(μ:X→Y→Z→T→Nat)(x0:X)(y0:Y)(z0:Z)(t0:T)(h0:F=H x0 y0 z0 t0 (Fr.l7 S F F))(hi:I x0 y0 z0 t0 w)
  (round:∀(u:Fr) (x:X) (y:Y) (z:Z) (t:T) (w:World),I x y z t w→WP P n c (qB5 (fun F' w'=>∃x' y' z' t',F'=H x' y' z' t' (Fr.l7 S F' F)∧I x' y' z' t' w'∧μ x' y' z' t'<μ x y z t) Q) (H x y z t (Fr.l7 S u F)) w):WP P n (.loop c) Q F w:=by
 refine qQ S (fun x=>H x.1 x.2.1 x.2.2.1 x.2.2.2) (fun x=>I x.1 x.2.1 x.2.2.1 x.2.2.2) (fun x=>μ x.1 x.2.1 x.2.2.1 x.2.2.2) (x0,y0,z0,t0) h0 hi ?_;intro u x w hI;refine qEk (round u _ _ _ _ w hI) ?_;simp
section
variable {P:Program}{n:Nat}{w0 w:World}{M:List Nat}{L:List Ent}{F:Fr}{d:Option Tmp}{ty:TypeId}{pos:String}{aft:Array Edge}{g:Option (Nat×Bool)}{x y:Operand}
theorem qHv{α:Type}(enc:α→List Value)(l:List α)(i:Nat)(xv:α){e gb c off:Nat}{v:Value}(hp:Hp w0 M w L)(j:Nat)(hj:L[j]? =some (qG enc e 1 (Ad gb) c l))(sa:SVL (Ad gb) c l)(hi:i<l.length)
  (hx:ev n F x= .pointer (some ⟨gb,off,none⟩)) (sc:off=i) (hy:ev n F y=v) (hk:∀x,(enc x).length=1) (hv:enc xv=[v]) (h1:kM v=true) (hz:TSize P t 1):
  StepF P n ⟨d,.store t x y,ty,pos,aft,g⟩ F w (fun u w'=>u=undef∧Hp w0 M w' (L.set j (qG enc e 1 (Ad gb) c (l.set i xv)))):=
 zL _ l i xv hp j hj sa hi (by grind) hy hk hv h1 hz
theorem qLy{a k t':Nat}(hx:ev n F x= .int .u64 (a:Int))(hy:ev n F y= .int .u64 (b:Int))(ha:a<18446744073709551616)(hb:b=2^k-1)(hk:k≤64):PV P n w F ⟨d,.binOp .and t x y t',ty,pos,aft,g⟩ (.int .u64 ((a%2^k:Nat):Int)):=by
 have sd:b<18446744073709551616:=by
  have h2:2^k≤2^64:=aR O2 hk;have h3:0<2^k:=gJ O2;have h4:(2:Nat)^64=18446744073709551616:=O2;omega
 have h1:(BitVec.ofInt 64 a&&&BitVec.ofInt 64 b).toNat=a%2^k:=by
  rw[rL,kG 64 a ha,kG 64 b sd,hb,rM]
 have h3:=wU (bY (rN a (2^k)) ha);simp only[PV,execOp,hx,hy,eqGuard,binOp,Op.intBits];show Sem.run P (pure (Next.value (Value.int _ (IntKind.u64.wrap ((BitVec.ofInt 64 a&&&BitVec.ofInt 64 b).toNat))))) w=_
 rw[h1,h3];rfl
end
theorem jCf{d:Nat}(hc:cy<4294967296)(hG:G≤4294967296)(hd:d<4294967296):cy+G*d<18446744073709551616:=by
 have:G*d≤_*4294967295:=cF hG O1;omega
theorem jCg{u bo zn B:Nat}(h:V+G*(v%b^n)=u%b^n+(cy+bo)*b^n)(hv:v<b^n)(hu:u<b^(n+1))(hz:zn+cy+bo=u/b^n%b+b*B):(V+b^n*zn)+G*v=u+B*b^(n+1):=by
 have h1:=yV b u n;rw[aN hu] at h1;rw[aN hv] at h;grind
theorem jJp{m:Nat}(hb:0<b)(h:V+cy*b^n=m%b^n+v%b^n)(hV:V<b^n)(hv:v<b^n)(hm:m<b^(n+1)):V+b^n*((m/b^n%b+cy)%b)=(m+v)%b^(n+1):=by
 have h1:=yV b m n;rw[aN hm] at h1;rw[aN hv] at h;have e:m+v=V+b^n*(m/b^n%b+cy):=by
  rw[iC,bW (b^n) cy];omega
 have hp:0<b^n:=O1;rw[e,yV,iE,aN hV,mS _ _ hp,eJ hV,fH]
attribute [local irreducible] PV StepF wpl wpd WP Ret
theorem c78(A m C vl:List Nat)(G g c cu cv:Nat)(sv:Option Addr)(w:World)(o:Obj)(ho:w.heap[g]? =some o)(sw:(qG eW 208 1 (Ad g) c (A++m++C)).2 o)(sa:SVL (Ad g) c (A++m++C))
  (hs:SlAt w 1 eW sv vl) (xr:∀b o,sv=some ⟨b,o,none⟩→b≠g) (sf:Bd 4294967296 m) (sh:Bd 4294967296 vl) (se:m.length=vl.length+1) (hG:G≤4294967296) (hl:vl.length≤10000000000000):
  Rt 252 [.slice (some ⟨g,0+A.length*1,none⟩) (vl.length+1) cu,.slice sv vl.length cv,.int .u64 (G:Int)] w (fun v w'=>∃z B,v= .bool (decide (((B:Nat):Int)=1))∧B≤1∧z.length=m.length∧Bd 4294967296 z∧val 4294967296 z+G*val 4294967296 vl=val 4294967296 m+B*4294967296^(vl.length+1)∧Keeps [g] w w'∧∃o,w'.heap[g]? =some o∧(qG eW 208 1 (Ad g) c (A++z++C)).2 o):=by
 have sn:=kK sh;have su:=kK sf;rw[se] at su;refine Ret.j9 func252 O ntmps252 O ?_;have hp:Hp w [g] w [qG eW 208 1 (some _) c _]:=Hp.q8 Hp.start O4 ho sw O4;refine qA (jI8 [7,8,9,10,11,15,16,17,18,19,20,21,22,23,24,25,26,27,28,29,30,31,32,33,34,35,36,37,38,39,40,41,42,43,44,45] (fun(i cy bo:Nat) _z F=>((F.put 15 (.int _ i)).put 7 (.int _ cy)).put 8 (.int _ bo))
  (fun i cy bo z w'=>i≤vl.length∧z.length=vl.length+1∧Bd 4294967296 z∧Tl z m i∧cy<4294967296∧bo<2∧val 4294967296 (z.take i)+G*(val 4294967296 vl%4294967296^i)=val 4294967296 m%4294967296^i+(cy+bo)*4294967296^i∧SVL _ c (A++z++C)∧Hp w _ w' [qG eW 208 1 _ c (A++z++C)])
  (fun i _ _ _=>vl.length-i) 0 0 0 m (qB (qB (qB (Same.eq .refl) O) O) O) ⟨O1,se,sf,O,O2,O2,by simp[val,mC],sa,hp⟩ ?_)
 clear hp sa ho sw;rintro u i cy bo z w3 ⟨hi,x2,x1,so,si,sy,x0,hv,hp⟩;refine tI (fun h2=>?_) fun h2=>?_
 ·have hh:i<vl.length:=O1;have zm:i<vl.length+1:=O1;have xz:i<z.length:=O1;have yd:i<m.length:=O1;obtain⟨b0,o0,hs0,yq⟩:=hs.base O1;have ss:=xr b0 o0 hs0;have yp:=hp.old (yq i _ (aA hh) 0 _ O) (by grind);have h3:=sh.get hh;have hg:=qIf sh hh;generalize vl[i]=dv at yp h3 hg;have yc:=zS hp 0 O hv (fun _=>O) (qIi xz) 0 _ O;have sq:=so.get xz yd;have sj:=qIf sf yd;have yg:=x1.get xz;rw[←sq] at sj;generalize z[i]=du at yc sj yg;have yc:w3.cell? ⟨g,0+A.length*1+i*1,none⟩=some (.int .u32 du):=by
   exact mDy
  have hT:=jCf si hG h3;have s5:G*dv<18446744073709551616:=O1;have s4:∃T,T=cy+G*dv:=⟨_,O⟩;obtain⟨T,s3⟩:=s4;refine qA (tR (qI0 O O s5) ?_);refine wlp (uU O O hT) (qF (b:=T) (by rw[s3])) ?_;rw[←s3] at hT;refine qA (wlp (qLy (k:=32) O O hT O O2) (qF (b:=(T%4294967296:Nat)) O) ?_);refine tR (qA6 O O O1) (qA ?_);refine tR (qA6 O O O1) ?_;have hD:∃D z0,D=qGq (qGq du (T%4294967296)) bo∧z0=D%4294967296:=⟨_,_,O,O⟩;obtain⟨D,z0,sx,zv⟩:=hD;rw[←sx];unfold qGq at sx;refine qA ?_;refine tO (qHv eW _ (A.length+i) _ hp 0 O hv (by grind) O O1 O (fun _=>O) O O (qD O)) fun w4 hp=>?_;have hv:=hv.set (A.length+i) (D%4294967296);rw[qFz xz] at hv;simp only[sAo] at hp;rw[qFz xz,←zv] at hp;rw[←zv] at hv;refine qA ?_;refine wlp (xP O O O2) (qF (b:=(D/9223372036854775808:Nat)) O) (qA ?_);refine wlp (xP O O O2) (qF (b:=(T/4294967296:Nat)) O) (tB ?_);refine qA ?_;refine⟨_,_,_,_,qB O5 O,⟨O1,?_,x1.set O1,so.set xz yd,O1,O1,?_,hv,hp⟩,O1⟩
  ·grind
  rw[yM xz];refine jAc x0 (T:=T) (lo:=T%4294967296) (by grind) O1 ?_;omega
 obtain rfl:i=vl.length:=O1;have zm:vl.length<vl.length+1:=O1;have xz:vl.length<z.length:=O1;have yd:vl.length<m.length:=O1;have yc:=zS hp 0 O hv (fun _=>O) (qIi xz) 0 _ O;have sq:=so.get xz yd;have sj:=qIf sf yd;have yg:=x1.get xz;rw[←sq] at sj;generalize z[vl.length]=du at yc sj yg;have yc:w3.cell? ⟨g,0+A.length*1+vl.length*1,none⟩=some (.int .u32 du):=by
  exact mDe
 refine qA ?_;refine tR (qA6 O O O1) (qA ?_);refine tR (qA6 O O O1) ?_;have hD:∃D z0,D=qGq (qGq du cy) bo∧z0=D%4294967296:=⟨_,_,O,O⟩;obtain⟨D,z0,sx,zv⟩:=hD;rw[←sx];unfold qGq at sx;refine qA ?_;refine tO (qHv eW _ (A.length+vl.length) _ hp 0 O hv (by grind) O O1 O (fun _=>O) O O (qD O)) fun w4 hp=>?_;rw[qFz xz,←zv] at hp;refine qA ?_;refine wlp (xP O O O2) (qF (b:=(D/9223372036854775808:Nat)) O) (qA ?_);refine qM O O ⟨_,O,_,_,O,O1,?_,x1.set O1,?_,hp.C,hp.has 0 _ O g O⟩
 ·grind
 have h1:=yM (b:=4294967296) (d:=z0) xz;rw[bR (by grind)] at h1;rw[h1];refine jCg x0 sn su ?_;omega
theorem c79(A m C vl:List Nat)(g c cu cv:Nat)(sv:Option Addr)(w:World)(o:Obj)(ho:w.heap[g]? =some o)(sw:(qG eW 208 1 (Ad g) c (A++m++C)).2 o)(sa:SVL (Ad g) c (A++m++C))
  (hs:SlAt w 1 eW sv vl) (xr:∀b o,sv=some ⟨b,o,none⟩→b≠g) (sf:Bd 4294967296 m) (sh:Bd 4294967296 vl) (se:m.length=vl.length+1) (hl:vl.length≤10000000000000):
  Rt 253 [.slice (some ⟨g,0+A.length*1,none⟩) (vl.length+1) cu,.slice sv vl.length cv] w (fun _ w'=>∃z,z.length=m.length∧Bd 4294967296 z∧val 4294967296 z=(val 4294967296 m+val 4294967296 vl)%4294967296^(vl.length+1)∧Keeps [g] w w'∧∃o,w'.heap[g]? =some o∧(qG eW 208 1 (Ad g) c (A++z++C)).2 o):=by
 have sn:=kK sh;have su:=kK sf;rw[se] at su;refine Ret.j9 func253 O ntmps253 O ?_;have hp:Hp w [g] w [qG eW 208 1 (some _) c _]:=Hp.q8 Hp.start O4 ho sw O4;refine qA (kS [4,5,6,9,10,11,12,13,14,15,16,17,18,19,20,21,22,23,24,25,26,27,28,29,30,31] (fun(i cy:Nat) _z F=>(F.put 9 (.int _ i)).put 4 (.int _ cy))
  (fun i cy z w'=>i≤vl.length∧z.length=vl.length+1∧Bd 4294967296 z∧Tl z m i∧cy<2∧val 4294967296 (z.take i)+cy*4294967296^i=val 4294967296 m%4294967296^i+val 4294967296 vl%4294967296^i∧SVL _ c (A++z++C)∧Hp w _ w' [qG eW 208 1 _ c (A++z++C)])
  (fun i _ _=>vl.length-i) 0 0 m (qB (qB (Same.eq .refl) O) O) ⟨O1,se,sf,O,O2,by simp[val,mC],sa,hp⟩ ?_)
 clear hp sa ho sw;rintro u i cy z w3 ⟨hi,x2,x1,so,si,x0,hv,hp⟩;refine tI (fun h2=>?_) fun h2=>?_
 ·have hh:i<vl.length:=O1;have zm:i<vl.length+1:=O1;have xz:i<z.length:=O1;have yd:i<m.length:=O1;obtain⟨b0,o0,hs0,yq⟩:=hs.base O1;have ss:=xr b0 o0 hs0;have yp:=hp.old (yq i _ (aA hh) 0 _ O) (by grind);have h3:=sh.get hh;have hg:=qIf sh hh;generalize vl[i]=dv at yp h3 hg;have yc:=zS hp 0 O hv (fun _=>O) (qIi xz) 0 _ O;have sq:=so.get xz yd;have sj:=qIf sf yd;have yg:=x1.get xz;rw[←sq] at sj;generalize z[i]=du at yc sj yg;have yc:w3.cell? ⟨g,0+A.length*1+i*1,none⟩=some (.int .u32 du):=by
   exact mDy
  refine gAb ?_;refine tR (uU O O O1) ?_;refine qA ?_;refine tO (qHv eW _ (A.length+i) _ hp 0 O hv (by grind) O O1 O (fun _=>O) O O (qD O)) fun w4 hp=>?_;have hv:=hv.set (A.length+i) ((cy+(du+dv))%4294967296);rw[qFz xz] at hv;rw[qFz xz] at hp;refine gAc ?_;refine⟨_,_,_,qB O5 O,⟨O1,?_,x1.set O1,so.set xz yd,O1,?_,hv,hp⟩,O1⟩
  ·grind
  rw[yM xz];refine qNh x0 ?_;omega
 obtain rfl:i=vl.length:=O1;have zm:vl.length<vl.length+1:=O1;have xz:vl.length<z.length:=O1;have yd:vl.length<m.length:=O1;have yc:=zS hp 0 O hv (fun _=>O) (qIi xz) 0 _ O;have sq:=so.get xz yd;have sj:=qIf sf yd;have yg:=x1.get xz;rw[←sq] at sj;generalize z[vl.length]=du at yc sj yg;have yc:w3.cell? ⟨g,0+A.length*1+vl.length*1,none⟩=some (.int .u32 du):=by
  exact mDe
 refine qA ?_;refine wlp (xW O O) (qF (by rw[aN (show cy<4294967296 by omega)])) (qA ?_);refine tO (qHv eW _ (A.length+vl.length) _ hp 0 O hv (by grind) O O1 O (fun _=>O) O O (qD O)) fun w4 hp=>?_;rw[qFz xz] at hp;refine qA ?_;refine xK O ⟨_,O,_,?_,x1.set O1,?_,hp.C,hp.has 0 _ O g O⟩
 ·grind
 have h1:=yM (b:=4294967296) (d:=(du+cy)%4294967296) xz;rw[bR (by grind)] at h1;have hV:=by
  have:=kK (x1.take vl.length);rwa[bV,eM O1] at this
 rw[h1,sj];exact jJp O2 x0 hV sn su
end
section
open Go.Eng Go.Dig
variable{G v2 v1 T P u v q b u3 u2 X r rest U Y:Nat}{l:List Nat}{k:Nat}
theorem qU6{_b:Nat}(hq:q=u/v)(hu:u<(u3+1)*P)(hv:v2*P≤v)(h:u3<G*v2):q+1≤G:=by
 subst hq;have h1:(u3+1)*P≤_:=aL P h;have h2:G*v2*P≤G*v:=by rw[fK];exact dK G hv
 have h3:u<G*v:=O1
 exact(dU (by
  grind)).2 h3
theorem jFp(hq:q=u/v)(s6:0<v)(hu:u3*P≤u)(hv:v≤(v2+1)*P)(h:(G-1)*(v2+1)≤u3):G≤q+1:=by
 have h1:(G-1)*v≤_:=dK _ hv;have h2:=aL P h;rw[fK] at h2;have h3:G-1≤u/v:=(mL s6).2 O1;omega
theorem jX1(hT:G*v1+rest=T)(hG:G≤b)(s7:0<v1)(h:G*v2≤rest*b+u2):(G-1)*(v1*b+v2+1)≤T*b+u2:=by
 have e1:(G-1)*(v1*b+v2+1)≤G*(v1*b+v2):=by
  rcases dH G with h0|h0
  ·grind
  obtain⟨k,rfl⟩:∃k,G=k+1:=⟨G-1,O1⟩;simp only[pE];rw[iC,fE,oB,lR];have h1:1*b≤v1*b:=aL b s7;omega
 have e2:G*(v1*b+v2)=G*v1*b+G*v2:=by rw[iC,fK]
 rw[←hT,fE];omega
theorem jX0(hT:G*v1+rest=T)(hG:G≤b+1)(s8:v2<b)(h:b≤rest):(G-1)*(v1*b+v2+1)≤T*b+u2:=by
 have h1:(G-1)*(v1*b+v2+1)≤_*(v1*b+b):=dK _ O1;have h2:(G-1)*(v1*b+b)=(G-1)*v1*b+(G-1)*b:=by rw[iC,fK]
 have h3:(G-1)*v1*b≤G*v1*b:=aL _ (aL _ O1);have h4:(G-1)*b≤rest*b:=aL _ O1;rw[←hT,fE];omega
theorem jFr{Ua:Nat}(hU:U=Ua+X*P)(s9:Ua<P):U<(X+1)*P∧X*P≤U:=by
 grind
theorem jQ6{V:Nat}(h1:X*P≤U)(h2:V≤Y*P)(h3:U<V*b):X<Y*b:=by
 have h4:=aL b h2;rw[pG] at h4;exact mH (bY h1 O1)
theorem jFq{B:Nat}(sD:G*v1+r=T)(hd:q+1≤G)(hB:G≤B):q≤G-1∧G-1≤B∧(G-1)*v1+(r+v1)=T:=by
 obtain⟨j,rfl⟩:∃j,G=j+1:=⟨G-1,O1⟩;grind
theorem jWz(sD:G*v1+r=T)(hX:X=G*v2)(hY:Y=r*b+u)(h:Y<X):T*b+u<G*(v1*b+v2):=by
 rw[iC,←fK,←hX,←sD,fE];omega
theorem jV8(hr:r≤4294967295):r*2^32<18446744073709551616:=by
 omega
theorem jWk(hG:G≤4294967295)(hv:v<4294967296):G*v<18446744073709551616:=by
 have:G*v≤_*4294967295:=cF hG O1;omega
theorem jBd{un u1:Nat}(hT:T=un*4294967296+u1)(sM:u1<4294967296)(sF:un≤v1)(s7:2147483648≤v1)(hv:v1<4294967296):T/v1≤4294967297:=by
 have:T/v1<4294967298:=by
  rw[dU O1];omega
 omega
theorem jL2(hq:q=u/v)(hu:u<(u3+1)*P)(sX:u3=T*4294967296+u2)(sO:u2<4294967296)(hv:(v1*4294967296+v2)*P≤v)(s7:0<v1):q≤T/v1:=by
 have h1:=sU T s7;have h2:u3<(T/v1+1)*(v1*4294967296+v2):=by
  rw[iC,←fK,bW (T/v1+1) v1];generalize v1*(T/v1+1)=X at h1;have:=bN ((T/v1+1)*v2);omega
 have:=qU6 (_b:=0) hq hu hv h2;omega
theorem jNx(hb:Bd 4294967296 l)(hl:l.length=k+3)(h1:k<l.length)(h2:k+1<l.length)(h3:k+2<l.length):val 4294967296 l=val 4294967296 (l.take k)+4294967296^k*(l[k]+4294967296*(l[k+1]+4294967296*l[k+2]))∧val 4294967296 (l.take k)<4294967296^k:=by
 have e:=qAz 4294967296 l k O1;rw[aX h1,aX h2,aX h3,nJ O1] at e;have hg:=kK (hb.take k);rw[bV,eM O1] at hg;refine⟨?_,hg⟩;rw[e];simp[val]
theorem jNy(hb:Bd 4294967296 l)(h1:k<l.length)(h2:k+1<l.length):val 4294967296 (l.take (k+2))=val 4294967296 (l.take k)+4294967296^k*(l[k]+4294967296*l[k+1])∧val 4294967296 (l.take k)<4294967296^k:=by
 have e1:=qGv 4294967296 l k h1;have e2:=qGv 4294967296 l _ h2;have hl:=kK (hb.take k);grind
attribute [local irreducible] PV StepF wpl wpd WP Ret
theorem c77(m vl:List Nat)(k cu cv:Nat)(su sv:Option Addr)(w:World)(hm:SlAt w 1 eW su m)(hs:SlAt w 1 eW sv vl)(sf:Bd 4294967296 m)(sh:Bd 4294967296 vl)(se:m.length=k+3)(sa:vl.length=k+3)(hk:k≤10000000000000)
  (hl:val 4294967296 m<val 4294967296 (vl.take (k+2))*4294967296) (tf:∀h:k+1<vl.length,2147483648≤vl[k+1]):
  Rt 251 [.slice su (k+3) cu,.slice sv (k+3) cv] w (fun v w'=>∃G,v= .int .u64 ((G:Nat):Int)∧val 4294967296 m/val 4294967296 (vl.take (k+2))≤G∧G≤val 4294967296 m/val 4294967296 (vl.take (k+2))+1∧Keeps [] w w'):=by
 have k0:k<k+3:=O1;have k1:k+1<k+3:=O1;have k2:k+2<k+3:=O1;have um:=jNx sf se O1 O1 O1;have vm:=jNy sh (k:=k) O1 O1;have tf:=tf O1;obtain⟨b0,o0,hs0,yq⟩:=hm.base O1;have c8:=yq k _ (aA O1) 0 _ O;have c7:=yq (k+1) _ (aA O1) 0 _ O;have cy:=yq (k+2) _ (aA O1) 0 _ O;have be:=sf.get (i:=k) O1;have bf:=sf.get (i:=k+1) O1;have bh:=sf.get (i:=k+2) O1;obtain⟨b1,o1,hg,sY⟩:=hs.base O1;have c5:=sY k _ (aA O1) 0 _ O;have c4:=sY (k+1) _ (aA O1) 0 _ O;have bc:=sh.get (i:=k) O1;have bg:=sh.get (i:=k+1) O1;generalize m[k]'_=u0 at um c8 be;generalize m[k+1]'_=u1 at um c7 bf;generalize m[k+2]'_=u2 at um cy bh;generalize vl[k]'_=v0 at vm c5 bc;generalize vl[k+1]'_=v1 at vm c4 bg tf;generalize val 4294967296 m=U at*
 generalize val 4294967296 _=V at*
 generalize val 4294967296 _=Ua at*
 generalize val 4294967296 _=Va at*
 have hP:∃P,P=4294967296^k:=⟨_,O⟩;obtain⟨P,tw⟩:=hP;have ti:0<P:=by rw[tw];exact gJ O2
 rw[←tw] at um vm;obtain⟨hU,s9⟩:=um;obtain⟨hV,ub⟩:=vm;obtain⟨T,hT⟩:∃T,T=u2*4294967296+u1:=⟨_,O⟩;have e3:u0+4294967296*(u1+4294967296*u2)=T*4294967296+u0:=O1;have e2:v0+4294967296*v1=v1*4294967296+v0:=O1;rw[e3,bW] at hU;rw[e2,bW] at hV;obtain⟨tj,tr⟩:=jFr hU s9;obtain⟨ud,tz⟩:=jFr hV ub;have tt:=oN ud;have tu:0<V:=O1;have sF:u2≤v1:=by
  have h1:=jQ6 tr tt hl;omega
 have tc:=(dU tu).2 (by rw[bW];exact hl);obtain⟨q,hq⟩:∃q,q=U/V:=⟨_,O⟩;rw[←hq] at tc⊢;have tq:=jBd hT bf sF tf bg;have ua:=jL2 hq tj O be tz O1;have uc:T<18446744073709551616:=O1;have tv:0<v1:=O1;have yf:u2*2^32<18446744073709551616:=by
  rw[show(2:Nat)^32=4294967296 from by decide];omega
 refine tW func251 ntmps251 fun hp=>?_;refine tM (k+2) ?_;refine tY fun hp=>?_;refine qX (tP (fun w hp=>qB7 (b:=32) O O O2 yf) ?_);refine qX ?_;refine tN (k+1) ?_;refine qX ?_;refine wdp O (fun w hp=>qG2 O O yf O1) (qF (b:=T) (by rw[rV,qHg bf,hT,oM])) (qX ?_);refine qU (tY fun hp=>?_);refine qX ?_;refine tN (k+1) ?_;refine qX ?_;refine tP (fun w hp=>qLx O O tv uc) (qX ?_);refine tN (k+1) ?_;refine qX ?_;refine tP (fun w hp=>qLw O O tv) ?_;refine qX (qU ?_);refine qA (kT [7,8,41,42,43,44,45,46,47,48,49,50,51,52,53,54,55,56,57,58,59,60,61,62,63,64,65,66,67,68,69,70,71,72,73,74] (fun(G r:Nat) F=>(F.put 7 (.int _ G)).put 8 (.int _ r))
  (fun G r w'=>q≤G∧G≤4294967297∧G*v1+r=T∧Hp w [] w' []) (fun G _=>G) _ _ (qB (qB (Same.eq .refl) O) O) ⟨ua,tq,by rw[bW];exact fV T v1,hp⟩ ?_)
 clear hp;rintro u G r w1 ⟨zto,tp,sD,hp⟩;refine tI (fun h=>?_) fun h=>?_
 ·have hr:r≤4294967295:=O1;have down:=fun hd=>jFq (q:=q) sD hd tp
  have tx:=jV8 hr;refine tY fun hp=>?_;by_cases tk:G≤4294967295
  ·have hmul:=jWk tk bc;obtain⟨X,hX⟩:∃X,X=G*v0:=⟨_,O⟩;rw[←hX] at hmul;obtain⟨Y,hY⟩:∃Y,Y=r*4294967296+u0:=⟨_,O⟩;refine tP (fun w hp=>qP) ?_;refine wdp O (fun w hp=>uG O O) (qV (aD O1)) (xA ?_);refine tN k ?_;refine xA ?_;apply yG;exact O;exact O;exact O;intro w hp;exact qI0 O O O1;exact qF (b:=X) (by rw[hX]);refine xA ?_;apply yG;exact O;exact O;exact O;intro w hp;exact qB7 (b:=32) O O O2 tx;exact fI O;refine xA ?_;refine tN k ?_;refine xA ?_;apply yG;exact O;exact O;exact O;intro w hp;exact qG2 O O tx O1;exact qF (b:=Y) (by rw[rV,qHg be,hY,oM]);refine xA (qU ?_);refine tI (fun h3=>?_) fun h3=>?_
   ·have tg:=jFp hq tu tr tt (jX1 sD O1 tv O1);refine tV ?_;exact⟨_,O,G,O,zto,tg,hp.C⟩
   have th:=by
    exact qU6 (_b:=0) hq tj tz (jWz (b:=4294967296) sD hX hY O1)
   obtain⟨te,yu,yv⟩:=down th;refine qA ?_;exact mBc
  obtain⟨te,yu,yv⟩:=down O1;refine tP (fun w hp=>qP) ?_;refine wdp O (fun w hp=>uG O O) (qV (aB O1)) (xA ?_);refine qU (qA ?_);refine tJ ?_;exact mBc
 have tg:=jFp hq tu tr tt (jX0 sD tp bc O1);refine tV ?_;exact⟨_,O,G,O,zto,tg,hp.C⟩
end
section
open Go.Eng Go.Dig
variable{A:List Nat}{v n b:Nat}{m C:List Nat}{M Z q y t G:Nat}{w:World}{g:Nat}
theorem jP4{s:Nat}(ht:y/4294967296^n%4294967296=t)(hy:y<4294967296^(n+1))(hs:s≤31)(h1:2147483648≤t*2^s)(h2:t*2^s<4294967296):2147483648≤y*2^s/4294967296^n∧y*2^s<4294967296^(n+1):=by
 have hp:0<4294967296^n:=O1;have hl:y/4294967296^n<4294967296:=by
  rw[dU hp,bW,←dD];exact hy
 rw[aN hl] at ht;rw[dD];generalize 4294967296^n=P at*
 have h3:t*P≤y:=by rw[←ht];exact oY y P
 have h4:y<P*(t+1):=by rw[←ht];exact sU y hp
 constructor
 ·refine bL h1 ?_;rw[mL hp,pG];exact aL _ h3
 have e:4294967296=2^(32-s)*2^s:=by rw[←dW,show 32-s+s=32 from by omega]
 have h5:=by
  rw[e] at h2;exact mH h2
 rw[e,←fK];exact(oA (gJ O2)).2 (cJ h4 (dK _ h5))
theorem jO3{U:List Nat}{j:Nat}(h:j+n≤U.length):∃A m C,U=A++m++C∧A.length=j∧m.length=n:=by
 refine⟨U.take j,(U.drop j).take n,(U.drop j).drop n,?_,by grind,by grind⟩;rw[bQ,eO,eO]
theorem qXn:val b (A++m++C)=val b A+b^A.length*val b m+b^A.length*b^m.length*val b C:=by
 rw[vT,vT,aY,dW]
theorem jL4(hb:0<b)(hm:m.length=n+1)(hv:v<b^n)(h:val b (A++m++C)<v*b^(A.length+1)):val b C=0∧val b m<v*b∧val b (A++m++C)=val b A+b^A.length*val b m:=by
 have e:=qXn (b:=b) (A:=A) (m:=m) (C:=C);rw[hm] at e;have hC:val b C=0:=by
  rcases dH (val b C) with h0|h0
  ·exact h0
  have h1:b^A.length*b^(n+1)*1≤b^A.length*b^(n+1)*val b C:=dK _ h0;have h2:v*b^(A.length+1)≤b^A.length*b^(n+1):=by
   rw[dD,dD,←fK,←fK,bW v];exact aL _ (dK _ (oN hv))
  omega
 rw[hC,sBh,iF] at e;refine⟨hC,?_,e⟩;rw[e,dD,←fK,pG] at h;have h3:val b m*b^A.length<v*b*b^A.length:=by
  have:b^A.length*val b m=val b m*b^A.length:=bW _ _;omega
 exact mH h3
theorem jH9(hA:Bd b A)(hv:0<v)(hz:Z=M%v)(hq:q=M/v):val b A+b^A.length*Z+v*(b^A.length*q)=val b A+b^A.length*M∧val b A+b^A.length*Z<v*b^A.length:=by
 have h1:=kK hA;have h2:=fV M v;rw[←hz,←hq] at h2;have h3:Z<v:=by rw[hz];exact dG _ hv
 generalize b^A.length=P at*
 constructor
 ·grind
 have h4:P*(Z+1)≤P*v:=dK P h3;grind
theorem zDb(hv:0<v)(hq:q=M/v)(h1:q≤G)(h:Z+G*v=M):G=q∧Z=M%v:=by
 have h2:G≤M/v:=(mL hv).2 O1;have h4:=fV M v;grind
theorem zDa{P:Nat}(hv:0<v)(hq:q=M/v)(h1:G≤q+1)(hZ:Z<P)(ue:v≤P)(h:Z+G*v=M+P):G=q+1∧(Z+v)%P=M%v:=by
 have h2:M<G*v:=O1;have h3:=(dU hv).2 h2;have h4:G=q+1:=O1;refine⟨h4,?_⟩;have h5:=fV M v;rw[←hq,bW] at h5;rw[h4,fE,lR] at h;have h6:Z+v=P+M%v:=O1;rw[h6,Nat.add_mod_left,aN O1]
theorem jL5{x R Q:Nat}(hy:0<y)(h:R+y*2^t*Q=x*2^t)(hR:R<y*2^t):Q=x/y∧R/2^t=x%y:=by
 have hp:0<2^t:=gJ O2;have uf:0<y*2^t:=O1;have h1:(R+y*2^t*Q)/(y*2^t)=Q:=by rw[mS _ _ uf,eJ hR,fH]
 rw[h,Nat.mul_div_mul_right _ _ hp] at h1;have h2:(R+y*2^t*Q)%(y*2^t)=R:=by rw[iE,aN hR]
 rw[h,Nat.mul_mod_mul_right] at h2;refine⟨h1.symm,?_⟩;rw[←h2,Nat.mul_div_cancel _ hp]
theorem Hp.aC3{w0 w':World}{M:List Nat}{L:List Ent}(h:Hp w0 M w L)(i:Nat){c:Nat}{l l':List Nat}(hi:L[i]? =some (qG eW 208 1 (Ad g) c l))(hk:Keeps [g] w w')
  (ho:∃o,w'.heap[g]? =some o∧(qG eW 208 1 (Ad g) c l').2 o):Hp w0 M w' (L.set i (qG eW 208 1 (Ad g) c l')):=
 h.o8 hi hk (by
  intro q hq;have:q=g:=by
   have h2:(some g:Option Nat)=some q:=hq;simpa[eq_comm] using h2
  subst this
  exact⟨.inl O,ho⟩)
theorem jIc(h:SlAt w 1 eW (Ad g) (A++m++C)):SlAt w 1 eW (some ⟨g,0+A.length*1,none⟩) m:=by
 intro i x hx;have hl:=(aH.1 hx).1;have hg:=qIi (A:=A) (C:=C) hl;rw[←aA,hx] at hg;obtain⟨b,o,hs,hc⟩:=h _ x hg;grind
attribute [local irreducible] PV StepF wpl wpd WP Ret
theorem zGg(x y:Nat)(s s2:Option Addr)(c c2:Nat)(w:World)(hx:DA w x s c)(hy:DA w y s2 c2)(hl:x<y):
  Rt 172 [.slice s (dN x).length c,.slice s2 (dN y).length c2] w (fun v w'=>∃s' c' s3 c3,v= .tuple #[.slice s' (dN (x/y)).length c',.slice s3 (dN (x%y)).length c3]∧DA w' (x/y) s' c'∧DA w' (x%y) s3 c3∧Keeps [] w w'):=by
 rw[eJ hl,aN hl];refine tW func172 ntmps172 fun hp=>?_;refine tD (c71 x y s s2 c c2 _ hx hy) fun w1 hp=>?_;rw[if_pos hl];refine qA (jB O ?_);refine qA ?_;exact xU O O O ⟨_,O,_,0,s,c,O,DA.zero _,hx.j5 hp.C,hp.C⟩
theorem zGf(x y:Nat)(s s2:Option Addr)(c c2:Nat)(w:World)(hx:DA w x s c)(hy:DA w y s2 c2)(ug:0<y)(yw:y≤x)(hl:(dN x).length≤2):
  Rt 172 [.slice s (dN x).length c,.slice s2 (dN y).length c2] w (fun v w'=>∃s' c' s3 c3,v= .tuple #[.slice s' (dN (x/y)).length c',.slice s3 (dN (x%y)).length c3]∧DA w' (x/y) s' c'∧DA w' (x%y) s3 c3∧Keeps [] w w'):=by
 have ui:x<18446744073709551616:=qAh hl;have uj:y<18446744073709551616:=O1;refine tW func172 ntmps172 fun hp=>?_;refine tL (c71 x y s s2 c c2 _ hx hy) ?_;rintro _ w1 ⟨rfl,hk⟩;have hp:=hp.call hk;refine wlp (zQ O O) (qV (aB O1)) (qA ?_);refine tJ ?_;refine qH O (fun _=>?_) O1;refine tL (c58 x s c _ ui (hx.j5 hp.C)) ?_;rintro _ w2 ⟨rfl,hk⟩;have hp:=hp.call hk;refine tL (c58 y s2 c2 _ uj (hy.j5 hp.C)) ?_;rintro _ w3 ⟨rfl,hk⟩;have hp:=hp.call hk;refine tY fun hp=>?_;refine qX (tP (fun w hp=>qLx O O ug ui) ?_);refine tK (c39 _ _ (bY (fR x y) ui)) ?_;rintro _ w4 ⟨s3,c3,rfl,yv,hk⟩;have hp:=hp.call hk;refine⟨hp,qX (tP (fun w hp=>qLw O O ug) ?_)⟩;refine tK (c39 _ _ (bY (rN x y) ui)) ?_;rintro _ w5 ⟨s4,c4,rfl,uh,hk⟩;have hp:=hp.call hk;have yv:=yv.j5 hk;refine⟨hp,qX (qU ?_)⟩;exact mE7
theorem zGe(x y:Nat)(s s2:Option Addr)(c c2:Nat)(w:World)(hx:DA w x s c)(hy:DA w y s2 c2)(yw:y≤x)(hl:2<(dN x).length)(um:(dN x).length≤10000000000000)(un:(dN y).length=1):
  Rt 172 [.slice s (dN x).length c,.slice s2 (dN y).length c2] w (fun v w'=>∃s' c' s3 c3,v= .tuple #[.slice s' (dN (x/y)).length c',.slice s3 (dN (x%y)).length c3]∧DA w' (x/y) s' c'∧DA w' (x%y) s3 c3∧Keeps [] w w'):=by
 have uk:y<4294967296:=qAh (i:=1) O1;have ug:0<y:=by
  rcases dH y with h|h
  ·subst h;simp[qKz] at un
  exact h
 have hm:x%y<y:=dG _ ug;have ul:x%y<4294967296:=O1;have uo:0<(dN y).length:=O1;obtain⟨b0,o0,hs0,yq⟩:=hy.at_.base uo;have yp:=yq 0 _ (aA uo) 0 _ O;have hg:=qA9 uo;rw[nK,sA0,aN uk] at hg;rw[hg] at yp;refine tW func172 ntmps172 fun hp=>?_;refine tL (c71 x y s s2 c c2 _ hx hy) ?_;rintro _ w1 ⟨rfl,hk⟩;have hp:=hp.call hk;refine wlp (zQ O O) (qV (aB O1)) (qA ?_);refine tJ ?_;refine qH O O1 (fun _=>qA ?_);refine qH O (fun _=>?_) O1;refine tL (c74 x y s c _ (hx.j5 hp.C) um ug uk) ?_;rintro _ w2 ⟨s3,c3,rfl,yv,hk⟩;have hp:=hp.call hk;refine tL (c39 (x%y) _ O1) ?_;rintro _ w5 ⟨s4,c4,rfl,uh,hk⟩;have hp:=hp.call hk;have yv:=yv.j5 hk;exact mE7
end
section
open Go.Eng Go.Dig
variable{l:List Nat}{j b d:Nat}
theorem qSm(hj:j<l.length)(h0:l[j]=0):val b (l.set j d)=val b l+b^j*d:=by
 have:=qFw b l j d hj;grind
theorem qGx(h:l.take (j+1)=replicate (j+1) 0):(l.set j d).take j=replicate j 0:=by
 rw[rS,mY (by grind)];have:=aQ (List.take j) h;grind
theorem jIi(h:l.take (j+1)=replicate (j+1) 0)(hj:j<l.length):l[j]=0:=by
 have h1:(l.take (j+1))[j]? =some l[j]:=by rw[nL,if_pos O1,aA hj]
 grind
theorem jHb(b v n:Nat):(dg b v (n+1)).take n=dg b v n:=by
 rw[qKy,sBm (qAw b n v)]
theorem qPs{n:Nat}(_hb:0<b)(hl:n≤l.length)(h:val b l<b^n):val b (l.take n)=val b l:=by
 have e:=qAz b l n hl;rcases dH (val b (l.drop n)) with h0|h0
 ·grind
 have:b^n*1≤_:=dK _ h0;omega
theorem jAi:Tryz.prog.underlying 137=some (.slice 208)∧TSize Tryz.prog 208 1:=zK O
attribute [local irreducible] PV StepF wpl wpd WP Ret
theorem zGd(x y k e:Nat)(s s2:Option Addr)(c c2:Nat)(w:World)(hx:DA w x s c)(hy:DA w y s2 c2)(yw:y≤x)(um:(dN x).length=k+2+e)(un:(dN y).length=k+2)(hl:2<k+2+e)(vh:k+2+e≤10000000000000):
  Rt 172 [.slice s (k+2+e) c,.slice s2 (k+2) c2] w (fun v w'=>∃s' c' s3 c3,v= .tuple #[.slice s' (dN (x/y)).length c',.slice s3 (dN (x%y)).length c3]∧DA w' (x/y) s' c'∧DA w' (x%y) s3 c3∧Keeps [] w w'):=by
 have ug:0<y:=by
  rcases dH y with h|h
  ·subst h;simp[qKz] at un
  exact h
 have dk:k+1<k+2:=O1;have vo:k+1<(dN y).length:=O1;have u2:=c71 x y s s2 c c2 w hx hy;rw[um,un] at u2;obtain⟨b0,o0,hs0,yq⟩:=hy.at_.base O1;have yp:=yq _ _ (aA vo) 0 _ O;have hg:=qA9 vo;have tk:=(qK7 y).get vo;have ux:0<(dN y)[k+1]:=by
  have u0:=qGe (b:=4294967296) O2 y ((dN y).take (k+1)) (dN y)[k+1] (by
   show dN y=_
   rw[←aG,bR O1])
  omega
 generalize (dN y)[k+1]=t at yp hg tk ux;have rf:y<_^(k+1+1):=qAh O1;refine tW func172 ntmps172 fun hp=>?_;refine tL u2 ?_;rintro _ w1 ⟨rfl,hk⟩;have hp:=hp.call hk;refine wlp (zQ O O) (qV (aB O1)) (qA ?_);refine tJ ?_;refine qH O O1 (fun _=>qA ?_);refine qH O O1 (fun _=>tM (k+1) ?_);refine tL (c75 t _ ux tk) ?_;rintro _ w2 ⟨sh,rfl,yf,u4,vm,hk⟩;have hp:=hp.call hk;obtain⟨zc,zi⟩:=jP4 hg.symm rf yf u4 vm;have vu:=c76 x sh s c w2 (hx.j5 hp.C) O1 yf;rw[um] at vu;refine tL vu ?_;rintro _ w3 ⟨gu,rfl,uy,rj⟩;have hp:=hp.join rj;have vt:=c76 y sh s2 c2 w3 (hy.j5 hp.C) O1 yf;rw[un] at vt;refine tL vt ?_;rintro _ w4 ⟨gv,rfl,sn,u3⟩;have hp:=hp.join u3;clear u2 vu vt rj u3;obtain⟨v,vd⟩:∃v,v=y*2^sh:=⟨_,O⟩;rw[←vd] at zc zi sn hp;have s6:0<v:=by rw[vd];exact iU ug (gJ O2)
 obtain⟨VL,u5⟩:∃VL,VL=dg 4294967296 v (k+2+1):=⟨_,O⟩;obtain⟨vl,sa⟩:∃vl,vl=VL.take (k+2):=⟨_,O⟩;have vq:vl=dg 4294967296 v (k+2):=by rw[sa,u5,jHb]
 have cY:VL.length=k+3:=by rw[u5,qAw]
 have ri:vl.length=k+2:=by rw[vq,qAw]
 have r3:Bd 4294967296 VL:=by rw[u5];exact qK6 O2 _ _
 have ru:Bd 4294967296 vl:=by rw[vq];exact qK6 O2 _ _
 have vz:val 4294967296 vl=v:=by rw[vq,qN0,aN zi]
 have tf:∀h,2147483648≤VL[k+1]:=by
  intro h;have h1:=qJh 4294967296 (k+2+1) v (k+1) O1;rw[←u5,aA h] at h1;have h2:VL[k+1]=v/4294967296^(k+1)%4294967296:=by simpa using h1
  have h3:v/4294967296^(k+1)<4294967296:=by
   rw[dU (gJ O2),bW,←dD];exact zi
  rw[h2,aN h3];exact zc
 rw[←u5] at sn hp;obtain⟨U0,u6⟩:∃U0,U0=dg 4294967296 (x*2^sh) (k+2+e+1):=⟨_,O⟩;have r0:U0.length=k+2+e+1:=by rw[u6,qAw]
 have vp:Bd 4294967296 U0:=by rw[u6];exact qK6 O2 _ _
 have vv:x<_^(k+2+e):=qAh O1;have vy:val 4294967296 U0=x*2^sh:=by
  rw[u6,qN0,aN];rw[dD];exact rK vv (bY (aR O2 yf) O2)
 have rv:val 4294967296 U0<v*4294967296^(e+1):=by
  have h1:=kK vp;rw[vy] at h1⊢;have h2:4294967296^(k+1)≤y:=by
   have:=oY y (4294967296^(k+1));have h3:1≤y/4294967296^(k+1):=by
    rcases dH (y/4294967296^(k+1)) with h0|h0
    ·omega
    exact h0
   have h4:1*4294967296^(k+1)≤y/4294967296^(k+1)*4294967296^(k+1):=aL _ h3;omega
  rw[vd,pG];refine(oA (gJ O2)).2 (cJ vv ?_);rw[show k+2+e=(k+1)+(e+1) from O1,dW];exact aL _ h2
 rw[←u6] at uy hp;clear u6 hg tk ux yp hs0 yq rf vv u4 vm;refine tM e ?_;refine tN (e+1) ?_;refine tF (yE eW 0 hp O O O O O O O O1 O) fun w5 gq⟨uw,hp⟩=>?_;have hp:Hp w [] w5 [_,_,_]:=hp;refine tM e ?_;refine qA ?_;refine kS [14,15,75,76,77,78,79,80,81,82,83,84,85,86,87,88,89,90,91,92,93,94,95,96,97,98,99,100,101,102,103,104,105,106,107,108,109,110,111,112,113,114,115,116,117] (fun(j:Nat) (_U _z) F=>F.put 14 (.int _ (j-1)))
  (fun j U z w'=>j≤e+1∧U.length=k+2+e+1∧Bd 4294967296 U∧z.length=e+1∧Bd 4294967296 z∧z.take j=replicate j 0∧val 4294967296 U+v*val 4294967296 z=x*2^sh∧val 4294967296 U<v*4294967296^j∧SVL _ _ U∧SVL _ _ z∧Hp w [] w' [qG eW 208 1 _ _ z,_,qG eW 208 1 _ _ U])
  (fun j _ _=>j) _ U0 _ (qB (Same.eq .refl) (qF O1)) ⟨O1,r0,vp,O4,wS O2 _,O4,by rw[qD8,vy];simp,rv,uy,uw,hp⟩ ?_
 clear hp uy uw r0 vp vy rv;rintro u j U z w6 ⟨hj,dm,va,x2,x1,zv,zk,tj,uy,uw,hp⟩;refine tI (fun h2=>?_) fun h2=>?_
 ·obtain⟨j,rfl⟩:∃j',j=j'+1:=⟨j-1,O1⟩;obtain⟨A,m,C,rfl,hA,se⟩:=jO3 (U:=U) (j:=j) (n:=k+3) O1;subst hA;have ej:(A.length+1:Nat)-1=(A.length:Int):=O1;rw[ej];have ul:=va.left.right;have vf:=va.left.left;have cX:=va.right;obtain⟨vc,di,da⟩:=jL4 O2 se zi tj;have dl:A.length<e+1:=O1;have vn:A.length<z.length:=O1;have rb:=jIi zv vn;have uv:=qZ hp 1 O sn (fun _=>O);have vr:=qZ hp 2 O uy (fun _=>O);have ve:=c77 m VL k (k+2+e+1-A.length) (k+2+1) _ _ w6 (jIc vr) uv ul r3 se cY O1 (by grind) tf;rw[←sa,vz] at ve;obtain⟨M,hM⟩:∃M,M=val 4294967296 m:=⟨_,O⟩;obtain⟨q,hq⟩:∃q,q=M/v:=⟨_,O⟩;rw[←hM] at ve di da;rw[←hq] at ve;have ut:q<4294967296:=by rw[hq];exact(dU s6).2 O1
  refine tM (A.length+(k+2)) ?_;refine tN (A.length+(k+2)+1) ?_;refine wlp (qAo jAi.1 jAi.2 O O O O1 O1 O1) (qGz (m':=k+3) O1) (tL ve ?_);rintro _ w7 ⟨G,rfl,zto,tp,hk⟩;have hp:=hp.call hk;refine qA ?_;refine jW jG O3 (fun _=>True) trivial ?_;have hp:=hp.N;have uv:=qZ hp 1 O sn (fun _=>O);have v1:SlAt w7.drew 1 eW (Ad gv) vl:=by rw[sa];exact qJp uv _
  have db:gv≠gu:=fun h=>hp.dis 1 2 _ _ O O O2 gv O (by rw[h];rfl)
  have xr:∀b o,(Ad gv:Option Addr)=some ⟨b,o,none⟩→b≠gu:=by
   rintro b o h;cases h;exact db
  obtain⟨o1,vx,cO⟩:=hp.has 2 _ O gu O;have rq:=c78 A m C vl G gu _ (k+2+e+1-A.length) (k+2+1) _ _ o1 vx cO uy v1 xr ul ru O1 O1 O1;rw[ri] at rq;refine qX ?_;refine tN (A.length+(k+2)) ?_;refine tN (A.length+(k+2)+1) ?_;refine wdp O (fun w hp=>qAo jAi.1 jAi.2 O O O O1 O1 O1) (qGz (m':=k+2+1) O1) (qX ?_);refine tP (fun w hp=>qBy O O O O1) (qX ?_);refine tK rq ?_;rintro _ w8 ⟨zz,B,rfl,hB,ry,vg,u7,hk,ho⟩;have hp:=Hp.aC3 hp 2 O hk ho;refine⟨trivial,qX (qU ?_)⟩;have rk:=kK vg;rw[ry,se] at rk;rw[vz,←hM] at u7;have key:∀z2:List Nat,z2.length=k+3→Bd 4294967296 z2→val 4294967296 z2=M%v→Bd 4294967296 (A++z2++C)∧val 4294967296 (A++z2++C)=val 4294967296 A+4294967296^A.length*(M%v):=by
   intro z2 h1 h2 h3;refine⟨(vf.aA1 h2).aA1 cX,?_⟩;rw[qXn,vc,h3];simp
  obtain⟨rm,dn⟩:=jH9 vf s6 O hq;refine qH O (fun vk=>?_) (fun dh=>?_)
  ·obtain rfl:B=1:=O1;rw[lR] at u7;obtain⟨rfl,vb⟩:=zDa s6 hq tp rk (oN (cJ zi (aR O2 O1))) u7;refine qA ?_;refine wlp (qA6 (b:=1) O O O2) (qF (b:=q) (by unfold qGq;omega)) (qA ?_);refine jW jG O3 (fun _=>True) trivial ?_;have hp:=hp.N;have uv:=qZ hp 1 O sn (fun _=>O);have v1:SlAt w8.drew 1 eW (Ad gv) vl:=by rw[sa];exact qJp uv _
   obtain⟨o2,vw,df⟩:=hp.has 2 _ O gu O;have dd:SVL (Ad gu) (k+2+e+1) (A++zz++C):=by
    unfold SVL at*
    rwa[show(A++zz++C).length=(A++m++C).length from by grind]
   have rz:=c79 A zz C vl gu _ (k+2+e+1-A.length) (k+2+1) _ _ o2 vw df dd v1 xr vg ru O1 O1;rw[ri,vz,vb] at rz;refine qX ?_;refine tN (A.length+(k+2)) ?_;refine tN (A.length+(k+2)+1) ?_;refine wdp O (fun w hp=>qAo jAi.1 jAi.2 O O O O1 O1 O1) (qGz (m':=k+2+1) O1) (qX ?_);refine tP (fun w hp=>qBy O O O O1) (qX ?_);refine tK rz ?_;rintro _ w9 ⟨z2,dj,cM,r2,hk,ho⟩;have hp:=Hp.aC3 hp 2 O hk ho;refine⟨trivial,qX (qU ?_)⟩;obtain⟨ra,vj⟩:=key z2 O1 cM r2;refine qA (tO (zL eW z A.length _ hp 0 O uw vn O O (fun _=>O) O O (qD O)) fun ur hp=>?_);rw[aN ut] at hp;refine gA0 ?_;refine⟨A.length,_,_,qB O5 O,⟨O1,?_,ra,by grind,x1.set ut,qGx zv,?_,?_,?_,uw.set _ _,hp⟩,O1⟩
   ·grind
   ·rw[qSm _ rb,vj,iC];omega
   ·omega
   unfold SVL at*
   grind
  obtain rfl:B=0:=O1;rw[Nat.zero_mul,iF] at u7;obtain⟨rfl,vb⟩:=zDb s6 hq zto u7;have uu:∃z2,z2=zz:=⟨_,O⟩;obtain⟨z2,r4⟩:=uu;rw[←r4] at hp vb ry vg;obtain⟨ra,vj⟩:=key z2 O1 vg vb;refine qA (tO (zL eW z A.length _ hp 0 O uw vn O O (fun _=>O) O O (qD O)) fun ur hp=>?_);rw[aN ut] at hp;refine gA0 ?_;refine⟨_,_,_,qB O5 O,⟨O1,?_,ra,by grind,x1.set ut,qGx zv,?_,?_,?_,uw.set _ _,hp⟩,O1⟩
  ·grind
  ·rw[qSm _ rb,vj,iC];omega
  ·omega
  unfold SVL at*
  grind
 obtain rfl:j=0:=O1;rw[nK,oB] at tj;rw[vd] at zk;obtain⟨hQ,hR⟩:=jL5 ug zk O1;have rn:=qPs (n:=k+2) O2 O1 (sBi tj zi);obtain⟨V,hV⟩:∃V,V=U.take (k+2):=⟨_,O⟩;have vi:V.length=k+2:=by rw[hV,bV,eM O1]
 have r1:Bd 4294967296 V:=by rw[hV];exact va.take _
 rw[←hV] at rn;rw[←rn] at hR;have uz:kO z=dN (x/y):=by rw[qX8 x1,hQ]
 refine tY fun hp=>?_;have rl:=qZ hp 0 O uw (fun _=>O);have re:=c66 z _ (e+1) _ O1 (by unfold maxLen;omega) rl;rw[x2,uz] at re;refine qX ?_;refine tK re ?_;rintro _ w7 ⟨rfl,hk⟩;have hp:=hp.call hk;refine⟨hp,?_⟩;have te:DA w7 (x/y) (Ad gq) (e+1):=⟨by rw[←uz,←x2];exact(uM z).length_le,by unfold maxLen;omega,by rw[←uz];exact(rl.j6 hk).pre (uM z)⟩;have vr:SlAt w7 1 eW (Ad gu) V:=by rw[hV];exact qJp (qZ hp 2 O uy (fun _=>O)) _
 have rp:=c80 V sh _ (k+2+e+1) _ vr r1 O1 yf;rw[vi,hR] at rp;refine qX ?_;refine tP (fun w hp=>qBy O O O O1) (qX ?_);refine tK rp ?_;rintro _ w8 ⟨gr,rfl,u1,us⟩;refine⟨hp.call us.C,?_⟩;have rh:=qWu us u1 (by unfold maxLen;omega) (qK6 O2 _ _) (x:=x%y) (by rw[qN0,aN];exact sBi (dG _ ug) (qAh O1));rw[qAw] at rh;refine tK rh ?_;rintro _ w9 ⟨s',c',rfl,yu,uq⟩;have hp:=hp.call uq;have te:=te.j5 uq;refine⟨hp,qX (qU ?_)⟩;refine qA ?_;exact xU O O O ⟨_,O,_,_,_,_,O,te,yu,hp.C⟩
theorem c54(x y:Nat)(s s2:Option Addr)(c c2:Nat)(w:World)(hx:DA w x s c)(hy:DA w y s2 c2)(ug:0<y)(um:(dN x).length≤10000000000000):
  Rt 172 [.slice s (dN x).length c,.slice s2 (dN y).length c2] w (fun v w'=>∃s' c' s3 c3,v= .tuple #[.slice s' (dN (x/y)).length c',.slice s3 (dN (x%y)).length c3]∧DA w' (x/y) s' c'∧DA w' (x%y) s3 c3∧Keeps [] w w'):=by
 by_cases h1:x<y
 ·exact zGg x y s s2 c c2 w hx hy h1
 by_cases h2:(dN x).length≤2
 ·exact zGf x y s s2 c c2 w hx hy ug O1 h2
 have dq:(dN y).length≠0:=by
  intro h;have:=jHg.1 (aZ h);omega
 by_cases h3:(dN y).length=1
 ·exact zGe x y s s2 c c2 w hx hy O1 O1 um h3
 have yw:(dN y).length≤(dN x).length:=by
  rcases iL (dN x).length (dN y).length with h|h
  ·exact absurd (qBa O2 (show(jY 4294967296 x).length<(jY 4294967296 y).length from h)) h1
  exact h
 obtain⟨k,hk⟩:∃k,(dN y).length=k+2:=⟨(dN y).length-2,O1⟩;obtain⟨e,he⟩:∃e,(dN x).length=k+2+e:=⟨(dN x).length-(k+2),O1⟩;have:=zGd x y k e s s2 c c2 w hx hy O1 he hk O1 O1;grind
end
open Go.Eng Go.Dig
variable{x y:Nat}{P:Program}{fn:Func}{t u:Nat}
theorem qQ9{v:Nat}(h:fn.results= #[.tmp t,.tmp u,.tmp v])(tmps:Array Value)(w:World):(results fn tmps).run P w= .ok (.tuple #[tmps.getD t undef,tmps.getD u undef,tmps.getD v undef]) w:=by
 simp[results,h]
theorem qDj{n:Nat}{F:Fr}{w:World}{R:Ending→World→Prop}{v v' v2:Value}(h:fn.results= #[.tmp t,.tmp u,.tmp x])(hv:ev n F (.tmp t)=v)(hm:ev n F (.tmp u)=v')(s8:ev n F (.tmp x)=v2)(hr:R (.returned (.tuple #[v,v',v2])) w):qNs P n fn R .ret F w:=by
 refine⟨_,?_,hr⟩;rw[qQ9 h];rw[←hv,←hm,←s8,←zF];rfl
theorem qTy(x y:Nat):Nat.gcd x y=Nat.gcd y (x%y):=by
 rw[pT,Nat.gcd_rec,pT]
theorem qZd:(dN y).length=0↔y=0:=by
 rw[List.length_eq_zero_iff];exact jHg
theorem Fit.div(h:Fit x):Fit (x/y):=h.le (fR x y)
theorem Fit.mod(h:Fit x):Fit (x%y):=h.le (rN x y)
attribute [local irreducible] PV StepF wpl wpd WP Ret
attribute [local irreducible] Fit
theorem c24(x y:Nat)(w:World)(hx:Fit x)(hy:Fit y)(ug:0<y):Rk 103 [.string (ofN x),.string (ofN y)] w (.tuple #[.string (ofN (x/y)),.string (ofN (x%y)),.bool true]):=by
 have dr:¬(dN y).length=0:=by rw[qZd];omega
 refine tW func103 ntmps103 fun hp=>?_;refine tL (c45 y _ hy.d8) ?_;rintro _ w1 ⟨s,c,rfl,hd,hk⟩;have hp:=hp.call hk;refine qA ?_;refine qH O O1 (fun _=>tL (c45 x _ hx.d8) ?_);rintro _ w2 ⟨s2,c2,rfl,yu,hk⟩;have hp:=hp.call hk;have hd:=hd.j5 hk;refine tL (c54 x y s2 s c2 c _ yu hd ug hx.d32) ?_;rintro _ w3 ⟨s3,c3,s4,c4,rfl,yv,uh,hk⟩;have hp:=hp.call hk;refine tL (c38 _ s3 c3 _ yv hx.div.d32) ?_;rintro _ w4 ⟨rfl,hk⟩;have hp:=hp.call hk;have uh:=uh.j5 hk;refine tD (c38 _ s4 c4 _ uh hx.mod.d32) fun w5 hp=>?_;refine qA ?_;exact qDj O O O O ⟨_,O,O,hp.C⟩
theorem c84(x y:Nat)(w:World)(hx:Fit x)(hy:Fit y):Rk 104 [.string (ofN x),.string (ofN y)] w (.string (ofN (Nat.gcd x y))):=by
 refine tW func104 ntmps104 fun hp=>?_;refine tL (c45 x _ hx.d8) ?_;rintro _ w1 ⟨s,c,rfl,hd,hk⟩;have hp:=hp.call hk;refine tL (c45 y _ hy.d8) ?_;rintro _ w2 ⟨s2,c2,rfl,yu,hk⟩;have hp:=hp.call hk;have hd:=hd.j5 hk;refine qA (kS [5,6,7,8,13,14,15,16,17,18,19,20,21,22,23] (fun(X Y) p F=>(F.put 5 (.slice p.1 (dN X).length p.2.1)).put 6 (.slice p.2.2.1 (dN Y).length p.2.2.2))
  (fun X Y p w'=>Nat.gcd X Y=Nat.gcd x y∧Fit X∧Fit Y∧DA w' X p.1 p.2.1∧DA w' Y p.2.2.1 p.2.2.2∧Hp w [] w' []) (fun _ Y _=>Y) x y (s,c,s2,c2) (qB (qB (Same.eq .refl) O) O) ⟨O,hx,hy,hd,yu,hp⟩ ?_)
 clear hp hd yu;rintro u X Y ⟨s,c,s2,c2⟩ w3 ⟨hg,hX,hY,hd,yu,hp⟩;have hd:DA w3 X s c:=hd;have yu:DA w3 Y s2 c2:=yu;have hz:=qZd (y:=Y);refine tI (fun h=>?_) fun h=>?_
 ·have dv:0<Y:=O1;refine tL (c54 X Y s s2 c c2 _ hd yu dv hX.d32) ?_;rintro _ w4 ⟨s3,c3,s4,c4,rfl,yv,uh,hk⟩;have hp:=hp.call hk;have yu:=yu.j5 hk;refine qA ?_;exact⟨Y,_,(s2,c2,s4,c4),qB O5 O,⟨by rw[←qTy,hg],hY,hX.mod,yu,uh,hp⟩,dG _ dv⟩
 obtain rfl:Y=0:=O1;rw[sAp] at hg;subst hg;refine tD (c38 _ s c _ hd hX.d32) fun w5 hp=>?_;exact mA0
end Go.Proofs.YtplkndjlfkkjlaaGreatDoor
namespace Go.Dig
open List (range range' replicate)
variable{n k:Nat}
def ch:Nat→Nat→Nat
 |_,0=>1
 |0,_+1=>0
 |n+1,k+1=>ch n k+ch n (k+1)
def uO:Nat→Nat
 |0=>1
 |n+1=>(n+1)*uO n
theorem qL2(n:Nat):ch n 0=1:=by cases n<;>rfl
theorem qUl:∀(n k:Nat),n<k→ch n k=0
 |_,0,h=>O1
 |0,k+1,_=>rfl
 |n+1,k+1,h=>by
  rw[ch,qUl n k O1,qUl n _ O1]
theorem qZn:∀n,ch n n=1
 |0=>rfl
 |n+1=>by rw[ch,qZn,qUl n _ O1]
theorem qCh:∀n,0<uO n
 |0=>O2
 |n+1=>iU O1 (qCh n)
theorem qGg:∀(n k:Nat),k≤n→ch n k*uO k*uO (n-k)=uO n
 |n,0,_=>by rw[qL2];simp[uO]
 |0,k+1,h=>O1
 |n+1,k+1,h=>by
  rw[ch,Nat.add_sub_add_right];rcases iL k n with hk|hk
  ·have h1:=qGg n k O1;have h2:=qGg n (k+1) O1;obtain⟨m,hm⟩:∃m,n-k=m+1:=⟨n-k-1,O1⟩;have dx:n-(k+1)=m:=O1;rw[hm] at h1⊢;rw[dx] at h2;rw[fE,fE];have e1:ch n k*uO (k+1)*uO (m+1)=(k+1)*(ch n k*uO k*uO (m+1)):=by
    rw[uO]
    ac_rfl
   have e2:ch n (k+1)*uO (k+1)*uO (m+1)=(m+1)*(ch n (k+1)*uO (k+1)*uO m):=by
    rw[show uO (m+1)=(m+1)*uO m from O]
    ac_rfl
   rw[e1,e2,h1,h2,←fE,show uO (n+1)=(n+1)*uO n from O];grind
  have:k=n:=O1;subst this;rw[qZn,qUl k _ O1,lW];simp[uO]
theorem jLe(h:k≤n):ch n (n-k)=ch n k:=by
 have h1:=qGg n k h;have h2:=qGg n (n-k) O1;have hp:0<uO k*uO (n-k):=iU (qCh _) (qCh _);refine sAq hp ?_;grind
def qHd(m:Nat):Nat→Nat
 |0=>1
 |k+1=>qHd m k*(m+(k+1))
theorem qOd(m:Nat):∀k,qHd m k*uO m=uO (m+k)
 |0=>by simp[qHd]
 |k+1=>by
  have:=qOd m k;rw[qHd,show m+(k+1)=(m+k)+1 from O1,show uO (m+k+1)=(m+k+1)*uO _ from O,←this]
  ac_rfl
theorem jJe(h:k≤n):qHd (n-k) k=ch n k*uO k:=by
 have h1:=qOd (n-k) k;rw[show n-k+k=n from O1,←qGg n k h] at h1;exact sAq (qCh _) h1
theorem jDd(h:k≤n):qHd (n-k) k/uO k=ch n k:=by
 rw[jJe h];exact Nat.mul_div_cancel _ (qCh k)
theorem qJc:∀n,qHd 0 n=uO n
 |0=>rfl
 |n+1=>by
  rw[qHd,qJc,show uO (n+1)=(n+1)*uO n from O,bW];simp
end Go.Dig
namespace Go.Proofs.YtplkndjlfkkjlaaGreatDoor
open List (range range' replicate)
open Tryz
open Go.Eng Go.Dig
theorem qXq(m:Nat):∀n,m+n≤128→qHd m n≤2^(7*n)
 |0,_=>by simp[qHd]
 |n+1,h=>by
  have h1:=qXq m n O1;rw[qHd,Nat.mul_succ,dW];exact cF h1 O1
theorem qLn{m n:Nat}(h:m+n≤128):Fit (qHd m n):=by
 refine Fit.of (k:=7*n+1) (bY (qXq m n h) (iD O2 O1)) O1
theorem jFj{n:Nat}(h:n≤128):Fit (uO n):=by
 rw[←qJc];exact qLn O1
def chZ(n k:Int):Nat:=if n<0∨n>1000∨k<0∨k>n then 0 else ch n.toNat k.toNat
theorem jLf{n k:Nat}(h:n≤1000):chZ n k=ch n k:=by
 unfold chZ;by_cases hk:k≤n
 ·grind
 rw[if_pos O1,qUl n k O1]
theorem jHt{n k:Int}(h:n<0∨n>1000∨k<0∨k>n):chZ n k=0:=if_pos h
attribute [local irreducible] PV StepF wpl wpd WP Ret
attribute [local irreducible] Fit
theorem c36(n m:Nat)(f:FuncId)(dy:Array Value)(w:World)(he:qI Tryz.prog f)(dz:m+n≤100)
  (hc:∀(i:Nat) (w':World),Keeps [] w w'→1≤i→i≤n→Rt f ([Iv (i:Int)]++dy.toList) w' (fun v w2=>v=Iv ((m+i:Nat):Int)∧Keeps [] w' w2)):
  Rk 173 [Iv (n:Int),.func (.func f) #[] dy] w (.string (ofN (qHd m n))):=by
 refine tW func173 ntmps173 fun hp=>?_;refine tD (c13 1 _ O2) fun w1 hp=>?_;refine qA (qQ [5,6,9,10,11,12,13,14,15,16,17,18,19] (fun i F=>(F.put 5 (.string (ofN (qHd m i)))).put 9 (.int _ i)) (fun i w'=>i≤n∧Hp w [] w' []) (fun i=>n-i) 0 (qB (qB (Same.eq .refl) O) O) ⟨O1,hp⟩ ?_);clear hp;rintro u i w2 ⟨hi,hp⟩;refine tI (fun h2=>?_) fun h2=>?_
 ·refine tM (i+1) ?_;apply wls;exact qC O he O (hc _ _ hp.C O1 O1);rintro _ w3 ⟨rfl,hk⟩;have hp:=hp.call hk;refine tD (c13 (m+(i+1):Nat) _ O1) fun w4 hp=>?_;refine tD (c18 (qHd m i) (m+(i+1)) _ (qLn O1) (Fit.small O1)) fun w5 hp=>?_;exact mCf
 obtain rfl:i=n:=O1;exact mA0
theorem c37(a b i:Int)(p q:Nat)(w:World)(hp:w.cell? ⟨p,0,none⟩=some (Iv a))(hq:w.cell? ⟨q,0,none⟩=some (Iv b))(h:0≤b∧b≤a∧0≤i∧i≤b∧a≤1000):
  Rk 174 [Iv i,.pointer (Ad p),.pointer (Ad q)] w (Iv (a-b+i)):=by
 refine tW func174 ntmps174 fun hp=>?_;refine tB ?_;refine tB ?_;exact mA0
theorem c42(i:Int)(w:World):Rk 175 [Iv i] w (Iv i):=by
 refine tW func175 ntmps175 fun hp=>?_;exact mA0
theorem c15(n:Nat)(w:World)(hn:n≤100):Rk 106 [Iv (n:Int)] w (.string (ofN (uO n))):=by
 refine tW func106 ntmps106 fun hp=>?_;refine jL ?_;refine qH O O1 (fun _=>tD (c36 n 0 175 _ _ jSi O1 (fun i w' _ _ _=>Ret.mono (c42 i w') (fun v w2 h=>⟨by grind,h.2⟩))) fun w1 hp=>?_);refine tV ?_;exact⟨_,O,by rw[qJc];rfl,hp.C⟩
theorem c12(n k:Int)(w:World)(hn:n≤100∨n>1000):Rk 105 [Iv n,Iv k] w (.string (ofN (chZ n k))):=by
 refine tW func105 ntmps105 fun hp=>?_;refine qSk fun w _ b hp=>xD O (fun h=>?_) (fun h=>?_)
 ·have hz:chZ n k=0:=jHt (by grind);refine tL (c13 0 _ O2) ?_;rintro _ w1 ⟨rfl,hk⟩;have hp:=hp.call hk;refine tV ?_;exact⟨_,O,by rw[hz];rfl,hp.C⟩
 have h0:0≤k∧k≤n∧n≤100:=by simp at h;omega
 obtain⟨N,rfl⟩:∃N:Nat,n=N:=⟨n.toNat,O1⟩;obtain⟨K,rfl⟩:∃K:Nat,k=K:=⟨k.toNat,O1⟩;rw[jLf O1];obtain⟨K',eg⟩:∃K':Nat,K'=min K (N-K):=⟨_,O⟩;have ee:ch N K=ch N K':=by
  rw[eg];rcases Nat.le_total K (N-K) with h|h
  ·grind
  rw[Nat.min_eq_right h,jLe O1]
 refine tM (N-K) ?_;refine wlp (qAp O O) (qF (b:=K') O1) (qBs fun w hp=>?_)
 have hq:w.cell? ⟨_,0,_⟩=some (.int _ _):=hp.cell 0 O O;have ed:w.cell? ⟨_,0,_⟩=some (.int _ _):=hp.cell 1 O O;refine tC (c36 K' (N-K') 174 _ _ jSj O1 (fun i w' hk h1 h2=>Ret.mono (c37 N K' i _ _ w' (hk.cell ed O4) (hk.cell hq O4) O1) (fun v w2 h=>⟨by grind,h.2⟩))) fun w1 hp=>?_;refine tD (c15 K' _ O1) fun w2 hp=>?_;apply wls;exact qC O qMx O (c24 _ _ _ (qLn O1) (jFj O1) (qCh _));rintro _ w3 ⟨rfl,hk⟩;have hp:=hp.call hk;rw[jDd O1,←ee];exact mA0
end Go.Proofs.YtplkndjlfkkjlaaGreatDoor
namespace Go.Sha
open List (range range' replicate)
variable{a b n:Nat}{bt:Nat→Nat}
def rr(x n:Nat):Nat:=(x/2^n)|||(x*2^(32-n)%4294967296)
def g0(x:Nat):Nat:=(rr x 7^^^rr x 18)^^^(x/2^3)
def g1(y:Nat):Nat:=(rr y 17^^^rr y 19)^^^(y/2^10)
def f1(e:Nat):Nat:=(rr e 6^^^rr e 11)^^^rr e 25
def f0(a:Nat):Nat:=(rr a 2^^^rr a 13)^^^rr a 22
def ch(e f g:Nat):Nat:=(e&&&f)^^^((4294967295-e)&&&g)
def mj(a b c:Nat):Nat:=((a&&&b)^^^(a&&&c))^^^(b&&&c)
theorem uQ(ha:a<4294967296)(hb:b<4294967296):a^^^b<4294967296:=Nat.xor_lt_two_pow (n:=32) ha hb
theorem jMo(ha:a<4294967296)(hb:b<4294967296):a|||b<4294967296:=Nat.or_lt_two_pow (n:=32) ha hb
theorem qBi(ha:a<4294967296):a&&&b<4294967296:=bY Nat.and_le_left ha
theorem qJg(ha:a<4294967296):a/2^n<4294967296:=bY (fR a _) ha
theorem qCb(a:Nat):a%4294967296<4294967296:=O1
theorem vV{x:Nat}(h:x<4294967296)(n:Nat):rr x n<4294967296:=jMo (qJg h) (qCb _)
structure St where
 a:Nat
 b:Nat
 c:Nat
 d:Nat
 e:Nat
 f:Nat
 g:Nat
 h:Nat
structure Ok(s:St):Prop where
 a:s.a<4294967296
 b:s.b<4294967296
 c:s.c<4294967296
 d:s.d<4294967296
 e:s.e<4294967296
 f:s.f<4294967296
 g:s.g<4294967296
 h:s.h<4294967296
def t1(k w:Nat)(s:St):Nat:=(((s.h+f1 s.e)%4294967296+ch s.e s.f s.g)%4294967296+k)%4294967296+w
def T1(k w:Nat)(s:St):Nat:=t1 k w s%4294967296
def T2(s:St):Nat:=(f0 s.a+mj s.a s.b s.c)%4294967296
def rnd(k w:Nat)(s:St):St:=⟨(T1 k w s+T2 s)%4294967296,s.a,s.b,s.c,(s.d+T1 k w s)%4294967296,s.e,s.f,s.g⟩
theorem Ok.rnd{s:St}(h:Ok s)(k w:Nat):Ok (rnd k w s):=⟨qCb _,h.a,h.b,h.c,qCb _,h.e,h.f,h.g⟩
def wp(bt:Nat→Nat)(j:Nat):Nat→Nat
 |0=>0
 |k+1=>(wp bt j k*2^8%4294967296)|||bt (4*j+k)
theorem jLz(hb:∀k,bt k<256)(j:Nat):∀k,wp bt j k<4294967296
 |0=>by simp[wp]
 |k+1=>jMo (qCb _) (by grind)
theorem qY7(k x b:Nat)(h:b<2^k):(x*2^k)|||b=x*2^k+b:=by
 have:=Nat.shiftLeft_add_eq_or_of_lt h x;rw[Nat.shiftLeft_eq] at this;omega
def wf(bt:Nat→Nat)(n:Nat):Nat:=
 if n<16 then wp bt n 4 else(((wf bt (n-16)+g0 (wf bt (n-15)))%4294967296+wf bt (n-7))%4294967296+g1 (wf bt (n-2)))%4294967296
termination_by n
decreasing_by all_goals omega
theorem jM0(bt:Nat→Nat)(h:n<16):wf bt n=wp bt n 4:=by rw[wf,if_pos h]
theorem jM1(bt:Nat→Nat)(h:16≤n):wf bt n=(((wf bt (n-16)+g0 (wf bt (n-15)))%4294967296+wf bt (n-7))%4294967296+g1 (wf bt (n-2)))%4294967296:=by rw[wf,if_neg O1]
theorem jUv(hb:∀k,bt k<256)(n:Nat):wf bt n<4294967296:=by
 rcases iL n 16 with h|h
 ·rw[jM0 bt h];exact jLz hb _ _
 rw[jM1 bt h];omega
def K64:List Nat:=[0x428a2f98,0x71374491,0xb5c0fbcf,0xe9b5dba5,0x3956c25b,0x59f111f1,0x923f82a4,0xab1c5ed5,
 0xd807aa98,0x12835b01,0x243185be,0x550c7dc3,0x72be5d74,0x80deb1fe,0x9bdc06a7,0xc19bf174,
 0xe49b69c1,0xefbe4786,0x0fc19dc6,0x240ca1cc,0x2de92c6f,0x4a7484aa,0x5cb0a9dc,0x76f988da,
 0x983e5152,0xa831c66d,0xb00327c8,0xbf597fc7,0xc6e00bf3,0xd5a79147,0x06ca6351,0x14292967,
 0x27b70a85,0x2e1b2138,0x4d2c6dfc,0x53380d13,0x650a7354,0x766a0abb,0x81c2c92e,0x92722c85,
 0xa2bfe8a1,0xa81a664b,0xc24b8b70,0xc76c51a3,0xd192e819,0xd6990624,0xf40e3585,0x106aa070,
 0x19a4c116,0x1e376c08,0x2748774c,0x34b0bcb5,0x391c0cb3,0x4ed8aa4a,0x5b9cca4f,0x682e6ff3,
 0x748f82ee,0x78a5636f,0x84c87814,0x8cc70208,0x90befffa,0xa4506ceb,0xbef9a3f7,0xc67178f2]
def kf(i:Nat):Nat:=K64.getD i 0
def rds(bt:Nat→Nat)(s:St):Nat→St
 |0=>s
 |i+1=>rnd (kf i) (wf bt i) (rds bt s i)
theorem Ok.rds{s:St}(h:Ok s)(bt:Nat→Nat):∀i,Ok (rds bt s i)
 |0=>h
 |i+1=>(Ok.rds h bt i).rnd _ _
def addS(s r:St):St:=⟨(s.a+r.a)%4294967296,(s.b+r.b)%4294967296,(s.c+r.c)%4294967296,(s.d+r.d)%4294967296,(s.e+r.e)%4294967296,(s.f+r.f)%4294967296,(s.g+r.g)%4294967296,(s.h+r.h)%4294967296⟩
theorem Ok.addS(s r:St):Ok (addS s r):=⟨qCb _,qCb _,qCb _,qCb _,qCb _,qCb _,qCb _,qCb _⟩
def jEn(bt:Nat→Nat)(s:St):St:=addS s (rds bt s 64)
def ini:St:=⟨0x6a09e667,0xbb67ae85,0x3c6ef372,0xa54ff53a,0x510e527f,0x9b05688c,0x1f83d9ab,0x5be0cd19⟩
theorem Ok.ini:Ok ini:=⟨O2,O2,O2,O2,O2,O2,O2,O2⟩
def hs(m:List Nat):Nat→St
 |0=>ini
 |i+1=>jEn (fun k=>m.getD (64*i+k) 0) (hs m i)
theorem Ok.hs(m:List Nat):∀i,Ok (hs m i)
 |0=>Ok.ini
 |_+1=>Ok.addS _ _
def qO0(n:Nat):List Nat:=(range 8).map fun i=>n/2^(56-8*i)%256
def jBu(n:Nat):Nat:=(119-n%64)%64
def qSp(s:List Nat):List Nat:=replicate (jBu s.length) 0++qO0 (s.length*8)
def pad(s:List Nat):List Nat:=s++128::qSp s
theorem qMh(n:Nat):(qO0 n).length=8:=by simp[qO0]
theorem qYl(n:Nat):∀d∈qO0 n,d<256:=by
 intro d hd;unfold qO0 at hd;grind
theorem qY5(s:List Nat):(pad s).length=s.length+9+jBu s.length:=by
 simp[pad,qSp,aY,bT,lG,qMh];omega
theorem jJw(s:List Nat):(pad s).length%64=0:=by
 rw[qY5];unfold jBu;omega
def wd(s:St)(j:Nat):Nat:=[s.a,s.b,s.c,s.d,s.e,s.f,s.g,s.h].getD j 0
def fin(s:List Nat):St:=hs (pad s) ((pad s).length/64)
def shb(s:List Nat)(i:Nat):Nat:=wd (fin s) (i/4)/2^(24-i%4*8)%256
theorem qQ3(s:List Nat)(i:Nat):shb s i<256:=dG _ O2
def sha(s:List Nat):List Nat:=(range 32).map (shb s)
theorem jJa(s:List Nat):(sha s).length=32:=by simp[sha]
end Go.Sha
namespace Go.Proofs.YtplkndjlfkkjlaaGreatDoor
open List (range range' replicate)
open Tryz
section
open Go.Eng Go.Dig Go.Sha
variable{a b:Nat}
def u(x:Nat):Value:=.int .u32 (x:Int)
def sv(s:St):List Value:=[u s.a,u s.b,u s.c,u s.d,u s.e,u s.f,u s.g,u s.h]
structure Tabs(w:World):Prop where
 first:∀j v,(sv ini)[j]? =some v→w.cell? ⟨0,0+j,none⟩=some v
 pow:∃t r,w.heap[2]? =some (.cells (Lib.pow10Tab.map fun z=>Value.int .u64 z).toArray t r)
 cons:∀i,i<64→w.cell? ⟨1,0+i*1,none⟩=some (u (kf i))
theorem Tabs.j5{w w':World}(h:Tabs w)(hk:Keeps [] w w'):Tabs w':=
 ⟨fun j v hv=>hk.cell (h.first j v hv) O4,by
  obtain⟨t,r,hb⟩:=h.pow
  exact⟨t,r,(hk.block 2 (by grind) O4).trans hb⟩,fun i hi=>hk.cell (h.cons i hi) O4⟩
theorem qG7(h:a≤b):Nat.ble a b=true:=nS h
theorem qBb{m t:Nat}{f g:Fr}(h:∀i,i<m→f i=g i):blk b m f t=blk b m g t:=by
 have:(Array.ofFn (n:=m) fun i=>f i)=Array.ofFn (n:=m) fun i=>g i:=by
  apply rJ
  ·simp
  intro i h1 h2;simp only[nI];exact h i (by simpa using h1)
 unfold blk qN7;rw[this]
section
variable {P:Program}{n:FrK}{w:World}{F:Fr}{d:Option Tmp}{ty:TypeId}{pos:String}{aft:Array Edge}{g:Option (Nat×Bool)}{x y:Operand}{t t':Nat}
theorem jOk{k:IntKind}{a:Int}(hx:ev n F x= .int k a):PV P n w F ⟨d,.unOp .neg t x,ty,pos,aft,g⟩ (.int k (k.wrap (-a))):=by
 simp[PV,execOp,hx,Op.unary,Op.intArith]
theorem jDw(hx:ev n F x= .int .u32 (a:Int))(ha:a<4294967296):PV P n w F ⟨d,.unOp .xor t x,ty,pos,aft,g⟩ (u (4294967295-a)):=by
 have h1:(BitVec.ofInt 32 4294967295^^^BitVec.ofInt 32 a).toNat=4294967295-a:=by
  rw[show BitVec.ofInt 32 (4294967295:Int)=BitVec.allOnes 32 from O,BitVec.allOnes_xor,BitVec.toNat_not,kG 32 a ha]
 have h3:=qPu (show 4294967295-a<2^32 by omega);simp only[PV,execOp,hx,Op.unary,Op.intBits];show Sem.run P (pure (Next.value (Value.int _ (IntKind.u32.wrap ((BitVec.ofInt 32 4294967295^^^BitVec.ofInt 32 a).toNat))))) w=_
 rw[h1,h3];rfl
theorem qY3(hx:ev n F x= .int .u32 (a:Int))(hy:ev n F y= .int .u32 (b:Int))(ha:a<4294967296)(hb:b<4294967296):PV P n w F ⟨d,.binOp .or t x y t',ty,pos,aft,g⟩ (u (a|||b)):=qQh hx hy ha hb
theorem uH(hx:ev n F x= .int .u32 (a:Int))(hy:ev n F y= .int .u32 (b:Int))(ha:a<4294967296)(hb:b<4294967296):PV P n w F ⟨d,.binOp .xor t x y t',ty,pos,aft,g⟩ (u (a^^^b)):=by
 have h1:(BitVec.ofInt 32 a^^^BitVec.ofInt 32 b).toNat=a^^^b:=by
  rw[BitVec.toNat_xor,kG 32 a ha,kG 32 b hb]
 have h2:a^^^b<2^32:=O1;have h3:=qPu h2;simp only[PV,execOp,hx,hy,eqGuard,binOp,Op.intBits];show Sem.run P (pure (Next.value (Value.int _ (IntKind.u32.wrap ((BitVec.ofInt 32 a^^^BitVec.ofInt 32 b).toNat))))) w=_
 rw[h1,h3];rfl
theorem qF9(hx:ev n F x= .int .u32 (a:Int))(hy:ev n F y= .int .u32 (b:Int))(ha:a<4294967296)(hb:b<4294967296):PV P n w F ⟨d,.binOp .and t x y t',ty,pos,aft,g⟩ (u (a&&&b)):=by
 have h1:(BitVec.ofInt 32 a&&&BitVec.ofInt 32 b).toNat=a&&&b:=by
  rw[rL,kG 32 a ha,kG 32 b hb]
 have h2:a&&&b<2^32:=O1;have h3:=qPu h2;simp only[PV,execOp,hx,hy,eqGuard,binOp,Op.intBits];show Sem.run P (pure (Next.value (Value.int _ (IntKind.u32.wrap ((BitVec.ofInt 32 a&&&BitVec.ofInt 32 b).toNat))))) w=_
 rw[h1,h3];rfl
end
attribute [local irreducible] PV StepF wpl wpd WP Ret
theorem zC2(x n:Nat)(w:World)(hx:x<4294967296)(h1:1≤n)(h2:n≤31):
  Rk 374 [u x,Iv (-(n:Int))] w (u (rr x n)):=by
 refine tW func374 ntmps374 fun hp=>?_;refine gA1 ?_;refine gA1 ?_;refine wlp (zX O O O) (qF (b:=(18446744073709551616-n:Nat)) (by rw[oO];omega)) (wlp (qLy (k:=5) O O O1 O O2) (qF (b:=(32-n:Nat)) O1) ?_);refine qA ?_;refine wlp (qLv O O O1) (qF O) (qA ?_);refine wlp (jN O O) (qF (b:=n) (by rw[oO];omega)) (wlp (xP O O (by show n≤32;omega)) (qF O) ?_);refine wlp (qY3 O O (qCb _) (qJg hx)) (qF (b:=(rr x n:Nat)) (by rw[rV];rfl)) (tV ?_);exact mB0
theorem qNu(x n:Nat)(w:World)(hx:x<4294967296)(h1:1≤n)(h2:n≤31):
  Rk 342 [u x,Iv (n:Int)] w (u (rr x n)):=by
 refine tW func342 ntmps342 fun hp=>?_;refine gA1 ?_;refine gA4 ?_;refine wlp (jOk O) (qF (qK O1 O1)) (tC (zC2 x n _ hx h1 h2) fun w1 hp=>?_);exact mA0
end
section
open Go.Eng Go.Shelf
def qH3:Go.Shelf.Ren:=⟨fun|156=>195|165=>276|166=>277|169=>279|240=>340|241=>341|276=>372|277=>373|n=>n,fun|31=>62|9=>9|3=>3|4=>4|0=>0|20=>20|72=>350|76=>353|70=>348|37=>190|75=>352|127=>409|164=>431|5=>5|80=>356|n=>n,fun|n=>n⟩
theorem jB9:Go.Proofs.Lays.n156 Tryz.prog qH3:={
 mixed:=O3
 f156:=func195.trans (aQ _ O3)
 f165:=func276.trans (aQ _ O3)
 f166:=func277.trans (aQ _ O3)
 f169:=func279.trans (aQ _ O3)
 f240:=func340.trans (aQ _ O3)
 f241:=func341.trans (aQ _ O3)
 f276:=func372.trans (aQ _ O3)
 f277:=func373.trans (aQ _ O3)
 t0:=Tryz.underlying0
 a0:=Tryz.isAgg0
 z0:=Tryz.sizeOf0
 v0:=Tryz.zeroValue0
 t3:=Tryz.underlying3
 a3:=Tryz.isAgg3
 z3:=Tryz.sizeOf3
 v3:=Tryz.zeroValue3
 t4:=Tryz.underlying4
 a4:=Tryz.isAgg4
 z4:=Tryz.sizeOf4
 v4:=Tryz.zeroValue4
 t9:=Tryz.underlying9
 a9:=Tryz.isAgg9
 z9:=Tryz.sizeOf9
 v9:=Tryz.zeroValue9
 t20:=Tryz.underlying20
 a20:=Tryz.isAgg20
 z20:=Tryz.sizeOf20
 v20:=Tryz.zeroValue20
 t31:=Tryz.underlying62
 a31:=Tryz.isAgg62
 z31:=Tryz.sizeOf62
 v31:=Tryz.zeroValue62
 t37:=Tryz.underlying190
 a37:=Tryz.isAgg190
 z37:=Tryz.sizeOf190
 v37:=Tryz.zeroValue190
 t70:=Tryz.underlying348
 a70:=Tryz.isAgg348
 z70:=Tryz.sizeOf348
 v70:=Tryz.zeroValue348
 t72:=Tryz.underlying350
 a72:=Tryz.isAgg350
 z72:=Tryz.sizeOf350
 v72:=Tryz.zeroValue350
 t75:=Tryz.underlying352
 a75:=Tryz.isAgg352
 z75:=Tryz.sizeOf352
 v75:=Tryz.zeroValue352
 t76:=Tryz.underlying353
 a76:=Tryz.isAgg353
 z76:=Tryz.sizeOf353
 v76:=Tryz.zeroValue353
 t127:=Tryz.underlying409
 a127:=Tryz.isAgg409
 z127:=Tryz.sizeOf409
 v127:=Tryz.zeroValue409
 t164:=Tryz.underlying431
 a164:=Tryz.isAgg431
 z164:=Tryz.sizeOf431
 v164:=Tryz.zeroValue431}
theorem qGs:Builder.Extra Tryz.prog qH3:={
 sizeBuilder:=O3
 liesBuilder:=O3
 t5:=Tryz.underlying5
 a5:=Tryz.isAgg5
 z5:=Tryz.sizeOf5
 v5:=Tryz.zeroValue5
 infoByte:=O3
 cellsByte:=O3
 sizeByte:=O3
 neB5:=O2}
def qMl:Go.Shelf.Ren:=⟨fun|171=>92|243=>156|246=>205|283=>286|284=>287|285=>288|286=>289|129=>144|317=>343|318=>344|319=>345|320=>346|337=>375|338=>376|n=>n,fun|3=>3|9=>9|2=>2|4=>4|171=>362|0=>0|53=>139|37=>190|5=>5|173=>364|212=>414|51=>208|20=>20|213=>415|46=>156|232=>283|233=>447|n=>n,fun|17=>2|18=>6|19=>7|n=>n⟩
theorem qW5:Go.Proofs.LaysM.n171 Tryz.prog qMl:={
 mixed:=O3
 f129:=func144.trans (aQ _ O3)
 f171:=func92.trans (aQ _ O3)
 f243:=func156.trans (aQ _ O3)
 f246:=func205.trans (aQ _ O3)
 f283:=func286.trans (aQ _ O3)
 f284:=func287.trans (aQ _ O3)
 f285:=func288.trans (aQ _ O3)
 f286:=func289.trans (aQ _ O3)
 f317:=func343.trans (aQ _ O3)
 f318:=func344.trans (aQ _ O3)
 f319:=func345.trans (aQ _ O3)
 f320:=func346.trans (aQ _ O3)
 f337:=func375.trans (aQ _ O3)
 f338:=func376.trans (aQ _ O3)
 t0:=Tryz.underlying0
 a0:=Tryz.isAgg0
 z0:=Tryz.sizeOf0
 v0:=Tryz.zeroValue0
 t2:=Tryz.underlying2
 a2:=Tryz.isAgg2
 z2:=Tryz.sizeOf2
 v2:=Tryz.zeroValue2
 t3:=Tryz.underlying3
 a3:=Tryz.isAgg3
 z3:=Tryz.sizeOf3
 v3:=Tryz.zeroValue3
 t4:=Tryz.underlying4
 a4:=Tryz.isAgg4
 z4:=Tryz.sizeOf4
 v4:=Tryz.zeroValue4
 t5:=Tryz.underlying5
 a5:=Tryz.isAgg5
 z5:=Tryz.sizeOf5
 v5:=Tryz.zeroValue5
 t9:=Tryz.underlying9
 a9:=Tryz.isAgg9
 z9:=Tryz.sizeOf9
 v9:=Tryz.zeroValue9
 t20:=Tryz.underlying20
 a20:=Tryz.isAgg20
 z20:=Tryz.sizeOf20
 v20:=Tryz.zeroValue20
 t37:=Tryz.underlying190
 a37:=Tryz.isAgg190
 z37:=Tryz.sizeOf190
 v37:=Tryz.zeroValue190
 t46:=Tryz.underlying156
 a46:=Tryz.isAgg156
 z46:=Tryz.sizeOf156
 v46:=Tryz.zeroValue156
 t51:=Tryz.underlying208
 a51:=Tryz.isAgg208
 z51:=Tryz.sizeOf208
 v51:=Tryz.zeroValue208
 t53:=Tryz.underlying139
 a53:=Tryz.isAgg139
 z53:=Tryz.sizeOf139
 v53:=Tryz.zeroValue139
 t171:=Tryz.underlying362
 a171:=Tryz.isAgg362
 z171:=Tryz.sizeOf362
 v171:=Tryz.zeroValue362
 t173:=Tryz.underlying364
 a173:=Tryz.isAgg364
 z173:=Tryz.sizeOf364
 v173:=Tryz.zeroValue364
 t212:=Tryz.underlying414
 a212:=Tryz.isAgg414
 z212:=Tryz.sizeOf414
 v212:=Tryz.zeroValue414
 t213:=Tryz.underlying415
 a213:=Tryz.isAgg415
 z213:=Tryz.sizeOf415
 t232:=Tryz.underlying283
 a232:=Tryz.isAgg283
 z232:=Tryz.sizeOf283
 v232:=Tryz.zeroValue283
 t233:=Tryz.underlying447
 a233:=Tryz.isAgg447
 z233:=Tryz.sizeOf447
 v233:=Tryz.zeroValue447
 g17:=O3
 g18:=O3
 g19:=O3
 i0:=O3
 i2:=O3
 i3:=O3
 i4:=O3
 i5:=O3
 i9:=O3
 i20:=O3
 i37:=O3
 i46:=O3
 i51:=O3
 i53:=O3
 i171:=O3
 i173:=O3
 i212:=O3
 i232:=O3
 i233:=O3
 m17:=O3
 m18:=O3
 m19:=O3}
def qH4:Go.Shelf.Ren:=⟨fun|105=>193|212=>274|99=>275|165=>276|166=>277|170=>278|169=>279|263=>337|264=>338|206=>339|240=>340|241=>341|276=>372|277=>373|n=>n,fun|9=>9|3=>3|4=>4|20=>20|0=>0|46=>156|109=>345|5=>5|72=>350|76=>353|51=>208|146=>405|53=>139|148=>407|70=>348|37=>190|75=>352|127=>409|164=>431|80=>356|n=>n,fun|n=>n⟩
theorem jBa:Go.Proofs.Lays.n105 Tryz.prog qH4:={
 mixed:=O3
 f99:=func275.trans (aQ _ O3)
 f105:=func193.trans (aQ _ O3)
 f165:=func276.trans (aQ _ O3)
 f166:=func277.trans (aQ _ O3)
 f169:=func279.trans (aQ _ O3)
 f170:=func278.trans (aQ _ O3)
 f206:=func339.trans (aQ _ O3)
 f212:=func274.trans (aQ _ O3)
 f240:=func340.trans (aQ _ O3)
 f241:=func341.trans (aQ _ O3)
 f263:=func337.trans (aQ _ O3)
 f264:=func338.trans (aQ _ O3)
 f276:=func372.trans (aQ _ O3)
 f277:=func373.trans (aQ _ O3)
 t0:=Tryz.underlying0
 a0:=Tryz.isAgg0
 z0:=Tryz.sizeOf0
 v0:=Tryz.zeroValue0
 t3:=Tryz.underlying3
 a3:=Tryz.isAgg3
 z3:=Tryz.sizeOf3
 v3:=Tryz.zeroValue3
 t4:=Tryz.underlying4
 a4:=Tryz.isAgg4
 z4:=Tryz.sizeOf4
 v4:=Tryz.zeroValue4
 t5:=Tryz.underlying5
 a5:=Tryz.isAgg5
 z5:=Tryz.sizeOf5
 v5:=Tryz.zeroValue5
 t9:=Tryz.underlying9
 a9:=Tryz.isAgg9
 z9:=Tryz.sizeOf9
 v9:=Tryz.zeroValue9
 t20:=Tryz.underlying20
 a20:=Tryz.isAgg20
 z20:=Tryz.sizeOf20
 v20:=Tryz.zeroValue20
 t37:=Tryz.underlying190
 a37:=Tryz.isAgg190
 z37:=Tryz.sizeOf190
 v37:=Tryz.zeroValue190
 t46:=Tryz.underlying156
 a46:=Tryz.isAgg156
 z46:=Tryz.sizeOf156
 v46:=Tryz.zeroValue156
 t51:=Tryz.underlying208
 a51:=Tryz.isAgg208
 z51:=Tryz.sizeOf208
 v51:=Tryz.zeroValue208
 t53:=Tryz.underlying139
 a53:=Tryz.isAgg139
 z53:=Tryz.sizeOf139
 v53:=Tryz.zeroValue139
 t70:=Tryz.underlying348
 a70:=Tryz.isAgg348
 z70:=Tryz.sizeOf348
 v70:=Tryz.zeroValue348
 t72:=Tryz.underlying350
 a72:=Tryz.isAgg350
 z72:=Tryz.sizeOf350
 v72:=Tryz.zeroValue350
 t75:=Tryz.underlying352
 a75:=Tryz.isAgg352
 z75:=Tryz.sizeOf352
 v75:=Tryz.zeroValue352
 t76:=Tryz.underlying353
 a76:=Tryz.isAgg353
 z76:=Tryz.sizeOf353
 v76:=Tryz.zeroValue353
 t109:=Tryz.underlying345
 a109:=Tryz.isAgg345
 z109:=Tryz.sizeOf345
 v109:=Tryz.zeroValue345
 t127:=Tryz.underlying409
 a127:=Tryz.isAgg409
 z127:=Tryz.sizeOf409
 v127:=Tryz.zeroValue409
 t146:=Tryz.underlying405
 a146:=Tryz.isAgg405
 z146:=Tryz.sizeOf405
 v146:=Tryz.zeroValue405
 t148:=Tryz.underlying407
 a148:=Tryz.isAgg407
 z148:=Tryz.sizeOf407
 v148:=Tryz.zeroValue407
 t164:=Tryz.underlying431
 a164:=Tryz.isAgg431
 z164:=Tryz.sizeOf431
 v164:=Tryz.zeroValue431}
theorem qGt:Builder.Extra Tryz.prog qH4:={
 sizeBuilder:=O3
 liesBuilder:=O3
 t5:=Tryz.underlying5
 a5:=Tryz.isAgg5
 z5:=Tryz.sizeOf5
 v5:=Tryz.zeroValue5
 infoByte:=O3
 cellsByte:=O3
 sizeByte:=O3
 neB5:=O2}
open Go.RowKit Go.Lib Go.Sort
theorem qW4(w:World)(k:Nat)(os:Array Obj):Keeps [] w (grow (w.drewN k) os):=by
 refine⟨O,O,O,?_,fun j hj _=>?_⟩
 ·simp
 show(w.heap++os)[j]? =w.heap[j]?
 grind
theorem jIx{w:World}(hT:Tabs w){nm:String}(h:Tryz.prog.globalNamed nm=some 2):Lib.TabIs Tryz.prog w nm .u64 Lib.pow10Tab:=by
 obtain⟨t,r,hb⟩:=hT.pow;unfold Lib.TabIs World.var?;grind
def dec(n:Int):ByteArray:=⟨(Lib.itoa n).toArray⟩
theorem p60(n:Int)(w:World)(hT:Tabs w)(h0:-9223372036854775808≤n)(h1:n≤9223372036854775807):Rk 92 [Iv n] w (.string (dec n)):=by
 refine(Any.strconv_Itoa qW5 n h0 h1 w (jIx hT O3)).mono ?_;rintro e w' ⟨rfl,k,os,rfl⟩;exact⟨_,O,O,qW4 _ _ _⟩
theorem zCb(s:ByteArray)(c:Nat)(w:World)(hc:c≤9223372036854775807)(hl:s.size*c≤140737488355328):Rk 193 [.string s,Iv (c:Int)] w (.string ⟨(Lib.repeatL s.data.toList c).toArray⟩):=by
 refine(Any.strings_Repeat jBa qGt s c w hc hl).mono ?_;rintro e w' ⟨rfl,h⟩;exact⟨_,O,O,.y6 h⟩
theorem zCq(xs:List ByteArray)(sep:ByteArray)(bk o c:Nat)(w:World)(hs:SlAt w 1 eS (some ⟨bk,o,none⟩) xs)(em:bk<w.heap.size)(hN:xs.length≤1000000)(el:xs.length≤c)
  (hQ:(Lib.join (xs.map (·.data.toList)) sep.data.toList).length≤140737488355328):
  Rt 195 [.slice (some ⟨bk,o,none⟩) xs.length c,.string sep] w (fun v w'=>v= .string ⟨(Lib.join (xs.map (·.data.toList)) sep.data.toList).toArray⟩∧Keeps [] w w'):=by
 refine(Any.strings_Join jB9 qGs bk o c xs _ w ?_ em O1 el hQ).mono ?_
 ·intro j x hx;obtain⟨b,o',he,h⟩:=hs j x hx;have h2:=h 0 _ O;grind
 rintro e w' ⟨rfl,h⟩;exact⟨_,O,O,.y6 h⟩
end
section
open Go.Eng Go.Dig
variable{n:Nat}{F:Fr}{w:World}{fn:Func}{p ty b o k t:Nat}{v2:Value}
theorem qC9(m n:Nat):decide (ofN m=ofN n)=decide (m=n):=by
 by_cases h:m=n
 ·grind
 rw[aB h,aB (fun e=>h (qQx e))]
theorem qKs(h:n≠0):0<(ofN n).size∧bAt (ofN n) 0≠0:=by
 rcases qHb (jY 256 n) with h0|⟨m,d,h1⟩
 ·exact absurd ((wO O2).1 h0) h
 have h2:=qGe O2 n m d h1;have h3:d<256:=vQ O2 n d (by grind);refine⟨by rw[qI9,h1];simp,?_⟩;unfold bAt ofN;rw[h1];simp;omega
theorem uN{vs:List Value}(h:fn.results= #[.cell p ty,.tmp t])(h1:qCc ty=some k)(hz:qBu ty=some k)(hx:ev n F (.tmp p)= .pointer (some ⟨b,o,none⟩))(s8:ev n F (.tmp t)=v2)(hl:vs.length=k)
  (hc:∀(j:Nat) (v:Value),vs[j]? =some v→w.cell? ⟨b,o+j,none⟩=some v):(results fn (act n F).tmps).run Tryz.prog w= .ok (.tuple #[.agg vs.toArray,v2]) w:=by
 obtain⟨q,hq,tc⟩:=qDm h1;have hk:=qD hz;subst hl;have:=vN (P:=Tryz.prog) b o vs 0 #[] (fun j v hv=>by simpa using hc j v hv);have hX:(act n F).tmps.getD p undef= .pointer (some ⟨b,o,none⟩):=by
  rw[←hx,←zF];rfl
 have en:=by simpa using hX
 have er:(act n F).tmps.getD t undef=v2:=by
  rw[←s8,←zF];rfl
 have eo:=by simpa using er
 simp[results,h,en,eo,asAddr,loadVar,qF5 hq tc,loadCells,hk.run,this]
theorem yP{R:Ending→World→Prop}{f:Fr}(h:fn.results= #[.cell p ty,.tmp t])(h1:qCc ty=some k)(hz:qBu ty=some k)(hx:ev n F (.tmp p)= .pointer (some ⟨b,o,none⟩))(s8:ev n F (.tmp t)=v2)
  (hc:∀(j:Nat) (v:Value),((range k).map fun j=>f (o+j))[j]? =some v→w.cell? ⟨b,o+j,none⟩=some v) (hr:R (.returned (.tuple #[.agg ((range k).map fun j=>f (o+j)).toArray,v2])) w):qNs Tryz.prog n fn R .ret F w:=
 ⟨_,uN h h1 hz hx s8 O4 hc,hr⟩
attribute [local irreducible] PV StepF wpl wpd WP Ret
attribute [local irreducible] Fit
end
section
open Go.Eng Go.Dig
variable{x y:Nat}
def FitR(x:Nat):Prop:=∃k,k≤4000∧x<2^k
theorem FitR.of{k:Nat}(h:x<2^k)(hk:k≤4000):FitR x:=⟨k,hk,h⟩
theorem FitR.le(h:FitR y)(hk:x≤y):FitR x:=by
 obtain⟨k,h1,h2⟩:=h;exact⟨k,h1,O1⟩
theorem FitR.d8(h:FitR x):(jY 256 x).length≤100000:=by
 obtain⟨k,h1,h2⟩:=h;exact bL (qAs O2 (cJ h2 (nC O2 k))) O1
theorem FitR.small(h:x<18446744073709551616):FitR x:=FitR.of (k:=64) O1 O2
theorem FitR.div(h:FitR x):FitR (x/y):=h.le (fR x y)
theorem FitR.mod(h:FitR x):FitR (x%y):=h.le (rN x y)
def NSR(st:ByteArray)(x:Nat):Prop:=∃br:List Nat,st=bs br∧Bd 256 br∧br.length≤100000∧x=val 256 br.reverse
theorem NSR.ns{st:ByteArray}(h:NSR st x):NS st x:=by
 obtain⟨br,h1,h2,h3,h4⟩:=h;exact⟨br,h1,h2,O1,h4⟩
theorem NSR.self(h:FitR x):NSR (ofN x) x:=
 ⟨_,qM7 x,Bd.rev (vQ O2 x),by rw[fX];exact h.d8,by rw[iY,yX O2]⟩
theorem qWt(x:Nat):(jY 256 x).reverse.dropWhile (·==0)=(jY 256 x).reverse:=by
 have h:=qHu (vI O2 (bM (jY 256 x).length));have h1:=by
  have:=wP (vQ (b:=256) O2 x);rw[yX O2] at this;exact this.symm
 grind
section
variable {P:Program}{n:Nat}{F:Fr}{w:World}{d:Option Tmp}{ty:TypeId}{pos:String}{aft:Array Edge}{g:Option (Nat×Bool)}{x y:Operand}
theorem qVh{ts:Array TypeId}{k:IntKind}{a b:Int}(hx:ev n F x= .int k a)(hy:ev n F y= .int k b):PV P n w F ⟨d,.call ⟨.builtin .max,#[x,y],ts⟩,ty,pos,aft,g⟩ (.int k (max a b)):=by
 have:(if a<b then b else a)=max a b:=by rw[Int.max_def];split<;>split<;>omega
 exact mDn
theorem qY4{t t':Nat}(ht:qDg t=some (5,1))(yo:qGy t'=true)(hx:ev n F x=Zs):PV Tryz.prog n w F ⟨d,.convert t t' x,ty,pos,aft,g⟩ (.string (bs [])):=by
 have h1:=jQ (w:=w) (zK ht).1;have h2:=jQ (w:=w) (wV yo);have h3:=jQ (w:=w) (qFg (t:=5) O);simp only[PV,execOp,convert,hx,bJ,h1,h2,aK,h3];rfl
end
attribute [local irreducible] PV StepF wpl wpd WP Ret
attribute [local irreducible] FitR
theorem c67(l:List Nat)(w:World)(hb:Bd 256 l)(hl:l.length≤9223372036854775806):Rt 112 [.string (bs l)] w (fun v w'=>v= .string (bs (l.dropWhile (·==0)))∧Keeps [] w w'):=by
 refine tW func112 ntmps112 fun hp=>?_;refine qA (qQ [3,4,5,6,7,8,9,10,11,12,13,14,15] (fun(k:Nat) F=>F.put 3 (.int _ k)) (fun k w'=>k≤l.length∧l.dropWhile (·==0)=(l.drop k).dropWhile (·==0)∧Hp w [] w' []) (fun k=>l.length-k) 0 (qB (Same.eq .refl) O) ⟨O1,O4,hp⟩ ?_);clear hp;rintro u k w1 ⟨hk,he,hp⟩;refine qR ?_;refine tR qP (tR qP ?_);refine tR (qA7 O O) ?_;by_cases hg:k<l.length
 ·have hd:=aX hg;refine wlp (zQ O O) (qV (aD O1)) (jM ?_);apply vX;exact O;exact O;exact qP;exact fT O;apply vX;exact O;exact O;exact qP;exact fI O;apply vX;exact O;exact O;exact qM0 O O O hb hg;exact fI O;generalize l[k]=y at hd;refine jL (qH O (fun h=>?_) (fun h=>?_))
  ·refine gA0 ?_;refine⟨k+1,qB O5 O,⟨O1,?_,hp⟩,O1⟩;have h0:y=0:=O1;rw[he,hd,h0];rfl
  refine qA (tR (qLz O O O hk) ?_);refine qA ?_;refine qM O O ⟨_,O,?_,hp.C⟩;have h0:y≠0:=O1;have h1:(l.drop k).dropWhile (·==0)=l.drop k:=by rw[hd];simp[h0]
  rw[he,h1];rfl
 obtain rfl:k=l.length:=O1;refine wlp (zQ O O) (qV (aB O1)) (jL ?_);refine tJ (tR (qLz O O O hk) ?_);refine qA ?_;refine qM O O ⟨_,O,?_,hp.C⟩;rw[he,iQ];rfl
theorem jTq(st:ByteArray)(x:Nat)(w:World)(h:NSR st x):Rk 112 [.string st] w (.string (ofN x)):=by
 obtain⟨br,rfl,hb,hl,rfl⟩:=h;have h1:=c67 br w hb O1;have h2:br.dropWhile (·==0)=(jY 256 (val 256 br.reverse)).reverse:=by
  have:=qDw (b:=256) O2 (Bd.rev hb);unfold kO at this;rw[iY] at this;rw[←this,iY]
 rw[h2] at h1;exact h1
theorem jTr(x:Nat)(w:World)(h:FitR x):Rk 112 [.string (ofN x)] w (.string (ofN x)):=by
 have h8:=h.d8;have:=c67 _ w (Bd.rev (vQ O2 x)) (by grind);rw[qWt] at this;exact this
theorem c40(a:Int)(w:World)(h2:a≤9223372036854775807):Rk 39 [Iv a] w (.string (ofN a.toNat)):=by
 refine Ret.j9 func39 O ntmps39 O ?_;have hp:=(Hp.start (M:=[]) (w:=w)).k4 eB 5 1;refine qA ?_;by_cases h0:0<a
 ·obtain⟨x,rfl⟩:∃x:Nat,a=x:=⟨a.toNat,O1⟩;have yr:x<256^8:=by
   have:(256:Nat)^8=18446744073709551616:=O2;omega
  refine kS [3,4,5,6,7,8,9,10,11,12,13,14,15,16,17,18,19] (fun(j:Nat) s c F=>(F.put 4 (.int _ (8*j-8))).put 3 (.slice s ((dg 256 x 8).drop j).reverse.length c))
   (fun j s c w'=>j≤8∧SVL s c ((dg 256 x 8).drop j).reverse∧Hp w [] w' [qG eB 5 1 s c ((dg 256 x 8).drop j).reverse]) (fun j _ _=>j) 8 _ 0 (qB (qB (Same.eq .refl) O) O) ⟨O1,SVL.nil,hp⟩ ?_
  clear hp;rintro u j s c w1 ⟨hj,hv,hp⟩;by_cases e0:0<j
  ·obtain⟨i,rfl⟩:∃i,j=i+1:=⟨j-1,O1⟩;have ei:(8*(i+1:Nat)-8)=((8*i:Nat):Int):=O1;rw[ei];have hl:i<(dg 256 x 8).length:=by rw[qAw];omega
   have ew:=qJh 256 8 x i O1;have ey:((dg 256 x 8).drop i).reverse=((dg 256 x 8).drop (i+1)).reverse++[x/256^i%256]:=by
    rw[aX hl,List.reverse_cons];rw[aA hl] at ew;simp only[sA1] at ew;rw[ew]
   have eu:((dg 256 x 8).drop (i+1)).reverse.length≤8:=by rw[fX,fJ,qAw];omega
   generalize ((dg 256 x 8).drop _).reverse=Z at*
   refine gA1 ?_;refine wlp (vE O O) (qV (aD O1)) (jM ?_);apply vX;exact O;exact O;exact qP;exact fI O;apply vX;exact O;exact O;exact xJ O O;exact qV (aD O1);refine jL (jB O ?_);refine qA ?_;refine wlp (xP O O (by show 8*i≤64;omega)) (qF (b:=(x/256^i:Nat)) (by rw[show 256^i=2^(8*i) from by rw[iJ]])) (tR (kC O O O) ?_);refine tF (jC hp O O O O O O O) fun w3 nb hp=>tFb (jV eB Z _ hp 1 0 O O O O O O (fun _=>O) O O O hv O O O1) fun w4 s' c'⟨hm,hp⟩=>?_;have hp:=hp.H;rw[←ey] at hm hp⊢;refine gA0 ?_;exact⟨i,s',c',qB (qB O5 (qF O1)) O,⟨O1,hm,hp⟩,O1⟩
  obtain rfl:j=0:=O1;have xr:(dg 256 x 8).reverse≠[]:=by
   intro h;have:=aQ List.length h;rw[fX,qAw] at this;cases this
  obtain⟨bb,rfl⟩:=hv.addr xr;have ez:=c67 (dg 256 x 8).reverse;rw[qHu yr] at ez;have h3:Bd 256 _:=Bd.rev (qK6 O2 8 x);refine jL ?_;refine tJ (tR (qKn hp O O O O O hv) ?_);refine tC (ez _ h3 (by rw[fX,qAw];decide)) fun w2 hp=>?_;exact mA0
 have hz:a.toNat=0:=O1;rw[hz];refine qQ [3,4,5,6,7,8,9,10,11,12,13,14,15,16,17,18,19] (fun _ F=>(F.put 4 (.int _ 56)).put 3 (.slice _ 0 0)) (fun _ w'=>Hp w [] w' _) (fun _=>0) 0 (qB (qB (Same.eq .refl) O) O) hp ?_;rintro u _ w1 hp;refine gA1 ?_;refine wlp (vE O O) (qV (aD O1)) (jM ?_);apply vX;exact O;exact O;exact qP;exact fI O;apply vX;exact O;exact O;exact xJ O O;exact qV (aB O1);refine jL ?_;refine tJ (tR (qY4 O O O) ?_);refine tC (c67 [] _ .nil O4) fun w2 hp=>?_;exact mA0
end
section
open Go.Eng Go.Dig
variable{x i m:Nat}
def eD(d:Nat):List Value:=[Iv (d:Int)]
def d24(x:Nat):List Nat:=jY 16777216 x
theorem qFo(x:Nat):Bd 16777216 (d24 x):=vQ O2 x
theorem qRq(x:Nat):val 16777216 (d24 x)=x:=yX O2 x
theorem qGf(h:i<(d24 x).length):(d24 x)[i]=x/16777216^i%16777216:=qMy O2 h
theorem qHm(h:(d24 x).length≤i):x/16777216^i%16777216=0:=qK5 O2 h
theorem qHl(h:(d24 x).length≤i):x<16777216^i:=vI O2 h
theorem qRr(h:x<16777216^i):(d24 x).length≤i:=qAs O2 h
theorem FitR.d24{x:Nat}(h:FitR x):(d24 x).length≤100000:=by
 obtain⟨k,h1,h2⟩:=h;exact bL (qRr (cJ h2 (nC O2 k))) O1
theorem jPc{b:Nat}(hb:1<b)(h1:b^m≤x)(h2:x<b^(m+1)):(jY b x).length=m+1:=by
 have h3:=qAs hb h2;rcases iL (jY b x).length (m+1) with h|h
 ·have:=vI hb (show(jY b x).length≤m by omega);omega
 omega
theorem jJs(h:x≠0):256^((jY 256 x).length-1)≤x:=by
 rcases iL x (256^((jY 256 x).length-1)) with h1|h1
 ·have h2:=qAs O2 h1;grind
 exact h1
theorem qTb(j:Nat):16777216^j=256^(3*j):=by rw[iJ]
theorem jTf(h1:3*m<(jY 256 x).length)(h2:(jY 256 x).length≤3*(m+1)):(d24 x).length=m+1:=by
 have hx:x≠0:=by
  rintro rfl;simp[qBo] at h1
 refine jPc O2 ?_ ?_
 ·rw[qTb];exact bL (aR O2 O1) (jJs hx)
 rw[qTb];exact vI O2 h2
theorem jEg(y t:Nat):(y/256%256^t)*256+y%256=y%256^(t+1):=by
 rw[dD,bW (256^t) 256,Nat.mod_mul];omega
theorem jDe(hi:i<(jY 256 x).length)(h:i<(jY 256 x).reverse.length):(jY 256 x).reverse[i]=x/256^((jY 256 x).length-1-i)%256:=by
 have h1:=jTx (x:=x) (i:=(jY 256 x).length-1-i) O1 O1;grind
attribute [local irreducible] PV StepF wpl wpd WP Ret
attribute [local irreducible] FitR
theorem jY6(st:ByteArray)(x:Nat)(w:World)(xy:NSR st x)(hl:(jY 256 x).length≤7):Rk 331 [.string st] w (.tuple #[Iv (x:Int),.bool true]):=by
 have e4:=vI O2 hl;have e1:=vI O2 (bM (jY 256 x).length);have h3:Bd 256 _:=Bd.rev (vQ O2 x);have ye:_=(jY 256 x).length:=fX;refine tW func331 ntmps331 fun hp=>?_;refine tD (jTq st x _ xy) fun w1 hp=>?_;refine gA1 ?_;refine qR ?_;refine jM (wlp (qA7 O O) (qF (by rw[ye])) ?_);refine wlp (xJ O O) (qV (aB O1)) (jM ?_);apply vX;exact O;exact O;exact qP;exact fT O;apply vX;exact O;exact O;exact qA7 O O;exact qF (by rw[ye]);apply vX;exact O;exact O;exact zW O O;exact qV (aB O1);refine gAa ?_;refine qQ [4,5,21,22,23,24,25,26,27,28,29,30,31,32,33] (fun(k:Nat) F=>(F.put 5 (.int _ k)).put 4 (.int _ (x/256^((jY 256 x).length-k):Nat))) (fun k w'=>k≤(jY 256 x).length∧Hp w [] w' []) (fun k=>(jY 256 x).length-k) 0 (qB (qB (Same.eq .refl) O) (qF (by rw[sAc,eJ e1];rfl))) ⟨O1,hp⟩ ?_;clear hp;rintro u k w2 ⟨hk,hp⟩;refine gA1 ?_;refine jM (wlp (qA7 O O) (qF (by rw[ye])) ?_);refine tI (fun h=>?_) fun h=>?_
 ·have hg:k<(jY 256 x).length:=O1;have e2:k<(jY 256 x).reverse.length:=O1;have e3:=jDe hg e2;have xy:x/256^((jY 256 x).length-(k+1))=x/256^((jY 256 x).length-k)*256+(jY 256 x).reverse[k]:=by
   rw[e3,show(jY 256 x).length-1-k=(jY 256 x).length-(k+1) from O1,show(jY 256 x).length-k=(jY 256 x).length-(k+1)+1 from O1,dD,←dM];omega
  have yw:x/256^((jY 256 x).length-(k+1))≤x:=fR _ _;refine qA ?_
  (apply wlp;exact qJ1 O O O2;exact qF (b:=(x/256^((jY 256 x).length-k)*256:Nat)) (by
   have e8:min (8:Int).toNat IntKind.i64.bits=8:=O2;rw[e8,qK O1 O1]
   omega))
  refine jM ?_;refine jM (tR (qM0 O O O h3 e2) ?_);refine wlp (zX O O O) (qF (qK O1 O1)) (tN (x/256^((jY 256 x).length-(k+1))) ?_);refine gA0 ?_;exact mA8
 obtain rfl:k=(jY 256 x).length:=O1;rw[lW,nK,sA0];refine qA ?_;exact mDl
theorem jY9(st:ByteArray)(x b:Nat)(w:World)(xy:NSR st x)(hb:b≤7)(_hf:FitR x):Rt 256 [.string st,Iv (b:Int)] w (fun v w'=>(∃q:Bool,q=decide ((jY 256 x).length≤b)∧v= .tuple #[Iv (if q then(x:Int) else 0),.bool q])∧Keeps [] w w'):=by
 have ye:_=(jY 256 x).length:=fX;refine tW func256 ntmps256 fun hp=>?_;refine tD (jTq st x _ xy) fun w1 hp=>wlp (qA7 O O) (qF (by rw[ye])) ?_;refine tI (fun h=>?_) fun h=>?_
 ·refine qA ?_;exact xU O O O ⟨_,O,⟨_,(aB O1).symm,O⟩,hp.C⟩
 refine tD (jY6 st x _ xy O1) fun w2 hp=>?_;refine qA ?_;exact xU O O O ⟨_,O,⟨_,(aD O1).symm,O⟩,hp.C⟩
theorem c68(x b:Nat)(w:World)(hb:b≤7)(hf:FitR x):Rt 256 [.string (ofN x),Iv (b:Int)] w (fun v w'=>(∃q:Bool,q=decide ((jY 256 x).length≤b)∧v= .tuple #[Iv (if q then(x:Int) else 0),.bool q])∧Keeps [] w w'):=jY9 _ x b w (NSR.self hf) hb hf
end
open Go.Eng Go.Dig
section
variable {P:Program}{n:Nat}{F:Fr}{w:World}{d:Option Tmp}{ty:TypeId}{pos:String}{aft:Array Edge}{g:Option (Nat×Bool)}{x y:Operand}{t t':Nat}{a b:ByteArray}
end
attribute [local irreducible] PV StepF wpl wpd WP Ret
attribute [local irreducible] FitR
theorem jY8(st:ByteArray)(x:Nat)(w:World)(xy:NSR st x)(hx:FitR x):Rt 257 [.string st] w (fun v w'=>∃s c,v= .slice s (d24 x).length c∧SVL s c (d24 x)∧Hp w [] w' [qG eD 3 1 s c (d24 x)]):=by
 have eR:=hx.d8;have e1:=vI O2 (bM (jY 256 x).length);have hg:Bd 256 _:=Bd.rev (vQ O2 x);have ye:_=(jY 256 x).length:=fX;have e3:=fun i hi h=>jDe (x:=x) (i:=i) hi h
 have th:∀j,3*j<(jY 256 x).length+3→(jY 256 x).length≤3*j→dg 16777216 x j=d24 x:=by
  intro j h1 h2;have eH:(d24 x).length=j:=by
   cases j with
   |zero=>
    have:x=0:=(wO (b:=256) O2).1 (aZ O1);subst this;rfl
   |succ m=>exact jTf O1 O1
  have:=wP (qFo x);rw[qRq,eH] at this;exact this.symm
 refine Ret.j9 func257 O ntmps257 O ?_;have hp:=(Hp.start (M:=[]) (w:=w)).k4 eD 3 1;refine tD (jTq st x _ xy) fun w1 hp=>?_;refine gA1 ?_;refine gA1 ?_;refine qR ?_;refine jM (wlp (qA7 O O) (qF (by rw[ye])) ?_);generalize hL:(jY 256 x).length=L at*
 refine qA ?_;refine kS [3,4,5,6,11,12,13,14,15,16,17,18,19,20,21,22,23,24,25,26,27,28,29,30,31,32,33] (fun(j:Nat) s c F=>(F.put 4 (.int _ (L-3*j))).put 3 (.slice s (dg 16777216 x j).length c))
  (fun j s c w'=>3*j<L+3∧SVL s c (dg 16777216 x j)∧Hp w [] w' [qG eD 3 1 s c (dg 16777216 x j)]) (fun j _ _=>L+3-3*j) 0 _ 0 (qB (qB (Same.eq .refl) (qF O1)) O) ⟨O1,SVL.nil,hp⟩ ?_
 clear hp;rintro u j s c w2 ⟨hj,hv,hp⟩;refine tI (fun h=>?_) fun h=>?_
 ·obtain⟨e,he⟩:∃e:Nat,e=L-3*j:=⟨_,O⟩;have eL:L-3*(j:Int)=e:=O1;rw[eL];have eu:(dg 16777216 x j).length≤100000:=by rw[qAw];omega
  refine tB ?_;refine wlp (qVh O O) (qF (b:=(e-3:Nat)) O1) (qA ?_);refine qQ [5,6,18,19,20,21,22,23,24,25,26,27,28,29] (fun(k:Nat) F=>(F.put 6 (.int _ k)).put 5 (.int _ (x/256^(L-k)%256^(k-(e-3)):Nat))) (fun k w'=>e-3≤k∧k≤e∧Hp w [] w' _) (fun k=>e-k) _ (qB (qB (Same.eq .refl) O) (qF O4)) ⟨O1,O1,hp⟩ ?_;clear hp;rintro u2 k w3 ⟨e7,uq,hp⟩;refine tI (fun h2=>?_) fun h2=>?_
  ·have hU:k<(jY 256 x).reverse.length:=O1;have e9:=e3 k O1 hU;have dz:=jEg (x/256^(L-1-k)) (k-(e-3));rw[dM,←dD,show(L-1-k).succ=L-k from O1,←e9,show k-(e-3)+1=k+1-(e-3) from O1,show L-1-k=L-(k+1) from by omega] at dz;have te:x/256^(L-k)%256^(k-(e-3))<65536:=by
    refine cJ (dG _ (gJ O2)) ?_;exact bL (aR O2 (show k-(e-3)≤2 by omega)) O2
   generalize x/256^(L-k)%256^(k-(e-3))=D at*
   refine tM (D*256) ?_;refine jM ?_;refine jM (tR (qM0 O O O hg hU) ?_);refine wlp (zX O O O) (qF (qK O1 O1)) (tN (x/256^(L-(k+1))%256^(k+1-(e-3))) ?_);refine gA0 ?_;exact⟨_,qB O5 O,⟨O1,O1,hp⟩,O1⟩
  obtain rfl:k=e:=O1;have zw:x/256^(L-k)%256^(k-(k-3))=x/16777216^j%16777216:=by
   rw[qTb,show L-k=3*j from by omega];by_cases h3:3≤k
   ·grind
   have h4:x/256^(3*j)<256^k:=by
    rw[dU (gJ O2),←dW,show k+3*j=L from by omega];exact e1
   have h5:x/256^(3*j)<16777216:=cJ h4 (bL (aR O2 (show k≤3 by omega)) O2);rw[show k-(k-3)=k from O1,aN h4,aN h5]
  rw[zw];have e8:=qKy 16777216 j x;refine qA ?_;refine tF (jC hp O O O O O O O) fun w4 nb hp=>tFb (jV eD _ _ hp 1 0 O O O O O O (fun _=>O) O O O hv O O O1) fun w5 s' c'⟨hm,hp⟩=>?_;have hp:=hp.H;rw[←e8] at hm hp⊢;refine gA0 ?_;exact⟨_,s',c',qB (qB O5 (qF O1)) O,⟨O1,hm,hp⟩,O1⟩
 rw[th j hj O1] at hv hp⊢;refine tV ?_;exact⟨_,O,s,c,O,hv,hp⟩
theorem c69(x:Nat)(w:World)(hx:FitR x):Rt 257 [.string (ofN x)] w (fun v w'=>∃s c,v= .slice s (d24 x).length c∧SVL s c (d24 x)∧Hp w [] w' [qG eD 3 1 s c (d24 x)]):=jY8 _ x w (NSR.self hx) hx
theorem jE8{V k:Nat}{l:List Nat}(hb:Bd 16777216 l)(hV:V=val 16777216 l)(hk:k<l.length):((dg 256 V (3*l.length)).drop (3*k)).reverse=((dg 256 V (3*l.length)).drop (3*(k+1))).reverse++[l[k]/65536%256,l[k]/256%256,l[k]%256]:=by
 have hl:(dg 256 V _).length=3*l.length:=qAw _ _ _;have hg:=qIf hb hk;rw[←hV,qTb] at hg;have g:∀i,i<3→∀(h:_<_),(dg 256 V (3*l.length))[3*k+i]=l[k]/256^i%256:=by
  intro i hi h;have h1:=qJh 256 (3*l.length) V (3*k+i) O1;rw[aA h] at h1;simp only[sA1] at h1;rw[h1,hg,dW,←dM];generalize V/256^(3*k)=y;have:i=0∨i=1∨i=2:=O1;rcases this with rfl|rfl|rfl
  ·omega
  ·omega
  rw[show(256:Nat)^2=65536 from by decide];omega
 have h0:3*k+0<(dg 256 V (3*l.length)).length:=O1;have h1:3*k+1<(dg 256 V (3*l.length)).length:=O1;have h2:3*k+2<(dg 256 V (3*l.length)).length:=O1;have e0:=g 0 O2 h0;have d0:=aX h0;have d1:=aX h1;have d2:=aX h2;grind
theorem c70(l:List Nat)(s:Option Addr)(c:Nat)(w:World)(hs:SlAt w 1 eD s l)(hb:Bd 16777216 l)(hl:l.length≤100000):Rk 263 [.slice s l.length c] w (.string (ofN (val 16777216 l))):=by
 obtain⟨V,hV⟩:∃V,V=val 16777216 l:=⟨_,O⟩;have vi:V<256^(3*l.length):=by rw[hV,←qTb];exact kK hb
 rw[←hV];have eL:=qAw 256 (3*l.length) V;have ez:=c67 (dg 256 V (3*l.length)).reverse;rw[qHu vi] at ez;have h3:Bd 256 (dg 256 V (3*l.length)).reverse:=Bd.rev (qK6 O2 _ V);refine Ret.j9 func263 O ntmps263 O ?_;have hp:=(Hp.start (M:=[]) (w:=w)).k4 eB 5 1;refine gA0 ?_;refine kS [3,4,8,9,10,11,12,13,14,15,16,17,18,19,20,21,22,23,24,25,26,27,28,29,30,31] (fun(k:Nat) s c F=>(F.put 4 (.int _ (k-1))).put 3 (.slice s ((dg 256 V (3*l.length)).drop (3*k)).reverse.length c))
  (fun k s c w'=>k≤l.length∧SVL s c ((dg 256 V (3*l.length)).drop (3*k)).reverse∧Hp w [] w' [qG eB 5 1 s c ((dg 256 V (3*l.length)).drop (3*k)).reverse]) (fun k _ _=>k) _ _ 0 (qB (qB (Same.eq .refl) O) (by rw[nJ O1];rfl)) ⟨O1,by rw[nJ O1];exact SVL.nil,by grind⟩ ?_
 clear hp;rintro u k s2 c2 w1 ⟨hk,hv,hp⟩;refine tI (fun h=>?_) fun h=>?_
 ·obtain⟨j,rfl⟩:∃j,k=j+1:=⟨k-1,O1⟩;have hg:j<l.length:=O1;have xy:=jE8 hb hV hg;obtain⟨b0,o0,hs0,yq⟩:=hs.base O1;have yp:=yq j _ (aA hg) 0 _ O;have ej:(j+1:Nat)-1=(j:Int):=O1;rw[ej];generalize l[j]=D at*
  have yp:w.cell? ⟨b0,o0+j*1,_⟩=_:=yp;have eu:((dg 256 V (3*l.length)).drop (3*(j+1))).reverse.length≤300000:=by rw[fX,fJ];omega
  generalize ((dg 256 V _).drop _).reverse=Z at*
  refine qA ?_;refine jU jG O3 (fun w'=>Hp w [] w' _) hp.N ?_;have hp:=hp.N;refine qX ?_;refine wdp O (fun w hp=>xP O O O2) (qF (b:=(D/65536:Nat)) O) (tP (fun w hp=>kC O O O) ?_);refine qX ?_;refine wdp O (fun w hp=>xP O O O2) (qF (b:=(D/256:Nat)) O) (tP (fun w hp=>kC O O O) ?_);refine tP (fun w hp=>qP) (tP (fun w hp=>qP) ?_);refine tP (fun w hp=>zA O O O hs0 hg) (tP (fun w hp=>qS O O (hp.j7 yp)) ?_);refine tP (fun w hp=>kC O O O) ?_;apply wds;exact O;exact jC hp O O O O O O O;rintro _ w2 ⟨nb,rfl,hp⟩;refine⟨hp.H,?_⟩;have e8:SlAt w2 1 eB _ _:=qAa [_,_,_] hp 0 O (fun _=>O);apply jNl;exact O;exact O;exact qV8 eB Z _ hp 1 O O O O O O (fun _=>O) O O O hv e8 (fun _=>O) (by grind);rintro _ w3 ⟨s',c',rfl,hm,hp⟩;refine qX (qU ?_);have hp:=hp.H;rw[←xy] at hm hp⊢;refine gA0 ?_;exact⟨j,s',c',qB O5 O,⟨O1,hm,hp⟩,O1⟩
 obtain rfl:k=0:=O1;rw[sBh,sAn] at hv hp⊢;by_cases dr:l.length=0
 ·have hn:(dg 256 V (3*l.length)).reverse=[]:=aZ (by grind);rw[hn] at ez hv hp⊢;rcases hv with⟨e1,_⟩|⟨g,cap,e1,_⟩
  ·injection e1 with e2 _ e3
   subst e2 e3;refine qA (tR (qY4 O O O) ?_);refine tC (ez _ .nil O4) fun w2 hp=>?_;exact mA0
  injection e1 with e2 _ e3
  subst e2;refine qA (tR (qKn hp O O O O O (.inr ⟨g,_,by rw[e3],O1⟩)) ?_);refine tC (ez _ .nil O4) fun w2 hp=>?_;exact mA0
 have xr:(dg 256 V (3*l.length)).reverse≠[]:=by
  intro h;have:=aQ List.length h;rw[fX,eL] at this;simp at this;omega
 obtain⟨bb,rfl⟩:=hv.addr xr;refine qA (tR (qKn hp O O O O O hv) ?_);refine tC (ez _ h3 (by grind)) fun w2 hp=>?_;exact mA0
end Go.Proofs.YtplkndjlfkkjlaaGreatDoor
