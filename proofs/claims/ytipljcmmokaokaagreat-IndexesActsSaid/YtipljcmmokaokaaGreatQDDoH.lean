import Derived.Test.YtipljcmmokaokaaGreatQDY
import Derived.Test.YtipljcmmokaokaaGreatQDAct
set_option linter.unusedVariables false
set_option linter.unusedSimpArgs false
namespace Go.Proofs.YtipljcmmokaokaaGreat
open Go.RowKit Go.Lib Go.Maps Go.WideMaps Go.Sort
set_option maxRecDepth 100000
namespace X
def Ac.k (a:Ac):Int:=((a.key%5:Nat):Int) - 1
def M.does (m:M) (a:Ac) (od:Bool):M:=
 match a.what%12 with
 |0=>(m.open (a.n%6) od).1
 |1=>(m.open (a.n%6) od).1
 |2=>m.close.1
 |3=>m.next.1
 |4=>m.next.1
 |5=>(m.get a.k (rc a.val)).1
 |6=>(m.write (rc a.val)).1
 |7=>(m.write (rc a.val)).1
 |8=>(m.write (rc a.val)).1
 |9=>(m.rewrite (rc a.val)).1
 |10=>(m.delete (rc a.val)).1
 |_=>(m.start a.k (a.n%6) ((rc a.val).take (a.n/6%4))).1
theorem pD {m:M} (h:m.mode=0):({m with mode:=0}:M)=m:=by
 cases m
 simp only at h;subst h;rfl
end X
abbrev bH (what key n:Nat) (Av:Option Addr) (k cv:Nat):Obj:= .cells #[.int .u8 what, .int .u8 key, .int .u8 n, .slice Av k cv] 60
structure ra (w0:World) (p pf:Nat) (nm:J.B) (u q g c:Nat) (fs:List (Nat×Obj)) (ds:List Nat) (m:X.M) (L:List (List (J.B×J.B))) (n:Nat) (Av:Option Addr) (cv:Nat) (b:J.B) (w:World):Prop where
 h:HY w0 p pf nm u q g c fs ds m m L w
 bd:X.Bd nm m.ks m.size u
 ub:u≤340
 sl:Sl w bF (.slice Av b.length cv) b
 bl:b.length≤1000000
 n:n<256
def Jk (w0:World) (p pf:Nat) (nm:J.B) (u q g c:Nat) (fs:List (Nat×Obj)) (ds:List Nat) (m':X.M) (L:List (List (J.B×J.B))) (e:Ending) (w':World):Prop:=
 e= .returned (.bool true)∧nj w0 p pf nm u q g c fs ds m' m' L w'
theorem bT.shape {w:World} {v:Value} {M:Nat→Prop} {l:J.B} (h:bT w M v l):∃A,v= .slice A l.length l.length∧By w M A l.length l:=by
 rcases h with⟨rfl,rfl⟩|⟨b,o,rfl,_,_,_,hb⟩
 ·exact⟨none,rfl,By.ey⟩
 ·exact⟨_,rfl,hb⟩
theorem Oc {w w':World} {q:Nat} {v:Value} {M:Nat→Prop} {l:J.B} (h:bT w M v l) (hg:w.grownBy w' (some q)) (hn:vQ w q):∃A,v= .slice A l.length l.length∧By w' bF A l.length l:=by
 have h1:bT w bF v l:=h.weak (λ_ h=>h.elim);exact(h1.oth (zm.cC hg (λk e=>by injection e with e;subst e;exact⟨λh=>h,hn⟩))).shape
theorem jq {W:World} {base n:Nat} {v:Value} {l:J.B} (h:W.ownsRow base 5 1 v n (dx l)) (hne:v≠ .slice none 0 0):
  l.length=n∧∃gb cb o,v= .slice (some ⟨gb,0,none⟩) n cb∧n≤cb∧base≤gb∧W.heap[gb]? =some o∧Sl W bF (.slice (some ⟨gb,0,none⟩) n cb) l∧By W bF (some ⟨gb,0,none⟩) n l:=by
 obtain⟨A,c,e,hc,hby⟩:=fH (M:=bF) h (λ_ h=>h.elim);rcases h.2 with⟨e2,_⟩|⟨gb,cap,cur,rfl,hbase,hblk,hn,_⟩
 ·exact absurd e2 hne
 ·injection e with e1 e2 e3;subst e1 e3;have hl:=hby.1;subst hl;exact⟨rfl,gb,_,_,rfl,hn,hbase,hblk, .inr ⟨gb,0,_,rfl,hn,(ai hblk).1,hby⟩,hby⟩
theorem zg {w W:World} {gb n:Nat} {o:Obj} {l:J.B} (h:By w bF (some ⟨gb,0,none⟩) n l) (h1:w.heap[gb]? =some o) (h2:W.heap[gb]? =some o):By W bF (some ⟨gb,0,none⟩) n l:=
 ⟨h.1,λhn=>by
  obtain⟨b',o',e,hl,hM,hc⟩:=h.2 hn;injection e with e;injection e with e1 e2;subst e1 e2;exact⟨_,0,rfl,(ai h2).1,λh=>h,λj hj=>(World.cell?_of_block (h2.trans h1.symm)).trans (hc j hj)⟩⟩
theorem Zn {W:World} {gb j cb:Nat} {l:J.B} (h:By W bF (some ⟨gb,0,none⟩) j l) (hj:j≤cb) (hg:gb<W.heap.size):Sl W bF (.slice (some ⟨gb,0,none⟩) j cb) l:=by
 have hl:=h.1;subst hl;exact .inr ⟨gb,0,_,rfl,hj,hg,h⟩
end Go.Proofs.YtipljcmmokaokaaGreat
