import Derived.Test.YtipljcmmokaokaaGreatQM39
set_option linter.unusedVariables false
set_option linter.unusedSimpArgs false
namespace Go.Proofs.YtipljcmmokaokaaGreat
open Go.RowKit Go.Lib Go.Maps Go.WideMaps Go.Sort
set_option maxRecDepth 100000
def HY (w0:World) (p pf:Nat) (nm:J.B) (u q g c:Nat) (fs:List (Nat×Obj)) (ds:List Nat) (mf mm:X.M) (L:List (List (J.B×J.B))) (w:World):Prop:=∃v l,rh w0 p pf nm u q g c fs ds mf mm L v l w
def One (L L':List (List (J.B×J.B))):Prop:=L'=L∨∃c,L'=L++[c]
def nj (w0:World) (p pf:Nat) (nm:J.B) (u q g c:Nat) (fs:List (Nat×Obj)) (ds:List Nat) (mf mm:X.M) (L:List (List (J.B×J.B))) (w':World):Prop:=∃L',One L L'∧HY w0 p pf nm (u+1) q g c fs ds mf mm L' w'
section
variable {w0 : World} {p pf q g c : Nat} {nm : J.B} {u u' : Nat} {fs gs : List (Nat × Obj)} {ds : List Nat} {mf ze mm QV : X.M} {L : List (List (J.B × J.B))} {w w' : World}
theorem HY.below (h:HY w0 p pf nm u q g c fs ds mf mm L w) (hb:Below w.heap.size w w'):HY w0 p pf nm u q g c fs ds mf mm L w':=by
 obtain⟨v,l,h⟩:=h;exact⟨v,l,h.below hb⟩
theorem HY.cY (h:HY w0 p pf nm u q g c fs ds mf mm L w) (hg:∀x∈gs,x∈fs) (Tp:∀d∈ds,∃y∈gs,y.1=d):HY w0 p pf nm u q g c gs ds mf mm L w:=by
 obtain⟨v,l,h⟩:=h;exact⟨v,l,h.cY hg Tp⟩
theorem HY.add (h:HY w0 p pf nm u q g c fs ds mf mm L w) (hb:Below w.heap.size w w') (hg:∀x∈gs,w.heap.size≤x.1∧w'.heap[x.1]? =some x.2):HY w0 p pf nm u q g c (gs++fs) ds mf mm L w':=by
 obtain⟨v,l,h⟩:=h;exact⟨v,l,h.add hb hg⟩
theorem HY.get (h:HY w0 p pf nm u q g c fs ds mf mm L w) {x:Nat×Obj} (hx:x∈fs):w.heap[x.1]? =some x.2:=by
 obtain⟨v,l,h⟩:=h;exact h.get hx
theorem HY.bel (h:HY w0 p pf nm u q g c fs ds mf mm L w):Below w0.heap.size w0 w:=by
 obtain⟨v,l,h⟩:=h;exact h.bel
theorem HY.row (h:HY w0 p pf nm u q g c fs ds mf mm L w):∃v,w.heap[q]? =some (gF mm g c v):=by
 obtain⟨v,l,h⟩:=h;exact⟨v,h.row⟩
theorem HY.mok (h:HY w0 p pf nm u q g c fs ds mf mm L w):X.eQ u mf:=by
 obtain⟨v,l,ko,rb,⟨s,f,g,c,ok,h⟩,_⟩:=h;exact h.kp.mok
theorem HY.EP (h:HY w0 p pf nm u q g c fs ds mf mm L w):∀d∈ds,∃y∈fs,y.1=d:=by
 obtain⟨v,l,ko,rb,_,_,_,_,_,_,h⟩:=h;exact h
theorem HY.mono (h:HY w0 p pf nm u q g c fs ds mf mm L w) (hv:u≤u'):HY w0 p pf nm u' q g c fs ds mf mm L w:=by
 obtain⟨v,l,ko,rb,h,h2⟩:=h;exact⟨v,l,ko,rb,h.mono hv,h2⟩
theorem nj.cY (h:nj w0 p pf nm u q g c fs ds mf mm L w) (hg:∀x∈gs,x∈fs) (Tp:∀d∈ds,∃y∈gs,y.1=d):nj w0 p pf nm u q g c gs ds mf mm L w:=by
 obtain⟨L',h1,h2⟩:=h;exact⟨L',h1,h2.cY hg Tp⟩
theorem nj.below (h:nj w0 p pf nm u q g c fs ds mf mm L w) (hb:Below w.heap.size w w'):nj w0 p pf nm u q g c fs ds mf mm L w':=by
 obtain⟨L',h1,h2⟩:=h;exact⟨L',h1,h2.below hb⟩
theorem HY.file (h:HY w0 p pf nm u q g c fs ds mf mm L w):∃ks:List (Nat×Obj),(∀x∈fs,x∈ks)∧IK w0 p pf nm u ks mf L w∧∀(ze:X.M) (w':World),CA w0 p pf nm u ks ze L w'→nj w0 p pf nm u q g c fs ds ze mm L w':=by
 obtain⟨v,l,h⟩:=h;obtain⟨ks,h1,h2,h3⟩:=h.file;refine⟨ks,h1,h2,λze w' ⟨L',hl,h⟩=>⟨L',hl,v,l,h3 _ _ _ _ h⟩⟩
theorem HY.Zl (h:HY w0 p pf nm u q g c fs ds mf mm L w):Calls Tryz.prog 23 #[.pointer (some ⟨pf,0,none⟩)] w λe w'=>e= .returned (.int .u8 (mf.mode:Nat))∧w=w':=by
 obtain⟨ks,_,⟨s,f,g,c,ok,h⟩,_⟩:=h.file;have hr:=h.row;have hm:=h.fm.mode;have hc:=aj w pf hr;clear hr h;rw[hm]at hc;go_enter Tryz.func23,Tryz.ntmps23;go_wp2;go_ret;exact⟨rfl,rfl⟩
theorem RA (h:HY w0 p pf nm u q g c fs ds mf mm L w) (hu:u≤340) (Yw:X.Bd nm mf.ks mf.size u) (md:Nat) (od:Bool):
  Calls Tryz.prog 12 #[.pointer (some ⟨pf,0,none⟩), .int .u8 (md:Nat), .bool od] w λe w'=>e= .returned (.string ⟨(mf.open md od).2.toArray⟩)∧nj w0 p pf nm u q g c fs ds (mf.open md od).1 mm L w':=by
 obtain⟨ks,_,h2,h3⟩:=h.file;refine(FW h2 hu Yw md od).mono ?_;rintro e w' ⟨rfl,h⟩;exact⟨rfl,h3 _ _ h⟩
theorem Cf (h:HY w0 p pf nm u q g c fs ds mf mm L w):
  Calls Tryz.prog 17 #[.pointer (some ⟨pf,0,none⟩)] w λe w'=>e= .returned (.string ⟨mf.close.2.toArray⟩)∧nj w0 p pf nm u q g c fs ds mf.close.1 mm L w':=by
 obtain⟨ks,_,h2,h3⟩:=h.file;refine(BL h2).mono ?_;rintro e w' ⟨rfl,h⟩;exact⟨rfl,h3 _ _ h⟩
theorem RB (h:HY w0 p pf nm u q g c fs ds mf mm L w) (hu:u≤340):
  Calls Tryz.prog 20 #[.pointer (some ⟨pf,0,none⟩)] w λe w'=>∃v,e= .returned (.tuple #[v, .string ⟨mf.next.2.2.toArray⟩])∧bT w' (· <w.heap.size) v (mf.next.2.1.getD [])∧nj w0 p pf nm u q g c fs ds mf.next.1 mm L w':=by
 obtain⟨ks,_,h2,h3⟩:=h.file;refine(FT h2 hu).mono ?_;rintro e w' ⟨v,rfl,hs,h⟩;exact⟨v,rfl,hs,h3 _ _ h⟩
theorem RD (h:HY w0 p pf nm u q g c fs ds mf mm L w) (hu:u≤340) (k:Int) (v:Value) (b:J.B) (hv:Src w0 p fs v b) (hbl:b.length≤1000000):
  Calls Tryz.prog 25 #[.pointer (some ⟨pf,0,none⟩), .int .i64 k,v] w λe w'=>∃v,e= .returned (.tuple #[v, .string ⟨(mf.get k b).2.2.toArray⟩])∧bT w' (· <w.heap.size) v ((mf.get k b).2.1.getD [])∧nj w0 p pf nm u q g c fs ds (mf.get k b).1 mm L w':=by
 obtain⟨ks,h1,h2,h3⟩:=h.file;refine(FU h2 hu k v b (hv.sub h1) hbl).mono ?_;rintro e w' ⟨v,rfl,hs,h⟩;exact⟨v,rfl,hs,h3 _ _ h⟩
theorem NY (h:HY w0 p pf nm u q g c fs ds mf mm L w) (hu:u≤340) (v:Value) (b:J.B) (hv:Src w0 p fs v b):
  Calls Tryz.prog 15 #[.pointer (some ⟨pf,0,none⟩),v] w λe w'=>e= .returned (.string ⟨(mf.write b).2.toArray⟩)∧nj w0 p pf nm u q g c fs ds (mf.write b).1 mm L w':=by
 obtain⟨ks,h1,h2,h3⟩:=h.file;refine(BN h2 hu v b (hv.sub h1)).mono ?_;rintro e w' ⟨rfl,h⟩;exact⟨rfl,h3 _ _ h⟩
theorem ER (h:HY w0 p pf nm u q g c fs ds mf mm L w) (hu:u≤340) (v:Value) (b:J.B) (hv:Src w0 p fs v b):
  Calls Tryz.prog 26 #[.pointer (some ⟨pf,0,none⟩),v] w λe w'=>e= .returned (.string ⟨(mf.rewrite b).2.toArray⟩)∧nj w0 p pf nm u q g c fs ds (mf.rewrite b).1 mm L w':=by
 obtain⟨ks,h1,h2,h3⟩:=h.file;refine(vk h2 hu v b (hv.sub h1)).mono ?_;rintro e w' ⟨rfl,h⟩;exact⟨rfl,h3 _ _ h⟩
theorem Jg (h:HY w0 p pf nm u q g c fs ds mf mm L w) (hu:u≤340) (v:Value) (b:J.B) (hv:Src w0 p fs v b) (hbl:b.length≤1000000):
  Calls Tryz.prog 27 #[.pointer (some ⟨pf,0,none⟩),v] w λe w'=>e= .returned (.string ⟨(mf.delete b).2.toArray⟩)∧nj w0 p pf nm u q g c fs ds (mf.delete b).1 mm L w':=by
 obtain⟨ks,h1,h2,h3⟩:=h.file;refine(xt h2 hu v b (hv.sub h1) hbl).mono ?_;rintro e w' ⟨rfl,h⟩;exact⟨rfl,h3 _ _ h⟩
theorem NZ (h:HY w0 p pf nm u q g c fs ds mf mm L w) (hu:u≤340) (k:Int) (r:Nat) (hr:r≤5) (v:Value) (b:J.B) (hv:Src w0 p fs v b):
  Calls Tryz.prog 19 #[.pointer (some ⟨pf,0,none⟩), .int .i64 k, .int .u8 (r:Nat),v] w λe w'=>e= .returned (.string ⟨(mf.start k r b).2.toArray⟩)∧nj w0 p pf nm u q g c fs ds (mf.start k r b).1 mm L w':=by
 obtain⟨ks,h1,h2,h3⟩:=h.file;refine(BM h2 hu k r hr v b (hv.sub h1)).mono ?_;rintro e w' ⟨rfl,h⟩;exact⟨rfl,h3 _ _ h⟩
theorem HY.Zm (h:HY w0 p pf nm u q g c fs ds mf mm L w):vQ w q:=by
 obtain⟨v,l,h⟩:=h;have hr:=h.row;obtain⟨ko,rb,h1,_,cd,_⟩:=h;have vV:∀x∈rb,w.heap[x.1]? =some x.2:=λx hx=>h1.get (ag _ (ag _ (List.mem_append_left _ hx)));obtain⟨A0,c0,hv0⟩:=cd.sl vV;rw[hv0]at hr;exact Gc hr
theorem Oa (h:HY w0 p pf nm u q g c fs ds mf mm L w) (hm:X.eQ u' mm) (hu:u'≤1000) (md:Nat) (od:Bool):
  Calls Tryz.prog 13 #[.pointer (some ⟨q,0,none⟩), .int .u8 (md:Nat), .bool od] w λe w'=>e= .returned (.string ⟨(mm.open md od).2.toArray⟩)∧HY w0 p pf nm u q g c fs ds mf (mm.open md od).1 L w':=by
 obtain⟨v,l,h⟩:=h;obtain⟨M,h1,h2,h3,_⟩:=h.model;refine(Jc h2 h1 (cj.of (size:=mm.size) h2 hm.rows hm.ks (by have:=hm.many;omega)) md od).mono ?_;rintro e w' ⟨rfl,v',l',hr⟩;exact⟨rfl,v',l',h3 _ _ _ _ (X.pP mm md od).1 hr⟩
theorem Ob (h:HY w0 p pf nm u q g c fs ds mf mm L w) (hm:X.eQ u' mm) (hu:u'≤1000):
  Calls Tryz.prog 68 #[.pointer (some ⟨q,0,none⟩)] w λe w'=>e= .returned (.tuple #[.string ⟨(mm.next.2.1.getD []).toArray⟩, .string ⟨mm.next.2.2.toArray⟩])∧HY w0 p pf nm u q g c fs ds mf mm.next.1 L w'∧w.grownBy w' (some q):=by
 obtain⟨v,l,h⟩:=h;obtain⟨M,h1,h2,h3,_⟩:=h.model;refine(IG h2 h1 (cj.of (size:=mm.size) h2 hm.rows hm.ks (by have:=hm.many;omega)) hm.rows hm.key).mono ?_;rintro e w' ⟨rfl,hr⟩;exact⟨rfl,⟨v,l,h3 _ _ _ _ (X.pQ mm) hr⟩,hr.1⟩
theorem RF (h:HY w0 p pf nm u q g c fs ds mf mm L w) (hm:X.eQ u' mm) (hu:u'≤1000) (k:Int) (b:J.B) (hbl:b.length≤1000000):
  Calls Tryz.prog 69 #[.pointer (some ⟨q,0,none⟩), .int .i64 k, .string ⟨b.toArray⟩] w λe w'=>e= .returned (.tuple #[.string ⟨((mm.get k b).2.1.getD []).toArray⟩, .string ⟨(mm.get k b).2.2.toArray⟩])∧HY w0 p pf nm u q g c fs ds mf (mm.get k b).1 L w'∧w.grownBy w' (some q):=by
 obtain⟨v,l,h⟩:=h;obtain⟨M,h1,h2,h3,_⟩:=h.model;refine(MF h2 h1 (cj.of (size:=mm.size) h2 hm.rows hm.ks (by have:=hm.many;omega)) hm.rows k b hbl).mono ?_;rintro e w' ⟨rfl,hr⟩;exact⟨rfl,⟨v,l,h3 _ _ _ _ (X.xw mm k b) hr⟩,hr.1⟩
theorem Jh (h:HY w0 p pf nm u q g c fs ds mf mm L w) (hm:X.eQ u' mm) (hu:u'≤1000) (b:J.B) (hbl:b.length≤1000000):
  Calls Tryz.prog 16 #[.pointer (some ⟨q,0,none⟩), .string ⟨b.toArray⟩] w λe w'=>e= .returned (.string ⟨(mm.write b).2.toArray⟩)∧HY w0 p pf nm u q g c fs ds mf (mm.write b).1 L w':=by
 obtain⟨v,l,h⟩:=h;obtain⟨M,h1,h2,h3,_⟩:=h.model;refine(Ej h2 h1 (cj.of (size:=mm.size) h2 hm.rows hm.ks (by have:=hm.many;omega)) (by have:=hm.time;omega) b hbl).mono ?_;rintro e w' ⟨rfl,v',l',hr⟩;exact⟨rfl,v',l',h3 _ _ _ _ (X.eE mm b).1 hr⟩
theorem Cg (h:HY w0 p pf nm u q g c fs ds mf mm L w) (hm:X.eQ u' mm) (hu:u'≤1000) (b:J.B) (hbl:b.length≤1000000):
  Calls Tryz.prog 70 #[.pointer (some ⟨q,0,none⟩), .string ⟨b.toArray⟩, .bool false] w λe w'=>e= .returned (.string ⟨(mm.rewrite b).2.toArray⟩)∧HY w0 p pf nm u q g c fs ds mf (mm.rewrite b).1 L w':=by
 obtain⟨v,l,h⟩:=h;obtain⟨M,h1,h2,h3,_⟩:=h.model;have hf:=cj.of (size:=mm.size) h2 hm.rows hm.ks (by have:=hm.many;omega);have hq:Calls Tryz.prog 70 #[.pointer (some ⟨q,0,none⟩), .string ⟨b.toArray⟩, .bool false] w (FN w q g c M mm b):=by
  by_cases hc:X.bM [52,57] [3] mm.mode=X.good
  ·exact Uu h2 h1 hf hm.rows (by have:=hm.time;omega) b hbl hc
  ·exact Qm h2 b hc
 refine hq.mono ?_;unfold FN;rintro e w' ⟨rfl,v',l',hr⟩;exact⟨rfl,v',l',h3 _ _ _ _ (X.px mm b) hr⟩
theorem ES (h:HY w0 p pf nm u q g c fs ds mf mm L w) (hm:X.eQ u' mm) (hu:u'≤1000) (b:J.B) (hbl:b.length≤1000000):
  Calls Tryz.prog 70 #[.pointer (some ⟨q,0,none⟩), .string ⟨b.toArray⟩, .bool true] w λe w'=>e= .returned (.string ⟨(mm.delete b).2.toArray⟩)∧HY w0 p pf nm u q g c fs ds mf (mm.delete b).1 L w':=by
 obtain⟨v,l,h⟩:=h;obtain⟨M,h1,h2,h3,_⟩:=h.model;have hf:=cj.of (size:=mm.size) h2 hm.rows hm.ks (by have:=hm.many;omega);have hq:Calls Tryz.prog 70 #[.pointer (some ⟨q,0,none⟩), .string ⟨b.toArray⟩, .bool true] w (MG w q g c M mm b):=by
  by_cases hc:X.bM [52,57] [3] mm.mode=X.good
  ·exact Uz h2 h1 hf hm.rows b hbl hc
  ·exact Qp h2 b hc
 refine hq.mono ?_;unfold MG;rintro e w' ⟨rfl,v',l',hr⟩;exact⟨rfl,v',l',h3 _ _ _ _ (X.delete_keeps mm b) hr⟩
theorem Ji (h:HY w0 p pf nm u q g c fs ds mf mm L w) (hm:X.eQ u' mm) (hu:u'≤1000) (k:Int) (r:Nat) (hr:r≤5) (b:J.B):
  Calls Tryz.prog 71 #[.pointer (some ⟨q,0,none⟩), .int .i64 k, .int .u8 (r:Nat), .string ⟨b.toArray⟩] w λe w'=>e= .returned (.string ⟨(mm.start k r b).2.toArray⟩)∧HY w0 p pf nm u q g c fs ds mf (mm.start k r b).1 L w':=by
 obtain⟨v,l,h⟩:=h;obtain⟨M,h1,h2,h3,_⟩:=h.model;refine(Ev h2 h1 (cj.of (size:=mm.size) h2 hm.rows hm.ks (by have:=hm.many;omega)) k r hr b).mono ?_;rintro e w' ⟨rfl,hr⟩;exact⟨rfl,v,l,h3 _ _ _ _ (X.sQ mm k r b) hr⟩
theorem Ch (h:HY w0 p pf nm u q g c fs ds mf mm L w):HY w0 p pf nm u q g c fs ds mf {mm with mode:=0} L (w.setCell ⟨q,6,none⟩ (.int .u8 0)):=by
 obtain⟨v,l,h⟩:=h;obtain⟨M,h1,h2,h3,_⟩:=h.model;exact⟨v,l,h3 {mm with mode:=0} _ _ _ rfl (HR.set (fe h2) 6 _ (aB h2.row 6 _) rfl rfl)⟩
theorem Jj (h:HY w0 p pf nm u q g c fs ds mf mm L w) (hm:X.eQ u' mm) (hu:u'≤1000) (i:Nat) (hi:i<mm.ks.length):
  Calls Tryz.prog 18 #[.pointer (some ⟨q,0,none⟩), .int .i64 (i:Nat)] w λe w'=>∃v' lp,e= .returned v'∧Below w.heap.size w w'∧mP w' bF v' lp∧lp.map (·.1)=X.bQ mm.ks i mm.rows:=by
 obtain⟨v,l,h⟩:=h;obtain⟨M,h1,h2,h3,h4,_⟩:=h.model;refine(gA h2 h1 (cj.of (size:=mm.size) h2 hm.rows hm.ks (by have:=hm.many;omega)) i hi).mono ?_;rintro e w' ⟨v',rfl,hb,hw⟩;exact⟨v',_,rfl,hb,hw.weak (λk hk=>hk.elim),h2.bQ i⟩
theorem kn {gb n cb:Nat} {b:J.B} {o:Obj} (hs:Sl w bF (.slice (some ⟨gb,0,none⟩) n cb) b) (ho:w.heap[gb]? =some o) (hm:(gb,o)∈fs):Src w0 p fs (.slice (some ⟨gb,0,none⟩) n cb) b:=by
 by_cases hb:b=[]
 ·subst hb;rcases hs with⟨A,e,_⟩|⟨b',o',c',e,h1,_⟩
  ·exactλgs t w1 hg ha=> .inl ⟨A,e,rfl⟩
  ·injection e with e1 e2 e3;injection e1 with e1;injection e1 with e1 e4;subst e1 e2 e3 e4;exactλgs t w1 hg ha=> .inr ⟨_,0,_,rfl,h1,(ai (ha.get (hg _ hm))).1,rfl,λhn=>absurd hn (Nat.lt_irrefl 0)⟩
 ·exact Gb hs hb ho hm
end
end Go.Proofs.YtipljcmmokaokaaGreat
