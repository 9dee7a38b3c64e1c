import Derived.Test.YtipljcmmokaokaaGreatQM28
import Derived.Test.YtipljcmmokaokaaGreatQM29
set_option linter.unusedVariables false
set_option linter.unusedSimpArgs false
set_option maxHeartbeats 40000000
namespace Go.Proofs.YtipljcmmokaokaaGreat
open Go.RowKit Go.Lib Go.Maps Go.WideMaps Go.Sort
set_option maxRecDepth 100000
section
variable {w0 : World} {p pf g c size ct u : Nat} {nm : J.B} {ks : List X.Ky} {rows : List X.Row} {f : Fv} {w w' : World} {s s1 s2 : J.St} {fs : List (Nat × Obj)} {ok : Obj}
theorem IJ (h0:w.heap[pf]? =some (ax p nm size g ks.length c f)) (hs:X.bM [52,57] [3] f.mode≠[48,48]) (A:Option Addr) (m cb:Nat):
  Calls Tryz.prog 26 #[.pointer (some ⟨pf,0,none⟩), .slice A m cb] w λe w'=>e= .returned (.string ⟨(X.bM [52,57] [3] f.mode).toArray⟩)∧Below w.heap.size w w':=by
 have dD:=ae (bG h0 [52,57] [3] 1 #[.int .u8 3] rfl rfl (by decide) w.heap.size rfl);have hne:=sG hs;have HB:=ae ((ak _ w).alloc (aq _) (.cells #[.int .u8 3] 32));generalize(⟨(X.bM [52,57] [3] f.mode).toArray⟩:ByteArray)=st at dD hne⊢;clear h0 hs;go_enter Tryz.func26,Tryz.ntmps26;go_wp2_with fail;refine dD.out.mono ?_;rintro e W1 ⟨rfl,hW1⟩;subst hW1;clear dD;go_wp2;go_ret;exact⟨rfl,HB.out⟩
theorem Ew:(∀{w0:World} {p pf g c size ct:Nat} {nm:J.B} {ks:List X.Ky} {rows:List X.Row} {f:Fv} {w:World} {s:J.St} {fs:List (Nat×Obj)} {ok:Obj} (h:At w0 p ((pf,ax p nm size g ks.length c f)::fs) s w) (hf:∀x∈fs,x.1≠pf) (bC:(g,ok)∈fs) (hO:bJ ok ks) (ht:J.Two s) (hX:XF nm size ks rows ct s.now) (b:J.B) (A:Option Addr) (cb:Nat) (dX:Src w0 p fs (.slice A b.length cb) b) (aZ:X.bj ks size b=true) (hs:X.bM [52,57] [3] f.mode=[48,48]) (dJ:f.ord=true) (ov:f.read=true) (hne:X.val ks 0 b≠f.last),Calls Tryz.prog 26 #[.pointer (some ⟨pf,0,none⟩), .slice A b.length cb] w λe w'=>e= .returned (.string ⟨#[50,49]⟩)∧At w0 p ((pf,ax p nm size g ks.length c {f with read:=false})::fs) s w')∧(∀{w0:World} {p pf g c size ct:Nat} {nm:J.B} {ks:List X.Ky} {rows:List X.Row} {f:Fv} {w:World} {s:J.St} {fs:List (Nat×Obj)} {ok:Obj} (h:At w0 p ((pf,ax p nm size g ks.length c f)::fs) s w) (hf:∀x∈fs,x.1≠pf) (bC:(g,ok)∈fs) (hO:bJ ok ks) (ht:J.Two s) (hX:XF nm size ks rows ct s.now) (b:J.B) (A:Option Addr) (cb:Nat) (dX:Src w0 p fs (.slice A b.length cb) b) (aZ:X.bj ks size b=true) (hs:X.bM [52,57] [3] f.mode=[48,48]) (dJ:f.ord=true) (ov:f.read=false),Calls Tryz.prog 26 #[.pointer (some ⟨pf,0,none⟩), .slice A b.length cb] w λe w'=>e= .returned (.string ⟨#[52,51]⟩)∧At w0 p ((pf,ax p nm size g ks.length c {f with read:=false})::fs) s w')∧(∀{w0:World} {p pf g c size ct:Nat} {nm:J.B} {ks:List X.Ky} {rows:List X.Row} {f:Fv} {w:World} {s:J.St} {fs:List (Nat×Obj)} {ok:Obj} (h:At w0 p ((pf,ax p nm size g ks.length c f)::fs) s w) (hf:∀x∈fs,x.1≠pf) (bC:(g,ok)∈fs) (hO:bJ ok ks) (ht:J.Two s) (hX:XF nm size ks rows ct s.now) (b:J.B) (A:Option Addr) (cb:Nat) (hs:X.bM [52,57] [3] f.mode=[48,48]) (aZ:X.bj ks size b=false),Calls Tryz.prog 26 #[.pointer (some ⟨pf,0,none⟩), .slice A b.length cb] w λe w'=>e= .returned (.string ⟨#[52,52]⟩)∧At w0 p ((pf,ax p nm size g ks.length c {f with read:=false})::fs) s w'):=by
 refine⟨?z0, ?z1, ?z2⟩
 case' z0=>intro w0 p pf g c size ct nm ks rows f w s fs ok h hf bC hO ht hX b A cb dX aZ hs dJ ov hne
 case' z1=>(intro w0 p pf g c size ct nm ks rows f w s fs ok h hf bC hO ht hX b A cb dX aZ hs dJ ov;have aH:=trivial)
 case' z2=>(intro w0 p pf g c size ct nm ks rows f w s fs ok h hf bC hO ht hX b A cb hs aZ;have aJ:=trivial)
 all_goals
  have bg:=hX.ks.one;have El:=ae (λW (hh:At w0 p ((pf,ax p nm size g ks.length c {f with read:=false})::fs) s W)=>nZ nm size g c ks A b.length cb W (hO.2 W g (hh.get (ag _ bC))) (by omega) (λk hk=>by have h1:=hX.ks.key k hk;have h2:=hX.ks.size;omega) b rfl);rw[aZ]at El;have hlt:=(ai (h.get af)).1;have hlt:pf<w.heap.size:=hlt;have dD:=ae (bG (h.get af) [52,57] [3] 1 #[.int .u8 3] rfl rfl (by decide) w.heap.size rfl);rw[hs]at dD;have HA:=ae (h.below ((ak _ w).alloc (aq _) (.cells #[.int .u8 3] 32)));first
   |have aJ:=aJ
    skip
   |have gz:=ae (λW (hh:At w0 p ((pf,ax p nm size g ks.length c {f with read:=false})::fs) s W)=>cw (X.aF ks 0) (.slice A b.length cb) b bF W (dX _ _ _ fA hh) ((X.aR.1 aZ).2 _ (X.aU bg.1)) (by have h1:=(X.aR.1 aZ).1;have h2:=hX.ks.size;omega))
    have js:(X.aF ks 0).val b=X.val ks 0 b:=rfl;rw[js]at gz;clear js;have gp:=ae (λW (hh:At w0 p ((pf,ax p nm size g ks.length c {f with read:=false})::fs) s W)=>hO.2 W g (hh.get (ag _ bC)));have ej:0<ks.length:=(by omega);have Dg:=ae ej;clear ej;first
     |have aH:=aH
      generalize(⟨(X.val ks 0 b).toArray⟩:ByteArray)=vb at gz
     |have hq:=df (X.val ks 0 b) f.last
      generalize Qq:(⟨(X.val ks 0 b).toArray⟩:ByteArray)=vb at gz hq;generalize Ib:(⟨f.last.toArray⟩:ByteArray)=lb at hq;have Yt:=ae Ib
    have vG:=ae ov;first
     |have aH:=aH
      clear ov
     |clear Qq Ib ov
      rw[show decide (X.val ks 0 b=f.last)=false by simpa using hne]at hq;clear hne
  clear h hs;go_enter Tryz.func26,Tryz.ntmps26;go_wp2_with fail;refine dD.out.mono ?_;rintro e W1 ⟨rfl,hW1⟩;subst hW1;clear dD;refine aM (λX=>At w0 p ((pf,ax p nm size g ks.length c f)::fs) s X∧Below w.heap.size w X) ⟨HA.out,(ak _ w).alloc (aq _) _⟩ ?_;rintro W ⟨ha,sH⟩;clear HA;have h1:W.heap[pf]? =some (ax p nm size g ks.length c f):=ha.get af;have hz:=aC h1;have hc:=aj W pf h1;first
   |have aJ:=aJ
    skip
   |rw[vG.out]at hc
  have HG:=ae (cz (f':={f with read:=false}) ha hf ht (aA (World.grownBy.refl W (some pf)) 11 (.bool false)) (aB h1 11 (.bool false)));clear ha sH hf bC hO ht hX h1 bg hlt;go_wp2_with fail;refine(El.out _ HG.out).mono ?_;rintro e W3 ⟨rfl,hb⟩;have cU:=ae (HG.out.below hb);clear hb HG El hc hz;first
   |have aJ:=aJ
    skip
   |have hc:=aj W3 pf (cU.out.get af)
    have ej:=Dg.out;have bY:=gp.out _ cU.out;have k1:=bY.at_ ej;have k2:=bY.len ej;have k3:=bY.dup ej;rw[Nat.zero_mul]at k1 k2 k3;rw[Nat.zero_add]at k2 k3;have Iu:(0:Int)<(ks.length:Nat):=(by omega);clear bY gp;go_wp2_with fail;refine(gz.out _ cU.out).mono ?_;rintro e W4 ⟨rfl,hb⟩;have cZ:=ae (cU.out.below hb);clear hb gz cU hc k1 k2 k3;have hc:=aj W4 pf (cZ.out.get af);first
     |have aH:=aH
      rw[dJ]at hc
     |rw[dJ,Yt.out]at hc
  go_wp2;go_ret;first
   |have aJ:=aJ
    exact⟨rfl,cU.out⟩
    skip
   |exact⟨rfl,cZ.out⟩
abbrev Ex:= @Ew.1
abbrev BJ:= @Ew.2.1
abbrev IL:= @Ew.2.2
end
section
variable {w0 w w' : World} {p : Nat} {s : J.St} {fs : List (Nat × Obj)} {F : Nat × Obj} {v : Value} {o : X.Row}
theorem At.old (h:At w0 p (F::fs) s w) (hb:Below w.heap.size w w') (hv:bT w' (· <w.heap.size) v o.b) (h0:o.b≠[]):
  ∃x:Nat×Obj,At w0 p (F::x::fs) s w'∧w.heap.size≤x.1∧rP w0 p (x::fs) v (some o)∧∃b off,v= .slice (some ⟨b,off,none⟩) o.b.length o.b.length:=by
 rcases hv with⟨_,e⟩|⟨b,off,rfl,h1,⟨h2,cur,fr,h3⟩,hm,hby⟩
 ·exact absurd e h0
 ·have hbl:w.heap.size≤b:=Nat.le_of_not_lt hm;refine⟨(b, .cells cur 5 (0,0)), ?_,hbl,⟨⟨b,off,_,rfl⟩,λgs t w1 hg ha=> ?_⟩,b,off,rfl⟩
  ·refine(h.add hb (gs:=[(b, .cells cur 5 (0,0))]) (λx hx=> ?_)).less (λx hx=> ?_)
   ·simp only[List.mem_singleton]at hx;subst hx;exact⟨hbl,h3⟩
   ·simp only[List.mem_cons,List.mem_append,List.not_mem_nil,or_false]at hx⊢;rcases hx with h|h|h
    ·exact .inr (.inl h)
    ·exact .inl h
    ·exact .inr (.inr h)
  ·have hr:w1.heap[b]? =some (.cells cur 5 (0,0)):=ha.get (hg _ af);have hlt:b<w1.heap.size:=(ai hr).1;refine .inr ⟨b,off,_,rfl,aq _,hlt,hby.1,λhn=> ?_⟩;obtain⟨b',o',e,_,_,hc⟩:=hby.2 hn;injection e with e;injection e with e1 e2 e3;subst e1 e2;exact⟨b,off,rfl,hlt,λh=>h,λj hj=>(World.cell?_of_block (hr.trans h3.symm)).trans (hc j hj)⟩
end
section
variable {w0 : World} {p pf g c size ct u : Nat} {nm : J.B} {ks : List X.Ky} {rows : List X.Row} {f : Fv} {w w' : World} {s s1 s2 : J.St} {fs : List (Nat × Obj)} {ok : Obj}
theorem Nb:(∀{w0:World} {p pf g c size ct u:Nat} {nm:J.B} {ks:List X.Ky} {rows:List X.Row} {f:Fv} {w:World} {s:J.St} {fs:List (Nat×Obj)} {ok:Obj} (h:At w0 p ((pf,ax p nm size g ks.length c f)::fs) s w) (hf:∀x∈fs,x.1≠pf) (bC:(g,ok)∈fs) (hO:bJ ok ks) (hcap:ks.length≤c) (ht:J.Two s) (hX:XF nm size ks rows ct s.now) (b:J.B) (A:Option Addr) (cb:Nat) (dX:Src w0 p fs (.slice A b.length cb) b) (aZ:X.bj ks size b=true) (hs:X.bM [52,57] [3] f.mode=[48,48]) (hgo:f.ord=true→f.read=true∧X.val ks 0 b=f.last) {o:X.Row} (dK:rows.find? (λr=>decide (X.val ks 0 r.b=X.val ks 0 b))=some o) (cq:X.dU (X.bB ks rows b (some o) (ks.length - 1))≠[50,50]) (hZ:X.pn u s.now s) (hu:u≤340) (zv:X.aQ ks size (ct+1) (X.fK ks ct rows b (some o))) (hro:rows.length≤u),Calls Tryz.prog 26 #[.pointer (some ⟨pf,0,none⟩), .slice A b.length cb] w λe w'=>e= .returned (.string ⟨(X.dU (X.bB ks rows b (some o) (ks.length - 1))).toArray⟩)∧∃s1 now,At w0 p ((pf,ax p nm size g ks.length c {f with read:=false})::fs) (J.aL s1) w'∧X.Tx u s s1 now∧X.iw nm (X.attr size ks) ks (X.fK ks ct rows b (some o)) (ct+1) now)∧(∀{w0:World} {p pf g c size ct:Nat} {nm:J.B} {ks:List X.Ky} {rows:List X.Row} {f:Fv} {w:World} {s:J.St} {fs:List (Nat×Obj)} {ok:Obj} (h:At w0 p ((pf,ax p nm size g ks.length c f)::fs) s w) (hf:∀x∈fs,x.1≠pf) (bC:(g,ok)∈fs) (hO:bJ ok ks) (hcap:ks.length≤c) (ht:J.Two s) (hX:XF nm size ks rows ct s.now) (b:J.B) (A:Option Addr) (cb:Nat) (dX:Src w0 p fs (.slice A b.length cb) b) (aZ:X.bj ks size b=true) (hs:X.bM [52,57] [3] f.mode=[48,48]) (hgo:f.ord=true→f.read=true∧X.val ks 0 b=f.last) {o:X.Row} (dK:rows.find? (λr=>decide (X.val ks 0 r.b=X.val ks 0 b))=some o) (cq:X.dU (X.bB ks rows b (some o) (ks.length - 1))=[50,50]),Calls Tryz.prog 26 #[.pointer (some ⟨pf,0,none⟩), .slice A b.length cb] w λe w'=>e= .returned (.string ⟨#[50,50]⟩)∧At w0 p ((pf,ax p nm size g ks.length c {f with read:=false})::fs) s w')∧(∀{w0:World} {p pf g c size ct:Nat} {nm:J.B} {ks:List X.Ky} {rows:List X.Row} {f:Fv} {w:World} {s:J.St} {fs:List (Nat×Obj)} {ok:Obj} (h:At w0 p ((pf,ax p nm size g ks.length c f)::fs) s w) (hf:∀x∈fs,x.1≠pf) (bC:(g,ok)∈fs) (hO:bJ ok ks) (hcap:ks.length≤c) (ht:J.Two s) (hX:XF nm size ks rows ct s.now) (b:J.B) (A:Option Addr) (cb:Nat) (dX:Src w0 p fs (.slice A b.length cb) b) (aZ:X.bj ks size b=true) (hs:X.bM [52,57] [3] f.mode=[48,48]) (hgo:f.ord=true→f.read=true∧X.val ks 0 b=f.last) (dK:rows.find? (λr=>decide (X.val ks 0 r.b=X.val ks 0 b))=none),Calls Tryz.prog 26 #[.pointer (some ⟨pf,0,none⟩), .slice A b.length cb] w λe w'=>e= .returned (.string ⟨#[50,51]⟩)∧At w0 p ((pf,ax p nm size g ks.length c {f with read:=false})::fs) s w'):=by
 refine⟨?z0, ?z1, ?z2⟩
 case' z0=>intro w0 p pf g c size ct u nm ks rows f w s fs ok h hf bC hO hcap ht hX b A cb dX aZ hs hgo o dK cq hZ hu zv hro
 case' z1=>(intro w0 p pf g c size ct nm ks rows f w s fs ok h hf bC hO hcap ht hX b A cb dX aZ hs hgo o dK cq;have aH:=trivial)
 case' z2=>(intro w0 p pf g c size ct nm ks rows f w s fs ok h hf bC hO hcap ht hX b A cb dX aZ hs hgo dK;have aJ:=trivial)
 all_goals
  have bg:=hX.ks.one;have El:=ae (λW (hh:At w0 p ((pf,ax p nm size g ks.length c {f with read:=false})::fs) s W)=>nZ nm size g c ks A b.length cb W (hO.2 W g (hh.get (ag _ bC))) (by omega) (λk hk=>by have h1:=hX.ks.key k hk;have h2:=hX.ks.size;omega) b rfl);rw[aZ]at El;have hlt:=(ai (h.get af)).1;have hlt:pf<w.heap.size:=hlt;have dD:=ae (bG (h.get af) [52,57] [3] 1 #[.int .u8 3] rfl rfl (by decide) w.heap.size rfl);rw[hs]at dD;have HA:=ae (h.below ((ak _ w).alloc (aq _) (.cells #[.int .u8 3] 32)));have gz:=ae (λW (hh:At w0 p ((pf,ax p nm size g ks.length c {f with read:=false})::fs) s W)=>cw (X.aF ks 0) (.slice A b.length cb) b bF W (dX _ _ _ fA hh) ((X.aR.1 aZ).2 _ (X.aU bg.1)) (by have h1:=(X.aR.1 aZ).1;have h2:=hX.ks.size;omega));have js:(X.aF ks 0).val b=X.val ks 0 b:=rfl;rw[js]at gz;clear js;have gp:=ae (λW (hh:At w0 p ((pf,ax p nm size g ks.length c {f with read:=false})::fs) s W)=>hO.2 W g (hh.get (ag _ bC)));have ej:0<ks.length:=(by omega);have Dg:=ae ej;clear ej;have iq:=ae (λW=>dw nm size (some ⟨g,0,none⟩) ks.length c 0 0 (X.val ks 0 b) (by decide) (by decide) (by have:=hX.nm;omega) (by have h1:=X.aV aZ bg.1;have h2:=hX.lens bg.1;omega) W);have hlk:=hX.con.lR hX.rows (X.val ks 0 b);rw[dK]at hlk;have gT:=ae (λW (hh:At w0 p ((pf,ax p nm size g ks.length c {f with read:=false})::fs) s W)=>fk hh (X.bS nm 0 (X.val ks 0 b) 0) (by have h1:=X.aV aZ bg.1;have h2:=hX.lens bg.1;have h3:=X.cR nm 0 (X.val ks 0 b) 0;have h4:=hX.nm;omega) (λl hl=>by have:=hX.len _ _ hl;omega));rw[hlk]at gT;have hq:=df (X.val ks 0 b) f.last;generalize Qq:(⟨(X.val ks 0 b).toArray⟩:ByteArray)=vb at gz iq hq;generalize Ib:(⟨f.last.toArray⟩:ByteArray)=lb at hq;generalize(⟨(X.bS nm 0 (X.val ks 0 b) 0).toArray⟩:ByteArray)=ee at iq gT;have Yt:=ae Ib;have UB:=ae Qq;have Ah:Hid (f.ord=false∨f.ord=true∧f.read=true∧(vb.toList==lb.toList)=true):=ae (by
   cases dJ:f.ord with
    |false=>exact .inl rfl
    |true=>exact .inr ⟨rfl,(hgo dJ).1,by rw[hq];simpa using (hgo dJ).2⟩)
  clear Qq Ib hq hgo hlk;first
   |have aJ:=aJ
    skip
   |have dJ:=(X.bD dK).1
    have yH:=hX.rows.fit o dJ;have Wl:o.b≠[]:=λe=>by
     have h1:=(X.aR.1 yH).2 _ (X.aU bg.1);have h2:=(hX.lens bg.1).1;have h3:X.lens ks 0=(X.aF ks 0).len:=rfl;rw[e,List.length_nil]at h1;omega
    have sS:=ae Wl;have nb:=ae (λW (x:Nat×Obj) bo oo (vg:rP w0 p (x::fs) (.slice (some ⟨bo,oo,none⟩) o.b.length o.b.length) (some o)) (hh:At w0 p ((pf,ax p nm size g ks.length c {f with read:=false})::x::fs) s W)=>xn (old:=some o) hh af (ag _ (ag _ bC)) hO hcap hX (dX.more (λy hy=>ag _ (ag _ hy))) aZ (λo' e=>by injection e with e;subst e;exact yH) ⟨vg.1,vg.2.more fA⟩);first
     |have aH:=aH
      have MK:(⟨(X.dU (X.bB ks rows b (some o) (ks.length - 1))).toArray⟩:ByteArray)=⟨#[50,50]⟩:=(by rw[cq]);rw[MK]at nb;clear cq MK dJ yH Wl
     |have hne:=sG cq
      have sP:=ae (λW (x:Nat×Obj) bo oo (vg:rP w0 p (x::fs) (.slice (some ⟨bo,oo,none⟩) o.b.length o.b.length) (some o)) (hxp:x.1≠pf) (hh:At w0 p ((pf,ax p nm size g ks.length c {f with read:=false})::x::fs) s W)=>Bv hh (λy hy=>by rcases au hy with rfl|hy;exact hxp;exact hf y hy) (ag _ bC) hO hcap A cb _ _ _ hZ hu hX (dX.more fA) aZ dK vg zv hro);generalize(⟨(X.dU (X.bB ks rows b (some o) (ks.length - 1))).toArray⟩:ByteArray)=cs at nb hne⊢;clear cq dJ yH Wl
  clear h hs;go_enter Tryz.func26,Tryz.ntmps26;go_wp2_with fail;refine dD.out.mono ?_;rintro e W1 ⟨rfl,hW1⟩;subst hW1;clear dD;refine aM (λX=>At w0 p ((pf,ax p nm size g ks.length c f)::fs) s X∧Below w.heap.size w X) ⟨HA.out,(ak _ w).alloc (aq _) _⟩ ?_;rintro W ⟨ha,sH⟩;clear HA;have h1:W.heap[pf]? =some (ax p nm size g ks.length c f):=ha.get af;have hz:=aC h1;have hc:=aj W pf h1;have HG:=ae (cz (f':={f with read:=false}) ha hf ht (aA (World.grownBy.refl W (some pf)) 11 (.bool false)) (aB h1 11 (.bool false)));clear ha sH hf bC hO ht hX h1 bg hlt;go_wp2_with fail;refine(El.out _ HG.out).mono ?_;rintro e W3 ⟨rfl,hb⟩;have cU:=ae (HG.out.below hb);clear hb HG El hc hz;have hc:=aj W3 pf (cU.out.get af);have ej:=Dg.out;have bY:=gp.out _ cU.out;have k1:=bY.at_ ej;have k2:=bY.len ej;have k3:=bY.dup ej;rw[Nat.zero_mul]at k1 k2 k3;rw[Nat.zero_add]at k2 k3;have Iu:(0:Int)<(ks.length:Nat):=(by omega);clear bY gp;go_wp2_with fail;refine(gz.out _ cU.out).mono ?_;rintro e W4 ⟨rfl,hb⟩;have cZ:=ae (cU.out.below hb);clear hb gz cU hc k1 k2 k3;have hc:=aj W4 pf (cZ.out.get af);rw[Yt.out]at hc;rcases Ah.out with h1|⟨h1,h2,h3⟩
  ·rw[h1]at hc;go_wp2_with fail;clear hc;refine aD 15 (.rd 0 (.rd 1 (.rd 2 (.rd 3 (.rd 4 (.rd 5 (.rd 6 (.rd 7 (.rd 8 (.wr 9 (.wr 10 (.rd 11 (.rd 12 (.rd 13 (.wr 14 .fin))))))))))))))) (λw'=>At w0 p ((pf,ax p nm size g ks.length c {f with read:=false})::fs) s w') (by kernel_rfl) (by kernel_rfl) (λc a d v w h=>by cases d<;>exact h) (cZ.out.below ((ak _ _).drew)) ?_;repeat
    refine az (v:= ?_) (by rfl) (by rfl) (λw' hS=> ?_) (λK hK=> ?_);rotate_left
    ·have hc:=aj w' pf (hS.get (af:(pf,ax p nm size g ks.length c {f with read:=false})∈(pf,ax p nm size g ks.length c {f with read:=false})::fs));clear hS;go_simp;try with_reducible rfl
    go_simp;refine hK _ ?_;clear hK K
   refine wpPm_write (by rfl) (λK hK=> ?_);go_simp;refine(iq.out _).mono ?_;rintro e W6 ⟨rfl,hb⟩;have dC:=ae (cZ.out.below (((ak _ _).drew).trans hb));clear hb iq cZ;refine hK.out _ _ (λw'=>At w0 p ((pf,ax p nm size g ks.length c {f with read:=false})::fs) s w') (λ_ h=>h) dC.out ?_;clear hK K;refine wpPm_write (by rfl) (λK hK=> ?_);go_simp;refine(gT.out _ dC.out).mono ?_;rintro e W7 ⟨v,rfl,jM,oI,rf⟩;first
    |have aJ:=aJ
     skip
    |have jM:bT W7 (· <W6.heap.size) v o.b:=jM
     obtain⟨x,h8,QC,vg,bo,oo,hv⟩:=dC.out.old rf jM sS.out;have Cz:pf<W6.heap.size:=dC.out.lt af;have HXP:=ae (show x.1≠pf by omega);subst hv
   have cQ:=ae oI;first
    |have aJ:=aJ
     have po:=ae jM;clear oI jM rf gT dC
    |have ig:=ae h8
     have FR:=ae vg;clear oI jM rf gT dC h8 QC vg Cz sS
   refine hK.out _ _ (λw'=>At w0 p ((pf,ax p nm size g ks.length c {f with read:=false})::fs) s w') (λ_ h=>h) cQ.out ?_;clear hK K;repeat
    refine az (v:= ?_) (by rfl) (by rfl) (λw' hS=> ?_) (λK hK=> ?_);rotate_left
    ·have hc:=aj w' pf (hS.get (af:(pf,ax p nm size g ks.length c {f with read:=false})∈(pf,ax p nm size g ks.length c {f with read:=false})::fs));clear hS;go_simp;try with_reducible rfl
    go_simp;refine hK _ ?_;clear hK K
   refine wpPm_write (by rfl) (λK hK=> ?_);go_simp;refine hK.out _ _ (λw'=>At w0 p ((pf,ax p nm size g ks.length c {f with read:=false})::fs) s w') (λ_ h=>h) cQ.out ?_;clear hK K;show wpList _ _ _ _ _ _;first
    |have aJ:=aJ
     skip
    |refine aM (λY=>At w0 p ((pf,ax p nm size g ks.length c {f with read:=false})::x::fs) s Y) ig.out ?_
     intro W9 rM;have iD:=ae rM;clear rM ig cQ;go_wp2_with fail;refine(nb.out _ _ _ _ FR.out iD.out).mono ?_;rintro e ZY ⟨rfl,hb⟩;have Ey:=ae (iD.out.below hb);clear hb nb iD;first
      |have aH:=aH
       skip
      |go_wp2_with fail
       refine(sP.out _ _ _ _ FR.out HXP.out Ey.out).mono ?_;rintro e W11 ⟨rfl,s1,now,h8,pM,hcon⟩;have yS:=ae (h8.less (λy hy=>by rcases au hy with rfl|hy;exact af;exact ag _ (ag _ hy)));have wh:=ae pM;have Bj:=ae hcon;clear h8 pM hcon sP Ey
   go_wp2;go_ret;first
    |have aJ:=aJ
     exact⟨rfl,cQ.out⟩
     skip
    |have aH:=aH
     exact⟨rfl,Ey.out.less (λy hy=>by rcases au hy with rfl|hy;exact af;exact ag _ (ag _ hy))⟩
     skip
    |exact⟨rfl,_,_,yS.out,wh.out,Bj.out⟩
  ·rw[h1]at hc;go_wp2_with fail;clear hc;refine aD 15 (.rd 0 (.rd 1 (.rd 2 (.rd 3 (.rd 4 (.rd 5 (.rd 6 (.rd 7 (.rd 8 (.wr 9 (.wr 10 (.rd 11 (.rd 12 (.rd 13 (.wr 14 .fin))))))))))))))) (λw'=>At w0 p ((pf,ax p nm size g ks.length c {f with read:=false})::fs) s w') (by kernel_rfl) (by kernel_rfl) (λc a d v w h=>by cases d<;>exact h) (cZ.out.below ((ak _ _).drew)) ?_;repeat
    refine az (v:= ?_) (by rfl) (by rfl) (λw' hS=> ?_) (λK hK=> ?_);rotate_left
    ·have hc:=aj w' pf (hS.get (af:(pf,ax p nm size g ks.length c {f with read:=false})∈(pf,ax p nm size g ks.length c {f with read:=false})::fs));clear hS;go_simp;try with_reducible rfl
    go_simp;refine hK _ ?_;clear hK K
   refine wpPm_write (by rfl) (λK hK=> ?_);go_simp;refine(iq.out _).mono ?_;rintro e W6 ⟨rfl,hb⟩;have dC:=ae (cZ.out.below (((ak _ _).drew).trans hb));clear hb iq cZ;refine hK.out _ _ (λw'=>At w0 p ((pf,ax p nm size g ks.length c {f with read:=false})::fs) s w') (λ_ h=>h) dC.out ?_;clear hK K;refine wpPm_write (by rfl) (λK hK=> ?_);go_simp;refine(gT.out _ dC.out).mono ?_;rintro e W7 ⟨v,rfl,jM,oI,rf⟩;first
    |have aJ:=aJ
     skip
    |have jM:bT W7 (· <W6.heap.size) v o.b:=jM
     obtain⟨x,h8,QC,vg,bo,oo,hv⟩:=dC.out.old rf jM sS.out;have Cz:pf<W6.heap.size:=dC.out.lt af;have HXP:=ae (show x.1≠pf by omega);subst hv
   have cQ:=ae oI;first
    |have aJ:=aJ
     have po:=ae jM;clear oI jM rf gT dC
    |have ig:=ae h8
     have FR:=ae vg;clear oI jM rf gT dC h8 QC vg Cz sS
   refine hK.out _ _ (λw'=>At w0 p ((pf,ax p nm size g ks.length c {f with read:=false})::fs) s w') (λ_ h=>h) cQ.out ?_;clear hK K;repeat
    refine az (v:= ?_) (by rfl) (by rfl) (λw' hS=> ?_) (λK hK=> ?_);rotate_left
    ·have hc:=aj w' pf (hS.get (af:(pf,ax p nm size g ks.length c {f with read:=false})∈(pf,ax p nm size g ks.length c {f with read:=false})::fs));clear hS;go_simp;try with_reducible rfl
    go_simp;refine hK _ ?_;clear hK K
   refine wpPm_write (by rfl) (λK hK=> ?_);go_simp;refine hK.out _ _ (λw'=>At w0 p ((pf,ax p nm size g ks.length c {f with read:=false})::fs) s w') (λ_ h=>h) cQ.out ?_;clear hK K;show wpList _ _ _ _ _ _;first
    |have aJ:=aJ
     skip
    |refine aM (λY=>At w0 p ((pf,ax p nm size g ks.length c {f with read:=false})::x::fs) s Y) ig.out ?_
     intro W9 rM;have iD:=ae rM;clear rM ig cQ;go_wp2_with fail;refine(nb.out _ _ _ _ FR.out iD.out).mono ?_;rintro e ZY ⟨rfl,hb⟩;have Ey:=ae (iD.out.below hb);clear hb nb iD;first
      |have aH:=aH
       skip
      |go_wp2_with fail
       refine(sP.out _ _ _ _ FR.out HXP.out Ey.out).mono ?_;rintro e W11 ⟨rfl,s1,now,h8,pM,hcon⟩;have yS:=ae (h8.less (λy hy=>by rcases au hy with rfl|hy;exact af;exact ag _ (ag _ hy)));have wh:=ae pM;have Bj:=ae hcon;clear h8 pM hcon sP Ey
   go_wp2;go_ret;first
    |have aJ:=aJ
     exact⟨rfl,cQ.out⟩
     skip
    |have aH:=aH
     exact⟨rfl,Ey.out.less (λy hy=>by rcases au hy with rfl|hy;exact af;exact ag _ (ag _ hy))⟩
     skip
    |exact⟨rfl,_,_,yS.out,wh.out,Bj.out⟩
abbrev QD:= @Nb.1
abbrev Ez:= @Nb.2.1
abbrev IM:= @Nb.2.2
end
namespace X
section
variable {u : Nat} {m : M}
theorem eQ.Yu (h:eQ u m):eQ u m.dG:=⟨h.ks,h.rows,h.none,h.many,h.time,h.key,(λe=>by cases e),h.at_,h.mode⟩
theorem QE (h:eQ u m) (k:Int) (b:B):eQ (u+1) (m.get k b).1:=by
 unfold M.get;split
 ·exact h.mono (by omega)
 ·split
  ·exact h.dG
  ·split
   ·exact h.dG
   ·split
    ·rename_i r hr
     have hk:k.toNat<m.ks.length:=(by omega);exact(h.Yu.keyed rfl hk).take (M.uH hr)
    ·exact h.dG
end
structure FM (nm:B) (m:M) (f:Fv):Prop where
 mode:f.mode=m.mode
 ord:f.ord=m.ord
 key:f.key=m.key
 lost:f.lost=m.lost
 last:f.last=m.last
 read:f.read=m.read
 written:f.written=m.written
 pos:m.mode≠0→m.lost=false→f.at_=bS nm m.key m.value m.at_∧f.same=m.same
 rl:m.read=true→m.last.length≤160
structure Kp (nm:B) (u:Nat) (m:M) (L:List (List (B×B))) (s:J.St):Prop where
 mok:eQ u m
 sto:pn u s.now s
 con:m.con nm s.now
 hist:J.mr True s 0 L (List.range L.length)
 len:L.length=s.writes.length+1
section
variable {nm : B} {u : Nat} {m m' : M} {L : List (List (B × B))} {s s1 : J.St} {f : Fv}
theorem FM.dG (h:FM nm m f):FM nm m.dG {f with at_:=[],same:=false,lost:=true,read:=false}:=
 ⟨h.mode,h.ord,h.key,rfl,h.last,rfl,h.written,(λ_ e=>by cases e),λe=>by cases e⟩
theorem FM.aG (h:FM nm m f):FM nm m.aG {f with read:=false}:=
 ⟨h.mode,h.ord,h.key,h.lost,h.last,rfl,h.written,h.pos,λe=>by cases e⟩
theorem eQ.Yv (h:eQ u m) {r:Row} (hr:r∈m.rows):(val m.ks 0 r.b).length≤160:=by
 rw[aV (h.rows.fit r hr) h.ks.one.1];exact(h.ks.key _ (aU h.ks.one.1)).2.1
theorem FM.take (h:FM nm m f) (hm:eQ u m) (r:Row) (hr:r∈m.rows):FM nm (m.take r) {f with at_:=aN nm m.ks f.key r,same:=false,lost:=false,last:=val m.ks 0 r.b,read:=true}:=
 ⟨h.mode,h.ord,h.key,rfl,rfl,rfl,h.written,(λ_ _=>⟨by rw[h.key];rfl,rfl⟩),λ_=>hm.Yv hr⟩
theorem UL (nm:B) {ks:List Ky} {size:Nat} (h:eo ks size):Kp nm 0 (M.new ks size) [[]] J.new:=
 ⟨OY h,Pr,rfl,J.Gp (J.Fb True) rfl,rfl⟩
theorem Kp.same (h:Kp nm u m L s) (hm:eQ (u+1) m') (hs:pn u s.now s) (he:m'.con nm s.now):Kp nm (u+1) m' L s:=
 ⟨hm,hs.mono (Nat.le_succ u),he,h.hist,h.len⟩
theorem Kp.tx {now:List (B×B)} (h:Kp nm u m L s) (hm:eQ (u+1) m') (ht:Tx u s s1 now) (hc:m'.con nm now):Kp nm (u+1) m' (L++[now]) (J.aL s1):=by
 have hn:=ht.sto.now;refine⟨hm,by rw[hn];exact ht.sto,by rw[hn];exact hc, ?_,by rw[List.length_append,h.len,ht.wr];rfl⟩;have:=ht.hist _ _ _ h.hist;rw[List.length_append,List.length_singleton,List.range_succ,h.len];rw[h.len]at this;exact this
theorem Kp.last (h:Kp nm u m L s):L[s.writes.length]? =some s.now:=by
 have h1:=h.hist.last;rw[List.length_range,h.len,Nat.add_sub_cancel]at h1;rw[h1];unfold J.St.com;rw[h.sto.opn];rfl
theorem Kp.idle (h:Kp nm u m L s):Kp nm u m L (J.cA (J.cM s)):=by
 have hs:=h.sto;have hi:=(J.zF (J.wy hs.inv hs.opn).1 rfl).1;refine⟨h.mok,⟨rfl,hs.ar,hs.now,hs.base,hi,hs.wr,hs.h0,hs.h1,hs.sum,hs.log,hs.a0,hs.cm,hs.cu,hs.many⟩,h.con,h.hist.same rfl rfl rfl ?_,h.len⟩;unfold J.St.com;rw[hs.opn];rfl
theorem Kp.cont (h:Kp nm u m L s) (ht:m.there=true):iw nm (attr m.size m.ks) m.ks m.rows m.time s.now:=by
 have:=h.con;unfold M.con at this
 rwa [ht]at this
theorem Kp.xf (h:Kp nm u m L s) (hu:u≤340) (nA:nm.length≤100∧1≤nm.length) (ht:m.there=true):XF nm m.size m.ks m.rows m.time s.now:=
 ⟨h.cont ht,h.mok.rows,h.mok.ks,by have:=h.mok.time;omega,nA.2,nA.1,by have:=h.sto.many;omega,λ_ _ hl=>h.sto.len hl⟩
theorem BK {wr:B} {l:List Nat} {md:Nat} (h:bM wr l md=good):md≠0:=λe=>by
 unfold bM at h;rw[if_pos e]at h;exact absurd h (by decide)
theorem vh (ht:m'.there=true) {now:List (B×B)} (h:iw nm (attr m'.size m'.ks) m'.ks m'.rows m'.time now):m'.con nm now:=by
 unfold M.con;rw[ht];exact h
theorem Nc {m m':M} (e1:m'.ks=m.ks) (e2:m'.size=m.size) (e3:m'.there=m.there) (e4:m'.rows=m.rows) (e5:m'.time=m.time) (now:List (B×B)) (h:m.con nm now):m'.con nm now:=by
 unfold M.con at h⊢;rw[e1,e2,e3,e4,e5];exact h
end
end X
structure KI (w0:World) (p pf:Nat) (nm:J.B) (u:Nat) (fs:List (Nat×Obj)) (m:X.M) (L:List (List (J.B×J.B))) (s:J.St) (f:Fv) (g c:Nat) (ok:Obj) (w:World):Prop where
 at_:At w0 p ((pf,ax p nm m.size g m.ks.length c f)::(g,ok)::fs) s w
 kp:X.Kp nm u m L s
 fm:X.FM nm m f
 ko:bJ ok m.ks
 cap:m.ks.length≤c
 ne:∀x∈(g,ok)::fs,x.1≠pf
 neg:∀x∈fs,x.1≠g
 nm_:nm.length≤100∧1≤nm.length
def IK (w0:World) (p pf:Nat) (nm:J.B) (u:Nat) (fs:List (Nat×Obj)) (m:X.M) (L:List (List (J.B×J.B))) (w:World):Prop:=∃s f g c ok,KI w0 p pf nm u fs m L s f g c ok w
def CA (w0:World) (p pf:Nat) (nm:J.B) (u:Nat) (fs:List (Nat×Obj)) (m':X.M) (L:List (List (J.B×J.B))) (w':World):Prop:=∃L',(L'=L∨∃c,L'=L++[c])∧IK w0 p pf nm (u+1) fs m' L' w'
section
variable {w0 : World} {p pf g c : Nat} {nm : J.B} {u : Nat} {fs : List (Nat × Obj)} {m m' : X.M} {L : List (List (J.B × J.B))} {w w' : World} {s s1 : J.St} {f f' : Fv} {ok : Obj}
theorem KI.same (h:KI w0 p pf nm u fs m L s f g c ok w) (ha:At w0 p ((pf,ax p nm m.size g m.ks.length c f')::(g,ok)::fs) s w') (hm:X.eQ (u+1) m') (hf:X.FM nm m' f') (e1:m'.ks=m.ks) (e2:m'.size=m.size) (e3:m'.there=m.there) (e4:m'.rows=m.rows) (e5:m'.time=m.time):CA w0 p pf nm u fs m' L w':=
 ⟨L, .inl rfl,s,f',g,c,ok,by rw[←e1,←e2]at ha;exact ha,h.kp.same hm h.kp.sto (X.Nc e1 e2 e3 e4 e5 _ h.kp.con),hf,by rw[e1];exact h.ko,by rw[e1];exact h.cap,h.ne,h.neg,h.nm_⟩
theorem KI.tx {now:List (J.B×J.B)} (h:KI w0 p pf nm u fs m L s f g c ok w) (hk:X.Kp nm u m L s1) {s2:J.St} (ha:At w0 p ((pf,ax p nm m.size g m.ks.length c f')::(g,ok)::fs) (J.aL s2) w') (hm:X.eQ (u+1) m') (hf:X.FM nm m' f') (e1:m'.ks=m.ks) (e2:m'.size=m.size) (ht:X.Tx u s1 s2 now) (hc:m'.con nm now):CA w0 p pf nm u fs m' L w':=
 ⟨_, .inr ⟨now,rfl⟩,_,f',g,c,ok,by rw[←e1,←e2]at ha;exact ha,hk.tx hm ht hc,hf,by rw[e1];exact h.ko,by rw[e1];exact h.cap,h.ne,h.neg,h.nm_⟩
theorem KI.src (h:KI w0 p pf nm u fs m L s f g c ok w) {v:Value} {b:J.B} (hv:Src w0 p fs v b):∃A cb,v= .slice A b.length cb∧Src w0 p ((g,ok)::fs) (.slice A b.length cb) b:=by
 obtain⟨A,cb,e,_⟩:=(hv _ _ _ (λx hx=>ag _ (ag _ hx)) h.at_).by
 subst e;exact⟨A,cb,rfl,hv.more (λx hx=>ag _ hx)⟩
theorem KI.row (h:KI w0 p pf nm u fs m L s f g c ok w):w.heap[pf]? =some (ax p nm m.size g m.ks.length c f):=h.at_.get af
theorem BL (h:IK w0 p pf nm u fs m L w):
  Calls Tryz.prog 17 #[.pointer (some ⟨pf,0,none⟩)] w λe w'=>e= .returned (.string ⟨m.close.2.toArray⟩)∧CA w0 p pf nm u fs m.close.1 L w':=by
 obtain⟨s,f,g,c,ok,h⟩:=h;have hm:=X.Lu h.kp.mok;revert hm;unfold X.M.close;by_cases h1:m.mode=0
 ·rw[if_pos h1];intro hm;refine(pD h.row (h.fm.mode.trans h1)).mono ?_;rintro e w1 ⟨rfl,rfl⟩;exact⟨rfl,h.same h.at_ hm h.fm rfl rfl rfl rfl rfl⟩
 ·rw[if_neg h1];intro hm;refine(Dr h.row (by rw[h.fm.mode];omega)).mono ?_;rintro e w1 ⟨rfl,hg,hr⟩;exact⟨rfl,h.same (m':={m with mode:=0}) (cz h.at_ h.ne h.kp.sto.two hg hr) hm ⟨rfl,h.fm.ord,h.fm.key,h.fm.lost,h.fm.last,h.fm.read,h.fm.written,(λe=>absurd rfl e),h.fm.rl⟩ rfl rfl rfl rfl rfl⟩
theorem FT (h:IK w0 p pf nm u fs m L w) (hu:u≤340):
  Calls Tryz.prog 20 #[.pointer (some ⟨pf,0,none⟩)] w λe w'=>∃v,e= .returned (.tuple #[v, .string ⟨m.next.2.2.toArray⟩])∧bT w' (· <w.heap.size) v (m.next.2.1.getD [])∧CA w0 p pf nm u fs m.next.1 L w':=by
 obtain⟨s,f,g,c,ok,h⟩:=h;have hm:=X.Fz h.kp.mok;have gB:=h.fm.mode;revert hm;unfold X.M.next;by_cases hs:X.bM [52,55] [1,3] m.mode=X.good
 ·rw[if_neg (Decidable.not_not.2 hs)];have hs':X.bM [52,55] [1,3] f.mode=[48,48]:=(by rw[gB];exact hs);have xo:=X.eh h.kp.mok (Decidable.not_not.2 hs);have lI:=h.kp.xf hu h.nm_ xo;by_cases hl:m.lost=true
  ·rw[if_pos hl];intro hm;refine(Dv h.at_ h.ne af h.ko h.kp.sto.two lI hs' (h.fm.lost.trans hl)).mono ?_;rintro e w1 ⟨rfl,h1⟩;exact⟨_,rfl,bT.ey,h.same (m':={m with read:=false}) h1 hm h.fm.aG rfl rfl rfl rfl rfl⟩
  ·rw[if_neg hl];have hl:m.lost=false:=Bool.not_eq_true _▸hl;obtain⟨p1,p2⟩:=h.fm.pos (X.BK hs) hl;have dV:f.key<m.ks.length:=(by rw[h.fm.key];exact h.kp.mok.key);have Ec:afterOf s.now ⟨(X.pre nm f.key).toArray⟩ f.at_ f.same=m.at.map (X.aN nm m.ks f.key):=by
    rw[p1,p2,h.fm.key];exact lI.con.after lI.ks lI.rows (by have:=lI.ct;omega) h.kp.mok.key (by have:=h.kp.mok.at_;omega) (h.kp.mok.pos hl) m.same
   cases hr:m.at with
   |some r=>
    rw[hr]at Ec;intro hm;refine(Dw h.at_ h.ne af h.ko h.kp.sto.two lI hs' (h.fm.lost.trans hl) dV r (X.M.at_mem hr) Ec).mono ?_;rintro e w1 ⟨v,rfl,h1,h2⟩;refine⟨v, ?_,h1,h.same (m':=m.take r) h2 hm (h.fm.take h.kp.mok r (X.M.at_mem hr)) rfl rfl rfl rfl rfl⟩;rw[h.fm.key];rfl
   |none=>
    rw[hr]at Ec;intro hm;refine(Dx h.at_ h.ne af h.ko h.kp.sto.two lI hs' (h.fm.lost.trans hl) dV Ec).mono ?_;rintro e w1 ⟨rfl,h1⟩;exact⟨_,rfl,bT.ey,h.same (m':=m.dG) h1 hm h.fm.dG rfl rfl rfl rfl rfl⟩
 ·rw[if_pos hs];intro hm;refine(Du h.row (by rw[gB];exact hs)).mono ?_;rintro e w1 ⟨rfl,h1⟩;exact⟨_,by rw[gB],bT.ey,h.same (h.at_.below h1) hm h.fm rfl rfl rfl rfl rfl⟩
theorem FU (h:IK w0 p pf nm u fs m L w) (hu:u≤340) (k:Int) (v:Value) (b:J.B) (hv:Src w0 p fs v b) (hbl:b.length≤1000000):
  Calls Tryz.prog 25 #[.pointer (some ⟨pf,0,none⟩), .int .i64 k,v] w λe w'=>∃v,e= .returned (.tuple #[v, .string ⟨(m.get k b).2.2.toArray⟩])∧bT w' (· <w.heap.size) v ((m.get k b).2.1.getD [])∧CA w0 p pf nm u fs (m.get k b).1 L w':=by
 obtain⟨s,f,g,c,ok,h⟩:=h;obtain⟨A,cb,rfl,uY⟩:=h.src hv;have hm:=X.QE h.kp.mok k b;have gB:=h.fm.mode;revert hm;unfold X.M.get;by_cases hs:X.bM [52,55] [1,3] m.mode=X.good
 ·rw[if_neg (Decidable.not_not.2 hs)];have hs':X.bM [52,55] [1,3] f.mode=[48,48]:=(by rw[gB];exact hs);have xo:=X.eh h.kp.mok (Decidable.not_not.2 hs);have lI:=h.kp.xf hu h.nm_ xo;by_cases hk:k<0∨m.ks.length≤k
  ·rw[if_pos hk];intro hm;refine(Hi h.at_ h.ne af h.ko h.kp.sto.two lI hs' k hk A cb b).mono ?_;rintro e w1 ⟨rfl,h1⟩;exact⟨_,rfl,bT.ey,h.same (m':=m.dG) h1 hm h.fm.dG rfl rfl rfl rfl rfl⟩
  ·rw[if_neg hk];obtain⟨i,rfl⟩:∃i:Nat,k=i:=⟨k.toNat,by omega⟩;have hi:i<m.ks.length:=(by omega);rw[Int.toNat_natCast];by_cases hb:b.length<(X.aF m.ks i).at_+(X.aF m.ks i).len
   ·rw[if_pos hb];intro hm;refine(AR h.at_ h.ne af h.ko h.kp.sto.two lI hs' i hi A cb b hb).mono ?_;rintro e w1 ⟨rfl,h1⟩;exact⟨_,rfl,bT.ey,h.same (m':=m.dG) h1 hm h.fm.dG rfl rfl rfl rfl rfl⟩
   ·rw[if_neg hb];cases hr:m.mE i (X.val m.ks i b)with
    |some r=>
     intro hm;refine(Dz h.at_ h.ne af h.ko h.kp.sto.two lI hs' i hi A cb b uY (by omega) hbl r hr).mono ?_;rintro e w1 ⟨v,rfl,h1,h2⟩;exact⟨v,rfl,h1,h.same (m':=(m.dG.keyed i).take r) h2 hm ⟨gB,h.fm.ord,rfl,rfl,rfl,rfl,h.fm.written,(λ_ _=>⟨rfl,rfl⟩),λ_=>h.kp.mok.Yv (X.M.uH hr)⟩ rfl rfl rfl rfl rfl⟩
    |none=>
     intro hm;refine(DA h.at_ h.ne af h.ko h.kp.sto.two lI hs' i hi A cb b uY (by omega) hbl hr).mono ?_;rintro e w1 ⟨rfl,h1⟩;exact⟨_,rfl,bT.ey,h.same (m':=m.dG) h1 hm h.fm.dG rfl rfl rfl rfl rfl⟩
 ·rw[if_pos hs];intro hm;refine(Dy h.row (by rw[gB];exact hs) k A b.length cb).mono ?_;rintro e w1 ⟨rfl,h1⟩;exact⟨_,by rw[gB],bT.ey,h.same (h.at_.below h1) hm h.fm rfl rfl rfl rfl rfl⟩
theorem BM (h:IK w0 p pf nm u fs m L w) (hu:u≤340) (k:Int) (r:Nat) (hr:r≤5) (v:Value) (b:J.B) (hv:Src w0 p fs v b):
  Calls Tryz.prog 19 #[.pointer (some ⟨pf,0,none⟩), .int .i64 k, .int .u8 (r:Nat),v] w λe w'=>e= .returned (.string ⟨(m.start k r b).2.toArray⟩)∧CA w0 p pf nm u fs (m.start k r b).1 L w':=by
 obtain⟨s,f,g,c,ok,h⟩:=h;obtain⟨A,cb,rfl,uY⟩:=h.src hv;have hm:=X.Lx h.kp.mok k r b;have gB:=h.fm.mode;revert hm;unfold X.M.start;by_cases hs:X.bM [52,55] [1,3] m.mode=X.good
 ·rw[if_neg (Decidable.not_not.2 hs)];have hs':X.bM [52,55] [1,3] f.mode=[48,48]:=(by rw[gB];exact hs);have xo:=X.eh h.kp.mok (Decidable.not_not.2 hs);have lI:=h.kp.xf hu h.nm_ xo;by_cases hk:k<0∨m.ks.length≤k∨b.length=0∨(X.aF m.ks k.toNat).len<b.length
  ·rw[if_pos hk];intro hm;refine(DJ h.at_ h.ne af h.ko h.kp.sto.two lI hs' k r A cb b hk).mono ?_;rintro e w1 ⟨rfl,h1⟩;exact⟨rfl,h.same (m':=m.dG) h1 hm h.fm.dG rfl rfl rfl rfl rfl⟩
  ·rw[if_neg hk];obtain⟨i,rfl⟩:∃i:Nat,k=i:=⟨k.toNat,by omega⟩;rw[Int.toNat_natCast]at hk⊢;have hgo:=Ht h.at_ h.ne af h.ko h.kp.sto.two lI hs' i r hr A cb b uY (by omega) (by omega) (by omega);rw[show pG m.ks i m.rows r b=m.place i r b from rfl]at hgo;cases hx:m.place i r b with
   |none=>
    rw[hx]at hgo;intro hm;refine hgo.mono ?_;rintro e w1 ⟨rfl,h1⟩;exact⟨rfl,h.same (m':=m.dG) h1 hm h.fm.dG rfl rfl rfl rfl rfl⟩
   |some x=>
    rw[hx]at hgo;intro hm;refine hgo.mono ?_;rintro e w1 ⟨rfl,h1⟩;exact⟨rfl,h.same h1 hm ⟨gB,h.fm.ord,rfl,rfl,h.fm.last,rfl,h.fm.written,(λ_ _=>⟨rfl,rfl⟩),λe=>by cases e⟩ rfl rfl rfl rfl rfl⟩
 ·rw[if_pos hs];intro hm;refine(AX h.row (by rw[gB];exact hs) k r A b.length cb).mono ?_;rintro e w1 ⟨rfl,h1⟩;exact⟨by rw[gB],h.same (h.at_.below h1) hm h.fm rfl rfl rfl rfl rfl⟩
theorem BN (h:IK w0 p pf nm u fs m L w) (hu:u≤340) (v:Value) (b:J.B) (hv:Src w0 p fs v b):
  Calls Tryz.prog 15 #[.pointer (some ⟨pf,0,none⟩),v] w λe w'=>e= .returned (.string ⟨(m.write b).2.toArray⟩)∧CA w0 p pf nm u fs (m.write b).1 L w':=by
 obtain⟨s,f,g,c,ok,h⟩:=h;obtain⟨A,cb,rfl,uY⟩:=h.src hv;have hm:=X.Lv h.kp.mok b;have gB:=h.fm.mode;revert hm;unfold X.M.write;by_cases hs:X.bM [52,56] [2,4,3] m.mode=X.good
 ·rw[if_neg (Decidable.not_not.2 hs)];have hs':X.bM [52,56] [2,4,3] f.mode=[48,48]:=(by rw[gB];exact hs);have xo:=X.eh h.kp.mok (Decidable.not_not.2 hs);have lI:=h.kp.xf hu h.nm_ xo;by_cases vK:X.bj m.ks m.size b=false
  ·rw[if_pos vK];intro hm;refine(BB h.at_ h.ne af h.ko h.kp.sto.two lI b A cb hs' vK).mono ?_;rintro e w1 ⟨rfl,h1⟩;exact⟨rfl,h.same (m':=m.aG) h1 hm h.fm.aG rfl rfl rfl rfl rfl⟩
  ·rw[if_neg vK];have vK:X.bj m.ks m.size b=true:=Bool.not_eq_false _▸vK;by_cases dJ:m.ord=true∧m.mode≠3∧¬m.written<X.val m.ks 0 b
   ·rw[if_pos dJ];intro hm;refine(yO h.at_ h.ne af h.ko h.kp.sto.two lI b A cb uY vK hs' (h.fm.ord.trans dJ.1) (by rw[gB];exact dJ.2.1) (by rw[h.fm.written];exact dJ.2.2)).mono ?_;rintro e w1 ⟨rfl,h1⟩;exact⟨rfl,h.same (m':=m.aG) h1 hm h.fm.aG rfl rfl rfl rfl rfl⟩
   ·rw[if_neg dJ];have hgo:f.ord=true→f.mode≠3→f.written<X.val m.ks 0 b:=λa b'=>by
     rw[h.fm.ord]at a;rw[gB]at b';rw[h.fm.written];exact Decidable.byContradiction λhn=>dJ ⟨a,b',hn⟩
    cases dK:m.find (X.val m.ks 0 b)with
    |some o=>
     rw[if_pos (.inl rfl)];intro hm;refine(yQ h.at_ h.ne af h.ko h.cap h.kp.sto.two lI b A cb uY vK hs' hgo dK).mono ?_;rintro e w1 ⟨rfl,h1⟩;exact⟨rfl,h.same (m':=m.aG) h1 hm h.fm.aG rfl rfl rfl rfl rfl⟩
    |none=>
     have hce:=X.Bw m b none;by_cases cq:m.cW b none=[50,50]
     ·rw[if_pos (.inr cq)];intro hm;refine(yP h.at_ h.ne af h.ko h.cap h.kp.sto.two lI b A cb uY vK hs' hgo dK (hce.trans cq)).mono ?_;rintro e w1 ⟨rfl,h1⟩;exact⟨rfl,h.same (m':=m.aG) h1 hm h.fm.aG rfl rfl rfl rfl rfl⟩
     ·rw[if_neg (by rintro(h1|h1);cases h1;exact cq h1)];intro hm;have zv:=X.uG h.kp.mok.rows vK dK (X.pC cq) h.kp.mok.ks.one.1;refine(Iw h.at_ h.ne af h.ko h.cap h.kp.sto.two lI b A cb uY vK hs' hgo dK (by rw[hce];exact cq) h.kp.sto hu zv h.kp.mok.many).mono ?_;rintro e w1 ⟨rfl,s1,now,h1,h2,h3⟩;refine⟨by rw[hce], ?_⟩;rw[X.uF]at hm⊢;exact h.tx h.kp h1 hm ⟨gB,h.fm.ord,h.fm.key,h.fm.lost,h.fm.last,rfl,rfl,h.fm.pos,λe=>by cases e⟩ rfl rfl h2 (X.vh (by exact xo) (by exact h3))
 ·rw[if_pos hs];intro hm;refine(BA h.row (by rw[gB];exact hs) A b.length cb).mono ?_;rintro e w1 ⟨rfl,h1⟩;exact⟨by rw[gB],h.same (h.at_.below h1) hm h.fm rfl rfl rfl rfl rfl⟩
theorem vk (h:IK w0 p pf nm u fs m L w) (hu:u≤340) (v:Value) (b:J.B) (hv:Src w0 p fs v b):
  Calls Tryz.prog 26 #[.pointer (some ⟨pf,0,none⟩),v] w λe w'=>e= .returned (.string ⟨(m.rewrite b).2.toArray⟩)∧CA w0 p pf nm u fs (m.rewrite b).1 L w':=by
 obtain⟨s,f,g,c,ok,h⟩:=h;obtain⟨A,cb,rfl,uY⟩:=h.src hv;have hm:=X.Dq h.kp.mok b;have gB:=h.fm.mode;revert hm;unfold X.M.rewrite;by_cases hs:X.bM [52,57] [3] m.mode=X.good
 ·rw[if_neg (Decidable.not_not.2 hs)];have hs':X.bM [52,57] [3] f.mode=[48,48]:=(by rw[gB];exact hs);have xo:=X.eh h.kp.mok (Decidable.not_not.2 hs);have lI:=h.kp.xf hu h.nm_ xo;by_cases vK:X.bj m.ks m.size b=false
  ·rw[if_pos vK];intro hm;refine(IL h.at_ h.ne af h.ko h.kp.sto.two lI b A cb hs' vK).mono ?_;rintro e w1 ⟨rfl,h1⟩;exact⟨rfl,h.same (m':=m.aG) h1 hm h.fm.aG rfl rfl rfl rfl rfl⟩
  ·rw[if_neg vK];have vK:X.bj m.ks m.size b=true:=Bool.not_eq_false _▸vK;by_cases dJ:m.ord=true∧m.read=false
   ·rw[if_pos dJ];intro hm;refine(BJ h.at_ h.ne af h.ko h.kp.sto.two lI b A cb uY vK hs' (h.fm.ord.trans dJ.1) (h.fm.read.trans dJ.2)).mono ?_;rintro e w1 ⟨rfl,h1⟩;exact⟨rfl,h.same (m':=m.aG) h1 hm h.fm.aG rfl rfl rfl rfl rfl⟩
   ·rw[if_neg dJ];by_cases og:m.ord=true∧X.val m.ks 0 b≠m.last
    ·rw[if_pos og];intro hm;have ov:m.read=true:=Decidable.byContradiction λhn=>dJ ⟨og.1,Bool.not_eq_true _▸hn⟩;refine(Ex h.at_ h.ne af h.ko h.kp.sto.two lI b A cb uY vK hs' (h.fm.ord.trans og.1) (h.fm.read.trans ov) (by rw[h.fm.last];exact og.2)).mono ?_;rintro e w1 ⟨rfl,h1⟩;exact⟨rfl,h.same (m':=m.aG) h1 hm h.fm.aG rfl rfl rfl rfl rfl⟩
    ·rw[if_neg og];have hgo:f.ord=true→f.read=true∧X.val m.ks 0 b=f.last:=λa=>by
      rw[h.fm.ord]at a;refine⟨h.fm.read.trans (Decidable.byContradiction λhn=>dJ ⟨a,Bool.not_eq_true _▸hn⟩), ?_⟩;rw[h.fm.last];exact Decidable.byContradiction λhn=>og ⟨a,hn⟩
     cases dK:m.find (X.val m.ks 0 b)with
     |none=>
      intro hm;refine(IM h.at_ h.ne af h.ko h.cap h.kp.sto.two lI b A cb uY vK hs' hgo dK).mono ?_;rintro e w1 ⟨rfl,h1⟩;exact⟨rfl,h.same (m':=m.aG) h1 hm h.fm.aG rfl rfl rfl rfl rfl⟩
     |some o=>
      have hce:=X.Bw m b (some o);dsimp only;by_cases cq:m.cW b (some o)=[50,50]
      ·rw[if_pos cq];intro hm;refine(Ez h.at_ h.ne af h.ko h.cap h.kp.sto.two lI b A cb uY vK hs' hgo dK (hce.trans cq)).mono ?_;rintro e w1 ⟨rfl,h1⟩;exact⟨rfl,h.same (m':=m.aG) h1 hm h.fm.aG rfl rfl rfl rfl rfl⟩
      ·rw[if_neg cq];intro hm;have zv:=X.uG h.kp.mok.rows vK dK (X.pC cq) h.kp.mok.ks.one.1;refine(QD h.at_ h.ne af h.ko h.cap h.kp.sto.two lI b A cb uY vK hs' hgo dK (by rw[hce];exact cq) h.kp.sto hu zv h.kp.mok.many).mono ?_;rintro e w1 ⟨rfl,s1,now,h1,h2,h3⟩;refine⟨by rw[hce], ?_⟩;rw[X.uF]at hm⊢;exact h.tx h.kp h1 hm ⟨gB,h.fm.ord,h.fm.key,h.fm.lost,h.fm.last,rfl,h.fm.written,h.fm.pos,λe=>by cases e⟩ rfl rfl h2 (X.vh (by exact xo) (by exact h3))
 ·rw[if_pos hs];intro hm;refine(IJ h.row (by rw[gB];exact hs) A b.length cb).mono ?_;rintro e w1 ⟨rfl,h1⟩;exact⟨by rw[gB],h.same (h.at_.below h1) hm h.fm rfl rfl rfl rfl rfl⟩
end
namespace X
theorem BO {u n:Nat} {old:List (B×B)} {s:J.St} (hs:pn u old s) (dV:∀k∈s.now.map (·.1),k.length≤n) (hn:n≤300) (hm:s.now.length≤10000):
  ∀k,k≤s.now.length→J.Inv True (opened s (fz ((s.now.map (·.1)).take k)) (s.now.drop k))
 |0,_=>mK hs
 |k+1,hk=>by
  have hi:=BO hs dV hn hm k (by omega);have ej:k<(s.now.map (·.1)).length:=(by rw[List.length_map];omega);have hd:s.now.drop k=s.now[k]::s.now.drop (k+1):=List.drop_eq_getElem_cons (by omega);have nT:(s.now.map (·.1))[k]=(s.now[k]).1:=List.getElem_map _;have ht:(s.now.map (·.1)).take (k+1)=(s.now.map (·.1)).take k++[(s.now[k]).1]:=(by rw[List.take_succ_eq_append_getElem ej,nT]);have hlen:=qG ((s.now.map (·.1)).take k) 300 (λx hx=>aw (dV x (List.mem_of_mem_take hx)) hn);have VL:((s.now.map (·.1)).take k).length≤10000:=(by rw[List.length_take,List.length_map];omega);rw[hd]at hi;rw[ht];exact(wR hs ((s.now.map (·.1)).take k) (s.now.drop (k+1)) s.now[k] hi (by omega)).2
theorem QF {u n:Nat} {old:List (B×B)} {s:J.St} {nm a:B} (hs:pn u old s) (hu:u≤340) (nA:nm.length≤100) (dV:∀k∈s.now.map (·.1),k.length≤n) (hn:n≤300) (FL:(3+n)*s.now.length+9+nm.length+a.length≤11900) (Eh:a.length≤8192):
  Tx u s (opened s (fz (s.now.map (·.1))++[⟨own nm,a,false⟩]) [(own nm,a)]) [(own nm,a)]:=by
 have xP:s.now.length≤10000:=by have:=hs.many;omega
 have hi:=BO hs dV hn xP _ (aq _);rw[List.drop_length,List.take_of_length_le (by rw[List.length_map];exact Nat.le_refl _)]at hi;have hlen:=qG (s.now.map (·.1)) n dV;rw[List.length_map]at hlen;have Tm:=mz nm;have ho:own nm≠[]:=λe=>by rw[e]at Tm;simp at Tm
 exact(wS hs hu (s.now.map (·.1)) (own nm) a hi ho (by omega) (by omega) (by omega)).2
def Bd (nm:B) (ks:List Ky) (size u:Nat):Prop:=∃n,nm.length+n+7≤300∧(∀i,i<ks.length→lens ks i≤n)∧(3+(nm.length+n+7))*(2+ks.length*u)+9+nm.length+(attr size ks).length≤11900
theorem Bd.mono {nm:B} {ks:List Ky} {size u v:Nat} (h:Bd nm ks size v) (hu:u≤v):Bd nm ks size u:=by
 obtain⟨n,h1,h2,h3⟩:=h;refine⟨n,h1,h2,aw ?_ h3⟩;have:=Nat.mul_le_mul_left (3+(nm.length+n+7)) (Nat.add_le_add_left (Nat.mul_le_mul_left ks.length hu) 2);omega
theorem FV (nm:B):pre nm 0=bS nm 0 [] 0:=by
 unfold bS tail;simp
end X
section
variable {w0 : World} {p pf g c : Nat} {nm : J.B} {u : Nat} {fs : List (Nat × Obj)} {m m' : X.M} {L : List (List (J.B × J.B))} {w w' : World} {s s1 s' : J.St} {f f' : Fv} {ok : Obj}
theorem KI.Nd (h:KI w0 p pf nm u fs m L s f g c ok w) (hk:X.Kp nm u m L s') (ha:At w0 p ((pf,ax p nm m.size g m.ks.length c f')::(g,ok)::fs) s' w') (hm:X.eQ (u+1) m') (hf:X.FM nm m' f') (e1:m'.ks=m.ks) (e2:m'.size=m.size) (e3:m'.there=m.there) (e4:m'.rows=m.rows) (e5:m'.time=m.time):CA w0 p pf nm u fs m' L w':=
 ⟨L, .inl rfl,s',f',g,c,ok,by rw[←e1,←e2]at ha;exact ha,hk.same hm hk.sto (X.Nc e1 e2 e3 e4 e5 _ hk.con),hf,by rw[e1];exact h.ko,by rw[e1];exact h.cap,h.ne,h.neg,h.nm_⟩
theorem FW (h:IK w0 p pf nm u fs m L w) (hu:u≤340) (Yw:X.Bd nm m.ks m.size u) (md:Nat) (od:Bool):
  Calls Tryz.prog 12 #[.pointer (some ⟨pf,0,none⟩), .int .u8 (md:Nat), .bool od] w λe w'=>e= .returned (.string ⟨(m.open md od).2.toArray⟩)∧CA w0 p pf nm u fs (m.open md od).1 L w':=by
 obtain⟨s,f,g,c,ok,h⟩:=h;have hm:=X.Pu h.kp.mok md od;have gB:=h.fm.mode;revert hm;unfold X.M.open;by_cases h1:md<1∨4<md
 ·rw[if_pos h1];intro hm;refine(Iq h.at_ h.ne md h1 od).mono ?_;rintro e w1 ⟨rfl,ha⟩;exact⟨rfl,h.same ha hm h.fm rfl rfl rfl rfl rfl⟩
 ·rw[if_neg h1];have pJ:1≤md∧md≤4:=(by omega);have lg:=h.kp.idle;by_cases h2:m.mode≠0
  ·rw[if_pos h2];intro hm;refine(wm h.at_ h.ne h.kp.sto.opn md pJ od (by rw[gB];exact h2)).mono ?_;rintro e w1 ⟨rfl,ha⟩;exact⟨rfl,h.Nd lg ha hm h.fm rfl rfl rfl rfl rfl⟩
  ·rw[if_neg h2];have h2:m.mode=0:=Decidable.not_not.1 h2;have LO:f.mode=0:=gB.trans h2;by_cases h3:md≠2∧m.there=false
   ·rw[if_pos h3];intro hm;have hlk:J.look (J.cA (J.cM s)).now (X.own nm)=none:=by
     have:=lg.con;unfold X.M.con at this;rw[h3.2]at this;rw[show(J.cA (J.cM s)).now=[]from this];rfl
    refine(wo h.at_ h.ne af h.ko h.kp.mok.ks h.kp.sto.opn rfl lg.sto.two h.nm_.1 LO od md pJ h3.1 hlk).mono ?_;rintro e w1 ⟨rfl,ha⟩;exact⟨rfl,h.Nd lg ha hm h.fm rfl rfl rfl rfl rfl⟩
   ·rw[if_neg h3];by_cases h4:md=2
    ·subst h4;intro hm;obtain⟨n,b1,b2,b3⟩:=Yw;have hka:=X.gg m.size m.ks;have Wm:=h.kp.mok.ks.one;have hsz:(3+(nm.length+n+7))*(J.cA (J.cM s)).now.length+9+nm.length+(X.attr m.size m.ks).length≤11900∧(∀k∈(J.cA (J.cM s)).now.map (·.1),k.length≤nm.length+n+7)∧keysOf (J.cA (J.cM s)).now ⟨(nm++[0]).toArray⟩=(J.cA (J.cM s)).now.map (·.1):=by
      cases ht:m.there with
      |true=>
       have hc:=lg.cont ht;have Fs:=hc.count lg.mok.rows (by have:=lg.mok.time;omega) Wm.1 (by omega);refine⟨?_,λk hk=>hc.Fc lg.mok.rows lg.mok.ks b2 hk (by have:=lg.mok.time;omega),hc.uB⟩;refine aw ?_ b3;have e1:(J.cA (J.cM s)).now.length≤2+m.ks.length*u:=by
        have:=Nat.mul_le_mul_left m.ks.length lg.mok.many;have:(if 0<m.time then 1 else 0)≤1:=(by split<;>omega);omega
       have:=Nat.mul_le_mul_left (3+(nm.length+n+7)) e1;omega
      |false=>
       have:=lg.con;unfold X.M.con at this;rw[ht]at this;have CM:(J.cA (J.cM s)).now=[]:=this;rw[CM];refine⟨?_,(λk hk=>by cases hk),rfl⟩;refine aw ?_ b3;simp only[List.length_nil,Nat.mul_zero];omega
     obtain⟨z1,z2,z3⟩:=hsz;have pM:=X.QF (nm:=nm) (a:=X.attr m.size m.ks) lg.sto hu h.nm_.1 z2 b1 z1 (by omega);have nu:∀w1,At w0 p ((pf,ax p nm m.size g m.ks.length c {f with mode:=2,ord:=od,key:=0,at_:=X.pre nm 0,same:=true,lost:=false,read:=false,written:=[]})::(g,ok)::fs) (J.aL (X.opened (J.cA (J.cM s)) (X.fz ((J.cA (J.cM s)).now.map (·.1))++[⟨X.own nm,X.attr m.size m.ks,false⟩]) [(X.own nm,X.attr m.size m.ks)])) w1→CA w0 p pf nm u fs (m.opened 2 od) L w1:=λw1 ha=>
      h.tx lg ha hm ⟨rfl,rfl,rfl,rfl,h.fm.last,rfl,rfl,(λ_ _=>⟨X.FV nm,rfl⟩),λe=>by cases e⟩ rfl rfl pM (X.vh rfl (FP h.kp.mok.ks nm))
     cases hlk:J.look (J.cA (J.cM s)).now (X.own nm)with
     |none=>
      refine(En h.at_ h.ne af h.ko h.kp.mok.ks h.kp.sto.opn lg.sto hu rfl h.nm_ LO od 2 pJ rfl hlk z3 z2 b1 z1).mono ?_;rintro e w1 ⟨rfl,ha⟩;exact⟨rfl,nu _ ha⟩
     |some a=>
      refine(Eo h.at_ h.ne af h.ko h.kp.mok.ks h.kp.sto.opn lg.sto hu rfl h.nm_ LO od 2 pJ rfl a (by have:=lg.sto.len hlk;omega) hlk z3 z2 b1 z1).mono ?_;rintro e w1 ⟨rfl,ha⟩;exact⟨rfl,nu _ ha⟩
    ·intro hm;have xo:m.there=true:=by
      cases ht:m.there with
      |true=>rfl
      |false=>exact absurd ⟨h4,ht⟩ h3
     refine(BG h.at_ h.ne af h.ko h.kp.mok.ks h.kp.sto.opn rfl lg.sto.two h.nm_.1 LO od md pJ h4 (lg.xf hu h.nm_ xo)).mono ?_;rintro e w1 ⟨rfl,ha⟩;refine⟨rfl,h.Nd lg ha hm ⟨rfl,rfl,rfl,rfl,h.fm.last,rfl,rfl,(λ_ _=>⟨X.FV nm,rfl⟩),λe=>by cases e⟩ rfl rfl xo.symm ?_ ?_⟩
     ·show(if md=2 then []else m.rows)=m.rows;rw[if_neg h4]
     ·show(if md=2 then 0 else m.time)=m.time;rw[if_neg h4]
end
section
variable {w0 : World} {p pf g c size ct u : Nat} {nm : J.B} {ks : List X.Ky} {rows : List X.Row} {f : Fv} {w w' : World} {s s1 s2 : J.St} {fs : List (Nat × Obj)} {ok : Obj}
theorem IP (h0:w.heap[pf]? =some (ax p nm size g ks.length c f)) (hs:X.bM [52,57] [3] f.mode≠[48,48]) (A:Option Addr) (m cb:Nat):
  Calls Tryz.prog 27 #[.pointer (some ⟨pf,0,none⟩), .slice A m cb] w λe w'=>e= .returned (.string ⟨(X.bM [52,57] [3] f.mode).toArray⟩)∧Below w.heap.size w w':=by
 have hlt:=(ai h0).1;have hb1:Below w.heap.size w (w.alloc (aO pf)):=(ak _ w).alloc (aq _) _;have dD:=ae (bG ((hb1.block pf hlt).trans h0) [52,57] [3] 1 #[.int .u8 3] rfl rfl (by decide) (w.heap.size+1) (by simp));have hne:=sG hs;have HB:=ae (hb1.alloc hb1.size (.cells #[.int .u8 3] 32));generalize(⟨(X.bM [52,57] [3] f.mode).toArray⟩:ByteArray)=st at dD hne⊢;clear h0 hs hlt hb1;go_enter Tryz.func27,Tryz.ntmps27;go_wp2_with fail;refine dD.out.mono ?_;rintro e W1 ⟨rfl,hW1⟩;subst hW1;clear dD;go_wp2;go_ret;exact⟨rfl,HB.out⟩
theorem Nf:(∀{w0:World} {p pf g c size ct:Nat} {nm:J.B} {ks:List X.Ky} {rows:List X.Row} {f:Fv} {w:World} {s:J.St} {fs:List (Nat×Obj)} {ok:Obj} (h:At w0 p ((pf,ax p nm size g ks.length c f)::fs) s w) (hf:∀x∈fs,x.1≠pf) (bC:(g,ok)∈fs) (hO:bJ ok ks) (ht:J.Two s) (hX:XF nm size ks rows ct s.now) (b:J.B) (A:Option Addr) (cb:Nat) (hs:X.bM [52,57] [3] f.mode=[48,48]) (dJ:f.ord=false) (hl:b.length<(X.aF ks 0).at_+(X.aF ks 0).len) (hk:(X.aF ks 0).at_+(X.aF ks 0).len≤1000000),Calls Tryz.prog 27 #[.pointer (some ⟨pf,0,none⟩), .slice A b.length cb] w λe w'=>e= .returned (.string ⟨#[52,52]⟩)∧At w0 p ((pf,ax p nm size g ks.length c {f with read:=false})::fs) s w')∧(∀{w0:World} {p pf g c size ct:Nat} {nm:J.B} {ks:List X.Ky} {rows:List X.Row} {f:Fv} {w:World} {s:J.St} {fs:List (Nat×Obj)} {ok:Obj} (h:At w0 p ((pf,ax p nm size g ks.length c f)::fs) s w) (hf:∀x∈fs,x.1≠pf) (bC:(g,ok)∈fs) (hO:bJ ok ks) (ht:J.Two s) (hX:XF nm size ks rows ct s.now) (b:J.B) (A:Option Addr) (cb:Nat) (hs:X.bM [52,57] [3] f.mode=[48,48]) (dJ:f.ord=true) (ov:f.read=false),Calls Tryz.prog 27 #[.pointer (some ⟨pf,0,none⟩), .slice A b.length cb] w λe w'=>e= .returned (.string ⟨#[52,51]⟩)∧At w0 p ((pf,ax p nm size g ks.length c {f with read:=false})::fs) s w'):=by
 refine⟨?z0, ?z1⟩
 case' z0=>intro w0 p pf g c size ct nm ks rows f w s fs ok h hf bC hO ht hX b A cb hs dJ hl hk
 case' z1=>(intro w0 p pf g c size ct nm ks rows f w s fs ok h hf bC hO ht hX b A cb hs dJ ov;have aH:=trivial)
 all_goals
  first
   |have aH:=aH
    have vG:=ae ov;clear ov
   |have hw:wrap64 (((X.aF ks 0).at_:Int)+(X.aF ks 0).len)=(((X.aF ks 0).at_+(X.aF ks 0).len:Nat):Int):=by rw[IntWalk.wrap64_in _ (by omega)];omega
    have hw2:IntKind.i64.wrap (((X.aF ks 0).at_:Int)+(X.aF ks 0).len)=(((X.aF ks 0).at_+(X.aF ks 0).len:Nat):Int):=(by rw[IntKind.wrap_i64];omega);have PB:(b.length:Int)<(((X.aF ks 0).at_+(X.aF ks 0).len:Nat):Int):=(by omega);clear hk
  obtain⟨hB,hf2⟩:=h.rX hf (aO pf);have bg:=hX.ks.one;have dD:=ae (bG (hB.get af) [52,57] [3] 1 #[.int .u8 3] rfl rfl (by decide) (w.heap.size+1) (by simp));rw[hs]at dD;have HA:=ae (hB.below ((ak _ _).alloc (aq _) (.cells #[.int .u8 3] 32)));have gp:=ae (λW (hh:At w0 p ((pf,ax p nm size g ks.length c {f with read:=false})::(w.heap.size,aO pf)::fs) s W)=>hO.2 W g (hh.get (ag _ (ag _ bC))));have Yx:=ae (λW (hh:At w0 p ((pf,ax p nm size g ks.length c f)::(w.heap.size,aO pf)::fs) s W) (h1:W.heap[pf]? =some (ax p nm size g ks.length c f))=>cz (f':={f with read:=false}) hh hf2 ht (aA (World.grownBy.refl W (some pf)) 11 (.bool false)) (aB h1 11 (.bool false)));have dL:=ae bg;clear h hs hf bC hO ht hX hB hf2 bg;go_enter Tryz.func27,Tryz.ntmps27;go_wp2_with fail;refine dD.out.mono ?_;rintro e W1 ⟨rfl,hW1⟩;subst hW1;clear dD;refine aM (λX=>At w0 p ((pf,ax p nm size g ks.length c f)::(w.heap.size,aO pf)::fs) s X) HA.out ?_;intro W ha;clear HA;have h1:W.heap[pf]? =some (ax p nm size g ks.length c f):=ha.get af;have hz:=aC h1;have hc:=aj W pf h1;have dM:=aj W w.heap.size (ha.get (ag _ af));first
   |have aH:=aH
    rw[vG.out]at hc
   |skip
  have HG:=ae (Yx.out _ ha h1);clear ha h1 Yx;go_upto_region 6 with fail;refine aM (λY=>At w0 p ((pf,ax p nm size g ks.length c {f with read:=false})::(w.heap.size,aO pf)::fs) s Y) HG.out ?_;intro W2 ha2;have fE:=ae ha2;have hc:=aj W2 pf (ha2.get af);have dM:=aj W2 w.heap.size (ha2.get (ag _ af));have ej:0<ks.length:=(by have:=dL.out;omega);have bY:=gp.out _ ha2;have k1:=bY.at_ ej;have k2:=bY.len ej;have k3:=bY.dup ej;rw[Nat.zero_mul]at k1 k2 k3;rw[Nat.zero_add]at k2 k3;have Iu:(0:Int)<(ks.length:Nat):=(by omega);have HZ:=ae (heap_alloc_new W2 dN);clear ha2 HG bY gp hz;go_wp2_with (refine wpList_store_row rfl _ _ 66 rfl W2.heap.size rfl _ rfl _ _ HZ.out rfl (by kernel_rfl) rfl ?_);intro W3 hrow hg hsz;obtain⟨rI,hb3⟩:=fE.out.stored dN hg;have hrow:W3.heap[W2.heap.size]? =some (aP (X.aF ks 0)):=hrow;have cU:=ae rI;have hc:=aj W3 pf (rI.get af);have dM:=aj W3 w.heap.size (rI.get (ag _ af));have ea:=aj W3 W2.heap.size hrow;clear rI hb3 hrow hg hsz HZ k1 k2 k3 fE;rw[dJ]at hc;clear dJ;go_wp2;go_ret;exact⟨rfl,cU.out.less (λy hy=>by rcases au hy with rfl|hy;exact af;exact ag _ (ag _ hy))⟩
abbrev EA:= @Nf.1
abbrev BP:= @Nf.2
end
end Go.Proofs.YtipljcmmokaokaaGreat
