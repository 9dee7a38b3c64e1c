import Derived.Test.YtipljcmmokaokaaGreatQM12
import Derived.Test.YtipljcmmokaokaaGreatQM11
import Derived.Test.YtipljcmmokaokaaGreatQM04
set_option linter.unusedVariables false
set_option linter.unusedSimpArgs false
set_option maxHeartbeats 2000000
namespace Go.Proofs.YtipljcmmokaokaaGreat
open Go.RowKit Go.Lib Go.Maps Go.WideMaps Go.Sort
set_option maxRecDepth 100000
theorem Pn (k:J.B) (h:k≠[]):(⟨k.toArray⟩:ByteArray).toList≠[]:=by rw[ByteArray.toList_eq];simpa using h
theorem bh (k:J.B):(⟨k.toArray⟩:ByteArray).size=k.length:=by simp[ByteArray.size]
theorem vS (p:Nat) (M:Nat→Prop) (s:J.St) (w:World) (h:bA w p M s) (ho:s.opn=true) (hsp:s.spoilt=false) (hs:uv s s.was) (hcm:s.commits+1<4294967296) (TK:s.area≤1) (aZ:(s.disk.area s.area).length+(J.record 0 (s.commits+1) s.changes).length≤4194304):
  Calls Tryz.prog 98 #[.pointer (some ⟨p,0,none⟩)] w λe w'=>e= .returned (.tuple #[.int .i64 (J.dh s).2.1, .int .i64 (J.dh s).2.2])∧∃M',bA w' p M' (J.dh s).1∧Step M M' w w':=by
 by_cases h0:s.area=0
 ·exact Ax p M s w h ho hsp hs hcm h0 (by rw[qx h0]at aZ;exact aZ)
 ·have h1:s.area=1:=(by omega);exact Ay p M s w h ho hsp hs hcm h1 (by rw[qy h1]at aZ;exact aZ)
def Kp (w0:World) (M:Nat→Prop) (fs:List (Nat×Obj)) (w:World):Prop:=∀x∈fs,w0.heap.size≤x.1∧¬M x.1∧w.heap[x.1]? =some x.2
def At (w0:World) (p:Nat) (fs:List (Nat×Obj)) (s:J.St) (w:World):Prop:=∃M,bA w p M s∧(∀k,M k→w0.heap.size≤k∧k<w.heap.size)∧Below w0.heap.size w0 w∧Kp w0 M fs w
section
variable {w0 w w' : World} {p : Nat} {s s' : J.St} {fs : List (Nat × Obj)}
theorem At.bel (h:At w0 p fs s w):Below w0.heap.size w0 w:=h.elim λ_ h=>h.2.2.1
theorem At.get (h:At w0 p fs s w) {x:Nat×Obj} (hx:x∈fs):w.heap[x.1]? =some x.2:=h.elim λ_ h=>(h.2.2.2 x hx).2.2
theorem At.below (h:At w0 p fs s w) (hb:Below w.heap.size w w'):At w0 p fs s w':=by
 obtain⟨M,h1,h2,h3,h4⟩:=h;exact⟨M,h1.below hb,λk hk=>⟨(h2 k hk).1,av (h2 k hk).2 hb.size⟩,h3.trans (hb.mono h3.size),λx hx=>⟨(h4 x hx).1,(h4 x hx).2.1,(hb.block x.1 (ai (h4 x hx).2.2).1).trans (h4 x hx).2.2⟩⟩
theorem At.step {M M':Nat→Prop} (h1:∀k,M k→w0.heap.size≤k∧k<w.heap.size) (h2:Below w0.heap.size w0 w∧Kp w0 M fs w) (hst:bA w' p M' s') (hs:Step M M' w w'):At w0 p fs s' w':=by
 obtain⟨h2,h4⟩:=h2;refine⟨λk=>M' k∧k<w'.heap.size,hst.cap,λk hk=>⟨?_,hk.2⟩,KW h2 (hs.below h2.size (λk hk=>(h1 k hk).1)),λx hx=> ?_⟩
 ·by_cases hw:k<w.heap.size
  ·exact(h1 k (hs.sub k hw hk.1)).1
  ·have:=h2.size;omega
 ·obtain⟨g1,g2,g3⟩:=h4 x hx;have hlt:=(ai g3).1;exact⟨g1,λh=>g2 (hs.sub x.1 hlt h.1),(hs.block x.1 hlt g2).trans g3⟩
theorem At.less {gs:List (Nat×Obj)} (h:At w0 p fs s w) (hg:∀x∈gs,x∈fs):At w0 p gs s w:=by
 obtain⟨M,h1,h2,h3,h4⟩:=h;exact⟨M,h1,h2,h3,λx hx=>h4 x (hg x hx)⟩
theorem At.more (h:At w0 p fs s w) (o:Obj):At w0 p ((w.heap.size,o)::fs) s (w.alloc o):=by
 have h':=h.below ((ak _ w).alloc (aq _) o);obtain⟨M,h1,h2,h3,h4⟩:=h;have hb:Below w.heap.size w (w.alloc o):=(ak _ w).alloc (aq _) o;refine⟨M,h1.below hb,λk hk=>⟨(h2 k hk).1,av (h2 k hk).2 hb.size⟩,h3.trans (hb.mono h3.size),λx hx=> ?_⟩;rcases au hx with rfl|hx
 ·exact⟨h3.size,λhm=>by have:=(h2 _ hm).2;simp at this,heap_alloc_new _ _⟩
 ·exact⟨(h4 x hx).1,(h4 x hx).2.1,(hb.block x.1 (ai (h4 x hx).2.2).1).trans (h4 x hx).2.2⟩
theorem At.add (h:At w0 p fs s w) (hb:Below w.heap.size w w') {gs:List (Nat×Obj)} (hg:∀x∈gs,w.heap.size≤x.1∧w'.heap[x.1]? =some x.2):At w0 p (gs++fs) s w':=by
 obtain⟨M,h1,h2,h3,h4⟩:=h;refine⟨M,h1.below hb,λk hk=>⟨(h2 k hk).1,av (h2 k hk).2 hb.size⟩,h3.trans (hb.mono h3.size),λx hx=> ?_⟩;rcases List.mem_append.1 hx with hx|hx
 ·exact⟨aw h3.size (hg x hx).1,λhm=>by have:=(h2 _ hm).2;have:=(hg x hx).1;omega,(hg x hx).2⟩
 ·exact⟨(h4 x hx).1,(h4 x hx).2.1,(hb.block x.1 (ai (h4 x hx).2.2).1).trans (h4 x hx).2.2⟩
theorem At.turn {b:Nat} {o o':Obj} (h:At w0 p ((b,o)::fs) s w) (hf:∀x∈fs,x.1≠b) (ht:J.Two s) (hn:vQ w b) (hg:w.grownBy w' (some b)) (hr:w'.heap[b]? =some o'):At w0 p ((b,o')::fs) s w':=by
 obtain⟨M,h1,h2,h3,h4⟩:=h;obtain⟨g1,g2,g3⟩:=h4 _ af;refine⟨M,h1.oth ht (zm.cC hg (λk e=>by injection e with e;subst e;exact⟨g2,hn⟩)),λk hk=>⟨(h2 k hk).1,av (h2 k hk).2 hg.size⟩,h3.grown hg h3.size (λk e=>by injection e with e;subst e;exact g1),λx hx=> ?_⟩;rcases au hx with rfl|hx
 ·exact⟨g1,g2,hr⟩
 ·obtain⟨k1,k2,k3⟩:=h4 x (ag _ hx);exact⟨k1,k2,(hg.block x.1 (ai k3).1 (λe=>hf x hx (by injection e))).trans k3⟩
theorem KZ (w0 w:World) (hb:Below w0.heap.size w0 w):Calls Tryz.prog 9 #[] w λe w'=>∃p,e= .returned (.pointer (some ⟨p,0,none⟩))∧At w0 p [] J.new w':=by
 refine(Pj w).mono ?_;rintro e w' ⟨p,M,rfl,hst,hM,hb2⟩;exact⟨p,rfl,λk=>M k∧k<w'.heap.size,hst.cap,λk hk=>⟨aw hb.size (hM k hk.1),hk.2⟩,hb.trans (hb2.mono hb.size),λx hx=>by cases hx⟩
theorem Az (h:At w0 p fs s w) (ho:s.opn=false):Calls Tryz.prog 35 #[.pointer (some ⟨p,0,none⟩)] w λe w'=>e= .returned (.int .i64 0)∧At w0 p fs (J.cM s) w':=by
 obtain⟨M,h1,h2,h3⟩:=h;refine(GA p M s w h1 ho).mono ?_;rintro e w' ⟨rfl,M',hst,hs⟩;exact⟨rfl,At.step h2 h3 hst hs⟩
theorem ux (h:At w0 p fs s w) (ho:s.opn=true) (k val:J.B) (v:Value) (ej:k≠[]) (hk:k.length≤300) (hn:val.length≤8192) (hv:Sl w bF v val) (r:Int) (hr:J.add s ⟨k,val,false⟩=(s',r)):
  Calls Tryz.prog 49 #[.pointer (some ⟨p,0,none⟩), .string ⟨k.toArray⟩,v] w λe w'=>e= .returned (.int .i64 r)∧At w0 p fs s' w':=by
 obtain⟨M,h1,h2,h3⟩:=h;have hp:=Tu p M s ⟨k.toArray⟩ v val w h1 ho (Pn k ej) (by rw[bh];exact hk) hn bF hv;rw[show(⟨k.toArray⟩:ByteArray).data.toList=k from rfl,hr]at hp;refine hp.mono ?_;rintro e w' ⟨rfl,M',hst,hs⟩;exact⟨rfl,At.step h2 h3 hst hs⟩
theorem at_delete (h:At w0 p fs s w) (k:J.B) (hk:k.length≤1000) (r:Int) (hr:J.delete s k=(s',r)):
  Calls Tryz.prog 48 #[.pointer (some ⟨p,0,none⟩), .string ⟨k.toArray⟩] w λe w'=>e= .returned (.int .i64 r)∧At w0 p fs s' w':=by
 obtain⟨M,h1,h2,h3⟩:=h;have hp:=Dd p M s ⟨k.toArray⟩ w h1 (by rw[bh];exact hk);rw[show(⟨k.toArray⟩:ByteArray).data.toList=k from rfl,hr]at hp;refine hp.mono ?_;rintro e w' ⟨rfl,M',hst,hs⟩;exact⟨rfl,At.step h2 h3 hst hs⟩
theorem GN (h:At w0 p fs s w) (ho:s.opn=true) (hsp:s.spoilt=false) (hs:uv s s.was) (hcm:s.commits+1<4294967296) (TK:s.area≤1) (aZ:(s.disk.area s.area).length+(J.record 0 (s.commits+1) s.changes).length≤4194304) (n r:Int) (hr:J.dh s=(s',n,r)):
  Calls Tryz.prog 98 #[.pointer (some ⟨p,0,none⟩)] w λe w'=>e= .returned (.tuple #[.int .i64 n, .int .i64 r])∧At w0 p fs s' w':=by
 obtain⟨M,h1,h2,h3⟩:=h;have hp:=vS p M s w h1 ho hsp hs hcm TK aZ;rw[hr]at hp;refine hp.mono ?_;rintro e w' ⟨rfl,M',hst,hs⟩;exact⟨rfl,At.step h2 h3 hst hs⟩
theorem gX (h:At w0 p fs s w) (pre:ByteArray) (hl:s.now.length≤1000000):
  Calls Tryz.prog 47 #[.pointer (some ⟨p,0,none⟩), .string pre] w λe w'=>∃A,e= .returned (.slice A (keysOf s.now pre).length (keysOf s.now pre).length)∧gP w' A (keysOf s.now pre)∧At w0 p fs s w'∧Below w.heap.size w w'∧(∀g,A=some ⟨g,0,none⟩→w.heap.size≤g):=by
 have h':=h;obtain⟨M,h1,h2,h3⟩:=h;refine(KS p pre M s w h1 (by omega)).mono ?_;rintro e w' ⟨A,rfl,hst,hg,hb⟩;exact⟨A,rfl,hst,h'.below hb,hb,λg e=>hg g (by subst e;rfl)⟩
theorem fk (h:At w0 p fs s w) (k:J.B) (hk:k.length≤1000) (hl:∀l,J.look s.now k=some l→l.length≤90000000):
  Calls Tryz.prog 42 #[.pointer (some ⟨p,0,none⟩), .string ⟨k.toArray⟩] w λe w'=>∃v,e= .returned (.tuple #[v, .bool (J.look s.now k).isSome])∧bT w' (· <w.heap.size) v ((J.look s.now k).getD [])∧At w0 p fs s w'∧Below w.heap.size w w':=by
 have h':=h;obtain⟨M,h1,h2,h3⟩:=h;refine(Kr p M s ⟨k.toArray⟩ w h1 (by rw[bh];unfold maxLen;omega) hl).mono ?_;rintro e w' ⟨v,rfl,hs,hb⟩;exact⟨v,rfl,hs,h'.below hb,hb⟩
theorem Di (h:At w0 p fs s w) (ho:s.opn=true):Calls Tryz.prog 36 #[.pointer (some ⟨p,0,none⟩)] w λe w'=>e= .returned (.int .i64 0)∧At w0 p fs (J.cA s) w':=by
 obtain⟨M,h1,h2,h3⟩:=h;refine(zS p M s w h1 ho).mono ?_;rintro e w' ⟨rfl,hst,hs⟩;exact⟨rfl,At.step h2 h3 hst hs⟩
end
theorem At.ok {w0 w:World} {p:Nat} {s:J.St} {fs:List (Nat×Obj)} (h:At w0 p fs s w):Ok s:=h.elim λ_ h=>h.1.q.2
end Go.Proofs.YtipljcmmokaokaaGreat
namespace Go.Proofs.YtipljcmmokaokaaGreat
open Go.RowKit Go.Lib Go.Maps Go.WideMaps Go.Sort Go.Shelf
set_option maxRecDepth 100000
attribute [local go_sem] Oper.semAt_some
theorem pk {P:Program} {fn:Func} {p u:Tmp} {t1 t2:TypeId} (h:fn.results=#[.cell p t1, .cell u t2]) (tmps:Array Value) (w:World) (a b:Addr) (x y:Value) (hp:tmps.getD p undef= .pointer (some a)) (hu:tmps.getD u undef= .pointer (some b))
  (h1:P.underlying t1=some .string) (h2:P.underlying t2=some .bool) (hx:w.cell? a=some x) (hy:w.cell? b=some y):(results fn tmps).run P w= .ok (.tuple #[x,y]) w:=by
 have hp':tmps[p]?.getD undef= .pointer (some a):=by simpa using hp
 have hu':tmps[u]?.getD undef= .pointer (some b):=by simpa using hu
 simp[results,h,hp',hu',asAddr,loadVar,Sem.run_bind,isAgg,go_sem,run_underlying h1,run_underlying h2,hx,hy]
def aft (kl:J.B) (same:Bool) (k:J.B):Bool:=decide (kl<k)||(same&&decide (k=kl))
def afterOf (m:List (J.B×J.B)) (pre:ByteArray) (kl:J.B) (same:Bool):Option J.B:=(keysOf m pre).find? (aft kl same)
theorem boxed_own {β:Type} (B b:Nat) (t:TypeId) (v:Value):OwnFrom (β:=β) B (λ_ W=>Boxed W b t v):=λ_ W W' row h hg hr=>by
 have h':W.heap[b]? =_:=h;refine(hg.block b (ai h').1 (λe=> ?_)).trans h';obtain⟨_,o,ho,hc⟩:=hr b e.symm;rw[h']at ho;injection ho with ho;subst ho;cases hc
theorem wM {β:Type} (B:Nat) (p:β→Prop):OwnFrom B (λ(x:β) (_:World)=>p x):=λ_ _ _ _ h _ _=>h
theorem Po (w:World) (W:World) (l:Nat) (o o':Obj) (_:w.heap.size≤l) (h:W.heap[l]? =some o) (hc:o.isCells=false) (_:o.isWalk=false):De (λ_ _=>False) W (W.putObj l o'):=by
 refine⟨λk q hq Sa _=> ?_,by simp,λk _ hk=>hk.elim⟩;have:k≠l:=λe=>by subst e;rw[h]at hq;injection hq with hq;subst hq;rw[hc]at Sa;cases Sa
 exact(World.putObj_heap_other this).trans hq
theorem La (W:World):De (λ_ _=>False) W W:=⟨λ_ _ h _ _=>h,aq _,λ_ _ h=>h⟩
theorem uy {α:Type} {p:α→Bool} {q l:List α} {x:α} (h:q++[x]<+:l) (hq:∀y∈q,p y=false) (hx:p x=true):l.find? p=some x:=by
 obtain⟨t,rfl⟩:=h;rw[List.append_assoc,List.find?_append];have h0:q.find? p=none:=by
  rw[List.find?_eq_none];intro y hy;rw[hq y hy];decide
 rw[h0];simp[hx]
theorem df (x k:J.B):((⟨x.toArray⟩:ByteArray).toList==(⟨k.toArray⟩:ByteArray).toList)=decide (x=k):=by
 have h:∀l:J.B,(⟨l.toArray⟩:ByteArray).toList=l:=λl=>by rw[ByteArray.toList_eq]
 rw[h,h];by_cases e:x=k<;>simp[e]
theorem GP (x kl Sg:J.B) (hk:Sg=kl):(Op.bytesLess x Sg=false∧(x==Sg)=false∧∀same,aft kl same x=true)∨(Op.bytesLess x Sg=false∧(x==Sg)=true∧∀same,aft kl same x=same)∨(Op.bytesLess x Sg=true∧(x==Sg)=false∧∀same,aft kl same x=false):=by
 subst hk;rw[bytesLess_eq];unfold aft;generalize Sg=kl;by_cases h1:x<kl
 ·have h2:¬kl<x:=λh=>List.lt_asymm h1 h;have h3:x≠kl:=λh=>by subst h;exact List.lt_irrefl _ h1
  exact .inr (.inr ⟨by simp[h1],by simpa using h3,λsame=>by simp[h2,h3]⟩)
 ·by_cases h3:x=kl
  ·refine .inr (.inl ⟨by simp[h1],by simpa using h3,λsame=> ?_⟩);subst h3;simp[List.lt_irrefl]
  ·have h2:kl<x:=by
    by_cases h:kl<x
    ·exact h
    ·exact absurd (List.le_antisymm (List.not_lt.1 h) (List.not_lt.1 h1)) h3
   exact .inl ⟨by simp[h1],by simpa using h3,λsame=>by simp[h2]⟩
structure AA (kl:J.B) (key:ByteArray) (same:Bool) (w:World) (r:J.B) (b:Bool) (W:World):Prop where
 k:Boxed W w.heap.size 9 (.string key)
 s:Boxed W (w.heap.size+1) 4 (.bool same)
 r:Boxed W (w.heap.size+1+1) 9 (.string ⟨r.toArray⟩)
 b:Boxed W (w.heap.size+1+1+1) 4 (.bool b)
 bel:Below w.heap.size w W
theorem qA {β:Type} {kl:J.B} {key:ByteArray} {same:Bool} {w:World} {r:J.B} {b:Bool} (B:Nat) (hB:w.heap.size≤B):OwnFrom (β:=β) B (λ_ W=>AA kl key same w r b W):=λx W W' row h hg hr=>
 ⟨boxed_own B _ _ _ x W W' row h.k hg hr,boxed_own B _ _ _ x W W' row h.s hg hr,boxed_own B _ _ _ x W W' row h.r hg hr,boxed_own B _ _ _ x W W' row h.b hg hr,ownFrom_below (aq _) hB x W W' row h.bel hg hr⟩
theorem GQ (p:Nat) (pre:ByteArray) (kl:J.B) (same:Bool) (M:Nat→Prop) (s:J.St) (w:World) (h:bA w p M s) (xP:s.now.length≤100000000):
  CallsIn Fence.wide 6 Tryz.prog 66 #[.pointer (some ⟨p,0,none⟩), .string pre, .string ⟨kl.toArray⟩, .bool same] w λe w'=>e= .returned (.tuple #[.string ⟨((afterOf s.now pre kl same).getD []).toArray⟩, .bool (afterOf s.now pre kl same).isSome])∧Below w.heap.size w w':=by
 generalize nT:(⟨kl.toArray⟩:ByteArray)=key;have Cq:=ae nT;obtain⟨w4,hw4⟩:∃w4,(((w.alloc (.cells #[.string key] 9)).alloc (.cells #[.bool same] 4)).alloc (.cells #[.string ⟨#[]⟩] 9)).alloc (.cells #[.bool false] 4)=w4:=⟨_,rfl⟩;have hb4:Below w.heap.size w w4:=by
  rw[←hw4];exact((((ak _ w).alloc (aq _) _).alloc (by simp) _).alloc (by simp;omega) _).alloc (by simp;omega) _
 have hI4:AA kl key same w [] false w4:=by
  rw[←hw4];refine⟨?_, ?_, ?_, ?_,by rw[hw4];exact hb4⟩
  ·exact(((Boxed.new w 9 (.string key)).alloc _).alloc _).alloc _
  ·have:=(((Boxed.new (w.alloc (.cells #[.string key] 9)) 4 (.bool same))).alloc (.cells #[.string ⟨#[]⟩] 9)).alloc (.cells #[.bool false] 4)
   simpa using this
  ·have:=(Boxed.new ((w.alloc (.cells #[.string key] 9)).alloc (.cells #[.bool same] 4)) 9 (.string ⟨#[]⟩)).alloc (.cells #[.bool false] 4)
   simpa using this
  ·have:=Boxed.new (((w.alloc (.cells #[.string key] 9)).alloc (.cells #[.bool same] 4)).alloc (.cells #[.string ⟨#[]⟩] 9)) 4 (.bool false)
   simpa using this
 have vG:=ae (callsIn_wide.2 (oF p M s w4 (h.below hb4)):CallsIn Fence.wide 5 _ _ _ _ _);have HS:=ae (uq (.pointer (some ⟨p,0,none⟩)) pre w4 ⟨_,rfl⟩);obtain⟨w6,Cr⟩:∃w6,(w4.alloc (.cells #[.pointer (some ⟨p,0,none⟩)] 24)).alloc (.cells #[.string pre] 9)=w6:=⟨_,rfl⟩;have Lb:Below w4.heap.size w4 w6:=by rw[←Cr];exact((ak _ w4).alloc (aq _) _).alloc (by simp) _
 have wN:Below w.heap.size w w6:=hb4.trans (Lb.mono hb4.size);have hIs:AA kl key same w [] false w6:=by
  obtain⟨i1,i2,i3,i4,i5⟩:=hI4;rw[←Cr];exact⟨(i1.alloc _).alloc _,(i2.alloc _).alloc _,(i3.alloc _).alloc _,(i4.alloc _).alloc _,by rw[Cr];exact wN⟩
 have hst:SeqStopsK Fence.wide 5 Tryz.prog 132 #[.pointer (some ⟨w4.heap.size,0,none⟩), .pointer (some ⟨w4.heap.size+1,0,none⟩)] (λx=>#[encStr x]) (De (λ_ _=>False)) (λys=>ys=keysOf s.now pre) (λq=>q<+:keysOf s.now pre) (keysOf s.now pre).length w6:=by
  obtain⟨bn,bw,ch,wr,b0,b1,b2,b3,d0,d1,d2,d3,h1,h2,h3,h4⟩:=h;have hm6:=h3.now.step (Step.aI wN) (wN.block bn h3.now.lt);have WM:=(wN.cell (p:=⟨p,2,none⟩) (ai h1).1).trans (ah w p 2 _ _ _ h1);refine qs 5 (by omega) w4.heap.size (w4.heap.size+1) p bn pre s.now M (λ_ _=>False) xP w6 ?_ ?_ WM hm6 (λ_ _ _ h=>h.elim)
  ·rw[←Cr];exact((Boxed.new w4 24 (.pointer (some ⟨p,0,none⟩))).alloc _).cell
  ·have:=(Boxed.new (w4.alloc (.cells #[.pointer (some ⟨p,0,none⟩)] 24)) 9 (.string pre)).cell;rw[←Cr];rw[World.size_alloc]at this;exact this
 have HST:=ae hst;have Cs:=ae hIs;clear hst hIs h xP hI4 hb4 Lb wN;refine callsIn_of_wp_marks Tryz.func66 rfl trivial ?_ rfl;simp only[Tryz.ntmps66,List.size_toArray,List.length_cons,List.length_nil,Nat.reduceAdd,Nat.reduceSub,Array.replicate_succ,Array.replicate_zero,List.push_toArray,List.append_toArray,List.nil_append,List.cons_append]
 gi_wp2_with fail
 refine⟨trivial,vG.out.mono ?_⟩;rintro e Y ⟨rfl,hY⟩;subst hY
 gi_wp2_with fail
 refine⟨trivial,HS.out.mono ?_⟩;rintro e Y ⟨rfl,hY⟩;rw[Cr]at hY;subst hY;clear hw4 Cr vG HS
 gi_wp2_with fail
 have OC:w.heap.size≤Y.heap.size:=Cs.out.bel.size;refine wpIn_rangeFunc_ownF rfl (by omega) (gf:=132) (lb:=#[.pointer (some ⟨w4.heap.size,0,none⟩), .pointer (some ⟨w4.heap.size+1,0,none⟩)]) rfl trivial (enters_of Tryz.func132 (by kernel_rfl) rfl)
  HST.out De.t (λW l o o' hl h hc hw=>Po Y W l o o' hl h hc hw) (ak _ _) (λ_=>rfl)
  (λpr W=>(∀y∈pr,aft kl same y=false)∧AA kl key same w [] false W)
  (λc pr W=>(c= .ret∧∃q x,pr=q++[x]∧(∀y∈q,aft kl same y=false)∧aft kl same x=true∧AA kl key same w x true W))
  (OwnFrom.and (wM _ _) (qA _ OC))
  (λc pr W W' row h hg hr=>by
   obtain⟨h1,q,x,h2,h3,h4,h5⟩:=h;exact⟨h1,q,x,h2,h3,h4,qA (β:=List J.B) _ OC pr W W' row h5 hg hr⟩)
  ⟨(λ_ h=>by cases h),Cs.out⟩
  (λx=>{tmps:=#[.pointer (some ⟨p,0,none⟩), .string pre, .string key, .bool same,undef,undef, .pointer (some ⟨w.heap.size,0,none⟩), .pointer (some ⟨w.heap.size+1,0,none⟩), .pointer (some ⟨w.heap.size+1+1,0,none⟩), .pointer (some ⟨w.heap.size+1+1+1,0,none⟩),encStr x, .pointer (some ⟨p,0,none⟩), .bool true, .bool false, .pointer (some ⟨p,0,none⟩), .string pre, .func (.func 132) #[] #[.pointer (some ⟨w4.heap.size,0,none⟩), .pointer (some ⟨w4.heap.size+1,0,none⟩)],encStr x,undef,undef,undef,undef,undef,undef,undef,undef,undef,undef,undef,undef],defers:=[]}) ?assign ?body ?done ?stop
 case assign=>
  intro l x W K hK
  gi_wp2
  exact hK
 case body=>
  rintro l pr x W ⟨vH,hI⟩ hlt;have hk:=hI.k.cell;have hs:=hI.s.cell;have hr:=hI.r.cell;have hb:=hI.b.cell;have Tg:=hI.r.frozen;have Fx:=hI.b.frozen;have HI:=ae hI;have HP:=ae vH;have dV:key.toList=kl:=(by rw[←Cq.out,ByteArray.toList_eq]);have hcs:=GP x kl _ dV;clear hI vH dV nT;have stop:∀W2,W2=(W.setCell ⟨w.heap.size+1+1,0,none⟩ (.string ⟨x.toArray⟩)).setCell ⟨w.heap.size+1+1+1,0,none⟩ (.bool true)→aft kl same x=true→KeepsOthers W W2∧∃q y,pr++[x]=q++[y]∧(∀z∈q,aft kl same z=false)∧aft kl same y=true∧AA kl key same w y true W2:=by
   rintro W2 rfl ha;obtain⟨i1,i2,i3,i4,i5⟩:=HI.out;refine⟨(KeepsOthers.setCell W _ _).trans (KeepsOthers.setCell _ _ _),pr,x,rfl,HP.out,ha, ?_, ?_, ?_, ?_, ?_⟩
   ·exact(i1.other (by omega) _).other (by omega) _
   ·exact(i2.other (by omega) _).other (by omega) _
   ·exact(i3.set _).other (by omega) _
   ·exact(i4.other (by omega) _).set _
   ·exact(i5.setCell (by show w.heap.size≤w.heap.size+1+1;omega) _).setCell (by show w.heap.size≤w.heap.size+1+1+1;omega) _
  have Fy:=ae stop;have go:aft kl same x=false→KeepsOthers W W∧De (λ_ _=>False) W W∧(∀y∈pr++[x],aft kl same y=false)∧AA kl key same w [] false W:=λha=>⟨KeepsOthers.refl W,La W,λy hy=>by
   rcases List.mem_append.1 hy with h|h
   ·exact HP.out y h
   ·simp at h;subst h;exact ha,HI.out⟩
  have hgo:=ae go;clear stop go;rcases hcs with⟨c1,c2,c3⟩|⟨c1,c2,c3⟩|⟨c1,c2,c3⟩
  ·have hc:=ae (c3 same);clear c3
   gi_wp2
   exact⟨(Fy.out _ rfl hc.out).1,rfl,(Fy.out _ rfl hc.out).2⟩
  ·have hc:=ae (c3 same);clear c3;cases same
   ·gi_wp2
    exact hgo.out hc.out
   ·gi_wp2
    exact⟨(Fy.out _ rfl hc.out).1,rfl,(Fy.out _ rfl hc.out).2⟩
  ·have hc:=ae (c3 same);clear c3;cases same
   ·gi_wp2
    exact hgo.out hc.out
   ·gi_wp2
    exact hgo.out hc.out
 case done=>
  rintro D ys W hD rfl ⟨vH,hI⟩ hK;have hr:=hI.r.cell;have hb:=hI.b.cell;have Tg:=hI.r.frozen;have Fx:=hI.b.frozen;have hno:afterOf s.now pre kl same=none:=List.find?_eq_none.2 (λy hy=>by rw[vH y hy];decide);have WN:AA kl key same w [] false ((W.setCell ⟨w.heap.size+1+1,0,none⟩ (.string ⟨#[]⟩)).setCell ⟨w.heap.size+1+1+1,0,none⟩ (.bool false)):=by
   obtain⟨i1,i2,i3,i4,i5⟩:=hI;refine⟨?_, ?_, ?_, ?_, ?_⟩
   ·exact(i1.other (by omega) _).other (by omega) _
   ·exact(i2.other (by omega) _).other (by omega) _
   ·exact(i3.set _).other (by omega) _
   ·exact(i4.other (by omega) _).set _
   ·exact(i5.setCell (by show w.heap.size≤w.heap.size+1+1;omega) _).setCell (by show w.heap.size≤w.heap.size+1+1+1;omega) _
  have hDD:w.heap.size+4≤D:=aw (by have:=Cs.out.b.lt;omega) hD;have hK2:((W.setCell ⟨w.heap.size+1+1,0,none⟩ (.string ⟨#[]⟩)).setCell ⟨w.heap.size+1+1+1,0,none⟩ (.bool false)).heap[D]? =some (.deferred (some [])):=by
   rw[Below.heap_setCell _ _ _ D (by show D≠w.heap.size+1+1+1;omega),Below.heap_setCell _ _ _ D (by show D≠w.heap.size+1+1;omega)];exact hK
  have GR:=ae WN;have WO:=ae hK2;have AD:=ae hno;clear hI WN hK2 hno vH
  gi_wp2
  refine⟨by simp, .inl ⟨_,_,rfl,run_takeDeferred WO.out, ?_⟩⟩;have hF:=qA (β:=Unit) Y.heap.size OC () _ _ (some D) GR.out (grownBy_putObj' _ D (.deferred none)) (λr e=>by cases e;exact⟨hD,_,WO.out,rfl⟩);refine⟨_,pk rfl _ _ _ _ _ _ rfl rfl Tryz.underlying9 Tryz.underlying4 hF.r.cell hF.b.cell, ?_,hF.bel⟩;rw[AD.out];rfl
 case stop=>
  rintro D c pr W hD KL ⟨rfl,q,x,rfl,hq,hx,hI⟩ hK;have hsm:afterOf s.now pre kl same=some x:=uy KL hq hx
  gi_wp2
  refine⟨by simp, .inl ⟨_,_,rfl,run_takeDeferred hK, ?_⟩⟩;have hF:=qA (β:=Unit) Y.heap.size OC () _ _ (some D) hI (grownBy_putObj' _ D (.deferred none)) (λr e=>by cases e;exact⟨hD,_,hK,rfl⟩);refine⟨_,pk rfl _ _ _ _ _ _ rfl rfl Tryz.underlying9 Tryz.underlying4 hF.r.cell hF.b.cell, ?_,hF.bel⟩;rw[hsm];rfl
theorem iA {w0 w:World} {p:Nat} {s:J.St} {fs:List (Nat×Obj)} (h:At w0 p fs s w) (pre:ByteArray) (kl:J.B) (same:Bool) (xP:s.now.length≤100000000):
  Calls Tryz.prog 66 #[.pointer (some ⟨p,0,none⟩), .string pre, .string ⟨kl.toArray⟩, .bool same] w λe w'=>e= .returned (.tuple #[.string ⟨((afterOf s.now pre kl same).getD []).toArray⟩, .bool (afterOf s.now pre kl same).isSome])∧Below w.heap.size w w':=by
 obtain⟨M,h1,_,_⟩:=h;exact callsIn_wide.1 (GQ p pre kl same M s w h1 xP)
end Go.Proofs.YtipljcmmokaokaaGreat
namespace Go.Proofs.YtipljcmmokaokaaGreat
open Go.RowKit Go.Lib Go.Maps Go.WideMaps Go.Sort
namespace X
theorem find_congr {α:Type} {p q:α→Bool}:∀(l:List α),(∀x∈l,p x=q x)→l.find? p=l.find? q
 |[],_=>rfl
 |x::t,h=>by
  rw[List.find?_cons,List.find?_cons,h x List.mem_cons_self,find_congr t (λy hy=>h y (List.mem_cons_of_mem _ hy))]
theorem uz {α β:Type} (f:α→β) (p:β→Bool):∀(l:List α),(l.map f).find? p=(l.find? λx=>p (f x)).map f
 |[]=>rfl
 |x::t=>by
  rw[List.map_cons,List.find?_cons,List.find?_cons,uz f p t];cases p (f x)<;>rfl
theorem sx {α:Type} (p q:α→Bool):∀(l:List α),(∀x∈l,p x=true→q x=true)→(l.filter p).find? q=l.find? p
 |[],_=>rfl
 |x::t,h=>by
  have ih:=sx p q t (λy hy=>h y (ag _ hy));rw[List.filter_cons,List.find?_cons];cases hp:p x with
  |true=>rw[if_pos rfl,List.find?_cons,h x List.mem_cons_self hp]
  |false=>rw[if_neg (by decide),ih]
theorem cL {α:Type} {p:α→Bool} {l:List α} {x:α} (h:l.find? p=some x):x∈l∧p x=true:=⟨List.mem_of_find?_eq_some h,List.find?_some h⟩
abbrev aN (nm:B) (ks:List Ky) (i:Nat) (r:Row):B:=bS nm i (val ks i r.b) (r.t i)
theorem qB (x:B):(⟨x.toArray⟩:ByteArray).data.toList=x:=rfl
section
variable {ks : List Ky} {size time : Nat} {rows : List Row} {nm a : B} {c : Nat} {now : List (B × B)}
theorem iw.gj (h:iw nm a ks rows c now) (hk:ks.length≤256) (hr:aQ ks size time rows) (ht:time<4294967296) {i:Nat} (hi:i<ks.length):
  keysOf now ⟨(pre nm i).toArray⟩=(bQ ks i rows).map (aN nm ks i):=by
 unfold keysOf;rw[qB];have:=h.keys hk hr ht hi [] (Nat.zero_le _);rw[List.append_nil]at this;rw[this,List.filter_eq_self.2 (λx _=>by simp)]
theorem iw.Ld (h:iw nm a ks rows c now) (hk:ks.length≤256) (hr:aQ ks size time rows) (ht:time<4294967296) {i:Nat} (hi:i<ks.length) (v:B) (hv:v.length=lens ks i):
  keysOf now ⟨(pre nm i++v).toArray⟩=((bQ ks i rows).filter λr=>decide (val ks i r.b=v)).map (aN nm ks i):=by
 unfold keysOf;rw[qB,h.keys hk hr ht hi v (by omega)]
 congr 1
 refine List.filter_congr (λr fp=> ?_);have hl:=aV (hr.fit r ((bt ks i r rows).1 fp)) hi;rw[hv,←hl,List.take_length]
theorem Dj {x:B} (h:x≠[]):([]:B)<x:=by
 cases x with
 |nil=>exact absurd rfl h
 |cons a t=>exact List.nil_lt_cons _ _
theorem Pq (hk:eo ks size) (hr:aQ ks size time rows) (ht:time<4294967296) {i:Nat} (hi:i<ks.length) {v:B} {t:Nat} (Js:t<4294967296)
  (hp:(i=0∧v=[]∧t=0)∨(v.length=lens ks i∧(i=0→t=0))) (same:Bool) {r:Row} (hm:r∈rows):
  aft (bS nm i v t) same (aN nm ks i r)=sR ks i v t same r:=by
 have hl:=aV (hr.fit r hm) hi;have fP:=hk.key _ (aU hi);unfold aft sR;rcases hp with⟨rfl,rfl,rfl⟩|⟨h1,h2⟩
 ·have hne:val ks 0 r.b≠[]:=λe=>by rw[e]at hl;unfold lens at hl;simp at hl;omega
  have e1:bS nm 0 [] 0<aN nm ks 0 r:=by
   unfold aN bS tail;rw[R.CF];exact Dj hne
  rw[decide_eq_true e1,decide_eq_true (Dj hne)];rfl
 ·have ht3:=hr.t32 ht hm hi;have e1:=Ka (nm:=nm) (i:=i) (p:=v) (q:=val ks i r.b) (t:=t) (s:=r.t i) (h1.trans hl.symm) Js ht3 (λe=>by subst e;rw[h2 rfl,hr.t0 r hm]);have e2:aN nm ks i r=bS nm i v t↔v=val ks i r.b∧r.t i=t:=by
   constructor
   ·intro e;obtain⟨_,a,b⟩:=oC (by have:=hk.one;omega) (by have:=hk.one;omega) ht3 Js (λe=>by subst e;exact hr.t0 r hm) h2 e;exact⟨a.symm,b⟩
   ·rintro⟨e1,e2⟩;unfold aN;rw[e1,e2]
  rw[Bool.eq_iff_iff];simp only[Bool.or_eq_true,Bool.and_eq_true,decide_eq_true_eq,e1,e2];constructor
  ·rintro((h|⟨h,k⟩)|⟨h,k1,k2⟩)
   ·exact .inl h
   ·exact .inr ⟨h, .inl k⟩
   ·exact .inr ⟨k1, .inr ⟨k2,h⟩⟩
  ·rintro(h|⟨h,k|⟨k1,k2⟩⟩)
   ·exact .inl (.inl h)
   ·exact .inl (.inr ⟨h,k⟩)
   ·exact .inr ⟨k2,h,k1⟩
theorem iw.after (h:iw nm a ks rows c now) (hk:eo ks size) (hr:aQ ks size time rows) (ht:time<4294967296) {i:Nat} (hi:i<ks.length) {v:B} {t:Nat} (Js:t<4294967296)
  (hp:(i=0∧v=[]∧t=0)∨(v.length=lens ks i∧(i=0→t=0))) (same:Bool):
  afterOf now ⟨(pre nm i).toArray⟩ (bS nm i v t) same=((bQ ks i rows).find? (sR ks i v t same)).map (aN nm ks i):=by
 unfold afterOf;rw[h.gj (by have:=hk.one;omega) hr ht hi,uz]
 congr 1
 exact find_congr _ (λr fp=>Pq hk hr ht hi Js hp same ((bt ks i r rows).1 fp))
theorem Le (ks:List Ky) (i:Nat) (r x:Row):sR ks i (val ks i r.b) (r.t i) false x=nk ks i r x:=by
 unfold sR nk;simp
theorem iw.wO (h:iw nm a ks rows c now) (hk:eo ks size) (hr:aQ ks size time rows) (ht:time<4294967296) {i:Nat} (hi:i<ks.length) {r:Row} (hm:r∈rows):
  afterOf now ⟨(pre nm i).toArray⟩ (aN nm ks i r) false=((bQ ks i rows).find? (nk ks i r ·)).map (aN nm ks i):=by
 rw[show aN nm ks i r=bS nm i (val ks i r.b) (r.t i)from rfl,h.after hk hr ht hi (hr.t32 ht hm hi) (.inr ⟨aV (hr.fit r hm) hi,λe=>by subst e;exact hr.t0 r hm⟩) false]
 congr 1
 exact find_congr _ (λx _=>Le ks i r x)
theorem GS {x y:B}:x<x++y∨x++y=x:=by
 by_cases h:y=[]
 ·subst h;right;exact List.append_nil x
 ·left;have:=(R.CF x (s:=[]) (t:=y)).2 (Dj h)
  rwa [List.append_nil]at this
theorem iw.rG (h:iw nm a ks rows c now) (hk:eo ks size) (hr:aQ ks size time rows) (ht:time<4294967296) {i:Nat} (hi:i<ks.length) {v:B} (hv:v.length=lens ks i):
  afterOf now ⟨(pre nm i++v).toArray⟩ (pre nm i++v) true=((bQ ks i rows).find? λr=>decide (val ks i r.b=v)).map (aN nm ks i):=by
 unfold afterOf;rw[h.Ld (by have:=hk.one;omega) hr ht hi v hv,uz]
 congr 1
 refine sx _ _ _ (λr _ hd=> ?_);have e:val ks i r.b=v:=of_decide_eq_true hd;have e2:∃y,aN nm ks i r=(pre nm i++v)++y:=by
  unfold aN bS tail;rw[e];split
  ·exact⟨[],by simp⟩
  ·exact⟨R.bI (r.t i),by simp⟩
 obtain⟨y,hy⟩:=e2;unfold aft;rw[hy];rcases GS (x:=pre nm i++v) (y:=y)with h1|h1
 ·rw[decide_eq_true h1];rfl
 ·rw[decide_eq_true h1];simp
theorem uA (ks:List Ky) (i:Nat) (rows:List Row) (v:B):((bQ ks i rows).find? λr=>decide (val ks i r.b=v)).isSome=rows.any λr=>decide (val ks i r.b=v):=by
 rw[Bool.eq_iff_iff,List.find?_isSome,List.any_eq_true];constructor
 ·rintro⟨x,h1,h2⟩;exact⟨x,(bt ks i x rows).1 h1,h2⟩
 ·rintro⟨x,h1,h2⟩;exact⟨x,(bt ks i x rows).2 h1,h2⟩
theorem iw.uB (h:iw nm a ks rows c now):keysOf now ⟨(nm++[0]).toArray⟩=now.map (·.1):=by
 unfold keysOf;rw[qB,List.filter_eq_self.2];intro k hk;obtain⟨⟨k',x⟩,hm,rfl⟩:=List.mem_map.1 hk;have hlk:=J.ew now k' x h.asc hm;have hh:=h.oth k' (by rw[hlk];intro e;cases e);show Lib.hasPrefix k' (nm++[0])=true;have hp:∀y:B,Lib.hasPrefix (nm++0::y) (nm++[0])=true:=λy=>by
  unfold Lib.hasPrefix;rw[mC];rfl
 rcases hh with rfl|rfl|⟨p,rfl⟩|⟨j,p,t,_,_,_,rfl⟩
 ·exact hp [65]
 ·exact hp [67]
 ·obtain⟨a,x,h1,_,_⟩:=fZ nm 0;unfold bS;rw[h1,List.append_assoc];exact hp _
 ·obtain⟨a,x,h1,_,_⟩:=fZ nm j;unfold bS;rw[h1,List.append_assoc];exact hp _
theorem iw.lR (h:iw nm a ks rows c now) (hr:aQ ks size time rows) (p:B):J.look now (bS nm 0 p 0)=(rows.find? λr=>decide (val ks 0 r.b=p)).map (·.b):=by
 cases hf:rows.find? λr=>decide (val ks 0 r.b=p)with
 |some r=>
  obtain⟨h1,h2⟩:=cL hf;exact(h.pri p r.b).2 ⟨r,h1,of_decide_eq_true h2,rfl⟩
 |none=>
  cases hl:J.look now (bS nm 0 p 0)with
  |none=>rfl
  |some v=>
   obtain⟨r,h1,h2,_⟩:=(h.pri p v).1 hl;have:=List.find?_eq_none.1 hf r h1;rw[h2]at this;simp at this
theorem qC {l:List Row} (h:l.Pairwise λx y=>val ks 0 x.b≠val ks 0 y.b) {r s:Row} (hr:r∈l) (hs:s∈l) (e:val ks 0 r.b=val ks 0 s.b):r=s:=by
 induction l with
 |nil=>cases hr
 |cons x t ih=>
  obtain⟨h1,h2⟩:=List.pairwise_cons.1 h;rcases au hr with rfl|lL<;>rcases au hs with rfl|hs'
  ·rfl
  ·exact absurd e (h1 s hs')
  ·exact absurd e.symm (h1 r lL)
  ·exact ih h2 lL hs'
theorem iw.qD (h:iw nm a ks rows c now) (hr:aQ ks size time rows) {r:Row} (hm:r∈rows):J.look now (bS nm 0 (val ks 0 r.b) 0)=some r.b:=(h.pri _ _).2 ⟨r,hm,rfl,rfl⟩
theorem iw.uC (h:iw nm a ks rows c now) (hr:aQ ks size time rows) (ht:time<4294967296) {i:Nat} (h0:i≠0) (hi:i<ks.length) {r:Row} (hm:r∈rows):J.look now (aN nm ks i r)=some (val ks 0 r.b):=
 (h.alt i _ _ _ (by omega) hi (hr.t32 ht hm hi)).2 ⟨r,hm,rfl,rfl,rfl,hi⟩
end
end X
end Go.Proofs.YtipljcmmokaokaaGreat
namespace Go.Proofs.YtipljcmmokaokaaGreat
open Go.RowKit Go.Lib Go.Maps Go.WideMaps Go.Sort
set_option maxRecDepth 100000
theorem lS (n:Int) (w:World):
  Calls Tryz.prog 97 #[.int .i64 n] w λe w'=>e= .returned (.slice (some ⟨w.heap.size,0,none⟩) 4 4)∧w'=w.alloc (.cells (dx (R.bI (nU n))).toArray 5 (0,0)):=by
 go_enter Tryz.func97,Tryz.ntmps97;go_wp2;go_ret;refine⟨rfl, ?_⟩;rw[qq (nU n/16777216) _ (by unfold nU;omega),qq (nU n/65536) _ (by unfold nU;omega),qq (nU n/256) _ (by unfold nU;omega),qq (nU n) (n%256) (by unfold nU;omega)];rfl
theorem eW (l:J.B) (k:Nat) (h:k<l.length) (w:World):(Instr.index 9 (.string ⟨l.toArray⟩) (.int .i64 (k:Nat))).run Tryz.prog w= .ok (u8 l[k]) w:=by
 rw[run_index_string (h:=Tryz.underlying9),dif_pos ⟨by omega,by rw[show(⟨l.toArray⟩:ByteArray).size=l.length by simp[ByteArray.size]];omega⟩];rfl
theorem Lf (a b c d:UInt8) (t:J.B) (w:World):
  Calls Tryz.prog 114 #[.string ⟨(a::b::c::d::t).toArray⟩] w λe w'=>e= .returned (.int .i64 (R.xF [a,b,c,d]:Nat))∧Below w.heap.size w w':=by
 have i0:=eW (a::b::c::d::t) 0 (by simp);have i1:=eW (a::b::c::d::t) 1 (by simp);have i2:=eW (a::b::c::d::t) 2 (by simp);have i3:=eW (a::b::c::d::t) 3 (by simp);simp only[List.getElem_cons_zero,List.getElem_cons_succ]at i0 i1 i2 i3;have hv:R.xF [a,b,c,d]=a.toNat*16777216+b.toNat*65536+c.toNat*256+d.toNat:=rfl;have HV:=ae (KG a.toNat b.toNat c.toNat d.toNat (UInt8.toNat_lt _) (UInt8.toNat_lt _) (UInt8.toNat_lt _) (UInt8.toNat_lt _));rw[←hv]at HV;generalize R.xF [a,b,c,d]=V at HV hv⊢;clear hv;have i0:∀w,(Instr.index 9 (.string ⟨(a::b::c::d::t).toArray⟩) (.int .i64 0)).run Tryz.prog w= .ok (.int .u8 (a.toNat:Nat)) w:=i0;have i1:∀w,(Instr.index 9 (.string ⟨(a::b::c::d::t).toArray⟩) (.int .i64 1)).run Tryz.prog w= .ok (.int .u8 (b.toNat:Nat)) w:=i1;have i2:∀w,(Instr.index 9 (.string ⟨(a::b::c::d::t).toArray⟩) (.int .i64 2)).run Tryz.prog w= .ok (.int .u8 (c.toNat:Nat)) w:=i2;have i3:∀w,(Instr.index 9 (.string ⟨(a::b::c::d::t).toArray⟩) (.int .i64 3)).run Tryz.prog w= .ok (.int .u8 (d.toNat:Nat)) w:=i3;generalize(⟨(a::b::c::d::t).toArray⟩:ByteArray)=S at i0 i1 i2 i3⊢;generalize a.toNat=a0 at i0 HV;generalize b.toNat=a1 at i1 HV;generalize c.toNat=a2 at i2 HV;generalize d.toNat=a3 at i3 HV;go_enter Tryz.func114,Tryz.ntmps114;go_upto_region 1 with fail;refine aD 17 (.rd 0 (.rd 1 (.rd 2 (.rd 3 (.rd 4 (.rd 5 (.rd 6 (.rd 7 (.rd 8 (.rd 9 (.rd 10 (.rd 11 (.rd 12 (.rd 13 (.rd 14 (.rd 15 (.rd 16 .fin))))))))))))))))) (λ_=>True) (by kernel_rfl) (by kernel_rfl) (λc a d v w h=>by cases d<;>exact h) trivial ?_;repeat
  refine az (v:= ?_) (by rfl) (by rfl) (λw' hS=> ?_) (λK hK=> ?_);rotate_left
  ·clear hS;go_simp;try with_reducible rfl
  go_simp;refine hK _ ?_;clear hK K
 show wpList _ _ _ _ _ _;have hv:=HV.out;go_wp2;go_ret;exact⟨rfl,(ak _ w).drew⟩
theorem GU:∀(ks:List J.B),ks.length≤2→Lib.join ks []=ks.flatten
 |[],_=>rfl
 |[a],_=>by simp[Lib.join]
 |[a,b],_=>by simp[Lib.join]
 |_::_::_::_,h=>by simp at h
theorem uD (nm:J.B) (w:World) (hn:nm.length≤1000):
  Calls Tryz.prog 41 #[.string ⟨nm.toArray⟩, .slice none 0 0] w λe w'=>e= .returned (.string ⟨(nm++[0]).toArray⟩)∧w=w':=by
 have HJ:=ae (Tryz.strings_Join_none none 0 ⟨#[]⟩ w);have e1:=fT nm [0];have e2:(⟨(nm++[0]).toArray⟩:ByteArray)++⟨#[]⟩=⟨(nm++[0]).toArray⟩:=by
  have:=fT (nm++[0]) [];rw[List.append_nil]at this;exact this
 go_enter Tryz.func41,Tryz.ntmps41;go_wp2_with fail;refine HJ.out.mono ?_;rintro e w1 ⟨rfl,rfl⟩;go_wp2;go_ret;first|exact⟨rfl,rfl⟩|exact⟨by rw[e1,e2],rfl⟩|exact⟨by rw[e1];exact congrArg _ (congrArg _ e2),rfl⟩
theorem wP (nm:J.B) (g c:Nat) (ks:List J.B) (w:World) (h:gP w (some ⟨g,0,none⟩) ks) (ej:0<ks.length) (hk:ks.length≤2) (hc:ks.length≤c) (hl:∀k∈ks,k.length≤1000) (hn:nm.length≤1000):
  Calls Tryz.prog 41 #[.string ⟨nm.toArray⟩, .slice (some ⟨g,0,none⟩) ks.length c] w λe w'=>e= .returned (.string ⟨(nm++0::ks.flatten).toArray⟩)∧Below w.heap.size w w':=by
 obtain⟨g',eg,hg,hcell⟩:=h ej;obtain rfl:g=g':=by injection eg with eg;injection eg
 have hm:(ks.map λk:J.B=>(⟨k.toArray⟩:ByteArray)).map (·.data.toList)=ks:=by
  rw[List.map_map];conv=>rhs;rw[←List.map_id ks]
  exact List.map_congr_left λk _=>rfl
 have RX:ks.flatten.length≤2000:=by
  match ks,hk,hl with
  |[],_,_=>simp
  |[a],_,hl=>have:=hl a (by simp);simp;omega
  |[a,b],_,hl=>have:=hl a (by simp);have:=hl b (by simp);simp;omega
  |_::_::_::_,h,_=>simp at h
 have hj:=GU ks hk;have HJ:=Tryz.strings_Join g 0 c (ks.map λk:J.B=>(⟨k.toArray⟩:ByteArray)) ⟨#[]⟩ w (λj x hx=>by
   rw[List.getElem?_map]at hx;obtain⟨k,hk,rfl⟩:=Option.map_eq_some_iff.1 hx;obtain⟨hj,rfl⟩:=List.getElem?_eq_some_iff.1 hk;rw[Nat.zero_add];exact hcell j hj) hg (by rw[List.length_map];omega) (by rw[List.length_map];exact hc) (by rw[hm];show(Lib.join ks []).length≤_;rw[hj];omega)
 rw[hm,List.length_map]at HJ;have e0:(⟨#[]⟩:ByteArray).data.toList=[]:=rfl;rw[e0,hj]at HJ;have HJ:=ae HJ;have e1:=fT nm [0];have e2:(⟨(nm++[0]).toArray⟩:ByteArray)++⟨ks.flatten.toArray⟩=⟨(nm++0::ks.flatten).toArray⟩:=by
  rw[fT,List.append_assoc];rfl
 have hsz:(⟨ks.flatten.toArray⟩:ByteArray).size≤2000:=by rw[bh];exact RX
 generalize ks.flatten=fl at HJ e2 hsz RX⊢;clear hm hj h hcell hl;go_enter Tryz.func41,Tryz.ntmps41;go_wp2_with fail;refine HJ.out.mono ?_;rintro e w1 ⟨rfl,hb⟩;have HB:=ae hb;clear hb HJ;go_wp2;go_ret;first|exact⟨rfl,HB.out⟩|exact⟨by rw[e1,e2],HB.out⟩|exact⟨by rw[e1];exact congrArg _ (congrArg _ e2),HB.out⟩
theorem AE (W:World) (ks:List J.B) (C:Array Value) (hC:C=(ks.map encStr).toArray):gP (W.alloc (.cells C 9)) (some ⟨W.heap.size,0,none⟩) ks:=λ_=>by
 subst hC;refine⟨W.heap.size,rfl,by simp,λj hj=> ?_⟩;rw[cell_of_row _ W.heap.size j _ _ _ (heap_alloc_new W _)];simp[hj]
theorem fJ (nm x:J.B) (W:World) (B:Nat) (hB:W.heap.size=B) (hn:nm.length≤1000) (hx:x.length≤1000):
  Calls Tryz.prog 41 #[.string ⟨nm.toArray⟩, .slice (some ⟨B,0,none⟩) 1 1] (W.alloc (.cells #[encStr x] 9)) λe w'=>e= .returned (.string ⟨(nm++0::x).toArray⟩)∧Below W.heap.size W w':=by
 subst hB;refine(wP nm W.heap.size 1 [x] (W.alloc (.cells #[encStr x] 9)) (AE W [x] _ rfl) (by simp) (by simp) (by simp) (by simpa using hx) hn).mono ?_;rintro e w' ⟨rfl,hb⟩;have h1:Below W.heap.size W (W.alloc (.cells #[encStr x] 9)):=(ak _ W).alloc (aq _) _;exact⟨by simp,h1.trans (hb.mono h1.size)⟩
theorem GV (nm x y:J.B) (W:World) (B:Nat) (hB:W.heap.size=B) (hn:nm.length≤1000) (hx:x.length≤1000) (hy:y.length≤1000):
  Calls Tryz.prog 41 #[.string ⟨nm.toArray⟩, .slice (some ⟨B,0,none⟩) 2 2] (W.alloc (.cells #[encStr x,encStr y] 9)) λe w'=>e= .returned (.string ⟨(nm++0::(x++y)).toArray⟩)∧Below W.heap.size W w':=by
 subst hB;refine(wP nm W.heap.size 2 [x,y] (W.alloc (.cells #[encStr x,encStr y] 9)) (AE W [x,y] _ rfl) (by simp) (by simp) (by simp) (by simp;omega) hn).mono ?_;rintro e w' ⟨rfl,hb⟩;have h1:Below W.heap.size W (W.alloc (.cells #[encStr x,encStr y] 9)):=(ak _ W).alloc (aq _) _;exact⟨by simp,h1.trans (hb.mono h1.size)⟩
abbrev lT (nm:J.B) (size:Nat) (kv:Value):Value:= .agg #[.string ⟨nm.toArray⟩, .int .i64 size,kv]
abbrev er (nm:J.B) (size:Nat) (kv:Value):Obj:= .cells #[.string ⟨nm.toArray⟩, .int .i64 size,kv] 29 (0,0)
theorem GW (i:Nat) (hi:i<256) (W:World) (C:Array Value) (hC:C=#[.int .u8 (i:Nat)]):
  (convert 40 9 (.slice (some ⟨W.heap.size,0,none⟩) 1 1)).run Tryz.prog (W.alloc (.cells C 5))= .ok (.string ⟨#[UInt8.ofNat i]⟩) (W.alloc (.cells C 5)):=by
 have e:C=(dx [UInt8.ofNat i]).toArray:=by
  rw[hC];unfold dx u8;simp[UInt8.toNat_ofNat',Nat.mod_eq_of_lt hi]
 rw[e];exact run_convert_bytes_back _ 40 9 5 ⟨W.heap.size,0,none⟩ 1 [UInt8.ofNat i] Tryz.underlying40 Tryz.underlying5 Tryz.underlying9 (λj hj=>by
   have:(⟨W.heap.size,0,none⟩:Addr).add j=⟨W.heap.size,j,none⟩:=(by unfold Addr.add;split<;>simp_all);rw[this];exact ui W _ _ _ j hj)
theorem bL (nm:J.B) (size:Nat) (A:Option Addr) (n c i:Nat) (hi:i<256) (hn:nm.length≤1000) (w:World):
  Calls Tryz.prog 50 #[lT nm size (.slice A n c), .int .i64 (i:Nat)] w λe w'=>e= .returned (.string ⟨(X.pre nm i).toArray⟩)∧Below w.heap.size w w':=by
 by_cases h0:i=0
 ·subst h0;have HU:=ae (fJ nm [80] (w.alloc (er nm size (.slice A n c))) (w.heap.size+1) (by simp) hn (by simp));have hb1:Below w.heap.size w (w.alloc (er nm size (.slice A n c))):=(ak _ w).alloc (aq _) _;have HB:=ae hb1;have e:X.pre nm 0=nm++0::[80]:=rfl;rw[e];clear hb1 e;go_enter Tryz.func50,Tryz.ntmps50;go_wp2_with fail;refine HU.out.mono ?_;rintro e w1 ⟨rfl,hb⟩;have br:=ae (HB.out.trans (hb.mono HB.out.size));clear hb HU HB;go_wp2;go_ret;exact⟨rfl,br.out⟩
 ·have hb1:Below w.heap.size w ((w.alloc (er nm size (.slice A n c))).alloc (.cells #[.int .u8 (i:Nat)] 5)):=((ak _ w).alloc (aq _) _).alloc (by simp) _;have HU:=ae (GV nm [75] [UInt8.ofNat i] ((w.alloc (er nm size (.slice A n c))).alloc (.cells #[.int .u8 (i:Nat)] 5)) (w.heap.size+1+1) (by simp) hn (by simp) (by simp));have hcv:=GW i hi (w.alloc (er nm size (.slice A n c))) _ rfl;have HB:=ae hb1;have e:X.pre nm i=nm++0::([75]++[UInt8.ofNat i]):=(by unfold X.pre;rw[if_neg h0];rfl);rw[e];have Ff:¬((i:Int)=0):=(by omega);have Lg:(i:Int)%256=i:=(by omega);have hs:(w.alloc (er nm size (.slice A n c))).heap.size=w.heap.size+1:=(by simp);rw[hs]at hcv;clear hb1 e h0;go_enter Tryz.func50,Tryz.ntmps50;go_wp2_with fail;refine HU.out.mono ?_;rintro e w1 ⟨rfl,hb⟩;have br:=ae (HB.out.trans (hb.mono HB.out.size));clear hb HU HB hcv;go_wp2;go_ret;exact⟨rfl,br.out⟩
def cG (ks:List X.Ky):List Value:=ks.flatMap λk=>[.int .i64 (k.at_:Nat), .int .i64 (k.len:Nat), .bool k.dup]
theorem nX (l:List X.Ky):(cG l).length=l.length*3:=by induction l with|nil=>rfl|cons a t ih=>simp[cG]at*;omega
theorem gl:∀(l:List X.Ky) (i:Nat),i<l.length→(cG l)[i*3]? =some (.int .i64 ((X.aF l i).at_:Nat))∧(cG l)[i*3+1]? =some (.int .i64 ((X.aF l i).len:Nat))∧(cG l)[i*3+2]? =some (.bool (X.aF l i).dup)
 |[],i,h=>by simp at h
 |a::t,0,_=>⟨rfl,rfl,rfl⟩
 |a::t,i+1,h=>by
  have:=gl t i (by simpa using h);rw[show(i+1)*3=i*3+3 by omega]
  simpa [cG,X.aF] using this
theorem AG (l:List X.Ky):∀u∈cG l,u.oneCell'=true:=by
 intro u hu;simp only[cG,List.mem_flatMap,List.mem_cons,List.not_mem_nil,or_false]at hu;obtain⟨p,_,rfl|rfl|rfl⟩:=hu<;>rfl
theorem AH (a b:List X.Ky):cG (a++b)=cG a++cG b:=by simp[cG]
def dB (w:World) (g:Nat) (ks:List X.Ky):Prop:=g<w.heap.size∧∀j u,(cG ks)[j]? =some u→w.cell? ⟨g,j,none⟩=some u
section
variable {w w' : World} {g : Nat} {ks : List X.Ky}
theorem dB.at_ (h:dB w g ks) {i:Nat} (hi:i<ks.length):w.cell? ⟨g,i*3,none⟩=some (.int .i64 ((X.aF ks i).at_:Nat)):=h.2 _ _ (gl ks i hi).1
theorem dB.len (h:dB w g ks) {i:Nat} (hi:i<ks.length):w.cell? ⟨g,i*3+1,none⟩=some (.int .i64 ((X.aF ks i).len:Nat)):=h.2 _ _ (gl ks i hi).2.1
theorem dB.dup (h:dB w g ks) {i:Nat} (hi:i<ks.length):w.cell? ⟨g,i*3+2,none⟩=some (.bool (X.aF ks i).dup):=h.2 _ _ (gl ks i hi).2.2
theorem dB.below (h:dB w g ks) (hb:Below w.heap.size w w'):dB w' g ks:=⟨av h.1 hb.size,λj u hu=>(hb.cell (p:=⟨g,j,none⟩) h.1).trans (h.2 j u hu)⟩
theorem dB.block (h:dB w g ks) (hl:w.heap.size≤w'.heap.size) (hb:w'.heap[g]? =w.heap[g]?):dB w' g ks:=⟨av h.1 hl,λj u hu=>(World.cell?_of_block hb).trans (h.2 j u hu)⟩
end
theorem dw (nm:J.B) (size:Nat) (A:Option Addr) (n c i t:Nat) (v:J.B) (hi:i<256) (ht:t<4294967296) (hn:nm.length≤1000) (hv:v.length≤10000) (w:World):
  Calls Tryz.prog 57 #[lT nm size (.slice A n c), .int .i64 (i:Nat), .string ⟨v.toArray⟩, .int .i64 (t:Nat)] w λe w'=>e= .returned (.string ⟨(X.bS nm i v t).toArray⟩)∧Below w.heap.size w w':=by
 have hpl:=X.gU nm i;have hs1:(⟨(X.pre nm i).toArray⟩:ByteArray).size≤1003:=by rw[bh];omega
 have hs2:(⟨v.toArray⟩:ByteArray).size≤10000:=by rw[bh];exact hv
 have hb1:Below w.heap.size w (w.alloc (er nm size (.slice A n c))):=(ak _ w).alloc (aq _) _;have hs3:(⟨(X.pre nm i++v).toArray⟩:ByteArray).size≤12000:=by rw[bh,List.length_append];omega
 have e1:=fT (X.pre nm i) v;by_cases h0:i=0
 ·subst h0;have HP:=ae (bL nm size A n c 0 (by decide) hn (w.alloc (er nm size (.slice A n c))));have HB:=ae hb1;have e:X.bS nm 0 v t=X.pre nm 0++v:=(by unfold X.bS X.tail;rw[if_pos rfl]);rw[e];generalize(⟨v.toArray⟩:ByteArray)=V at hs2 e1⊢;generalize(⟨(X.pre nm 0).toArray⟩:ByteArray)=P at hs1 e1 HP⊢;clear hb1 e hpl;go_enter Tryz.func57,Tryz.ntmps57;go_wp2_with fail;refine HP.out.mono ?_;rintro e w1 ⟨rfl,hb⟩;have br:=ae (HB.out.trans (hb.mono HB.out.size));clear hb HP HB;go_wp2;go_ret;first|exact⟨rfl,br.out⟩|exact⟨by rw[e1],br.out⟩
 ·have HP:=ae (bL nm size A n c i hi hn (w.alloc (er nm size (.slice A n c))));have HB:=ae hb1;have e:X.bS nm i v t=(X.pre nm i++v)++R.bI t:=(by unfold X.bS X.tail;rw[if_neg h0,List.append_assoc]);rw[e];have e2:=fT (X.pre nm i++v) (R.bI t);have Ff:¬((i:Int)=0):=(by omega);have HF:=ae (λw=>lS (t:Nat) w);rw[lN ht]at HF;have hcv:∀W:World,(convert 40 9 (.slice (some ⟨W.heap.size,0,none⟩) 4 4)).run Tryz.prog (W.alloc (.cells (dx (R.bI t)).toArray 5 (0,0)))= .ok (.string ⟨(R.bI t).toArray⟩) (W.alloc (.cells (dx (R.bI t)).toArray 5 (0,0))):=λW=>
   run_convert_bytes_back _ 40 9 5 ⟨W.heap.size,0,none⟩ 4 (R.bI t) Tryz.underlying40 Tryz.underlying5 Tryz.underlying9 (λj hj=>by
    have:(⟨W.heap.size,0,none⟩:Addr).add j=⟨W.heap.size,j,none⟩:=(by unfold Addr.add;split<;>simp_all);rw[this];exact ui W _ _ _ j hj)
  have Dk:(⟨(R.bI t).toArray⟩:ByteArray).size=4:=(by rw[bh];rfl);generalize(⟨v.toArray⟩:ByteArray)=V at hs2 e1⊢;generalize(⟨(X.pre nm i).toArray⟩:ByteArray)=P at hs1 e1 HP⊢;generalize(⟨(R.bI t).toArray⟩:ByteArray)=T at e2 hcv Dk⊢;generalize(⟨(X.pre nm i++v).toArray⟩:ByteArray)=PV at hs3 e1 e2⊢;clear hb1 e hpl;go_enter Tryz.func57,Tryz.ntmps57;go_wp2_with fail;refine HP.out.mono ?_;rintro e w1 ⟨rfl,hb⟩;have br:=ae (HB.out.trans (hb.mono HB.out.size));clear hb HP HB;go_wp2_with fail;refine(HF.out _).mono ?_;rintro e w2 ⟨rfl,rfl⟩;have cX:=ae (br.out.alloc br.out.size (.cells (dx (R.bI t)).toArray 5 (0,0)));have hcv:=hcv w1;clear HF br;go_wp2;go_ret;first|exact⟨rfl,cX.out⟩|exact⟨by rw[e2],cX.out⟩|exact⟨by simp only[List.append_assoc];rfl,cX.out⟩
theorem cw (k:X.Ky) (v:Value) (l:J.B) (M:Nat→Prop) (w:World) (hv:Sl w M v l) (hk:k.at_+k.len≤l.length) (hl:l.length≤1000000):
  Calls Tryz.prog 55 #[.agg #[.int .i64 (k.at_:Nat), .int .i64 (k.len:Nat), .bool k.dup],v] w λe w'=>e= .returned (.string ⟨(k.val l).toArray⟩)∧Below w.heap.size w w':=by
 obtain⟨A,c,rfl,hc,hby⟩:=hv.by
 obtain⟨a,n,d⟩:=k;have hk:a+n≤l.length:=hk;have WQ:By (w.alloc (.cells #[.int .i64 (a:Nat), .int .i64 (n:Nat), .bool d] 66)) M A l.length l:=hby.alloc _;have e:X.Ky.val ⟨a,n,d⟩ l=(l.take (a+n)).drop a:=by
  show(l.drop a).take n=_;rw[List.drop_take]
  congr 1;omega
 rw[e];have HB:Below w.heap.size w (w.alloc (.cells #[.int .i64 (a:Nat), .int .i64 (n:Nat), .bool d] 66)):=(ak _ w).alloc (aq _) _;have HB:=ae HB;have HY:=ae WQ;have hw:wrap64 ((a:Int)+(n:Int))=((a+n:Nat):Int):=by rw[IntWalk.wrap64_in _ (by omega)];omega
 clear hv hby WQ e;show Calls Tryz.prog 55 #[.agg #[.int .i64 (a:Nat), .int .i64 (n:Nat), .bool d], .slice A l.length c] w _;generalize VL:l.length=len at hk hc hl HY⊢;go_enter Tryz.func55,Tryz.ntmps55;go_wp2_with (refine zR rfl _ _ _ rfl A len c rfl a (a+n) rfl rfl (by omega) hk hc ?_);intro A' hp;have hy2:=hp.out _ _ _ HY.out;rw[Nat.add_sub_cancel_left]at hy2;have Dh:=ae hy2;clear hy2;clear hp HY;go_wp2_with (refine oZ rfl _ rfl A' _ _ rfl Dh.out ?_);go_wp2;go_ret;exact⟨rfl,HB.out⟩
theorem fU (l:J.B) (k:Nat) (h:k≤l.length) (w:World):(Instr.slice 9 (.string ⟨l.toArray⟩) (some (.int .i64 (k:Nat))) none none).run Tryz.prog w= .ok (.string ⟨(l.drop k).toArray⟩) w:=by
 have hs:(⟨l.toArray⟩:ByteArray).size=l.length:=bh l;rw[run_slice_string_from_if (h:=Tryz.underlying9),if_pos ⟨by omega,by rw[hs];omega⟩];rw[hs,Int.toNat_natCast,ByteArray.extract_mk,List.take_of_length_le (by rw[List.length_drop];exact Nat.le_refl _)]
theorem sy (l:J.B) (k:Nat) (h:k≤l.length) (w:World):(Instr.slice 9 (.string ⟨l.toArray⟩) none (some (.int .i64 (k:Nat))) none).run Tryz.prog w= .ok (.string ⟨(l.take k).toArray⟩) w:=by
 have hs:(⟨l.toArray⟩:ByteArray).size=l.length:=bh l;rw[run_slice_string_to_if (h:=Tryz.underlying9),if_pos ⟨by omega,by rw[hs];omega⟩];rw[Int.toNat_natCast,ByteArray.extract_mk,List.drop_zero,Nat.sub_zero]
theorem AJ {w':World} {b:Nat} {nm:J.B} {size:Nat} {kv:Value} (h:w'.heap[b]? =some (er nm size kv)):∀j,w'.cell? ⟨b,j,none⟩=(#[.string ⟨nm.toArray⟩, .int .i64 size,kv]:Array Value)[j]? :=aj w' b h
theorem sA (nm:J.B) (size g c:Nat) (ks:List X.Ky) (i:Nat) (x:J.B) (w:World) (hk:dB w g ks) (hi:i<ks.length) (h8:ks.length≤256) (hn:nm.length≤1000) (hx:X.lens ks i≤x.length) (Co:x.length≤10000):
  Calls Tryz.prog 51 #[lT nm size (.slice (some ⟨g,0,none⟩) ks.length c), .int .i64 (i:Nat), .string ⟨(X.pre nm i++x).toArray⟩] w λe w'=>e= .returned (.string ⟨(x.take (X.lens ks i)).toArray⟩)∧Below w.heap.size w w':=by
 have hpl:=X.gU nm i;have fP:=hk.below ((ak _ w).alloc (aq _) (er nm size (.slice (some ⟨g,0,none⟩) ks.length c)));have hb1:=heap_alloc_new w (er nm size (.slice (some ⟨g,0,none⟩) ks.length c));have HB:=ae ((ak _ w).alloc (aq _) (er nm size (.slice (some ⟨g,0,none⟩) ks.length c)));have HP:=ae (λw=>bL nm size (some ⟨g,0,none⟩) ks.length c i (by omega) hn w);have hs1:(⟨(X.pre nm i).toArray⟩:ByteArray).size=(X.pre nm i).length:=bh _;have hf:=fU (X.pre nm i++x) (X.pre nm i).length (by rw[List.length_append];omega);rw[List.drop_left]at hf;have ht:=sy x (X.lens ks i) hx;have hc3:(X.aF ks i).len=X.lens ks i:=rfl;have Lg:(i:Int)<(ks.length:Int):=by omega
 have OD:(0:Int)≤(i:Int):=by omega
 generalize X.lens ks i=L at hx ht hc3⊢;generalize(⟨(x.take L).toArray⟩:ByteArray)=R at ht⊢;generalize(⟨(X.pre nm i++x).toArray⟩:ByteArray)=E at hf⊢;generalize(⟨x.toArray⟩:ByteArray)=XS at hf ht;generalize(⟨(X.pre nm i).toArray⟩:ByteArray)=P at hs1 HP;generalize(X.pre nm i).length=pl at hs1 hf hpl;clear hk hx Co;go_enter Tryz.func51,Tryz.ntmps51;go_upto_region 1 with fail;refine aD 12 (.rd 0 (.rd 1 (.rd 2 (.rd 6 (.rd 7 (.rd 8 (.rd 9 (.rd 10 (.rd 11 (.wr 3 (.rd 4 (.rd 5 .fin)))))))))))) (λw'=>dB w' g ks∧w'.heap[w.heap.size]? =some (er nm size (.slice (some ⟨g,0,none⟩) ks.length c))) (by kernel_rfl) (by kernel_rfl) (λc a d v w h=>by cases d<;>exact h) ⟨fP,hb1⟩ ?_;repeat
  refine az (v:= ?_) (by rfl) (by rfl) (λw' hS=> ?_) (λK hK=> ?_);rotate_left
  ·have hc:=AJ hS.2;have hl:=hS.1.len hi;rw[hc3]at hl;clear hS;go_simp;try with_reducible rfl
  go_simp;refine hK _ ?_;clear hK K
 refine wpPm_write (by rfl) (λK hK=> ?_);go_simp;refine(HP.out _).mono ?_;rintro e w1 ⟨rfl,hb⟩;have WR:Below w.heap.size w w1:=HB.out.drew.trans (hb.mono HB.out.size);refine hK.out _ _ (λw'=>dB w' g ks∧w'.heap[w.heap.size]? =some (er nm size (.slice (some ⟨g,0,none⟩) ks.length c))) (λ_ h=>h) ⟨fP.below (((ak _ _).drew).trans hb),(hb.block w.heap.size (by simp)).trans hb1⟩ ?_;clear hK K;have HBB:=ae WR;clear WR hb HB HP;repeat
  refine az (v:= ?_) (by rfl) (by rfl) (λw' hS=> ?_) (λK hK=> ?_);rotate_left
  ·clear hS;go_simp;try with_reducible rfl
  go_simp;refine hK _ ?_;clear hK K
 show wpList _ _ _ _ _ _;go_wp2;go_ret;exact⟨rfl,HBB.out⟩
structure sV (w:World) (g o n:Nat) (a l:Nat→Int) (d:Nat→Bool):Prop where
 lt:g<w.heap.size
 a:∀i,i<n→w.cell? ⟨g,o+i*3,none⟩=some (.int .i64 (a i))
 l:∀i,i<n→w.cell? ⟨g,o+i*3+1,none⟩=some (.int .i64 (l i))
 d:∀i,i<n→w.cell? ⟨g,o+i*3+2,none⟩=some (.bool (d i))
theorem dB.z {w:World} {g:Nat} {ks:List X.Ky} (h:dB w g ks):sV w g 0 ks.length (λi=>((X.aF ks i).at_:Nat)) (λi=>((X.aF ks i).len:Nat)) (λi=>(X.aF ks i).dup):=
 ⟨h.1,λ_ hi=>by rw[Nat.zero_add];exact h.at_ hi,λ_ hi=>by rw[Nat.zero_add];exact h.len hi,λ_ hi=>by rw[Nat.zero_add];exact h.dup hi⟩
theorem sV.below {w w':World} {g o n:Nat} {a l:Nat→Int} {d:Nat→Bool} (h:sV w g o n a l d) (hb:Below w.heap.size w w'):sV w' g o n a l d:=
 ⟨av h.lt hb.size,λi hi=>(hb.cell (p:=⟨g,o+i*3,none⟩) h.lt).trans (h.a i hi),λi hi=>(hb.cell (p:=⟨g,o+i*3+1,none⟩) h.lt).trans (h.l i hi),λi hi=>(hb.cell (p:=⟨g,o+i*3+2,none⟩) h.lt).trans (h.d i hi)⟩
theorem vT (g o n c:Nat) (a l:Nat→Int) (d:Nat→Bool) (p:Nat→Bool) (f:Nat) (xU:Array Value) (w:World) (hk:sV w g o n a l d) (hn:n≤1000) (he:∀xs w,(callFunc f xs).run Tryz.prog w= .ok (.enter f xs) w)
  (hf:∀i w1,i<n→Below w.heap.size w w1→Calls Tryz.prog f (#[.agg #[.int .i64 (a i), .int .i64 (l i), .bool (d i)]]++xU) w1 λe w'=>e= .returned (.bool (p i))∧Below w1.heap.size w1 w'):
  Calls Tryz.prog 123 #[.slice (some ⟨g,o,none⟩) n c, .func (.func f) #[] xU] w λe w'=>∃r:Int,e= .returned (.int .i64 r)∧decide (0≤r)=(List.range n).any p∧Below w.heap.size w w':=by
 have HF:=ae hf;have HK:=ae hk;have HE:=ae he;clear hf hk he;go_enter Tryz.func123,Tryz.ntmps123;go_wp2_with fail;go_loopw [8] (fun i W=>∃k:Nat,k≤n∧i= .int .i64 k∧Hid (Below w.heap.size w W∧∀j,j<k→p j=false)) (fun i _=>n - (intOf i).toNat)
 case atStart=>exact⟨0,Nat.zero_le _,rfl,ae ⟨ak _ _,λj hj=>by omega⟩⟩
 case round=>
  obtain⟨k,hk,rfl,HI⟩:=hrel;by_cases hlt:k<n
  ·have VR:=HK.out.below HI.out.1;have h1:=VR.a k hlt;have h2:=VR.l k hlt;have h3:=VR.d k hlt;have HC:=ae (HF.out k wr hlt HI.out.1);have he:=HE.out;have aW:=ae hlt;clear VR;cases hp:p k with
   |false=>
    rw[hp]at HC;go_wp2_with fail;refine HC.out.mono ?_;rintro e w2 ⟨rfl,hb⟩;have HJ:Hid (Below w.heap.size w w2∧∀j,j<k+1→p j=false):=ae ⟨HI.out.1.trans (hb.mono HI.out.1.size),λj hj=>by
     by_cases e:j=k
     ·rw[e];exact hp
     ·exact HI.out.2 j (by omega)⟩
    clear hb HC HI h1 h2 h3 hp;go_wp2;go_roundw
    case rel=>exact⟨k+1,aW.out,by go_num,HJ⟩
    case measure=>have h1:=aW.out;simp[intOf];omega
   |true=>
    rw[hp]at HC;go_wp2_with fail;refine HC.out.mono ?_;rintro e w2 ⟨rfl,hb⟩;have HB:=ae (HI.out.1.trans (hb.mono HI.out.1.size));have HP:=ae hp;clear hb HC HI h1 h2 h3 hp;go_wp2;go_ret;refine⟨_,rfl, ?_,HB.out⟩;rw[decide_eq_true (by omega)];exact(List.any_eq_true.2 ⟨k,List.mem_range.2 aW.out,HP.out⟩).symm
  ·obtain rfl:k=n:=(by omega);have HB:=ae HI.out;clear HI;go_wp2;go_ret;refine⟨_,rfl, ?_,HB.out.1⟩;rw[decide_eq_false (by omega)];exact(List.any_eq_false.2 (λx hx=>by rw[HB.out.2 x (List.mem_range.1 hx)];decide)).symm
theorem lU (g o n c:Nat) (a l:Nat→Int) (d:Nat→Bool) (p:Nat→Bool) (f:Nat) (xU:Array Value) (w:World) (hk:sV w g o n a l d) (hn:n≤1000) (he:∀xs w,(callFunc f xs).run Tryz.prog w= .ok (.enter f xs) w)
  (hf:∀i w1,i<n→Below w.heap.size w w1→Calls Tryz.prog f (#[.agg #[.int .i64 (a i), .int .i64 (l i), .bool (d i)]]++xU) w1 λe w'=>e= .returned (.bool (p i))∧Below w1.heap.size w1 w'):
  Calls Tryz.prog 93 #[.slice (some ⟨g,o,none⟩) n c, .func (.func f) #[] xU] w λe w'=>e= .returned (.bool ((List.range n).any p))∧Below w.heap.size w w':=by
 have HI:=ae (vT g o n c a l d p f xU w hk hn he hf);clear hf hk he;go_enter Tryz.func93,Tryz.ntmps93;go_wp2_with fail;refine HI.out.mono ?_;rintro e w1 ⟨r,rfl,hr,hb⟩;have HR:=ae hr;have HB:=ae hb;clear hr hb HI;go_wp2;go_ret;exact⟨by rw[←HR.out];rfl,HB.out⟩
def rH (z a l:Int):Bool:=decide (a<0)||decide (l<1)||decide (160<l)||decide (z - l<a)
theorem Dl (B:Nat) (nm:J.B) (z:Int) (kv:Value) (a l:Int) (d:Bool) (hz:1≤z∧z≤4096) (w:World) (hB:w.heap[B]? =some (.cells #[.string ⟨nm.toArray⟩, .int .i64 z,kv] 29 (0,0))):
  Calls Tryz.prog 94 #[.agg #[.int .i64 a, .int .i64 l, .bool d], .pointer (some ⟨B,0,none⟩)] w λe w'=>e= .returned (.bool (rH z a l))∧Below w.heap.size w w':=by
 have hlt:=(ai hB).1;have hb1:Below w.heap.size w (w.alloc (.cells #[.int .i64 a, .int .i64 l, .bool d] 66)):=(ak _ w).alloc (aq _) _;have hc:=ah (w.alloc (.cells #[.int .i64 a, .int .i64 l, .bool d] 66)) B 1 _ _ _ ((hb1.block B hlt).trans hB);have HB:=ae hb1;clear hB hb1;unfold rH;by_cases h1:a<0
 ·rw[decide_eq_true h1];go_enter Tryz.func94,Tryz.ntmps94;go_wp2;go_ret;exact⟨rfl,HB.out⟩
 ·rw[decide_eq_false h1];by_cases h2:l<1
  ·rw[decide_eq_true h2];go_enter Tryz.func94,Tryz.ntmps94;go_wp2;go_ret;exact⟨rfl,HB.out⟩
  ·rw[decide_eq_false h2];by_cases h3:160<l
   ·rw[decide_eq_true h3];go_enter Tryz.func94,Tryz.ntmps94;go_wp2;go_ret;exact⟨rfl,HB.out⟩
   ·rw[decide_eq_false h3];have hw:wrap64 (z - l)=z - l:=IntWalk.wrap64_in _ (by omega);go_enter Tryz.func94,Tryz.ntmps94;go_wp2;go_ret;exact⟨rfl,HB.out⟩
def nY (nm:J.B) (z:Int) (n:Nat) (a l:Nat→Int) (d:Nat→Bool):Bool:=
 !(decide (nm=[])||decide (100<nm.length)||decide (0≤Lib.indexByte nm 0)||decide (z<1)||decide (4096<z)||decide (n<1)||decide (8<n)||d 0)&& !(List.range n).any λi=>rH z (a i) (l i)
theorem Dm {nm:J.B} (h:nm≠[]):nm.isEmpty=false:=by cases nm<;>first|(exact absurd rfl h)|rfl
theorem Lh {x:J.B} (h:x≠[]):((⟨x.toArray⟩:ByteArray).toList==[])=false:=by
 rw[ByteArray.toList_eq]
 simpa using h
theorem uE (nm:J.B) (z:Int) (A:Option Addr) (g o n c:Nat) (a l:Nat→Int) (d:Nat→Bool) (w:World) (hA:0<n→A=some ⟨g,o,none⟩∧sV w g o n a l d) (nA:nm.length≤1000) (hn:n≤1000):
  Calls Tryz.prog 37 #[.agg #[.string ⟨nm.toArray⟩, .int .i64 z, .slice A n c]] w λe w'=>e= .returned (.bool (nY nm z n a l d))∧Below w.heap.size w w':=by
 have HB:=ae ((ak _ w).alloc (aq _) (.cells #[.string ⟨nm.toArray⟩, .int .i64 z, .slice A n c] 29 (0,0)));have HC:=ae (λW=>Tryz.strings_Contains_one ⟨nm.toArray⟩ 0 W);have e0:(⟨nm.toArray⟩:ByteArray).data.toList=nm:=rfl;rw[e0]at HC;have hsz:(⟨nm.toArray⟩:ByteArray).size=nm.length:=bh nm;unfold nY;by_cases h1:nm=[]
 ·subst h1;clear hA;go_enter Tryz.func37,Tryz.ntmps37;go_wp2;go_ret;exact⟨rfl,HB.out⟩
 ·rw[decide_eq_false h1];have hne:((⟨nm.toArray⟩:ByteArray).toList==[])=false:=Lh h1;have hie:=Dm h1;by_cases h2:100<nm.length
  ·rw[decide_eq_true h2];have i2:(100:Int)<(nm.length:Nat):=(by omega);clear hA;go_enter Tryz.func37,Tryz.ntmps37;go_wp2;go_ret;exact⟨rfl,HB.out⟩
  ·rw[decide_eq_false h2];have i2:¬(100:Int)<(nm.length:Nat):=(by omega);by_cases h3:0≤Lib.indexByte nm 0
   ·rw[decide_eq_true h3]at HC⊢;clear hA;go_enter Tryz.func37,Tryz.ntmps37;go_wp2_with fail;refine(HC.out _).mono ?_;rintro e w1 ⟨rfl,rfl⟩;clear HC;go_wp2;go_ret;exact⟨rfl,HB.out⟩
   ·rw[decide_eq_false h3]at HC⊢;by_cases h4:z<1
    ·rw[decide_eq_true h4];have i4:decide (z<1)=true:=decide_eq_true h4;clear hA;go_enter Tryz.func37,Tryz.ntmps37;go_wp2_with fail;refine(HC.out _).mono ?_;rintro e w1 ⟨rfl,rfl⟩;clear HC;go_wp2;go_ret;exact⟨rfl,HB.out⟩
    ·rw[decide_eq_false h4];have i4:decide (z<1)=false:=decide_eq_false h4;by_cases h5:4096<z
     ·rw[decide_eq_true h5];have i5:decide (4096<z)=true:=decide_eq_true h5;clear hA;go_enter Tryz.func37,Tryz.ntmps37;go_wp2_with fail;refine(HC.out _).mono ?_;rintro e w1 ⟨rfl,rfl⟩;clear HC;go_wp2;go_ret;exact⟨rfl,HB.out⟩
     ·rw[decide_eq_false h5];have i5:decide (4096<z)=false:=decide_eq_false h5;by_cases h6:n<1
      ·rw[decide_eq_true h6];have i6:(n:Int)<1:=(by omega);clear hA;go_enter Tryz.func37,Tryz.ntmps37;go_wp2_with fail;refine(HC.out _).mono ?_;rintro e w1 ⟨rfl,rfl⟩;clear HC;go_wp2;go_ret;exact⟨rfl,HB.out⟩
      ·rw[decide_eq_false h6];have i6:¬(n:Int)<1:=(by omega);by_cases h7:8<n
       ·rw[decide_eq_true h7];have i7:(8:Int)<(n:Nat):=(by omega);clear hA;go_enter Tryz.func37,Tryz.ntmps37;go_wp2_with fail;refine(HC.out _).mono ?_;rintro e w1 ⟨rfl,rfl⟩;clear HC;go_wp2;go_ret;exact⟨rfl,HB.out⟩
       ·rw[decide_eq_false h7];have i7:¬(8:Int)<(n:Nat):=(by omega);obtain⟨rfl,hk⟩:=hA (by omega);have fP:=hk.below ((ak _ w).alloc (aq _) (.cells #[.string ⟨nm.toArray⟩, .int .i64 z, .slice (some ⟨g,o,none⟩) n c] 29 (0,0)));have hd:=fP.d 0 (by omega);rw[Nat.zero_mul,Nat.add_zero]at hd;have n0:(0:Int)<(n:Nat):=(by omega);cases h8:d 0 with
        |true=>
         rw[h8]at hd;clear hk fP;go_enter Tryz.func37,Tryz.ntmps37;go_wp2_with fail;refine(HC.out _).mono ?_;rintro e w1 ⟨rfl,rfl⟩;clear HC;go_wp2;go_ret;exact⟨rfl,HB.out⟩
        |false=>
         rw[h8]at hd;have HF:=ae (lU g o n c a l d (λi=>rH z (a i) (l i)) 94 #[.pointer (some ⟨w.heap.size,0,none⟩)] _ fP hn (enters_of Tryz.func94 (by kernel_rfl) rfl)
          (λi w1 hi hb=>Dl w.heap.size nm z (.slice (some ⟨g,o,none⟩) n c) (a i) (l i) (d i) (by omega) w1 ((hb.block w.heap.size (by simp)).trans (heap_alloc_new w _))))
         clear hk fP;go_enter Tryz.func37,Tryz.ntmps37;go_wp2_with fail;refine(HC.out _).mono ?_;rintro e w1 ⟨rfl,rfl⟩;clear HC;go_wp2_with fail;refine HF.out.mono ?_;rintro e w1 ⟨rfl,hb⟩;have br:=ae (HB.out.trans (hb.mono HB.out.size));clear hb HF HB;go_wp2;go_ret;first|exact⟨rfl,br.out⟩|exact⟨by simp,br.out⟩
theorem GX (B:Nat) (A:Option Addr) (m c:Nat) (a l:Int) (d:Bool) (ha:0≤a∧a≤10000) (hl:0≤l∧l≤10000) (w:World) (hB:w.heap[B]? =some (.cells #[.slice A m c] 40 (0,0))):
  Calls Tryz.prog 104 #[.agg #[.int .i64 a, .int .i64 l, .bool d], .pointer (some ⟨B,0,none⟩)] w λe w'=>e= .returned (.bool (decide ((m:Int)<a+l)))∧Below w.heap.size w w':=by
 have hlt:=(ai hB).1;have hb1:Below w.heap.size w (w.alloc (.cells #[.int .i64 a, .int .i64 l, .bool d] 66)):=(ak _ w).alloc (aq _) _;have hc:=ah (w.alloc (.cells #[.int .i64 a, .int .i64 l, .bool d] 66)) B 0 _ _ _ ((hb1.block B hlt).trans hB);have HB:=ae hb1;have hw:wrap64 (a+l)=a+l:=IntWalk.wrap64_in _ (by omega);clear hB hb1;go_enter Tryz.func104,Tryz.ntmps104;go_wp2;go_ret;exact⟨rfl,HB.out⟩
theorem Dn (ks:List X.Ky) (m:Nat):(List.range ks.length).any (λi=>decide ((m:Int)<((X.aF ks i).at_:Nat)+((X.aF ks i).len:Nat)))= !(ks.all λk=>decide (k.at_+k.len≤m)):=by
 rw[Bool.eq_iff_iff,List.any_eq_true];simp only[Bool.not_eq_true',List.all_eq_false,decide_eq_true_eq,decide_eq_false_iff_not,List.mem_range];constructor
 ·rintro⟨i,hi,h⟩;exact⟨_,X.aU hi,by omega⟩
 ·rintro⟨k,hk,h⟩;obtain⟨i,hi,rfl⟩:=List.mem_iff_getElem.1 hk;refine⟨i,hi, ?_⟩;have:X.aF ks i=ks[i]:=(by unfold X.aF;simp[hi]);rw[this];omega
theorem nZ (nm:J.B) (size g c:Nat) (ks:List X.Ky) (A:Option Addr) (m cb:Nat) (w:World) (hk:dB w g ks) (hn:ks.length≤1000) (bY:∀k∈ks,k.at_≤10000∧k.len≤10000) (b:J.B) (hm:b.length=m):
  Calls Tryz.prog 54 #[lT nm size (.slice (some ⟨g,0,none⟩) ks.length c), .slice A m cb] w λe w'=>e= .returned (.bool (X.bj ks size b))∧Below w.heap.size w w':=by
 have hb1:Below w.heap.size w (w.alloc (er nm size (.slice (some ⟨g,0,none⟩) ks.length c))):=(ak _ w).alloc (aq _) _;have hb2:Below w.heap.size w ((w.alloc (er nm size (.slice (some ⟨g,0,none⟩) ks.length c))).alloc (.cells #[.slice A m cb] 40 (0,0))):=hb1.alloc hb1.size _;have HB:=ae hb2;have hk2:=(hk.below hb2).z;have dM:((w.alloc (er nm size (.slice (some ⟨g,0,none⟩) ks.length c))).alloc (.cells #[.slice A m cb] 40 (0,0))).heap[w.heap.size+1]? =some (.cells #[.slice A m cb] 40 (0,0)):=by
  have:=heap_alloc_new (w.alloc (er nm size (.slice (some ⟨g,0,none⟩) ks.length c))) (.cells #[.slice A m cb] 40 (0,0));rw[World.size_alloc]at this;exact this
 unfold X.bj;rw[hm];by_cases h1:m≤size
 ·rw[decide_eq_true h1];have i1:(m:Int)≤(size:Nat):=(by omega);have HF:=ae (lU g 0 ks.length c _ _ _ (λi=>decide ((m:Int)<((X.aF ks i).at_:Nat)+((X.aF ks i).len:Nat))) 104 #[.pointer (some ⟨w.heap.size+1,0,none⟩)] _ hk2 hn (enters_of Tryz.func104 (by kernel_rfl) rfl)
   (λi w1 hi hb=>by
    have:=bY _ (X.aU hi);exact GX (w.heap.size+1) A m cb _ _ _ (by omega) (by omega) w1 ((hb.block (w.heap.size+1) (by simp)).trans dM)))
  rw[Dn]at HF;generalize(ks.all λk=>decide (k.at_+k.len≤m))=r at HF⊢;clear hk hk2 dM hb1 hb2;go_enter Tryz.func54,Tryz.ntmps54;go_wp2_with fail;refine HF.out.mono ?_;rintro e w1 ⟨rfl,hb⟩;have br:=ae (HB.out.trans (hb.mono HB.out.size));clear hb HF HB;go_wp2;go_ret;first|exact⟨rfl,br.out⟩|exact⟨by simp,br.out⟩
 ·rw[decide_eq_false h1];have i1:¬(m:Int)≤(size:Nat):=(by omega);clear hk hk2 dM hb1 hb2;go_enter Tryz.func54,Tryz.ntmps54;go_wp2;go_ret;exact⟨rfl,HB.out⟩
theorem GY (g c:Nat) (l:List Nat) (m:Nat) (w:World) (hg:∀j (h:j<l.length),w.cell? ⟨g,j,none⟩=some (.int .u8 (l[j]:Nat))) (hl:l.length≤10):
  Calls Tryz.prog 103 #[.slice (some ⟨g,0,none⟩) l.length c, .int .u8 (m:Nat)] w λe w'=>e= .returned (.bool (decide (m∈l)))∧w=w':=by
 have HI:Calls Tryz.prog 135 #[.slice (some ⟨g,0,none⟩) l.length c, .int .u8 (m:Nat)] w λe w'=>∃r:Int,e= .returned (.int .i64 r)∧decide (0≤r)=decide (m∈l)∧w=w':=by
  generalize sB:l.length=n at hl⊢;have HG:=ae hg;clear hg;go_enter Tryz.func135,Tryz.ntmps135;go_wp2_with fail;go_loopw [8] (fun i W=>∃k:Nat,k≤n∧i= .int .i64 k∧W=w∧∀j (h:j<l.length),j<k→l[j]≠m) (fun i _=>n - (intOf i).toNat)
  case atStart=>exact⟨0,Nat.zero_le _,rfl,rfl,λj _ hj=>by omega⟩
  case round=>
   obtain⟨k,hk,rfl,rfl,hI⟩:=hrel;by_cases hlt:k<n
   ·have hc:=HG.out k (by omega);have hlk:k<l.length:=(by omega);generalize hx:l[k]=x at hc;have aW:=ae hlt;by_cases hm:m=x
    ·subst hm;have HX:Hid (m∈l):=ae (hx▸List.getElem_mem hlk);clear hI hx;go_wp2;go_ret;exact⟨_,rfl,by rw[decide_eq_true HX.out,decide_eq_true (by omega)],by first|rfl|trivial⟩
    ·have hm1:¬(m:Int)=(x:Nat):=(by omega);have HJ:Hid (∀j (h:j<l.length),j<k+1→l[j]≠m):=ae (λj h hj=>by
      by_cases e:j=k
      ·subst e;rw[hx];exactλe=>hm e.symm
      ·exact hI j h (by omega))
     clear hI hx;go_wp2;go_roundw
     case rel=>exact⟨k+1,aW.out,by go_num,by first|rfl|trivial,HJ.out⟩
     case measure=>have h1:=aW.out;simp[intOf];omega
   ·obtain rfl:k=n:=(by omega);have HX:Hid (m∉l):=ae (λh=>by
     obtain⟨j,hj,e⟩:=List.mem_iff_getElem.1 h;exact hI j hj (by omega) e)
    clear hI;go_wp2;go_ret;exact⟨_,rfl,by rw[decide_eq_false HX.out,decide_eq_false (by omega)],by first|rfl|trivial⟩
 have HI:=ae HI;clear hg;go_enter Tryz.func103,Tryz.ntmps103;go_wp2_with fail;refine HI.out.mono ?_;rintro e w1 ⟨r,rfl,hr,rfl⟩;have HR:=ae hr;clear hr HI;go_wp2;go_ret;exact⟨by rw[←HR.out];rfl,rfl⟩
end Go.Proofs.YtipljcmmokaokaaGreat
