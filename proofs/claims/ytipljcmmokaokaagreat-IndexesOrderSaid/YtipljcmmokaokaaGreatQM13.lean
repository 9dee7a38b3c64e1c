import Derived.Test.YtipljcmmokaokaaGreatQM12
import Derived.Test.YtipljcmmokaokaaGreatQM11
import Derived.Test.YtipljcmmokaokaaGreatQM04
set_option linter.unusedVariables false
set_option linter.unusedSimpArgs false
set_option maxHeartbeats 2000000
namespace Go.Proofs.YtipljcmmokaokaaGreat
open Go.RowKit Go.Lib Go.Maps Go.WideMaps Go.Sort
set_option maxRecDepth 100000
theorem Kd (k:J.B) (h:k≠[]):(⟨k.toArray⟩:ByteArray).toList≠[]:=by rw[ByteArray.toList_eq];simpa using h
theorem bu (k:J.B):(⟨k.toArray⟩:ByteArray).size=k.length:=by simp[ByteArray.size]
theorem vp (p:Nat) (M:Nat→Prop) (s:J.St) (w:World) (h:bt w p M s) (ho:s.opn=true) (hsp:s.spoilt=false) (hs:tW s s.was) (hcm:s.commits+1<4294967296) (Sm:s.area≤1) (aT:(s.disk.area s.area).length+(J.record 0 (s.commits+1) s.changes).length≤4194304):
  Calls Tryz.prog 98 #[.pointer (some ⟨p,0,none⟩)] w fun e w'=>e= .returned (.tuple #[.int .i64 (J.dh s).2.1, .int .i64 (J.dh s).2.2])∧∃M',bt w' p M' (J.dh s).1∧Step M M' w w':=by
 by_cases h0:s.area=0
 ·exact yT p M s w h ho hsp hs hcm h0 (by rw[qd h0]at aT;exact aT)
 ·have h1:s.area=1:=(by omega);exact yV p M s w h ho hsp hs hcm h1 (by rw[qf h1]at aT;exact aT)
def Kp (w0:World) (M:Nat→Prop) (fs:List (Nat×Obj)) (w:World):Prop:=∀x∈fs,w0.heap.size≤x.1∧¬M x.1∧w.heap[x.1]? =some x.2
def At (w0:World) (p:Nat) (fs:List (Nat×Obj)) (s:J.St) (w:World):Prop:=∃M,bt w p M s∧(∀k,M k→w0.heap.size≤k∧k<w.heap.size)∧Below w0.heap.size w0 w∧Kp w0 M fs w
section
variable {w0 w w' : World} {p : Nat} {s s' : J.St} {fs : List (Nat × Obj)}
theorem At.bel (h:At w0 p fs s w):Below w0.heap.size w0 w:=h.elim fun _ h=>h.2.2.1
theorem At.get (h:At w0 p fs s w) {x:Nat×Obj} (hx:x∈fs):w.heap[x.1]? =some x.2:=h.elim fun _ h=>(h.2.2.2 x hx).2.2
theorem At.below (h:At w0 p fs s w) (hb:Below w.heap.size w w'):At w0 p fs s w':=by
 obtain⟨M,h1,h2,h3,h4⟩:=h;exact⟨M,h1.below hb,fun k hk=>⟨(h2 k hk).1,aq (h2 k hk).2 hb.size⟩,h3.trans (hb.mono h3.size),fun x hx=>⟨(h4 x hx).1,(h4 x hx).2.1,(hb.block x.1 (ah (h4 x hx).2.2).1).trans (h4 x hx).2.2⟩⟩
theorem At.step {M M':Nat→Prop} (h1:∀k,M k→w0.heap.size≤k∧k<w.heap.size) (h2:Below w0.heap.size w0 w∧Kp w0 M fs w) (hst:bt w' p M' s') (hs:Step M M' w w'):At w0 p fs s' w':=by
 obtain⟨h2,h4⟩:=h2;refine⟨fun k=>M' k∧k<w'.heap.size,hst.cap,fun k hk=>⟨?_,hk.2⟩,GK h2 (hs.below h2.size (fun k hk=>(h1 k hk).1)),fun x hx=> ?_⟩
 ·by_cases hw:k<w.heap.size
  ·exact(h1 k (hs.sub k hw hk.1)).1
  ·have:=h2.size;omega
 ·obtain⟨g1,g2,g3⟩:=h4 x hx;have hlt:=(ah g3).1;exact⟨g1,fun h=>g2 (hs.sub x.1 hlt h.1),(hs.block x.1 hlt g2).trans g3⟩
theorem At.less {gs:List (Nat×Obj)} (h:At w0 p fs s w) (hg:∀x∈gs,x∈fs):At w0 p gs s w:=by
 obtain⟨M,h1,h2,h3,h4⟩:=h;exact⟨M,h1,h2,h3,fun x hx=>h4 x (hg x hx)⟩
theorem At.more (h:At w0 p fs s w) (o:Obj):At w0 p ((w.heap.size,o)::fs) s (w.alloc o):=by
 have h':=h.below ((ai _ w).alloc (aj _) o);obtain⟨M,h1,h2,h3,h4⟩:=h;have hb:Below w.heap.size w (w.alloc o):=(ai _ w).alloc (aj _) o;refine⟨M,h1.below hb,fun k hk=>⟨(h2 k hk).1,aq (h2 k hk).2 hb.size⟩,h3.trans (hb.mono h3.size),fun x hx=> ?_⟩;rcases ak hx with rfl|hx
 ·exact⟨h3.size,fun hm=>by have:=(h2 _ hm).2;simp at this,heap_alloc_new _ _⟩
 ·exact⟨(h4 x hx).1,(h4 x hx).2.1,(hb.block x.1 (ah (h4 x hx).2.2).1).trans (h4 x hx).2.2⟩
theorem At.add (h:At w0 p fs s w) (hb:Below w.heap.size w w') {gs:List (Nat×Obj)} (hg:∀x∈gs,w.heap.size≤x.1∧w'.heap[x.1]? =some x.2):At w0 p (gs++fs) s w':=by
 obtain⟨M,h1,h2,h3,h4⟩:=h;refine⟨M,h1.below hb,fun k hk=>⟨(h2 k hk).1,aq (h2 k hk).2 hb.size⟩,h3.trans (hb.mono h3.size),fun x hx=> ?_⟩;rcases List.mem_append.1 hx with hx|hx
 ·exact⟨au h3.size (hg x hx).1,fun hm=>by have:=(h2 _ hm).2;have:=(hg x hx).1;omega,(hg x hx).2⟩
 ·exact⟨(h4 x hx).1,(h4 x hx).2.1,(hb.block x.1 (ah (h4 x hx).2.2).1).trans (h4 x hx).2.2⟩
theorem At.turn {b:Nat} {o o':Obj} (h:At w0 p ((b,o)::fs) s w) (hf:∀x∈fs,x.1≠b) (ht:J.Two s) (hn:yG w b) (hg:w.grownBy w' (some b)) (hr:w'.heap[b]? =some o'):At w0 p ((b,o')::fs) s w':=by
 obtain⟨M,h1,h2,h3,h4⟩:=h;obtain⟨g1,g2,g3⟩:=h4 _ ae;refine⟨M,h1.oth ht (yH.bY hg (fun k e=>by injection e with e;subst e;exact⟨g2,hn⟩)),fun k hk=>⟨(h2 k hk).1,aq (h2 k hk).2 hg.size⟩,h3.grown hg h3.size (fun k e=>by injection e with e;subst e;exact g1),fun x hx=> ?_⟩;rcases ak hx with rfl|hx
 ·exact⟨g1,g2,hr⟩
 ·obtain⟨k1,k2,k3⟩:=h4 x (af _ hx);exact⟨k1,k2,(hg.block x.1 (ah k3).1 (fun e=>hf x hx (by injection e))).trans k3⟩
theorem GP (w0 w:World) (hb:Below w0.heap.size w0 w):Calls Tryz.prog 9 #[] w fun e w'=>∃p,e= .returned (.pointer (some ⟨p,0,none⟩))∧At w0 p [] J.new w':=by
 refine(J9 w).mono ?_;rintro e w' ⟨p,M,rfl,hst,hM,hb2⟩;exact⟨p,rfl,fun k=>M k∧k<w'.heap.size,hst.cap,fun k hk=>⟨au hb.size (hM k hk.1),hk.2⟩,hb.trans (hb2.mono hb.size),fun x hx=>by cases hx⟩
theorem yX (h:At w0 p fs s w) (ho:s.opn=false):Calls Tryz.prog 35 #[.pointer (some ⟨p,0,none⟩)] w fun e w'=>e= .returned (.int .i64 0)∧At w0 p fs (J.cT s) w':=by
 obtain⟨M,h1,h2,h3⟩:=h;refine(DM p M s w h1 ho).mono ?_;rintro e w' ⟨rfl,M',hst,hs⟩;exact⟨rfl,At.step h2 h3 hst hs⟩
theorem pB (h:At w0 p fs s w) (ho:s.opn=true) (k val:J.B) (v:Value) (cQ:k≠[]) (hk:k.length≤300) (hn:val.length≤8192) (hv:Sl w bL v val) (r:Int) (hr:J.add s ⟨k,val,false⟩=(s',r)):
  Calls Tryz.prog 49 #[.pointer (some ⟨p,0,none⟩), .string ⟨k.toArray⟩,v] w fun e w'=>e= .returned (.int .i64 r)∧At w0 p fs s' w':=by
 obtain⟨M,h1,h2,h3⟩:=h;have hp:=Ni p M s ⟨k.toArray⟩ v val w h1 ho (Kd k cQ) (by rw[bu];exact hk) hn bL hv;rw[show(⟨k.toArray⟩:ByteArray).data.toList=k from rfl,hr]at hp;refine hp.mono ?_;rintro e w' ⟨rfl,M',hst,hs⟩;exact⟨rfl,At.step h2 h3 hst hs⟩
theorem at_delete (h:At w0 p fs s w) (k:J.B) (hk:k.length≤1000) (r:Int) (hr:J.delete s k=(s',r)):
  Calls Tryz.prog 48 #[.pointer (some ⟨p,0,none⟩), .string ⟨k.toArray⟩] w fun e w'=>e= .returned (.int .i64 r)∧At w0 p fs s' w':=by
 obtain⟨M,h1,h2,h3⟩:=h;have hp:=Bg p M s ⟨k.toArray⟩ w h1 (by rw[bu];exact hk);rw[show(⟨k.toArray⟩:ByteArray).data.toList=k from rfl,hr]at hp;refine hp.mono ?_;rintro e w' ⟨rfl,M',hst,hs⟩;exact⟨rfl,At.step h2 h3 hst hs⟩
theorem DW (h:At w0 p fs s w) (ho:s.opn=true) (hsp:s.spoilt=false) (hs:tW s s.was) (hcm:s.commits+1<4294967296) (Sm:s.area≤1) (aT:(s.disk.area s.area).length+(J.record 0 (s.commits+1) s.changes).length≤4194304) (n r:Int) (hr:J.dh s=(s',n,r)):
  Calls Tryz.prog 98 #[.pointer (some ⟨p,0,none⟩)] w fun e w'=>e= .returned (.tuple #[.int .i64 n, .int .i64 r])∧At w0 p fs s' w':=by
 obtain⟨M,h1,h2,h3⟩:=h;have hp:=vp p M s w h1 ho hsp hs hcm Sm aT;rw[hr]at hp;refine hp.mono ?_;rintro e w' ⟨rfl,M',hst,hs⟩;exact⟨rfl,At.step h2 h3 hst hs⟩
theorem kX (h:At w0 p fs s w) (pre:ByteArray) (hl:s.now.length≤1000000):
  Calls Tryz.prog 47 #[.pointer (some ⟨p,0,none⟩), .string pre] w fun e w'=>∃A,e= .returned (.slice A (keysOf s.now pre).length (keysOf s.now pre).length)∧kP w' A (keysOf s.now pre)∧At w0 p fs s w'∧Below w.heap.size w w'∧(∀g,A=some ⟨g,0,none⟩→w.heap.size≤g):=by
 have h':=h;obtain⟨M,h1,h2,h3⟩:=h;refine(GA p pre M s w h1 (by omega)).mono ?_;rintro e w' ⟨A,rfl,hst,hg,hb⟩;exact⟨A,rfl,hst,h'.below hb,hb,fun g e=>hg g (by subst e;rfl)⟩
theorem dJ (h:At w0 p fs s w) (k:J.B) (hk:k.length≤1000) (hl:∀l,J.look s.now k=some l→l.length≤90000000):
  Calls Tryz.prog 42 #[.pointer (some ⟨p,0,none⟩), .string ⟨k.toArray⟩] w fun e w'=>∃v,e= .returned (.tuple #[v, .bool (J.look s.now k).isSome])∧cE w' (· <w.heap.size) v ((J.look s.now k).getD [])∧At w0 p fs s w'∧Below w.heap.size w w':=by
 have h':=h;obtain⟨M,h1,h2,h3⟩:=h;refine(Gi p M s ⟨k.toArray⟩ w h1 (by rw[bu];unfold maxLen;omega) hl).mono ?_;rintro e w' ⟨v,rfl,hs,hb⟩;exact⟨v,rfl,hs,h'.below hb,hb⟩
theorem Bu (h:At w0 p fs s w) (ho:s.opn=true):Calls Tryz.prog 36 #[.pointer (some ⟨p,0,none⟩)] w fun e w'=>e= .returned (.int .i64 0)∧At w0 p fs (J.cC s) w':=by
 obtain⟨M,h1,h2,h3⟩:=h;refine(yr p M s w h1 ho).mono ?_;rintro e w' ⟨rfl,hst,hs⟩;exact⟨rfl,At.step h2 h3 hst hs⟩
end
theorem At.ok {w0 w:World} {p:Nat} {s:J.St} {fs:List (Nat×Obj)} (h:At w0 p fs s w):Ok s:=h.elim fun _ h=>h.1.q.2
end Go.Proofs.YtipljcmmokaokaaGreat
namespace Go.Proofs.YtipljcmmokaokaaGreat
open Go.RowKit Go.Lib Go.Maps Go.WideMaps Go.Sort Go.Shelf
set_option maxRecDepth 100000
attribute [local go_sem] Oper.semAt_some
theorem pd {P:Program} {fn:Func} {p u:Tmp} {t1 t2:TypeId} (h:fn.results=#[.cell p t1, .cell u t2]) (tmps:Array Value) (w:World) (a b:Addr) (x y:Value) (hp:tmps.getD p undef= .pointer (some a)) (hu:tmps.getD u undef= .pointer (some b))
  (h1:P.underlying t1=some .string) (h2:P.underlying t2=some .bool) (hx:w.cell? a=some x) (hy:w.cell? b=some y):(results fn tmps).run P w= .ok (.tuple #[x,y]) w:=by
 have TG:tmps[p]?.getD undef= .pointer (some a):=by simpa using hp
 have Yf:tmps[u]?.getD undef= .pointer (some b):=by simpa using hu
 simp[results,h,TG,Yf,asAddr,loadVar,Sem.run_bind,isAgg,go_sem,run_underlying h1,run_underlying h2,hx,hy]
def aft (kl:J.B) (same:Bool) (k:J.B):Bool:=decide (kl<k)||(same&&decide (k=kl))
def afterOf (m:List (J.B×J.B)) (pre:ByteArray) (kl:J.B) (same:Bool):Option J.B:=(keysOf m pre).find? (aft kl same)
theorem boxed_own {β:Type} (B b:Nat) (t:TypeId) (v:Value):OwnFrom (β:=β) B (fun _ W=>Boxed W b t v):=fun _ W W' row h hg hr=>by
 have h':W.heap[b]? =_:=h;refine(hg.block b (ah h').1 (fun e=> ?_)).trans h';obtain⟨_,o,ho,hc⟩:=hr b e.symm;rw[h']at ho;injection ho with ho;subst ho;cases hc
theorem vS {β:Type} (B:Nat) (p:β→Prop):OwnFrom B (fun(x:β) (_:World)=>p x):=fun _ _ _ _ h _ _=>h
theorem Ke (w:World) (W:World) (l:Nat) (o o':Obj) (_:w.heap.size≤l) (h:W.heap[l]? =some o) (hc:o.isCells=false) (_:o.isWalk=false):Bh (fun _ _=>False) W (W.putObj l o'):=by
 refine⟨fun k q hq Mf _=> ?_,by simp,fun k _ hk=>hk.elim⟩;have:k≠l:=fun e=>by subst e;rw[h]at hq;injection hq with hq;subst hq;rw[hc]at Mf;cases Mf
 exact(World.putObj_heap_other this).trans hq
theorem GQ (W:World):Bh (fun _ _=>False) W W:=⟨fun _ _ h _ _=>h,aj _,fun _ _ h=>h⟩
theorem tY {α:Type} {p:α→Bool} {q l:List α} {x:α} (h:q++[x]<+:l) (hq:∀y∈q,p y=false) (hx:p x=true):l.find? p=some x:=by
 obtain⟨t,rfl⟩:=h;rw[List.append_assoc,List.find?_append];have h0:q.find? p=none:=by
  rw[List.find?_eq_none];intro y hy;rw[hq y hy];decide
 rw[h0];simp[hx]
theorem ea (x k:J.B):((⟨x.toArray⟩:ByteArray).toList==(⟨k.toArray⟩:ByteArray).toList)=decide (x=k):=by
 have h:∀l:J.B,(⟨l.toArray⟩:ByteArray).toList=l:=fun l=>by rw[ByteArray.toList_eq]
 rw[h,h];by_cases e:x=k<;>simp[e]
theorem DX (x kl Mh:J.B) (hk:Mh=kl):(Op.bytesLess x Mh=false∧(x==Mh)=false∧∀same,aft kl same x=true)∨(Op.bytesLess x Mh=false∧(x==Mh)=true∧∀same,aft kl same x=same)∨(Op.bytesLess x Mh=true∧(x==Mh)=false∧∀same,aft kl same x=false):=by
 subst hk;rw[bytesLess_eq];unfold aft;generalize Mh=kl;by_cases h1:x<kl
 ·have h2:¬kl<x:=fun h=>List.lt_asymm h1 h;have h3:x≠kl:=fun h=>by subst h;exact List.lt_irrefl _ h1
  exact .inr (.inr ⟨by simp[h1],by simpa using h3,fun same=>by simp[h2,h3]⟩)
 ·by_cases h3:x=kl
  ·refine .inr (.inl ⟨by simp[h1],by simpa using h3,fun same=> ?_⟩);subst h3;simp[List.lt_irrefl]
  ·have h2:kl<x:=by
    by_cases h:kl<x
    ·exact h
    ·exact absurd (List.le_antisymm (List.not_lt.1 h) (List.not_lt.1 h1)) h3
   exact .inl ⟨by simp[h1],by simpa using h3,fun same=>by simp[h2]⟩
structure yY (kl:J.B) (key:ByteArray) (same:Bool) (w:World) (r:J.B) (b:Bool) (W:World):Prop where
 k:Boxed W w.heap.size 9 (.string key)
 s:Boxed W (w.heap.size+1) 4 (.bool same)
 r:Boxed W (w.heap.size+1+1) 9 (.string ⟨r.toArray⟩)
 b:Boxed W (w.heap.size+1+1+1) 4 (.bool b)
 bel:Below w.heap.size w W
theorem qh {β:Type} {kl:J.B} {key:ByteArray} {same:Bool} {w:World} {r:J.B} {b:Bool} (B:Nat) (hB:w.heap.size≤B):OwnFrom (β:=β) B (fun _ W=>yY kl key same w r b W):=fun x W W' row h hg hr=>
 ⟨boxed_own B _ _ _ x W W' row h.k hg hr,boxed_own B _ _ _ x W W' row h.s hg hr,boxed_own B _ _ _ x W W' row h.r hg hr,boxed_own B _ _ _ x W W' row h.b hg hr,ownFrom_below (aj _) hB x W W' row h.bel hg hr⟩
theorem DY (p:Nat) (pre:ByteArray) (kl:J.B) (same:Bool) (M:Nat→Prop) (s:J.St) (w:World) (h:bt w p M s) (wX:s.now.length≤100000000):
  CallsIn Fence.wide 6 Tryz.prog 66 #[.pointer (some ⟨p,0,none⟩), .string pre, .string ⟨kl.toArray⟩, .bool same] w fun e w'=>e= .returned (.tuple #[.string ⟨((afterOf s.now pre kl same).getD []).toArray⟩, .bool (afterOf s.now pre kl same).isSome])∧Below w.heap.size w w':=by
 generalize oc:(⟨kl.toArray⟩:ByteArray)=key;have Aa:=aa oc;obtain⟨w4,hw4⟩:∃w4,(((w.alloc (.cells #[.string key] 9)).alloc (.cells #[.bool same] 4)).alloc (.cells #[.string ⟨#[]⟩] 9)).alloc (.cells #[.bool false] 4)=w4:=⟨_,rfl⟩;have hb4:Below w.heap.size w w4:=by
  rw[←hw4];exact((((ai _ w).alloc (aj _) _).alloc (by simp) _).alloc (by simp;omega) _).alloc (by simp;omega) _
 have VT:yY kl key same w [] false w4:=by
  rw[←hw4];refine⟨?_, ?_, ?_, ?_,by rw[hw4];exact hb4⟩
  ·exact(((Boxed.new w 9 (.string key)).alloc _).alloc _).alloc _
  ·have:=(((Boxed.new (w.alloc (.cells #[.string key] 9)) 4 (.bool same))).alloc (.cells #[.string ⟨#[]⟩] 9)).alloc (.cells #[.bool false] 4)
   simpa using this
  ·have:=(Boxed.new ((w.alloc (.cells #[.string key] 9)).alloc (.cells #[.bool same] 4)) 9 (.string ⟨#[]⟩)).alloc (.cells #[.bool false] 4)
   simpa using this
  ·have:=Boxed.new (((w.alloc (.cells #[.string key] 9)).alloc (.cells #[.bool same] 4)).alloc (.cells #[.string ⟨#[]⟩] 9)) 4 (.bool false)
   simpa using this
 have yM:=aa (callsIn_wide.2 (oG p M s w4 (h.below hb4)):CallsIn Fence.wide 5 _ _ _ _ _);have HS:=aa (tT (.pointer (some ⟨p,0,none⟩)) pre w4 ⟨_,rfl⟩);obtain⟨w6,Ad⟩:∃w6,(w4.alloc (.cells #[.pointer (some ⟨p,0,none⟩)] 24)).alloc (.cells #[.string pre] 9)=w6:=⟨_,rfl⟩;have GR:Below w4.heap.size w4 w6:=by rw[←Ad];exact((ai _ w4).alloc (aj _) _).alloc (by simp) _
 have Ae:Below w.heap.size w w6:=hb4.trans (GR.mono hb4.size);have VU:yY kl key same w [] false w6:=by
  obtain⟨i1,i2,i3,i4,i5⟩:=VT;rw[←Ad];exact⟨(i1.alloc _).alloc _,(i2.alloc _).alloc _,(i3.alloc _).alloc _,(i4.alloc _).alloc _,by rw[Ad];exact Ae⟩
 have hst:SeqStopsK Fence.wide 5 Tryz.prog 132 #[.pointer (some ⟨w4.heap.size,0,none⟩), .pointer (some ⟨w4.heap.size+1,0,none⟩)] (fun x=>#[encStr x]) (Bh (fun _ _=>False)) (fun ys=>ys=keysOf s.now pre) (fun q=>q<+:keysOf s.now pre) (keysOf s.now pre).length w6:=by
  obtain⟨bn,bw,ch,wr,b0,b1,b2,b3,d0,d1,d2,d3,h1,h2,h3,h4⟩:=h;have Yg:=h3.now.step (Step.aH Ae) (Ae.block bn h3.now.lt);have Yh:=(Ae.cell (p:=⟨p,2,none⟩) (ah h1).1).trans (ag w p 2 _ _ _ h1);refine qa 5 (by omega) w4.heap.size (w4.heap.size+1) p bn pre s.now M (fun _ _=>False) wX w6 ?_ ?_ Yh Yg (fun _ _ _ h=>h.elim)
  ·rw[←Ad];exact((Boxed.new w4 24 (.pointer (some ⟨p,0,none⟩))).alloc _).cell
  ·have:=(Boxed.new (w4.alloc (.cells #[.pointer (some ⟨p,0,none⟩)] 24)) 9 (.string pre)).cell;rw[←Ad];rw[World.size_alloc]at this;exact this
 have HST:=aa hst;have Af:=aa VU;clear hst VU h wX VT hb4 GR Ae;refine callsIn_of_wp_marks Tryz.func66 rfl trivial ?_ rfl;simp only[Tryz.ntmps66,List.size_toArray,List.length_cons,List.length_nil,Nat.reduceAdd,Nat.reduceSub,Array.replicate_succ,Array.replicate_zero,List.push_toArray,List.append_toArray,List.nil_append,List.cons_append]
 gi_wp2_with fail
 refine⟨trivial,yM.out.mono ?_⟩;rintro e Y ⟨rfl,hY⟩;subst hY
 gi_wp2_with fail
 refine⟨trivial,HS.out.mono ?_⟩;rintro e Y ⟨rfl,hY⟩;rw[Ad]at hY;subst hY;clear hw4 Ad yM HS
 gi_wp2_with fail
 have JM:w.heap.size≤Y.heap.size:=Af.out.bel.size;refine wpIn_rangeFunc_ownF rfl (by omega) (gf:=132) (lb:=#[.pointer (some ⟨w4.heap.size,0,none⟩), .pointer (some ⟨w4.heap.size+1,0,none⟩)]) rfl trivial (enters_of Tryz.func132 (by kernel_rfl) rfl)
  HST.out Bh.t (fun W l o o' hl h hc hw=>Ke Y W l o o' hl h hc hw) (ai _ _) (fun _=>rfl)
  (fun pr W=>(∀y∈pr,aft kl same y=false)∧yY kl key same w [] false W)
  (fun c pr W=>(c= .ret∧∃q x,pr=q++[x]∧(∀y∈q,aft kl same y=false)∧aft kl same x=true∧yY kl key same w x true W))
  (OwnFrom.and (vS _ _) (qh _ JM))
  (fun c pr W W' row h hg hr=>by
   obtain⟨h1,q,x,h2,h3,h4,h5⟩:=h;exact⟨h1,q,x,h2,h3,h4,qh (β:=List J.B) _ JM pr W W' row h5 hg hr⟩)
  ⟨(fun _ h=>by cases h),Af.out⟩
  (fun x=>{tmps:=#[.pointer (some ⟨p,0,none⟩), .string pre, .string key, .bool same,undef,undef, .pointer (some ⟨w.heap.size,0,none⟩), .pointer (some ⟨w.heap.size+1,0,none⟩), .pointer (some ⟨w.heap.size+1+1,0,none⟩), .pointer (some ⟨w.heap.size+1+1+1,0,none⟩),encStr x, .pointer (some ⟨p,0,none⟩), .bool true, .bool false, .pointer (some ⟨p,0,none⟩), .string pre, .func (.func 132) #[] #[.pointer (some ⟨w4.heap.size,0,none⟩), .pointer (some ⟨w4.heap.size+1,0,none⟩)],encStr x,undef,undef,undef,undef,undef,undef,undef,undef,undef,undef,undef,undef],defers:=[]}) ?assign ?body ?done ?stop
 case assign=>
  intro l x W K hK
  gi_wp2
  exact hK
 case body=>
  rintro l pr x W ⟨DZ,hI⟩ hlt;have hk:=hI.k.cell;have hs:=hI.s.cell;have hr:=hI.r.cell;have hb:=hI.b.cell;have MW:=hI.r.frozen;have C0:=hI.b.frozen;have HI:=aa hI;have HP:=aa DZ;have fR:key.toList=kl:=(by rw[←Aa.out,ByteArray.toList_eq]);have hcs:=DX x kl _ fR;clear hI DZ fR oc;have stop:∀W2,W2=(W.setCell ⟨w.heap.size+1+1,0,none⟩ (.string ⟨x.toArray⟩)).setCell ⟨w.heap.size+1+1+1,0,none⟩ (.bool true)→aft kl same x=true→KeepsOthers W W2∧∃q y,pr++[x]=q++[y]∧(∀z∈q,aft kl same z=false)∧aft kl same y=true∧yY kl key same w y true W2:=by
   rintro W2 rfl ha;obtain⟨i1,i2,i3,i4,i5⟩:=HI.out;refine⟨(KeepsOthers.setCell W _ _).trans (KeepsOthers.setCell _ _ _),pr,x,rfl,HP.out,ha, ?_, ?_, ?_, ?_, ?_⟩
   ·exact(i1.other (by omega) _).other (by omega) _
   ·exact(i2.other (by omega) _).other (by omega) _
   ·exact(i3.set _).other (by omega) _
   ·exact(i4.other (by omega) _).set _
   ·exact(i5.setCell (by show w.heap.size≤w.heap.size+1+1;omega) _).setCell (by show w.heap.size≤w.heap.size+1+1+1;omega) _
  have C1:=aa stop;have go:aft kl same x=false→KeepsOthers W W∧Bh (fun _ _=>False) W W∧(∀y∈pr++[x],aft kl same y=false)∧yY kl key same w [] false W:=fun ha=>⟨KeepsOthers.refl W,GQ W,fun y hy=>by
   rcases List.mem_append.1 hy with h|h
   ·exact HP.out y h
   ·simp at h;subst h;exact ha,HI.out⟩
  have hgo:=aa go;clear stop go;rcases hcs with⟨c1,c2,c3⟩|⟨c1,c2,c3⟩|⟨c1,c2,c3⟩
  ·have hc:=aa (c3 same);clear c3
   gi_wp2
   exact⟨(C1.out _ rfl hc.out).1,rfl,(C1.out _ rfl hc.out).2⟩
  ·have hc:=aa (c3 same);clear c3;cases same
   ·gi_wp2
    exact hgo.out hc.out
   ·gi_wp2
    exact⟨(C1.out _ rfl hc.out).1,rfl,(C1.out _ rfl hc.out).2⟩
  ·have hc:=aa (c3 same);clear c3;cases same
   ·gi_wp2
    exact hgo.out hc.out
   ·gi_wp2
    exact hgo.out hc.out
 case done=>
  rintro D ys W hD rfl ⟨DZ,hI⟩ hK;have hr:=hI.r.cell;have hb:=hI.b.cell;have MW:=hI.r.frozen;have C0:=hI.b.frozen;have hno:afterOf s.now pre kl same=none:=List.find?_eq_none.2 (fun y hy=>by rw[DZ y hy];decide);have PT:yY kl key same w [] false ((W.setCell ⟨w.heap.size+1+1,0,none⟩ (.string ⟨#[]⟩)).setCell ⟨w.heap.size+1+1+1,0,none⟩ (.bool false)):=by
   obtain⟨i1,i2,i3,i4,i5⟩:=hI;refine⟨?_, ?_, ?_, ?_, ?_⟩
   ·exact(i1.other (by omega) _).other (by omega) _
   ·exact(i2.other (by omega) _).other (by omega) _
   ·exact(i3.set _).other (by omega) _
   ·exact(i4.other (by omega) _).set _
   ·exact(i5.setCell (by show w.heap.size≤w.heap.size+1+1;omega) _).setCell (by show w.heap.size≤w.heap.size+1+1+1;omega) _
  have Yi:w.heap.size+4≤D:=au (by have:=Af.out.b.lt;omega) hD;have hK2:((W.setCell ⟨w.heap.size+1+1,0,none⟩ (.string ⟨#[]⟩)).setCell ⟨w.heap.size+1+1+1,0,none⟩ (.bool false)).heap[D]? =some (.deferred (some [])):=by
   rw[Below.heap_setCell _ _ _ D (by show D≠w.heap.size+1+1+1;omega),Below.heap_setCell _ _ _ D (by show D≠w.heap.size+1+1;omega)];exact hK
  have D1:=aa PT;have PU:=aa hK2;have PW:=aa hno;clear hI PT hK2 hno DZ
  gi_wp2
  refine⟨by simp, .inl ⟨_,_,rfl,run_takeDeferred PU.out, ?_⟩⟩;have hF:=qh (β:=Unit) Y.heap.size JM () _ _ (some D) D1.out (grownBy_putObj' _ D (.deferred none)) (fun r e=>by cases e;exact⟨hD,_,PU.out,rfl⟩);refine⟨_,pd rfl _ _ _ _ _ _ rfl rfl Tryz.underlying9 Tryz.underlying4 hF.r.cell hF.b.cell, ?_,hF.bel⟩;rw[PW.out];rfl
 case stop=>
  rintro D c pr W hD Gu ⟨rfl,q,x,rfl,hq,hx,hI⟩ hK;have hsm:afterOf s.now pre kl same=some x:=tY Gu hq hx
  gi_wp2
  refine⟨by simp, .inl ⟨_,_,rfl,run_takeDeferred hK, ?_⟩⟩;have hF:=qh (β:=Unit) Y.heap.size JM () _ _ (some D) hI (grownBy_putObj' _ D (.deferred none)) (fun r e=>by cases e;exact⟨hD,_,hK,rfl⟩);refine⟨_,pd rfl _ _ _ _ _ _ rfl rfl Tryz.underlying9 Tryz.underlying4 hF.r.cell hF.b.cell, ?_,hF.bel⟩;rw[hsm];rfl
theorem iP {w0 w:World} {p:Nat} {s:J.St} {fs:List (Nat×Obj)} (h:At w0 p fs s w) (pre:ByteArray) (kl:J.B) (same:Bool) (wX:s.now.length≤100000000):
  Calls Tryz.prog 66 #[.pointer (some ⟨p,0,none⟩), .string pre, .string ⟨kl.toArray⟩, .bool same] w fun e w'=>e= .returned (.tuple #[.string ⟨((afterOf s.now pre kl same).getD []).toArray⟩, .bool (afterOf s.now pre kl same).isSome])∧Below w.heap.size w w':=by
 obtain⟨M,h1,_,_⟩:=h;exact callsIn_wide.1 (DY p pre kl same M s w h1 wX)
end Go.Proofs.YtipljcmmokaokaaGreat
namespace Go.Proofs.YtipljcmmokaokaaGreat
open Go.RowKit Go.Lib Go.Maps Go.WideMaps Go.Sort
namespace X
theorem find_congr {α:Type} {p q:α→Bool}:∀(l:List α),(∀x∈l,p x=q x)→l.find? p=l.find? q
 |[],_=>rfl
 |x::t,h=>by
  rw[List.find?_cons,List.find?_cons,h x List.mem_cons_self,find_congr t (fun y hy=>h y (List.mem_cons_of_mem _ hy))]
theorem tZ {α β:Type} (f:α→β) (p:β→Bool):∀(l:List α),(l.map f).find? p=(l.find? fun x=>p (f x)).map f
 |[]=>rfl
 |x::t=>by
  rw[List.map_cons,List.find?_cons,List.find?_cons,tZ f p t];cases p (f x)<;>rfl
theorem rP {α:Type} (p q:α→Bool):∀(l:List α),(∀x∈l,p x=true→q x=true)→(l.filter p).find? q=l.find? p
 |[],_=>rfl
 |x::t,h=>by
  have ih:=rP p q t (fun y hy=>h y (af _ hy));rw[List.filter_cons,List.find?_cons];cases hp:p x with
  |true=>rw[if_pos rfl,List.find?_cons,h x List.mem_cons_self hp]
  |false=>rw[if_neg (by decide),ih]
theorem cR {α:Type} {p:α→Bool} {l:List α} {x:α} (h:l.find? p=some x):x∈l∧p x=true:=⟨List.mem_of_find?_eq_some h,List.find?_some h⟩
abbrev aJ (nm:B) (ks:List Ky) (i:Nat) (r:Row):B:=bP nm i (val ks i r.b) (r.t i)
theorem qi (x:B):(⟨x.toArray⟩:ByteArray).data.toList=x:=rfl
section
variable {ks : List Ky} {size time : Nat} {rows : List Row} {nm a : B} {c : Nat} {now : List (B × B)}
theorem ln.jH (h:ln nm a ks rows c now) (hk:ks.length≤256) (hr:aS ks size time rows) (ht:time<4294967296) {i:Nat} (hi:i<ks.length):
  keysOf now ⟨(pre nm i).toArray⟩=(bS ks i rows).map (aJ nm ks i):=by
 unfold keysOf;rw[qi];have:=h.keys hk hr ht hi [] (Nat.zero_le _);rw[List.append_nil]at this;rw[this,List.filter_eq_self.2 (fun x _=>by simp)]
theorem ln.GS (h:ln nm a ks rows c now) (hk:ks.length≤256) (hr:aS ks size time rows) (ht:time<4294967296) {i:Nat} (hi:i<ks.length) (v:B) (hv:v.length=lens ks i):
  keysOf now ⟨(pre nm i++v).toArray⟩=((bS ks i rows).filter fun r=>decide (val ks i r.b=v)).map (aJ nm ks i):=by
 unfold keysOf;rw[qi,h.keys hk hr ht hi v (by omega)]
 congr 1
 refine List.filter_congr (fun r jZ=> ?_);have hl:=aP (hr.fit r ((bm ks i r rows).1 jZ)) hi;rw[hv,←hl,List.take_length]
theorem Bv {x:B} (h:x≠[]):([]:B)<x:=by
 cases x with
 |nil=>exact absurd rfl h
 |cons a t=>exact List.nil_lt_cons _ _
theorem Kf (hk:fQ ks size) (hr:aS ks size time rows) (ht:time<4294967296) {i:Nat} (hi:i<ks.length) {v:B} {t:Nat} (Fo:t<4294967296)
  (hp:(i=0∧v=[]∧t=0)∨(v.length=lens ks i∧(i=0→t=0))) (same:Bool) {r:Row} (hm:r∈rows):
  aft (bP nm i v t) same (aJ nm ks i r)=sj ks i v t same r:=by
 have hl:=aP (hr.fit r hm) hi;have jB:=hk.key _ (aR hi);unfold aft sj;rcases hp with⟨rfl,rfl,rfl⟩|⟨h1,h2⟩
 ·have hne:val ks 0 r.b≠[]:=fun e=>by rw[e]at hl;unfold lens at hl;simp at hl;omega
  have e1:bP nm 0 [] 0<aJ nm ks 0 r:=by
   unfold aJ bP tail;rw[R.AA];exact Bv hne
  rw[decide_eq_true e1,decide_eq_true (Bv hne)];rfl
 ·have VW:=hr.t32 ht hm hi;have e1:=F3 (nm:=nm) (i:=i) (p:=v) (q:=val ks i r.b) (t:=t) (s:=r.t i) (h1.trans hl.symm) Fo VW (fun e=>by subst e;rw[h2 rfl,hr.t0 r hm]);have e2:aJ nm ks i r=bP nm i v t↔v=val ks i r.b∧r.t i=t:=by
   constructor
   ·intro e;obtain⟨_,a,b⟩:=oC (by have:=hk.one;omega) (by have:=hk.one;omega) VW Fo (fun e=>by subst e;exact hr.t0 r hm) h2 e;exact⟨a.symm,b⟩
   ·rintro⟨e1,e2⟩;unfold aJ;rw[e1,e2]
  rw[Bool.eq_iff_iff];simp only[Bool.or_eq_true,Bool.and_eq_true,decide_eq_true_eq,e1,e2];constructor
  ·rintro((h|⟨h,k⟩)|⟨h,k1,k2⟩)
   ·exact .inl h
   ·exact .inr ⟨h, .inl k⟩
   ·exact .inr ⟨k1, .inr ⟨k2,h⟩⟩
  ·rintro(h|⟨h,k|⟨k1,k2⟩⟩)
   ·exact .inl (.inl h)
   ·exact .inl (.inr ⟨h,k⟩)
   ·exact .inr ⟨k2,h,k1⟩
theorem ln.after (h:ln nm a ks rows c now) (hk:fQ ks size) (hr:aS ks size time rows) (ht:time<4294967296) {i:Nat} (hi:i<ks.length) {v:B} {t:Nat} (Fo:t<4294967296)
  (hp:(i=0∧v=[]∧t=0)∨(v.length=lens ks i∧(i=0→t=0))) (same:Bool):
  afterOf now ⟨(pre nm i).toArray⟩ (bP nm i v t) same=((bS ks i rows).find? (sj ks i v t same)).map (aJ nm ks i):=by
 unfold afterOf;rw[h.jH (by have:=hk.one;omega) hr ht hi,tZ]
 congr 1
 exact find_congr _ (fun r jZ=>Kf hk hr ht hi Fo hp same ((bm ks i r rows).1 jZ))
theorem yZ (ks:List Ky) (i:Nat) (r x:Row):sj ks i (val ks i r.b) (r.t i) false x=nC ks i r x:=by
 unfold sj nC;simp
theorem ln.vT (h:ln nm a ks rows c now) (hk:fQ ks size) (hr:aS ks size time rows) (ht:time<4294967296) {i:Nat} (hi:i<ks.length) {r:Row} (hm:r∈rows):
  afterOf now ⟨(pre nm i).toArray⟩ (aJ nm ks i r) false=((bS ks i rows).find? (nC ks i r ·)).map (aJ nm ks i):=by
 rw[show aJ nm ks i r=bP nm i (val ks i r.b) (r.t i)from rfl,h.after hk hr ht hi (hr.t32 ht hm hi) (.inr ⟨aP (hr.fit r hm) hi,fun e=>by subst e;exact hr.t0 r hm⟩) false]
 congr 1
 exact find_congr _ (fun x _=>yZ ks i r x)
theorem D2 {x y:B}:x<x++y∨x++y=x:=by
 by_cases h:y=[]
 ·subst h;right;exact List.append_nil x
 ·left;have:=(R.AA x (s:=[]) (t:=y)).2 (Bv h)
  rwa [List.append_nil]at this
theorem ln.oJ (h:ln nm a ks rows c now) (hk:fQ ks size) (hr:aS ks size time rows) (ht:time<4294967296) {i:Nat} (hi:i<ks.length) {v:B} (hv:v.length=lens ks i):
  afterOf now ⟨(pre nm i++v).toArray⟩ (pre nm i++v) true=((bS ks i rows).find? fun r=>decide (val ks i r.b=v)).map (aJ nm ks i):=by
 unfold afterOf;rw[h.GS (by have:=hk.one;omega) hr ht hi v hv,tZ]
 congr 1
 refine rP _ _ _ (fun r _ hd=> ?_);have e:val ks i r.b=v:=of_decide_eq_true hd;have e2:∃y,aJ nm ks i r=(pre nm i++v)++y:=by
  unfold aJ bP tail;rw[e];split
  ·exact⟨[],by simp⟩
  ·exact⟨R.bF (r.t i),by simp⟩
 obtain⟨y,hy⟩:=e2;unfold aft;rw[hy];rcases D2 (x:=pre nm i++v) (y:=y)with h1|h1
 ·rw[decide_eq_true h1];rfl
 ·rw[decide_eq_true h1];simp
theorem ua (ks:List Ky) (i:Nat) (rows:List Row) (v:B):((bS ks i rows).find? fun r=>decide (val ks i r.b=v)).isSome=rows.any fun r=>decide (val ks i r.b=v):=by
 rw[Bool.eq_iff_iff,List.find?_isSome,List.any_eq_true];constructor
 ·rintro⟨x,h1,h2⟩;exact⟨x,(bm ks i x rows).1 h1,h2⟩
 ·rintro⟨x,h1,h2⟩;exact⟨x,(bm ks i x rows).2 h1,h2⟩
theorem ln.ub (h:ln nm a ks rows c now):keysOf now ⟨(nm++[0]).toArray⟩=now.map (·.1):=by
 unfold keysOf;rw[qi,List.filter_eq_self.2];intro k hk;obtain⟨⟨k',x⟩,hm,rfl⟩:=List.mem_map.1 hk;have hlk:=J.ic now k' x h.asc hm;have hh:=h.oth k' (by rw[hlk];intro e;cases e);show Lib.hasPrefix k' (nm++[0])=true;have hp:∀y:B,Lib.hasPrefix (nm++0::y) (nm++[0])=true:=fun y=>by
  unfold Lib.hasPrefix;rw[mW];rfl
 rcases hh with rfl|rfl|⟨p,rfl⟩|⟨j,p,t,_,_,_,rfl⟩
 ·exact hp [65]
 ·exact hp [67]
 ·obtain⟨a,x,h1,_,_⟩:=kG nm 0;unfold bP;rw[h1,List.append_assoc];exact hp _
 ·obtain⟨a,x,h1,_,_⟩:=kG nm j;unfold bP;rw[h1,List.append_assoc];exact hp _
theorem ln.iQ (h:ln nm a ks rows c now) (hr:aS ks size time rows) (p:B):J.look now (bP nm 0 p 0)=(rows.find? fun r=>decide (val ks 0 r.b=p)).map (·.b):=by
 cases hf:rows.find? fun r=>decide (val ks 0 r.b=p)with
 |some r=>
  obtain⟨h1,h2⟩:=cR hf;exact(h.pri p r.b).2 ⟨r,h1,of_decide_eq_true h2,rfl⟩
 |none=>
  cases hl:J.look now (bP nm 0 p 0)with
  |none=>rfl
  |some v=>
   obtain⟨r,h1,h2,_⟩:=(h.pri p v).1 hl;have:=List.find?_eq_none.1 hf r h1;rw[h2]at this;simp at this
theorem qj {l:List Row} (h:l.Pairwise fun x y=>val ks 0 x.b≠val ks 0 y.b) {r s:Row} (hr:r∈l) (hs:s∈l) (e:val ks 0 r.b=val ks 0 s.b):r=s:=by
 induction l with
 |nil=>cases hr
 |cons x t ih=>
  obtain⟨h1,h2⟩:=List.pairwise_cons.1 h;rcases ak hr with rfl|mi<;>rcases ak hs with rfl|hs'
  ·rfl
  ·exact absurd e (h1 s hs')
  ·exact absurd e.symm (h1 r mi)
  ·exact ih h2 mi hs'
theorem ln.ql (h:ln nm a ks rows c now) (hr:aS ks size time rows) {r:Row} (hm:r∈rows):J.look now (bP nm 0 (val ks 0 r.b) 0)=some r.b:=(h.pri _ _).2 ⟨r,hm,rfl,rfl⟩
theorem ln.ud (h:ln nm a ks rows c now) (hr:aS ks size time rows) (ht:time<4294967296) {i:Nat} (h0:i≠0) (hi:i<ks.length) {r:Row} (hm:r∈rows):J.look now (aJ nm ks i r)=some (val ks 0 r.b):=
 (h.alt i _ _ _ (by omega) hi (hr.t32 ht hm hi)).2 ⟨r,hm,rfl,rfl,rfl,hi⟩
end
end X
end Go.Proofs.YtipljcmmokaokaaGreat
namespace Go.Proofs.YtipljcmmokaokaaGreat
open Go.RowKit Go.Lib Go.Maps Go.WideMaps Go.Sort
set_option maxRecDepth 100000
theorem ld (n:Int) (w:World):
  Calls Tryz.prog 97 #[.int .i64 n] w fun e w'=>e= .returned (.slice (some ⟨w.heap.size,0,none⟩) 4 4)∧w'=w.alloc (.cells (dy (R.bF (og n))).toArray 5 (0,0)):=by
 go_enter Tryz.func97,Tryz.ntmps97;go_wp2;go_ret;refine⟨rfl, ?_⟩;rw[p9 (og n/16777216) _ (by unfold og;omega),p9 (og n/65536) _ (by unfold og;omega),p9 (og n/256) _ (by unfold og;omega),p9 (og n) (n%256) (by unfold og;omega)];rfl
theorem iR (l:J.B) (k:Nat) (h:k<l.length) (w:World):(Instr.index 9 (.string ⟨l.toArray⟩) (.int .i64 (k:Nat))).run Tryz.prog w= .ok (u8 l[k]) w:=by
 rw[run_index_string (h:=Tryz.underlying9),dif_pos ⟨by omega,by rw[show(⟨l.toArray⟩:ByteArray).size=l.length by simp[ByteArray.size]];omega⟩];rfl
theorem GU (a b c d:UInt8) (t:J.B) (w:World):
  Calls Tryz.prog 114 #[.string ⟨(a::b::c::d::t).toArray⟩] w fun e w'=>e= .returned (.int .i64 (R.wM [a,b,c,d]:Nat))∧Below w.heap.size w w':=by
 have i0:=iR (a::b::c::d::t) 0 (by simp);have i1:=iR (a::b::c::d::t) 1 (by simp);have i2:=iR (a::b::c::d::t) 2 (by simp);have i3:=iR (a::b::c::d::t) 3 (by simp);simp only[List.getElem_cons_zero,List.getElem_cons_succ]at i0 i1 i2 i3;have hv:R.wM [a,b,c,d]=a.toNat*16777216+b.toNat*65536+c.toNat*256+d.toNat:=rfl;have HV:=aa (Gr a.toNat b.toNat c.toNat d.toNat (UInt8.toNat_lt _) (UInt8.toNat_lt _) (UInt8.toNat_lt _) (UInt8.toNat_lt _));rw[←hv]at HV;generalize R.wM [a,b,c,d]=V at HV hv⊢;clear hv;have i0:∀w,(Instr.index 9 (.string ⟨(a::b::c::d::t).toArray⟩) (.int .i64 0)).run Tryz.prog w= .ok (.int .u8 (a.toNat:Nat)) w:=i0;have i1:∀w,(Instr.index 9 (.string ⟨(a::b::c::d::t).toArray⟩) (.int .i64 1)).run Tryz.prog w= .ok (.int .u8 (b.toNat:Nat)) w:=i1;have i2:∀w,(Instr.index 9 (.string ⟨(a::b::c::d::t).toArray⟩) (.int .i64 2)).run Tryz.prog w= .ok (.int .u8 (c.toNat:Nat)) w:=i2;have i3:∀w,(Instr.index 9 (.string ⟨(a::b::c::d::t).toArray⟩) (.int .i64 3)).run Tryz.prog w= .ok (.int .u8 (d.toNat:Nat)) w:=i3;generalize(⟨(a::b::c::d::t).toArray⟩:ByteArray)=S at i0 i1 i2 i3⊢;generalize a.toNat=a0 at i0 HV;generalize b.toNat=a1 at i1 HV;generalize c.toNat=a2 at i2 HV;generalize d.toNat=a3 at i3 HV;go_enter Tryz.func114,Tryz.ntmps114;go_upto_region 1 with fail;refine aA 17 (.rd 0 (.rd 1 (.rd 2 (.rd 3 (.rd 4 (.rd 5 (.rd 6 (.rd 7 (.rd 8 (.rd 9 (.rd 10 (.rd 11 (.rd 12 (.rd 13 (.rd 14 (.rd 15 (.rd 16 .fin))))))))))))))))) (fun _=>True) (by kernel_rfl) (by kernel_rfl) (fun c a d v w h=>by cases d<;>exact h) trivial ?_;repeat
  refine aw (v:= ?_) (by rfl) (by rfl) (fun w' hS=> ?_) (fun K hK=> ?_);rotate_left
  ·clear hS;go_simp;try with_reducible rfl
  go_simp;refine hK _ ?_;clear hK K
 show wpList _ _ _ _ _ _;have hv:=HV.out;go_wp2;go_ret;exact⟨rfl,(ai _ w).drew⟩
theorem D3:∀(ks:List J.B),ks.length≤2→Lib.join ks []=ks.flatten
 |[],_=>rfl
 |[a],_=>by simp[Lib.join]
 |[a,b],_=>by simp[Lib.join]
 |_::_::_::_,h=>by simp at h
theorem ue (nm:J.B) (w:World) (hn:nm.length≤1000):
  Calls Tryz.prog 41 #[.string ⟨nm.toArray⟩, .slice none 0 0] w fun e w'=>e= .returned (.string ⟨(nm++[0]).toArray⟩)∧w=w':=by
 have HJ:=aa (Tryz.strings_Join_none none 0 ⟨#[]⟩ w);have e1:=jF nm [0];have e2:(⟨(nm++[0]).toArray⟩:ByteArray)++⟨#[]⟩=⟨(nm++[0]).toArray⟩:=by
  have:=jF (nm++[0]) [];rw[List.append_nil]at this;exact this
 go_enter Tryz.func41,Tryz.ntmps41;go_wp2_with fail;refine HJ.out.mono ?_;rintro e w1 ⟨rfl,rfl⟩;go_wp2;go_ret;first|exact⟨rfl,rfl⟩|exact⟨by rw[e1,e2],rfl⟩|exact⟨by rw[e1];exact congrArg _ (congrArg _ e2),rfl⟩
theorem vU (nm:J.B) (g c:Nat) (ks:List J.B) (w:World) (h:kP w (some ⟨g,0,none⟩) ks) (cQ:0<ks.length) (hk:ks.length≤2) (hc:ks.length≤c) (hl:∀k∈ks,k.length≤1000) (hn:nm.length≤1000):
  Calls Tryz.prog 41 #[.string ⟨nm.toArray⟩, .slice (some ⟨g,0,none⟩) ks.length c] w fun e w'=>e= .returned (.string ⟨(nm++0::ks.flatten).toArray⟩)∧Below w.heap.size w w':=by
 obtain⟨g',eg,hg,hcell⟩:=h cQ;obtain rfl:g=g':=by injection eg with eg;injection eg
 have hm:(ks.map fun k:J.B=>(⟨k.toArray⟩:ByteArray)).map (·.data.toList)=ks:=by
  rw[List.map_map];conv=>rhs;rw[←List.map_id ks]
  exact List.map_congr_left fun k _=>rfl
 have Mb:ks.flatten.length≤2000:=by
  match ks,hk,hl with
  |[],_,_=>simp
  |[a],_,hl=>have:=hl a (by simp);simp;omega
  |[a,b],_,hl=>have:=hl a (by simp);have:=hl b (by simp);simp;omega
  |_::_::_::_,h,_=>simp at h
 have hj:=D3 ks hk;have HJ:=Tryz.strings_Join g 0 c (ks.map fun k:J.B=>(⟨k.toArray⟩:ByteArray)) ⟨#[]⟩ w (fun j x hx=>by
   rw[List.getElem?_map]at hx;obtain⟨k,hk,rfl⟩:=Option.map_eq_some_iff.1 hx;obtain⟨hj,rfl⟩:=List.getElem?_eq_some_iff.1 hk;rw[Nat.zero_add];exact hcell j hj) hg (by rw[List.length_map];omega) (by rw[List.length_map];exact hc) (by rw[hm];show(Lib.join ks []).length≤_;rw[hj];omega)
 rw[hm,List.length_map]at HJ;have e0:(⟨#[]⟩:ByteArray).data.toList=[]:=rfl;rw[e0,hj]at HJ;have HJ:=aa HJ;have e1:=jF nm [0];have e2:(⟨(nm++[0]).toArray⟩:ByteArray)++⟨ks.flatten.toArray⟩=⟨(nm++0::ks.flatten).toArray⟩:=by
  rw[jF,List.append_assoc];rfl
 have hsz:(⟨ks.flatten.toArray⟩:ByteArray).size≤2000:=by rw[bu];exact Mb
 generalize ks.flatten=fl at HJ e2 hsz Mb⊢;clear hm hj h hcell hl;go_enter Tryz.func41,Tryz.ntmps41;go_wp2_with fail;refine HJ.out.mono ?_;rintro e w1 ⟨rfl,hb⟩;have HB:=aa hb;clear hb HJ;go_wp2;go_ret;first|exact⟨rfl,HB.out⟩|exact⟨by rw[e1,e2],HB.out⟩|exact⟨by rw[e1];exact congrArg _ (congrArg _ e2),HB.out⟩
theorem y4 (W:World) (ks:List J.B) (C:Array Value) (hC:C=(ks.map encStr).toArray):kP (W.alloc (.cells C 9)) (some ⟨W.heap.size,0,none⟩) ks:=fun _=>by
 subst hC;refine⟨W.heap.size,rfl,by simp,fun j hj=> ?_⟩;rw[cell_of_row _ W.heap.size j _ _ _ (heap_alloc_new W _)];simp[hj]
theorem gA (nm x:J.B) (W:World) (B:Nat) (hB:W.heap.size=B) (hn:nm.length≤1000) (hx:x.length≤1000):
  Calls Tryz.prog 41 #[.string ⟨nm.toArray⟩, .slice (some ⟨B,0,none⟩) 1 1] (W.alloc (.cells #[encStr x] 9)) fun e w'=>e= .returned (.string ⟨(nm++0::x).toArray⟩)∧Below W.heap.size W w':=by
 subst hB;refine(vU nm W.heap.size 1 [x] (W.alloc (.cells #[encStr x] 9)) (y4 W [x] _ rfl) (by simp) (by simp) (by simp) (by simpa using hx) hn).mono ?_;rintro e w' ⟨rfl,hb⟩;have h1:Below W.heap.size W (W.alloc (.cells #[encStr x] 9)):=(ai _ W).alloc (aj _) _;exact⟨by simp,h1.trans (hb.mono h1.size)⟩
theorem D4 (nm x y:J.B) (W:World) (B:Nat) (hB:W.heap.size=B) (hn:nm.length≤1000) (hx:x.length≤1000) (hy:y.length≤1000):
  Calls Tryz.prog 41 #[.string ⟨nm.toArray⟩, .slice (some ⟨B,0,none⟩) 2 2] (W.alloc (.cells #[encStr x,encStr y] 9)) fun e w'=>e= .returned (.string ⟨(nm++0::(x++y)).toArray⟩)∧Below W.heap.size W w':=by
 subst hB;refine(vU nm W.heap.size 2 [x,y] (W.alloc (.cells #[encStr x,encStr y] 9)) (y4 W [x,y] _ rfl) (by simp) (by simp) (by simp) (by simp;omega) hn).mono ?_;rintro e w' ⟨rfl,hb⟩;have h1:Below W.heap.size W (W.alloc (.cells #[encStr x,encStr y] 9)):=(ai _ W).alloc (aj _) _;exact⟨by simp,h1.trans (hb.mono h1.size)⟩
abbrev mq (nm:J.B) (size:Nat) (kv:Value):Value:= .agg #[.string ⟨nm.toArray⟩, .int .i64 size,kv]
abbrev ia (nm:J.B) (size:Nat) (kv:Value):Obj:= .cells #[.string ⟨nm.toArray⟩, .int .i64 size,kv] 29 (0,0)
theorem D5 (i:Nat) (hi:i<256) (W:World) (C:Array Value) (hC:C=#[.int .u8 (i:Nat)]):
  (convert 40 9 (.slice (some ⟨W.heap.size,0,none⟩) 1 1)).run Tryz.prog (W.alloc (.cells C 5))= .ok (.string ⟨#[UInt8.ofNat i]⟩) (W.alloc (.cells C 5)):=by
 have e:C=(dy [UInt8.ofNat i]).toArray:=by
  rw[hC];unfold dy u8;simp[UInt8.toNat_ofNat',Nat.mod_eq_of_lt hi]
 rw[e];exact run_convert_bytes_back _ 40 9 5 ⟨W.heap.size,0,none⟩ 1 [UInt8.ofNat i] Tryz.underlying40 Tryz.underlying5 Tryz.underlying9 (fun j hj=>by
   have:(⟨W.heap.size,0,none⟩:Addr).add j=⟨W.heap.size,j,none⟩:=(by unfold Addr.add;split<;>simp_all);rw[this];exact tP W _ _ _ j hj)
theorem aZ (nm:J.B) (size:Nat) (A:Option Addr) (n c i:Nat) (hi:i<256) (hn:nm.length≤1000) (w:World):
  Calls Tryz.prog 50 #[mq nm size (.slice A n c), .int .i64 (i:Nat)] w fun e w'=>e= .returned (.string ⟨(X.pre nm i).toArray⟩)∧Below w.heap.size w w':=by
 by_cases h0:i=0
 ·subst h0;have HU:=aa (gA nm [80] (w.alloc (ia nm size (.slice A n c))) (w.heap.size+1) (by simp) hn (by simp));have hb1:Below w.heap.size w (w.alloc (ia nm size (.slice A n c))):=(ai _ w).alloc (aj _) _;have HB:=aa hb1;have e:X.pre nm 0=nm++0::[80]:=rfl;rw[e];clear hb1 e;go_enter Tryz.func50,Tryz.ntmps50;go_wp2_with fail;refine HU.out.mono ?_;rintro e w1 ⟨rfl,hb⟩;have bB:=aa (HB.out.trans (hb.mono HB.out.size));clear hb HU HB;go_wp2;go_ret;exact⟨rfl,bB.out⟩
 ·have hb1:Below w.heap.size w ((w.alloc (ia nm size (.slice A n c))).alloc (.cells #[.int .u8 (i:Nat)] 5)):=((ai _ w).alloc (aj _) _).alloc (by simp) _;have HU:=aa (D4 nm [75] [UInt8.ofNat i] ((w.alloc (ia nm size (.slice A n c))).alloc (.cells #[.int .u8 (i:Nat)] 5)) (w.heap.size+1+1) (by simp) hn (by simp) (by simp));have hcv:=D5 i hi (w.alloc (ia nm size (.slice A n c))) _ rfl;have HB:=aa hb1;have e:X.pre nm i=nm++0::([75]++[UInt8.ofNat i]):=(by unfold X.pre;rw[if_neg h0];rfl);rw[e];have AD:¬((i:Int)=0):=(by omega);have Fw:(i:Int)%256=i:=(by omega);have hs:(w.alloc (ia nm size (.slice A n c))).heap.size=w.heap.size+1:=(by simp);rw[hs]at hcv;clear hb1 e h0;go_enter Tryz.func50,Tryz.ntmps50;go_wp2_with fail;refine HU.out.mono ?_;rintro e w1 ⟨rfl,hb⟩;have bB:=aa (HB.out.trans (hb.mono HB.out.size));clear hb HU HB hcv;go_wp2;go_ret;exact⟨rfl,bB.out⟩
def cJ (ks:List X.Ky):List Value:=ks.flatMap fun k=>[.int .i64 (k.at_:Nat), .int .i64 (k.len:Nat), .bool k.dup]
theorem ou (l:List X.Ky):(cJ l).length=l.length*3:=by induction l with|nil=>rfl|cons a t ih=>simp[cJ]at*;omega
theorem kJ:∀(l:List X.Ky) (i:Nat),i<l.length→(cJ l)[i*3]? =some (.int .i64 ((X.aF l i).at_:Nat))∧(cJ l)[i*3+1]? =some (.int .i64 ((X.aF l i).len:Nat))∧(cJ l)[i*3+2]? =some (.bool (X.aF l i).dup)
 |[],i,h=>by simp at h
 |a::t,0,_=>⟨rfl,rfl,rfl⟩
 |a::t,i+1,h=>by
  have:=kJ t i (by simpa using h);rw[show(i+1)*3=i*3+3 by omega]
  simpa [cJ,X.aF] using this
theorem y5 (l:List X.Ky):∀u∈cJ l,u.oneCell'=true:=by
 intro u hu;simp only[cJ,List.mem_flatMap,List.mem_cons,List.not_mem_nil,or_false]at hu;obtain⟨p,_,rfl|rfl|rfl⟩:=hu<;>rfl
theorem y6 (a b:List X.Ky):cJ (a++b)=cJ a++cJ b:=by simp[cJ]
def eY (w:World) (g:Nat) (ks:List X.Ky):Prop:=g<w.heap.size∧∀j u,(cJ ks)[j]? =some u→w.cell? ⟨g,j,none⟩=some u
section
variable {w w' : World} {g : Nat} {ks : List X.Ky}
theorem eY.at_ (h:eY w g ks) {i:Nat} (hi:i<ks.length):w.cell? ⟨g,i*3,none⟩=some (.int .i64 ((X.aF ks i).at_:Nat)):=h.2 _ _ (kJ ks i hi).1
theorem eY.len (h:eY w g ks) {i:Nat} (hi:i<ks.length):w.cell? ⟨g,i*3+1,none⟩=some (.int .i64 ((X.aF ks i).len:Nat)):=h.2 _ _ (kJ ks i hi).2.1
theorem eY.dup (h:eY w g ks) {i:Nat} (hi:i<ks.length):w.cell? ⟨g,i*3+2,none⟩=some (.bool (X.aF ks i).dup):=h.2 _ _ (kJ ks i hi).2.2
theorem eY.below (h:eY w g ks) (hb:Below w.heap.size w w'):eY w' g ks:=⟨aq h.1 hb.size,fun j u hu=>(hb.cell (p:=⟨g,j,none⟩) h.1).trans (h.2 j u hu)⟩
theorem eY.block (h:eY w g ks) (hl:w.heap.size≤w'.heap.size) (hb:w'.heap[g]? =w.heap[g]?):eY w' g ks:=⟨aq h.1 hl,fun j u hu=>(World.cell?_of_block hb).trans (h.2 j u hu)⟩
end
theorem cy (nm:J.B) (size:Nat) (A:Option Addr) (n c i t:Nat) (v:J.B) (hi:i<256) (ht:t<4294967296) (hn:nm.length≤1000) (hv:v.length≤10000) (w:World):
  Calls Tryz.prog 57 #[mq nm size (.slice A n c), .int .i64 (i:Nat), .string ⟨v.toArray⟩, .int .i64 (t:Nat)] w fun e w'=>e= .returned (.string ⟨(X.bP nm i v t).toArray⟩)∧Below w.heap.size w w':=by
 have hpl:=X.kt nm i;have hs1:(⟨(X.pre nm i).toArray⟩:ByteArray).size≤1003:=by rw[bu];omega
 have hs2:(⟨v.toArray⟩:ByteArray).size≤10000:=by rw[bu];exact hv
 have hb1:Below w.heap.size w (w.alloc (ia nm size (.slice A n c))):=(ai _ w).alloc (aj _) _;have hs3:(⟨(X.pre nm i++v).toArray⟩:ByteArray).size≤12000:=by rw[bu,List.length_append];omega
 have e1:=jF (X.pre nm i) v;by_cases h0:i=0
 ·subst h0;have HP:=aa (aZ nm size A n c 0 (by decide) hn (w.alloc (ia nm size (.slice A n c))));have HB:=aa hb1;have e:X.bP nm 0 v t=X.pre nm 0++v:=(by unfold X.bP X.tail;rw[if_pos rfl]);rw[e];generalize(⟨v.toArray⟩:ByteArray)=V at hs2 e1⊢;generalize(⟨(X.pre nm 0).toArray⟩:ByteArray)=P at hs1 e1 HP⊢;clear hb1 e hpl;go_enter Tryz.func57,Tryz.ntmps57;go_wp2_with fail;refine HP.out.mono ?_;rintro e w1 ⟨rfl,hb⟩;have bB:=aa (HB.out.trans (hb.mono HB.out.size));clear hb HP HB;go_wp2;go_ret;first|exact⟨rfl,bB.out⟩|exact⟨by rw[e1],bB.out⟩
 ·have HP:=aa (aZ nm size A n c i hi hn (w.alloc (ia nm size (.slice A n c))));have HB:=aa hb1;have e:X.bP nm i v t=(X.pre nm i++v)++R.bF t:=(by unfold X.bP X.tail;rw[if_neg h0,List.append_assoc]);rw[e];have e2:=jF (X.pre nm i++v) (R.bF t);have AD:¬((i:Int)=0):=(by omega);have HF:=aa (fun w=>ld (t:Nat) w);rw[k9 ht]at HF;have hcv:∀W:World,(convert 40 9 (.slice (some ⟨W.heap.size,0,none⟩) 4 4)).run Tryz.prog (W.alloc (.cells (dy (R.bF t)).toArray 5 (0,0)))= .ok (.string ⟨(R.bF t).toArray⟩) (W.alloc (.cells (dy (R.bF t)).toArray 5 (0,0))):=fun W=>
   run_convert_bytes_back _ 40 9 5 ⟨W.heap.size,0,none⟩ 4 (R.bF t) Tryz.underlying40 Tryz.underlying5 Tryz.underlying9 (fun j hj=>by
    have:(⟨W.heap.size,0,none⟩:Addr).add j=⟨W.heap.size,j,none⟩:=(by unfold Addr.add;split<;>simp_all);rw[this];exact tP W _ _ _ j hj)
  have Bw:(⟨(R.bF t).toArray⟩:ByteArray).size=4:=(by rw[bu];rfl);generalize(⟨v.toArray⟩:ByteArray)=V at hs2 e1⊢;generalize(⟨(X.pre nm i).toArray⟩:ByteArray)=P at hs1 e1 HP⊢;generalize(⟨(R.bF t).toArray⟩:ByteArray)=T at e2 hcv Bw⊢;generalize(⟨(X.pre nm i++v).toArray⟩:ByteArray)=PV at hs3 e1 e2⊢;clear hb1 e hpl;go_enter Tryz.func57,Tryz.ntmps57;go_wp2_with fail;refine HP.out.mono ?_;rintro e w1 ⟨rfl,hb⟩;have bB:=aa (HB.out.trans (hb.mono HB.out.size));clear hb HP HB;go_wp2_with fail;refine(HF.out _).mono ?_;rintro e w2 ⟨rfl,rfl⟩;have cO:=aa (bB.out.alloc bB.out.size (.cells (dy (R.bF t)).toArray 5 (0,0)));have hcv:=hcv w1;clear HF bB;go_wp2;go_ret;first|exact⟨rfl,cO.out⟩|exact⟨by rw[e2],cO.out⟩|exact⟨by simp only[List.append_assoc];rfl,cO.out⟩
theorem bD (k:X.Ky) (v:Value) (l:J.B) (M:Nat→Prop) (w:World) (hv:Sl w M v l) (hk:k.at_+k.len≤l.length) (hl:l.length≤1000000):
  Calls Tryz.prog 55 #[.agg #[.int .i64 (k.at_:Nat), .int .i64 (k.len:Nat), .bool k.dup],v] w fun e w'=>e= .returned (.string ⟨(k.val l).toArray⟩)∧Below w.heap.size w w':=by
 obtain⟨A,c,rfl,hc,hby⟩:=hv.by
 obtain⟨a,n,d⟩:=k;have hk:a+n≤l.length:=hk;have PX:By (w.alloc (.cells #[.int .i64 (a:Nat), .int .i64 (n:Nat), .bool d] 66)) M A l.length l:=hby.alloc _;have e:X.Ky.val ⟨a,n,d⟩ l=(l.take (a+n)).drop a:=by
  show(l.drop a).take n=_;rw[List.drop_take]
  congr 1;omega
 rw[e];have HB:Below w.heap.size w (w.alloc (.cells #[.int .i64 (a:Nat), .int .i64 (n:Nat), .bool d] 66)):=(ai _ w).alloc (aj _) _;have HB:=aa HB;have HY:=aa PX;have hw:wrap64 ((a:Int)+(n:Int))=((a+n:Nat):Int):=by rw[IntWalk.wrap64_in _ (by omega)];omega
 clear hv hby PX e;show Calls Tryz.prog 55 #[.agg #[.int .i64 (a:Nat), .int .i64 (n:Nat), .bool d], .slice A l.length c] w _;generalize Sb:l.length=len at hk hc hl HY⊢;go_enter Tryz.func55,Tryz.ntmps55;go_wp2_with (refine yq rfl _ _ _ rfl A len c rfl a (a+n) rfl rfl (by omega) hk hc ?_);intro A' hp;have TH:=hp.out _ _ _ HY.out;rw[Nat.add_sub_cancel_left]at TH;have Bq:=aa TH;clear TH;clear hp HY;go_wp2_with (refine o5 rfl _ rfl A' _ _ rfl Bq.out ?_);go_wp2;go_ret;exact⟨rfl,HB.out⟩
theorem kB (l:J.B) (k:Nat) (h:k≤l.length) (w:World):(Instr.slice 9 (.string ⟨l.toArray⟩) (some (.int .i64 (k:Nat))) none none).run Tryz.prog w= .ok (.string ⟨(l.drop k).toArray⟩) w:=by
 have hs:(⟨l.toArray⟩:ByteArray).size=l.length:=bu l;rw[run_slice_string_from_if (h:=Tryz.underlying9),if_pos ⟨by omega,by rw[hs];omega⟩];rw[hs,Int.toNat_natCast,ByteArray.extract_mk,List.take_of_length_le (by rw[List.length_drop];exact Nat.le_refl _)]
theorem rQ (l:J.B) (k:Nat) (h:k≤l.length) (w:World):(Instr.slice 9 (.string ⟨l.toArray⟩) none (some (.int .i64 (k:Nat))) none).run Tryz.prog w= .ok (.string ⟨(l.take k).toArray⟩) w:=by
 have hs:(⟨l.toArray⟩:ByteArray).size=l.length:=bu l;rw[run_slice_string_to_if (h:=Tryz.underlying9),if_pos ⟨by omega,by rw[hs];omega⟩];rw[Int.toNat_natCast,ByteArray.extract_mk,List.drop_zero,Nat.sub_zero]
theorem y7 {w':World} {b:Nat} {nm:J.B} {size:Nat} {kv:Value} (h:w'.heap[b]? =some (ia nm size kv)):∀j,w'.cell? ⟨b,j,none⟩=(#[.string ⟨nm.toArray⟩, .int .i64 size,kv]:Array Value)[j]? :=fun j=>ag w' b j _ _ _ h
theorem rR (nm:J.B) (size g c:Nat) (ks:List X.Ky) (i:Nat) (x:J.B) (w:World) (hk:eY w g ks) (hi:i<ks.length) (h8:ks.length≤256) (hn:nm.length≤1000) (hx:X.lens ks i≤x.length) (Fs:x.length≤10000):
  Calls Tryz.prog 51 #[mq nm size (.slice (some ⟨g,0,none⟩) ks.length c), .int .i64 (i:Nat), .string ⟨(X.pre nm i++x).toArray⟩] w fun e w'=>e= .returned (.string ⟨(x.take (X.lens ks i)).toArray⟩)∧Below w.heap.size w w':=by
 have hpl:=X.kt nm i;have jB:=hk.below ((ai _ w).alloc (aj _) (ia nm size (.slice (some ⟨g,0,none⟩) ks.length c)));have hb1:=heap_alloc_new w (ia nm size (.slice (some ⟨g,0,none⟩) ks.length c));have HB:=aa ((ai _ w).alloc (aj _) (ia nm size (.slice (some ⟨g,0,none⟩) ks.length c)));have HP:=aa (fun w=>aZ nm size (some ⟨g,0,none⟩) ks.length c i (by omega) hn w);have hs1:(⟨(X.pre nm i).toArray⟩:ByteArray).size=(X.pre nm i).length:=bu _;have hf:=kB (X.pre nm i++x) (X.pre nm i).length (by rw[List.length_append];omega);rw[List.drop_left]at hf;have ht:=rQ x (X.lens ks i) hx;have hc3:(X.aF ks i).len=X.lens ks i:=rfl;have Fw:(i:Int)<(ks.length:Int):=by omega
 have Kg:(0:Int)≤(i:Int):=by omega
 generalize X.lens ks i=L at hx ht hc3⊢;generalize(⟨(x.take L).toArray⟩:ByteArray)=R at ht⊢;generalize(⟨(X.pre nm i++x).toArray⟩:ByteArray)=E at hf⊢;generalize(⟨x.toArray⟩:ByteArray)=XS at hf ht;generalize(⟨(X.pre nm i).toArray⟩:ByteArray)=P at hs1 HP;generalize(X.pre nm i).length=pl at hs1 hf hpl;clear hk hx Fs;go_enter Tryz.func51,Tryz.ntmps51;go_upto_region 1 with fail;refine aA 12 (.rd 0 (.rd 1 (.rd 2 (.rd 6 (.rd 7 (.rd 8 (.rd 9 (.rd 10 (.rd 11 (.wr 3 (.rd 4 (.rd 5 .fin)))))))))))) (fun w'=>eY w' g ks∧w'.heap[w.heap.size]? =some (ia nm size (.slice (some ⟨g,0,none⟩) ks.length c))) (by kernel_rfl) (by kernel_rfl) (fun c a d v w h=>by cases d<;>exact h) ⟨jB,hb1⟩ ?_;repeat
  refine aw (v:= ?_) (by rfl) (by rfl) (fun w' hS=> ?_) (fun K hK=> ?_);rotate_left
  ·have hc:=y7 hS.2;have hl:=hS.1.len hi;rw[hc3]at hl;clear hS;go_simp;try with_reducible rfl
  go_simp;refine hK _ ?_;clear hK K
 refine wpPm_write (by rfl) (fun K hK=> ?_);go_simp;refine(HP.out _).mono ?_;rintro e w1 ⟨rfl,hb⟩;have PY:Below w.heap.size w w1:=HB.out.drew.trans (hb.mono HB.out.size);refine hK.out _ _ (fun w'=>eY w' g ks∧w'.heap[w.heap.size]? =some (ia nm size (.slice (some ⟨g,0,none⟩) ks.length c))) (fun _ h=>h) ⟨jB.below (((ai _ _).drew).trans hb),(hb.block w.heap.size (by simp)).trans hb1⟩ ?_;clear hK K;have TI:=aa PY;clear PY hb HB HP;repeat
  refine aw (v:= ?_) (by rfl) (by rfl) (fun w' hS=> ?_) (fun K hK=> ?_);rotate_left
  ·clear hS;go_simp;try with_reducible rfl
  go_simp;refine hK _ ?_;clear hK K
 show wpList _ _ _ _ _ _;go_wp2;go_ret;exact⟨rfl,TI.out⟩
structure sw (w:World) (g o n:Nat) (a l:Nat→Int) (d:Nat→Bool):Prop where
 lt:g<w.heap.size
 a:∀i,i<n→w.cell? ⟨g,o+i*3,none⟩=some (.int .i64 (a i))
 l:∀i,i<n→w.cell? ⟨g,o+i*3+1,none⟩=some (.int .i64 (l i))
 d:∀i,i<n→w.cell? ⟨g,o+i*3+2,none⟩=some (.bool (d i))
theorem eY.z {w:World} {g:Nat} {ks:List X.Ky} (h:eY w g ks):sw w g 0 ks.length (fun i=>((X.aF ks i).at_:Nat)) (fun i=>((X.aF ks i).len:Nat)) (fun i=>(X.aF ks i).dup):=
 ⟨h.1,fun _ hi=>by rw[Nat.zero_add];exact h.at_ hi,fun _ hi=>by rw[Nat.zero_add];exact h.len hi,fun _ hi=>by rw[Nat.zero_add];exact h.dup hi⟩
theorem sw.below {w w':World} {g o n:Nat} {a l:Nat→Int} {d:Nat→Bool} (h:sw w g o n a l d) (hb:Below w.heap.size w w'):sw w' g o n a l d:=
 ⟨aq h.lt hb.size,fun i hi=>(hb.cell (p:=⟨g,o+i*3,none⟩) h.lt).trans (h.a i hi),fun i hi=>(hb.cell (p:=⟨g,o+i*3+1,none⟩) h.lt).trans (h.l i hi),fun i hi=>(hb.cell (p:=⟨g,o+i*3+2,none⟩) h.lt).trans (h.d i hi)⟩
theorem vu (g o n c:Nat) (a l:Nat→Int) (d:Nat→Bool) (p:Nat→Bool) (f:Nat) (w8:Array Value) (w:World) (hk:sw w g o n a l d) (hn:n≤1000) (he:∀xs w,(callFunc f xs).run Tryz.prog w= .ok (.enter f xs) w)
  (hf:∀i w1,i<n→Below w.heap.size w w1→Calls Tryz.prog f (#[.agg #[.int .i64 (a i), .int .i64 (l i), .bool (d i)]]++w8) w1 fun e w'=>e= .returned (.bool (p i))∧Below w1.heap.size w1 w'):
  Calls Tryz.prog 123 #[.slice (some ⟨g,o,none⟩) n c, .func (.func f) #[] w8] w fun e w'=>∃r:Int,e= .returned (.int .i64 r)∧decide (0≤r)=(List.range n).any p∧Below w.heap.size w w':=by
 have HF:=aa hf;have HK:=aa hk;have HE:=aa he;clear hf hk he;go_enter Tryz.func123,Tryz.ntmps123;go_wp2_with fail;go_loopw [8] (fun i W=>∃k:Nat,k≤n∧i= .int .i64 k∧Hid (Below w.heap.size w W∧∀j,j<k→p j=false)) (fun i _=>n - (intOf i).toNat)
 case atStart=>exact⟨0,Nat.zero_le _,rfl,aa ⟨ai _ _,fun j hj=>by omega⟩⟩
 case round=>
  obtain⟨k,hk,rfl,HI⟩:=hrel;by_cases hlt:k<n
  ·have Sn:=HK.out.below HI.out.1;have h1:=Sn.a k hlt;have h2:=Sn.l k hlt;have h3:=Sn.d k hlt;have HC:=aa (HF.out k wr hlt HI.out.1);have he:=HE.out;have a7:=aa hlt;clear Sn;cases hp:p k with
   |false=>
    rw[hp]at HC;go_wp2_with fail;refine HC.out.mono ?_;rintro e w2 ⟨rfl,hb⟩;have HJ:Hid (Below w.heap.size w w2∧∀j,j<k+1→p j=false):=aa ⟨HI.out.1.trans (hb.mono HI.out.1.size),fun j hj=>by
     by_cases e:j=k
     ·rw[e];exact hp
     ·exact HI.out.2 j (by omega)⟩
    clear hb HC HI h1 h2 h3 hp;go_wp2;go_roundw
    case rel=>exact⟨k+1,a7.out,by go_num,HJ⟩
    case measure=>have h1:=a7.out;simp[intOf];omega
   |true=>
    rw[hp]at HC;go_wp2_with fail;refine HC.out.mono ?_;rintro e w2 ⟨rfl,hb⟩;have HB:=aa (HI.out.1.trans (hb.mono HI.out.1.size));have HP:=aa hp;clear hb HC HI h1 h2 h3 hp;go_wp2;go_ret;refine⟨_,rfl, ?_,HB.out⟩;rw[decide_eq_true (by omega)];exact(List.any_eq_true.2 ⟨k,List.mem_range.2 a7.out,HP.out⟩).symm
  ·obtain rfl:k=n:=(by omega);have HB:=aa HI.out;clear HI;go_wp2;go_ret;refine⟨_,rfl, ?_,HB.out.1⟩;rw[decide_eq_false (by omega)];exact(List.any_eq_false.2 (fun x hx=>by rw[HB.out.2 x (List.mem_range.1 hx)];decide)).symm
theorem mr (g o n c:Nat) (a l:Nat→Int) (d:Nat→Bool) (p:Nat→Bool) (f:Nat) (w8:Array Value) (w:World) (hk:sw w g o n a l d) (hn:n≤1000) (he:∀xs w,(callFunc f xs).run Tryz.prog w= .ok (.enter f xs) w)
  (hf:∀i w1,i<n→Below w.heap.size w w1→Calls Tryz.prog f (#[.agg #[.int .i64 (a i), .int .i64 (l i), .bool (d i)]]++w8) w1 fun e w'=>e= .returned (.bool (p i))∧Below w1.heap.size w1 w'):
  Calls Tryz.prog 93 #[.slice (some ⟨g,o,none⟩) n c, .func (.func f) #[] w8] w fun e w'=>e= .returned (.bool ((List.range n).any p))∧Below w.heap.size w w':=by
 have HI:=aa (vu g o n c a l d p f w8 w hk hn he hf);clear hf hk he;go_enter Tryz.func93,Tryz.ntmps93;go_wp2_with fail;refine HI.out.mono ?_;rintro e w1 ⟨r,rfl,hr,hb⟩;have HR:=aa hr;have HB:=aa hb;clear hr hb HI;go_wp2;go_ret;exact⟨by rw[←HR.out];rfl,HB.out⟩
def rp (z a l:Int):Bool:=decide (a<0)||decide (l<1)||decide (160<l)||decide (z - l<a)
theorem Bx (B:Nat) (nm:J.B) (z:Int) (kv:Value) (a l:Int) (d:Bool) (hz:1≤z∧z≤4096) (w:World) (hB:w.heap[B]? =some (.cells #[.string ⟨nm.toArray⟩, .int .i64 z,kv] 29 (0,0))):
  Calls Tryz.prog 94 #[.agg #[.int .i64 a, .int .i64 l, .bool d], .pointer (some ⟨B,0,none⟩)] w fun e w'=>e= .returned (.bool (rp z a l))∧Below w.heap.size w w':=by
 have hlt:=(ah hB).1;have hb1:Below w.heap.size w (w.alloc (.cells #[.int .i64 a, .int .i64 l, .bool d] 66)):=(ai _ w).alloc (aj _) _;have hc:=ag (w.alloc (.cells #[.int .i64 a, .int .i64 l, .bool d] 66)) B 1 _ _ _ ((hb1.block B hlt).trans hB);have HB:=aa hb1;clear hB hb1;unfold rp;by_cases h1:a<0
 ·rw[decide_eq_true h1];go_enter Tryz.func94,Tryz.ntmps94;go_wp2;go_ret;exact⟨rfl,HB.out⟩
 ·rw[decide_eq_false h1];by_cases h2:l<1
  ·rw[decide_eq_true h2];go_enter Tryz.func94,Tryz.ntmps94;go_wp2;go_ret;exact⟨rfl,HB.out⟩
  ·rw[decide_eq_false h2];by_cases h3:160<l
   ·rw[decide_eq_true h3];go_enter Tryz.func94,Tryz.ntmps94;go_wp2;go_ret;exact⟨rfl,HB.out⟩
   ·rw[decide_eq_false h3];have hw:wrap64 (z - l)=z - l:=IntWalk.wrap64_in _ (by omega);go_enter Tryz.func94,Tryz.ntmps94;go_wp2;go_ret;exact⟨rfl,HB.out⟩
def ov (nm:J.B) (z:Int) (n:Nat) (a l:Nat→Int) (d:Nat→Bool):Bool:=
 !(decide (nm=[])||decide (100<nm.length)||decide (0≤Lib.indexByte nm 0)||decide (z<1)||decide (4096<z)||decide (n<1)||decide (8<n)||d 0)&& !(List.range n).any fun i=>rp z (a i) (l i)
theorem Bz {nm:J.B} (h:nm≠[]):nm.isEmpty=false:=by cases nm<;>first|(exact absurd rfl h)|rfl
theorem GV {x:J.B} (h:x≠[]):((⟨x.toArray⟩:ByteArray).toList==[])=false:=by
 rw[ByteArray.toList_eq]
 simpa using h
theorem uf (nm:J.B) (z:Int) (A:Option Addr) (g o n c:Nat) (a l:Nat→Int) (d:Nat→Bool) (w:World) (hA:0<n→A=some ⟨g,o,none⟩∧sw w g o n a l d) (lf:nm.length≤1000) (hn:n≤1000):
  Calls Tryz.prog 37 #[.agg #[.string ⟨nm.toArray⟩, .int .i64 z, .slice A n c]] w fun e w'=>e= .returned (.bool (ov nm z n a l d))∧Below w.heap.size w w':=by
 have HB:=aa ((ai _ w).alloc (aj _) (.cells #[.string ⟨nm.toArray⟩, .int .i64 z, .slice A n c] 29 (0,0)));have HC:=aa (fun W=>Tryz.strings_Contains_one ⟨nm.toArray⟩ 0 W);have e0:(⟨nm.toArray⟩:ByteArray).data.toList=nm:=rfl;rw[e0]at HC;have hsz:(⟨nm.toArray⟩:ByteArray).size=nm.length:=bu nm;unfold ov;by_cases h1:nm=[]
 ·subst h1;clear hA;go_enter Tryz.func37,Tryz.ntmps37;go_wp2;go_ret;exact⟨rfl,HB.out⟩
 ·rw[decide_eq_false h1];have hne:((⟨nm.toArray⟩:ByteArray).toList==[])=false:=GV h1;have ZB:=Bz h1;by_cases h2:100<nm.length
  ·rw[decide_eq_true h2];have i2:(100:Int)<(nm.length:Nat):=(by omega);clear hA;go_enter Tryz.func37,Tryz.ntmps37;go_wp2;go_ret;exact⟨rfl,HB.out⟩
  ·rw[decide_eq_false h2];have i2:¬(100:Int)<(nm.length:Nat):=(by omega);by_cases h3:0≤Lib.indexByte nm 0
   ·rw[decide_eq_true h3]at HC⊢;clear hA;go_enter Tryz.func37,Tryz.ntmps37;go_wp2_with fail;refine(HC.out _).mono ?_;rintro e w1 ⟨rfl,rfl⟩;clear HC;go_wp2;go_ret;exact⟨rfl,HB.out⟩
   ·rw[decide_eq_false h3]at HC⊢;by_cases h4:z<1
    ·rw[decide_eq_true h4];have i4:decide (z<1)=true:=decide_eq_true h4;clear hA;go_enter Tryz.func37,Tryz.ntmps37;go_wp2_with fail;refine(HC.out _).mono ?_;rintro e w1 ⟨rfl,rfl⟩;clear HC;go_wp2;go_ret;exact⟨rfl,HB.out⟩
    ·rw[decide_eq_false h4];have i4:decide (z<1)=false:=decide_eq_false h4;by_cases h5:4096<z
     ·rw[decide_eq_true h5];have i5:decide (4096<z)=true:=decide_eq_true h5;clear hA;go_enter Tryz.func37,Tryz.ntmps37;go_wp2_with fail;refine(HC.out _).mono ?_;rintro e w1 ⟨rfl,rfl⟩;clear HC;go_wp2;go_ret;exact⟨rfl,HB.out⟩
     ·rw[decide_eq_false h5];have i5:decide (4096<z)=false:=decide_eq_false h5;by_cases h6:n<1
      ·rw[decide_eq_true h6];have i6:(n:Int)<1:=(by omega);clear hA;go_enter Tryz.func37,Tryz.ntmps37;go_wp2_with fail;refine(HC.out _).mono ?_;rintro e w1 ⟨rfl,rfl⟩;clear HC;go_wp2;go_ret;exact⟨rfl,HB.out⟩
      ·rw[decide_eq_false h6];have i6:¬(n:Int)<1:=(by omega);by_cases h7:8<n
       ·rw[decide_eq_true h7];have i7:(8:Int)<(n:Nat):=(by omega);clear hA;go_enter Tryz.func37,Tryz.ntmps37;go_wp2_with fail;refine(HC.out _).mono ?_;rintro e w1 ⟨rfl,rfl⟩;clear HC;go_wp2;go_ret;exact⟨rfl,HB.out⟩
       ·rw[decide_eq_false h7];have i7:¬(8:Int)<(n:Nat):=(by omega);obtain⟨rfl,hk⟩:=hA (by omega);have jB:=hk.below ((ai _ w).alloc (aj _) (.cells #[.string ⟨nm.toArray⟩, .int .i64 z, .slice (some ⟨g,o,none⟩) n c] 29 (0,0)));have hd:=jB.d 0 (by omega);rw[Nat.zero_mul,Nat.add_zero]at hd;have n0:(0:Int)<(n:Nat):=(by omega);cases h8:d 0 with
        |true=>
         rw[h8]at hd;clear hk jB;go_enter Tryz.func37,Tryz.ntmps37;go_wp2_with fail;refine(HC.out _).mono ?_;rintro e w1 ⟨rfl,rfl⟩;clear HC;go_wp2;go_ret;exact⟨rfl,HB.out⟩
        |false=>
         rw[h8]at hd;have HF:=aa (mr g o n c a l d (fun i=>rp z (a i) (l i)) 94 #[.pointer (some ⟨w.heap.size,0,none⟩)] _ jB hn (enters_of Tryz.func94 (by kernel_rfl) rfl)
          (fun i w1 hi hb=>Bx w.heap.size nm z (.slice (some ⟨g,o,none⟩) n c) (a i) (l i) (d i) (by omega) w1 ((hb.block w.heap.size (by simp)).trans (heap_alloc_new w _))))
         clear hk jB;go_enter Tryz.func37,Tryz.ntmps37;go_wp2_with fail;refine(HC.out _).mono ?_;rintro e w1 ⟨rfl,rfl⟩;clear HC;go_wp2_with fail;refine HF.out.mono ?_;rintro e w1 ⟨rfl,hb⟩;have bB:=aa (HB.out.trans (hb.mono HB.out.size));clear hb HF HB;go_wp2;go_ret;first|exact⟨rfl,bB.out⟩|exact⟨by simp,bB.out⟩
theorem D6 (B:Nat) (A:Option Addr) (m c:Nat) (a l:Int) (d:Bool) (ha:0≤a∧a≤10000) (hl:0≤l∧l≤10000) (w:World) (hB:w.heap[B]? =some (.cells #[.slice A m c] 40 (0,0))):
  Calls Tryz.prog 104 #[.agg #[.int .i64 a, .int .i64 l, .bool d], .pointer (some ⟨B,0,none⟩)] w fun e w'=>e= .returned (.bool (decide ((m:Int)<a+l)))∧Below w.heap.size w w':=by
 have hlt:=(ah hB).1;have hb1:Below w.heap.size w (w.alloc (.cells #[.int .i64 a, .int .i64 l, .bool d] 66)):=(ai _ w).alloc (aj _) _;have hc:=ag (w.alloc (.cells #[.int .i64 a, .int .i64 l, .bool d] 66)) B 0 _ _ _ ((hb1.block B hlt).trans hB);have HB:=aa hb1;have hw:wrap64 (a+l)=a+l:=IntWalk.wrap64_in _ (by omega);clear hB hb1;go_enter Tryz.func104,Tryz.ntmps104;go_wp2;go_ret;exact⟨rfl,HB.out⟩
theorem BA (ks:List X.Ky) (m:Nat):(List.range ks.length).any (fun i=>decide ((m:Int)<((X.aF ks i).at_:Nat)+((X.aF ks i).len:Nat)))= !(ks.all fun k=>decide (k.at_+k.len≤m)):=by
 rw[Bool.eq_iff_iff,List.any_eq_true];simp only[Bool.not_eq_true',List.all_eq_false,decide_eq_true_eq,decide_eq_false_iff_not,List.mem_range];constructor
 ·rintro⟨i,hi,h⟩;exact⟨_,X.aR hi,by omega⟩
 ·rintro⟨k,hk,h⟩;obtain⟨i,hi,rfl⟩:=List.mem_iff_getElem.1 hk;refine⟨i,hi, ?_⟩;have:X.aF ks i=ks[i]:=(by unfold X.aF;simp[hi]);rw[this];omega
theorem fT (nm:J.B) (size g c:Nat) (ks:List X.Ky) (A:Option Addr) (m cb:Nat) (w:World) (hk:eY w g ks) (hn:ks.length≤1000) (bh:∀k∈ks,k.at_≤10000∧k.len≤10000) (b:J.B) (hm:b.length=m):
  Calls Tryz.prog 54 #[mq nm size (.slice (some ⟨g,0,none⟩) ks.length c), .slice A m cb] w fun e w'=>e= .returned (.bool (X.bg ks size b))∧Below w.heap.size w w':=by
 have hb1:Below w.heap.size w (w.alloc (ia nm size (.slice (some ⟨g,0,none⟩) ks.length c))):=(ai _ w).alloc (aj _) _;have hb2:Below w.heap.size w ((w.alloc (ia nm size (.slice (some ⟨g,0,none⟩) ks.length c))).alloc (.cells #[.slice A m cb] 40 (0,0))):=hb1.alloc hb1.size _;have HB:=aa hb2;have hk2:=(hk.below hb2).z;have b6:((w.alloc (ia nm size (.slice (some ⟨g,0,none⟩) ks.length c))).alloc (.cells #[.slice A m cb] 40 (0,0))).heap[w.heap.size+1]? =some (.cells #[.slice A m cb] 40 (0,0)):=by
  have:=heap_alloc_new (w.alloc (ia nm size (.slice (some ⟨g,0,none⟩) ks.length c))) (.cells #[.slice A m cb] 40 (0,0));rw[World.size_alloc]at this;exact this
 unfold X.bg;rw[hm];by_cases h1:m≤size
 ·rw[decide_eq_true h1];have i1:(m:Int)≤(size:Nat):=(by omega);have HF:=aa (mr g 0 ks.length c _ _ _ (fun i=>decide ((m:Int)<((X.aF ks i).at_:Nat)+((X.aF ks i).len:Nat))) 104 #[.pointer (some ⟨w.heap.size+1,0,none⟩)] _ hk2 hn (enters_of Tryz.func104 (by kernel_rfl) rfl)
   (fun i w1 hi hb=>by
    have:=bh _ (X.aR hi);exact D6 (w.heap.size+1) A m cb _ _ _ (by omega) (by omega) w1 ((hb.block (w.heap.size+1) (by simp)).trans b6)))
  rw[BA]at HF;generalize(ks.all fun k=>decide (k.at_+k.len≤m))=r at HF⊢;clear hk hk2 b6 hb1 hb2;go_enter Tryz.func54,Tryz.ntmps54;go_wp2_with fail;refine HF.out.mono ?_;rintro e w1 ⟨rfl,hb⟩;have bB:=aa (HB.out.trans (hb.mono HB.out.size));clear hb HF HB;go_wp2;go_ret;first|exact⟨rfl,bB.out⟩|exact⟨by simp,bB.out⟩
 ·rw[decide_eq_false h1];have i1:¬(m:Int)≤(size:Nat):=(by omega);clear hk hk2 b6 hb1 hb2;go_enter Tryz.func54,Tryz.ntmps54;go_wp2;go_ret;exact⟨rfl,HB.out⟩
theorem D7 (g c:Nat) (l:List Nat) (m:Nat) (w:World) (hg:∀j (h:j<l.length),w.cell? ⟨g,j,none⟩=some (.int .u8 (l[j]:Nat))) (hl:l.length≤10):
  Calls Tryz.prog 103 #[.slice (some ⟨g,0,none⟩) l.length c, .int .u8 (m:Nat)] w fun e w'=>e= .returned (.bool (decide (m∈l)))∧w=w':=by
 have HI:Calls Tryz.prog 135 #[.slice (some ⟨g,0,none⟩) l.length c, .int .u8 (m:Nat)] w fun e w'=>∃r:Int,e= .returned (.int .i64 r)∧decide (0≤r)=decide (m∈l)∧w=w':=by
  generalize xa:l.length=n at hl⊢;have HG:=aa hg;clear hg;go_enter Tryz.func135,Tryz.ntmps135;go_wp2_with fail;go_loopw [8] (fun i W=>∃k:Nat,k≤n∧i= .int .i64 k∧W=w∧∀j (h:j<l.length),j<k→l[j]≠m) (fun i _=>n - (intOf i).toNat)
  case atStart=>exact⟨0,Nat.zero_le _,rfl,rfl,fun j _ hj=>by omega⟩
  case round=>
   obtain⟨k,hk,rfl,rfl,hI⟩:=hrel;by_cases hlt:k<n
   ·have hc:=HG.out k (by omega);have hlk:k<l.length:=(by omega);generalize hx:l[k]=x at hc;have a7:=aa hlt;by_cases hm:m=x
    ·subst hm;have HX:Hid (m∈l):=aa (hx▸List.getElem_mem hlk);clear hI hx;go_wp2;go_ret;exact⟨_,rfl,by rw[decide_eq_true HX.out,decide_eq_true (by omega)],by first|rfl|trivial⟩
    ·have Sd:¬(m:Int)=(x:Nat):=(by omega);have HJ:Hid (∀j (h:j<l.length),j<k+1→l[j]≠m):=aa (fun j h hj=>by
      by_cases e:j=k
      ·subst e;rw[hx];exact fun e=>hm e.symm
      ·exact hI j h (by omega))
     clear hI hx;go_wp2;go_roundw
     case rel=>exact⟨k+1,a7.out,by go_num,by first|rfl|trivial,HJ.out⟩
     case measure=>have h1:=a7.out;simp[intOf];omega
   ·obtain rfl:k=n:=(by omega);have HX:Hid (m∉l):=aa (fun h=>by
     obtain⟨j,hj,e⟩:=List.mem_iff_getElem.1 h;exact hI j hj (by omega) e)
    clear hI;go_wp2;go_ret;exact⟨_,rfl,by rw[decide_eq_false HX.out,decide_eq_false (by omega)],by first|rfl|trivial⟩
 have HI:=aa HI;clear hg;go_enter Tryz.func103,Tryz.ntmps103;go_wp2_with fail;refine HI.out.mono ?_;rintro e w1 ⟨r,rfl,hr,rfl⟩;have HR:=aa hr;clear hr HI;go_wp2;go_ret;exact⟨by rw[←HR.out];rfl,rfl⟩
end Go.Proofs.YtipljcmmokaokaaGreat
