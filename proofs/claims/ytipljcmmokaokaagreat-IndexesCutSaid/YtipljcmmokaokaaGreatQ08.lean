import Derived.Test.YtipljcmmokaokaaGreatQ07
set_option linter.unusedVariables false
set_option linter.unusedSimpArgs false
set_option maxHeartbeats 2000000
namespace Go.Proofs.YtipljcmmokaokaaGreat
open Go.RowKit Go.Lib Go.Maps Go.WideMaps Go.Sort
set_option maxRecDepth 100000
theorem Uv (k:J.B) (h:k≠[]):(⟨k.toArray⟩:ByteArray).toList≠[]:=by rw[ByteArray.toList_eq];simpa using h
theorem bm (k:J.B):(⟨k.toArray⟩:ByteArray).size=k.length:=by simp[ByteArray.size]
namespace J
structure WOk (s:St):Prop where
 sum:s.logged=(s.writes.map λw=>w.bs.length).sum
 wr:∀w∈s.writes,w.kind<=2/\w.idx<=1/\(w.kind≠1->0<w.bs.length)
 h0:s.base.h0.length<=8388608
 h1:s.base.h1.length<=8388608
 a0:s.base.a0.length<=8388608
 a1:s.base.a1.length<=8388608
end J
theorem yv (p:Nat) (M:Nat->Prop) (s:J.St) (w:World) (h:br w p M s) (c:s.opn=true) (f:s.spoilt=false) (d:wJ s s.was) (b:s.commits+1<4294967296) (g:s.area<=1) (a:(s.disk.area s.area).length+(J.record 0 (s.commits+1) s.changes).length<=4194304):
  Calls Tryz.prog 98 #[.pointer (some ⟨p,0,none⟩)] w λe w'=>e= .returned (.tuple #[.int .i64 (J.dz s).2.1, .int .i64 (J.dz s).2.2])/\∃M',br w' p M' (J.dz s).1/\Step M M' w w':=by
 by_cases h0:s.area=0
 ·exact DI p M s w h c f d b h0 (by rw[rk h0]at a;exact a)
 ·have h1:s.area=1:=(by omega);exact DJ p M s w h c f d b h1 (by rw[rp h1]at a;exact a)
def Kp (w0:World) (M:Nat->Prop) (fs:List (Nat×Obj)) (w:World):Prop:=∀x∈fs,w0.heap.size<=x.1/\¬M x.1/\w.heap[x.1]? =some x.2
def At (w0:World) (p:Nat) (fs:List (Nat×Obj)) (s:J.St) (w:World):Prop:=∃M,br w p M s/\(∀k,M k->w0.heap.size<=k/\k<w.heap.size)/\Below w0.heap.size w0 w/\Kp w0 M fs w
section
variable {w0 w w' : World} {p : Nat} {s s' : J.St} {fs : List (Nat × Obj)}
theorem At.bel (h:At w0 p fs s w):Below w0.heap.size w0 w:=h.elim λ_ h=>h.2.2.1
theorem At.get (h:At w0 p fs s w) {x:Nat×Obj} (a:x∈fs):w.heap[x.1]? =some x.2:=h.elim λ_ h=>(h.2.2.2 x a).2.2
theorem At.below (h:At w0 p fs s w) (b:Below w.heap.size w w'):At w0 p fs s w':=by
 obtain⟨M,h1,d,e,a⟩:=h;exact⟨M,h1.below b,λk f=>⟨(d k f).1,av (d k f).2 b.size⟩,e.trans (b.mono e.size),λx c=>⟨(a x c).1,(a x c).2.1,(b.block x.1 (ai (a x c).2.2).1).trans (a x c).2.2⟩⟩
theorem At.step {M M':Nat->Prop} (h1:∀k,M k->w0.heap.size<=k/\k<w.heap.size) (a:Below w0.heap.size w0 w/\Kp w0 M fs w) (hst:br w' p M' s') (c:Step M M' w w'):At w0 p fs s' w':=by
 obtain⟨a,g⟩:=a;refine⟨λk=>M' k/\k<w'.heap.size,hst.cap,λk b=>⟨?_,b.2⟩,np a (c.below a.size (λk b=>(h1 k b).1)),λx j=> ?_⟩
 ·by_cases i:k<w.heap.size
  ·exact(h1 k (c.sub k i b.1)).1
  ·have:=a.size;omega
 ·obtain⟨g1,d,e⟩:=g x j;have f:=(ai e).1;exact⟨g1,λh=>d (c.sub x.1 f h.1),(c.block x.1 f d).trans e⟩
theorem At.less {gs:List (Nat×Obj)} (h:At w0 p fs s w) (d:∀x∈gs,x∈fs):At w0 p gs s w:=by
 obtain⟨M,h1,a,b,c⟩:=h;exact⟨M,h1,a,b,λx e=>c x (d x e)⟩
theorem At.more (h:At w0 p fs s w) (o:Obj):At w0 p ((w.heap.size,o)::fs) s (w.alloc o):=by
 have i:=h.below ((ak _ w).alloc (aq _) o);obtain⟨M,h1,d,e,b⟩:=h;have c:Below w.heap.size w (w.alloc o):=(ak _ w).alloc (aq _) o;refine⟨M,h1.below c,λk f=>⟨(d k f).1,av (d k f).2 c.size⟩,e.trans (c.mono e.size),λx a=> ?_⟩;rcases au a with rfl|a
 ·exact⟨e.size,λg=>by have:=(d _ g).2;simp at this,heap_alloc_new _ _⟩
 ·exact⟨(b x a).1,(b x a).2.1,(c.block x.1 (ai (b x a).2.2).1).trans (b x a).2.2⟩
theorem At.add (h:At w0 p fs s w) (c:Below w.heap.size w w') {gs:List (Nat×Obj)} (f:∀x∈gs,w.heap.size<=x.1/\w'.heap[x.1]? =some x.2):At w0 p (gs++fs) s w':=by
 obtain⟨M,h1,d,e,b⟩:=h;refine⟨M,h1.below c,λk g=>⟨(d k g).1,av (d k g).2 c.size⟩,e.trans (c.mono e.size),λx a=> ?_⟩;rcases List.mem_append.1 a with a|a
 ·exact⟨aw e.size (f x a).1,λi=>by have:=(d _ i).2;have:=(f x a).1;omega,(f x a).2⟩
 ·exact⟨(b x a).1,(b x a).2.1,(c.block x.1 (ai (b x a).2.2).1).trans (b x a).2.2⟩
theorem At.turn {b:Nat} {o o':Obj} (h:At w0 p ((b,o)::fs) s w) (m:∀x∈fs,x.1≠b) (r:J.Two s) (n:uF w b) (a:w.grownBy w' (some b)) (q:w'.heap[b]? =some o'):At w0 p ((b,o')::fs) s w':=by
 obtain⟨M,h1,f,g,i⟩:=h;obtain⟨g1,d,v⟩:=i _ af;refine⟨M,h1.oth r (Ai.bg a (λk e=>by injection e with e;subst e;exact⟨d,n⟩)),λk j=>⟨(f k j).1,av (f k j).2 a.size⟩,g.grown a g.size (λk e=>by injection e with e;subst e;exact g1),λx c=> ?_⟩;rcases au c with rfl|c
 ·exact⟨g1,d,q⟩
 ·obtain⟨t,u,l⟩:=i x (ag _ c);exact⟨t,u,(a.block x.1 (ai l).1 (λe=>m x c (by injection e))).trans l⟩
theorem PG (w0 w:World) (a:Below w0.heap.size w0 w):Calls Tryz.prog 9 #[] w λe w'=>∃p,e= .returned (.pointer (some ⟨p,0,none⟩))/\At w0 p [] J.new w':=by
 refine(JC w).mono ?_;rintro e w' ⟨p,M,rfl,hst,c,d⟩;exact⟨p,rfl,λk=>M k/\k<w'.heap.size,hst.cap,λk b=>⟨aw a.size (c k b.1),b.2⟩,a.trans (d.mono a.size),λx f=>by cases f⟩
theorem DK (h:At w0 p fs s w) (c:s.opn=false):Calls Tryz.prog 35 #[.pointer (some ⟨p,0,none⟩)] w λe w'=>e= .returned (.int .i64 0)/\At w0 p fs (J.cW s) w':=by
 obtain⟨M,h1,a,b⟩:=h;refine(KY p M s w h1 c).mono ?_;rintro e w' ⟨rfl,M',hst,d⟩;exact⟨rfl,At.step a b hst d⟩
theorem wL (h:At w0 p fs s w) (i:s.opn=true) (k val:J.B) (v:Value) (f:k≠[]) (d:k.length<=300) (g:val.length<=8192) (m:Sl w bE v val) (r:Int) (j:J.add s ⟨k,val,false⟩=(s',r)):
  Calls Tryz.prog 49 #[.pointer (some ⟨p,0,none⟩), .string ⟨k.toArray⟩,v] w λe w'=>e= .returned (.int .i64 r)/\At w0 p fs s' w':=by
 obtain⟨M,h1,b,c⟩:=h;have a:=ZB p M s ⟨k.toArray⟩ v val w h1 i (Uv k f) (by rw[bm];exact d) g bE m;rw[show(⟨k.toArray⟩:ByteArray).data.toList=k from rfl,j]at a;refine a.mono ?_;rintro e w' ⟨rfl,M',hst,l⟩;exact⟨rfl,At.step b c hst l⟩
theorem at_delete (h:At w0 p fs s w) (k:J.B) (d:k.length<=1000) (r:Int) (f:J.delete s k=(s',r)):
  Calls Tryz.prog 48 #[.pointer (some ⟨p,0,none⟩), .string ⟨k.toArray⟩] w λe w'=>e= .returned (.int .i64 r)/\At w0 p fs s' w':=by
 obtain⟨M,h1,b,c⟩:=h;have a:=Gm p M s ⟨k.toArray⟩ w h1 (by rw[bm];exact d);rw[show(⟨k.toArray⟩:ByteArray).data.toList=k from rfl,f]at a;refine a.mono ?_;rintro e w' ⟨rfl,M',hst,g⟩;exact⟨rfl,At.step b c hst g⟩
theorem Lx (h:At w0 p fs s w) (j:s.opn=true) (l:s.spoilt=false) (a:wJ s s.was) (g:s.commits+1<4294967296) (f:s.area<=1) (i:(s.disk.area s.area).length+(J.record 0 (s.commits+1) s.changes).length<=4194304) (n r:Int) (k:J.dz s=(s',n,r)):
  Calls Tryz.prog 98 #[.pointer (some ⟨p,0,none⟩)] w λe w'=>e= .returned (.tuple #[.int .i64 n, .int .i64 r])/\At w0 p fs s' w':=by
 obtain⟨M,h1,c,d⟩:=h;have b:=yv p M s w h1 j l a g f i;rw[k]at b;refine b.mono ?_;rintro e w' ⟨rfl,M',hst,a⟩;exact⟨rfl,At.step c d hst a⟩
theorem ie (h:At w0 p fs s w) (pre:ByteArray) (i:s.now.length<=1000000):
  Calls Tryz.prog 47 #[.pointer (some ⟨p,0,none⟩), .string pre] w λe w'=>∃A,e= .returned (.slice A (keysOf s.now pre).length (keysOf s.now pre).length)/\gX w' A (keysOf s.now pre)/\At w0 p fs s w'/\Below w.heap.size w w'/\(∀g,A=some ⟨g,0,none⟩->w.heap.size<=g):=by
 have b:=h;obtain⟨M,h1,d,f⟩:=h;refine(Pj p pre M s w h1 (by omega)).mono ?_;rintro e w' ⟨A,rfl,hst,c,a⟩;exact⟨A,rfl,hst,b.below a,a,λg e=>c g (by subst e;rfl)⟩
theorem fF (h:At w0 p fs s w) (k:J.B) (i:k.length<=1000) (c:∀l,J.look s.now k=some l->l.length<=90000000):
  Calls Tryz.prog 42 #[.pointer (some ⟨p,0,none⟩), .string ⟨k.toArray⟩] w λe w'=>∃v,e= .returned (.tuple #[v, .bool (J.look s.now k).isSome])/\bT w' (· <w.heap.size) v ((J.look s.now k).getD [])/\At w0 p fs s w'/\Below w.heap.size w w':=by
 have b:=h;obtain⟨M,h1,f,g⟩:=h;refine(OH p M s ⟨k.toArray⟩ w h1 (by rw[bm];unfold maxLen;omega) c).mono ?_;rintro e w' ⟨v,rfl,d,a⟩;exact⟨v,rfl,d,b.below a,a⟩
theorem LB (h:At w0 p fs s w):Calls Tryz.prog 30 #[.pointer (some ⟨p,0,none⟩)] w λe w'=>e= .returned (.int .i64 (s.writes.length:Nat))/\w=w':=by
 obtain⟨M,h1,_,_⟩:=h;exact Gr p M s w h1
theorem JH:∀(l:List J.Wr) (x:J.Wr),x∈l->x.bs.length<=(l.map λw=>w.bs.length).sum
 |[],x,h=>by cases h
 |a::t,x,h=>by
  simp only[List.map_cons,List.sum_cons];rcases au h with rfl|h
  ·omega
  ·have:=JH t x h;omega
theorem ze:∀(l:List J.Wr) (m:J.cS) (n:Nat),m.h0.length<=n->m.h1.length<=n->m.a0.length<=n->m.a1.length<=n->
  (J.aW m l).h0.length<=n+(l.map λw=>w.bs.length).sum/\(J.aW m l).h1.length<=n+(l.map λw=>w.bs.length).sum/\(J.aW m l).a0.length<=n+(l.map λw=>w.bs.length).sum/\(J.aW m l).a1.length<=n+(l.map λw=>w.bs.length).sum
 |[],m,n,h0,h1,h2,h3=>⟨h0,h1,h2,h3⟩
 |x::t,m,n,h0,h1,h2,h3=>by
  have hd:(J.done m x x.bs.length).h0.length<=n+x.bs.length/\(J.done m x x.bs.length).h1.length<=n+x.bs.length/\(J.done m x x.bs.length).a0.length<=n+x.bs.length/\(J.done m x x.bs.length).a1.length<=n+x.bs.length:=by
   unfold J.done J.cS.bC J.cS.qE J.cS.area J.cS.head;split
   ·split<;>(refine⟨?_, ?_, ?_, ?_⟩<;>simp only[List.length_append,List.length_take]<;>omega)
   ·split
    ·split<;>(refine⟨?_, ?_, ?_, ?_⟩<;>simp only[List.length_nil]<;>omega)
    ·split<;>(refine⟨?_, ?_, ?_, ?_⟩<;>simp only[List.length_append,List.length_take,List.length_drop]<;>omega)
  have:=ze t (J.done m x x.bs.length) (n+x.bs.length) hd.1 hd.2.1 hd.2.2.1 hd.2.2.2;simp only[List.map_cons,List.sum_cons];show(J.aW (J.done m x x.bs.length) t).h0.length<=_/\(J.aW (J.done m x x.bs.length) t).h1.length<=_/\(J.aW (J.done m x x.bs.length) t).a0.length<=_/\(J.aW (J.done m x x.bs.length) t).a1.length<=_;omega
theorem PH (l:List J.Wr) (k:Nat):((l.take k).map λw=>w.bs.length).sum<=(l.map λw=>w.bs.length).sum:=by
 conv=>rhs;rw[<-List.take_append_drop k l,List.map_append,List.sum_append]
 omega
theorem adA (h:J.WOk s) (d:s.logged<=16777216):Pw s:=by
 have e:=h.sum;refine⟨λwr b=> ?_,λk=> ?_⟩
 ·obtain⟨h1,a,c⟩:=h.wr wr b;have:=JH _ wr b;exact⟨h1,a,by omega,c⟩
 ·have h1:=ze (s.writes.take k) s.base 8388608 h.h0 h.h1 h.a0 h.a1;have a:=PH s.writes k;omega
theorem GK (h:At w0 p fs s w) (c:s.opn=true):Calls Tryz.prog 36 #[.pointer (some ⟨p,0,none⟩)] w λe w'=>e= .returned (.int .i64 0)/\At w0 p fs (J.cM s) w':=by
 obtain⟨M,h1,a,b⟩:=h;refine(CX p M s w h1 c).mono ?_;rintro e w' ⟨rfl,hst,d⟩;exact⟨rfl,At.step a b hst d⟩
theorem aac (h:At w0 p fs s w) (n:J.WOk s) (k t:Nat) (l:k<=s.writes.length) (a:t=0\/∃wr,s.writes[k]? =some wr/\t<=wr.bs.length):
  Calls Tryz.prog 31 #[.pointer (some ⟨p,0,none⟩), .int .i64 k, .int .i64 t] w λe w'=>∃v,e= .returned (.tuple #[v, .int .i64 0])/\yq w' (· <w.heap.size) v (J.dA s k t)/\At w0 p fs s w':=by
 have f:=h;obtain⟨M,h1,q,r⟩:=h;have ok:Ok s:=h1.q.2;have g:=adA n ok.logged;have i:s.writes.length<=20000000:=by have:=ok.writes;have:=ok.logged;omega
 by_cases d:t=0
 ·subst d;refine(Lt p M s k w h1 g l i).mono ?_;rintro e w' ⟨v,rfl,c,b⟩;refine⟨v,rfl, ?_,f.below b⟩;have:J.dA s k 0=J.aW s.base (s.writes.take k):=(by unfold J.dA;cases s.writes[k]? <;>rfl);rw[this];exact c
 ·rcases a with a|⟨wr,j,a⟩
  ·exact absurd a d
  ·obtain⟨m,e⟩:=List.getElem?_eq_some_iff.1 j;refine(Pz p M s k w h1 g m t (by omega) (by rw[e];exact a) i).mono ?_;rintro o w' ⟨v,rfl,c,b⟩;refine⟨v,rfl, ?_,f.below b⟩;have:J.dA s k t=J.done (J.aW s.base (s.writes.take k)) s.writes[k] t:=by
    unfold J.dA;rw[j];dsimp only;rw[if_neg d,e]
   rw[this];exact c
theorem DL (h:At w0 p fs s w) (W T:Int) (c:XY s W T):
  Calls Tryz.prog 31 #[.pointer (some ⟨p,0,none⟩), .int .i64 W, .int .i64 T] w λe w'=>e= .returned (.tuple #[ZW, .int .i64 13])/\At w0 p fs s w':=by
 have a:=h;obtain⟨M,h1,d,f⟩:=h;refine(PA p M s W T w h1 c).mono ?_;rintro e w' ⟨rfl,b⟩;exact⟨rfl,a.below b⟩
end
def AP (w0 w:World) (m:J.cS) (e:Ending) (w':World):Prop:=
 match J.recover m with
 | .ok s=>∃p,e= .returned (.tuple #[.pointer (some ⟨p,0,none⟩), .int .i64 0])/\At w0 p [] s w'/\Below w.heap.size w w'
 | .error er=>e= .returned (.tuple #[.pointer none, .int .i64 er])/\Below w.heap.size w w'
theorem GL (w0:World) (m:J.cS) (v0 v1 v2 j:Value) (w:World) (b:Below w0.heap.size w0 w) (q0:Sl w bE v0 m.h0) (f:Sl w bE v1 m.h1) (g:Sl w bE v2 m.a0) (i:Sl w bE j m.a1) (v:m.h0.length<=90000000) (y:m.h1.length<=90000000) (z:m.a0.length<=8388608) (A:m.a1.length<=8388608):
  Calls Tryz.prog 32 #[Gs v0 v1 v2 j] w (AP w0 w m):=by
 obtain⟨l,r,rfl⟩:=q0.aU;obtain⟨n,c1,rfl⟩:=f.aU;obtain⟨o,c2,rfl⟩:=g.aU;obtain⟨q,c3,rfl⟩:=i.aU;refine(yu l n o q r c1 c2 c3 m bE w q0 f g i v y z A (by omega)).mono ?_;intro e w' a;unfold AO at a;unfold AP;cases h:J.recover m with
 |error B=>
  rw[h]at a;exact a
 |ok s=>
  rw[h]at a;obtain⟨p,M,rfl,hst,t,c⟩:=a;exact⟨p,rfl,⟨λk=>M k/\k<w'.heap.size,hst.cap,λk d=>⟨aw b.size (t k d.1),d.2⟩,b.trans (c.mono b.size),λx u=>by cases u⟩,c⟩
theorem At.ok {w0 w:World} {p:Nat} {s:J.St} {fs:List (Nat×Obj)} (h:At w0 p fs s w):Ok s:=h.elim λ_ h=>h.1.q.2
theorem sW (w0:World) (m:J.cS) (commits:Nat) (now:List (J.B×J.B)) (hh:J.cS.Holds True m commits now) (v0 v1 v2 b:Value) (w:World) (g:Below w0.heap.size w0 w) (q0:Sl w bE v0 m.h0) (i:Sl w bE v1 m.h1) (j:Sl w bE v2 m.a0) (k:Sl w bE b m.a1) (l:m.h0.length<=90000000) (n:m.h1.length<=90000000):
  Calls Tryz.prog 32 #[Gs v0 v1 v2 b] w λe w'=>∃p at_,e= .returned (.tuple #[.pointer (some ⟨p,0,none⟩), .int .i64 0])/\At w0 p [] (J.recovered m at_ commits now) w'/\at_<=(m.area (J.current m.h0 m.h1).2.1).length/\J.Reads (J.current m.h0 m.h1).1 (m.area (J.current m.h0 m.h1).2.1) 0 0 [] at_ commits now/\(0<(J.current m.h0 m.h1).1->0<at_)/\Below w.heap.size w w':=by
 refine(GL w0 m v0 v1 v2 b w g q0 i j k l n hh.a0 hh.a1).mono ?_;intro e w' a;obtain⟨at_,h1,c,d,f⟩:=hh.recover;unfold AP at a;rw[h1]at a;obtain⟨p,rfl,ha,h⟩:=a;exact⟨p,at_,rfl,ha,c,d,f trivial,h⟩
end Go.Proofs.YtipljcmmokaokaaGreat
namespace Go.Proofs.YtipljcmmokaokaaGreat
open Go.RowKit Go.Lib Go.Maps Go.WideMaps Go.Sort Go.Shelf
set_option maxRecDepth 100000
attribute [local go_sem] Oper.semAt_some
theorem oJ {P:Program} {d:Func} {p u:Tmp} {e f:TypeId} (h:d.results=#[.cell p e, .cell u f]) (c:Array Value) (w:World) (a b:Addr) (x y:Value) (i:c.getD p undef= .pointer (some a)) (k:c.getD u undef= .pointer (some b))
  (h1:P.underlying e=some .string) (g:P.underlying f=some .bool) (m:w.cell? a=some x) (n:w.cell? b=some y):(results d c).run P w= .ok (.tuple #[x,y]) w:=by
 have j:c[p]?.getD undef= .pointer (some a):=by simpa using i
 have l:c[u]?.getD undef= .pointer (some b):=by simpa using k
 simp[results,h,j,l,asAddr,loadVar,Sem.run_bind,isAgg,go_sem,run_underlying h1,run_underlying g,m,n]
def aft (kl:J.B) (same:Bool) (k:J.B):Bool:=decide (kl<k)||(same&&decide (k=kl))
def afterOf (m:List (J.B×J.B)) (pre:ByteArray) (kl:J.B) (same:Bool):Option J.B:=(keysOf m pre).find? (aft kl same)
theorem boxed_own {β:Type} (B b:Nat) (t:TypeId) (v:Value):OwnFrom (β:=β) B (λ_ W=>Boxed W b t v):=λ_ W W' row h g i=>by
 have c:W.heap[b]? =_:=h;refine(g.block b (ai c).1 (λe=> ?_)).trans c;obtain⟨_,o,a,f⟩:=i b e.symm;rw[c]at a;injection a with a;subst a;cases f
theorem zf {a:Type} (B:Nat) (p:a->Prop):OwnFrom B (λ(x:a) (_:World)=>p x):=λ_ _ _ _ h _ _=>h
theorem Uw (w:World) (W:World) (l:Nat) (o o':Obj) (_:w.heap.size<=l) (h:W.heap[l]? =some o) (c:o.isCells=false) (_:o.isWalk=false):Gn (λ_ _=>False) W (W.putObj l o'):=by
 refine⟨λk q a b _=> ?_,by simp,λk _ d=>d.elim⟩;have:k≠l:=λe=>by subst e;rw[h]at a;injection a with a;subst a;rw[c]at b;cases b
 exact(World.putObj_heap_other this).trans a
theorem PI (W:World):Gn (λ_ _=>False) W W:=⟨λ_ _ h _ _=>h,aq _,λ_ _ h=>h⟩
theorem wM {a:Type} {p:a->Bool} {q l:List a} {x:a} (h:q++[x]<+:l) (b:∀y∈q,p y=false) (c:p x=true):l.find? p=some x:=by
 obtain⟨t,rfl⟩:=h;rw[List.append_assoc,List.find?_append];have h0:q.find? p=none:=by
  rw[List.find?_eq_none];intro y d;rw[b y d];decide
 rw[h0];simp[c]
theorem dt (x k:J.B):((⟨x.toArray⟩:ByteArray).toList==(⟨k.toArray⟩:ByteArray).toList)=decide (x=k):=by
 have h:∀l:J.B,(⟨l.toArray⟩:ByteArray).toList=l:=λl=>by rw[ByteArray.toList_eq]
 rw[h,h];by_cases e:x=k<;>simp[e]
theorem LC (x a b:J.B) (e:b=a):(Op.bytesLess x b=false/\(x==b)=false/\∀same,aft a same x=true)\/(Op.bytesLess x b=false/\(x==b)=true/\∀same,aft a same x=same)\/(Op.bytesLess x b=true/\(x==b)=false/\∀same,aft a same x=false):=by
 subst e;rw[bytesLess_eq];unfold aft;generalize b=a;by_cases h1:x<a
 ·have d:¬a<x:=λh=>List.lt_asymm h1 h;have c:x≠a:=λh=>by subst h;exact List.lt_irrefl _ h1
  exact .inr (.inr ⟨by simp[h1],by simpa using c,λsame=>by simp[d,c]⟩)
 ·by_cases c:x=a
  ·refine .inr (.inl ⟨by simp[h1],by simpa using c,λsame=> ?_⟩);subst c;simp[List.lt_irrefl]
  ·have d:a<x:=by
    by_cases h:a<x
    ·exact h
    ·exact absurd (List.le_antisymm (List.not_lt.1 h) (List.not_lt.1 h1)) c
   exact .inl ⟨by simp[h1],by simpa using c,λsame=>by simp[d]⟩
structure DM (kl:J.B) (key:ByteArray) (same:Bool) (w:World) (r:J.B) (b:Bool) (W:World):Prop where
 k:Boxed W w.heap.size 9 (.string key)
 s:Boxed W (w.heap.size+1) 4 (.bool same)
 r:Boxed W (w.heap.size+1+1) 9 (.string ⟨r.toArray⟩)
 b:Boxed W (w.heap.size+1+1+1) 4 (.bool b)
 bel:Below w.heap.size w W
theorem rr {β:Type} {f:J.B} {key:ByteArray} {same:Bool} {w:World} {r:J.B} {b:Bool} (B:Nat) (e:w.heap.size<=B):OwnFrom (β:=β) B (λ_ W=>DM f key same w r b W):=λx W W' row h a c=>
 ⟨boxed_own B _ _ _ x W W' row h.k a c,boxed_own B _ _ _ x W W' row h.s a c,boxed_own B _ _ _ x W W' row h.r a c,boxed_own B _ _ _ x W W' row h.b a c,ownFrom_below (aq _) e x W W' row h.bel a c⟩
theorem LD (p:Nat) (pre:ByteArray) (a:J.B) (same:Bool) (M:Nat->Prop) (s:J.St) (w:World) (h:br w p M s) (a7:s.now.length<=100000000):
  CallsIn Fence.wide 6 Tryz.prog 66 #[.pointer (some ⟨p,0,none⟩), .string pre, .string ⟨a.toArray⟩, .bool same] w λe w'=>e= .returned (.tuple #[.string ⟨((afterOf s.now pre a same).getD []).toArray⟩, .bool (afterOf s.now pre a same).isSome])/\Below w.heap.size w w':=by
 generalize a5:(⟨a.toArray⟩:ByteArray)=key;have b4:=ae a5;obtain⟨b,I⟩:∃b,(((w.alloc (.cells #[.string key] 9)).alloc (.cells #[.bool same] 4)).alloc (.cells #[.string ⟨#[]⟩] 9)).alloc (.cells #[.bool false] 4)=b:=⟨_,rfl⟩;have m:Below w.heap.size w b:=by
  rw[<-I];exact((((ak _ w).alloc (aq _) _).alloc (by simp) _).alloc (by simp;omega) _).alloc (by simp;omega) _
 have a1:DM a key same w [] false b:=by
  rw[<-I];refine⟨?_, ?_, ?_, ?_,by rw[I];exact m⟩
  ·exact(((Boxed.new w 9 (.string key)).alloc _).alloc _).alloc _
  ·have:=(((Boxed.new (w.alloc (.cells #[.string key] 9)) 4 (.bool same))).alloc (.cells #[.string ⟨#[]⟩] 9)).alloc (.cells #[.bool false] 4)
   simpa using this
  ·have:=(Boxed.new ((w.alloc (.cells #[.string key] 9)).alloc (.cells #[.bool same] 4)) 9 (.string ⟨#[]⟩)).alloc (.cells #[.bool false] 4)
   simpa using this
  ·have:=Boxed.new (((w.alloc (.cells #[.string key] 9)).alloc (.cells #[.bool same] 4)).alloc (.cells #[.string ⟨#[]⟩] 9)) 4 (.bool false)
   simpa using this
 have U:=ae (callsIn_wide.2 (gq p M s b (h.below m)):CallsIn Fence.wide 5 _ _ _ _ _);have V:=ae (wE (.pointer (some ⟨p,0,none⟩)) pre b ⟨_,rfl⟩);obtain⟨j,i⟩:∃j,(b.alloc (.cells #[.pointer (some ⟨p,0,none⟩)] 24)).alloc (.cells #[.string pre] 9)=j:=⟨_,rfl⟩;have a4:Below b.heap.size b j:=by rw[<-i];exact((ak _ b).alloc (aq _) _).alloc (by simp) _
 have n:Below w.heap.size w j:=m.trans (a4.mono m.size);have a2:DM a key same w [] false j:=by
  obtain⟨u,v,A,B,L⟩:=a1;rw[<-i];exact⟨(u.alloc _).alloc _,(v.alloc _).alloc _,(A.alloc _).alloc _,(B.alloc _).alloc _,by rw[i];exact n⟩
 have hst:SeqStopsK Fence.wide 5 Tryz.prog 132 #[.pointer (some ⟨b.heap.size,0,none⟩), .pointer (some ⟨b.heap.size+1,0,none⟩)] (λx=>#[encStr x]) (Gn (λ_ _=>False)) (λys=>ys=keysOf s.now pre) (λq=>q<+:keysOf s.now pre) (keysOf s.now pre).length j:=by
  obtain⟨bn,bw,ch,wr,b0,b1,b2,b3,d0,d1,d2,d3,h1,Z,C,h4⟩:=h;have c0:=C.now.step (Step.aC n) (n.block bn C.now.lt);have b8:=(n.cell (p:=⟨p,2,none⟩) (ai h1).1).trans (ah w p 2 _ _ _ h1);refine rf 5 (by omega) b.heap.size (b.heap.size+1) p bn pre s.now M (λ_ _=>False) a7 j ?_ ?_ b8 c0 (λ_ _ _ h=>h.elim)
  ·rw[<-i];exact((Boxed.new b 24 (.pointer (some ⟨p,0,none⟩))).alloc _).cell
  ·have:=(Boxed.new (b.alloc (.cells #[.pointer (some ⟨p,0,none⟩)] 24)) 9 (.string pre)).cell;rw[<-i];rw[World.size_alloc]at this;exact this
 have b6:=ae hst;have N:=ae a2;clear hst a2 h a7 a1 m a4 n;refine callsIn_of_wp_marks Tryz.func66 rfl trivial ?_ rfl;simp only[Tryz.ntmps66,List.size_toArray,List.length_cons,List.length_nil,Nat.reduceAdd,Nat.reduceSub,Array.replicate_succ,Array.replicate_zero,List.push_toArray,List.append_toArray,List.nil_append,List.cons_append]
 gi_wp2_with fail
 refine⟨trivial,U.o.mono ?_⟩;rintro e Y ⟨rfl,G⟩;subst G
 gi_wp2_with fail
 refine⟨trivial,V.o.mono ?_⟩;rintro e Y ⟨rfl,G⟩;rw[i]at G;subst G;clear I i U V
 gi_wp2_with fail
 have E:w.heap.size<=Y.heap.size:=N.o.bel.size;refine wpIn_rangeFunc_ownF rfl (by omega) (gf:=132) (lb:=#[.pointer (some ⟨b.heap.size,0,none⟩), .pointer (some ⟨b.heap.size+1,0,none⟩)]) rfl trivial (enters_of Tryz.func132 (by kernel_rfl) rfl)
  b6.o Gn.t (λW l o o' hl h f hw=>Uw Y W l o o' hl h f hw) (ak _ _) (λ_=>rfl)
  (λg W=>(∀y∈g,aft a same y=false)/\DM a key same w [] false W)
  (λc g W=>(c= .ret/\∃q x,g=q++[x]/\(∀y∈q,aft a same y=false)/\aft a same x=true/\DM a key same w x true W))
  (OwnFrom.and (zf _ _) (rr _ E))
  (λc g W W' row h hg P=>by
   obtain⟨h1,q,x,Z,C,h4,h5⟩:=h;exact⟨h1,q,x,Z,C,h4,rr (β:=List J.B) _ E g W W' row h5 hg P⟩)
  ⟨(λ_ h=>by cases h),N.o⟩
  (λx=>{tmps:=#[.pointer (some ⟨p,0,none⟩), .string pre, .string key, .bool same,undef,undef, .pointer (some ⟨w.heap.size,0,none⟩), .pointer (some ⟨w.heap.size+1,0,none⟩), .pointer (some ⟨w.heap.size+1+1,0,none⟩), .pointer (some ⟨w.heap.size+1+1+1,0,none⟩),encStr x, .pointer (some ⟨p,0,none⟩), .bool true, .bool false, .pointer (some ⟨p,0,none⟩), .string pre, .func (.func 132) #[] #[.pointer (some ⟨b.heap.size,0,none⟩), .pointer (some ⟨b.heap.size+1,0,none⟩)],encStr x,undef,undef,undef,undef,undef,undef,undef,undef,undef,undef,undef,undef],defers:=[]}) ?assign ?body ?done ?stop
 case assign=>
  intro l x W K k
  gi_wp2
  exact k
 case body=>
  rintro l g x W ⟨t,d⟩ c8;have hk:=d.k.cell;have hs:=d.s.cell;have P:=d.r.cell;have hb:=d.b.cell;have c5:=d.r.frozen;have b7:=d.b.frozen;have S:=ae d;have HP:=ae t;have a6:key.toList=a:=(by rw[<-b4.o,ByteArray.toList_eq]);have b9:=LC x a _ a6;clear d t a6 a5;have stop:∀W2,W2=(W.setCell ⟨w.heap.size+1+1,0,none⟩ (.string ⟨x.toArray⟩)).setCell ⟨w.heap.size+1+1+1,0,none⟩ (.bool true)->aft a same x=true->KeepsOthers W W2/\∃q y,g++[x]=q++[y]/\(∀z∈q,aft a same z=false)/\aft a same y=true/\DM a key same w y true W2:=by
   rintro W2 rfl ha;obtain⟨u,v,A,B,L⟩:=S.o;refine⟨(KeepsOthers.setCell W _ _).trans (KeepsOthers.setCell _ _ _),g,x,rfl,HP.o,ha, ?_, ?_, ?_, ?_, ?_⟩
   ·exact(u.other (by omega) _).other (by omega) _
   ·exact(v.other (by omega) _).other (by omega) _
   ·exact(A.set _).other (by omega) _
   ·exact(B.other (by omega) _).set _
   ·exact(L.setCell (by show w.heap.size<=w.heap.size+1+1;omega) _).setCell (by show w.heap.size<=w.heap.size+1+1+1;omega) _
  have H:=ae stop;have go:aft a same x=false->KeepsOthers W W/\Gn (λ_ _=>False) W W/\(∀y∈g++[x],aft a same y=false)/\DM a key same w [] false W:=λha=>⟨KeepsOthers.refl W,PI W,λy Q=>by
   rcases List.mem_append.1 Q with h|h
   ·exact HP.o y h
   ·simp at h;subst h;exact ha,S.o⟩
  have O:=ae go;clear stop go;rcases b9 with⟨c1,c2,c3⟩|⟨c1,c2,c3⟩|⟨c1,c2,c3⟩
  ·have f:=ae (c3 same);clear c3
   gi_wp2
   exact⟨(H.o _ rfl f.o).1,rfl,(H.o _ rfl f.o).2⟩
  ·have f:=ae (c3 same);clear c3;cases same
   ·gi_wp2
    exact O.o f.o
   ·gi_wp2
    exact⟨(H.o _ rfl f.o).1,rfl,(H.o _ rfl f.o).2⟩
  ·have f:=ae (c3 same);clear c3;cases same
   ·gi_wp2
    exact O.o f.o
   ·gi_wp2
    exact O.o f.o
 case done=>
  rintro D ys W F rfl ⟨t,d⟩ k;have P:=d.r.cell;have hb:=d.b.cell;have c5:=d.r.frozen;have b7:=d.b.frozen;have a8:afterOf s.now pre a same=none:=List.find?_eq_none.2 (λy Q=>by rw[t y Q];decide);have a0:DM a key same w [] false ((W.setCell ⟨w.heap.size+1+1,0,none⟩ (.string ⟨#[]⟩)).setCell ⟨w.heap.size+1+1+1,0,none⟩ (.bool false)):=by
   obtain⟨u,v,A,B,L⟩:=d;refine⟨?_, ?_, ?_, ?_, ?_⟩
   ·exact(u.other (by omega) _).other (by omega) _
   ·exact(v.other (by omega) _).other (by omega) _
   ·exact(A.set _).other (by omega) _
   ·exact(B.other (by omega) _).set _
   ·exact(L.setCell (by show w.heap.size<=w.heap.size+1+1;omega) _).setCell (by show w.heap.size<=w.heap.size+1+1+1;omega) _
  have c7:w.heap.size+4<=D:=aw (by have:=N.o.b.lt;omega) F;have a3:((W.setCell ⟨w.heap.size+1+1,0,none⟩ (.string ⟨#[]⟩)).setCell ⟨w.heap.size+1+1+1,0,none⟩ (.bool false)).heap[D]? =some (.deferred (some [])):=by
   rw[Below.heap_setCell _ _ _ D (by show D≠w.heap.size+1+1+1;omega),Below.heap_setCell _ _ _ D (by show D≠w.heap.size+1+1;omega)];exact k
  have a9:=ae a0;have T:=ae a3;have b5:=ae a8;clear d a0 a3 a8 t
  gi_wp2
  refine⟨by simp, .inl ⟨_,_,rfl,run_takeDeferred T.o, ?_⟩⟩;have hF:=rr (β:=Unit) Y.heap.size E () _ _ (some D) a9.o (grownBy_putObj' _ D (.deferred none)) (λr e=>by cases e;exact⟨F,_,T.o,rfl⟩);refine⟨_,oJ rfl _ _ _ _ _ _ rfl rfl Tryz.underlying9 Tryz.underlying4 hF.r.cell hF.b.cell, ?_,hF.bel⟩;rw[b5.o];rfl
 case stop=>
  rintro D c g W F c4 ⟨rfl,q,x,rfl,hq,hx,d⟩ k;have c6:afterOf s.now pre a same=some x:=wM c4 hq hx
  gi_wp2
  refine⟨by simp, .inl ⟨_,_,rfl,run_takeDeferred k, ?_⟩⟩;have hF:=rr (β:=Unit) Y.heap.size E () _ _ (some D) d (grownBy_putObj' _ D (.deferred none)) (λr e=>by cases e;exact⟨F,_,k,rfl⟩);refine⟨_,oJ rfl _ _ _ _ _ _ rfl rfl Tryz.underlying9 Tryz.underlying4 hF.r.cell hF.b.cell, ?_,hF.bel⟩;rw[c6];rfl
theorem iL {w0 w:World} {p:Nat} {s:J.St} {fs:List (Nat×Obj)} (h:At w0 p fs s w) (pre:ByteArray) (a:J.B) (same:Bool) (b:s.now.length<=100000000):
  Calls Tryz.prog 66 #[.pointer (some ⟨p,0,none⟩), .string pre, .string ⟨a.toArray⟩, .bool same] w λe w'=>e= .returned (.tuple #[.string ⟨((afterOf s.now pre a same).getD []).toArray⟩, .bool (afterOf s.now pre a same).isSome])/\Below w.heap.size w w':=by
 obtain⟨M,h1,_,_⟩:=h;exact callsIn_wide.1 (LD p pre a same M s w h1 b)
end Go.Proofs.YtipljcmmokaokaaGreat
namespace Go.Proofs.YtipljcmmokaokaaGreat
open Go.RowKit Go.Lib Go.Maps Go.WideMaps Go.Sort
namespace X
theorem find_congr {a:Type} {p q:a->Bool}:∀(l:List a),(∀x∈l,p x=q x)->l.find? p=l.find? q
 |[],_=>rfl
 |x::t,h=>by
  rw[List.find?_cons,List.find?_cons,h x List.mem_cons_self,find_congr t (λy b=>h y (List.mem_cons_of_mem _ b))]
theorem wN {a b:Type} (f:a->b) (p:b->Bool):∀(l:List a),(l.map f).find? p=(l.find? λx=>p (f x)).map f
 |[]=>rfl
 |x::t=>by
  rw[List.map_cons,List.find?_cons,List.find?_cons,wN f p t];cases p (f x)<;>rfl
theorem tZ {a:Type} (p q:a->Bool):∀(l:List a),(∀x∈l,p x=true->q x=true)->(l.filter p).find? q=l.find? p
 |[],_=>rfl
 |x::t,h=>by
  have c:=tZ p q t (λy b=>h y (ag _ b));rw[List.filter_cons,List.find?_cons];cases hp:p x with
  |true=>rw[if_pos rfl,List.find?_cons,h x List.mem_cons_self hp]
  |false=>rw[if_neg (by decide),c]
theorem cU {a:Type} {p:a->Bool} {l:List a} {x:a} (h:l.find? p=some x):x∈l/\p x=true:=⟨List.mem_of_find?_eq_some h,List.find?_some h⟩
abbrev aN (nm:B) (ks:List Ky) (i:Nat) (r:Row):B:=cy nm i (val ks i r.b) (r.t i)
theorem ru (x:B):(⟨x.toArray⟩:ByteArray).data.toList=x:=rfl
section
variable {ks : List Ky} {size time : Nat} {rows : List Row} {nm a : B} {c : Nat} {now : List (B × B)}
theorem iF.gP (h:iF nm a ks rows c now) (d:ks.length<=256) (e:aQ ks size time rows) (f:time<4294967296) {i:Nat} (b:i<ks.length):
  keysOf now ⟨(pre nm i).toArray⟩=(cn ks i rows).map (aN nm ks i):=by
 unfold keysOf;rw[ru];have:=h.keys d e f b [] (Nat.zero_le _);rw[List.append_nil]at this;rw[this,List.filter_eq_self.2 (λx _=>by simp)]
theorem iF.PM (h:iF nm a ks rows c now) (e:ks.length<=256) (d:aQ ks size time rows) (j:time<4294967296) {i:Nat} (b:i<ks.length) (v:B) (k:v.length=lens ks i):
  keysOf now ⟨(pre nm i++v).toArray⟩=((cn ks i rows).filter λr=>decide (val ks i r.b=v)).map (aN nm ks i):=by
 unfold keysOf;rw[ru,h.keys e d j b v (by omega)]
 congr 1
 refine List.filter_congr (λr g=> ?_);have f:=bc (d.fit r ((bD ks i r rows).1 g)) b;rw[k,<-f,List.take_length]
theorem GM {x:B} (h:x≠[]):([]:B)<x:=by
 cases x with
 |nil=>exact absurd rfl h
 |cons a t=>exact List.nil_lt_cons _ _
theorem Ux (j:eC ks size) (f:aQ ks size time rows) (y:time<4294967296) {i:Nat} (g:i<ks.length) {v:B} {t:Nat} (u:t<4294967296)
  (x:(i=0/\v=[]/\t=0)\/(v.length=lens ks i/\(i=0->t=0))) (same:Bool) {r:Row} (d:r∈rows):
  aft (cy nm i v t) same (aN nm ks i r)=uE ks i v t same r:=by
 have c:=bc (f.fit r d) g;have z:=j.key _ (aY g);unfold aft uE;rcases x with⟨rfl,rfl,rfl⟩|⟨h1,n⟩
 ·have o:val ks 0 r.b≠[]:=λe=>by rw[e]at c;unfold lens at c;simp at c;omega
  have e1:cy nm 0 [] 0<aN nm ks 0 r:=by
   unfold aN cy tail;rw[R.FL];exact GM o
  rw[decide_eq_true e1,decide_eq_true (GM o)];rfl
 ·have w:=f.t32 y d g;have e1:=Oj (nm:=nm) (i:=i) (p:=v) (q:=val ks i r.b) (t:=t) (s:=r.t i) (h1.trans c.symm) u w (λe=>by subst e;rw[n rfl,f.t0 r d]);have e2:aN nm ks i r=cy nm i v t↔v=val ks i r.b/\r.t i=t:=by
   constructor
   ·intro e;obtain⟨_,a,b⟩:=nR (by have:=j.one;omega) (by have:=j.one;omega) w u (λe=>by subst e;exact f.t0 r d) n e;exact⟨a.symm,b⟩
   ·rintro⟨e1,e2⟩;unfold aN;rw[e1,e2]
  rw[Bool.eq_iff_iff];simp only[Bool.or_eq_true,Bool.and_eq_true,decide_eq_true_eq,e1,e2];constructor
  ·rintro((h|⟨h,k⟩)|⟨h,l,m⟩)
   ·exact .inl h
   ·exact .inr ⟨h, .inl k⟩
   ·exact .inr ⟨l, .inr ⟨m,h⟩⟩
  ·rintro(h|⟨h,k|⟨l,m⟩⟩)
   ·exact .inl (.inl h)
   ·exact .inl (.inr ⟨h,k⟩)
   ·exact .inr ⟨m,h,l⟩
theorem iF.after (h:iF nm a ks rows c now) (d:eC ks size) (e:aQ ks size time rows) (f:time<4294967296) {i:Nat} (b:i<ks.length) {v:B} {t:Nat} (k:t<4294967296)
  (g:(i=0/\v=[]/\t=0)\/(v.length=lens ks i/\(i=0->t=0))) (same:Bool):
  afterOf now ⟨(pre nm i).toArray⟩ (cy nm i v t) same=((cn ks i rows).find? (uE ks i v t same)).map (aN nm ks i):=by
 unfold afterOf;rw[h.gP (by have:=d.one;omega) e f b,wN]
 congr 1
 exact find_congr _ (λr j=>Ux d e f b k g same ((bD ks i r rows).1 j))
theorem PN (ks:List Ky) (i:Nat) (r x:Row):uE ks i (val ks i r.b) (r.t i) false x=mD ks i r x:=by
 unfold uE mD;simp
theorem iF.zg (h:iF nm a ks rows c now) (j:eC ks size) (b:aQ ks size time rows) (g:time<4294967296) {i:Nat} (d:i<ks.length) {r:Row} (f:r∈rows):
  afterOf now ⟨(pre nm i).toArray⟩ (aN nm ks i r) false=((cn ks i rows).find? (mD ks i r ·)).map (aN nm ks i):=by
 rw[show aN nm ks i r=cy nm i (val ks i r.b) (r.t i)from rfl,h.after j b g d (b.t32 g f d) (.inr ⟨bc (b.fit r f) d,λe=>by subst e;exact b.t0 r f⟩) false]
 congr 1
 exact find_congr _ (λx _=>PN ks i r x)
theorem LG {x y:B}:x<x++y\/x++y=x:=by
 by_cases h:y=[]
 ·subst h;right;exact List.append_nil x
 ·left;have:=(R.FL x (s:=[]) (t:=y)).2 (GM h)
  rwa [List.append_nil]at this
theorem iF.sX (h:iF nm a ks rows c now) (d:eC ks size) (f:aQ ks size time rows) (g:time<4294967296) {i:Nat} (b:i<ks.length) {v:B} (j:v.length=lens ks i):
  afterOf now ⟨(pre nm i++v).toArray⟩ (pre nm i++v) true=((cn ks i rows).find? λr=>decide (val ks i r.b=v)).map (aN nm ks i):=by
 unfold afterOf;rw[h.PM (by have:=d.one;omega) f g b v j,wN]
 congr 1
 refine tZ _ _ _ (λr _ hd=> ?_);have e:val ks i r.b=v:=of_decide_eq_true hd;have e2:∃y,aN nm ks i r=(pre nm i++v)++y:=by
  unfold aN cy tail;rw[e];split
  ·exact⟨[],by simp⟩
  ·exact⟨R.cp (r.t i),by simp⟩
 obtain⟨y,k⟩:=e2;unfold aft;rw[k];rcases LG (x:=pre nm i++v) (y:=y)with h1|h1
 ·rw[decide_eq_true h1];rfl
 ·rw[decide_eq_true h1];simp
theorem wO (ks:List Ky) (i:Nat) (rows:List Row) (v:B):((cn ks i rows).find? λr=>decide (val ks i r.b=v)).isSome=rows.any λr=>decide (val ks i r.b=v):=by
 rw[Bool.eq_iff_iff,List.find?_isSome,List.any_eq_true];constructor
 ·rintro⟨x,h1,a⟩;exact⟨x,(bD ks i x rows).1 h1,a⟩
 ·rintro⟨x,h1,a⟩;exact⟨x,(bD ks i x rows).2 h1,a⟩
theorem iF.wP (h:iF nm a ks rows c now):keysOf now ⟨(nm++[0]).toArray⟩=now.map (·.1):=by
 unfold keysOf;rw[ru,List.filter_eq_self.2];intro k f;obtain⟨⟨d,x⟩,i,rfl⟩:=List.mem_map.1 f;have g:=J.eU now d x h.asc i;have hh:=h.oth d (by rw[g];intro e;cases e);show Lib.hasPrefix d (nm++[0])=true;have b:∀y:B,Lib.hasPrefix (nm++0::y) (nm++[0])=true:=λy=>by
  unfold Lib.hasPrefix;rw[lC];rfl
 rcases hh with rfl|rfl|⟨p,rfl⟩|⟨j,p,t,_,_,_,rfl⟩
 ·exact b [65]
 ·exact b [67]
 ·obtain⟨a,x,h1,_,_⟩:=gM nm 0;unfold cy;rw[h1,List.append_assoc];exact b _
 ·obtain⟨a,x,h1,_,_⟩:=gM nm j;unfold cy;rw[h1,List.append_assoc];exact b _
theorem iF.kJ (h:iF nm a ks rows c now) (d:aQ ks size time rows) (p:B):J.look now (cy nm 0 p 0)=(rows.find? λr=>decide (val ks 0 r.b=p)).map (·.b):=by
 cases hf:rows.find? λr=>decide (val ks 0 r.b=p)with
 |some r=>
  obtain⟨h1,b⟩:=cU hf;exact(h.pri p r.b).2 ⟨r,h1,of_decide_eq_true b,rfl⟩
 |none=>
  cases hl:J.look now (cy nm 0 p 0)with
  |none=>rfl
  |some v=>
   obtain⟨r,h1,b,_⟩:=(h.pri p v).1 hl;have:=List.find?_eq_none.1 hf r h1;rw[b]at this;simp at this
theorem rv {l:List Row} (h:l.Pairwise λx y=>val ks 0 x.b≠val ks 0 y.b) {r s:Row} (a:r∈l) (f:s∈l) (e:val ks 0 r.b=val ks 0 s.b):r=s:=by
 induction l with
 |nil=>cases a
 |cons x t g=>
  obtain⟨h1,d⟩:=List.pairwise_cons.1 h;rcases au a with rfl|b<;>rcases au f with rfl|c
  ·rfl
  ·exact absurd e (h1 s c)
  ·exact absurd e.symm (h1 r b)
  ·exact g d b c
theorem iF.ry (h:iF nm a ks rows c now) (d:aQ ks size time rows) {r:Row} (b:r∈rows):J.look now (cy nm 0 (val ks 0 r.b) 0)=some r.b:=(h.pri _ _).2 ⟨r,b,rfl,rfl⟩
theorem iF.wQ (h:iF nm a ks rows c now) (e:aQ ks size time rows) (f:time<4294967296) {i:Nat} (h0:i≠0) (b:i<ks.length) {r:Row} (d:r∈rows):J.look now (aN nm ks i r)=some (val ks 0 r.b):=
 (h.alt i _ _ _ (by omega) b (e.t32 f d b)).2 ⟨r,d,rfl,rfl,rfl,b⟩
end
end X
end Go.Proofs.YtipljcmmokaokaaGreat
namespace Go.Proofs.YtipljcmmokaokaaGreat
open Go.RowKit Go.Lib Go.Maps Go.WideMaps Go.Sort
set_option maxRecDepth 100000
theorem kK (n:Int) (w:World):
  Calls Tryz.prog 97 #[.int .i64 n] w λe w'=>e= .returned (.slice (some ⟨w.heap.size,0,none⟩) 4 4)/\w'=w.alloc (.cells (dK (R.cp (nh n))).toArray 5 (0,0)):=by
 go_enter Tryz.func97,Tryz.ntmps97;go_wp2;go_ret;refine⟨rfl, ?_⟩;rw[ra (nh n/16777216) _ (by unfold nh;omega),ra (nh n/65536) _ (by unfold nh;omega),ra (nh n/256) _ (by unfold nh;omega),ra (nh n) (n%256) (by unfold nh;omega)];rfl
theorem ft (l:J.B) (k:Nat) (h:k<l.length) (w:World):(Instr.index 9 (.string ⟨l.toArray⟩) (.int .i64 (k:Nat))).run Tryz.prog w= .ok (u8 l[k]) w:=by
 rw[run_index_string (h:=Tryz.underlying9),dif_pos ⟨by omega,by rw[show(⟨l.toArray⟩:ByteArray).size=l.length by simp[ByteArray.size]];omega⟩];rfl
theorem PO (a b c d:UInt8) (t:J.B) (w:World):
  Calls Tryz.prog 114 #[.string ⟨(a::b::c::d::t).toArray⟩] w λe w'=>e= .returned (.int .i64 (R.zT [a,b,c,d]:Nat))/\Below w.heap.size w w':=by
 have i0:=ft (a::b::c::d::t) 0 (by simp);have g:=ft (a::b::c::d::t) 1 (by simp);have h:=ft (a::b::c::d::t) 2 (by simp);have i:=ft (a::b::c::d::t) 3 (by simp);simp only[List.getElem_cons_zero,List.getElem_cons_succ]at i0 g h i;have j:R.zT [a,b,c,d]=a.toNat*16777216+b.toNat*65536+c.toNat*256+d.toNat:=rfl;have f:=ae (OX a.toNat b.toNat c.toNat d.toNat (UInt8.toNat_lt _) (UInt8.toNat_lt _) (UInt8.toNat_lt _) (UInt8.toNat_lt _));rw[<-j]at f;generalize R.zT [a,b,c,d]=V at f j|-;clear j;have i0:∀w,(Instr.index 9 (.string ⟨(a::b::c::d::t).toArray⟩) (.int .i64 0)).run Tryz.prog w= .ok (.int .u8 (a.toNat:Nat)) w:=i0;have g:∀w,(Instr.index 9 (.string ⟨(a::b::c::d::t).toArray⟩) (.int .i64 1)).run Tryz.prog w= .ok (.int .u8 (b.toNat:Nat)) w:=g;have h:∀w,(Instr.index 9 (.string ⟨(a::b::c::d::t).toArray⟩) (.int .i64 2)).run Tryz.prog w= .ok (.int .u8 (c.toNat:Nat)) w:=h;have i:∀w,(Instr.index 9 (.string ⟨(a::b::c::d::t).toArray⟩) (.int .i64 3)).run Tryz.prog w= .ok (.int .u8 (d.toNat:Nat)) w:=i;generalize(⟨(a::b::c::d::t).toArray⟩:ByteArray)=S at i0 g h i|-;generalize a.toNat=a0 at i0 f;generalize b.toNat=a1 at g f;generalize c.toNat=m at h f;generalize d.toNat=n at i f;go_enter Tryz.func114,Tryz.ntmps114;go_upto_region 1 with fail;refine aJ 17 (.rd 0 (.rd 1 (.rd 2 (.rd 3 (.rd 4 (.rd 5 (.rd 6 (.rd 7 (.rd 8 (.rd 9 (.rd 10 (.rd 11 (.rd 12 (.rd 13 (.rd 14 (.rd 15 (.rd 16 .fin))))))))))))))))) (λ_=>True) trivial ?_;repeat
  refine aA (v:= ?_) (λw' l=> ?_) (λK k=> ?_);rotate_left
  ·clear l;go_simp;try with_reducible rfl
  go_simp;refine k _ ?_;clear k K
 show wpList _ _ _ _ _ _;have j:=f.o;go_wp2;go_ret;exact⟨rfl,(ak _ w).drew⟩
theorem LH:∀(ks:List J.B),ks.length<=2->Lib.join ks []=ks.flatten
 |[],_=>rfl
 |[a],_=>by simp[Lib.join]
 |[a,b],_=>by simp[Lib.join]
 |_::_::_::_,h=>by simp at h
theorem wR (nm:J.B) (w:World) (b:nm.length<=1000):
  Calls Tryz.prog 41 #[.string ⟨nm.toArray⟩, .slice none 0 0] w λe w'=>e= .returned (.string ⟨(nm++[0]).toArray⟩)/\w=w':=by
 have a:=ae (Tryz.strings_Join_none none 0 ⟨#[]⟩ w);have e1:=gH nm [0];have e2:(⟨(nm++[0]).toArray⟩:ByteArray)++⟨#[]⟩=⟨(nm++[0]).toArray⟩:=by
  have:=gH (nm++[0]) [];rw[List.append_nil]at this;exact this
 go_enter Tryz.func41,Tryz.ntmps41;go_wp2_with fail;refine a.o.mono ?_;rintro e w1 ⟨rfl,rfl⟩;go_wp2;go_ret;first|exact⟨rfl,rfl⟩|exact⟨by rw[e1,e2],rfl⟩|exact⟨by rw[e1];exact congrArg _ (congrArg _ e2),rfl⟩
theorem zh (nm:J.B) (g c:Nat) (ks:List J.B) (w:World) (h:gX w (some ⟨g,0,none⟩) ks) (v:0<ks.length) (l:ks.length<=2) (t:ks.length<=c) (f:∀k∈ks,k.length<=1000) (A:nm.length<=1000):
  Calls Tryz.prog 41 #[.string ⟨nm.toArray⟩, .slice (some ⟨g,0,none⟩) ks.length c] w λe w'=>e= .returned (.string ⟨(nm++0::ks.flatten).toArray⟩)/\Below w.heap.size w w':=by
 obtain⟨g',n,u,q⟩:=h v;obtain rfl:g=g':=by injection n with n;injection n
 have o:(ks.map λk:J.B=>(⟨k.toArray⟩:ByteArray)).map (·.data.toList)=ks:=by
  rw[List.map_map];conv=>rhs;rw[<-List.map_id ks]
  exact List.map_congr_left λk _=>rfl
 have r:ks.flatten.length<=2000:=by
  match ks,l,f with
  |[],_,_=>simp
  |[a],_,f=>have:=f a (by simp);simp;omega
  |[a,b],_,f=>have:=f a (by simp);have:=f b (by simp);simp;omega
  |_::_::_::_,h,_=>simp at h
 have i:=LH ks l;have d:=Tryz.strings_Join g 0 c (ks.map λk:J.B=>(⟨k.toArray⟩:ByteArray)) ⟨#[]⟩ w (λj x s=>by
   rw[List.getElem?_map]at s;obtain⟨k,l,rfl⟩:=Option.map_eq_some_iff.1 s;obtain⟨i,rfl⟩:=List.getElem?_eq_some_iff.1 l;rw[Nat.zero_add];exact q j i) u (by rw[List.length_map];omega) (by rw[List.length_map];exact t) (by rw[o];show(Lib.join ks []).length<=_;rw[i];omega)
 rw[o,List.length_map]at d;have e0:(⟨#[]⟩:ByteArray).data.toList=[]:=rfl;rw[e0,i]at d;have d:=ae d;have e1:=gH nm [0];have e2:(⟨(nm++[0]).toArray⟩:ByteArray)++⟨ks.flatten.toArray⟩=⟨(nm++0::ks.flatten).toArray⟩:=by
  rw[gH,List.append_assoc];rfl
 have y:(⟨ks.flatten.toArray⟩:ByteArray).size<=2000:=by rw[bm];exact r
 generalize ks.flatten=z at d e2 y r|-;clear o i h q f;go_enter Tryz.func41,Tryz.ntmps41;go_wp2_with fail;refine d.o.mono ?_;rintro e w1 ⟨rfl,p⟩;have m:=ae p;clear p d;go_wp2;go_ret;first|exact⟨rfl,m.o⟩|exact⟨by rw[e1,e2],m.o⟩|exact⟨by rw[e1];exact congrArg _ (congrArg _ e2),m.o⟩
theorem DO (W:World) (ks:List J.B) (C:Array Value) (a:C=(ks.map encStr).toArray):gX (W.alloc (.cells C 9)) (some ⟨W.heap.size,0,none⟩) ks:=λ_=>by
 subst a;refine⟨W.heap.size,rfl,by simp,λj b=> ?_⟩;rw[cell_of_row _ W.heap.size j _ _ _ (heap_alloc_new W _)];simp[b]
theorem gu (nm x:J.B) (W:World) (B:Nat) (a:W.heap.size=B) (c:nm.length<=1000) (d:x.length<=1000):
  Calls Tryz.prog 41 #[.string ⟨nm.toArray⟩, .slice (some ⟨B,0,none⟩) 1 1] (W.alloc (.cells #[encStr x] 9)) λe w'=>e= .returned (.string ⟨(nm++0::x).toArray⟩)/\Below W.heap.size W w':=by
 subst a;refine(zh nm W.heap.size 1 [x] (W.alloc (.cells #[encStr x] 9)) (DO W [x] _ rfl) (by simp) (by simp) (by simp) (by simpa using d) c).mono ?_;rintro e w' ⟨rfl,b⟩;have h1:Below W.heap.size W (W.alloc (.cells #[encStr x] 9)):=(ak _ W).alloc (aq _) _;exact⟨by simp,h1.trans (b.mono h1.size)⟩
theorem LI (nm x y:J.B) (W:World) (B:Nat) (a:W.heap.size=B) (c:nm.length<=1000) (d:x.length<=1000) (f:y.length<=1000):
  Calls Tryz.prog 41 #[.string ⟨nm.toArray⟩, .slice (some ⟨B,0,none⟩) 2 2] (W.alloc (.cells #[encStr x,encStr y] 9)) λe w'=>e= .returned (.string ⟨(nm++0::(x++y)).toArray⟩)/\Below W.heap.size W w':=by
 subst a;refine(zh nm W.heap.size 2 [x,y] (W.alloc (.cells #[encStr x,encStr y] 9)) (DO W [x,y] _ rfl) (by simp) (by simp) (by simp) (by simp;omega) c).mono ?_;rintro e w' ⟨rfl,b⟩;have h1:Below W.heap.size W (W.alloc (.cells #[encStr x,encStr y] 9)):=(ak _ W).alloc (aq _) _;exact⟨by simp,h1.trans (b.mono h1.size)⟩
abbrev kL (nm:J.B) (size:Nat) (kv:Value):Value:= .agg #[.string ⟨nm.toArray⟩, .int .i64 size,kv]
abbrev eR (nm:J.B) (size:Nat) (kv:Value):Obj:= .cells #[.string ⟨nm.toArray⟩, .int .i64 size,kv] 29 (0,0)
theorem LJ (i:Nat) (b:i<256) (W:World) (C:Array Value) (a:C=#[.int .u8 (i:Nat)]):
  (convert 40 9 (.slice (some ⟨W.heap.size,0,none⟩) 1 1)).run Tryz.prog (W.alloc (.cells C 5))= .ok (.string ⟨#[UInt8.ofNat i]⟩) (W.alloc (.cells C 5)):=by
 have e:C=(dK [UInt8.ofNat i]).toArray:=by
  rw[a];unfold dK u8;simp[UInt8.toNat_ofNat',Nat.mod_eq_of_lt b]
 rw[e];exact run_convert_bytes_back _ 40 9 5 ⟨W.heap.size,0,none⟩ 1 [UInt8.ofNat i] Tryz.underlying40 Tryz.underlying5 Tryz.underlying9 (λj c=>by
   have:(⟨W.heap.size,0,none⟩:Addr).add j=⟨W.heap.size,j,none⟩:=(by unfold Addr.add;split<;>simp_all);rw[this];exact wz W _ _ _ j c)
theorem bU (nm:J.B) (size:Nat) (A:Option Addr) (n c i:Nat) (k:i<256) (j:nm.length<=1000) (w:World):
  Calls Tryz.prog 50 #[kL nm size (.slice A n c), .int .i64 (i:Nat)] w λe w'=>e= .returned (.string ⟨(X.pre nm i).toArray⟩)/\Below w.heap.size w w':=by
 by_cases h0:i=0
 ·subst h0;have b:=ae (gu nm [80] (w.alloc (eR nm size (.slice A n c))) (w.heap.size+1) (by simp) j (by simp));have f:Below w.heap.size w (w.alloc (eR nm size (.slice A n c))):=(ak _ w).alloc (aq _) _;have a:=ae f;have e:X.pre nm 0=nm++0::[80]:=rfl;rw[e];clear f e;go_enter Tryz.func50,Tryz.ntmps50;go_wp2_with fail;refine b.o.mono ?_;rintro e w1 ⟨rfl,d⟩;have g:=ae (a.o.trans (d.mono a.o.size));clear d b a;go_wp2;go_ret;exact⟨rfl,g.o⟩
 ·have f:Below w.heap.size w ((w.alloc (eR nm size (.slice A n c))).alloc (.cells #[.int .u8 (i:Nat)] 5)):=((ak _ w).alloc (aq _) _).alloc (by simp) _;have b:=ae (LI nm [75] [UInt8.ofNat i] ((w.alloc (eR nm size (.slice A n c))).alloc (.cells #[.int .u8 (i:Nat)] 5)) (w.heap.size+1+1) (by simp) j (by simp) (by simp));have h:=LJ i k (w.alloc (eR nm size (.slice A n c))) _ rfl;have a:=ae f;have e:X.pre nm i=nm++0::([75]++[UInt8.ofNat i]):=(by unfold X.pre;rw[if_neg h0];rfl);rw[e];have m:¬((i:Int)=0):=(by omega);have o:(i:Int)%256=i:=(by omega);have l:(w.alloc (eR nm size (.slice A n c))).heap.size=w.heap.size+1:=(by simp);rw[l]at h;clear f e h0;go_enter Tryz.func50,Tryz.ntmps50;go_wp2_with fail;refine b.o.mono ?_;rintro e w1 ⟨rfl,d⟩;have g:=ae (a.o.trans (d.mono a.o.size));clear d b a h;go_wp2;go_ret;exact⟨rfl,g.o⟩
def cQ (ks:List X.Ky):List Value:=ks.flatMap λk=>[.int .i64 (k.at_:Nat), .int .i64 (k.len:Nat), .bool k.dup]
theorem ny (l:List X.Ky):(cQ l).length=l.length*3:=by induction l with|nil=>rfl|cons a t b=>simp[cQ]at*;omega
theorem gQ:∀(l:List X.Ky) (i:Nat),i<l.length->(cQ l)[i*3]? =some (.int .i64 ((X.aH l i).at_:Nat))/\(cQ l)[i*3+1]? =some (.int .i64 ((X.aH l i).len:Nat))/\(cQ l)[i*3+2]? =some (.bool (X.aH l i).dup)
 |[],i,h=>by simp at h
 |a::t,0,_=>⟨rfl,rfl,rfl⟩
 |a::t,i+1,h=>by
  have:=gQ t i (by simpa using h);rw[show(i+1)*3=i*3+3 by omega]
  simpa [cQ,X.aH] using this
theorem DR (l:List X.Ky):∀u∈cQ l,u.oneCell'=true:=by
 intro u a;simp only[cQ,List.mem_flatMap,List.mem_cons,List.not_mem_nil,or_false]at a;obtain⟨p,_,rfl|rfl|rfl⟩:=a<;>rfl
theorem DT (a b:List X.Ky):cQ (a++b)=cQ a++cQ b:=by simp[cQ]
def dJ (w:World) (g:Nat) (ks:List X.Ky):Prop:=g<w.heap.size/\∀j u,(cQ ks)[j]? =some u->w.cell? ⟨g,j,none⟩=some u
section
variable {w w' : World} {g : Nat} {ks : List X.Ky}
theorem dJ.at_ (h:dJ w g ks) {i:Nat} (a:i<ks.length):w.cell? ⟨g,i*3,none⟩=some (.int .i64 ((X.aH ks i).at_:Nat)):=h.2 _ _ (gQ ks i a).1
theorem dJ.len (h:dJ w g ks) {i:Nat} (a:i<ks.length):w.cell? ⟨g,i*3+1,none⟩=some (.int .i64 ((X.aH ks i).len:Nat)):=h.2 _ _ (gQ ks i a).2.1
theorem dJ.dup (h:dJ w g ks) {i:Nat} (a:i<ks.length):w.cell? ⟨g,i*3+2,none⟩=some (.bool (X.aH ks i).dup):=h.2 _ _ (gQ ks i a).2.2
theorem dJ.below (h:dJ w g ks) (a:Below w.heap.size w w'):dJ w' g ks:=⟨av h.1 a.size,λj u b=>(a.cell (p:=⟨g,j,none⟩) h.1).trans (h.2 j u b)⟩
theorem dJ.block (h:dJ w g ks) (b:w.heap.size<=w'.heap.size) (a:w'.heap[g]? =w.heap[g]?):dJ w' g ks:=⟨av h.1 b,λj u c=>(World.cell?_of_block a).trans (h.2 j u c)⟩
end
theorem dM (nm:J.B) (size:Nat) (A:Option Addr) (n c i t:Nat) (v:J.B) (q:i<256) (x:t<4294967296) (l:nm.length<=1000) (y:v.length<=10000) (w:World):
  Calls Tryz.prog 57 #[kL nm size (.slice A n c), .int .i64 (i:Nat), .string ⟨v.toArray⟩, .int .i64 (t:Nat)] w λe w'=>e= .returned (.string ⟨(X.cy nm i v t).toArray⟩)/\Below w.heap.size w w':=by
 have m:=X.ia nm i;have o:(⟨(X.pre nm i).toArray⟩:ByteArray).size<=1003:=by rw[bm];omega
 have p:(⟨v.toArray⟩:ByteArray).size<=10000:=by rw[bm];exact y
 have f:Below w.heap.size w (w.alloc (eR nm size (.slice A n c))):=(ak _ w).alloc (aq _) _;have s:(⟨(X.pre nm i++v).toArray⟩:ByteArray).size<=12000:=by rw[bm,List.length_append];omega
 have e1:=gH (X.pre nm i) v;by_cases h0:i=0
 ·subst h0;have HP:=ae (bU nm size A n c 0 (by decide) l (w.alloc (eR nm size (.slice A n c))));have a:=ae f;have e:X.cy nm 0 v t=X.pre nm 0++v:=(by unfold X.cy X.tail;rw[if_pos rfl]);rw[e];generalize(⟨v.toArray⟩:ByteArray)=V at p e1|-;generalize(⟨(X.pre nm 0).toArray⟩:ByteArray)=P at o e1 HP|-;clear f e m;go_enter Tryz.func57,Tryz.ntmps57;go_wp2_with fail;refine HP.o.mono ?_;rintro e w1 ⟨rfl,d⟩;have b:=ae (a.o.trans (d.mono a.o.size));clear d HP a;go_wp2;go_ret;first|exact⟨rfl,b.o⟩|exact⟨by rw[e1],b.o⟩
 ·have HP:=ae (bU nm size A n c i q l (w.alloc (eR nm size (.slice A n c))));have a:=ae f;have e:X.cy nm i v t=(X.pre nm i++v)++R.cp t:=(by unfold X.cy X.tail;rw[if_neg h0,List.append_assoc]);rw[e];have e2:=gH (X.pre nm i++v) (R.cp t);have B:¬((i:Int)=0):=(by omega);have h:=ae (λw=>kK (t:Nat) w);rw[kG x]at h;have k:∀W:World,(convert 40 9 (.slice (some ⟨W.heap.size,0,none⟩) 4 4)).run Tryz.prog (W.alloc (.cells (dK (R.cp t)).toArray 5 (0,0)))= .ok (.string ⟨(R.cp t).toArray⟩) (W.alloc (.cells (dK (R.cp t)).toArray 5 (0,0))):=λW=>
   run_convert_bytes_back _ 40 9 5 ⟨W.heap.size,0,none⟩ 4 (R.cp t) Tryz.underlying40 Tryz.underlying5 Tryz.underlying9 (λj r=>by
    have:(⟨W.heap.size,0,none⟩:Addr).add j=⟨W.heap.size,j,none⟩:=(by unfold Addr.add;split<;>simp_all);rw[this];exact wz W _ _ _ j r)
  have u:(⟨(R.cp t).toArray⟩:ByteArray).size=4:=(by rw[bm];rfl);generalize(⟨v.toArray⟩:ByteArray)=V at p e1|-;generalize(⟨(X.pre nm i).toArray⟩:ByteArray)=P at o e1 HP|-;generalize(⟨(R.cp t).toArray⟩:ByteArray)=T at e2 k u|-;generalize(⟨(X.pre nm i++v).toArray⟩:ByteArray)=z at s e1 e2|-;clear f e m;go_enter Tryz.func57,Tryz.ntmps57;go_wp2_with fail;refine HP.o.mono ?_;rintro e w1 ⟨rfl,d⟩;have b:=ae (a.o.trans (d.mono a.o.size));clear d HP a;go_wp2_with fail;refine(h.o _).mono ?_;rintro e C ⟨rfl,rfl⟩;have g:=ae (b.o.alloc b.o.size (.cells (dK (R.cp t)).toArray 5 (0,0)));have k:=k w1;clear h b;go_wp2;go_ret;first|exact⟨rfl,g.o⟩|exact⟨by rw[e2],g.o⟩|exact⟨by simp only[List.append_assoc];rfl,g.o⟩
theorem cG (k:X.Ky) (v:Value) (l:J.B) (M:Nat->Prop) (w:World) (o:Sl w M v l) (b:k.at_+k.len<=l.length) (r:l.length<=1000000):
  Calls Tryz.prog 55 #[.agg #[.int .i64 (k.at_:Nat), .int .i64 (k.len:Nat), .bool k.dup],v] w λe w'=>e= .returned (.string ⟨(k.val l).toArray⟩)/\Below w.heap.size w w':=by
 obtain⟨A,c,rfl,j,h⟩:=o.by
 obtain⟨a,n,d⟩:=k;have b:a+n<=l.length:=b;have i:By (w.alloc (.cells #[.int .i64 (a:Nat), .int .i64 (n:Nat), .bool d] 66)) M A l.length l:=h.alloc _;have e:X.Ky.val ⟨a,n,d⟩ l=(l.take (a+n)).drop a:=by
  show(l.drop a).take n=_;rw[List.drop_take]
  congr 1;omega
 rw[e];have f:Below w.heap.size w (w.alloc (.cells #[.int .i64 (a:Nat), .int .i64 (n:Nat), .bool d] 66)):=(ak _ w).alloc (aq _) _;have f:=ae f;have HY:=ae i;have t:wrap64 ((a:Int)+(n:Int))=((a+n:Nat):Int):=by rw[IntWalk.wrap64_in _ (by omega)];omega
 clear o h i e;show Calls Tryz.prog 55 #[.agg #[.int .i64 (a:Nat), .int .i64 (n:Nat), .bool d], .slice A l.length c] w _;generalize s:l.length=len at b j r HY|-;go_enter Tryz.func55,Tryz.ntmps55;go_wp2_with (refine tP rfl _ _ _ rfl A len c rfl a (a+n) rfl rfl (by omega) b j ?_);intro p m;have g:=m.o _ _ _ HY.o;rw[Nat.add_sub_cancel_left]at g;have q:=ae g;clear g;clear m HY;go_wp2_with (refine gD rfl _ rfl p _ _ rfl q.o ?_);go_wp2;go_ret;exact⟨rfl,f.o⟩
theorem gI (l:J.B) (k:Nat) (h:k<=l.length) (w:World):(Instr.slice 9 (.string ⟨l.toArray⟩) (some (.int .i64 (k:Nat))) none none).run Tryz.prog w= .ok (.string ⟨(l.drop k).toArray⟩) w:=by
 have a:(⟨l.toArray⟩:ByteArray).size=l.length:=bm l;rw[run_slice_string_from_if (h:=Tryz.underlying9),if_pos ⟨by omega,by rw[a];omega⟩];rw[a,Int.toNat_natCast,ByteArray.extract_mk,List.take_of_length_le (by rw[List.length_drop];exact Nat.le_refl _)]
theorem ua (l:J.B) (k:Nat) (h:k<=l.length) (w:World):(Instr.slice 9 (.string ⟨l.toArray⟩) none (some (.int .i64 (k:Nat))) none).run Tryz.prog w= .ok (.string ⟨(l.take k).toArray⟩) w:=by
 have a:(⟨l.toArray⟩:ByteArray).size=l.length:=bm l;rw[run_slice_string_to_if (h:=Tryz.underlying9),if_pos ⟨by omega,by rw[a];omega⟩];rw[Int.toNat_natCast,ByteArray.extract_mk,List.drop_zero,Nat.sub_zero]
theorem DU {w':World} {b:Nat} {nm:J.B} {size:Nat} {a:Value} (h:w'.heap[b]? =some (eR nm size a)):∀j,w'.cell? ⟨b,j,none⟩=(#[.string ⟨nm.toArray⟩, .int .i64 size,a]:Array Value)[j]? :=aj w' b h
theorem ud (nm:J.B) (size g c:Nat) (ks:List X.Ky) (i:Nat) (x:J.B) (w:World) (p:dJ w g ks) (t:i<ks.length) (C:ks.length<=256) (y:nm.length<=1000) (l:X.lens ks i<=x.length) (A:x.length<=10000):
  Calls Tryz.prog 51 #[kL nm size (.slice (some ⟨g,0,none⟩) ks.length c), .int .i64 (i:Nat), .string ⟨(X.pre nm i++x).toArray⟩] w λe w'=>e= .returned (.string ⟨(x.take (X.lens ks i)).toArray⟩)/\Below w.heap.size w w':=by
 have z:=X.ia nm i;have q:=p.below ((ak _ w).alloc (aq _) (eR nm size (.slice (some ⟨g,0,none⟩) ks.length c)));have m:=heap_alloc_new w (eR nm size (.slice (some ⟨g,0,none⟩) ks.length c));have j:=ae ((ak _ w).alloc (aq _) (eR nm size (.slice (some ⟨g,0,none⟩) ks.length c)));have HP:=ae (λw=>bU nm size (some ⟨g,0,none⟩) ks.length c i (by omega) y w);have r:(⟨(X.pre nm i).toArray⟩:ByteArray).size=(X.pre nm i).length:=bm _;have f:=gI (X.pre nm i++x) (X.pre nm i).length (by rw[List.length_append];omega);rw[List.drop_left]at f;have k:=ua x (X.lens ks i) l;have o:(X.aH ks i).len=X.lens ks i:=rfl;have F:(i:Int)<(ks.length:Int):=by omega
 have G:(0:Int)<=(i:Int):=by omega
 generalize X.lens ks i=L at l k o|-;generalize(⟨(x.take L).toArray⟩:ByteArray)=R at k|-;generalize(⟨(X.pre nm i++x).toArray⟩:ByteArray)=E at f|-;generalize(⟨x.toArray⟩:ByteArray)=B at f k;generalize(⟨(X.pre nm i).toArray⟩:ByteArray)=P at r HP;generalize(X.pre nm i).length=H at r f z;clear p l A;go_enter Tryz.func51,Tryz.ntmps51;go_upto_region 1 with fail;refine aJ 12 (.rd 0 (.rd 1 (.rd 2 (.rd 6 (.rd 7 (.rd 8 (.rd 9 (.rd 10 (.rd 11 (.wr 3 (.rd 4 (.rd 5 .fin)))))))))))) (λw'=>dJ w' g ks/\w'.heap[w.heap.size]? =some (eR nm size (.slice (some ⟨g,0,none⟩) ks.length c))) ⟨q,m⟩ ?_;repeat
  refine aA (v:= ?_) (λw' b=> ?_) (λK a=> ?_);rotate_left
  ·have D:=DU b.2;have u:=b.1.len t;rw[o]at u;clear b;go_simp;try with_reducible rfl
  go_simp;refine a _ ?_;clear a K
 refine az (λK a=> ?_);go_simp;refine(HP.o _).mono ?_;rintro e w1 ⟨rfl,d⟩;have n:Below w.heap.size w w1:=j.o.drew.trans (d.mono j.o.size);refine a.out _ _ (λw'=>dJ w' g ks/\w'.heap[w.heap.size]? =some (eR nm size (.slice (some ⟨g,0,none⟩) ks.length c))) (λ_ h=>h) ⟨q.below (((ak _ _).drew).trans d),(d.block w.heap.size (by simp)).trans m⟩ ?_;clear a K;have s:=ae n;clear n d j HP;repeat
  refine aA (v:= ?_) (λw' b=> ?_) (λK a=> ?_);rotate_left
  ·clear b;go_simp;try with_reducible rfl
  go_simp;refine a _ ?_;clear a K
 show wpList _ _ _ _ _ _;go_wp2;go_ret;exact⟨rfl,s.o⟩
structure uM (w:World) (g o n:Nat) (a l:Nat->Int) (d:Nat->Bool):Prop where
 lt:g<w.heap.size
 a:∀i,i<n->w.cell? ⟨g,o+i*3,none⟩=some (.int .i64 (a i))
 l:∀i,i<n->w.cell? ⟨g,o+i*3+1,none⟩=some (.int .i64 (l i))
 d:∀i,i<n->w.cell? ⟨g,o+i*3+2,none⟩=some (.bool (d i))
theorem dJ.z {w:World} {g:Nat} {ks:List X.Ky} (h:dJ w g ks):uM w g 0 ks.length (λi=>((X.aH ks i).at_:Nat)) (λi=>((X.aH ks i).len:Nat)) (λi=>(X.aH ks i).dup):=
 ⟨h.1,λ_ a=>by rw[Nat.zero_add];exact h.at_ a,λ_ a=>by rw[Nat.zero_add];exact h.len a,λ_ a=>by rw[Nat.zero_add];exact h.dup a⟩
theorem uM.below {w w':World} {g o n:Nat} {a l:Nat->Int} {d:Nat->Bool} (h:uM w g o n a l d) (c:Below w.heap.size w w'):uM w' g o n a l d:=
 ⟨av h.lt c.size,λi b=>(c.cell (p:=⟨g,o+i*3,none⟩) h.lt).trans (h.a i b),λi b=>(c.cell (p:=⟨g,o+i*3+1,none⟩) h.lt).trans (h.l i b),λi b=>(c.cell (p:=⟨g,o+i*3+2,none⟩) h.lt).trans (h.d i b)⟩
theorem yw (g o n c:Nat) (a l:Nat->Int) (d:Nat->Bool) (p:Nat->Bool) (f:Nat) (z:Array Value) (w:World) (y:uM w g o n a l d) (L:n<=1000) (v:∀xs w,(callFunc f xs).run Tryz.prog w= .ok (.enter f xs) w)
  (C:∀i w1,i<n->Below w.heap.size w w1->Calls Tryz.prog f (#[.agg #[.int .i64 (a i), .int .i64 (l i), .bool (d i)]]++z) w1 λe w'=>e= .returned (.bool (p i))/\Below w1.heap.size w1 w'):
  Calls Tryz.prog 123 #[.slice (some ⟨g,o,none⟩) n c, .func (.func f) #[] z] w λe w'=>∃r:Int,e= .returned (.int .i64 r)/\decide (0<=r)=(List.range n).any p/\Below w.heap.size w w':=by
 have F:=ae C;have H:=ae y;have E:=ae v;clear C y v;go_enter Tryz.func123,Tryz.ntmps123;go_wp2_with fail;go_loopw [8] (fun i W=>∃k:Nat,k<=n/\i= .int .i64 k/\aa (Below w.heap.size w W/\∀j,j<k->p j=false)) (fun i _=>n - (intOf i).toNat)
 case atStart=>exact⟨0,Nat.zero_le _,rfl,ae ⟨ak _ _,λj I=>by omega⟩⟩
 case round=>
  obtain⟨k,y,rfl,b⟩:=hrel;by_cases q:k<n
  ·have t:=H.o.below b.o.1;have h1:=t.a k q;have A:=t.l k q;have B:=t.d k q;have h:=ae (F.o k wr q b.o.1);have v:=E.o;have u:=ae q;clear t;cases hp:p k with
   |false=>
    rw[hp]at h;go_wp2_with fail;refine h.o.mono ?_;rintro e D ⟨rfl,m⟩;have G:aa (Below w.heap.size w D/\∀j,j<k+1->p j=false):=ae ⟨b.o.1.trans (m.mono b.o.1.size),λj I=>by
     by_cases e:j=k
     ·rw[e];exact hp
     ·exact b.o.2 j (by omega)⟩
    clear m h b h1 A B hp;go_wp2;go_roundw
    case rel=>exact⟨k+1,u.o,by go_num,G⟩
    case measure=>have h1:=u.o;simp[intOf];omega
   |true=>
    rw[hp]at h;go_wp2_with fail;refine h.o.mono ?_;rintro e D ⟨rfl,m⟩;have s:=ae (b.o.1.trans (m.mono b.o.1.size));have HP:=ae hp;clear m h b h1 A B hp;go_wp2;go_ret;refine⟨_,rfl, ?_,s.o⟩;rw[decide_eq_true (by omega)];exact(List.any_eq_true.2 ⟨k,List.mem_range.2 u.o,HP.o⟩).symm
  ·obtain rfl:k=n:=(by omega);have s:=ae b.o;clear b;go_wp2;go_ret;refine⟨_,rfl, ?_,s.o.1⟩;rw[decide_eq_false (by omega)];exact(List.any_eq_false.2 (λx K=>by rw[s.o.2 x (List.mem_range.1 K)];decide)).symm
theorem kM (g o n c:Nat) (a l:Nat->Int) (d:Nat->Bool) (p:Nat->Bool) (f:Nat) (b:Array Value) (w:World) (q:uM w g o n a l d) (u:n<=1000) (k:∀xs w,(callFunc f xs).run Tryz.prog w= .ok (.enter f xs) w)
  (m:∀i w1,i<n->Below w.heap.size w w1->Calls Tryz.prog f (#[.agg #[.int .i64 (a i), .int .i64 (l i), .bool (d i)]]++b) w1 λe w'=>e= .returned (.bool (p i))/\Below w1.heap.size w1 w'):
  Calls Tryz.prog 93 #[.slice (some ⟨g,o,none⟩) n c, .func (.func f) #[] b] w λe w'=>e= .returned (.bool ((List.range n).any p))/\Below w.heap.size w w':=by
 have h:=ae (yw g o n c a l d p f b w q u k m);clear m q k;go_enter Tryz.func93,Tryz.ntmps93;go_wp2_with fail;refine h.o.mono ?_;rintro e w1 ⟨r,rfl,s,j⟩;have HR:=ae s;have t:=ae j;clear s j h;go_wp2;go_ret;exact⟨by rw[<-HR.o];rfl,t.o⟩
def sY (z a l:Int):Bool:=decide (a<0)||decide (l<1)||decide (160<l)||decide (z - l<a)
theorem GP (B:Nat) (nm:J.B) (z:Int) (j:Value) (a l:Int) (d:Bool) (n:1<=z/\z<=4096) (w:World) (c:w.heap[B]? =some (.cells #[.string ⟨nm.toArray⟩, .int .i64 z,j] 29 (0,0))):
  Calls Tryz.prog 94 #[.agg #[.int .i64 a, .int .i64 l, .bool d], .pointer (some ⟨B,0,none⟩)] w λe w'=>e= .returned (.bool (sY z a l))/\Below w.heap.size w w':=by
 have i:=(ai c).1;have f:Below w.heap.size w (w.alloc (.cells #[.int .i64 a, .int .i64 l, .bool d] 66)):=(ak _ w).alloc (aq _) _;have k:=ah (w.alloc (.cells #[.int .i64 a, .int .i64 l, .bool d] 66)) B 1 _ _ _ ((f.block B i).trans c);have b:=ae f;clear c f;unfold sY;by_cases h1:a<0
 ·rw[decide_eq_true h1];go_enter Tryz.func94,Tryz.ntmps94;go_wp2;go_ret;exact⟨rfl,b.o⟩
 ·rw[decide_eq_false h1];by_cases g:l<1
  ·rw[decide_eq_true g];go_enter Tryz.func94,Tryz.ntmps94;go_wp2;go_ret;exact⟨rfl,b.o⟩
  ·rw[decide_eq_false g];by_cases h:160<l
   ·rw[decide_eq_true h];go_enter Tryz.func94,Tryz.ntmps94;go_wp2;go_ret;exact⟨rfl,b.o⟩
   ·rw[decide_eq_false h];have m:wrap64 (z - l)=z - l:=IntWalk.wrap64_in _ (by omega);go_enter Tryz.func94,Tryz.ntmps94;go_wp2;go_ret;exact⟨rfl,b.o⟩
def nz (nm:J.B) (z:Int) (n:Nat) (a l:Nat->Int) (d:Nat->Bool):Bool:=
 !(decide (nm=[])||decide (100<nm.length)||decide (0<=Lib.indexByte nm 0)||decide (z<1)||decide (4096<z)||decide (n<1)||decide (8<n)||d 0)&& !(List.range n).any λi=>sY z (a i) (l i)
theorem GQ {nm:J.B} (h:nm≠[]):nm.isEmpty=false:=by cases nm<;>first|(exact absurd rfl h)|rfl
theorem PQ {x:J.B} (h:x≠[]):((⟨x.toArray⟩:ByteArray).toList==[])=false:=by
 rw[ByteArray.toList_eq]
 simpa using h
theorem wS (nm:J.B) (z:Int) (A:Option Addr) (g o n c:Nat) (a l:Nat->Int) (d:Nat->Bool) (w:World) (h:0<n->A=some ⟨g,o,none⟩/\uM w g o n a l d) (K:nm.length<=1000) (y:n<=1000):
  Calls Tryz.prog 37 #[.agg #[.string ⟨nm.toArray⟩, .int .i64 z, .slice A n c]] w λe w'=>e= .returned (.bool (nz nm z n a l d))/\Below w.heap.size w w':=by
 have f:=ae ((ak _ w).alloc (aq _) (.cells #[.string ⟨nm.toArray⟩, .int .i64 z, .slice A n c] 29 (0,0)));have b:=ae (λW=>Tryz.strings_Contains_one ⟨nm.toArray⟩ 0 W);have e0:(⟨nm.toArray⟩:ByteArray).data.toList=nm:=rfl;rw[e0]at b;have L:(⟨nm.toArray⟩:ByteArray).size=nm.length:=bm nm;unfold nz;by_cases h1:nm=[]
 ·subst h1;clear h;go_enter Tryz.func37,Tryz.ntmps37;go_wp2;go_ret;exact⟨rfl,f.o⟩
 ·rw[decide_eq_false h1];have I:((⟨nm.toArray⟩:ByteArray).toList==[])=false:=PQ h1;have H:=GQ h1;by_cases t:100<nm.length
  ·rw[decide_eq_true t];have B:(100:Int)<(nm.length:Nat):=(by omega);clear h;go_enter Tryz.func37,Tryz.ntmps37;go_wp2;go_ret;exact⟨rfl,f.o⟩
  ·rw[decide_eq_false t];have B:¬(100:Int)<(nm.length:Nat):=(by omega);by_cases u:0<=Lib.indexByte nm 0
   ·rw[decide_eq_true u]at b|-;clear h;go_enter Tryz.func37,Tryz.ntmps37;go_wp2_with fail;refine(b.o _).mono ?_;rintro e w1 ⟨rfl,rfl⟩;clear b;go_wp2;go_ret;exact⟨rfl,f.o⟩
   ·rw[decide_eq_false u]at b|-;by_cases j:z<1
    ·rw[decide_eq_true j];have C:decide (z<1)=true:=decide_eq_true j;clear h;go_enter Tryz.func37,Tryz.ntmps37;go_wp2_with fail;refine(b.o _).mono ?_;rintro e w1 ⟨rfl,rfl⟩;clear b;go_wp2;go_ret;exact⟨rfl,f.o⟩
    ·rw[decide_eq_false j];have C:decide (z<1)=false:=decide_eq_false j;by_cases k:4096<z
     ·rw[decide_eq_true k];have D:decide (4096<z)=true:=decide_eq_true k;clear h;go_enter Tryz.func37,Tryz.ntmps37;go_wp2_with fail;refine(b.o _).mono ?_;rintro e w1 ⟨rfl,rfl⟩;clear b;go_wp2;go_ret;exact⟨rfl,f.o⟩
     ·rw[decide_eq_false k];have D:decide (4096<z)=false:=decide_eq_false k;by_cases v:n<1
      ·rw[decide_eq_true v];have E:(n:Int)<1:=(by omega);clear h;go_enter Tryz.func37,Tryz.ntmps37;go_wp2_with fail;refine(b.o _).mono ?_;rintro e w1 ⟨rfl,rfl⟩;clear b;go_wp2;go_ret;exact⟨rfl,f.o⟩
      ·rw[decide_eq_false v];have E:¬(n:Int)<1:=(by omega);by_cases x:8<n
       ·rw[decide_eq_true x];have F:(8:Int)<(n:Nat):=(by omega);clear h;go_enter Tryz.func37,Tryz.ntmps37;go_wp2_with fail;refine(b.o _).mono ?_;rintro e w1 ⟨rfl,rfl⟩;clear b;go_wp2;go_ret;exact⟨rfl,f.o⟩
       ·rw[decide_eq_false x];have F:¬(8:Int)<(n:Nat):=(by omega);obtain⟨rfl,q⟩:=h (by omega);have p:=q.below ((ak _ w).alloc (aq _) (.cells #[.string ⟨nm.toArray⟩, .int .i64 z, .slice (some ⟨g,o,none⟩) n c] 29 (0,0)));have hd:=p.d 0 (by omega);rw[Nat.zero_mul,Nat.add_zero]at hd;have M:(0:Int)<(n:Nat):=(by omega);cases h8:d 0 with
        |true=>
         rw[h8]at hd;clear q p;go_enter Tryz.func37,Tryz.ntmps37;go_wp2_with fail;refine(b.o _).mono ?_;rintro e w1 ⟨rfl,rfl⟩;clear b;go_wp2;go_ret;exact⟨rfl,f.o⟩
        |false=>
         rw[h8]at hd;have s:=ae (kM g o n c a l d (λi=>sY z (a i) (l i)) 94 #[.pointer (some ⟨w.heap.size,0,none⟩)] _ p y (enters_of Tryz.func94 (by kernel_rfl) rfl)
          (λi w1 G m=>GP w.heap.size nm z (.slice (some ⟨g,o,none⟩) n c) (a i) (l i) (d i) (by omega) w1 ((m.block w.heap.size (by simp)).trans (heap_alloc_new w _))))
         clear q p;go_enter Tryz.func37,Tryz.ntmps37;go_wp2_with fail;refine(b.o _).mono ?_;rintro e w1 ⟨rfl,rfl⟩;clear b;go_wp2_with fail;refine s.o.mono ?_;rintro e w1 ⟨rfl,m⟩;have r:=ae (f.o.trans (m.mono f.o.size));clear m s f;go_wp2;go_ret;first|exact⟨rfl,r.o⟩|exact⟨by simp,r.o⟩
theorem LL (B:Nat) (A:Option Addr) (m c:Nat) (a l:Int) (d:Bool) (ha:0<=a/\a<=10000) (j:0<=l/\l<=10000) (w:World) (b:w.heap[B]? =some (.cells #[.slice A m c] 40 (0,0))):
  Calls Tryz.prog 104 #[.agg #[.int .i64 a, .int .i64 l, .bool d], .pointer (some ⟨B,0,none⟩)] w λe w'=>e= .returned (.bool (decide ((m:Int)<a+l)))/\Below w.heap.size w w':=by
 have h:=(ai b).1;have f:Below w.heap.size w (w.alloc (.cells #[.int .i64 a, .int .i64 l, .bool d] 66)):=(ak _ w).alloc (aq _) _;have i:=ah (w.alloc (.cells #[.int .i64 a, .int .i64 l, .bool d] 66)) B 0 _ _ _ ((f.block B h).trans b);have g:=ae f;have k:wrap64 (a+l)=a+l:=IntWalk.wrap64_in _ (by omega);clear b f;go_enter Tryz.func104,Tryz.ntmps104;go_wp2;go_ret;exact⟨rfl,g.o⟩
theorem GR (ks:List X.Ky) (m:Nat):(List.range ks.length).any (λi=>decide ((m:Int)<((X.aH ks i).at_:Nat)+((X.aH ks i).len:Nat)))= !(ks.all λk=>decide (k.at_+k.len<=m)):=by
 rw[Bool.eq_iff_iff,List.any_eq_true];simp only[Bool.not_eq_true',List.all_eq_false,decide_eq_true_eq,decide_eq_false_iff_not,List.mem_range];constructor
 ·rintro⟨i,a,h⟩;exact⟨_,X.aY a,by omega⟩
 ·rintro⟨k,b,h⟩;obtain⟨i,a,rfl⟩:=List.mem_iff_getElem.1 b;refine⟨i,a, ?_⟩;have:X.aH ks i=ks[i]:=(by unfold X.aH;simp[a]);rw[this];omega
theorem nA (nm:J.B) (size g c:Nat) (ks:List X.Ky) (A:Option Addr) (m cb:Nat) (w:World) (n:dJ w g ks) (u:ks.length<=1000) (s:∀k∈ks,k.at_<=10000/\k.len<=10000) (b:J.B) (t:b.length=m):
  Calls Tryz.prog 54 #[kL nm size (.slice (some ⟨g,0,none⟩) ks.length c), .slice A m cb] w λe w'=>e= .returned (.bool (X.bt ks size b))/\Below w.heap.size w w':=by
 have h:Below w.heap.size w (w.alloc (eR nm size (.slice (some ⟨g,0,none⟩) ks.length c))):=(ak _ w).alloc (aq _) _;have j:Below w.heap.size w ((w.alloc (eR nm size (.slice (some ⟨g,0,none⟩) ks.length c))).alloc (.cells #[.slice A m cb] 40 (0,0))):=h.alloc h.size _;have a:=ae j;have o:=(n.below j).z;have l:((w.alloc (eR nm size (.slice (some ⟨g,0,none⟩) ks.length c))).alloc (.cells #[.slice A m cb] 40 (0,0))).heap[w.heap.size+1]? =some (.cells #[.slice A m cb] 40 (0,0)):=by
  have:=heap_alloc_new (w.alloc (eR nm size (.slice (some ⟨g,0,none⟩) ks.length c))) (.cells #[.slice A m cb] 40 (0,0));rw[World.size_alloc]at this;exact this
 unfold X.bt;rw[t];by_cases h1:m<=size
 ·rw[decide_eq_true h1];have v:(m:Int)<=(size:Nat):=(by omega);have d:=ae (kM g 0 ks.length c _ _ _ (λi=>decide ((m:Int)<((X.aH ks i).at_:Nat)+((X.aH ks i).len:Nat))) 104 #[.pointer (some ⟨w.heap.size+1,0,none⟩)] _ o u (enters_of Tryz.func104 (by kernel_rfl) rfl)
   (λi w1 q f=>by
    have:=s _ (X.aY q);exact LL (w.heap.size+1) A m cb _ _ _ (by omega) (by omega) w1 ((f.block (w.heap.size+1) (by simp)).trans l)))
  rw[GR]at d;generalize(ks.all λk=>decide (k.at_+k.len<=m))=r at d|-;clear n o l h j;go_enter Tryz.func54,Tryz.ntmps54;go_wp2_with fail;refine d.o.mono ?_;rintro e w1 ⟨rfl,f⟩;have p:=ae (a.o.trans (f.mono a.o.size));clear f d a;go_wp2;go_ret;first|exact⟨rfl,p.o⟩|exact⟨by simp,p.o⟩
 ·rw[decide_eq_false h1];have v:¬(m:Int)<=(size:Nat):=(by omega);clear n o l h j;go_enter Tryz.func54,Tryz.ntmps54;go_wp2;go_ret;exact⟨rfl,a.o⟩
theorem LM (g c:Nat) (l:List Nat) (m:Nat) (w:World) (f:∀j (h:j<l.length),w.cell? ⟨g,j,none⟩=some (.int .u8 (l[j]:Nat))) (y:l.length<=10):
  Calls Tryz.prog 103 #[.slice (some ⟨g,0,none⟩) l.length c, .int .u8 (m:Nat)] w λe w'=>e= .returned (.bool (decide (m∈l)))/\w=w':=by
 have b:Calls Tryz.prog 135 #[.slice (some ⟨g,0,none⟩) l.length c, .int .u8 (m:Nat)] w λe w'=>∃r:Int,e= .returned (.int .i64 r)/\decide (0<=r)=decide (m∈l)/\w=w':=by
  generalize C:l.length=n at y|-;have t:=ae f;clear f;go_enter Tryz.func135,Tryz.ntmps135;go_wp2_with fail;go_loopw [8] (fun i W=>∃k:Nat,k<=n/\i= .int .i64 k/\W=w/\∀j (h:j<l.length),j<k->l[j]≠m) (fun i _=>n - (intOf i).toNat)
  case atStart=>exact⟨0,Nat.zero_le _,rfl,rfl,λj _ o=>by omega⟩
  case round=>
   obtain⟨k,B,rfl,rfl,a⟩:=hrel;by_cases A:k<n
   ·have v:=t.o k (by omega);have z:k<l.length:=(by omega);generalize d:l[k]=x at v;have p:=ae A;by_cases q:m=x
    ·subst q;have HX:aa (m∈l):=ae (d▸List.getElem_mem z);clear a d;go_wp2;go_ret;exact⟨_,rfl,by rw[decide_eq_true HX.o,decide_eq_true (by omega)],by first|rfl|trivial⟩
    ·have D:¬(m:Int)=(x:Nat):=(by omega);have u:aa (∀j (h:j<l.length),j<k+1->l[j]≠m):=ae (λj h o=>by
      by_cases e:j=k
      ·subst e;rw[d];exactλe=>q e.symm
      ·exact a j h (by omega))
     clear a d;go_wp2;go_roundw
     case rel=>exact⟨k+1,p.o,by go_num,by first|rfl|trivial,u.o⟩
     case measure=>have h1:=p.o;simp[intOf];omega
   ·obtain rfl:k=n:=(by omega);have HX:aa (m∉l):=ae (λh=>by
     obtain⟨j,o,e⟩:=List.mem_iff_getElem.1 h;exact a j o (by omega) e)
    clear a;go_wp2;go_ret;exact⟨_,rfl,by rw[decide_eq_false HX.o,decide_eq_false (by omega)],by first|rfl|trivial⟩
 have b:=ae b;clear f;go_enter Tryz.func103,Tryz.ntmps103;go_wp2_with fail;refine b.o.mono ?_;rintro e w1 ⟨r,rfl,s,rfl⟩;have HR:=ae s;clear s b;go_wp2;go_ret;exact⟨by rw[<-HR.o];rfl,rfl⟩
end Go.Proofs.YtipljcmmokaokaaGreat
