import Derived.Test.YtipljcmmokaokaaGreatQ06
set_option linter.unusedVariables false
set_option linter.unusedSimpArgs false
set_option maxHeartbeats 40000000
namespace Go.Proofs.YtipljcmmokaokaaGreat
open Go.RowKit Go.Lib
set_option maxRecDepth 100000
def AJ (w:World) (v:Value) (m:J.cS):Prop:=∃h0 h1 a0 a1,v=kE h0 h1 a0 a1/\Sl w bE h0 m.h0/\Sl w bE h1 m.h1/\Sl w bE a0 m.a0/\Sl w bE a1 m.a1
theorem AJ.below {w w':World} {v:Value} {m:J.cS} (h:AJ w v m) (a:Below w.heap.size w w'):AJ w' v m:=by
 obtain⟨h0,h1,a0,a1,rfl,q0,b,c,d⟩:=h;exact⟨h0,h1,a0,a1,rfl,q0.step (Step.aC a),b.step (Step.aC a),c.step (Step.aC a),d.step (Step.aC a)⟩
theorem nU {w:World} {base n:Nat} {v:Value} {l:List UInt8} (h:w.ownsRow base 5 1 v n (dK l)):Sl w bE v l:=wI h (λ_ h=>h.elim)
theorem Dx (v x:Value) (m:J.cS) (wr:J.Wr) (many:Nat) (w:World) (h:AJ w v m) (E:Sl w bE x wr.bs) (D:wr.kind<=2) (C:wr.idx<=1) (q:many<=wr.bs.length) (h0:wr.kind≠1->0<wr.bs.length) (n:wr.bs.length<=40000000)
  (F:m.h0.length<=40000000) (G:m.h1.length<=40000000) (H:m.a0.length<=40000000) (I:m.a1.length<=40000000):
  Calls Tryz.prog 79 #[v, .agg #[.int .u8 (wr.kind:Nat), .int .i64 (wr.idx:Nat),x], .int .i64 many] w λe w'=>∃v',e= .returned v'/\AJ w' v' (J.done m wr many)/\Below w.heap.size w w':=by
 obtain⟨O,P,M,N,rfl,q0,k,r,s⟩:=h;obtain⟨d,j,rfl,A,y0⟩:=q0.by
 obtain⟨f,c1,rfl,B,y1⟩:=k.by
 obtain⟨g,c2,rfl,K,y2⟩:=r.by
 obtain⟨i,c3,rfl,L,y3⟩:=s.by
 obtain⟨z,c4,rfl,p,l⟩:=E.by
 obtain⟨u,ix,bs⟩:=wr;simp only at D C q h0 n l p;have t:u≠1->∃b o,z=some ⟨b,o,none⟩:=λh=>by
  obtain⟨b,o,e,_⟩:=l.2 (h0 h);exact⟨b,o,e⟩
 rcases(show u=0\/u=1\/u=2 by omega)with rfl|rfl|rfl<;>rcases(show ix=0\/ix=1 by omega)with rfl|rfl
 ·obtain⟨b,o,rfl⟩:=t (by decide);refine(Gf d f g i _ _ _ _ _ j c1 c2 c3 c4 b o many w bE bE m.a0 bs y2 l q p H n).mono ?_;rintro e w' ⟨y,n',c',rfl,c,a⟩;exact⟨_,rfl,⟨_,_,_,_,rfl,q0.step (Step.aC a),k.step (Step.aC a),nU c,s.step (Step.aC a)⟩,a⟩
 ·obtain⟨b,o,rfl⟩:=t (by decide);refine(Gh d f g i _ _ _ _ _ j c1 c2 c3 c4 b o many w bE bE m.a1 bs y3 l q p I n).mono ?_;rintro e w' ⟨y,n',c',rfl,c,a⟩;exact⟨_,rfl,⟨_,_,_,_,rfl,q0.step (Step.aC a),k.step (Step.aC a),r.step (Step.aC a),nU c⟩,a⟩
 ·refine(tS d f g i z _ _ _ _ _ j c1 c2 c3 c4 many w).mono ?_;rintro e w' ⟨rfl,a⟩;exact⟨_,rfl,⟨_,_,_,_,rfl,q0.step (Step.aC a),k.step (Step.aC a),Sl.dV,s.step (Step.aC a)⟩,a⟩
 ·refine(tT d f g i z _ _ _ _ _ j c1 c2 c3 c4 many w).mono ?_;rintro e w' ⟨rfl,a⟩;exact⟨_,rfl,⟨_,_,_,_,rfl,q0.step (Step.aC a),k.step (Step.aC a),r.step (Step.aC a),Sl.dV⟩,a⟩
 ·obtain⟨b,o,rfl⟩:=t (by decide);refine(wu d f g i _ _ _ _ _ j c1 c2 c3 c4 b o many w bE bE m.h0 bs y0 A l q p F n).mono ?_;rintro e w' ⟨y,n',c',rfl,c,a⟩;exact⟨_,rfl,⟨_,_,_,_,rfl,nU c,k.step (Step.aC a),r.step (Step.aC a),s.step (Step.aC a)⟩,a⟩
 ·obtain⟨b,o,rfl⟩:=t (by decide);refine(wy d f g i _ _ _ _ _ j c1 c2 c3 c4 b o many w bE bE m.h1 bs y1 B l q p G n).mono ?_;rintro e w' ⟨y,n',c',rfl,c,a⟩;exact⟨_,rfl,⟨_,_,_,_,rfl,q0.step (Step.aC a),nU c,r.step (Step.aC a),s.step (Step.aC a)⟩,a⟩
end Go.Proofs.YtipljcmmokaokaaGreat
namespace Go.Proofs.YtipljcmmokaokaaGreat
open Go.RowKit Go.Lib Go.Maps Go.WideMaps
set_option maxRecDepth 100000
theorem yZ (p:Nat) (M:Nat->Prop) (s:J.St) (a i:Nat) (v:Value) (bs:List UInt8) (w:World) (h:bM w p M s) (B:a<=2) (z:i<=1) (n:Sl w M v bs) (m:bs.length<=40000000) (f:s.logged+bs.length<=100000000) (l:s.writes.length+1<=100000000) (h0:a≠1->0<bs.length)
  (t:s.disk.a0.length<=16000000) (u:s.disk.a1.length<=16000000) (x:s.disk.h0.length<=16000000) (y:s.disk.h1.length<=16000000):
  Calls Tryz.prog 130 #[.pointer (some ⟨p,0,none⟩), .agg #[.int .u8 a, .int .i64 i,v]] w λe w'=>(∃r,e= .returned r)/\∃M',bM w' p M' (J.write s ⟨a,i,bs⟩)/\Step M M' w w':=by
 obtain⟨A,c,rfl⟩:=n.aU;have g:=h.cap;have j:Sl w (λk=>M k/\k<w.heap.size) (.slice A bs.length c) bs:=n.weak (λk h=>h.1);have d:∀k,(λk=>M k/\k<w.heap.size) k->k<w.heap.size:=λk h=>h.2;have b:∀{e:Ending} {w':World} {L:J.St},((∃r,e= .returned r)/\∃M',bM w' p M' L/\Step (λk=>M k/\k<w.heap.size) M' w w')->(∃r,e= .returned r)/\∃M',bM w' p M' L/\Step M M' w w':=
  λ⟨h1,M',o,q⟩=>⟨h1,M',o,q.tU⟩
 rcases(show a=0\/a=1\/a=2 by omega)with rfl|rfl|rfl<;>rcases(show i=0\/i=1 by omega)with rfl|rfl
 ·exact(Dj p _ s A bs.length c bs w g d j f l rfl (h0 (by decide)) (by omega)).mono λe w' h=>b h
 ·exact(Dk p _ s A bs.length c bs w g d j f l rfl (h0 (by decide)) (by omega)).mono λe w' h=>b h
 ·exact(AG p _ s A bs.length c bs w g d j f l rfl).mono λe w' h=>b h
 ·exact(AH p _ s A bs.length c bs w g d j f l rfl).mono λe w' h=>b h
 ·exact(Dv p _ s A bs.length c bs w g d j f l rfl (h0 (by decide)) (by omega) m).mono λe w' h=>b h
 ·exact(Dw p _ s A bs.length c bs w g d j f l rfl (h0 (by decide)) (by omega) m).mono λe w' h=>b h
structure wJ (s:J.St) (m:List (J.B×J.B)):Prop where
 enc:(J.encs (J.values m)).length<=40000000
 com:s.commits<4611686018427387904
 key:∀p∈m,p.1.length<=maxLen
theorem cj {w:World} {base n size:Nat} {e:TypeId} {v:Value} {xs:List Value} (h:w.ownsRow base e size v n xs):∃A c,v= .slice A n c:=by
 rcases h.2 with⟨rfl,h0⟩|⟨g',cap,cur,rfl,_⟩
 ·exact⟨none,0,by rw[h0]⟩
 ·exact⟨_,_,rfl⟩
theorem fP.sl {w:World} {M:Nat->Prop} {v:Value} {l:List UInt8} (h:fP w M v l):Sl w bE v l:=by
 rcases h with⟨h,_⟩|h
 ·have a:l.length=l.length:=rfl;exact wI h (λk h=>h.elim)
 ·exact h.sl.weak (λk h=>h.elim)
theorem Dt {w:World} {M:Nat->Prop} {v:Value} {l:List UInt8} (h:fP w M v l):∃A c,v= .slice A l.length c:=by
 rcases h with⟨h,_⟩|h
 ·exact cj h
 ·obtain⟨A,e⟩:=h.aU;exact⟨_,_,e⟩
theorem ZR:Ok J.new:=
 ⟨by decide,by decide,by decide,by decide,by decide,by decide,by decide,by decide,(λh=>by cases h),(λ_=>rfl),by decide,by decide,by decide,by decide,by decide,by decide⟩
theorem JC (w:World):
  Calls Tryz.prog 9 #[] w λe w'=>∃p M,e= .returned (.pointer (some ⟨p,0,none⟩))/\br w' p M J.new/\(∀k,M k->w.heap.size<=k)/\Below w.heap.size w w':=by
 have a:= @run_makeMap Tryz.prog;go_enter Tryz.func9,Tryz.ntmps9;go_wp2_with fail;go_ret;refine⟨w.heap.size+1,λk=>w.heap.size<=k,rfl,⟨w.heap.size,none, .slice none 0 0, .slice none 0 0, .slice none 0 0, .slice none 0 0, .slice none 0 0, .slice none 0 0, .slice none 0 0, .slice none 0 0, .slice none 0 0, .slice none 0 0, ?_,by show _<=_;omega,⟨?_,aq _,rfl,dT.dV _ _ _,λk h=>(by cases h),⟨[],rfl,World.ownsRow_nil _ _ _ _,λk h=>(by cases h),λi h=>absurd h (by simp[J.new])⟩,bT.dV,bT.dV,bT.dV,bT.dV,Sl.dV,Sl.dV, .inr bT.dV, .inr bT.dV,λk h=>(by cases h)⟩,ZR⟩,λk h=>h,((ak _ w).alloc (aq _) _).alloc (by simp) _⟩
 ·have:=heap_alloc_new (w.alloc (.map #[] 0)) (.cells (bK J.new w.heap.size none (.slice none 0 0) (.slice none 0 0) (.slice none 0 0) (.slice none 0 0) (.slice none 0 0) (.slice none 0 0) (.slice none 0 0) (.slice none 0 0) (.slice none 0 0) (.slice none 0 0)) 99);rw[show(w.alloc (.map #[] 0)).heap.size=w.heap.size+1 by simp]at this;exact this
 ·exact(dx.made w _).step (Step.aC ((ak _ (w.alloc (.map #[] 0))).alloc (aq _) _)) (Below.heap_alloc _ _ _ (by simp))
end Go.Proofs.YtipljcmmokaokaaGreat
namespace Go.Proofs.YtipljcmmokaokaaGreat
open Go.RowKit Go.Lib
set_option maxRecDepth 100000
structure Pw (s:J.St):Prop where
 wr:∀wr∈s.writes,wr.kind<=2/\wr.idx<=1/\wr.bs.length<=20000000/\(wr.kind≠1->0<wr.bs.length)
 sz:∀k,(J.aW s.base (s.writes.take k)).h0.length<=40000000/\(J.aW s.base (s.writes.take k)).h1.length<=40000000/\(J.aW s.base (s.writes.take k)).a0.length<=40000000/\(J.aW s.base (s.writes.take k)).a1.length<=40000000
theorem Px {L:List J.Wr} {vs:List Value}:∀{i:Nat} (a:i<L.length) (b:i<vs.length),(dE L vs)[i*3]? =some (.int .u8 (L[i].kind:Nat))/\(dE L vs)[i*3+1]? =some (.int .i64 (L[i].idx:Nat))/\(dE L vs)[i*3+2]? =some vs[i]:=by
 induction L generalizing vs with
 |nil=>intro i a;simp at a
 |cons c t d=>
  intro i a b;cases vs with
  |nil=>simp at b
  |cons x vs=>
   have e:dE (c::t) (x::vs)= .int .u8 (c.kind:Nat):: .int .i64 (c.idx:Nat)::x::dE t vs:=rfl;cases i with
   |zero=>rw[e];exact⟨rfl,rfl,rfl⟩
   |succ k=>
    have:=d (vs:=vs) (i:=k) (by simp at a;omega) (by simp at b;omega);rw[e,show(k+1)*3=k*3+3 by omega]
    simpa using this
theorem AK {w:World} {M:Nat->Prop} {v:Value} {L:List J.Wr} (h:kC w M v L) {k:Nat} (d:k<L.length):∃g c x,v= .slice (some ⟨g,0,none⟩) L.length c/\L.length<=c/\w.cell? ⟨g,k*3,none⟩=some (.int .u8 (L[k].kind:Nat))/\w.cell? ⟨g,k*3+1,none⟩=some (.int .i64 (L[k].idx:Nat))/\w.cell? ⟨g,k*3+2,none⟩=some x/\Sl w bE x L[k].bs:=by
 obtain⟨vs,h1,b,i,e⟩:=h;rcases b.2 with⟨rfl,h0⟩|⟨g,cap,cur,rfl,m,l,f,n,o,p⟩
 ·omega
 ·have a:∀j,j<3->w.cell? ⟨g,k*3+j,none⟩=(dE L vs)[k*3+j]? :=λj q=>b.cellAt (k*3+j) (by omega);obtain⟨e0,e1,e2⟩:=Px d (show k<vs.length by omega);exact⟨g,cap,vs[k]'(by omega),rfl,f,(a 0 (by omega)).trans e0,(a 1 (by omega)).trans e1,(a 2 (by omega)).trans e2,(e k d (by omega)).weak (λ_ h=>h.elim)⟩
theorem Dy {w:World} {M:Nat->Prop} {v:Value} {L:List J.Wr} (h:kC w M v L):∃A c,v= .slice A L.length c/\L.length<=c:=by
 obtain⟨vs,h1,a,d,e⟩:=h;rcases a.2 with⟨rfl,h0⟩|⟨g,cap,cur,rfl,i,f,b,_⟩
 ·exact⟨none,0,by rw[h0],by omega⟩
 ·exact⟨_,_,rfl,b⟩
theorem Lq {w:World} {g:Nat} {t:TypeId} {j x1 x2 k v:Value} {l:List UInt8} (h:Sl w bE v l) (x:w.heap[g]? =some (.cells #[j,x1,x2,k] t (0,0))) (h0:∃A n c,j= .slice A n c) (h1:∃A n c,x1= .slice A n c) (p:∃A n c,x2= .slice A n c) (q:∃A n c,k= .slice A n c):Sl w (· =g) v l:=by
 rcases h with h|⟨b,o,c,e,r,s,d⟩
 ·exact .inl h
 ·refine .inr ⟨b,o,c,e,r,s,d.1,λi=> ?_⟩;obtain⟨b',o',m,u,_,f⟩:=d.2 i;refine⟨b',o',m,u,λa=> ?_,f⟩;have a:b'=g:=a;subst a;have:=(ah w b' (o'+0) _ _ _ x).symm.trans (f 0 i);obtain⟨_,_,_,rfl⟩:=h0;obtain⟨_,_,_,rfl⟩:=h1;obtain⟨_,_,_,rfl⟩:=p;obtain⟨_,_,_,rfl⟩:=q;rcases o' with _|_|_|_|o'<;>simp at this
theorem JD {w5 a:World} {g:Nat} {t:TypeId} {y0 y1 y2 y3:Value} {j:Nat×Nat} {m:J.cS} {b c d i:Option Addr} {k0 r s u e0 e1 e2 e3:Nat} (h:w5.heap[g]? =some (.cells #[.slice b k0 e0, .slice c r e1, .slice d s e2, .slice i u e3] t (0,0))) (o:AJ w5 (kE y0 y1 y2 y3) m) (n:w5.grownBy a (some g))
  {C:Array Value} (E:a.heap[g]? =some (.cells C t j)):AJ a (kE y0 y1 y2 y3) m:=by
 obtain⟨z,A,B,D,e,q0,w,x,y⟩:=o;have p:Step (· =g) (· =g) w5 a:=Step.bg n (λk e _=>by injection e with e;exact e.symm);have f:∀{v:Value} {l:List UInt8},Sl w5 bE v l->Sl a bE v l:=λq=>((Lq q h ⟨_,_,_,rfl⟩ ⟨_,_,_,rfl⟩ ⟨_,_,_,rfl⟩ ⟨_,_,_,rfl⟩).step p).weak (λ_ h=>h.elim);exact⟨z,A,B,D,e,f q0,f w,f x,f y⟩
def adj (w:World) (g:Nat) (m:J.cS) (wr:World):Prop:=
 Below w.heap.size w wr/\wr.heap[w.heap.size]? =some (.cells #[.slice none 0 0, .slice none 0 0, .slice none 0 0, .slice none 0 0] 80 (0,0))/\g<wr.heap.size/\∃y0 y1 y2 y3,wr.heap[g]? =some (.cells #[y0,y1,y2,y3] 80 (0,0))/\AJ wr (kE y0 y1 y2 y3) m
theorem GH (m:J.cS) (wr:J.Wr) (t:Nat) (c:wr.bs.length<=40000000) (h0:m.h0.length<=40000000) (h1:m.h1.length<=40000000) (a:m.a0.length<=40000000) (b:m.a1.length<=40000000):
  (J.done m wr t).h0.length<=90000000/\(J.done m wr t).h1.length<=90000000/\(J.done m wr t).a0.length<=90000000/\(J.done m wr t).a1.length<=90000000:=by
 unfold J.done;split
 ·unfold J.cS.bC J.cS.area;split
  ·exact⟨by show m.h0.length<=_;omega,by show m.h1.length<=_;omega,by show(m.a0++_).length<=_;rw[List.length_append,List.length_take];omega,by show m.a1.length<=_;omega⟩
  ·exact⟨by show m.h0.length<=_;omega,by show m.h1.length<=_;omega,by show m.a0.length<=_;omega,by show(m.a1++_).length<=_;rw[List.length_append,List.length_take];omega⟩
 ·split
  ·unfold J.cS.bC;split
   ·exact⟨by show m.h0.length<=_;omega,by show m.h1.length<=_;omega,Nat.zero_le _,by show m.a1.length<=_;omega⟩
   ·exact⟨by show m.h0.length<=_;omega,by show m.h1.length<=_;omega,by show m.a0.length<=_;omega,Nat.zero_le _⟩
  ·unfold J.cS.qE J.cS.head;split
   ·exact⟨by show(wr.bs.take t++m.h0.drop t).length<=_;rw[List.length_append,List.length_take,List.length_drop];omega,by show m.h1.length<=_;omega,by show m.a0.length<=_;omega,by show m.a1.length<=_;omega⟩
   ·exact⟨by show m.h0.length<=_;omega,by show(wr.bs.take t++m.h1.drop t).length<=_;rw[List.length_append,List.length_take,List.length_drop];omega,by show m.a0.length<=_;omega,by show m.a1.length<=_;omega⟩
def XT (p g gk o:Nat) (C B:Array Value) (x0 x1 x2:Value) (w:World):Prop:=
 w.heap[p]? =some (.cells C 99 (0,0))/\w.heap[g]? =some (.cells B 80 (0,0))/\w.cell? ⟨gk,o,none⟩=some x0/\w.cell? ⟨gk,o+1,none⟩=some x1/\w.cell? ⟨gk,o+2,none⟩=some x2
theorem Py:(∀(p:Nat) (M:Nat->Prop) (s:J.St) (k:Nat) (w:World) (h:br w p M s) (hc:Pw s) (dS:k<s.writes.length) (t:Nat) (TT:0<t) (ht:t<=(s.writes[k]).bs.length) (Ot:s.writes.length<=20000000),Calls Tryz.prog 31 #[.pointer (some ⟨p,0,none⟩), .int .i64 k, .int .i64 t] w λe w'=>∃v,e= .returned (.tuple #[v, .int .i64 0])/\yq w' (· <w.heap.size) v (J.done (J.aW s.base (s.writes.take k)) s.writes[k] t)/\Below w.heap.size w w')/\(∀(p:Nat) (M:Nat->Prop) (s:J.St) (k:Nat) (w:World) (h:br w p M s) (hc:Pw s) (hk:k<=s.writes.length) (Ot:s.writes.length<=20000000),Calls Tryz.prog 31 #[.pointer (some ⟨p,0,none⟩), .int .i64 k, .int .i64 0] w λe w'=>∃v,e= .returned (.tuple #[v, .int .i64 0])/\yq w' (· <w.heap.size) v (J.aW s.base (s.writes.take k))/\Below w.heap.size w w'):=by
 refine⟨?z0, ?z1⟩
 case' z0=>intro p M s k w h hc dS t TT ht Ot
 case' z1=>(intro p M s k w h hc hk Ot;have aI:=trivial)
 all_goals
  first
   |have aI:=aI
    skip
   |have hk:k<=s.writes.length:=Nat.le_of_lt dS
  have qz:=ae (λw1 (hb:Below w.heap.size w w1)=>gq p M s w1 (h.below hb));obtain⟨bn,bw,ch,wr,b0,b1,b2,b3,d0,d1,d2,d3,h1,h2,h3,h4⟩:=h;obtain⟨Aw,cw,rfl,hcw⟩:=Dy h3.wrs;obtain⟨A0,rfl⟩:=h3.f0.aU;obtain⟨A1,rfl⟩:=h3.f1.aU;obtain⟨A2,rfl⟩:=h3.f2.aU;obtain⟨A3,rfl⟩:=h3.f3.aU;first
   |have aI:=aI
    skip
   |obtain⟨gk,ck,xk,ek,ahG,k0,k1,k2,hsk⟩:=AK h3.wrs dS
    injection ek with ek1 _ ek2;subst ek1 ek2;obtain⟨Ak,clk,rfl⟩:=hsk.aU;have ahJ:gk<w.heap.size:=World.block_lt_of_cell? w ⟨gk,k*3,none⟩ k0;have K0:=ae k0;have K1:=ae k1;have K2:=ae k2;have HSK:=ae hsk;obtain⟨v1,v2,v3,v4⟩:=hc.wr s.writes[k] (List.getElem_mem dS);have HWK:=ae (And.intro v1 (And.intro v2 (And.intro v3 v4)));have HTT:=ae ht;have HGK:=ae ahJ;have anM:(0:Int)<(t:Int):=(by omega);have adl:¬((s.writes[k].bs.length:Nat):Int)<(t:Int):=(by omega);have ZT:¬(k:Int)=(s.writes.length:Int):=(by omega);have ahK:¬k=s.writes.length:=(by omega);have ahL:(k:Int)<(s.writes.length:Int):=(by omega);clear k0 k1 k2 hsk v1 v2 v3 v4;generalize hwk:s.writes[k]=wk at K0 K1 K2 HSK HWK HTT adl|-;have ahM:((k:Int)==(s.writes.length:Int))=false:=(by simpa using ZT);have ahN:decide ((t:Int)<0)=false:=(by simp<;>omega);have ahO:decide (wk.bs.length<t)=false:=(by have:=HTT.o;simp;omega);have ahP:decide (((wk.bs.length:Nat):Int)<(t:Int))=false:=(by simp;omega);clear hwk ht
  have H1:=ae h1;have H3:=ae h3;have HC:=ae hc;have HKM:=ae Ot;have hB:Below w.heap.size w (w.alloc (.cells #[.slice none 0 0, .slice none 0 0, .slice none 0 0, .slice none 0 0] 80)):=(ak _ _).alloc (aq _) _;have hr1:=(hB.block p (ai h1).1).trans h1;have uI:=aj _ p hr1;have HB:=ae hB;have HX:=ae (heap_alloc_new w (.cells #[.slice none 0 0, .slice none 0 0, .slice none 0 0, .slice none 0 0] 80));have fZ:¬(s.writes.length:Int)<(k:Int):=(by omega);have hk2:(k:Int)<=(cw:Int):=(by omega);clear h1 h2 h3 h4 hB hr1 hc Ot;go_enter Tryz.func31,Tryz.ntmps31;go_wp2_with fail;refine(qz.o _ HB.o).mono ?_;rintro e w1 ⟨rfl,rfl⟩;generalize w.alloc (.cells #[.slice none 0 0, .slice none 0 0, .slice none 0 0, .slice none 0 0] 80)=W at uI HB HX|-;have hpW:p<W.heap.size:=av (ai H1.o).1 HB.o.size;have hgW:w.heap.size<W.heap.size:=(ai HX.o).1;first
   |have aI:=aI
    have ZU:∀o j,(W.alloc o).cell? ⟨p,j,none⟩=(bK s bn bw ch (.slice Aw s.writes.length cw) (.slice A0 s.base.h0.length s.base.h0.length) (.slice A1 s.base.h1.length s.base.h1.length) (.slice A2 s.base.a0.length s.base.a0.length) (.slice A3 s.base.a1.length s.base.a1.length) d0 d1 d2 d3|>.toList.toArray)[j]? :=λo j=>(World.cell?_alloc_lt W o ⟨p,j,none⟩ hpW).trans (uI j)
    skip
   |have ZU:∀o j,(W.alloc o).cell? ⟨p,j,none⟩=(bK s bn bw ch (.slice (some ⟨gk,0,none⟩) s.writes.length cw) (.slice A0 s.base.h0.length s.base.h0.length) (.slice A1 s.base.h1.length s.base.h1.length) (.slice A2 s.base.a0.length s.base.a0.length) (.slice A3 s.base.a1.length s.base.a1.length) d0 d1 d2 d3|>.toList.toArray)[j]? :=λo j=>(World.cell?_alloc_lt W o ⟨p,j,none⟩ hpW).trans (uI j)
    have kW:=(HB.o.cell (p:=⟨gk,k*3+2,none⟩) HGK.o).trans K2.o;have kWA:∀o,(W.alloc o).cell? ⟨gk,k*3+2,none⟩=some (.slice Ak wk.bs.length clk):=λo=>(World.cell?_alloc_lt W o ⟨gk,k*3+2,none⟩ (av HGK.o HB.o.size)).trans kW
  have kZ:((k:Int)<0)=False:=(by simp<;>omega);have XU:(decide (s.writes.length<k))=false:=(by simp<;>omega);have NB:=ae hgW;clear hgW;go_wp2_with fail;have XV:Below w.heap.size w (W.alloc (.cells #[.slice A0 s.base.h0.length s.base.h0.length, .slice A1 s.base.h1.length s.base.h1.length, .slice A2 s.base.a0.length s.base.a0.length, .slice A3 s.base.a1.length s.base.a1.length] 80)):=HB.o.alloc HB.o.size _;have cO:=heap_alloc_new W (.cells #[.slice A0 s.base.h0.length s.base.h0.length, .slice A1 s.base.h1.length s.base.h1.length, .slice A2 s.base.a0.length s.base.a0.length, .slice A3 s.base.a1.length s.base.a1.length] 80);have hres:=(Below.heap_alloc W (.cells #[.slice A0 s.base.h0.length s.base.h0.length, .slice A1 s.base.h1.length s.base.h1.length, .slice A2 s.base.a0.length s.base.a0.length, .slice A3 s.base.a1.length s.base.a1.length] 80) w.heap.size NB.o).trans HX.o;generalize W.alloc (.cells #[.slice A0 s.base.h0.length s.base.h0.length, .slice A1 s.base.h1.length s.base.h1.length, .slice A2 s.base.a0.length s.base.a0.length, .slice A3 s.base.a1.length s.base.a1.length] 80)=W2 at XV cO hres|-;have Lr:=ae XV;have fk:=ae cO;have XW:=ae hres;have Uk:=ae (show AJ W2 (kE (.slice A0 s.base.h0.length s.base.h0.length) (.slice A1 s.base.h1.length s.base.h1.length) (.slice A2 s.base.a0.length s.base.a0.length) (.slice A3 s.base.a1.length s.base.a1.length)) s.base from⟨_,_,_,_,rfl,(H3.o.f0.sl.weak (λ_ h=>h.elim)).step (Step.aC XV),(H3.o.f1.sl.weak (λ_ h=>h.elim)).step (Step.aC XV),(H3.o.f2.sl.weak (λ_ h=>h.elim)).step (Step.aC XV),(H3.o.f3.sl.weak (λ_ h=>h.elim)).step (Step.aC XV)⟩);first
   |have aI:=aI
    clear XV cO hres uI ZU kZ XU
   |clear XV cO hres uI ZU kZ XU kW kWA adl ZT ahK ahM ahN ahO ahP
  go_loopw [10,68] (fun _ i wr=>∃j:Nat,j<=k/\i= .int .i64 j/\adj w W.heap.size (J.aW s.base (s.writes.take j)) wr) (fun _ i _=>k - (intOf i).toNat)
  case atStart=>exact⟨0,Nat.zero_le _,rfl,Lr.o,XW.o,(ai fk.o).1,_,_,_,_,fk.o,Uk.o⟩
  case round=>
   obtain⟨j,hj,rfl,hst⟩:=hrel;obtain⟨c1,c2,c3,y0,y1,y2,y3,c4,c5⟩:=hst;have C1:=ae c1;have C2:=ae c2;have C3:=ae c3;have C5:=ae c5;obtain⟨t0,t1,t2,t3,e,s0,s1,s2,s3⟩:=c5;injection e with e;injection e with e;injection e with e0 e;injection e with e1 e;injection e with e2 e;injection e with e3 e;subst e0 e1 e2 e3;obtain⟨B0,l0,g0,rfl⟩:=s0.slice3;obtain⟨B1,l1,g1,rfl⟩:=s1.slice3;obtain⟨B2,l2,g2,rfl⟩:=s2.slice3;obtain⟨B3,l3,g3,rfl⟩:=s3.slice3;have C4:=ae c4;clear s0 s1 s2 s3 c1 c2 c3 c4;by_cases hlt:j<k
   ·have Ls:j<s.writes.length:=(by omega);obtain⟨g,cg,x,e,hcg,r0,r1,r2,GD⟩:=AK H3.o.wrs Ls;first
     |have aI:=aI
      injection e with e1 _ e2;subst e1 e2
     |skip
      obtain⟨rfl,rfl⟩:gk=g/\cw=cg:=by
       injection e with e1 _ e2;injection e1 with e1;injection e1 with e1;exact⟨e1,e2⟩
    obtain⟨Ax,cx,rfl⟩:=GD.aU;first
     |have aI:=aI
      have pF:g<w.heap.size:=World.block_lt_of_cell? w ⟨g,j*3,none⟩ r0;have r0:=(C1.o.cell (p:=⟨g,j*3,none⟩) pF).trans r0;have r1:=(C1.o.cell (p:=⟨g,j*3+1,none⟩) pF).trans r1;have r2:=(C1.o.cell (p:=⟨g,j*3+2,none⟩) pF).trans r2
      skip
     |have pF:gk<w.heap.size:=World.block_lt_of_cell? w ⟨gk,j*3,none⟩ r0
      have r0:=(C1.o.cell (p:=⟨gk,j*3,none⟩) pF).trans r0;have r1:=(C1.o.cell (p:=⟨gk,j*3+1,none⟩) pF).trans r1;have r2:=(C1.o.cell (p:=⟨gk,j*3+2,none⟩) pF).trans r2
    have qy:=ae (show J.aW s.base (s.writes.take (j+1))=J.done (J.aW s.base (s.writes.take j)) s.writes[j] s.writes[j].bs.length by rw[List.take_succ_eq_append_getElem Ls,J.nQ]);obtain⟨w1,w2,w3,w4⟩:=HC.o.wr s.writes[j] (List.getElem_mem Ls);obtain⟨z1,z2,z3,z4⟩:=HC.o.sz j;have XP:=ae GD;generalize s.writes[j]=wj at r0 r1 r2 qy w1 w2 w3 w4 XP;have HW:=ae (And.intro w1 (And.intro w2 (And.intro w3 w4)));have HZ:=ae (And.intro z1 (And.intro z2 (And.intro z3 z4)));have adm:(j:Int)<(k:Int):=(by omega);have hjs:j<=20000000:=(by have:=HKM.o;omega);have Dz:Below wr.heap.size wr (wr.alloc (.cells #[.int .u8 (wj.kind:Nat), .int .i64 (wj.idx:Nat), .slice Ax wj.bs.length cx] 139)):=(ak _ _).alloc (aq _) _;have ahQ:=aj _ W.heap.size ((Dz.block _ C3.o).trans C4.o);have cV:=ae Dz;clear GD w1 w2 w3 w4 z1 z2 z3 z4 Dz;go_wp2_with fail;have hd:=Dx (kE (.slice B0 l0 g0) (.slice B1 l1 g1) (.slice B2 l2 g2) (.slice B3 l3 g3)) (.slice Ax wj.bs.length cx) _ wj wj.bs.length (wr.alloc (.cells #[.int .u8 (wj.kind:Nat), .int .i64 (wj.idx:Nat), .slice Ax wj.bs.length cx] 139)) (C5.o.below cV.o) (XP.o.step (Step.aC (dO (aq _) C1.o cV.o))) HW.o.1 HW.o.2.1 (aq _) HW.o.2.2.2 (by have:=HW.o.2.2.1;omega) HZ.o.1 HZ.o.2.1 HZ.o.2.2.1 HZ.o.2.2.2;refine hd.mono ?_;rintro e w5 ⟨v5,rfl,wK,eT⟩;clear hd;have HI:=ae wK;obtain⟨u0,u1,u2,u3,rfl,q0,q1,q2,q3⟩:=wK;obtain⟨D0,m0,f0,rfl⟩:=q0.slice3;obtain⟨D1,m1,f1,rfl⟩:=q1.slice3;obtain⟨D2,m2,f2,rfl⟩:=q2.slice3;obtain⟨D3,m3,f3,rfl⟩:=q3.slice3;have kY:Below wr.heap.size wr w5:=dO (by exact aq _) cV.o (eT.mono (by simp));have ew:=ae kY;have GI:=ae ((kY.block _ C3.o).trans C4.o);have pL:=aj w5 W.heap.size GI.o;have Dm:=aD GI.o;clear q0 q1 q2 q3 eT kY ahQ;go_wp2_with fail;go_roundw
    case rel=>
     have hg:=ay (ay (ay (ay (World.grownBy.refl w5 (some W.heap.size)) 0 (.slice D0 m0 f0)) 1 (.slice D1 m1 f1)) 2 (.slice D2 m2 f2)) 3 (.slice D3 m3 f3);have hrow:=aB (aB (aB (aB GI.o 0 (.slice D0 m0 f0)) 1 (.slice D1 m1 f1)) 2 (.slice D2 m2 f2)) 3 (.slice D3 m3 f3);refine⟨j+1,by omega,by go_num, ?_⟩;rw[qy.o];have hcs:=JD GI.o HI.o hg hrow;refine⟨(dO (aq _) C1.o ew.o).grown hg (aw C1.o.size ew.o.size) (λk e=>by cases e;exact Nat.le_of_lt NB.o), ?_, ?_,_,_,_,_,hrow,hcs⟩
     ·exact(hg.block _ (av NB.o (aw (Nat.le_of_lt C3.o) ew.o.size)) (λe=>by injection e with e;have:=NB.o;omega)).trans ((ew.o.block _ (Nat.lt_trans NB.o C3.o)).trans C2.o)
     ·exact av C3.o (aw ew.o.size hg.size)
    case measure=>
     simp[intOf];omega
   ·obtain rfl:j=k:=(by omega);have hcb:=aj wr W.heap.size C4.o;first
     |have aI:=aI
      skip
     |go_upto_region 12 with fail
      clear hcb;have G0:=ae ((C1.o.cell (p:=⟨gk,j*3,none⟩) HGK.o).trans K0.o);have G1:=ae ((C1.o.cell (p:=⟨gk,j*3+1,none⟩) HGK.o).trans K1.o);have G2:=ae ((C1.o.cell (p:=⟨gk,j*3+2,none⟩) HGK.o).trans K2.o);have HP:=ae ((C1.o.block p (ai H1.o).1).trans H1.o);have Pe:=ae (av HGK.o C1.o.size);refine bh 10 [(0,false),(1,false),(2,false),(3,false),(4,false),(5,false),(6,false),(7,false),(8,false),(9,true)] (XT p W.heap.size gk (j*3) (bK s bn bw ch (.slice (some ⟨gk,0,none⟩) s.writes.length cw) (.slice A0 s.base.h0.length s.base.h0.length) (.slice A1 s.base.h1.length s.base.h1.length) (.slice A2 s.base.a0.length s.base.a0.length) (.slice A3 s.base.a1.length s.base.a1.length) d0 d1 d2 d3) #[.slice B0 l0 g0, .slice B1 l1 g1, .slice B2 l2 g2, .slice B3 l3 g3] (.int .u8 (wk.kind:Nat)) (.int .i64 (wk.idx:Nat)) (.slice Ak wk.bs.length clk)) (by kernel_rfl) (by kernel_rfl) (λc a d v w h=>by cases d<;>exact h) ⟨HP.o,C4.o,G0.o,G1.o,G2.o⟩ ?_;repeat
       refine bS (v:= ?_) (by rfl) (by rfl) (λw' hS=> ?_) (λK hK=> ?_);rotate_left
       ·obtain⟨hS1,Jp,hS3,hS4,Ts⟩:=hS;have uI:=aj w' p hS1;have XA:=aj w' W.heap.size Jp;clear hS1 Jp;go_simp;try with_reducible rfl
       go_simp;refine hK _ ?_;clear hK K
      refine bG (by rfl) (λK hK=> ?_);go_simp
    have HZ:=ae (HC.o.sz j);first
     |have aI:=aI
      obtain⟨t0,t1,t2,t3,e,s0,s1,s2,s3⟩:=C5.o
      skip
     |have hd:=Dx (kE (.slice B0 l0 g0) (.slice B1 l1 g1) (.slice B2 l2 g2) (.slice B3 l3 g3)) (.slice Ak wk.bs.length clk) _ wk t wr.drew (C5.o.below (ak _ wr).drew) (HSK.o.step (Step.aC C1.o.drew)) HWK.o.1 HWK.o.2.1 HTT.o HWK.o.2.2.2 (by have:=HWK.o.2.2.1;omega) HZ.o.1 HZ.o.2.1 HZ.o.2.2.1 HZ.o.2.2.2
      refine hd.mono ?_;rintro e w5 ⟨v5,rfl,wK,eT⟩;clear hd;have hmt:J.done (J.aW s.base (s.writes.take j)) wk t=J.done (J.aW s.base (s.writes.take j)) wk t:=rfl;have hmz:=GH (J.aW s.base (s.writes.take j)) wk t (by have:=HWK.o.2.2.1;omega) HZ.o.1 HZ.o.2.1 HZ.o.2.2.1 HZ.o.2.2.2;generalize adn:J.done (J.aW s.base (s.writes.take j)) wk t=mt at wK hmz;have HMT:=ae adn;have HMZ:=ae hmz;clear hmt adn hmz;have HI:=ae wK;obtain⟨u0,u1,u2,u3,rfl,q0,q1,q2,q3⟩:=wK;obtain⟨E0,n0,f0,rfl⟩:=q0.slice3;obtain⟨E1,n1,f1,rfl⟩:=q1.slice3;obtain⟨E2,n2,f2,rfl⟩:=q2.slice3;obtain⟨E3,n3,f3,rfl⟩:=q3.slice3;have kY:Below wr.heap.size wr w5:=lM eT;have ew:=ae kY;have GI:=ae ((kY.block _ C3.o).trans C4.o);have qT:aa (XT p W.heap.size gk (j*3) (bK s bn bw ch (.slice (some ⟨gk,0,none⟩) s.writes.length cw) (.slice A0 s.base.h0.length s.base.h0.length) (.slice A1 s.base.h1.length s.base.h1.length) (.slice A2 s.base.a0.length s.base.a0.length) (.slice A3 s.base.a1.length s.base.a1.length) d0 d1 d2 d3) #[.slice B0 l0 g0, .slice B1 l1 g1, .slice B2 l2 g2, .slice B3 l3 g3] (.int .u8 (wk.kind:Nat)) (.int .i64 (wk.idx:Nat)) (.slice Ak wk.bs.length clk) w5):=
       ⟨(kY.block p (ai HP.o).1).trans HP.o,(kY.block _ C3.o).trans C4.o,(kY.cell (p:=⟨gk,j*3,none⟩) Pe.o).trans G0.o,(kY.cell (p:=⟨gk,j*3+1,none⟩) Pe.o).trans G1.o,(kY.cell (p:=⟨gk,j*3+2,none⟩) Pe.o).trans G2.o⟩
      refine hK.out _ _ qT.o ?_;clear hK K q0 q1 q2 q3 eT kY;have pL:=aj w5 W.heap.size GI.o;have Dm:=aD GI.o;show wpList _ _ _ _ _ _;go_upto_region 13 with fail;have hg:=ay (ay (ay (ay (World.grownBy.refl w5 (some W.heap.size)) 0 (.slice E0 n0 f0)) 1 (.slice E1 n1 f1)) 2 (.slice E2 n2 f2)) 3 (.slice E3 n3 f3);have hrow:=aB (aB (aB (aB GI.o 0 (.slice E0 n0 f0)) 1 (.slice E1 n1 f1)) 2 (.slice E2 n2 f2)) 3 (.slice E3 n3 f3);have XX:=JD GI.o HI.o hg hrow;have sT:=(dO (aq _) C1.o ew.o).grown hg (aw C1.o.size ew.o.size) (λk e=>by cases e;exact Nat.le_of_lt NB.o);have ZV:=(hg.block _ (av NB.o (aw (Nat.le_of_lt C3.o) ew.o.size)) (λe=>by injection e with e;have:=NB.o;omega)).trans ((ew.o.block _ (Nat.lt_trans NB.o C3.o)).trans C2.o);generalize(((w5.setCell ⟨W.heap.size,0,none⟩ (.slice E0 n0 f0)).setCell ⟨W.heap.size,1,none⟩ (.slice E1 n1 f1)).setCell ⟨W.heap.size,2,none⟩ (.slice E2 n2 f2)).setCell ⟨W.heap.size,3,none⟩ (.slice E3 n3 f3)=w6 at hrow XX sT ZV|-;have iw:=ae sT;have HX6:=ae ZV;have HL6:=ae (show w.heap.size<w6.heap.size from(ai ZV).1);have hcb:=aj w6 W.heap.size hrow;obtain⟨z0,z1,z2,z3,e,r0,r1,r2,r3⟩:=XX
    injection e with e;injection e with e;injection e with e0 e;injection e with e1 e;injection e with e2 e;injection e with e3 e;subst e0 e1 e2 e3;first
     |have aI:=aI
      have HCI:=ae (gY B0 B1 B2 B3 l0 l1 l2 l3 g0 g1 g2 g3 _ bE wr s0 s1 s2 s3 (by have:=HZ.o.1;omega) (by have:=HZ.o.2.1;omega) (by have:=HZ.o.2.2.1;omega) (by have:=HZ.o.2.2.2;omega));clear s0 s1 s2 s3
     |clear hg hrow sT ZV pL Dm
      have HCI:=ae (gY E0 E1 E2 E3 n0 n1 n2 n3 f0 f1 f2 f3 mt bE w6 r0 r1 r2 r3 HMZ.o.1 HMZ.o.2.1 HMZ.o.2.2.1 HMZ.o.2.2.2);clear r0 r1 r2 r3
    go_wp2_with fail;refine HCI.o.mono ?_;first
     |have aI:=aI
      rintro e w5 ⟨v5,rfl,wK,eT⟩
     |rintro e w7 ⟨v7,rfl,wK,eT⟩
    obtain⟨x0,x1,x2,x3,rfl,q0,q1,q2,q3⟩:=wK;obtain⟨D0,rfl⟩:=q0.aU;obtain⟨D1,rfl⟩:=q1.aU;obtain⟨D2,rfl⟩:=q2.aU;obtain⟨D3,rfl⟩:=q3.aU;have V0:=ae q0;have V1:=ae q1;have V2:=ae q2;have V3:=ae q3;first
     |have aI:=aI
      have Fw:w.heap.size<wr.heap.size:=Nat.lt_trans NB.o C3.o
      skip
     |have Fw:w.heap.size<w6.heap.size:=HL6.o
    have Js:=ae Fw;first
     |have aI:=aI
      have sU:=ae ((eT.block w.heap.size Fw).trans C2.o);have Fm:=aj w5 w.heap.size sU.o
      skip
     |have sU:=ae ((eT.block w.heap.size Fw).trans HX6.o)
      have Fm:=aj w7 w.heap.size sU.o
    have Dl:=aD sU.o;first
     |have aI:=aI
      have bJ:=ae (dO (aq _) C1.o eT);generalize XR:J.aW s.base (s.writes.take j)=mm at V0 V1 V2 V3 Fm|-;have yt:=ae XR;clear XR;clear q0 q1 q2 q3 eT Fw hcb HCI HZ C5
     |have bJ:=ae (dO (aq _) iw.o eT)
      clear q0 q1 q2 q3 eT Fw hcb HCI C5
    go_wp2_with fail;first
     |have aI:=aI
      have hrow:=aB (aB (aB (aB sU.o 0 (.slice D0 mm.h0.length mm.h0.length)) 1 (.slice D1 mm.h1.length mm.h1.length)) 2 (.slice D2 mm.a0.length mm.a0.length)) 3 (.slice D3 mm.a1.length mm.a1.length)
      skip
     |have hrow:=aB (aB (aB (aB sU.o 0 (.slice D0 mt.h0.length mt.h0.length)) 1 (.slice D1 mt.h1.length mt.h1.length)) 2 (.slice D2 mt.a0.length mt.a0.length)) 3 (.slice D3 mt.a1.length mt.a1.length)
    refine bodyPost_ret (cF rfl _ _ w.heap.size _ _ _ _ rfl hrow Tryz.underlying80 rfl (by kernel_rfl)) rfl ?_;first
     |have aI:=aI
      have hg:=ay (ay (ay (ay (World.grownBy.refl w5 (some w.heap.size)) 0 (.slice D0 mm.h0.length mm.h0.length)) 1 (.slice D1 mm.h1.length mm.h1.length)) 2 (.slice D2 mm.a0.length mm.a0.length)) 3 (.slice D3 mm.a1.length mm.a1.length);have hs:Step (· <wr.heap.size) (· <wr.heap.size) w5 _:=Step.bg hg (λk e _=>by cases e;exact Js.o);have hw:∀k,k<w.heap.size->k<wr.heap.size:=λk hk=>Nat.lt_trans hk Js.o;rw[yt.o]
     |have hg:=ay (ay (ay (ay (World.grownBy.refl w7 (some w.heap.size)) 0 (.slice D0 mt.h0.length mt.h0.length)) 1 (.slice D1 mt.h1.length mt.h1.length)) 2 (.slice D2 mt.a0.length mt.a0.length)) 3 (.slice D3 mt.a1.length mt.a1.length)
      have hs:Step (· <w6.heap.size) (· <w6.heap.size) w7 _:=Step.bg hg (λk e _=>by cases e;exact Js.o);have hw:∀k,k<w.heap.size->k<w6.heap.size:=λk hk=>Nat.lt_trans hk Js.o;rw[HMT.o]
    exact⟨_,rfl,⟨_,_,_,_,rfl,(V0.o.step hs).weak hw,(V1.o.step hs).weak hw,(V2.o.step hs).weak hw,(V3.o.step hs).weak hw⟩,bJ.o.grown hg bJ.o.size (λk e=>by cases e;exact aq _)⟩
abbrev Pz:= @Py.1
abbrev Lt:= @Py.2
abbrev ZW:Value:=kE (.slice none 0 0) (.slice none 0 0) (.slice none 0 0) (.slice none 0 0)
def XY (s:J.St) (W T:Int):Prop:=W<0\/(s.writes.length:Int)<W\/T<0\/(0<T/\(W=(s.writes.length:Int)\/∃(k:Nat) (h:k<s.writes.length),W=(k:Int)/\((s.writes[k].bs.length:Nat):Int)<T))
theorem PA (p:Nat) (M:Nat->Prop) (s:J.St) (W T:Int) (w:World) (h:br w p M s) (b:XY s W T):
  Calls Tryz.prog 31 #[.pointer (some ⟨p,0,none⟩), .int .i64 W, .int .i64 T] w λe w'=>e= .returned (.tuple #[ZW, .int .i64 13])/\Below w.heap.size w w':=by
 have q:=ae (λw1 (v:Below w.heap.size w w1)=>gq p M s w1 (h.below v));obtain⟨bn,bw,ch,wr,b0,b1,b2,b3,d0,d1,d2,d3,h1,t,f,u⟩:=h;obtain⟨E,H,rfl,N⟩:=Dy f.wrs;have H3:=ae f;have g:Below w.heap.size w (w.alloc (.cells #[.slice none 0 0, .slice none 0 0, .slice none 0 0, .slice none 0 0] 80)):=(ak _ _).alloc (aq _) _;have n:=(g.block p (ai h1).1).trans h1;have x:=aj _ p n;have c:=ae g;have HX:=ae (heap_alloc_new w (.cells #[.slice none 0 0, .slice none 0 0, .slice none 0 0, .slice none 0 0] 80));clear h1 t f u g n;go_enter Tryz.func31,Tryz.ntmps31;go_wp2_with fail;refine(q.o _ c.o).mono ?_;rintro e w1 ⟨rfl,rfl⟩;generalize w.alloc (.cells #[.slice none 0 0, .slice none 0 0, .slice none 0 0, .slice none 0 0] 80)=d at x c HX|-;have L:=aj d w.heap.size HX.o;have O:=aD HX.o;have m:∀(w':World),w'=(((d.setCell ⟨w.heap.size,0,none⟩ (.slice none 0 0)).setCell ⟨w.heap.size,1,none⟩ (.slice none 0 0)).setCell ⟨w.heap.size,2,none⟩ (.slice none 0 0)).setCell ⟨w.heap.size,3,none⟩ (.slice none 0 0)->w'.heap[w.heap.size]? =some (.cells #[.slice none 0 0, .slice none 0 0, .slice none 0 0, .slice none 0 0] 80 (0,0))/\Below w.heap.size w w':=by
  rintro w' rfl;have y:=ay (ay (ay (ay (World.grownBy.refl d (some w.heap.size)) 0 (.slice none 0 0)) 1 (.slice none 0 0)) 2 (.slice none 0 0)) 3 (.slice none 0 0);exact⟨aB (aB (aB (aB HX.o 0 (.slice none 0 0)) 1 (.slice none 0 0)) 2 (.slice none 0 0)) 3 (.slice none 0 0),c.o.grown y c.o.size (λk e=>by cases e;exact aq _)⟩
 have a:=ae m;clear m;by_cases c1:W<0
 ·clear b;go_wp2_with fail;refine bodyPost_ret (cF rfl _ _ w.heap.size _ _ _ _ rfl (a.o _ rfl).1 Tryz.underlying80 rfl (by kernel_rfl)) rfl ?_;exact⟨rfl,(a.o _ rfl).2⟩
 by_cases c2:(s.writes.length:Int)<W
 ·clear b;go_wp2_with fail;refine bodyPost_ret (cF rfl _ _ w.heap.size _ _ _ _ rfl (a.o _ rfl).1 Tryz.underlying80 rfl (by kernel_rfl)) rfl ?_;exact⟨rfl,(a.o _ rfl).2⟩
 by_cases c3:T<0
 ·clear b;go_wp2_with fail;refine bodyPost_ret (cF rfl _ _ w.heap.size _ _ _ _ rfl (a.o _ rfl).1 Tryz.underlying80 rfl (by kernel_rfl)) rfl ?_;exact⟨rfl,(a.o _ rfl).2⟩
 obtain⟨I,b⟩:=(((b.resolve_left c1).resolve_left c2).resolve_left c3);rcases b with rfl|⟨k,z,rfl,A⟩
 ·clear c1 c2;go_wp2_with fail;refine bodyPost_ret (cF rfl _ _ w.heap.size _ _ _ _ rfl (a.o _ rfl).1 Tryz.underlying80 rfl (by kernel_rfl)) rfl ?_;exact⟨rfl,(a.o _ rfl).2⟩
 ·obtain⟨gk,F,U,r,K,k0,B,o,l⟩:=AK H3.o.wrs z;injection r with ek1 _ ek2;subst ek1 ek2;obtain⟨D,G,rfl⟩:=l.aU;have C:=(c.o.cell (p:=⟨gk,k*3+2,none⟩) (World.block_lt_of_cell? w ⟨gk,k*3,none⟩ k0)).trans o;have P:((k:Int)==(s.writes.length:Int))=false:=(by simp;omega);have Q:(k:Int)<(s.writes.length:Int):=(by omega);generalize s.writes[k]=S at A C l;clear k0 B o l;go_wp2_with fail;refine bodyPost_ret (cF rfl _ _ w.heap.size _ _ _ _ rfl (a.o _ rfl).1 Tryz.underlying80 rfl (by kernel_rfl)) rfl ?_;exact⟨rfl,(a.o _ rfl).2⟩
end Go.Proofs.YtipljcmmokaokaaGreat
namespace Go.Proofs.YtipljcmmokaokaaGreat
open Go.RowKit Go.Lib Go.Maps Go.WideMaps
set_option maxRecDepth 100000
theorem DA (w:World) (x y:Value):(Instr.index 78 (.agg #[x,y]) (.int .i64 0)).run Tryz.prog w= .ok x w:=by
 simp[Instr.index,run_underlying Tryz.underlying78,asIntOf,go_sem]
theorem DB (w:World) (x y:Value):(Instr.index 78 (.agg #[x,y]) (.int .i64 1)).run Tryz.prog w= .ok y w:=by
 simp[Instr.index,run_underlying Tryz.underlying78,asIntOf,go_sem]
def XZ:Option (Nat×Nat)->Bool×Nat×Nat×Nat
 |none=>(false,0,0,1)
 |some (g,a)=>(true,g,a,0)
def Uo:Option (Nat×Nat)->Option (Nat×Nat)->Nat×Nat×Nat
 |none,none=>(0,0,1)
 |some (g,a),none=>(g,a,0)
 |none,some (g,a)=>(g,a,1)
 |some (g,a),some (g',a')=>if g<g' then(g',a',1)else(g,a,0)
theorem Up {v0:Option (Nat×Nat)} {c:Bool} {g a b:Nat} (h:(c,g,a,b)=XZ v0):(g,a,b)=Uo v0 none:=by
 rcases v0 with _|⟨d,a0⟩<;>(simp[XZ]at h;simp[Uo,h])
theorem JE {v0:Option (Nat×Nat)} {c:Bool} {g a d g1 a1:Nat} (b:c=false\/g<g1) (h:(c,g,a,d)=XZ v0):(g1,a1,1)=Uo v0 (some (g1,a1)):=by
 rcases v0 with _|⟨e,a0⟩
 ·rfl
 ·simp[XZ]at h;obtain⟨rfl,rfl,rfl,rfl⟩:=h;have b:g<g1:=by rcases b with h|h;cases h;exact h
  simp[Uo,b]
theorem Uq {v0:Option (Nat×Nat)} {g a b g1 a1:Nat} (c:¬g<g1) (h:(true,g,a,b)=XZ v0):(g,a,b)=Uo v0 (some (g1,a1)):=by
 rcases v0 with _|⟨d,a0⟩
 ·simp[XZ]at h
 ·simp[XZ]at h;obtain⟨rfl,rfl,rfl⟩:=h;simp[Uo,c]
theorem np {a b c:World} {n:Nat} (h:Below n a b) (k:Below n b c):Below n a c:=
 ⟨k.os.trans h.os,k.tape.trans h.tape,k.output.trans h.output,aw h.size k.size,λi d=>(k.block i d).trans (h.block i d)⟩
theorem eX {M:Nat->Prop} {w:World} (k:Nat):Step M M w (w.drewN k):=⟨rfl,rfl,rfl,aq _,λ_ _ _=>rfl,λ_ _ h=>h⟩
theorem iy {w:World} {g k:Nat} {o:Obj} (h:w.heap[g]? =some o):(w.drewN k).heap[g]? =some o:=h
theorem ZX (h0 h1:J.B):Uo (J.valid h0) (J.valid h1)=J.current h0 h1:=by
 unfold Uo J.current;cases J.valid h0<;>cases J.valid h1<;>rfl
theorem Ur {c wr:World} {p bn:Nat} {b:Nat->Prop} {bw:Option Nat} {ch i b0 b1 b2 b3 d0 d1 d2 d3 l m n o:Value} {h0 h1 a0 a1:J.B} {g a r:Nat} (r1:c.heap[p]? =some (.cells (bK J.new bn bw ch i b0 b1 b2 b3 d0 d1 d2 d3) 99 (0,0))) (r2:b p)
  (q:cA c b J.new bn bw ch i b0 b1 b2 b3 d0 d1 d2 d3) (d:Step (· =p) (· =p) c wr) (k0:bT c b l h0) (w:bT c b m h1) (x:bT c b n a0) (y:bT c b o a1)
  (v:wr.heap[p]? =some (.cells (bK {J.new with gen:=g,area:=a,side:=r} bn bw ch i l m n o d0 d1 d2 d3) 99 (0,0))):bM wr p b {J.new with gen:=g,area:=a,side:=r,base:=⟨h0,h1,a0,a1⟩}/\Step b b c wr:=by
 have f:Step b b c wr:=⟨d.os,d.tape,d.output,d.size,λk j u=>d.block k j (λe=>u (e▸r2)),λk _ h=>h⟩;have P:=q.keep f (λk j t s=>⟨t,d.block k j (λe=>q.ne r1 r2 (e▸s))⟩);exact⟨⟨bn,bw,ch,i,l,m,n,o,d0,d1,d2,d3,v,r2,P.now,P.mbn,P.was,P.chs,P.mch,P.wrs,k0.step f,w.step f,x.step f,y.step f,P.e0,P.e1,P.e2,P.e3,P.dd⟩,f⟩
theorem PB {w:World} {M:Nat->Prop} {v:Value} {h:J.B} (k:bT w M v h):bT w M (if J.valid h=none then .slice none 0 0 else v) (if J.valid h=none then []else h):=by
 split
 ·exact bT.dV
 ·exact k
def ado (w3 : World) (p bn : Nat) (bw : Option Nat) (ch wr b2 b3 d0 d1 d2 d3 x0 x1 : Value) (v0 v1 : Option (Nat × Nat)) (f i : Value) (W : World) : Prop :=
  ∃ (k : Nat) (fb : Bool) (g a sd : Nat) (u0 u1 : Value), i = .int .i64 k /\ f = .bool fb /\
    ((k = 0 /\ fb = false /\ g = 0 /\ a = 0 /\ sd = 1 /\ u0 = x0 /\ u1 = x1) \/
     (k = 1 /\ (fb, g, a, sd) = XZ v0 /\ u0 = (if v0 = none then .slice none 0 0 else x0) /\ u1 = x1) \/
     (k = 2 /\ (g, a, sd) = Uo v0 v1 /\ u0 = (if v0 = none then .slice none 0 0 else x0) /\ u1 = (if v1 = none then .slice none 0 0 else x1))) /\
    W.heap[p]? = some (.cells (bK { J.new with gen := g, area := a, side := sd } bn bw ch wr u0 u1 b2 b3 d0 d1 d2 d3) 99 (0, 0)) /\ Step (· = p) (· = p) w3 W
def adp (W0:World) (p:Nat) (s:J.St) (M:Nat->Prop) (l:J.B) (g:Nat) (i:Value) (W:World):Prop:=
 ∃(at_ c:Nat) (now:List (J.B×J.B)) (M':Nat->Prop),i= .int .i64 at_/\J.Reads g l 0 0 [] at_ c now/\bM W p M' {s with commits:=c,now:=now}/\Step M M' W0 W
theorem bM.drew {w:World} {p:Nat} {M:Nat->Prop} {s:J.St} (h:bM w p M s):bM w.drew p M s:=h.below (ak _ _).drew
theorem JF {w:World} {M:Nat->Prop} {v:Value} {l:J.B} (h:bT w M v l) {k:Nat} (e:v.ownBlock=some k):¬M k:=by
 rcases h with⟨rfl,_⟩|⟨b,o,rfl,_,_,a,_⟩
 ·cases e
 ·simp[Value.ownBlock]at e;first|(subst e;exact a)|(obtain⟨rfl,_⟩:=e;exact a)|(obtain⟨_,rfl⟩:=e;exact a)
def AO (w:World) (m:J.cS) (e:Ending) (w':World):Prop:=
 match J.recover m with
 | .ok s=>∃p M,e= .returned (.tuple #[.pointer (some ⟨p,0,none⟩), .int .i64 0])/\br w' p M s/\(∀k,M k->w.heap.size<=k)/\Below w.heap.size w w'
 | .error er=>e= .returned (.tuple #[.pointer none, .int .i64 er])/\Below w.heap.size w w'
theorem yu (G H l Y:Option Addr) (N c1 c2 c3:Nat) (m:J.cS) (M:Nat->Prop) (w:World) (q0:Sl w M (.slice G m.h0.length N) m.h0) (q1:Sl w M (.slice H m.h1.length c1) m.h1) (q2:Sl w M (.slice l m.a0.length c2) m.a0) (q3:Sl w M (.slice Y m.a1.length c3) m.a1)
  (z0:m.h0.length<=90000000) (z1:m.h1.length<=90000000) (z2:m.a0.length<=8388608) (z3:m.a1.length<=8388608) (k5:(max (m.a0.length:Int) (m.a1.length:Int))<=8388608):
  Calls Tryz.prog 32 #[Gs (.slice G m.h0.length N) (.slice H m.h1.length c1) (.slice l m.a0.length c2) (.slice Y m.a1.length c3)] w (AO w m):=by
 have e5:=ae ((ak _ w).alloc (aq _) (.cells #[.slice G m.h0.length N, .slice H m.h1.length c1, .slice l m.a0.length c2, .slice Y m.a1.length c3] 80));have HX:=ae (heap_alloc_new w (.cells #[.slice G m.h0.length N, .slice H m.h1.length c1, .slice l m.a0.length c2, .slice Y m.a1.length c3] 80));have h5:=ae (λw1 (z:Below w.heap.size w w1)=>gY G H l Y _ _ _ _ N c1 c2 c3 m M w1 (q0.step (Step.aC z)) (q1.step (Step.aC z)) (q2.step (Step.aC z)) (q3.step (Step.aC z)) z0 z1 (by omega) (by omega));have h0:∀w1,Below w.heap.size w w1->Calls Tryz.prog 81 #[.slice G m.h0.length N] w1 λe w'=>e= .returned (fD m.h0)/\∃k,w'=w1.drewN k:=λw1 z=>by
  obtain⟨A,c,e,hc,O⟩:=(q0.step (Step.aC z)).by
  injection e with e1 e2 e3;subst e1 e3;exact yP _ _ _ _ w1 M O hc z0
 have T:∀w1,Below w.heap.size w w1->Calls Tryz.prog 81 #[.slice H m.h1.length c1] w1 λe w'=>e= .returned (fD m.h1)/\∃k,w'=w1.drewN k:=λw1 z=>by
  obtain⟨A,c,e,hc,O⟩:=(q1.step (Step.aC z)).by
  injection e with e1 e2 e3;subst e1 e3;exact yP _ _ _ _ w1 M O hc z1
 have i0:=ae h0;have i1:=ae T;clear q0 q1 q2 q3 h0 T;have l3:=DA;have k4:=DB;go_enter Tryz.func32,Tryz.ntmps32;go_wp2_with fail;refine(JC _).mono ?_;rintro e E ⟨p,L,rfl,hst,g0,c7⟩;generalize w.alloc (.cells #[.slice G m.h0.length N, .slice H m.h1.length c1, .slice l m.a0.length c2, .slice Y m.a1.length c3] 80)=w1 at*;have e4:=(c7.block _ (ai HX.o).1).trans HX.o;have d4:=aj E w.heap.size e4;have f2:=ae e4;have e6:=ae (dO (aq _) e5.o c7);have c6:=ae hst.q.1.cap;have b4:=ae (λk (hk:L k/\k<E.heap.size)=>aw e5.o.size (g0 k hk.1));clear c7 e4 hst g0;go_wp2_with fail;refine(h5.o _ e6.o).mono ?_;rintro e V ⟨v3,rfl,i9,b5⟩;obtain⟨y0,y1,y2,y3,rfl,k0,k1,k2,k3⟩:=i9;obtain⟨B0,rfl⟩:=k0.aU;obtain⟨B1,rfl⟩:=k1.aU;obtain⟨s,rfl⟩:=k2.aU;obtain⟨t,rfl⟩:=k3.aU;obtain⟨bn,bw,ch,h4,b0,b1,b2,b3,d0,d1,d2,d3,r1,r2,r3⟩:=c6.o.below b5;have i6:=aj V p r1;have i7:=aD r1;have h1:=(b5.block _ (ai f2.o).1).trans f2.o;have i5:=aj V w.heap.size h1;have a8:=ae (dO (aq _) e6.o b5);have R1:=ae r1;have R2:=ae r2;have R3:=ae r3;have V0:=ae (k0.weak (M':=λk=>L k/\k<E.heap.size) (λk h=>h.2));have V1:=ae (k1.weak (M':=λk=>L k/\k<E.heap.size) (λk h=>h.2));have V2:=ae (k2.weak (M':=λk=>L k/\k<E.heap.size) (λk h=>h.2));have V3:=ae (k3.weak (M':=λk=>L k/\k<E.heap.size) (λk h=>h.2));have g6:=b4.o p r2;have h6:=ae g6;clear d4 h1 b5 k0 k1 k2 k3 r1 r2 r3 g6;go_wp2_with fail;clear i5 i6 i7;have e0:ado V p bn bw ch h4 (.slice s m.a0.length m.a0.length) (.slice t m.a1.length m.a1.length) d0 d1 d2 d3 (.slice B0 m.h0.length m.h0.length) (.slice B1 m.h1.length m.h1.length) (J.valid m.h0) (J.valid m.h1) (.bool false) (.int .i64 0) ((((V.setCell ⟨p,11,none⟩ (.slice B0 m.h0.length m.h0.length)).setCell ⟨p,12,none⟩ (.slice B1 m.h1.length m.h1.length)).setCell ⟨p,13,none⟩ (.slice s m.a0.length m.a0.length)).setCell ⟨p,14,none⟩ (.slice t m.a1.length m.a1.length)):=
  ⟨0,false,0,0,1,_,_,rfl,rfl, .inl ⟨rfl,rfl,rfl,rfl,rfl,rfl,rfl⟩,aB (aB (aB (aB R1.o 11 _) 12 _) 13 _) 14 _,Step.bg (ay (ay (ay (ay (World.grownBy.refl V (some p)) 11 _) 12 _) 13 _) 14 _) (λk e _=>by cases e;rfl)⟩
 generalize(((V.setCell ⟨p,11,none⟩ (.slice B0 m.h0.length m.h0.length)).setCell ⟨p,12,none⟩ (.slice B1 m.h1.length m.h1.length)).setCell ⟨p,13,none⟩ (.slice s m.a0.length m.a0.length)).setCell ⟨p,14,none⟩ (.slice t m.a1.length m.a1.length)=W4 at e0|-;have h9:=ae e0;clear e0;go_loopw [5,33] (fun f i wr=>ado V p bn bw ch h4 (.slice s m.a0.length m.a0.length) (.slice t m.a1.length m.a1.length) d0 d1 d2 d3 (.slice B0 m.h0.length m.h0.length) (.slice B1 m.h1.length m.h1.length) (J.valid m.h0) (J.valid m.h1) f i wr) (fun _ i _=>2 - (intOf i).toNat)
 case atStart=>exact h9.o
 case round=>
  obtain⟨k,fb,g,a,U,u0,u1,rfl,rfl,c9,C,D⟩:=hrel;have u:=ae C;have k9:Below w.heap.size w wr:=np a8.o (D.below a8.o.size (λk e=>by subst e;exact h6.o));have b9:=ae k9;have q:=ae D;have d5:=aj wr p C;have i8:=aD C;clear C D k9;rcases c9 with⟨rfl,rfl,rfl,rfl,rfl,rfl,rfl⟩|⟨rfl,Q,rfl,rfl⟩|⟨rfl,Q,rfl,rfl⟩
  ·have I:=ae (i0.o _ b9.o);cases hv:J.valid m.h0 with
    |none=>
     go_wp2_with fail;refine I.o.mono ?_;rintro e w5 ⟨rfl,r,rfl⟩;rw[show fD m.h0= .tuple #[.int .u64 0, .int .i64 0, .bool false] by unfold fD;rw[hv]];go_wp2_with fail;go_roundw
     case rel=>exact⟨1,false,0,0,1,_,_,rfl,rfl, .inr (.inl ⟨rfl,rfl,rfl,rfl⟩),aB (iy u.o) 11 _,q.o.trans ((eX r).trans (Step.bg (ay (World.grownBy.refl _ (some p)) 11 _) (λk e _=>by cases e;rfl)))⟩
     case measure=>decide
    |some ga=>
     obtain⟨g1,a1⟩:=ga;go_wp2_with fail;refine I.o.mono ?_;rintro e w5 ⟨rfl,r,rfl⟩;rw[show fD m.h0= .tuple #[.int .u64 (g1:Nat), .int .i64 (a1:Nat), .bool true] by unfold fD;rw[hv]];go_wp2_with fail;refine⟨⟨1,true,g1,a1,0,_,_,rfl,rfl, .inr (.inl ⟨rfl,rfl,rfl,rfl⟩),aB (aB (aB (iy u.o) 8 _) 9 _) 10 _,q.o.trans ((eX r).trans (Step.bg (ay (ay (ay (World.grownBy.refl _ (some p)) 8 _) 9 _) 10 _) (λk e _=>by cases e;rfl)))⟩,by decide⟩
  ·have I:=ae (i1.o _ b9.o);cases T:J.valid m.h1 with
    |none=>
     have a7:fD m.h1= .tuple #[.int .u64 0, .int .i64 0, .bool false]:=(by unfold fD;rw[T]);have HF:=ae Q;clear Q T;go_wp2_with fail;refine I.o.mono ?_;rintro e w5 ⟨rfl,r,rfl⟩;rw[a7];go_wp2_with fail;go_roundw
     case rel=>exact⟨2,fb,g,a,U,_,_,rfl,rfl, .inr (.inr ⟨rfl,Up HF.o,rfl,rfl⟩),aB (iy u.o) 12 _,q.o.trans ((eX r).trans (Step.bg (ay (World.grownBy.refl _ (some p)) 12 _) (λk e _=>by cases e;rfl)))⟩
     case measure=>decide
    |some ga=>
     obtain⟨g1,a1⟩:=ga;have a7:fD m.h1= .tuple #[.int .u64 (g1:Nat), .int .i64 (a1:Nat), .bool true]:=(by unfold fD;rw[T]);have HF:=ae Q;have c9:fb=false\/(fb=true/\(g:Int)<(g1:Int))\/(fb=true/\¬(g:Int)<(g1:Int)):=(by cases fb<;>simp;omega);clear Q T;rcases c9 with rfl|⟨rfl,j1⟩|⟨rfl,j1⟩
     ·go_wp2_with fail;refine I.o.mono ?_;rintro e w5 ⟨rfl,r,rfl⟩;rw[a7];go_wp2_with fail;refine⟨⟨2,true,g1,a1,1,_,_,rfl,rfl, .inr (.inr ⟨rfl,JE (.inl rfl) HF.o,rfl,rfl⟩),aB (aB (aB (iy u.o) 8 _) 9 _) 10 _,q.o.trans ((eX r).trans (Step.bg (ay (ay (ay (World.grownBy.refl _ (some p)) 8 _) 9 _) 10 _) (λk e _=>by cases e;rfl)))⟩,by decide⟩
     ·go_wp2_with fail;refine I.o.mono ?_;rintro e w5 ⟨rfl,r,rfl⟩;rw[a7];go_wp2_with fail;refine⟨⟨2,true,g1,a1,1,_,_,rfl,rfl, .inr (.inr ⟨rfl,JE (.inr (by omega)) HF.o,rfl,rfl⟩),aB (aB (aB (iy u.o) 8 _) 9 _) 10 _,q.o.trans ((eX r).trans (Step.bg (ay (ay (ay (World.grownBy.refl _ (some p)) 8 _) 9 _) 10 _) (λk e _=>by cases e;rfl)))⟩,by decide⟩
     ·go_wp2_with fail;refine I.o.mono ?_;rintro e w5 ⟨rfl,r,rfl⟩;rw[a7];go_wp2_with fail;go_roundw
      case rel=>exact⟨2,true,g,a,U,_,_,rfl,rfl, .inr (.inr ⟨rfl,Uq (by omega) HF.o,rfl,rfl⟩),iy u.o,q.o.trans (eX r)⟩
      case measure=>decide
  ·have b6:=ZX m.h0 m.h1;rw[<-Q]at b6;obtain⟨b7,a5⟩:=Ur R1.o R2.o R3.o q.o (PB V0.o) (PB V1.o) V2.o V3.o u.o;have c8:=J.qH m.h0 m.h1;rw[<-b6]at c8;have a0:=ae b6;generalize f7:(if J.valid m.h0=none then []else m.h0:J.B)=L0 at b7;generalize f8:(if J.valid m.h1=none then []else m.h1:J.B)=L1 at b7;have e9:=ae f7;have f0:=ae f8;clear f7 f8;have HQ:=ae b7;have a2:=ae a5;have ha:a=0\/a=1:=(by have:=c8.1;simp only at this;omega);clear Q b6 b7 a5 c8;generalize k7:(if J.valid m.h0=none then(.slice none 0 0:Value)else .slice B0 m.h0.length m.h0.length)=u0 at d5;generalize k8:(if J.valid m.h1=none then(.slice none 0 0:Value)else .slice B1 m.h1.length m.h1.length)=u1 at d5;rcases ha with rfl|rfl
   have b:=trivial
   all_goals
    first
     |have b:=b
      obtain⟨A,c,e1,l0,O⟩:=((V2.o.sl).step a2.o).by
      skip
     |obtain⟨A,c,e1,l0,O⟩:=((V3.o.sl).step a2.o).by
    injection e1 with e1 e2 e3;subst e1;have e7:=ae O;clear e2 e3 l0 O;go_upto_region 15 with fail;refine bh 10 [(0,false),(1,false),(2,false),(3,false),(4,false),(5,false),(6,false),(7,false),(8,false),(9,false)] (λW=>W.heap[p]? =wr.heap[p]?) (by kernel_rfl) (by kernel_rfl) (λc a d v w h=>by cases d<;>exact h) rfl ?_;repeat
     refine bS (v:= ?_) (by rfl) (by rfl) (λw' hS=> ?_) (λK y=> ?_);rotate_left
     ·have i3:=aj w' p (hS.trans u.o);clear hS;go_simp;try with_reducible rfl
     go_simp;refine y _ ?_;clear y K
    show wpList _ _ _ _ _ _;go_wp2_with fail;clear d5 i8;have b8:=ae (np a8.o (a2.o.below a8.o.size b4.o));have g4:(J.current m.h0 m.h1).1=g:=(congrArg (·.1) a0.o).symm;first
     |have b:=b
      have d6:(J.current m.h0 m.h1).2.1=0:=(congrArg (·.2.1) a0.o).symm
      skip
     |have d6:(J.current m.h0 m.h1).2.1=1:=(congrArg (·.2.1) a0.o).symm
    have g5:(J.current m.h0 m.h1).2.2=U:=(congrArg (·.2.2) a0.o).symm;have e8:=ae (And.intro g4 (And.intro d6 g5));clear g4 d6 g5;obtain⟨wq,j6⟩:∃x,x=wr:=⟨_,rfl⟩;subst j6;first
     |have b:=b
      go_loopw [12,13] (fun i _ W=>adp wq.drew p {J.new with gen:=g,area:=0,side:=U,base:=⟨L0,L1,m.a0,m.a1⟩} (fun k=>L k/\k<E.heap.size) m.a0 g i W) (fun i _ _=>m.a0.length - (intOf i).toNat)
     |go_loopw [12,13] (fun i _ W=>adp wq.drew p {J.new with gen:=g,area:=1,side:=U,base:=⟨L0,L1,m.a0,m.a1⟩} (fun k=>L k/\k<E.heap.size) m.a1 g i W) (fun i _ _=>m.a1.length - (intOf i).toNat)
    case atStart=>exact⟨0,0,[],_,rfl, .refl _ _ _,HQ.o.drew,Step.refl _ _⟩
    case round=>
     obtain⟨at_,cm,now,M',rfl,S,hst,D⟩:=hrel;have d7:=S.le.2 (Nat.zero_le _);have d4:=(S.fit J.uT J.nO (by omega)).2.2;have j3:=J.Lp S;first
      |have b:=b
       have a4:By wr M' s m.a0.length m.a0:=e7.o.drew.step D
       skip
      |have a4:By wr M' t m.a1.length m.a1:=e7.o.drew.step D
     have b9:=ae a4;have c4:=ae S;have c6:=ae hst;have q:=ae D;first
      |have b:=b
       have f1:=ae (λF (hA:Part s m.a0.length at_ m.a0.length F)=>Dq p M' _ F (m.a0.length - at_) (m.a0.length - at_) _ (at_==0) wr M' hst (hA.o wr M' _ a4) (aq _) (by omega) (by show cm<=_;omega) (by show now.length+_<=_;omega))
       skip
      |have f1:=ae (λF (hA:Part t m.a1.length at_ m.a1.length F)=>Dq p M' _ F (m.a1.length - at_) (m.a1.length - at_) _ (at_==0) wr M' hst (hA.o wr M' _ a4) (aq _) (by omega) (by show cm<=_;omega) (by show now.length+_<=_;omega))
     have f9:∀k,M' k->w.heap.size<=k:=λk hk=>by
      by_cases j0:k<wq.heap.size
      ·exact b4.o k (q.o.sub k j0 hk)
      ·have:=b8.o.size;omega
     have c0:=ae f9;have a9:=ae (np b8.o.drew (q.o.below b8.o.size b4.o));clear f9;have j8:(((at_:Nat):Int)==0)=(at_==0):=(by cases at_<;>rfl);clear S hst D a4 d4 j3;first
      |have b:=b
       go_wp2_with (refine dN rfl _ _ rfl s m.a0.length m.a0.length rfl at_ rfl d7 (aq _) ?_)
      |go_wp2_with (refine dN rfl _ _ rfl t m.a1.length m.a1.length rfl at_ rfl d7 (aq _) ?_)
     intro F f6;have HA:=ae (f1.o F f6);clear f6;go_wp2_with fail;refine HA.o.mono ?_;intro e w5 B;unfold nk at B;simp only at B;first
      |have b:=b
       generalize o:J.take g cm now ((m.a0.take m.a0.length).drop at_) (at_==0)=h2
      |generalize o:J.take g cm now ((m.a1.take m.a1.length).drop at_) (at_==0)=h2
     cases h2 with
      |stop=>
       rw[o]at B;obtain⟨rfl,rfl⟩:=B;have a3:=ae o;clear o;go_upto_region 22 with fail;first
        |have b:=b
         have d9:bT wr M' (.slice s m.a0.length m.a0.length) m.a0:=((V2.o.step a2.o).step (eX 1)).step q.o
         skip
        |have d9:bT wr M' (.slice t m.a1.length m.a1.length) m.a1:=((V3.o.step a2.o).step (eX 1)).step q.o
       obtain⟨l,j4,g9,i4⟩:=OU d9 at_ d7;have h8:=ae g9;obtain⟨f3,f4,f5,h3,y0,y1,y2,y3,t0,t1,t2,t3,g1,g2,g3⟩:=c6.o;have Z:=ae g1;have G2:=ae g2;have G3:=ae g3;clear d9 g9 g1 g2 g3;refine bh 12 [(0,false),(1,false),(2,false),(3,false),(4,false),(5,false),(6,false),(7,false),(9,false),(10,false),(11,false),(8,true)] (λW=>W.heap[p]? =wr.heap[p]?) (by kernel_rfl) (by kernel_rfl) (λc a d v w h=>by cases d<;>exact h) rfl ?_;repeat
        refine bS (v:= ?_) (by rfl) (by rfl) (λw' hS=> ?_) (λK y=> ?_);rotate_left
        ·have i3:=aj w' p (hS.trans Z.o);clear hS;go_simp;try with_reducible exact j4 _
         try with_reducible rfl
        go_simp;refine y _ ?_;clear y K
       refine bG (by rfl) (λK y=> ?_);go_simp;refine(i4 _).mono ?_;rintro e w6 ⟨rfl,rfl⟩;refine y.out _ _ rfl ?_;clear y K;show wpList _ _ _ _ _ _;have j9:=aj wr p Z.o;have l2:=aD Z.o;obtain⟨Y0,rfl⟩:=G3.o.f0.aU;obtain⟨Y1,rfl⟩:=G3.o.f1.aU;obtain⟨Y2,rfl⟩:=G3.o.f2.aU;obtain⟨Y3,rfl⟩:=G3.o.f3.aU;go_wp2_with fail;go_ret2;first
        |have b:=b
         have hg:=ay (ay (ay (ay (ay (World.grownBy.refl wr (some p)) 13 (.slice l at_ at_)) 15 (.slice Y0 L0.length L0.length)) 16 (.slice Y1 L1.length L1.length)) 17 (.slice l at_ at_)) 18 (.slice Y3 m.a1.length m.a1.length);have C:=aB (aB (aB (aB (aB Z.o 13 (.slice l at_ at_)) 15 (.slice Y0 L0.length L0.length)) 16 (.slice Y1 L1.length L1.length)) 17 (.slice l at_ at_)) 18 (.slice Y3 m.a1.length m.a1.length)
         skip
        |have hg:=ay (ay (ay (ay (ay (World.grownBy.refl wr (some p)) 14 (.slice l at_ at_)) 15 (.slice Y0 L0.length L0.length)) 16 (.slice Y1 L1.length L1.length)) 17 (.slice Y2 m.a0.length m.a0.length)) 18 (.slice l at_ at_)
         have C:=aB (aB (aB (aB (aB Z.o 14 (.slice l at_ at_)) 15 (.slice Y0 L0.length L0.length)) 16 (.slice Y1 L1.length L1.length)) 17 (.slice Y2 m.a0.length m.a0.length)) 18 (.slice l at_ at_)
       have P:=G3.o.own Z.o G2.o hg;have sc:=h8.o.step (Step.bg (M:=M') hg (λk e _=>by cases e;exact G2.o));obtain⟨e1,e2,e3⟩:=e8.o;have S:=c4.o;have o:=a3.o;rw[List.take_length]at o;have g7:J.Reads (J.current m.h0 m.h1).1 (m.area (J.current m.h0 m.h1).2.1) 0 0 [] at_ cm now:=(by rw[e1,e2];exact S);have j5:J.take (J.current m.h0 m.h1).1 cm now ((m.area (J.current m.h0 m.h1).2.1).drop at_) (at_==0)= .stop:=(by rw[e1,e2];exact o);have d8:=AE z2 z3 g7;first
        |have b:=b
         have g8:J.recovered m at_ cm now=⟨false,now,[],0,false,[],cm,g,0,U,⟨L0,L1,m.a0.take at_,m.a1⟩,⟨L0,L1,m.a0.take at_,m.a1⟩,[],0⟩:=by
          unfold J.recovered;rw[<-a0.o,e9.o,f0.o];rfl
         skip
        |skip
         have g8:J.recovered m at_ cm now=⟨false,now,[],0,false,[],cm,g,1,U,⟨L0,L1,m.a0,m.a1.take at_⟩,⟨L0,L1,m.a0,m.a1.take at_⟩,[],0⟩:=by
          unfold J.recovered;rw[<-a0.o,e9.o,f0.o];rfl
       unfold AO;rw[J.AD z2 z3 g7 j5];refine⟨p,M',rfl, ?_,c0.o,(a9.o.grown hg a9.o.size (λk e=>by cases e;exact c0.o p G2.o)).drew⟩;rw[g8]at d8|-;refine br.below ?_ (ak _ _).drew;first
        |have b:=b
         exact⟨f3,f4,f5,h3,_,_,_,_,_,_,_,_,C,G2.o,⟨P.now,P.mbn,P.was,P.chs,P.mch,P.wrs,P.f0,P.f1,sc,P.f3,P.f0.sl,P.f1.sl, .inr sc, .inr P.f3,λk e2 _ m=>JF sc e2 m⟩,d8⟩
         skip
        |exact⟨f3,f4,f5,h3,_,_,_,_,_,_,_,_,C,G2.o,⟨P.now,P.mbn,P.was,P.chs,P.mch,P.wrs,P.f0,P.f1,P.f2,sc,P.f0.sl,P.f1.sl, .inr P.f2, .inr sc,λk e2 _ m=>JF P.f2 e2 m⟩,d8⟩
      |bad er=>
       rw[o]at B;obtain⟨rfl,M2,a6⟩:=B;have l1:(er !=0)=true:=by rcases J.Dr o with rfl|rfl<;>rfl
       have c5:=ae a6;have a3:=ae o;clear a6 o;go_wp2_with fail;go_ret2;have i2:J.recover m= .error er:=by
        obtain⟨e1,e2,e3⟩:=e8.o;refine J.Ds z2 z3 (at_:=at_) (commits:=cm) (now:=now) ?_ ?_
        ·rw[e1,e2];exact c4.o
        ·rw[e1,e2];have:=a3.o;rw[List.take_length]at this;exact this
       unfold AO;rw[i2];exact⟨rfl,np a9.o (c5.o.below a9.o.size c0.o)⟩
      |took n c2 j7=>
       rw[o]at B;obtain⟨rfl,M2,a5,a6⟩:=B;have h7:=ae a5;have c5:=ae a6;have a3:=ae o;have j2:=(J.mP o rfl).2;rw[List.length_drop,List.length_take,Nat.min_self]at j2;have k6:((n:Int)==0)=false:=(by simp;omega);clear a6 a5 o;go_wp2_with fail;go_roundw
       case rel=>
        refine⟨at_+n,c2,j7,M2,by go_num, ?_,h7.o,q.o.trans c5.o⟩;have h:=a3.o;rw[List.take_length]at h;exact c4.o.trans (.step h (.refl _ _ _))
       case measure=>simp[intOf];omega
theorem fP.za {w:World} {M:Nat->Prop} {v:Value} {l:List UInt8} (h:fP w M v l):∃A c,v= .slice A l.length c:=by
 rcases h with⟨h,_⟩|h
 ·exact cj h
 ·obtain⟨A,e⟩:=h.aU;exact⟨_,_,e⟩
section
variable {P : Program} {B : Array Oper} {Q : Exit -> Act -> World -> Prop} {S : World -> Prop}
theorem rj {L:Act->World->Prop} {i:Nat} {o:Oper} {t:List (Nat×Bool)} {a:Act} {w:World} {v:Value} (c:B[i]? =some o) (b:Region.wanted o (yielded B a.tmps)=true) (d:∀w',S w'->(execOp a.eval o).run P w'= .ok (.value v) w')
  (h:∀K:Act->Prop,(∀a,wpPlan P B Q S L t a w->K a)->K (a.put o.dst v)):wpPlan P B Q S L ((i,false)::t) a w:=
 ⟨o,v,c, .inl ⟨b,d⟩,h _ λ_ h=>h⟩
end
theorem rk {s:J.St} (h:s.area=0):s.disk.area s.area=s.disk.a0:=by unfold J.cS.area;rw[if_pos h]
theorem rp {s:J.St} (h:s.area=1):s.disk.area s.area=s.disk.a1:=by unfold J.cS.area;rw[if_neg (by omega)]
theorem pM {s:J.St} {l rc:List UInt8} (b:s.opn=true) (d:s.spoilt=false) (ha:s.disk.area s.area=l) (c:J.record 0 (s.commits+1) s.changes=rc) (a:l.length+rc.length<=4194304):J.dz s=J.ir s:=by
 have:J.fits s (J.record 0 (s.commits+1) s.changes)=true:=by unfold J.fits;rw[ha,c];exact decide_eq_true a
 unfold J.dz;rw[if_neg (by rw[b];simp),if_neg (by rw[d];simp),if_pos this]
theorem tX {s:J.St} {l rc:List UInt8} (c:s.opn=true) (d:s.spoilt=false) (ha:s.disk.area s.area=l) (a:J.record 0 (s.commits+1) s.changes=rc) (b:l.length+rc.length<=4194304) (e:¬rc.length<=16777216 - s.logged):J.dz s=(s,0,9):=by
 rw[pM c d ha a b];unfold J.ir;rw[a,if_neg (by simp;intro _;omega)]
theorem zb {s:J.St} {l rc:List UInt8} (d:s.opn=true) (e:s.spoilt=false) (ha:s.disk.area s.area=l) (b:J.record 0 (s.commits+1) s.changes=rc) (a:l.length+rc.length<=4194304) (c:rc.length<=16777216 - s.logged):J.dz s=(J.aK s,(s.commits:Int)+1,0):=by
 rw[pM d e ha b a];unfold J.ir;rw[b,if_pos];have:J.fits s rc=true:=by unfold J.fits;rw[ha];exact decide_eq_true a
 rw[this];simpa using c
theorem Uu {A l r e:Nat} (h1:A<=8388608+l+e) (a:r=13+e):A<=8388608+(l+r)+0:=by omega
theorem rq {s:J.St} {l rc:List UInt8} (o:Ok s) (t:s.opn=true) (ha:s.disk.area s.area=l) (d:J.record 0 (s.commits+1) s.changes=rc) (r:l.length+rc.length<=4194304) (n:s.logged+rc.length<=16777216):Ok (J.aK s):=by
 have e:rc.length=13+(J.encs s.changes).length:=by rw[<-d];exact J.ei _ _ _
 have hd:(J.aK s).disk=s.disk.bC s.area (l++rc):=by
  have:(J.aK s).disk=s.disk.bC s.area (s.disk.area s.area++(J.record 0 (s.commits+1) s.changes).take (J.record 0 (s.commits+1) s.changes).length):=rfl;rw[this,ha,d,List.take_length]
 have b:(J.aK s).logged=s.logged+rc.length:=by
  have:(J.aK s).logged=s.logged+(J.record 0 (s.commits+1) s.changes).length:=rfl;rw[this,d]
 have p:(J.aK s).writes.length=s.writes.length+1:=by
  have:(J.aK s).writes=s.writes++[⟨0,s.area,J.record 0 (s.commits+1) s.changes⟩]:=rfl;rw[this];simp
 have a:(l++rc).length<=8388608:=by rw[List.length_append];omega
 have q:=o.commits;have u:=o.writes;have c:=o.now;have e1:(J.aK s).commits=s.commits+1:=rfl;have e2:(J.aK s).now=s.now:=rfl;have e3:(J.aK s).changes=[]:=rfl;have f:(J.aK s).was=[]:=rfl;have g:(J.aK s).opn=false:=rfl;have i:(J.aK s).size=s.size:=rfl;have j:(J.aK s).gen=s.gen:=rfl;have k:(J.aK s).area=s.area:=rfl;have m:(J.aK s).side=s.side:=rfl;generalize J.aK s=C at*;refine⟨by rw[i];exact o.size, ?_,by rw[j];exact o.gen,by rw[k];exact o.area,by rw[m];exact o.side,by rw[b];exact n, ?_,by rw[e3];exact Nat.zero_le _,(λh=>by rw[g]at h;cases h),(λ_=>e3), ?_, ?_, ?_, ?_, ?_, ?_⟩
 ·rw[e1,b,e];clear c hd a;omega
 ·rw[p,b,e];clear c hd a;omega
 ·rw[hd];exact J.vI _ _ _ _ o.a0 a
 ·rw[hd];exact J.vJ _ _ _ _ o.a1 a
 ·rw[hd,J.sB];exact o.h0
 ·rw[hd,J.sD];exact o.h1
 ·rw[e2,e3,b];exact Uu c e
 ·rw[f];exact Nat.zero_le _
theorem PE {w:World} {M:Nat->Prop} {A:Option Addr} {n:Nat} {L:List J.cd} (h:Chs w M A n L):Chs w.drew M A n L:=h
theorem Yd:(∀(p:Nat) (M:Nat->Prop) (s:J.St) (w:World) (h:br w p M s) (b:s.opn=true) (x:s.spoilt=false) (D:wJ s s.was) (C:s.commits+1<4294967296) (ha:s.area=0) (u:s.disk.a0.length+(J.record 0 (s.commits+1) s.changes).length<=4194304),Calls Tryz.prog 98 #[.pointer (some ⟨p,0,none⟩)] w λe w'=>e= .returned (.tuple #[.int .i64 (J.dz s).2.1, .int .i64 (J.dz s).2.2])/\∃M',br w' p M' (J.dz s).1/\Step M M' w w')/\(∀(p:Nat) (M:Nat->Prop) (s:J.St) (w:World) (h:br w p M s) (b:s.opn=true) (x:s.spoilt=false) (D:wJ s s.was) (C:s.commits+1<4294967296) (ha:s.area=1) (u:s.disk.a1.length+(J.record 0 (s.commits+1) s.changes).length<=4194304),Calls Tryz.prog 98 #[.pointer (some ⟨p,0,none⟩)] w λe w'=>e= .returned (.tuple #[.int .i64 (J.dz s).2.1, .int .i64 (J.dz s).2.2])/\∃M',br w' p M' (J.dz s).1/\Step M M' w w'):=by
 refine⟨?z0, ?z1⟩
 case' z0=>intro p M s w h b x D C ha u
 case' z1=>(intro p M s w h b x D C ha u;have g:=trivial)
 all_goals
  have HH:=ae h;have HS:=ae D;have c1:=ae (kD p M s true w h);have o:=ae b;obtain⟨bn,bw,ch,wr,b0,b1,b2,b3,d0,d1,d2,d3,h1,h2,A,r⟩:=h;obtain⟨Ac,E,L,rfl,a5,e1⟩:=A.chs.chs;obtain⟨Q,c2,rfl⟩:=A.e2.za;obtain⟨S,c3,rfl⟩:=A.e3.za;have T:=ae h1;have H2:=ae h2;have H3:=ae A;have F:=ae r;have b5:=ae a5;have t:=aj w p h1;rw[x]at t;have b7:=ae (show(J.encs s.changes).length<=4194304 by have:=r.size;have:=r.encs b;omega);have b8:=ae (show E<=4194304 by have:=r.size;have:=r.chs;omega);have e9:IntKind.i64.wrap ((s.commits:Int)+1)=((s.commits+1:Nat):Int):=(by rw[IntWalk.i64_in _ (by omega)];omega);have b6:=ae C;have I:=ae x;clear h1 h2 A r b D a5 x C e1;go_enter Tryz.func98,Tryz.ntmps98;go_wp2_with fail;refine c1.o.mono ?_;rintro e w1 ⟨rfl,rfl⟩;rw[o.o];go_upto_region 6 with fail;clear t;refine bh 10 [(0,false),(1,false),(2,false),(3,false),(4,false),(5,false),(6,false),(7,false),(8,false),(9,true)] (λw'=>w'.heap[p]? =some (.cells (bK s bn bw (.slice Ac E L) wr b0 b1 b2 b3 d0 d1 (.slice Q s.disk.a0.length c2) (.slice S s.disk.a1.length c3)) 99 (0,0))) (by kernel_rfl) (by kernel_rfl) (λc a d v w h=>by cases d<;>exact h) T.o ?_;repeat
   refine bS (v:= ?_) (by rfl) (by rfl) (λw' i=> ?_) (λK f=> ?_);rotate_left
   ·have a6:=aj w' p i;clear i;go_simp;try with_reducible rfl
   go_simp;refine f _ ?_;clear f K
  refine bG (by rfl) (λK f=> ?_);go_simp;have a9:=FU 0 (s.commits+1) Ac E L s.changes w.drew bE (PE b5.o) (by omega) (by have:=b6.o;omega) (by have:=b7.o;omega) (by have:=b8.o;omega);refine a9.mono ?_;rintro e l ⟨v2,rfl,Z,B⟩;clear a9;obtain⟨Ar,cr,rfl⟩:=cj Z;have B:Below w.heap.size w l:=lM B;have G:=ae B;have a2:=ae (show l.ownsRow w.heap.size _ _ _ _ _ from Z);have z:=ae ((B.block p (ai T.o).1).trans T.o);clear Z B;refine f.out _ _ z.o ?_;clear f K;show wpList _ _ _ _ _ _;generalize N:J.record 0 (s.commits+1) s.changes=rc at a2|-;have q:=ae N;have c0:=ae (show rc.length=13+(J.encs s.changes).length by rw[<-N];exact J.ei _ _ _);rw[N]at u;clear N;have a3:=ae (HH.o.q.1.cap.below G.o);have a4:=ae (wI (M:=λk=>M k/\k<w.heap.size) a2.o (λk h=>h.2));have t:=aj l p z.o;first
   |have g:=g
    have c9:¬(4194304:Int)<(s.disk.a1.length:Int)+(rc.length:Int):=(by omega);have d5:IntKind.i64.wrap ((s.disk.a1.length:Int)+(rc.length:Int))=(s.disk.a1.length:Int)+(rc.length:Int):=IntWalk.i64_in _ (by omega)
    skip
   |have c9:¬(4194304:Int)<(s.disk.a0.length:Int)+(rc.length:Int):=by omega
    have d5:IntKind.i64.wrap ((s.disk.a0.length:Int)+(rc.length:Int))=(s.disk.a0.length:Int)+(rc.length:Int):=IntWalk.i64_in _ (by omega)
  have a8:=F.o.logged;have f1:IntKind.i64.wrap (16777216 - (s.logged:Int))=16777216 - (s.logged:Int):=IntWalk.i64_in _ (by omega);have y:=ae a8;have n:=ae u;clear a8 u;go_upto_region 7 with fail;clear t;refine bh 14 [(0,false),(1,false),(2,false),(3,false),(4,false),(5,false),(6,false),(7,false),(8,false),(9,false),(10,false),(11,false),(12,false),(13,false)] (λw'=>w'.heap[p]? =some (.cells (bK s bn bw (.slice Ac E L) wr b0 b1 b2 b3 d0 d1 (.slice Q s.disk.a0.length c2) (.slice S s.disk.a1.length c3)) 99 (0,0))) (by kernel_rfl) (by kernel_rfl) (λc a d v w h=>by cases d<;>exact h) z.o ?_;repeat
   first|refine bS (v:= ?_) (by rfl) (by rfl) (λw' i=> ?_) (λK f=> ?_)|refine rj (v:= ?_) (by rfl) (by rfl) (λw' i=> ?_) (λK f=> ?_)
   rotate_left
   ·have a6:=aj w' p i;clear i;go_simp;try with_reducible rfl
   go_simp;refine f _ ?_;clear f K
  show wpList _ _ _ _ _ _;go_upto_region 11 with fail;have e0:(16777216:Int) - (s.logged:Int)<(rc.length:Int)\/¬(16777216:Int) - (s.logged:Int)<(rc.length:Int):=Classical.em _;rcases e0 with d8|d8
  have m:=trivial
  all_goals
   first
    |have m:=m
     first
      |have g:=g
       have H:=ae (show J.dz s=(s,0,9)from tX o.o I.o (rp ha) q.o n.o (by have:=y.o;omega))
       skip
      |have H:=ae (show J.dz s=(s,0,9)from tX o.o I.o (rk ha) q.o n.o (by have:=y.o;omega))
    |skip
     first
      |have g:=g
       have H:=ae (show J.dz s=(J.aK s,(s.commits:Int)+1,0)from zb o.o I.o (rp ha) q.o n.o (by have:=y.o;omega))
       skip
      |have H:=ae (show J.dz s=(J.aK s,(s.commits:Int)+1,0)from zb o.o I.o (rk ha) q.o n.o (by have:=y.o;omega))
     have a1:=ae (show s.logged+rc.length<=16777216 by have:=y.o;omega)
   refine bh 24 [(0,false),(1,false),(2,false),(3,false),(4,false),(5,false),(6,false),(7,false),(8,false),(9,false),(10,false),(11,false),(12,false),(13,false),(14,false),(15,false),(16,false),(17,false),(18,false),(19,false),(20,false),(21,false),(22,false),(23,false)] (λw'=>w'.heap[p]? =some (.cells (bK s bn bw (.slice Ac E L) wr b0 b1 b2 b3 d0 d1 (.slice Q s.disk.a0.length c2) (.slice S s.disk.a1.length c3)) 99 (0,0))) (by kernel_rfl) (by kernel_rfl) (λc a d v w h=>by cases d<;>exact h) z.o ?_;repeat
    first|refine bS (v:= ?_) (by rfl) (by rfl) (λw' i=> ?_) (λK f=> ?_)|refine rj (v:= ?_) (by rfl) (by rfl) (λw' i=> ?_) (λK f=> ?_)
    rotate_left
    ·have a6:=aj w' p i;clear i;go_simp;try with_reducible rfl
    go_simp;refine f _ ?_;clear f K
   show wpList _ _ _ _ _ _;first
    |have m:=m
     skip
    |have t:=aj l p z.o
     go_wp2_with fail;have b:=F.o;have c6:=b.a0;have c7:=b.a1;have d6:=b.h0;have d7:=b.h1;have e4:=b.writes;have d9:=b.logged;have d4:=n.o;have e2:=c0.o;clear b t;first
      |have g:=g
       refine(yZ p _ s 0 1 (.slice Ar rc.length cr) rc l.drew.drew (a3.o.below (ak _ l).drew.drew) (by omega) (by omega) (a4.o.step (Step.aC (ak _ l).drew.drew)) (by omega) (by omega) (by omega) (λ_=>by omega) (by omega) (by omega) (by omega) (by omega)).mono ?_
      |refine(yZ p _ s 0 0 (.slice Ar rc.length cr) rc l.drew.drew (a3.o.below (ak _ l).drew.drew) (by omega) (by omega) (a4.o.step (Step.aC (ak _ l).drew.drew)) (by omega) (by omega) (by omega) (λ_=>by omega) (by omega) (by omega) (by omega) (by omega)).mono ?_
     rintro e w5 ⟨⟨r5,rfl⟩,M5,a0,b4⟩;first
      |have g:=g
       have Y:(J.write s ⟨0,1,rc⟩).commits=s.commits:=rfl;generalize W:J.write s ⟨0,1,rc⟩=S5 at a0 Y
      |have Y:(J.write s ⟨0,0,rc⟩).commits=s.commits:=rfl
       generalize W:J.write s ⟨0,0,rc⟩=S5 at a0 Y
     have b9:=ae W;obtain⟨c5,e6,e7,e5,x0,x1,x2,x3,y0,y1,y2,y3,O,q2,q3⟩:=a0;have Q1:=ae O;have U:=ae q2;have Q3:=ae q3;have c4:=ae b4;have e8:=aj w5 p O;have f0:=aD O;clear W O q2 q3 b4 c6 c7 d6 d7 e4 d9 d4 e2
   go_wp2_with fail;go_ret2;first
    |have m:=m
     skip
    |have a7:=ay (ay (ay (ay (World.grownBy.refl w5 (some p)) 7 (.int .i64 ((s.commits:Int)+1))) 1 (.bool false)) 3 (.slice none 0 0)) 6 (.map none)
     have e3:=aB (aB (aB (aB Q1.o 7 (.int .i64 ((s.commits:Int)+1))) 1 (.bool false)) 3 (.slice none 0 0)) 6 (.map none);have P:=Q3.o.own Q1.o U.o a7;have c8:J.aK s={S5 with commits:=s.commits+1,opn:=false,changes:=[],was:=[]}:=by
      rw[<-b9.o,<-q.o];unfold J.aK;rw[ha]
     first
      |have g:=g
       have V:Ok (J.aK s):=rq F.o o.o (rp ha) q.o n.o a1.o
       skip
      |have V:Ok (J.aK s):=rq F.o o.o (rk ha) q.o n.o a1.o
   rw[H.o];first
    |have m:=m
     exact⟨rfl,M,HH.o.below G.o.drew.drew,Step.aC G.o.drew.drew⟩
     skip
    |refine⟨rfl,M5, ?_, ?_⟩
     ·rw[c8]at V|-;exact⟨c5,none, .slice none 0 0,e5,x0,x1,x2,x3,y0,y1,y2,y3,e3,U.o,⟨P.now,P.mbn,rfl,dT.dV _ _ _,λk h=>(by cases h),P.wrs,P.f0,P.f1,P.f2,P.f3,P.e0,P.e1,P.e2,P.e3,P.dd⟩,V⟩
     ·exact Step.tU ((Step.aC G.o.drew.drew).trans (c4.o.trans (Step.bg a7 (λk e _=>by cases e;exact U.o))))
abbrev DI:= @Yd.1
abbrev DJ:= @Yd.2
end Go.Proofs.YtipljcmmokaokaaGreat
