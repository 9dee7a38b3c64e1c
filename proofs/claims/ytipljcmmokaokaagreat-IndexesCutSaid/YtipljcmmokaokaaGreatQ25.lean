import Derived.Test.YtipljcmmokaokaaGreatQ24
set_option linter.unusedVariables false
set_option linter.unusedSimpArgs false
set_option maxHeartbeats 16000000
namespace Go.Proofs.YtipljcmmokaokaaGreat
open Go.RowKit Go.Lib Go.Maps Go.WideMaps Go.Sort
set_option maxRecDepth 100000
theorem Tryz.abW:(Tryz.prog.info? 34).map (λi=>(i.zero,i.size,i.bytes))=some (some (.agg #[.string ⟨#[]⟩, .int .i64 0, .slice none 0 0, .bool false, .slice none 0 0, .int .i64 0, .int .u8 0, .bool false, .int .i64 0, .bool false, .string ⟨#[]⟩, .int .i64 0, .bool false, .string ⟨#[]⟩, .bool false, .string ⟨#[]⟩]),16,184):=by kernel_rfl
theorem Tryz.abX:(Tryz.prog.info? 3).map (λi=>(i.zero,i.size,i.bytes))=some (some (.int .i64 0),1,8):=by kernel_rfl
theorem Xi:∀(j:Nat) (u:Value),(Value.agg #[.string ⟨#[]⟩, .int .i64 0, .slice none 0 0, .bool false, .slice none 0 0, .int .i64 0, .int .u8 0, .bool false, .int .i64 0, .bool false, .string ⟨#[]⟩, .int .i64 0, .bool false, .string ⟨#[]⟩, .bool false, .string ⟨#[]⟩]).cells.toList[j]? =some u->TP j u:=λj u b c x e=>by
 subst e;have a:=(List.getElem?_eq_some_iff.1 b).1;have a:j<16:=a;have:j=0\/j=1\/j=2\/j=3\/j=4\/j=5\/j=6\/j=7\/j=8\/j=9\/j=10\/j=11\/j=12\/j=13\/j=14\/j=15:=by omega
 rcases this with rfl|rfl|rfl|rfl|rfl|rfl|rfl|rfl|rfl|rfl|rfl|rfl|rfl|rfl|rfl|rfl<;>first|exact c rfl|(simp[Value.cells,u8]at b)
theorem Xj:∀(j:Nat) (u:Value),(Value.int .i64 0).cells.toList[j]? =some u->TQ j u:=λj u a=>by
 have b:=(List.getElem?_eq_some_iff.1 a).1;have b:j<1:=b;obtain rfl:j=0:=by omega
 simp[Value.cells]at a;exact⟨0,a.symm⟩
section
variable {w0 : World} {p pf q g c u : Nat} {nm : J.B} {fs gs : List (Nat × Obj)} {E d2 : List Nat} {B F m : X.M} {L : List (List (J.B × J.B))} {v : Value} {l : List HP} {w w' : World}
theorem fK.Za (h:fK w0 p pf nm u q g c fs E B F L v l w):∃rb,TL rb v l/\(∀x∈rb,x.1∉E)/\fK w0 p pf nm u q g c (rb++fs) E B F L v l w:=by
 obtain⟨ko,rb,h1,i,b,j,k,f,m⟩:=h;refine⟨rb,b,λx a=>f x (ag _ a),ko,rb,h1.cJ (λx a=> ?_),i,b,j,λx a=>k x ?_,f,λd hd=>by
  obtain⟨y,n,e⟩:=m d hd;exact⟨y,List.mem_append_right _ n,e⟩⟩
 ·simp only[List.mem_cons,List.mem_append]at a|-;rcases a with h|h|h|h|h
  ·exact .inl h
  ·exact .inr (.inl h)
  ·exact .inr (.inr (.inl h))
  ·exact .inr (.inr (.inl h))
  ·exact .inr (.inr (.inr h))
 ·simp only[List.mem_cons,List.mem_append]at a|-;rcases a with h|h|h|h
  ·exact .inl h
  ·exact .inr (.inl h)
  ·exact .inr (.inl h)
  ·exact .inr (.inr h)
theorem fK.Tf (h:fK w0 p pf nm u q g c fs E B F L v l w) (hd:∀d∈d2,d∈E):fK w0 p pf nm u q g c fs d2 B F L v l w:=by
 obtain⟨ko,rb,h1,b,e,f,i,j,k⟩:=h;exact⟨ko,rb,h1,b,e,f,i,λx m a=>j x m (hd _ a),λd a=>k d (hd d a)⟩
theorem fK.sl (h:fK w0 p pf nm u q g c fs E B F L v l w):gj v/\l.map (·.1)=F.rows:=by
 obtain⟨ko,rb,h1,f,a,b,i,j,k⟩:=h;obtain⟨A,c,e⟩:=a.sl (w:=w) (λx d=>h1.get (ag _ (ag _ (List.mem_append_left _ d))));exact⟨⟨A,_,c,e⟩,b⟩
theorem fK.mok (h:fK w0 p pf nm u q g c fs E B F L v l w):X.fg u B:=by
 obtain⟨ko,rb,⟨s,f,g,c,ok,h⟩,_⟩:=h;exact h.kp.mok
theorem fK.aH (h:fK w0 p pf nm u q g c fs E B F L v l w):∃ko,w.heap[g]? =some ko/\KsK ko g F.ks/\(g∉E):=by
 obtain⟨ko,rb,h1,a,d,e,f,b,i⟩:=h;exact⟨ko,h1.get (ag _ af),a,b _ af⟩
theorem fK.Zb (h:fK w0 p pf nm u q g c fs E B F L v l w) (e:u<=340):0<L.length/\L.length<=u+1/\∃now,L[L.length - 1]? =some now/\(B.there=false->now=[])/\(B.there=true->XF nm B.size B.ks B.rows B.time now):=by
 obtain⟨ko,rb,⟨s,f,g,c,ok,h⟩,_⟩:=h;have h1:=h.kp.len;have i:=h.kp.sto.cu;have j:=h.kp.sto.cm;have d:=h.kp.last;rw[show s.writes.length=L.length - 1 by omega]at d;refine⟨by omega,by omega,s.now,d,λb=> ?_,λb=>h.kp.xf e h.nm_ b⟩;have a:=h.kp.con;unfold X.M.con at a;rw[b]at a;exact a
theorem fK.writes (h:fK w0 p pf nm u q g c fs E B F L v l w):Calls Tryz.prog 30 #[.pointer (some ⟨p,0,none⟩)] w λe w'=>e= .returned (.int .i64 (L.length - 1:Nat))/\w=w':=by
 obtain⟨ko,rb,⟨s,f,g,c,ok,h⟩,_⟩:=h;have:=LB h.at_;rw[show s.writes.length=L.length - 1 by have:=h.kp.len;omega]at this;exact this
theorem fK.cut (h:fK w0 p pf nm u q g c fs E B F L v l w) {k t:Nat} (m:k<L.length) (i:t<20) (n:t=0\/k+1<L.length):
  ∃b c' now,L[k]? =some now/\J.cS.Holds True b c' now/\(b.h0.length<=90000000/\b.h1.length<=90000000)/\
   Calls Tryz.prog 31 #[.pointer (some ⟨p,0,none⟩), .int .i64 (k:Nat), .int .i64 (t:Nat)] w λe w'=>∃v',e= .returned (.tuple #[v', .int .i64 0])/\yq w' (· <w.heap.size) v' b/\fK w0 p pf nm u q g c fs E B F L v l w':=by
 obtain⟨ko,rb,⟨s,f,g,c,ok,a⟩,hh⟩:=h;have o:=a.kp.len;obtain⟨j,now,c',e1,e2⟩:=a.kp.cut (k:=k) (t:=t) (by omega) i (by omega);refine⟨_,c',now,e1,e2,X.Nx a.kp.sto k t, ?_⟩;refine(aac a.at_ a.kp.sto.wok k t (by omega) j).mono ?_;rintro e w' ⟨v',rfl,d,ha⟩;exact⟨v',rfl,d,ko,rb,⟨s,f,g,c,ok,ha,a.kp,a.fm,a.ko,a.cap,a.ne,a.neg,a.nm_⟩,hh⟩
theorem fK.abY (h:fK w0 p pf nm u q g c fs E B F L v l w) {k t:Nat} (b:k+1=L.length) (i:0<t):
  Calls Tryz.prog 31 #[.pointer (some ⟨p,0,none⟩), .int .i64 (k:Nat), .int .i64 (t:Nat)] w λe w'=>e= .returned (.tuple #[ZW, .int .i64 13])/\fK w0 p pf nm u q g c fs E B F L v l w':=by
 obtain⟨ko,rb,⟨s,f,g,c,ok,a⟩,hh⟩:=h;have d:=a.kp.len;refine(DL a.at_ (k:Nat) (t:Nat) (.inr (.inr (.inr ⟨by omega, .inl (by omega)⟩)))).mono ?_;rintro e w' ⟨rfl,ha⟩;exact⟨rfl,ko,rb,⟨s,f,g,c,ok,ha,a.kp,a.fm,a.ko,a.cap,a.ne,a.neg,a.nm_⟩,hh⟩
end
theorem Jb {w:World} {M:Nat->Prop} {v:Value} {m:J.cS} (h:yq w M v m):∃a b c d,v=Gs (.slice a m.h0.length m.h0.length) (.slice b m.h1.length m.h1.length) (.slice c m.a0.length m.a0.length) (.slice d m.a1.length m.a1.length)/\
  Sl w bE (.slice a m.h0.length m.h0.length) m.h0/\Sl w bE (.slice b m.h1.length m.h1.length) m.h1/\Sl w bE (.slice c m.a0.length m.a0.length) m.a0/\Sl w bE (.slice d m.a1.length m.a1.length) m.a1:=by
 obtain⟨y0,y1,y2,y3,rfl,q0,e,f,g⟩:=h;obtain⟨a,rfl⟩:=q0.aU;obtain⟨b,rfl⟩:=e.aU;obtain⟨c,rfl⟩:=f.aU;obtain⟨d,rfl⟩:=g.aU;exact⟨a,b,c,d,rfl,q0.sl.weak (λ_ h=>h.elim),e.sl.weak (λ_ h=>h.elim),f.sl.weak (λ_ h=>h.elim),g.sl.weak (λ_ h=>h.elim)⟩
structure nM (o:World) (p pf q g c u I K:Nat) (o1 o2:Value) (N O:List Value) (m:X.M) (L:List (List (J.B×J.B))) (v:Value) (l:List HP) (f1 f2 G:List (Nat×Obj)) (W:World):Prop where
 hd:fK o p pf [102] u q g c (f1++(f2++G)) (f1.map (·.1)++f2.map (·.1)) m m L v l W
 r1:Fg f1 o.heap.size 34 16 o1 I N TP
 r2:Fg f2 o.heap.size 3 1 o2 K O TQ
 s12:fY f1 f2
 s1:fY f1 G
 s2:fY f2 G
section
variable {o : World} {p pf q g c u I K : Nat} {o1 o2 : Value} {N O : List Value} {m m' : X.M} {L Q : List (List (J.B × J.B))} {v v' : Value} {l l' : List HP} {f1 f2 G : List (Nat × Obj)} {W D : World}
theorem nM.below (h:nM o p pf q g c u I K o1 o2 N O m L v l f1 f2 G W) (a:Below W.heap.size W D):nM o p pf q g c u I K o1 o2 N O m L v l f1 f2 G D:=
 ⟨h.hd.below a,h.r1,h.r2,h.s12,h.s1,h.s2⟩
theorem nM.does (h:nM o p pf q g c u I K o1 o2 N O m L v l f1 f2 G W) (hd:fK o p pf [102] (u+1) q g c (f1++(f2++G)) (f1.map (·.1)++f2.map (·.1)) m' m' Q v' l' D):
  ∃rb,TL rb v' l'/\nM o p pf q g c (u+1) I K o1 o2 N O m' Q v' l' f1 f2 (rb++G) D:=by
 obtain⟨rb,h1,f,i⟩:=hd.Za;refine⟨rb,h1,i.cJ (λx b=> ?_) (λd hd=> ?_),h.r1,h.r2,h.s12,fY.app (λx b y a e=> ?_) h.s1,fY.app (λx b y a e=> ?_) h.s2⟩
 ·simp only[List.mem_append]at b|-;rcases b with h|h|h|h
  ·exact .inr (.inl h)
  ·exact .inr (.inr (.inl h))
  ·exact .inl h
  ·exact .inr (.inr (.inr h))
 ·rcases List.mem_append.1 hd with hd|hd
  ·obtain⟨y,a,e⟩:=List.mem_map.1 hd;exact⟨y,List.mem_append_left _ a,e⟩
  ·obtain⟨y,a,e⟩:=List.mem_map.1 hd;exact⟨y,List.mem_append_right _ (List.mem_append_left _ a),e⟩
 ·exact f y a (by rw[e];exact List.mem_append_left _ (List.mem_map.2 ⟨x,b,rfl⟩))
 ·exact f y a (by rw[e];exact List.mem_append_right _ (List.mem_map.2 ⟨x,b,rfl⟩))
theorem nM.afK (h:nM o p pf q g c u I K o1 o2 N O m L v l f1 f2 G W) {o':Value} {n':Nat} {j:List Value} (k:W.grownBy D o1.ownBlock) (n:o'.ownBlock=o1.ownBlock\/o'.ownBlock=some W.heap.size) (s:D.ownsRow o.heap.size 34 16 o' n' j) (r:kX TP 16 D o'):
  ∃f,nM o p pf q g c u n' K o' o2 j O m L v l f f2 G D:=by
 obtain⟨f,a,b,e⟩:=h.hd.grow h.r1 abR (by decide) (show fY f1 (f2++G)from h.s12.app h.s1) (λd hd=>by
  obtain⟨y,t,e⟩:=List.mem_map.1 hd;exact⟨y,List.mem_append_left _ t,e⟩) k n s r
 have e:fY f (f2++G):=e;exact⟨f,a,b,h.r2,e.sub (λx i=>List.mem_append_left _ i),e.sub (λx i=>List.mem_append_right _ i),h.s2⟩
theorem nM.afL (h:nM o p pf q g c u I K o1 o2 N O m L v l f1 f2 G W) {o':Value} {n':Nat} {k:List Value} (n:W.grownBy D o2.ownBlock) (r:o'.ownBlock=o2.ownBlock\/o'.ownBlock=some W.heap.size) (t:D.ownsRow o.heap.size 3 1 o' n' k) (s:kX TQ 1 D o'):
  ∃j,nM o p pf q g c u I n' o1 o' N k m L v l f1 j G D:=by
 have hd:=(h.hd.cJ (gs:=f2++(f1++G)) (λx f=>by
  simp only[List.mem_append]at f|-;rcases f with h|h|h
  ·exact .inr (.inl h)
  ·exact .inl h
  ·exact .inr (.inr h)) (λd hd=>by
  rcases List.mem_append.1 hd with hd|hd
  ·obtain⟨y,i,e⟩:=List.mem_map.1 hd;exact⟨y,List.mem_append_right _ (List.mem_append_left _ i),e⟩
  ·obtain⟨y,i,e⟩:=List.mem_map.1 hd;exact⟨y,List.mem_append_left _ i,e⟩)).Tf (d2:=f2.map (·.1)++f1.map (·.1)) (λd hd=>(List.mem_append.1 hd).elim (List.mem_append_right _) (List.mem_append_left _))
 obtain⟨j,a,b,e⟩:=hd.grow h.r2 abS (by decide) (show fY f2 (f1++G)from h.s12.symm.app h.s2) (λd hd=>by
  obtain⟨y,i,e⟩:=List.mem_map.1 hd;exact⟨y,List.mem_append_left _ i,e⟩) n r t s
 have e:fY j (f1++G):=e;refine⟨j,(a.Tf (d2:=f1.map (·.1)++j.map (·.1)) (λd hd=>(List.mem_append.1 hd).elim (List.mem_append_right _) (List.mem_append_left _))).cJ (λx f=> ?_) (λd hd=> ?_),h.r1,b,(e.sub (λx f=>List.mem_append_left _ f)).symm,h.s1,e.sub (λx f=>List.mem_append_right _ f)⟩
 ·simp only[List.mem_append]at f|-;rcases f with h|h|h
  ·exact .inr (.inl h)
  ·exact .inl h
  ·exact .inr (.inr h)
 ·rcases List.mem_append.1 hd with hd|hd
  ·obtain⟨y,i,e⟩:=List.mem_map.1 hd;exact⟨y,List.mem_append_left _ i,e⟩
  ·obtain⟨y,i,e⟩:=List.mem_map.1 hd;exact⟨y,List.mem_append_right _ (List.mem_append_left _ i),e⟩
theorem nM.ab0 (h:nM o p pf q g c u I K o1 o2 N O m L v l f1 f2 G W):W.ownsRow o.heap.size 34 16 o1 I N/\kX TP 16 W o1:=h.r1.row W (λx a=>h.hd.get (List.mem_append_left _ a))
theorem nM.ab1 (h:nM o p pf q g c u I K o1 o2 N O m L v l f1 f2 G W):W.ownsRow o.heap.size 3 1 o2 K O/\kX TQ 1 W o2:=h.r2.row W (λx a=>h.hd.get (List.mem_append_right _ (List.mem_append_left _ a)))
end
def Tg (o:World) (p pf q g c k:Nat) (ks:List X.Ky) (o1 o2:Value) (W:World):Prop:=
 ∃S f1 f2 G m Lc v l,nM o p pf q g c k (k+1) (k+1) o1 o2 (mr g c S) (S.map Xf) m Lc v l f1 f2 G W/\Ny k S Lc G ks/\m.ks=ks/\m.size=5
theorem ab2 {o b:World} {p pf q g c:Nat} {ks:List X.Ky} (h:HY o p pf [102] 0 q g c [] [] (X.M.new ks 5) (X.M.new ks 5) [[]] b) {v:Value} (F:b.heap[q]? =some (gz (X.M.new ks 5) g c v)):
  ∃C:Array Value,C.toList=yg g c (X.M.new ks 5) v/\Tg o p pf q g c 0 ks (.slice (some ⟨b.heap.size,0,none⟩) 1 1) (.slice (some ⟨b.heap.size+1,0,none⟩) 1 1)
   ((b.alloc (.cells C 34)).alloc (.cells #[.int .i64 0] 3)):=by
 obtain⟨v',l,h⟩:=h;have w:=h.row;rw[F]at w;obtain rfl:v=v':=by
  injection w with e;injection e with e;have:=congrArg (λa:Array Value=>a[4]?) e
  simpa using this
 obtain⟨z,D⟩:=h.sl;have E:=h.mok;have G:=h.bel.size;obtain⟨rb,H,I,A⟩:=h.Za;refine⟨(yg g c (X.M.new ks 5) v).toArray,by simp, ?_⟩;have hd:=(A.lay (yg g c (X.M.new ks 5) v).toArray 34).lay #[.int .i64 0] 3;have B:(b.alloc (.cells (yg g c (X.M.new ks 5) v).toArray 34)).heap.size=b.heap.size+1:=by simp
 have t:∀x∈rb,x.1<b.heap.size:=λx f=>(ai (A.get (List.mem_append_left _ f))).1;have a1:=Fi (base:=o.heap.size) (W:=b) (yg g c (X.M.new ks 5) v).toArray 16 34 TP G (by simp[iq]) (by decide) (PL.one (by simp[iq]) (by simpa using Ja g c (X.M.new ks 5) v z));have r:=Fi (base:=o.heap.size) (W:=b.alloc (.cells (yg g c (X.M.new ks 5) v).toArray 34)) #[.int .i64 0] 1 3 TQ (by rw[B];omega) rfl (by decide) (λj u n=>by
  have s:=(List.getElem?_eq_some_iff.1 n).1;have s:j<1:=s;obtain rfl:j=0:=(by omega);simp at n;exact⟨0,n.symm⟩)
 rw[B]at r hd;refine⟨[(X.M.new ks 5,0,v)],[(b.heap.size, .cells (yg g c (X.M.new ks 5) v).toArray 34)],[(b.heap.size+1, .cells #[.int .i64 0] 3)],rb,X.M.new ks 5,[[]],v,l,
  ⟨(hd.cJ (λx f=> ?_) (λd hd=> ?_)).Tf (λd hd=> ?_), ?_,r,λx f y m=> ?_,λx f y m=> ?_,λx f y m=> ?_⟩,⟨rfl,λi k=> ?_,λ_=>rfl,λi k=> ?_,λk=> ?_⟩,rfl,rfl⟩
 ·simp only[List.mem_append,List.mem_cons,List.not_mem_nil,or_false,List.append_nil]at f|-;rcases f with h|h|h
  ·exact .inr (.inl h)
  ·exact .inl h
  ·exact .inr (.inr h)
 ·simp only[List.mem_cons,List.not_mem_nil,or_false]at hd;rcases hd with rfl|rfl
  ·exact⟨_,List.mem_append_right _ (List.mem_append_left _ af),rfl⟩
  ·exact⟨_,List.mem_append_left _ af,rfl⟩
 ·simp only[List.map_cons,List.map_nil,List.mem_append,List.mem_cons,List.not_mem_nil,or_false]at hd|-;rcases hd with h|h
  ·exact .inr h
  ·exact .inl h
 ·have e:mr g c [(X.M.new ks 5,0,v)]=(yg g c (X.M.new ks 5) v).toArray.toList:=(by unfold mr;simp);rw[e];exact a1
 ·simp only[List.mem_singleton]at f m;subst f m;show b.heap.size+1≠b.heap.size;omega
 ·simp only[List.mem_singleton]at f;subst f;have:=t y m;show y.1≠b.heap.size;omega
 ·simp only[List.mem_singleton]at f;subst f;have:=t y m;show y.1≠b.heap.size+1;omega
 ·have k:i<1:=k;obtain rfl:i=0:=(by omega);exact⟨E.mono (Nat.zero_le _),rfl,z,⟨[],rfl,λ_=>rfl,λh=>by cases h⟩,rb,l,λx f=>f,H,D⟩
 ·have k:i+1<1:=k;omega
 ·rfl
theorem Tg.rows {o W:World} {p pf q g c k:Nat} {ks:List X.Ky} {o1 o2:Value} (h:Tg o p pf q g c k ks o1 o2 W):∃g1 a c1 c2,o1= .slice (some ⟨g1,0,none⟩) (k+1) c1/\o2= .slice (some ⟨a,0,none⟩) (k+1) c2:=by
 obtain⟨S,f1,f2,G,m,d,v,l,h,_⟩:=h;have a1:=h.ab0.1;have b:=h.ab1.1;rcases a1.2 with⟨_,h0⟩|⟨g1,c1,_,e1,_⟩
 ·omega
 rcases b.2 with⟨_,h0⟩|⟨a,c2,_,e2,_⟩
 ·omega
 exact⟨g1,a,c1,c2,e1,e2⟩
structure KF (o:World) (fs:List (Nat×Obj)) (W:World):Prop where
 bel:Below o.heap.size o W
 get:∀x∈fs,W.heap[x.1]? =some x.2
theorem KF.below {o W D:World} {fs:List (Nat×Obj)} (h:KF o fs W) (a:Below W.heap.size W D):KF o fs D:=
 ⟨h.bel.trans (a.mono h.bel.size),λx b=>bu a (h.get x b)⟩
theorem KF.turn {o W D:World} {fs:List (Nat×Obj)} {b:Nat} (h:KF o fs W) (c:W.grownBy D (some b)) (f:o.heap.size<=b) (d:∀x∈fs,x.1≠b):KF o fs D:=
 ⟨h.bel.grown c h.bel.size (λk e=>by injection e with e;omega),λx a=>(c.block x.1 (ai (h.get x a)).1 (λe=>d x a (by injection e))).trans (h.get x a)⟩
theorem bY.of2 {m:X.M} {l:List HP} {ct:Nat} (h:l.map (·.1)=m.rows) (c:X.aQ m.ks m.size ct m.rows) (d:X.eC m.ks m.size) (e:m.rows.length<=1000000):bY m l:=by
 have b:∀x∈l,x.1∈m.rows:=λx a=>by rw[<-h];exact List.mem_map_of_mem a
 exact⟨λx a=>c.fit _ (b x a),λx a=>c.tl _ (b x a),d,by rw[<-List.length_map (f:=(·.1)),h];exact e⟩
abbrev Nz:Obj:= .cells #[.slice none 0 0, .slice none 0 0, .slice none 0 0, .slice none 0 0] 80 (0,0)
theorem vD {w w':World} {b:Nat} {v:Value} {l:J.B} {B:Nat} (h:bT w (· <B) v l) (a:w.grownBy w' (some b)) (c:b<B):Sl w' bE v l:=
 ((h.step (Step.bg a (λk e _=>by injection e with e;omega):Step (· <B) (· <B) w w')).sl).weak (λ_ h=>h.elim)
theorem NA {w w':World} {b B:Nat} {v:Value} {m:J.cS} (h:yq w (· <B) v m) (f:b<B):∃a c d e,v=Gs (.slice a m.h0.length m.h0.length) (.slice c m.h1.length m.h1.length) (.slice d m.a0.length m.a0.length) (.slice e m.a1.length m.a1.length)/\
  ∀w',w.grownBy w' (some b)->Sl w' bE (.slice a m.h0.length m.h0.length) m.h0/\Sl w' bE (.slice c m.h1.length m.h1.length) m.h1/\Sl w' bE (.slice d m.a0.length m.a0.length) m.a0/\Sl w' bE (.slice e m.a1.length m.a1.length) m.a1:=by
 obtain⟨y0,y1,y2,y3,rfl,q0,i,j,k⟩:=h;obtain⟨a,rfl⟩:=q0.aU;obtain⟨c,rfl⟩:=i.aU;obtain⟨d,rfl⟩:=j.aU;obtain⟨e,rfl⟩:=k.aU;exact⟨a,c,d,e,rfl,λw' g=>⟨vD q0 g f,vD i g f,vD j g f,vD k g f⟩⟩
theorem Cm (T:Nat) (h:T<20):IntKind.u16.wrap (T:Int)=(T:Int):=by
 rw[IntKind.wrap_u16];omega
theorem Th {c:Nat}:∀(j:Nat) (u:Value),([.int .i64 (c:Nat)]:List Value)[j]? =some u->TQ j u:=λj u a=>by
 have b:=(List.getElem?_eq_some_iff.1 a).1;have b:j<1:=b;obtain rfl:j=0:=by omega
 simp at a;exact⟨_,a.symm⟩
theorem Fj (s:Nat) (d:Bool) (A:Option Addr) (c:Nat) (L:List X.Ac) (a q:Nat) (w:World) (ha:fX w bE A L) (m:L.length<=9223372036854775807) (n:∀a∈L,a.val.length<=9223372036854775807) (h:80<X.fW L):
  Calls Tryz.prog 6 #[.agg #[.int .u8 s, .bool d, .slice A L.length c], .int .u16 a, .int .u16 q] w λe w'=>e= .returned (.bool true)/\Below w.heap.size w w':=by
 have l:=heap_alloc_new w (YY s d A L.length c);have p:=aj _ w.heap.size l;have b:=ae ((ak w.heap.size w).alloc (aq _) (YY s d A L.length c));have f:=KA A c L 80 (w.alloc (YY s d A L.length c)) (ha.below b.o) (by decide) m n;rw[decide_eq_true h]at f;have g:=ae f;have i:=ae (λW=>xA W);clear ha m n f h l;go_enter Tryz.func6,Tryz.ntmps6;go_wp2_with fail;refine g.o.mono ?_;rintro e Y ⟨rfl,rfl⟩;go_wp2_with fail;refine(i.o _).mono ?_;rintro e w1 ⟨rfl,k⟩;have o:=ae (b.o.trans (k.mono b.o.size));clear k i g b p;go_wp2;go_ret;exact⟨rfl,o.o⟩
theorem Xk {W:World} {g1 g c i:Nat} {m:X.M} {v:Value} {l:List HP} {rb:List (Nat×Obj)} {ko:Obj} {ct:Nat} (w:X.aQ m.ks m.size ct m.rows) (t:X.eC m.ks m.size) (y:m.rows.length<=1000000) (a:∀j u,(yg g c m v)[j]? =some u->W.cell? ⟨g1,i*16+j,none⟩=some u) (d:g1<W.heap.size) (s:W.heap[g]? =some ko) (r:KsK ko g m.ks) (p:TL rb v l) (z:∀x∈rb,W.heap[x.1]? =some x.2) (b:l.map (·.1)=m.rows):
  LiM W g1 (i*16) g c m.there m.ks m.rows:=by
 have c2:W.cell? ⟨g1,i*16+2,none⟩=some (.slice (some ⟨g,0,none⟩) m.ks.length c):=a 2 _ rfl;have c4:W.cell? ⟨g1,i*16+4,none⟩=some v:=a 4 _ rfl;have f:HMo W g1 (i*16) g c bE m v l:=⟨c2,c4,d,r W s,p W bE (λx B=>⟨z x B,λh=>h⟩),b⟩;refine⟨a 3 _ rfl,c2,d,λ_ W' n k q=> ?_⟩;refine(rO (f.below n) (λk h=>h.elim) (bY.of2 b w t y) k q).mono ?_;rintro e w' ⟨v',rfl,o,A⟩;exact⟨v',_,rfl,o,A,by rw[rG,b]⟩
theorem Fk (s:Nat) (od:Bool) (A:Option Addr) (c0:Nat) (L:List X.Ac) (a tn:Nat) (hat:a<=65535) (Tw:tn<=65535) (w:World) (ha:fX w bE A L) (hu:X.fW L<=80):
  Calls Tryz.prog 6 #[.agg #[.int .u8 s, .bool od, .slice A L.length c0], .int .u16 a, .int .u16 tn] w λe w'=>e= .returned (.bool true)/\Below w.heap.size w w':=by
 obtain⟨i1,LK,z11,z12,z13⟩:=info_parts Tryz.abW;obtain⟨i2,Cp,z21,z22,z23⟩:=info_parts Tryz.abX;have XB:L.length<=80:=aw (X.Ng L) hu;have cO:=heap_alloc_new w (YY s od A L.length c0);have hcb:=aj _ w.heap.size cO;have cH:=ae ((ak w.heap.size w).alloc (aq _) (YY s od A L.length c0));have mI:∀a∈L,a.val.length<=1600:=λa h=>by have:=X.SA L a h;omega
 have HBG:=ae (KA A c0 L 80 (w.alloc (YY s od A L.length c0)) (ha.below cH.o) (by decide) (by omega) (λa h=>by have:=mI a h;omega));rw[decide_eq_false (by omega)]at HBG;have HA:=ae (ha.below cH.o);have HVL:=ae mI;have HL:=ae (λW=>xA W);have wG:=ae (show w.heap.size<(w.alloc (YY s od A L.length c0)).heap.size by simp);have TH:=ae XB;have tK:=ae hat;have HTN:=ae Tw;clear ha hu cO mI hat Tw;go_enter Tryz.func6,Tryz.ntmps6;go_wp2_with fail;refine HBG.o.mono ?_;rintro e Y ⟨rfl,rfl⟩;clear HBG;generalize w.alloc (YY s od A L.length c0)=wa at cH HA wG hcb|-;go_wp2_with fail;refine(PG wa _ (ak _ _)).mono ?_;rintro e W ⟨p,rfl,h⟩;have H:=ae h;have Hw:aa (∀(W:World) (hb:Below wa.heap.size wa W) (j:Nat),W.cell? ⟨w.heap.size,j,none⟩=(#[.int .u8 s, .bool od, .slice A L.length c0]:Array Value)[j]?):=ae (λW hb j=>(hb.cell (p:=⟨w.heap.size,j,none⟩) wG.o).trans (hcb j));clear hcb;have hcb:=Hw.o W h.bel;clear h;go_wp2_with fail;refine(RX s W).mono ?_;rintro e W1 ⟨g,c,rfl,hb1,hcc,hg,hk⟩;obtain⟨ko,bF,kZ⟩:=abp hk;have gR:=ae (Wc s);have nC:=ae (SZ s);have PJ:=ae kZ;have Xl:aa (At wa p [(W1.heap.size,gz (X.M.new (kt s) 5) g c (.slice none 0 0)),(g,ko)] J.new (W1.alloc (gz (X.M.new (kt s) 5) g c (.slice none 0 0)))):=ae ((H.o.add hb1 (gs:=[(g,ko)]) (λx hx=>by simp only[List.mem_singleton]at hx;subst hx;exact⟨hg,bF⟩)).more _);have HGQ:aa (g≠W1.heap.size):=ae (Nat.ne_of_lt hk.1);clear H hb1 hcc hg hk kZ bF hcb;generalize kt s=ks at gR nC PJ Xl|-;go_upto_region 5 with fail;generalize W1.heap.size=q at Xl HGQ|-;refine aL (λY=>At wa p [(q,gz (X.M.new ks 5) g c (.slice none 0 0)),(g,ko)] J.new Y) Xl.o ?_;intro W2 h2;have hr2:=h2.get (x:=(q,gz (X.M.new ks 5) g c (.slice none 0 0))) af;have hc:=aj W2 q hr2;have Pv:=ae (Xa h2 gR.o PJ.o HGQ.o);clear h2 hr2 Xl HGQ PJ;go_wp2_with fail;refine Pv.o.mono ?_;rintro e W3 ⟨pf,rfl,h⟩;obtain⟨vq,lq,h3⟩:=h;have hrq:=h3.row;obtain⟨⟨Aq,nq,cq,rfl⟩,_⟩:=h3.sl;obtain⟨C0,hC0,hci⟩:=ab2 ⟨_,lq,h3⟩ hrq;have gW:=ae hci;have ZN:=ae hC0;have XA:=aj W3 q hrq;clear h3 hrq hci hC0 Pv hc;obtain rfl:C0=#[.string ⟨#[102]⟩, .int .i64 5, .slice (some ⟨g,0,none⟩) ks.length c, .bool false, .slice Aq nq cq, .int .i64 0, .int .u8 0, .bool false, .int .i64 0, .bool false, .string ⟨#[]⟩, .int .i64 0, .bool false, .string ⟨#[]⟩, .bool false, .string ⟨#[]⟩]:=Array.toList_inj.1 ZN.o;clear ZN;go_wp2;go_loopw [11,12,13] (fun o1 o2 i W=>∃k:Nat,k<=L.length/\i= .int .i64 k/\aa (Tg wa p pf q g c k ks o1 o2 W)) (fun _ _ i _=>L.length - (intOf i).toNat)
 case atStart=>exact⟨0,Nat.zero_le _,rfl,gW⟩
 case round=>
  clear gW XA;obtain⟨k,hk,rfl,HI⟩:=hrel;obtain⟨g1,g2,c1,c2,e1,e2⟩:=HI.o.rows;by_cases hlt:k<L.length
  ·subst e1 e2;obtain⟨S,f1,f2,G,m,Lc,v,l,hR,hQ,cB,hsz⟩:=HI.o;have hcb:=Hw.o wr hR.hd.bel;obtain⟨ba,oa,rfl,hba,_,hcs⟩:=HA.o (by omega);obtain⟨h0,h1,h2,⟨va,h3,ey⟩,hw8,hk8,hn8⟩:=hcs k hlt;obtain⟨Av,cv,rfl,_,_⟩:=ey.by
   have hdr:=hR.hd.below ((ak _ wr).drew);have aj9:=TH.o;have cI:rU wa p pf [102] k q g c (f1++(f2++G)) (f1.map (·.1)++f2.map (·.1)) m Lc L[k].n Av cv L[k].val wr.drew:=⟨⟨v,l,hdr⟩,by rw[cB,hsz];exact(nC.o k (by omega)).1,by omega,ey.step (Step.aC hdr.bel),by have:=HVL.o _ (List.getElem_mem hlt);omega,hn8⟩;have HDO:=ae (abO L[k] od Av cv wr.drew cI);have HAC:=ae (λ(w':World) (hS:Below wa.heap.size wa w')=>And.intro ((hS.cell (p:=⟨ba,oa+k*4,none⟩) hba).trans h0) (And.intro ((hS.cell (p:=⟨ba,oa+k*4+1,none⟩) hba).trans h1) (And.intro ((hS.cell (p:=⟨ba,oa+k*4+2,none⟩) hba).trans h2) ((hS.cell (p:=⟨ba,oa+k*4+3,none⟩) hba).trans h3))));have Fx:=ae hdr.bel;have bB:=ae hlt;have ux:aa ((m.does L[k] od).ks=ks/\(m.does L[k] od).size=5):=ae ⟨(X.xD m L[k] od).1.trans cB,(X.xD m L[k] od).2.trans hsz⟩;have mJ:(k:Int)<(L.length:Nat):=(by omega);have XW:=ae (hR.below ((ak _ wr).drew));have Ut:=ae hQ;clear hcs h0 h1 h2 h3 ey hdr cI hba hw8 hk8 hn8 HI aj9 cB hsz hR hQ;generalize m.does L[k] od=m3 at HDO ux;generalize L[k]=ac at HDO HAC;go_upto_region 13 with fail;refine aR (.rd 0 (.rd 1 (.rd 2 (.rd 3 (.rd 4 (.rd 5 (.rd 6 (.rd 7 (.rd 8 (.wr 9 (.rd 10 .fin))))))))))) (λw'=>Below wa.heap.size wa w') Fx.o ?_;clear hcb;generalize wr.drew=wd at HDO Fx XW|-;repeat
    refine aA (v:= ?_) (λw' hS=> ?_) (λK hK=> ?_);rotate_left
    ·obtain⟨d0,d1,d2,d3⟩:=HAC.o w' hS;have hcx:=Hw.o w' hS;clear hS;go_simp;try with_reducible rfl
    go_simp;refine hK _ ?_;clear hK K
   refine az (λK hK=> ?_);go_simp;refine HDO.o.mono ?_;rintro e w3 ⟨rfl,L',hE,v3,l3,Cn⟩;clear HDO;have hb3:=Cn.bel;have hE2:=Cn.Zb (by have:=TH.o;omega);obtain⟨ab3,afO⟩:=Cn.sl;have afP:=Cn.mok.mono (u:=k+1) (v:=340) (by have:=TH.o;omega);obtain⟨rb,afQ,hr3⟩:=XW.o.does Cn;have NL:=ae (Ut.o.next hE afP ux.o.1 ab3 hE2.2.2 ⟨l3,afQ,afO⟩);have hS1:∀x∈S,gj x.2.2:=λx hx=>by
    obtain⟨i,hi,rfl⟩:=List.getElem_of_mem hx;exact(Ut.o.each i hi).2.2.1
   have yn:=ae (abU g c S hS1);have HSV:=ae ab3;have HL3:=ae hE2.2.1;have BM:=ae hr3;refine hK.out _ _ (λw'=>Below wa.heap.size wa w') (λ_ h=>h) hb3 ?_;clear hK K hb3 hE2 ab3 afO afP afQ hr3 hS1 hE Cn XW Ut Fx HAC;repeat
    refine aA (v:= ?_) (λw' hS=> ?_) (λK hK=> ?_);rotate_left
    ·clear hS;go_simp;try with_reducible rfl
    go_simp;refine hK _ ?_;clear hK K
   show wpList _ _ _ _ _ _;obtain⟨A3,n3,c3,rfl⟩:=HSV.o;have XA:=aj w3 q BM.o.hd.row;have xI:=ae BM.o.hd.bel.size;have Xm:=BM.o.below ((ak _ w3).alloc (aq _) (.cells #[.string ⟨#[102]⟩, .int .i64 (m3.size:Nat), .slice (some ⟨g,0,none⟩) m3.ks.length c, .bool m3.there, .slice A3 n3 c3, .int .i64 (m3.time:Nat), .int .u8 (m3.mode:Nat), .bool m3.ord, .int .i64 (m3.key:Nat), .bool m3.lost, .string ⟨m3.value.toArray⟩, .int .i64 (m3.at_:Nat), .bool m3.same, .string ⟨m3.last.toArray⟩, .bool m3.read, .string ⟨m3.written.toArray⟩] 34));have HRA:=ae Xm;have rZ:=ae Xm.ab0.1;have HP1:=ae Xm.ab0.2;have hkb:k<=80:=(by have:=TH.o;omega);clear Xm BM;go_wp2_with (at_builtin;refine mB _ rfl _ _ 76 rfl TP wa.heap.size 34 i1 _ 16 184 Tryz.underlying76 LK z11 z12 z13 rfl (by decide) Xi _ (k+1) (mr g c S) rfl rZ.o HP1.o yn.o ⟨w3.heap.size,0,none⟩ 1 (yg g c m3 (.slice A3 n3 c3)) rfl rfl (World.news_of_block (heap_alloc_new w3 _)) (abT g c m3 _ HSV.o) (Ja g c m3 _ HSV.o) (by unfold maxLen;omega) (by omega) (by have:=xI.o;simp;omega) ?_);intro o1' w4 oD hg4 Zc hp4;obtain⟨YZ,hr4⟩:=HRA.o.afK hg4 (by rw[World.size_alloc];exact Zc) oD hp4;have Kb:=ae hr4.hd.writes;have afR:=ae hr4.hd.bel.size;obtain⟨wl,vM⟩:∃wl,wl=L'.length - 1:=⟨_,rfl⟩;rw[<-vM]at Kb;have akc:wl<=20000000:=(by have:=HL3.o;omega);have HWL:=ae vM;have Xm:=hr4.below ((ak _ w4).alloc (aq _) (.cells #[.int .i64 wl] 3));have HRB:=ae Xm;have ku:=ae Xm.ab1.1;have XI:=ae Xm.ab1.2;obtain⟨A1',c1',vA⟩:=cj oD;have sO:=ae (abV S);subst vA;clear hr4 Xm HRA rZ HP1 yn oD hg4 Zc hp4 xI vM XA;go_wp2_with fail;refine Kb.o.mono ?_;rintro e Y ⟨rfl,rfl⟩;go_wp2_with (at_builtin;refine mB _ rfl _ _ 50 rfl TQ wa.heap.size 3 i2 (.int .i64 0) 1 8 Tryz.underlying50 Cp z21 z22 z23 rfl (by decide) Xj _ (k+1) (S.map Xf) rfl ku.o XI.o sO.o ⟨w4.heap.size,0,none⟩ 1 [.int .i64 (wl:Nat)] rfl rfl (World.news_of_block (heap_alloc_new w4 _)) (by simp[Value.oneCell']) (λj u hu=>Th j u hu) (by unfold maxLen;omega) (by omega) (by have:=afR.o;simp;omega) ?_);intro o2' w5 fj iu Zd hp5;obtain⟨f2',wX⟩:=HRB.o.afL iu (by rw[World.size_alloc];exact Zd) fj hp5;obtain⟨A2',c2',vA⟩:=cj fj;subst vA;have HN:=ae (show Tg wa p pf q g c (k+1) ks (.slice A1' (k+1+1) c1') (.slice A2' (k+1+1) c2') w5 from by
    refine⟨S++[(m3,L'.length - 1, .slice A3 n3 c3)],YZ,f2',rb++G,m3,L', .slice A3 n3 c3,l3, ?_,NL.o,ux.o⟩;rw[<-HWL.o,Te,List.map_append];exact wX)
   clear wX HRB ku XI fj iu Zd hp5 afR NL Kb;go_wp2_with fail;go_roundw
   case rel=>exact⟨k+1,bB.o,by go_num,HN⟩
   case measure=>have:=bB.o;simp[intOf];omega
  ·obtain rfl:k=L.length:=(by omega);obtain⟨N,hN⟩:∃N,N=L.length+1:=⟨_,rfl⟩;rw[<-hN]at e1 e2;subst e1 e2;obtain⟨S,f1,f2,G,m,Lc,v,l,hR,hQ,cB,hsz⟩:=HI.o;have hcb:=Hw.o wr hR.hd.bel;have aph:=TH.o;have hN1:N<=81:=(by omega);have Kb:=ae hR.hd.writes;obtain⟨h0,XB,_⟩:=hR.hd.Zb (by omega);obtain⟨wl,vM⟩:∃wl,wl=Lc.length - 1:=⟨_,rfl⟩;rw[<-vM]at Kb;have akc:wl<=200:=(by omega);have akd:(a:Int).tmod ((wl:Int)+1)=((a%(wl+1):Nat):Int):=by
    rw[show(wl:Int)+1=((wl+1:Nat):Int)from rfl];rfl
   have hKl:a%(wl+1)<Lc.length:=(by have:a%(wl+1)<wl+1:=Nat.mod_lt _ (Nat.succ_pos _);omega);generalize a%(wl+1)=KK at akd hKl;have hrt:(tn:Int).tmod 20=((tn%20:Nat):Int):=rfl;have hT:tn%20<20:=Nat.mod_lt _ (by decide);generalize tn%20=T at hrt hT;have hne:¬((wl:Int)+1=0):=(by omega);have hwt:wrap64 (a:Int)=(a:Int):=IntWalk.wrap64_in _ (by have:=tK.o;omega);have hwT:wrap64 (T:Int)=(T:Int):=IntWalk.wrap64_in _ (by omega);have api:IntKind.u16.wrap (T:Int)=(T:Int):=Cm T hT;obtain⟨i,hi,JR,hSi⟩:=hQ.hit hKl;obtain⟨hmk,afS,hvi,⟨now,pH,afT,afU⟩,rbi,li,eF,afV,afW⟩:=hQ.each i hi;rw[hSi]at pH;have hSl:=hQ.len;have afX:(S.map (·.2.1)).length=N:=(by rw[List.length_map];omega);have JW:∀j (h:j<(S.map (·.2.1)).length),(S.map Xf)[j]? =some (.int .i64 ((S.map (·.2.1))[j]:Nat)):=λj h=>by
    have hj:j<S.length:=(by simpa using h);simp[hj]
   have hst:∀j u,(yg g c S[i].1 S[i].2.2)[j]? =some u->(mr g c S)[i*16+j]? =some u:=λj u hu=>by
    rw[Fh g c S i hi j (by have:=(List.getElem?_eq_some_iff.1 hu).1;rw[iq]at this;exact this)];exact hu
   obtain⟨kko,afY,ab4,_⟩:=hR.hd.aH;rw[cB]at ab4;have jo:=ae (And.intro afY ab4);have HMK:=ae hmk;have ab5:=ae afS;have HTH:=ae (And.intro afT afU);have TN:=ae (And.intro afV afW);have NN:=ae eF;have yI:=ae JW;have HST:=ae hst;have HIX:=ae JR;have ab6:=ae afX;have Ty:=ae hN;have apl:=ae hi;have hiN:i<N:=(by omega);have ake:=ae pH;have afZ:=ae (λ(W:World) (h:∀x∈f1,W.heap[x.1]? =some x.2)=>(hR.r1.row W h).1);have af0:=ae (λ(W:World) (h:∀x∈f2,W.heap[x.1]? =some x.2)=>(hR.r2.row W h).1);have Yx:=ae (λ(W:World) (ds:List Nat) (fs:List (Nat×Obj)) (h:fK wa p pf [102] L.length q g c fs ds m m Lc v l W) (hfs:∀x∈f1++(f2++G),x∈fs) (bF:W.heap[g]? =some kko)=>(KF.mk h.bel (λx hx=>by
    rcases au hx with rfl|hx
    ·exact bF
    ·exact h.get (hfs x hx)):KF wa ((g,kko)::(f1++(f2++G))) W))
   have Tk:∀(ds:List Nat) (fs:List (Nat×Obj)) (W:World),fK wa p pf [102] L.length q g c fs ds m m Lc v l W->∃ko',W.heap[g]? =some ko'/\KsK ko' g ks:=λds fs W h=>by
    obtain⟨ko',h1,h2,_⟩:=h.aH;rw[cB]at h2;exact⟨ko',h1,h2⟩
   have HR:=ae hR.hd;clear pH afT afU afV afW eF JW hst JR afX hN hmk afS afY ab4 hQ hR HI cB hsz h0 hSl vM XB hvi hSi;generalize S[i].1=mi at ab5 HMK HTH TN HST;generalize S[i].2.2=vi at TN HST;clear hi;generalize S.map (·.2.1)=ws at yI HIX ab6;go_wp2_with fail;refine Kb.o.mono ?_;rintro e Y ⟨rfl,rfl⟩;by_cases eN:T=0\/KK+1<Lc.length
   have mC:=trivial
   all_goals
    first
     |have mC:=mC
      obtain⟨CI,c',now',hnw,KE,hch,hcut⟩:=HR.o.cut hKl hT eN
      skip
     |have fZ:KK+1=Lc.length:=by omega
      have hT0:0<T:=Nat.pos_of_ne_zero (λh=>eN (Or.inl h));have HNC:=ae (HR.o.abY fZ hT0);have HDN:=ae Tk;clear eN fZ hT0 Tk;go_wp2_with fail;refine HNC.o.mono ?_;rintro e w3 ⟨rfl,Cn⟩;have HZ:=ae (heap_alloc_new w3 Nz);have Eg:=ae Cn;clear Cn HNC Kb hcb HR Yx;go_wp2_with (refine wpList_store_row rfl _ _ 80 rfl w3.heap.size rfl [.slice none 0 0, .slice none 0 0, .slice none 0 0, .slice none 0 0] rfl _ _ HZ.o rfl (by kernel_rfl) rfl ?_);intro w4 hr4 hg4 hz4;have hb4:=((ak w3.heap.size w3).alloc (aq _) Nz).grown hg4 (by simp) (λk e=>by injection e with e;omega);have YN:=Eg.o.add hb4 (gs:=[(w3.heap.size,Nz)]) (λx hx=>by
       simp only[List.mem_singleton]at hx;subst hx;exact⟨aq _,hr4⟩)
      obtain⟨CI,c',now',hnw,KE,hch,hcut⟩:=YN.cut hKl (t:=0) (by decide) (.inl rfl)
    obtain rfl:now=now':=(by have h:=ake.o;rw[hnw]at h;injection h with h;exact h.symm);have ab7:=ae hcut;have HHO:=ae KE;have Xs:=ae hch;first
     |have mC:=mC
      have HDN:=ae Tk;clear hnw KE hch hcut Tk eN
     |have fJ:=ae (show w3.heap.size<w4.heap.size from(ai hr4).1)
      have cV:=ae (show wa.heap.size<=w3.heap.size/\(∀x∈f1++(f2++G),x.1<w3.heap.size)/\g<w3.heap.size from⟨Eg.o.bel.size,λx hx=>(ai (Eg.o.get hx)).1,by
       obtain⟨_,h,_⟩:=HDN.o _ _ _ Eg.o;exact(ai h).1⟩)
      generalize w3.heap.size=bx at*;clear hnw KE hch hcut hr4 hg4 hz4 hb4 YN HZ Eg
    go_wp2_with fail;refine ab7.o.mono ?_;first
     |have mC:=mC
      rintro e w3 ⟨v',rfl,hi3,Cn⟩;obtain⟨I0,I1,I2,I3,rfl,q0,q1,q2,q3⟩:=Jb hi3
      skip
     |rintro e w4 ⟨v',rfl,hi3,Cn⟩
      obtain⟨I0,I1,I2,I3,rfl,hq⟩:=NA (w':=w4) hi3 fJ.o
    obtain⟨kk3,Ti,ab8⟩:=HDN.o _ _ _ Cn;first
     |have mC:=mC
      have Pq:=ae (KF.mk (fs:=(g,kk3)::(f1++(f2++G))) Cn.bel (λx hx=>by
       rcases au hx with rfl|hx
       ·exact Ti
       ·exact Cn.get hx))
      skip
     |skip
      have Pq:=ae (KF.mk (fs:=(g,kk3)::(f1++(f2++G))) Cn.bel (λx hx=>by
       rcases au hx with rfl|hx
       ·exact Ti
       ·exact Cn.get (List.mem_append_right _ hx)))
    replace jo:=ae (And.intro Ti ab8);first
     |have mC:=mC
      have HZ:=ae (heap_alloc_new w3 Nz);have af3:=ae q0;have af4:=ae q1;have af5:=ae q2;have af6:=ae q3;clear hi3 Cn q0 q1 q2 q3 ab7 Kb hcb Ti ab8 Yx HDN HR;go_wp2_with (refine wpList_store_row rfl _ _ 80 rfl w3.heap.size rfl [.slice I0 CI.h0.length CI.h0.length, .slice I1 CI.h1.length CI.h1.length, .slice I2 CI.a0.length CI.a0.length, .slice I3 CI.a1.length CI.a1.length] rfl _ _ HZ.o rfl (by kernel_rfl) rfl ?_)
     |have HZ:=ae (Cn.get (x:=(bx,Nz)) (List.mem_append_left _ af))
      have HQ:=ae hq;clear hi3 Cn hq ab7 Ti ab8 HDN;go_wp2_with (refine wpList_store_row rfl _ _ 80 rfl bx rfl [.slice I0 CI.h0.length CI.h0.length, .slice I1 CI.h1.length CI.h1.length, .slice I2 CI.a0.length CI.a0.length, .slice I3 CI.a1.length CI.a1.length] rfl _ _ HZ.o rfl (by kernel_rfl) rfl ?_)
    intro w5 wX iu hz5;first
     |have mC:=mC
      have eT:=((ak w3.heap.size w3).alloc (aq _) Nz).grown iu (by simp) (λk e=>by injection e with e;omega);have Dn:=ae (Pq.o.below eT);have HQ0:=ae (af3.o.step (Step.aC eT));have HQ1:=ae (af4.o.step (Step.aC eT));have Yc:=ae (af5.o.step (Step.aC eT));have NL:=ae (af6.o.step (Step.aC eT));have pL:=aj w5 w3.heap.size wX;clear wX iu hz5 eT HZ Pq af3 af4 af5 af6
     |obtain⟨q0,q1,q2,q3⟩:=HQ.o w5 iu
      have Dn:=ae (Pq.o.turn iu cV.o.1 (λx hx=>by
       rcases au hx with rfl|hx
       ·have:=cV.o.2.2;show g≠bx;omega
       ·have:=cV.o.2.1 x hx;omega))
      have HQ0:=ae q0;have HQ1:=ae q1;have Yc:=ae q2;have NL:=ae q3;have pL:=aj w5 bx wX;clear wX iu hz5 q0 q1 q2 q3 HQ Pq HZ cV fJ
    go_wp2_with fail;refine(sW w5 CI c' now HHO.o _ _ _ _ w5 (ak _ _) HQ0.o HQ1.o Yc.o NL.o Xs.o.1 Xs.o.2).mono ?_;rintro e w6 ⟨p6,at6,rfl,ha6,_,_,_,sT⟩;have tW:(J.recovered CI at6 c' now).now=now:=rfl;generalize J.recovered CI at6 c' now=s6 at ha6 tW;have RO:=Dn.o.below sT;have Cv:=afZ.o w6 (λx hx=>RO.get x (ag _ (List.mem_append_left _ hx)));have Jo:=af0.o w6 (λx hx=>RO.get x (ag _ (List.mem_append_right _ (List.mem_append_left _ hx))));have hc2:=λj (hj:j<ws.length)=>Jo.cells (g:=g2) rfl j _ (yI.o j hj);have hc1:=λj u hu=>Cv.cells (g:=g1) rfl _ u (HST.o j u hu);simp only[fB,Nat.zero_add]at hc2 hc1;have af7:g1<w6.heap.size:=World.block_lt_of_cell? _ _ (hc1 3 _ rfl);have Hg:=Xk (g1:=g1) (i:=i) HMK.o.rows HMK.o.ks (by have:=HMK.o.many;omega) hc1 af7 (RO.get _ af) (by rw[ab5.o];exact jo.o.2) TN.o.1 (λx hx=>RO.get x (ag _ (List.mem_append_right _ (List.mem_append_right _ (NN.o x hx))))) TN.o.2;have Ze:Calls Tryz.prog 24 #[.pointer (some ⟨p6,0,none⟩), .pointer (some ⟨g1,i*16,none⟩)] w6 λe w'=>e= .returned (.bool true)/\Below w6.heap.size w6 w':=by
     cases uR:mi.there with
      |false=>
       rw[uR]at Hg;exact Nh ha6 (by rw[tW,HTH.o.1 uR];rfl) Hg
      |true=>
       rw[uR]at Hg;exact WR ha6 (by rw[tW];exact HTH.o.2 uR) Hg (by have:=HMK.o.ks.one;omega)
    have HLI:=ae Ze;have Li:=ae hc2;have HBE:=ae (cH.o.trans (RO.bel.mono cH.o.size));clear sT ha6 tW RO Cv Jo hc2 hc1 af7 Hg Ze Dn HQ0 HQ1 Yc NL HHO Xs HMK TN NN yI HST HTH ab5 jo afZ af0 pL;go_wp2;go_loop [19,20] (fun n i=>∃j:Nat,j<=N/\i= .int .i64 j/\n= .int .i64 (J.dp (ws.take j) KK:Nat)) (fun _ i=>N - (intOf i).toNat)
    case atStart=>exact⟨0,Nat.zero_le _,rfl,rfl⟩
    case round=>
     obtain⟨j,hj,rfl,rfl⟩:=hrel;by_cases hlt:j<N
     ·have hjw:j<ws.length:=(by rw[ab6.o];exact hlt);have hcell:=Li.o j hjw;have uK:=ae (show J.dp (ws.take (j+1)) KK=if ws[j]<=KK then j else J.dp (ws.take j) KK by
       rw[List.take_succ_eq_append_getElem hjw,J.eV,List.length_take_of_le (Nat.le_of_lt hjw)])
      generalize ws[j]=y at hcell uK;generalize J.dp (ws.take j) KK=z at uK;by_cases hy:y<=KK
      ·have hy':(y:Int)<=(KK:Int):=(by omega);go_wp2;go_round
       case rel=>exact⟨j+1,hlt,by go_num,by rw[uK.o,if_pos hy]⟩
       case measure=>simp[intOf];omega
      ·have hy':¬(y:Int)<=(KK:Int):=(by omega);go_wp2;go_round
       case rel=>exact⟨j+1,hlt,by go_num,by rw[uK.o,if_neg hy]⟩
       case measure=>simp[intOf];omega
     ·obtain rfl:j=N:=(by omega);rw[List.take_of_length_le (by rw[ab6.o];exact Nat.le_refl _),HIX.o];have apn:(i:Int)<(j:Nat):=(by omega);clear Li;go_wp2_with fail;refine HLI.o.mono ?_;rintro e w7 ⟨rfl,tF⟩;have JT:=ae (HBE.o.trans (tF.mono HBE.o.size));clear tF HLI HBE;go_wp2_with fail;refine(HL.o _).mono ?_;rintro e w8 ⟨rfl,IG⟩;have yG:=ae (JT.o.trans (IG.mono JT.o.size));clear IG HL;go_wp2;go_ret;exact⟨rfl,yG.o⟩
end Go.Proofs.YtipljcmmokaokaaGreat
namespace Go.Proofs.YtipljcmmokaokaaGreat
open Go.ChangeShapes Go.WideShapes Go.ChangeAt Go.WideMaps Go.WideElems Go.RowKit
set_option maxRecDepth 100000
theorem rX (os:Os) (o:os.Started) (H:Type) (enc:TypeId×Value->H):
  ReturnsInHanded {} Tryz.checked os 6 .any (λw e=>Rows.indexesCutSpec.pre enc Tryz.prog Tryz.f6 [] false w e/\sizedMet enc Tryz.prog Tryz.f6 (OpenSpec.ofChange Rows.indexesCutSpec) false w e)
   (Rows.indexesCutSpec.post enc Tryz.prog Tryz.f6 false true false false):=by
 refine Pd (tb:=4) o (by kernel_rfl) Tryz.func6
  (ChangeSpec.witness6 (enc:=enc) (C:=Tryz.checked) false ⟨#[],#[.agg #[.int .u8 0, .bool false, .slice none 0 0], .int .u16 0, .int .u16 0],[]⟩ 8 (by kernel_rfl) (by kernel_rfl) (by kernel_rfl) (by kernel_rfl))
  rfl (λl f=> ?_) (by kernel_rfl) Tryz.underlying4 (by kernel_rfl) ?_
 ·match l,f with
  |[a,b,c],_=>rfl
 ·intro W base e ds s d g _ _;rw[Tryz.params6]at g d;obtain⟨v0,v1,v2,d0,d1,d2,p0,q,r,rfl,rfl,rfl,h0,h1,k⟩:=trodAll_three g;obtain⟨sz,rel,A,c,L,rfl,_,ha,f,m⟩:=abQ (d 0 56 v0 rfl rfl) h0;obtain⟨i,rfl,_,_,w1⟩:=open_int Tryz.underlying75 (d 1 75 v1 rfl rfl) h1;obtain⟨j,rfl,_,_,p⟩:=open_int Tryz.underlying75 (d 2 75 v2 rfl rfl) k;have b1:=bounds_u16 w1;have b2:=bounds_u16 p;obtain⟨n1,rfl⟩:∃n:Nat,i=n:=⟨i.toNat,by omega⟩;obtain⟨n2,rfl⟩:∃n:Nat,j=n:=⟨j.toNat,by omega⟩;by_cases h:80<X.fW L
  ·exact Fj sz rel A c L n1 n2 W ha f m h
  ·exact Fk sz rel A c L n1 n2 (by omega) (by omega) W ha (Nat.not_lt.1 h)
theorem indexesCut_holds:Rows.IndexesCutSaid:=
 OpenClaim.holds_of_wide 6 Tryz.f6 rfl rfl rfl rfl rfl rfl rfl ⟨rfl,rfl,rfl,rfl,rfl⟩ rfl rfl rfl rfl rfl (by kernel_rfl) Tryz.func6 (by kernel_rfl)
  (of_decide_eq_true (by kernel_rfl)) (by unfold Func.isWrapper;rw[if_neg (of_decide_eq_false (by kernel_rfl))];exact⟨rfl,rfl⟩)
  (λos a H enc _=>rX os a H enc)
end Go.Proofs.YtipljcmmokaokaaGreat
