import Derived.Test.YtipljcmmokaokaaGreatQ13
set_option linter.unusedVariables false
set_option linter.unusedSimpArgs false
set_option maxHeartbeats 40000000
namespace Go.Proofs.YtipljcmmokaokaaGreat
open Go.RowKit Go.Lib Go.Maps Go.WideMaps Go.Sort
set_option maxRecDepth 100000
section
variable {w0 : World} {p pf g c size ct u : Nat} {nm : J.B} {ks : List X.Ky} {rows : List X.Row} {f : Fv} {w w' : World} {s s1 s2 : J.St} {fs : List (Nat × Obj)} {ok : Obj}
variable {b : J.B} {old : Option X.Row} {now : List (J.B × J.B)}
theorem Mt {B:Nat} {v:ByteArray} (h:w.heap[B]? =some (aZ v)):uF w B:=by
 refine⟨λo u v hh=> ?_,λ⟨_,cur,b,e⟩=> ?_⟩
 ·rw[cell_of_row w B o _ _ _ h,cell_of_row w B (o+1) _ _ _ h]at hh;obtain⟨h1,a⟩:=hh;rcases o with _|o<;>simp at h1 a
 ·rw[h]at e;injection e with e;injection e with e1 e2;exact absurd e2 (by decide)
theorem At.BQ {B:Nat} {v:ByteArray} (h:At w0 p ((B,aZ v)::fs) s w) (a:∀x∈fs,x.1≠B) (b:J.Two s) (v':ByteArray):At w0 p ((B,aZ v')::fs) s (w.setCell ⟨B,0,none⟩ (.string v')):=
 h.turn a b (Mt (h.get af)) (ay (World.grownBy.refl w (some B)) 0 _) (aB (h.get af) 0 _)
theorem At.lt (h:At w0 p fs s w) {x:Nat×Obj} (a:x∈fs):x.1<w.heap.size:=(ai (h.get a)).1
theorem QU {chs:List J.cd} {c:List X.Row} {a:Nat} (f:X.mL u s.now s) (k:u<=340) (h:X.eC ks size) (d:X.FC s chs now 11900) (g:X.iF nm (X.attr size ks) ks c a now) (j:X.aQ ks size a c) (o:a<1000001) (i:c.length<=u+1):X.Tx u s (X.opened s chs now) now:=by
 refine X.Yg f k chs d.inv (λb p at_ hh=>X.uf f _ _ hh) ⟨by rcases d.mn with e|e;cases e;exact e,d.len⟩ ?_;have h1:=h.one;have l:=g.count j (by omega) h1.1 (by omega);have m:ks.length*c.length<=8*(u+1):=Nat.mul_le_mul h1.2 i;have n:(if 0<a then 1 else 0)<=1:=by split<;>omega
 omega
theorem tI {s1:J.St} (h:X.Tx u s s1 now):∀gs w1,At w0 p gs s1 w1->∃k:Int,Calls Tryz.prog 98 #[.pointer (some ⟨p,0,none⟩)] w1 λe w'=>e= .returned (.tuple #[.int .i64 k, .int .i64 0])/\At w0 p gs (J.aK s1) w':=
 λ_ _ h1=>⟨_,Lx h1 h.opn h.sp h.cs h.cm h.ar h.fit _ _ h.com⟩
theorem Mu (h:At w0 p fs (X.opened s [] s.now) w) (hF:(pf,ax p nm size g ks.length c f)∈fs) (x:(g,ok)∈fs) (k:bR ok ks) (q:ks.length<=c) (Bf Bp G Bo:Nat) (A:Option Addr) (E:Nat) (L:Value)
  (a:(Bf,aO pf)∈fs) (d:(Bp,aZ ⟨(X.val ks 0 b).toArray⟩)∈fs) (i:(G,bW (.slice A b.length E))∈fs) (j:(Bo,bW L)∈fs)
  (m:XF nm size ks rows ct s.now) (l:X.FC s [] s.now 0) (n:Src w0 p fs (.slice A b.length E) b) (u:X.bt ks size b=true) (t:rows.find? (λr=>decide (X.val ks 0 r.b=X.val ks 0 b))=old) (y:tu w0 p fs L old):
  Calls Tryz.prog 106 #[.pointer (some ⟨Bf,0,none⟩), .pointer (some ⟨Bp,0,none⟩), .pointer (some ⟨G,0,none⟩), .pointer (some ⟨Bo,0,none⟩)] w λe w'=>(∃v,e= .returned v)/\∃chs now,NK w0 p fs s nm size ks ct rows b old (ks.length - 1) chs now w':=by
 cases old with
 |none=>exact Mq h hF x k q Bf Bp G Bo A E L a d i j m l n u t y
 |some o=>exact Mp h hF x k q Bf Bp G Bo A E L a d i j m l n u t y
theorem Vp {gs:List (Nat×Obj)} {B:Nat} {pv:ByteArray} {W:World} (h:At w0 p ((B,aZ pv)::gs) s W) (A:Option Addr) (E:Nat) (Ao:Option Addr) (no co:Nat) (G:∀x∈((w.heap.size+1+1,bW (.slice Ao no co))::(w.heap.size+1,bW (.slice A b.length E))::(w.heap.size,aO pf)::(pf,ax p nm size g ks.length c f)::fs),x∈gs) (H:(g,ok)∈fs) (v:bR ok ks) (D:ks.length<=c) (K:(⟨(X.val ks 0 b).toArray⟩:ByteArray)=pv)
  (m:X.mL u s.now s) (M:u<=340) (k:XF nm size ks rows ct s.now) (z:Src w0 p fs (.slice A b.length E) b) (t:X.bt ks size b=true) (F:rows.find? (λr=>decide (X.val ks 0 r.b=X.val ks 0 b))=old) (l:tu w0 p fs (.slice Ao no co) old)
  (L:X.aQ ks size (ct+1) (X.gw ks ct rows b old)) (O:rows.length<=u):
  Calls Tryz.prog 45 #[.pointer (some ⟨pf,0,none⟩), .func (.func 106) #[] #[.pointer (some ⟨w.heap.size,0,none⟩), .pointer (some ⟨B,0,none⟩), .pointer (some ⟨w.heap.size+1,0,none⟩), .pointer (some ⟨w.heap.size+1+1,0,none⟩)]] W λe w'=>e= .returned (.string ⟨#[48,48]⟩)/\
   ∃s1 now,At w0 p ((pf,ax p nm size g ks.length c f)::fs) (J.aK s1) w'/\X.Tx u s s1 now/\X.iF nm (X.attr size ks) ks (X.gw ks ct rows b old) (ct+1) now:=by
 subst K;have d:∀x∈((w.heap.size+1+1,bW (.slice Ao no co))::(w.heap.size+1,bW (.slice A b.length E))::(w.heap.size,aO pf)::(pf,ax p nm size g ks.length c f)::fs),x∈(B,aZ ⟨(X.val ks 0 b).toArray⟩)::gs:=λx a=>ag _ (G x a);have n:∀x∈fs,x∈(B,aZ ⟨(X.val ks 0 b).toArray⟩)::gs:=λx a=>d x (ag _ (ag _ (ag _ (ag _ a))));have I:tu w0 p ((B,aZ ⟨(X.val ks 0 b).toArray⟩)::gs) (.slice Ao no co) old:=by
  cases old with
  |none=>exact l
  |some o=>exact⟨l.1,l.2.more n⟩
 refine(pQ (f:=f) (nm:=nm) (size:=size) (g:=g) (ks:=ks) (c:=c) h (d _ (ag _ (ag _ (ag _ af)))) m.opn 106 _ (enters_of Tryz.func106 (by kernel_rfl) rfl) (λs1=>∃now,X.Tx u s s1 now/\X.iF nm (X.attr size ks) ks (X.gw ks ct rows b old) (ct+1) now)
  (λw1 ha=> ?_) (λs1 w1 ha y=> ?_)).mono ?_
 ·refine(Mu (by rw[X.rz]at ha;exact ha) (f:=f) (d _ (ag _ (ag _ (ag _ af)))) (n _ H) v D w.heap.size B (w.heap.size+1) (w.heap.size+1+1) A E (.slice Ao no co) (d _ (ag _ (ag _ af))) af (d _ (ag _ af)) (d _ af) k ⟨X.lO m,by simp[J.encs], .inl rfl⟩ (z.more n) t F I).mono ?_;rintro e w' ⟨N,chs,now,i⟩;have h1:=k.ks.one;have q:=X.UB (j:=ks.length - 1) (by omega) k.rows t i.mix;refine⟨N,_,i.at_,now,QU m M k.ks ⟨i.tx.inv,by have:=i.tx.len;omega, .inr (i.tx.mn.resolve_left (by omega))⟩ q L (by have:=k.ct;omega) ?_,q⟩;have:=X.DX ks ct rows b old;omega
 ·obtain⟨now,a,_⟩:=y;exact tI a _ _ ha
 ·rintro e w' ⟨rfl,s1,ha,now,a,C⟩;exact⟨rfl,s1,now,ha.less (λx a=>d x (by
   rcases au a with rfl|a
   ·exact(ag _ (ag _ (ag _ af)))
   ·exact(ag _ (ag _ (ag _ (ag _ a)))))),a,C⟩
theorem Et (h:At w0 p ((pf,ax p nm size g ks.length c f)::fs) s w) (hf:∀x∈fs,x.1≠pf) (S:(g,ok)∈fs) (O:bR ok ks) (a0:ks.length<=c) (A:Option Addr) (E:Nat) (Ao:Option Addr) (no co:Nat)
  (T:X.mL u s.now s) (hu:u<=340) (G:XF nm size ks rows ct s.now) (P:Src w0 p fs (.slice A b.length E) b) (H:X.bt ks size b=true) (a1:rows.find? (λr=>decide (X.val ks 0 r.b=X.val ks 0 b))=old) (a3:tu w0 p fs (.slice Ao no co) old)
  (a4:X.aQ ks size (ct+1) (X.gw ks ct rows b old)) (a5:rows.length<=u):
  Calls Tryz.prog 58 #[.pointer (some ⟨pf,0,none⟩), .slice A b.length E, .slice Ao no co] w λe w'=>e= .returned (.string ⟨#[48,48]⟩)/\
   ∃s1 now,At w0 p ((pf,ax p nm size g ks.length c f)::fs) (J.aK s1) w'/\X.Tx u s s1 now/\X.iF nm (X.attr size ks) ks (X.gw ks ct rows b old) (ct+1) now:=by
 have N:=((h.more (aO pf)).more (bW (.slice A b.length E))).more (bW (.slice Ao no co));rw[World.size_alloc,World.size_alloc]at N;have k:=ae N;have b0:=G.ks.one;have I:0<ks.length:=by omega
 have a2:=(X.aS.1 H).2 _ (X.aY I);have a8:=(X.aS.1 H).1;have b1:=G.ks.size;have F:=ae (λy t (m:∀x∈fs,x∈y) w1 (hh:At w0 p y t w1)=>cG (X.aH ks 0) (.slice A b.length E) b bE w1 (P _ _ _ m hh) a2 (by omega));have a6:(X.aH ks 0).val b=X.val ks 0 b:=rfl;rw[a6]at F;have a7:=ae (λy (m:∀x∈((w.heap.size+1+1,bW (.slice Ao no co))::(w.heap.size+1,bW (.slice A b.length E))::(w.heap.size,aO pf)::(pf,ax p nm size g ks.length c f)::fs),x∈y) w1 (hh:At w0 p y s w1)=>(⟨hh.get (m _ (ag _ (ag _ (ag _ af)))),hh.get (m _ (ag _ (ag _ af))),hh.get (m _ (ag _ af)),O.2 w1 g (hh.get (m _ (ag _ (ag _ (ag _ (ag _ S))))))⟩:w1.heap[pf]? =some (ax p nm size g ks.length c f)/\w1.heap[w.heap.size]? =some (aO pf)/\w1.heap[w.heap.size+1]? =some (bW (.slice A b.length E))/\dJ w1 g ks));have D:=ae (λB pv W (hh:At w0 p ((B,aZ pv)::((w.heap.size+1+1,bW (.slice Ao no co))::(w.heap.size+1,bW (.slice A b.length E))::(w.heap.size,aO pf)::(pf,ax p nm size g ks.length c f)::fs)) s W) L=>Vp (w:=w) hh A E Ao no co (λ_ d=>d) S O a0 L T hu G P H a1 a3 a4 a5);have HT:=ae T.two;have HN:=ae (λW (hh:At w0 p ((w.heap.size+1+1,bW (.slice Ao no co))::(w.heap.size+1,bW (.slice A b.length E))::(w.heap.size,aO pf)::(pf,ax p nm size g ks.length c f)::fs) s W)=>(λx d e=>by have:=hh.lt d;omega:∀x∈((w.heap.size+1+1,bW (.slice Ao no co))::(w.heap.size+1,bW (.slice A b.length E))::(w.heap.size,aO pf)::(pf,ax p nm size g ks.length c f)::fs),x.1≠W.heap.size));generalize L:(⟨(X.val ks 0 b).toArray⟩:ByteArray)=pv at F;have Y:=ae L;have U:aa (∀x∈fs,x∈((w.heap.size+1+1,bW (.slice Ao no co))::(w.heap.size+1,bW (.slice A b.length E))::(w.heap.size,aO pf)::(pf,ax p nm size g ks.length c f)::fs)):=ae (λx d=>(ag _ (ag _ (ag _ (ag _ d)))));clear h hf S O a0 T hu G P H a1 a3 a4 a5 N b0 a2 a8 b1 a6 L;go_enter Tryz.func58,Tryz.ntmps58;go_upto_region 1 with fail;refine aJ 10 (.rd 0 (.rd 1 (.rd 2 (.rd 3 (.rd 4 (.rd 5 (.rd 6 (.rd 7 (.two 8 (.wr 9 .fin) 9 (.wr 8 .fin)))))))))) (λw'=>At w0 p ((w.heap.size+1+1,bW (.slice Ao no co))::(w.heap.size+1,bW (.slice A b.length E))::(w.heap.size,aO pf)::(pf,ax p nm size g ks.length c f)::fs) s w') (k.o.below ((ak _ _).drew)) ?_;repeat
  refine aA (v:= ?_) (λw' Z=> ?_) (λK a=> ?_);rotate_left
  ·obtain⟨r1,r2,r3,M⟩:=a7.o _ (λ_ d=>d) w' Z;have b4:=aj w' pf r1;have b5:=aj w' w.heap.size r2;have b6:=λj=>ah w' (w.heap.size+1) j _ _ _ r3;have k1:=M.at_ I;have k2:=M.len I;have k3:=M.dup I;rw[Nat.zero_mul]at k1 k2 k3;clear r1 r2 r3 M;clear Z;go_simp;try with_reducible rfl
  go_simp;refine a _ ?_;clear a K
 refine dX (by rfl) (by rfl) (λK a=> ?_) (λK a=> ?_)
 ·go_simp;refine(F.o _ _ U.o _ (k.o.below ((ak _ _).drew))).mono ?_;rintro e q ⟨rfl,z⟩;have l:=ae ((k.o.below ((ak _ _).drew)).below z);refine a.out _ _ (λw'=>At w0 p ((w.heap.size+1+1,bW (.slice Ao no co))::(w.heap.size+1,bW (.slice A b.length E))::(w.heap.size,aO pf)::(pf,ax p nm size g ks.length c f)::fs) s w') (λ_ h=>h) l.o ?_;clear a K z;refine az (λK a=> ?_);go_simp;refine a.out _ _ (λw'=>At w0 p ((w.heap.size+1+1,bW (.slice Ao no co))::(w.heap.size+1,bW (.slice A b.length E))::(w.heap.size,aO pf)::(pf,ax p nm size g ks.length c f)::fs) s w') (λ_ h=>h) (l.o.below ((ak _ q).alloc (aq _) _)) ?_;clear a K;have i:=l.o.more (aZ pv);have o:=ae (D.o _ _ _ i Y.o);have Q:=(ah (q.alloc (aZ pv)) w.heap.size 0 _ _ _ (i.get (ag _ (ag _ (ag _ af)))));clear i D;show wpList _ _ _ _ _ _;go_wp2_with fail;refine o.o.mono ?_;rintro e W9 ⟨rfl,C⟩;have HR:=ae C;clear C o Q;go_wp2;go_ret;exact⟨rfl,HR.o⟩
 ·go_simp;refine a.out _ _ (λw'=>At w0 p ((w.heap.size+1+1,bW (.slice Ao no co))::(w.heap.size+1,bW (.slice A b.length E))::(w.heap.size,aO pf)::(pf,ax p nm size g ks.length c f)::fs) s w') (λ_ h=>h) ((k.o.below ((ak _ _).drew)).below ((ak _ _).alloc (aq _) _)) ?_;clear a K;refine az (λK a=> ?_);go_simp;have l:=ae ((k.o.below ((ak _ _).drew)).more (aZ ⟨#[]⟩));have V:=ae (HN.o _ (k.o.below ((ak _ _).drew)));refine(F.o _ _ (λx d=>ag _ (U.o x d)) _ l.o).mono ?_;rintro e q ⟨rfl,z⟩;have n:=ae (l.o.below z);refine a.out _ _ (λw'=>At w0 p ((w.heap.size+1+1,bW (.slice Ao no co))::(w.heap.size+1,bW (.slice A b.length E))::(w.heap.size,aO pf)::(pf,ax p nm size g ks.length c f)::fs) s w') (λ_ h=>h) (n.o.less (λx d=>ag _ d)) ?_;clear a K z;have b2:(((w.alloc (aO pf)).alloc (bW (.slice A b.length E))).alloc (bW (.slice Ao no co))).drew.heap.size=w.heap.size+1+1+1:=(by simp);rw[b2]at n V;have i:=n.o.BQ (V.o) HT.o pv;have o:=ae (D.o _ _ _ i Y.o);have a9:=(ah q (w.heap.size+1+1+1) 0 _ _ _ (n.o.get af));have b3:=aD (n.o.get af);have Q:=(ah (q.setCell ⟨(w.heap.size+1+1+1),0,none⟩ (.string pv)) w.heap.size 0 _ _ _ (i.get (ag _ (ag _ (ag _ af)))));clear i D;show wpList _ _ _ _ _ _;go_wp2_with fail;refine o.o.mono ?_;rintro e W9 ⟨rfl,C⟩;have HR:=ae C;clear C o a9 b3 Q;go_wp2;go_ret;exact⟨rfl,HR.o⟩
end
namespace X
def xo (ks:List Ky) (rows:List Row) (i:Nat) (b:J.B) (old:Option Row):Bool:= !keeps ks i b old&&rows.any λr=>decide (val ks i r.b=val ks i b)
def bH (ks:List Ky) (rows:List Row) (b:J.B) (old:Option Row) (j:Nat):List Bool:=((List.range' 1 j).filter λi=>xo ks rows i b old).map λi=>(aH ks i).dup
theorem xp {ks:List Ky} {rows:List Row} {b:J.B} {old:Option Row} {j:Nat} (h:xo ks rows (j+1) b old=true):bH ks rows b old (j+1)=bH ks rows b old j++[(aH ks (j+1)).dup]:=by
 unfold bH;rw[List.range'_1_concat,List.filter_append,List.map_append];simp[Nat.add_comm 1 j,h]
theorem tJ {ks:List Ky} {rows:List Row} {b:J.B} {old:Option Row} {j:Nat} (h:xo ks rows (j+1) b old=false):bH ks rows b old (j+1)=bH ks rows b old j:=by
 unfold bH;rw[List.range'_1_concat,List.filter_append,List.map_append];simp[Nat.add_comm 1 j,h]
theorem mg (ks:List Ky) (rows:List Row) (b:J.B) (old:Option Row) (j d:Nat):bH ks rows b old j<+:bH ks rows b old (j+d):=by
 unfold bH;have:List.range' 1 (j+d)=List.range' 1 j++List.range' (1+j) d:=(List.range'_append_1 ..).symm;rw[this,List.filter_append,List.map_append];exact List.prefix_append _ _
end X
def QV (b0:Nat) (W W':World):Prop:=Below b0 W W'/\Gn (λ_ j=>j=b0\/j=b0+1) W W'
theorem QV.t {b0:Nat} {A B C:World} (h:QV b0 A B) (k:QV b0 B C):QV b0 A C:=⟨h.1.trans k.1,h.2.t k.2⟩
structure AB (w0:World) (p:Nat) (fs:List (Nat×Obj)) (s:J.St) (w1 W:World):Prop where
 at_:At w0 p fs s W
 bel:Below w1.heap.size w1 W
theorem AB.below {w0 w1 W W':World} {p:Nat} {fs:List (Nat×Obj)} {s:J.St} (h:AB w0 p fs s w1 W) (a:Below W.heap.size W W'):AB w0 p fs s w1 W':=⟨h.at_.below a,h.bel.trans (a.mono h.bel.size)⟩
abbrev QW (x:Bool):Value:= .bool x
section
variable {w0 : World} {p pf g c size ct u : Nat} {nm : J.B} {ks : List X.Ky} {rows : List X.Row} {f : Fv} {w w' : World} {s s1 s2 : J.St} {fs : List (Nat × Obj)} {ok : Obj}
variable {b : J.B} {old : Option X.Row} {A : Option Addr} {E Bf Bo G : Nat} {L : Value} {I N : List Bool -> World -> Prop}
abbrev qD (pf Bf Bo G:Nat) (A:Option Addr) (n E:Nat) (L:Value):List (Nat×Obj):=[(Bf,aO pf),(Bo,bW L),(G,bW (.slice A n E))]
structure uP (w:World) (ks:List X.Ky) (rows:List X.Row) (b:J.B) (old:Option X.Row) (pf Bf Bo G:Nat) (A:Option Addr) (E:Nat) (L:Value) (I:List Bool->World->Prop) (k:Nat) (W:World):Prop where
 j:I (X.bH ks rows b old k) W
 bel:Below w.heap.size w W
 bx:∀x∈qD pf Bf Bo G A b.length E L,w.heap.size+2<=x.1/\W.heap[x.1]? =some x.2
theorem uP.at_ {k:Nat} (h:uP w ks rows b old pf Bf Bo G A E L I k w') (ha:At w0 p fs s w):At w0 p (qD pf Bf Bo G A b.length E L++fs) s w':=
 ha.add h.bel (λx a=>⟨by have:=(h.bx x a).1;omega,(h.bx x a).2⟩)
theorem uP.step {k j:Nat} {d W1:World} (h:uP w ks rows b old pf Bf Bo G A E L I k w') (a:Below w'.heap.size w' W1) (f:AbidesFrom d.heap.size I) (g:X.bH ks rows b old j=X.bH ks rows b old k):uP w ks rows b old pf Bf Bo G A E L I j W1:=
 ⟨by rw[g];exact f _ w' W1 none h.j (ni a) (λr e=>by cases e),h.bel.trans (a.mono h.bel.size),λx c=>⟨(h.bx x c).1,(a.block x.1 (ai (h.bx x c).2).1).trans (h.bx x c).2⟩⟩
theorem uP.go {k j:Nat} {W1:World} (h:uP w ks rows b old pf Bf Bo G A E L I k w') (c:QV w.heap.size w' W1) (d:I (X.bH ks rows b old j) W1):uP w ks rows b old pf Bf Bo G A E L I j W1:=
 ⟨d,h.bel.trans c.1,λx a=>⟨(h.bx x a).1,c.2.1 _ _ (h.bx x a).2 (by simp only[qD,List.mem_cons,List.not_mem_nil,or_false]at a;rcases a with rfl|rfl|rfl<;>rfl) (λe=>by have:=(h.bx x a).1;omega)⟩⟩
theorem BR (n:Nat) (hn:1<=n) (l:Nat) (h:At w0 p fs s w) (hF:(pf,ax p nm size g ks.length c f)∈fs) (d2:(g,ok)∈fs) (hO:bR ok ks) (c8:ks.length<=c) (hX:XF nm size ks rows ct s.now) (c7:Src w0 p fs (.slice A b.length E) b) (a7:X.bt ks size b=true) (f0:tu w0 p fs L none)
  (W:World) (hW:Below w.heap.size w W) (hJ:AbidesFrom W.heap.size I) (b4:∀x∈qD pf Bf Bo G A b.length E L,w.heap.size+2<=x.1/\W.heap[x.1]? =some x.2) (h0:I [] W)
  (hY:∀xs x W,I xs W->xs.length<(X.bH ks rows b none (ks.length - 1)).length->YieldAt Fence.wide (n - 1) Tryz.prog l #[QW x] W λe W'=>(e= .returned (.bool true)/\I (xs++[x]) W'/\QV w.heap.size W W')\/(e= .returned (.bool false)/\N (xs++[x]) W')):
  CallsIn Fence.wide n Tryz.prog 136 #[.func (.yield l) #[] #[], .pointer (some ⟨Bf,0,none⟩), .pointer (some ⟨Bo,0,none⟩), .pointer (some ⟨G,0,none⟩)] W λe W'=>(∃v,e= .returned v)/\
   ((∃ys,ys=X.bH ks rows b none (ks.length - 1)/\I ys W')\/(∃q,q<+:X.bH ks rows b none (ks.length - 1)/\N q W')):=by
 obtain rfl:L= .slice none 0 0:=f0;have b7:=hX.ks.one;obtain⟨A',f3,c4⟩:=ig g ks.length c b7.1 c8;have a9:=ae (⟨h0,hW,b4⟩:uP w ks rows b none pf Bf Bo G A E (.slice none 0 0) I 0 W);have T:=a9.o.at_ h;have y:=aj W pf (T.get (List.mem_append_right _ hF));have z:=aj W Bf (b4 (Bf,aO pf) af).2;have d6:=ae c4;have HX:=ae hX;have d8:=ae a7;have e5:=ae c7;have HF:=ae hF;have e4:=ae d2;have HO:=ae hO;have HA:=ae h;have c3:=ae b7;have HY:=ae hY;have HJ:=ae hJ;have d7:=ae (show b.length<=4096 by have h1:=(X.aS.1 a7).1;have h2:=hX.ks.size;omega);have d9:=ae (X.aS.1 a7).2;clear h hF d2 hO c8 hX c7 a7 hW hJ b4 h0 hY b7 c4 T;refine callsIn_of_wp Tryz.func136 rfl trivial ?_ rfl;simp only[Tryz.ntmps136,List.size_toArray,List.length_cons,List.length_nil,Nat.reduceAdd,Nat.reduceSub,Array.replicate_succ,Array.replicate_zero,List.push_toArray,List.append_toArray,List.nil_append,List.cons_append]
 gi_wp2
 clear y z f3
 gi_loopw [17] (λt W=>∃k:Nat,k<=ks.length - 1/\t= .int .i64 k/\aa (uP w ks rows b none pf Bf Bo G A E (.slice none 0 0) I k W)) (λt _=>ks.length - 1 - (intOf t).toNat)
 case atStart=>exact⟨0,Nat.zero_le _,rfl,a9⟩
 case round=>
  clear a9;obtain⟨k,hk,rfl,F⟩:=hrel;by_cases e9:k<ks.length - 1
  ·have Z:k+1<ks.length:=(by omega);have a5:=ae Z;have u:=ae e9;have Q:aa (k<=1000000):=ae (by have:=c3.o;omega);have e1:A'=some ⟨g,3,none⟩:=d6.o (by omega);subst e1;have T:=F.o.at_ HA.o;have a8:=HO.o.2 wr g (T.get (List.mem_append_right _ e4.o));have k1:=a8.at_ Z;have k2:=a8.len Z;have k3:=a8.dup Z;rw[show(k+1)*3=3+k*3 by omega]at k1 k2 k3;have e8:(k:Int)<((ks.length - 1:Nat):Int):=(by omega);have HZ:=ae (heap_alloc_new wr dU);have b9:=ae T;clear a8 Z T
   gi_upto_region 2 with fail
   refine wpIn_wide.2 ?_;go_wp2_with (refine wpList_store_row rfl _ _ 66 rfl wr.heap.size rfl _ rfl _ _ HZ.o rfl (by kernel_rfl) rfl ?_);intro W2 a0 hg f4;obtain⟨e7,b3⟩:=b9.o.stored dU hg;have a0:W2.heap[wr.heap.size]? =some (aT (X.aH ks (k+1))):=a0;have b1:=b9.o.add b3 (gs:=[(wr.heap.size,aT (X.aH ks (k+1)))]) (λx hx=>by simp only[List.mem_singleton]at hx;subst hx;exact⟨aq _,a0⟩);generalize e6:wr.heap.size=d at b1 a0|-;have a1:aa (AB w0 p ((d,aT (X.aH ks (k+1)))::(qD pf Bf Bo G A b.length E (.slice none 0 0)++fs)) s wr W2):=ae ⟨b1,b3⟩;have V:aa (∀W1,At w0 p ((d,aT (X.aH ks (k+1)))::(qD pf Bf Bo G A b.length E (.slice none 0 0)++fs)) s W1->W1.heap[pf]? =some (ax p nm size g ks.length c f)/\W1.heap[Bf]? =some (aO pf)/\W1.heap[Bo]? =some (bW (.slice none 0 0))/\W1.heap[G]? =some (bW (.slice A b.length E))/\W1.heap[d]? =some (aT (X.aH ks (k+1)))):=
    ae (λW1 hh=>⟨hh.get (ag _ (List.mem_append_right _ HF.o)),hh.get (ag _ af),hh.get (ag _ (ag _ af)),hh.get (ag _ (ag _ (ag _ af))),hh.get af⟩)
   have a6:=ae (λw1 (hh:At w0 p ((d,aT (X.aH ks (k+1)))::(qD pf Bf Bo G A b.length E (.slice none 0 0)++fs)) s w1)=>cG (X.aH ks (k+1)) (.slice A b.length E) b bE w1 (e5.o _ _ _ (λx hx=>ag _ (List.mem_append_right _ hx)) hh) (d9.o _ (X.aY a5.o)) (by have:=d7.o;omega));have d5:(X.aH ks (k+1)).val b=X.val ks (k+1) b:=rfl;rw[d5]at a6;have b0:=ae (λW=>bU nm size (some ⟨g,0,none⟩) ks.length c (k+1) (by have:=c3.o;have:=u.o;omega) (by have:=HX.o.nm;omega) W);have d4:(X.val ks (k+1) b).length=X.lens ks (k+1):=X.bc d8.o a5.o;have c6:=HX.o.con.sX HX.o.ks HX.o.rows (by have:=HX.o.ct;omega) a5.o d4;have B:=ae (λw1 (hh:At w0 p ((d,aT (X.aH ks (k+1)))::(qD pf Bf Bo G A b.length E (.slice none 0 0)++fs)) s w1)=>iL hh ⟨(X.pre nm (k+1)++X.val ks (k+1) b).toArray⟩ (X.pre nm (k+1)++X.val ks (k+1) b) true (by have:=HX.o.many;omega));rw[c6]at B;simp only[Option.isSome_map]at B;rw[X.wO]at B;have b2:(⟨(X.pre nm (k+1)).toArray⟩:ByteArray)++⟨(X.val ks (k+1) b).toArray⟩=⟨(X.pre nm (k+1)++X.val ks (k+1) b).toArray⟩:=gH _ _;have f1:(⟨(X.pre nm (k+1)).toArray⟩:ByteArray).size<=1000:=by
    have h1:=X.ia nm (k+1);have:=HX.o.nm;rw[bm];omega
   have f2:(⟨(X.val ks (k+1) b).toArray⟩:ByteArray).size<=1000:=by
    have:=(HX.o.lens a5.o).2;rw[bm];omega
   generalize(⟨(X.pre nm (k+1)++X.val ks (k+1) b).toArray⟩:ByteArray)=key at b2 B;generalize(⟨(X.pre nm (k+1)).toArray⟩:ByteArray)=pp at b2 b0 f1;generalize(⟨(X.val ks (k+1) b).toArray⟩:ByteArray)=vb at b2 a6 f2;generalize(⟨(Option.getD (Option.map (X.aN nm ks (k+1)) _) []).toArray⟩:ByteArray)=rs at B;have b5:X.xo ks rows (k+1) b none=(!X.keeps ks (k+1) b none&&rows.any λr=>decide (X.val ks (k+1) r.b=X.val ks (k+1) b)):=rfl;generalize(rows.any λr=>decide (X.val ks (k+1) r.b=X.val ks (k+1) b))=an at b5 B;have c0:=ae b5;have f6:wrap64 ((k:Int)+1)=((k+1:Nat):Int):=nY Q.o;have f5:IntKind.i64.wrap ((k:Int)+1)=((k+1:Nat):Int):=rM Q.o;clear b5 d5 k1 k2 k3 e8 HZ e7 b3 a0 hg f4 b1 e6 c6 d4;go_wp2_with fail
   gi_upto_region 3 with fail
   refine wpIn_wide.2 ?_;refine aR (.rd 0 (.rd 1 (.rd 2 (.rd 3 (.rd 4 (.rd 6 (.rd 7 (.wr 5 (.wr 8 (.rd 9 (.rd 10 .fin))))))))))) (λw'=>AB w0 p ((d,aT (X.aH ks (k+1)))::(qD pf Bf Bo G A b.length E (.slice none 0 0)++fs)) s wr w') (a1.o.below ((ak _ _).drew)) ?_;repeat
    first
     |refine aA (v:= ?_) (λw' C=> ?_) (λK a=> ?_)
      rotate_left
      ·obtain⟨r1,r2,i,m,o⟩:=V.o w' C.at_;have y:=aj w' pf r1;have z:=aj w' Bf r2;have M:=aj w' Bo i;have O:=aj w' G m;have P:=aj w' d o;clear r1 r2 i m o;clear C;go_simp;try with_reducible rfl
      go_simp;refine a _ ?_;clear a K
     |refine aF (λK a=> ?_)
      go_simp;refine a _ ?_;clear a K
   iterate 2
    refine az (λK a=> ?_);go_simp;refine a.out _ _ (λw'=>AB w0 p ((d,aT (X.aH ks (k+1)))::(qD pf Bf Bo G A b.length E (.slice none 0 0)++fs)) s wr w') (λ_ h=>h) (a1.o.below ((ak _ _).drew)) ?_;clear a K
   repeat
    first
     |refine aA (v:= ?_) (λw' C=> ?_) (λK a=> ?_)
      rotate_left
      ·obtain⟨r1,r2,i,m,o⟩:=V.o w' C.at_;have y:=aj w' pf r1;have z:=aj w' Bf r2;have M:=aj w' Bo i;have O:=aj w' G m;have P:=aj w' d o;clear r1 r2 i m o;clear C;go_simp;try with_reducible rfl
      go_simp;refine a _ ?_;clear a K
     |refine aF (λK a=> ?_)
      go_simp;refine a _ ?_;clear a K
   show wpList _ _ _ _ _ _;refine aL (λY=>AB w0 p ((d,aT (X.aH ks (k+1)))::(qD pf Bf Bo G A b.length E (.slice none 0 0)++fs)) s wr Y) (a1.o.below ((ak _ _).drew)) ?_;intro W4 c5;have b8:=ae c5;clear c5 a1;go_wp2_with fail
   gi_upto_region 4 with fail
   refine wpIn_wide.2 ?_;refine aJ 9 (.rd 0 (.rd 1 (.rd 2 (.rd 3 (.rd 4 (.rd 5 (.rd 7 (.rd 8 (.wr 6 .fin))))))))) (λw'=>AB w0 p ((d,aT (X.aH ks (k+1)))::(qD pf Bf Bo G A b.length E (.slice none 0 0)++fs)) s wr w') (b8.o.below ((ak _ _).drew)) ?_;repeat
    refine aA (v:= ?_) (λw' C=> ?_) (λK a=> ?_);rotate_left
    ·obtain⟨r1,r2,i,m,o⟩:=V.o w' C.at_;have y:=aj w' pf r1;have z:=aj w' Bf r2;have M:=aj w' Bo i;have O:=aj w' G m;have P:=aj w' d o;clear r1 r2 i m o;clear C;go_simp;try with_reducible rfl
    go_simp;refine a _ ?_;clear a K
   refine az (λK a=> ?_);go_simp;refine(b0.o _).mono ?_;rintro e W6 ⟨rfl,D⟩;have a2:=ae ((b8.o.below ((ak _ _).drew)).below D);clear D b0;refine a.out _ _ (λw'=>AB w0 p ((d,aT (X.aH ks (k+1)))::(qD pf Bf Bo G A b.length E (.slice none 0 0)++fs)) s wr w') (λ_ h=>h) a2.o ?_;clear a K;show wpList _ _ _ _ _ _;go_wp2_with fail;refine(a6.o _ a2.o.at_).mono ?_;rintro e S ⟨rfl,D⟩;have a3:=ae (a2.o.below D);clear D a6 a2;obtain⟨r1,r2,i,m,o⟩:=V.o S a3.o.at_;have y:=aj S pf r1;have z:=aj S Bf r2;have M:=aj S Bo i;have O:=aj S G m;have P:=aj S d o;clear r1 r2 i m o;go_wp2_with fail
   gi_wp2_with fail
   refine And.intro trivial ?_;refine(callsIn_wide.2 (B.o _ a3.o.at_)).mono ?_;rintro e H ⟨rfl,D⟩;have U:=ae (a3.o.below D);clear D B a3 y z M O P;obtain⟨r1,r2,i,m,o⟩:=V.o H U.o.at_;have y:=aj H pf r1;have z:=aj H Bf r2;have M:=aj H Bo i;have O:=aj H G m;have P:=aj H d o;clear r1 r2 i m o;cases an with
    |false=>
     have e0:=ae (F.o.step U.o.bel HJ.o (X.tJ (by rw[c0.o];simp)));clear F U
     gi_wp2
     refine⟨λ_ h=>(by cases h), ?_⟩
     gi_wp2
     go_roundw
     case rel=>exact⟨k+1,u.o,by first|exact cD k Q.o|exact bV k,e0⟩
     case measure=>first|exact bZ u.o Q.o|exact bN u.o
    |true=>
     have b6:=X.xp (by rw[c0.o,show X.keeps ks (k+1) b none=false from rfl];rfl);have a4:=ae (F.o.step U.o.bel HJ.o rfl);have d3:(X.bH ks rows b none k).length<(X.bH ks rows b none (ks.length - 1)).length:=by
      obtain⟨t,ht⟩:=X.mg ks rows b none (k+1) (ks.length - 1 - (k+1));rw[show k+1+(ks.length - 1 - (k+1))=ks.length - 1 by have:=u.o;omega]at ht;rw[<-ht,b6];simp
     obtain⟨fn,f7,assign,body,hy,hR⟩:=HY.o _ (X.aH ks (k+1)).dup H a4.o.j d3;have c1:=ae b6;clear F U b6 d3
     gi_wp2_with fail
     refine hR.mono ?_;rintro e W9 (⟨rfl,c9,d1⟩|⟨rfl,d0⟩)
     ·have e2:=ae (a4.o.go (j:=k+1) d1 (by rw[c1.o];exact c9));clear c9 d1 hR hy a4 y z M O P
      gi_wp2
      go_roundw
      case rel=>exact⟨k+1,u.o,by first|exact cD k Q.o|exact bV k,e2⟩
      case measure=>first|exact bZ u.o Q.o|exact bN u.o
     ·have c2:=ae d0;clear d0 hR hy a4 y z M O P
      gi_wp2
      refine bodyPost_ret (results_none rfl _ _ _) rfl ?_;refine⟨⟨_,rfl⟩, .inr ⟨_, ?_,by rw[<-c1.o]at c2;exact c2.o⟩⟩;have:=X.mg ks rows b none (k+1) (ks.length - 1 - (k+1));rw[show k+1+(ks.length - 1 - (k+1))=ks.length - 1 by have:=u.o;omega]at this;exact this
  ·obtain rfl:k=ks.length - 1:=(by omega);have e3:=ae F.o.j;clear F
   gi_wp2
   go_end0;exact⟨⟨_,rfl⟩, .inl ⟨_,rfl,e3.o⟩⟩
theorem BS (n:Nat) (hn:1<=n) (l:Nat) {o:X.Row} (d9:X.bt ks size o.b=true) (h:At w0 p fs s w) (hF:(pf,ax p nm size g ks.length c f)∈fs) (d7:(g,ok)∈fs) (hO:bR ok ks) (d2:ks.length<=c) (hX:XF nm size ks rows ct s.now) (d1:Src w0 p fs (.slice A b.length E) b) (b3:X.bt ks size b=true) (f7:tu w0 p fs L (some o))
  (W:World) (hW:Below w.heap.size w W) (hJ:AbidesFrom W.heap.size I) (c0:∀x∈qD pf Bf Bo G A b.length E L,w.heap.size+2<=x.1/\W.heap[x.1]? =some x.2) (h0:I [] W)
  (hY:∀xs x W,I xs W->xs.length<(X.bH ks rows b (some o) (ks.length - 1)).length->YieldAt Fence.wide (n - 1) Tryz.prog l #[QW x] W λe W'=>(e= .returned (.bool true)/\I (xs++[x]) W'/\QV w.heap.size W W')\/(e= .returned (.bool false)/\N (xs++[x]) W')):
  CallsIn Fence.wide n Tryz.prog 136 #[.func (.yield l) #[] #[], .pointer (some ⟨Bf,0,none⟩), .pointer (some ⟨Bo,0,none⟩), .pointer (some ⟨G,0,none⟩)] W λe W'=>(∃v,e= .returned v)/\
   ((∃ys,ys=X.bH ks rows b (some o) (ks.length - 1)/\I ys W')\/(∃q,q<+:X.bH ks rows b (some o) (ks.length - 1)/\N q W')):=by
 obtain⟨⟨z,B,co,rfl⟩,e0⟩:=f7;have c3:=hX.ks.one;obtain⟨A',g0,c9⟩:=ig g ks.length c c3.1 d2;have b5:=ae (⟨h0,hW,c0⟩:uP w ks rows b (some o) pf Bf Bo G A E (.slice (some ⟨z,B,none⟩) o.b.length co) I 0 W);have a2:=b5.o.at_ h;have F:=aj W pf (a2.get (List.mem_append_right _ hF));have H:=aj W Bf (c0 (Bf,aO pf) af).2;have e3:=ae c9;have HX:=ae hX;have e5:=ae b3;have f1:=ae e0;have f2:=ae d1;have HF:=ae hF;have e9:=ae d7;have HO:=ae hO;have HA:=ae h;have c8:=ae c3;have HY:=ae hY;have HJ:=ae hJ;have c7:=ae d9;have e4:=ae (show b.length<=4096 by have h1:=(X.aS.1 b3).1;have h2:=hX.ks.size;omega);have e6:=ae (X.aS.1 b3).2;clear h hF d7 hO d2 hX d1 b3 e0 hW hJ c0 h0 hY c3 c9 a2 d9;refine callsIn_of_wp Tryz.func136 rfl trivial ?_ rfl;simp only[Tryz.ntmps136,List.size_toArray,List.length_cons,List.length_nil,Nat.reduceAdd,Nat.reduceSub,Array.replicate_succ,Array.replicate_zero,List.push_toArray,List.append_toArray,List.nil_append,List.cons_append]
 gi_wp2
 clear F H g0
 gi_loopw [17] (λt W=>∃k:Nat,k<=ks.length - 1/\t= .int .i64 k/\aa (uP w ks rows b (some o) pf Bf Bo G A E (.slice (some ⟨z,B,none⟩) o.b.length co) I k W)) (λt _=>ks.length - 1 - (intOf t).toNat)
 case atStart=>exact⟨0,Nat.zero_le _,rfl,b5⟩
 case round=>
  clear b5;obtain⟨k,hk,rfl,P⟩:=hrel;by_cases f6:k<ks.length - 1
  ·have a5:k+1<ks.length:=(by omega);have a4:=ae a5;have D:=ae f6;have V:aa (k<=1000000):=ae (by have:=c8.o;omega);have e1:A'=some ⟨g,3,none⟩:=e3.o (by omega);subst e1;have a2:=P.o.at_ HA.o;have b4:=HO.o.2 wr g (a2.get (List.mem_append_right _ e9.o));have k1:=b4.at_ a5;have k2:=b4.len a5;have k3:=b4.dup a5;rw[show(k+1)*3=3+k*3 by omega]at k1 k2 k3;have f5:(k:Int)<((ks.length - 1:Nat):Int):=(by omega);have HZ:=ae (heap_alloc_new wr dU);have c4:=ae a2;clear b4 a5 a2
   gi_upto_region 2 with fail
   refine wpIn_wide.2 ?_;go_wp2_with (refine wpList_store_row rfl _ _ 66 rfl wr.heap.size rfl _ rfl _ _ HZ.o rfl (by kernel_rfl) rfl ?_);intro W2 a6 hg g1;obtain⟨f4,b9⟩:=c4.o.stored dU hg;have a6:W2.heap[wr.heap.size]? =some (aT (X.aH ks (k+1))):=a6;have b7:=c4.o.add b9 (gs:=[(wr.heap.size,aT (X.aH ks (k+1)))]) (λx hx=>by simp only[List.mem_singleton]at hx;subst hx;exact⟨aq _,a6⟩);generalize f3:wr.heap.size=d at b7 a6|-;have U:aa (AB w0 p ((d,aT (X.aH ks (k+1)))::(qD pf Bf Bo G A b.length E (.slice (some ⟨z,B,none⟩) o.b.length co)++fs)) s wr W2):=ae ⟨b7,b9⟩;have Z:aa (∀W1,At w0 p ((d,aT (X.aH ks (k+1)))::(qD pf Bf Bo G A b.length E (.slice (some ⟨z,B,none⟩) o.b.length co)++fs)) s W1->W1.heap[pf]? =some (ax p nm size g ks.length c f)/\W1.heap[Bf]? =some (aO pf)/\W1.heap[Bo]? =some (bW (.slice (some ⟨z,B,none⟩) o.b.length co))/\W1.heap[G]? =some (bW (.slice A b.length E))/\W1.heap[d]? =some (aT (X.aH ks (k+1)))):=
    ae (λW1 hh=>⟨hh.get (ag _ (List.mem_append_right _ HF.o)),hh.get (ag _ af),hh.get (ag _ (ag _ af)),hh.get (ag _ (ag _ (ag _ af))),hh.get af⟩)
   have a0:=ae (λw1 (hh:At w0 p ((d,aT (X.aH ks (k+1)))::(qD pf Bf Bo G A b.length E (.slice (some ⟨z,B,none⟩) o.b.length co)++fs)) s w1)=>cG (X.aH ks (k+1)) (.slice A b.length E) b bE w1 (f2.o _ _ _ (λx hx=>ag _ (List.mem_append_right _ hx)) hh) (e6.o _ (X.aY a4.o)) (by have:=e4.o;omega));have a7:(X.aH ks (k+1)).val b=X.val ks (k+1) b:=rfl;rw[a7]at a0;have b2:=ae (λW=>bU nm size (some ⟨g,0,none⟩) ks.length c (k+1) (by have:=c8.o;have:=D.o;omega) (by have:=HX.o.nm;omega) W);have e2:(X.val ks (k+1) b).length=X.lens ks (k+1):=X.bc e5.o a4.o;have d0:=HX.o.con.sX HX.o.ks HX.o.rows (by have:=HX.o.ct;omega) a4.o e2;have O:=ae (λw1 (hh:At w0 p ((d,aT (X.aH ks (k+1)))::(qD pf Bf Bo G A b.length E (.slice (some ⟨z,B,none⟩) o.b.length co)++fs)) s w1)=>iL hh ⟨(X.pre nm (k+1)++X.val ks (k+1) b).toArray⟩ (X.pre nm (k+1)++X.val ks (k+1) b) true (by have:=HX.o.many;omega));rw[d0]at O;simp only[Option.isSome_map]at O;rw[X.wO]at O;have b8:(⟨(X.pre nm (k+1)).toArray⟩:ByteArray)++⟨(X.val ks (k+1) b).toArray⟩=⟨(X.pre nm (k+1)++X.val ks (k+1) b).toArray⟩:=gH _ _;have f8:(⟨(X.pre nm (k+1)).toArray⟩:ByteArray).size<=1000:=by
    have h1:=X.ia nm (k+1);have:=HX.o.nm;rw[bm];omega
   have f9:(⟨(X.val ks (k+1) b).toArray⟩:ByteArray).size<=1000:=by
    have:=(HX.o.lens a4.o).2;rw[bm];omega
   generalize(⟨(X.pre nm (k+1)++X.val ks (k+1) b).toArray⟩:ByteArray)=key at b8 O;generalize(⟨(X.pre nm (k+1)).toArray⟩:ByteArray)=pp at b8 b2 f8;generalize(⟨(Option.getD (Option.map (X.aN nm ks (k+1)) _) []).toArray⟩:ByteArray)=rs at O;have c1:X.xo ks rows (k+1) b (some o)=(!X.keeps ks (k+1) b (some o)&&rows.any λr=>decide (X.val ks (k+1) r.b=X.val ks (k+1) b)):=rfl;generalize(rows.any λr=>decide (X.val ks (k+1) r.b=X.val ks (k+1) b))=an at c1 O;have b0:=ae c1;have g3:wrap64 ((k:Int)+1)=((k+1:Nat):Int):=nY V.o;have g2:IntKind.i64.wrap ((k:Int)+1)=((k+1:Nat):Int):=rM V.o;clear c1 a7 k1 k2 k3 f5 HZ f4 b9 a6 hg g1 b7 f3 d0 e2;have a1:=ae (λw1 (hh:At w0 p ((d,aT (X.aH ks (k+1)))::(qD pf Bf Bo G A b.length E (.slice (some ⟨z,B,none⟩) o.b.length co)++fs)) s w1)=>cG (X.aH ks (k+1)) (.slice (some ⟨z,B,none⟩) o.b.length co) o.b bE w1 (f1.o _ _ _ (λx hx=>ag _ (List.mem_append_right _ hx)) hh) ((X.aS.1 c7.o).2 _ (X.aY a4.o)) (by have:=(X.aS.1 c7.o).1;have:=HX.o.ks.size;omega));have a7:(X.aH ks (k+1)).val o.b=X.val ks (k+1) o.b:=rfl;rw[a7]at a1;have hq:=dt (X.val ks (k+1) o.b) (X.val ks (k+1) b);have d6:X.keeps ks (k+1) b (some o)=decide (X.val ks (k+1) o.b=X.val ks (k+1) b):=rfl;rw[<-d6]at hq;generalize(⟨(X.val ks (k+1) o.b).toArray⟩:ByteArray)=g5 at a1 hq;generalize(⟨(X.val ks (k+1) b).toArray⟩:ByteArray)=vb at b8 a0 f9 hq;clear a7 d6;cases Ej:X.keeps ks (k+1) b (some o)with
   |true=>
    rw[Ej]at hq;rw[Ej]at b0;clear Ej;go_wp2_with fail
    gi_upto_region 3 with fail
    refine wpIn_wide.2 ?_;refine aR (.rd 0 (.rd 1 (.rd 2 (.rd 3 (.rd 4 (.rd 6 (.rd 7 (.wr 5 (.wr 8 (.rd 9 (.rd 10 .fin))))))))))) (λw'=>AB w0 p ((d,aT (X.aH ks (k+1)))::(qD pf Bf Bo G A b.length E (.slice (some ⟨z,B,none⟩) o.b.length co)++fs)) s wr w') (U.o.below ((ak _ _).drew)) ?_;repeat
     first
     |refine aA (v:= ?_) (λw' C=> ?_) (λK a=> ?_)
      rotate_left
      ·obtain⟨r1,r2,m,u,y⟩:=Z.o w' C.at_;have F:=aj w' pf r1;have H:=aj w' Bf r2;have Q:=aj w' Bo m;have S:=aj w' G u;have T:=aj w' d y;clear r1 r2 m u y;clear C;go_simp;try with_reducible rfl
      go_simp;refine a _ ?_;clear a K
     |refine aF (λK a=> ?_)
      go_simp;refine a _ ?_;clear a K
    refine az (λK a=> ?_);go_simp;refine(a1.o _ (U.o.below ((ak _ _).drew)).at_).mono ?_;rintro e W4 ⟨rfl,i⟩;have M:=ae ((U.o.below ((ak _ _).drew)).below i);clear i a1;refine a.out _ _ (λw'=>AB w0 p ((d,aT (X.aH ks (k+1)))::(qD pf Bf Bo G A b.length E (.slice (some ⟨z,B,none⟩) o.b.length co)++fs)) s wr w') (λ_ h=>h) M.o ?_;clear a K;refine az (λK a=> ?_);go_simp;refine(a0.o _ M.o.at_).mono ?_;rintro e W5 ⟨rfl,i⟩;have Y:=ae (M.o.below i);clear i;refine a.out _ _ (λw'=>AB w0 p ((d,aT (X.aH ks (k+1)))::(qD pf Bf Bo G A b.length E (.slice (some ⟨z,B,none⟩) o.b.length co)++fs)) s wr w') (λ_ h=>h) Y.o ?_;clear a K;repeat
     first
     |refine aA (v:= ?_) (λw' C=> ?_) (λK a=> ?_)
      rotate_left
      ·obtain⟨r1,r2,m,u,y⟩:=Z.o w' C.at_;have F:=aj w' pf r1;have H:=aj w' Bf r2;have Q:=aj w' Bo m;have S:=aj w' G u;have T:=aj w' d y;clear r1 r2 m u y;clear C;go_simp;try with_reducible rfl
      go_simp;refine a _ ?_;clear a K
     |refine aF (λK a=> ?_)
      go_simp;refine a _ ?_;clear a K
    show wpList _ _ _ _ _ _;clear U M hq;have b6:=ae (P.o.step Y.o.bel HJ.o (X.tJ (by rw[b0.o];simp)));clear P Y a0 b2 O;go_wp2_with fail
    gi_wp2
    go_roundw
    case rel=>exact⟨k+1,D.o,by first|exact cD k V.o|exact bV k,b6⟩
    case measure=>first|exact bZ D.o V.o|exact bN D.o
   |false=>
    rw[Ej]at hq;have f0:=ae Ej;clear Ej;go_wp2_with fail
    gi_upto_region 3 with fail
    refine wpIn_wide.2 ?_;refine aR (.rd 0 (.rd 1 (.rd 2 (.rd 3 (.rd 4 (.rd 6 (.rd 7 (.wr 5 (.wr 8 (.rd 9 (.rd 10 .fin))))))))))) (λw'=>AB w0 p ((d,aT (X.aH ks (k+1)))::(qD pf Bf Bo G A b.length E (.slice (some ⟨z,B,none⟩) o.b.length co)++fs)) s wr w') (U.o.below ((ak _ _).drew)) ?_;repeat
     first
     |refine aA (v:= ?_) (λw' C=> ?_) (λK a=> ?_)
      rotate_left
      ·obtain⟨r1,r2,m,u,y⟩:=Z.o w' C.at_;have F:=aj w' pf r1;have H:=aj w' Bf r2;have Q:=aj w' Bo m;have S:=aj w' G u;have T:=aj w' d y;clear r1 r2 m u y;clear C;go_simp;try with_reducible rfl
      go_simp;refine a _ ?_;clear a K
     |refine aF (λK a=> ?_)
      go_simp;refine a _ ?_;clear a K
    refine az (λK a=> ?_);go_simp;refine(a1.o _ (U.o.below ((ak _ _).drew)).at_).mono ?_;rintro e W4 ⟨rfl,i⟩;have M:=ae ((U.o.below ((ak _ _).drew)).below i);clear i a1;refine a.out _ _ (λw'=>AB w0 p ((d,aT (X.aH ks (k+1)))::(qD pf Bf Bo G A b.length E (.slice (some ⟨z,B,none⟩) o.b.length co)++fs)) s wr w') (λ_ h=>h) M.o ?_;clear a K;refine az (λK a=> ?_);go_simp;refine(a0.o _ M.o.at_).mono ?_;rintro e W5 ⟨rfl,i⟩;have Y:=ae (M.o.below i);clear i;refine a.out _ _ (λw'=>AB w0 p ((d,aT (X.aH ks (k+1)))::(qD pf Bf Bo G A b.length E (.slice (some ⟨z,B,none⟩) o.b.length co)++fs)) s wr w') (λ_ h=>h) Y.o ?_;clear a K;repeat
     first
     |refine aA (v:= ?_) (λw' C=> ?_) (λK a=> ?_)
      rotate_left
      ·obtain⟨r1,r2,m,u,y⟩:=Z.o w' C.at_;have F:=aj w' pf r1;have H:=aj w' Bf r2;have Q:=aj w' Bo m;have S:=aj w' G u;have T:=aj w' d y;clear r1 r2 m u y;clear C;go_simp;try with_reducible rfl
      go_simp;refine a _ ?_;clear a K
     |refine aF (λK a=> ?_)
      go_simp;refine a _ ?_;clear a K
    show wpList _ _ _ _ _ _;clear U M hq;go_wp2_with fail
    gi_upto_region 4 with fail
    refine wpIn_wide.2 ?_;refine aJ 9 (.rd 0 (.rd 1 (.rd 2 (.rd 3 (.rd 4 (.rd 5 (.rd 7 (.rd 8 (.wr 6 .fin))))))))) (λw'=>AB w0 p ((d,aT (X.aH ks (k+1)))::(qD pf Bf Bo G A b.length E (.slice (some ⟨z,B,none⟩) o.b.length co)++fs)) s wr w') (Y.o.below ((ak _ _).drew)) ?_;repeat
     refine aA (v:= ?_) (λw' C=> ?_) (λK a=> ?_);rotate_left
     ·obtain⟨r1,r2,m,u,y⟩:=Z.o w' C.at_;have F:=aj w' pf r1;have H:=aj w' Bf r2;have Q:=aj w' Bo m;have S:=aj w' G u;have T:=aj w' d y;clear r1 r2 m u y;clear C;go_simp;try with_reducible rfl
     go_simp;refine a _ ?_;clear a K
    refine az (λK a=> ?_);go_simp;refine(b2.o _).mono ?_;rintro e W6 ⟨rfl,i⟩;have a8:=ae ((Y.o.below ((ak _ _).drew)).below i);clear i b2;refine a.out _ _ (λw'=>AB w0 p ((d,aT (X.aH ks (k+1)))::(qD pf Bf Bo G A b.length E (.slice (some ⟨z,B,none⟩) o.b.length co)++fs)) s wr w') (λ_ h=>h) a8.o ?_;clear a K;show wpList _ _ _ _ _ _;go_wp2_with fail;refine(a0.o _ a8.o.at_).mono ?_;rintro e W7 ⟨rfl,i⟩;have a9:=ae (a8.o.below i);clear i a0 a8;obtain⟨r1,r2,m,u,y⟩:=Z.o W7 a9.o.at_;have F:=aj W7 pf r1;have H:=aj W7 Bf r2;have Q:=aj W7 Bo m;have S:=aj W7 G u;have T:=aj W7 d y;clear r1 r2 m u y;go_wp2_with fail
    gi_wp2_with fail
    refine And.intro trivial ?_;refine(callsIn_wide.2 (O.o _ a9.o.at_)).mono ?_;rintro e W8 ⟨rfl,i⟩;have a3:=ae (a9.o.below i);clear i O a9 F H Q S T;obtain⟨r1,r2,m,u,y⟩:=Z.o W8 a3.o.at_;have F:=aj W8 pf r1;have H:=aj W8 Bf r2;have Q:=aj W8 Bo m;have S:=aj W8 G u;have T:=aj W8 d y;clear r1 r2 m u y;cases an with
    |false=>
     have b6:=ae (P.o.step a3.o.bel HJ.o (X.tJ (by rw[b0.o];simp)));clear P a3
     gi_wp2
     refine⟨λ_ h=>(by cases h), ?_⟩
     gi_wp2
     go_roundw
     case rel=>exact⟨k+1,D.o,by first|exact cD k V.o|exact bV k,b6⟩
     case measure=>first|exact bZ D.o V.o|exact bN D.o
    |true=>
     have c2:=X.xp (by rw[b0.o,f0.o];rfl);have b1:=ae (P.o.step a3.o.bel HJ.o rfl);have d8:(X.bH ks rows b (some o) k).length<(X.bH ks rows b (some o) (ks.length - 1)).length:=by
      obtain⟨t,ht⟩:=X.mg ks rows b (some o) (k+1) (ks.length - 1 - (k+1));rw[show k+1+(ks.length - 1 - (k+1))=ks.length - 1 by have:=D.o;omega]at ht;rw[<-ht,c2];simp
     obtain⟨fn,g4,assign,body,hy,hR⟩:=HY.o _ (X.aH ks (k+1)).dup W8 b1.o.j d8;have c5:=ae c2;clear P a3 c2 d8
     gi_wp2_with fail
     refine hR.mono ?_;rintro e W9 (⟨rfl,d3,d5⟩|⟨rfl,d4⟩)
     ·have e7:=ae (b1.o.go (j:=k+1) d5 (by rw[c5.o];exact d3));clear d3 d5 hR hy b1 F H Q S T
      gi_wp2
      go_roundw
      case rel=>exact⟨k+1,D.o,by first|exact cD k V.o|exact bV k,e7⟩
      case measure=>first|exact bZ D.o V.o|exact bN D.o
     ·have c6:=ae d4;clear d4 hR hy b1 F H Q S T
      gi_wp2
      refine bodyPost_ret (results_none rfl _ _ _) rfl ?_;refine⟨⟨_,rfl⟩, .inr ⟨_, ?_,by rw[<-c5.o]at c6;exact c6.o⟩⟩;have:=X.mg ks rows b (some o) (k+1) (ks.length - 1 - (k+1));rw[show k+1+(ks.length - 1 - (k+1))=ks.length - 1 by have:=D.o;omega]at this;exact this
  ·obtain rfl:k=ks.length - 1:=(by omega);have e8:=ae P.o.j;clear P
   gi_wp2
   go_end0;exact⟨⟨_,rfl⟩, .inl ⟨_,rfl,e8.o⟩⟩
end
end Go.Proofs.YtipljcmmokaokaaGreat
namespace Go.Proofs.YtipljcmmokaokaaGreat
open Go.RowKit Go.Lib Go.Maps Go.WideMaps Go.Sort Go.Shelf
set_option maxRecDepth 100000
attribute [local go_sem] Oper.semAt_some
namespace X
def qp (l:List Bool):J.B:=if l=[]then [48,48]else [48,50]
def eu (l:List Bool):J.B:=if l.any (!·)=true then [50,50]else qp l
theorem Mv (l:List Bool) (x:Bool):qp (l++[x])=[48,50]:=by unfold qp;rw[if_neg (by simp)]
theorem Hz {l:List Bool} (h:∀x∈l,x=true):eu l=qp l:=by
 unfold eu;rw[if_neg];intro hh;obtain⟨x,b,a⟩:=List.any_eq_true.1 hh;rw[h x b]at a;cases a
theorem Ia {q l:List Bool} (h:q++[false]<+:l):eu l=[50,50]:=by
 unfold eu;rw[if_pos];obtain⟨t,rfl⟩:=h;simp
theorem Eu (m:M) (b:J.B) (old:Option Row):eu (bH m.ks m.rows b old (m.ks.length - 1))=m.dh b old:=by
 have h1:(bH m.ks m.rows b old (m.ks.length - 1)).any (!·)=(List.range' 1 (m.ks.length - 1)).any (λi=>m.cT i b old&& !(aH m.ks i).dup):=by
  unfold bH;rw[List.any_map,List.any_filter];rfl
 have a:bH m.ks m.rows b old (m.ks.length - 1)=[]↔(List.range' 1 (m.ks.length - 1)).any (λi=>m.cT i b old)=false:=by
  unfold bH;rw[List.map_eq_nil_iff,List.filter_eq_nil_iff,List.any_eq_false];exact Iff.rfl
 unfold eu qp M.dh;rw[h1];split
 ·rfl
 ·by_cases h:(List.range' 1 (m.ks.length - 1)).any (λi=>m.cT i b old)=true
  ·rw[if_neg (λe=>by rw[a.1 e]at h;cases h),if_pos h]
  ·rw[if_pos (a.2 (by simpa using h)),if_neg h]
end X
theorem pw {P:Program} {c:Func} {p:Tmp} {d:TypeId} (h:c.results=#[.cell p d]) (b:Array Value) (w:World) (a:Addr) (x:Value) (e:b.getD p undef= .pointer (some a))
  (h1:P.underlying d=some .string) (g:w.cell? a=some x):(results c b).run P w= .ok x w:=by
 have f:b[p]?.getD undef= .pointer (some a):=by simpa using e
 simp[results,h,f,asAddr,loadVar,Sem.run_bind,isAgg,go_sem,run_underlying h1,g]
theorem Vr (b0:Nat) (w:World) (g:b0<=w.heap.size) (W:World) (l:Nat) (o o':Obj) (f:w.heap.size<=l) (h:W.heap[l]? =some o) (b:o.isCells=false) (_:o.isWalk=false):QV b0 W (W.putObj l o'):=by
 refine⟨?_,λk q a c _=> ?_,by simp,λk _ d=>d⟩
 ·exact belowK_b g W l o o' f h b ‹_›
 ·have:k≠l:=λe=>by subst e;rw[h]at a;injection a with a;subst a;rw[b]at c;cases c
  exact(World.putObj_heap_other this).trans a
theorem Vs (b0:Nat) (W:World) (k:Nat) (a:k=b0\/k=b0+1) (v:Value):QV b0 W (W.setCell ⟨k,0,none⟩ v):=by
 refine⟨(ak _ W).setCell (by show b0<=k;omega) _,λj o c _ b=> ?_,by simp,λ_ _ a=>a⟩;rw[Below.heap_setCell _ _ _ j (by show j≠k;rintro rfl;exact b a)];exact c
section
variable {w0 : World} {p pf g c size ct u : Nat} {nm : J.B} {ks : List X.Ky} {rows : List X.Row} {f : Fv} {w w' : World} {s s1 s2 : J.St} {fs : List (Nat × Obj)} {ok : Obj}
variable {b : J.B} {old : Option X.Row} {A Ao : Option Addr} {E no co Bf Bo G : Nat} {L : Value}
theorem Ib (w:World) (A:Option Addr) (n E:Nat) (L:Value):
  CallsIn Fence.wide 5 Tryz.prog 105 #[.pointer (some ⟨pf,0,none⟩), .slice A n E, .slice Ao no co] w λe w'=>e= .returned (.func (.func 136) #[] #[.pointer (some ⟨w.heap.size,0,none⟩), .pointer (some ⟨w.heap.size+1+1,0,none⟩), .pointer (some ⟨w.heap.size+1,0,none⟩)])/\w'=((w.alloc (aO pf)).alloc (bW (.slice A n E))).alloc (bW (.slice Ao no co)):=by
 have _:=L;refine callsIn_of_wp Tryz.func105 rfl trivial ?_ rfl;simp only[Tryz.ntmps105,List.size_toArray,List.length_cons,List.length_nil,Nat.reduceAdd,Nat.reduceSub,Array.replicate_succ,Array.replicate_zero,List.push_toArray,List.append_toArray,List.nil_append,List.cons_append]
 gi_wp2
 go_ret;exact⟨rfl,rfl⟩
structure ClI (w:World) (re st:J.B) (W:World):Prop where
 r:Boxed W w.heap.size 9 (.string ⟨re.toArray⟩)
 s:Boxed W (w.heap.size+1) 9 (.string ⟨st.toArray⟩)
 bel:Below w.heap.size w W
theorem vy {β:Type} {e:J.B} (f:β->J.B) (B:Nat) (d:w.heap.size<=B):OwnFrom (β:=β) B (λx W=>ClI w e (f x) W):=λx W W' row h a b=>
 ⟨boxed_own B _ _ _ x W W' row h.r a b,boxed_own B _ _ _ x W W' row h.s a b,ownFrom_below (aq _) d x W W' row h.bel a b⟩
theorem QX (h:At w0 p fs s w) (hF:(pf,ax p nm size g ks.length c f)∈fs) (V:(g,ok)∈fs) (O:bR ok ks) (T:ks.length<=c) (P:XF nm size ks rows ct s.now) (S:Src w0 p fs (.slice A b.length E) b) (U:X.bt ks size b=true) (a9:∀o,old=some o->X.bt ks size o.b=true) (Z:tu w0 p fs (.slice Ao no co) old):
  CallsIn Fence.wide 6 Tryz.prog 56 #[.pointer (some ⟨pf,0,none⟩), .slice A b.length E, .slice Ao no co] w λe w'=>e= .returned (.string ⟨(X.eu (X.bH ks rows b old (ks.length - 1))).toArray⟩)/\Below w.heap.size w w':=by
 obtain⟨a,C⟩:∃a,(w.alloc (aZ ⟨#[]⟩)).alloc (aZ ⟨#[48,48]⟩)=a:=⟨_,rfl⟩;have Q:Below w.heap.size w a:=by
  rw[<-C];exact((ak _ w).alloc (aq _) _).alloc (by simp) _
 have b4:a.heap.size=w.heap.size+2:=by rw[<-C];simp
 have HS:=ae (Ib (pf:=pf) (Ao:=Ao) (no:=no) (co:=co) a A b.length E (.slice Ao no co));obtain⟨k,i⟩:∃k,((a.alloc (aO pf)).alloc (bW (.slice A b.length E))).alloc (bW (.slice Ao no co))=k:=⟨_,rfl⟩;have a7:Below a.heap.size a k:=by rw[<-i];exact(((ak _ a).alloc (aq _) _).alloc (by simp) _).alloc (by simp;omega) _
 have G:Below w.heap.size w k:=Q.trans (a7.mono Q.size);have a3:ClI w [] (X.qp []) k:=by
  refine⟨?_, ?_,G⟩
  ·rw[<-i,<-C];exact((((Boxed.new w 9 (.string ⟨#[]⟩)).alloc _).alloc _).alloc _).alloc _
  ·have:=((((Boxed.new (w.alloc (aZ ⟨#[]⟩)) 9 (.string ⟨#[48,48]⟩)).alloc (aO pf)).alloc (bW (.slice A b.length E))).alloc (bW (.slice Ao no co)));rw[World.size_alloc]at this;rw[<-i,<-C];exact this
 have H:∀x∈qD pf a.heap.size (a.heap.size+1+1) (a.heap.size+1) A b.length E (.slice Ao no co),w.heap.size+2<=x.1/\k.heap[x.1]? =some x.2:=by
  intro x u;simp only[qD,List.mem_cons,List.not_mem_nil,or_false]at u;rcases u with rfl|rfl|rfl
  ·refine⟨by show _<=a.heap.size;omega, ?_⟩;rw[<-i];exact((Boxed.new a 35 (.pointer (some ⟨pf,0,none⟩))).alloc _).alloc _
  ·refine⟨by show _<=a.heap.size+1+1;omega, ?_⟩;have:=Boxed.new ((a.alloc (aO pf)).alloc (bW (.slice A b.length E))) 40 (.slice Ao no co);rw[World.size_alloc,World.size_alloc]at this;rw[<-i];exact this
  ·refine⟨by show _<=a.heap.size+1;omega, ?_⟩;have:=(Boxed.new (a.alloc (aO pf)) 40 (.slice A b.length E)).alloc (bW (.slice Ao no co));rw[World.size_alloc]at this;rw[<-i];exact this
 have hst:SeqStopsK Fence.wide 5 Tryz.prog 136 #[.pointer (some ⟨a.heap.size,0,none⟩), .pointer (some ⟨a.heap.size+1+1,0,none⟩), .pointer (some ⟨a.heap.size+1,0,none⟩)] (λx=>#[QW x]) (QV w.heap.size) (λm=>m=X.bH ks rows b old (ks.length - 1)) (λq=>q<+:X.bH ks rows b old (ks.length - 1)) (X.bH ks rows b old (ks.length - 1)).length k:=by
  intro l I N W hW hJ _ z h0;have a8:∀x∈qD pf a.heap.size (a.heap.size+1+1) (a.heap.size+1) A b.length E (.slice Ao no co),w.heap.size+2<=x.1/\W.heap[x.1]? =some x.2:=λx u=>⟨(H x u).1,(hW.block x.1 (ai (H x u).2).1).trans (H x u).2⟩;have a5:Below w.heap.size w W:=G.trans (hW.mono G.size);cases old with
  |none=>exact BR 5 (by omega) l h hF V O T P S U Z W a5 hJ a8 h0 z
  |some o=>exact BS 5 (by omega) l (a9 o rfl) h hF V O T P S U Z W a5 hJ a8 h0 z
 have a1:=ae hst;have L:=ae a3;clear hst a3 h P H a7 G Q b4 hF V O T S U a9 Z;generalize X.bH ks rows b old (ks.length - 1)=cl at a1|-;have HQ:aa (∀W,ClI w (X.eu cl) [] W->Below w.heap.size w W):=ae (λW h=>h.bel);generalize b.length=bn at*;refine callsIn_of_wp_marks Tryz.func56 rfl trivial ?_ rfl;simp only[Tryz.ntmps56,List.size_toArray,List.length_cons,List.length_nil,Nat.reduceAdd,Nat.reduceSub,Array.replicate_succ,Array.replicate_zero,List.push_toArray,List.append_toArray,List.nil_append,List.cons_append]
 gi_wp2_with fail
 refine⟨trivial,HS.o.mono ?_⟩;rintro e Y ⟨rfl,z⟩;rw[i]at z;subst z;clear C i HS HQ
 gi_wp2_with fail
 have v:w.heap.size<=Y.heap.size:=L.o.bel.size;refine wpIn_rangeFunc_ownF rfl (by omega) (gf:=136) (lb:=#[.pointer (some ⟨a.heap.size,0,none⟩), .pointer (some ⟨a.heap.size+1+1,0,none⟩), .pointer (some ⟨a.heap.size+1,0,none⟩)]) rfl trivial (enters_of Tryz.func136 (by kernel_rfl) rfl)
  a1.o QV.t (λW l o o' hl h hc hw=>Vr w.heap.size Y v W l o o' hl h hc hw) (ak _ _) (λ_=>rfl)
  (λj W=>(∀y∈j,y=true)/\ClI w [] (X.qp j) W)
  (λc j W=>c= .ret/\∃q,j=q++[false]/\ClI w [50,50] (X.qp q) W)
  (OwnFrom.and (zf _ _) (vy _ _ v))
  (λc j W W' row h hg hr=>by
   obtain⟨h1,q,M,h3⟩:=h;exact⟨h1,q,M,vy (λ_=>X.qp q) _ v () W W' row h3 hg hr⟩)
  ⟨(λ_ h=>by cases h),L.o⟩
  (λx=>{tmps:=#[.pointer (some ⟨pf,0,none⟩), .slice A bn E, .slice Ao no co,undef,undef,undef, .pointer (some ⟨w.heap.size,0,none⟩), .pointer (some ⟨w.heap.size+1,0,none⟩),QW x, .pointer (some ⟨pf,0,none⟩), .slice A bn E, .slice Ao no co, .func (.func 136) #[] #[.pointer (some ⟨a.heap.size,0,none⟩), .pointer (some ⟨a.heap.size+1+1,0,none⟩), .pointer (some ⟨a.heap.size+1,0,none⟩)],QW x,undef,undef,undef],defers:=[]}) ?assign ?body ?done ?stop
 case assign=>
  intro l x W K t
  gi_wp2
  exact t
 case body=>
  rintro l j x W ⟨B,d⟩ b2;have h1:=d.r.cell;have M:=d.s.cell;have z1:=d.r.frozen;have z2:=d.s.frozen;have n:=ae d;have HP:=ae B;clear d B b2;cases x
  ·gi_wp2
   exact⟨KeepsOthers.setCell _ _ _,rfl,j,rfl,n.o.r.set _,n.o.s.other (by omega) _,n.o.bel.setCell (aq _) _⟩
  ·gi_wp2
   refine⟨KeepsOthers.setCell _ _ _,Vs _ _ _ (.inr rfl) _,λy hy=> ?_,n.o.r.other (by omega) _, ?_,n.o.bel.setCell (by show w.heap.size<=w.heap.size+1;omega) _⟩
   ·rcases List.mem_append.1 hy with h|h
    ·exact HP.o y h
    ·simpa using h
   ·rw[X.Mv];exact n.o.s.set _
 case done=>
  rintro D m W F rfl ⟨B,d⟩ t;have h1:=d.r.cell;have M:=d.s.cell;have z1:=d.r.frozen;have z2:=d.s.frozen;have a2:ClI w (X.qp m) (X.qp m) (W.setCell ⟨w.heap.size,0,none⟩ (.string ⟨(X.qp m).toArray⟩)):=⟨d.r.set _,d.s.other (by omega) _,d.bel.setCell (aq _) _⟩;have b5:w.heap.size+1<D:=av L.o.s.lt F;have a4:(W.setCell ⟨w.heap.size,0,none⟩ (.string ⟨(X.qp m).toArray⟩)).heap[D]? =some (.deferred (some [])):=by
   rw[Below.heap_setCell _ _ _ D (by show D≠w.heap.size;omega)];exact t
  have a6:=X.Hz B;have b1:=ae a2;have a0:=ae a4;have b0:=ae a6;clear d a2 a4 a6 B
  gi_wp2
  refine⟨by simp, .inl ⟨_,_,rfl,run_takeDeferred a0.o, ?_⟩⟩;have hF:=vy (β:=Unit) (λ_=>X.qp m) Y.heap.size v () _ _ (some D) b1.o (grownBy_putObj' _ D (.deferred none)) (λr e=>by cases e;exact⟨F,_,a0.o,rfl⟩);refine⟨_,pw rfl _ _ _ _ rfl Tryz.underlying9 hF.r.cell, ?_,hF.bel⟩;rw[b0.o]
 case stop=>
  rintro D c j W F b3 ⟨rfl,q,rfl,d⟩ t;have hb:=X.Ia b3
  gi_wp2
  refine⟨by simp, .inl ⟨_,_,rfl,run_takeDeferred t, ?_⟩⟩;have hF:=vy (β:=Unit) (λ_=>X.qp q) Y.heap.size v () _ _ (some D) d (grownBy_putObj' _ D (.deferred none)) (λr e=>by cases e;exact⟨F,_,t,rfl⟩);refine⟨_,pw rfl _ _ _ _ rfl Tryz.underlying9 hF.r.cell, ?_,hF.bel⟩;rw[hb]
theorem zH (h:At w0 p fs s w) (hF:(pf,ax p nm size g ks.length c f)∈fs) (l:(g,ok)∈fs) (a:bR ok ks) (j:ks.length<=c) (d:XF nm size ks rows ct s.now) (i:Src w0 p fs (.slice A b.length E) b) (k:X.bt ks size b=true) (m:∀o,old=some o->X.bt ks size o.b=true) (n:tu w0 p fs (.slice Ao no co) old):
  Calls Tryz.prog 56 #[.pointer (some ⟨pf,0,none⟩), .slice A b.length E, .slice Ao no co] w λe w'=>e= .returned (.string ⟨(X.eu (X.bH ks rows b old (ks.length - 1))).toArray⟩)/\Below w.heap.size w w':=
 callsIn_wide.1 (QX h hF l a j d i k m n)
end
end Go.Proofs.YtipljcmmokaokaaGreat
namespace Go.Proofs.YtipljcmmokaokaaGreat
open Go.RowKit Go.Lib Go.Maps Go.WideMaps Go.Sort
set_option maxRecDepth 100000
section
variable {w0 : World} {p pf g c size ct u : Nat} {nm : J.B} {ks : List X.Ky} {rows : List X.Row} {f : Fv} {w w' : World} {s s1 s2 : J.St} {fs : List (Nat × Obj)} {ok : Obj}
variable {old : List (J.B × J.B)}
structure OpI (w0:World) (p:Nat) (gs:List (Nat×Obj)) (s:J.St) (k:Nat) (W:World):Prop where
 at_:At w0 p gs (X.opened s (X.fS ((s.now.map (·.1)).take k)) (s.now.drop k)) W
 inv:J.Inv True (X.opened s (X.fS ((s.now.map (·.1)).take k)) (s.now.drop k))
theorem QY (a:X.mL u old s) {gs:List (Nat×Obj)} (h:At w0 p gs (X.opened s [] s.now) w):OpI w0 p gs s 0 w:=⟨h,X.lO a⟩
theorem QZ (o:X.mL u old s) {gs:List (Nat×Obj)} {W:World} {k n:Nat} (h:OpI w0 p gs s k W) (b:k<(s.now.map (·.1)).length) (f:∀k∈s.now.map (·.1),k.length<=n) (m:n<=300) (v:s.now.length<=10000):
  Calls Tryz.prog 48 #[.pointer (some ⟨p,0,none⟩),encStr ((s.now.map (·.1))[k])] W λe w'=>e= .returned (.int .i64 0)/\OpI w0 p gs s (k+1) w':=by
 have c:k<s.now.length:=by simpa using b
 have hd:s.now.drop k=s.now[k]::s.now.drop (k+1):=List.drop_eq_getElem_cons c;have d:(s.now.map (·.1))[k]=(s.now[k]).1:=List.getElem_map _;have g:(s.now.map (·.1)).take (k+1)=(s.now.map (·.1)).take k++[(s.now[k]).1]:=by rw[List.take_succ_eq_append_getElem b,d]
 have l:(s.now[k]).1∈s.now.map (·.1):=List.mem_map_of_mem (List.getElem_mem c);have r:=X.rB ((s.now.map (·.1)).take k) 300 (λx q=>aw (f x (List.mem_of_mem_take q)) m);have t:((s.now.map (·.1)).take k).length<=10000:=by rw[List.length_take,List.length_map];omega
 have a:=h.inv;have ha:=h.at_;rw[hd]at a ha;obtain⟨g1,i⟩:=X.zj o ((s.now.map (·.1)).take k) (s.now.drop (k+1)) s.now[k] a (by omega);rw[d];refine(at_delete ha (s.now[k]).1 (by have:=f _ l;omega) 0 g1).mono ?_;rintro e w' ⟨rfl,j⟩;exact⟨rfl,⟨by rw[g];exact j,by rw[g];exact i⟩⟩
theorem Vu (j:X.mL u old s) (l:u<=340) {gs:List (Nat×Obj)} {W:World} {a:J.B} {v:Value} {n:Nat} (h:OpI w0 p gs s (s.now.map (·.1)).length W) (g:∀k∈s.now.map (·.1),k.length<=n) (r:nm.length<=100) (o:(3+n)*s.now.length+9+nm.length+a.length<=11900) (q:a.length<=8192) (m:Sl W bE v a):
  ∃s1,(Calls Tryz.prog 49 #[.pointer (some ⟨p,0,none⟩), .string ⟨(X.own nm).toArray⟩,v] W λe w'=>e= .returned (.int .i64 0)/\At w0 p gs s1 w')/\X.Tx u s s1 [(X.own nm,a)]/\s1=X.opened s (X.fS (s.now.map (·.1))++[⟨X.own nm,a,false⟩]) [(X.own nm,a)]:=by
 have b:=h.inv;have ha:=h.at_;rw[List.take_length,List.length_map,List.drop_length]at b ha;have i:=X.rB (s.now.map (·.1)) n g;rw[List.length_map]at i;have d:=X.ly nm;have c:X.own nm≠[]:=λe=>by rw[e]at d;simp at d
 obtain⟨g1,f⟩:=X.zk j l (s.now.map (·.1)) (X.own nm) a b c (by omega) (by omega) (by omega);exact⟨_,wL ha rfl (X.own nm) a v c (by omega) (by omega) m 0 g1,f,rfl⟩
theorem Mw {n:Nat} (r:X.mL u old s) (hu:u<=340) (h:At w0 p fs (X.opened s [] s.now) w) (N:(pf,ax p nm size g ks.length c f)∈fs) (b3:(g,ok)∈fs) (hO:bR ok ks) (P:X.eC ks size) (Bf Bo:Nat) (hF:(Bf,aO pf)∈fs) (hB:(Bo,aZ ⟨(X.own nm).toArray⟩)∈fs) (b5:nm.length<=100)
  (O:keysOf s.now ⟨(nm++[0]).toArray⟩=s.now.map (·.1)) (b2:∀k∈s.now.map (·.1),k.length<=n) (hn:n<=300) (a6:(3+n)*s.now.length+9+nm.length+(X.attr size ks).length<=11900):
  Calls Tryz.prog 46 #[.pointer (some ⟨Bf,0,none⟩), .pointer (some ⟨Bo,0,none⟩)] w λe w'=>(∃v,e= .returned v)/\At w0 p fs (X.opened s (X.fS (s.now.map (·.1))++[⟨X.own nm,X.attr size ks,false⟩]) [(X.own nm,X.attr size ks)]) w'/\
   X.Tx u s (X.opened s (X.fS (s.now.map (·.1))++[⟨X.own nm,X.attr size ks,false⟩]) [(X.own nm,X.attr size ks)]) [(X.own nm,X.attr size ks)]:=by
 have d1:s.now.length<=10000:=by
  have:=r.many;omega
 have E:=h.get N;have B:=h.get hF;have Q:=λw1 (hb:Below w.heap.size w w1)=>(ie (h.below hb) ⟨(nm++[0]).toArray⟩ (show s.now.length<=1000000 by omega));rw[show(X.opened s [] s.now).now=s.now from rfl,O]at Q;have G:=ae Q;have U:=ae h;have z:=ae N;have y:=ae hF;have V:=ae hB;have Z:=ae b2;have I:=ae r;have HR:=ae E;have c4:=ae B;have L:=ae (λW=>wR nm W (by omega));have c5:=ae (λa4 t (r:∀x∈fs,x∈a4) W (hh:At w0 p a4 t W)=>pT nm size g c ks W (hO.2 W g (hh.get (r _ b3))) P);have HN:=ae hn;have c6:=ae b5;have c2:=ae a6;have c3:aa ((X.attr size ks).length<=8192):=ae (by rw[X.gN];have:=P.one;omega);have c9:=ae hu;have a1:=ae d1;generalize(⟨(nm++[0]).toArray⟩:ByteArray)=na at G L;clear h N hF hB O b2 r Q b3 hO P hn a6 b5 hu;go_enter Tryz.func46,Tryz.ntmps46;go_upto_region 0 with fail;refine aR (.rd 0 (.rd 1 (.rd 2 (.rd 3 (.rd 4 (.rd 5 (.rd 6 (.rd 7 (.rd 8 (.rd 12 (.wr 9 (.wr 10 (.rd 11 .fin))))))))))))) (λw'=>w'.heap[pf]? =some (ax p nm size g ks.length c f)/\w'.heap[Bf]? =some (aO pf)) ⟨E,B⟩ ?_;repeat
  refine aA (v:= ?_) (λw' d=> ?_) (λK a=> ?_);rotate_left
  ·have C:=aj w' pf d.1;have D:=aj w' Bf d.2;clear d;go_simp;try with_reducible rfl
  go_simp;refine a _ ?_;clear a K
 refine az (λK a=> ?_);go_simp;refine(L.o _).mono ?_;rintro e w1 ⟨rfl,d2⟩;subst d2;refine a.out _ _ (λw'=>w'.heap[pf]? =some (ax p nm size g ks.length c f)/\w'.heap[Bf]? =some (aO pf)) (λ_ h=>h) ⟨E,B⟩ ?_;clear a K;refine az (λK a=> ?_);go_simp;refine(G.o _ ((ak _ w).drew)).mono ?_;rintro e w1 ⟨A,rfl,hst,M,a7,b0⟩;have q:=M.get z.o;have m:=M.get y.o;refine a.out _ _ (λw'=>w'.heap[pf]? =some (ax p nm size g ks.length c f)/\w'.heap[Bf]? =some (aO pf)) (λ_ h=>h) ⟨q,m⟩ ?_;clear a K;repeat
  refine aA (v:= ?_) (λw' d=> ?_) (λK a=> ?_);rotate_left
  ·have C:=aj w' pf d.1;have D:=aj w' Bf d.2;clear d;go_simp;try with_reducible rfl
  go_simp;refine a _ ?_;clear a K
 show wpList _ _ _ _ _ _;obtain⟨gs,b1,a5,b9⟩:=zy (U.o.below ((ak _ w).drew)) a7 hst b0;have l:=ae b1;have c7:=ae b9;have a2:=ae (QY I.o a5);have S:(s.now.map (·.1)).length=s.now.length:=List.length_map ..;try rw[S]
 have a0:=ae S;clear hst M a7 b0 b1 a5 b9 q m E B HR c4 U G L S;go_wp2;go_loopw [16] (fun i W=>∃k:Nat,k<=s.now.length/\i= .int .i64 k/\aa (OpI w0 p gs s k W)) (fun i _=>s.now.length - (intOf i).toNat)
 case atStart=>exact⟨0,Nat.zero_le _,rfl,a2⟩
 case round=>
  clear a2;obtain⟨k,O,rfl,b⟩:=hrel;by_cases b4:k<s.now.length
  ·have T:k<(s.now.map (·.1)).length:=(by rw[a0.o];exact b4);obtain⟨g4,rfl,d0,c0⟩:=c7.o _ _ b.o.at_ (by omega);have a9:=c0 k T;have C:=aj wr pf (b.o.at_.get (l.o _ z.o));have D:=aj wr Bf (b.o.at_.get (l.o _ y.o));have F:=ae (QZ I.o b.o T Z.o HN.o a1.o);have H:=ae b4;have Y:aa (k<=1000000):=ae (by have:=a1.o;omega);generalize(s.now.map (·.1))[k]=ky at a9 F;clear c0 d0 b T;go_wp2_with fail;refine F.o.mono ?_;rintro e w3 ⟨rfl,hi⟩;have b:=ae hi;clear hi F a9 C D;go_wp2;go_roundw
   case rel=>exact⟨k+1,H.o,by first|exact cD k Y.o|exact bV k,b⟩
   case measure=>first|exact bZ H.o Y.o|exact bN H.o
  ·obtain rfl:k=s.now.length:=(by omega);have q:=b.o.at_.get (l.o _ z.o);have m:=b.o.at_.get (l.o _ y.o);have b6:=b.o.at_.get (l.o _ V.o);go_upto_region 5 with fail;refine aJ 10 (.rd 0 (.rd 1 (.rd 2 (.rd 3 (.rd 4 (.rd 5 (.rd 6 (.rd 7 (.rd 8 (.wr 9 .fin)))))))))) (λw'=>w'.heap[pf]? =some (ax p nm size g ks.length c f)/\w'.heap[Bf]? =some (aO pf)/\w'.heap[Bo]? =some (aZ ⟨(X.own nm).toArray⟩)) ⟨q,m,b6⟩ ?_;repeat
    refine aA (v:= ?_) (λw' d=> ?_) (λK a=> ?_);rotate_left
    ·have C:=aj w' pf d.1;have D:=aj w' Bf d.2.1;have d3:=aj w' Bo d.2.2;clear d;go_simp;try with_reducible rfl
    go_simp;refine a _ ?_;clear a K
   refine az (λK a=> ?_);go_simp;refine(c5.o _ _ l.o _ (b.o.at_.below ((ak _ _).drew))).mono ?_;rintro e w4 ⟨v,rfl,hv,a8⟩;have o:OpI w0 p gs s (s.now.map (·.1)).length w4:=(by rw[a0.o];exact⟨b.o.at_.below (((ak _ wr).drew).trans a8),b.o.inv⟩);have b8:=nU hv;obtain⟨s1,b7,c1,rfl⟩:=Vu I.o c9.o o Z.o c6.o c2.o c3.o b8;refine a.out _ _ (λw'=>w'.heap[pf]? =some (ax p nm size g ks.length c f)/\w'.heap[Bf]? =some (aO pf)/\w'.heap[Bo]? =some (aZ ⟨(X.own nm).toArray⟩)) (λ_ h=>h) ⟨o.at_.get (l.o _ z.o),o.at_.get (l.o _ y.o),o.at_.get (l.o _ V.o)⟩ ?_;clear a K;have a3:=ae b7;have c8:=ae c1;clear hv a8 o b8 b7 q m b6 b c1;show wpList _ _ _ _ _ _;go_wp2_with fail;refine a3.o.mono ?_;rintro e w5 ⟨rfl,h5⟩;have H5:=ae (h5.less l.o);clear h5 a3;go_wp2;go_end0;exact⟨⟨_,rfl⟩,H5.o,c8.o⟩
end
section
variable {w0 : World} {p pf g c size ct u : Nat} {nm : J.B} {ks : List X.Ky} {rows : List X.Row} {f : Fv} {w w' : World} {s s1 s2 : J.St} {fs : List (Nat × Obj)} {ok : Obj}
variable {old : List (J.B × J.B)}
theorem At.tL {F:Obj} (h:At w0 p ((pf,F)::fs) s w) (b:∀x∈fs,x.1≠pf) (o:Obj):At w0 p ((pf,F)::(w.heap.size,o)::fs) s (w.alloc o)/\∀x∈(w.heap.size,o)::fs,x.1≠pf:=by
 have c:pf<w.heap.size:=h.lt af;refine⟨(h.more o).less (λx a=> ?_),λx a=> ?_⟩
 ·rcases au a with rfl|a
  ·exact ag _ af
  ·rcases au a with rfl|a
   ·exact af
   ·exact ag _ (ag _ a)
 ·rcases au a with rfl|a
  ·show w.heap.size≠pf;omega
  ·exact b x a
theorem Ev {F:Obj} {b b':Nat×Obj} (h:At w0 p ((pf,F)::b::b'::fs) s w):At w0 p ((pf,F)::fs) s w:=h.less (λx a=>by
 rcases au a with rfl|a
 ·exact af
 ·exact ag _ (ag _ (ag _ a)))
theorem YA {F:Obj} {b:Nat×Obj} (h:At w0 p ((pf,F)::b::fs) s w):At w0 p ((pf,F)::fs) s w:=h.less (λx a=>by
 rcases au a with rfl|a
 ·exact af
 ·exact ag _ (ag _ a))
theorem Mx (h:At w0 p ((pf,ax p nm size g ks.length c f)::fs) s w) (d:∀x∈fs,x.1≠pf) (md:Nat) (j:md<1\/4<md) (m:Bool):
  Calls Tryz.prog 12 #[.pointer (some ⟨pf,0,none⟩), .int .u8 (md:Nat), .bool m] w λe w'=>e= .returned (.string ⟨#[51,48]⟩)/\At w0 p ((pf,ax p nm size g ks.length c f)::fs) s w':=by
 obtain⟨a,_⟩:=h.tL d (aO pf);have HR:=ae (gy (a.get af));have i:=ae (YA a);clear h d a;by_cases h1:md<1
 have b:=trivial
 all_goals
  first
   |have b:=b
    have l:(md:Int)<1:=by omega
    skip
   |have l:¬(md:Int)<1:=by omega
    have n:(4:Int)<(md:Nat):=by omega
  clear j;go_enter Tryz.func12,Tryz.ntmps12;go_wp2_with fail;refine HR.o.mono ?_;rintro e w1 ⟨rfl,k⟩;subst k;clear HR;go_wp2;go_ret;exact⟨rfl,i.o⟩
theorem yH (h:At w0 p ((pf,ax p nm size g ks.length c f)::fs) s w) (d:∀x∈fs,x.1≠pf) (k:s.opn=false) (md:Nat) (n:1<=md/\md<=4) (r:Bool) (o:f.mode≠0):
  Calls Tryz.prog 12 #[.pointer (some ⟨pf,0,none⟩), .int .u8 (md:Nat), .bool r] w λe w'=>e= .returned (.string ⟨#[52,49]⟩)/\At w0 p ((pf,ax p nm size g ks.length c f)::fs) (J.cM (J.cW s)) w':=by
 have y:((f.mode:Int) !=0)=true:=by simp;omega
 have z:¬f.mode=0:=o;obtain⟨a,i⟩:=h.tL d (aO pf);have HR:=ae (gy (a.get af));have b:=ae (zo a af k);have t:=ae i;have A:¬(md:Int)<1:=by omega
 have B:¬(4:Int)<(md:Nat):=by omega
 clear h d k a i n;go_enter Tryz.func12,Tryz.ntmps12;go_wp2_with fail;refine HR.o.mono ?_;rintro e w1 ⟨rfl,q⟩;subst q;clear HR;go_wp2_with fail;refine b.o.mono ?_;rintro e l ⟨rfl,ha⟩;have m:=ae ha;have v:=aj l pf (ha.get af);have u:=aj l w.heap.size (ha.get (ag _ af));clear ha b;go_wp2;go_ret;exact⟨rfl,YA m.o⟩
end
end Go.Proofs.YtipljcmmokaokaaGreat
