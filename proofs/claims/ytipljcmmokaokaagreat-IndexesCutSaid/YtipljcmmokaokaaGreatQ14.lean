import Derived.Test.YtipljcmmokaokaaGreatQ13
import Derived.Deep.CutBlock
set_option linter.unusedVariables false
set_option linter.unusedSimpArgs false
set_option maxHeartbeats 40000000
namespace Go.Proofs.YtipljcmmokaokaaGreat
open Go.RowKit Go.Lib Go.Maps Go.WideMaps Go.Sort
set_option maxRecDepth 100000
noncomputable def Vm:Code:=(Tryz.f18.body.bind (jG 7)).getD .skip
def Ys (W0:World) (q oq i bx kk k:Nat) (Ao:Option Addr) (res:Bool):Prop:=(kk<k/\∃(go gt nt ct gx nx cs Yt tx:Nat) (So Sx Vo Vx:ByteArray),Ao=some ⟨go,0,none⟩/\(∀w',Below W0.heap.size W0 w'->w'.heap[bx]? =some (.cells #[.string Sx, .slice (some ⟨gx,0,none⟩) nx cs] 52 (0,0)))/\(∀w',Below W0.heap.size W0 w'->w'.cell? ⟨go,kk*2,none⟩=some (.string So)/\w'.cell? ⟨go,kk*2+1,none⟩=some (.slice (some ⟨gt,0,none⟩) nt ct)/\w'.cell? ⟨gt,i,none⟩=some (xM Yt)/\w'.cell? ⟨gx,i,none⟩=some (xM tx))/\(∀W,Below W0.heap.size W0 W->Calls Tryz.prog 52 #[.pointer (some ⟨q,oq,none⟩), .int .i64 (i:Nat), .string So] W λe w'=>e= .returned (.string Vo)/\Below W.heap.size W w')/\(∀W,Below W0.heap.size W0 W->Calls Tryz.prog 52 #[.pointer (some ⟨q,oq,none⟩), .int .i64 (i:Nat), .string Sx] W λe w'=>e= .returned (.string Vx)/\Below W.heap.size W w')/\(i:Int)<(nt:Nat)/\(i:Int)<(nx:Nat)/\res=(Op.bytesLess Vo.toList Vx.toList||((Vo.toList==Vx.toList)&&decide (Yt<tx))))\/(¬kk<k/\res=false)
theorem aei {f:World} {q oq i bx y k co:Nat} {Ao:Option Addr} {Q:Exit->Act->World->Prop} (O:∀c a d v w,Q (.panic c) (Act.put a d v) w->Q (.panic c) a w) (u:Bool) (hf:Ys f q oq i bx y k Ao u)
  (u2 u3 u4 u6 u9 S T U V W Y Z a0 a1 a2 a3 a4 a5 a6 a7 h9 i0 i1 i2 i3 i4 i5 i6 i7 i8 i9 j0 j1 j2 j3 j4 j5 j6 j7 j8 j9 k0 k1 k2 k3 k4 k5 k6 k7 k8 k9 l0 l1 l2 l3 l4 l5 l6 l7 l8 l9 m0 m1 m2 m3 m4 m5 m6 m7 m8 m9 n0 a8 a9 b0 b1 b2 b3 b4 b5 b6 b7 b8 b9 c0 c1 c2:Value) (h:∀(c3 c4 c5 c6 c7 c8 c9 d0 d1 d2 d3 d4 d5 d6 d7 d8 d9 e0 e1 e2 e3 e4 e5 e6 e7 e8 e9 f0 f4 f5 f6 f7 f8 f9 g0 g1 g2 g3 g4 g5 g6 g7 g8 g9 h0 h1 h2 n4 n5 h5 h6:Value) (W':World),Below f.heap.size f W'->Q .normal (⟨#[.pointer (some ⟨q,oq,none⟩), .int .i64 (i:Nat),u2,u3,u4, .slice Ao k co,u6, .pointer (some ⟨bx,0,none⟩), .int .i64 (y:Nat),u9,S,T,U,V,W,Y,Z,a0,a1,a2,a3,a4,a5,a6,a7,c3,c4,c5,c6,c7,c8,c9,d0,d1,d2,d3,d4,d5,d6,d7,d8,d9,e0,e1,e2,e3,e4,e5,e6,e7,e8,e9,f0,f4,f5,f6,f7,f8,f9,g0,g1,g2,g3,g4,g5,g6,g7,g8,g9,h0,h1,h2,n4,n5,h5,h6, .bool u,a8,a9,b0,b1,b2,b3,b4,b5,b6,b7,b8,b9,c0,c1,c2],[]⟩:Act) W'):Code.wp Tryz.prog Vm Q (⟨#[.pointer (some ⟨q,oq,none⟩), .int .i64 (i:Nat),u2,u3,u4, .slice Ao k co,u6, .pointer (some ⟨bx,0,none⟩), .int .i64 (y:Nat),u9,S,T,U,V,W,Y,Z,a0,a1,a2,a3,a4,a5,a6,a7,h9,i0,i1,i2,i3,i4,i5,i6,i7,i8,i9,j0,j1,j2,j3,j4,j5,j6,j7,j8,j9,k0,k1,k2,k3,k4,k5,k6,k7,k8,k9,l0,l1,l2,l3,l4,l5,l6,l7,l8,l9,m0,m1,m2,m3,m4,m5,m6,m7,m8,m9,n0,a8,a9,b0,b1,b2,b3,b4,b5,b6,b7,b8,b9,c0,c1,c2],[]⟩:Act) f:=by
 rcases hf with⟨E,go,gt,nt,ct,gx,nx,cs,G,tx,So,Sx,o,p,rfl,f1,f2,f3,M,n2,n3,e⟩|⟨E,e⟩
 ·have h8:(y:Int)<(k:Nat):=(by omega);have t:=ae f1;have s:=ae f2;have I:=ae f3;have L:=ae M;clear f1 f2 f3 M;have h4:(Op.bytesLess o.toList p.toList=true/\u=true)\/(Op.bytesLess o.toList p.toList=false/\(o.toList==p.toList)=false/\u=false)\/(Op.bytesLess o.toList p.toList=false/\(o.toList==p.toList)=true/\(G:Int)<(tx:Nat)/\u=true)\/(Op.bytesLess o.toList p.toList=false/\(o.toList==p.toList)=true/\¬(G:Int)<(tx:Nat)/\u=false):=by
   rw[e];by_cases h3:G<tx<;>cases Op.bytesLess o.toList p.toList<;>cases(o.toList==p.toList)<;>simp[h3]<;>omega
  clear e E;rcases h4 with⟨F,rfl⟩|⟨F,P,rfl⟩|⟨F,P,h7,rfl⟩|⟨F,P,h7,rfl⟩
  have m:=trivial;rotate_left;have N:=trivial;rotate_left;have n1:=trivial;rotate_left;rotate_left
  all_goals
   conv=>arg 2;whnf
   have n:aa (Below f.heap.size f f.drew):=ae ((ak _ f).drew);refine wp_region_pe (.rd 0 (.rd 1 (.rd 2 (.rd 3 (.rd 4 (.rd 5 (.rd 6 (.rd 7 (.rd 8 (.rd 9 (.rd 10 (.rd 11 (.rd 13 (.rd 14 (.rd 15 (.rd 16 (.wr 12 (.wr 17 (.rd 18 (.rd 19 (.rd 20 (.rd 21 (.rd 22 (.rd 23 (.rd 24 (.rd 25 (.rd 26 (.rd 28 (.rd 29 (.rd 30 (.rd 31 (.wr 27 (.wr 32 (.rd 33 (.rd 34 (.rd 35 (.rd 36 (.rd 37 (.rd 38 (.rd 39 (.rd 40 (.rd 41 (.rd 42 (.rd 43 (.rd 44 (.rd 45 (.rd 46 (.rd 47 (.rd 48 (.rd 49 (.rd 50 (.rd 51 .fin)))))))))))))))))))))))))))))))))))))))))))))))))))) (λw'=>Below f.heap.size f w') (by kernel_rfl) (by kernel_rfl) O n.o ?_
   iterate 16
    refine aA (v:= ?_) (λw' g=> ?_) (λK b=> ?_);rotate_left
    ·obtain⟨z,o1,A,B⟩:=s.o w' g;have x:=aj w' bx (t.o w' g);clear g;go_simp;try with_reducible rfl
    go_simp;refine b _ ?_;clear b K
   refine az (λK b=> ?_);refine(if_pos (by rfl)).mpr ?_;go_simp;refine(I.o _ n.o).mono ?_;rintro e V1 ⟨rfl,l⟩;have C:=ae (n.o.trans (l.mono n.o.size));refine b.out _ _ (λw'=>Below f.heap.size f w') (λ_ h=>h) C.o ?_;clear b K l;refine az (λK b=> ?_);refine(if_pos (by rfl)).mpr ?_;go_simp;refine(L.o _ C.o).mono ?_;rintro e V2 ⟨rfl,l⟩;have r:=ae (C.o.trans (l.mono C.o.size));refine b.out _ _ (λw'=>Below f.heap.size f w') (λ_ h=>h) r.o ?_;clear b K l
   iterate 2
    refine aA (v:= ?_) (λw' g=> ?_) (λK b=> ?_);rotate_left
    ·obtain⟨z,o1,A,B⟩:=s.o w' g;have x:=aj w' bx (t.o w' g);clear g;go_simp;try with_reducible rfl
    go_simp;refine b _ ?_;clear b K
   first
    |have m:=m
     iterate 2
      refine aF (λK b=> ?_);refine b _ ?_;clear b K
     refine aF (λK b=> ?_)
    |skip
     iterate 11
      refine aA (v:= ?_) (λw' g=> ?_) (λK b=> ?_);rotate_left
      ·obtain⟨z,o1,A,B⟩:=s.o w' g;have x:=aj w' bx (t.o w' g);clear g;go_simp;try with_reducible rfl
      go_simp;refine b _ ?_;clear b K
     refine az (λK b=> ?_);refine(if_pos (by rfl)).mpr ?_
   go_simp;first
    |have m:=m
     iterate 3
      refine b _ ?_;clear b K;refine aF (λK b=> ?_)
    |refine(I.o _ r.o).mono ?_
     rintro e V3 ⟨rfl,l⟩;have D:=ae (r.o.trans (l.mono r.o.size));refine b.out _ _ (λw'=>Below f.heap.size f w') (λ_ h=>h) D.o ?_;clear b K l;refine az (λK b=> ?_);refine(if_pos (by rfl)).mpr ?_
   go_simp;first
    |have m:=m
     iterate 2
      refine b _ ?_;clear b K;refine aF (λK b=> ?_)
     iterate 3
      refine b _ ?_;clear b K;refine aF (λK b=> ?_);go_simp
     refine b _ ?_
     iterate 2
      clear b K;refine dR (by rfl) (by rfl) (λK b=> ?_);go_simp;refine b.out _ _ (λw'=>Below f.heap.size f w') (λ_ h=>h) r.o ?_
     iterate 2
      clear b K;refine aF (λK b=> ?_);refine b _ ?_
     clear b K;refine aF (λK b=> ?_);go_simp
     iterate 3
      refine b _ ?_;clear b K;refine aF (λK b=> ?_)
     go_simp
     iterate 3
      refine b _ ?_;clear b K;refine aF (λK b=> ?_)
     go_simp
     iterate 3
      refine b _ ?_;clear b K;refine aF (λK b=> ?_)
     go_simp
     iterate 2
      refine b _ ?_;clear b K;refine aF (λK b=> ?_)
     iterate 3
      refine b _ ?_;clear b K;refine aF (λK b=> ?_);go_simp
     refine b _ ?_;clear b K
    |refine(L.o _ D.o).mono ?_
     rintro e V4 ⟨rfl,l⟩;have H:=ae (D.o.trans (l.mono D.o.size));refine b.out _ _ (λw'=>Below f.heap.size f w') (λ_ h=>h) H.o ?_;clear b K l
   iterate 2
    refine aA (v:= ?_) (λw' g=> ?_) (λK b=> ?_);rotate_left
    ·obtain⟨z,o1,A,B⟩:=s.o w' g;have x:=aj w' bx (t.o w' g);clear g;go_simp;try with_reducible rfl
    go_simp;refine b _ ?_;clear b K
   first
    |have m:=m
     skip
    |have N:=N
     iterate 2
      refine aF (λK b=> ?_);refine b _ ?_;clear b K
     refine aF (λK b=> ?_);go_simp
     iterate 3
      refine b _ ?_;clear b K;refine aF (λK b=> ?_)
     go_simp
     iterate 3
      refine b _ ?_;clear b K;refine aF (λK b=> ?_)
     go_simp
     iterate 2
      refine b _ ?_;clear b K;refine aF (λK b=> ?_)
     iterate 3
      refine b _ ?_;clear b K;refine aF (λK b=> ?_);go_simp
     refine b _ ?_;clear b K
     iterate 3
      refine aA (v:= ?_) (λw' g=> ?_) (λK b=> ?_);rotate_left
      ·obtain⟨z,o1,A,B⟩:=s.o w' g;have x:=aj w' bx (t.o w' g);clear g;go_simp;try with_reducible rfl
      go_simp;refine b _ ?_;clear b K
    |skip
     iterate 17
      refine aA (v:= ?_) (λw' g=> ?_) (λK b=> ?_);rotate_left
      ·obtain⟨z,o1,A,B⟩:=s.o w' g;have x:=aj w' bx (t.o w' g);clear g;go_simp;try with_reducible rfl
      go_simp;refine b _ ?_;clear b K
   show wpList _ _ _ _ _ _;simp only[wpList];first
    |have m:=m
     exact h _ _ _ _ _ _ _ _ _ _ _ _ _ _ _ _ _ _ _ _ _ _ _ _ _ _ _ _ _ _ _ _ _ _ _ _ _ _ _ _ _ _ _ _ _ _ _ _ _ _ _ _ r.o
     skip
    |exact h _ _ _ _ _ _ _ _ _ _ _ _ _ _ _ _ _ _ _ _ _ _ _ _ _ _ _ _ _ _ _ _ _ _ _ _ _ _ _ _ _ _ _ _ _ _ _ _ _ _ _ _ H.o
 ·subst e;have h8:¬(y:Int)<(k:Nat):=(by omega);clear E
  conv=>arg 2;whnf
  have n:aa (Below f.heap.size f f.drew):=ae ((ak _ f).drew);refine wp_region_pe (.rd 0 (.rd 1 (.rd 2 (.rd 3 (.rd 4 (.rd 5 (.rd 6 (.rd 7 (.rd 8 (.rd 9 (.rd 10 (.rd 11 (.rd 13 (.rd 14 (.rd 15 (.rd 16 (.wr 12 (.wr 17 (.rd 18 (.rd 19 (.rd 20 (.rd 21 (.rd 22 (.rd 23 (.rd 24 (.rd 25 (.rd 26 (.rd 28 (.rd 29 (.rd 30 (.rd 31 (.wr 27 (.wr 32 (.rd 33 (.rd 34 (.rd 35 (.rd 36 (.rd 37 (.rd 38 (.rd 39 (.rd 40 (.rd 41 (.rd 42 (.rd 43 (.rd 44 (.rd 45 (.rd 46 (.rd 47 (.rd 48 (.rd 49 (.rd 50 (.rd 51 .fin)))))))))))))))))))))))))))))))))))))))))))))))))))) (λw'=>Below f.heap.size f w') (by kernel_rfl) (by kernel_rfl) O n.o ?_
  iterate 5
   refine aA (v:= ?_) (λw' g=> ?_) (λK b=> ?_);rotate_left
   ·clear g;go_simp;try with_reducible rfl
   go_simp;refine b _ ?_;clear b K
  iterate 2
   refine aF (λK b=> ?_);refine b _ ?_;clear b K
  refine aF (λK b=> ?_);go_simp
  iterate 3
   refine b _ ?_;clear b K;refine aF (λK b=> ?_)
  go_simp
  iterate 2
   refine b _ ?_;clear b K;refine aF (λK b=> ?_)
  iterate 3
   refine b _ ?_;clear b K;refine aF (λK b=> ?_);go_simp
  refine b _ ?_
  iterate 2
   clear b K;refine dR (by rfl) (by rfl) (λK b=> ?_);go_simp;refine b.out _ _ (λw'=>Below f.heap.size f w') (λ_ h=>h) n.o ?_
  iterate 2
   clear b K;refine aF (λK b=> ?_);refine b _ ?_
  clear b K;refine aF (λK b=> ?_);go_simp
  iterate 3
   refine b _ ?_;clear b K;refine aF (λK b=> ?_)
  go_simp
  iterate 3
   refine b _ ?_;clear b K;refine aF (λK b=> ?_)
  go_simp
  iterate 3
   refine b _ ?_;clear b K;refine aF (λK b=> ?_)
  go_simp;refine b _ ?_;clear b K;refine aF (λK b=> ?_);go_simp;refine b _ ?_
  iterate 2
   clear b K;refine dR (by rfl) (by rfl) (λK b=> ?_);go_simp;refine b.out _ _ (λw'=>Below f.heap.size f w') (λ_ h=>h) n.o ?_
  iterate 2
   clear b K;refine aF (λK b=> ?_);refine b _ ?_
  clear b K;refine aF (λK b=> ?_);go_simp
  iterate 3
   refine b _ ?_;clear b K;refine aF (λK b=> ?_)
  go_simp
  iterate 3
   refine b _ ?_;clear b K;refine aF (λK b=> ?_)
  go_simp
  iterate 3
   refine b _ ?_;clear b K;refine aF (λK b=> ?_)
  go_simp
  iterate 3
   refine b _ ?_;clear b K;refine aF (λK b=> ?_)
  go_simp
  iterate 3
   refine b _ ?_;clear b K;refine aF (λK b=> ?_)
  go_simp;refine b _ ?_;clear b K
  iterate 1
   refine aA (v:= ?_) (λw' g=> ?_) (λK b=> ?_);rotate_left
   ·clear g;go_simp;try with_reducible rfl
   go_simp;refine b _ ?_;clear b K
  show wpList _ _ _ _ _ _;simp only[wpList];exact h _ _ _ _ _ _ _ _ _ _ _ _ _ _ _ _ _ _ _ _ _ _ _ _ _ _ _ _ _ _ _ _ _ _ _ _ _ _ _ _ _ _ _ _ _ _ _ _ _ _ _ _ n.o
structure HMo (w:World) (q oq g c:Nat) (M:Nat->Prop) (m:X.M) (v:Value) (l:List HP):Prop where
 c2:w.cell? ⟨q,oq+2,none⟩=some (.slice (some ⟨g,0,none⟩) m.ks.length c)
 c4:w.cell? ⟨q,oq+4,none⟩=some v
 ql:q<w.heap.size
 ks:dJ w g m.ks
 rows:lU w M v l
 eq:l.map (·.1)=m.rows
section
variable {w w' : World} {q oq g c : Nat} {M : Nat -> Prop} {m : X.M} {v : Value} {l : List HP}
theorem HMo.below (h:HMo w q oq g c M m v l) (a:Below w.heap.size w w'):HMo w' q oq g c M m v l:=
 ⟨(a.cell (p:=⟨q,oq+2,none⟩) h.ql).trans h.c2,(a.cell (p:=⟨q,oq+4,none⟩) h.ql).trans h.c4,av h.ql a.size,h.ks.below a,h.rows.below a,h.eq⟩
theorem hpartO_any (u:w.cell? ⟨q,oq+2,none⟩=some (.slice (some ⟨g,0,none⟩) m.ks.length c)) (d:dJ w g m.ks) (i:Nat) (h:i<m.ks.length) (b:J.B) (B:(X.aH m.ks i).at_+(X.aH m.ks i).len<=b.length) (t:b.length<=1000000):
  Calls Tryz.prog 52 #[.pointer (some ⟨q,oq,none⟩), .int .i64 (i:Nat), .string ⟨b.toArray⟩] w λe w'=>e= .returned (.string ⟨(X.val m.ks i b).toArray⟩)/\Below w.heap.size w w':=by
 have y:=d.at_ h;have z:=d.len h;have A:=d.dup h;have a:(⟨b.toArray⟩:ByteArray).extract (X.aH m.ks i).at_ ((X.aH m.ks i).at_+(X.aH m.ks i).len)=⟨(X.val m.ks i b).toArray⟩:=by
  rw[ByteArray.extract_mk,Nat.add_sub_cancel_left];rfl
 have v:(⟨b.toArray⟩:ByteArray).size=b.length:=bm b;have E:wrap64 (((X.aH m.ks i).at_:Int)+(X.aH m.ks i).len)=(((X.aH m.ks i).at_+(X.aH m.ks i).len:Nat):Int):=by rw[IntWalk.wrap64_in _ (by omega)];omega
 have F:IntKind.i64.wrap (((X.aH m.ks i).at_:Int)+(X.aH m.ks i).len)=(((X.aH m.ks i).at_+(X.aH m.ks i).len:Nat):Int):=by rw[IntKind.wrap_i64];omega
 have D:(i:Int)<(m.ks.length:Nat):=by omega
 have l:=ae (heap_alloc_new w dU);have f:=ae ((ak _ w).alloc (aq _) dU);generalize(⟨b.toArray⟩:ByteArray)=S at a v|-;generalize(⟨(X.val m.ks i b).toArray⟩:ByteArray)=R at a|-;have r:=ae a;clear d t a;go_enter Tryz.func52,Tryz.ntmps52;go_wp2_with (refine wpList_store_row rfl _ _ 66 rfl w.heap.size rfl _ rfl _ _ l.o rfl (by kernel_rfl) rfl ?_);intro s o n x;have p:=ae (f.o.grown n f.o.size (λk e=>by injection e with e;omega));have C:=aj s w.heap.size o;clear o n x l f y z A u;go_wp2;go_ret;exact⟨by rw[<-r.o];rfl,p.o⟩
theorem bY.QN (a:bY m l) (h:HMo w q oq g c M m v l) {i:Nat} (b:i<m.ks.length) (x:HP) (d:x∈l):
  Calls Tryz.prog 52 #[.pointer (some ⟨q,oq,none⟩), .int .i64 (i:Nat), .string ⟨x.1.b.toArray⟩] w λe w'=>e= .returned (.string ⟨(X.val m.ks i x.1.b).toArray⟩)/\Below w.heap.size w w':=
 hpartO_any h.c2 h.ks i b x.1.b ((X.aS.1 (a.fit x d)).2 _ (X.aY b)) (by have:=(X.aS.1 (a.fit x d)).1;have:=a.ks.size;omega)
end
section
variable {w w' : World} {q oq g c : Nat} {M : Nat -> Prop} {m : X.M} {v : Value} {l : List HP}
structure aek (w:World) (m:X.M) (M:Nat->Prop) (l:List HP) (i k:Nat) (vo:Value) (W:World):Prop where
 bel:Below w.heap.size w W
 own:W.ownsRow w.heap.size 52 2 vo k (bp (dm m.ks i (l.take k)))
theorem rO (h:HMo w q oq g c M m v l) (hM:∀k,M k->k<w.heap.size) (hf:bY m l) (i:Nat) (hi:i<m.ks.length):
  Calls Tryz.prog 18 #[.pointer (some ⟨q,oq,none⟩), .int .i64 (i:Nat)] w λe w'=>∃v',e= .returned v'/\Below w.heap.size w w'/\lU w' M v' (dm m.ks i l):=by
 have U:=ae h;have HF:=ae hf;have e4:=ae hM;obtain⟨A,c',rfl,q2,i6,_,_⟩:=h.rows.aU;have G:=ae hi;have j6:=hf.len;clear h hf i6 hM;go_enter Tryz.func18,Tryz.ntmps18;go_wp2;go_loopw [5,6] (fun t u W=>∃k:Nat,k<=l.length/\u= .int .i64 k/\aa (aek w m M l i k t W)) (fun _ u _=>l.length - (intOf u).toNat)
 case atStart=>exact⟨0,Nat.zero_le _,rfl,ae ⟨ak _ _,World.ownsRow_nil _ _ _ _⟩⟩
 case round=>
  obtain⟨k,hk,rfl,Y⟩:=hrel;obtain⟨Ao,co,rfl⟩:=cj Y.o.own;have i7:=(U.o.below Y.o.bel).c2;have i8:=(U.o.below Y.o.bel).c4;by_cases a0:k<l.length
  ·obtain⟨g1,c1,e1,k0,k1⟩:=(U.o.below Y.o.bel).rows.cells a0;have k3:gj l[k].2:=(U.o.rows.tm _ (List.getElem_mem a0)).sl;have j5:(k:Int)<(l.length:Nat):=(by omega);have b3:=ae a0;injection e1 with e1 e2 e3;subst e1;obtain⟨N,P,cs,c8⟩:=k3;obtain⟨gt,ct,et,k5⟩:=(U.o.rows.tm _ (List.getElem_mem a0)).cell (i:=i) (by rw[HF.o.ts _ (List.getElem_mem a0)];exact G.o);have h4:=(U.o.rows.tm _ (List.getElem_mem a0));rw[c8]at k1;have HZ:=ae (heap_alloc_new wr adN);have q3:=ae (List.getElem_mem a0);have e7:=ae (List.take_succ_eq_append_getElem a0);have q5:=ae h4;generalize l[k]=x at k0 k1 c8 q3 e7 q5;obtain⟨r,xv⟩:=x;have c8:xv= .slice N P cs:=c8;subst c8;have k0:wr.cell? ⟨g1,k*2,none⟩=some (.string ⟨r.b.toArray⟩):=k0;have k1:wr.cell? ⟨g1,k*2+1,none⟩=some (.slice N P cs):=k1;clear e2 h4 et k5;go_wp2_with (refine wpList_store_row rfl _ _ 52 rfl wr.heap.size rfl [.string ⟨r.b.toArray⟩, .slice N P cs] rfl _ _ HZ.o rfl (by kernel_rfl) rfl ?_);intro B h1 hg k4;have f2:=((ak wr.heap.size wr).alloc (aq _) adN).grown hg (by simp) (λk e=>by injection e with e;omega);have q4:=ae (Y.o.bel.trans (f2.mono Y.o.bel.size));have b5:aa (B.heap[wr.heap.size]? =some (ah9 (r, .slice N P cs))):=ae h1;have e5:=ae (cN Y.o.own f2);have h8:=ae (show w.heap.size<=wr.heap.size from Y.o.bel.size);clear h1 hg k4 HZ k0 k1 i7 i8 f2 Y;generalize wr.heap.size=bx at b5 h8|-;generalize d4:dm m.ks i (l.take k)=out at e5;have f8:=ae d4;have d2:out.length=k:=(by rw[<-d4,kP,List.length_take];omega);have d3:∀y∈out,y∈l:=λy D=>by rw[<-d4]at D;exact List.mem_of_mem_take (rH _ D)
   obtain⟨t1,t2,t3,t4,t5⟩:=UH (λy:HP=>Bc m.ks i y (r, .slice N P cs)) out;have e8:aa (Hf m.ks i (r, .slice N P cs) out=out.take (out.takeWhile λy=>Bc m.ks i y (r, .slice N P cs)).length++(r, .slice N P cs)::out.drop (out.takeWhile λy=>Bc m.ks i y (r, .slice N P cs)).length):=ae (by
    rw[<-t1,<-t2];rfl)
   generalize(out.takeWhile λy=>Bc m.ks i y (r, .slice N P cs)).length=T at t3 t4 t5 e8;clear t1 t2 d4;have i1:=ae t4;have i2:=ae t5;have g6:T<=k:=(by omega);have b2:=ae d2;have a8:=ae d3;have b4:=ae (U.o.below q4.o);have k7:=ae (HF.o.QN b4.o G.o (r, .slice N P cs) q3.o)
   -- the cells of the rows that lie there already
   have q8:=ae (λf (h0:f<out.length)=>(by
    have ho:B.ownsRow w.heap.size 52 2 (.slice Ao k co) out.length (bp out):=(by rw[d2];exact e5.o);exact(rE ho e4.o (λy D=>b4.o.rows.tm y (d3 y D))).cells h0:∃g0 c0,Value.slice Ao k co= .slice (some ⟨g0,0,none⟩) out.length c0/\B.cell? ⟨g0,f*2,none⟩=some (encStr out[f].1.b)/\B.cell? ⟨g0,f*2+1,none⟩=some out[f].2))
   have b0:aa (k<=co/\rD B Ao out/\∀b o,Ao=some ⟨b,o,none⟩->o=0):=ae (by
    have ho:B.ownsRow w.heap.size 52 2 (.slice Ao k co) out.length (bp out):=(by rw[d2];exact e5.o);obtain⟨A9,c9,e9,h9,i4,_,i5⟩:=(rE ho e4.o (λy D=>b4.o.rows.tm y (d3 y D))).aU;injection e9 with e1 e2 e3;subst e1 e3;exact⟨by omega,i4,i5⟩)
   obtain⟨z,cx,ex,tx⟩:=q5.o.cell (i:=i) (by rw[HF.o.ts _ q3.o];exact G.o);have d5:=HF.o.ts _ q3.o;replace d5:r.ts.length=m.ks.length:=d5;obtain⟨rfl,rfl,rfl⟩:N=some ⟨z,0,none⟩/\P=r.ts.length/\cs=cx:=by
    injection ex with a b c;exact⟨a,b,c⟩
   have q7:z<w.heap.size:=by
    obtain⟨g9,c9,e9,h9,_⟩:=q5.o;injection e9 with e9;injection e9 with e9;injection e9 with e9;rw[e9];exact h9
   have g3:=ae ((q4.o.cell (p:=⟨z,i,none⟩) q7).trans tx);have b9:=ae d5;have a2:=ae g6;clear t3 t4 t5 d2 d3 tx ex q7 a0 j5 g6 d5;go_wp2;go_loopw [8] (fun t W=>∃f:Nat,f<=T/\t= .int .i64 f/\Below B.heap.size B W) (fun t _=>T - (intOf t).toNat)
   case atStart=>exact⟨0,Nat.zero_le _,rfl,ak _ _⟩
   case round=>
    obtain⟨f,h0,rfl,hB⟩:=hrel;have HB:=ae hB;clear hB;have g4:=ae (λw' (E:Below B.heap.size B w')=>(E.block bx (ai b5.o).1).trans b5.o);have f9:=ae (λW (hb:Below B.heap.size B W)=>HF.o.QN (b4.o.below hb) G.o (r, .slice (some ⟨z,0,none⟩) r.ts.length cs) q3.o);have c5:∀W,Below wr.heap.size wr W->Below B.heap.size B W:=λW h=>HB.o.trans (h.mono HB.o.size);have g2:aa (Ys wr q oq i bx f k Ao (decide (f<T))):=ae (by
     by_cases f3:f<k
     ·have b1:f<out.length:=(by rw[b2.o];exact f3);have q1:(f:Int)<(k:Nat):=(by omega);obtain⟨go,c0,i3,o0,o1⟩:=q8.o f b1;have j8:=b4.o.rows.tm _ (a8.o _ (List.getElem_mem b1));obtain⟨gt,ct,et,ot⟩:=j8.cell (i:=i) (by rw[HF.o.ts _ (a8.o _ (List.getElem_mem b1))];exact G.o);have c6:=HF.o.ts _ (a8.o _ (List.getElem_mem b1));rw[et]at o1;obtain⟨rfl, -, -⟩:Ao=some ⟨go,0,none⟩/\True/\True:=by
       injection i3 with a b c;exact⟨a,trivial,trivial⟩
      have g8:go<B.heap.size:=World.block_lt_of_cell? _ _ o0;have j1:gt<B.heap.size:=World.block_lt_of_cell? _ _ ot;have j2:z<B.heap.size:=World.block_lt_of_cell? _ _ g3.o;have i0:=ae (λW (hb:Below B.heap.size B W)=>HF.o.QN (b4.o.below hb) G.o out[f] (a8.o _ (List.getElem_mem b1)));have d8:=ae (λw' (E:Below B.heap.size B w')=>(⟨(E.cell (p:=⟨go,f*2,none⟩) g8).trans o0,(E.cell (p:=⟨go,f*2+1,none⟩) g8).trans o1,(E.cell (p:=⟨gt,i,none⟩) j1).trans ot,(E.cell (p:=⟨z,i,none⟩) j2).trans g3.o⟩:w'.cell? ⟨go,f*2,none⟩=some (.string ⟨out[f].1.b.toArray⟩)/\w'.cell? ⟨go,f*2+1,none⟩=some (.slice (some ⟨gt,0,none⟩) (out[f].1.ts).length ct)/\w'.cell? ⟨gt,i,none⟩=some (xM (out[f].1.ts[i]'(by rw[c6];exact G.o)))/\w'.cell? ⟨z,i,none⟩=some (xM (r.ts[i]'(by rw[b9.o];exact G.o)))));have j3:(i:Int)<(out[f].1.ts.length:Nat):=(by rw[c6];have:=G.o;omega);have j4:(i:Int)<(r.ts.length:Nat):=by rw[b9.o];have:=G.o;omega
      -- what the Yw answer
      have j7:Op.bytesLess (⟨(X.val m.ks i out[f].1.b).toArray⟩:ByteArray).toList (⟨(X.val m.ks i r.b).toArray⟩:ByteArray).toList=decide (X.val m.ks i out[f].1.b<X.val m.ks i r.b):=(by rw[ByteArray.toList_eq,ByteArray.toList_eq,bytesLess_eq]);have j0:=dt (X.val m.ks i out[f].1.b) (X.val m.ks i r.b);have k2:Bc m.ks i out[f] (r, .slice (some ⟨z,0,none⟩) r.ts.length cs)=(decide (X.val m.ks i out[f].1.b<X.val m.ks i r.b)||(decide (X.val m.ks i out[f].1.b=X.val m.ks i r.b)&&decide (out[f].1.ts[i]'(by rw[c6];exact G.o)<r.ts[i]'(by rw[b9.o];exact G.o)))):=by
       unfold Bc X.mD X.Row.t;rw[List.getD_eq_getElem?_getD,List.getD_eq_getElem?_getD,List.getElem?_eq_getElem (by rw[c6];exact G.o),List.getElem?_eq_getElem (by rw[b9.o];exact G.o)];rfl
      have hT:Bc m.ks i out[f] (r, .slice (some ⟨z,0,none⟩) r.ts.length cs)=decide (f<T):=by
       by_cases hh:f<T
       ·rw[i1.o f b1 hh,decide_eq_true hh]
       ·obtain rfl:f=T:=(by omega);rw[i2.o b1,decide_eq_false hh]
      rw[k2]at hT;generalize(out[f].1.ts[i]'(by rw[c6];exact G.o))=k6 at d8 hT;generalize(r.ts[i]'(by rw[b9.o];exact G.o))=tx at d8 hT;exact .inl ⟨f3,go,gt,_,ct,z,r.ts.length,cs,k6,tx,_,_,_,_,rfl,λw' E=>g4.o w' (c5 _ E),λw' E=>d8.o w' (c5 _ E),λw' E=>i0.o w' (c5 _ E),λw' E=>f9.o w' (c5 _ E),j3,j4,by rw[j7,j0];exact hT.symm⟩
     ·exact .inr ⟨f3,decide_eq_false (by have:=a2.o;omega)⟩)
    clear g4 f9 c5;go_upto_region 7 with fail;refine aei (λc a d v w h=>by cases d<;>exact h) (decide (f<T)) g2.o _ _ _ _ _ _ _ _ _ _ _ _ _ _ _ _ _ _ _ _ _ _ _ _ _ _ _ _ _ _ _ _ _ _ _ _ _ _ _ _ _ _ _ _ _ _ _ _ _ _ _ _ _ _ _ _ _ _ _ _ _ _ _ _ _ _ _ _ _ _ _ _ _ _ _ _ _ _ _ _ _ _ _ _ _ _ _ ?_;intro k8 k9 l0 l1 l2 l3 l4 l5 l6 l7 l8 l9 m0 m1 m2 m3 m4 m5 m6 m7 m8 m9 n0 n1 n2 n3 n4 n5 n6 n7 n8 n9 r0 o2 o3 o4 o5 o6 o7 o8 o9 p0 p1 p2 p3 p4 p5 p6 p7 p8 p9 W7 g7;have f7:=ae (HB.o.trans (g7.mono HB.o.size));clear g7 g2;by_cases c7:f<T
    ·have i9:decide (f<T)=true:=decide_eq_true c7;have q6:=ae c7;have f4:f<=1000000:=(by have:=a2.o;omega);clear c7;go_wp2;go_roundw
     case rel=>exact⟨f+1,q6.o,by go_num,f7.o⟩
     case measure=>have:=q6.o;simp[intOf];omega
    ·have i9:decide (f<T)=false:=decide_eq_false c7;obtain rfl:f=T:=(by omega);clear c7;go_upto_region 9 with fail;have f5:gj (Value.slice (some ⟨z,0,none⟩) r.ts.length cs):=⟨_,_,_,rfl⟩;obtain⟨A1,j9,h2⟩:=gJ (A:=Ao) (l:=out) (n:=k) (c:=co) b2.o 0 f (Nat.zero_le _) a2.o b0.o.1 none (some (.int .i64 (f:Nat))) (.inr ⟨rfl,rfl⟩) (.inl rfl) b0.o.2.2;obtain⟨A2,q9,h3⟩:=gJ (A:=Ao) (l:=out) (n:=k) (c:=co) b2.o f k a2.o (aq _) b0.o.1 (some (.int .i64 (f:Nat))) none (.inl rfl) (.inr ⟨rfl,rfl⟩) b0.o.2.2;have b6:=ae f7.o.drew;have d0:=ae (h2 _ (b0.o.2.1.below b6.o));have d1:=ae (h3 _ (b0.o.2.1.below b6.o));have f0:=ae ((b6.o.block bx (ai b5.o).1).trans b5.o);have d9:=ae (λy (D:y∈(out.take f).drop 0)=>U.o.rows.sls y (a8.o y (List.mem_of_mem_take (List.mem_of_mem_drop D))));have e0:=ae (λy (D:y∈(out.take k).drop f)=>U.o.rows.sls y (a8.o y (List.mem_of_mem_take (List.mem_of_mem_drop D))));have d6:=ae (show((out.take f).drop 0).length=f - 0 by rw[List.length_drop,List.length_take];have:=b2.o;have:=a2.o;omega);have d7:=ae (show((out.take k).drop f).length=k - f by rw[List.length_drop,List.length_take];have:=b2.o;have:=a2.o;omega);have a7:aa (∀v' x',x'.ownsRow W7.drew.heap.size 52 2 v' (0+(f - 0)+1+(k - f)) (bp ((([]++(out.take f).drop 0)++[(r, .slice (some ⟨z,0,none⟩) r.ts.length cs)])++(out.take k).drop f))->Below W7.drew.heap.size W7.drew x'->aek w m M l i (k+1) v' x'):=ae (λv' x' ho hb=>by
      have q0:=a2.o;have e1:0+(f - 0)+1+(k - f)=k+1:=(by omega);have f1:Below w.heap.size w W7.drew:=q4.o.trans (b6.o.mono q4.o.size);refine⟨f1.trans (hb.mono f1.size), ?_⟩;rw[e7.o,tq,f8.o,e8.o];rw[e1,List.nil_append,List.drop_zero,show out.take k=out from List.take_of_length_le (by rw[b2.o];exact Nat.le_refl _),List.append_assoc]at ho;exact qR ho f1.size)
     have O:=ae (show f<=k/\k<=1000000 from⟨a2.o,by omega⟩);clear h2 h3 b0 a8 e8 f8 e7 b5 j6;refine aJ 11 (.rd 1 (.rd 2 (.rd 3 (.rd 5 (.rd 8 (.rd 9 (.rd 10 (.two 0 (.two 4 (.wr 6 (.wr 7 .fin)) 6 (.wr 4 (.wr 7 .fin))) 6 (.wr 0 (.wr 4 (.wr 7 .fin))))))))))) (λw'=>Below W7.drew.heap.size W7.drew w') (ak _ _) ?_;generalize W7.drew=V at d0 d1 f0 a7 b6|-;repeat
      refine aA (v:= ?_) (λw' E=> ?_) (λK s=> ?_);rotate_left
      ·have hx:=aj w' bx ((E.block bx (ai f0.o).1).trans f0.o);clear E;go_simp;try with_reducible rfl
      go_simp;refine s _ ?_;clear s K
     clear j9 q9;refine dX (by rfl) (by rfl) (λK s=> ?_) (λK s=> ?_)
     ·go_simp;have a9:aa (World.ownsRow (V.alloc (.cells #[] 52)) V.heap.size 52 2 (.slice (some ⟨V.heap.size,0,none⟩) 0 0) 0 (bp [])):=ae (by
       have h:=tk (base:=V.heap.size) V (ak V.heap.size V).size;exact h)
      have I:=ae ((ak V.heap.size V).alloc (ak V.heap.size V).size (.cells #[] 52));refine s.out _ _ (λw'=>Below V.heap.size V w') (λ_ h=>h) I.o ?_;clear s K;refine dX (by rfl) (by rfl) (λK s=> ?_) (λK s=> ?_)
      ·refine(if_pos (by rfl)).mpr ?_;refine ep _ _ (by rfl) V.heap.size (.slice (some ⟨V.heap.size,0,none⟩) 0 0) 0 [] (by rfl) a9.o A1 (f - 0) (co - 0) ((out.take f).drop 0) (by rfl) (d0.o.below I.o) d6.o d9.o (by have:=O.o;omega) I.o.size ?_;intro v8 x8 a5 Z c3;have L:=ae (I.o.grown Z I.o.size (λj F=>(a9.o.lt j F).1));have a1:=ae a5;clear a5 Z c3;refine s.out _ _ (λw'=>Below V.heap.size V w') (λ_ h=>h) L.o ?_;clear s K;refine az (λK s=> ?_);go_simp;have b8:aa (mH (x8.alloc (.cells #[encStr r.b, .slice (some ⟨z,0,none⟩) r.ts.length cs] 52)) (some ⟨x8.heap.size,0,none⟩) [(r, .slice (some ⟨z,0,none⟩) r.ts.length cs)]):=ae (by
        have h:=rF x8 r (.slice (some ⟨z,0,none⟩) r.ts.length cs);exact h)
       have H:=ae (L.o.alloc L.o.size (.cells #[encStr r.b, .slice (some ⟨z,0,none⟩) r.ts.length cs] 52));refine s.out _ _ (λw'=>Below V.heap.size V w') (λ_ h=>h) H.o ?_;clear s K;refine az (λK s=> ?_);refine(if_pos (by rfl)).mpr ?_;refine ep _ _ (by rfl) V.heap.size v8 (0+(f - 0)) ([]++(out.take f).drop 0) (by rfl) (cN a1.o ((ak _ x8).alloc (aq _) (.cells #[encStr r.b, .slice (some ⟨z,0,none⟩) r.ts.length cs] 52))) (some ⟨x8.heap.size,0,none⟩) 1 1 [(r, .slice (some ⟨z,0,none⟩) r.ts.length cs)] (by rfl) b8.o rfl (λy D=>by simp only[List.mem_singleton]at D;subst D;exact f5) (by have:=O.o;omega) H.o.size ?_;intro v9 x9 a6 a4 c4;have C:=ae (H.o.grown a4 H.o.size (λj F=>(((cN a1.o ((ak _ x8).alloc (aq _) (.cells #[encStr r.b, .slice (some ⟨z,0,none⟩) r.ts.length cs] 52)))).lt j F).1));have Q:=ae a6;clear a6 a4 c4;refine s.out _ _ (λw'=>Below V.heap.size V w') (λ_ h=>h) C.o ?_;clear s K;show wpList _ _ _ _ _ _;refine eY rfl _ _ rfl V.heap.size v9 _ _ rfl Q.o A2 (k - f) (co - f) ((out.take k).drop f) rfl (d1.o.below C.o) d7.o e0.o (by have:=O.o;omega) C.o.size ?_;intro h6 h7 S a3 c2;have b7:=ae (a7.o _ _ S (C.o.grown a3 C.o.size (λj F=>(Q.o.lt j F).1)));obtain⟨f6,h5,g5,rfl⟩:=dL S;clear S a3 c2 Q C a7;have f4:=O.o.2;go_wp2;go_roundw
       case rel=>exact⟨k+1,b3.o,by go_num,b7⟩
       case measure=>have:=b3.o;simp[intOf];omega
      ·go_simp;have b8:aa (mH ((V.alloc (.cells #[] 52)).alloc (.cells #[encStr r.b, .slice (some ⟨z,0,none⟩) r.ts.length cs] 52)) (some ⟨V.heap.size+1,0,none⟩) [(r, .slice (some ⟨z,0,none⟩) r.ts.length cs)]):=ae (by
        have h:=rF (V.alloc (.cells #[] 52)) r (.slice (some ⟨z,0,none⟩) r.ts.length cs);rw[World.size_alloc]at h;exact h)
       have H:=ae (I.o.alloc I.o.size (.cells #[encStr r.b, .slice (some ⟨z,0,none⟩) r.ts.length cs] 52));refine s.out _ _ (λw'=>Below V.heap.size V w') (λ_ h=>h) H.o ?_;clear s K;refine az (λK s=> ?_);refine(if_pos (by rfl)).mpr ?_;refine ep _ _ (by rfl) V.heap.size (.slice (some ⟨V.heap.size,0,none⟩) 0 0) 0 [] (by rfl) (cN a9.o ((ak _ (V.alloc (.cells #[] 52))).alloc (aq _) (.cells #[encStr r.b, .slice (some ⟨z,0,none⟩) r.ts.length cs] 52))) A1 (f - 0) (co - 0) ((out.take f).drop 0) (by rfl) (d0.o.below H.o) d6.o d9.o (by have:=O.o;omega) H.o.size ?_;intro v8 x8 a5 Z c3;have L:=ae (H.o.grown Z H.o.size (λj F=>((cN a9.o ((ak _ (V.alloc (.cells #[] 52))).alloc (aq _) (.cells #[encStr r.b, .slice (some ⟨z,0,none⟩) r.ts.length cs] 52))).lt j F).1));have a1:=ae a5;have e6:=ae (b8.o.kept Z (λe=>by simp[Value.ownBlock]at e));clear a5 Z c3;refine s.out _ _ (λw'=>Below V.heap.size V w') (λ_ h=>h) L.o ?_;clear s K;refine az (λK s=> ?_);refine(if_pos (by rfl)).mpr ?_;refine ep _ _ (by rfl) V.heap.size v8 (0+(f - 0)) ([]++(out.take f).drop 0) (by rfl) a1.o (some ⟨V.heap.size+1,0,none⟩) 1 1 [(r, .slice (some ⟨z,0,none⟩) r.ts.length cs)] (by rfl) e6.o rfl (λy D=>by simp only[List.mem_singleton]at D;subst D;exact f5) (by have:=O.o;omega) L.o.size ?_;intro v9 x9 a6 a4 c4;have C:=ae (L.o.grown a4 L.o.size (λj F=>((a1.o).lt j F).1));have Q:=ae a6;clear a6 a4 c4;refine s.out _ _ (λw'=>Below V.heap.size V w') (λ_ h=>h) C.o ?_;clear s K;show wpList _ _ _ _ _ _;refine eY rfl _ _ rfl V.heap.size v9 _ _ rfl Q.o A2 (k - f) (co - f) ((out.take k).drop f) rfl (d1.o.below C.o) d7.o e0.o (by have:=O.o;omega) C.o.size ?_;intro h6 h7 S a3 c2;have b7:=ae (a7.o _ _ S (C.o.grown a3 C.o.size (λj F=>(Q.o.lt j F).1)));obtain⟨f6,h5,g5,rfl⟩:=dL S;clear S a3 c2 Q C a7;have f4:=O.o.2;go_wp2;go_roundw
       case rel=>exact⟨k+1,b3.o,by go_num,b7⟩
       case measure=>have:=b3.o;simp[intOf];omega
     ·go_simp;have b8:aa (mH (V.alloc (.cells #[encStr r.b, .slice (some ⟨z,0,none⟩) r.ts.length cs] 52)) (some ⟨V.heap.size,0,none⟩) [(r, .slice (some ⟨z,0,none⟩) r.ts.length cs)]):=ae (by
       have h:=rF V r (.slice (some ⟨z,0,none⟩) r.ts.length cs);exact h)
      have H:=ae ((ak V.heap.size V).alloc (ak V.heap.size V).size (.cells #[encStr r.b, .slice (some ⟨z,0,none⟩) r.ts.length cs] 52));refine s.out _ _ (λw'=>Below V.heap.size V w') (λ_ h=>h) H.o ?_;clear s K;refine az (λK s=> ?_);go_simp;have a9:aa (World.ownsRow ((V.alloc (.cells #[encStr r.b, .slice (some ⟨z,0,none⟩) r.ts.length cs] 52)).alloc (.cells #[] 52)) V.heap.size 52 2 (.slice (some ⟨V.heap.size+1,0,none⟩) 0 0) 0 (bp [])):=ae (by
       have h:=tk (base:=V.heap.size) (V.alloc (.cells #[encStr r.b, .slice (some ⟨z,0,none⟩) r.ts.length cs] 52)) H.o.size;rw[World.size_alloc]at h;exact h)
      have I:=ae (H.o.alloc H.o.size (.cells #[] 52));refine s.out _ _ (λw'=>Below V.heap.size V w') (λ_ h=>h) I.o ?_;clear s K;refine az (λK s=> ?_);refine(if_pos (by rfl)).mpr ?_;refine ep _ _ (by rfl) V.heap.size (.slice (some ⟨V.heap.size+1,0,none⟩) 0 0) 0 [] (by rfl) a9.o A1 (f - 0) (co - 0) ((out.take f).drop 0) (by rfl) (d0.o.below I.o) d6.o d9.o (by have:=O.o;omega) I.o.size ?_;intro v8 x8 a5 Z c3;have L:=ae (I.o.grown Z I.o.size (λj F=>(a9.o.lt j F).1));have a1:=ae a5;have e6:=ae ((b8.o.below ((ak _ _).alloc (aq _) (.cells #[] 52))).kept Z (λe=>by simp[Value.ownBlock]at e));clear a5 Z c3;refine s.out _ _ (λw'=>Below V.heap.size V w') (λ_ h=>h) L.o ?_;clear s K;refine az (λK s=> ?_);refine(if_pos (by rfl)).mpr ?_;refine ep _ _ (by rfl) V.heap.size v8 (0+(f - 0)) ([]++(out.take f).drop 0) (by rfl) a1.o (some ⟨V.heap.size,0,none⟩) 1 1 [(r, .slice (some ⟨z,0,none⟩) r.ts.length cs)] (by rfl) e6.o rfl (λy D=>by simp only[List.mem_singleton]at D;subst D;exact f5) (by have:=O.o;omega) L.o.size ?_;intro v9 x9 a6 a4 c4;have C:=ae (L.o.grown a4 L.o.size (λj F=>((a1.o).lt j F).1));have Q:=ae a6;clear a6 a4 c4;refine s.out _ _ (λw'=>Below V.heap.size V w') (λ_ h=>h) C.o ?_;clear s K;show wpList _ _ _ _ _ _;refine eY rfl _ _ rfl V.heap.size v9 _ _ rfl Q.o A2 (k - f) (co - f) ((out.take k).drop f) rfl (d1.o.below C.o) d7.o e0.o (by have:=O.o;omega) C.o.size ?_;intro h6 h7 S a3 c2;have b7:=ae (a7.o _ _ S (C.o.grown a3 C.o.size (λj F=>(Q.o.lt j F).1)));obtain⟨f6,h5,g5,rfl⟩:=dL S;clear S a3 c2 Q C a7;have f4:=O.o.2;go_wp2;go_roundw
      case rel=>exact⟨k+1,b3.o,by go_num,b7⟩
      case measure=>have:=b3.o;simp[intOf];omega
  ·obtain rfl:k=l.length:=(by omega);have HE:=Y;go_wp2;go_ret;refine⟨_,rfl,HE.o.bel, ?_⟩;have ho:=HE.o.own;rw[List.take_length]at ho;have hh:=(U.o.below HE.o.bel).rows;refine rE (base:=w.heap.size) (by rw[kP];exact ho) e4.o (λx hx=>hh.tm x (rH l hx))
end
section
variable {w w' : World} {q g c : Nat} {M : Nat -> Prop} {m : X.M} {v : Value} {l : List HP}
theorem jN (h:fH w q g c M m v l) (a:∀k,M k->k<w.heap.size) (b:bY m l) (i:Nat) (d:i<m.ks.length):
  Calls Tryz.prog 18 #[.pointer (some ⟨q,0,none⟩), .int .i64 (i:Nat)] w λe w'=>∃v',e= .returned v'/\Below w.heap.size w w'/\lU w' M v' (dm m.ks i l):=by
 exact rO (oq:=0) ⟨ah w q 2 _ _ _ h.row,ah w q 4 _ _ _ h.row,(ai h.row).1,h.ks,h.rows,h.eq⟩ a b i d
end
section
variable {w w' : World} {q g c : Nat} {M : Nat -> Prop} {m : X.M} {v : Value} {l : List HP}
def PtR (w:World) (q g c:Nat) (M:Nat->Prop) (m:X.M) (l:List HP) (b:J.B) (j:Nat) (old:Option X.Row) (e:Ending) (w':World):Prop:=
 e= .returned (.string ⟨(m.dh b (old)).toArray⟩)/\((m.dh b (old)=[50,50]/\Below w.heap.size w w')\/(m.dh b (old)≠[50,50]/\∃v' tv,HR w q g c M (Vg m b l j old) v' (l.eraseIdx j++[(⟨b,m.times b (old)⟩,tv)]) w'))
theorem QR {b:J.B} {o:X.Row} {k:Nat} (h0:k≠0) (h:X.keeps m.ks k b (some o)=true):X.TC m b (some o) k=o.t k:=by
 unfold X.TC;rw[if_neg h0];exact if_pos (of_decide_eq_true h)
theorem Vn {b:J.B} {old:Option X.Row} {k:Nat} (h0:k≠0) (h:X.keeps m.ks k b old=false):X.TC m b old k=m.time+1:=by
 unfold X.TC;rw[if_neg h0];cases old with
 |none=>rfl
 |some o=>exact if_neg (of_decide_eq_false h)
theorem BP {b:J.B} {old:Option X.Row} {k:Nat} (h:X.keeps m.ks k b old=true):m.cT k b old=false:=by
 unfold X.M.cT;rw[h];rfl
theorem aeq (i:Nat) (h:i<=1000000):wrap64 ((i:Int)+1)=((i+1:Nat):Int):=UN i h
theorem xn (h:fH w q g c M m v l) (hM:∀k,M k->k<w.heap.size) (hf:bY m l) (b:J.B) (c3:X.bt m.ks m.size b=true) (g3:m.time<=100000) (j:Nat) (z:Int) (hz:(z=(j:Nat)/\j<l.length)\/(z= -1/\j=l.length)) (old:Option X.Row) (f9:(l[j]?).map (·.1)=old):
  Calls Tryz.prog 62 #[.pointer (some ⟨q,0,none⟩), .string ⟨b.toArray⟩, .int .i64 z] w (PtR w q g c M m l b j old):=by
 have o5:=ae f9;have p:=ae h;have HF:=ae hf;have d1:=ae hM;have h0:=ae c3;have HZ:=ae hz;obtain⟨A,Q,rfl,f5,_⟩:=h.rows.aU;have n5:=ae f5;have n3:=hf.ks.one;have o0:=hf.len;have c2:=ae g3;have n2:=aay m.ks.length (by omega) w;have d2:=ae (λ(W:World) (hm:fH W q g c M m (.slice A l.length Q) l) k (s:k<m.ks.length)=>hpart_any hm.row hm.ks k s b ((X.aS.1 c3).2 _ (X.aY s)) (by have:=(X.aS.1 c3).1;have:=hf.ks.size;omega));have C:=aj w q h.row;generalize hS:(⟨b.toArray⟩:ByteArray)=S at d2|-;have f0:=ae hS;have o6:aa (NM w w.heap.size (X.Bi m b (old) 1) (w.alloc (Ve (List.replicate m.ks.length 0)))):=ae ⟨(ak _ w).alloc (aq _) _,by rw[X.Va];exact heap_alloc_new w _⟩;have i3:aa (w.heap.size<=w.heap.size):=ae (aq _);clear h hf hM c3 hz f5 g3 hS f9;go_enter Tryz.func62,Tryz.ntmps62;go_wp2_with fail;clear n2 C;generalize g1:w.heap.size=tb at o6|-;have c1:=ae g1;clear g1 i3;go_loopw [7,9] (fun t u W=>∃k:Nat,1<=k/\k<=m.ks.length/\u= .int .i64 k/\t= .string ⟨(X.Yn m b (old) k).toArray⟩/\aa (X.ptN m b (old) k)/\aa (NM w tb (X.Bi m b (old) k) W)) (fun _ u _=>m.ks.length - (intOf u).toNat)
 case atStart=>exact⟨1,aq _,n3.1,rfl,rfl,ae X.Vb,o6⟩
 case round=>
  clear o6;obtain⟨k,b4,o7,rfl,rfl,HN,r⟩:=hrel;have C:=aj wr q (p.o.below r.o.bel).row;by_cases d:k<m.ks.length
  ·have n9:(k:Int)<(m.ks.length:Nat):=(by omega);have f:=ae d;have h8:=ae b4;have b9:=ae (show k<=1000000 by omega);have f1:=ae (X.QJ (m:=m) (b:=b) (old:=old) b4);have T:=X.ma (m:=m) (b:=b) (old:=old) k;have b8:=aD r.o.tm;have a7:aa ((∃(n:j<l.length),z=(j:Nat)/\X.keeps m.ks k b (old)=decide (X.val m.ks k l[j].1.b=X.val m.ks k b))\/(z= -1/\X.keeps m.ks k b (old)=false)):=ae (by
    rcases HZ.o with⟨h1,h2⟩|⟨h1,h2⟩
    ·exact .inl ⟨h2,h1,by rw[<-o5.o,List.getElem?_eq_getElem h2];rfl⟩
    ·exact .inr ⟨h1,by rw[<-o5.o,h2,List.getElem?_eq_none (Nat.le_refl _)];rfl⟩)
   cases QT:X.keeps m.ks k b (old)with
    |true=>
     rcases a7.o with⟨n,b7,D⟩|⟨_,D⟩
     ·subst b7;have m8:(0:Int)<=(j:Nat):=(by omega);have m9:(j:Int)<(l.length:Nat):=(by omega);obtain⟨H,c0,e0,b5,b6⟩:=p.o.rows.cells n;clear b5 b6;injection e0 with e0 e1 e2;subst e0 e2;rw[QT]at D;have b2:X.val m.ks k l[j].1.b=X.val m.ks k b:=of_decide_eq_true D.symm;have c7:=HF.o.ts _ (List.getElem_mem n);obtain⟨gt,ct,d8,n4⟩:=(p.o.rows.tm _ (List.getElem_mem n)).cell (i:=k) (by rw[c7];exact d);have n1:(k:Int)<(l[j].1.ts.length:Nat):=(by rw[c7];omega);have n0:(k:Int)<((X.Bi m b (old) k).length:Nat):=(by rw[T];omega);have a9:aa (X.TC m b (old) k=l[j].1.t k):=ae (by
       have ho:=o5.o;rw[List.getElem?_eq_getElem n]at ho;rw[<-ho]at QT|-;exact QR (by omega) QT)
      have e5:=ae (BP QT);have Z:=ae (λ(W:World) (a:Below wr.heap.size wr W)=>(⟨World.grownBy.refl W (some q),p.o.below (r.o.bel.trans (a.mono r.o.bel.size)),(p.o.below (r.o.bel.trans (a.mono r.o.bel.size))).rows⟩:jH W q g c M m (.slice (some ⟨H,0,none⟩) l.length Q) l (.slice (some ⟨H,0,none⟩) l.length Q) l W));have N:=ae (λ(W:World) (a:Below wr.heap.size wr W)=>(⟨((Z.o W a).cells n).1,by rw[((Z.o W a).cells n).2,d8],(Z.o W a).tm (List.getElem_mem n) d8 (i:=k) (by rw[c7];exact d)⟩:W.cell? ⟨H,j*2,none⟩=some (.string ⟨l[j].1.b.toArray⟩)/\W.cell? ⟨H,j*2+1,none⟩=some (.slice (some ⟨gt,0,none⟩) l[j].1.ts.length ct)/\W.cell? ⟨gt,k,none⟩=some (xM (l[j].1.t k))));have G:=ae (λ(W:World) (a:Below wr.heap.size wr W)=>(Z.o W a).part rfl HF.o f.o (List.getElem_mem n));have V:=ae (λ(W:World) (a:Below wr.heap.size wr W)=>d2.o W (Z.o W a).md k f.o);have hq:=(dt (X.val m.ks k l[j].1.b) (X.val m.ks k b)).trans (decide_eq_true b2);obtain⟨k0,k1,k2⟩:=N.o wr (ak _ _);have i2:=ae (λ(W:World) (a:Below wr.heap.size wr W)=>(Z.o W a).md.row);have o:=ae (λ(W:World) (a:Below wr.heap.size wr W)=>r.o.below a);generalize(⟨(X.val m.ks k l[j].1.b).toArray⟩:ByteArray)=VK at G hq;generalize(⟨(X.val m.ks k b).toArray⟩:ByteArray)=VV at V hq;generalize(⟨l[j].1.b.toArray⟩:ByteArray)=SI at N G k0;generalize l[j].1.t k=tt at N a9 k2;generalize l[j].1.ts.length=tn at N n1 k1;clear n4;clear d8 c7 T b2 D QT a7 n Z b4 o7 b8;go_wp2_with fail;refine(G.o _ (ak _ _)).mono ?_;rintro e w5 ⟨rfl,a⟩;have E:=ae a;clear a G C k0 k1 k2;go_wp2_with fail;refine(V.o _ E.o).mono ?_;rintro e w6 ⟨rfl,a⟩;have a0:=ae (E.o.trans (a.mono E.o.size));have C:=aj w6 q (i2.o _ a0.o);obtain⟨k0,k1,k2⟩:=N.o _ a0.o;have b8:=aD (o.o _ a0.o).tm;obtain⟨ty,g2⟩:∃y,w6.cell? ⟨tb,k,none⟩=some y:=⟨_,vd (o.o _ a0.o).tm (by rw[X.ma];exact f.o)⟩;have T:=X.ma (m:=m) (b:=b) (old:=old) k;clear a E V;have p0:=ae ((o.o _ a0.o).set (by rw[c1.o];exact aq _) k tt);clear a0;go_wp2;go_roundw
      case rel=>exact⟨k+1,by omega,f.o,by first|exact gB k b9.o|rfl,by rw[f1.o,e5.o];rfl,ae (X.Em HN.o (by rw[e5.o];intro e;cases e)),ae (by rw[<-X.JP,a9.o];exact p0.o)⟩
      case measure=>first|exact fy f.o b9.o|exact eH f.o
     ·rw[QT]at D;cases D
    |false=>
     have a9:=ae (Vn (m:=m) (b:=b) (k:=k) (by omega) QT);have h9:=ae QT;have n0:(k:Int)<(m.ks.length:Nat):=(by omega);have B:=ae (λ(W:World) (a:Below wr.heap.size wr W)=>p.o.below (r.o.bel.trans (a.mono r.o.bel.size)));have o:=ae (λ(W:World) (a:Below wr.heap.size wr W)=>r.o.below a);have g6:=aeq m.time (by have:=c2.o;omega);have g7:=Qw m.time (by have:=c2.o;omega);have d3:aa (∀W6,Below wr.heap.size wr W6->fH (W6.setCell ⟨tb,k,none⟩ (xM (m.time+1))) q g c M m (.slice A l.length Q) l/\NM w tb (X.Bi m b (old) (k+1)) (W6.setCell ⟨tb,k,none⟩ (xM (m.time+1)))):=ae (λW6 a=>by
      have h6:=(o.o _ a).set (by rw[c1.o];exact aq _) k (m.time+1);rw[<-a9.o,X.JP]at h6;rw[a9.o]at h6;exact⟨p.o.below h6.bel,h6⟩)
     have n6:aa (∀(W6:World),True):=ae (λ_=>trivial);clear o7 b4;rcases a7.o with⟨n,b7,D⟩|⟨o2,_⟩
     have a3:=trivial
     all_goals
      first
       |have a3:=a3
        have m8:(0:Int)<=z:=(by omega);have m9:z<(l.length:Nat):=(by omega);obtain⟨H,c0,e0,b5,b6⟩:=p.o.rows.cells n;clear b5 b6;injection e0 with e0 e1 e2;subst e0 e2;rw[QT]at D;have b2:¬X.val m.ks k l[j].1.b=X.val m.ks k b:=of_decide_eq_false D.symm;have N:aa (∀(W:World),Below wr.heap.size wr W->W.cell? ⟨H,j*2,none⟩=some (.string ⟨l[j].1.b.toArray⟩)):=ae (λW a=>((B.o W a).rows.cellAt n).1);have G:=ae (λ(W:World) (a:Below wr.heap.size wr W)=>HF.o.part (B.o W a) f.o l[j] (List.getElem_mem n));have V:=ae (λ(W:World) (a:Below wr.heap.size wr W)=>d2.o W (B.o W a) k f.o);have hq:=(dt (X.val m.ks k l[j].1.b) (X.val m.ks k b)).trans (decide_eq_false b2);have o4:z.toNat=j:=(by rw[b7];rfl);have k0:=N.o wr (ak _ _);generalize(⟨(X.val m.ks k l[j].1.b).toArray⟩:ByteArray)=VK at G hq;generalize(⟨(X.val m.ks k b).toArray⟩:ByteArray)=VV at V hq;generalize(⟨l[j].1.b.toArray⟩:ByteArray)=SI at N G k0;clear b2 D QT a7 b8 T;have n7:=ae b7;clear b7;go_wp2_with fail;refine(G.o _ (ak _ _)).mono ?_;rintro e w5 ⟨rfl,a⟩;have E:=ae a;clear a G C k0;go_wp2_with fail;refine(V.o _ E.o).mono ?_;rintro e w6 ⟨rfl,a⟩;have F:=ae (E.o.trans (a.mono E.o.size));clear a E V;have C:=aj w6 q (B.o _ F.o).row
        skip
       |have o3:¬(0:Int)<=z:=by omega
        have F:=ae (ak wr.heap.size wr);clear QT a7 b8 T C;have w6:=wr;have C:=aj wr q (B.o _ F.o).row
      have b8:=aD (o.o _ F.o).tm;first
       |have a3:=a3
        obtain⟨ty,g2⟩:∃y,w6.cell? ⟨tb,k,none⟩=some y:=⟨_,vd (o.o _ F.o).tm (by rw[X.ma];exact f.o)⟩
        skip
       |obtain⟨ty,g2⟩:∃y,wr.cell? ⟨tb,k,none⟩=some y:=⟨_,vd (o.o _ F.o).tm (by rw[X.ma];exact f.o)⟩
      have T:=X.ma (m:=m) (b:=b) (old:=old) k;go_upto_block 2 with fail;first
       |have a3:=a3
        refine aL (λY=>fH Y q g c M m (.slice (some ⟨H,0,none⟩) l.length Q) l/\NM w tb (X.Bi m b (old) (k+1)) Y) (d3.o _ F.o) ?_
       |refine aL (λY=>fH Y q g c M m (.slice A l.length Q) l/\NM w tb (X.Bi m b (old) (k+1)) Y) (d3.o _ F.o) ?_
      rintro W7 ⟨o8,g0⟩;have a8:=ae g0;clear g0 d3 F;refine aeb o8 HF.o f.o b h0.o j z HZ.o o5.o h9.o _ f0.o.symm _ _ _ _ _ _ _ _ _ _ _ _ _ _ _ _ _ _ _ _ _ _ _ _ _ _ _ _ _ _ _ _ _ _ _ _ _ _ _ _ _ _ _ _ _ _ _ _ _ _ _ _ _ _ _ _ _ _ _ _ _ _ _ _ _ _ _ _ _ _ _ _ _ _ _ _ _ _ _ _ _ _ _ _ _ _ _ _ _ _ _ _ _ _ _ _ _ _ _ _ _ _ _ _ _ _ _ _ _ _ _ _ _ _ _ _ _ _ _ _ _ _ _ _ _ _ _ _ _ _ _ _ _ _ _ _ _ _ _ _ _ _ _ _ _ _ ?_ ?_
      ·intro d6 i5 j8 j9 p1 p2 k3 k4 k5 k6 k7 k8 k9 l0 l1 l2 l3 l4 l5 l6 l7 l8 l9 m0 m1 m2 m3 m4 m5 m6 i6 i7 i8 i9 j0 j1 j2 j3 j4 j5 j6 j7 W8 a f7;have h7:=ae (a8.o.below a);have h3:=ae f7;clear a f7 o8 a8;go_wp2;go_roundw
       case rel=>exact⟨k+1,by omega,f.o,by first|exact gB k b9.o|rfl,by rw[f1.o];rfl,ae (X.Em HN.o h3.o),h7⟩
       case measure=>first|exact fy f.o b9.o|exact eH f.o
      ·intro d7 i5 j8 j9 p1 p2 k3 k4 k5 k6 k7 k8 k9 l0 l1 l2 l3 l4 l5 l6 l7 l8 l9 m0 m1 m2 m3 m4 m5 m6 i6 i7 i8 i9 j0 j1 j2 j3 j4 j5 j6 j7 W8 a f4 f6;have e3:=ae (X.Mk h8.o f.o f4 f6);have o9:=ae (a8.o.bel.trans (a.mono a8.o.bel.size));clear a f4 f6 o8 a8;go_wp2;go_ret;exact⟨by rw[e3.o];rfl, .inl ⟨e3.o,o9.o⟩⟩
  ·obtain rfl:k=m.ks.length:=(by omega);have e4:aa (m.dh b (old)=X.Yn m b (old) m.ks.length):=ae (X.Mj HN.o);have a6:aa (NM w tb (m.times b (old)) wr):=ae (by rw[<-X.JQ];exact r.o);clear r HN b4 o7;have B:=ae (p.o.below a6.o.bel);have hz:=aD B.o.row;have hc:=aj wr q B.o.row;have g6:=aeq m.time (by have:=c2.o;omega);have g7:=Qw m.time (by have:=c2.o;omega);have d9:aa (HR w q g c M {m with time:=m.time+1} (.slice A l.length Q) l (wr.setCell ⟨q,5,none⟩ (xM (m.time+1)))/\(wr.setCell ⟨q,5,none⟩ (xM (m.time+1))).heap[tb]? =some (Ve (m.times b (old)))):=ae (by
    refine⟨(rL p.o a6.o.bel).set 5 (xM (m.time+1)) (aB B.o.row 5 _) rfl rfl, ?_⟩;have:=(ay (World.grownBy.refl wr (some q)) 5 (xM (m.time+1))).block tb (ai a6.o.tm).1 (λe=>by
     injection e with e;have h1:=d1.o q p.o.nq;have h2:=c1.o;omega)
    exact this.trans a6.o.tm)
   go_upto_region 17 with fail;refine aL (λY=>HR w q g c M {m with time:=m.time+1} (.slice A l.length Q) l Y/\Y.heap[tb]? =some (Ve (m.times b (old)))) d9.o ?_;rintro P ⟨f3,g4⟩;have O:=ae f3;have f2:=ae g4;clear d9 f3 g4 a6 B hz hc g6 g7 C;have e9:=ae (World.ownsRow_nil P P.heap.size 52 2);go_wp2_with fail;go_loopw [11,12] (fun t u W=>∃i:Nat,i<=l.length/\u= .int .i64 i/\aa (W.ownsRow P.heap.size 52 2 t ((l.take i).eraseIdx j).length (bp ((l.take i).eraseIdx j)))/\aa (Below P.heap.size P W)) (fun _ u _=>l.length - (intOf u).toNat)
   case atStart=>exact⟨0,Nat.zero_le _,rfl,ae (by rw[List.take_zero];exact e9.o),ae (ak _ _)⟩
   case round=>
    clear e9;obtain⟨i,hi,rfl,HO,L⟩:=hrel;have C:=aj wr q (O.o.2.below L.o).row;by_cases d:i<l.length
    ·have o1:(i:Int)<(l.length:Nat):=(by omega);have a1:=ae d;have o:=ae (show i<=1000000 by omega);have e8:=ae (Ho (j:=j) d);by_cases c5:i=j
     ·have b1:(i:Int)=z:=(by have:=HZ.o;omega);have m7:((i:Int) !=z)=false:=(by rw[b1];simp);have d0:=ae c5;clear c5 b1 hi;go_wp2;go_roundw
      case rel=>exact⟨i+1,a1.o,by first|exact gB i o.o|rfl,ae (by rw[e8.o,if_pos d0.o];exact HO.o),L⟩
      case measure=>first|exact fy a1.o o.o|exact eH a1.o
     ·have b1:¬(i:Int)=z:=(by have:=HZ.o;omega);have m7:((i:Int) !=z)=true:=(by simpa using b1);have d0:=ae c5;obtain⟨H,c0,e0,b5,b6⟩:=O.o.2.rows.cells d;clear b5 b6;injection e0 with e0 e1 e2;subst e0 e2;have c8:=ae (O.o.2.below L.o);obtain⟨k0,k1⟩:=c8.o.rows.cellAt d;obtain⟨As,ns,cs,c6⟩:=(c8.o.rows.tm _ (List.getElem_mem d)).sl;rw[c6]at k1;have I:=HO.o;obtain⟨Ao,co,rfl⟩:=cj I;have k0:wr.cell? ⟨H,i*2,none⟩=some (.string ⟨(l[i]'d).1.b.toArray⟩):=k0;have a2:=ae (cN I ((ak _ wr).alloc (aq _) (.cells #[.string ⟨(l[i]'d).1.b.toArray⟩, .slice As ns cs] 52)));have d5:aa (mH (wr.alloc (.cells #[.string ⟨(l[i]'d).1.b.toArray⟩, .slice As ns cs] 52)) (some ⟨wr.heap.size,0,none⟩) [(l[i]'d)]):=ae (by
       have this:=rF wr (l[i]'d).1 (Value.slice As ns cs);have e:(((l[i]'d).1,Value.slice As ns cs):HP)=(l[i]'d):=Prod.ext rfl c6.symm;exact Eq.mp (congrArg (λy:HP=>mH (wr.alloc (.cells #[.string ⟨(l[i]'d).1.b.toArray⟩, .slice As ns cs] 52)) (some ⟨wr.heap.size,0,none⟩) [y]) e) this)
      have d4:aa (∀y∈[(l[i]'d)],gj y.2):=ae (λy hy=>by
       simp only[List.mem_singleton]at hy;subst hy;exact⟨_,_,_,c6⟩)
      have e6:aa (((l.take i).eraseIdx j).length<=1000000):=ae (by
       have:=List.length_eraseIdx_le (l.take i) j;rw[List.length_take]at this;omega)
      have e7:aa ((l.take (i+1)).eraseIdx j=(l.take i).eraseIdx j++[(l[i]'d)]):=ae (by rw[e8.o,if_neg d0.o]);have U:=ae (L.o.alloc L.o.size (.cells #[.string ⟨(l[i]'d).1.b.toArray⟩, .slice As ns cs] 52));generalize hK:((l.take i).eraseIdx j)=K at HO a2 e6 e7 I|-;clear hK I c5 b1 hi c6;go_wp2_with (refine eY rfl _ _ rfl P.heap.size _ _ K rfl a2.o _ 1 1 [l[i]'d] rfl d5.o rfl d4.o (by have:=e6.o;omega) U.o.size ?_);intro v' w9 a5 b3 _;have g9:=ae (U.o.grown b3 U.o.size (λk s=>(a2.o.lt k s).1));have i1:=ae a5;clear a5 b3;go_wp2;go_roundw
      case rel=>exact⟨i+1,a1.o,by first|exact gB i o.o|rfl,ae (by rw[e7.o,List.length_append];exact i1.o),g9⟩
      case measure=>first|exact fy a1.o o.o|exact eH a1.o
    ·obtain rfl:i=l.length:=(by omega);have I:=HO.o;rw[List.take_length]at I;obtain⟨Ao,co,rfl⟩:=cj I;have h4:aa ((l.eraseIdx j).length<=1000000):=ae (by have:=List.length_eraseIdx_le l j;omega);have g5:(m.times b (old)).length=m.ks.length:=(by rw[<-X.JQ,X.ma]);have i4:=ae g5;have c8:=ae (O.o.2.below L.o);have a2:=ae (cN I ((ak _ wr).alloc (aq _) (.cells #[.string S, .slice (some ⟨tb,0,none⟩) m.ks.length m.ks.length] 52)));have d5:aa (mH (wr.alloc (.cells #[.string S, .slice (some ⟨tb,0,none⟩) m.ks.length m.ks.length] 52)) (some ⟨wr.heap.size,0,none⟩) [(⟨b,m.times b (old)⟩, .slice (some ⟨tb,0,none⟩) m.ks.length m.ks.length)]):=ae (by
      have:=rF wr ⟨b,m.times b (old)⟩ (.slice (some ⟨tb,0,none⟩) m.ks.length m.ks.length);rw[show encStr (⟨b,m.times b (old)⟩:X.Row).b= .string S by rw[<-f0.o]]at this;exact this)
     have d4:aa (∀y∈[((⟨b,m.times b (old)⟩, .slice (some ⟨tb,0,none⟩) m.ks.length m.ks.length):HP)],gj y.2):=ae (λy hy=>by
      simp only[List.mem_singleton]at hy;subst hy;exact⟨_,_,_,rfl⟩)
     have U:=ae (L.o.alloc L.o.size (.cells #[.string S, .slice (some ⟨tb,0,none⟩) m.ks.length m.ks.length] 52));clear I hi HO g5;go_wp2_with (refine eY rfl _ _ rfl P.heap.size _ _ (l.eraseIdx j) rfl a2.o _ 1 1 [(⟨b,m.times b (old)⟩, .slice (some ⟨tb,0,none⟩) m.ks.length m.ks.length)] rfl d5.o rfl d4.o (by have:=h4.o;omega) U.o.size ?_);intro v' w9 a5 b3 _;obtain⟨A9,c9,rfl⟩:=cj a5;have b0:=U.o.grown b3 U.o.size (λk s=>(a2.o.lt k s).1);have a4:=O.o.2.below b0;have hz:=aD a4.row;have n8:=aj w9 q a4.row;have f8:∀k,M k->k<P.heap.size:=λk s=>av (d1.o k s) O.o.1.size;have g8:lU w9 M (.slice A9 ((l.eraseIdx j).length+1) c9) (l.eraseIdx j++[(⟨b,m.times b (old)⟩, .slice (some ⟨tb,0,none⟩) m.ks.length m.ks.length)]):=rE (by rw[List.length_append];exact a5) f8 (λx hx=>by
      rcases List.mem_append.1 hx with hx|hx
      ·exact(O.o.2.rows.tm x (List.mem_of_mem_eraseIdx hx)).below b0
      ·simp only[List.mem_singleton]at hx;subst hx;have T:=(ai f2.o).1;refine lT.below ⟨tb,m.ks.length,by rw[show(⟨b,m.times b (old)⟩:X.Row).ts.length=m.ks.length from i4.o],T,λhm=> ?_,λk s=>vd f2.o s⟩ b0;have h1:=d1.o tb hm;have h2:=c1.o;omega)
     have c4:=ay (World.grownBy.refl w9 (some q)) 4 (.slice A9 ((l.eraseIdx j).length+1) c9);have h5:aa (HR w q g c M (Vg m b l j old) (.slice A9 ((l.eraseIdx j).length+1) c9) (l.eraseIdx j++[(⟨b,m.times b (old)⟩, .slice (some ⟨tb,0,none⟩) m.ks.length m.ks.length)]) (w9.setCell ⟨q,4,none⟩ (.slice A9 ((l.eraseIdx j).length+1) c9))):=ae (by
      refine⟨ay (rL a4 (ak _ w9)|>.1|>λ_=>(O.o.below b0).1) 4 (.slice A9 ((l.eraseIdx j).length+1) c9), ?_⟩;refine a4.QI c4 (aB a4.row 4 (.slice A9 ((l.eraseIdx j).length+1) c9)) rfl (g8.keep c4.size (λk s hn=>c4.block k s (λe=>hn (by injection e with e;rw[e];exact p.o.nq))) (λ_ _ h=>h)) ?_;rw[List.map_append];rfl)
     have i0:aa (m.dh b (old)≠[50,50]):=ae (by rw[e4.o];exact X.aax _);clear a5 b3 b0 a4 f8 g8 c4;go_wp2;go_ret;exact⟨by rw[e4.o];rfl, .inr ⟨i0.o,_,_,h5.o⟩⟩
end
end Go.Proofs.YtipljcmmokaokaaGreat
