import Derived.Test.YtipljcmmokaokaaGreatQ14
set_option linter.unusedVariables false
set_option linter.unusedSimpArgs false
set_option maxHeartbeats 40000000
namespace Go.Proofs.YtipljcmmokaokaaGreat
open Go.RowKit Go.Lib Go.Maps Go.WideMaps Go.Sort
set_option maxRecDepth 100000
noncomputable def VN:Code:=(Tryz.f71.body.bind (jG 13)).getD .skip
noncomputable def VO:Code:=(Tryz.f71.body.bind (jG 14)).getD .skip
theorem Io {f:World} {r:Nat} {VK a:ByteArray} {Q:Exit->Act->World->Prop} (hc:QG VK a) (hr:r<=5) (g:Bool) (e:g=(decide (r=3)&&Op.bytesLess VK.toList a.toList||decide (r=4)&&(Op.bytesLess VK.toList a.toList||(VK.toList==a.toList)))) (i j u4 u5 u6 u7 u8 u9 k w H k9 b6 c4 c5 c6 c7 c8 c9 d0 d1 d2 d3 d4 d5 d6 d7 d8 d9 e0 e1 e2 e3 e4 e5 e6 e7 e8 e9 f0 f1 f2 f3 f4 f5 f6 f7 f8 f9 g0 g1 g2 g3 g4 g5 g6 g7 g8 g9 h0 h2 h3 h4 h5 h6 h7 h8 h9 i0 i1 l0 l1 l2 l3 l4 l5 l6 l7 l8 l9 m0 m1 m2 m3 m4 m5 i2 i3 i4 i5 i6 i7 i8 i9 j0 j1 j2 l m n o p q s t u v x y z A B C D E F G I K L M N O P S T U V W Y Z a0 a1 a2 a3 a4 a5 a6 a7 a8 a9 b0 b1 b2 b3 b4 b5 b7 b8 b9 c0 c1 c2 c3:Value) (h:∀(j3 j4 j5 j6 j7 j8 j9 k0 k1 k2 k3 k4 k5 k6 k7 k8:Value),Q .normal (⟨#[i,j, .int .u8 (r:Nat), .string a,u4,u5,u6,u7,u8,u9,k,w,H, .string VK, .bool g,b6,c4,c5,c6,c7,c8,c9,d0,d1,d2,d3,d4,d5,d6,d7,d8,d9,e0,e1,e2,e3,e4,e5,e6,e7,e8,e9,f0,f1,f2,f3,f4,f5,f6,f7,f8,f9,g0,g1,g2,g3,g4,g5,g6,g7,g8,g9,h0,h2,h3,h4,h5,h6,h7,h8,h9,i0,i1,j3,j4,j5,j6,j7,j8,j9,k0,k1,k2,k3,k4,k5,k6,k7,k8,i2,i3,i4,i5,i6,i7,i8,i9,j0,j1,j2,l,m,n,o,p,q,s,t,u,v,x,y,z,A,B,C,D,E,F,G,I,K,L,M,N,O,P,S,T,U,V,W,Y,Z,a0,a1,a2,a3,a4,a5,a6,a7,a8,a9,b0,b1,b2,b3,b4,b5,b7,b8,b9,c0,c1,c2,c3],[]⟩:Act) f):Code.wp Tryz.prog VN Q (⟨#[i,j, .int .u8 (r:Nat), .string a,u4,u5,u6,u7,u8,u9,k,w,H, .string VK,k9,b6,c4,c5,c6,c7,c8,c9,d0,d1,d2,d3,d4,d5,d6,d7,d8,d9,e0,e1,e2,e3,e4,e5,e6,e7,e8,e9,f0,f1,f2,f3,f4,f5,f6,f7,f8,f9,g0,g1,g2,g3,g4,g5,g6,g7,g8,g9,h0,h2,h3,h4,h5,h6,h7,h8,h9,i0,i1,l0,l1,l2,l3,l4,l5,l6,l7,l8,l9,m0,m1,m2,m3,m4,m5,i2,i3,i4,i5,i6,i7,i8,i9,j0,j1,j2,l,m,n,o,p,q,s,t,u,v,x,y,z,A,B,C,D,E,F,G,I,K,L,M,N,O,P,S,T,U,V,W,Y,Z,a0,a1,a2,a3,a4,a5,a6,a7,a8,a9,b0,b1,b2,b3,b4,b5,b7,b8,b9,c0,c1,c2,c3],[]⟩:Act) f:=by
 subst e;have HX:=ae h;clear h;obtain rfl|rfl|rfl|rfl|rfl|rfl:r=0\/r=1\/r=2\/r=3\/r=4\/r=5:=by omega
 all_goals
  rcases hc with⟨h1,b,c,d⟩|⟨h1,b,c,d⟩|⟨h1,b,c,d⟩
  all_goals
   conv=>arg 2;whnf
   simp only[h1,b,c,d]at HX;go_wp2;exact HX.o _ _ _ _ _ _ _ _ _ _ _ _ _ _ _ _
theorem Ip {f:World} {r:Nat} {VK a:ByteArray} {Q:Exit->Act->World->Prop} (hc:QG VK a) (hr:r<=5) (g:Bool) (e:g=(decide (r=0)&&(VK.toList==a.toList)||decide (r=1)&&Op.bytesLess a.toList VK.toList||decide (r=2)&&(Op.bytesLess a.toList VK.toList||(a.toList==VK.toList)))) (i j u4 u5 u6 u7 u8 u9 k l t P m3 b0 b1 b2 b3 b4 b5 b6 b7 b8 b9 c0 c1 c2 c3 c4 c5 c6 c7 c8 c9 d0 d1 d2 d3 d4 d5 d6 d7 d8 d9 e0 e1 e2 e3 e4 e5 e6 e7 e8 e9 f0 f1 f2 f3 f4 f5 f6 f7 f8 f9 g0 g1 g2 g3 g4 g5 g6 g7 g8 g9 h0 h2 h3 h4 h5 h6 h7 h8 h9 i0 i1 i2 i3 m4 m5 m6 m7 m8 m9 n0 n1 n2 n3 n4 k9 l0 l1 l2 l3 l4 l5 l6 l7 l8 l9 m0 m1 m2 m n o p q s u v w x y z A B C D E F G H I K L M N O S T U V W Y Z a0 a1 a2 a3 a4 a5 a6 a7 a8 a9:Value) (h:∀(j8 j9 k0 k1 k2 k3 k4 k5 k6 k7 k8 i4 i5 i6 i7 i8 i9 j0 j1 j2 j3 j4 j5 j6 j7:Value),Q .normal (⟨#[i,j, .int .u8 (r:Nat), .string a,u4,u5,u6,u7,u8,u9,k,l,t, .string VK,P, .bool g,b0,b1,b2,b3,b4,b5,b6,b7,b8,b9,c0,c1,c2,c3,c4,c5,c6,c7,c8,c9,d0,d1,d2,d3,d4,d5,d6,d7,d8,d9,e0,e1,e2,e3,e4,e5,e6,e7,e8,e9,f0,f1,f2,f3,f4,f5,f6,f7,f8,f9,g0,g1,g2,g3,g4,g5,g6,g7,g8,g9,h0,h2,h3,h4,h5,h6,h7,h8,h9,i0,i1,i2,i3,j8,j9,k0,k1,k2,k3,k4,k5,k6,k7,k8,i4,i5,i6,i7,i8,i9,j0,j1,j2,j3,j4,j5,j6,j7,m,n,o,p,q,s,u,v,w,x,y,z,A,B,C,D,E,F,G,H,I,K,L,M,N,O,S,T,U,V,W,Y,Z,a0,a1,a2,a3,a4,a5,a6,a7,a8,a9],[]⟩:Act) f):Code.wp Tryz.prog VO Q (⟨#[i,j, .int .u8 (r:Nat), .string a,u4,u5,u6,u7,u8,u9,k,l,t, .string VK,P,m3,b0,b1,b2,b3,b4,b5,b6,b7,b8,b9,c0,c1,c2,c3,c4,c5,c6,c7,c8,c9,d0,d1,d2,d3,d4,d5,d6,d7,d8,d9,e0,e1,e2,e3,e4,e5,e6,e7,e8,e9,f0,f1,f2,f3,f4,f5,f6,f7,f8,f9,g0,g1,g2,g3,g4,g5,g6,g7,g8,g9,h0,h2,h3,h4,h5,h6,h7,h8,h9,i0,i1,i2,i3,m4,m5,m6,m7,m8,m9,n0,n1,n2,n3,n4,k9,l0,l1,l2,l3,l4,l5,l6,l7,l8,l9,m0,m1,m2,m,n,o,p,q,s,u,v,w,x,y,z,A,B,C,D,E,F,G,H,I,K,L,M,N,O,S,T,U,V,W,Y,Z,a0,a1,a2,a3,a4,a5,a6,a7,a8,a9],[]⟩:Act) f:=by
 subst e;have HX:=ae h;clear h;obtain rfl|rfl|rfl|rfl|rfl|rfl:r=0\/r=1\/r=2\/r=3\/r=4\/r=5:=by omega
 all_goals
  rcases hc with⟨h1,b,c,d⟩|⟨h1,b,c,d⟩|⟨h1,b,c,d⟩
  all_goals
   conv=>arg 2;whnf
   simp only[h1,b,c,d]at HX;go_wp2;exact HX.o _ _ _ _ _ _ _ _ _ _ _ _ _ _ _ _ _ _ _ _ _ _ _ _ _
def tM (m:X.M) (k r:Nat) (b:J.B) (x:X.Row):Bool:=X.rel r ((X.val m.ks k x.b).take b.length) b
def StF (m:X.M) (k r:Nat) (b:J.B) (ls:List HP) (i:Nat) (z:Int):Prop:=(z= -1/\∀t (ht:t<ls.length),t<i->tM m k r b ls[t].1=false)\/∃(j:Nat) (hj:j<ls.length),z=(j:Nat)/\j<i/\tM m k r b ls[j].1=true/\∀t (ht:t<ls.length),(if r=3\/r=4 then j<t/\t<i else t<j)->tM m k r b ls[t].1=false
theorem EA {p:X.Row->Bool} {ls:List HP} {j:Nat} (b:j<ls.length) (c:∀t (a:t<ls.length),j<t->p ls[t].1=false) (f:p ls[j].1=true):((ls.map (·.1)).filter p).getLast? =some ls[j].1:=by
 have e:ls=ls.take j++ls[j]::ls.drop (j+1):=by rw[<-List.drop_eq_getElem_cons b,List.take_append_drop]
 have hd:((ls.drop (j+1)).map (·.1)).filter p=[]:=List.filter_eq_nil_iff.2 (λx d=>by
  obtain⟨z,g,rfl⟩:=List.mem_map.1 d;obtain⟨t,a,rfl⟩:=List.getElem_of_mem g;rw[List.length_drop]at a;rw[List.getElem_drop,c (j+1+t) (by omega) (by omega)];decide)
 conv=>lhs;rw[e]
 rw[List.map_append,List.map_cons,List.filter_append,List.filter_cons_of_pos f,hd,List.getLast?_append,List.getLast?_singleton];rfl
theorem EB {p:X.Row->Bool} {ls:List HP} (b:∀t (a:t<ls.length),p ls[t].1=false):((ls.map (·.1)).filter p).getLast? =none:=by
 rw[List.filter_eq_nil_iff.2 (λx c=>by
  obtain⟨z,d,rfl⟩:=List.mem_map.1 c;obtain⟨t,a,rfl⟩:=List.getElem_of_mem d;rw[b t a];decide)]
 rfl
theorem VP {x y:J.B} {r:Nat}:(decide (r=3)&&decide (x<y)||decide (r=4)&&(decide (x<y)||decide (x=y)))=(decide (r=3\/r=4)&&X.rel r x y):=by
 unfold X.rel;have e2:(decide (x<y)||decide (x=y))= !decide (y<x):=by
  rw[Bool.eq_iff_iff,Bool.or_eq_true,decide_eq_true_eq,decide_eq_true_eq,Bool.not_eq_true',decide_eq_false_iff_not];constructor
  ·rintro(h1|h1)
   ·exact List.lt_asymm h1
   ·rw[h1];exact List.lt_irrefl _
  ·intro h1;rcases List.le_iff_lt_or_eq.1 (List.not_lt.1 h1)with a|a
   ·exact .inl a
   ·exact .inr a
 by_cases b:r=3
 ·subst b;simp
 ·by_cases c:r=4
  ·subst c;rw[e2];simp
  ·simp[b,c]
theorem Rv {x y:J.B} {r:Nat} (b:r<=5):(decide (r=0)&&decide (x=y)||decide (r=1)&&decide (y<x)||decide (r=2)&&(decide (y<x)||decide (y=x)))=(!decide (r=3\/r=4)&&X.rel r x y):=by
 unfold X.rel;have e2:(decide (y<x)||decide (y=x))= !decide (x<y):=by
  rw[Bool.eq_iff_iff,Bool.or_eq_true,decide_eq_true_eq,decide_eq_true_eq,Bool.not_eq_true',decide_eq_false_iff_not];constructor
  ·rintro(h1|h1)
   ·exact List.lt_asymm h1
   ·rw[h1];exact List.lt_irrefl _
  ·intro h1;rcases List.le_iff_lt_or_eq.1 (List.not_lt.1 h1)with a|a
   ·exact .inl a
   ·exact .inr a
 match r,b with
 |0,_=>simp
 |1,_=>simp
 |2,_=>rw[e2];simp
 |3,_=>simp
 |4,_=>simp
 |5,_=>simp
section
variable {w w' : World} {q g c ct : Nat} {M : Nat -> Prop} {m : X.M} {v : Value} {l : List HP}
theorem Rw (h:fH w q g c M m v l) {k r:Nat} {b:J.B} {z:Int} (o:StF m k r b (dm m.ks k l) (dm m.ks k l).length z):(z= -1/\m.place k r b=none)\/∃(j:Nat) (e:j<(dm m.ks k l).length),z=(j:Nat)/\m.place k r b=some (dm m.ks k l)[j].1:=by
 unfold X.M.place;rw[<-h.cn k];rcases o with⟨i,d⟩|⟨j,e,i,_,n,d⟩
 ·refine .inl ⟨i, ?_⟩;split
  ·exact EB (p:=tM m k r b) (λt a=>d t a a)
  ·exact lZ (p:=tM m k r b) (λt a=>d t a a)
 ·refine .inr ⟨j,e,i, ?_⟩;split
  ·rename_i hr
   exact EA (p:=tM m k r b) e (λt a f=>d t a (by rw[if_pos hr];exact⟨f,a⟩)) n
  ·rename_i hr
   exact jJ (p:=tM m k r b) e (λt a f=>d t a (by rw[if_neg hr];exact f)) n
def StQ (w:World) (q g c:Nat) (M:Nat->Prop) (m:X.M) (v:Value) (l:List HP) (k r:Nat) (b:J.B) (e:Ending) (w':World):Prop:=e= .returned (.string ⟨(m.start (k:Nat) r b).2.toArray⟩)/\HR w q g c M (m.start (k:Nat) r b).1 v l w'
theorem YL {n k:Nat} {b:J.B} {y:Nat} (d:k<n) (a:b≠[]) (c:b.length<=y):¬((k:Int)<0\/(n:Int)<=k\/b.length=0\/y<b.length):=by
 intro hh;rcases hh with hh|hh|hh|hh
 ·omega
 ·omega
 ·exact a (List.eq_nil_of_length_eq_zero hh)
 ·omega
theorem Iq {k r:Nat} {b:J.B} (d:X.bP [52,55] [1,3] m.mode=X.good) (e:k<m.ks.length) (a:b≠[]) (c:b.length<=(X.aH m.ks k).len) {x:X.Row} (h:m.place k r b=some x):m.start (k:Nat) r b=({lz m with lost:=false,key:=k,value:=X.val m.ks k x.b,at_:=x.t k,same:=true},X.good):=by
 unfold X.M.start;rw[if_neg (Decidable.not_not.2 d),if_neg (by rw[Int.toNat_natCast];exact YL e a c),Int.toNat_natCast,h]
theorem Ir {k r:Nat} {b:J.B} (d:X.bP [52,55] [1,3] m.mode=X.good) (e:k<m.ks.length) (a:b≠[]) (c:b.length<=(X.aH m.ks k).len) (h:m.place k r b=none):m.start (k:Nat) r b=(m.dW,[50,51]):=by
 unfold X.M.start;rw[if_neg (Decidable.not_not.2 d),if_neg (by rw[Int.toNat_natCast];exact YL e a c),Int.toNat_natCast,h]
theorem Iu (h:fH w q g c M m v l) (k:Int) (r:Nat) (b:J.B) (a:X.bP [52,55] [1,3] m.mode≠X.good):
  Calls Tryz.prog 71 #[.pointer (some ⟨q,0,none⟩), .int .i64 k, .int .u8 (r:Nat), .string ⟨b.toArray⟩] w λe w'=>e= .returned (.string ⟨(m.start k r b).2.toArray⟩)/\HR w q g c M (m.start k r b).1 v l w':=by
 unfold X.M.start;rw[if_pos a];have d:=ae (iB h.row [52,55] 1 3 3 [1,3] (by simp) a);have f:=ae (fz h);obtain⟨i,j⟩:=jP (tB [52,55] [1,3] m.mode (by decide));clear h a;generalize(⟨(X.bP [52,55] [1,3] m.mode).toArray⟩:ByteArray)=S at d i j|-;go_enter Tryz.func71,Tryz.ntmps71;go_wp2_with fail;refine d.o.mono ?_;rintro e w1 ⟨rfl,rfl⟩;go_wp2;go_ret;exact⟨rfl,f.o⟩
theorem Iw (h:fH w q g c M m v l) (k:Int) (r:Nat) (b:J.B) (s:X.bP [52,55] [1,3] m.mode=X.good) (a:k<0\/m.ks.length<=k\/b.length=0\/(X.aH m.ks k.toNat).len<b.length):
  Calls Tryz.prog 71 #[.pointer (some ⟨q,0,none⟩), .int .i64 k, .int .u8 (r:Nat), .string ⟨b.toArray⟩] w λe w'=>e= .returned (.string ⟨(m.start k r b).2.toArray⟩)/\HR w q g c M (m.start k r b).1 v l w':=by
 unfold X.M.start;rw[if_neg (Decidable.not_not.2 s),if_pos a];have y:=ae (eL h.row [52,55] 1 3 3 [1,3] (by simp) (by decide) s);have x:=ae (iA h.row);have B:=ae h;have D:k<0\/(¬k<0/\¬k<(m.ks.length:Nat))\/(¬k<0/\k<(m.ks.length:Nat)/\b=[])\/(∃n:Nat,k=(n:Nat)/\n<m.ks.length/\b≠[]/\(X.aH m.ks n).len<b.length):=by
  by_cases h0:k<0
  ·exact .inl h0
  ·by_cases h1:m.ks.length<=k
   ·exact .inr (.inl ⟨h0,by omega⟩)
   ·by_cases p:b=[]
    ·exact .inr (.inr (.inl ⟨h0,by omega,p⟩))
    ·refine .inr (.inr (.inr ⟨k.toNat,by omega,by omega,p, ?_⟩));rcases a with a|a|a|a
     ·exact absurd a h0
     ·exact absurd a h1
     ·exact absurd (List.eq_nil_of_length_eq_zero a) p
     ·exact a
 clear h s a;rcases D with h0|⟨h0,h1⟩|⟨h0,h1,rfl⟩|⟨n,rfl,h1,z,F⟩
 have d:=trivial;rotate_left;have f:=trivial;rotate_left;have i:=trivial;rotate_left;rotate_left
 all_goals
  first
   |have d:=d
    generalize(⟨b.toArray⟩:ByteArray)=S
   |have f:=f
    generalize(⟨b.toArray⟩:ByteArray)=S
   |have i:=i
    show Calls _ _ #[_,_,_, .string ⟨#[]⟩] _ _
    skip
   |have I:(⟨b.toArray⟩:ByteArray).size=b.length:=bm b
    obtain⟨G,H⟩:=jP z;have h0:¬(n:Int)<0:=(by omega);have K:(n:Int)<(m.ks.length:Nat):=(by omega);have L:((X.aH m.ks n).len:Int)<(b.length:Nat):=(by omega);have C:=ae h1;clear z F h1;generalize(⟨b.toArray⟩:ByteArray)=S at I G H|-
  go_enter Tryz.func71,Tryz.ntmps71;go_wp2_with fail;refine y.o.mono ?_;rintro e w1 ⟨rfl,rfl⟩;clear y;go_wp2_with fail;refine(x.o).mono ?_;rintro e u ⟨⟨P,rfl⟩,t,A⟩;have o:aa (HR w q g c M (lz m) v l u):=ae ⟨t,B.o.turn t A rfl rfl⟩;clear t A x;have N:=aj u q o.o.2.row;first
   |have d:=d
    skip
   |have f:=f
    skip
   |have i:=i
    skip
   |have E:dJ u g m.ks:=o.o.2.ks
    have O:=E.len C.o
  go_wp2;go_ret;exact⟨rfl,o.o⟩
theorem Rx {k r i:Nat} {b:J.B} {ls:List HP} {z:Int} (h:StF m k r b ls i z) (n:i<ls.length) (q:r<=5):
  StF m k r b ls (i+1) (if(decide (r=3\/r=4)&&tM m k r b ls[i].1||(!decide (r=3\/r=4)&&tM m k r b ls[i].1)&&decide (z<0))=true then(i:Int)else z):=by
 by_cases c:r=3\/r=4
 ·rw[decide_eq_true c,Bool.true_and,Bool.not_true,Bool.false_and,Bool.false_and,Bool.or_false];cases hb:tM m k r b ls[i].1 with
  |true=>
   rw[if_pos rfl];exact .inr ⟨i,n,rfl,by omega,hb,λt a hh=>by rw[if_pos c]at hh;omega⟩
  |false=>
   rw[if_neg (by decide)];rcases h with⟨f,d⟩|⟨j,g,f,o,l,d⟩
   ·refine .inl ⟨f,λt a p=> ?_⟩;by_cases e:t=i
    ·subst e;exact hb
    ·exact d t a (by omega)
   ·refine .inr ⟨j,g,f,by omega,l,λt a hh=> ?_⟩;rw[if_pos c]at hh;by_cases e:t=i
    ·subst e;exact hb
    ·exact d t a (by rw[if_pos c];omega)
 ·rw[decide_eq_false c,Bool.false_and,Bool.not_false,Bool.true_and,Bool.false_or];rcases h with⟨f,d⟩|⟨j,g,f,o,l,d⟩
  ·cases hb:tM m k r b ls[i].1 with
   |true=>
    rw[if_pos (by simp;omega)];exact .inr ⟨i,n,rfl,by omega,hb,λt a hh=>by rw[if_neg c]at hh;exact d t a hh⟩
   |false=>
    rw[if_neg (by simp)];refine .inl ⟨f,λt a p=> ?_⟩;by_cases e:t=i
    ·subst e;exact hb
    ·exact d t a (by omega)
  ·rw[if_neg (by simp;omega)];exact .inr ⟨j,g,f,by omega,l,λt a hh=>by rw[if_neg c]at hh;exact d t a (by rw[if_neg c];exact hh)⟩
theorem MK (h:fH w q g c M m v l) (hM:∀k,M k->k<w.heap.size) (hf:bY m l) (k r:Nat) (hr:r<=5) (b:J.B) (hc:X.bP [52,55] [1,3] m.mode=X.good) (hk:k<m.ks.length) (d:b≠[]) (a6:b.length<=(X.aH m.ks k).len):
  Calls Tryz.prog 71 #[.pointer (some ⟨q,0,none⟩), .int .i64 (k:Nat), .int .u8 (r:Nat), .string ⟨b.toArray⟩] w (StQ w q g c M m v l k r b):=by
 have i4:=ae (λx=>Iq (r:=r) (x:=x) hc hk d a6);have i2:=ae (Ir (r:=r) hc hk d a6);have HM:=ae (eL h.row [52,55] 1 3 3 [1,3] (by simp) (by decide) hc);have HL:=ae (iA h.row);have HH:=ae h;have j3:(⟨b.toArray⟩:ByteArray).size=b.length:=bm b;obtain⟨h2,k9⟩:=jP d;have h0:¬(k:Int)<0:=by omega
 have h3:(k:Int)<(m.ks.length:Nat):=by omega
 have h4:¬((X.aH m.ks k).len:Int)<(b.length:Nat):=by omega
 have G:=ae hk;have i0:=ae hM;have Z:aa (bY (lz m) l):=ae ⟨hf.fit,hf.ts,hf.ks,hf.len⟩;have b6:=ae a6;have C:=ae hr;generalize E:(⟨b.toArray⟩:ByteArray)=S at j3 h2 k9|-;have i3:=ae E;clear h hc hk d hf hM a6 hr E;go_enter Tryz.func71,Tryz.ntmps71;go_wp2_with fail;refine HM.o.mono ?_;rintro e w1 ⟨rfl,rfl⟩;clear HM;go_wp2_with fail;refine(HL.o).mono ?_;rintro e w2 ⟨⟨vx,rfl⟩,hg,h5⟩;have O:aa (HR w q g c M (lz m) v l w2):=ae ⟨hg,HH.o.turn hg h5 rfl rfl⟩;clear hg h5 HL;have i9:=aj w2 q O.o.2.row;have g9:dJ w2 g m.ks:=O.o.2.ks;have k2:=g9.len G.o;have b9:=ae (jN O.o.2 (λj B=>av (i0.o j B) O.o.1.size) Z.o k G.o);go_wp2_with fail;refine b9.o.mono ?_;rintro e w4 ⟨vs,rfl,g7,h8⟩;have H4:=ae (O.o.below g7);have K:aa (bY m (dm m.ks k l)):=ae ⟨(Z.o.cn k).fit,(Z.o.cn k).ts,(Z.o.cn k).ks,(Z.o.cn k).len⟩;have b7:=ae (λz=>Rw HH.o (k:=k) (r:=r) (b:=b) (z:=z));have D:aa (lU w4 M vs (dm m.ks k l)):=ae h8;have h1:=K.o.len;generalize dm m.ks k l=ls at K b7 D h1;clear g7 h8 i9 g9 b9 k2 h0 h4 h2 k9;obtain⟨A,cs,rfl,j1,i6,_,_⟩:=D.o.aU;clear i6 j1;go_wp2_with fail;go_loopw [11,12] (fun t u W=>∃i:Nat,i<=ls.length/\u= .int .i64 i/\∃z:Int,t= .int .i64 z/\aa (StF m k r b ls i z)/\aa (Below w4.heap.size w4 W)) (fun _ u _=>ls.length - (intOf u).toNat)
 case atStart=>exact⟨0,Nat.zero_le _,rfl, -1,rfl,ae (.inl ⟨rfl,λt _ h=>absurd h (Nat.not_lt_zero t)⟩),ae (ak _ _)⟩
 case round=>
  obtain⟨i,hi,rfl,z,rfl,a9,a⟩:=hrel;by_cases N:i<ls.length
  ·obtain⟨s,c0,e0,b3,b4⟩:=D.o.cells N;clear b3 b4;injection e0 with e0 e1 e2;subst e0 e2;have k5:(i:Int)<(ls.length:Nat):=(by omega);have h9:=ae (λ(W:World) (d:Below wr.heap.size wr W)=>H4.o.below (a.o.trans (d.mono a.o.size)));have g8:wr.cell? ⟨s,i*2,none⟩=some (.string ⟨ls[i].1.b.toArray⟩):=((D.o.below a.o).cellAt N).1;have H:aa (Calls Tryz.prog 52 #[.pointer (some ⟨q,0,none⟩), .int .i64 (k:Nat), .string ⟨ls[i].1.b.toArray⟩] wr λe w'=>e= .returned (.string ⟨(X.val m.ks k ls[i].1.b).toArray⟩)/\Below wr.heap.size wr w'):=ae (jH.part (m:=m) ⟨World.grownBy.refl wr (some q),(h9.o wr (ak _ _)).2,D.o.below a.o⟩ rfl K.o G.o (List.getElem_mem N));have n:=ae N;have F:=ae (show i<=1000000 by omega);have L:=ae (Rx a9.o N C.o);have h7:(X.val m.ks k ls[i].1.b).length=(X.aH m.ks k).len:=X.bc (K.o.fit _ (List.getElem_mem N)) G.o;have h6:(⟨(X.val m.ks k ls[i].1.b).toArray⟩:ByteArray).extract 0 b.length=⟨((X.val m.ks k ls[i].1.b).take b.length).toArray⟩:=(by rw[ByteArray.extract_mk,List.drop_zero,Nat.sub_zero]);have j4:(⟨(X.val m.ks k ls[i].1.b).toArray⟩:ByteArray).size=(X.aH m.ks k).len:=(by rw[bm];exact h7);have j9:(b.length:Int)<=((X.aH m.ks k).len:Nat):=(by have:=b6.o;omega);have l1:b.length<=(X.aH m.ks k).len:=b6.o;have f:=ae (El ((X.val m.ks k ls[i].1.b).take b.length) b);have a4:aa (tM m k r b ls[i].1=X.rel r ((X.val m.ks k ls[i].1.b).take b.length) b):=ae rfl;have T:=ae (tA ((X.val m.ks k ls[i].1.b).take b.length) b);have I:=ae (dt ((X.val m.ks k ls[i].1.b).take b.length) b);have U:=ae (tA b ((X.val m.ks k ls[i].1.b).take b.length));have V:=ae (dt b ((X.val m.ks k ls[i].1.b).take b.length));rw[i3.o]at f T I U V;generalize(⟨(X.val m.ks k ls[i].1.b).toArray⟩:ByteArray)=VF at H h6 j4;generalize(⟨((X.val m.ks k ls[i].1.b).take b.length).toArray⟩:ByteArray)=VK at h6 f T I U V;generalize(⟨ls[i].1.b.toArray⟩:ByteArray)=SI at g8 H;generalize((X.val m.ks k ls[i].1.b).take b.length)=vt at a4 T I U V;clear h7 hi h1;go_wp2_with fail;refine H.o.mono ?_;rintro e w5 ⟨rfl,d⟩;have a3:=ae d;clear d H g8;have o:=ae (VP (x:=vt) (y:=b) (r:=r));have p:=ae (Rv (x:=vt) (y:=b) C.o);rw[<-T.o,<-I.o,<-a4.o]at o;rw[<-I.o,<-U.o,<-V.o,<-a4.o]at p;clear T I U V a4;generalize tM m k r b ls[i].1=sb at L o p;generalize decide (r=3\/r=4)=rb at L o p;cases sb with
    |false=>
     cases rb
     have j8:=trivial
     all_goals
      go_upto_region 13 with fail;refine Io f.o C.o false (by rw[o.o];rfl) _ _ _ _ _ _ _ _ _ _ _ _ _ _ _ _ _ _ _ _ _ _ _ _ _ _ _ _ _ _ _ _ _ _ _ _ _ _ _ _ _ _ _ _ _ _ _ _ _ _ _ _ _ _ _ _ _ _ _ _ _ _ _ _ _ _ _ _ _ _ _ _ _ _ _ _ _ _ _ _ _ _ _ _ _ _ _ _ _ _ _ _ _ _ _ _ _ _ _ _ _ _ _ _ _ _ _ _ _ _ _ _ _ _ _ _ _ _ _ _ _ _ _ _ _ _ _ _ _ _ _ _ _ _ _ _ _ _ _ _ _ _ _ _ _ _ _ _ _ _ _ _ _ _ ?_;intro d5 d6 d7 d8 d9 e3 e4 e5 e6 e7 e8 e9 f0 f1 f2 f3;go_upto_region 14 with fail;refine Ip f.o C.o false (by rw[p.o];rfl) _ _ _ _ _ _ _ _ _ _ _ _ _ _ _ _ _ _ _ _ _ _ _ _ _ _ _ _ _ _ _ _ _ _ _ _ _ _ _ _ _ _ _ _ _ _ _ _ _ _ _ _ _ _ _ _ _ _ _ _ _ _ _ _ _ _ _ _ _ _ _ _ _ _ _ _ _ _ _ _ _ _ _ _ _ _ _ _ _ _ _ _ _ _ _ _ _ _ _ _ _ _ _ _ _ _ _ _ _ _ _ _ _ _ _ _ _ _ _ _ _ _ _ _ _ _ _ _ _ _ _ _ _ _ _ _ _ _ _ _ _ _ _ _ _ _ _ _ _ _ _ _ _ _ ?_;intro f4 f5 f6 f7 f8 f9 g0 g1 g2 g3 g4 c1 c2 c3 c4 c5 c6 c7 c8 c9 d0 d1 d2 d3 d4;clear f o p;go_wp2;go_roundw
      case rel=>exact⟨i+1,n.o,by first|exact gB i F.o|rfl,z,rfl,L,ae (a.o.trans (a3.o.mono a.o.size))⟩
      case measure=>first|exact fy n.o F.o|exact eH n.o
    |true=>
     cases rb with
      |true=>
       go_upto_region 13 with fail;refine Io f.o C.o true (by rw[o.o];rfl) _ _ _ _ _ _ _ _ _ _ _ _ _ _ _ _ _ _ _ _ _ _ _ _ _ _ _ _ _ _ _ _ _ _ _ _ _ _ _ _ _ _ _ _ _ _ _ _ _ _ _ _ _ _ _ _ _ _ _ _ _ _ _ _ _ _ _ _ _ _ _ _ _ _ _ _ _ _ _ _ _ _ _ _ _ _ _ _ _ _ _ _ _ _ _ _ _ _ _ _ _ _ _ _ _ _ _ _ _ _ _ _ _ _ _ _ _ _ _ _ _ _ _ _ _ _ _ _ _ _ _ _ _ _ _ _ _ _ _ _ _ _ _ _ _ _ _ _ _ _ _ _ _ _ ?_;intro d5 d6 d7 d8 d9 e3 e4 e5 e6 e7 e8 e9 f0 f1 f2 f3;go_upto_region 14 with fail;refine Ip f.o C.o false (by rw[p.o];rfl) _ _ _ _ _ _ _ _ _ _ _ _ _ _ _ _ _ _ _ _ _ _ _ _ _ _ _ _ _ _ _ _ _ _ _ _ _ _ _ _ _ _ _ _ _ _ _ _ _ _ _ _ _ _ _ _ _ _ _ _ _ _ _ _ _ _ _ _ _ _ _ _ _ _ _ _ _ _ _ _ _ _ _ _ _ _ _ _ _ _ _ _ _ _ _ _ _ _ _ _ _ _ _ _ _ _ _ _ _ _ _ _ _ _ _ _ _ _ _ _ _ _ _ _ _ _ _ _ _ _ _ _ _ _ _ _ _ _ _ _ _ _ _ _ _ _ _ _ _ _ _ _ _ _ ?_;intro f4 f5 f6 f7 f8 f9 g0 g1 g2 g3 g4 c1 c2 c3 c4 c5 c6 c7 c8 c9 d0 d1 d2 d3 d4;clear f o p;go_wp2;go_roundw
       case rel=>exact⟨i+1,n.o,by first|exact gB i F.o|rfl,(i:Int),rfl,L,ae (a.o.trans (a3.o.mono a.o.size))⟩
       case measure=>first|exact fy n.o F.o|exact eH n.o
      |false=>
       by_cases hz:z<0
       have a5:=trivial
       all_goals
        first
         |have a5:=a5
          have b0:aa (StF m k r b ls (i+1) (i:Int)):=ae (by
           have:=L.o;rw[if_pos (by simp[hz])]at this;exact this)
          skip
         |skip
          have b0:aa (StF m k r b ls (i+1) z):=ae (by
           have:=L.o;rw[if_neg (by simp[hz])]at this;exact this)
        go_upto_region 13 with fail;refine Io f.o C.o false (by rw[o.o];rfl) _ _ _ _ _ _ _ _ _ _ _ _ _ _ _ _ _ _ _ _ _ _ _ _ _ _ _ _ _ _ _ _ _ _ _ _ _ _ _ _ _ _ _ _ _ _ _ _ _ _ _ _ _ _ _ _ _ _ _ _ _ _ _ _ _ _ _ _ _ _ _ _ _ _ _ _ _ _ _ _ _ _ _ _ _ _ _ _ _ _ _ _ _ _ _ _ _ _ _ _ _ _ _ _ _ _ _ _ _ _ _ _ _ _ _ _ _ _ _ _ _ _ _ _ _ _ _ _ _ _ _ _ _ _ _ _ _ _ _ _ _ _ _ _ _ _ _ _ _ _ _ _ _ _ ?_;intro d5 d6 d7 d8 d9 e3 e4 e5 e6 e7 e8 e9 f0 f1 f2 f3;go_upto_region 14 with fail;refine Ip f.o C.o true (by rw[p.o];rfl) _ _ _ _ _ _ _ _ _ _ _ _ _ _ _ _ _ _ _ _ _ _ _ _ _ _ _ _ _ _ _ _ _ _ _ _ _ _ _ _ _ _ _ _ _ _ _ _ _ _ _ _ _ _ _ _ _ _ _ _ _ _ _ _ _ _ _ _ _ _ _ _ _ _ _ _ _ _ _ _ _ _ _ _ _ _ _ _ _ _ _ _ _ _ _ _ _ _ _ _ _ _ _ _ _ _ _ _ _ _ _ _ _ _ _ _ _ _ _ _ _ _ _ _ _ _ _ _ _ _ _ _ _ _ _ _ _ _ _ _ _ _ _ _ _ _ _ _ _ _ _ _ _ _ ?_;intro f4 f5 f6 f7 f8 f9 g0 g1 g2 g3 g4 c1 c2 c3 c4 c5 c6 c7 c8 c9 d0 d1 d2 d3 d4;clear f o p;go_wp2;go_roundw;first
         |have a5:=a5
          case rel=>exact⟨i+1,n.o,by first|exact gB i F.o|rfl,(i:Int),rfl,b0,ae (a.o.trans (a3.o.mono a.o.size))⟩
         |skip
          case rel=>exact⟨i+1,n.o,by first|exact gB i F.o|rfl,z,rfl,b0,ae (a.o.trans (a3.o.mono a.o.size))⟩
        case measure=>first|exact fy n.o F.o|exact eH n.o
  ·obtain rfl:i=ls.length:=(by omega);have j2:=b7.o z a9.o;have a2:=a;clear hi a9;rcases j2 with⟨rfl,l0⟩|⟨j,B,rfl,b2⟩
   ·have i1:=ae l0;clear l0;go_wp2;go_ret;unfold StQ;rw[i2.o i1.o];exact⟨rfl,H4.o.below a2.o⟩
   ·have b8:=ae b2;obtain⟨s,c0,e0,b3,b4⟩:=D.o.cells B;clear b3 b4;injection e0 with e0 e1 e2;subst e0 e2;have l3:(j:Int)<(ls.length:Nat):=(by omega);have k4:¬(j:Int)<0:=(by omega);have a0:=ae (⟨World.grownBy.refl wr (some q),(H4.o.below a2.o).2,D.o.below a2.o⟩:jH wr q g c M (lz m) v l (.slice (some ⟨s,0,none⟩) ls.length cs) ls wr);have a1:=K.o.ts _ (List.getElem_mem B);obtain⟨gt,i5,a7,j5⟩:=(D.o.tm _ (List.getElem_mem B)).cell (i:=k) (by rw[a1];exact G.o);have j0:(k:Int)<(ls[j].1.ts.length:Nat):=(by rw[a1];exact h3);have a8:=ae (λ(mm:X.M) (W:World) (E:jH wr q g c M mm v l (.slice (some ⟨s,0,none⟩) ls.length cs) ls W)=>(⟨(E.cells B).1,by rw[(E.cells B).2,a7],E.tm (List.getElem_mem B) a7 (i:=k) (by rw[a1];exact G.o)⟩:W.cell? ⟨s,j*2,none⟩=some (.string ⟨ls[j].1.b.toArray⟩)/\W.cell? ⟨s,j*2+1,none⟩=some (.slice (some ⟨gt,0,none⟩) ls[j].1.ts.length i5)/\W.cell? ⟨gt,k,none⟩=some (xM (ls[j].1.t k))));have H:=ae (λ(mm:X.M) (W:World) (em:mm.ks=m.ks) (E:jH wr q g c M mm v l (.slice (some ⟨s,0,none⟩) ls.length cs) ls W)=>jH.part (m:=m) E em K.o G.o (List.getElem_mem B));have j6:=aD a0.o.md.row;have i7:=aj wr q a0.o.md.row;have b1:=ae (a0.o.set (m':={lz m with lost:=false}) 9 (.bool false) (aB a0.o.md.row 9 _) rfl rfl);have k8:=ae (b1.o.set (m':={lz m with lost:=false,key:=k}) 8 (.int .i64 (k:Nat)) (aB b1.o.md.row 8 _) rfl rfl);generalize k6:ls[j]=x at a8 H b8 a1 j0 a7 b2;clear j5;clear a1 a7 b2;go_upto_region 21 with fail;refine aL (λY=>jH wr q g c M {lz m with lost:=false,key:=k} v l (.slice (some ⟨s,0,none⟩) ls.length cs) ls Y) k8.o ?_;rintro W5 g5;have H5:=ae g5;clear g5 a0 b1 k8 j6 i7;obtain⟨k0,k1,k3⟩:=a8.o _ _ H5.o;go_wp2_with fail;refine(H.o {lz m with lost:=false,key:=k} _ rfl H5.o).mono ?_;rintro e w6 ⟨rfl,d⟩;have P:=ae (H5.o.below d);clear d H5 k0 k1 k3;have j7:=aD P.o.md.row;have i8:=aj w6 q P.o.md.row;have H7:=ae (P.o.set (m':={lz m with lost:=false,key:=k,value:=X.val m.ks k x.1.b}) 10 (.string ⟨(X.val m.ks k x.1.b).toArray⟩) (aB P.o.md.row 10 _) rfl rfl);go_upto_region 22 with fail;refine aL (λY=>jH wr q g c M {lz m with lost:=false,key:=k,value:=X.val m.ks k x.1.b} v l (.slice (some ⟨s,0,none⟩) ls.length cs) ls Y) H7.o ?_;rintro W7 g6;have Q:=ae g6;clear g6 P H7 j7 i8;obtain⟨k0,k1,k3⟩:=a8.o _ _ Q.o;have k7:=aD Q.o.md.row;have l2:=aj W7 q Q.o.md.row;have H9:=ae (Q.o.set (m':={lz m with lost:=false,key:=k,value:=X.val m.ks k x.1.b,at_:=x.1.t k}) 11 (.int .i64 (x.1.t k:Nat)) (aB Q.o.md.row 11 _) rfl rfl);have b5:=ae (H9.o.set (m':={lz m with lost:=false,key:=k,value:=X.val m.ks k x.1.b,at_:=x.1.t k,same:=true}) 12 (.bool true) (aB H9.o.md.row 12 _) rfl rfl);go_wp2;go_ret;unfold StQ;rw[i4.o _ b8.o];exact⟨rfl,(H4.o.below a2.o).trans ⟨b5.o.gr,b5.o.md⟩⟩
theorem Ix (h:fH w q g c M m v l) (f:∀k,M k->k<w.heap.size) (i:bY m l) (k:Int) (r:Nat) (j:r<=5) (b:J.B):
  Calls Tryz.prog 71 #[.pointer (some ⟨q,0,none⟩), .int .i64 k, .int .u8 (r:Nat), .string ⟨b.toArray⟩] w λe w'=>e= .returned (.string ⟨(m.start k r b).2.toArray⟩)/\HR w q g c M (m.start k r b).1 v l w':=by
 by_cases d:X.bP [52,55] [1,3] m.mode=X.good
 ·by_cases a:k<0\/m.ks.length<=k\/b.length=0\/(X.aH m.ks k.toNat).len<b.length
  ·exact Iw h k r b d a
  ·obtain⟨n,rfl⟩:∃n:Nat,k=n:=⟨k.toNat,by omega⟩;rw[Int.toNat_natCast]at a;exact MK h f i n r j b d (by omega) (λe=>by rw[e]at a;simp at a) (by omega)
 ·exact Iu h k r b d
end
end Go.Proofs.YtipljcmmokaokaaGreat
