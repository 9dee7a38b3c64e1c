import Derived.Test.YtipljcmmokaokaaGreatQ19
set_option linter.unusedVariables false
set_option linter.unusedSimpArgs false
set_option maxHeartbeats 8000000
namespace Go.Proofs.YtipljcmmokaokaaGreat
open Go.RowKit Go.Lib Go.Maps Go.WideMaps Go.Sort
set_option maxRecDepth 100000
theorem Tryz.RF:(Tryz.prog.info? 66).map (λi=>(i.zero,i.size,i.bytes))=some (some (.agg #[.int .i64 0, .int .i64 0, .bool false]),3,24):=by kernel_rfl
def Kl (n:Nat) (a l:Nat->Int) (d:Nat->Bool):List X.Ky:=(List.range n).map λi=>⟨(a i).toNat,(l i).toNat,d i⟩
theorem ml (n:Nat) (a l:Nat->Int) (d:Nat->Bool):(Kl n a l d).length=n:=by simp[Kl]
theorem Cb {n:Nat} {a l:Nat->Int} {d:Nat->Bool} {i:Nat} (b:i<n):X.aH (Kl n a l d) i=⟨(a i).toNat,(l i).toNat,d i⟩:=by
 unfold X.aH Kl;rw[List.getD_eq_getElem?_getD,List.getElem?_map,List.getElem?_range b];rfl
theorem RG {w:World} {g o n:Nat} {a l:Nat->Int} {d:Nat->Bool} (f:uM w g o n a l d) (h0:∀i,i<n->0<=a i/\0<=l i):∀j u,(cQ (Kl n a l d))[j]? =some u->w.cell? ⟨g,o+j,none⟩=some u:=by
 intro j u b;have q:j<n*3:=by
  have:=(List.getElem?_eq_some_iff.1 b).1
  rwa [ny,ml]at this
 obtain⟨i,c,e⟩:∃i,i<n/\(j=i*3\/j=i*3+1\/j=i*3+2):=⟨j/3,by omega,by omega⟩;obtain⟨g1,h,k⟩:=gQ (Kl n a l d) i (by rw[ml];exact c);obtain⟨m,p⟩:=h0 i c;rw[Cb c]at g1 h k;rcases e with rfl|rfl|rfl
 ·rw[g1]at b;rw[<-b,f.a i c];simp only[Int.toNat_of_nonneg m]
 ·rw[h]at b;rw[<-b,<-Nat.add_assoc,f.l i c];simp only[Int.toNat_of_nonneg p]
 ·rw[k]at b;rw[<-b,<-Nat.add_assoc,f.d i c]
theorem EJ {nm:J.B} {z:Int} {n:Nat} {a l:Nat->Int} {d:Nat->Bool} (h:nz nm z n a l d=true):X.eC (Kl n a l d) z.toNat/\nm≠[]/\nm.length<=100/\(1<=z/\z<=4096)/\(1<=n/\n<=8)/\∀i,i<n->0<=a i/\0<=l i:=by
 unfold nz at h;simp only[Bool.and_eq_true,Bool.not_eq_true',Bool.or_eq_false_iff,decide_eq_false_iff_not,List.any_eq_false,List.mem_range]at h;obtain⟨⟨⟨⟨⟨⟨⟨⟨h1,j⟩,m⟩,o⟩,p⟩,q⟩,r⟩,f⟩,g⟩:=h;have c:∀i,i<n->0<=a i/\1<=l i/\l i<=160/\a i<=z - l i:=λi b=>by
  have:=g i b;unfold sY at this;simp only[Bool.or_eq_true,decide_eq_true_eq]at this;omega
 refine⟨⟨by rw[ml];omega,λk e=> ?_,by omega, ?_⟩,h1,by omega,by omega,by omega,λi b=>by have:=c i b;omega⟩
 ·unfold Kl at e;obtain⟨i,b,rfl⟩:=List.mem_map.1 e;have:=c i (List.mem_range.1 b);dsimp only;omega
 ·rw[Cb (by omega)];exact f
section
variable {w0 : World} {p : Nat} {w : World} {s : J.St} {fs : List (Nat × Obj)}
theorem RH (b o n c:Nat) (ks:List X.Ky) (L:ks.length=n) (h1:1<=n/\n<=8) (H:b<w.heap.size) (t:∀j u,(cQ ks)[j]? =some u->w.cell? ⟨b,o+j,none⟩=some u):
  Calls Tryz.prog 38 #[.slice (some ⟨b,o,none⟩) n c] w λe w'=>∃g c',e= .returned (.slice (some ⟨g,0,none⟩) n c')/\Below w.heap.size w w'/\w.heap.size<=g/\n<=c'/\∃ok,w'.heap[g]? =some ok/\bR ok ks:=by
 have d:=Tryz.RF;obtain⟨i0,d,B⟩:∃i0,Tryz.prog.info? 66=some i0/\(i0.zero,i0.size,i0.bytes)=(some (.agg #[.int .i64 0, .int .i64 0, .bool false]),3,24):=by
  cases h:Tryz.prog.info? 66 with
  |none=>rw[h]at d;cases d
  |some i=>rw[h]at d;exact⟨i,rfl,by simpa using d⟩
 obtain⟨N,O,Q⟩:i0.zero=some (.agg #[.int .i64 0, .int .i64 0, .bool false])/\i0.size=3/\i0.bytes=24:=by simpa using B
 have m:=ae (World.ownsRow_lit (base:=w.heap.size) (e:=66) (size:=3) w #[] 0 (aq _) (by unfold maxLen;omega) rfl);have q:Below w.heap.size w (w.alloc (.cells #[] 66)):=(ak _ w).alloc (aq _) _;have r:=ae (λj u (a:(cQ ks)[j]? =some u)=>(q.cell (p:=⟨b,o+j,none⟩) H).trans (t j u a));have f:=ae q;have l:=ae (show(cQ ks).length=n*3 by rw[ny,L]);have T:=λw=>run_eql_slice_nil (P:=Tryz.prog) w 27 66 (some ⟨b,o,none⟩) n c Tryz.underlying27;clear t q B;go_enter Tryz.func38,Tryz.ntmps38;go_wp2_with (at_builtin;refine wpList_append_own_at _ rfl _ _ 27 rfl w.heap.size 66 i0 _ 3 24 Tryz.underlying27 d N O Q rfl (by decide) _ 0 [] rfl m.o ⟨b,o,none⟩ n c (cQ ks) rfl l.o (λj u a=>by rw[fB];exact r.o j u a) (DR _) (by unfold maxLen;omega) (by omega) (by simp) ?_);intro v' w1 y v M K;have s:=f.o.grown v f.o.size (λk e=>(m.o.lt k e).1);rcases y.2 with⟨_,h0⟩|⟨g,cap,cur,rfl,F,x,S,_,G,A⟩
 ·omega
 ·have C:=ae s;have E:aa (bR (.cells cur 66 (0,0)) ks):=ae ⟨⟨cur,(0,0),rfl⟩,λW g' z=>⟨(ai z).1,λj u a=>by
   have I:j<n*3:=(by rw[<-l.o];exact(List.getElem?_eq_some_iff.1 a).1);rw[cell_of_row W g' j _ _ _ z,<-Array.getElem?_toList];rw[<-A,List.getElem?_take]at a;simp only[Nat.zero_add,I,if_true]at a;exact a⟩⟩
  have D:=ae x;clear y v M K s x G A m r f l;go_wp2;go_ret;exact⟨g,cap,by simp,C.o,F,by omega,_,D.o,E.o⟩
abbrev f0:Fv:=⟨0,false,0,[],false,false,[],false,[]⟩
theorem VU (h:At w0 p fs s w) (nm:J.B) (z:Int) (g o n c:Nat) (a l:Nat->Int) (d:Nat->Bool) (b:uM w g o n a l d) (K:nz nm z n a l d=true):
  Calls Tryz.prog 11 #[.pointer (some ⟨p,0,none⟩), .agg #[.string ⟨nm.toArray⟩, .int .i64 z, .slice (some ⟨g,o,none⟩) n c]] w λe w'=>∃pf g' c' ok,e= .returned (.tuple #[.pointer (some ⟨pf,0,none⟩), .int .i64 0])/\At w0 p ((pf,ax p nm z.toNat g' n c' f0)::(g',ok)::fs) s w'/\bR ok (Kl n a l d)/\n<=c'/\g'≠pf/\w.heap.size<=pf/\w.heap.size<=g':=by
 obtain⟨a6,b2,b3,b4,a8,V⟩:=EJ K;obtain⟨q,rfl⟩:∃k:Nat,z=k:=⟨z.toNat,by omega⟩;rw[Int.toNat_natCast];have t:Below w.heap.size w (w.alloc (.cells #[.string ⟨nm.toArray⟩, .int .i64 (q:Nat), .slice (some ⟨g,o,none⟩) n c] 29 (0,0))):=(ak _ w).alloc (aq _) _;have a1:uM (w.alloc (.cells #[.string ⟨nm.toArray⟩, .int .i64 (q:Nat), .slice (some ⟨g,o,none⟩) n c] 29 (0,0))) g o n a l d:=
  ⟨by have:=b.lt;simp;omega,λi y=>(t.cell (p:=⟨g,_,none⟩) b.lt).trans (b.a i y),λi y=>(t.cell (p:=⟨g,_,none⟩) b.lt).trans (b.l i y),λi y=>(t.cell (p:=⟨g,_,none⟩) b.lt).trans (b.d i y)⟩
 have F:=ae (wS nm (q:Nat) (some ⟨g,o,none⟩) g o n c a l d _ (λ_=>⟨rfl,a1⟩) (by omega) (by omega));rw[K]at F;have N:=ae (λW (f:Below w.heap.size w W)=>RH (w:=W) g o n c (Kl n a l d) (ml n a l d) a8 (av b.lt f.size) (λj u hu=>(f.cell (p:=⟨g,o+j,none⟩) b.lt).trans (RG b V j u hu)));have L:=ae h;have D:=ae t;have E:=ae (heap_alloc_new w (.cells #[.string ⟨nm.toArray⟩, .int .i64 (q:Nat), .slice (some ⟨g,o,none⟩) n c] 29 (0,0)));clear h b K a6 V t a1;go_enter Tryz.func11,Tryz.ntmps11;go_wp2_with fail;refine F.o.mono ?_;rintro e w1 ⟨rfl,f⟩;have r:=ae (D.o.trans (f.mono D.o.size));have I:=(f.block _ (ai E.o).1).trans E.o;have a3:=aj w1 w.heap.size I;have B:=ae I;clear f F D E I;go_wp2_with fail;refine(N.o _ r.o).mono ?_;rintro e w2 ⟨g',c',rfl,f,a5,b1,ok,Z,U⟩;have M:=ae f;have C:=(f.block _ (ai B.o).1).trans B.o;have a4:=aj w2 w.heap.size C;have a9:=aD C;have P:=ae C;have O:=ae Z;have a2:=ae U;have A:=ae a5;clear f a3 C Z U N;go_upto_region 6 with fail;have a7:w.heap.size<w1.heap.size:=(ai B.o).1;have T:w.heap.size≠g':=by have:=A.o;omega
 refine aL (λY=>Below w.heap.size w Y/\Y.heap[w.heap.size]? =some (.cells #[.string ⟨nm.toArray⟩, .int .i64 (q:Nat), .slice (some ⟨g',0,none⟩) n c'] 29 (0,0))/\Y.heap[g']? =some ok) ⟨(r.o.trans (M.o.mono r.o.size)).setCell (aq _) _,aB P.o 2 (.slice (some ⟨g',0,none⟩) n c'),(Below.heap_setCell w2 _ _ g' (λe=>T e.symm)).trans O.o⟩ ?_;rintro m ⟨v,a0,H⟩;have b0:=aj m w.heap.size a0;have S:g'<m.heap.size:=(ai H).1;have Q:=v.alloc v.size (ax p nm q g' n c' f0);have HF:=ae (L.o.add Q (gs:=[(m.heap.size,ax p nm q g' n c' f0),(g',ok)]) (λx hx=>by
  simp only[List.mem_cons,List.not_mem_nil,or_false]at hx;rcases hx with rfl|rfl
  ·exact⟨v.size,heap_alloc_new m _⟩
  ·exact⟨by have:=A.o;have:=r.o.size;omega,(((ak _ m).alloc (aq _) _).block _ S).trans H⟩))
 have G:aa (g'≠m.heap.size/\w.heap.size<=m.heap.size/\w.heap.size<=g'):=ae ⟨by omega,v.size,by have:=A.o;have:=r.o.size;omega⟩;clear v a0 H S Q a4 a9 L r M B P O A a7 T;go_wp2;go_ret2;exact⟨_,g',c',ok,rfl,HF.o,a2.o,by omega,G.o.1,G.o.2.1,G.o.2.2⟩
end
theorem RI {w0 w:World} {p:Nat} {fs:List (Nat×Obj)} (h:At w0 p fs J.new w) (nm:J.B) (z:Int) (g o n c:Nat) (a l:Nat->Int) (d:Nat->Bool) (t:uM w g o n a l d) (i:nz nm z n a l d=true):
  Calls Tryz.prog 11 #[.pointer (some ⟨p,0,none⟩), .agg #[.string ⟨nm.toArray⟩, .int .i64 z, .slice (some ⟨g,o,none⟩) n c]] w λe w'=>∃pf,e= .returned (.tuple #[.pointer (some ⟨pf,0,none⟩), .int .i64 0])/\IK w0 p pf nm 0 fs (X.M.new (Kl n a l d) z.toNat) [[]] w'/\w.heap.size<=pf:=by
 obtain⟨m,q,r,_⟩:=EJ i;have f:∀x∈fs,x.1<w.heap.size:=λx b=>(ai (h.get b)).1;refine(VU h nm z g o n c a l d t i).mono ?_;rintro e w' ⟨pf,g',c',ok,rfl,ha,k,j,s,h1,u⟩;refine⟨pf,rfl,⟨J.new,f0,g',c',ok, ?_,X.aa4 nm m,⟨rfl,rfl,rfl,rfl,rfl,rfl,rfl,(λe=>absurd rfl e),λe=>by cases e⟩,k, ?_,λx b=> ?_,λx b=> ?_,⟨r,List.length_pos_iff.2 q⟩⟩,h1⟩
 ·show At w0 p ((pf,ax p nm z.toNat g' (Kl n a l d).length c' f0)::(g',ok)::fs) J.new w';rw[ml];exact ha
 ·show(Kl n a l d).length<=c';rw[ml];exact j
 ·rcases au b with rfl|b
  ·exact s
  ·have:=f x b;omega
 ·have:=f x b;omega
section
variable {P : Program} {w : World}
theorem wp_store_row {o:Oper} {a:Act} {K:Act->World->Prop} {Q:Exit->Act->World->Prop}
  (x y:Operand) (c:TypeId) (r:o.op=Op.store c x y) (g:Nat) (A:a.eval x= .pointer (some ⟨g,0,none⟩)) (vs:List Value) (B:a.eval y= .agg vs.toArray)
  (t:TypeId) (C:Array Value) (d:w.heap[g]? =some (.cells C t (0,0))) (h:C.size=vs.length) (n:(P.info? c).map (·.size)=some vs.length) (h1:(vs.all λv=>v.oneCell')=true)
  (q:∀w',w'.heap[g]? =some (.cells vs.toArray t (0,0))->w.grownBy w' (some g)->w'.heap.size=w.heap.size->K (a.put o.dst undef) w'):o.wp P a w K Q:=by
 have m:∀j,w.cell? ⟨g,j,none⟩=C[j]? :=λj=>ah w g j C t (0,0) d;have hst:=run_storeCells_cells (P:=P) g 0 vs 0 w (λj b=>by rw[m];simp[h];omega) (λj _=>by simp[World.frozen?,d]) (λv z=>List.all_eq_true.1 h1 v z);have s:(Instr.storeAt c (.pointer (some ⟨g,0,none⟩)) (.agg vs.toArray)).run P w= .ok () (w.setCells g 0 vs):=by
  cases hq:P.info? c with
  |none=>simp[hq]at n
  |some i=>
   have u:i.size=vs.length:=(by simpa [hq] using n);simp[Instr.storeAt,Instr.sureAddr,storeVar,Sem.run_bind,sizeOf,typeInfo,hq,u,Value.cells]
   simpa using hst
 obtain⟨f,k,D⟩:=jS g t (0,0) vs 0 w C d;have p:f=vs.toArray:=by
  apply Array.ext_getElem?;intro j;have e:=ah (w.setCells g 0 vs) g j f t (0,0) k;rw[<-e];by_cases b:j<vs.length
  ·have:=World.cell?_setCells_in g vs 0 w (λj b=>by rw[Nat.zero_add,m];simp[h];omega) j b;rw[Nat.zero_add]at this;rw[this];simp[b]
  ·rw[e,Array.getElem?_eq_none (by omega)];simp;omega
 subst p;have l:=gp g vs 0 w;unfold Oper.wp;simp only[execOp,r,A,B];have:=q _ k l.1 l.2;simp only[Sem.run_bind,s,Result.andThen];exact this
end
theorem Cc {n:Nat} (h:n<4294967296) (t:J.B) (w:World):
  Calls Tryz.prog 114 #[.string ⟨(R.cp n++t).toArray⟩] w λe w'=>e= .returned (.int .i64 (n:Nat))/\Below w.heap.size w w':=by
 have a:R.zT (R.cp n)=n:=R.qJ h;have:=PO (UInt8.ofNat (n/16777216)) (UInt8.ofNat (n/65536)) (UInt8.ofNat (n/256)) (UInt8.ofNat n) t w;rw[show R.zT [UInt8.ofNat (n/16777216),UInt8.ofNat (n/65536),UInt8.ofNat (n/256),UInt8.ofNat n]=n from a]at this;exact this
def Ce (nm:J.B):Prop:=nm≠[]/\nm.length<=100/\decide (0<=Lib.indexByte nm 0)=false
theorem xu {nm:J.B} {size:Nat} {ks:List X.Ky} (d:Ce nm) (a:X.eC ks size):nz nm (size:Nat) ks.length (λi=>((X.aH ks i).at_:Nat)) (λi=>((X.aH ks i).len:Nat)) (λi=>(X.aH ks i).dup)=true:=by
 obtain⟨h1,e,b⟩:=d;have f:=a.size;have g:=a.one;unfold nz;rw[decide_eq_false h1,decide_eq_false (show¬100<nm.length by omega),b,decide_eq_false (show¬(size:Int)<1 by omega),decide_eq_false (show¬(4096:Int)<size by omega),decide_eq_false (show¬ks.length<1 by omega),decide_eq_false (show¬8<ks.length by omega)];dsimp only;rw[a.first];simp only[Bool.or_false,Bool.not_false,Bool.true_and,Bool.not_eq_true',List.any_eq_false,List.mem_range];intro i c;have h:=a.key _ (X.aY c);unfold sY;simp only[Bool.or_eq_true,decide_eq_true_eq];omega
def fp (ks:List X.Ky) (k:Nat):J.B:=(ks.drop k).flatMap X.Xp
theorem kT {ks:List X.Ky} {k:Nat} (h:k<ks.length):fp ks k=R.cp (X.aH ks k).at_++(R.cp (X.aH ks k).len++(xi (X.aH ks k).dup::fp ks (k+1))):=by
 unfold fp;have e:ks[k]=X.aH ks k:=by unfold X.aH;simp[h]
 rw[List.drop_eq_getElem_cons h,List.flatMap_cons,e];simp[X.Xp,xi]
theorem RJ (ks:List X.Ky):fp ks ks.length=[]:=by unfold fp;rw[List.drop_length];rfl
theorem aa5 {ks:List X.Ky} {k:Nat} (h:k<ks.length):fp ks k≠[]:=by
 rw[kT h];intro e;have:=congrArg List.length e;simp[R.dr]at this
structure RdK (S S4 S9:ByteArray) (a l:Nat) (d:Bool):Prop where
 ne:(S.toList==[])=false
 o1:∀w,Calls Tryz.prog 114 #[.string S] w λe w'=>e= .returned (.int .i64 (a:Nat))/\Below w.heap.size w w'
 s4:∀w,(Instr.slice 9 (.string S) (some (.int .i64 4)) none none).run Tryz.prog w= .ok (.string S4) w
 o2:∀w,Calls Tryz.prog 114 #[.string S4] w λe w'=>e= .returned (.int .i64 (l:Nat))/\Below w.heap.size w w'
 ix:∃z:Int,(∀w,(Instr.index 9 (.string S) (.int .i64 8)).run Tryz.prog w= .ok (.int .u8 z) w)/\(z==1)=d
 s9:∀w,(Instr.slice 9 (.string S) (some (.int .i64 9)) none none).run Tryz.prog w= .ok (.string S9) w
theorem rdK {ks:List X.Ky} {size k:Nat} (c:X.eC ks size) (h:k<ks.length):∃e,RdK ⟨(fp ks k).toArray⟩ e ⟨(fp ks (k+1)).toArray⟩ (X.aH ks k).at_ (X.aH ks k).len (X.aH ks k).dup:=by
 have j:=c.key _ (X.aY h);have l:=c.size;have d:=R.dr (X.aH ks k).at_;have b:=R.dr (X.aH ks k).len;have a:(fp ks k).drop 4=R.cp (X.aH ks k).len++(xi (X.aH ks k).dup::fp ks (k+1)):=by
  rw[kT h,show 4=(R.cp (X.aH ks k).at_).length from d.symm,List.drop_left]
 have f:(fp ks k).drop 9=fp ks (k+1):=by
  rw[show 9=4+5 from rfl,<-List.drop_drop,a,show 5=(R.cp (X.aH ks k).len).length+1 by rw[b],List.drop_append];simp
 have i:9<=(fp ks k).length:=by rw[kT h];simp[d,b];omega
 have g:(fp ks k)[8]'(by omega)=xi (X.aH ks k).dup:=by
  have:(fp ks k)[8]? =some (xi (X.aH ks k).dup):=by
   rw[show 8=4+4 from rfl,<-List.getElem?_drop,a,show 4=(R.cp (X.aH ks k).len).length from b.symm,List.getElem?_append_right (Nat.le_refl _)];simp
  rw[List.getElem?_eq_getElem (by omega)]at this;injection this
 refine⟨⟨((fp ks k).drop 4).toArray⟩,⟨PQ (aa5 h),λw=> ?_,λw=>gI _ 4 (by omega) w,λw=> ?_,⟨(xi (X.aH ks k).dup).toNat,λw=> ?_, ?_⟩,λw=> ?_⟩⟩
 ·rw[kT h];exact Cc (by omega) _ w
 ·rw[a];exact Cc (by omega) _ w
 ·have:=ft (fp ks k) 8 (by omega) w;rw[g]at this;exact this
 ·cases(X.aH ks k).dup<;>rfl
 ·have:=gI (fp ks k) 9 i w;rw[f]at this;exact this
abbrev ID (nm:J.B) (size:Nat) (v:Value):Obj:= .cells #[.string ⟨nm.toArray⟩, .int .i64 (size:Nat),v] 29 (0,0)
abbrev ik:Obj:= .cells #[.string ⟨#[]⟩, .int .i64 0, .slice none 0 0] 29 (0,0)
structure AtI (w:World) (nm:J.B) (size:Nat) (ks:List X.Ky) (B k:Nat) (W:World) (v:Value):Prop where
 bel:Below w.heap.size w W
 row0:W.heap[w.heap.size]? =some ik
 row:W.heap[B]? =some (ID nm size v)
 own:W.ownsRow w.heap.size 66 3 v k (cQ (ks.take k))
 ne:B≠w.heap.size/\w.heap.size<=B
theorem RL {w W W1 W2:World} {nm:J.B} {size:Nat} {ks:List X.Ky} {B k:Nat} {v v':Value} (h:AtI w nm size ks B k W v) (m:k<ks.length) (a:Below W.heap.size W W1) (u:∃A n c,v'= .slice A n c)
  (g:W2.ownsRow w.heap.size 66 3 v' (k+1) (cQ (ks.take k)++[.int .i64 ((X.aH ks k).at_:Nat), .int .i64 ((X.aH ks k).len:Nat), .bool (X.aH ks k).dup])) (f:W1.grownBy W2 v.ownBlock):
  W2.heap[B]? =some (ID nm size v)/\AtI w nm size ks B (k+1) (W2.setCell ⟨B,2,none⟩ v') v':=by
 have o:=cN h.own a;have r:=(a.block B (ai h.row).1).trans h.row;have s:=(a.block _ (ai h.row0).1).trans h.row0;have d:=xb o r (by decide) f;have p:=xb o s (by decide) f;have i:=h.bel.trans (a.mono h.bel.size);have q:=i.grown f i.size (λj b=>(h.own.lt j b).1);have t:B<W2.heap.size:=(ai d).1;have l:=ay (World.grownBy.refl W2 (some B)) 2 v';have e:ks[k]=X.aH ks k:=by unfold X.aH;simp[m]
 refine⟨d,⟨q.setCell h.ne.2 _, ?_,aB d 2 v', ?_,h.ne⟩⟩
 ·exact(l.block _ (ai p).1 (λe=>h.ne.1 (by injection e with e;exact e.symm))).trans p
 ·rw[List.take_succ_eq_append_getElem m,DT,e];refine kO g (λj b=>l.block j (g.lt j b).2 (λe=> ?_));injection e with e;subst e;exact JM g d (by decide) b
section
variable {w : World} {nm : J.B} {size : Nat} {ks : List X.Ky}
theorem RM (hn:Ce nm) (x:X.eC ks size) (A:Option Addr) (c:Nat) (M:Nat->Prop) (hy:By w M A (X.attr size ks).length (X.attr size ks)) (g5:(X.attr size ks).length<=c):
  Calls Tryz.prog 113 #[.string ⟨nm.toArray⟩, .slice A (X.attr size ks).length c] w λe w'=>∃g c',e= .returned (.tuple #[kL nm size (.slice (some ⟨g,0,none⟩) ks.length c'), .bool true])/\Below w.heap.size w w'/\ks.length<=c'/\w.heap.size<=g/\dJ w' g ks:=by
 have c9:=X.gN size ks;have h6:=x.size;have b1:=x.one;obtain⟨b0,o0,rfl,a4,_,d2⟩:=hy.2 (by omega);have h9:w.cell? ⟨b0,o0,none⟩=some (.int .u8 2):=by
  have:=d2 0 (by omega);exact this
 have c3:=ae (λk (h:k<ks.length)=>rdK x h);have e0:(⟨(fp ks ks.length).toArray⟩:ByteArray)=⟨#[]⟩:=by rw[RJ]
 have c4:=ae e0;have Z:=ae (Cc (n:=size) (by omega) (fp ks 0));have a9:(⟨(R.cp size++fp ks 0).toArray⟩:ByteArray).extract 4 (4+(fp ks 0).length)=⟨(fp ks 0).toArray⟩:=by
  rw[ByteArray.extract_mk,show 4=(R.cp size).length from(R.dr size).symm,List.drop_left,Nat.add_sub_cancel_left,List.take_length]
 have d3:(X.attr size ks).drop 1=R.cp size++fp ks 0:=rfl;have g2:=ae (xu hn x);have f8:=ae hn.2.1;have f3:=ae x;have HY:=ae hy;clear hn x d2 e0;generalize hN:(X.attr size ks).length=N at*;have n1:¬(N:Int)<5:=by omega
 have w1:wrap64 ((N:Int) - 1)=(N:Int) - 1:=IntWalk.wrap64_in _ (by omega);have w2:wrap64 ((N:Int) - 1 - 4)=(N:Int) - 1 - 4:=IntWalk.wrap64_in _ (by omega);have n2:(((N:Int) - 1 - 4).tmod 9 !=0)=false:=by
  rw[show(N:Int) - 1 - 4=((9*ks.length:Nat):Int) by omega,show((9*ks.length:Nat):Int).tmod 9=((9*ks.length%9:Nat):Int)from rfl];simp
 have n3:((N:Int) - 1 - 4)%9=0:=by rw[show(N:Int) - 1 - 4=9*(ks.length:Int) by omega];omega
 have i1:=ae c9;have f9:=ae (show 1<=N by omega);have i3:1<=ks.length:=b1.1;have b7:=ae b1;clear c9 b1 h6;go_enter Tryz.func113,Tryz.ntmps113;go_upto_region 3 with fail;go_wp2_with (refine dN rfl _ _ rfl (some ⟨b0,o0,none⟩) N c rfl 1 rfl f9.o g5 ?_);intro A1 d8;have e3:By (w.alloc ik) M A1 (N - 1) (R.cp size++fp ks 0):=by
  have:=d8.o (w.alloc ik) M _ (HY.o.alloc ik);rw[List.take_of_length_le (by rw[hN];exact Nat.le_refl _),d3]at this;exact this
 go_wp2_with (refine gD rfl _ rfl A1 (N - 1) (c - 1) rfl (by simpa using e3) ?_);have h3:(⟨(R.cp size++fp ks 0).toArray⟩:ByteArray).size=4+(fp ks 0).length:=by rw[bm];simp[R.dr]
 generalize(⟨(R.cp size++fp ks 0).toArray⟩:ByteArray)=S0 at Z a9 h3|-;have f2:=ae a9;clear a9;have a4:Below w.heap.size w (w.alloc ik):=(ak _ w).alloc (aq _) _;have p:=ae a4;have a0:=ae (heap_alloc_new w ik);clear e3 d8 h9 n1 n2 n3 w1 w2 a4 d3;go_wp2_with fail;refine(Z.o _).mono ?_;rintro e w1 ⟨rfl,a5⟩;have l:=ae (p.o.trans (a5.mono p.o.size));have a1:=ae ((a5.block _ (ai a0.o).1).trans a0.o);clear a5 Z p a0;have HZ:=ae (heap_alloc_new w1 ik);go_wp2_with (refine wpList_store_row rfl _ _ 29 rfl w1.heap.size rfl [.string ⟨nm.toArray⟩, .int .i64 (size:Nat), .slice none 0 0] rfl _ _ HZ.o rfl (by kernel_rfl) rfl ?_);intro W3 e1 r h7;have a8:w.heap.size<w1.heap.size:=(ai a1.o).1;have a6:=((ak w1.heap.size w1).alloc (aq _) ik).grown r (by simp) (λk e=>by injection e with e;omega);have Y:aa (AtI w nm size ks w1.heap.size 0 W3 (.slice none 0 0)):=ae ⟨l.o.trans (a6.mono l.o.size),(a6.block _ a8).trans a1.o,e1,World.ownsRow_nil _ _ _ _,by omega,by omega⟩;generalize w1.heap.size=B at Y HZ a8|-;clear e1 r h7 HZ a1 l a6 a8;go_wp2;obtain⟨i0,hi,e5,e6,e7⟩:=info_parts Tryz.RF;go_loopw [6] (fun t W=>∃k:Nat,k<=ks.length/\t= .string ⟨(fp ks k).toArray⟩/\∃v,aa (AtI w nm size ks B k W v)) (fun t _=>match t with| .string b=>b.size|_=>0)
 case atStart=>exact⟨0,Nat.zero_le _,by rw[f2.o],_,Y⟩
 case round=>
  obtain⟨k,hk,rfl,v,f⟩:=hrel;clear Y;by_cases P:k<ks.length
  ·obtain⟨S4,s⟩:=c3.o k P;obtain⟨z,g7,e9⟩:=s.ix;have h2:=s.ne;have h5:=s.s4;have e2:=s.s9;have C:=ae s.o1;have E:=ae s.o2;have a2:aa ((⟨(fp ks (k+1)).toArray⟩:ByteArray).size<(⟨(fp ks k).toArray⟩:ByteArray).size):=ae (by
    rw[bm,bm,kT P];simp;omega)
   have f5:=ae P;obtain⟨Av,nv,cv,rfl⟩:=dL f.o.own;generalize c8:(⟨(fp ks (k+1)).toArray⟩:ByteArray)=S9 at e2 a2|-;have g1:=ae c8;clear c8;generalize(⟨(fp ks k).toArray⟩:ByteArray)=S at h2 h5 e2 g7 C a2|-;have i2:aa (X.aH ks k=X.aH ks k):=ae rfl;clear s;have o:=ae (λw' (i:Below wr.heap.size wr w')=>(i.block B (ai f.o.row).1).trans f.o.row);have D:=ae (λW1 W2 v' (d:Below wr.heap.size wr W1) h8 ho r=>RL (W1:=W1) (W2:=W2) (v':=v') f.o P d h8 ho r);have c2:=ae (λW1 (d:Below wr.heap.size wr W1)=>cN f.o.own d);have b5:=ae f.o.bel.size;have i5:k<=8:=(by have:=b7.o;omega);generalize X.aH ks k=ky at C E e9 D;obtain⟨Q,U,T⟩:=ky;dsimp only at C E e9 D;go_upto_region 8 with fail;refine aJ 12 (.rd 0 (.rd 1 (.rd 2 (.rd 4 (.rd 5 (.rd 7 (.rd 8 (.rd 9 (.wr 3 (.wr 6 (.rd 10 (.wr 11 .fin)))))))))))) (λw'=>Below wr.heap.size wr w') ((ak _ wr).drew) ?_;repeat
    refine aA (v:= ?_) (λw' i=> ?_) (λK a=> ?_);rotate_left
    ·have G:=aj w' B (o.o w' i);clear i;go_simp;try with_reducible rfl
    go_simp;refine a _ ?_;clear a K
   refine az (λK a=> ?_);go_simp;refine(C.o _).mono ?_;rintro e V1 ⟨rfl,d⟩;have l:=ae (((ak wr.heap.size wr).drew).trans d);refine a.out _ _ (λw'=>Below wr.heap.size wr w') (λ_ h=>h) l.o ?_;clear a K d C;refine az (λK a=> ?_);go_simp;refine(E.o _).mono ?_;rintro e F ⟨rfl,d⟩;have m:=ae (l.o.trans (d.mono l.o.size));refine a.out _ _ (λw'=>Below wr.heap.size wr w') (λ_ h=>h) m.o ?_;clear a K d E l;repeat
    refine aA (v:= ?_) (λw' i=> ?_) (λK a=> ?_);rotate_left
    ·have G:=aj w' B (o.o w' i);clear i;go_simp;try with_reducible rfl
    go_simp;refine a _ ?_;clear a K
   refine az (λK a=> ?_);go_simp;have y:=ae (m.o.alloc m.o.size (.cells #[.int .i64 (Q:Nat), .int .i64 (U:Nat), .bool T] 66));refine a.out _ _ (λw'=>Below wr.heap.size wr w') (λ_ h=>h) y.o ?_;clear a K;show wpList _ _ _ _ _ _;have c1:=ae (c2.o _ y.o);have c0:=ae (World.news_of_block (heap_alloc_new F (.cells #[.int .i64 (Q:Nat), .int .i64 (U:Nat), .bool T] 66)));have d1:w.heap.size<=(F.alloc (.cells #[.int .i64 (Q:Nat), .int .i64 (U:Nat), .bool T] 66)).heap.size:=aw b5.o y.o.size;refine wpList_append_own_at _ rfl _ _ 27 rfl w.heap.size 66 i0 _ 3 24 Tryz.underlying27 hi e5 e6 e7 rfl (by decide) _ k (cQ (ks.take k)) rfl c1.o ⟨F.heap.size,0,none⟩ 1 1 [.int .i64 (Q:Nat), .int .i64 (U:Nat), .bool T] rfl rfl c0.o (by intro u q;simp only[List.mem_cons,List.not_mem_nil,or_false]at q;rcases q with rfl|rfl|rfl<;>rfl) (by unfold maxLen;omega) (by omega) d1 ?_;intro v' w4 b2 r h4 g9;obtain⟨A',n',c',rfl⟩:=dL b2;obtain⟨b3,d5⟩:=D.o _ _ _ y.o ⟨_,_,_,rfl⟩ b2 r;have i4:=aj w4 B b3;have i6:=aD b3;have f6:=ae d5;clear b3 d5 b2 r h4 g9 c1 c0 d1 y m D c2 o b5;go_wp2;go_roundw
   case rel=>exact⟨k+1,f5.o,by rw[g1.o],_,f6⟩
   case measure=>exact a2.o
  ·obtain rfl:k=ks.length:=(by omega);rw[c4.o];obtain⟨hl,⟨e,h0⟩|⟨g,cap,cur,rfl,d0,I,d6,g4,g6,b4⟩⟩:=f.o.own
   ·omega
   rw[List.take_length]at b4;have O:dJ wr g ks:=⟨(ai I).1,λj u q=>by
    have g8:j<ks.length*3:=(by rw[<-ny];exact(List.getElem?_eq_some_iff.1 q).1);rw[cell_of_row wr g j _ _ _ I,<-Array.getElem?_toList];rw[<-b4,List.getElem?_take]at q;simp only[g8,if_true]at q;exact q⟩
   have d4:g≠w.heap.size:=λe=>by
    have h1:=f.o.row0;rw[<-e,I]at h1;injection h1 with h1;injection h1 with _ h1;exact absurd h1 (by decide)
   have b6:=ae (⟨d4,d0⟩:g≠w.heap.size/\w.heap.size<=g);have b8:=ae (λW (d:Below wr.heap.size wr W)=>O.below d);have a3:=ae (λW (d:Below wr.heap.size wr W)=>wS nm (size:Nat) (some ⟨g,0,none⟩) g 0 ks.length cap _ _ _ W (λ_=>⟨rfl,(O.below d).z⟩) (by have:=f8.o;omega) (by have:=b7.o;omega));rw[g2.o]at a3;have V:=ae (λW (d:Below wr.heap.size wr W)=>pT nm size g cap ks W (O.below d) f3.o);rw[hN]at V;have c6:=ae (λW (d:Below wr.heap.size wr W)=>(HY.o.below (f.o.bel.trans (d.mono f.o.bel.size))).weak (M':=bE) (λ_ h=>h.elim));have o:=ae (λW (d:Below wr.heap.size wr W)=>(d.block B (ai f.o.row).1).trans f.o.row);have c7:=ae (λW (d:Below wr.heap.size wr W)=>(d.block _ (ai f.o.row0).1).trans f.o.row0);have f1:=ae d6;have b9:=ae f.o.bel;have f7:=ae f.o.ne;clear hl d0 I d6 g4 g6 b4 O d4 c3 c4 hi e5 e6 e7;go_upto_region 9 with fail;have p:=ae ((ak wr.heap.size wr).drew);refine aJ 10 (.rd 0 (.rd 1 (.wr 2 (.rd 3 (.rd 4 (.rd 6 (.wr 5 (.wr 7 (.rd 8 (.wr 9 .fin)))))))))) (λw'=>w'.heap[B]? =some (ID nm size (.slice (some ⟨g,0,none⟩) ks.length cap))) (o.o _ p.o) ?_;repeat
    refine aA (v:= ?_) (λw' i=> ?_) (λK a=> ?_);rotate_left
    ·have G:=aj w' B i;clear i;go_simp;try with_reducible rfl
    go_simp;refine a _ ?_;clear a K
   refine az (λK a=> ?_);go_simp;refine(a3.o _ p.o).mono ?_;rintro e V1 ⟨rfl,d⟩;have l:=ae (p.o.trans (d.mono p.o.size));refine a.out _ _ (λw'=>w'.heap[B]? =some (ID nm size (.slice (some ⟨g,0,none⟩) ks.length cap))) (λ_ h=>h) (o.o _ l.o) ?_;clear a K d a3;repeat
    refine aA (v:= ?_) (λw' i=> ?_) (λK a=> ?_);rotate_left
    ·have G:=aj w' B i;clear i;go_simp;try with_reducible rfl
    go_simp;refine a _ ?_;clear a K
   refine az (λK a=> ?_);go_simp;refine(V.o _ l.o).mono ?_;rintro e F ⟨vb,rfl,d7,d⟩;obtain⟨Ab,cb,rfl,g3,e4⟩:=gl (M:=bE) d7 (λ_ h=>h.elim);have m:=ae (l.o.trans (d.mono l.o.size));have c5:=ae e4;refine a.out _ _ (λw'=>w'.heap[B]? =some (ID nm size (.slice (some ⟨g,0,none⟩) ks.length cap))) (λ_ h=>h) (o.o _ m.o) ?_;clear a K d d7 e4 g3 V;refine az (λK a=> ?_);go_simp;refine(iG _ _ _ _ _ _ (X.attr size ks) (X.attr size ks) _ bE bE c5.o (c6.o _ m.o)).mono ?_;rintro e V3 ⟨rfl,rfl⟩;rw[beq_self_eq_true];refine a.out _ _ (λw'=>w'.heap[B]? =some (ID nm size (.slice (some ⟨g,0,none⟩) ks.length cap))) (λ_ h=>h) (o.o _ m.o) ?_;clear a K c5 c6;repeat
    refine aA (v:= ?_) (λw' i=> ?_) (λK a=> ?_);rotate_left
    ·have G:=aj w' B i;clear i;go_simp;try with_reducible rfl
    go_simp;refine a _ ?_;clear a K
   refine az (λK a=> ?_);refine(if_pos (by rfl)).mpr ?_;refine wp_store_row _ _ 29 (by rfl) w.heap.size (by rfl) [.string ⟨nm.toArray⟩, .int .i64 (size:Nat), .slice (some ⟨g,0,none⟩) ks.length cap] (by rfl) _ _ (c7.o _ m.o) rfl (by kernel_rfl) rfl ?_;intro W9 d9 H e8;have g0:=ae d9;have L:=b8.o _ m.o;have f4:aa (dJ W9 g ks):=ae ⟨by rw[e8];exact L.1,λj u q=>(World.cell?_of_block (H.block g L.1 (λe=>b6.o.1 (by injection e)))).trans (L.2 j u q)⟩;have a7:=b9.o.trans (m.o.mono b9.o.size);have f0:=ae (a7.grown H a7.size (λk e=>by injection e with e;omega));refine a.out _ _ (λw'=>w'.heap[B]? =some (ID nm size (.slice (some ⟨g,0,none⟩) ks.length cap))) (λ_ h=>h) ((H.block B (ai (o.o _ m.o)).1 (λe=>f7.o.1 (by injection e))).trans (o.o _ m.o)) ?_;clear a K d9 L a7 H e8 b8 o c7 m l p;show wpList _ _ _ _ _ _;go_wp2_with fail;refine bodyPost_ret (cF rfl _ _ w.heap.size _ _ _ _ rfl g0.o Tryz.underlying29 rfl (by kernel_rfl)) rfl ?_;exact⟨g,cap,rfl,f0.o,f1.o,b6.o.2,f4.o⟩
end
section
variable {w0 : World} {p : Nat} {w : World} {s : J.St} {fs : List (Nat × Obj)} {nm : J.B} {size : Nat} {ks : List X.Ky}
theorem Km (nm:J.B):nm++0::[65]=X.own nm:=rfl
theorem bu {w1 a:World} {b:Nat} {o:Obj} (c:Below w1.heap.size w1 a) (h:w1.heap[b]? =some o):a.heap[b]? =some o:=(c.block b (ai h).1).trans h
theorem EK (h:At w0 p fs s w) (A:nm.length<=200) (m:J.look s.now (X.own nm)=none):
  Calls Tryz.prog 75 #[.pointer (some ⟨p,0,none⟩), .string ⟨nm.toArray⟩] w λe w'=>e= .returned (.tuple #[.agg #[.string ⟨#[]⟩, .int .i64 0, .slice none 0 0], .int .i64 7])/\Below w.heap.size w w':=by
 have d:=ae ((ak _ w).alloc (aq _) ik);have i:=ae (gu nm [65] (w.alloc ik) (w.heap.size+1) (by simp) (by omega) (by simp));rw[Km]at i;have g:=ae (λw1 (a:Below w.heap.size w w1)=>fF (h.below a) (X.own nm) (by rw[X.ly];omega) (λl hh=>by rw[m]at hh;cases hh));rw[m]at g;have n:=ae (heap_alloc_new w ik);clear h m A;go_enter Tryz.func75,Tryz.ntmps75;go_wp2_with fail;refine i.o.mono ?_;rintro e w1 ⟨rfl,a⟩;have b:=ae (d.o.trans (a.mono d.o.size));have o:=ae (bu a n.o);clear a i d n;go_wp2_with fail;refine(g.o _ b.o).mono ?_;rintro e C ⟨v,rfl,c,ha,j⟩;have c:bT C _ v []:=c;obtain⟨D,c2,rfl,z,y⟩:=c.sl.by
 have f:=ae (b.o.trans (j.mono b.o.size));have q:=ae (bu j o.o);clear c ha j y z g b o;go_wp2_with (refine wpList_store_row rfl _ _ 29 rfl w.heap.size rfl [.string ⟨#[]⟩, .int .i64 0, .slice none 0 0] rfl _ _ q.o rfl (by kernel_rfl) rfl ?_);intro E t r B;have x:=ae t;have u:=ae (f.o.grown r f.o.size (λk e=>by injection e with e;omega));clear t r B f q;go_wp2_with fail;refine bodyPost_ret (cF rfl _ _ w.heap.size _ _ _ _ rfl x.o Tryz.underlying29 rfl (by kernel_rfl)) rfl ?_;exact⟨rfl,u.o⟩
theorem tN (h:At w0 p fs s w) (F:Ce nm) (D:X.eC ks size) (E:J.look s.now (X.own nm)=some (X.attr size ks)):
  Calls Tryz.prog 75 #[.pointer (some ⟨p,0,none⟩), .string ⟨nm.toArray⟩] w λe w'=>∃g c',e= .returned (.tuple #[kL nm size (.slice (some ⟨g,0,none⟩) ks.length c'), .int .i64 0])/\Below w.heap.size w w'/\ks.length<=c'/\w.heap.size<=g/\dJ w' g ks:=by
 have b1:=F.2.1;have a8:=X.gN size ks;have b0:=D.one;have q:=ae ((ak _ w).alloc (aq _) ik);have z:=ae (gu nm [65] (w.alloc ik) (w.heap.size+1) (by simp) (by omega) (by simp));rw[Km]at z;have x:=ae (λw1 (b:Below w.heap.size w w1)=>fF (h.below b) (X.own nm) (by rw[X.ly];omega) (λl hh=>by rw[E]at hh;injection hh with hh;subst hh;omega));rw[E]at x;have I:=ae (heap_alloc_new w ik);have a6:=ae F;have H:=ae D;clear h E F D b1 a8 b0;go_enter Tryz.func75,Tryz.ntmps75;go_wp2_with fail;refine z.o.mono ?_;rintro e w1 ⟨rfl,b⟩;have d:=ae (q.o.trans (b.mono q.o.size));have K:=ae (bu b I.o);clear b z q I;go_wp2_with fail;refine(x.o _ d.o).mono ?_;rintro e w2 ⟨v,rfl,n,ha,A⟩;have n:bT w2 _ v (X.attr size ks):=n;obtain⟨A2,c2,rfl,S,Q⟩:=n.sl.by
 have f:=ae (d.o.trans (A.mono d.o.size));have L:=ae (bu A K.o);have o:=ae (RM a6.o H.o A2 c2 _ Q S);clear n ha A Q S x d K;generalize(X.attr size ks).length=N at o|-;go_wp2_with fail;refine o.o.mono ?_;rintro e c ⟨g,c3,rfl,B,T,U,Y⟩;have r:=ae (f.o.trans (B.mono f.o.size));have M:=ae (bu B L.o);have G:=ae Y;have a4:=ae (aw f.o.size U);have a3:=ae T;have O:=ae (heap_alloc_new c ik);clear B T U Y o f L;go_wp2_with (refine wpList_store_row rfl _ _ 29 rfl c.heap.size rfl [.string ⟨nm.toArray⟩, .int .i64 (size:Nat), .slice (some ⟨g,0,none⟩) ks.length c3] rfl _ _ O.o rfl (by kernel_rfl) rfl ?_);intro P Z V b2;have m:=((ak c.heap.size c).alloc (aq _) ik).grown V (by simp) (λk e=>by injection e with e;omega);have t:=ae (r.o.trans (m.mono r.o.size));have y:=ae (bu m M.o);have a:=ae (G.o.below m);have a9:=aj P c.heap.size Z;clear Z V b2 m r M G O;go_wp2_with (refine wpList_store_row rfl _ _ 29 rfl w.heap.size rfl [.string ⟨nm.toArray⟩, .int .i64 (size:Nat), .slice (some ⟨g,0,none⟩) ks.length c3] rfl _ _ y.o rfl (by kernel_rfl) rfl ?_);intro W9 a0 C a1;have a7:=ae a0;have a2:=ae (t.o.grown C t.o.size (λk e=>by injection e with e;omega));have W:g≠w.heap.size:=λe=>by
  have h1:=a.o.at_ (i:=0) H.o.one.1;rw[e,cell_of_row P w.heap.size _ _ _ _ y.o]at h1;simp at h1
 have a5:aa (dJ W9 g ks):=ae ⟨by rw[a1];exact a.o.1,λj u hu=>(World.cell?_of_block (C.block g a.o.1 (λe=>W (by injection e)))).trans (a.o.2 j u hu)⟩;clear a0 C a1 t y a a9 W;go_wp2_with fail;refine bodyPost_ret (cF rfl _ _ w.heap.size _ _ _ _ rfl a7.o Tryz.underlying29 rfl (by kernel_rfl)) rfl ?_;exact⟨g,c3,rfl,a2.o,a3.o,a4.o,a5.o⟩
end
def Seen (W:World) (b n:Nat) (l:List J.B):Prop:=∃D:DataW Unit,W.ownsMap Tryz.prog 9 (plainElem (H:=Unit) Tryz.prog 4) b n D/\∀x:J.B,x∉l->D.atKey (.string x) (.lit (.bool false))= .lit (.bool false)
theorem RP (W:World):Seen (W.alloc (.map #[] 0)) W.heap.size 0 []:=⟨.map [],World.ownsMap_made _ _ _ _,λx _=>rfl⟩
theorem VX {W W':World} {b n:Nat} {D:DataW Unit} (h:W.ownsMap Tryz.prog 9 (plainElem (H:=Unit) Tryz.prog 4) b n D) (d:Below W.heap.size W W'):W'.ownsMap Tryz.prog 9 (plainElem (H:=Unit) Tryz.prog 4) b n D:=by
 have e:=h.lt;obtain⟨c,a,e1,e2⟩:=h;exact⟨c,a,(d.block b e).trans e1,e2⟩
theorem RQ {W W':World} {b n:Nat} {l:List J.B} (h:Seen W b n l) (e:Below W.heap.size W W'):Seen W' b n l:=by
 obtain⟨D,h1,d⟩:=h;have f:=h1.lt;obtain⟨c,a,e1,e2⟩:=h1;exact⟨D,⟨c,a,(e.block b f).trans e1,e2⟩,d⟩
theorem Kn {x:J.B} (a:x.length<=1000):keyOf Tryz.prog 9 (.string ⟨x.toArray⟩)=some (.string x):=keyOf_string_mk (s:=⟨x.toArray⟩) Tryz.underlying9 (by show x.toArray.size<=_;unfold maxLen;simp;omega)
theorem xw {v:Value} {b:Bool} {a:List MemPlace} (h:plainElem (H:=Unit) Tryz.prog 4 v=some (.lit (.bool b),a)):v= .bool b:=by
 unfold plainElem at h;rw[show Tryz.prog.underlying 4=some .bool from Tryz.underlying4]at h;cases v<;>first|(simp at h;done)|(simp at h;rw[h.1])
theorem xx {W:World} {M:Nat->Prop} {v:Value} {l:J.B} (h:bT W M v l) (h0:l≠[]):∃b o,v= .slice (some ⟨b,o,none⟩) l.length l.length:=by
 rcases h with⟨_,e⟩|⟨b,a,e,_⟩
 ·exact absurd e h0
 ·exact⟨b,a,e⟩
theorem MQ (w:World):(zeroValue 4).run Tryz.prog w= .ok (.bool false) w:=by kernel_rfl
theorem MR {W:World} {b n:Nat} {l:List J.B} (h:Seen W b n l) {x:J.B} (f:x∉l) (d:x.length<=1000):(Instr.lookup 175 (.map (some b)) (.string ⟨x.toArray⟩) false).run Tryz.prog W= .ok (.bool false) W:=by
 obtain⟨D,h1,c⟩:=h;obtain⟨v,g,e,a⟩:=h1.lookup sM Tryz.underlying175 (MQ W) (plainElem_bool Tryz.underlying4 false) (Kn d);rw[c x f]at a;rw[e,xw a]
theorem ae3 (a b:Nat) (h:a+b<=10000):wrap64 ((a:Int)+(b:Nat))=((a+b:Nat):Int):=by rw[IntWalk.wrap64_in _ (by omega)];omega
theorem ae4 (m:Nat) (h:m<=10000):wrap64 ((m:Int)+4)=((m+4:Nat):Int):=by rw[IntWalk.wrap64_in _ (by omega)];omega
theorem aa8 (a b:Nat) (h:a+b<=10000):IntKind.i64.wrap ((a:Int)+(b:Nat))=((a+b:Nat):Int):=by rw[IntKind.wrap_i64];omega
theorem aa9 (m:Nat) (h:m<=10000):IntKind.i64.wrap ((m:Int)+4)=((m+4:Nat):Int):=by rw[IntKind.wrap_i64];omega
theorem ae5 (m:Nat) (h:m<=10000):wrap64 (((m+4:Nat):Int) - 4)=(m:Int):=by rw[IntWalk.wrap64_in _ (by omega)];omega
theorem ae6 (m:Nat) (h:m<=10000):IntKind.i64.wrap (((m+4:Nat):Int) - 4)=(m:Int):=by rw[IntKind.wrap_i64];omega
theorem RR (j:Nat) (h:j<=100000):Value.int .i64 (wrap64 ((j:Int)+1))= .int .i64 ((j+1:Nat):Int):=by rw[IntWalk.wrap64_in _ (by omega)];rfl
theorem Ko {j n:Nat} (h:j<n) (a:j<=100000):n - (intOf (Value.int .i64 (wrap64 ((j:Int)+1)))).toNat<n - (intOf (Value.int .i64 (j:Int))).toNat:=by
 rw[IntWalk.wrap64_in _ (by omega)];simp only[intOf];omega
theorem EM {n:Nat} (h:0<n):n - (intOf (Value.int .i64 1)).toNat<n - (intOf (Value.int .i64 ((0:Nat):Int))).toNat:=by
 simp only[intOf];omega
namespace X
theorem aba {nm:B} {ks:List Ky} {i:Nat} (a:i≠0) (r:Row):aN nm ks i r=pre nm i++(val ks i r.b++R.cp (r.t i)):=by
 unfold aN cy tail;rw[if_neg a]
end X
namespace X
theorem ae7 {a k:Type} {f:a->k} {l:List a} (h:l.Pairwise λx y=>f x≠f y) {r s:a} (b:r∈l) (i:s∈l) (e:f r=f s):r=s:=by
 induction l with
 |nil=>cases b
 |cons x t j=>
  obtain⟨h1,g⟩:=List.pairwise_cons.1 h;rcases au b with rfl|c<;>rcases au i with rfl|d
  ·rfl
  ·exact absurd e (h1 s d)
  ·exact absurd e.symm (h1 r c)
  ·exact j g c d
theorem abb {ks:List Ky} {size ct i:Nat} {rows:List Row} (a:aQ ks size ct rows) (c:i<ks.length) {j:Nat} (h:j<(cn ks i rows).length):val ks 0 (cn ks i rows)[j].b∉((cn ks i rows).take j).map λr=>val ks 0 r.b:=λf=>by
 obtain⟨x,g,e⟩:=List.mem_map.1 f;obtain⟨k,d,rfl⟩:=List.getElem_of_mem g;rw[List.length_take]at d;rw[List.getElem_take]at e;have h1:(cn ks i rows)[k]'(by omega)∈rows:=(bD ks i _ rows).1 (List.getElem_mem _);have b:(cn ks i rows)[j]∈rows:=(bD ks i _ rows).1 (List.getElem_mem _);have:=tz (lD ks i rows (a.CH c)) _ _ (rv a.prim h1 b e);omega
theorem MS {ks:List Ky} {size ct i:Nat} {rows:List Row} {bf:B} (b:aQ ks size ct rows) (a:1<=i/\i<ks.length) {j:Nat} (l:j<(cn ks i rows).length) (d:∀k,k+1=j->∀r,(cn ks i rows)[k]? =some r->bf=val ks i r.b) (hd:(aH ks i).dup=false) (h0:0<j):bf≠val ks i (cn ks i rows)[j].b:=λe=>by
 have h1:j - 1<(cn ks i rows).length:=by omega
 have c:=d (j - 1) (by omega) _ (List.getElem?_eq_getElem h1);rw[c]at e;have g:(cn ks i rows)[j - 1]∈rows:=(bD ks i _ rows).1 (List.getElem_mem _);have h:(cn ks i rows)[j]∈rows:=(bD ks i _ rows).1 (List.getElem_mem _);have:=tz (lD ks i rows (b.CH a.2)) _ _ (ae7 (f:=λx:Row=>val ks i x.b) (b.nodup i a.1 a.2 hd) g h e);omega
end X
section
variable {w0 : World} {p g c size ct : Nat} {nm : J.B} {ks : List X.Ky} {rows : List X.Row} {w w' : World} {s : J.St} {fs : List (Nat × Obj)}
structure AgI (w:World) (nm:J.B) (size g c:Nat) (ks:List X.Ky) (rows:List X.Row) (i bx bs j:Nat) (bf:J.B) (W:World):Prop where
 bel:Below w.heap.size w W
 box:W.heap[w.heap.size]? =some (eR nm size (.slice (some ⟨g,0,none⟩) ks.length c))
 key:W.heap[bx]? =some (aT (X.aH ks i))
 seen:Seen W bs j (((X.cn ks i rows).take j).map λr=>X.val ks 0 r.b)
 ge:w.heap.size<=bs/\bs≠w.heap.size/\bs≠bx
 bf:∀k,k+1=j->∀r,(X.cn ks i rows)[k]? =some r->bf=X.val ks i r.b
theorem IE (h:At w0 p fs s w) (z:XF nm size ks rows ct s.now) (O:dJ w g ks) (i:Nat) (h1:1<=i) (L:i<ks.length):
  Calls Tryz.prog 76 #[kL nm size (.slice (some ⟨g,0,none⟩) ks.length c), .pointer (some ⟨p,0,none⟩), .int .i64 (i:Nat), .int .i64 (rows.length:Nat)] w λe w'=>e= .returned (.bool true)/\Below w.heap.size w w':=by
 have a2:=z.ks.one;have b1:=z.nm;have k4:=z.ct;have j6:=z.many;have j2:=z.lens L;have a8:Below w.heap.size w (w.alloc (eR nm size (.slice (some ⟨g,0,none⟩) ks.length c))):=(ak _ w).alloc (aq _) _;have B:=ae a8;have F:=ae (heap_alloc_new w (eR nm size (.slice (some ⟨g,0,none⟩) ks.length c)));have k1:=(O.below a8).at_ L;have k2:=(O.below a8).len L;have k3:=(O.below a8).dup L;have l2:(i:Int)<(ks.length:Nat):=by omega
 have HP:=ae (λW=>bU nm size (some ⟨g,0,none⟩) ks.length c i (by omega) (by omega) W);have b7:=ae (λW (a:Below w.heap.size w W)=>ie (h.below a) ⟨(X.pre nm i).toArray⟩ (by omega));rw[show keysOf s.now ⟨(X.pre nm i).toArray⟩=(X.cn ks i rows).map (X.aN nm ks i)from z.con.gP (by omega) z.rows (by omega) L]at b7;have HX:=ae z;have e1:=ae h;have h6:=ae O;have m:=ae (⟨h1,L⟩:1<=i/\i<ks.length);have j5:(X.cn ks i rows).length=rows.length:=X.qN ks i rows;have g7:rows.length<=100000:=by
  have l1:=z.con.count z.rows (by omega) a2.1 (by omega);have:=Nat.le_mul_of_pos_left rows.length (show 0<ks.length by omega);omega
 have i0:=ae g7;clear g7;clear h z O a2 b1 k4 j6 h1 L j2 a8;generalize l5:(⟨(X.pre nm i).toArray⟩:ByteArray)=pp at HP b7;go_enter Tryz.func76,Tryz.ntmps76;go_wp2_with fail;refine(HP.o _).mono ?_;rintro e w1 ⟨rfl,c2⟩;have C:=ae (heap_alloc_new (w.alloc (eR nm size (.slice (some ⟨g,0,none⟩) ks.length c))) (aT (X.aH ks i)));have o:=ae (((B.o.alloc B.o.size (aT (X.aH ks i)))).trans (c2.mono (B.o.alloc B.o.size (aT (X.aH ks i))).size));have f1:=ae (bu c2 (bu ((ak _ (w.alloc (eR nm size (.slice (some ⟨g,0,none⟩) ks.length c)))).alloc (aq _) (aT (X.aH ks i))) F.o));have d2:aa (w1.heap[w.heap.size+1]? =some (aT (X.aH ks i))):=ae (by
  have h:=bu c2 C.o;rw[World.size_alloc]at h;exact h)
 have h8:=HP;clear c2 HP C F B k1 k2 k3;go_wp2_with fail;refine(b7.o _ o.o).mono ?_;rintro e d ⟨A,rfl,hst,ha,a9,hA⟩;have c3:=o.o.trans (a9.mono o.o.size);rw[List.length_map]at*;have i1:=ae hst;have b6:aa (AgI w nm size g c ks rows i (w.heap.size+1) d.heap.size 0 [] (d.alloc (.map #[] 0))):=ae ⟨c3.alloc c3.size _,bu ((ak _ d).alloc (aq _) _) (bu a9 f1.o),bu ((ak _ d).alloc (aq _) _) (bu a9 d2.o),RP d,(by
  have:=(ai (bu a9 d2.o)).1;exact⟨c3.size,by omega,by omega⟩),λk O=>by omega⟩
 clear hst ha a9 hA b7 c3 f1 d2 o;generalize w.heap.size+1=bx at b6|-;have e9:=ae ((ak d.heap.size d).alloc (aq _) (.map #[] 0));have j7:= @run_makeMap Tryz.prog;go_wp2;have f0:aa (d.heap.size<=d.heap.size):=ae (aq _);generalize f7:d.heap.size=bs at b6|-;replace f0:aa (d.heap.size<=bs):=ae (by rw[<-f7];exact aq _);clear f7;clear j7;go_loopw [12,32] (fun t u W=>∃j:Nat,j<=rows.length/\u= .int .i64 j/\∃bf:J.B,t= .string ⟨bf.toArray⟩/\aa (AgI w nm size g c ks rows i bx bs j bf W)/\aa (Below d.heap.size d W)) (fun _ u _=>rows.length - (intOf u).toNat)
 case atStart=>exact⟨0,Nat.zero_le _,rfl,[],rfl,b6,e9⟩
 case round=>
  obtain⟨j,hj,rfl,bf,rfl,b,d1⟩:=hrel;clear b6 e9;by_cases g5:j<rows.length
  ·have a1:j<(X.cn ks i rows).length:=(by rw[j5];exact g5);have j4:j<((X.cn ks i rows).map (X.aN nm ks i)).length:=(by rw[List.length_map];exact a1);obtain⟨ga,rfl,g1,f9⟩:=i1.o (by omega);have b0:=f9 j j4;rw[List.getElem_map]at b0;have b0:wr.cell? ⟨ga,j,none⟩=some (.string ⟨(X.aN nm ks i (X.cn ks i rows)[j]).toArray⟩):=(d1.o.cell (p:=⟨ga,j,none⟩) g1).trans b0;have b3:(X.cn ks i rows)[j]∈rows:=(X.bD ks i _ rows).1 (List.getElem_mem a1);have l6:(X.cn ks i rows)[j]? =some (X.cn ks i rows)[j]:=List.getElem?_eq_getElem a1;have d8:X.val ks 0 (X.cn ks i rows)[j].b∉((X.cn ks i rows).take j).map λr=>X.val ks 0 r.b:=X.abb HX.o.rows m.o.2 a1;have d5:(X.aH ks i).dup=false->0<j->bf≠X.val ks i (X.cn ks i rows)[j].b:=X.MS HX.o.rows m.o a1 b.o.bf;have h0:((X.cn ks i rows).take (j+1)).map (λr=>X.val ks 0 r.b)=((X.cn ks i rows).take j).map (λr=>X.val ks 0 r.b)++[X.val ks 0 (X.cn ks i rows)[j].b]:=(by rw[List.take_succ_eq_append_getElem a1,List.map_append];rfl);have e5:=ae h0;have e4:=ae l6;have V:=ae g5;generalize(X.cn ks i rows)[j]=r at b0 b3 d8 d5 e5 e4;have a0:=HX.o.rows.fit r b3;have j1:=HX.o.ks.key _ (X.aY m.o.2);have j0:=HX.o.ks.key _ (X.aY HX.o.ks.one.1);have k5:=HX.o.ks.size;have a2:=HX.o.ks.one;have b1:=HX.o.nm;have i7:=HX.o.ct;have T:(X.val ks i r.b).length=(X.aH ks i).len:=X.bc a0 m.o.2;have k9:(X.val ks 0 r.b).length=(X.aH ks 0).len:=X.bc a0 a2.1;have k0:=X.ia nm i;have S:(X.pre nm i).length+(X.aH ks i).len<=10000:=(by omega);have k8:=HX.o.rows.tp r b3 i m.o.1 m.o.2;have Z:=X.aba (nm:=nm) (ks:=ks) (i:=i) (by have:=m.o.1;omega) r;have l7:=(X.aS.1 a0).1;have g6:r.b≠[]:=λe=>by
    have h1:=(X.aS.1 a0).2 _ (X.aY a2.1);rw[e,List.length_nil]at h1;omega
   have h9:=ae g6;have g0:(X.aN nm ks i r).length=(X.pre nm i).length+(X.aH ks i).len+4:=(by rw[Z];simp[T,R.dr];omega);have g8:(⟨(X.aN nm ks i r).toArray⟩:ByteArray).size=(X.pre nm i).length+(X.aH ks i).len+4:=(by rw[bm];exact g0);have g9:pp.size=(X.pre nm i).length:=(by rw[<-l5,bm]);have b4:=gI (X.aN nm ks i r) ((X.pre nm i).length+(X.aH ks i).len) (by omega);rw[show(X.aN nm ks i r).drop ((X.pre nm i).length+(X.aH ks i).len)=R.cp (r.t i)++[] by rw[Z,<-List.append_assoc,<-T,<-List.length_append,List.drop_left,List.append_nil]]at b4;have c0:=ae (Cc (n:=r.t i) (by omega) []);have a7:=ae (λW (a:Below wr.heap.size wr W)=>ud nm size g c ks i (X.val ks i r.b++R.cp (r.t i)) W (h6.o.below (b.o.bel.trans (a.mono b.o.bel.size))) m.o.2 (by omega) (by omega) (by rw[List.length_append,T];show(X.aH ks i).len<=_;omega) (by rw[List.length_append,T,R.dr];omega));rw[<-Z,show(X.val ks i r.b++R.cp (r.t i)).take (X.lens ks i)=X.val ks i r.b by show(X.val ks i r.b++R.cp (r.t i)).take (X.aH ks i).len=_;rw[<-T,List.take_left]]at a7;have d7:=HX.o.con.ry HX.o.rows b3;have a6:=ae (λW (a:Below wr.heap.size wr W)=>ug (e1.o.below (b.o.bel.trans (a.mono b.o.bel.size))) nm size (some ⟨g,0,none⟩) ks.length c i (X.val ks i r.b++R.cp (r.t i)) (X.val ks 0 r.b) (by omega) b1 (by rw[List.length_append,T,R.dr];omega) (by omega) (λe=>by have:=m.o.1;omega) (λ_=>by rw[<-Z,HX.o.con.wQ HX.o.rows (by omega) (by have:=m.o.1;omega) m.o.2 b3];rfl) (λl hh=>by rw[d7]at hh;injection hh with hh;subst hh;omega));rw[<-Z,d7]at a6;have c1:=ae (λW v M (hv:Sl W M v r.b)=>cG (X.aH ks i) v r.b M W hv ((X.aS.1 a0).2 _ (X.aY m.o.2)) (by omega));rw[show(X.aH ks i).val r.b=X.val ks i r.b from rfl]at c1;have e8:=ae (λW (a:Below wr.heap.size wr W)=>DY (e1.o.below (b.o.bel.trans (a.mono b.o.bel.size))) nm size (some ⟨g,0,none⟩) ks.length c ct (by omega) HX.o.con.tim b1);have k6:¬((r.t i:Nat):Int)<1:=(by omega);have k7:¬(ct:Int)<((r.t i:Nat):Int):=(by omega);have HK:=ae (Kn (x:=X.val ks 0 r.b) (by omega));have e3:=ae (λW (a:Below wr.heap.size wr W)=>MR (RQ b.o.seen a) d8 (by omega));have Y:=dt (X.val ks i r.b) bf;have c4:(X.aH ks i).dup=false->0<j->decide (X.val ks i r.b=bf)=false:=λh1 h2=>decide_eq_false (λe=>d5 h1 h2 e.symm);have h7:=h8;have F:=ae (λW (a:Below wr.heap.size wr W)=>bu a b.o.box);have C:=ae (λW (a:Below wr.heap.size wr W)=>bu a b.o.key);have c7:=ae3 (X.pre nm i).length (X.aH ks i).len S;have c9:=ae4 ((X.pre nm i).length+(X.aH ks i).len) S;have c8:=aa8 (X.pre nm i).length (X.aH ks i).len S;have d0:=aa9 ((X.pre nm i).length+(X.aH ks i).len) S;have d9:=ae5 ((X.pre nm i).length+(X.aH ks i).len) S;have e0:=ae6 ((X.pre nm i).length+(X.aH ks i).len) S;generalize(X.pre nm i).length+(X.aH ks i).len+4=N at g8 c9 d0 d9 e0;generalize(X.pre nm i).length+(X.aH ks i).len=Mm at b4 c7 c8 c9 d0 d9 e0;generalize(X.pre nm i).length=PL at g9 c7 c8;generalize(⟨(R.cp (r.t i)++[]).toArray⟩:ByteArray)=TS at b4 c0;generalize(⟨(X.aN nm ks i r).toArray⟩:ByteArray)=E at b0 g8 b4 a7 a6;generalize f5:(⟨(X.val ks i r.b).toArray⟩:ByteArray)=VS at a7 c1 Y;generalize i3:(⟨(X.val ks 0 r.b).toArray⟩:ByteArray)=QS at a6 HK e3;generalize(⟨bf.toArray⟩:ByteArray)=BF at Y|-;generalize r.t i=tr at c0 k6 k7;have j8:((N:Int) !=wrap64 (wrap64 ((PL:Int)+((X.aH ks i).len:Nat))+4))=false:=(by rw[c7,c9];simp);have j9:((N:Int) !=IntKind.i64.wrap (IntKind.i64.wrap ((PL:Int)+((X.aH ks i).len:Nat))+4))=false:=(by rw[c8,d0];simp);clear S a0 j1 j0 k5 a2 b1 i7 T k9 k0 k8 Z l7 g6 g0 d7 h0 d8 d5 g1 f9;have B:=ae ((ak wr.heap.size wr).drew);go_upto_region 8 with fail;refine aR (.rd 0 (.rd 1 (.rd 2 (.rd 3 (.rd 6 (.rd 7 (.wr 4 (.rd 5 (.rd 8 (.rd 9 (.rd 10 .fin))))))))))) (λw'=>Below wr.heap.size wr w') B.o ?_;repeat
    refine aA (v:= ?_) (λw' q=> ?_) (λK f=> ?_);rotate_left
    ·have f8:=aj w' w.heap.size (F.o _ q);have g4:=aj w' bx (C.o _ q);clear q;go_simp;try with_reducible rfl
    go_simp;refine f _ ?_;clear f K
   refine az (λK f=> ?_);go_simp;refine(h7.o _).mono ?_;rintro e V1 ⟨rfl,a⟩;have o:=ae (B.o.trans (a.mono B.o.size));refine f.out _ _ (λw'=>Below wr.heap.size wr w') (λ_ h=>h) o.o ?_;clear f K a B;repeat
    refine aA (v:= ?_) (λw' q=> ?_) (λK f=> ?_);rotate_left
    ·have f8:=aj w' w.heap.size (F.o _ q);have g4:=aj w' bx (C.o _ q);clear q;go_simp;try with_reducible rfl
    go_simp;refine f _ ?_;clear f K
   show wpList _ _ _ _ _ _;have i5:=aj V1 w.heap.size (F.o _ o.o);go_wp2_with fail;refine(a6.o _ o.o).mono ?_;rintro e V2 ⟨v,rfl,hs,ha,a⟩;have hs:bT V2 _ v r.b:=hs;obtain⟨bo,oo,rfl⟩:=xx hs h9.o;have i2:=ae hs.sl;have h3:=ae (o.o.trans (a.mono o.o.size));clear hs ha a o a6 i5;go_upto_region 11 with fail;have a3:=ae h3.o.drew;refine aJ 9 (.rd 0 (.rd 1 (.rd 2 (.rd 4 (.rd 5 (.rd 6 (.rd 7 (.rd 8 (.wr 3 .fin))))))))) (λw'=>Below wr.heap.size wr w') a3.o ?_;repeat
    refine aA (v:= ?_) (λw' q=> ?_) (λK f=> ?_);rotate_left
    ·have f8:=aj w' w.heap.size (F.o _ q);have g4:=aj w' bx (C.o _ q);clear q;go_simp;try with_reducible rfl
    go_simp;refine f _ ?_;clear f K
   refine az (λK f=> ?_);go_simp;refine(a7.o _ a3.o).mono ?_;rintro e V3 ⟨rfl,a⟩;have b5:=ae (a3.o.trans (a.mono a3.o.size));have e6:=ae (((ae i2.o).o.step (Step.aC ((ak _ _).drew))).step (Step.aC a));refine f.out _ _ (λw'=>Below wr.heap.size wr w') (λ_ h=>h) b5.o ?_;clear f K a a3 a7 b4;show wpList _ _ _ _ _ _;go_wp2_with fail;refine(c0.o _).mono ?_;rintro e V4 ⟨rfl,a⟩;have a4:=ae (b5.o.trans (a.mono b5.o.size));have e7:=ae (e6.o.step (Step.aC a));have j3:=e3.o _ a4.o;have hq:=λw=>run_eql_slice_nil (P:=Tryz.prog) w 40 5 (some ⟨bo,oo,none⟩) r.b.length r.b.length Tryz.underlying40;have c5:=aj V4 bx (C.o _ a4.o);clear a b5 e6 c0;obtain⟨D,f3,f4⟩:=b.o.seen;have h4:=ae f4;have h5:=ae (λW (a:Below wr.heap.size wr W)=>VX f3 a);have i8:(X.aH ks i).dup=true\/(X.aH ks i).dup=false:=(by cases(X.aH ks i).dup<;>simp);have g3:j=0\/0<j:=(by omega);have U:=ae (show j<=100000 by have:=i0.o;omega);clear f3 f4 c8 d0 j9 j8 c7 c9 d9 e0 g9;go_wp2_with fail;refine(c1.o _ _ _ e7.o).mono ?_;rintro e V5 ⟨rfl,a⟩;have a5:=ae (a4.o.trans (a.mono a4.o.size));have i6:=aj V5 w.heap.size (F.o _ a5.o);clear a a4 e7 c1 j3 hq c5;go_wp2_with fail;refine(e8.o _ a5.o).mono ?_;rintro e V6 ⟨rfl,ha,a⟩;have I:=ae (a5.o.trans (a.mono a5.o.size));have c5:=aj V6 bx (C.o _ I.o);clear ha a a5 e8 i6;have b8:=ae (h5.o _ I.o);have b9:aa (∀W',V6.grownBy W' (some bs)->W'.ownsMap Tryz.prog 9 (plainElem (H:=Unit) Tryz.prog 4) bs (j+1) (D.put (.string (X.val ks 0 r.b)) (.lit (.bool true)))->AgI w nm size g c ks rows i bx bs (j+1) (X.val ks i r.b) W'/\Below d.heap.size d W'):=ae (λW' G ho=>by
    have f6:=b.o.bel.trans (I.o.mono b.o.bel.size);have d6:=b.o.ge;have i4:=f6.grown G f6.size (λk e=>by injection e with e;omega);have l4:=(d1.o.trans (I.o.mono d1.o.size));refine⟨⟨i4,(G.block _ (ai (F.o _ I.o)).1 (λe=>d6.2.1 (by injection e with e;exact e.symm))).trans (F.o _ I.o),(G.block _ (ai (C.o _ I.o)).1 (λe=>d6.2.2 (by injection e with e;exact e.symm))).trans (C.o _ I.o),⟨_,ho,λy hy=> ?_⟩,d6,λk O r' c6=> ?_⟩,l4.grown G l4.size (λk e=>by injection e with e;have:=f0.o;omega)⟩
    ·rw[e5.o]at hy;rw[Maps.atKey_put_other (λe=>hy (List.mem_append_right _ (by injection e with e;rw[e];exact List.mem_singleton_self _)))];exact h4.o y (λhm=>hy (List.mem_append_left _ hm))
    ·obtain rfl:k=j:=(by omega);rw[e4.o]at c6;injection c6 with c6;rw[c6])
   have e2:=ae f5;have i9:∀x,x=BF->True:=λ_ _=>trivial;clear f5 i3 i9;rcases i8 with hd|hd
   ·rw[hd]at c5;clear Y c4 hd g3;go_wp2_with (at_mapUpdate;refine wpList_mapUpdate_own _ rfl _ _ _ 175 rfl 9 4 sM Tryz.underlying175 _ bs _ D rfl b8.o (by have:=U.o;unfold maxLen;omega) _ _ _ rfl rfl HK.o _ [] (plainElem_bool Tryz.underlying4 true) ?_);intro W9 b2 G;have Q:=b9.o _ G b2;have d3:=ae Q.1;have d4:=ae Q.2;clear b2 G Q b9 b8;go_wp2;go_roundw
    case rel=>exact⟨_+1,V.o,(by first|exact RR _ U.o|rfl),X.val ks i r.b,by rw[e2.o],d3,d4⟩
    case measure=>first|exact Ko V.o U.o|exact EM V.o
   ·rw[hd]at c5;rcases g3 with rfl|g2
    have f2:=trivial
    all_goals
     first
      |have f2:=f2
       clear Y c4 hd
      |have l3:(0:Int)<(j:Nat):=by omega
       have l0:(VS.toList==BF.toList)=false:=(by rw[Y];exact c4 hd g2);clear Y c4 hd g2
     go_wp2_with (at_mapUpdate;refine wpList_mapUpdate_own _ rfl _ _ _ 175 rfl 9 4 sM Tryz.underlying175 _ bs _ D rfl b8.o (by have:=U.o;unfold maxLen;omega) _ _ _ rfl rfl HK.o _ [] (plainElem_bool Tryz.underlying4 true) ?_);intro W9 b2 G;have Q:=b9.o _ G b2;have d3:=ae Q.1;have d4:=ae Q.2;clear b2 G Q b9 b8;go_wp2;go_roundw
     case rel=>exact⟨_+1,V.o,(by first|exact RR _ U.o|rfl),X.val ks i r.b,by rw[e2.o],d3,d4⟩
     case measure=>first|exact Ko V.o U.o|exact EM V.o
  ·obtain rfl:j=rows.length:=(by omega);have HE:=b;go_wp2;go_ret;exact⟨rfl,HE.o.bel⟩
end
theorem ajC (a b:Nat) (h:a+b<=1000000):wrap64 ((a:Int)+(b:Nat))=((a+b:Nat):Int):=by rw[IntWalk.wrap64_in _ (by omega)];omega
theorem afd (a b:Nat) (h:a+b<=1000000):IntKind.i64.wrap ((a:Int)+(b:Nat))=((a+b:Nat):Int):=by rw[IntKind.wrap_i64];omega
theorem YP (b:Nat) (h:b<=1000000):wrap64 (1+(b:Int))=((1+b:Nat):Int):=by rw[IntWalk.wrap64_in _ (by omega)];omega
theorem RT (b:Nat) (h:b<=1000000):IntKind.i64.wrap (1+(b:Int))=((1+b:Nat):Int):=by rw[IntKind.wrap_i64];omega
theorem RU (b:Nat) (h:b<=1000000):wrap64 ((b:Int)+1)=((b+1:Nat):Int):=by rw[IntWalk.wrap64_in _ (by omega)];omega
theorem abf (b:Nat) (h:b<=1000000):IntKind.i64.wrap ((b:Int)+1)=((b+1:Nat):Int):=by rw[IntKind.wrap_i64];omega
theorem Cf (j:Nat) (h:j<=1000000):Value.int .i64 (wrap64 ((j:Int)+1))= .int .i64 ((j+1:Nat):Int):=by rw[RU j h]
theorem vB {j n:Nat} (h:j<n) (a:j<=1000000):n - (intOf (Value.int .i64 (wrap64 ((j:Int)+1)))).toNat<n - (intOf (Value.int .i64 (j:Int))).toNat:=by
 rw[RU j a];simp only[intOf];omega
theorem rQ {j n:Nat} (h:j<n):n - (intOf (Value.int .i64 ((j:Int)+1))).toNat<n - (intOf (Value.int .i64 (j:Int))).toNat:=by
 simp only[intOf];omega
theorem abg {nm:J.B} {ks:List X.Ky} (r:X.Row):X.aN nm ks 0 r=X.cy nm 0 (X.val ks 0 r.b) 0:=by
 unfold X.aN X.cy X.tail;rw[if_pos rfl,if_pos rfl]
section
variable {w0 : World} {p g c size ct : Nat} {nm : J.B} {ks : List X.Ky} {rows : List X.Row} {w w' : World} {s : J.St} {fs : List (Nat × Obj)}
structure GeI (w:World) (nm:J.B) (size g c bx:Nat) (ks:List X.Ky) (W:World):Prop where
 bel:Below w.heap.size w W
 box:W.heap[bx]? =some (eR nm size (.slice (some ⟨g,0,none⟩) ks.length c))
 ky:dJ W g ks
theorem GeI.below {w W W':World} {nm:J.B} {size g c bx:Nat} {ks:List X.Ky} (h:GeI w nm size g c bx ks W) (a:Below W.heap.size W W'):GeI w nm size g c bx ks W':=
 ⟨h.bel.trans (a.mono h.bel.size),bu a h.box,h.ky.below a⟩
theorem nZ (h:At w0 p fs s w) (hn:Ce nm) (f:XF nm size ks rows ct s.now):
  Calls Tryz.prog 28 #[.pointer (some ⟨p,0,none⟩), .string ⟨nm.toArray⟩] w λe w'=>e= .returned (.int .i64 0)/\Below w.heap.size w w':=by
 have f9:=f.ks.one;have f2:=f.con.count f.rows (by have:=f.ct;omega) f9.1 (by omega);have g9:=f.many;have e7:rows.length<=100000:=by
  have:=Nat.le_mul_of_pos_left rows.length (show 0<ks.length by omega);omega
 have e2:=ae (tN h hn f.ks f.con.own);have d6:=ae (λW (d:Below w.heap.size w W)=>h.below d);have HX:=ae f;have g2:=ae f.nm;have a6:=ae (λW (d:Below w.heap.size w W)=>ie (h.below d) ⟨(X.pre nm 0).toArray⟩ (by omega));rw[show keysOf s.now ⟨(X.pre nm 0).toArray⟩=(X.cn ks 0 rows).map (X.aN nm ks 0)from f.con.gP (by omega) f.rows (by have:=f.ct;omega) (by omega)]at a6;have a5:=ae (λW (d:Below w.heap.size w W)=>ie (h.below d) ⟨(nm++[0]).toArray⟩ (by omega));rw[f.con.wP]at a5;have f7:(s.now.map (·.1)).length=1+(if 0<ct then 1 else 0)+ks.length*rows.length:=by rw[List.length_map];exact f2
 have e0:=ae f7;have f8:(X.cn ks 0 rows).length=rows.length:=X.qN ks 0 rows;have e1:=ae f8;have c3:=ae (λ(g c:Nat) W=>bU nm size (some ⟨g,0,none⟩) ks.length c 0 (by omega) (by have:=f.nm;omega) W);have i6:=ae (λW (d:Below w.heap.size w W)=>fF (h.below d) (X.cK nm) (by rw[X.sG];have:=f.nm;omega) (λl hh=>by have:=f.len _ _ hh;omega));rw[f.con.tim]at i6;have c5:=ae (λW=>wR nm W (by have:=f.nm;omega));have b0:=ae (λW B (hB:W.heap.size=B)=>gu nm [67] W B hB (by have:=f.nm;omega) (by simp));rw[show nm++0::[67]=X.cK nm from rfl]at b0;have x:=ae e7;generalize h4:(⟨(X.pre nm 0).toArray⟩:ByteArray)=pp at a6 c3;generalize i7:(⟨(nm++[0]).toArray⟩:ByteArray)=pa at a5 c5;generalize h3:(⟨(X.cK nm).toArray⟩:ByteArray)=pc at i6 b0;clear h hn f f2 g9 f7 f8 h4 i7 h3 e7;go_enter Tryz.func28,Tryz.ntmps28;go_wp2_with fail;refine e2.o.mono ?_;rintro e w1 ⟨g,c,rfl,e8,g6,f3,f6⟩;have d9:=ae f6;have V:=ae e8;have i1:=ae f3;have HZ:=ae (heap_alloc_new w1 ik);clear e8 g6 f3 f6 e2;go_wp2_with (refine wpList_store_row rfl _ _ 29 rfl w1.heap.size rfl [.string ⟨nm.toArray⟩, .int .i64 (size:Nat), .slice (some ⟨g,0,none⟩) ks.length c] rfl _ _ HZ.o rfl (by kernel_rfl) rfl ?_);intro W2 d1 f4 h9;have c6:=((ak w1.heap.size w1).alloc (aq _) ik).grown f4 (by simp) (λk e=>by injection e with e;omega);have b8:aa (GeI w nm size g c w1.heap.size ks W2):=ae ⟨V.o.trans (c6.mono V.o.size),d1,d9.o.below c6⟩;have z:=aj W2 w1.heap.size d1;clear d1 f4 h9 c6 HZ V d9;generalize w1.heap.size=bx at b8 z|-;go_wp2_with fail;refine(c3.o g c W2).mono ?_;rintro e w3 ⟨rfl,e9⟩;have b9:=ae (b8.o.below e9);clear e9 z b8 c3;go_wp2_with fail;refine(a6.o _ b9.o.bel).mono ?_;rintro e w4 ⟨A,rfl,hst,ha,f0,Q⟩;have d7:=ae (b9.o.below f0);have e4:=ae hst;have U:((X.cn ks 0 rows).map (X.aN nm ks 0)).length=rows.length:=by rw[List.length_map];exact e1.o
 rw[U];have b3:=YP rows.length (by have:=x.o;omega);have d2:=RT rows.length (by have:=x.o;omega);clear hst ha f0 Q a6 b9 U;go_wp2_with fail;go_loopw [34] (fun u W=>∃j:Nat,j<=rows.length/\u= .int .i64 j/\aa (GeI w nm size g c bx ks W)/\aa (Below w4.heap.size w4 W)) (fun u _=>rows.length - (intOf u).toNat)
 case atStart=>exact⟨0,Nat.zero_le _,rfl,d7,ae (ak _ _)⟩
 case round=>
  obtain⟨j,hj,rfl,G,a0⟩:=hrel;clear d7 b3 d2;by_cases D:j<rows.length
  ·have d0:j<(X.cn ks 0 rows).length:=(by rw[e1.o];exact D);have U:j<((X.cn ks 0 rows).map (X.aN nm ks 0)).length:=(by rw[List.length_map];exact d0);obtain⟨ga,rfl,f5,f1⟩:=e4.o (by omega);have C:=f1 j U;rw[List.getElem_map]at C;replace C:wr.cell? ⟨ga,j,none⟩=some (.string ⟨(X.aN nm ks 0 (X.cn ks 0 rows)[j]).toArray⟩):=(a0.o.cell (p:=⟨ga,j,none⟩) f5).trans C;have b2:(X.cn ks 0 rows)[j]∈rows:=(X.bD ks 0 _ rows).1 (List.getElem_mem d0);have y:=ae D;have N:=ae (show j<=1000000 by have:=x.o;omega);generalize(X.cn ks 0 rows)[j]=r at C b2;rw[abg]at C;have T:=HX.o.rows.fit r b2;have g8:=HX.o.ks.key _ (X.aY HX.o.ks.one.1);have h7:=HX.o.ks.size;have h8:(X.val ks 0 r.b).length=(X.aH ks 0).len:=X.bc T HX.o.ks.one.1;have h5:=(X.aS.1 T).1;have c7:=(X.aS.1 T).2 _ (X.aY HX.o.ks.one.1);have h0:=g2.o;have c9:=HX.o.con.ry HX.o.rows b2;have a3:=ae (λW (d:Below w.heap.size w W)=>fF (d6.o W d) (X.cy nm 0 (X.val ks 0 r.b) 0) (by have:=X.cZ nm 0 (X.val ks 0 r.b) 0;omega) (λl hh=>by rw[c9]at hh;injection hh with hh;subst hh;omega));rw[c9]at a3;have b6:=ae (λW (d:Below wr.heap.size wr W) A cb=>nA nm size g c ks A r.b.length cb W (G.o.below d).ky (by have:=HX.o.ks.one;omega) (λk hk=>by have:=HX.o.ks.key k hk;omega) r.b rfl);rw[T]at b6;have b1:=ae (λW v M (hv:Sl W M v r.b)=>cG (X.aH ks 0) v r.b M W hv c7 (by omega));rw[show(X.aH ks 0).val r.b=X.val ks 0 r.b from rfl]at b1;have a1:=ae (λW=>dM nm size (some ⟨g,0,none⟩) ks.length c 0 0 (X.val ks 0 r.b) (by omega) (by omega) (by omega) (by omega) W);have b5:=ae (λW (d:Below wr.heap.size wr W)=>(G.o.below d).box);have a9:=ae (λW (d:Below wr.heap.size wr W)=>(G.o.below d).ky);have i5:(0:Int)<(ks.length:Nat):=(by have:=HX.o.ks.one;omega);have g7:0<ks.length:=HX.o.ks.one.1;have c2:=ae g7;have g0:r.b≠[]:=λe=>by rw[e,List.length_nil]at c7;omega
   have g3:=ae g0;have i4:(j:Int)<(rows.length:Nat):=(by omega);generalize g5:(⟨(X.val ks 0 r.b).toArray⟩:ByteArray)=VS at b1 a1;generalize(⟨(X.cy nm 0 (X.val ks 0 r.b) 0).toArray⟩:ByteArray)=E at C a3 a1;clear d0 U f1 f5 b2 T g8 h7 h8 h5 c7 h0 c9 g0 g5 hj;go_wp2_with fail;refine(a3.o _ G.o.bel).mono ?_;rintro e O ⟨v,rfl,n,ha,d⟩;have n:bT O _ v r.b:=n;obtain⟨bo,oo,rfl⟩:=xx n g3.o;have g4:=ae n.sl;have V:=ae d;have F:=ae d.drew;have c4:=ae (n.sl.step (Step.aC ((ak O.heap.size O).drew)));clear n ha d C a3 g4;go_upto_region 10 with fail;refine aR (.rd 0 (.rd 1 (.wr 2 (.rd 3 (.rd 4 (.rd 5 (.rd 6 (.rd 7 (.rd 8 (.rd 9 (.rd 10 (.rd 13 (.wr 11 (.wr 12 (.rd 14 (.rd 15 .fin)))))))))))))))) (λw'=>Below wr.heap.size wr w') F.o ?_;generalize O.drew=i2 at F c4|-
   iterate 2
    refine aA (v:= ?_) (λw' q=> ?_) (λK m=> ?_);rotate_left
    ·have z:=aj w' bx (b5.o _ q);clear q;go_simp;try with_reducible rfl
    go_simp;refine m _ ?_;clear m K
   refine az (λK m=> ?_);go_simp;refine(b6.o _ F.o _ _).mono ?_;rintro e P ⟨rfl,d⟩;have Y:=ae (F.o.trans (d.mono F.o.size));have e3:=ae (c4.o.step (Step.aC d));refine m.out _ _ (λw'=>Below wr.heap.size wr w') (λ_ h=>h) Y.o ?_;clear m K d F c4
   iterate 9
    refine aA (v:= ?_) (λw' q=> ?_) (λK m=> ?_);rotate_left
    ·have z:=aj w' bx (b5.o _ q);have k1:=(a9.o _ q).at_ c2.o;have k2:=(a9.o _ q).len c2.o;have k3:=(a9.o _ q).dup c2.o;clear q;go_simp;try with_reducible rfl
    go_simp;refine m _ ?_;clear m K
   refine az (λK m=> ?_);refine(if_pos (by rfl)).mpr ?_;go_simp;refine(b1.o _ _ _ e3.o).mono ?_;rintro e V3 ⟨rfl,d⟩;have Z:=ae (Y.o.trans (d.mono Y.o.size));refine m.out _ _ (λw'=>Below wr.heap.size wr w') (λ_ h=>h) Z.o ?_;clear m K d Y e3;refine az (λK m=> ?_);refine(if_pos (by rfl)).mpr ?_;go_simp;refine(a1.o _).mono ?_;rintro e V4 ⟨rfl,d⟩;have b4:=ae (Z.o.trans (d.mono Z.o.size));refine m.out _ _ (λw'=>Below wr.heap.size wr w') (λ_ h=>h) b4.o ?_;clear m K d Z
   iterate 2
    refine aA (v:= ?_) (λw' q=> ?_) (λK m=> ?_);rotate_left
    ·clear q;go_simp;try with_reducible rfl
    go_simp;refine m _ ?_;clear m K
   show wpList _ _ _ _ _ _;simp only[wpList];clear b6 b1 a1 b5 a9;go_wp2;go_roundw
   case rel=>exact⟨j+1,y.o,by first|exact Cf j N.o|rfl,ae (G.o.below b4.o),ae (a0.o.trans (b4.o.mono a0.o.size))⟩
   case measure=>first|exact vB y.o N.o|exact rQ y.o
  ·obtain rfl:j=rows.length:=(by omega);have d8:=G;clear e4 hj a0;have b3:=YP rows.length (by have:=x.o;omega);have d2:=RT rows.length (by have:=x.o;omega);have d4:=ae (λ(W:World) (d:GeI w nm size g c bx ks W) i h1 hi=>IE (c:=c) (d6.o W d.bel) HX.o d.ky i h1 hi);go_wp2_with fail;go_loopw [8,13] (fun t u W=>∃i a:Nat,1<=i/\i<=ks.length/\u= .int .i64 i/\t= .int .i64 a/\aa (a=1+i*rows.length)/\aa (GeI w nm size g c bx ks W)) (fun _ u _=>ks.length - (intOf u).toNat)
   case atStart=>exact⟨1,1+rows.length,aq _,f9.1,rfl,by first|rfl|rw[b3]|(simp),ae (by omega),d8⟩
   case round=>
    obtain⟨i,a,c8,hi,rfl,rfl,L,H⟩:=hrel;clear d8 b3 d2;have z:=aj wr bx H.o.box;by_cases D:i<ks.length
    ·have i3:(i:Int)<(ks.length:Nat):=(by omega);have y:=ae D;have N:=ae (show i<=1000000 by omega);have S:a+rows.length<=1000000:=by
      have h1:=L.o;have h2:i*rows.length<=8*100000:=Nat.mul_le_mul (by omega) x.o;have:=x.o;omega
     have hw:=ajC a rows.length S;have g1:=afd a rows.length S;have d5:=ae (d4.o wr H.o i c8 D);have d3:aa (a+rows.length=1+(i+1)*rows.length):=ae (by rw[L.o,Nat.succ_mul];omega);clear D hi c8 S;generalize a+rows.length=a2 at hw g1 d3;go_wp2_with fail;refine d5.o.mono ?_;rintro e V5 ⟨rfl,d⟩;have a4:=ae (H.o.below d);clear d d5 z H;go_wp2;go_roundw
     case rel=>exact⟨i+1,a2,by omega,y.o,by first|exact Cf i N.o|rfl,by first|rfl|rw[hw],d3,a4⟩
     case measure=>first|exact vB y.o N.o|exact rQ y.o
    ·obtain rfl:i=ks.length:=(by omega);have a4:=H;have e5:=ae (b0.o wr wr.heap.size rfl);have a8:aa ((s.now.map (·.1)).length=a+(if 0<ct then 1 else 0)):=ae (by rw[e0.o,L.o];omega);have S:a<=900001:=by
      have h1:=L.o;have h2:ks.length*rows.length<=8*100000:=Nat.mul_le_mul (by omega) x.o;omega
     have hw:=RU a (by omega);have g1:=abf a (by omega);clear D hi c8 d4 e0 L b0 S;go_wp2_with fail;refine e5.o.mono ?_;rintro e O ⟨rfl,d⟩;have c0:=ae (a4.o.below d);clear d e5 a4 H z;go_wp2_with fail;refine(i6.o _ c0.o.bel).mono ?_;rintro e P ⟨v,rfl,n,ha,d⟩;have c1:=ae (c0.o.below d);have a7:=ae (a5.o P c1.o.bel);have e6:=ae (c5.o P);clear ha d i6 c0 a5 c5;by_cases I:0<ct
     ·rw[if_pos I]at n|-;rw[if_pos I]at a8;have n:bT P _ v (R.cp ct):=n;obtain⟨bo,oo,rfl⟩:=xx n (λe=>by have:=R.dr ct;rw[e]at this;cases this);rw[R.dr];rw[a8.o]at a7;clear n I;go_wp2_with fail;refine e6.o.mono ?_;rintro e V3 ⟨rfl,rfl⟩;go_wp2_with fail;refine a7.o.mono ?_;rintro e V4 ⟨A4,rfl,hst,ha,d,Q⟩;have b7:=ae (c1.o.below d);clear hst ha d Q;go_wp2;go_ret;exact⟨rfl,b7.o.bel⟩
     ·rw[if_neg I]at n|-;rw[if_neg I,Nat.add_zero]at a8;rw[a8.o]at a7;have n:bT P _ v []:=n;have h6:v= .slice none 0 0\/∃b o,v= .slice (some ⟨b,o,none⟩) 0 0:=by
       rcases n with⟨e,_⟩|⟨b,i0,e,_⟩
       ·exact .inl e
       ·exact .inr ⟨b,i0,e⟩
      clear n I;rcases h6 with rfl|⟨bo,oo,rfl⟩
      all_goals
       go_wp2_with fail;refine e6.o.mono ?_;rintro e V3 ⟨rfl,rfl⟩;go_wp2_with fail;refine a7.o.mono ?_;rintro e V4 ⟨A4,rfl,hst,ha,d,Q⟩;have b7:=ae (c1.o.below d);clear hst ha d Q;go_wp2;go_ret;exact⟨rfl,b7.o.bel⟩
end
end Go.Proofs.YtipljcmmokaokaaGreat
