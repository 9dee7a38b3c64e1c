import Derived.Test.YtipljcmmokaokaaGreatQ04
import Derived.Test.YtipljcmmokaokaaGreatQLay
import Derived.Sort.OwnSorted
import Derived.RangeFuncNested
import Derived.RangeFuncBound
import Derived.RangeFuncCalls
import Derived.RangeFuncLeaves
import Derived.RangeFuncBox
import Derived.Shelf.Abstract
import Derived.Shelf.RegionOpen
import Derived.OwnWalkIn
import Derived.TacticsInMore
import Derived.LoopNIn
import Derived.LoopIn
import Derived.Maps.OwnIn
import Derived.Sort.MapsRangeIn
import Derived.Deep.CutRange
set_option linter.unusedVariables false
set_option linter.unusedSimpArgs false
set_option maxHeartbeats 40000000
namespace Go.Proofs.YtipljcmmokaokaaGreat
open Go.RowKit Go.Lib Go.Maps Go.WideMaps
set_option maxRecDepth 100000
theorem br.cap {w:World} {p:Nat} {M:Nat->Prop} {s:J.St} (h:br w p M s):br w p (λk=>M k/\k<w.heap.size) s:=by
 have e:=h.lt;obtain⟨F,G,N,wr,O,S,T,U,V,Y,d2,I,h1,a,b,c⟩:=h;exact⟨F,G,N,wr,O,S,T,U,V,Y,d2,I,h1,⟨a,e⟩,b.keep ⟨rfl,rfl,rfl,aq _,λ_ _ _=>rfl,λ_ _ h=>h.1⟩ (λk d f _=>⟨⟨f,d⟩,rfl⟩),c⟩
theorem Step.tU {w w':World} {M M':Nat->Prop} (h:Step (λk=>M k/\k<w.heap.size) M' w w'):Step M M' w w':=
 ⟨h.os,h.tape,h.output,h.size,λk a c=>h.block k a (λh=>c h.1),λk a b=>(h.sub k a b).1⟩
theorem bT.len {w:World} {M:Nat->Prop} {A:Option Addr} {n c:Nat} {l:List UInt8} (h:bT w M (.slice A n c) l):l.length=n/\c=n:=by
 rcases h with⟨e,rfl⟩|⟨b,o,e,_⟩
 ·injection e with _ e1 e2;exact⟨e1.symm,by omega⟩
 ·injection e with _ e1 e2;exact⟨e1.symm,by omega⟩
theorem bT.aU {w:World} {M:Nat->Prop} {v:Value} {l:List UInt8} (h:bT w M v l):∃A,v= .slice A l.length l.length:=by
 rcases h with⟨rfl,rfl⟩|⟨b,o,e,_⟩
 ·exact⟨_,rfl⟩
 ·exact⟨_,e⟩
theorem Sl.aU {w:World} {M:Nat->Prop} {v:Value} {l:List UInt8} (h:Sl w M v l):∃A c,v= .slice A l.length c:=by
 rcases h with⟨_,rfl,rfl⟩|⟨b,o,c,e,_⟩
 ·exact⟨_,_,rfl⟩
 ·exact⟨_,_,e⟩
theorem ZB (p:Nat) (M:Nat->Prop) (s:J.St) (key:ByteArray) (v:Value) (val:List UInt8) (w:World) (h:br w p M s) (z:s.opn=true) (x:¬key.toList=[]) (I:key.size<=300) (N:val.length<=8192) (t:Nat->Prop) (l:Sl w t v val):
  Calls Tryz.prog 49 #[.pointer (some ⟨p,0,none⟩), .string key,v] w λe w'=>e= .returned (.int .i64 (J.add s ⟨key.data.toList,val,false⟩).2)/\∃M',br w' p M' (J.add s ⟨key.data.toList,val,false⟩).1/\Step M M' w w':=by
 have F:=ae (kD p M s true w h);have D:=ae (fC v val w t l (by omega));have E:=ae h;have o:=ae z;obtain⟨A,c,rfl⟩:=l.aU;have K:¬(300:Int)<(key.size:Int):=by omega
 have O:¬(8192:Int)<(val.length:Int):=by omega
 have L:key.toList.isEmpty=false:=by simpa using x
 clear z h l;go_enter Tryz.func49,Tryz.ntmps49;go_wp2_with fail;refine F.o.mono ?_;rintro e w1 ⟨rfl,rfl⟩;rw[o.o];go_wp2_with fail
 all_goals first|(exfalso;exact absurd (by assumption) x)|skip
 refine D.o.mono ?_;rintro e w1 ⟨v1,rfl,B,i⟩;have j:bT w1 (λk=>M k/\k<w.heap.size) v1 val:=B.weak (λk h=>h.2);have hst:br w1 p (λk=>M k/\k<w.heap.size) s:=E.o.cap.below i;obtain⟨m,rfl⟩:=j.aU;have C:Step (λk=>M k/\k<w.heap.size) (λk=>M k/\k<w.heap.size) w w1:=Step.aC i;have G:=ae j;have r:=ae hst;have q:=ae C;clear B i j hst C;have y:key.data.toList.length=key.size:=rfl;have u:(⟨key.data.toList,val,false⟩:J.cd).len=3+key.size+(4+val.length):=by simp[J.cd.len,y]
 have n:=ae u;clear u y;go_wp2_with fail;by_cases b:4194304 - s.size<3+key.size+(4+val.length)
 ·refine(CY p _ s key m val.length val.length false w1 r.o (by omega) (by omega) (by simpa using b)).mono ?_;rintro e H ⟨rfl,d,hst⟩;have a:J.add s ⟨key.data.toList,val,false⟩=({s with spoilt:=true},9):=(by unfold J.add;rw[n.o,if_pos b]);have f:=ae d;have g:=ae hst;have HR:=ae a;clear d hst a b;go_wp2_with fail;go_ret;rw[HR.o];exact⟨rfl,_,f.o,(q.o.trans g.o).tU⟩
 ·refine(Uh p _ s key m val.length val.length val w1 r.o (by omega) (by omega) G.o (by omega) o.o).mono ?_;rintro e H ⟨rfl,M',d,hst⟩;have a:(J.add s ⟨key.data.toList,val,false⟩).2=0:=(by unfold J.add;rw[n.o,if_neg b]);have f:=ae d;have g:=ae hst;have HR:=ae a;clear d hst a b;go_wp2_with fail;go_ret;rw[HR.o];exact⟨rfl,_,f.o,(q.o.trans g.o).tU⟩
theorem Gm (p:Nat) (M:Nat->Prop) (s:J.St) (key:ByteArray) (w:World) (h:br w p M s) (Q:key.size<=1000):
  Calls Tryz.prog 48 #[.pointer (some ⟨p,0,none⟩), .string key] w λe w'=>e= .returned (.int .i64 (J.delete s key.data.toList).2)/\∃M',br w' p M' (J.delete s key.data.toList).1/\Step M M' w w':=by
 have A:=ae (kD p M s true w h);have d:=ae h;obtain⟨F,G,N,wr,O,S,T,U,V,Y,d2,I,h1,B,n,C⟩:=h;obtain⟨D,u,E,q,L⟩:=n.now;have x:=ae q;have z:=ae u;have r:keyOf Tryz.prog 9 (.string key)=some (.string key.data.toList):=keyOf_string_mk Tryz.underlying9 (by unfold maxLen;omega);have y:=ae r;have H:=aj w p h1;clear h1 B n C u E q L r;go_enter Tryz.func48,Tryz.ntmps48;go_wp2_with fail;refine A.o.mono ?_;rintro e w1 ⟨rfl,rfl⟩;cases ho:s.opn with
 |false=>
  have a:J.delete s key.data.toList=(s,6):=(by unfold J.delete;rw[if_pos ho]);have HR:=ae a;clear a;go_wp2_with fail;go_ret;rw[HR.o];exact⟨rfl,M,d.o,Step.refl _ _⟩
 |true=>
  have i:=ae ho;rw[ho]at H;clear ho;go_wp2_with (at_lookup;refine wpList_lookup_own_ok _ rfl _ _ 94 rfl 9 40 sM Tryz.underlying94 dD (OG _) .nil [] rfl F _ D rfl z.o _ _ rfl y.o ?_);intro v W K;clear K;rw[x.o];cases hl:J.look s.now key.data.toList with
  |none=>
   have a:J.delete s key.data.toList=(s,7):=(by unfold J.delete;rw[if_neg (by rw[i.o];simp),if_pos hl]);have HR:=ae a;clear a hl;go_wp2_with fail;go_ret;rw[HR.o];exact⟨rfl,M,d.o,Step.refl _ _⟩
  |some l=>
   have a:J.delete s key.data.toList=J.add s ⟨key.data.toList,[],true⟩:=(by unfold J.delete;rw[if_neg (by rw[i.o];simp),if_neg (by rw[hl];simp)]);have t:key.data.toList.length=key.size:=rfl;have o:(⟨key.data.toList,[],true⟩:J.cd).len=3+key.size:=(by simp[J.cd.len,t]);have HR:=ae a;have m:=ae o;clear a hl t o;go_wp2_with fail;by_cases b:4194304 - s.size<3+key.size
   ·refine(CY p M s key none 0 0 true w d.o (by omega) (by omega) (by simpa using b)).mono ?_;rintro e P ⟨rfl,c,hst⟩;have a:J.add s ⟨key.data.toList,[],true⟩=({s with spoilt:=true},9):=(by unfold J.add;rw[m.o,if_pos b]);have f:=ae c;have g:=ae hst;have k:=ae a;clear c hst a b;go_wp2_with fail;go_ret;rw[HR.o,k.o];exact⟨rfl,_,f.o,g.o⟩
   ·refine(Pf p M s key w d.o (by omega) (by omega) i.o).mono ?_;rintro e P ⟨rfl,M',c,hst⟩;have a:(J.add s ⟨key.data.toList,[],true⟩).2=0:=(by unfold J.add;rw[m.o,if_neg b]);have f:=ae c;have g:=ae hst;have k:=ae a;clear c hst a b;go_wp2_with fail;go_ret;rw[HR.o,k.o];exact⟨rfl,_,f.o,g.o⟩
structure iJ (w w':World) (M:Nat->Prop) (v v':Value) (l:List UInt8):Prop where
 own:w'.ownsRow 0 5 1 v' l.length (dK l)
 os:w'.os=w.os
 tape:w'.tape=w.tape
 output:w'.output=w.output
 size:w.heap.size<=w'.heap.size
 block:∀k,k<w.heap.size->¬(M k/\v.ownBlock=some k)->w'.heap[k]? =w.heap[k]?
 row:∀k,v'.ownBlock=some k->k<w.heap.size->M k/\v.ownBlock=some k
theorem uG (w:World) (M:Nat->Prop) (v:Value) (l:List UInt8) (h:fP w M v l) (s:Nat->Prop) (A:Option Addr) (m c:Nat) (x:List UInt8) (r:By w s A m x) (h0:0<m) (C:l.length+m<=100000000) (p:TypeId):
  ∃v' w',(Builtin.append_ #[40,40] p #[v, .slice A m c]).run Tryz.prog w= .ok v' w'/\iJ w w' M v v' (l++x):=by
 have n:x.length=m:=r.1;have own:(w.ownsRow 0 5 1 v l.length (dK l)/\∀k,v.ownBlock=some k->M k)->∃v' w',(Builtin.append_ #[40,40] p #[v, .slice A m c]).run Tryz.prog w= .ok v' w'/\iJ w w' M v v' (l++x):=by
  rintro⟨h1,y⟩;obtain⟨v',w',q,g1,g,f,_⟩:=gC w 0 v l.length l h1 s A m c x r C (Nat.zero_le _) p;refine⟨v',w',q,by rw[List.length_append,n];exact g1,g.os,g.tape,g.output,g.size,λk i K=>g.block k i (λe=>K ⟨y k e.symm,e.symm⟩),λk e i=> ?_⟩;rcases f with f|f
  ·exact⟨y k (f▸e),f▸e⟩
  ·rw[f]at e;injection e with e;omega
 rcases h with h|⟨rfl,rfl⟩|⟨b,o,rfl,U,T,S,N⟩
 ·exact own h
 ·exact own ⟨World.ownsRow_nil _ _ _ _,λk e=>by cases e⟩
 ·obtain⟨i0,I,O,B,Q⟩:=info_parts Tryz.Jk;obtain⟨t,rfl,_,_,D⟩:=r.at_ h0;have holds:∀j u,(dK l)[j]? =some u->w.cell? ((⟨b,o,none⟩:Addr).add j)=some u:=by
   intro j u a;have d:j<l.length:=by
    by_cases d:j<l.length
    ·exact d
    ·rw[List.getElem?_eq_none (by rw[fu];omega)]at a;cases a
   rw[uV l j d]at a;injection a with a;rw[<-a];obtain⟨b',o',e,_,_,E⟩:=N.2 (by omega);injection e with e;injection e with e1 e2;subst e1 e2;rw[fB];exact E j d
  have L:∀j u,(dK x)[j]? =some u->w.cell? (t.add j)=some u:=by
   intro j u a;have d:j<x.length:=by
    by_cases d:j<x.length
    ·exact d
    ·rw[List.getElem?_eq_none (by rw[fu];omega)]at a;cases a
   rw[uV x j d]at a;injection a with a;rw[<-a];exact D j d
  have H:=grownCap_ge w (l.length+m) l.length 5;have F:grownCap w (l.length+m) l.length 5<=maxLen:=grownCap_le_maxLen w (l.length+m) l.length 5 (by unfold maxLen;omega);have q:=run_append_grow (P:=Tryz.prog) w 40 p 5 i0 (.int .u8 0) Tryz.underlying40 I O ⟨b,o,none⟩ l.length l.length (dK l) (by rw[fu,B,Nat.mul_one]) holds t m c (dK x) (by rw[fu,B,n,Nat.mul_one]) L (by omega) (by omega) (by rw[Q];exact growslice_fits (by omega) (by omega));refine⟨_,_,q, ?_,rfl,rfl,rfl,by simp,λk i _=>heap_alloc_old w.drew _ i,λk e i=> ?_⟩
  ·have z:(dK (l++x)).length=(l.length+m)*1:=(by rw[fu,List.length_append,n,Nat.mul_one]);rw[show(l++x).length=l.length+m by rw[List.length_append,n]];refine⟨z, .inr ⟨w.heap.size,_,_,rfl,Nat.zero_le _,heap_alloc_new w.drew _,H,F, ?_, ?_⟩⟩
   ·have G:(Value.int .u8 0).cells.size=1:=rfl;simp only[Array.size_append,List.size_toArray,size_zeroCells,G,fu,n,Nat.mul_one];omega
   ·simp only[Array.toList_append,List.append_assoc];rw[<-List.append_assoc,<-zV];rw[show(l.length+m)*1=(dK (l++x)).length from z.symm];exact List.take_left
  ·simp[Value.ownBlock]at e;omega
theorem Tryz.ac6:(Tryz.prog.info? 139).map (λi=>(i.zero,i.size,i.bytes))=some (some (.agg #[.int .u8 0, .int .i64 0, .slice none 0 0]),3,40):=by kernel_rfl
theorem Am (L:List J.Wr) (vs:List Value) (wr:J.Wr) (x:Value) (h:vs.length=L.length):dE (L++[wr]) (vs++[x])=dE L vs++[.int .u8 (wr.kind:Nat), .int .i64 (wr.idx:Nat),x]:=by
 unfold dE;rw[List.zip_append h.symm];simp
def bM (w:World) (p:Nat) (M:Nat->Prop) (s:J.St):Prop:=
 ∃(F:Nat) (G:Option Nat) (N wr O S T U V Y d2 I:Value),
  w.heap[p]? =some (.cells (bK s F G N wr O S T U V Y d2 I) 99 (0,0))/\M p/\cA w M s F G N wr O S T U V Y d2 I
theorem br.q {w:World} {p:Nat} {M:Nat->Prop} {s:J.St} (h:br w p M s):bM w p M s/\Ok s:=by
 obtain⟨F,G,N,wr,O,S,T,U,V,Y,d2,I,h1,a,b,c⟩:=h;exact⟨⟨F,G,N,wr,O,S,T,U,V,Y,d2,I,h1,a,b⟩,c⟩
theorem bM.r {w:World} {p:Nat} {M:Nat->Prop} {s:J.St} (h:bM w p M s) (c:Ok s):br w p M s:=by
 obtain⟨F,G,N,wr,O,S,T,U,V,Y,d2,I,h1,a,b⟩:=h;exact⟨F,G,N,wr,O,S,T,U,V,Y,d2,I,h1,a,b,c⟩
theorem bM.below {w w':World} {p:Nat} {M:Nat->Prop} {s:J.St} (h:bM w p M s) (a:Below w.heap.size w w'):bM w' p M s:=by
 obtain⟨F,G,N,wr,O,S,T,U,V,Y,d2,I,h1,b,c⟩:=h;exact⟨F,G,N,wr,O,S,T,U,V,Y,d2,I,(a.block p (ai h1).1).trans h1,b,c.below a⟩
theorem bM.lt {w:World} {p:Nat} {M:Nat->Prop} {s:J.St} (h:bM w p M s):p<w.heap.size/\M p:=by
 obtain⟨F,G,N,wr,O,S,T,U,V,Y,d2,I,h1,a,_⟩:=h;exact⟨(ai h1).1,a⟩
theorem bM.cap {w:World} {p:Nat} {M:Nat->Prop} {s:J.St} (h:bM w p M s):bM w p (λk=>M k/\k<w.heap.size) s:=by
 have d:=h.lt.1;obtain⟨F,G,N,wr,O,S,T,U,V,Y,d2,I,h1,a,b⟩:=h;exact⟨F,G,N,wr,O,S,T,U,V,Y,d2,I,h1,⟨a,d⟩,b.keep ⟨rfl,rfl,rfl,aq _,λ_ _ _=>rfl,λ_ _ h=>h.1⟩ (λk c e _=>⟨⟨e,c⟩,rfl⟩)⟩
section
variable {w w' : World} {M M' : Nat -> Prop} {s : J.St} {F : Nat} {G : Option Nat} {N wr O S T U V Y d2 I : Value}
theorem kC.push {W w1:World} {v v' x:Value} {L:List J.Wr} {c:J.Wr} {vs:List Value} (h1:vs.length=L.length) (l:∀i (h:i<L.length) (r:i<vs.length),Sl w M vs[i] L[i].bs) (j:∀k,v.ownBlock=some k->M k)
  (a:Below w.heap.size w W) (p:w1.ownsRow 0 139 3 v' (L.length+1) (dE L vs++[.int .u8 (c.kind:Nat), .int .i64 (c.idx:Nat),x])) (b:W.grownBy w1 v.ownBlock) (n:v'.ownBlock=v.ownBlock\/v'.ownBlock=some W.heap.size)
  (q:Sl w M x c.bs):kC w1 (λk=>M k\/v'.ownBlock=some k) v' (L++[c])/\Step M (λk=>M k\/v'.ownBlock=some k) w w1:=by
 have g:Step M (λk=>M k\/v'.ownBlock=some k) w w1:=by
  refine⟨b.os.trans a.os,b.tape.trans a.tape,b.output.trans a.output,aw a.size b.size,λk f o=> ?_,λk f e=> ?_⟩
  ·exact(b.block k (av f a.size) (λe=>o (j k e.symm))).trans (a.block k f)
  ·rcases e with e|e
   ·exact e
   ·rcases n with d|d
    ·exact j k (d▸e)
    ·rw[d]at e;injection e with e;have:=a.size;omega
 refine⟨⟨vs++[x],by simp[h1], ?_,λk e=> .inr e,λi m s=> ?_⟩,g⟩
 ·rw[Am _ _ _ _ h1];simpa using p
 ·by_cases e:i<L.length
  ·rw[List.getElem_append_left e,List.getElem_append_left (by omega)];exact(l i e (by omega)).step g
  ·have:i=L.length:=(by simp at m;omega);subst this;rw[List.getElem_append_right (by omega),List.getElem_append_right (by omega)];simp only[h1,Nat.sub_self,List.getElem_singleton];exact q.step g
theorem cA.ZC {L:List J.Wr} {v':Value} {n:Nat} (h:cA w M s F G N wr O S T U V Y d2 I) (a:Step M M' w w') (f:∀k,M k->M' k) (d:∀k,k<w.heap.size->wr.ownBlock≠some k->w'.heap[k]? =w.heap[k]?) (u:kC w' M' v' L):
  cA w' M' {s with writes:=L,logged:=n} F G N v' O S T U V Y d2 I:=by
 obtain⟨vs,g1,g,t,D⟩:=h.wrs;have r:∀{e:TypeId} {v:Value} {base size n:Nat} {xs:List Value},e≠139->w.ownsRow base e size v n xs->∀k,v.ownBlock=some k->wr.ownBlock≠some k:=by
  intro e v base size n xs x y k c q;rcases g.2 with⟨rfl,_⟩|⟨g',cap,cur,rfl,_,hh,_⟩
  ·simp[Value.ownBlock]at q
  ·have:g'=k:=(by simpa [Value.ownBlock] using q);subst this;exact df y hh x c
 have p:∀{v:Value} {l:List UInt8},fP w M v l->∀k,v.ownBlock=some k->wr.ownBlock≠some k:=by
  intro v l ha k c;rcases ha with⟨h1,_⟩|⟨rfl,_⟩|⟨b,o,rfl,_,E,z,_⟩
  ·exact r (by decide) h1 k c
  ·cases c
  ·simp[Value.ownBlock]at c;subst c;exactλe=>z (t _ e)
 refine⟨h.now.step a (d F h.now.lt (fE g h.now)),f _ h.mbn, ?_,h.chs.keep a h.mch (λk e=> ?_),λk e=>f _ (h.mch k e),u,h.f0.step a,h.f1.step a,h.f2.step a,h.f3.step a,h.e0.step a,h.e1.step a,
  h.e2.keep a (λk _ m=>f k m) (λk e _=>d k (fx h.e2 k e) (p h.e2 k e)),h.e3.keep a (λk _ m=>f k m) (λk e _=>d k (fx h.e3 k e) (p h.e3 k e)),
  λk e2 e3 m=>h.dd k e2 e3 (a.sub k (fx h.e2 k e2) m)⟩
 ·cases G with
  |none=>exact h.was
  |some b=>obtain⟨A,i,B,C⟩:=h.was;exact⟨A,i.step a (d b i.lt (fE g i)),f _ B,C⟩
 ·obtain⟨H,_,j,_⟩:=h.chs;exact d k (j.lt k e).2 (r (by decide) j k e)
theorem jD {v v2:Value} {l:List UInt8} {e:TypeId} {base size n:Nat} {xs:List Value} (ha:fP w M v l) (a:w.ownsRow base e size v2 n xs) (c:e≠5) (h:∀k,v2.ownBlock=some k->M k):∀k,v2.ownBlock=some k->¬(M k/\v.ownBlock=some k):=by
 rintro k e2 ⟨f,e1⟩;rcases ha with⟨h1,_⟩|⟨rfl,_⟩|⟨b,o,rfl,_,g,d,_⟩
 ·rcases h1.2 with⟨rfl,_⟩|⟨g',cap,cur,rfl,_,hh,_⟩
  ·cases e1
  ·have:g'=k:=(by simpa [Value.ownBlock] using e1);subst this;exact df a hh c e2
 ·cases e1
 ·simp[Value.ownBlock]at e1;subst e1;exact d f
theorem cA.ZE {l:List UInt8} {v':Value} (h:cA w M s F G N wr O S T U V Y d2 I) (ha:iJ w w' M d2 v' l):
  cA w' (λk=>M k\/v'.ownBlock=some k) {s with disk:={s.disk with a0:=l}} F G N wr O S T U V Y v' I/\Step M (λk=>M k\/v'.ownBlock=some k) w w':=by
 have a:Step M (λk=>M k\/v'.ownBlock=some k) w w':=⟨ha.os,ha.tape,ha.output,ha.size,λk d p=>ha.block k d (λe=>p e.1),λk d e=>e.elim id (λe=>(ha.row k e d).1)⟩;have f:∀k,M k->M k\/v'.ownBlock=some k:=λk=> .inl;have j:∀{b:Nat} {m:List (J.B×J.B)},dx w M b m->M b->¬(M b/\d2.ownBlock=some b):=λg q e=>jA h.e2 g q e.2;refine⟨⟨h.now.step a (ha.block F h.now.lt (j h.now h.mbn)),f _ h.mbn, ?_,h.chs.keep a h.mch (λk e=> ?_),λk e=>f _ (h.mch k e),h.wrs.keep a (λk e=> ?_) (λk e=> ?_),h.f0.step a,h.f1.step a,h.f2.step a,h.f3.step a,h.e0.step a,h.e1.step a,
  .inl ⟨ha.own,λk e=> .inr e⟩,h.e3.keep a (λk _ m=>f k m) (λk e m=>ha.block k (fx h.e3 k e) (λe2=>h.dd k e2.2 e m)),λk e2 e3 m=> ?_⟩,a⟩
 ·cases G with
  |none=>exact h.was
  |some b=>obtain⟨r,i,n,t⟩:=h.was;exact⟨r,i.step a (ha.block b i.lt (j i n)),f _ n,t⟩
 ·obtain⟨o,_,c,_⟩:=h.chs;exact ha.block k (c.lt k e).2 (jD h.e2 c (by decide) h.mch k e)
 ·obtain⟨o,_,_,c,_⟩:=h.wrs;exact f _ (c k e)
 ·obtain⟨o,_,c,g,_⟩:=h.wrs;exact ha.block k (c.lt k e).2 (jD h.e2 c (by decide) g k e)
 ·have d:=fx h.e3 k e3;have:=ha.row k e2 d;exact h.dd k this.2 e3 this.1
theorem cA.ZF {l:List UInt8} {v':Value} (h:cA w M s F G N wr O S T U V Y d2 I) (ha:iJ w w' M I v' l):
  cA w' (λk=>M k\/v'.ownBlock=some k) {s with disk:={s.disk with a1:=l}} F G N wr O S T U V Y d2 v'/\Step M (λk=>M k\/v'.ownBlock=some k) w w':=by
 have a:Step M (λk=>M k\/v'.ownBlock=some k) w w':=⟨ha.os,ha.tape,ha.output,ha.size,λk d p=>ha.block k d (λe=>p e.1),λk d e=>e.elim id (λe=>(ha.row k e d).1)⟩;have f:∀k,M k->M k\/v'.ownBlock=some k:=λk=> .inl;have j:∀{b:Nat} {m:List (J.B×J.B)},dx w M b m->M b->¬(M b/\I.ownBlock=some b):=λg q e=>jA h.e3 g q e.2;refine⟨⟨h.now.step a (ha.block F h.now.lt (j h.now h.mbn)),f _ h.mbn, ?_,h.chs.keep a h.mch (λk e=> ?_),λk e=>f _ (h.mch k e),h.wrs.keep a (λk e=> ?_) (λk e=> ?_),h.f0.step a,h.f1.step a,h.f2.step a,h.f3.step a,h.e0.step a,h.e1.step a,
  h.e2.keep a (λk _ m=>f k m) (λk e m=>ha.block k (fx h.e2 k e) (λe2=>h.dd k e e2.2 m)), .inl ⟨ha.own,λk e=> .inr e⟩,λk e2 e3 m=> ?_⟩,a⟩
 ·cases G with
  |none=>exact h.was
  |some b=>obtain⟨r,i,n,t⟩:=h.was;exact⟨r,i.step a (ha.block b i.lt (j i n)),f _ n,t⟩
 ·obtain⟨o,_,c,_⟩:=h.chs;exact ha.block k (c.lt k e).2 (jD h.e3 c (by decide) h.mch k e)
 ·obtain⟨o,_,_,c,_⟩:=h.wrs;exact f _ (c k e)
 ·obtain⟨o,_,c,g,_⟩:=h.wrs;exact ha.block k (c.lt k e).2 (jD h.e3 c (by decide) g k e)
 ·have d:=fx h.e2 k e2;have:=ha.row k e3 d;exact h.dd k e2 this.2 this.1
end
end Go.Proofs.YtipljcmmokaokaaGreat
namespace Go.Proofs.YtipljcmmokaokaaGreat
open Go.RowKit Go.Lib Go.Maps Go.WideMaps Go.Sort Go.Shelf
set_option maxRecDepth 100000
attribute [local go_sem] Oper.semAt_some
def Gn (C:World->Nat->Prop) (W W':World):Prop:=
 (∀k o,W.heap[k]? =some o->o.isCells=true->¬C W k->W'.heap[k]? =some o)/\W.heap.size<=W'.heap.size/\∀k,k<W.heap.size->C W' k->C W k
theorem Gn.t {C:World->Nat->Prop} {A B D:World} (h:Gn C A B) (k:Gn C B D):Gn C A D:=
 ⟨λj o d a c=>k.1 j o (h.1 j o d a c) a (λe=>c (h.2.2 j (ai d).1 e)),aw h.2.1 k.2.1,λj b hd=>h.2.2 j b (k.2.2 j (av b h.2.1) hd)⟩
def keysOf (m:List (J.B×J.B)) (pre:ByteArray):List J.B:=(m.map (·.1)).filter λk=>Lib.hasPrefix k pre.data.toList
theorem iK (m:List (J.B×J.B)) (pre:ByteArray):(keysOf m pre).length<=m.length:=by
 have:=List.length_filter_le (λk=>Lib.hasPrefix k pre.data.toList) (m.map (·.1));rw[List.length_map]at this;exact this
theorem ym {m:List (J.B×J.B)} (h:J.sA m) (pre:ByteArray) {ss:List J.B} (d:ss.Perm (m.map (·.1))):(ss.filter λk=>Lib.hasPrefix k pre.data.toList).mergeSort (λx y=>decide (x<=y))=keysOf m pre:=by
 rw[mergeSort_of_perm (d.filter _)];refine List.mergeSort_of_pairwise (List.Pairwise.filter _ ?_);rw[List.pairwise_map];exact List.Pairwise.imp (λ{a b} c=>by simpa using List.le_of_lt c) h
theorem Tryz.XJ:(Tryz.prog.info? 9).map (λi=>(i.zero,i.size,i.bytes))=some (some (.string ⟨#[]⟩),1,16):=by kernel_rfl
theorem ni {w w':World} (h:Below w.heap.size w w'):w.grownBy w' none:=
 ⟨h.os,h.tape,h.output,h.size,λk a _=>h.block k a⟩
theorem Le {w:World} {base n size:Nat} {e:TypeId} {v:Value} {xs:List Value} (h:w.ownsRow base e size v n xs):∀g,v.ownBlock=some g->∃o,w.heap[g]? =some o/\o.isCells=true:=by
 intro g a;rcases h.2 with⟨rfl,_⟩|⟨g',cap,cur,rfl,_,hh,_⟩
 ·cases a
 ·have:g'=g:=(by simpa [Value.ownBlock] using a);subst this;exact⟨_,hh,rfl⟩
theorem Gp (n:Nat) (hn:1<=n) (l Bs Bp p b:Nat) (pre:ByteArray) (m:List (J.B×J.B)) (M:Nat->Prop) (C:World->Nat->Prop) (Jv Jx:List J.B->World->Prop) (h7:m.length<=100000000)
  (hY:∀xs x W,Jv xs W->xs.length<(keysOf m pre).length->YieldAt Fence.wide (n - 1) Tryz.prog l #[encStr x] W λe W'=>(e= .returned (.bool true)/\Jv (xs++[x]) W'/\Gn C W W')\/(e= .returned (.bool false)/\Jx (xs++[x]) W'))
  (W:World) (hJ:AbidesFrom W.heap.size Jv) (hs:W.cell? ⟨Bs,0,none⟩=some (.pointer (some ⟨p,0,none⟩))) (hp:W.cell? ⟨Bp,0,none⟩=some (.string pre)) (h9:W.cell? ⟨p,2,none⟩=some (.map (some b))) (hm:dx W M b m)
  (hC:∀W',Below W.heap.size W W'->∀k,C W' k->k<W.heap.size) (h0:Jv [] W):
  CallsIn Fence.wide n Tryz.prog 132 #[.func (.yield l) #[] #[], .pointer (some ⟨Bs,0,none⟩), .pointer (some ⟨Bp,0,none⟩)] W λe W'=>(∃v,e= .returned v)/\
   ((∃ys,ys=keysOf m pre/\Jv ys W')\/(∃q,q<+:keysOf m pre/\Jx q W')):=by
 obtain⟨i0,hi,g6,g7,g8⟩:=info_parts Tryz.XJ;have b3:=hm;obtain⟨D,Y,c5,a8,g5⟩:=hm;have g0:=Y.lt;have e4:Maps.size D=m.length:=b3.size_eq Y a8;have HM:=ae b3;have f9:=ae e4;have HH:=ae a8;have b8:=ae Y;have HY:=ae hY;have HC:=ae hC;have HJ:=ae hJ;have H0:=ae h0;have HA:=ae c5;clear g5 b3 a8 e4 hY hC hJ h0 c5;have c1:Bp<W.heap.size:=World.block_lt_of_cell? W ⟨Bp,0,none⟩ hp;refine callsIn_of_wp Tryz.func132 rfl trivial ?_ rfl;simp only[Tryz.ntmps132,List.size_toArray,List.length_cons,List.length_nil,Nat.reduceAdd,Nat.reduceSub,Array.replicate_succ,Array.replicate_zero,List.push_toArray,List.append_toArray,List.nil_append,List.cons_append]
 gi_wp2_with (first
  |(gi_at_range;refine wpListIn_range_own _ rfl _ 94 rfl 9 40 sM Tryz.underlying94 _ b (Maps.size D) _ rfl Y ?_;intro w0 g4 g1 i1)
  |gi_in)
 go_frame
 gi_loopw [4] (λlv wr=>∃(left:Lit->Bool) (a5:Nat) (ss:List J.B),wr.ranges Tryz.prog 9 dD b W.heap.size (Maps.size D) D left a5/\ss.length+a5<=m.length/\
   wr.ownsRow W.heap.size 9 1 lv (ss.filter λk=>Lib.hasPrefix k pre.data.toList).length ((ss.filter λk=>Lib.hasPrefix k pre.data.toList).map encStr)/\Collected D left ss/\Below W.heap.size W wr)
  (λ_ wr=>wr.rangeLeft b W.heap.size)
 case atStart=>
  exact⟨_,_,[],g4,by have:=f9.o;simp;omega,World.ownsRow_nil _ _ _ _,Collected.start D,(ak _ W).grown g1 (aq _) (λj a=>by cases a)⟩
 case round=>
  obtain⟨left,a5,ss,s,c8,z,u,Q⟩:=hrel;have c4:Jv [] wr:=HJ.o [] W wr none H0.o (ni Q) (λr e=>by cases e);have i4:wr.cell? ⟨Bp,0,none⟩=some (.string pre):=(Q.cell (p:=⟨Bp,0,none⟩) c1).trans hp;have f:=ae Q;have f0:=ae c4;clear c4 Q
  gi_wp2_with (first
   |(gi_at_next;refine wpListIn_next_ranges _ rfl _ rfl 9 sM dD encStr id (λkey kl hk=>by obtain⟨x,hx,_⟩:=Maps.keyOf_str Tryz.underlying9 hk;exact⟨x,hx⟩) (λv y hv=>⟨v,rfl⟩) b W.heap.size (Maps.size D) _ _ _ rfl s ?_ ?_)
   |gi_in)
  ·intro c7 b1;have e1:ss.Perm (m.map (·.1)):=(u.perm b8.o sM Tryz.underlying9 b1).trans (HM.o.perm D _ b8.o HH.o).symm;have e3:=ym HA.o pre e1;have HS:=ae e3;clear e1 e3;rcases z.2 with⟨rfl,d7⟩|⟨g,cap,cur,rfl,a6,U,h1,h2,h3,h4⟩
   ·have d5:keysOf m pre=[]:=by
     have:=congrArg List.length HS.o;rw[List.length_mergeSort,d7]at this;exact List.eq_nil_of_length_eq_zero this.symm
    have f2:=ae d5;clear d5 s c8 z u c7 b1 d7
    gi_wp2_with fail
    refine⟨trivial,(callsIn_wide.2 (Tryz.slices_Sort_string_none none 0 wr)).mono ?_⟩;rintro e d ⟨rfl,rfl⟩
    gi_wp2
    gi_loopw [28] (λi W2=>i= .int .i64 0/\Jv [] W2) (λ_ _=>0)
    case atStart=>exact⟨rfl,f0.o⟩
    case round=>
     obtain⟨rfl,a⟩:=hrel
     gi_wp2
     go_end0;exact⟨⟨_,rfl⟩, .inl ⟨[],f2.o.symm,a⟩⟩
   ·have hH:Holds encStr wr g 0 (ss.filter λk=>Lib.hasPrefix k pre.data.toList).toArray:=holds_of_block U (by simpa using h4);have d2:g<wr.heap.size:=(ai U).1;have c9:(ss.filter λk=>Lib.hasPrefix k pre.data.toList).length<=ss.length:=List.length_filter_le _ _;have K:=Tryz.slices_Sort_string g 0 cap (ss.filter λk=>Lib.hasPrefix k pre.data.toList) wr hH d2 (by omega);have b2:(ss.filter λk=>Lib.hasPrefix k pre.data.toList).length=(keysOf m pre).length:=(by rw[<-HS.o];exact(List.length_mergeSort _).symm);have a0:(ss.filter λk=>Lib.hasPrefix k pre.data.toList).mergeSort (λx y=>decide (x<=y))=keysOf m pre:=HS.o;rw[a0]at K;have HL:=ae b2;have f8:=ae (show∀os P,_ fromλos P=>ownsRow_sorted (ss:=ss.filter λk=>Lib.hasPrefix k pre.data.toList) (ts:=keysOf m pre) b2.symm a6 U h1 h2 h3 (os:=os) (n:=P));have e5:=ae K;have b5:=ae a6;have g9:=ae h1;clear hH d2 c9 K b2 a0 s c8 z u c7 b1 U h2 h3 h4 a6 h1
    gi_wp2_with fail
    refine⟨trivial,(callsIn_wide.2 e5.o).mono ?_⟩;rintro e d ⟨rfl,P,os,G⟩;have Z:=f8.o os P;have T:=f.o.grown (grownBy_sorted (w:=wr) (g:=g) (n:=P) (os:=os) (keysOf m pre).toArray) f.o.size (λj a=>by cases a;exact b5.o);rw[<-G]at Z T;rw[HL.o]at Z|-;have c3:Jv [] d:=HJ.o [] W d none H0.o (ni T) (λr e=>by cases e);have c2:¬C d g:=λh=>absurd (HC.o d T g h) (by have:=b5.o;omega);have f6:=ae Z;have e7:=ae c3;have e6:=ae c2;clear Z T c3 c2 G;have h6:=iK m pre
    gi_wp2
    gi_loopw [28] (λi W2=>∃k:Nat,k<=(keysOf m pre).length/\i= .int .i64 k/\Jv ((keysOf m pre).take k) W2/\W2.ownsRow W.heap.size 9 1 (.slice (some ⟨g,0,none⟩) (keysOf m pre).length cap) (keysOf m pre).length ((keysOf m pre).map encStr)/\¬C W2 g) (λi _=>(keysOf m pre).length - (intOf i).toNat)
    case atStart=>exact⟨0,Nat.zero_le _,rfl,e7.o,f6.o,e6.o⟩
    case round=>
     obtain⟨k,hk,rfl,a,O,d9⟩:=hrel;have b6:=ae a;have a3:=ae O;have b7:=ae d9;clear a O d9;by_cases N:k<(keysOf m pre).length
     ·obtain⟨fn,i2,assign,body,hy,hR⟩:=HY.o _ ((keysOf m pre)[k]) wr b6.o (by rw[List.length_take];omega);have i3:wr.cell? ⟨g,k,none⟩=some (encStr ((keysOf m pre)[k])):=by
       have:=a3.o.cellAt k (by omega);show wr.cell? ⟨g,k,none⟩=_;rw[this];simp[N]
      have b9:=ae (List.take_succ_eq_append_getElem N)
      gi_wp2_with fail
      refine hR.mono ?_;rintro e W4 (⟨rfl,d3,b0⟩|⟨rfl,d4⟩)
      ·have a7:=Le a3.o g rfl;have d1:W4.heap[g]? =wr.heap[g]? :=(by obtain⟨o,O,K⟩:=a7;rw[b0.1 g o O K b7.o,O]);have e0:=eE a3.o (w':=W4) (λk e=>by have:g=k:=(by simpa [Value.ownBlock] using e);subst this;exact d1);have d8:¬C W4 g:=λh=>b7.o (b0.2.2 g (ai a7.choose_spec.1).1 h);have f7:=ae e0;have f5:=ae d8;have e8:=ae d3;clear e0 d8 d3 b0 a7 d1
       gi_wp2
       go_roundw
       case rel=>exact⟨k+1,by omega,by go_num,by rw[b9.o];exact e8.o,f7.o,f5.o⟩
       case measure=>simp[intOf];omega
      ·have f1:=ae d4;clear d4
       gi_wp2
       refine bodyPost_ret (results_none rfl _ _ _) rfl ?_;exact⟨⟨_,rfl⟩, .inr ⟨_,List.take_prefix (k+1) _,by rw[b9.o];exact f1.o⟩⟩
     ·obtain rfl:k=(keysOf m pre).length:=(by omega);have a9:=b6.o;rw[List.take_length]at a9;have e9:=ae a9;clear a9
      gi_wp2
      go_end0;exact⟨⟨_,rfl⟩, .inl ⟨_,rfl,e9.o⟩⟩
  ·intro x c kl yd yp t c0 g2 d6 hv S F N B a0 h5;obtain⟨x',ex,rfl,_⟩:=Maps.keyOf_str Tryz.underlying9 g2;obtain rfl:x=x':=encStr_inj ex;have b4:=z.kept B (Or.inr (row_ne_iter z s).symm);have i5:t.cell? ⟨Bp,0,none⟩=some (.string pre):=((f.o.grown B f.o.size (λj a=>by cases a;exact aq _)).cell (p:=⟨Bp,0,none⟩) c1).trans hp;clear a0;have E:=Tryz.strings_HasPrefix ⟨x.toArray⟩ pre t;have V:=List.filter_append (p:=λk=>Lib.hasPrefix k pre.data.toList) ss [x];cases hb:Lib.hasPrefix x pre.data.toList with
   |false=>
    rw[show Lib.hasPrefix (⟨x.toArray⟩:ByteArray).data.toList pre.data.toList=false from hb]at E;have L:(ss++[x]).filter (λk=>Lib.hasPrefix k pre.data.toList)=ss.filter (λk=>Lib.hasPrefix k pre.data.toList):=(by rw[V];simp[hb]);have a2:=ae L;have A:=ae b4;have I:=ae F;have H:=ae (f.o.grown B f.o.size (λj a=>by cases a;exact aq _));have f4:=ae (show t.rangeLeft b W.heap.size<wr.rangeLeft b W.heap.size by rw[F.left_eq,s.left_eq];exact N);have a1:=ae (u.step d6 S);have a4:=ae E;clear L V b4 F B z s E u S
    gi_wp2_with fail
    refine⟨trivial,(callsIn_wide.2 a4.o).mono ?_⟩;rintro e d ⟨rfl,G⟩;obtain rfl:t=d:=G.symm
    gi_wp2
    go_roundw
    case rel=>exact⟨_,c0,ss++[x],I.o,by simp;omega,by rw[a2.o];exact A.o,a1.o,H.o⟩
    case measure=>exact f4.o
   |true=>
    rw[show Lib.hasPrefix (⟨x.toArray⟩:ByteArray).data.toList pre.data.toList=true from hb]at E;have L:(ss++[x]).filter (λk=>Lib.hasPrefix k pre.data.toList)=ss.filter (λk=>Lib.hasPrefix k pre.data.toList)++[x]:=(by rw[V];simp[hb]);have a2:=ae L;have c9:(ss.filter λk=>Lib.hasPrefix k pre.data.toList).length<=ss.length:=List.length_filter_le _ _;have H:=ae (f.o.grown B f.o.size (λj a=>by cases a;exact aq _));have I:=ae F;have f3:=ae (show t.rangeLeft b W.heap.size<wr.rangeLeft b W.heap.size by rw[F.left_eq,s.left_eq];exact N);have a1:=ae (u.step d6 S);have a4:=ae E;have A:=ae b4;clear L V z s F B E u S
    gi_wp2_with fail
    refine⟨trivial,(callsIn_wide.2 a4.o).mono ?_⟩;rintro e d ⟨rfl,G⟩;obtain rfl:t=d:=G.symm
    gi_wp2_with (first
     |(gi_at_builtin;refine wpListIn_append_own _ rfl _ _ 93 rfl W.heap.size 9 i0 (.string ⟨#[]⟩) 1 16 Tryz.underlying93 hi g6 g7 g8 rfl (by decide) _ _ _ rfl (A.o.alloc _) ⟨t.heap.size,0,none⟩ 1 1 [encStr x] rfl rfl (cell_one_new _ _ _) (by simp[Value.oneCell',encStr]) (by unfold maxLen at*;omega) (by omega) (by have:=H.o.size;simp;omega) ?_;intro v' w4 g3 d0 h8)
     |gi_in)
    have c6:Below W.heap.size W (t.alloc (.cells #[encStr x] 9)):=H.o.alloc H.o.size _;have e2:=(I.o.alloc (.cells #[encStr x] 9)).kept d0 (row_ne_low A.o g0) (row_ne_iter A.o I.o);refine⟨⟨_,c0,ss++[x],e2,by simp;omega, ?_,a1.o,c6.grown d0 c6.size (λj a=>(A.o.lt j a).1)⟩,by rw[e2.left_eq,<-I.o.left_eq];exact f3.o⟩;rw[a2.o]
    simpa using g3
theorem rf (n:Nat) (t:1<=n) (d Bp p b:Nat) (pre:ByteArray) (m:List (J.B×J.B)) (M:Nat->Prop) (C:World->Nat->Prop) (s:m.length<=100000000) (w:World)
  (z:w.cell? ⟨d,0,none⟩=some (.pointer (some ⟨p,0,none⟩))) (u:w.cell? ⟨Bp,0,none⟩=some (.string pre)) (y:w.cell? ⟨p,2,none⟩=some (.map (some b))) (f:dx w M b m)
  (g:∀W,Below w.heap.size w W->∀k,C W k->k<w.heap.size):
  SeqStopsK Fence.wide n Tryz.prog 132 #[.pointer (some ⟨d,0,none⟩), .pointer (some ⟨Bp,0,none⟩)] (λx=>#[encStr x]) (Gn C) (λA=>A=keysOf m pre) (λq=>q<+:keysOf m pre) (keysOf m pre).length w:=λl Jv Jx W c i _ j h0=>by
 have e:∀{a:Addr} {v:Value},w.cell? a=some v->W.cell? a=some v:=λ{a v} h=>(c.cell (p:=a) (World.block_lt_of_cell? w a h)).trans h;exact Gp n t l d Bp p b pre m M C Jv Jx s j W i (e z) (e u) (e y) (f.step (Step.aC c) (c.block b f.lt))
  (λW' o k r=>av (g W' (c.trans (o.mono c.size)) k r) c.size) h0
theorem wE (a:Value) (pre:ByteArray) (w:World) (ha:∃r,a= .pointer r):
  CallsIn Fence.wide 5 Tryz.prog 101 #[a, .string pre] w λe w'=>e= .returned (.func (.func 132) #[] #[.pointer (some ⟨w.heap.size,0,none⟩), .pointer (some ⟨w.heap.size+1,0,none⟩)])/\w'=(w.alloc (.cells #[a] 24)).alloc (.cells #[.string pre] 9):=by
 obtain⟨r,rfl⟩:=ha;refine callsIn_of_wp Tryz.func101 rfl trivial ?_ rfl;simp only[Tryz.ntmps101,List.size_toArray,List.length_cons,List.length_nil,Nat.reduceAdd,Nat.reduceSub,Array.replicate_succ,Array.replicate_zero,List.push_toArray,List.append_toArray,List.nil_append,List.cons_append]
 gi_wp2
 go_ret;exact⟨rfl,rfl⟩
attribute [local go_sem] Oper.semAt_some
def ZJ (B:Nat) (W:World) (k:Nat):Prop:=k=B\/∃v,Boxed W B 93 v/\v.ownBlock=some k
theorem yY {W:World} {B:Nat} {t:TypeId} {u v:Value} (h:Boxed W B t u) (a:Boxed W B t v):u=v:=by
 have:=(show W.heap[B]? =_ from h).symm.trans a;injection this with e;injection e with e;injection e with e;injection e
theorem Ph {B:Nat} {w:World} (g:B<w.heap.size) (W:World) (l:Nat) (o o':Obj) (i:w.heap.size<=l) (h:W.heap[l]? =some o) (d:o.isCells=false) (_:o.isWalk=false):Gn (ZJ B) W (W.putObj l o'):=by
 refine⟨λk q a c _=> ?_,by simp,λk _ b=> ?_⟩
 ·have:k≠l:=λe=>by subst e;rw[h]at a;injection a with a;subst a;rw[d]at c;cases c
  exact(World.putObj_heap_other this).trans a
 ·rcases b with rfl|⟨v,f,b⟩
  ·exact .inl rfl
  ·exact .inr ⟨v,(World.putObj_heap_other (by omega)).symm.trans f,b⟩
theorem Dh {W w1:World} {B:Nat} {v v':Value} {h:Obj} (g:Boxed W B 93 v) (n:Boxed (w1.setCell ⟨B,0,none⟩ v') B 93 v') (c:(W.alloc h).grownBy w1 v.ownBlock) (i:v'.ownBlock=v.ownBlock\/v'.ownBlock=some (W.alloc h).heap.size):
  Gn (ZJ B) W (w1.setCell ⟨B,0,none⟩ v'):=by
 refine⟨λk q f _ d=> ?_, ?_,λk o j=> ?_⟩
 ·have l:k<W.heap.size:=(ai f).1;have h1:k≠B:=λe=>d (.inl e);have b:some k≠v.ownBlock:=λe=>d (.inr ⟨v,g,e.symm⟩);exact(Below.heap_setCell _ _ _ k h1).trans ((c.block k (by simp;omega) b).trans ((Below.heap_alloc _ _ _ l).trans f))
 ·have:=c.size;have b:=(KeepsWalks.setCell w1 ⟨B,0,none⟩ v').size;simp at this;omega
 ·rcases j with rfl|⟨u,m,a⟩
  ·exact .inl rfl
  ·obtain rfl:=yY m n;rcases i with e|e
   ·exact .inr ⟨v,g,e▸a⟩
   ·rw[e]at a;injection a with a;simp at a;omega
theorem appendSeq_in (g Bp p b:Nat) (pre:ByteArray) (m:List (J.B×J.B)) (M:Nat->Prop) (L:m.length<=100000000) (w:World)
  (r:w.cell? ⟨g,0,none⟩=some (.pointer (some ⟨p,0,none⟩))) (N:w.cell? ⟨Bp,0,none⟩=some (.string pre)) (i:w.cell? ⟨p,2,none⟩=some (.map (some b))) (u:dx w M b m):
  CallsIn Fence.wide 5 Tryz.prog 131 #[.slice none 0 0, .func (.func 132) #[] #[.pointer (some ⟨g,0,none⟩), .pointer (some ⟨Bp,0,none⟩)]] w λe w'=>∃v,e= .returned v/\
   w'.ownsRow w.heap.size 9 1 v (keysOf m pre).length ((keysOf m pre).map encStr)/\Below w.heap.size w w':=by
 obtain⟨i0,G,Q,S,T⟩:=info_parts Tryz.XJ;have Z:=iK m pre;have q:Below w.heap.size w (w.alloc (.cells #[.slice none 0 0] 93)):=(ak _ w).alloc (aq _) _;have o:∀{a:Addr} {v:Value},w.cell? a=some v->(w.alloc (.cells #[.slice none 0 0] 93)).cell? a=some v:=λ{a v} h=>(q.cell (p:=a) (World.block_lt_of_cell? w a h)).trans h;have s:=Boxed.new w 93 (.slice none 0 0);have hst:=rf 4 (by omega) g Bp p b pre m M (ZJ w.heap.size) L (w.alloc (.cells #[.slice none 0 0] 93)) (o r) (o N) (o i) (u.step (Step.aC q) (q.block b u.lt)) (by
  rintro W C k (rfl|⟨v,f,H⟩)
  ·simp
  ·have P:Boxed W w.heap.size 93 (.slice none 0 0):=(C.block w.heap.size (by simp)).trans s;obtain rfl:=yY f P;cases H)
 refine callsIn_of_wp_marks Tryz.func131 rfl trivial ?_ rfl;simp only[Tryz.ntmps131,List.size_toArray,List.length_cons,List.length_nil,Nat.reduceAdd,Nat.reduceSub,Array.replicate_succ,Array.replicate_zero,List.push_toArray,List.append_toArray,List.nil_append,List.cons_append]
 gi_wp2
 refine wpIn_rangeFunc_ownF rfl (by omega) (gf:=132) (lb:=#[.pointer (some ⟨g,0,none⟩), .pointer (some ⟨Bp,0,none⟩)]) rfl trivial (enters_of Tryz.func132 (by kernel_rfl) rfl)
  hst Gn.t (Ph (by simp)) (ak _ _) (λ_=>rfl)
  (λd W=>(∃v,Boxed W w.heap.size 93 v/\W.ownsRow w.heap.size 9 1 v d.length (d.map encStr)/\True)/\Below w.heap.size w W)
  (λ_ _ _=>False)
  (OwnFrom.and (Own.from (holdsRow_own w.heap.size w.heap.size 93 9 1 (λd:List J.B=>d.length) (λd=>d.map encStr) (λ_ _=>True)) _) (ownFrom_below (aq _) (by simp)))
  (λ_ _ _ _ _ r _ _=>r)
  ⟨⟨_,s,World.ownsRow_nil _ _ _ _,trivial⟩,q⟩
  (λx=>{tmps:=#[.slice none 0 0, .func (.func 132) #[] #[.pointer (some ⟨g,0,none⟩), .pointer (some ⟨Bp,0,none⟩)], .pointer (some ⟨w.heap.size,0,none⟩),undef, .slice none 0 0,encStr x, .func (.func 132) #[] #[.pointer (some ⟨g,0,none⟩), .pointer (some ⟨Bp,0,none⟩)],encStr x,undef,undef,undef,undef,undef],defers:=[]}) ?assign ?body ?done ?stop
 case assign=>
  intro l x W K n
  gi_wp2
  exact n
 case body=>
  rintro l d x W ⟨⟨v,f,i,_⟩,j⟩ a0;have o:=f.cell
  gi_wp2_with (gi_at_builtin;refine wpListIn_append_own_at _ rfl _ _ 93 rfl w.heap.size 9 i0 (.string ⟨#[]⟩) 1 16 Tryz.underlying93 G Q S T rfl (by decide) _ _ _ rfl (i.alloc _) ⟨W.heap.size,0,none⟩ 1 1 [encStr x] rfl rfl (cell_one_new _ _ _) (by simp[Value.oneCell',encStr]) (by unfold maxLen;omega) (by omega) (by have:=j.size;simp;omega) ?_;intro v' w1 y t _ E;obtain⟨g',U,rfl⟩:=ownsRow_succ y;obtain⟨z,A,O,I,F⟩:=f.appended (by decide) i j.size (aq _) y t;have V:=z.cell;have Y:=z.frozen)
  exact⟨I,Dh f A t E,⟨_,A,by simpa using O,trivial⟩,j.trans F⟩
 case done=>
  rintro D ys W B rfl ⟨⟨v,f,i,_⟩,j⟩ n;have o:=f.cell
  gi_wp2
  refine⟨by simp, .inl ⟨_,_,rfl,run_takeDeferred n, ?_⟩⟩;exact⟨_,results_tmp rfl _ _ _,v,rfl,ownsRow_putObj i _ n rfl,j.trans (belowK_b (w:=w) (aq _) W D _ _ (by simp at B;omega) n rfl rfl)⟩
 case stop=>
  rintro D c d W _ _ h _;exact h.elim
theorem collect_in (a Bp p b:Nat) (pre:ByteArray) (m:List (J.B×J.B)) (M:Nat->Prop) (l:m.length<=100000000) (w:World)
  (i:w.cell? ⟨a,0,none⟩=some (.pointer (some ⟨p,0,none⟩))) (g:w.cell? ⟨Bp,0,none⟩=some (.string pre)) (h:w.cell? ⟨p,2,none⟩=some (.map (some b))) (d:dx w M b m):
  Calls Tryz.prog 100 #[.func (.func 132) #[] #[.pointer (some ⟨a,0,none⟩), .pointer (some ⟨Bp,0,none⟩)]] w λe w'=>∃v,e= .returned v/\
   w'.ownsRow w.heap.size 9 1 v (keysOf m pre).length ((keysOf m pre).map encStr)/\Below w.heap.size w w':=by
 have H:=ae (callsIn_wide.1 (appendSeq_in a Bp p b pre m M l w i g h d));clear i g h d;go_enter Tryz.func100,Tryz.ntmps100;go_wp2_with fail;refine H.o.mono ?_;rintro e w' ⟨v,rfl,f,c⟩;have k:=ae f;have j:=ae c;clear f c;go_wp2;go_ret;exact⟨v,rfl,k.o,j.o⟩
theorem Lf (A:Option Addr) (n c:Nat) (w:World) (b:n<=c) (h:A=none->n=0/\c=0):
  Calls Tryz.prog 99 #[.slice A n c] w λe w'=>e= .returned (.slice A n n)/\w=w':=by
 cases A with
 |some a=>
  clear h;go_enter Tryz.func99,Tryz.ntmps99;go_wp2;go_ret;exact⟨rfl,rfl⟩
 |none=>
  obtain⟨rfl,rfl⟩:=h rfl;clear h b;go_enter Tryz.func99,Tryz.ntmps99;go_wp2;go_ret;exact⟨rfl,rfl⟩
def gX (w:World) (A:Option Addr) (ks:List J.B):Prop:=0<ks.length->∃g,A=some ⟨g,0,none⟩/\g<w.heap.size/\∀j (h:j<ks.length),w.cell? ⟨g,j,none⟩=some (encStr ks[j])
theorem gX.below {w w':World} {A:Option Addr} {ks:List J.B} (h:gX w A ks) (a:Below w.heap.size w w'):gX w' A ks:=λf=>by
 obtain⟨g,e,b,c⟩:=h f;exact⟨g,e,av b a.size,λj d=>(a.cell (p:=⟨g,j,none⟩) b).trans (c j d)⟩
theorem Pj (p:Nat) (pre:ByteArray) (M:Nat->Prop) (s:J.St) (w:World) (h:br w p M s) (Q:s.now.length<=100000000):
  Calls Tryz.prog 47 #[.pointer (some ⟨p,0,none⟩), .string pre] w λe w'=>∃A,e= .returned (.slice A (keysOf s.now pre).length (keysOf s.now pre).length)/\gX w' A (keysOf s.now pre)/\(∀k,(Value.slice A (keysOf s.now pre).length (keysOf s.now pre).length).ownBlock=some k->w.heap.size<=k)/\Below w.heap.size w w':=by
 have z:=ae (gq p M s w h);have B:=ae (callsIn_wide.1 (wE (.pointer (some ⟨p,0,none⟩)) pre w ⟨_,rfl⟩));obtain⟨F,G,N,wr,O,S,T,U,V,Y,d2,I,h1,D,d,E⟩:=h;have a:Below w.heap.size w ((w.alloc (.cells #[.pointer (some ⟨p,0,none⟩)] 24)).alloc (.cells #[.string pre] 9)):=((ak _ w).alloc (aq _) _).alloc (by simp) _;have b:=Boxed.new (w.alloc (.cells #[.pointer (some ⟨p,0,none⟩)] 24)) 9 (.string pre);rw[World.size_alloc]at b;have x:=ae (collect_in w.heap.size (w.heap.size+1) p F pre s.now M Q _ ((Boxed.new w 24 (.pointer (some ⟨p,0,none⟩))).alloc _).cell b.cell ((a.cell (p:=⟨p,2,none⟩) (ai h1).1).trans (ah w p 2 _ _ _ h1)) (d.now.step (Step.aC a) (a.block F d.now.lt)));have r:=ae a;clear h1 D d E a b;go_enter Tryz.func47,Tryz.ntmps47;go_wp2_with fail;refine z.o.mono ?_;rintro e w1 ⟨rfl,rfl⟩;go_wp2_with fail;refine B.o.mono ?_;rintro e w1 ⟨rfl,rfl⟩;go_wp2_with fail;refine x.o.mono ?_;rintro e q ⟨v,rfl,f,m⟩;have hst:∃A c,v= .slice A (keysOf s.now pre).length c/\(keysOf s.now pre).length<=c/\(A=none->(keysOf s.now pre).length=0/\c=0)/\gX q A (keysOf s.now pre)/\∀k,v.ownBlock=some k->w.heap.size<=k:=by
  have L:=f;rcases f.2 with⟨rfl,h0⟩|⟨g,cap,cur,rfl,H,K,Z,q2⟩
  ·exact⟨none,0,by rw[h0],by omega,λ_=>⟨h0,rfl⟩,λW=>absurd W (by omega),λk e=>by cases e⟩
  ·refine⟨_,cap,rfl,Z,λe=>(by cases e),λ_=>⟨g,rfl,(ai K).1,λj P=> ?_⟩,λk e=> ?_⟩
   ·rw[L.cellAt j (by omega)];simp[P]
   ·have:g=k:=(by simpa [Value.ownBlock] using e);simp at H;omega
 obtain⟨A,c,rfl,o,i,l,n⟩:=hst;have C:=ae l;have u:=ae n;have t:=ae (r.o.trans (m.mono (by simp;omega)));have y:=ae (Lf A _ c q o i);clear f m l n i o;go_wp2_with fail;refine y.o.mono ?_;rintro e w3 ⟨rfl,rfl⟩;go_wp2;go_ret;exact⟨A,rfl,C.o,λk e=>u.o k (by cases A<;>exact e),t.o⟩
end Go.Proofs.YtipljcmmokaokaaGreat
namespace Go.Proofs.YtipljcmmokaokaaGreat
open Go.RowKit Go.Lib Go.Maps Go.WideMaps
set_option maxRecDepth 100000
theorem fG {ops:Array Oper} {o:Oper} {a:Act} {w:World} {K:Act->World->Prop} {Q:Exit->Act->World->Prop} {E:Prop} (i:o.guard=none) (s x:Operand) (q:o.op= .call {callee:= .builtin .append,args:=#[s,x],argTypes:=#[97,97]})
  (v:Value) (n:Nat) (xs:List Value) (y:a.eval s=v) (r:w.ownsRow 0 139 3 v n xs) (d:Addr) (m c:Nat) (b:List Value) (A:a.eval x= .slice (some d) m c) (l:b.length=m*3) (p:∀j u,b[j]? =some u->w.cell? (d.add j)=some u) (h1:∀u∈b,u.oneCell'=true)
  (G:n+m<=100000000)
  (h:∀v' w',w'.ownsRow 0 139 3 v' (n+m) (xs++b)->w.grownBy w' v.ownBlock->(v'.ownBlock=v.ownBlock\/v'.ownBlock=some w.heap.size)->K (a.put o.dst v') w'):
  if Region.wanted o (yielded ops a.tmps)=true then Oper.wp Tryz.prog o a w K Q else E:=by
 obtain⟨i0,k,B,C,D⟩:=info_parts Tryz.ac6;have z:Region.wanted o (yielded ops a.tmps)=true:=by simp[Region.wanted,i]
 rw[if_pos z];obtain⟨v',w',t,e,f,F,g⟩:=run_append_own_at (P:=Tryz.prog) w 0 97 o.type 139 i0 _ 3 40 Tryz.underlying97 k B C D rfl (by decide) v n xs r d m c b l p h1 (by unfold maxLen;omega) (by omega) (Nat.zero_le _);unfold Oper.wp execOp;simp only[q,resolve,invoke,builtin,Sem.run_bind,Sem.run_pure,Result.andThen_ok,List.map_toArray,List.map_cons,List.map_nil,y,A,t];exact h v' w' e f g
theorem rh {w:World} {g g' i:Nat} {u:Value} {o:Obj} (h:w.heap[g]? =some o) (a:g'≠g):(w.setCell ⟨g',i,none⟩ u).heap[g]? =some o:=by
 simp[World.setCell,Array.getElem?_modify,h,a]
theorem oH {ops:Array Oper} {o:Oper} {a:Act} {w:World} {K:Act->World->Prop} {Q:Exit->Act->World->Prop} {E:Prop} (g:o.guard=none) (s x:Operand) (i:o.op= .call {callee:= .builtin .append,args:=#[s,x],argTypes:=#[40,40]})
  (M:Nat->Prop) (v:Value) (l:List UInt8) (k:a.eval s=v) (ha:fP w M v l) (d:Nat->Prop) (A:Option Addr) (m c:Nat) (b:List UInt8) (p:a.eval x= .slice A m c) (q:By w d A m b) (h0:0<m) (f:l.length+m<=100000000)
  (h:∀v' w',iJ w w' M v v' (l++b)->K (a.put o.dst v') w'):
  if Region.wanted o (yielded ops a.tmps)=true then Oper.wp Tryz.prog o a w K Q else E:=by
 have n:Region.wanted o (yielded ops a.tmps)=true:=by simp[Region.wanted,g]
 rw[if_pos n];obtain⟨v',w',j,e⟩:=uG w M v l ha d A m c b q h0 f o.type;unfold Oper.wp execOp;simp only[i,resolve,invoke,builtin,Sem.run_bind,Sem.run_pure,Result.andThen_ok,List.map_toArray,List.map_cons,List.map_nil,k,p,j];exact h v' w' e
theorem tV {w:World} {M:Nat->Prop} {v:Value} {l:List UInt8} {g:Nat} {C:Array Value} (ha:fP w M v l) (a:w.heap[g]? =some (.cells C 139 (0,0))):¬(M g/\v.ownBlock=some g):=by
 rintro⟨d,e1⟩;rcases ha with⟨h1,_⟩|⟨rfl,_⟩|⟨b,o,rfl,_,e,c,_⟩
 ·exact df h1 a (by decide) e1
 ·cases e1
 ·simp[Value.ownBlock]at e1;subst e1;exact c d
def wF (w:World) (p:Nat) (M:Nat->Prop) (s:J.St) (c:J.Wr) (v:Value) (wx:World):Prop:=
 ∃M',bM wx p M' {s with writes:=s.writes++[c],logged:=s.logged+c.bs.length}/\Step M M' w wx/\wx.heap[w.heap.size]? =some (.cells #[.int .u8 (c.kind:Nat), .int .i64 (c.idx:Nat),v] 139 (0,0))/\¬M' w.heap.size/\∀k,M' k->k<wx.heap.size
theorem Pk {w W w1:World} {p:Nat} {M:Nat->Prop} {s:J.St} {a i n c:Nat} {A:Option Addr} {bs:List UInt8} {F:Nat} {G:Option Nat} {N wr O S T U V Y d2 I v1:Value} {vs:List Value} {o:Obj}
  (B:cA w M s F G N wr O S T U V Y d2 I) (E:M p) (a1:p<w.heap.size) (m:∀k,M k->k<w.heap.size) (g1:vs.length=s.writes.length) (y:∀k,wr.ownBlock=some k->M k) (z:∀i (h:i<s.writes.length) (Z:i<vs.length),Sl w M vs[i] s.writes[i].bs)
  (P:Sl w M (.slice A n c) bs) (H:bs.length=n) (g:Below w.heap.size w W) (u:(w1).ownsRow 0 139 3 v1 (s.writes.length+1) (dE s.writes vs++[.int .u8 (a:Nat), .int .i64 (i:Nat), .slice A n c])) (q:(W.alloc o).grownBy w1 wr.ownBlock) (t:v1.ownBlock=wr.ownBlock\/v1.ownBlock=some (W.alloc o).heap.size)
  (v:w1.heap[p]? =some (.cells (bK s F G N wr O S T U V Y d2 I) 99 (0,0))) (Q:w1.heap[w.heap.size]? =some (.cells #[.int .u8 a, .int .i64 i, .slice A n c] 139 (0,0))) (K:wr.ownBlock≠some w.heap.size):
  wF w p M s ⟨a,i,bs⟩ (.slice A n c) ((w1.setCell ⟨p,19,none⟩ v1).setCell ⟨p,20,none⟩ (.int .i64 ((s.logged:Int)+(n:Int)))):=by
 have j:Below w.heap.size w (W.alloc o):=g.alloc g.size o;have b:=kC.push (M:=M) (c:=⟨a,i,bs⟩) g1 z y j u q t P;have C:=B.ZC (n:=s.logged+bs.length) b.2 (λk=> .inl) (λk r L=>(q.block k (av r j.size) (λe=>L e.symm)).trans (j.block k r)) b.1;have d:=ay (ay (World.grownBy.refl w1 (some p)) 19 v1) 20 (.int .i64 ((s.logged:Int)+(n:Int)));have x:=aB (aB v 19 v1) 20 (.int .i64 ((s.logged:Int)+(n:Int)));have D:((bK s F G N wr O S T U V Y d2 I).setIfInBounds 19 v1).setIfInBounds 20 (.int .i64 ((s.logged:Int)+(n:Int)))=bK {s with writes:=s.writes++[⟨a,i,bs⟩],logged:=s.logged+bs.length} F G N v1 O S T U V Y d2 I:=by
  rw[<-H,<-Int.natCast_add];rfl
 rw[D]at x;have l:M p\/v1.ownBlock=some p:= .inl E;have a0:w.heap.size<(W.alloc o).heap.size:=by have:=g.size;simp;omega
 refine⟨λk=>M k\/v1.ownBlock=some k,⟨F,G,N,v1,O,S,T,U,V,Y,d2,I,x,l,C.own v l d⟩,b.2.trans (Step.bg d (λk e _=>by cases e;exact l)), ?_, ?_, ?_⟩
 ·exact rh (rh Q (by omega)) (by omega)
 ·rintro(e|e)
  ·have:=m _ e;omega
  ·rcases t with f|f
   ·exact K (f▸e)
   ·rw[f]at e;injection e with e;omega
 ·rintro k (e|e)
  ·exact av (m k e) (aw b.2.size d.size)
  ·exact av (u.lt k e).2 d.size
theorem XO:(∀(p:Nat) (M:Nat->Prop) (s:J.St) (A:Option Addr) (n c:Nat) (bs:List UInt8) (w:World) (h:bM w p M s) (Z:∀k,M k->k<w.heap.size) (hv:Sl w M (.slice A n c) bs) (b5:s.logged+n<=100000000) (a4:s.writes.length+1<=100000000) (hn:bs.length=n) (h0:0<n) (H:s.disk.a0.length+n<=100000000),Calls Tryz.prog 130 #[.pointer (some ⟨p,0,none⟩), .agg #[.int .u8 0, .int .i64 0, .slice A n c]] w λe w'=>(∃r,e= .returned r)/\∃M',bM w' p M' (J.write s ⟨0,0,bs⟩)/\Step M M' w w')/\(∀(p:Nat) (M:Nat->Prop) (s:J.St) (A:Option Addr) (n c:Nat) (bs:List UInt8) (w:World) (h:bM w p M s) (Z:∀k,M k->k<w.heap.size) (hv:Sl w M (.slice A n c) bs) (b5:s.logged+n<=100000000) (a4:s.writes.length+1<=100000000) (hn:bs.length=n) (h0:0<n) (H:s.disk.a1.length+n<=100000000),Calls Tryz.prog 130 #[.pointer (some ⟨p,0,none⟩), .agg #[.int .u8 0, .int .i64 1, .slice A n c]] w λe w'=>(∃r,e= .returned r)/\∃M',bM w' p M' (J.write s ⟨0,1,bs⟩)/\Step M M' w w'):=by
 refine⟨?z0, ?z1⟩
 case' z0=>intro p M s A n c bs w h Z hv b5 a4 hn h0 H
 case' z1=>(intro p M s A n c bs w h Z hv b5 a4 hn h0 H;have b:=trivial)
 all_goals
  obtain⟨F,G,N,wr,O,S,T,U,V,Y,d2,I,h1,h2,h3⟩:=h;have H1:=ae h1;have H2:=ae h2;have H3:=ae h3;have HV:=ae hv;have HM:=ae Z;have d1:p<w.heap.size:=(ai h1).1;first
   |have b:=b
    have Q:Below w.heap.size w (w.alloc (.cells #[.int .u8 0, .int .i64 1, .slice A n c] 139)):=(ak _ _).alloc (aq _) _
    skip
   |have Q:Below w.heap.size w (w.alloc (.cells #[.int .u8 0, .int .i64 0, .slice A n c] 139)):=(ak _ _).alloc (aq _) _
  have a8:=(Q.block p d1).trans h1;have hc:=aj _ p a8;have hf:=aD a8;first
   |have b:=b
    have a5:=λj=>World.cell?_alloc_new w #[.int .u8 0, .int .i64 1, .slice A n c] 139 j
    skip
   |have a5:=λj=>World.cell?_alloc_new w #[.int .u8 0, .int .i64 0, .slice A n c] 139 j
  obtain⟨vs,g1,P,g3,g4⟩:=h3.wrs;have d0:wr.ownBlock≠some p:=df P h1 (by decide);first
   |have b:=b
    have D:((w.alloc (.cells #[.int .u8 0, .int .i64 1, .slice A n c] 139))).heap[w.heap.size]? =some (.cells #[.int .u8 0, .int .i64 1, .slice A n c] 139 (0,0)):=heap_alloc_new w _
    skip
   |have D:((w.alloc (.cells #[.int .u8 0, .int .i64 0, .slice A n c] 139))).heap[w.heap.size]? =some (.cells #[.int .u8 0, .int .i64 0, .slice A n c] 139 (0,0)):=heap_alloc_new w _
  have c3:=ae (show wr.ownBlock≠some w.heap.size fromλe=>absurd (P.lt _ e).2 (Nat.lt_irrefl _));have HB:=ae Q;have y:=ae a8;have HG:=ae (eE P (λk e=>Q.block k (P.lt k e).2));have d4:=ae g1;have d5:=ae g3;have d6:=ae g4;have HN:=ae d0;have HX:=ae D;have b0:=ae hn;clear h1 h2 h3 Q a8 g1 P g3 g4 d0 hv D Z hn;go_enter Tryz.func130,Tryz.ntmps130;go_upto_region 1 with fail;first
   |have b:=b
    generalize hW:w.alloc (.cells #[.int .u8 0, .int .i64 1, .slice A n c] 139)=W at hc hf a5 HB y HG HX|-
   |generalize hW:w.alloc (.cells #[.int .u8 0, .int .i64 0, .slice A n c] 139)=W at hc hf a5 HB y HG HX|-
  clear hW;first
   |have b:=b
    have b6:∀(W':World),∀j u,([.int .u8 0, .int .i64 1, .slice A n c]:List Value)[j]? =some u->(W'.alloc (.cells #[.int .u8 0, .int .i64 1, .slice A n c] 139)).cell? ((⟨W'.heap.size,0,none⟩:Addr).add j)=some u:=λW' j u q=>by
     have:=World.cell?_alloc_new W' #[.int .u8 0, .int .i64 1, .slice A n c] 139 j;rw[show(⟨W'.heap.size,0,none⟩:Addr).add j=⟨W'.heap.size,j,none⟩ by simp[Addr.add];intro e;exact e.symm];rw[this];rw[<-q];simp
    have b7:∀u∈([.int .u8 0, .int .i64 1, .slice A n c]:List Value),u.oneCell'=true:=by intro u q;simp at q;rcases q with rfl|rfl|rfl<;>rfl
    skip
   |skip
    have b6:∀(W':World),∀j u,([.int .u8 0, .int .i64 0, .slice A n c]:List Value)[j]? =some u->(W'.alloc (.cells #[.int .u8 0, .int .i64 0, .slice A n c] 139)).cell? ((⟨W'.heap.size,0,none⟩:Addr).add j)=some u:=λW' j u q=>by
     have:=World.cell?_alloc_new W' #[.int .u8 0, .int .i64 0, .slice A n c] 139 j;rw[show(⟨W'.heap.size,0,none⟩:Addr).add j=⟨W'.heap.size,j,none⟩ by simp[Addr.add];intro e;exact e.symm];rw[this];rw[<-q];simp
    have b7:∀u∈([.int .u8 0, .int .i64 0, .slice A n c]:List Value),u.oneCell'=true:=by intro u q;simp at q;rcases q with rfl|rfl|rfl<;>rfl
  have c4:=ae b6;have c5:=ae b7;have c8:=ae a4;have e0:=ae (show p≠w.heap.size by omega);have f2:IntKind.i64.wrap ((s.logged:Int)+(n:Int))=(s.logged:Int)+(n:Int):=IntWalk.i64_in _ (by omega);clear b6 b7 a4;first
   |have b:=b
    let S2:World->Prop:=λw'=>w'.heap[w.heap.size]? =some (.cells #[.int .u8 0, .int .i64 1, .slice A n c] 139 (0,0))
    skip
   |let S2:World->Prop:=λw'=>w'.heap[w.heap.size]? =some (.cells #[.int .u8 0, .int .i64 0, .slice A n c] 139 (0,0))
  let S1:World->Prop:=λw'=>w'.heap[p]? =some (.cells (bK s F G N wr O S T U V Y d2 I) 99 (0,0))/\S2 w';first
   |have b:=b
    have b2:∀w':World,S1 w'->(∀j,w'.cell? ⟨p,j,none⟩=(bK s F G N wr O S T U V Y d2 I)[j]?)/\(∀j,w'.cell? ⟨w.heap.size,j,none⟩=(#[.int .u8 0, .int .i64 1, .slice A n c]:Array Value)[j]?):=λw' h=>⟨aj _ p h.1,aj _ w.heap.size h.2⟩;have b3:∀w':World,S2 w'->(∀j,w'.cell? ⟨w.heap.size,j,none⟩=(#[.int .u8 0, .int .i64 1, .slice A n c]:Array Value)[j]?):=λw' h=>aj _ w.heap.size h;have c0:=ae ((((ak W.heap.size W.drew).alloc (aq _) (.cells #[.int .u8 0, .int .i64 1, .slice A n c] 139)).block p (ai y.o).1).trans y.o);have a9:=ae ((((ak W.heap.size W.drew).alloc (aq _) (.cells #[.int .u8 0, .int .i64 1, .slice A n c] 139)).block w.heap.size (ai HX.o).1).trans HX.o)
    skip
   |have b2:∀w':World,S1 w'->(∀j,w'.cell? ⟨p,j,none⟩=(bK s F G N wr O S T U V Y d2 I)[j]?)/\(∀j,w'.cell? ⟨w.heap.size,j,none⟩=(#[.int .u8 0, .int .i64 0, .slice A n c]:Array Value)[j]?):=λw' h=>⟨aj _ p h.1,aj _ w.heap.size h.2⟩
    have b3:∀w':World,S2 w'->(∀j,w'.cell? ⟨w.heap.size,j,none⟩=(#[.int .u8 0, .int .i64 0, .slice A n c]:Array Value)[j]?):=λw' h=>aj _ w.heap.size h;have c0:=ae ((((ak W.heap.size W.drew).alloc (aq _) (.cells #[.int .u8 0, .int .i64 0, .slice A n c] 139)).block p (ai y.o).1).trans y.o);have a9:=ae ((((ak W.heap.size W.drew).alloc (aq _) (.cells #[.int .u8 0, .int .i64 0, .slice A n c] 139)).block w.heap.size (ai HX.o).1).trans HX.o)
  have e4:=ae b2;have e5:=ae b3;clear b2 b3 hc hf a5;first
   |have b:=b
    go_cut []from 4 to 24 (λwx=>wF w p M s ⟨0,1,bs⟩ (.slice A n c) wx)
   |go_cut []from 4 to 24 (λwx=>wF w p M s ⟨0,0,bs⟩ (.slice A n c) wx)
  case first=>
   refine my 20 [1,9,10,11,13,14,15,16,17,19] [7,8,19] [(0,false),(2,false),(3,false),(4,false),(5,false),(6,false),(1,false),(9,false),(10,false),(11,false),(12,false),(13,false),(14,false),(15,false),(16,false),(7,true),(8,true),(17,false),(18,false),(19,true)] S1 S2 (by kernel_rfl) (by kernel_rfl) (λc a d v w h=>by cases d<;>exact h) ⟨y.o,HX.o⟩ HX.o ?_;repeat
    first
     |refine ib (v:= ?_) (by rfl) (by rfl) (by rfl) (λw' m=> ?_) (λK f=> ?_)
      rotate_left
      ·obtain⟨b4,a6⟩:=e4.o w' m;clear m;go_simp;try with_reducible rfl
     |refine ic (v:= ?_) (by rfl) (by rfl) (λw' m=> ?_) (λK f=> ?_)
      rotate_left
      ·have a6:=e5.o w' m;clear m;go_simp;try with_reducible rfl
    go_simp;refine f _ ?_;clear f K
   refine gG (by rfl) (λK f=> ?_);go_simp;refine f.out _ _ ⟨c0.o,a9.o⟩ a9.o ?_;clear f K;refine gG (by rfl) (λK f=> ?_);first
    |have b:=b
     refine fG (by rfl) _ _ (by rfl) wr s.writes.length (dE s.writes vs) (by rfl) (HG.o.drew.alloc _) ⟨W.drew.heap.size,0,none⟩ 1 1 [.int .u8 0, .int .i64 1, .slice A n c] (by rfl) (by rfl) (c4.o _) c5.o c8.o ?_
    |refine fG (by rfl) _ _ (by rfl) wr s.writes.length (dE s.writes vs) (by rfl) (HG.o.drew.alloc _) ⟨W.drew.heap.size,0,none⟩ 1 1 [.int .u8 0, .int .i64 0, .slice A n c] (by rfl) (by rfl) (c4.o _) c5.o c8.o ?_
   intro v1 w1 b8 a7 c9;obtain⟨t,z,c1,rfl⟩:=dL b8;have l:=ae (gO (W:=W.drew) y.o a7 HN.o);have B:=ae (gO (W:=W.drew) HX.o a7 c3.o);have d9:=ae b8;have d7:=ae a7;have d8:=ae c9;clear b8 a7 c9;go_simp;refine f.out _ _ ⟨l.o,B.o⟩ B.o ?_;clear f K;have e7:=aj _ p l.o;have e8:=aD l.o;repeat
    first|refine ib (v:= ?_) (by rfl) (by rfl) (by rfl) (λw' m=> ?_) (λK f=> ?_)|refine ic (v:= ?_) (by rfl) (by rfl) (λw' m=> ?_) (λK f=> ?_)
    rotate_left
    ·clear m;go_simp;try with_reducible rfl
    go_simp;refine f _ ?_;clear f K
   refine qX (by rfl) (by kernel_rfl) (λK f=> ?_);go_simp;refine f.out _ _ (rh B.o (by exact e0.o)) ?_;clear f K;show wpList _ _ _ _ _ _;go_wp2_with fail;go_meet;exact Pk H3.o H2.o d1 HM.o d4.o d5.o d6.o HV.o b0.o HB.o.drew d9.o d7.o d8.o l.o B.o c3.o
  case rest=>
   obtain⟨o,hq,hst,D,f0,e9⟩:=hcut;have d3:=HV.o.step hst;obtain⟨F,G,N,wr,O,S,T,U,V,Y,d2,I,q1,q2,q3⟩:=hq;first
    |have b:=b
     generalize a2:({s with writes:=s.writes++[⟨0,1,bs⟩],logged:=s.logged+bs.length}:J.St)=i at q1 q3
    |generalize a2:({s with writes:=s.writes++[⟨0,0,bs⟩],logged:=s.logged+bs.length}:J.St)=i at q1 q3
   have c6:=ae a2;first
    |have b:=b
     have b1:=ae (show i.disk.a1.length+n<=100000000 by rw[<-a2];exact H)
     skip
    |have b1:=ae (show i.disk.a0.length+n<=100000000 by rw[<-a2];exact H)
   have L:=ae q1;have Q2:=ae q2;have C:=ae q3;have c7:=ae hst;have x:=ae D;have e6:=ae d3;have b4:=aj wc p q1;have a6:=aj wc w.heap.size D;clear a2 q1 q2 q3 hst D d3 f0 e9 H;go_upto_region 3 with fail;obtain⟨A',c',eA,f1,hy⟩:=e6.o.by
   injection eA with e1 e2 e3;subst e1 e3;have HY:=ae hy;clear hy b4 a6 e2;first
    |have b:=b
     refine bh 17 [(0,false),(1,false),(2,false),(3,false),(4,false),(5,false),(6,false),(7,false),(8,false),(9,false),(10,false),(11,false),(12,false),(14,false),(15,false),(16,false),(13,true)] (λw'=>w'.heap[p]? =some (.cells (bK i F G N wr O S T U V Y d2 I) 99 (0,0))/\w'.heap[w.heap.size]? =some (.cells #[.int .u8 0, .int .i64 1, .slice A n c] 139 (0,0))) (by kernel_rfl) (by kernel_rfl) (λc a d v w h=>by cases d<;>exact h) ⟨L.o,x.o⟩ ?_
    |refine bh 17 [(0,false),(1,false),(2,false),(3,false),(4,false),(5,false),(6,false),(7,false),(8,false),(9,false),(10,false),(11,false),(12,false),(14,false),(15,false),(16,false),(13,true)] (λw'=>w'.heap[p]? =some (.cells (bK i F G N wr O S T U V Y d2 I) 99 (0,0))/\w'.heap[w.heap.size]? =some (.cells #[.int .u8 0, .int .i64 0, .slice A n c] 139 (0,0))) (by kernel_rfl) (by kernel_rfl) (λc a d v w h=>by cases d<;>exact h) ⟨L.o,x.o⟩ ?_
   repeat
    refine bS (v:= ?_) (by rfl) (by rfl) (λw' m=> ?_) (λK f=> ?_);rotate_left
    ·have b4:=aj w' p m.1;have a6:=aj w' w.heap.size m.2;clear m;go_simp;try with_reducible rfl
    go_simp;refine f _ ?_;clear f K
   refine bG (by rfl) (λK f=> ?_);first
    |have b:=b
     refine oH (by rfl) _ _ (by rfl) o I i.disk.a1 (by rfl) (show fP wc.drew o I i.disk.a1 from C.o.e3) o A n c bs (by rfl) (by rw[<-b0.o];exact HY.o.drew) h0 (by exact b1.o) ?_
    |refine oH (by rfl) _ _ (by rfl) o d2 i.disk.a0 (by rfl) (show fP wc.drew o d2 i.disk.a0 from C.o.e2) o A n c bs (by rfl) (by rw[<-b0.o];exact HY.o.drew) h0 (by exact b1.o) ?_
   intro v1 w1 g;obtain⟨t,z,c1,rfl⟩:=dL g.own;first
    |have b:=b
     have g:iJ wc w1 o I (.slice t z c1) (i.disk.a1++bs):=⟨g.own,g.os,g.tape,g.output,g.size,g.block,g.row⟩
     skip
    |have g:iJ wc w1 o d2 (.slice t z c1) (i.disk.a0++bs):=⟨g.own,g.os,g.tape,g.output,g.size,g.block,g.row⟩
   have l:=ae ((g.block p (ai L.o).1 (λe=>C.o.ne L.o Q2.o (by simp[e.2]))).trans L.o);first
    |have b:=b
     have B:=ae ((g.block w.heap.size (ai x.o).1 (tV C.o.e3 x.o)).trans x.o)
     skip
    |have B:=ae ((g.block w.heap.size (ai x.o).1 (tV C.o.e2 x.o)).trans x.o)
   have c2:=ae g;clear g;go_simp;refine f.out _ _ ⟨l.o,B.o⟩ ?_;clear f K;have e7:=aj _ p l.o;have e8:=aD l.o;show wpList _ _ _ _ _ _;go_wp2_with fail;refine bodyPost_ret (results_none rfl _ _ _) rfl ?_;first
    |have b:=b
     have hT:=C.o.ZF c2.o;have a3:=ay (World.grownBy.refl w1 (some p)) 18 (.slice t z c1);have b9:=aB l.o 18 (.slice t z c1)
     skip
    |have hT:=C.o.ZE c2.o
     have a3:=ay (World.grownBy.refl w1 (some p)) 17 (.slice t z c1);have b9:=aB l.o 17 (.slice t z c1)
   have E:o p\/(Value.slice t z c1).ownBlock=some p:= .inl Q2.o;first
    |have b:=b
     have hw:J.write s ⟨0,1,bs⟩={i with disk:={i.disk with a1:=i.disk.a1++bs}}:=by rw[<-c6.o];simp[J.write,J.done,J.cS.bC,J.cS.area]
     skip
    |have hw:J.write s ⟨0,0,bs⟩={i with disk:={i.disk with a0:=i.disk.a0++bs}}:=by rw[<-c6.o];simp[J.write,J.done,J.cS.bC,J.cS.area]
   rw[hw];first
    |have b:=b
     exact⟨⟨_,rfl⟩,_,⟨F,G,N,wr,O,S,T,U,V,Y,d2,_,b9,E,hT.1.own l.o E a3⟩,c7.o.trans (hT.2.trans (Step.bg a3 (λk e _=>by cases e;exact E)))⟩
     skip
    |exact⟨⟨_,rfl⟩,_,⟨F,G,N,wr,O,S,T,U,V,Y,_,I,b9,E,hT.1.own l.o E a3⟩,c7.o.trans (hT.2.trans (Step.bg a3 (λk e _=>by cases e;exact E)))⟩
abbrev Dj:= @XO.1
abbrev Dk:= @XO.2
end Go.Proofs.YtipljcmmokaokaaGreat
