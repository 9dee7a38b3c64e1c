import Derived.Test.YtipljcmmokaokaaGreatQ01
import Derived.Deep.RegionHeld3
import Derived.Deep.QuietTactic
import Derived.BigQuiet
import Derived.Maps.OwnSet
import Derived.Maps.OwnOps
import Derived.Maps.Views
import Derived.Maps.RangeWalk
import Derived.Sort.KeysCollected
import Derived.Laws.Externs
import Derived.MapKept
set_option linter.unusedVariables false
set_option linter.unusedSimpArgs false
set_option maxHeartbeats 8000000
namespace Go.Proofs.YtipljcmmokaokaaGreat
open Go.RowKit Go.Lib
set_option maxRecDepth 100000
def Chs (w:World) (M:Nat->Prop) (A:Option Addr) (n:Nat) (L:List J.cd):Prop:=
 L.length=n/\(0<n->∃b,A=some ⟨b,0,none⟩/\b<w.heap.size/\∀i (h:i<L.length),∃v,w.cell? ⟨b,i*3,none⟩=some (.string ⟨L[i].key.toArray⟩)/\w.cell? ⟨b,i*3+1,none⟩=some v/\w.cell? ⟨b,i*3+2,none⟩=some (.bool L[i].gone)/\Sl w M v L[i].val)
section
variable {P : Program} {F : Array Oper} {o : Oper} {a : Act} {w : World} {K : Act -> World -> Prop} {Q : Exit -> Act -> World -> Prop} {E : Prop}
theorem mS (i:o.guard=none) (s x:Operand) (j:o.op= .call {callee:= .builtin .append,args:=#[s,x],argTypes:=#[40,40]})
  (base:Nat) (v:Value) (n:Nat) (l:List UInt8) (r:a.eval s=v) (k:w.ownsRow base 5 1 v n (dK l)) (M:Nat->Prop) (A:Option Addr) (m c:Nat) (b:List UInt8) (u:a.eval x= .slice A m c) (p:By w M A m b)
  (f:n+m<=100000000) (g:base<=w.heap.size)
  (h:∀v' w',w'.ownsRow base 5 1 v' (n+m) (dK (l++b))->w.grownBy w' v.ownBlock->K (a.put o.dst v') w'):
  if Region.wanted o (yielded F a.tmps)=true then Oper.wp Tryz.prog o a w K Q else E:=by
 have t:Region.wanted o (yielded F a.tmps)=true:=by simp[Region.wanted,i]
 rw[if_pos t];obtain⟨v',w',q,d,e,y,z⟩:=gC w base v n l k M A m c b p f g o.type;unfold Oper.wp execOp;simp only[j,resolve,invoke,builtin,Sem.run_bind,Sem.run_pure,Result.andThen_ok,List.map_toArray,List.map_cons,List.map_nil,r,u,q];exact h v' w' d e
theorem qP (f:o.guard=none) (s x:Operand) (g:o.op= .call {callee:= .builtin .append,args:=#[s,x],argTypes:=#[40,9]})
  (base:Nat) (v:Value) (n:Nat) (l:List UInt8) (k:a.eval s=v) (i:w.ownsRow base 5 1 v n (dK l)) (t:ByteArray) (p:a.eval x= .string t)
  (d:n+t.size<=100000000) (e:base<=w.heap.size)
  (h:∀v' w',w'.ownsRow base 5 1 v' (n+t.size) (dK (l++t.data.toList))->w.grownBy w' v.ownBlock->K (a.put o.dst v') w'):
  if Region.wanted o (yielded F a.tmps)=true then Oper.wp Tryz.prog o a w K Q else E:=by
 have m:Region.wanted o (yielded F a.tmps)=true:=by simp[Region.wanted,f]
 rw[if_pos m];obtain⟨v',w',j,b,c⟩:=vP w base v n l i t d e o.type;unfold Oper.wp execOp;simp only[g,resolve,invoke,builtin,Sem.run_bind,Sem.run_pure,Result.andThen_ok,List.map_toArray,List.map_cons,List.map_nil,k,p,j];exact h v' w' b c
end
theorem FT (L:List J.cd) (k:Nat) (h:k<L.length):L.take (k+1)=L.take k++[L[k]]:=List.take_succ_eq_append_getElem h
theorem sJ (L:List J.cd) (c:J.cd):J.encs (L++[c])=J.encs L++c.enc:=by simp[J.encs]
theorem yi (L:List J.cd) (k:Nat):(J.encs (L.take k)).length<=(J.encs L).length:=by
 have:J.encs L=J.encs (L.take k)++J.encs (L.drop k):=by unfold J.encs;rw[<-List.flatMap_append,List.take_append_drop]
 rw[this,List.length_append];omega
theorem df {w:World} {base:Nat} {e t:TypeId} {size n g:Nat} {v:Value} {xs:List Value} {C:Array Value} {a:Nat×Nat} (h:w.ownsRow base e size v n xs) (c:w.heap[g]? =some (.cells C t a)) (d:e≠t):v.ownBlock≠some g:=by
 rcases h.2 with⟨rfl,_⟩|⟨g',cap,cur,rfl,_,hh,_⟩
 ·simp[Value.ownBlock]
 ·intro b;have:g'=g:=(by simpa [Value.ownBlock] using b);subst this;rw[c]at hh;injection hh with hh;injection hh with _ ht;exact d ht.symm
def cX (w0:World) (g:Nat) (R:Array Value) (w:World):Prop:=w.heap[g]? =some (.cells R 163 (0,0))/\Below w0.heap.size w0 w
theorem cX.grown {w0 w w':World} {g:Nat} {R:Array Value} {n:Nat} {v:Value} {xs:List Value} (h:cX w0 g R w) (b:w.ownsRow w0.heap.size 5 1 v n xs) (a:w.grownBy w' v.ownBlock):cX w0 g R w':=
 ⟨(a.block g (ai h.1).1 (λe=>df b h.1 (by decide) e.symm)).trans h.1,h.2.grown a h.2.size (λj c=>(b.lt j c).1)⟩
theorem cX.alloc {w0 w:World} {g:Nat} {R:Array Value} (h:cX w0 g R w) (o:Obj):cX w0 g R (w.alloc o):=
 ⟨(Below.heap_alloc w o g (ai h.1).1).trans h.1,h.2.alloc h.2.size o⟩
theorem cX.seen {w0 w:World} {g:Nat} {K v:Value} {gone:Bool} (h:cX w0 g #[K,v, .bool gone] w):w.cell? ⟨g,0,none⟩=some K/\w.cell? ⟨g,1,none⟩=some v/\aa (cX w0 g #[K,v, .bool gone] w):=
 ⟨ah w g 0 _ _ _ h.1,ah w g 1 _ _ _ h.1,h⟩
theorem cX.drew {w0 w:World} {g:Nat} {R:Array Value} (h:cX w0 g R w):cX w0 g R w.drew:=⟨h.1,h.2.drew⟩
theorem rs_of {w0 w:World} {g:Nat} {K v:Value} {gone:Bool} (h:cX w0 g #[K,v, .bool gone] w):w.cell? ⟨g,0,none⟩=some K/\aa (cX w0 g #[K,v, .bool gone] w):=⟨ah w g 0 _ _ _ h.1,h⟩
theorem Oy {w0 w:World} {g:Nat} {K v:Value} {gone:Bool} (h:cX w0 g #[K,v, .bool gone] w):w.cell? ⟨g,1,none⟩=some v/\aa (cX w0 g #[K,v, .bool gone] w):=⟨ah w g 1 _ _ _ h.1,h⟩
theorem qQ {w0 w:World} {g:Nat} {K v:Value} {gone:Bool} {o:Obj} (h:w.drew.cell? ⟨g,0,none⟩=some K/\aa (cX w0 g #[K,v, .bool gone] w.drew)):(w.alloc o).drew.cell? ⟨g,0,none⟩=some K/\aa (cX w0 g #[K,v, .bool gone] (w.alloc o).drew):=
 rs_of (cX.alloc h.2.o o)
theorem Oz {w:World} {b:UInt8} {c:Int} (a:c=(b.toNat:Int)):By (w.alloc (.cells #[.int .u8 c] 5)).drew bE (some ⟨w.heap.size,0,none⟩) 1 [b]:=⟨rfl,λ_=>⟨w.heap.size,0,rfl,by simp,λh=>h,λj d=>by
 obtain rfl:j=0:=by simpa using d
 rw[Nat.zero_add];refine(World.cell?_alloc_new _ _ _ _).trans ?_;rw[a];rfl⟩⟩
theorem CQ (w:World) (o:Obj):w.heap.size<=(w.alloc o).heap.size:=by simp
theorem qR {w:World} {base a:Nat} {e:TypeId} {size n:Nat} {v:Value} {xs:List Value} (h:w.ownsRow base e size v n xs) (d:a<=base):w.ownsRow a e size v n xs:=
 ⟨h.1,h.2.imp id λ⟨g,cap,cur,h1,b,c⟩=>⟨g,cap,cur,h1,aw d b,c⟩⟩
theorem uW {w:World} {base n:Nat} {v:Value} {l l':List UInt8} (h:w.ownsRow base 5 1 v n (dK l)) (e:l'=l):w.ownsRow base 5 1 v l'.length (dK l'):=by
 subst e;have:n=l'.length:=by have:=h.1;rw[fu]at this;omega
 rw[<-this];exact h
theorem FU (kind l:Nat) (A:Option Addr) (n c:Nat) (L:List J.cd) (w:World) (M:Nat->Prop) (h:Chs w M A n L) (hk:kind<256) (f1:l<4611686018427387904) (hl:(J.encs L).length<=80000000) (hn:n<=80000000):
  Calls Tryz.prog 128 #[.int .u8 kind, .int .i64 l, .slice A n c] w λe w'=>∃v',e= .returned v'/\w'.ownsRow w.heap.size 5 1 v' (J.record kind l L).length (dK (J.record kind l L))/\Below w.heap.size w w':=by
 have H:=ae h;have hL:L.length=n:=h.1;clear h;go_enter Tryz.func128,Tryz.ntmps128;go_wp2;go_loopw [7,13] (fun s i wr=>∃k:Nat,k<=n/\i= .int .i64 k/\wr.ownsRow w.heap.size 5 1 s (J.encs (L.take k)).length (dK (J.encs (L.take k)))/\Below w.heap.size w wr) (fun _ i _=>n - (intOf i).toNat)
 case atStart=>exact⟨0,Nat.zero_le _,rfl,World.ownsRow_nil _ _ _ _,ak _ _⟩
 case round=>
  obtain⟨k,hk,rfl,D,b6⟩:=hrel;have T:=ae D;have m:=ae b6;clear D b6;by_cases f0:k<n
  ·have c2:k<L.length:=(by omega);obtain⟨b,rfl,C,c0⟩:=H.o.2 (by omega);obtain⟨v,a3,a4,a5,c8⟩:=c0 k c2;have a3:=(m.o.cell (p:=⟨b,k*3,none⟩) C).trans a3;have a4:=(m.o.cell (p:=⟨b,k*3+1,none⟩) C).trans a4;have a5:=(m.o.cell (p:=⟨b,k*3+2,none⟩) C).trans a5;obtain⟨f,g,rfl,e5,K⟩:=c8.by
   have HY:=ae K.noM;clear c0 c8 K;have U:=ae (FT L k c2);have a2:=yi L (k+1);rw[U.o,sJ,List.length_append]at a2;generalize b8:L[k]=I at HY a2 U a3 a4 a5;obtain⟨key,val,gone⟩:=I;have e0:=ae b8;clear b8;have c4:(J.encs (L.take k)).length+3+key.length<=80000000:=by
    have:3+key.length<=(J.cd.enc ⟨key,val,gone⟩).length:=(by cases gone<;>simp[J.cd.enc,J.eh]<;>omega);omega
   have O:gone=false->(J.encs (L.take k)).length+7+key.length+val.length<=80000000:=by
    intro hg;have:7+key.length+val.length<=(J.cd.enc ⟨key,val,gone⟩).length:=(by subst hg;simp[J.cd.enc,J.eh];omega);omega
   have e6:(J.encs (L.take k)).length+3+(⟨key.toArray⟩:ByteArray).size<=80000000:=(by rw[Lib.size_eq];exact c4);have e7:(J.encs (L.take k)).length+3+key.toArray.size<=80000000:=(by rw[List.size_toArray];exact c4);have f2:IntKind.u64.wrap (key.length:Int)=(key.length:Int):=IntWalk.u64_in _ (by omega);clear a2;cases gone with
   |true=>
    clear O;have hst:cX w wr.heap.size #[.string ⟨key.toArray⟩, .slice f val.length g, .bool true] (wr.alloc (.cells #[.string ⟨key.toArray⟩, .slice f val.length g, .bool true] 163)):=⟨heap_alloc_new wr _,m.o.alloc m.o.size _⟩;have a1:=ae hst;clear hst;go_wp2_with fail;have a:=rs_of (cX.drew a1.o);have y:=(T.o.alloc (.cells #[.string ⟨key.toArray⟩, .slice f val.length g, .bool true] 163)).drew;generalize G:(wr.alloc (.cells #[.string ⟨key.toArray⟩, .slice f val.length g, .bool true] 163))=F at a y|-;have b3:wr.heap.size<F.heap.size:=(by rw[<-G];simp);clear G;have z:=ae y;clear y;go_region_held3 (λw'=>w'.cell? ⟨wr.heap.size,0,none⟩=some (.string ⟨key.toArray⟩)/\aa (cX w wr.heap.size #[.string ⟨key.toArray⟩, .slice f val.length g, .bool true] w')) (first|exact a|exact qQ a)
     (first
      |(refine mS (by rfl) _ _ (by rfl) w.heap.size _ (J.encs (L.take k)).length (J.encs (L.take k)) (by rfl) (z.o.alloc _) bE (some ⟨F.heap.size,0,none⟩) 1 1 [0] (by rfl) (Oz (by rfl)) (by omega) (aw a.2.o.2.size (CQ _ _)) ?_;intro v1 w1 o r;have a:=rs_of (cX.grown (qQ a).2.o (z.o.alloc _) r))
      |(go_at_call 143;refine(nS _ _ _ _ 2 w.heap.size _ o a.2.o.2.size (by omega) (by omega) (by omega)).mono ?_;rintro e w2 ⟨v2,rfl,q,t,P⟩;have a:=rs_of (cX.grown a.2.o o t))
      |(refine qP (by rfl) _ _ (by rfl) w.heap.size _ _ _ (by rfl) q ⟨key.toArray⟩ (by rfl) (by omega) a.2.o.2.size ?_;intro v3 w3 d u;have a:=rs_of (cX.grown a.2.o q u)))
    have a0:=ae a.2;have B:=ae d;clear a o r q t P d u;go_wp2_with fail;go_roundw
    case rel=>exact⟨k+1,by omega,by go_num,uW B.o (by rw[U.o,sJ];simp[J.cd.enc]),a0.o.o.2⟩
    case measure=>simp[intOf];omega
   |false=>
    have O:=O rfl;have e8:(J.encs (L.take k)).length+7+(⟨key.toArray⟩:ByteArray).size+val.length<=80000000:=(by rw[Lib.size_eq];exact O);have e9:(J.encs (L.take k)).length+7+key.toArray.size+val.length<=80000000:=(by rw[List.size_toArray];exact O);have f3:IntKind.u64.wrap (val.length:Int)=(val.length:Int):=IntWalk.u64_in _ (by omega);have hst:cX w wr.heap.size #[.string ⟨key.toArray⟩, .slice f val.length g, .bool false] (wr.alloc (.cells #[.string ⟨key.toArray⟩, .slice f val.length g, .bool false] 163)):=⟨heap_alloc_new wr _,m.o.alloc m.o.size _⟩;have a1:=ae hst;clear hst;go_wp2_with fail;have a:=rs_of (cX.drew a1.o);have y:=(T.o.alloc (.cells #[.string ⟨key.toArray⟩, .slice f val.length g, .bool false] 163)).drew;generalize G:(wr.alloc (.cells #[.string ⟨key.toArray⟩, .slice f val.length g, .bool false] 163))=F at a y|-;have b3:wr.heap.size<F.heap.size:=(by rw[<-G];simp);clear G;have z:=ae y;clear y;go_region_held3 (λw'=>w'.cell? ⟨wr.heap.size,0,none⟩=some (.string ⟨key.toArray⟩)/\aa (cX w wr.heap.size #[.string ⟨key.toArray⟩, .slice f val.length g, .bool false] w')) (first|exact a|exact qQ a)
     (first
      |(refine mS (by rfl) _ _ (by rfl) w.heap.size _ (J.encs (L.take k)).length (J.encs (L.take k)) (by rfl) (z.o.alloc _) bE (some ⟨F.heap.size,0,none⟩) 1 1 [1] (by rfl) (Oz (by rfl)) (by omega) (aw a.2.o.2.size (CQ _ _)) ?_;intro v1 w1 o r;have a:=rs_of (cX.grown (qQ a).2.o (z.o.alloc _) r))
      |(go_at_call 143;refine(nS _ _ _ _ 2 w.heap.size _ o a.2.o.2.size (by omega) (by omega) (by omega)).mono ?_;rintro e w2 ⟨v2,rfl,q,t,P⟩;have a:=rs_of (cX.grown a.2.o o t))
      |(refine qP (by rfl) _ _ (by rfl) w.heap.size _ _ _ (by rfl) q ⟨key.toArray⟩ (by rfl) (by omega) a.2.o.2.size ?_;intro v3 w3 d u;have a:=rs_of (cX.grown a.2.o q u)))
    have a0:=ae a.2;have B:=ae d;clear a o r q t P d u b3 z;go_wp2_with fail;have a:=Oy (cX.drew a0.o.o);have d:=B.o.drew;go_region_held3 (λw'=>w'.cell? ⟨wr.heap.size,1,none⟩=some (.slice f val.length g)/\aa (cX w wr.heap.size #[.string ⟨key.toArray⟩, .slice f val.length g, .bool false] w')) (first|exact a)
     (first
      |(go_at_call 143;refine(nS _ _ _ _ 4 w.heap.size _ d a.2.o.2.size (by omega) (by omega) (by omega)).mono ?_;rintro e w4 ⟨v4,rfl,E,N,a6⟩;have a:=Oy (cX.grown a.2.o d N))
      |(refine mS (by rfl) _ _ (by rfl) w.heap.size _ _ _ (by rfl) E bE f val.length g val (by rfl) (HY.o.below a.2.o.2) (by omega) a.2.o.2.size ?_;intro v5 w5 c5 c1;have a:=Oy (cX.grown a.2.o E c1)))
    have d2:=ae a.2;have d1:=ae c5;clear a d E N a6 c5 c1;go_wp2_with fail;go_roundw
    case rel=>exact⟨k+1,by omega,by go_num,uW d1.o (by rw[U.o,sJ];simp[J.cd.enc]),d2.o.o.2⟩
    case measure=>simp[intOf];omega
  ·obtain rfl:k=n:=(by omega);have b4:L.take k=L:=List.take_of_length_le (by omega);have D:=T.o;rw[b4]at D;obtain⟨A',c',rfl,d5,K⟩:=gl D (M:=bE) (λ_ h=>h.elim);have HY:=ae K;have d6:((J.encs L).length:Int)<=80000000:=(by omega);have d7:(J.encs L).length<=80000000:=hl;have c7:(wr.alloc (.cells #[.int .u8 kind] 5)).ownsRow wr.heap.size 5 1 (.slice (some ⟨wr.heap.size,0,none⟩) 1 1) 1 (dK [UInt8.ofNat kind]):=by
    have:=World.ownsRow_lit (base:=wr.heap.size) (e:=5) (size:=1) wr #[.int .u8 kind] 1 (aq _) (by decide) rfl;have e:dK [UInt8.ofNat kind]=[Value.int .u8 kind]:=by
     simp only[dK,List.map_cons,List.map_nil,u8,UInt8.toNat_ofNat'];rw[Nat.mod_eq_of_lt (by omega)]
    rw[e];exact this
   have b0:=ae c7;generalize b2:J.encs L=V at HY d6 d7 d5;have a7:=ae b2;clear D b4 K c7 T b2 hl;go_wp2_with fail;refine(nS _ 1 _ l 4 wr.heap.size _ b0.o (by simp) (by omega) (by omega) (by omega)).mono ?_;rintro e w1 ⟨v1,rfl,o,r,d8⟩;have W:=ae (((ak wr.heap.size wr).alloc (aq _) _).grown r (by simp) (λj x=>(b0.o.lt j x).1));have a8:=ae o;clear o r d8;go_wp2_with fail;refine(nS _ _ _ V.length 4 wr.heap.size _ a8.o W.o.size (by omega) (by omega) (by omega)).mono ?_;rintro e w2 ⟨v2,rfl,q,t,P⟩;have S:=ae (W.o.grown t W.o.size (λj x=>(a8.o.lt j x).1));have a9:=ae q;clear q t P;go_wp2_with (at_builtin;refine bz rfl _ _ rfl wr.heap.size v2 _ _ rfl a9.o bE A' _ c' V rfl (HY.o.below S.o) (by omega) S.o.size ?_);intro v3 w3 d u d4 d9;have b5:=S.o.grown u S.o.size (λj x=>(a9.o.lt j x).1);have Y:=ae b5;have d:=uW d (l':=J.body kind l L) (by rw[J.body,a7.o];simp);have C:(J.body kind l L).length=9+V.length:=(by rw[J.body,a7.o];simp[J.eh];omega);have b9:=J.zQ (J.body kind l L);have c6:J.record kind l L=J.body kind l L++J.leB (J.bP (J.body kind l L)) 4:=rfl;have Z:=ae c6;generalize J.body kind l L=Q at d C b9 Z;have e2:Q.length<=80000009:=(by omega);have e3:(Q.length:Int)<=80000009:=(by omega);clear C;obtain⟨A3,c3,rfl,e4,b7⟩:=gl d (M:=bE) (λ_ h=>h.elim);have B:=ae d;have d3:=ae b7;clear d u d4 d9 b5 b7 c6;go_wp2_with fail
   with_reducible refine(yO A3 _ c3 Q _ bE d3.o (by omega)).mono ?_
   rintro e f4 ⟨rfl,rfl⟩;generalize b1:J.bP Q=CK at b9 Z;have e1:=ae b1;clear b1;go_wp2_with fail;refine(nS _ _ _ CK 4 wr.heap.size _ B.o Y.o.size (by omega) (by omega) (by omega)).mono ?_;rintro e w4 ⟨v4,rfl,E,N,a6⟩;have c9:=ae (Y.o.grown N Y.o.size (λj x=>(B.o.lt j x).1));have d0:=ae E;clear E N a6;go_wp2_with fail;go_ret;exact⟨_,rfl,uW (qR d0.o m.o.size) Z.o,m.o.trans (c9.o.mono m.o.size)⟩
def Part (A:Option Addr) (n i j:Nat) (A':Option Addr):Prop:=(∀(w:World) (M:Nat->Prop) (l:List UInt8),By w M A n l->By w M A' (j - i) ((l.take j).drop i))/\∀b o,A=some ⟨b,o,none⟩->∃o',A'=some ⟨b,o',none⟩
theorem Part.o {A a:Option Addr} {n i j:Nat} (h:Part A n i j a) (w:World) (M:Nat->Prop) (l:List UInt8) (b:By w M A n l):By w M a (j - i) ((l.take j).drop i):=h.1 w M l b
theorem zW {w:World} {A:Option Addr} {n c:Nat} (i j:Nat) (y:i<=j) (z:j<=n) (x:n<=c) (d a:Option Value)
  (t:d=some (.int .i64 i)\/(d=none/\i=0)) (r:a=some (.int .i64 j)\/(a=none/\j=n)):
  ∃f,(Instr.sliceAt 40 (.slice A n c) d a none).run Tryz.prog w= .ok (.slice f (j - i) (c - i)) w/\Part A n i j f:=by
 have m:(Instr.sliceBounds true n c d a none).run Tryz.prog w= .ok (i,j,c) w:=by
  have e1:(0:Int)<=(i:Int):=(by omega);have e2:(i:Int)<=(j:Int):=(by omega);have e3:(j:Int)<=(c:Int):=(by omega);have e0:(0:Int)<=(j:Int):=(by omega);rcases t with rfl|⟨rfl,rfl⟩<;>rcases r with rfl|⟨rfl,rfl⟩
  ·simp[Instr.sliceBounds,run_sliceBound _ _ _ _ _ e1 e2,run_sliceBound _ _ _ _ _ e0 e3]
  ·simp[Instr.sliceBounds,run_sliceBound _ _ _ _ _ e1 e2]
  ·simp[Instr.sliceBounds,run_sliceBound _ _ _ _ _ e0 e3]
  ·simp[Instr.sliceBounds]
 have v:(sizeOf (Tryz.prog.elem 40)).run Tryz.prog w= .ok 1 w:=by kernel_rfl
 have u:(Instr.sliceAt 40 (.slice A n c) d a none).run Tryz.prog w= .ok (sliced A i j c 1) w:=by
  rw[run_sliceAt_slice _ _ _ _ _ _ Tryz.underlying40,run_slice_any _ _ _ _ _ Tryz.underlying40,m];simp[Result.andThen,v]
 refine⟨_,u, ?_⟩;rw[Nat.mul_one];refine⟨λw M l h=> ?_,λb o e=>by subst e;split<;>simp[fB]⟩;refine⟨by rw[List.length_drop,List.length_take,h.1];omega,λB=> ?_⟩;obtain⟨b,o,rfl,p,g,q⟩:=h.2 (by omega);rw[if_neg (by omega)];refine⟨b,o+i,by simp[fB],p,g,λk s=> ?_⟩;rw[List.length_drop,List.length_take,h.1]at s;rw[Nat.add_assoc,q (i+k) (by rw[h.1];omega)];simp
section
variable {w : World} {F : Array Oper} {rest : List Oper} {o : Oper} {a : Act} {Q : Exit -> Act -> World -> Prop}
theorem wpList_slice_by (l:Region.wanted o (yielded F a.tmps)=true) (x:Operand) (e d:Option Operand) (s:o.op=Op.slice 40 x e d none) (A:Option Addr) (n c:Nat) (u:a.eval x= .slice A n c)
  (i j:Nat) (p:i<=j) (q:j<=n) (k:n<=c) (r:e.map a.eval=some (.int .i64 i)\/(e.map a.eval=none/\i=0)) (m:d.map a.eval=some (.int .i64 j)\/(d.map a.eval=none/\j=n))
  (f:∀b,Part A n i j b->wpList Tryz.prog F Q rest (a.put o.dst (.slice b (j - i) (c - i))) w):wpList Tryz.prog F Q (o::rest) a w:=by
 refine wpList_want l λv g=> ?_;obtain⟨b,t,h⟩:=zW (w:=w) (A:=A) i j p q k _ _ r m;unfold Oper.wp;simp only[execOp,s,u,Option.map_none,Sem.run_bind,t,Result.andThen];exact g _ _ (f b h)
theorem dN (g:Region.wanted o (yielded F a.tmps)=true) (x b:Operand) (k:o.op=Op.slice 40 x (some b) none none) (A:Option Addr) (n c:Nat) (l:a.eval x= .slice A n c) (i:Nat) (j:a.eval b= .int .i64 i) (h:i<=n) (f:n<=c)
  (e:∀d,Part A n i n d->wpList Tryz.prog F Q rest (a.put o.dst (.slice d (n - i) (c - i))) w):wpList Tryz.prog F Q (o::rest) a w:=
 wpList_slice_by g x (some b) none k A n c l i n h (aq _) f (.inl (congrArg some j)) (.inr ⟨rfl,rfl⟩) e
theorem kB (g:Region.wanted o (yielded F a.tmps)=true) (x b:Operand) (k:o.op=Op.slice 40 x none (some b) none) (A:Option Addr) (n c:Nat) (l:a.eval x= .slice A n c) (j:Nat) (h:a.eval b= .int .i64 j) (i:j<=n) (f:n<=c)
  (e:∀d,Part A n 0 j d->wpList Tryz.prog F Q rest (a.put o.dst (.slice d j c)) w):wpList Tryz.prog F Q (o::rest) a w:=
 wpList_slice_by g x none (some b) k A n c l 0 j (Nat.zero_le _) i f (.inr ⟨rfl,rfl⟩) (.inl (congrArg some h)) e
theorem tP (h:Region.wanted o (yielded F a.tmps)=true) (x d b:Operand) (q:o.op=Op.slice 40 x (some d) (some b) none) (A:Option Addr) (n c:Nat) (r:a.eval x= .slice A n c) (i j:Nat) (p:a.eval d= .int .i64 i) (k:a.eval b= .int .i64 j) (l:i<=j) (m:j<=n) (g:n<=c)
  (f:∀e,Part A n i j e->wpList Tryz.prog F Q rest (a.put o.dst (.slice e (j - i) (c - i))) w):wpList Tryz.prog F Q (o::rest) a w:=
 wpList_slice_by h x (some d) (some b) q A n c r i j l m g (.inl (congrArg some p)) (.inl (congrArg some k)) f
theorem bL {A:Option Addr} {n c:Nat} {l:List UInt8} {M:Nat->Prop} (h:By w M A n l):(convert 40 9 (.slice A n c)).run Tryz.prog w= .ok (.string ⟨l.toArray⟩) w:=by
 rcases Nat.eq_zero_or_pos n with h0|h0
 ·subst h0;obtain rfl:l=[]:=List.eq_nil_of_length_eq_zero h.1;rw[run_convert_bytes_string w 40 9 5 A 0 c Tryz.underlying40 Tryz.underlying5 Tryz.underlying9];cases A<;>rfl
 ·obtain⟨a,rfl,_,_,b⟩:=h.at_ h0;have e:=h.1;subst e;exact run_convert_bytes_back w 40 9 5 a c l Tryz.underlying40 Tryz.underlying5 Tryz.underlying9 b
theorem gD (e:Region.wanted o (yielded F a.tmps)=true) (x:Operand) (f:o.op=Op.convert 40 9 x) {M:Nat->Prop} (A:Option Addr) (n c:Nat) {l:List UInt8} (i:a.eval x= .slice A n c) (h:By w M A n l)
  (b:wpList Tryz.prog F Q rest (a.put o.dst (.string ⟨l.toArray⟩)) w):wpList Tryz.prog F Q (o::rest) a w:=by
 refine wpList_want e λj d=> ?_;have g:=bL (c:=c) h;unfold Oper.wp;simp only[execOp,f,i,Sem.run_bind,g,Result.andThen];exact d _ _ b
end
theorem Jl (A:Option Addr) (n:Nat) (l:List UInt8) (w:World) (M:Nat->Prop) (h:By w M A n l) (b:n<=8) (x:Nat) (d:J.dH l=x):
  ∀c k,Calls Tryz.prog 116 #[.slice A n c] (w.drewN k) λe f=>e= .returned (.int .u64 (x:Nat))/\∃m,f=w.drewN m:=λc k=>by
 subst d;exact Calls.quiet_of_same ((lG A n c l (w.drewN k) M (h.drewN k) b).mono λ_ _ ⟨h1,a⟩=>⟨h1,a.symm⟩)
theorem zX (a b:Option Addr) (g n1:Nat) (d f:List UInt8) (w:World) (h i:Nat->Prop) (n:By w h a g d) (o:By w i b n1 f) (q:Bool) (l:(d==f)=q):
  ∀c c1 k,Calls Tryz.prog 43 #[.slice a g c, .slice b n1 c1] (w.drewN k) λe p=>e= .returned (.bool q)/\∃m,p=w.drewN m:=λc c1 k=>by
 subst l;exact Calls.quiet_of_same ((iG a b g n1 c c1 d f (w.drewN k) h i (n.drewN k) (o.drewN k)).mono λ_ _ ⟨h1,j⟩=>⟨h1,j.symm⟩)
theorem By.slice {w:World} {M:Nat->Prop} {b o n:Nat} {l:List UInt8} (h:By w M (some ⟨b,o,none⟩) n l) (i j:Nat) (g:i<=j) (m:j<=n):By w M (some ⟨b,o+i,none⟩) (j - i) ((l.take j).drop i):=by
 refine⟨by rw[List.length_drop,List.length_take,h.1];omega,λp=> ?_⟩;obtain⟨b',o',e,c,a,d⟩:=h.2 (by omega);injection e with e;injection e with e1 e2;subst e1 e2;refine⟨b,o+i,rfl,c,a,λk f=> ?_⟩;rw[List.length_drop,List.length_take,h.1]at f;rw[Nat.add_assoc,d (i+k) (by rw[h.1];omega)];simp
def fD (l:List UInt8):Value:=match J.valid l with
 |some (g,a)=> .tuple #[.int .u64 (g:Nat), .int .i64 (a:Nat), .bool true]
 |none=> .tuple #[.int .u64 0, .int .i64 0, .bool false]
theorem yP (A:Option Addr) (n c:Nat) (l:List UInt8) (w:World) (M:Nat->Prop) (h:By w M A n l) (I:n<=c) (L:n<=90000000):
  Calls Tryz.prog 81 #[.slice A n c] w λe w'=>e= .returned (fD l)/\∃k,w'=w.drewN k:=by
 have m:=h.1;by_cases B:n=24
 ·subst B;obtain⟨b,o,rfl,_,_,_⟩:=h.2 (by omega);have i:=zX _ _ _ _ _ _ w M M (show By w M (some ⟨b,o,none⟩) 12 (l.take 12)from h.slice 0 12 (by omega) (by omega)) (show By w M (some ⟨b,o+12,none⟩) 12 ((l.take 24).drop 12)from h.slice 12 24 (by omega) (by omega)) _ rfl;have x:=Jl _ _ _ w M (show By w M (some ⟨b,o+8,none⟩) 4 ((l.take 12).drop 8)from h.slice 8 12 (by omega) (by omega)) (by omega) _ rfl;have hF:=Jl _ _ _ w M (show By w M (some ⟨b,o,none⟩) 8 (l.take 8)from h.slice 0 8 (by omega) (by omega)) (by omega) _ rfl;have y:=λn=>Jl _ _ _ (w.drewN n) M (show By (w.drewN n) M (some ⟨b,o+8,none⟩) 4 ((l.take 12).drop 8)from(h.slice 8 12 (by omega) (by omega)).drewN n) (by omega) _ rfl;have u:=λn=>Jl _ _ _ (w.drewN n) M (show By (w.drewN n) M (some ⟨b,o,none⟩) 8 (l.take 8)from(h.slice 0 8 (by omega) (by omega)).drewN n) (by omega) _ rfl;have e1:l.take 24=l:=List.take_of_length_le (by omega);rw[e1]at i;have d:fD l=if(l.take 12==l.drop 12)=true/\J.dH ((l.take 12).drop 8)<=1/\J.dH (l.take 8)<=4611686018427387904 then .tuple #[.int .u64 (J.dH (l.take 8):Nat), .int .i64 (J.dH ((l.take 12).drop 8):Nat), .bool true]else .tuple #[.int .u64 0, .int .i64 0, .bool false]:=by
   unfold fD J.valid J.latest;simp only[m,true_and,beq_iff_eq];split
   ·rename_i g a he
    split at he
    ·rename_i hh
     rw[if_pos hh];injection he with he;injection he with h1 s;rw[h1,s]
    ·cases he
   ·rename_i he
    split at he
    ·cases he
    ·rename_i hh;rw[if_neg hh]
  rw[d];clear d m e1 h;have H:J.dH (l.take 8)<18446744073709551616:=by
   have:=J.mN (l.take 8);refine av this ?_
   calc 256^(l.take 8).length<=256^8:=Nat.pow_le_pow_right (by omega) (List.length_take_le _ _)
    _=18446744073709551616:=by decide+kernel
  generalize(l.take 12==l.drop 12)=q at i;generalize J.dH ((l.take 12).drop 8)=a at x y;generalize J.dH (l.take 8)=g at hF u H;have f:=ae i;have r:=ae x;have p:=ae hF;have F:=ae y;have D:=ae u;clear i x hF y u;have K:(24:Int)<=(c:Int):=(by omega);cases q with
  |false=>
   rw[if_neg (by simp)];go_enter Tryz.func81,Tryz.ntmps81;go_wp2_with fail;go_quiet ((go_at_call 43;with_reducible exact f.o _ _ _));go_wp2;go_ret3;exact⟨rfl,_,rfl⟩
  |true=>
   by_cases ha:a<=1
   ·by_cases j:g<=4611686018427387904
    ·rw[if_pos ⟨rfl,ha,j⟩];have h1:((a:Nat):Int)<=1:=(by omega);have s:((g:Nat):Int)<=4611686018427387904:=(by omega);have S:decide ((1:Int)<((a:Nat):Int))=false:=decide_eq_false (by omega);have d2:decide ((4611686018427387904:Int)<((g:Nat):Int))=false:=decide_eq_false (by omega);clear ha j;go_enter Tryz.func81,Tryz.ntmps81;go_wp2_with fail;go_quiet ((first|(go_at_call 43;with_reducible exact f.o _ _ _)|(go_at_call 116;first|(with_reducible exact r.o _ _)|(with_reducible exact p.o _ _))));go_wp2_with fail;have z:=F.o nq;have v:=D.o nq;have t:=World.drewN_drewN w nq;generalize w.drewN nq=W2 at z v t|-;have G:=ae z;have E:=ae v;have C:=ae t;clear z v t;go_quiet ((go_at_call 116;first|(with_reducible exact G.o _ _)|(with_reducible exact E.o _ _)));go_wp2;go_ret3;exact⟨rfl,_,C.o _⟩
    ·rw[if_neg (λh=>j h.2.2)];have h1:((a:Nat):Int)<=1:=(by omega);have s:4611686018427387904<((g:Nat):Int):=(by omega);have S:decide ((1:Int)<((a:Nat):Int))=false:=decide_eq_false (by omega);have d2:decide ((4611686018427387904:Int)<((g:Nat):Int))=true:=decide_eq_true (by omega);clear ha j;go_enter Tryz.func81,Tryz.ntmps81;go_wp2_with fail;go_quiet ((first|(go_at_call 43;with_reducible exact f.o _ _ _)|(go_at_call 116;first|(with_reducible exact r.o _ _)|(with_reducible exact p.o _ _))));go_wp2;go_ret3;exact⟨rfl,_,rfl⟩
   ·rw[if_neg (λh=>ha h.2.1)];have h1:1<((a:Nat):Int):=(by omega);clear ha;go_enter Tryz.func81,Tryz.ntmps81;go_wp2_with fail;go_quiet ((first|(go_at_call 43;with_reducible exact f.o _ _ _)|(go_at_call 116;first|(with_reducible exact r.o _ _)|(with_reducible exact p.o _ _))));go_wp2;go_ret3;exact⟨rfl,_,rfl⟩
 ·have d:fD l= .tuple #[.int .u64 0, .int .i64 0, .bool false]:=by
   unfold fD J.valid;rw[if_neg (by rw[m];exactλh=>B h.1)]
  rw[d];have N:((n:Int) !=24)=true:=(by simp;omega);have O:((n:Int)==24)=false:=(by simp;omega);clear d m h;go_enter Tryz.func81,Tryz.ntmps81;go_wp2_with fail;go_quiet (fail);go_wp2;go_ret3;exact⟨rfl,_,rfl⟩
def dc (L:List J.cd) (vs:List Value):List Value:=(L.zip vs).flatMap λp=>[.string ⟨p.1.key.toArray⟩,p.2, .bool p.1.gone]
def dT (w:World) (M:Nat->Prop) (base:Nat) (v:Value) (L:List J.cd):Prop:=
 ∃vs:List Value,vs.length=L.length/\w.ownsRow base 163 3 v L.length (dc L vs)/\∀i (h:i<L.length) (h':i<vs.length),bT w (λk=>M k\/v.ownBlock=some k) vs[i] L[i].val
theorem dT.dV (w:World) (M:Nat->Prop) (base:Nat):dT w M base (.slice none 0 0) []:=⟨[],rfl,World.ownsRow_nil _ _ _ _,λi h=>absurd h (by simp)⟩
theorem zZ (L:List J.cd) (vs:List Value) (c:J.cd) (v:Value) (h:vs.length=L.length):dc (L++[c]) (vs++[v])=dc L vs++[.string ⟨c.key.toArray⟩,v, .bool c.gone]:=by
 unfold dc;rw[List.zip_append h.symm,List.flatMap_append];rfl
theorem Step.KT {M:Nat->Prop} {w w':World} {v v':Value} (a:w.grownBy w' v.ownBlock) (c:v'.ownBlock=v.ownBlock\/v'.ownBlock=some w.heap.size):Step (λk=>M k\/v.ownBlock=some k) (λk=>M k\/v'.ownBlock=some k) w w':=
 ⟨a.os,a.tape,a.output,a.size,λk b d=>a.block k b (λe=>d (.inr e.symm)),λk b h=>by
  rcases h with h|h
  ·exact .inl h
  ·rcases c with e|e
   ·exact .inr (e▸h)
   ·rw[e]at h;injection h with h;omega⟩
theorem dT.push {wr W w1:World} {M:Nat->Prop} {base:Nat} {v v' x:Value} {a:List J.cd} {c:J.cd} {vs:List Value} (h1:vs.length=a.length) (d:∀i (h:i<a.length) (o:i<vs.length),bT wr (λk=>M k\/v.ownBlock=some k) vs[i] a[i].val)
  (f:Below wr.heap.size wr W) (m:w1.ownsRow base 163 3 v' (a.length+1) (dc a vs++[.string ⟨c.key.toArray⟩,x, .bool c.gone])) (g:W.grownBy w1 v.ownBlock) (l:v'.ownBlock=v.ownBlock\/v'.ownBlock=some W.heap.size)
  (n:bT W (λk=>M k\/v.ownBlock=some k) x c.val):dT w1 M base v' (a++[c]):=by
 have b:=Step.KT (M:=M) g l;refine⟨vs++[x],by simp[h1], ?_,λi j p=> ?_⟩
 ·rw[zZ _ _ _ _ h1];simpa using m
 ·by_cases e:i<a.length
  ·rw[List.getElem_append_left e,List.getElem_append_left (by omega)];exact((d i e (by omega)).step (Step.aC f)).step b
  ·have:i=a.length:=(by simp at j;omega);subst this;rw[List.getElem_append_right (by omega),List.getElem_append_right (by omega)];simp only[h1,Nat.sub_self,List.getElem_singleton];exact n.step b
theorem By.old {w:World} {M:Nat->Prop} {A:Option Addr} {n:Nat} {l:List UInt8} (h:By w M A n l):By w (w.heap.size<= ·) A n l:=
 ⟨h.1,λd=>by
  obtain⟨b,o,e,a,_,c⟩:=h.2 d;exact⟨b,o,e,a,by show¬_<=_;omega,c⟩⟩
theorem Tryz.Xw:(Tryz.prog.info? 163).map (λi=>(i.zero,i.size,i.bytes))=some (some (.agg #[.string ⟨#[]⟩, .slice none 0 0, .bool false]),3,48):=by kernel_rfl
namespace J
theorem fq:aX []=some []:=by unfold aX;rw[if_pos rfl]
theorem iH {r:B} (h0:r≠[]) (h:chgOf r=none):aX r=none:=by
 unfold aX;rw[if_neg h0];split
 ·rfl
 ·rename_i c r' h';rw[h]at h';cases h'
theorem iI {r r':B} {c:cd} (h0:r≠[]) (h:chgOf r=some (c,r')):aX r=(aX r').map (c:: ·):=by
 rw[aX,if_neg h0];split
 ·rename_i h';rw[h]at h';cases h'
 ·rename_i c2 r2 h';rw[h]at h';injection h' with h';injection h' with h1 h2;subst h1 h2;rfl
def eO (r:B):Nat:=dH ((r.take 3).drop 1)
def Aa (q:B):Nat:=dH (q.take 4)
theorem vV {r:B} (h:r.length<3\/1<(r.headD 0).toNat):chgOf r=none:=by unfold chgOf;rw[if_pos h]
theorem FY {r:B} (h:eO r=0\/300<eO r\/r.length - 3<eO r):chgOf r=none:=by
 unfold chgOf;split
 ·rfl
 ·rw[if_pos (by simpa [eO] using h)]
theorem FZ {r:B} (h1:¬(r.length<3\/1<(r.headD 0).toNat)) (a:¬(eO r=0\/300<eO r\/r.length - 3<eO r)) (b:r.headD 0=0):
  chgOf r=some (⟨(r.drop 3).take (eO r),[],true⟩,(r.drop 3).drop (eO r)):=by
 unfold chgOf;rw[if_neg h1];dsimp only;rw[if_neg (by simpa [eO] using a),if_pos b];rfl
theorem pG {r:B} (h1:¬(r.length<3\/1<(r.headD 0).toNat)) (a:¬(eO r=0\/300<eO r\/r.length - 3<eO r)) (b:r.headD 0≠0)
  (c:((r.drop 3).drop (eO r)).length<4\/8192<Aa ((r.drop 3).drop (eO r))\/((r.drop 3).drop (eO r)).length - 4<Aa ((r.drop 3).drop (eO r))):chgOf r=none:=by
 unfold chgOf;rw[if_neg h1];dsimp only;rw[if_neg (by simpa [eO] using a),if_neg b];exact if_pos c
theorem KU {r:B} (h1:¬(r.length<3\/1<(r.headD 0).toNat)) (a:¬(eO r=0\/300<eO r\/r.length - 3<eO r)) (b:r.headD 0≠0)
  (c:¬(((r.drop 3).drop (eO r)).length<4\/8192<Aa ((r.drop 3).drop (eO r))\/((r.drop 3).drop (eO r)).length - 4<Aa ((r.drop 3).drop (eO r)))):
  chgOf r=some (⟨(r.drop 3).take (eO r),(((r.drop 3).drop (eO r)).drop 4).take (Aa ((r.drop 3).drop (eO r))),false⟩,((r.drop 3).drop (eO r)).drop (4+Aa ((r.drop 3).drop (eO r)))):=by
 unfold chgOf;rw[if_neg h1];dsimp only;rw[if_neg (by simpa [eO] using a),if_neg b];exact if_neg c
theorem TZ (r:B):eO r<65536:=by
 have:=mN ((r.take 3).drop 1);refine av this ?_
 calc 256^((r.take 3).drop 1).length<=256^2:=Nat.pow_le_pow_right (by omega) (by rw[List.length_drop,List.length_take];omega)
  _=65536:=by decide
theorem Ua (q:B):Aa q<4294967296:=by
 have:=mN (q.take 4);refine av this ?_
 calc 256^(q.take 4).length<=256^4:=Nat.pow_le_pow_right (by omega) (List.length_take_le _ _)
  _=4294967296:=by decide+kernel
end J
def Xx (w : World) (l : List UInt8) (e : Ending) (w' : World) : Prop :=
  (match J.aX l with
   | none => e = .returned (.tuple #[.slice none 0 0, .bool false])
   | some L => ∃ v, e = .returned (.tuple #[v, .bool true]) /\ dT w' (· < w.heap.size) w.heap.size v L) /\ Below w.heap.size w w'
theorem Zo (w:World) (a b:Obj):Below w.heap.size w ((w.alloc a).alloc b):=((ak _ _).alloc (aq _) _).alloc (by simp) _
theorem iv {w w':World} {l r:List UInt8} {a:List J.cd} {e:Ending} (h:J.aX l=(J.aX r).map (a++ ·)) (h0:r≠[]) (c:J.chgOf r=none) (d:e= .returned (.tuple #[.slice none 0 0, .bool false])) (b:Below w.heap.size w w'):Xx w l e w':=by
 refine⟨?_,b⟩;rw[h,J.iH h0 c];exact d
def mU (w:World) (l:List UInt8) (b out:Value) (wr:World):Prop:=
 ∃(A:Option Addr) (nr cr:Nat) (r:List UInt8) (dn:List J.cd),b= .slice A nr cr/\nr<=cr/\nr<=90000000/\By wr (w.heap.size<= ·) A nr r/\dT wr (· <w.heap.size) w.heap.size out dn/\dn.length+nr<=90000000/\J.aX l=(J.aX r).map (dn++ ·)/\Below w.heap.size w wr
theorem Step.setCell {M:Nat->Prop} {w:World} {p:Addr} (h:M p.block) (v:Value):Step M M w (w.setCell p v):=
 ⟨rfl,rfl,rfl,by simp[World.setCell],λk _ a=>Below.heap_setCell w p v k (λe=>a (by rw[e];exact h)),λ_ _ h=>h⟩
theorem Ub {w:World} {g:Nat} {K x v:Value} {b:Bool} {t:TypeId} (h:w.heap[g]? =some (.cells #[K,x, .bool b] t (0,0))):(w.setCell ⟨g,1,none⟩ v).heap[g]? =some (.cells #[K,v, .bool b] t (0,0)):=by
 simp[World.setCell,Array.getElem?_modify,h]
theorem CT {d:Option Addr} {b' o' nq a V:Nat} {q:List UInt8} {W:World} {M:Nat->Prop} {c:Option Addr} (f:By W M c nq q) (j:c=some ⟨b',o',none⟩) (l:b'<W.heap.size) (g:Part c nq 4 (4+V) d) (n:4+V<=nq) (p:nq<=90000000) (o:nq<=a):
  Calls Tryz.prog 96 #[.slice d V (a - 4)] W λe w'=>∃v',e= .returned v'/\bT w' (· <W.heap.size) v' ((q.drop 4).take V)/\Below W.heap.size W w':=by
 obtain⟨o2,rfl⟩:=g.2 b' o' j;have b:=g.o W M _ f;have r:q.length=nq:=f.1;have k:(q.take (4+V)).drop 4=(q.drop 4).take V:=by rw[List.drop_take];congr 1;omega
 rw[k]at b;have i:4+V - 4=V:=by omega
 rw[i]at b;have h:((q.drop 4).take V).length=V:=b.1;have m:Sl W M (.slice (some ⟨b',o2,none⟩) ((q.drop 4).take V).length (a - 4)) ((q.drop 4).take V):= .inr ⟨b',o2,a - 4,rfl,by omega,l,by rw[h];exact b⟩;have:=fC _ _ W M m (by omega);rw[h]at this;exact this
theorem mU.next {w w1:World} {l r r':List UInt8} {a:List J.cd} {c:J.cd} {b:Option Addr} {n' c':Nat} {v':Value} (g:J.aX l=(J.aX r).map (a++ ·)) (i:r≠[]) (f:J.chgOf r=some (c,r')) (e:By w1 (w.heap.size<= ·) b n' r') (h:n'<=c')
  (hd:a.length+1+n'<=90000000) (j:dT w1 (· <w.heap.size) w.heap.size v' (a++[c])) (d:Below w.heap.size w w1):mU w l (.slice b n' c') v' w1:=by
 refine⟨b,n',c',r',a++[c],rfl,h,by omega,e,j,by simp;omega, ?_,d⟩;rw[g,J.iI i f,Option.map_map]
 congr 1
 funext t;simp
theorem yQ (r:List UInt8) (a N:Nat) (h:r.length=a):(((r.take a).drop 3).take (a - 3)).drop N=(r.drop 3).drop N:=by
 rw[List.take_of_length_le (show r.length<=a by omega),List.take_of_length_le (by rw[List.length_drop];omega)]
theorem yj (A:Option Addr) (n c:Nat) (l:List UInt8) (w:World) (M:Nat->Prop) (h:By w M A n l) (hc:n<=c) (hn:n<=90000000):
  Calls Tryz.prog 118 #[.slice A n c] w (Xx w l):=by
 have hst:mU w l (.slice A n c) (.slice none 0 0) w:=⟨A,n,c,l,[],rfl,hc,hn,h.old,dT.dV _ _ _,by simpa using hn,by simp,ak _ _⟩;have h7:=ae hst;clear hst h;obtain⟨i0,hi,g1,g2,g3⟩:=info_parts Tryz.Xw;go_enter Tryz.func118,Tryz.ntmps118;go_wp2;go_loopw [0,4] (fun b out wr=>mU w l b out wr) (fun b _ _=>match b with| .slice _ n _=>n|_=>0)
 case atStart=>exact h7.o
 case round=>
  obtain⟨A,a,q,r,dn,rfl,b1,j0,c4,f7,i7,e8,k2⟩:=hrel;have K:r.length=a:=c4.1;have HY:=ae c4;have HR:=ae f7;have f:=ae k2;have B:=ae e8;clear c4 f7 k2 e8;by_cases h0:a=0
  ·subst h0;obtain rfl:r=[]:=List.eq_nil_of_length_eq_zero K;have d:=B.o;rw[J.fq]at d;have HX:=ae d;obtain⟨vs,Y,L,Z⟩:=HR.o;clear d K;go_wp2;go_ret2;exact⟨by rw[HX.o];exact⟨_,rfl,by simpa using HR.o⟩,f.o⟩
  have D:r≠[]:=λe=>h0 (by rw[<-K,e];rfl);have k5:(0:Int)<(a:Int):=(by omega);by_cases h3:a<3
  ·have d:=B.o;have s:=ae (λe y w' u=>iv (w:=w) (w':=w') (e:=e) d D (J.vV (.inl (by omega))) y u);have d3:(a:Int)<3:=(by omega);clear d;go_wp2;go_ret2;exact s.o _ rfl _ f.o
  have d3:(3:Int)<=(a:Int):=(by omega);obtain⟨b,o,rfl,j5,_,e7⟩:=HY.o.cell (k:=0) (by omega);rw[Nat.add_zero]at e7;have d1:r.headD 0=r[0]'(by omega):=by cases r with|nil=>exact absurd rfl D|cons x t=>rfl
  generalize r[0]'(by omega)=x0 at e7 d1;have a9:=ae d1;clear d1;by_cases j1:1<((x0.toNat:Nat):Int)
  ·have d:=B.o;have s:=ae (λe y w' u=>iv (w:=w) (w':=w') (e:=e) d D (J.vV (.inr (by rw[a9.o];omega))) y u);clear d;go_wp2;go_ret2;exact s.o _ rfl _ f.o
  have j2:((x0.toNat:Nat):Int)<=1:=(by omega);have f1:¬(r.length<3\/1<(r.headD 0).toNat):=(by rw[a9.o];omega);have a1:=ae f1;have c0:=ae (show By wr (w.heap.size<= ·) (some ⟨b,o+1,none⟩) 2 ((r.take 3).drop 1)from HY.o.slice 1 3 (by omega) (by omega));obtain⟨N,hN⟩:∃N,J.eO r=N:=⟨_,rfl⟩;have i2:N<=70000:=(by rw[<-hN];have:=J.TZ r;omega);have F:=ae hN;have d9:J.dH ((r.take 3).drop 1)=N:=hN;have i1:(N:Int)<=70000:=(by omega);clear f1 hN;have f0:∀w,By w bE (some ⟨b,o+1,none⟩) 2 ((r.take 3).drop 1)->Calls Tryz.prog 116 #[.slice (some ⟨b,o+1,none⟩) 2 (q - 1)] w λe w'=>e= .returned (.int .u64 (N:Nat))/\w=w':=λw h=>by
   rw[<-d9];exact lG _ 2 _ _ w bE h (by omega)
  have b4:=ae f0;clear f0 d9;by_cases b0:N=0\/300<N\/a - 3<N
  ·have d:=B.o;have s:=ae (λe y w' u=>iv (w:=w) (w':=w') (e:=e) d D (J.FY (by rw[F.o,K];exact b0)) y u);have i3:((N:Int)==0)=true\/(((N:Int)==0)=false/\300<(N:Int))\/(((N:Int)==0)=false/\(N:Int)<=300/\(a:Int) - 3<(N:Int)):=by
    by_cases e0:N=0
    ·left;simp[e0]
    ·have e1:((N:Int)==0)=false:=(by simp;omega);by_cases e2:300<N
     ·right;left;exact⟨e1,by omega⟩
     ·right;right;exact⟨e1,by omega,by omega⟩
   clear d b0;rcases i3 with e1|⟨e1,e2⟩|⟨e1,e2,e3⟩
   all_goals
    go_wp2_with fail;refine(b4.o _ (c0.o.noM.alloc _)).mono ?_;rintro e w1 ⟨rfl,rfl⟩;go_wp2_with (refine dN rfl _ _ rfl (some ⟨b,o,none⟩) a q rfl 3 rfl (by omega) b1 ?_);intro P I;clear I;go_wp2;go_ret2;exact s.o _ rfl _ (f.o.alloc f.o.size _)
  have f2:¬(J.eO r=0\/300<J.eO r\/r.length - 3<J.eO r):=(by rw[F.o,K];exact b0);have a2:=ae f2;have e1:((N:Int)==0)=false:=(by simp;omega);have e2:(N:Int)<=300:=(by omega);have e3:(N:Int)<=(a:Int) - 3:=(by omega);have e4:N<=a - 3:=(by omega);have f8:r.take a=r:=List.take_of_length_le (by omega);have d2:=ae f8;clear f2 b0 j1 h0 h3 f8;by_cases S:x0=0
  ·have hz:(((x0.toNat:Nat):Int)==0)=true:=(by rw[S];rfl);have Q:=ae S;clear S;go_wp2_with fail;refine(b4.o _ (c0.o.noM.alloc _)).mono ?_;rintro e w1 ⟨rfl,rfl⟩;go_wp2_with (refine dN rfl _ _ rfl (some ⟨b,o,none⟩) a q rfl 3 rfl (by omega) b1 ?_);intro P I;have a0:=ae I;clear I;go_wp2_with (refine kB rfl _ _ rfl P (a - 3) (q - 3) rfl N rfl e4 (by omega) ?_);intro A4 a4;have b3:=ae a4;clear a4;go_wp2_with (first
    |(refine gD rfl _ rfl A4 N (q - 3) rfl (b3.o.o _ _ _ (a0.o.o _ _ _ (HY.o.alloc _))) ?_)
    |(refine dN rfl _ _ rfl P (a - 3) (q - 3) rfl N rfl e4 (by omega) ?_))
   intro z a5;have g4:=ae a5;clear a5;obtain⟨vs,Y,L,Z⟩:=HR.o;have b8:=ae Y;have a8:=ae L;have b9:=ae Z;clear Y L Z;go_wp2_with (at_builtin;refine wpList_append_own_at _ rfl _ _ 95 rfl w.heap.size 163 i0 _ 3 48 Tryz.underlying95 hi g1 g2 g3 rfl (by decide) _ _ _ rfl ((a8.o.alloc _).alloc _) ⟨wr.heap.size+1,0,none⟩ 1 1 [.string ⟨((r.take a).drop 3|>.take N).toArray⟩, .slice none 0 0, .bool true] rfl rfl (World.news_of_block (heap_alloc2_new wr _ _)) (by simp[Value.oneCell']) (by unfold maxLen;omega) (by omega) (by have:=f.o.size;simp;omega) ?_);intro v' w1 U m c7 a6;have g:Below wr.heap.size wr ((wr.alloc (.cells #[.string ⟨((r.take a).drop 3|>.take N).toArray⟩, .slice none 0 0, .bool true] 163)).alloc (.cells #[.string ⟨((r.take a).drop 3|>.take N).toArray⟩, .slice none 0 0, .bool true] 163)):=Zo _ _ _;have f9:((r.take a).drop 3).take N=(r.drop 3).take N:=(by rw[d2.o]);rw[f9]at U m g;have H:=a8.o.lt;have hst:mU w l (.slice z (a - 3 - N) (q - 3 - N)) v' w1:=by
    refine mU.next (c:=⟨(r.drop 3).take N,[],true⟩) (r':=(r.drop 3).drop N) B.o D ?_ ?_ (by omega) (by omega) ?_ ?_
    ·rw[J.FZ a1.o a2.o (by rw[a9.o,Q.o]),F.o]
    ·rw[<-yQ r a N K];refine g4.o.o _ _ _ (a0.o.o _ _ _ ((HY.o.below g).step (Step.bg m (λk i _=>(H k i).1))))
    ·exact dT.push b8.o b9.o g U m (by rcases a6 with h|h;exact .inl h;exact .inr (by rw[h];simp)) bT.dV
    ·exact((f.o.trans (g.mono f.o.size))).grown m (by have:=f.o.size;simp;omega) (λk i=>(H k i).1)
   have b7:=ae hst;clear hst U m c7 a6 g f9 H;go_wp2_with fail;go_roundw
   case rel=>exact b7.o
   case measure=>simp;omega
  ·have hz:(((x0.toNat:Nat):Int)==0)=false:=by
    simp only[beq_eq_false_iff_ne];intro h;exact S (UInt8.toNat_inj.1 (by show x0.toNat=0;omega))
   have Q:=ae (show r.headD 0≠0 by rw[a9.o];exact S);have k4:=ae (J.Ua ((r.drop 3).drop N));clear S;go_wp2_with fail;refine(b4.o _ (c0.o.noM.alloc _)).mono ?_;rintro e w1 ⟨rfl,rfl⟩;go_wp2_with (refine dN rfl _ _ rfl (some ⟨b,o,none⟩) a q rfl 3 rfl (by omega) b1 ?_);intro P I;have a0:=ae I;clear I;go_wp2_with (refine kB rfl _ _ rfl P (a - 3) (q - 3) rfl N rfl e4 (by omega) ?_);intro A4 a4;have b3:=ae a4;clear a4;go_wp2_with (first
    |(refine gD rfl _ rfl A4 N (q - 3) rfl (b3.o.o _ _ _ (a0.o.o _ _ _ (HY.o.alloc _))) ?_)
    |(refine dN rfl _ _ rfl P (a - 3) (q - 3) rfl N rfl e4 (by omega) ?_))
   intro z a5;obtain⟨nq,c8⟩:∃nq,a - 3 - N=nq:=⟨_,rfl⟩;obtain⟨C,e9⟩:∃C,q - 3 - N=C:=⟨_,rfl⟩;rw[c8,e9];have T:nq<=C:=(by omega);have i9:nq<=90000000:=(by omega);have j8:nq<=a:=(by omega);have j7:dn.length+1+nq<=90000000:=(by omega);have f4:∀W M,By W M (some ⟨b,o,none⟩) a r->By W M z nq ((r.drop 3).drop N):=λW M h=>by
    have:=a5.o W M _ (a0.o.o W M _ h);rw[yQ r a N K,c8]at this;exact this
   have f5:((r.drop 3).drop N).length=nq:=(by rw[List.length_drop,List.length_drop];omega);have b6:=ae f4;have a3:=ae f5;have f6:((r.take a).drop 3).take N=(r.drop 3).take N:=(by rw[d2.o]);rw[f6];clear a5 c8 e9 f4 f5 f6 b1 j0 k5 d3 e3 e4 j2 e2 e1 i2 i1 i7;by_cases h4:nq<4
   ·have hd:decide ((nq:Int)<4)=true:=decide_eq_true (by omega);have d:=B.o;have s:=ae (λe y w' u=>iv (w:=w) (w':=w') (e:=e) d D (J.pG a1.o a2.o Q.o (.inl (by rw[F.o,a3.o];exact h4))) y u);clear d h4;go_wp2;go_ret2;exact s.o _ rfl _ (f.o.alloc f.o.size _)
   have hd:decide ((nq:Int)<4)=false:=decide_eq_false (by omega);have c1:4<=nq:=(by omega);have c6:∀W M A',By W M (some ⟨b,o,none⟩) a r->Part z nq 0 4 A'->∀c,Calls Tryz.prog 116 #[.slice A' 4 c] W λe w'=>e= .returned (.int .u64 (J.Aa ((r.drop 3).drop N):Nat))/\W=w':=λW M A' h hA c=>by
    have:=hA.o W M _ (b6.o W M h);exact lG A' 4 c _ W M (by simpa using this) (by omega)
   obtain⟨V,hV⟩:∃V,J.Aa ((r.drop 3).drop N)=V:=⟨_,rfl⟩;rw[hV]at c6;have j4:V<=4300000000:=(by have:=k4.o;omega);have HV:=ae hV;have k0:=ae c6;clear hV c6 h4;go_wp2_with (refine kB rfl _ _ rfl z nq C rfl 4 rfl c1 T ?_);intro A6 d4;have g5:=ae d4;clear d4;go_wp2_with fail;refine(k0.o _ _ _ (HY.o.alloc _) g5.o _).mono ?_;rintro e w1 ⟨rfl,rfl⟩;by_cases h8:8192<V
   ·have i5:decide ((8192:Int)<(V:Int))=true:=decide_eq_true (by omega);have d:=B.o;have s:=ae (λe y w' u=>iv (w:=w) (w':=w') (e:=e) d D (J.pG a1.o a2.o Q.o (.inr (.inl (by rw[F.o,HV.o];exact h8)))) y u);clear d h8;go_wp2;go_ret2;exact s.o _ rfl _ (f.o.alloc f.o.size _)
   have i5:decide ((8192:Int)<(V:Int))=false:=decide_eq_false (by omega);have j3:V<=8192:=(by omega);clear h8;go_wp2_with (refine kB rfl _ _ rfl z nq C rfl 4 rfl c1 T ?_);intro A7 d5;have g6:=ae d5;clear d5;go_wp2_with fail;refine(k0.o _ _ _ (HY.o.alloc _) g6.o _).mono ?_;rintro e w1 ⟨rfl,rfl⟩;by_cases h9:nq - 4<V
   ·have i6:decide ((nq:Int) - 4<(V:Int))=true:=decide_eq_true (by omega);have d:=B.o;have s:=ae (λe y w' u=>iv (w:=w) (w':=w') (e:=e) d D (J.pG a1.o a2.o Q.o (.inr (.inr (by rw[F.o,a3.o,HV.o];exact h9)))) y u);have k6:(nq:Int) - 4<(V:Int):=(by omega);clear d h9;go_wp2;go_ret2;exact s.o _ rfl _ (f.o.alloc f.o.size _)
   have i6:decide ((nq:Int) - 4<(V:Int))=false:=decide_eq_false (by omega);have k6:(V:Int)<=(nq:Int) - 4:=(by omega);have c3:4+V<=nq:=(by omega);clear h9;go_wp2_with (refine kB rfl _ _ rfl z nq C rfl 4 rfl c1 T ?_);intro A8 d6;have g7:=ae d6;clear d6;go_wp2_with fail;refine(k0.o _ _ _ (HY.o.alloc _) g7.o _).mono ?_;rintro e w1 ⟨rfl,rfl⟩;go_wp2_with (refine tP rfl _ _ _ rfl z nq C rfl 4 (4+V) rfl rfl (by omega) c3 T ?_);intro A9 d7;have g8:=ae d7;clear d7;go_wp2_with fail;have c5:=b6.o _ _ (HY.o.alloc (.cells #[.string ⟨((r.drop 3).take N).toArray⟩, .slice none 0 0, .bool false] 163));obtain⟨b5,o5,e5,k1, -, -⟩:=c5.cell (k:=0) (by omega);refine(CT c5 e5 k1 g8.o c3 i9 T).mono ?_;rintro e E ⟨v2,rfl,c9,g⟩;have b2:E.heap[wr.heap.size]? =some (.cells #[.string ⟨((r.drop 3).take N).toArray⟩, .slice none 0 0, .bool false] 163 (0,0)):=(g.block _ (by simp)).trans (heap_alloc_new wr _);have h2:=ae b2;have i4:=aj E _ b2;have i8:∀j,E.frozen? ⟨wr.heap.size,j,none⟩=false:=λj=>by simp[World.frozen?,b2]
   have g0:((((r.drop 3).drop N).drop 4).take V).length=V:=(by rw[List.length_take,List.length_drop,a3.o];omega);obtain⟨O,c2,e2, -, -⟩:=c9.sl.by
   rw[g0]at e2;subst e2;have h5:=ae c9;have e6:Below wr.heap.size wr E:=((ak _ _).alloc (aq _) _).trans (g.mono (by simp));have h1:=ae e6;have j9:wr.heap.size<E.heap.size:=(by have:=g.size;simp at this;omega);clear c9 g b2 e6 c5 e5 k1 g0;go_wp2_with (refine dN rfl _ _ rfl z nq C rfl (4+V) rfl c3 T ?_);intro AA d8;have g9:=ae d8;clear d8;go_upto_region 18 with fail;have m:=Ub (v:= .slice O V c2) h2.o;have d0:Step (· <wr.heap.size+1) (· <wr.heap.size+1) E (E.setCell ⟨wr.heap.size,1,none⟩ (.slice O V c2)):=Step.setCell (show wr.heap.size<wr.heap.size+1 by omega) _;have G:Below wr.heap.size wr (E.setCell ⟨wr.heap.size,1,none⟩ (.slice O V c2)):=h1.o.setCell (p:=⟨wr.heap.size,1,none⟩) (aq _) _;generalize E.setCell ⟨wr.heap.size,1,none⟩ (.slice O V c2)=W3 at m d0 G|-;have j6:=aj W3 _ m;have h6:=ae ((h5.o.weak (M':=(· <wr.heap.size+1)) (λk i=>by simp;omega)).step d0);have a7:=ae G;obtain⟨vs,Y,L,Z⟩:=HR.o;have b8:=ae Y;have a8:=ae L;have b9:=ae Z;have f3:=L.kept (row:=none) ⟨G.os,G.tape,G.output,G.size,λk i _=>G.block k i⟩ (by cases h:u4.ownBlock with|none=>exact .inl rfl|some x=>exact .inr (by simp));have k3:=ae f3;clear Y L Z f3 G d0 m i4 i8;go_wp2_with (at_builtin;refine wpList_append_own_at _ rfl _ _ 95 rfl w.heap.size 163 i0 _ 3 48 Tryz.underlying95 hi g1 g2 g3 rfl (by decide) _ _ _ rfl (k3.o.alloc _) ⟨W3.heap.size,0,none⟩ 1 1 [.string ⟨((r.drop 3).take N).toArray⟩, .slice O V c2, .bool false] rfl rfl (World.news_of_block (heap_alloc_new W3 _)) (by simp[Value.oneCell']) (by unfold maxLen;omega) (by omega) (by have:=f.o.size;have:=a7.o.size;simp;omega) ?_);intro v' w1 U m c7 a6;have H:=a8.o.lt;have g:Below wr.heap.size wr (W3.alloc (.cells #[.string ⟨((r.drop 3).take N).toArray⟩, .slice O V c2, .bool false] 163)):=a7.o.alloc a7.o.size _;have hst:mU w l (.slice AA (nq - (4+V)) (C - (4+V))) v' w1:=by
    refine mU.next (c:=⟨(r.drop 3).take N,(((r.drop 3).drop N).drop 4).take V,false⟩) (r':=((r.drop 3).drop N).drop (4+V)) B.o D ?_ ?_ (by omega) (by omega) ?_ ?_
    ·rw[J.KU a1.o a2.o Q.o (by rw[F.o,a3.o,HV.o];omega),F.o,HV.o]
    ·have:=g9.o.o _ _ _ (b6.o _ _ ((HY.o.below g).step (Step.bg m (λk i _=>(H k i).1))))
     rwa [List.take_of_length_le (by rw[a3.o];exact Nat.le_refl _)]at this
    ·refine dT.push b8.o b9.o g U m (by rcases a6 with h|h;exact .inl h;exact .inr (by rw[h];simp)) ((h6.o.weak (λk i=> ?_)).step (Step.aC ((ak _ _).alloc (aq _) _)));rcases i with i|i
     ·have:=f.o.size;omega
     ·have:=(H k i).2;omega
    ·exact((f.o.trans (g.mono f.o.size))).grown m (by have:=f.o.size;have:=a7.o.size;simp;omega) (λk i=>(H k i).1)
   have b7:=ae hst;clear hst U m c7 a6 g H;go_wp2_with fail;go_roundw
   case rel=>exact b7.o
   case measure=>simp;omega
end Go.Proofs.YtipljcmmokaokaaGreat
namespace Go.Proofs.YtipljcmmokaokaaGreat
open Go.RowKit Go.Lib Go.Maps
set_option maxRecDepth 100000
def dD:Value->Option (DataW Unit×List MemPlace)
 | .slice none 0 0=>some (.nil,[])
 | .slice (some ⟨b,o,none⟩) n c=>some (.agg [.lit (.int .i64 b), .lit (.int .i64 o), .lit (.int .i64 n), .lit (.int .i64 c)],[])
 |_=>none
theorem sL {v v':Value} {d:DataW Unit} {p c:List MemPlace} (h:dD v=some (d,p)) (a:dD v'=some (d,c)):v=v':=by
 unfold dD at h a;split at h
 ·split at a
  ·rfl
  ·injection h with h;injection a with a;injection h with h1 _;injection a with h2 _;rw[<-h1]at h2;cases h2
  ·cases a
 ·split at a
  ·injection h with h;injection a with a;injection h with h1 _;injection a with h2 _;rw[<-h1]at h2;cases h2
  ·injection h with h;injection a with a;injection h with h1 _;injection a with h2 _;rw[<-h1]at h2;simp only[DataW.agg.injEq,List.cons.injEq,DataW.lit.injEq,Lit.int.injEq,and_true,true_and]at h2;obtain⟨e1,e2,e3,b⟩:=h2;have e1:=Int.ofNat_inj.1 e1;have e2:=Int.ofNat_inj.1 e2;have e3:=Int.ofNat_inj.1 e3;have b:=Int.ofNat_inj.1 b;subst e1 e2 e3 b;rfl
  ·cases a
 ·cases h
theorem KX {w:World} {M:Nat->Prop} {v:Value} {l:List UInt8} (h:bT w M v l):∃d,dD v=some (d,[]):=by
 rcases h with⟨rfl,_⟩|⟨b,o,rfl,_⟩
 ·exact⟨_,rfl⟩
 ·exact⟨_,rfl⟩
theorem sM:Keyed Tryz.prog 9:=string_keyed Tryz.underlying9
theorem OG (w:World):(zeroValue 40).run Tryz.prog w= .ok (.slice none 0 0) w:=by kernel_rfl
def dx (w:World) (M:Nat->Prop) (b:Nat) (m:List (J.B×J.B)):Prop:=
 ∃D:DataW Unit,w.ownsMap Tryz.prog 9 dD b (Maps.size D) D/\J.sA m/\(∀k,Maps.has D (.string k)=(J.look m k).isSome)/\
  ∀k l,J.look m k=some l->∃v d,dD v=some (d,[])/\(∀z,D.atKey (.string k) z=d)/\bT w M v l
theorem qU {w:World} {b n:Nat} {D:DataW Unit} (h:w.ownsMap Tryz.prog 9 dD b n D):w.ownsMap Tryz.prog 9 dD b (Maps.size D) D:=by
 obtain⟨d,c,h1,e,f,a⟩:=h;refine⟨d,c,h1,e, ?_,a⟩;rw[a,Maps.size_eq,length_read];exact aq _
section
variable {w w' : World} {M M' : Nat -> Prop} {b : Nat} {m : List (J.B × J.B)}
theorem dx.lt (h:dx w M b m):b<w.heap.size:=h.elim λ_ h=>h.1.lt
theorem dx.made (w:World) (M:Nat->Prop):dx (w.alloc (.map #[] 0)) M w.heap.size []:=
 ⟨.map [],World.ownsMap_made _ _ _ _,J.nO,λk=>rfl,λk l h=>by simp[J.look]at h⟩
theorem dx.step (h:dx w M b m) (p:Step M M' w w') (n:w'.heap[b]? =w.heap[b]?):dx w' M' b m:=by
 obtain⟨D,h1,g,i,j⟩:=h;refine⟨D, ?_,g,i,λk l o=> ?_⟩
 ·obtain⟨e,c,g1,a⟩:=h1;exact⟨e,c,n.trans g1,a⟩
 ·obtain⟨v,d,g1,a,f⟩:=j k l o;exact⟨v,d,g1,a,f.step p⟩
theorem dx.below (h:dx w M b m) (a:Below w.heap.size w w'):dx w' M b m:=h.step (Step.aC a) (a.block b h.lt)
theorem dx.perm (h:dx w M b m) (D:DataW Unit) (n:Nat) (h1:w.ownsMap Tryz.prog 9 dD b n D) (s:∀k,Maps.has D (.string k)=(J.look m k).isSome):(m.map (·.1)).Perm (strKeys D):=by
 have o:J.sA m:=h.elim λ_ h=>h.2.1;obtain⟨q,g,u,_⟩:=h1.entries sM;obtain⟨r,i,t⟩:=h1.keysOf;obtain rfl:q=r:=by rw[g]at i;simpa using i
 subst g;refine perm_strKeys u (λp f=>by obtain⟨v,y⟩:=t p f;obtain⟨x,_,d,_⟩:=Maps.keyOf_str Tryz.underlying9 y;exact⟨x,d⟩) ?_ (λx=> ?_)
 ·rw[List.Nodup,List.pairwise_map];exact List.Pairwise.imp (λ{a c} j e=>by rw[e]at j;exact J.lt_irrefl _ j) o
 ·rw[s x,List.mem_map];constructor
  ·rintro⟨p,f,rfl⟩;rw[J.eU m p.1 p.2 o f];rfl
  ·intro d;cases hq:J.look m x with
   |none=>rw[hq]at d;cases d
   |some l=>exact⟨(x,l),J.eI _ _ _ hq,rfl⟩
theorem dx.size_eq (h:dx w M b m) {D:DataW Unit} {n:Nat} (h1:w.ownsMap Tryz.prog 9 dD b n D) (c:∀k,Maps.has D (.string k)=(J.look m k).isSome):Maps.size D=m.length:=by
 have a:=(h.perm D n h1 c).length_eq;rw[List.length_map]at a;obtain⟨e,d,_⟩:=h1.entries sM;rw[a,d];simp[strKeys,Maps.size_eq]
theorem dx.put (h:dx w M b m) {D:DataW Unit} {n:Nat} (h1:w.ownsMap Tryz.prog 9 dD b n D) (p:∀k,Maps.has D (.string k)=(J.look m k).isSome)
  (q:∀k l,J.look m k=some l->∃v d,dD v=some (d,[])/\(∀z,D.atKey (.string k) z=d)/\bT w M v l) {k l:J.B} {v:Value} {d:DataW Unit} (t:dD v=some (d,[])) (s:bT w M v l)
  (o:w'.ownsMap Tryz.prog 9 dD b (n+1) (D.put (.string k) d)) (hst:Step M M' w w'):dx w' M' b (J.ins m k l):=by
 have f:=h1.isMap;have r:J.sA m:=h.elim λ_ h=>h.2.1;have g:WideAt.IsKeyLit (.string k):=trivial;refine⟨_,qU o,J.lh r k l,λc=> ?_,λc l' a=> ?_⟩
 ·rw[J.cz];by_cases e:c=k
  ·subst e;rw[has_put_same f g,if_pos rfl];rfl
  ·rw[has_put_other (by intro h;exact e (by injection h)),if_neg e,p]
 ·rw[J.cz]at a;by_cases e:c=k
  ·subst e;rw[if_pos rfl]at a;injection a with a;subst a;exact⟨v,d,t,λz=>atKey_put_same f g d z,s.step hst⟩
  ·rw[if_neg e]at a;obtain⟨v2,d2,g1,i,j⟩:=q c l' a;exact⟨v2,d2,g1,λz=>by rw[atKey_put_other (by intro h;exact e (by injection h))];exact i z,j.step hst⟩
theorem dx.del (h:dx w M b m) {D:DataW Unit} {n n':Nat} (q:w.ownsMap Tryz.prog 9 dD b n D) (j:∀k,Maps.has D (.string k)=(J.look m k).isSome)
  (o:∀k l,J.look m k=some l->∃v d,dD v=some (d,[])/\(∀z,D.atKey (.string k) z=d)/\bT w M v l) {k:J.B}
  (i:w'.ownsMap Tryz.prog 9 dD b n' (D.del (.string k))) (hst:Step M M' w w'):dx w' M' b (J.del m k):=by
 have p:J.sA m:=h.elim λ_ h=>h.2.1;refine⟨_,qU i,J.nN p k,λc=> ?_,λc l' a=> ?_⟩
 ·rw[J.bX];by_cases e:c=k
  ·subst e;rw[has_del_same,if_pos rfl];rfl
  ·rw[has_del_other (by intro h;exact e (by injection h)),if_neg e,j]
 ·rw[J.bX]at a;by_cases e:c=k
  ·subst e;rw[if_pos rfl]at a;cases a
  ·rw[if_neg e]at a;obtain⟨v2,d2,g1,f,g⟩:=o c l' a;exact⟨v2,d2,g1,λz=>by rw[atKey_del_other (by intro h;exact e (by injection h))];exact f z,g.step hst⟩
end
end Go.Proofs.YtipljcmmokaokaaGreat
namespace Go.Proofs.YtipljcmmokaokaaGreat
open Go.RowKit Go.Lib
set_option maxRecDepth 100000
def dE (L:List J.Wr) (vs:List Value):List Value:=(L.zip vs).flatMap λp=>[.int .u8 (p.1.kind:Nat), .int .i64 (p.1.idx:Nat),p.2]
def kC (w:World) (M:Nat->Prop) (v:Value) (L:List J.Wr):Prop:=
 ∃vs:List Value,vs.length=L.length/\w.ownsRow 0 139 3 v L.length (dE L vs)/\(∀k,v.ownBlock=some k->M k)/\∀i (h:i<L.length) (h':i<vs.length),Sl w M vs[i] L[i].bs
def fP (w:World) (M:Nat->Prop) (v:Value) (l:List UInt8):Prop:=
 (w.ownsRow 0 5 1 v l.length (dK l)/\∀k,v.ownBlock=some k->M k)\/bT w M v l
structure Ok (s:J.St):Prop where
 size:s.size<=4194304
 commits:s.commits<=4294967296+s.logged
 gen:s.gen<=J.latest
 area:s.area<=1
 side:s.side<=1
 logged:s.logged<=16777216
 writes:s.writes.length<=s.logged
 chs:s.changes.length<=s.size
 encs:s.opn=true->(J.encs s.changes).length+13=s.size
 clo:s.opn=false->s.changes=[]
 a0:s.disk.a0.length<=8388608
 a1:s.disk.a1.length<=8388608
 h0:s.disk.h0.length<=8388608
 h1:s.disk.h1.length<=8388608
 now:(J.encs (J.values s.now)).length<=8388608+s.logged+(J.encs s.changes).length
 was:(J.encs (J.values s.was)).length<=8388608+s.logged
structure cA (w:World) (M:Nat->Prop) (s:J.St) (G:Nat) (N:Option Nat) (I wr T U V Y Z S d2 O:Value):Prop where
 now:dx w M G s.now
 mbn:M G
 was:match N with|none=>s.opn=false|some b=>s.opn=true/\dx w M b s.was/\M b/\b≠G
 chs:dT w M 0 I s.changes
 mch:∀k,I.ownBlock=some k->M k
 wrs:kC w M wr s.writes
 f0:bT w M T s.base.h0
 f1:bT w M U s.base.h1
 f2:bT w M V s.base.a0
 f3:bT w M Y s.base.a1
 e0:Sl w M Z s.disk.h0
 e1:Sl w M S s.disk.h1
 e2:fP w M d2 s.disk.a0
 e3:fP w M O s.disk.a1
 dd:∀k,d2.ownBlock=some k->O.ownBlock=some k->¬M k
abbrev bK (s:J.St) (G:Nat) (N:Option Nat) (I wr T U V Y Z S d2 O:Value):Array Value:=
 #[.bool true, .bool s.opn, .map (some G),I, .int .i64 (s.size:Nat), .bool s.spoilt, .map N, .int .i64 (s.commits:Nat), .int .u64 (s.gen:Nat), .int .i64 (s.area:Nat), .int .i64 (s.side:Nat),T,U,V,Y,Z,S,d2,O,wr, .int .i64 (s.logged:Nat)]
def br (w:World) (p:Nat) (M:Nat->Prop) (s:J.St):Prop:=
 ∃(G:Nat) (N:Option Nat) (I wr T U V Y Z S d2 O:Value),
  w.heap[p]? =some (.cells #[.bool true, .bool s.opn, .map (some G),I, .int .i64 (s.size:Nat), .bool s.spoilt, .map N, .int .i64 (s.commits:Nat), .int .u64 (s.gen:Nat), .int .i64 (s.area:Nat), .int .i64 (s.side:Nat),T,U,V,Y,Z,S,d2,O,wr, .int .i64 (s.logged:Nat)] 99 (0,0))/\
  M p/\cA w M s G N I wr T U V Y Z S d2 O/\Ok s
theorem eE {w w':World} {base n size:Nat} {e:TypeId} {v:Value} {xs:List Value} (h:w.ownsRow base e size v n xs) (c:∀k,v.ownBlock=some k->w'.heap[k]? =w.heap[k]?):w'.ownsRow base e size v n xs:=by
 refine⟨h.1, ?_⟩;rcases h.2 with h|⟨g,cap,cur,rfl,h1,a,b⟩
 ·exact .inl h
 ·exact .inr ⟨g,cap,cur,rfl,h1,(c g rfl).trans a,b⟩
theorem dT.keep {w w':World} {M M':Nat->Prop} {base:Nat} {v:Value} {L:List J.cd} (h:dT w M base v L) (a:Step M M' w w') (j:∀k,v.ownBlock=some k->M k) (e:∀k,v.ownBlock=some k->w'.heap[k]? =w.heap[k]?):dT w' M' base v L:=by
 obtain⟨vs,h1,c,d⟩:=h;have _:=j;exact⟨vs,h1,eE c e,λi f g=>(d i f g).step ⟨a.os,a.tape,a.output,a.size,λk b l=>a.block k b (λh=>l (.inl h)),λk b h=>h.imp (a.sub k b) id⟩⟩
theorem kC.keep {w w':World} {M M':Nat->Prop} {v:Value} {L:List J.Wr} (h:kC w M v L) (g:Step M M' w w') (f:∀k,v.ownBlock=some k->M' k) (c:∀k,v.ownBlock=some k->w'.heap[k]? =w.heap[k]?):kC w' M' v L:=by
 obtain⟨vs,h1,a,j,b⟩:=h;exact⟨vs,h1,eE a c,f,λi d e=>(b i d e).step g⟩
theorem fP.keep {w w':World} {M M':Nat->Prop} {v:Value} {l:List UInt8} (h:fP w M v l) (e:Step M M' w w') (d:∀k,v.ownBlock=some k->M k->M' k) (c:∀k,v.ownBlock=some k->M k->w'.heap[k]? =w.heap[k]?):fP w' M' v l:=by
 rcases h with⟨h1,b⟩|h
 ·exact .inl ⟨eE h1 (λk a=>c k a (b k a)),λk a=>d k a (b k a)⟩
 ·exact .inr (h.step e)
section
variable {w w' : World} {M M' : Nat -> Prop} {s : J.St} {G : Nat} {N : Option Nat} {I wr T U V Y Z S d2 O : Value}
theorem cA.keep (h:cA w M s G N I wr T U V Y Z S d2 O) (a:Step M M' w w') (c:∀k,k<w.heap.size->M k->(k=G\/N=some k\/I.ownBlock=some k\/wr.ownBlock=some k\/d2.ownBlock=some k\/O.ownBlock=some k)->M' k/\w'.heap[k]? =w.heap[k]?):
  cA w' M' s G N I wr T U V Y Z S d2 O:=by
 have n:=c G h.now.lt h.mbn (.inl rfl);have i:∀k,I.ownBlock=some k->k<w.heap.size:=λk e=>by obtain⟨vs,_,d,_⟩:=h.chs;exact(d.lt k e).2
 have j:∀k,wr.ownBlock=some k->k<w.heap.size:=λk e=>by obtain⟨vs,_,d,_⟩:=h.wrs;exact(d.lt k e).2
 have q:∀k,wr.ownBlock=some k->M k:=λk e=>by obtain⟨vs,_,_,d,_⟩:=h.wrs;exact d k e
 have f:∀{v:Value} {l:List UInt8},fP w M v l->∀k,v.ownBlock=some k->k<w.heap.size:=by
  intro v l ha k e;rcases ha with⟨h1,_⟩|⟨rfl,_⟩|⟨b,o,rfl,_,⟨u,_⟩,_,_⟩
  ·exact(h1.lt k e).2
  ·cases e
  ·simp[Value.ownBlock]at e;omega
 refine⟨h.now.step a n.2,n.1, ?_,h.chs.keep a h.mch (λk e=>(c k (i k e) (h.mch k e) (.inr (.inr (.inl e)))).2),λk e=>(c k (i k e) (h.mch k e) (.inr (.inr (.inl e)))).1,
  h.wrs.keep a (λk e=>(c k (j k e) (q k e) (.inr (.inr (.inr (.inl e))))).1) (λk e=>(c k (j k e) (q k e) (.inr (.inr (.inr (.inl e))))).2),
  h.f0.step a,h.f1.step a,h.f2.step a,h.f3.step a,h.e0.step a,h.e1.step a,
  h.e2.keep a (λk e m=>(c k (f h.e2 k e) m (.inr (.inr (.inr (.inr (.inl e)))))).1) (λk e m=>(c k (f h.e2 k e) m (.inr (.inr (.inr (.inr (.inl e)))))).2),
  h.e3.keep a (λk e m=>(c k (f h.e3 k e) m (.inr (.inr (.inr (.inr (.inr e)))))).1) (λk e m=>(c k (f h.e3 k e) m (.inr (.inr (.inr (.inr (.inr e)))))).2),
  λk e2 e3 m=>h.dd k e2 e3 (a.sub k (f h.e2 k e2) m)⟩
 cases N with
 |none=>exact h.was
 |some b=>
  obtain⟨g1,g,r,t⟩:=h.was;have p:=c b g.lt r (.inr (.inl rfl));exact⟨g1,g.step a p.2,p.1,t⟩
theorem cA.below (h:cA w M s G N I wr T U V Y Z S d2 O) (a:Below w.heap.size w w'):cA w' M s G N I wr T U V Y Z S d2 O:=
 h.keep (Step.aC a) (λk b c _=>⟨c,a.block k b⟩)
theorem cA.ne (h:cA w M s G N I wr T U V Y Z S d2 O) {p:Nat} {C:Array Value} {i:Nat×Nat} (a:w.heap[p]? =some (.cells C 99 i)) (j:M p):
  ¬(p=G\/N=some p\/I.ownBlock=some p\/wr.ownBlock=some p\/d2.ownBlock=some p\/O.ownBlock=some p):=by
 have g:∀{b:Nat} {m:List (J.B×J.B)},dx w M b m->p≠b:=by
  rintro b m ⟨D,⟨q,n,f,_⟩,_⟩ rfl;rw[f]at a;cases a
 have d:∀{v:Value} {l:List UInt8},fP w M v l->v.ownBlock≠some p:=by
  intro v l ha e;rcases ha with⟨h1,_⟩|⟨rfl,_⟩|⟨b,o,rfl,_,f,k,_⟩
  ·exact df h1 a (by decide) e
  ·cases e
  ·simp[Value.ownBlock]at e;exact k (e▸j)
 rintro(e|e|e|e|e|e)
 ·exact g h.now e
 ·subst e;exact g h.was.2.1 rfl
 ·obtain⟨vs,_,c,_⟩:=h.chs;exact df c a (by decide) e
 ·obtain⟨vs,_,c,_⟩:=h.wrs;exact df c a (by decide) e
 ·exact d h.e2 e
 ·exact d h.e3 e
end
theorem br.below {w w':World} {p:Nat} {M:Nat->Prop} {s:J.St} (h:br w p M s) (a:Below w.heap.size w w'):br w' p M s:=by
 obtain⟨G,N,I,wr,T,U,V,Y,Z,S,d2,O,h1,b,c,d⟩:=h;exact⟨G,N,I,wr,T,U,V,Y,Z,S,d2,O,(a.block p (ai h1).1).trans h1,b,c.below a,d⟩
theorem br.lt {w:World} {p:Nat} {M:Nat->Prop} {s:J.St} (h:br w p M s):p<w.heap.size:=by
 obtain⟨G,N,I,wr,T,U,V,Y,Z,S,d2,O,h1,_⟩:=h;exact(ai h1).1
theorem gq (p:Nat) (M:Nat->Prop) (s:J.St) (w:World) (h:br w p M s):
  Calls Tryz.prog 78 #[.pointer (some ⟨p,0,none⟩)] w λe w'=>e= .returned (.bool true)/\w=w':=by
 obtain⟨G,N,I,wr,T,U,V,Y,Z,S,d2,O,h1,_⟩:=h;have a:=aj w p h1;clear h1;go_enter Tryz.func78,Tryz.ntmps78;go_wp2;go_ret;exact⟨rfl,rfl⟩
def Zs (o open_:Bool):Int:=if o=open_ then 0 else 6
theorem kD (p:Nat) (M:Nat->Prop) (s:J.St) (b:Bool) (w:World) (h:br w p M s):
  Calls Tryz.prog 91 #[.pointer (some ⟨p,0,none⟩), .bool b] w λe w'=>e= .returned (.int .i64 (Zs s.opn b))/\w=w':=by
 have H:=ae h;obtain⟨G,N,I,wr,T,U,V,Y,Z,S,d2,O,h1,_⟩:=h;have c:=aj w p h1;clear h1;generalize a:s.opn=d at c;have f:=ae a;clear a;cases d<;>cases b
 all_goals
  go_enter Tryz.func91,Tryz.ntmps91;go_wp2_with fail;refine(gq p M s _ H.o).mono ?_;rintro e w1 ⟨rfl,rfl⟩;go_wp2;go_ret;exact⟨rfl,rfl⟩
end Go.Proofs.YtipljcmmokaokaaGreat
namespace Go.Proofs.YtipljcmmokaokaaGreat
open Go.RowKit Go.Lib Go.Maps
set_option maxRecDepth 100000
section
variable {P : Program} (w : World)
theorem mE (d:Nat) (t k e:TypeId) (p:Option Nat) (h:P.underlying t=some (.map k e)):
  (Op.equalIn (d+1) t (.map p) (.map none)).run P w= .ok p.isNone w:=by
 cases p<;>simp[Op.equalIn,run_underlying h]
theorem qV (t k e:TypeId) (p:Option Nat) (h:P.underlying t=some (.map k e)):
  (binOp .eql t (.map p) (.map none)).run P w= .ok (.bool p.isNone) w:=by
 simp only[binOp];simp[show Op.equal t (.map p) (.map none)=Op.equalIn (9999+1) t (.map p) (.map none)from rfl,mE w 9999 t k e p h]
theorem mX (t a k e:TypeId) (v:Value) (h:P.underlying t=some (.map k e)):(Instr.typeAssert (.iface t v) a t false).run P w= .ok v w:=by
 simp[Instr.typeAssert,run_underlying h,go_sem,Result.andThen]
theorem sN {r:Nat} {c:Array MapEntry} {b:Nat} (t:TypeId) (f:w.heap[r]? =some (.map c b)):
  (Extern.MapsClone.clone #[.iface t (.map (some r))]).run P w= .ok (.iface t (.map (some w.heap.size))) (w.alloc (.map c b)):=by
 have e:Extern.MapsClone.clone #[.iface t (.map (some r))]=(getObj r>>=λo=>match o with
   | .map d b=>(newObj (.map d b)>>=λn=>pure (.iface t (.map (some n))))
   |_=>stuck "maps.clone: a map expected"):=rfl
 rw[e];simp[MapKept.run_getObj_map f,Result.andThen,go_sem]
end
theorem Gb (b:Nat) (m:List (J.B×J.B)) (M M':Nat->Prop) (w:World) (h:dx w M b m) (q:∀k,k<w.heap.size->M' k->M k):
  Calls Tryz.prog 92 #[.map (some b)] w λe w'=>e= .returned (.map (some w.heap.size))/\dx w' M' w.heap.size m/\w'.heap.size=w.heap.size+1/\Below w.heap.size w w':=by
 have H:=ae h;obtain⟨D,⟨i,g,r,n⟩,j⟩:=h;have HR:=ae n;have c:=ae j;clear n j;have s:=λw=>qV (P:=Tryz.prog) w 94 _ _ (some b) Tryz.underlying94;go_enter Tryz.func92,Tryz.ntmps92;go_wp2;rw[run_callFunc_extern Tryz.func122 (by kernel_rfl) (by kernel_rfl) (by kernel_rfl) (e:=Extern.MapsClone.clone) (by kernel_rfl),sN w 94 r];simp only[Result.andThen];rw[Oper.upon_value];go_wp2;rw[mX _ 94 20 _ _ _ Tryz.underlying94];simp only[Result.andThen];rw[Oper.upon_value];go_wp2;go_ret;have a:Below w.heap.size w (w.alloc (.map i g)):=(ak _ w).alloc (aq _) _;refine⟨rfl,⟨D,⟨i,g,heap_alloc_new w _,HR.o⟩,c.o.1,c.o.2.1,λk l f=> ?_⟩,by simp,a⟩;obtain⟨v,d,g1,o,p⟩:=c.o.2.2 k l f;exact⟨v,d,g1,o,p.step ⟨a.os,a.tape,a.output,a.size,λk f _=>a.block k f,q⟩⟩
end Go.Proofs.YtipljcmmokaokaaGreat
namespace Go.Proofs.YtipljcmmokaokaaGreat
open Go.RowKit Go.Lib Go.Maps Go.WideMaps
set_option maxRecDepth 100000
theorem aB {w:World} {g:Nat} {t:TypeId} {cs:Array Value} (h:w.heap[g]? =some (.cells cs t (0,0))) (i:Nat) (u:Value):(w.setCell ⟨g,i,none⟩ u).heap[g]? =some (.cells (cs.setIfInBounds i u) t (0,0)):=by
 simp[World.setCell,Array.getElem?_modify,h]
theorem cA.own {w w':World} {M:Nat->Prop} {s:J.St} {G:Nat} {N:Option Nat} {I wr T U V Y Z S d2 O:Value} (h:cA w M s G N I wr T U V Y Z S d2 O) {p:Nat} {C:Array Value} {c:Nat×Nat} (g:w.heap[p]? =some (.cells C 99 c)) (b:M p) (a:w.grownBy w' (some p)):
  cA w' M s G N I wr T U V Y Z S d2 O:=
 h.keep (Step.bg a (λk e _=>by cases e;exact b)) (λk d f hd=>⟨f,a.block k d (λe=>by cases e;exact h.ne g b hd)⟩)
theorem cA.go {w w1 w':World} {M M':Nat->Prop} {s:J.St} {G:Nat} {N:Option Nat} {I wr T U V Y Z S d2 O:Value} (h:cA w M s G N I wr T U V Y Z S d2 O) {p:Nat} {C:Array Value} {i:Nat×Nat} (j:w.heap[p]? =some (.cells C 99 i)) (g:M p)
  (b:Below w.heap.size w w1) (c:w1.grownBy w' (some p)) (d:∀k,k<w.heap.size->(M' k↔M k)):cA w' M' s G N I wr T U V Y Z S d2 O:=by
 have f:∀k,k<w.heap.size->k≠p->w'.heap[k]? =w.heap[k]? :=λk h1 a=>(c.block k (av h1 b.size) (λe=>a (by injection e))).trans (b.block k h1);exact h.keep ⟨c.os.trans b.os,c.tape.trans b.tape,c.output.trans b.output,aw b.size c.size,λk h1 a=>f k h1 (λe=>a (e▸g)),λk h1 a=>(d k h1).1 a⟩
  (λk h1 a hd=>⟨(d k h1).2 a,f k h1 (λe=>by subst e;exact h.ne j g hd)⟩)
theorem go_step {w w1 w':World} {M M':Nat->Prop} {p:Nat} (f:M p) (a:Below w.heap.size w w1) (b:w1.grownBy w' (some p)) (d:∀k,k<w.heap.size->(M' k↔M k)):Step M M' w w':=
 ⟨b.os.trans a.os,b.tape.trans a.tape,b.output.trans a.output,aw a.size b.size,λk h1 c=>(b.block k (av h1 a.size) (λe=>c (by injection e with e;exact e▸f))).trans (a.block k h1),λk h1 c=>(d k h1).1 c⟩
theorem ay {w w':World} {p:Nat} (h:w.grownBy w' (some p)) (i:Nat) (v:Value):w.grownBy (w'.setCell ⟨p,i,none⟩ v) (some p):=
 ⟨h.os,h.tape,h.output,by simpa [World.setCell] using h.size,λk b a=>(Below.heap_setCell w' _ v k (λe=>a (by rw[e]))).trans (h.block k b a)⟩
theorem aD {w:World} {g:Nat} {t:TypeId} {cs:Array Value} (h:w.heap[g]? =some (.cells cs t (0,0))) (j:Nat):w.frozen? ⟨g,j,none⟩=false:=by simp[World.frozen?,h]
theorem KY (p:Nat) (M:Nat->Prop) (s:J.St) (w:World) (h:br w p M s) (u:s.opn=false):
  Calls Tryz.prog 35 #[.pointer (some ⟨p,0,none⟩)] w λe w'=>e= .returned (.int .i64 0)/\∃M',br w' p M' (J.cW s)/\Step M M' w w':=by
 have H:=ae h;obtain⟨G,N,I,wr,T,U,V,Y,Z,S,d2,O,h1,n,o,q⟩:=h;have i:=ae h1;have b:=ae n;have H3:=ae o;have x:=ae q;have B:=aj w p h1;have m:=ae u;have E:p<w.heap.size:=(ai h1).1;clear h1 n o q u;go_enter Tryz.func35,Tryz.ntmps35;go_wp2_with fail;refine(kD p M s false w H.o).mono ?_;rintro e w1 ⟨rfl,rfl⟩;rw[m.o];go_wp2_with fail;refine(Gb G s.now M (λk=>M k\/k=w.heap.size) w H3.o.now (λk C h=>h.resolve_right (by omega))).mono ?_;rintro e w1 ⟨rfl,t,v,f⟩;have d:=(f.block p E).trans i.o;have K:=aj w1 p d;have L:=aD d;have y:=ae t;have l:=ae f;have z:=ae d;have A:=ae v;clear t f d v B;go_wp2_with fail;go_ret;have c:=ay (ay (ay (ay (ay (World.grownBy.refl w1 (some p)) 1 (.bool true)) 5 (.bool false)) 3 (.slice none 0 0)) 4 (.int .i64 13)) 6 (.map (some w.heap.size));have F:=aB (aB (aB (aB (aB z.o 1 (.bool true)) 5 (.bool false)) 3 (.slice none 0 0)) 4 (.int .i64 13)) 6 (.map (some w.heap.size));have r:∀k,k<w.heap.size->((M k\/k=w.heap.size)↔M k):=λk C=>⟨λh=>h.resolve_right (by omega), .inl⟩;refine⟨rfl,λk=>M k\/k=w.heap.size, ?_,go_step b.o l.o c r⟩;have P:=H3.o.go i.o b.o l.o c r;have a:=x.o;refine⟨G,some w.heap.size, .slice none 0 0,wr,T,U,V,Y,Z,S,d2,O,F, .inl b.o,⟨P.now,P.mbn,⟨rfl, ?_, .inr rfl, ?_⟩,dT.dV _ _ _,λk h=>(by cases h),P.wrs,P.f0,P.f1,P.f2,P.f3,P.e0,P.e1,P.e2,P.e3,P.dd⟩, ?_⟩
 ·exact y.o.step (Step.bg c (λk e _=>by cases e;exact .inl b.o)) (c.block _ (by rw[A.o];omega) (λe=>by injection e with e;omega))
 ·have:=H3.o.now.lt;omega
 ·have D:=a.clo m.o;have g:=a.now;rw[D]at g;exact⟨by show 13<=_;omega,a.commits,a.gen,a.area,a.side,a.logged,a.writes,by show 0<=13;omega,λ_=>rfl,λh=>(by cases h),a.a0,a.a1,a.h0,a.h1,g,by simpa [J.encs,J.cW] using g⟩
theorem CX (p:Nat) (M:Nat->Prop) (s:J.St) (w:World) (h:br w p M s) (f:s.opn=true):
  Calls Tryz.prog 36 #[.pointer (some ⟨p,0,none⟩)] w λe w'=>e= .returned (.int .i64 0)/\br w' p M (J.cM s)/\Step M M w w':=by
 have H:=ae h;obtain⟨G,N,I,wr,T,U,V,Y,Z,S,d2,O,h1,i,d,l⟩:=h;have r:=ae f;obtain⟨b,rfl⟩:∃b,N=some b:=by
  cases N with
  |none=>have h:=d.was;simp only at h;rw[f]at h;cases h
  |some b=>exact⟨b,rfl⟩
 have g:=ae h1;have c:=ae i;have H3:=ae d;have q:=ae l;have u:=aj w p h1;have v:=aD h1;have x:p<w.heap.size:=(ai h1).1;clear h1 i d l f;go_enter Tryz.func36,Tryz.ntmps36;go_wp2_with fail;refine(kD p M s true w H.o).mono ?_;rintro e w1 ⟨rfl,rfl⟩;rw[r.o];go_wp2_with fail;go_ret;have n:=ay (ay (ay (ay (World.grownBy.refl w (some p)) 1 (.bool false)) 3 (.slice none 0 0)) 2 (.map (some b))) 6 (.map none);have t:=aB (aB (aB (aB g.o 1 (.bool false)) 3 (.slice none 0 0)) 2 (.map (some b))) 6 (.map none);have m:∀k,k<w.heap.size->(M k↔M k):=λ_ _=>Iff.rfl;refine⟨rfl, ?_,go_step c.o (ak _ _) n m⟩;have P:=H3.o.go g.o c.o (ak _ _) n m;have a:=q.o;have o:=P.was;refine⟨b,none, .slice none 0 0,wr,T,U,V,Y,Z,S,d2,O,t,c.o,⟨o.2.1,o.2.2.1,rfl,dT.dV _ _ _,λk h=>(by cases h),P.wrs,P.f0,P.f1,P.f2,P.f3,P.e0,P.e1,P.e2,P.e3,P.dd⟩, ?_⟩;exact⟨a.size,a.commits,a.gen,a.area,a.side,a.logged,a.writes,Nat.zero_le _,λh=>(by cases h),λ_=>rfl,a.a0,a.a1,a.h0,a.h1,by have:=a.was;show _<=8388608+s.logged+0;exact this,Nat.zero_le _⟩
theorem dx.look {w:World} {M:Nat->Prop} {m:List (J.B×J.B)} {D:DataW Unit} (e:∀k,Maps.has D (.string k)=(J.look m k).isSome)
  (f:∀k l,J.look m k=some l->∃v d,dD v=some (d,[])/\(∀z,D.atKey (.string k) z=d)/\bT w M v l) {k:J.B} {v:Value} {g:List MemPlace} (a:dD v=some (D.atKey (.string k) .nil,g)):bT w M v ((J.look m k).getD []):=by
 cases hq:J.look m k with
 |some l=>
  obtain⟨v0,d,g1,b,c⟩:=f k l hq;rw[b]at a;rw[sL a g1];exact c
 |none=>
  have hh:=e k;rw[hq]at hh;rw[atKey_of_not_has hh]at a;have:v= .slice none 0 0:=sL a (show dD (.slice none 0 0)=some (.nil,[])from rfl);rw[this];exact bT.dV
theorem OH (p:Nat) (M:Nat->Prop) (s:J.St) (key:ByteArray) (w:World) (h:br w p M s) (P:key.size<=maxLen) (o:∀l,J.look s.now key.data.toList=some l->l.length<=90000000):
  Calls Tryz.prog 42 #[.pointer (some ⟨p,0,none⟩), .string key] w λe w'=>∃v,e= .returned (.tuple #[v, .bool (J.look s.now key.data.toList).isSome])/\bT w' (· <w.heap.size) v ((J.look s.now key.data.toList).getD [])/\Below w.heap.size w w':=by
 have H:=ae h;obtain⟨G,N,I,wr,T,U,V,Y,Z,S,d2,O,h1,F,i,K⟩:=h;obtain⟨D,q,L,m,u⟩:=i.now;have f:=ae m;have E:=ae u;have A:=ae q;have n:keyOf Tryz.prog 9 (.string key)=some (.string key.data.toList):=keyOf_string_mk Tryz.underlying9 P;have y:=ae n;have W:=aj w p h1;have z:=ae o;clear h1 F i K q L m u n o;go_enter Tryz.func42,Tryz.ntmps42;go_wp2_with fail;refine(gq p M s _ H.o).mono ?_;rintro e w1 ⟨rfl,rfl⟩;go_wp2_with (at_lookup;refine wpList_lookup_own_ok _ rfl _ _ 94 rfl 9 40 sM Tryz.underlying94 dD (OG _) .nil [] rfl G _ D rfl A.o _ _ rfl y.o ?_);intro v ps t;have c:=dx.look (w:=w) (M:=M) f.o E.o t;have a:=f.o key.data.toList;generalize b:J.look s.now key.data.toList=d at c a;have Q:(d.getD []).length<=90000000:=by
  cases d with
  |none=>exact Nat.zero_le _
  |some l=>exact z.o l b
 have C:=ae c;rw[a];have g:=ae b;clear c t a b;go_wp2_with fail;refine(fC v (d.getD []) w M C.o.sl Q).mono ?_;rintro e w2 ⟨v2,rfl,r,k⟩;have B:=ae r;have x:=ae k;clear r k;go_wp2_with fail;go_ret2;exact⟨_,by rw[g.o];rfl,by rw[g.o];exact B.o,x.o⟩
end Go.Proofs.YtipljcmmokaokaaGreat
