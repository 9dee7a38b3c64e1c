import Derived.Test.YtipljcmmokaokaaGreatQM01
import Derived.Deep.RegionHeld3
import Derived.Deep.QuietTactic
import Derived.BigQuiet
import Derived.Maps.OwnSet
import Derived.Maps.OwnOps
import Derived.Maps.Views
import Derived.Maps.RangeWalk
import Derived.Sort.KeysCollected
import Derived.Laws.Externs
import Derived.MapKept
set_option linter.unusedVariables false
set_option linter.unusedSimpArgs false
set_option maxHeartbeats 4000000
namespace Go.Proofs.YtipljcmmokaokaaGreat
open Go.RowKit Go.Lib
set_option maxRecDepth 100000
def Zx (w:World) (M:Nat→Prop) (A:Option Addr) (n:Nat) (L:List J.bZ):Prop:=
 L.length=n∧(0<n→∃b,A=some ⟨b,0,none⟩∧b<w.heap.size∧∀i (h:i<L.length),∃v,w.cell? ⟨b,i*3,none⟩=some (.string ⟨L[i].key.toArray⟩)∧w.cell? ⟨b,i*3+1,none⟩=some v∧w.cell? ⟨b,i*3+2,none⟩=some (.bool L[i].gone)∧Sl w M v L[i].val)
section
variable {P : Program} {ops : Array Oper} {o : Oper} {a : Act} {w : World} {K : Act → World → Prop} {Q : Exit → Act → World → Prop} {E : Prop}
theorem nL (hgd:o.guard=none) (s x:Operand) (ho:o.op= .call {callee:= .builtin .append,args:=#[s,x],argTypes:=#[40,40]})
  (base:Nat) (v:Value) (n:Nat) (l:List UInt8) (hs:a.eval s=v) (hown:w.ownsRow base 5 1 v n (dx l)) (M:Nat→Prop) (A:Option Addr) (m c:Nat) (x':List UInt8) (hx:a.eval x= .slice A m c) (hr:By w M A m x')
  (hb:n+m≤100000000) (hbase:base≤w.heap.size)
  (h:∀v' w',w'.ownsRow base 5 1 v' (n+m) (dx (l++x'))→w.grownBy w' v.ownBlock→K (a.put o.dst v') w'):
  if Region.wanted o (yielded ops a.tmps)=true then Oper.wp Tryz.prog o a w K Q else E:=by
 have hw:Region.wanted o (yielded ops a.tmps)=true:=by simp[Region.wanted,hgd]
 rw[if_pos hw];obtain⟨v',w',hrun,h2,h3,h4,h5⟩:=fQ w base v n l hown M A m c x' hr hb hbase o.type;unfold Oper.wp execOp;simp only[ho,resolve,invoke,builtin,Sem.run_bind,Sem.run_pure,Result.andThen_ok,List.map_toArray,List.map_cons,List.map_nil,hs,hx,hrun];exact h v' w' h2 h3
theorem qf (hgd:o.guard=none) (s x:Operand) (ho:o.op= .call {callee:= .builtin .append,args:=#[s,x],argTypes:=#[40,9]})
  (base:Nat) (v:Value) (n:Nat) (l:List UInt8) (hs:a.eval s=v) (hown:w.ownsRow base 5 1 v n (dx l)) (t:ByteArray) (hx:a.eval x= .string t)
  (hb:n+t.size≤100000000) (hbase:base≤w.heap.size)
  (h:∀v' w',w'.ownsRow base 5 1 v' (n+t.size) (dx (l++t.data.toList))→w.grownBy w' v.ownBlock→K (a.put o.dst v') w'):
  if Region.wanted o (yielded ops a.tmps)=true then Oper.wp Tryz.prog o a w K Q else E:=by
 have hw:Region.wanted o (yielded ops a.tmps)=true:=by simp[Region.wanted,hgd]
 rw[if_pos hw];obtain⟨v',w',hrun,h2,h3⟩:=tX w base v n l hown t hb hbase o.type;unfold Oper.wp execOp;simp only[ho,resolve,invoke,builtin,Sem.run_bind,Sem.run_pure,Result.andThen_ok,List.map_toArray,List.map_cons,List.map_nil,hs,hx,hrun];exact h v' w' h2 h3
end
theorem CN (L:List J.bZ) (k:Nat) (h:k<L.length):L.take (k+1)=L.take k++[L[k]]:=List.take_succ_eq_append_getElem h
theorem rA (L:List J.bZ) (c:J.bZ):J.encs (L++[c])=J.encs L++c.enc:=by simp[J.encs]
theorem vN (L:List J.bZ) (k:Nat):(J.encs (L.take k)).length≤(J.encs L).length:=by
 have:J.encs L=J.encs (L.take k)++J.encs (L.drop k):=by unfold J.encs;rw[←List.flatMap_append,List.take_append_drop]
 rw[this,List.length_append];omega
theorem cT {w:World} {base:Nat} {e t:TypeId} {size n g:Nat} {v:Value} {xs:List Value} {C:Array Value} {fr:Nat×Nat} (h:w.ownsRow base e size v n xs) (hg:w.heap[g]? =some (.cells C t fr)) (hne:e≠t):v.ownBlock≠some g:=by
 rcases h.2 with⟨rfl,_⟩|⟨g',cap,cur,rfl,_,hh,_⟩
 ·simp[Value.ownBlock]
 ·intro he;have:g'=g:=(by simpa [Value.ownBlock] using he);subst this;rw[hg]at hh;injection hh with hh;injection hh with _ ht;exact hne ht.symm
def cN (w0:World) (g:Nat) (R:Array Value) (w:World):Prop:=w.heap[g]? =some (.cells R 163 (0,0))∧Below w0.heap.size w0 w
theorem cN.grown {w0 w w':World} {g:Nat} {R:Array Value} {n:Nat} {v:Value} {xs:List Value} (h:cN w0 g R w) (ho:w.ownsRow w0.heap.size 5 1 v n xs) (hg:w.grownBy w' v.ownBlock):cN w0 g R w':=
 ⟨(hg.block g (ai h.1).1 (λe=>cT ho h.1 (by decide) e.symm)).trans h.1,h.2.grown hg h.2.size (λj hj=>(ho.lt j hj).1)⟩
theorem cN.alloc {w0 w:World} {g:Nat} {R:Array Value} (h:cN w0 g R w) (o:Obj):cN w0 g R (w.alloc o):=
 ⟨(Below.heap_alloc w o g (ai h.1).1).trans h.1,h.2.alloc h.2.size o⟩
theorem cN.seen {w0 w:World} {g:Nat} {K v:Value} {gone:Bool} (h:cN w0 g #[K,v, .bool gone] w):w.cell? ⟨g,0,none⟩=some K∧w.cell? ⟨g,1,none⟩=some v∧Hid (cN w0 g #[K,v, .bool gone] w):=
 ⟨ah w g 0 _ _ _ h.1,ah w g 1 _ _ _ h.1,h⟩
theorem cN.drew {w0 w:World} {g:Nat} {R:Array Value} (h:cN w0 g R w):cN w0 g R w.drew:=⟨h.1,h.2.drew⟩
theorem rs_of {w0 w:World} {g:Nat} {K v:Value} {gone:Bool} (h:cN w0 g #[K,v, .bool gone] w):w.cell? ⟨g,0,none⟩=some K∧Hid (cN w0 g #[K,v, .bool gone] w):=⟨ah w g 0 _ _ _ h.1,h⟩
theorem Ki {w0 w:World} {g:Nat} {K v:Value} {gone:Bool} (h:cN w0 g #[K,v, .bool gone] w):w.cell? ⟨g,1,none⟩=some v∧Hid (cN w0 g #[K,v, .bool gone] w):=⟨ah w g 1 _ _ _ h.1,h⟩
theorem qg {w0 w:World} {g:Nat} {K v:Value} {gone:Bool} {o:Obj} (h:w.drew.cell? ⟨g,0,none⟩=some K∧Hid (cN w0 g #[K,v, .bool gone] w.drew)):(w.alloc o).drew.cell? ⟨g,0,none⟩=some K∧Hid (cN w0 g #[K,v, .bool gone] (w.alloc o).drew):=
 rs_of (cN.alloc h.2.out o)
theorem Kj {w:World} {b:UInt8} {c:Int} (hc:c=(b.toNat:Int)):By (w.alloc (.cells #[.int .u8 c] 5)).drew bF (some ⟨w.heap.size,0,none⟩) 1 [b]:=⟨rfl,λ_=>⟨w.heap.size,0,rfl,by simp,λh=>h,λj hj=>by
 obtain rfl:j=0:=by simpa using hj
 rw[Nat.zero_add];refine(World.cell?_alloc_new _ _ _ _).trans ?_;rw[hc];rfl⟩⟩
theorem zM (w:World) (o:Obj):w.heap.size≤(w.alloc o).heap.size:=by simp
theorem qh {w:World} {base base':Nat} {e:TypeId} {size n:Nat} {v:Value} {xs:List Value} (h:w.ownsRow base e size v n xs) (hb:base'≤base):w.ownsRow base' e size v n xs:=
 ⟨h.1,h.2.imp id λ⟨g,cap,cur,h1,h2,h3⟩=>⟨g,cap,cur,h1,aw hb h2,h3⟩⟩
theorem tB {w:World} {base n:Nat} {v:Value} {l l':List UInt8} (h:w.ownsRow base 5 1 v n (dx l)) (e:l'=l):w.ownsRow base 5 1 v l'.length (dx l'):=by
 subst e;have:n=l'.length:=by have:=h.1;rw[eX]at this;omega
 rw[←this];exact h
theorem CO (kind number:Nat) (A:Option Addr) (n c:Nat) (L:List J.bZ) (w:World) (M:Nat→Prop) (h:Zx w M A n L) (hk:kind<256) (afI:number<4611686018427387904) (hl:(J.encs L).length≤80000000) (hn:n≤80000000):
  Calls Tryz.prog 128 #[.int .u8 kind, .int .i64 number, .slice A n c] w λe w'=>∃v',e= .returned v'∧w'.ownsRow w.heap.size 5 1 v' (J.record kind number L).length (dx (J.record kind number L))∧Below w.heap.size w w':=by
 have H:=ae h;have hL:L.length=n:=h.1;clear h;go_enter Tryz.func128,Tryz.ntmps128;go_wp2;go_loopw [7,13] (fun s i wr=>∃k:Nat,k≤n∧i= .int .i64 k∧wr.ownsRow w.heap.size 5 1 s (J.encs (L.take k)).length (dx (J.encs (L.take k)))∧Below w.heap.size w wr) (fun _ i _=>n - (intOf i).toNat)
 case atStart=>exact⟨0,Nat.zero_le _,rfl,World.ownsRow_nil _ _ _ _,ak _ _⟩
 case round=>
  obtain⟨k,hk,rfl,hown,zL⟩:=hrel;have HO:=ae hown;have HB:=ae zL;clear hown zL;by_cases hlt:k<n
  ·have dV:k<L.length:=(by omega);obtain⟨b,rfl,hbl,hcs⟩:=H.out.2 (by omega);obtain⟨v,hc0,hc1,hc2,eG⟩:=hcs k dV;have hc0:=(HB.out.cell (p:=⟨b,k*3,none⟩) hbl).trans hc0;have hc1:=(HB.out.cell (p:=⟨b,k*3+1,none⟩) hbl).trans hc1;have hc2:=(HB.out.cell (p:=⟨b,k*3+2,none⟩) hbl).trans hc2;obtain⟨Av,cv,rfl,hcv,hby⟩:=eG.by
   have HY:=ae hby.noM;clear hcs eG hby
   have HT:=ae (CN L k dV);have hEn:=vN L (k+1);rw[HT.out,rA,List.length_append]at hEn;generalize hch:L[k]=ch at HY hEn HT hc0 hc1 hc2;obtain⟨key,val,gone⟩:=ch;have HCH:=ae hch;clear hch;have hky:(J.encs (L.take k)).length+3+key.length≤80000000:=by
    have:3+key.length≤(J.bZ.enc ⟨key,val,gone⟩).length:=(by cases gone<;>simp[J.bZ.enc,J.dO]<;>omega);omega
   have Kk:gone=false→(J.encs (L.take k)).length+7+key.length+val.length≤80000000:=by
    intro hg;have:7+key.length+val.length≤(J.bZ.enc ⟨key,val,gone⟩).length:=(by subst hg;simp[J.bZ.enc,J.dO];omega);omega
   have afJ:(J.encs (L.take k)).length+3+(⟨key.toArray⟩:ByteArray).size≤80000000:=(by rw[Lib.size_eq];exact hky);have afK:(J.encs (L.take k)).length+3+key.toArray.size≤80000000:=(by rw[List.size_toArray];exact hky);have hwk:IntKind.u64.wrap (key.length:Int)=(key.length:Int):=IntWalk.u64_in _ (by omega);clear hEn;cases gone with
   |true=>
    clear Kk;have hst:cN w wr.heap.size #[.string ⟨key.toArray⟩, .slice Av val.length cv, .bool true] (wr.alloc (.cells #[.string ⟨key.toArray⟩, .slice Av val.length cv, .bool true] 163)):=⟨heap_alloc_new wr _,HB.out.alloc HB.out.size _⟩;have HST:=ae hst;clear hst;go_wp2_with fail;have hS:=rs_of (cN.drew HST.out);have tZ:=(HO.out.alloc (.cells #[.string ⟨key.toArray⟩, .slice Av val.length cv, .bool true] 163)).drew;generalize hW0:(wr.alloc (.cells #[.string ⟨key.toArray⟩, .slice Av val.length cv, .bool true] 163))=W0 at hS tZ⊢;have hWz:wr.heap.size<W0.heap.size:=(by rw[←hW0];simp);clear hW0;have sS:=ae tZ;clear tZ;go_region_held3 (λw'=>w'.cell? ⟨wr.heap.size,0,none⟩=some (.string ⟨key.toArray⟩)∧Hid (cN w wr.heap.size #[.string ⟨key.toArray⟩, .slice Av val.length cv, .bool true] w')) (first|exact hS|exact qg hS)
     (first
      |(refine nL (by rfl) _ _ (by rfl) w.heap.size _ (J.encs (L.take k)).length (J.encs (L.take k)) (by rfl) (sS.out.alloc _) bF (some ⟨W0.heap.size,0,none⟩) 1 1 [0] (by rfl) (Kj (by rfl)) (by omega) (aw hS.2.out.2.size (zM _ _)) ?_;intro v1 w1 hown1 hg1;have hS:=rs_of (cN.grown (qg hS).2.out (sS.out.alloc _) hg1))
      |(go_at_call 143;refine(oD _ _ _ _ 2 w.heap.size _ hown1 hS.2.out.2.size (by omega) (by omega) (by omega)).mono ?_;rintro e w2 ⟨v2,rfl,hown2,hg2,hl2⟩;have hS:=rs_of (cN.grown hS.2.out hown1 hg2))
      |(refine qf (by rfl) _ _ (by rfl) w.heap.size _ _ _ (by rfl) hown2 ⟨key.toArray⟩ (by rfl) (by omega) hS.2.out.2.size ?_;intro v3 w3 dH hg3;have hS:=rs_of (cN.grown hS.2.out hown2 hg3)))
    have HS3:=ae hS.2;have kx:=ae dH;clear hS hown1 hg1 hown2 hg2 hl2 dH hg3;go_wp2_with fail;go_roundw
    case rel=>exact⟨k+1,by omega,by go_num,tB kx.out (by rw[HT.out,rA];simp[J.bZ.enc]),HS3.out.out.2⟩
    case measure=>simp[intOf];omega
   |false=>
    have Kk:=Kk rfl;have afL:(J.encs (L.take k)).length+7+(⟨key.toArray⟩:ByteArray).size+val.length≤80000000:=(by rw[Lib.size_eq];exact Kk);have afM:(J.encs (L.take k)).length+7+key.toArray.size+val.length≤80000000:=(by rw[List.size_toArray];exact Kk);have hwv:IntKind.u64.wrap (val.length:Int)=(val.length:Int):=IntWalk.u64_in _ (by omega);have hst:cN w wr.heap.size #[.string ⟨key.toArray⟩, .slice Av val.length cv, .bool false] (wr.alloc (.cells #[.string ⟨key.toArray⟩, .slice Av val.length cv, .bool false] 163)):=⟨heap_alloc_new wr _,HB.out.alloc HB.out.size _⟩;have HST:=ae hst;clear hst;go_wp2_with fail;have hS:=rs_of (cN.drew HST.out);have tZ:=(HO.out.alloc (.cells #[.string ⟨key.toArray⟩, .slice Av val.length cv, .bool false] 163)).drew;generalize hW0:(wr.alloc (.cells #[.string ⟨key.toArray⟩, .slice Av val.length cv, .bool false] 163))=W0 at hS tZ⊢;have hWz:wr.heap.size<W0.heap.size:=(by rw[←hW0];simp);clear hW0;have sS:=ae tZ;clear tZ;go_region_held3 (λw'=>w'.cell? ⟨wr.heap.size,0,none⟩=some (.string ⟨key.toArray⟩)∧Hid (cN w wr.heap.size #[.string ⟨key.toArray⟩, .slice Av val.length cv, .bool false] w')) (first|exact hS|exact qg hS)
     (first
      |(refine nL (by rfl) _ _ (by rfl) w.heap.size _ (J.encs (L.take k)).length (J.encs (L.take k)) (by rfl) (sS.out.alloc _) bF (some ⟨W0.heap.size,0,none⟩) 1 1 [1] (by rfl) (Kj (by rfl)) (by omega) (aw hS.2.out.2.size (zM _ _)) ?_;intro v1 w1 hown1 hg1;have hS:=rs_of (cN.grown (qg hS).2.out (sS.out.alloc _) hg1))
      |(go_at_call 143;refine(oD _ _ _ _ 2 w.heap.size _ hown1 hS.2.out.2.size (by omega) (by omega) (by omega)).mono ?_;rintro e w2 ⟨v2,rfl,hown2,hg2,hl2⟩;have hS:=rs_of (cN.grown hS.2.out hown1 hg2))
      |(refine qf (by rfl) _ _ (by rfl) w.heap.size _ _ _ (by rfl) hown2 ⟨key.toArray⟩ (by rfl) (by omega) hS.2.out.2.size ?_;intro v3 w3 dH hg3;have hS:=rs_of (cN.grown hS.2.out hown2 hg3)))
    have HS3:=ae hS.2;have kx:=ae dH;clear hS hown1 hg1 hown2 hg2 hl2 dH hg3 hWz sS;go_wp2_with fail;have hS:=Ki (cN.drew HS3.out.out);have dH:=kx.out.drew;go_region_held3 (λw'=>w'.cell? ⟨wr.heap.size,1,none⟩=some (.slice Av val.length cv)∧Hid (cN w wr.heap.size #[.string ⟨key.toArray⟩, .slice Av val.length cv, .bool false] w')) (first|exact hS)
     (first
      |(go_at_call 143;refine(oD _ _ _ _ 4 w.heap.size _ dH hS.2.out.2.size (by omega) (by omega) (by omega)).mono ?_;rintro e w4 ⟨v4,rfl,wA,hg4,hl4⟩;have hS:=Ki (cN.grown hS.2.out dH hg4))
      |(refine nL (by rfl) _ _ (by rfl) w.heap.size _ _ _ (by rfl) wA bF Av val.length cv val (by rfl) (HY.out.below hS.2.out.2) (by omega) hS.2.out.2.size ?_;intro v5 w5 oY vO;have hS:=Ki (cN.grown hS.2.out wA vO)))
    have zN:=ae hS.2;have oQ:=ae oY;clear hS dH wA hg4 hl4 oY vO;go_wp2_with fail;go_roundw
    case rel=>exact⟨k+1,by omega,by go_num,tB oQ.out (by rw[HT.out,rA];simp[J.bZ.enc]),zN.out.out.2⟩
    case measure=>simp[intOf];omega
  ·obtain rfl:k=n:=(by omega);have hall:L.take k=L:=List.take_of_length_le (by omega);have hown:=HO.out;rw[hall]at hown;obtain⟨A',c',rfl,hcc,hby⟩:=fH hown (M:=bF) (λ_ h=>h.elim);have HY:=ae hby
   have Ti:((J.encs L).length:Int)≤80000000:=(by omega);have aax:(J.encs L).length≤80000000:=hl;have RN:(wr.alloc (.cells #[.int .u8 kind] 5)).ownsRow wr.heap.size 5 1 (.slice (some ⟨wr.heap.size,0,none⟩) 1 1) 1 (dx [UInt8.ofNat kind]):=by
    have:=World.ownsRow_lit (base:=wr.heap.size) (e:=5) (size:=1) wr #[.int .u8 kind] 1 (aq _) (by decide) rfl;have e:dx [UInt8.ofNat kind]=[Value.int .u8 kind]:=by
     simp only[dx,List.map_cons,List.map_nil,u8,UInt8.toNat_ofNat'];rw[Nat.mod_eq_of_lt (by omega)]
    rw[e];exact this
   have pS:=ae RN;generalize hEL:J.encs L=EL at HY Ti aax hcc;have Oz:=ae hEL;clear hown hall hby RN HO hEL hl;go_wp2_with fail;refine(oD _ 1 _ number 4 wr.heap.size _ pS.out (by simp) (by omega) (by omega) (by omega)).mono ?_;rintro e w1 ⟨v1,rfl,hown1,hg1,CP⟩;have bV:=ae (((ak wr.heap.size wr).alloc (aq _) _).grown hg1 (by simp) (λj hj=>(pS.out.lt j hj).1));have oT:=ae hown1;clear hown1 hg1 CP;go_wp2_with fail;refine(oD _ _ _ EL.length 4 wr.heap.size _ oT.out bV.out.size (by omega) (by omega) (by omega)).mono ?_;rintro e w2 ⟨v2,rfl,hown2,hg2,hl2⟩;have br:=ae (bV.out.grown hg2 bV.out.size (λj hj=>(oT.out.lt j hj).1));have gN:=ae hown2;clear hown2 hg2 hl2;go_wp2_with (at_builtin;refine bq rfl _ _ rfl wr.heap.size v2 _ _ rfl gN.out bF A' _ c' EL rfl (HY.out.below br.out) (by omega) br.out.size ?_);intro v3 w3 dH hg3 aay hnil3;have hb3:=br.out.grown hg3 br.out.size (λj hj=>(gN.out.lt j hj).1);have cX:=ae hb3;have dH:=tB dH (l':=J.body kind number L) (by rw[J.body,Oz.out];simp);have hbl:(J.body kind number L).length=9+EL.length:=(by rw[J.body,Oz.out];simp[J.dO];omega);have ea:=J.CC (J.body kind number L);have Kl:J.record kind number L=J.body kind number L++J.leB (J.bM (J.body kind number L)) 4:=rfl;have Cm:=ae Kl;generalize J.body kind number L=BD at dH hbl ea Cm;have afN:BD.length≤80000009:=(by omega);have afO:(BD.length:Int)≤80000009:=(by omega);clear hbl;obtain⟨A3,c3,rfl,afP,zO⟩:=fH dH (M:=bF) (λ_ h=>h.elim);have kx:=ae dH;have Km:=ae zO;clear dH hg3 aay hnil3 hb3 zO Kl;go_wp2_with fail
   with_reducible refine(Gw A3 _ c3 BD _ bF Km.out (by omega)).mono ?_
   rintro e w3' ⟨rfl,rfl⟩;generalize hCK:J.bM BD=CK at ea Cm;have dD:=ae hCK;clear hCK;go_wp2_with fail;refine(oD _ _ _ CK 4 wr.heap.size _ kx.out cX.out.size (by omega) (by omega) (by omega)).mono ?_;rintro e w4 ⟨v4,rfl,wA,hg4,hl4⟩;have eR:=ae (cX.out.grown hg4 cX.out.size (λj hj=>(kx.out.lt j hj).1));have lJ:=ae wA;clear wA hg4 hl4;go_wp2_with fail;go_ret;exact⟨_,rfl,tB (qh lJ.out HB.out.size) Cm.out,HB.out.trans (eR.out.mono HB.out.size)⟩
def Part (A:Option Addr) (n i j:Nat) (A':Option Addr):Prop:=(∀(w:World) (M:Nat→Prop) (l:List UInt8),By w M A n l→By w M A' (j - i) ((l.take j).drop i))∧∀b o,A=some ⟨b,o,none⟩→∃o',A'=some ⟨b,o',none⟩
theorem Part.out {A A':Option Addr} {n i j:Nat} (h:Part A n i j A') (w:World) (M:Nat→Prop) (l:List UInt8) (hb:By w M A n l):By w M A' (j - i) ((l.take j).drop i):=h.1 w M l hb
theorem xI {w:World} {A:Option Addr} {n c:Nat} (i j:Nat) (rv:i≤j) (hj:j≤n) (hc:n≤c) (low high:Option Value)
  (Kn:low=some (.int .i64 i)∨(low=none∧i=0)) (zP:high=some (.int .i64 j)∨(high=none∧j=n)):
  ∃A',(Instr.sliceAt 40 (.slice A n c) low high none).run Tryz.prog w= .ok (.slice A' (j - i) (c - i)) w∧Part A n i j A':=by
 have hb:(Instr.sliceBounds true n c low high none).run Tryz.prog w= .ok (i,j,c) w:=by
  have e1:(0:Int)≤(i:Int):=(by omega);have e2:(i:Int)≤(j:Int):=(by omega);have e3:(j:Int)≤(c:Int):=(by omega);have e0:(0:Int)≤(j:Int):=(by omega);rcases Kn with rfl|⟨rfl,rfl⟩<;>rcases zP with rfl|⟨rfl,rfl⟩
  ·simp[Instr.sliceBounds,run_sliceBound _ _ _ _ _ e1 e2,run_sliceBound _ _ _ _ _ e0 e3]
  ·simp[Instr.sliceBounds,run_sliceBound _ _ _ _ _ e1 e2]
  ·simp[Instr.sliceBounds,run_sliceBound _ _ _ _ _ e0 e3]
  ·simp[Instr.sliceBounds]
 have hsz:(sizeOf (Tryz.prog.elem 40)).run Tryz.prog w= .ok 1 w:=by kernel_rfl
 have hrun:(Instr.sliceAt 40 (.slice A n c) low high none).run Tryz.prog w= .ok (sliced A i j c 1) w:=by
  rw[run_sliceAt_slice _ _ _ _ _ _ Tryz.underlying40,run_slice_any _ _ _ _ _ Tryz.underlying40,hb];simp[Result.andThen,hsz]
 refine⟨_,hrun, ?_⟩;rw[Nat.mul_one];refine⟨λw M l h=> ?_,λb o e=>by subst e;split<;>simp[gM]⟩;refine⟨by rw[List.length_drop,List.length_take,h.1];omega,λhn=> ?_⟩;obtain⟨b,o,rfl,hb',hM,cq⟩:=h.2 (by omega);rw[if_neg (by omega)];refine⟨b,o+i,by simp[gM],hb',hM,λk hk=> ?_⟩;rw[List.length_drop,List.length_take,h.1]at hk;rw[Nat.add_assoc,cq (i+k) (by rw[h.1];omega)];simp
section
variable {w : World} {ops : Array Oper} {rest : List Oper} {o : Oper} {a : Act} {Q : Exit → Act → World → Prop}
theorem wpList_slice_by (hg:Region.wanted o (yielded ops a.tmps)=true) (x:Operand) (lo hi:Option Operand) (hop:o.op=Op.slice 40 x lo hi none) (A:Option Addr) (n c:Nat) (hx:a.eval x= .slice A n c)
  (i j:Nat) (rv:i≤j) (hj:j≤n) (hc:n≤c) (Kn:lo.map a.eval=some (.int .i64 i)∨(lo.map a.eval=none∧i=0)) (zP:hi.map a.eval=some (.int .i64 j)∨(hi.map a.eval=none∧j=n))
  (hK:∀A',Part A n i j A'→wpList Tryz.prog ops Q rest (a.put o.dst (.slice A' (j - i) (c - i))) w):wpList Tryz.prog ops Q (o::rest) a w:=by
 refine wpList_want hg λK' hK'=> ?_;obtain⟨A',hrun,hby⟩:=xI (w:=w) (A:=A) i j rv hj hc _ _ Kn zP;unfold Oper.wp;simp only[execOp,hop,hx,Option.map_none,Sem.run_bind,hrun,Result.andThen];exact hK' _ _ (hK A' hby)
theorem zQ (hg:Region.wanted o (yielded ops a.tmps)=true) (x lo:Operand) (hop:o.op=Op.slice 40 x (some lo) none none) (A:Option Addr) (n c:Nat) (hx:a.eval x= .slice A n c) (i:Nat) (RO:a.eval lo= .int .i64 i) (hi:i≤n) (hc:n≤c)
  (hK:∀A',Part A n i n A'→wpList Tryz.prog ops Q rest (a.put o.dst (.slice A' (n - i) (c - i))) w):wpList Tryz.prog ops Q (o::rest) a w:=
 wpList_slice_by hg x (some lo) none hop A n c hx i n hi (aq _) hc (.inl (congrArg some RO)) (.inr ⟨rfl,rfl⟩) hK
theorem zR (hg:Region.wanted o (yielded ops a.tmps)=true) (x lo hi:Operand) (hop:o.op=Op.slice 40 x (some lo) (some hi) none) (A:Option Addr) (n c:Nat) (hx:a.eval x= .slice A n c) (i j:Nat) (RO:a.eval lo= .int .i64 i) (hhi:a.eval hi= .int .i64 j) (rv:i≤j) (hj:j≤n) (hc:n≤c)
  (hK:∀A',Part A n i j A'→wpList Tryz.prog ops Q rest (a.put o.dst (.slice A' (j - i) (c - i))) w):wpList Tryz.prog ops Q (o::rest) a w:=
 wpList_slice_by hg x (some lo) (some hi) hop A n c hx i j rv hj hc (.inl (congrArg some RO)) (.inl (congrArg some hhi)) hK
theorem bu {A:Option Addr} {n c:Nat} {l:List UInt8} {M:Nat→Prop} (h:By w M A n l):(convert 40 9 (.slice A n c)).run Tryz.prog w= .ok (.string ⟨l.toArray⟩) w:=by
 rcases Nat.eq_zero_or_pos n with h0|h0
 ·subst h0;obtain rfl:l=[]:=List.eq_nil_of_length_eq_zero h.1;rw[run_convert_bytes_string w 40 9 5 A 0 c Tryz.underlying40 Tryz.underlying5 Tryz.underlying9];cases A<;>rfl
 ·obtain⟨ad,rfl,_,_,cq⟩:=h.at_ h0;have e:=h.1;subst e;exact run_convert_bytes_back w 40 9 5 ad c l Tryz.underlying40 Tryz.underlying5 Tryz.underlying9 cq
theorem oZ (hg:Region.wanted o (yielded ops a.tmps)=true) (x:Operand) (hop:o.op=Op.convert 40 9 x) {M:Nat→Prop} (A:Option Addr) (n c:Nat) {l:List UInt8} (hx:a.eval x= .slice A n c) (h:By w M A n l)
  (hK:wpList Tryz.prog ops Q rest (a.put o.dst (.string ⟨l.toArray⟩)) w):wpList Tryz.prog ops Q (o::rest) a w:=by
 refine wpList_want hg λK' hK'=> ?_;have hrun:=bu (c:=c) h;unfold Oper.wp;simp only[execOp,hop,hx,Sem.run_bind,hrun,Result.andThen];exact hK' _ _ hK
end
theorem By.slice {w:World} {M:Nat→Prop} {b o n:Nat} {l:List UInt8} (h:By w M (some ⟨b,o,none⟩) n l) (i j:Nat) (rv:i≤j) (hj:j≤n):By w M (some ⟨b,o+i,none⟩) (j - i) ((l.take j).drop i):=by
 refine⟨by rw[List.length_drop,List.length_take,h.1];omega,λhn=> ?_⟩;obtain⟨b',o',e,hb,hM,hc⟩:=h.2 (by omega);injection e with e;injection e with e1 e2;subst e1 e2;refine⟨b,o+i,rfl,hb,hM,λk hk=> ?_⟩;rw[List.length_drop,List.length_take,h.1]at hk;rw[Nat.add_assoc,hc (i+k) (by rw[h.1];omega)];simp
def cS (L:List J.bZ) (vs:List Value):List Value:=(L.zip vs).flatMap λp=>[.string ⟨p.1.key.toArray⟩,p.2, .bool p.1.gone]
def en (w:World) (M:Nat→Prop) (base:Nat) (v:Value) (L:List J.bZ):Prop:=
 ∃vs:List Value,vs.length=L.length∧w.ownsRow base 163 3 v L.length (cS L vs)∧∀i (h:i<L.length) (h':i<vs.length),bT w (λk=>M k∨v.ownBlock=some k) vs[i] L[i].val
theorem en.ey (w:World) (M:Nat→Prop) (base:Nat):en w M base (.slice none 0 0) []:=⟨[],rfl,World.ownsRow_nil _ _ _ _,λi h=>absurd h (by simp)⟩
theorem xJ (L:List J.bZ) (vs:List Value) (c:J.bZ) (v:Value) (h:vs.length=L.length):cS (L++[c]) (vs++[v])=cS L vs++[.string ⟨c.key.toArray⟩,v, .bool c.gone]:=by
 unfold cS;rw[List.zip_append h.symm,List.flatMap_append];rfl
theorem Step.Gy {M:Nat→Prop} {w w':World} {v v':Value} (hg:w.grownBy w' v.ownBlock) (hl:v'.ownBlock=v.ownBlock∨v'.ownBlock=some w.heap.size):Step (λk=>M k∨v.ownBlock=some k) (λk=>M k∨v'.ownBlock=some k) w w':=
 ⟨hg.os,hg.tape,hg.output,hg.size,λk hk hn=>hg.block k hk (λe=>hn (.inr e.symm)),λk hk h=>by
  rcases h with h|h
  ·exact .inl h
  ·rcases hl with e|e
   ·exact .inr (e▸h)
   ·rw[e]at h;injection h with h;omega⟩
theorem en.push {wr W w1:World} {M:Nat→Prop} {base:Nat} {v v' x:Value} {dn:List J.bZ} {c:J.bZ} {vs:List Value} (h1:vs.length=dn.length) (h3:∀i (h:i<dn.length) (h':i<vs.length),bT wr (λk=>M k∨v.ownBlock=some k) vs[i] dn[i].val)
  (hb:Below wr.heap.size wr W) (hown:w1.ownsRow base 163 3 v' (dn.length+1) (cS dn vs++[.string ⟨c.key.toArray⟩,x, .bool c.gone])) (hg:W.grownBy w1 v.ownBlock) (hl:v'.ownBlock=v.ownBlock∨v'.ownBlock=some W.heap.size)
  (hx:bT W (λk=>M k∨v.ownBlock=some k) x c.val):en w1 M base v' (dn++[c]):=by
 have hs:=Step.Gy (M:=M) hg hl;refine⟨vs++[x],by simp[h1], ?_,λi hi hi'=> ?_⟩
 ·rw[xJ _ _ _ _ h1];simpa using hown
 ·by_cases e:i<dn.length
  ·rw[List.getElem_append_left e,List.getElem_append_left (by omega)];exact((h3 i e (by omega)).step (Step.aI hb)).step hs
  ·have:i=dn.length:=(by simp at hi;omega);subst this;rw[List.getElem_append_right (by omega),List.getElem_append_right (by omega)];simp only[h1,Nat.sub_self,List.getElem_singleton];exact hx.step hs
theorem By.old {w:World} {M:Nat→Prop} {A:Option Addr} {n:Nat} {l:List UInt8} (h:By w M A n l):By w (w.heap.size≤ ·) A n l:=
 ⟨h.1,λhn=>by
  obtain⟨b,o,e,hb,_,hc⟩:=h.2 hn;exact⟨b,o,e,hb,by show¬_≤_;omega,hc⟩⟩
theorem Tryz.Wy:(Tryz.prog.info? 163).map (λi=>(i.zero,i.size,i.bytes))=some (some (.agg #[.string ⟨#[]⟩, .slice none 0 0, .bool false]),3,48):=by kernel_rfl
namespace J
theorem ua {r r':B} {c:bZ} (h0:r≠[]) (h:oV r=some (c,r')):cp r=(cp r').map (c:: ·):=by
 rw[cp,if_neg h0];split
 ·rename_i h';rw[h]at h';cases h'
 ·rename_i c2 r2 h';rw[h]at h';injection h' with h';injection h' with h1 h2;subst h1 h2;rfl
end J
def Ko (w:World) (l:List UInt8) (b out:Value) (wr:World):Prop:=
 ∃(A:Option Addr) (nr cr:Nat) (r:List UInt8) (dn:List J.bZ),b= .slice A nr cr∧nr≤cr∧nr≤90000000∧By wr (w.heap.size≤ ·) A nr r∧en wr (· <w.heap.size) w.heap.size out dn∧dn.length+nr≤90000000∧J.cp l=(J.cp r).map (dn++ ·)∧Below w.heap.size w wr
theorem Step.setCell {M:Nat→Prop} {w:World} {p:Addr} (h:M p.block) (v:Value):Step M M w (w.setCell p v):=
 ⟨rfl,rfl,rfl,by simp[World.setCell],λk _ hn=>Below.heap_setCell w p v k (λe=>hn (by rw[e];exact h)),λ_ _ h=>h⟩
theorem Ko.next {w w1:World} {l r r':List UInt8} {dn:List J.bZ} {c:J.bZ} {A':Option Addr} {n' c':Nat} {v':Value} (cq:J.cp l=(J.cp r).map (dn++ ·)) (hne:r≠[]) (hch:J.oV r=some (c,r')) (hby:By w1 (w.heap.size≤ ·) A' n' r') (hn:n'≤c')
  (hd:dn.length+1+n'≤90000000) (hrow:en w1 (· <w.heap.size) w.heap.size v' (dn++[c])) (hb:Below w.heap.size w w1):Ko w l (.slice A' n' c') v' w1:=by
 refine⟨A',n',c',r',dn++[c],rfl,hn,by omega,hby,hrow,by simp;omega, ?_,hb⟩;rw[cq,J.ua hne hch,Option.map_map]
 congr 1
 funext t;simp
end Go.Proofs.YtipljcmmokaokaaGreat
namespace Go.Proofs.YtipljcmmokaokaaGreat
open Go.RowKit Go.Lib Go.Maps
set_option maxRecDepth 100000
def dm:Value→Option (DataW Unit×List MemPlace)
 | .slice none 0 0=>some (.nil,[])
 | .slice (some ⟨b,o,none⟩) n c=>some (.agg [.lit (.int .i64 b), .lit (.int .i64 o), .lit (.int .i64 n), .lit (.int .i64 c)],[])
 |_=>none
theorem rB {v v':Value} {d:DataW Unit} {p p':List MemPlace} (h:dm v=some (d,p)) (h':dm v'=some (d,p')):v=v':=by
 unfold dm at h h';split at h
 ·split at h'
  ·rfl
  ·injection h with h;injection h' with h';injection h with h1 _;injection h' with h2 _;rw[←h1]at h2;cases h2
  ·cases h'
 ·split at h'
  ·injection h with h;injection h' with h';injection h with h1 _;injection h' with h2 _;rw[←h1]at h2;cases h2
  ·injection h with h;injection h' with h';injection h with h1 _;injection h' with h2 _;rw[←h1]at h2;simp only[DataW.agg.injEq,List.cons.injEq,DataW.lit.injEq,Lit.int.injEq,and_true,true_and]at h2;obtain⟨e1,e2,e3,e4⟩:=h2;have e1:=Int.ofNat_inj.1 e1;have e2:=Int.ofNat_inj.1 e2;have e3:=Int.ofNat_inj.1 e3;have e4:=Int.ofNat_inj.1 e4;subst e1 e2 e3 e4;rfl
  ·cases h'
 ·cases h
theorem Gz {w:World} {M:Nat→Prop} {v:Value} {l:List UInt8} (h:bT w M v l):∃d,dm v=some (d,[]):=by
 rcases h with⟨rfl,_⟩|⟨b,o,rfl,_⟩
 ·exact⟨_,rfl⟩
 ·exact⟨_,rfl⟩
theorem qi:Keyed Tryz.prog 9:=string_keyed Tryz.underlying9
theorem Kq (w:World):(zeroValue 40).run Tryz.prog w= .ok (.slice none 0 0) w:=by kernel_rfl
def dp (w:World) (M:Nat→Prop) (b:Nat) (m:List (J.B×J.B)):Prop:=
 ∃D:DataW Unit,w.ownsMap Tryz.prog 9 dm b (Maps.size D) D∧J.ri m∧(∀k,Maps.has D (.string k)=(J.look m k).isSome)∧
  ∀k l,J.look m k=some l→∃v d,dm v=some (d,[])∧(∀z,D.atKey (.string k) z=d)∧bT w M v l
theorem qj {w:World} {b n:Nat} {D:DataW Unit} (h:w.ownsMap Tryz.prog 9 dm b n D):w.ownsMap Tryz.prog 9 dm b (Maps.size D) D:=by
 obtain⟨es,clock,h1,h2,h3,h4⟩:=h;refine⟨es,clock,h1,h2, ?_,h4⟩;rw[h4,Maps.size_eq,length_read];exact aq _
section
variable {w w' : World} {M M' : Nat → Prop} {b : Nat} {m : List (J.B × J.B)}
theorem dp.lt (h:dp w M b m):b<w.heap.size:=h.elim λ_ h=>h.1.lt
theorem dp.made (w:World) (M:Nat→Prop):dp (w.alloc (.map #[] 0)) M w.heap.size []:=
 ⟨.map [],World.ownsMap_made _ _ _ _,J.tq,λk=>rfl,λk l h=>by simp[J.look]at h⟩
theorem dp.step (h:dp w M b m) (hs:Step M M' w w') (hb:w'.heap[b]? =w.heap[b]?):dp w' M' b m:=by
 obtain⟨D,h1,h2,h3,h4⟩:=h;refine⟨D, ?_,h2,h3,λk l hk=> ?_⟩
 ·obtain⟨es,clock,g1,g2⟩:=h1;exact⟨es,clock,hb.trans g1,g2⟩
 ·obtain⟨v,d,g1,g2,g3⟩:=h4 k l hk;exact⟨v,d,g1,g2,g3.step hs⟩
theorem dp.below (h:dp w M b m) (hb:Below w.heap.size w w'):dp w' M b m:=h.step (Step.aI hb) (hb.block b h.lt)
theorem dp.perm (h:dp w M b m) (D:DataW Unit) (n:Nat) (h1:w.ownsMap Tryz.prog 9 dm b n D) (h3:∀k,Maps.has D (.string k)=(J.look m k).isSome):(m.map (·.1)).Perm (strKeys D):=by
 have nM:J.ri m:=h.elim λ_ h=>h.2.1;obtain⟨es,hD,hpw,_⟩:=h1.entries qi;obtain⟨es',hD',bC⟩:=h1.keysOf;obtain rfl:es=es':=by rw[hD]at hD';simpa using hD'
 subst hD;refine perm_strKeys hpw (λp hp=>by obtain⟨v,hv⟩:=bC p hp;obtain⟨x,_,hx,_⟩:=Maps.keyOf_str Tryz.underlying9 hv;exact⟨x,hx⟩) ?_ (λx=> ?_)
 ·rw[List.Nodup,List.pairwise_map];exact List.Pairwise.imp (λ{a c} hac e=>by rw[e]at hac;exact J.lt_irrefl _ hac) nM
 ·rw[h3 x,List.mem_map];constructor
  ·rintro⟨p,hp,rfl⟩;rw[J.ew m p.1 p.2 nM hp];rfl
  ·intro hx;cases hq:J.look m x with
   |none=>rw[hq]at hx;cases hx
   |some l=>exact⟨(x,l),J.dZ _ _ _ hq,rfl⟩
theorem dp.size_eq (h:dp w M b m) {D:DataW Unit} {n:Nat} (h1:w.ownsMap Tryz.prog 9 dm b n D) (h3:∀k,Maps.has D (.string k)=(J.look m k).isSome):Maps.size D=m.length:=by
 have hp:=(h.perm D n h1 h3).length_eq;rw[List.length_map]at hp;obtain⟨es,hD,_⟩:=h1.entries qi;rw[hp,hD];simp[strKeys,Maps.size_eq]
theorem dp.put (h:dp w M b m) {D:DataW Unit} {n:Nat} (h1:w.ownsMap Tryz.prog 9 dm b n D) (h3:∀k,Maps.has D (.string k)=(J.look m k).isSome)
  (h4:∀k l,J.look m k=some l→∃v d,dm v=some (d,[])∧(∀z,D.atKey (.string k) z=d)∧bT w M v l) {k l:J.B} {v:Value} {d:DataW Unit} (hv:dm v=some (d,[])) (hs:bT w M v l)
  (h1':w'.ownsMap Tryz.prog 9 dm b (n+1) (D.put (.string k) d)) (hst:Step M M' w w'):dp w' M' b (J.ins m k l):=by
 have hM:=h1.isMap;have nM:J.ri m:=h.elim λ_ h=>h.2.1;have hk:WideAt.IsKeyLit (.string k):=trivial;refine⟨_,qj h1',J.mj nM k l,λk'=> ?_,λk' l' hl=> ?_⟩
 ·rw[J.bU];by_cases e:k'=k
  ·subst e;rw[has_put_same hM hk,if_pos rfl];rfl
  ·rw[has_put_other (by intro h;exact e (by injection h)),if_neg e,h3]
 ·rw[J.bU]at hl;by_cases e:k'=k
  ·subst e;rw[if_pos rfl]at hl;injection hl with hl;subst hl;exact⟨v,d,hv,λz=>atKey_put_same hM hk d z,hs.step hst⟩
  ·rw[if_neg e]at hl;obtain⟨v2,d2,g1,g2,g3⟩:=h4 k' l' hl;exact⟨v2,d2,g1,λz=>by rw[atKey_put_other (by intro h;exact e (by injection h))];exact g2 z,g3.step hst⟩
theorem dp.del (h:dp w M b m) {D:DataW Unit} {n n':Nat} (_h1:w.ownsMap Tryz.prog 9 dm b n D) (h3:∀k,Maps.has D (.string k)=(J.look m k).isSome)
  (h4:∀k l,J.look m k=some l→∃v d,dm v=some (d,[])∧(∀z,D.atKey (.string k) z=d)∧bT w M v l) {k:J.B}
  (h1':w'.ownsMap Tryz.prog 9 dm b n' (D.del (.string k))) (hst:Step M M' w w'):dp w' M' b (J.del m k):=by
 have nM:J.ri m:=h.elim λ_ h=>h.2.1;refine⟨_,qj h1',J.oA nM k,λk'=> ?_,λk' l' hl=> ?_⟩
 ·rw[J.bR];by_cases e:k'=k
  ·subst e;rw[has_del_same,if_pos rfl];rfl
  ·rw[has_del_other (by intro h;exact e (by injection h)),if_neg e,h3]
 ·rw[J.bR]at hl;by_cases e:k'=k
  ·subst e;rw[if_pos rfl]at hl;cases hl
  ·rw[if_neg e]at hl;obtain⟨v2,d2,g1,g2,g3⟩:=h4 k' l' hl;exact⟨v2,d2,g1,λz=>by rw[atKey_del_other (by intro h;exact e (by injection h))];exact g2 z,g3.step hst⟩
end
end Go.Proofs.YtipljcmmokaokaaGreat
namespace Go.Proofs.YtipljcmmokaokaaGreat
open Go.RowKit Go.Lib
set_option maxRecDepth 100000
def eY (L:List J.Wr) (vs:List Value):List Value:=(L.zip vs).flatMap λp=>[.int .u8 (p.1.kind:Nat), .int .i64 (p.1.idx:Nat),p.2]
def nN (w:World) (M:Nat→Prop) (v:Value) (L:List J.Wr):Prop:=
 ∃vs:List Value,vs.length=L.length∧w.ownsRow 0 139 3 v L.length (eY L vs)∧(∀k,v.ownBlock=some k→M k)∧∀i (h:i<L.length) (h':i<vs.length),Sl w M vs[i] L[i].bs
def fG (w:World) (M:Nat→Prop) (v:Value) (l:List UInt8):Prop:=
 (w.ownsRow 0 5 1 v l.length (dx l)∧∀k,v.ownBlock=some k→M k)∨bT w M v l
structure Ok (s:J.St):Prop where
 size:s.size≤4194304
 commits:s.commits≤4294967296+s.logged
 gen:s.gen≤J.latest
 area:s.area≤1
 side:s.side≤1
 logged:s.logged≤16777216
 writes:s.writes.length≤s.logged
 chs:s.changes.length≤s.size
 encs:s.opn=true→(J.encs s.changes).length+13=s.size
 clo:s.opn=false→s.changes=[]
 a0:s.disk.a0.length≤8388608
 a1:s.disk.a1.length≤8388608
 h0:s.disk.h0.length≤8388608
 h1:s.disk.h1.length≤8388608
 now:(J.encs (J.values s.now)).length≤8388608+s.logged+(J.encs s.changes).length
 was:(J.encs (J.values s.was)).length≤8388608+s.logged
structure bX (w:World) (M:Nat→Prop) (s:J.St) (bn:Nat) (bw:Option Nat) (ch wr b0 b1 b2 b3 d0 d1 d2 d3:Value):Prop where
 now:dp w M bn s.now
 mbn:M bn
 was:match bw with|none=>s.opn=false|some b=>s.opn=true∧dp w M b s.was∧M b∧b≠bn
 chs:en w M 0 ch s.changes
 mch:∀k,ch.ownBlock=some k→M k
 wrs:nN w M wr s.writes
 f0:bT w M b0 s.base.h0
 f1:bT w M b1 s.base.h1
 f2:bT w M b2 s.base.a0
 f3:bT w M b3 s.base.a1
 e0:Sl w M d0 s.disk.h0
 e1:Sl w M d1 s.disk.h1
 e2:fG w M d2 s.disk.a0
 e3:fG w M d3 s.disk.a1
 dd:∀k,d2.ownBlock=some k→d3.ownBlock=some k→¬M k
abbrev bW (s:J.St) (bn:Nat) (bw:Option Nat) (ch wr b0 b1 b2 b3 d0 d1 d2 d3:Value):Array Value:=
 #[.bool true, .bool s.opn, .map (some bn),ch, .int .i64 (s.size:Nat), .bool s.spoilt, .map bw, .int .i64 (s.commits:Nat), .int .u64 (s.gen:Nat), .int .i64 (s.area:Nat), .int .i64 (s.side:Nat),b0,b1,b2,b3,d0,d1,d2,d3,wr, .int .i64 (s.logged:Nat)]
def bA (w:World) (p:Nat) (M:Nat→Prop) (s:J.St):Prop:=
 ∃(bn:Nat) (bw:Option Nat) (ch wr b0 b1 b2 b3 d0 d1 d2 d3:Value),
  w.heap[p]? =some (.cells #[.bool true, .bool s.opn, .map (some bn),ch, .int .i64 (s.size:Nat), .bool s.spoilt, .map bw, .int .i64 (s.commits:Nat), .int .u64 (s.gen:Nat), .int .i64 (s.area:Nat), .int .i64 (s.side:Nat),b0,b1,b2,b3,d0,d1,d2,d3,wr, .int .i64 (s.logged:Nat)] 99 (0,0))∧
  M p∧bX w M s bn bw ch wr b0 b1 b2 b3 d0 d1 d2 d3∧Ok s
theorem dW {w w':World} {base n size:Nat} {e:TypeId} {v:Value} {xs:List Value} (h:w.ownsRow base e size v n xs) (hb:∀k,v.ownBlock=some k→w'.heap[k]? =w.heap[k]?):w'.ownsRow base e size v n xs:=by
 refine⟨h.1, ?_⟩;rcases h.2 with h|⟨g,cap,cur,rfl,h1,h2,h3⟩
 ·exact .inl h
 ·exact .inr ⟨g,cap,cur,rfl,h1,(hb g rfl).trans h2,h3⟩
theorem en.keep {w w':World} {M M':Nat→Prop} {base:Nat} {v:Value} {L:List J.bZ} (h:en w M base v L) (hs:Step M M' w w') (hm:∀k,v.ownBlock=some k→M k) (hb:∀k,v.ownBlock=some k→w'.heap[k]? =w.heap[k]?):en w' M' base v L:=by
 obtain⟨vs,h1,h2,h3⟩:=h;have _:=hm;exact⟨vs,h1,dW h2 hb,λi hi hi'=>(h3 i hi hi').step ⟨hs.os,hs.tape,hs.output,hs.size,λk hk hn=>hs.block k hk (λh=>hn (.inl h)),λk hk h=>h.imp (hs.sub k hk) id⟩⟩
theorem nN.keep {w w':World} {M M':Nat→Prop} {v:Value} {L:List J.Wr} (h:nN w M v L) (hs:Step M M' w w') (hm:∀k,v.ownBlock=some k→M' k) (hb:∀k,v.ownBlock=some k→w'.heap[k]? =w.heap[k]?):nN w' M' v L:=by
 obtain⟨vs,h1,h2,h3,h4⟩:=h;exact⟨vs,h1,dW h2 hb,hm,λi hi hi'=>(h4 i hi hi').step hs⟩
theorem fG.keep {w w':World} {M M':Nat→Prop} {v:Value} {l:List UInt8} (h:fG w M v l) (hs:Step M M' w w') (hm:∀k,v.ownBlock=some k→M k→M' k) (hb:∀k,v.ownBlock=some k→M k→w'.heap[k]? =w.heap[k]?):fG w' M' v l:=by
 rcases h with⟨h1,h2⟩|h
 ·exact .inl ⟨dW h1 (λk hk=>hb k hk (h2 k hk)),λk hk=>hm k hk (h2 k hk)⟩
 ·exact .inr (h.step hs)
section
variable {w w' : World} {M M' : Nat → Prop} {s : J.St} {bn : Nat} {bw : Option Nat} {ch wr b0 b1 b2 b3 d0 d1 d2 d3 : Value}
theorem bX.keep (h:bX w M s bn bw ch wr b0 b1 b2 b3 d0 d1 d2 d3) (hs:Step M M' w w') (hk:∀k,k<w.heap.size→M k→(k=bn∨bw=some k∨ch.ownBlock=some k∨wr.ownBlock=some k∨d2.ownBlock=some k∨d3.ownBlock=some k)→M' k∧w'.heap[k]? =w.heap[k]?):
  bX w' M' s bn bw ch wr b0 b1 b2 b3 d0 d1 d2 d3:=by
 have kb:=hk bn h.now.lt h.mbn (.inl rfl);have hch:∀k,ch.ownBlock=some k→k<w.heap.size:=λk e=>by obtain⟨vs,_,h2,_⟩:=h.chs;exact(h2.lt k e).2
 have hwr:∀k,wr.ownBlock=some k→k<w.heap.size:=λk e=>by obtain⟨vs,_,h2,_⟩:=h.wrs;exact(h2.lt k e).2
 have mwr:∀k,wr.ownBlock=some k→M k:=λk e=>by obtain⟨vs,_,_,h2,_⟩:=h.wrs;exact h2 k e
 have jW:∀{v:Value} {l:List UInt8},fG w M v l→∀k,v.ownBlock=some k→k<w.heap.size:=by
  intro v l ha k e;rcases ha with⟨h1,_⟩|⟨rfl,_⟩|⟨b,o,rfl,_,⟨hb,_⟩,_,_⟩
  ·exact(h1.lt k e).2
  ·cases e
  ·simp[Value.ownBlock]at e;omega
 refine⟨h.now.step hs kb.2,kb.1, ?_,h.chs.keep hs h.mch (λk e=>(hk k (hch k e) (h.mch k e) (.inr (.inr (.inl e)))).2),λk e=>(hk k (hch k e) (h.mch k e) (.inr (.inr (.inl e)))).1,
  h.wrs.keep hs (λk e=>(hk k (hwr k e) (mwr k e) (.inr (.inr (.inr (.inl e))))).1) (λk e=>(hk k (hwr k e) (mwr k e) (.inr (.inr (.inr (.inl e))))).2),
  h.f0.step hs,h.f1.step hs,h.f2.step hs,h.f3.step hs,h.e0.step hs,h.e1.step hs,
  h.e2.keep hs (λk e m=>(hk k (jW h.e2 k e) m (.inr (.inr (.inr (.inr (.inl e)))))).1) (λk e m=>(hk k (jW h.e2 k e) m (.inr (.inr (.inr (.inr (.inl e)))))).2),
  h.e3.keep hs (λk e m=>(hk k (jW h.e3 k e) m (.inr (.inr (.inr (.inr (.inr e)))))).1) (λk e m=>(hk k (jW h.e3 k e) m (.inr (.inr (.inr (.inr (.inr e)))))).2),
  λk e2 e3 m=>h.dd k e2 e3 (hs.sub k (jW h.e2 k e2) m)⟩
 cases bw with
 |none=>exact h.was
 |some b=>
  obtain⟨g1,g2,g3,g4⟩:=h.was;have kw:=hk b g2.lt g3 (.inr (.inl rfl));exact⟨g1,g2.step hs kw.2,kw.1,g4⟩
theorem bX.below (h:bX w M s bn bw ch wr b0 b1 b2 b3 d0 d1 d2 d3) (hb:Below w.heap.size w w'):bX w' M s bn bw ch wr b0 b1 b2 b3 d0 d1 d2 d3:=
 h.keep (Step.aI hb) (λk hk hm _=>⟨hm,hb.block k hk⟩)
theorem bX.ne (h:bX w M s bn bw ch wr b0 b1 b2 b3 d0 d1 d2 d3) {p:Nat} {C:Array Value} {fr:Nat×Nat} (hp:w.heap[p]? =some (.cells C 99 fr)) (hm:M p):
  ¬(p=bn∨bw=some p∨ch.ownBlock=some p∨wr.ownBlock=some p∨d2.ownBlock=some p∨d3.ownBlock=some p):=by
 have hmap:∀{b:Nat} {m:List (J.B×J.B)},dp w M b m→p≠b:=by
  rintro b m ⟨D,⟨es,clock,hb,_⟩,_⟩ rfl;rw[hb]at hp;cases hp
 have jW:∀{v:Value} {l:List UInt8},fG w M v l→v.ownBlock≠some p:=by
  intro v l ha e;rcases ha with⟨h1,_⟩|⟨rfl,_⟩|⟨b,o,rfl,_,hb,hy,_⟩
  ·exact cT h1 hp (by decide) e
  ·cases e
  ·simp[Value.ownBlock]at e;exact hy (e▸hm)
 rintro(e|e|e|e|e|e)
 ·exact hmap h.now e
 ·subst e;exact hmap h.was.2.1 rfl
 ·obtain⟨vs,_,h2,_⟩:=h.chs;exact cT h2 hp (by decide) e
 ·obtain⟨vs,_,h2,_⟩:=h.wrs;exact cT h2 hp (by decide) e
 ·exact jW h.e2 e
 ·exact jW h.e3 e
end
theorem bA.below {w w':World} {p:Nat} {M:Nat→Prop} {s:J.St} (h:bA w p M s) (hb:Below w.heap.size w w'):bA w' p M s:=by
 obtain⟨bn,bw,ch,wr,b0,b1,b2,b3,d0,d1,d2,d3,h1,h2,h3,h4⟩:=h;exact⟨bn,bw,ch,wr,b0,b1,b2,b3,d0,d1,d2,d3,(hb.block p (ai h1).1).trans h1,h2,h3.below hb,h4⟩
theorem bA.lt {w:World} {p:Nat} {M:Nat→Prop} {s:J.St} (h:bA w p M s):p<w.heap.size:=by
 obtain⟨bn,bw,ch,wr,b0,b1,b2,b3,d0,d1,d2,d3,h1,_⟩:=h;exact(ai h1).1
theorem oF (p:Nat) (M:Nat→Prop) (s:J.St) (w:World) (h:bA w p M s):
  Calls Tryz.prog 78 #[.pointer (some ⟨p,0,none⟩)] w λe w'=>e= .returned (.bool true)∧w=w':=by
 obtain⟨bn,bw,ch,wr,b0,b1,b2,b3,d0,d1,d2,d3,h1,_⟩:=h;have hc:=aj w p h1;clear h1;go_enter Tryz.func78,Tryz.ntmps78;go_wp2;go_ret;exact⟨rfl,rfl⟩
def Tj (o open_:Bool):Int:=if o=open_ then 0 else 6
theorem lK (p:Nat) (M:Nat→Prop) (s:J.St) (b:Bool) (w:World) (h:bA w p M s):
  Calls Tryz.prog 91 #[.pointer (some ⟨p,0,none⟩), .bool b] w λe w'=>e= .returned (.int .i64 (Tj s.opn b))∧w=w':=by
 have H:=ae h;obtain⟨bn,bw,ch,wr,b0,b1,b2,b3,d0,d1,d2,d3,h1,_⟩:=h;have hc:=aj w p h1;clear h1;generalize hop:s.opn=op at hc;have HOP:=ae hop;clear hop;cases op<;>cases b
 all_goals
  go_enter Tryz.func91,Tryz.ntmps91;go_wp2_with fail;refine(oF p M s _ H.out).mono ?_;rintro e w1 ⟨rfl,rfl⟩;go_wp2;go_ret;exact⟨rfl,rfl⟩
end Go.Proofs.YtipljcmmokaokaaGreat
namespace Go.Proofs.YtipljcmmokaokaaGreat
open Go.RowKit Go.Lib Go.Maps
set_option maxRecDepth 100000
section
variable {P : Program} (w : World)
theorem np (d:Nat) (t k e:TypeId) (p:Option Nat) (h:P.underlying t=some (.map k e)):
  (Op.equalIn (d+1) t (.map p) (.map none)).run P w= .ok p.isNone w:=by
 cases p<;>simp[Op.equalIn,run_underlying h]
theorem qm (t k e:TypeId) (p:Option Nat) (h:P.underlying t=some (.map k e)):
  (binOp .eql t (.map p) (.map none)).run P w= .ok (.bool p.isNone) w:=by
 simp only[binOp];simp[show Op.equal t (.map p) (.map none)=Op.equalIn (9999+1) t (.map p) (.map none)from rfl,np w 9999 t k e p h]
theorem nO (t xT k e:TypeId) (v:Value) (h:P.underlying t=some (.map k e)):(Instr.typeAssert (.iface t v) xT t false).run P w= .ok v w:=by
 simp[Instr.typeAssert,run_underlying h,go_sem,Result.andThen]
theorem rC {r:Nat} {es:Array MapEntry} {clock:Nat} (t:TypeId) (hb:w.heap[r]? =some (.map es clock)):
  (Extern.MapsClone.clone #[.iface t (.map (some r))]).run P w= .ok (.iface t (.map (some w.heap.size))) (w.alloc (.map es clock)):=by
 have e:Extern.MapsClone.clone #[.iface t (.map (some r))]=(getObj r>>=λo=>match o with
   | .map entries clock=>(newObj (.map entries clock)>>=λn=>pure (.iface t (.map (some n))))
   |_=>stuck "maps.clone: a map expected"):=rfl
 rw[e];simp[MapKept.run_getObj_map hb,Result.andThen,go_sem]
end
theorem CQ (b:Nat) (m:List (J.B×J.B)) (M M':Nat→Prop) (w:World) (h:dp w M b m) (hM:∀k,k<w.heap.size→M' k→M k):
  Calls Tryz.prog 92 #[.map (some b)] w λe w'=>e= .returned (.map (some w.heap.size))∧dp w' M' w.heap.size m∧w'.heap.size=w.heap.size+1∧Below w.heap.size w w':=by
 have H:=ae h;obtain⟨D,⟨es,clock,hb,hr⟩,hD⟩:=h;have HR:=ae hr;have HD:=ae hD;clear hr hD;have hq:=λw=>qm (P:=Tryz.prog) w 94 _ _ (some b) Tryz.underlying94;go_enter Tryz.func92,Tryz.ntmps92;go_wp2;rw[run_callFunc_extern Tryz.func122 (by kernel_rfl) (by kernel_rfl) (by kernel_rfl) (e:=Extern.MapsClone.clone) (by kernel_rfl),rC w 94 hb];simp only[Result.andThen];rw[Oper.upon_value];go_wp2;rw[nO _ 94 20 _ _ _ Tryz.underlying94];simp only[Result.andThen];rw[Oper.upon_value];go_wp2;go_ret;have hB:Below w.heap.size w (w.alloc (.map es clock)):=(ak _ w).alloc (aq _) _;refine⟨rfl,⟨D,⟨es,clock,heap_alloc_new w _,HR.out⟩,HD.out.1,HD.out.2.1,λk l hk=> ?_⟩,by simp,hB⟩;obtain⟨v,d,g1,g2,g3⟩:=HD.out.2.2 k l hk;exact⟨v,d,g1,g2,g3.step ⟨hB.os,hB.tape,hB.output,hB.size,λk hk _=>hB.block k hk,hM⟩⟩
end Go.Proofs.YtipljcmmokaokaaGreat
namespace Go.Proofs.YtipljcmmokaokaaGreat
open Go.RowKit Go.Lib Go.Maps Go.WideMaps
set_option maxRecDepth 100000
theorem aB {w:World} {g:Nat} {t:TypeId} {cs:Array Value} (h:w.heap[g]? =some (.cells cs t (0,0))) (i:Nat) (u:Value):(w.setCell ⟨g,i,none⟩ u).heap[g]? =some (.cells (cs.setIfInBounds i u) t (0,0)):=by
 simp[World.setCell,Array.getElem?_modify,h]
theorem bX.own {w w':World} {M:Nat→Prop} {s:J.St} {bn:Nat} {bw:Option Nat} {ch wr b0 b1 b2 b3 d0 d1 d2 d3:Value} (h:bX w M s bn bw ch wr b0 b1 b2 b3 d0 d1 d2 d3) {p:Nat} {C:Array Value} {fr:Nat×Nat} (hp:w.heap[p]? =some (.cells C 99 fr)) (hm:M p) (hg:w.grownBy w' (some p)):
  bX w' M s bn bw ch wr b0 b1 b2 b3 d0 d1 d2 d3:=
 h.keep (Step.cC hg (λk e _=>by cases e;exact hm)) (λk hk hmk hd=>⟨hmk,hg.block k hk (λe=>by cases e;exact h.ne hp hm hd)⟩)
theorem bX.go {w w1 w':World} {M M':Nat→Prop} {s:J.St} {bn:Nat} {bw:Option Nat} {ch wr b0 b1 b2 b3 d0 d1 d2 d3:Value} (h:bX w M s bn bw ch wr b0 b1 b2 b3 d0 d1 d2 d3) {p:Nat} {C:Array Value} {fr:Nat×Nat} (hp:w.heap[p]? =some (.cells C 99 fr)) (hm:M p)
  (hb:Below w.heap.size w w1) (hg:w1.grownBy w' (some p)) (hM:∀k,k<w.heap.size→(M' k↔M k)):bX w' M' s bn bw ch wr b0 b1 b2 b3 d0 d1 d2 d3:=by
 have hk:∀k,k<w.heap.size→k≠p→w'.heap[k]? =w.heap[k]? :=λk h1 h2=>(hg.block k (av h1 hb.size) (λe=>h2 (by injection e))).trans (hb.block k h1);exact h.keep ⟨hg.os.trans hb.os,hg.tape.trans hb.tape,hg.output.trans hb.output,aw hb.size hg.size,λk h1 h2=>hk k h1 (λe=>h2 (e▸hm)),λk h1 h2=>(hM k h1).1 h2⟩
  (λk h1 h2 hd=>⟨(hM k h1).2 h2,hk k h1 (λe=>by subst e;exact h.ne hp hm hd)⟩)
theorem go_step {w w1 w':World} {M M':Nat→Prop} {p:Nat} (hm:M p) (hb:Below w.heap.size w w1) (hg:w1.grownBy w' (some p)) (hM:∀k,k<w.heap.size→(M' k↔M k)):Step M M' w w':=
 ⟨hg.os.trans hb.os,hg.tape.trans hb.tape,hg.output.trans hb.output,aw hb.size hg.size,λk h1 h2=>(hg.block k (av h1 hb.size) (λe=>h2 (by injection e with e;exact e▸hm))).trans (hb.block k h1),λk h1 h2=>(hM k h1).1 h2⟩
theorem aA {w w':World} {p:Nat} (h:w.grownBy w' (some p)) (i:Nat) (v:Value):w.grownBy (w'.setCell ⟨p,i,none⟩ v) (some p):=
 ⟨h.os,h.tape,h.output,by simpa [World.setCell] using h.size,λk hk hn=>(Below.heap_setCell w' _ v k (λe=>hn (by rw[e]))).trans (h.block k hk hn)⟩
theorem aC {w:World} {g:Nat} {t:TypeId} {cs:Array Value} (h:w.heap[g]? =some (.cells cs t (0,0))) (j:Nat):w.frozen? ⟨g,j,none⟩=false:=by simp[World.frozen?,h]
theorem GA (p:Nat) (M:Nat→Prop) (s:J.St) (w:World) (h:bA w p M s) (ho:s.opn=false):
  Calls Tryz.prog 35 #[.pointer (some ⟨p,0,none⟩)] w λe w'=>e= .returned (.int .i64 0)∧∃M',bA w' p M' (J.cM s)∧Step M M' w w':=by
 have H:=ae h;obtain⟨bn,bw,ch,wr,b0,b1,b2,b3,d0,d1,d2,d3,h1,h2,h3,h4⟩:=h;have H1:=ae h1;have H2:=ae h2;have H3:=ae h3;have H4:=ae h4;have hc:=aj w p h1;have HO:=ae ho;have hpl:p<w.heap.size:=(ai h1).1;clear h1 h2 h3 h4 ho;go_enter Tryz.func35,Tryz.ntmps35;go_wp2_with fail;refine(lK p M s false w H.out).mono ?_;rintro e w1 ⟨rfl,rfl⟩;rw[HO.out];go_wp2_with fail;refine(CQ bn s.now M (λk=>M k∨k=w.heap.size) w H3.out.now (λk hk h=>h.resolve_right (by omega))).mono ?_;rintro e w1 ⟨rfl,hm,hsz,hb⟩;have hr1:=(hb.block p hpl).trans H1.out;have hc1:=aj w1 p hr1;have GC:=aC hr1;have HM:=ae hm;have HB:=ae hb;have eb:=ae hr1;have HZ:=ae hsz;clear hm hb hr1 hsz hc;go_wp2_with fail;go_ret;have hg:=aA (aA (aA (aA (aA (World.grownBy.refl w1 (some p)) 1 (.bool true)) 5 (.bool false)) 3 (.slice none 0 0)) 4 (.int .i64 13)) 6 (.map (some w.heap.size));have hrow:=aB (aB (aB (aB (aB eb.out 1 (.bool true)) 5 (.bool false)) 3 (.slice none 0 0)) 4 (.int .i64 13)) 6 (.map (some w.heap.size));have hM:∀k,k<w.heap.size→((M k∨k=w.heap.size)↔M k):=λk hk=>⟨λh=>h.resolve_right (by omega), .inl⟩;refine⟨rfl,λk=>M k∨k=w.heap.size, ?_,go_step H2.out HB.out hg hM⟩;have P:=H3.out.go H1.out H2.out HB.out hg hM;have jN:=H4.out;refine⟨bn,some w.heap.size, .slice none 0 0,wr,b0,b1,b2,b3,d0,d1,d2,d3,hrow, .inl H2.out,⟨P.now,P.mbn,⟨rfl, ?_, .inr rfl, ?_⟩,en.ey _ _ _,λk h=>(by cases h),P.wrs,P.f0,P.f1,P.f2,P.f3,P.e0,P.e1,P.e2,P.e3,P.dd⟩, ?_⟩
 ·exact HM.out.step (Step.cC hg (λk e _=>by cases e;exact .inl H2.out)) (hg.block _ (by rw[HZ.out];omega) (λe=>by injection e with e;omega))
 ·have:=H3.out.now.lt;omega
 ·have hn:=jN.clo HO.out;have ud:=jN.now;rw[hn]at ud;exact⟨by show 13≤_;omega,jN.commits,jN.gen,jN.area,jN.side,jN.logged,jN.writes,by show 0≤13;omega,λ_=>rfl,λh=>(by cases h),jN.a0,jN.a1,jN.h0,jN.h1,ud,by simpa [J.encs,J.cM] using ud⟩
theorem zS (p:Nat) (M:Nat→Prop) (s:J.St) (w:World) (h:bA w p M s) (ho:s.opn=true):
  Calls Tryz.prog 36 #[.pointer (some ⟨p,0,none⟩)] w λe w'=>e= .returned (.int .i64 0)∧bA w' p M (J.cA s)∧Step M M w w':=by
 have H:=ae h;obtain⟨bn,bw,ch,wr,b0,b1,b2,b3,d0,d1,d2,d3,h1,h2,h3,h4⟩:=h;have HO:=ae ho;obtain⟨b,rfl⟩:∃b,bw=some b:=by
  cases bw with
  |none=>have h:=h3.was;simp only at h;rw[ho]at h;cases h
  |some b=>exact⟨b,rfl⟩
 have H1:=ae h1;have H2:=ae h2;have H3:=ae h3;have H4:=ae h4;have hc:=aj w p h1;have hf:=aC h1;have hpl:p<w.heap.size:=(ai h1).1;clear h1 h2 h3 h4 ho;go_enter Tryz.func36,Tryz.ntmps36;go_wp2_with fail;refine(lK p M s true w H.out).mono ?_;rintro e w1 ⟨rfl,rfl⟩;rw[HO.out];go_wp2_with fail;go_ret;have hg:=aA (aA (aA (aA (World.grownBy.refl w (some p)) 1 (.bool false)) 3 (.slice none 0 0)) 2 (.map (some b))) 6 (.map none);have hrow:=aB (aB (aB (aB H1.out 1 (.bool false)) 3 (.slice none 0 0)) 2 (.map (some b))) 6 (.map none);have hM:∀k,k<w.heap.size→(M k↔M k):=λ_ _=>Iff.rfl;refine⟨rfl, ?_,go_step H2.out (ak _ _) hg hM⟩;have P:=H3.out.go H1.out H2.out (ak _ _) hg hM;have jN:=H4.out;have hw:=P.was;refine⟨b,none, .slice none 0 0,wr,b0,b1,b2,b3,d0,d1,d2,d3,hrow,H2.out,⟨hw.2.1,hw.2.2.1,rfl,en.ey _ _ _,λk h=>(by cases h),P.wrs,P.f0,P.f1,P.f2,P.f3,P.e0,P.e1,P.e2,P.e3,P.dd⟩, ?_⟩;exact⟨jN.size,jN.commits,jN.gen,jN.area,jN.side,jN.logged,jN.writes,Nat.zero_le _,λh=>(by cases h),λ_=>rfl,jN.a0,jN.a1,jN.h0,jN.h1,by have:=jN.was;show _≤8388608+s.logged+0;exact this,Nat.zero_le _⟩
theorem dp.look {w:World} {M:Nat→Prop} {m:List (J.B×J.B)} {D:DataW Unit} (h3:∀k,Maps.has D (.string k)=(J.look m k).isSome)
  (h4:∀k l,J.look m k=some l→∃v d,dm v=some (d,[])∧(∀z,D.atKey (.string k) z=d)∧bT w M v l) {k:J.B} {v:Value} {ps:List MemPlace} (hv:dm v=some (D.atKey (.string k) .nil,ps)):bT w M v ((J.look m k).getD []):=by
 cases hq:J.look m k with
 |some l=>
  obtain⟨v0,d,g1,g2,g3⟩:=h4 k l hq;rw[g2]at hv;rw[rB hv g1];exact g3
 |none=>
  have hh:=h3 k;rw[hq]at hh;rw[atKey_of_not_has hh]at hv;have:v= .slice none 0 0:=rB hv (show dm (.slice none 0 0)=some (.nil,[])from rfl);rw[this];exact bT.ey
theorem Kr (p:Nat) (M:Nat→Prop) (s:J.St) (key:ByteArray) (w:World) (h:bA w p M s) (hk:key.size≤maxLen) (hl:∀l,J.look s.now key.data.toList=some l→l.length≤90000000):
  Calls Tryz.prog 42 #[.pointer (some ⟨p,0,none⟩), .string key] w λe w'=>∃v,e= .returned (.tuple #[v, .bool (J.look s.now key.data.toList).isSome])∧bT w' (· <w.heap.size) v ((J.look s.now key.data.toList).getD [])∧Below w.heap.size w w':=by
 have H:=ae h;obtain⟨bn,bw,ch,wr,b0,b1,b2,b3,d0,d1,d2,d3,h1,h2,h3,h4⟩:=h;obtain⟨D,hown,nM,nP,hval⟩:=h3.now;have HH:=ae nP;have HV:=ae hval;have HOw:=ae hown;have hkey:keyOf Tryz.prog 9 (.string key)=some (.string key.data.toList):=keyOf_string_mk Tryz.underlying9 hk;have HK:=ae hkey;have hc:=aj w p h1;have HL:=ae hl;clear h1 h2 h3 h4 hown nM nP hval hkey hl;go_enter Tryz.func42,Tryz.ntmps42;go_wp2_with fail;refine(oF p M s _ H.out).mono ?_;rintro e w1 ⟨rfl,rfl⟩;go_wp2_with (at_lookup;refine wpList_lookup_own_ok _ rfl _ _ 94 rfl 9 40 qi Tryz.underlying94 dm (Kq _) .nil [] rfl bn _ D rfl HOw.out _ _ rfl HK.out ?_);intro v ps hv;have eG:=dp.look (w:=w) (M:=M) HH.out HV.out hv;have hhs:=HH.out key.data.toList;generalize hlk:J.look s.now key.data.toList=lk at eG hhs;have VL:(lk.getD []).length≤90000000:=by
  cases lk with
  |none=>exact Nat.zero_le _
  |some l=>exact HL.out l hlk
 have ny:=ae eG;rw[hhs];have RP:=ae hlk;clear eG hv hhs hlk;go_wp2_with fail;refine(tY v (lk.getD []) w M ny.out.sl VL).mono ?_;rintro e w2 ⟨v2,rfl,hs2,hb2⟩;have vP:=ae hs2;have br:=ae hb2;clear hs2 hb2;go_wp2_with fail;go_ret2;exact⟨_,by rw[RP.out];rfl,by rw[RP.out];exact vP.out,br.out⟩
end Go.Proofs.YtipljcmmokaokaaGreat
