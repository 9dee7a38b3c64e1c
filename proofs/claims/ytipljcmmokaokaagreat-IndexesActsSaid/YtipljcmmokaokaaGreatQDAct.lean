import Derived.Test.YtipljcmmokaokaaGreatQM01
set_option linter.unusedVariables false
set_option linter.unusedSimpArgs false
namespace Go.Proofs.YtipljcmmokaokaaGreat
open Go.RowKit Go.Lib
set_option maxRecDepth 100000
namespace X
structure Ac where
 what:Nat
 key:Nat
 n:Nat
 val:B
def fC (L:List Ac):Nat:=(L.map λa=>1+a.val.length/8).sum
theorem EJ (L:List Ac) (k:Nat) (h:k<L.length):fC (L.take (k+1))=fC (L.take k)+(1+L[k].val.length/8):=by
 unfold fC;rw[List.take_succ_eq_append_getElem h,List.map_append,List.sum_append];simp
theorem EK (L:List Ac) (k:Nat):fC (L.take k)≤fC L:=by
 unfold fC
 conv=>rhs;rw[←List.take_append_drop k L,List.map_append,List.sum_append]
 omega
theorem Je (L:List Ac):L.length≤fC L:=by
 unfold fC
 induction L with
 |nil=>exact aq _
 |cons a t ih=>simp only[List.map_cons,List.sum_cons,List.length_cons];omega
theorem NV (L:List Ac) (a:Ac) (h:a∈L):1+a.val.length/8≤fC L:=by
 unfold fC
 induction L with
 |nil=>cases h
 |cons b t ih=>
  simp only[List.map_cons,List.sum_cons];rcases au h with rfl|h
  ·omega
  ·have:=ih h;omega
end X
def fD (w:World) (M:Nat→Prop) (A:Option Addr) (L:List X.Ac):Prop:=
 0<L.length→∃b o,A=some ⟨b,o,none⟩∧b<w.heap.size∧¬M b∧∀i (h:i<L.length),w.cell? ⟨b,o+i*4,none⟩=some (.int .u8 L[i].what)∧w.cell? ⟨b,o+i*4+1,none⟩=some (.int .u8 L[i].key)∧w.cell? ⟨b,o+i*4+2,none⟩=some (.int .u8 L[i].n)∧
  (∃v,w.cell? ⟨b,o+i*4+3,none⟩=some v∧Sl w M v L[i].val)∧L[i].what<256∧L[i].key<256∧L[i].n<256
theorem fD.step {w w':World} {M M':Nat→Prop} {A:Option Addr} {L:List X.Ac} (h:fD w M A L) (hs:Step M M' w w'):fD w' M' A L:=λhn=>by
 obtain⟨b,o,e,hb,hM,hc⟩:=h hn;refine⟨b,o,e,av hb hs.size,λhm=>hM (hs.sub b hb hm),λi hi=> ?_⟩;obtain⟨h1,h2,h3,⟨v,h4,h5⟩,h6⟩:=hc i hi;exact⟨(hs.cell (a:=⟨b,o+i*4,none⟩) hb hM).trans h1,(hs.cell (a:=⟨b,o+i*4+1,none⟩) hb hM).trans h2,(hs.cell (a:=⟨b,o+i*4+2,none⟩) hb hM).trans h3,⟨v,(hs.cell (a:=⟨b,o+i*4+3,none⟩) hb hM).trans h4,h5.step hs⟩,h6⟩
theorem fD.weak {w:World} {M M':Nat→Prop} {A:Option Addr} {L:List X.Ac} (h:fD w M A L) (hM:∀k,M' k→M k):fD w M' A L:=λhn=>by
 obtain⟨b,o,e,hb,hm,hc⟩:=h hn;refine⟨b,o,e,hb,λh=>hm (hM b h),λi hi=> ?_⟩;obtain⟨h1,h2,h3,⟨v,h4,h5⟩,h6⟩:=hc i hi;exact⟨h1,h2,h3,⟨v,h4,h5.weak hM⟩,h6⟩
theorem Gg (A:Option Addr) (c:Nat) (L:List X.Ac) (most:Nat) (w:World) (h:fD w bF A L) (hm:most≤1000) (hl:L.length≤9223372036854775807) (hv:∀a∈L,a.val.length≤9223372036854775807):
  Calls Tryz.prog 21 #[.slice A L.length c, .int .i64 most] w λe w'=>e= .returned (.bool (decide (most<X.fC L)))∧w=w':=by
 have H:=ae h;have HV:=ae hv;have hl0:(L.length:Int)≤9223372036854775807:=by omega
 clear h hv;go_enter Tryz.func21,Tryz.ntmps21;go_wp2;go_loop [5,6] (fun n i=>∃k:Nat,k≤L.length∧i= .int .i64 k∧n= .int .i64 (X.fC (L.take k):Nat)∧X.fC (L.take k)≤1152921504606848000) (fun _ i=>L.length - (intOf i).toNat)
 case atStart=>exact⟨0,Nat.zero_le _,rfl,rfl,Nat.zero_le _⟩
 case round=>
  obtain⟨k,hk,rfl,rfl,hu⟩:=hrel;by_cases hlt:k<L.length
  ·by_cases hmu:X.fC (L.take k)≤most
   ·obtain⟨b,o,rfl,hb,_,hc⟩:=H.out (by omega);obtain⟨_,_,_,⟨v,h3,h4⟩,_⟩:=hc k hlt;obtain⟨Av,cv,rfl,_,hby⟩:=h4.by
    have HS:=ae (X.EJ L k hlt);have oU:=HV.out _ (List.getElem_mem hlt);clear h4 hby hc;generalize L[k].val.length=n at h3 HS oU;have CM:(n:Int)≤9223372036854775807:=(by omega);have rz:(0:Int)≤(n:Int):=(by omega);have hq:(n:Int).tdiv 8=((n/8:Nat):Int):=rfl;generalize X.fC (L.take k)=U at hu hmu HS;have hU:(U:Int)≤most:=(by omega);go_wp2;go_round
    case rel=>exact⟨k+1,by omega,by go_num,by rw[HS.out];congr 1;omega,by rw[HS.out];omega⟩
    case measure=>simp[intOf];omega
   ·have ahl:¬(X.fC (L.take k):Int)≤(most:Int):=(by omega);have HU:=ae (av (Nat.lt_of_not_le hmu) (X.EK L k));go_wp2;go_ret;exact⟨ret_bool (by rw[decide_eq_true HU.out];simp;omega),rfl⟩
  ·obtain rfl:k=L.length:=(by omega);rw[List.take_length]at hu⊢;go_wp2;go_ret;exact⟨ret_bool (by simp),rfl⟩
end Go.Proofs.YtipljcmmokaokaaGreat
