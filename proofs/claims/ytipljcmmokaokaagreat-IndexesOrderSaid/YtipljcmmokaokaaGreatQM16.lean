import Derived.Test.YtipljcmmokaokaaGreatQM15
set_option linter.unusedVariables false
set_option linter.unusedSimpArgs false
set_option maxHeartbeats 2000000
namespace Go.Proofs.YtipljcmmokaokaaGreat
open Go.RowKit Go.Lib Go.Maps Go.WideMaps Go.Sort
set_option maxRecDepth 100000
def xl (ks:List X.Ky) (size:Nat) (b:J.B) (k:Nat):Bool:=decide (b.length≤size)&&(ks.take k).all fun x=>decide (x.at_+x.len≤b.length)
theorem Hi (ks:List X.Ky) (size:Nat) (b:J.B):xl ks size b ks.length=X.bg ks size b:=by unfold xl X.bg;rw[List.take_length]
theorem Er {ks:List X.Ky} {size:Nat} {b:J.B} {k:Nat} (h:k<ks.length):xl ks size b (k+1)=(xl ks size b k&&decide ((X.aF ks k).at_+(X.aF ks k).len≤b.length)):=by
 have e:ks[k]=X.aF ks k:=by unfold X.aF;simp[h]
 unfold xl;rw[List.take_succ_eq_append_getElem h,List.all_append,e,←Bool.and_assoc];simp
theorem TP (a l:Nat) (h:a+l≤10000):wrap64 ((a:Int)+(l:Nat))=((a+l:Nat):Int):=by rw[IntWalk.wrap64_in _ (by omega)];omega
theorem P6 (a l:Nat) (h:a+l≤10000):IntKind.i64.wrap ((a:Int)+(l:Nat))=((a+l:Nat):Int):=by rw[IntKind.wrap_i64];omega
theorem Hj (j:Nat) (h:j≤100000):Value.int .i64 (wrap64 ((j:Int)+1))= .int .i64 ((j+1:Nat):Int):=by rw[IntWalk.wrap64_in _ (by omega)];rfl
theorem C7 {j n:Nat} (h:j<n) (hj:j≤100000):n - (intOf (Value.int .i64 (wrap64 ((j:Int)+1)))).toNat<n - (intOf (Value.int .i64 (j:Int))).toNat:=by
 rw[IntWalk.wrap64_in _ (by omega)];simp only[intOf];omega
theorem zj {j n:Nat} (h:j<n):n - (intOf (Value.int .i64 ((j:Int)+1))).toNat<n - (intOf (Value.int .i64 (j:Int))).toNat:=by
 simp only[intOf];omega
section
variable {w w' : World} {q g c : Nat} {M : Nat → Prop} {m : X.M} {v : Value} {l : List HP}
theorem Es (h:oL w q g c M m v l) (bh:X.fQ m.ks m.size) (b:J.B) (hbl:b.length≤1000000):
  Calls Tryz.prog 60 #[.pointer (some ⟨q,0,none⟩), .string ⟨b.toArray⟩] w fun e w'=>e= .returned (.bool (X.bg m.ks m.size b))∧Below w.heap.size w w':=by
 have HH:=aa h;have hc:=fun j=>ag w q j _ _ _ h.row;have oM:=aa bh;have h8:=bh.one;have TM:(⟨b.toArray⟩:ByteArray).size=b.length:=bu b;have Hk:xl m.ks m.size b 0=decide (b.length≤m.size):=by unfold xl;simp
 have hsz:decide ((b.length:Int)≤(m.size:Nat))=decide (b.length≤m.size):=by
  by_cases hh:b.length≤m.size
  ·rw[decide_eq_true hh,decide_eq_true (by omega)]
  ·rw[decide_eq_false hh,decide_eq_false (by omega)]
 have O2:=aa Hk;generalize(⟨b.toArray⟩:ByteArray)=S at TM⊢;clear h bh Hk hsz;go_enter Tryz.func60,Tryz.ntmps60;go_wp2;clear hc;go_loopw [5,6] (fun t u W=>∃k:Nat,k≤m.ks.length∧t= .bool (xl m.ks m.size b k)∧u= .int .i64 k∧Below w.heap.size w W) (fun _ u _=>m.ks.length - (intOf u).toNat)
 case atStart=>exact⟨0,Nat.zero_le _,by rw[O2.out],rfl,ai _ _⟩
 case round=>
  obtain⟨k,hk,rfl,rfl,hB⟩:=hrel;have HB:=aa hB;have hc:=fun j=>ag wr q j _ _ _ (HH.out.below hB).row;clear hB;by_cases hlt:k<m.ks.length
  ·have O3:(k:Int)<(m.ks.length:Nat):=(by omega);have a7:=aa hlt;have iD:=aa (show k≤100000 by omega);have BU:=aa (Er (size:=m.size) (b:=b) hlt);have HC:=aa (fun w' (hS:Below wr.heap.size wr w')=>HH.out.below (HB.out.trans (hS.mono HB.out.size)));have oc:=oM.out.key _ (X.aR hlt);have uw:=oM.out.size;have qX:(X.aF m.ks k).at_+(X.aF m.ks k).len≤10000:=(by omega);have hw:=TP _ _ qX;have hw2:=P6 _ _ qX;have Wc:decide ((((X.aF m.ks k).at_+(X.aF m.ks k).len:Nat):Int)≤(b.length:Nat))=decide ((X.aF m.ks k).at_+(X.aF m.ks k).len≤b.length):=by
    by_cases hh:(X.aF m.ks k).at_+(X.aF m.ks k).len≤b.length
    ·rw[decide_eq_true hh,decide_eq_true (by omega)]
    ·rw[decide_eq_false hh,decide_eq_false (by omega)]
   rw[←Wc]at BU;clear oc uw qX Wc h8 hbl O2;cases lG:xl m.ks m.size b k with
   |false=>
    rw[lG]at BU;go_upto_region 5 with fail;refine aA 23 (.rd 0 (.rd 1 (.rd 2 (.rd 3 (.rd 4 (.rd 5 (.rd 6 (.rd 7 (.rd 8 (.rd 9 (.rd 10 (.rd 11 (.rd 12 (.rd 13 (.rd 14 (.rd 15 (.rd 16 (.rd 17 (.rd 18 (.rd 19 (.rd 20 (.rd 21 (.rd 22 .fin))))))))))))))))))))))) (fun w'=>Below wr.heap.size wr w') (by kernel_rfl) (by kernel_rfl) (fun c a d v w h=>by cases d<;>exact h) ((ai wr.heap.size wr).drew) ?_
    iterate 2
     refine aw (v:= ?_) (by rfl) (by rfl) (fun w' hS=> ?_) (fun K hK=> ?_);rotate_left
     ·clear hS;go_simp;try with_reducible rfl
     go_simp;refine hK _ ?_;clear hK K
    refine ax (by rfl) (by rfl) (fun K hK=> ?_);go_simp;refine hK _ ?_;clear hK K;refine ax (by rfl) (by rfl) (fun K hK=> ?_);go_simp;refine hK _ ?_;clear hK K;refine ax (by rfl) (by rfl) (fun K hK=> ?_);go_simp;refine hK _ ?_;clear hK K;refine ax (by rfl) (by rfl) (fun K hK=> ?_);go_simp;refine hK _ ?_;clear hK K;refine ax (by rfl) (by rfl) (fun K hK=> ?_);go_simp;refine hK _ ?_;clear hK K;refine ax (by rfl) (by rfl) (fun K hK=> ?_);go_simp;refine hK _ ?_;clear hK K;refine ax (by rfl) (by rfl) (fun K hK=> ?_);go_simp;refine hK _ ?_;clear hK K;refine ax (by rfl) (by rfl) (fun K hK=> ?_);go_simp;refine hK _ ?_;clear hK K;refine ax (by rfl) (by rfl) (fun K hK=> ?_);go_simp;refine hK _ ?_;clear hK K;refine ax (by rfl) (by rfl) (fun K hK=> ?_);go_simp;refine hK _ ?_;clear hK K;refine ax (by rfl) (by rfl) (fun K hK=> ?_);go_simp;refine hK _ ?_;clear hK K;refine ax (by rfl) (by rfl) (fun K hK=> ?_);go_simp;refine hK _ ?_;clear hK K;refine ax (by rfl) (by rfl) (fun K hK=> ?_);go_simp;refine hK _ ?_;clear hK K;refine ax (by rfl) (by rfl) (fun K hK=> ?_);go_simp;refine hK _ ?_;clear hK K;refine ax (by rfl) (by rfl) (fun K hK=> ?_);go_simp;refine hK _ ?_;clear hK K;refine ax (by rfl) (by rfl) (fun K hK=> ?_);go_simp;refine hK _ ?_;clear hK K;refine ax (by rfl) (by rfl) (fun K hK=> ?_);go_simp;refine hK _ ?_;clear hK K;refine ax (by rfl) (by rfl) (fun K hK=> ?_);go_simp;refine hK _ ?_;clear hK K;refine ax (by rfl) (by rfl) (fun K hK=> ?_);go_simp;refine hK _ ?_;clear hK K;refine ax (by rfl) (by rfl) (fun K hK=> ?_);go_simp;refine hK _ ?_;clear hK K;refine ax (by rfl) (by rfl) (fun K hK=> ?_);go_simp;refine hK _ ?_;clear hK K;show wpList _ _ _ _ _ _;have TQ:=aa HB.out.drew;go_wp2;go_roundw
    case rel=>exact⟨k+1,a7.out,by rw[BU.out];rfl,by first|exact Hj k iD.out|rfl,TQ.out⟩
    case measure=>first|exact C7 a7.out iD.out|exact zj a7.out
   |true=>
    rw[lG]at BU;go_upto_region 5 with fail;refine aA 23 (.rd 0 (.rd 1 (.rd 2 (.rd 3 (.rd 4 (.rd 5 (.rd 6 (.rd 7 (.rd 8 (.rd 9 (.rd 10 (.rd 11 (.rd 12 (.rd 13 (.rd 14 (.rd 15 (.rd 16 (.rd 17 (.rd 18 (.rd 19 (.rd 20 (.rd 21 (.rd 22 .fin))))))))))))))))))))))) (fun w'=>Below wr.heap.size wr w') (by kernel_rfl) (by kernel_rfl) (fun c a d v w h=>by cases d<;>exact h) ((ai wr.heap.size wr).drew) ?_
    iterate 23
     refine aw (v:= ?_) (by rfl) (by rfl) (fun w' hS=> ?_) (fun K hK=> ?_);rotate_left
     ·have hc:=fun j=>ag w' q j _ _ _ (HC.out w' hS).row;have k1:=(HC.out w' hS).ks.at_ hlt;have k2:=(HC.out w' hS).ks.len hlt;clear hS;go_simp;try with_reducible rfl
     go_simp;refine hK _ ?_;clear hK K
    show wpList _ _ _ _ _ _;have TQ:=aa HB.out.drew;go_wp2;go_roundw
    case rel=>exact⟨k+1,a7.out,by rw[BU.out];rfl,by first|exact Hj k iD.out|rfl,TQ.out⟩
    case measure=>first|exact C7 a7.out iD.out|exact zj a7.out
  ·obtain rfl:k=m.ks.length:=(by omega);go_wp2;go_ret;exact⟨by rw[←Hi];rfl,HB.out⟩
end
end Go.Proofs.YtipljcmmokaokaaGreat
namespace Go.Proofs.YtipljcmmokaokaaGreat
open Go.RowKit Go.Lib Go.Maps Go.WideMaps Go.Sort
namespace X
theorem ux (ks:List Ky) (k:Nat) (x:Row):¬nC ks k x x=true:=fun h=>by
 rcases pV.1 h with h|⟨_,h⟩
 ·exact List.lt_irrefl _ h
 ·exact Nat.lt_irrefl _ h
theorem Et {ks:List Ky} {k:Nat} {l:List Row} (h:l.Pairwise (nC ks k · ·)) {i:Nat} (hi:i<l.length):l.find? (nC ks k l[i] ·)=l[i+1]? :=by
 have hp:=List.pairwise_iff_getElem.1 h;have e:l.find? (nC ks k l[i] ·)=(l.take (i+1)++l.drop (i+1)).find? (nC ks k l[i] ·):=by rw[List.take_append_drop]
 have hn:(l.take (i+1)).find? (nC ks k l[i] ·)=none:=List.find?_eq_none.2 (fun x hx hr=>by
  obtain⟨j,hj,rfl⟩:=List.getElem_of_mem hx;rw[List.length_take]at hj;rw[List.getElem_take]at hr;by_cases nJ:j=i
  ·subst nJ;exact ux ks k _ hr
  ·exact ux ks k _ (vI hr (hp j i (by omega) hi (by omega))))
 rw[e,List.find?_append,hn,Option.none_or];by_cases hl:i+1<l.length
 ·rw[List.drop_eq_getElem_cons hl,List.find?_cons_of_pos (hp i (i+1) hi hl (by omega)),List.getElem?_eq_getElem hl]
 ·rw[List.drop_eq_nil_of_le (by omega),List.find?_nil,List.getElem?_eq_none (by omega)]
end X
end Go.Proofs.YtipljcmmokaokaaGreat
