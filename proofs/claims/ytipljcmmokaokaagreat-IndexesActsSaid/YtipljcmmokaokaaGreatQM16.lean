import Derived.Test.YtipljcmmokaokaaGreatQM15
set_option linter.unusedVariables false
set_option linter.unusedSimpArgs false
set_option maxHeartbeats 2000000
namespace Go.Proofs.YtipljcmmokaokaaGreat
open Go.RowKit Go.Lib Go.Maps Go.WideMaps Go.Sort
set_option maxRecDepth 100000
def ye (ks:List X.Ky) (size:Nat) (b:J.B) (k:Nat):Bool:=decide (b.length≤size)&&(ks.take k).all λx=>decide (x.at_+x.len≤b.length)
theorem LL (ks:List X.Ky) (size:Nat) (b:J.B):ye ks size b ks.length=X.bj ks size b:=by unfold ye X.bj;rw[List.take_length]
theorem Hn {ks:List X.Ky} {size:Nat} {b:J.B} {k:Nat} (h:k<ks.length):ye ks size b (k+1)=(ye ks size b k&&decide ((X.aF ks k).at_+(X.aF ks k).len≤b.length)):=by
 have e:ks[k]=X.aF ks k:=by unfold X.aF;simp[h]
 unfold ye;rw[List.take_succ_eq_append_getElem h,List.all_append,e,←Bool.and_assoc];simp
theorem TT (a l:Nat) (h:a+l≤10000):wrap64 ((a:Int)+(l:Nat))=((a+l:Nat):Int):=by rw[IntWalk.wrap64_in _ (by omega)];omega
theorem LM (a l:Nat) (h:a+l≤10000):IntKind.i64.wrap ((a:Int)+(l:Nat))=((a+l:Nat):Int):=by rw[IntKind.wrap_i64];omega
theorem LN (j:Nat) (h:j≤100000):Value.int .i64 (wrap64 ((j:Int)+1))= .int .i64 ((j+1:Nat):Int):=by rw[IntWalk.wrap64_in _ (by omega)];rfl
theorem FD {j n:Nat} (h:j<n) (hj:j≤100000):n - (intOf (Value.int .i64 (wrap64 ((j:Int)+1)))).toNat<n - (intOf (Value.int .i64 (j:Int))).toNat:=by
 rw[IntWalk.wrap64_in _ (by omega)];simp only[intOf];omega
theorem AW {j n:Nat} (h:j<n):n - (intOf (Value.int .i64 ((j:Int)+1))).toNat<n - (intOf (Value.int .i64 (j:Int))).toNat:=by
 simp only[intOf];omega
section
variable {w w' : World} {q g c : Nat} {M : Nat → Prop} {m : X.M} {v : Value} {l : List HP}
theorem xc (h:ft w q g c M m v l) (bY:X.eo m.ks m.size) (b:J.B) (hbl:b.length≤1000000):
  Calls Tryz.prog 60 #[.pointer (some ⟨q,0,none⟩), .string ⟨b.toArray⟩] w λe w'=>e= .returned (.bool (X.bj m.ks m.size b))∧Below w.heap.size w w':=by
 have HH:=ae h;have hc:=aj w q h.row;have lj:=ae bY;have h8:=bY.one;have DC:(⟨b.toArray⟩:ByteArray).size=b.length:=bh b;have LO:ye m.ks m.size b 0=decide (b.length≤m.size):=by unfold ye;simp
 have hsz:decide ((b.length:Int)≤(m.size:Nat))=decide (b.length≤m.size):=by
  by_cases hh:b.length≤m.size
  ·rw[decide_eq_true hh,decide_eq_true (by omega)]
  ·rw[decide_eq_false hh,decide_eq_false (by omega)]
 have HF0:=ae LO;generalize(⟨b.toArray⟩:ByteArray)=S at DC⊢;clear h bY LO hsz;go_enter Tryz.func60,Tryz.ntmps60;go_wp2;clear hc;go_loopw [5,6] (fun t u W=>∃k:Nat,k≤m.ks.length∧t= .bool (ye m.ks m.size b k)∧u= .int .i64 k∧Below w.heap.size w W) (fun _ u _=>m.ks.length - (intOf u).toNat)
 case atStart=>exact⟨0,Nat.zero_le _,by rw[HF0.out],rfl,ak _ _⟩
 case round=>
  obtain⟨k,hk,rfl,rfl,hB⟩:=hrel;have HB:=ae hB;have hc:=aj wr q (HH.out.below hB).row;clear hB;by_cases hlt:k<m.ks.length
  ·have PB:(k:Int)<(m.ks.length:Nat):=(by omega);have aW:=ae hlt;have eK:=ae (show k≤100000 by omega);have Ho:=ae (Hn (size:=m.size) (b:=b) hlt);have HC:=ae (λw' (hS:Below wr.heap.size wr w')=>HH.out.below (HB.out.trans (hS.mono HB.out.size)));have nT:=lj.out.key _ (X.aU hlt);have iE:=lj.out.size;have rr:(X.aF m.ks k).at_+(X.aF m.ks k).len≤10000:=(by omega);have hw:=TT _ _ rr;have hw2:=LM _ _ rr;have hdc:decide ((((X.aF m.ks k).at_+(X.aF m.ks k).len:Nat):Int)≤(b.length:Nat))=decide ((X.aF m.ks k).at_+(X.aF m.ks k).len≤b.length):=by
    by_cases hh:(X.aF m.ks k).at_+(X.aF m.ks k).len≤b.length
    ·rw[decide_eq_true hh,decide_eq_true (by omega)]
    ·rw[decide_eq_false hh,decide_eq_false (by omega)]
   rw[←hdc]at Ho;clear nT iE rr hdc h8 hbl HF0;cases jN:ye m.ks m.size b k with
   |false=>
    rw[jN]at Ho;go_upto_region 5 with fail;refine aD 23 (.rd 0 (.rd 1 (.rd 2 (.rd 3 (.rd 4 (.rd 5 (.rd 6 (.rd 7 (.rd 8 (.rd 9 (.rd 10 (.rd 11 (.rd 12 (.rd 13 (.rd 14 (.rd 15 (.rd 16 (.rd 17 (.rd 18 (.rd 19 (.rd 20 (.rd 21 (.rd 22 .fin))))))))))))))))))))))) (λw'=>Below wr.heap.size wr w') (by kernel_rfl) (by kernel_rfl) (λc a d v w h=>by cases d<;>exact h) ((ak wr.heap.size wr).drew) ?_
    iterate 2
     refine az (v:= ?_) (by rfl) (by rfl) (λw' hS=> ?_) (λK hK=> ?_);rotate_left
     ·clear hS;go_simp;try with_reducible rfl
     go_simp;refine hK _ ?_;clear hK K
    refine ay (by rfl) (by rfl) (λK hK=> ?_);go_simp;refine hK _ ?_;clear hK K;refine ay (by rfl) (by rfl) (λK hK=> ?_);go_simp;refine hK _ ?_;clear hK K;refine ay (by rfl) (by rfl) (λK hK=> ?_);go_simp;refine hK _ ?_;clear hK K;refine ay (by rfl) (by rfl) (λK hK=> ?_);go_simp;refine hK _ ?_;clear hK K;refine ay (by rfl) (by rfl) (λK hK=> ?_);go_simp;refine hK _ ?_;clear hK K;refine ay (by rfl) (by rfl) (λK hK=> ?_);go_simp;refine hK _ ?_;clear hK K;refine ay (by rfl) (by rfl) (λK hK=> ?_);go_simp;refine hK _ ?_;clear hK K;refine ay (by rfl) (by rfl) (λK hK=> ?_);go_simp;refine hK _ ?_;clear hK K;refine ay (by rfl) (by rfl) (λK hK=> ?_);go_simp;refine hK _ ?_;clear hK K;refine ay (by rfl) (by rfl) (λK hK=> ?_);go_simp;refine hK _ ?_;clear hK K;refine ay (by rfl) (by rfl) (λK hK=> ?_);go_simp;refine hK _ ?_;clear hK K;refine ay (by rfl) (by rfl) (λK hK=> ?_);go_simp;refine hK _ ?_;clear hK K;refine ay (by rfl) (by rfl) (λK hK=> ?_);go_simp;refine hK _ ?_;clear hK K;refine ay (by rfl) (by rfl) (λK hK=> ?_);go_simp;refine hK _ ?_;clear hK K;refine ay (by rfl) (by rfl) (λK hK=> ?_);go_simp;refine hK _ ?_;clear hK K;refine ay (by rfl) (by rfl) (λK hK=> ?_);go_simp;refine hK _ ?_;clear hK K;refine ay (by rfl) (by rfl) (λK hK=> ?_);go_simp;refine hK _ ?_;clear hK K;refine ay (by rfl) (by rfl) (λK hK=> ?_);go_simp;refine hK _ ?_;clear hK K;refine ay (by rfl) (by rfl) (λK hK=> ?_);go_simp;refine hK _ ?_;clear hK K;refine ay (by rfl) (by rfl) (λK hK=> ?_);go_simp;refine hK _ ?_;clear hK K;refine ay (by rfl) (by rfl) (λK hK=> ?_);go_simp;refine hK _ ?_;clear hK K;show wpList _ _ _ _ _ _;have VU:=ae HB.out.drew;go_wp2;go_roundw
    case rel=>exact⟨k+1,aW.out,by rw[Ho.out];rfl,by first|exact LN k eK.out|rfl,VU.out⟩
    case measure=>first|exact FD aW.out eK.out|exact AW aW.out
   |true=>
    rw[jN]at Ho;go_upto_region 5 with fail;refine aD 23 (.rd 0 (.rd 1 (.rd 2 (.rd 3 (.rd 4 (.rd 5 (.rd 6 (.rd 7 (.rd 8 (.rd 9 (.rd 10 (.rd 11 (.rd 12 (.rd 13 (.rd 14 (.rd 15 (.rd 16 (.rd 17 (.rd 18 (.rd 19 (.rd 20 (.rd 21 (.rd 22 .fin))))))))))))))))))))))) (λw'=>Below wr.heap.size wr w') (by kernel_rfl) (by kernel_rfl) (λc a d v w h=>by cases d<;>exact h) ((ak wr.heap.size wr).drew) ?_
    iterate 23
     refine az (v:= ?_) (by rfl) (by rfl) (λw' hS=> ?_) (λK hK=> ?_);rotate_left
     ·have hc:=aj w' q (HC.out w' hS).row;have k1:=(HC.out w' hS).ks.at_ hlt;have k2:=(HC.out w' hS).ks.len hlt;clear hS;go_simp;try with_reducible rfl
     go_simp;refine hK _ ?_;clear hK K
    show wpList _ _ _ _ _ _;have VU:=ae HB.out.drew;go_wp2;go_roundw
    case rel=>exact⟨k+1,aW.out,by rw[Ho.out];rfl,by first|exact LN k eK.out|rfl,VU.out⟩
    case measure=>first|exact FD aW.out eK.out|exact AW aW.out
  ·obtain rfl:k=m.ks.length:=(by omega);go_wp2;go_ret;exact⟨by rw[←LL];rfl,HB.out⟩
end
end Go.Proofs.YtipljcmmokaokaaGreat
namespace Go.Proofs.YtipljcmmokaokaaGreat
open Go.RowKit Go.Lib Go.Maps Go.WideMaps Go.Sort
namespace X
theorem uO (ks:List Ky) (k:Nat) (x:Row):¬nk ks k x x=true:=λh=>by
 rcases pZ.1 h with h|⟨_,h⟩
 ·exact List.lt_irrefl _ h
 ·exact Nat.lt_irrefl _ h
theorem Hp {ks:List Ky} {k:Nat} {l:List Row} (h:l.Pairwise (nk ks k · ·)) {i:Nat} (hi:i<l.length):l.find? (nk ks k l[i] ·)=l[i+1]? :=by
 have hp:=List.pairwise_iff_getElem.1 h;have e:l.find? (nk ks k l[i] ·)=(l.take (i+1)++l.drop (i+1)).find? (nk ks k l[i] ·):=by rw[List.take_append_drop]
 have hn:(l.take (i+1)).find? (nk ks k l[i] ·)=none:=List.find?_eq_none.2 (λx hx hr=>by
  obtain⟨j,hj,rfl⟩:=List.getElem_of_mem hx;rw[List.length_take]at hj;rw[List.getElem_take]at hr;by_cases lf:j=i
  ·subst lf;exact uO ks k _ hr
  ·exact uO ks k _ (wz hr (hp j i (by omega) hi (by omega))))
 rw[e,List.find?_append,hn,Option.none_or];by_cases hl:i+1<l.length
 ·rw[List.drop_eq_getElem_cons hl,List.find?_cons_of_pos (hp i (i+1) hi hl (by omega)),List.getElem?_eq_getElem hl]
 ·rw[List.drop_eq_nil_of_le (by omega),List.find?_nil,List.getElem?_eq_none (by omega)]
theorem Hq {ks:List Ky} {size ct:Nat} {rows:List Row} (hr:aQ ks size ct rows) {k:Nat} (hk:k<ks.length) {i:Nat} (hi:i<(bQ ks k rows).length):
  moreB ks rows k (bQ ks k rows)[i]=match(bQ ks k rows)[i+1]? with
   |some x=>decide (val ks k x.b=val ks k (bQ ks k rows)[i].b)
   |none=>false:=by
 unfold moreB;rw[Hp (mD ks k rows (hr.zI hk)) hi];cases(bQ ks k rows)[i+1]? <;>rfl
end X
end Go.Proofs.YtipljcmmokaokaaGreat
