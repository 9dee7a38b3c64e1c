import Derived.Test.YtipljcmmokaokaaGreatQM24
import Derived.Test.YtipljcmmokaokaaGreatQM23
set_option linter.unusedVariables false
set_option linter.unusedSimpArgs false
set_option maxHeartbeats 4000000
namespace Go.Proofs.YtipljcmmokaokaaGreat
open Go.RowKit Go.Lib Go.Maps Go.WideMaps Go.Sort
set_option maxRecDepth 100000
noncomputable def Uq:Code:=(Tryz.f16.body.bind (kg 7)).getD .skip
theorem abM {W0:World} {q g c:Nat} {m:X.M} {v:Value} {S VK WV:ByteArray} {Q:Exit→Act→World→Prop} (hQ:∀c a d v w,Q (.panic c) (Act.put a d v) w→Q (.panic c) a w) (jZ:Hid (∀w',Below W0.heap.size W0 w'→w'.heap[q]? =some (.cells #[.string ⟨#[102]⟩, .int .i64 (m.size:Nat), .slice (some ⟨g,0,none⟩) m.ks.length c, .bool m.there,v, .int .i64 (m.time:Nat), .int .u8 (m.mode:Nat), .bool m.ord, .int .i64 (m.key:Nat), .bool m.lost, .string ⟨m.value.toArray⟩, .int .i64 (m.at_:Nat), .bool m.same, .string ⟨m.last.toArray⟩, .bool m.read, .string WV] 34 (0,0)))) (fB:Hid (∀W,Below W0.heap.size W0 W→Calls Tryz.prog 52 #[.pointer (some ⟨q,0,none⟩), .int .i64 0, .string S] W λe w'=>e= .returned (.string VK)∧Below W.heap.size W w')) (res:Bool) (e:res=(m.ord&&(((m.mode:Int) !=3)&&(Op.bytesLess VK.toList WV.toList||(VK.toList==WV.toList)))))
  (u2 u3 u4 u5 u6 u7 u8 u9 gY gS gq iF gG gH u16 gu gw gI gJ gK gL u23 u24 ju u26 jv u28 jw jx jy u32 u33 jz jA jB jC jD jE jF iG iH iI u44 iJ iK iL iM iN iO iP iQ iR iT jG jH jI jJ jK:Value) (h:∀(d20 d21 d22 d23 d24 d25 d26 d27 d28 d29 d30 d31 d32 d33 d34 d35 d36 d37 d38 d39 d40:Value) (W':World),Below W0.heap.size W0 W'→Q .normal (⟨#[.pointer (some ⟨q,0,none⟩), .string S,u2,u3,u4,u5,u6,u7,u8,u9,gY,gS,gq,iF,gG,gH,u16,gu,gw, .bool res,d20,d21,d22,d23,d24,d25,d26,d27,d28,d29,d30,d31,d32,d33,d34,d35,d36,d37,d38,d39,d40,iG,iH,iI,u44,iJ,iK,iL,iM,iN,iO,iP,iQ,iR,iT,jG,jH,jI,jJ,jK],[]⟩:Act) W'):Code.wp Tryz.prog Uq Q (⟨#[.pointer (some ⟨q,0,none⟩), .string S,u2,u3,u4,u5,u6,u7,u8,u9,gY,gS,gq,iF,gG,gH,u16,gu,gw,gI,gJ,gK,gL,u23,u24,ju,u26,jv,u28,jw,jx,jy,u32,u33,jz,jA,jB,jC,jD,jE,jF,iG,iH,iI,u44,iJ,iK,iL,iM,iN,iO,iP,iQ,iR,iT,jG,jH,jI,jJ,jK],[]⟩:Act) W0:=by
 have h4:(m.ord=false∧res=false)∨(m.ord=true∧((m.mode:Int) !=3)=false∧res=false)∨(m.ord=true∧((m.mode:Int) !=3)=true∧Op.bytesLess VK.toList WV.toList=true∧res=true)∨(m.ord=true∧((m.mode:Int) !=3)=true∧Op.bytesLess VK.toList WV.toList=false∧(VK.toList==WV.toList)=true∧res=true)∨(m.ord=true∧((m.mode:Int) !=3)=true∧Op.bytesLess VK.toList WV.toList=false∧(VK.toList==WV.toList)=false∧res=false):=by
  rw[e];cases m.ord<;>cases((m.mode:Int) !=3)<;>cases Op.bytesLess VK.toList WV.toList<;>cases(VK.toList==WV.toList)<;>simp
 clear e;rcases h4 with⟨ho,rfl⟩|⟨ho,hm,rfl⟩|⟨ho,hm,h1,rfl⟩|⟨ho,hm,h1,h2,rfl⟩|⟨ho,hm,h1,h2,rfl⟩
 ·rw[ho]at jZ
  conv=>arg 2;whnf
  have eT:Hid (Below W0.heap.size W0 W0.drew):=ae ((ak _ W0).drew);refine aK (.rd 0 (.rd 1 (.rd 2 (.rd 3 (.rd 4 (.rd 5 (.rd 6 (.rd 7 (.rd 8 (.rd 9 (.rd 10 (.rd 11 (.rd 12 (.rd 13 (.rd 15 (.rd 16 (.rd 17 (.rd 18 (.wr 14 (.rd 19 (.rd 20 (.rd 21 .fin)))))))))))))))))))))) (λw'=>Below W0.heap.size W0 w') (by kernel_rfl) (by kernel_rfl) hQ eT.out ?_
  iterate 5
   refine az (v:= ?_) (by rfl) (by rfl) (λw' hS=> ?_) (λK hK=> ?_);rotate_left
   ·have hc:=aj w' q (jZ.out w' hS);clear hS;go_simp;try with_reducible rfl
   go_simp;refine hK _ ?_;clear hK K
  refine ay (by rfl) (by rfl) (λK hK=> ?_);go_simp;refine hK _ ?_;clear hK K;refine ay (by rfl) (by rfl) (λK hK=> ?_);go_simp;refine hK _ ?_;clear hK K;refine ay (by rfl) (by rfl) (λK hK=> ?_);go_simp;refine hK _ ?_;clear hK K;refine ay (by rfl) (by rfl) (λK hK=> ?_);go_simp;refine hK _ ?_;clear hK K;refine ay (by rfl) (by rfl) (λK hK=> ?_);go_simp;refine hK _ ?_;clear hK K
  iterate 2
   refine az (v:= ?_) (by rfl) (by rfl) (λw' hS=> ?_) (λK hK=> ?_);rotate_left
   ·clear hS;go_simp;try with_reducible rfl
   go_simp;refine hK _ ?_;clear hK K
  refine ay (by rfl) (by rfl) (λK hK=> ?_);go_simp;refine hK _ ?_;clear hK K;refine ay (by rfl) (by rfl) (λK hK=> ?_);go_simp;refine hK _ ?_;clear hK K;refine ay (by rfl) (by rfl) (λK hK=> ?_);go_simp;refine hK _ ?_;clear hK K;refine ay (by rfl) (by rfl) (λK hK=> ?_);go_simp;refine hK _ ?_;clear hK K;refine ay (by rfl) (by rfl) (λK hK=> ?_);go_simp;refine hK _ ?_;clear hK K;refine ay (by rfl) (by rfl) (λK hK=> ?_);go_simp;refine hK _ ?_;clear hK K;refine cH (by rfl) (by rfl) (λK hK=> ?_);go_simp;refine hK.out _ _ (λw'=>Below W0.heap.size W0 w') (λ_ h=>h) eT.out ?_;clear hK K;refine ay (by rfl) (by rfl) (λK hK=> ?_);go_simp;refine hK _ ?_;clear hK K
  iterate 2
   refine az (v:= ?_) (by rfl) (by rfl) (λw' hS=> ?_) (λK hK=> ?_);rotate_left
   ·clear hS;go_simp;try with_reducible rfl
   go_simp;refine hK _ ?_;clear hK K
  show wpList _ _ _ _ _ _;simp only[wpList];exact h _ _ _ _ _ _ _ _ _ _ _ _ _ _ _ _ _ _ _ _ _ _ eT.out
 ·rw[ho]at jZ
  conv=>arg 2;whnf
  have eT:Hid (Below W0.heap.size W0 W0.drew):=ae ((ak _ W0).drew);refine aK (.rd 0 (.rd 1 (.rd 2 (.rd 3 (.rd 4 (.rd 5 (.rd 6 (.rd 7 (.rd 8 (.rd 9 (.rd 10 (.rd 11 (.rd 12 (.rd 13 (.rd 15 (.rd 16 (.rd 17 (.rd 18 (.wr 14 (.rd 19 (.rd 20 (.rd 21 .fin)))))))))))))))))))))) (λw'=>Below W0.heap.size W0 w') (by kernel_rfl) (by kernel_rfl) hQ eT.out ?_
  iterate 12
   refine az (v:= ?_) (by rfl) (by rfl) (λw' hS=> ?_) (λK hK=> ?_);rotate_left
   ·have hc:=aj w' q (jZ.out w' hS);clear hS;go_simp;try with_reducible rfl
   go_simp;refine hK _ ?_;clear hK K
  refine ay (by rfl) (by rfl) (λK hK=> ?_);go_simp;refine hK _ ?_;clear hK K;refine ay (by rfl) (by rfl) (λK hK=> ?_);go_simp;refine hK _ ?_;clear hK K;refine ay (by rfl) (by rfl) (λK hK=> ?_);go_simp;refine hK _ ?_;clear hK K;refine ay (by rfl) (by rfl) (λK hK=> ?_);go_simp;refine hK _ ?_;clear hK K;refine ay (by rfl) (by rfl) (λK hK=> ?_);go_simp;refine hK _ ?_;clear hK K;refine ay (by rfl) (by rfl) (λK hK=> ?_);go_simp;refine hK _ ?_;clear hK K;refine cH (by rfl) (by rfl) (λK hK=> ?_);go_simp;refine hK.out _ _ (λw'=>Below W0.heap.size W0 w') (λ_ h=>h) eT.out ?_;clear hK K;refine ay (by rfl) (by rfl) (λK hK=> ?_);go_simp;refine hK _ ?_;clear hK K
  iterate 2
   refine az (v:= ?_) (by rfl) (by rfl) (λw' hS=> ?_) (λK hK=> ?_);rotate_left
   ·clear hS;go_simp;try with_reducible rfl
   go_simp;refine hK _ ?_;clear hK K
  show wpList _ _ _ _ _ _;simp only[wpList];exact h _ _ _ _ _ _ _ _ _ _ _ _ _ _ _ _ _ _ _ _ _ _ eT.out
 ·rw[ho]at jZ
  conv=>arg 2;whnf
  have eT:Hid (Below W0.heap.size W0 W0.drew):=ae ((ak _ W0).drew);refine aK (.rd 0 (.rd 1 (.rd 2 (.rd 3 (.rd 4 (.rd 5 (.rd 6 (.rd 7 (.rd 8 (.rd 9 (.rd 10 (.rd 11 (.rd 12 (.rd 13 (.rd 15 (.rd 16 (.rd 17 (.rd 18 (.wr 14 (.rd 19 (.rd 20 (.rd 21 .fin)))))))))))))))))))))) (λw'=>Below W0.heap.size W0 w') (by kernel_rfl) (by kernel_rfl) hQ eT.out ?_
  iterate 18
   refine az (v:= ?_) (by rfl) (by rfl) (λw' hS=> ?_) (λK hK=> ?_);rotate_left
   ·have hc:=aj w' q (jZ.out w' hS);clear hS;go_simp;try with_reducible rfl
   go_simp;refine hK _ ?_;clear hK K
  refine wpPm_write (by rfl) (λK hK=> ?_);refine(if_pos (by rfl)).mpr ?_;go_simp;refine(fB.out _ eT.out).mono ?_;rintro e V1 ⟨rfl,hb⟩;have bV:=ae (eT.out.trans (hb.mono eT.out.size));refine hK.out _ _ (λw'=>Below W0.heap.size W0 w') (λ_ h=>h) bV.out ?_;clear hK K hb
  iterate 3
   refine az (v:= ?_) (by rfl) (by rfl) (λw' hS=> ?_) (λK hK=> ?_);rotate_left
   ·clear hS;go_simp;try with_reducible rfl
   go_simp;refine hK _ ?_;clear hK K
  show wpList _ _ _ _ _ _;simp only[wpList];exact h _ _ _ _ _ _ _ _ _ _ _ _ _ _ _ _ _ _ _ _ _ _ bV.out
 ·rw[ho]at jZ
  conv=>arg 2;whnf
  have eT:Hid (Below W0.heap.size W0 W0.drew):=ae ((ak _ W0).drew);refine aK (.rd 0 (.rd 1 (.rd 2 (.rd 3 (.rd 4 (.rd 5 (.rd 6 (.rd 7 (.rd 8 (.rd 9 (.rd 10 (.rd 11 (.rd 12 (.rd 13 (.rd 15 (.rd 16 (.rd 17 (.rd 18 (.wr 14 (.rd 19 (.rd 20 (.rd 21 .fin)))))))))))))))))))))) (λw'=>Below W0.heap.size W0 w') (by kernel_rfl) (by kernel_rfl) hQ eT.out ?_
  iterate 18
   refine az (v:= ?_) (by rfl) (by rfl) (λw' hS=> ?_) (λK hK=> ?_);rotate_left
   ·have hc:=aj w' q (jZ.out w' hS);clear hS;go_simp;try with_reducible rfl
   go_simp;refine hK _ ?_;clear hK K
  refine wpPm_write (by rfl) (λK hK=> ?_);refine(if_pos (by rfl)).mpr ?_;go_simp;refine(fB.out _ eT.out).mono ?_;rintro e V1 ⟨rfl,hb⟩;have bV:=ae (eT.out.trans (hb.mono eT.out.size));refine hK.out _ _ (λw'=>Below W0.heap.size W0 w') (λ_ h=>h) bV.out ?_;clear hK K hb
  iterate 3
   refine az (v:= ?_) (by rfl) (by rfl) (λw' hS=> ?_) (λK hK=> ?_);rotate_left
   ·clear hS;go_simp;try with_reducible rfl
   go_simp;refine hK _ ?_;clear hK K
  show wpList _ _ _ _ _ _;simp only[wpList];exact h _ _ _ _ _ _ _ _ _ _ _ _ _ _ _ _ _ _ _ _ _ _ bV.out
 ·rw[ho]at jZ
  conv=>arg 2;whnf
  have eT:Hid (Below W0.heap.size W0 W0.drew):=ae ((ak _ W0).drew);refine aK (.rd 0 (.rd 1 (.rd 2 (.rd 3 (.rd 4 (.rd 5 (.rd 6 (.rd 7 (.rd 8 (.rd 9 (.rd 10 (.rd 11 (.rd 12 (.rd 13 (.rd 15 (.rd 16 (.rd 17 (.rd 18 (.wr 14 (.rd 19 (.rd 20 (.rd 21 .fin)))))))))))))))))))))) (λw'=>Below W0.heap.size W0 w') (by kernel_rfl) (by kernel_rfl) hQ eT.out ?_
  iterate 18
   refine az (v:= ?_) (by rfl) (by rfl) (λw' hS=> ?_) (λK hK=> ?_);rotate_left
   ·have hc:=aj w' q (jZ.out w' hS);clear hS;go_simp;try with_reducible rfl
   go_simp;refine hK _ ?_;clear hK K
  refine wpPm_write (by rfl) (λK hK=> ?_);refine(if_pos (by rfl)).mpr ?_;go_simp;refine(fB.out _ eT.out).mono ?_;rintro e V1 ⟨rfl,hb⟩;have bV:=ae (eT.out.trans (hb.mono eT.out.size));refine hK.out _ _ (λw'=>Below W0.heap.size W0 w') (λ_ h=>h) bV.out ?_;clear hK K hb
  iterate 3
   refine az (v:= ?_) (by rfl) (by rfl) (λw' hS=> ?_) (λK hK=> ?_);rotate_left
   ·clear hS;go_simp;try with_reducible rfl
   go_simp;refine hK _ ?_;clear hK K
  show wpList _ _ _ _ _ _;simp only[wpList];exact h _ _ _ _ _ _ _ _ _ _ _ _ _ _ _ _ _ _ _ _ _ _ bV.out
section
variable {w w' : World} {q g c ct : Nat} {M : Nat → Prop} {m : X.M} {v : Value} {l : List HP}
def Wi (w:World) (q g c:Nat) (M:Nat→Prop) (m:X.M) (b:J.B) (e:Ending) (w':World):Prop:=e= .returned (.string ⟨(m.write b).2.toArray⟩)∧∃v' l',HR w q g c M (m.write b).1 v' l' w'
theorem Ei (h:ft w q g c M m v l) (b:J.B) (hc:X.bM [52,56] [2,4,3] m.mode≠X.good):
  Calls Tryz.prog 16 #[.pointer (some ⟨q,0,none⟩), .string ⟨b.toArray⟩] w λe w'=>e= .returned (.string ⟨(m.write b).2.toArray⟩)∧∃v' l',HR w q g c M (m.write b).1 v' l' w':=by
 unfold X.M.write;rw[if_pos hc];have HM:=ae (ik h.row [52,56] 2 4 3 [2,4,3] (by simp) hc);have HS:=ae (fe h);obtain⟨rz,wE⟩:=kq (rS [52,56] [2,4,3] m.mode (by decide));clear h hc;generalize(⟨(X.bM [52,56] [2,4,3] m.mode).toArray⟩:ByteArray)=S at HM rz wE⊢;go_enter Tryz.func16,Tryz.ntmps16;go_wp2_with fail;refine HM.out.mono ?_;rintro e w1 ⟨rfl,rfl⟩;go_wp2;go_ret;exact⟨rfl,_,_,HS.out⟩
theorem qT (he:l.map (·.1)=m.rows) {p:J.B} (hn:∀x∈l,X.val m.ks 0 x.1.b≠p):m.find p=none:=by
 unfold X.M.find;rw[←he];exact mU (p:=λr=>decide (X.val m.ks 0 r.b=p)) (λt ht=>decide_eq_false (hn _ (List.getElem_mem ht)))
theorem Qj (he:l.map (·.1)=m.rows) {p:J.B} {j:Nat} (hj:j<l.length) (hp:X.val m.ks 0 l[j].1.b=p):(m.find p).isSome=true:=by
 unfold X.M.find;rw[←he,List.find?_isSome];exact⟨l[j].1,List.mem_map_of_mem (List.getElem_mem hj),decide_eq_true hp⟩
theorem Ir (h:ft w q g c M m v l) (hM:∀k,M k→k<w.heap.size) (hf:cj m l) (OM:m.time≤100000) (b:J.B) (hbl:b.length≤1000000) (hc:X.bM [52,56] [2,4,3] m.mode=X.good):
  Calls Tryz.prog 16 #[.pointer (some ⟨q,0,none⟩), .string ⟨b.toArray⟩] w (Wi w q g c M m b):=by
 have ir:Hid (m.write b=if X.bj m.ks m.size b=false then(m.aG,[52,52])
  else if m.ord=true∧m.mode≠3∧¬m.written<X.val m.ks 0 b then(m.aG,[50,49])
  else if(m.find (X.val m.ks 0 b)).isSome∨m.cW b none=[50,50]then(m.aG,[50,50])
  else({m.aG.put b none with written:=X.val m.ks 0 b},m.cW b none)):=ae (by unfold X.M.write;rw[if_neg (Decidable.not_not.2 hc)])
 have HM:=ae (ei h.row [52,56] 2 4 3 [2,4,3] (by simp) (by decide) hc);have hcc:=aj w q h.row;have hz:=aC h.row;have HH:Hid (HR w q g c M m.aG v l (w.setCell ⟨q,14,none⟩ (.bool false))):=ae ((fe h).set 14 (.bool false) (aB h.row 14 _) rfl rfl);have HF:Hid (cj m.aG l):=ae ⟨hf.fit,hf.ts,hf.ks,hf.len⟩;have yI:=ae hM;have JE:=ae OM;have vZ:=ae hbl;have nB:=ae h.eq;have lj:=ae hf.ks;generalize hS:(⟨b.toArray⟩:ByteArray)=S;have Bq:=ae hS;clear h hM hf OM hbl hc hS;go_enter Tryz.func16,Tryz.ntmps16;go_wp2_with fail;refine HM.out.mono ?_;rintro e w1 ⟨rfl,rfl⟩;clear HM;go_upto_region 5 with fail;refine aM (λY=>HR w q g c M m.aG v l Y) HH.out ?_;rintro W1 h1;have H1:=ae h1;have td:=ae (xc h1.2 lj.out b vZ.out);rw[Bq.out]at td;rw[show X.bj m.aG.ks m.aG.size b=X.bj m.ks m.size b from rfl]at td;clear h1 HH hcc hz;cases Au:X.bj m.ks m.size b with
 |false=>
  rw[Au]at td;have mW:=ae (ir.out.trans (if_pos Au));clear Au;go_wp2_with fail;refine td.out.mono ?_;rintro e W2 ⟨rfl,hb⟩;have H2:=ae (H1.out.below hb);clear hb td;go_wp2;go_ret;unfold Wi;rw[mW.out];exact⟨rfl,_,_,H2.out⟩
 |true=>
  rw[Au]at td;replace ir:=ae (ir.out.trans (if_neg (by rw[Au];decide)));have wj:=ae Au;clear Au;go_wp2_with fail;refine td.out.mono ?_;rintro e W2 ⟨rfl,hb⟩;have H2:=ae (H1.out.below hb);have fB:=ae (λ(W:World) (hb:Below W2.heap.size W2 W)=>hpart_any (H2.out.below hb).2.row (H2.out.below hb).2.ks 0 lj.out.one.1 b ((X.aR.1 wj.out).2 _ (X.aU lj.out.one.1)) vZ.out);have jZ:=ae (λ(W:World) (hb:Below W2.heap.size W2 W)=>(H2.out.below hb).2.row);rw[Bq.out]at fB;clear hb td H1;go_upto_region 7 with fail;refine abM (m:=m.aG) (λc a d v w h=>by cases d<;>exact h) (ae jZ.out) (ae fB.out) _ rfl _ _ _ _ _ _ _ _ _ _ _ _ _ _ _ _ _ _ _ _ _ _ _ _ _ _ _ _ _ _ _ _ _ _ _ _ _ _ _ _ _ _ _ _ _ _ _ _ _ _ _ _ _ _ _ _ _ _ ?_;intro d20 d21 d22 d23 d24 d25 d26 d27 d28 d29 d30 d31 d32 d33 d34 d35 d36 d37 d38 d39 d40 W3 hb3;have cX:=ae hb3;have ZR:Hid (((m.aG).ord&&((((m.aG).mode:Int) !=3)&&(Op.bytesLess (⟨(X.val m.aG.ks 0 b).toArray⟩:ByteArray).toList (⟨(m.aG).written.toArray⟩:ByteArray).toList||((⟨(X.val m.aG.ks 0 b).toArray⟩:ByteArray).toList==(⟨(m.aG).written.toArray⟩:ByteArray).toList))))=decide (m.ord=true∧m.mode≠3∧¬m.written<X.val m.ks 0 b)):=ae (by
   rw[df,rR];show(m.ord&&(((m.mode:Int) !=3)&&(decide (X.val m.ks 0 b<m.written)||decide (X.val m.ks 0 b=m.written))))=_;have e1:((m.mode:Int) !=3)=decide (m.mode≠3):=by
    by_cases h3:m.mode=3
    ·rw[h3];rfl
    ·rw[decide_eq_true h3];simp;omega
   have e2:(decide (X.val m.ks 0 b<m.written)||decide (X.val m.ks 0 b=m.written))=decide (¬m.written<X.val m.ks 0 b):=by
    rw[Bool.eq_iff_iff,Bool.or_eq_true,decide_eq_true_eq,decide_eq_true_eq,decide_eq_true_eq];constructor
    ·rintro(h1|h1)
     ·exact List.lt_asymm h1
     ·rw[h1];exact List.lt_irrefl _
    ·intro h1;rcases List.le_iff_lt_or_eq.1 (List.not_lt.1 h1)with h2|h2
     ·exact .inl h2
     ·exact .inr h2
   rw[e1,e2];cases m.ord<;>simp)
  clear hb3;by_cases dJ:m.ord=true∧m.mode≠3∧¬m.written<X.val m.ks 0 b
  ·have mW:=ae (ir.out.trans (if_pos dJ));have HX:Hid _:=ae (ZR.out.trans (decide_eq_true dJ));have H3:=ae (H2.out.below cX.out);rw[HX.out];clear dJ ZR HX fB jZ;go_wp2;go_ret;unfold Wi;rw[mW.out];exact⟨rfl,_,_,H3.out⟩
  ·replace ir:=ae (ir.out.trans (if_neg dJ));have HX:Hid _:=ae (ZR.out.trans (decide_eq_false dJ));rw[HX.out];have H3:=ae (H2.out.below cX.out);have ZT:=ae (fB.out _ cX.out);have uT:=ae (λ(W:World) (hb:Below W3.heap.size W3 W)=>oH (H3.out.below hb).2 lj.out HF.out.fit HF.out.len (X.val m.ks 0 b));rw[show m.aG.ks=m.ks from rfl]at ZT;generalize zu:(⟨(X.val m.ks 0 b).toArray⟩:ByteArray)=VK at ZT uT;have HVK:=ae zu;clear dJ ZR HX fB jZ zu;go_wp2_with fail;refine ZT.out.mono ?_;rintro e W4 ⟨rfl,hb⟩;have eR:=ae hb;clear hb ZT;go_wp2_with fail;refine(uT.out _ eR.out).mono ?_;rintro e W5 ⟨⟨z,rfl,hz⟩,hb⟩;have H5:=ae ((H3.out.below eR.out).below hb);have HZZ:=ae hz;clear hb uT eR;rcases hz with⟨j,hj,rfl,hp⟩|⟨rfl,hno⟩
   ·have mW:=ae (ir.out.trans (if_pos (.inl (Qj nB.out hj hp))));have hzz:(0:Int)≤(j:Nat):=(by omega);clear hp hj HZZ;go_wp2;go_ret;unfold Wi;rw[mW.out];exact⟨rfl,_,_,H5.out⟩
   ·have AD:=ae hno;have Cy:=ae (uV H5.out.2 (λk hk=>av (yI.out k hk) H5.out.1.size) HF.out b wj.out JE.out l.length (-1) (.inr ⟨rfl,rfl⟩) none (by rw[List.getElem?_eq_none (Nat.le_refl _)];rfl));have SE:=ae (qT nB.out hno);have Ur:Hid (PW m.aG b l l.length none=m.aG.put b none):=ae (Mk nB.out hno);rw[Bq.out]at Cy;clear hno HZZ;go_wp2_with fail;refine Cy.out.mono ?_;rintro e W6 ⟨rfl,hw⟩;rw[show m.aG.cW b none=m.cW b none from rfl]at hw⊢;rcases hw with⟨cq,hb⟩|⟨cq,v',tv,hr⟩
    ·have mW:=ae (ir.out.trans (if_pos (.inr cq)));have H6:=ae (H5.out.below hb);rw[cq];clear hb cq Cy;go_wp2;go_ret;unfold Wi;rw[mW.out];exact⟨rfl,_,_,H6.out⟩
    ·have mW:=ae (ir.out.trans (if_neg (λhh=>hh.elim (λh1=>by rw[SE.out]at h1;cases h1) (λh1=>cq h1))));have H6:=ae (H5.out.trans hr);have hne:(⟨(m.cW b none).toArray⟩:ByteArray).toList≠[50,50]:=(by rw[ByteArray.toList_eq];exact cq);have abO:((⟨(m.cW b none).toArray⟩:ByteArray).toList==[50,50])=false:=(by simpa using hne);have HP6:=ae (λ(W:World) (hb:Below W6.heap.size W6 W)=>hpart_any (H6.out.below hb).2.row (H6.out.below hb).2.ks 0 lj.out.one.1 b ((X.aR.1 wj.out).2 _ (X.aU lj.out.one.1)) vZ.out);rw[Bq.out,show(PW m.aG b l l.length none).ks=m.ks from rfl,HVK.out]at HP6;generalize hCL:(⟨(m.cW b none).toArray⟩:ByteArray)=CL at hne abO⊢;have abQ:=ae hCL;clear cq hr Cy hCL;go_wp2_with fail;refine(HP6.out _ (ak _ _)).mono ?_;rintro e W7 ⟨rfl,hb⟩;have H7:=ae (H6.out.below hb);have hz7:=aC H7.out.2.row;have hc7:=aj W7 q H7.out.2.row;have H8:Hid (HR w q g c M {m.aG.put b none with written:=X.val m.ks 0 b} v' (l.eraseIdx l.length++[(⟨b,m.aG.times b none⟩,tv)]) (W7.setCell ⟨q,15,none⟩ (.string VK))):=by
      have:=H7.out.set (m':={PW m.aG b l l.length none with written:=X.val m.ks 0 b}) 15 (.string VK) (by rw[←HVK.out];exact aB H7.out.2.row 15 _) rfl rfl;rw[Ur.out]at this;exact ae this
     clear hb HP6 hne;go_wp2;go_ret;unfold Wi;rw[mW.out];exact⟨by first|rfl|(rw[abQ.out];rfl),_,_,H8.out⟩
theorem Ej (h:ft w q g c M m v l) (hM:∀k,M k→k<w.heap.size) (hf:cj m l) (OM:m.time≤100000) (b:J.B) (hbl:b.length≤1000000):
  Calls Tryz.prog 16 #[.pointer (some ⟨q,0,none⟩), .string ⟨b.toArray⟩] w λe w'=>e= .returned (.string ⟨(m.write b).2.toArray⟩)∧∃v' l',HR w q g c M (m.write b).1 v' l' w':=by
 by_cases hc:X.bM [52,56] [2,4,3] m.mode=X.good
 ·exact Ir h hM hf OM b hbl hc
 ·exact Ei h b hc
end
section
variable {w w' : World} {q g c ct : Nat} {M : Nat → Prop} {m : X.M} {v : Value} {l : List HP}
abbrev Us (m:X.M) (k:Int) (b:J.B):Ending:= .returned (.tuple #[.string ⟨((m.get k b).2.1.getD []).toArray⟩, .string ⟨(m.get k b).2.2.toArray⟩])
def GtQ (w:World) (q g c:Nat) (M:Nat→Prop) (m:X.M) (v:Value) (l:List HP) (k:Nat) (b:J.B) (e:Ending) (w':World):Prop:=e= .returned (.tuple #[.string ⟨((m.get k b).2.1.getD []).toArray⟩, .string ⟨(m.get k b).2.2.toArray⟩])∧HR w q g c M (m.get k b).1 v l w'
theorem get_some {k:Nat} {b:J.B} (hc:X.bM [52,55] [1,3] m.mode=X.good) (hk:k<m.ks.length) (hb:¬b.length<(X.aF m.ks k).at_+(X.aF m.ks k).len) {r:X.Row} (h:m.mE k (X.val m.ks k b)=some r):m.get (k:Nat) b=(((lz m).keyed k).take r,some r.b,((lz m).keyed k).qd r):=by
 unfold X.M.get;rw[if_neg (Decidable.not_not.2 hc),if_neg (by omega),if_neg (by rw[Int.toNat_natCast];exact hb),Int.toNat_natCast,h];rfl
theorem get_none {k:Nat} {b:J.B} (hc:X.bM [52,55] [1,3] m.mode=X.good) (hk:k<m.ks.length) (hb:¬b.length<(X.aF m.ks k).at_+(X.aF m.ks k).len) (h:m.mE k (X.val m.ks k b)=none):m.get (k:Nat) b=(m.dG,none,[50,51]):=by
 unfold X.M.get;rw[if_neg (Decidable.not_not.2 hc),if_neg (by omega),if_neg (by rw[Int.toNat_natCast];exact hb),Int.toNat_natCast,h]
theorem MB (h:ft w q g c M m v l) (k:Int) (b:J.B) (hc:X.bM [52,55] [1,3] m.mode≠X.good):
  Calls Tryz.prog 69 #[.pointer (some ⟨q,0,none⟩), .int .i64 k, .string ⟨b.toArray⟩] w λe w'=>e=Us m k b∧HR w q g c M (m.get k b).1 v l w':=by
 unfold Us X.M.get;rw[if_pos hc];have HM:=ae (ik h.row [52,55] 1 3 3 [1,3] (by simp) hc);have HS:=ae (fe h);obtain⟨rz,wE⟩:=kq (rS [52,55] [1,3] m.mode (by decide));clear h hc;show Calls _ _ _ _ λe w'=>e= .returned (.tuple #[.string ⟨#[]⟩, .string ⟨(X.bM [52,55] [1,3] m.mode).toArray⟩])∧HR w q g c M m v l w';generalize(⟨(X.bM [52,55] [1,3] m.mode).toArray⟩:ByteArray)=S at HM rz wE⊢;go_enter Tryz.func69,Tryz.ntmps69;go_wp2_with fail;refine HM.out.mono ?_;rintro e w1 ⟨rfl,rfl⟩;go_wp2;go_ret2;exact⟨rfl,HS.out⟩
theorem MC (h:ft w q g c M m v l) (k:Int) (b:J.B) (hc:X.bM [52,55] [1,3] m.mode=X.good) (hk:k<0∨m.ks.length≤k):
  Calls Tryz.prog 69 #[.pointer (some ⟨q,0,none⟩), .int .i64 k, .string ⟨b.toArray⟩] w λe w'=>e=Us m k b∧HR w q g c M (m.get k b).1 v l w':=by
 unfold Us X.M.get;rw[if_neg (Decidable.not_not.2 hc),if_pos hk];have HM:=ae (ei h.row [52,55] 1 3 3 [1,3] (by simp) (by decide) hc);have HL:=ae (ij h.row);have HH:=ae h;show Calls _ _ _ _ λe w'=>e= .returned (.tuple #[.string ⟨#[]⟩, .string ⟨#[50,51]⟩])∧HR w q g c M m.dG v l w';have Qh:k<0∨¬k<0∧¬k<(m.ks.length:Nat):=by omega
 clear h hc hk;go_enter Tryz.func69,Tryz.ntmps69;go_wp2_with fail;refine HM.out.mono ?_;rintro e w1 ⟨rfl,rfl⟩;clear HM;go_wp2_with fail;refine(HL.out).mono ?_;rintro e w2 ⟨⟨vx,rfl⟩,hg,hrow⟩;have H2:Hid (HR w q g c M (lz m) v l w2):=ae ⟨hg,HH.out.turn hg hrow rfl rfl⟩;clear hg hrow HL;have hcc:=aj w2 q H2.out.2.row;rcases Qh with h0|⟨h0,h1⟩
 ·go_wp2;go_ret2;exact⟨rfl,H2.out⟩
 ·go_wp2;go_ret2;exact⟨rfl,H2.out⟩
theorem Ek (h:ft w q g c M m v l) (bY:X.eo m.ks m.size) (k:Nat) (b:J.B) (hc:X.bM [52,55] [1,3] m.mode=X.good) (hk:k<m.ks.length) (hb:b.length<(X.aF m.ks k).at_+(X.aF m.ks k).len):
  Calls Tryz.prog 69 #[.pointer (some ⟨q,0,none⟩), .int .i64 (k:Nat), .string ⟨b.toArray⟩] w λe w'=>e=Us m k b∧HR w q g c M (m.get k b).1 v l w':=by
 unfold Us X.M.get;rw[if_neg (Decidable.not_not.2 hc),if_neg (by omega),if_pos (by rw[Int.toNat_natCast];exact hb)];have HM:=ae (ei h.row [52,55] 1 3 3 [1,3] (by simp) (by decide) hc);have HL:=ae (ij h.row);have HH:=ae h;show Calls _ _ _ _ λe w'=>e= .returned (.tuple #[.string ⟨#[]⟩, .string ⟨#[52,52]⟩])∧HR w q g c M m.dG v l w';have h0:¬(k:Int)<0:=by omega
 have h1:(k:Int)<(m.ks.length:Nat):=by omega
 have fc:=ae hk;have nT:=bY.key _ (X.aU hk);have hsz:=bY.size;have hbi:(b.length:Int)<(((X.aF m.ks k).at_+(X.aF m.ks k).len:Nat):Int):=by omega
 have DC:(⟨b.toArray⟩:ByteArray).size=b.length:=bh b;have hw:=TT (X.aF m.ks k).at_ (X.aF m.ks k).len (by omega);have hw2:=LM (X.aF m.ks k).at_ (X.aF m.ks k).len (by omega);generalize(⟨b.toArray⟩:ByteArray)=S at DC⊢;clear h hc hk nT hsz bY;go_enter Tryz.func69,Tryz.ntmps69;go_wp2_with fail;refine HM.out.mono ?_;rintro e w1 ⟨rfl,rfl⟩;clear HM;go_wp2_with fail;refine(HL.out).mono ?_;rintro e w2 ⟨⟨vx,rfl⟩,hg,hrow⟩;have H2:Hid (HR w q g c M (lz m) v l w2):=ae ⟨hg,HH.out.turn hg hrow rfl rfl⟩;clear hg hrow HL;have hcc:=aj w2 q H2.out.2.row;have iE:dB w2 g m.ks:=H2.out.2.ks;have k1:=iE.at_ fc.out;have k2:=iE.len fc.out;have k3:=iE.dup fc.out;have HZ:=ae (heap_alloc_new w2 dN);go_wp2_with (refine wpList_store_row rfl _ _ 66 rfl w2.heap.size rfl _ rfl _ _ HZ.out rfl (by kernel_rfl) rfl ?_);intro W3 hrow hg hsz;have hb3:=((ak w2.heap.size w2).alloc (aq _) dN).grown hg (by simp) (λk e=>by injection e with e;omega);have H3:=ae (H2.out.below hb3);have ea:=aj W3 w2.heap.size hrow;clear hrow hg hsz HZ k1 k2 k3 hcc hb3 iE;go_wp2;go_ret2;exact⟨rfl,H3.out⟩
theorem Qk (h:ft w q g c M m v l) (hM:∀k,M k→k<w.heap.size) (hf:cj m l) (hr:X.aQ m.ks m.size ct m.rows) (k:Nat) (b:J.B) (hbl:b.length≤1000000) (hc:X.bM [52,55] [1,3] m.mode=X.good) (hk:k<m.ks.length) (hb:¬b.length<(X.aF m.ks k).at_+(X.aF m.ks k).len):
  Calls Tryz.prog 69 #[.pointer (some ⟨q,0,none⟩), .int .i64 (k:Nat), .string ⟨b.toArray⟩] w (GtQ w q g c M m v l k b):=by
 have sM:=ae (λr=>get_some (r:=r) hc hk hb);have HGN:=ae (get_none hc hk hb);have HM:=ae (ei h.row [52,55] 1 3 3 [1,3] (by simp) (by decide) hc);have HL:=ae (ij h.row);have HH:=ae h;have h0:¬(k:Int)<0:=by omega
 have h1:(k:Int)<(m.ks.length:Nat):=by omega
 have fc:=ae hk;have nT:=hf.ks.key _ (X.aU hk);have hsz:=hf.ks.size;have hbi:¬(b.length:Int)<(((X.aF m.ks k).at_+(X.aF m.ks k).len:Nat):Int):=by omega
 have DC:(⟨b.toArray⟩:ByteArray).size=b.length:=bh b;have hw:=TT (X.aF m.ks k).at_ (X.aF m.ks k).len (by omega);have hw2:=LM (X.aF m.ks k).at_ (X.aF m.ks k).len (by omega);have Ml:=ae (λ(W:World) (hm:ft W q g c M (lz m) v l)=>hpart_any hm.row hm.ks k hk b (by show(X.aF m.ks k).at_+(X.aF m.ks k).len≤_;omega) hbl);have HF:Hid (cj (lz m) l):=ae ⟨hf.fit,hf.ts,hf.ks,hf.len⟩;have yI:=ae hM;have vJ:Hid (m.mE k (X.val m.ks k b)=((dg m.ks k l).map (·.1)).find? λr=>decide (X.val m.ks k r.b=X.val m.ks k b)):=ae (by unfold X.M.mE;rw[h.bQ k]);have HR_:=ae hr;have nB:=ae (λx:HP=>df (X.val m.ks k x.1.b) (X.val m.ks k b));generalize(⟨b.toArray⟩:ByteArray)=S at DC Ml⊢;clear h hc hk nT hsz hf hr hM hbl;go_enter Tryz.func69,Tryz.ntmps69;go_wp2_with fail;refine HM.out.mono ?_;rintro e w1 ⟨rfl,rfl⟩;clear HM;go_wp2_with fail;refine(HL.out).mono ?_;rintro e w2 ⟨⟨vx,rfl⟩,hg,hrow⟩;have H2:Hid (HR w q g c M (lz m) v l w2):=ae ⟨hg,HH.out.turn hg hrow rfl rfl⟩;clear hg hrow HL;have hcc:=aj w2 q H2.out.2.row;have iE:dB w2 g m.ks:=H2.out.2.ks;have k1:=iE.at_ fc.out;have k2:=iE.len fc.out;have k3:=iE.dup fc.out;have HZ:=ae (heap_alloc_new w2 dN);go_wp2_with (refine wpList_store_row rfl _ _ 66 rfl w2.heap.size rfl _ rfl _ _ HZ.out rfl (by kernel_rfl) rfl ?_);intro W3 hrow hg hsz;have hb3:=((ak w2.heap.size w2).alloc (aq _) dN).grown hg (by simp) (λk e=>by injection e with e;omega);have H3:=ae (H2.out.below hb3);have ea:=aj W3 w2.heap.size hrow;have sN:=ae (gA H3.out.2 (λj hj=>av (yI.out j hj) H3.out.1.size) HF.out k fc.out);clear hrow hg hsz HZ k1 k2 k3 hcc hb3 iE;go_wp2_with fail;refine sN.out.mono ?_;rintro e w4 ⟨vs,rfl,hb4,MD⟩;have eR:=ae hb4;have Bz:=ae MD;have H4:=ae (H3.out.below hb4);have xm:=ae (HF.out.bQ k);have sX:Hid (∀(W:World),ft W q g c M ((lz m).keyed k) v l→∀i (hi:i<(dg m.ks k l).length),tkS ((lz m).keyed k) (dg m.ks k l) i (dg m.ks k l)[i].1.b=((lz m).keyed k).qd (dg m.ks k l)[i].1):=ae (λW hm i hi=>Mg (m:=(lz m).keyed k) hm (show X.aQ m.ks m.size ct m.rows from HR_.out) (show k<m.ks.length from fc.out) hi);have zr:(dg m.ks k l).length≤1000000:=by rw[lW];exact HF.out.len
 have Ut:Hid (cj ((lz m).keyed k) (dg m.ks k l)):=ae ⟨xm.out.fit,xm.out.ts,xm.out.ks,xm.out.len⟩;have Ql:Hid (mP w4 M vs (dg m.ks k l)):=Bz;clear Bz xm;generalize dg m.ks k l=ls at Ut vJ sX Ql zr;clear hb4 MD ea sN hb;obtain⟨A,cs,rfl,hlc,hat,_,_⟩:=Ql.out.cP;clear hat hlc;go_wp2_with fail;go_loopw [11] (fun u W=>∃i:Nat,i≤ls.length∧u= .int .i64 i∧Hid (∀t (ht:t<ls.length),t<i→decide (X.val m.ks k ls[t].1.b=X.val m.ks k b)=false)∧Hid (Below w4.heap.size w4 W)) (fun u _=>ls.length - (intOf u).toNat)
 case atStart=>exact⟨0,Nat.zero_le _,rfl,ae (λt _ h=>absurd h (Nat.not_lt_zero t)),ae (ak _ _)⟩
 case round=>
  obtain⟨i,hi,rfl,AD,fF⟩:=hrel;by_cases hlt:i<ls.length
  ·obtain⟨g0,c0,e0,hx1,hx2⟩:=Ql.out.cells hlt;clear hx1 hx2;injection e0 with e0 e1 e2;subst e0 e2;have PB:(i:Int)<(ls.length:Nat):=(by omega);have SF:=ae (λ(W:World) (hb:Below wr.heap.size wr W)=>H4.out.below (fF.out.trans (hb.mono fF.out.size)));have ME:=ae (λ(W:World) (hb:Below wr.heap.size wr W)=>Ql.out.below (fF.out.trans (hb.mono fF.out.size)));have ej:wr.cell? ⟨g0,i*2,none⟩=some (.string ⟨ls[i].1.b.toArray⟩):=((ME.out wr (ak _ _)).cellAt hlt).1;have kz:Hid (Calls Tryz.prog 52 #[.pointer (some ⟨q,0,none⟩), .int .i64 (k:Nat), .string ⟨ls[i].1.b.toArray⟩] wr λe w'=>e= .returned (.string ⟨(X.val m.ks k ls[i].1.b).toArray⟩)∧Below wr.heap.size wr w'):=ae (kh.part (m:=(lz m).keyed k) ⟨World.grownBy.refl wr (some q),(SF.out wr (ak _ _)).2,ME.out wr (ak _ _)⟩ rfl Ut.out fc.out (List.getElem_mem hlt));have gD:=ae (nB.out ls[i]);have aW:=ae hlt;have nh:=ae (show i≤1000000 by omega);have tC:=ae (λ(W:World) (hm:ft W q g c M ((lz m).keyed k) v l) (hw:mP W M (.slice (some ⟨g0,0,none⟩) ls.length cs) ls)=>xe hm hw Ut.out i hlt fc.out);generalize zu:(⟨(X.val m.ks k ls[i].1.b).toArray⟩:ByteArray)=VK at kz gD;generalize Wa:(⟨(X.val m.ks k b).toArray⟩:ByteArray)=VV at gD Ml;generalize(⟨ls[i].1.b.toArray⟩:ByteArray)=SI at ej kz;clear zu Wa zr;go_wp2_with fail;refine kz.out.mono ?_;rintro e w5 ⟨rfl,hb⟩;have ed:=ae hb;have fB:=ae (Ml.out _ (SF.out w5 hb).2);clear hb kz ej;go_wp2_with fail;refine fB.out.mono ?_;rintro e w6 ⟨rfl,hb⟩;have jt:=ae (ed.out.trans (hb.mono ed.out.size));clear hb ed fB;by_cases he:X.val m.ks k ls[i].1.b=X.val m.ks k b
   ·have hq:(VK.toList==VV.toList)=true:=(by rw[gD.out];exact decide_eq_true he);have HE:=ae he;clear he gD;have hz:=aC (SF.out _ jt.out).2.row;have hcc:=aj w6 q (SF.out _ jt.out).2.row;have H7:Hid (HR w q g c M ((lz m).keyed k) v l (w6.setCell ⟨q,8,none⟩ (.int .i64 (k:Nat)))):=ae ((SF.out _ jt.out).set (m':=(lz m).keyed k) 8 (.int .i64 (k:Nat)) (aB (SF.out _ jt.out).2.row 8 _) rfl rfl);have HW7:Hid (mP (w6.setCell ⟨q,8,none⟩ (.int .i64 (k:Nat))) M (.slice (some ⟨g0,0,none⟩) ls.length cs) ls):=ae ((ME.out _ jt.out).keep (aA (World.grownBy.refl w6 (some q)) 8 (.int .i64 (k:Nat))).size (λj hj hn=>(aA (World.grownBy.refl w6 (some q)) 8 (.int .i64 (k:Nat))).block j hj (λe=>hn (by injection e with e;rw[e];exact HH.out.nq))) (λ_ _ h=>h));go_wp2_with fail;refine(tC.out _ H7.out.2 HW7.out).mono ?_;rintro e w8 ⟨rfl,hg,pJ⟩;have HG:=ae hg;have HMD:=ae pJ;clear hg pJ hz hcc;go_wp2;go_ret2;have hav:m.mE k (X.val m.ks k b)=some ls[i].1:=(by rw[vJ.out];exact ki (p:=λr=>decide (X.val m.ks k r.b=X.val m.ks k b)) aW.out AD.out (decide_eq_true HE.out));unfold GtQ;rw[sM.out _ hav];refine⟨?_,H7.out.trans ⟨HG.out,HMD.out⟩⟩;show _=Ending.returned (.tuple #[.string ⟨(ls[i].1.b).toArray⟩, .string ⟨(((lz m).keyed k).qd ls[i].1).toArray⟩]);exact congrArg (λs:J.B=>Ending.returned (Value.tuple #[.string ⟨(ls[i].1.b).toArray⟩, .string ⟨s.toArray⟩])) (sX.out _ H7.out.2 i aW.out)
   ·have hq:(VK.toList==VV.toList)=false:=(by rw[gD.out];exact decide_eq_false he);have HE:=ae he;clear he gD tC;go_wp2;go_roundw
    case rel=>exact⟨i+1,aW.out,by first|exact fo i nh.out|rfl,ae (λt ht hti=>by
     by_cases e:t=i
     ·subst e;exact decide_eq_false HE.out
     ·exact AD.out t ht (by omega)),ae (fF.out.trans (jt.out.mono fF.out.size))⟩
    case measure=>first|exact dT aW.out nh.out|exact dr aW.out
  ·obtain rfl:i=ls.length:=(by omega);go_wp2;go_ret2;have hav:m.mE k (X.val m.ks k b)=none:=(by rw[vJ.out];exact mU (p:=λr=>decide (X.val m.ks k r.b=X.val m.ks k b)) (λt ht=>AD.out t ht ht));unfold GtQ;rw[HGN.out hav];exact⟨rfl,H4.out.below fF.out⟩
theorem MF (h:ft w q g c M m v l) (hM:∀k,M k→k<w.heap.size) (hf:cj m l) (hr:X.aQ m.ks m.size ct m.rows) (k:Int) (b:J.B) (hbl:b.length≤1000000):
  Calls Tryz.prog 69 #[.pointer (some ⟨q,0,none⟩), .int .i64 k, .string ⟨b.toArray⟩] w λe w'=>e=Us m k b∧HR w q g c M (m.get k b).1 v l w':=by
 by_cases hc:X.bM [52,55] [1,3] m.mode=X.good
 ·by_cases hk:k<0∨m.ks.length≤k
  ·exact MC h k b hc hk
  ·obtain⟨n,rfl⟩:∃n:Nat,k=n:=⟨k.toNat,by omega⟩;by_cases hb:b.length<(X.aF m.ks n).at_+(X.aF m.ks n).len
   ·exact Ek h hf.ks n b hc (by omega) hb
   ·exact Qk h hM hf hr n b hbl hc (by omega) hb
 ·exact MB h k b hc
end
noncomputable def tM:Code:=(Tryz.f70.body.bind (kg 12)).getD .skip
theorem Ya {W0:World} {q g c:Nat} {m:X.M} {v:Value} {S VK LA:ByteArray} {o:Bool} {Q:Exit→Act→World→Prop} (hQ:∀c a d v w,Q (.panic c) (Act.put a d v) w→Q (.panic c) a w) (jZ:Hid (∀w',Below W0.heap.size W0 w'→w'.heap[q]? =some (.cells #[.string ⟨#[102]⟩, .int .i64 (m.size:Nat), .slice (some ⟨g,0,none⟩) m.ks.length c, .bool m.there,v, .int .i64 (m.time:Nat), .int .u8 (m.mode:Nat), .bool o, .int .i64 (m.key:Nat), .bool m.lost, .string ⟨m.value.toArray⟩, .int .i64 (m.at_:Nat), .bool m.same, .string LA, .bool m.read, .string ⟨m.written.toArray⟩] 34 (0,0)))) (ho:o=false) (u3 u4 u5 u6 u7 u8 u9 gY gS gq iF gG gH u16 gu gw gI gJ gK gL u23 u24 ju u26 jv u28 jw jx jy u32 u33 jz jA jB jC jD jE jF iG iH iI u44 iJ iK iL iM iN iO iP iQ iR iT jG jH jI jJ jK kA kB kC kD u64 kE kF kG kH kI kJ kK lX nC nD nE nG ll ln lq lr lu lx ly lA lB lC lD lF lG lH kL tE tF tG tH tI tJ tK vY kP kQ kR kS kT kU kV kW kX kY kZ lZ jS jT iV iW iX iY iZ ja jb jc jd je jf jg jh ji jk jl:Value) (h:∀(d74 d75 d76 d77 d78 d79 d80 d81 d82 d83 d84 d85 d86 d87 d88 d89 d90 d91:Value) (W':World),Below W0.heap.size W0 W'→Q .normal (⟨#[.pointer (some ⟨q,0,none⟩), .string S, .bool false,u3,u4,u5,u6,u7,u8,u9,gY,gS,gq,iF,gG,gH,u16,gu,gw,gI,gJ,gK,gL,u23,u24,ju,u26,jv,u28,jw,jx,jy,u32,u33,jz,jA,jB,jC,jD,jE,jF,iG,iH,iI,u44,iJ,iK,iL,iM,iN,iO,iP,iQ,iR,iT,jG,jH,jI,jJ,jK,kA,kB,kC,kD,u64,kE,kF,kG,kH,kI,kJ,kK,lX, .bool false,d74,d75,d76,d77,d78,d79,d80,d81,d82,d83,d84,d85,d86,d87,d88,d89,d90,d91,tE,tF,tG,tH,tI,tJ,tK,vY,kP,kQ,kR,kS,kT,kU,kV,kW,kX,kY,kZ,lZ,jS,jT,iV,iW,iX,iY,iZ,ja,jb,jc,jd,je,jf,jg,jh,ji,jk,jl],[]⟩:Act) W'):Code.wp Tryz.prog tM Q (⟨#[.pointer (some ⟨q,0,none⟩), .string S, .bool false,u3,u4,u5,u6,u7,u8,u9,gY,gS,gq,iF,gG,gH,u16,gu,gw,gI,gJ,gK,gL,u23,u24,ju,u26,jv,u28,jw,jx,jy,u32,u33,jz,jA,jB,jC,jD,jE,jF,iG,iH,iI,u44,iJ,iK,iL,iM,iN,iO,iP,iQ,iR,iT,jG,jH,jI,jJ,jK,kA,kB,kC,kD,u64,kE,kF,kG,kH,kI,kJ,kK,lX,nC,nD,nE,nG,ll,ln,lq,lr,lu,lx,ly,lA,lB,lC,lD,lF,lG,lH,kL,tE,tF,tG,tH,tI,tJ,tK,vY,kP,kQ,kR,kS,kT,kU,kV,kW,kX,kY,kZ,lZ,jS,jT,iV,iW,iX,iY,iZ,ja,jb,jc,jd,je,jf,jg,jh,ji,jk,jl],[]⟩:Act) W0:=by
 subst ho;have HX:=ae h;have cn:Hid (Below W0.heap.size W0 W0.drew):=ae ((ak _ W0).drew);clear h
 conv=>arg 2;whnf
 refine aD 16 (.rd 0 (.rd 1 (.rd 2 (.rd 3 (.rd 4 (.rd 5 (.rd 6 (.rd 7 (.rd 8 (.rd 9 (.rd 10 (.rd 12 (.rd 13 (.rd 14 (.rd 15 (.wr 11 .fin)))))))))))))))) (λw'=>Below W0.heap.size W0 w') (by kernel_rfl) (by kernel_rfl) hQ cn.out ?_;repeat
  first
  |refine az (v:= ?_) (by rfl) (by rfl) (λw' hS=> ?_) (λK hK=> ?_)
   rotate_left
   ·have hc:=aj w' q (jZ.out w' hS);clear hS;go_simp;try with_reducible rfl
   go_simp;refine hK _ ?_;clear hK K
  |refine ay (by rfl) (by rfl) (λK hK=> ?_)
   go_simp;refine hK _ ?_;clear hK K
 refine cH (by rfl) (by rfl) (λK hK=> ?_);go_simp;refine hK.out _ _ (λw'=>Below W0.heap.size W0 w') (λ_ h=>h) cn.out ?_;clear hK K;show wpList _ _ _ _ _ _;go_wp2;exact HX.out _ _ _ _ _ _ _ _ _ _ _ _ _ _ _ _ _ _ _ cn.out
theorem SG {W0:World} {q g c:Nat} {m:X.M} {v:Value} {S VK LA:ByteArray} {o:Bool} {Q:Exit→Act→World→Prop} (hQ:∀c a d v w,Q (.panic c) (Act.put a d v) w→Q (.panic c) a w) (jZ:Hid (∀w',Below W0.heap.size W0 w'→w'.heap[q]? =some (.cells #[.string ⟨#[102]⟩, .int .i64 (m.size:Nat), .slice (some ⟨g,0,none⟩) m.ks.length c, .bool m.there,v, .int .i64 (m.time:Nat), .int .u8 (m.mode:Nat), .bool o, .int .i64 (m.key:Nat), .bool m.lost, .string ⟨m.value.toArray⟩, .int .i64 (m.at_:Nat), .bool m.same, .string LA, .bool m.read, .string ⟨m.written.toArray⟩] 34 (0,0)))) (ho:o=true) (fB:Hid (∀W,Below W0.heap.size W0 W→Calls Tryz.prog 52 #[.pointer (some ⟨q,0,none⟩), .int .i64 0, .string S] W λe w'=>e= .returned (.string VK)∧Below W.heap.size W w')) (r:Bool) (hr:(VK.toList==LA.toList)= !r) (u3 u4 u5 u6 u7 u8 u9 gY gS gq iF gG gH u16 gu gw gI gJ gK gL u23 u24 ju u26 jv u28 jw jx jy u32 u33 jz jA jB jC jD jE jF iG iH iI u44 iJ iK iL iM iN iO iP iQ iR iT jG jH jI jJ jK kA kB kC kD u64 kE kF kG kH kI kJ kK lX nC nD nE nG ll ln lq lr lu lx ly lA lB lC lD lF lG lH kL tE tF tG tH tI tJ tK vY kP kQ kR kS kT kU kV kW kX kY kZ lZ jS jT iV iW iX iY iZ ja jb jc jd je jf jg jh ji jk jl:Value) (h:∀(d74 d75 d76 d77 d78 d79 d80 d81 d82 d83 d84 d85 d86 d87 d88 d89 d90 d91:Value) (W':World),Below W0.heap.size W0 W'→Q .normal (⟨#[.pointer (some ⟨q,0,none⟩), .string S, .bool false,u3,u4,u5,u6,u7,u8,u9,gY,gS,gq,iF,gG,gH,u16,gu,gw,gI,gJ,gK,gL,u23,u24,ju,u26,jv,u28,jw,jx,jy,u32,u33,jz,jA,jB,jC,jD,jE,jF,iG,iH,iI,u44,iJ,iK,iL,iM,iN,iO,iP,iQ,iR,iT,jG,jH,jI,jJ,jK,kA,kB,kC,kD,u64,kE,kF,kG,kH,kI,kJ,kK,lX, .bool r,d74,d75,d76,d77,d78,d79,d80,d81,d82,d83,d84,d85,d86,d87,d88,d89,d90,d91,tE,tF,tG,tH,tI,tJ,tK,vY,kP,kQ,kR,kS,kT,kU,kV,kW,kX,kY,kZ,lZ,jS,jT,iV,iW,iX,iY,iZ,ja,jb,jc,jd,je,jf,jg,jh,ji,jk,jl],[]⟩:Act) W'):Code.wp Tryz.prog tM Q (⟨#[.pointer (some ⟨q,0,none⟩), .string S, .bool false,u3,u4,u5,u6,u7,u8,u9,gY,gS,gq,iF,gG,gH,u16,gu,gw,gI,gJ,gK,gL,u23,u24,ju,u26,jv,u28,jw,jx,jy,u32,u33,jz,jA,jB,jC,jD,jE,jF,iG,iH,iI,u44,iJ,iK,iL,iM,iN,iO,iP,iQ,iR,iT,jG,jH,jI,jJ,jK,kA,kB,kC,kD,u64,kE,kF,kG,kH,kI,kJ,kK,lX,nC,nD,nE,nG,ll,ln,lq,lr,lu,lx,ly,lA,lB,lC,lD,lF,lG,lH,kL,tE,tF,tG,tH,tI,tJ,tK,vY,kP,kQ,kR,kS,kT,kU,kV,kW,kX,kY,kZ,lZ,jS,jT,iV,iW,iX,iY,iZ,ja,jb,jc,jd,je,jf,jg,jh,ji,jk,jl],[]⟩:Act) W0:=by
 subst ho;have HX:=ae h;have cn:Hid (Below W0.heap.size W0 W0.drew):=ae ((ak _ W0).drew);clear h
 conv=>arg 2;whnf
 refine aD 16 (.rd 0 (.rd 1 (.rd 2 (.rd 3 (.rd 4 (.rd 5 (.rd 6 (.rd 7 (.rd 8 (.rd 9 (.rd 10 (.rd 12 (.rd 13 (.rd 14 (.rd 15 (.wr 11 .fin)))))))))))))))) (λw'=>Below W0.heap.size W0 w') (by kernel_rfl) (by kernel_rfl) hQ cn.out ?_;repeat
  first
  |refine az (v:= ?_) (by rfl) (by rfl) (λw' hS=> ?_) (λK hK=> ?_)
   rotate_left
   ·have hc:=aj w' q (jZ.out w' hS);clear hS;go_simp;try with_reducible rfl
   go_simp;refine hK _ ?_;clear hK K
  |refine ay (by rfl) (by rfl) (λK hK=> ?_)
   go_simp;refine hK _ ?_;clear hK K
 refine wpPm_write (by rfl) (λK hK=> ?_);go_simp;refine(fB.out _ cn.out).mono ?_;rintro e W1 ⟨rfl,hb⟩;have bV:Hid (Below W0.heap.size W0 W1):=ae (cn.out.trans (hb.mono cn.out.size));refine hK.out _ _ (λw'=>Below W0.heap.size W0 w') (λ_ h=>h) bV.out ?_;clear hK K hb;show wpList _ _ _ _ _ _;go_wp2;cases r<;>exact HX.out _ _ _ _ _ _ _ _ _ _ _ _ _ _ _ _ _ _ _ bV.out
section
variable {w w' : World} {q g c ct : Nat} {M : Nat → Prop} {m : X.M} {v : Value} {l : List HP}
def FN (w:World) (q g c:Nat) (M:Nat→Prop) (m:X.M) (b:J.B) (e:Ending) (w':World):Prop:=e= .returned (.string ⟨(m.rewrite b).2.toArray⟩)∧∃v' l',HR w q g c M (m.rewrite b).1 v' l' w'
theorem Qm (h:ft w q g c M m v l) (b:J.B) (hc:X.bM [52,57] [3] m.mode≠X.good):
  Calls Tryz.prog 70 #[.pointer (some ⟨q,0,none⟩), .string ⟨b.toArray⟩, .bool false] w (FN w q g c M m b):=by
 unfold FN X.M.rewrite;rw[if_pos hc];have HM:=ae (ik h.row [52,57] 3 3 3 [3] (by simp) hc);have HS:=ae (fe h);obtain⟨rz,wE⟩:=kq (rS [52,57] [3] m.mode (by decide));clear h hc;generalize(⟨(X.bM [52,57] [3] m.mode).toArray⟩:ByteArray)=S at HM rz wE⊢;go_enter Tryz.func70,Tryz.ntmps70;go_wp2_with fail;refine HM.out.mono ?_;rintro e w1 ⟨rfl,rfl⟩;go_wp2;go_ret;exact⟨rfl,_,_,HS.out⟩
theorem mX (he:l.map (·.1)=m.rows) {p:J.B} {j:Nat} (hj:j<l.length) (hp:X.val m.ks 0 (l[j]'hj).1.b=p) (vH:m.rows.Pairwise λx y=>X.val m.ks 0 x.b≠X.val m.ks 0 y.b):m.find p=some (l[j]'hj).1:=by
 unfold X.M.find;rw[←he]at vH⊢;refine ki (p:=λr=>decide (X.val m.ks 0 r.b=p)) hj (λt ht LI=>decide_eq_false (λe=> ?_)) (decide_eq_true hp);have:=List.pairwise_iff_getElem.1 vH t j (by rw[List.length_map];exact ht) (by rw[List.length_map];exact hj) LI;rw[List.getElem_map,List.getElem_map]at this;exact this (e.trans hp.symm)
theorem Yb (hc:X.bM [52,57] [3] m.mode=X.good) (b:J.B):m.rewrite b=if X.bj m.ks m.size b=false then(m.aG,[52,52])
 else if m.ord=true∧m.read=false then(m.aG,[52,51])
 else if m.ord=true∧X.val m.ks 0 b≠m.last then(m.aG,[50,49])
 else match m.find (X.val m.ks 0 b)with
 |none=>(m.aG,[50,51])
 |some o=>if m.cW b (some o)=[50,50]then(m.aG,[50,50])else(m.aG.put b (some o),m.cW b (some o)):=by
 unfold X.M.rewrite;rw[if_neg (Decidable.not_not.2 hc)];cases m.find (X.val m.ks 0 b)<;>rfl
theorem Uu (h:ft w q g c M m v l) (hM:∀k,M k→k<w.heap.size) (hf:cj m l) (hro:X.aQ m.ks m.size ct m.rows) (OM:m.time≤100000) (b:J.B) (hbl:b.length≤1000000) (hc:X.bM [52,57] [3] m.mode=X.good):
  Calls Tryz.prog 70 #[.pointer (some ⟨q,0,none⟩), .string ⟨b.toArray⟩, .bool false] w (FN w q g c M m b):=by
 have ir:=ae (Yb hc b);have HM:=ae (ei h.row [52,57] 3 3 3 [3] (by simp) (by decide) hc);have hcc:=aj w q h.row;have hz:=aC h.row;have HH:Hid (HR w q g c M m.aG v l (w.setCell ⟨q,14,none⟩ (.bool false))):=ae ((fe h).set 14 (.bool false) (aB h.row 14 _) rfl rfl);have HF:Hid (cj m.aG l):=ae ⟨hf.fit,hf.ts,hf.ks,hf.len⟩;have yI:=ae hM;have JE:=ae OM;have vZ:=ae hbl;have nB:=ae h.eq;have lj:=ae hf.ks;have xQ:=ae hro;have ej:(0:Int)<(m.aG.ks.length:Nat):=by have:=hf.ks.one.1;show(0:Int)<(m.ks.length:Nat);omega
 generalize hS:(⟨b.toArray⟩:ByteArray)=S;have Bq:=ae hS;clear h hM hf hro OM hbl hc hS;go_enter Tryz.func70,Tryz.ntmps70;go_wp2_with fail;refine HM.out.mono ?_;rintro e w1 ⟨rfl,rfl⟩;clear HM;go_upto_region 6 with fail;refine aM (λY=>HR w q g c M m.aG v l Y) HH.out ?_;rintro W1 h1;have hc1:=aj W1 q h1.2.row;have k1:W1.cell? ⟨g,0,none⟩=_:=h1.2.ks.at_ (i:=0) lj.out.one.1;have k2:W1.cell? ⟨g,1,none⟩=_:=h1.2.ks.len (i:=0) lj.out.one.1;have k3:W1.cell? ⟨g,2,none⟩=_:=h1.2.ks.dup (i:=0) lj.out.one.1;have HZ:=ae (heap_alloc_new W1 dN);have cn:=ae ((ak _ W1).alloc (aq _) dN);have H1:=ae h1;clear h1 HH hcc hz;go_wp2_with (refine wpList_store_row rfl _ _ 66 rfl W1.heap.size rfl _ rfl _ _ HZ.out rfl (by kernel_rfl) rfl ?_);intro W2 hrow hg hsz;have H2:=ae (H1.out.below (cn.out.grown hg cn.out.size (λk e=>by injection e with e;omega)));have hc2:=aj W2 q H2.out.2.row;have td:=ae (xc H2.out.2 lj.out b vZ.out);rw[Bq.out]at td;rw[show X.bj m.aG.ks m.aG.size b=X.bj m.ks m.size b from rfl]at td;clear hrow hg hsz HZ cn k1 k2 k3 hc1 H1;cases Au:X.bj m.ks m.size b with
 |false=>
  rw[Au]at td;have mW:=ae (ir.out.trans (if_pos Au));clear Au;go_wp2_with fail;refine td.out.mono ?_;rintro e W3 ⟨rfl,hb⟩;have H3:=ae (H2.out.below hb);clear hb td;go_wp2;go_ret;unfold FN;rw[mW.out];exact⟨rfl,_,_,H3.out⟩
 |true=>
  rw[Au]at td;replace ir:=ae (ir.out.trans (if_neg (by rw[Au];decide)));have wj:=ae Au;clear Au;go_wp2_with fail;refine td.out.mono ?_;rintro e W3 ⟨rfl,hb⟩;have H3:=ae (H2.out.below hb);have hc3:=aj W3 q H3.out.2.row;clear hb td H2 hc2;by_cases dJ:m.ord=true∧m.read=false
  ·have mW:=ae (ir.out.trans (if_pos dJ));have DO:m.aG.ord=true:=dJ.1;have Kw:m.read=false:=dJ.2;clear dJ;go_wp2;go_ret;unfold FN;rw[mW.out];exact⟨rfl,_,_,H3.out⟩
  ·replace ir:=ae (ir.out.trans (if_neg dJ));have fB:=ae (λ(W:World) (hb:Below W3.heap.size W3 W)=>hpart_any (H3.out.below hb).2.row (H3.out.below hb).2.ks 0 lj.out.one.1 b ((X.aR.1 wj.out).2 _ (X.aU lj.out.one.1)) vZ.out);have jZ:=ae (λ(W:World) (hb:Below W3.heap.size W3 W)=>(H3.out.below hb).2.row);have uT:=ae (λ(W:World) (hb:Below W3.heap.size W3 W)=>oH (H3.out.below hb).2 lj.out HF.out.fit HF.out.len (X.val m.ks 0 b));rw[Bq.out]at fB;rw[show m.aG.ks=m.ks from rfl]at fB;have Uv:=df (X.val m.ks 0 b) m.last;generalize zu:(⟨(X.val m.ks 0 b).toArray⟩:ByteArray)=VK at fB uT Uv;have HVK:=ae zu;cases ho:m.ord with
   |false=>
    have DO:m.aG.ord=false:=ho;replace ir:=ae (ir.out.trans (if_neg (by rw[ho];simp)));clear dJ zu Uv;go_upto_region 12 with fail;refine Ya (m:=m.aG) (VK:=VK) (λc a d v w h=>by cases d<;>exact h) (ae jZ.out) DO _ _ _ _ _ _ _ _ _ _ _ _ _ _ _ _ _ _ _ _ _ _ _ _ _ _ _ _ _ _ _ _ _ _ _ _ _ _ _ _ _ _ _ _ _ _ _ _ _ _ _ _ _ _ _ _ _ _ _ _ _ _ _ _ _ _ _ _ _ _ _ _ _ _ _ _ _ _ _ _ _ _ _ _ _ _ _ _ _ _ _ _ _ _ _ _ _ _ _ _ _ _ _ _ _ _ _ _ _ _ _ _ _ _ _ _ _ _ _ _ _ _ _ _ _ _ _ ?_;intro d74 d75 d76 d77 d78 d79 d80 d81 d82 d83 d84 d85 d86 d87 d88 d89 d90 d91 W4 hb4;have eR:=ae hb4;have Yc:=ae (fB.out _ hb4);have gR:=aj W4 q (jZ.out _ hb4);clear hb4 jZ fB hc3;go_wp2_with fail;refine Yc.out.mono ?_;rintro e W5 ⟨rfl,hb⟩;have ed:=ae (eR.out.trans (hb.mono eR.out.size));clear hb Yc gR eR;go_wp2_with fail;refine(uT.out _ ed.out).mono ?_;rintro e W6 ⟨⟨z,rfl,hz⟩,hb⟩;have H6:=ae ((H3.out.below ed.out).below hb);clear hb uT ed;rcases hz with⟨j,hj,rfl,hp⟩|⟨rfl,hno⟩
    ·have Yd:=mX nB.out hj hp xQ.out.prim;have Cy:=ae (uV H6.out.2 (λk hk=>av (yI.out k hk) H6.out.1.size) HF.out b wj.out JE.out j (j:Nat) (.inl ⟨rfl,hj⟩) (some (l[j]'hj).1) (by rw[List.getElem?_eq_getElem hj];rfl));have Ur:=ae (Bh (m:=m.aG) (b:=b) nB.out xQ.out.prim hj hp);rw[Bq.out]at Cy;have hzz:¬(j:Int)<0:=(by omega);replace ir:=ae (ir.out.trans (by rw[Yd]));clear Yd;generalize(l[j]'hj).1=o at Cy Ur ir;clear hj hp;go_wp2_with fail;refine Cy.out.mono ?_;rintro e W7 ⟨rfl,hw⟩;rw[show m.aG.cW b (some o)=m.cW b (some o)from rfl]at hw⊢;rcases hw with⟨cq,hb⟩|⟨cq,v',tv,hr⟩
     ·have mW:=ae (ir.out.trans (if_pos cq));have H7:=ae (H6.out.below hb);rw[cq];clear hb cq Cy;go_wp2;go_ret;unfold FN;rw[mW.out];exact⟨rfl,_,_,H7.out⟩
     ·have mW:=ae (ir.out.trans (if_neg cq));have H7:=ae (H6.out.trans hr);rw[Ur.out]at H7;clear hr cq Cy;go_wp2;go_ret;unfold FN;rw[mW.out];exact⟨rfl,_,_,H7.out⟩
    ·have mW:=ae (ir.out.trans (by rw[qT nB.out hno]));clear hno;go_wp2;go_ret;unfold FN;rw[mW.out];exact⟨rfl,_,_,H6.out⟩
   |true=>
    have DO:m.aG.ord=true:=ho;have Kw:m.read=true:=by
     cases hr:m.read with
     |true=>rfl
     |false=>exact absurd ⟨ho,hr⟩ dJ
    by_cases og:X.val m.ks 0 b≠m.last
    ·have mW:=ae (ir.out.trans (if_pos ⟨ho,og⟩));rw[decide_eq_false og]at Uv;clear dJ zu;go_upto_region 12 with fail;refine SG (m:=m.aG) (λc a d v w h=>by cases d<;>exact h) (ae jZ.out) DO (ae fB.out) true Uv _ _ _ _ _ _ _ _ _ _ _ _ _ _ _ _ _ _ _ _ _ _ _ _ _ _ _ _ _ _ _ _ _ _ _ _ _ _ _ _ _ _ _ _ _ _ _ _ _ _ _ _ _ _ _ _ _ _ _ _ _ _ _ _ _ _ _ _ _ _ _ _ _ _ _ _ _ _ _ _ _ _ _ _ _ _ _ _ _ _ _ _ _ _ _ _ _ _ _ _ _ _ _ _ _ _ _ _ _ _ _ _ _ _ _ _ _ _ _ _ _ _ _ _ _ _ _ ?_;intro d74 d75 d76 d77 d78 d79 d80 d81 d82 d83 d84 d85 d86 d87 d88 d89 d90 d91 W4 hb4;have H4:=ae (H3.out.below hb4);clear hb4 jZ fB hc3;go_wp2;go_ret;unfold FN;rw[mW.out];exact⟨rfl,_,_,H4.out⟩
    ·replace ir:=ae (ir.out.trans (if_neg (λhh=>og hh.2)));have og:X.val m.ks 0 b=m.last:=Classical.byContradiction og;rw[decide_eq_true og]at Uv;have DR:Hid ((⟨m.aG.last.toArray⟩:ByteArray)=VK):=ae (by rw[←zu,og];rfl);clear dJ zu;go_upto_region 12 with fail;refine SG (m:=m.aG) (λc a d v w h=>by cases d<;>exact h) (ae jZ.out) DO (ae fB.out) false Uv _ _ _ _ _ _ _ _ _ _ _ _ _ _ _ _ _ _ _ _ _ _ _ _ _ _ _ _ _ _ _ _ _ _ _ _ _ _ _ _ _ _ _ _ _ _ _ _ _ _ _ _ _ _ _ _ _ _ _ _ _ _ _ _ _ _ _ _ _ _ _ _ _ _ _ _ _ _ _ _ _ _ _ _ _ _ _ _ _ _ _ _ _ _ _ _ _ _ _ _ _ _ _ _ _ _ _ _ _ _ _ _ _ _ _ _ _ _ _ _ _ _ _ _ _ _ _ ?_;intro d74 d75 d76 d77 d78 d79 d80 d81 d82 d83 d84 d85 d86 d87 d88 d89 d90 d91 W4 hb4;have ed:=ae hb4;have gR:=aj W4 q (jZ.out _ hb4);rw[DR.out];clear hb4 jZ fB hc3 Uv;go_wp2_with fail;refine(uT.out _ ed.out).mono ?_;rintro e W6 ⟨⟨z,rfl,hz⟩,hb⟩;have H6:=ae ((H3.out.below ed.out).below hb);clear hb uT ed;rcases hz with⟨j,hj,rfl,hp⟩|⟨rfl,hno⟩
     ·have Yd:=mX nB.out hj hp xQ.out.prim;have Cy:=ae (uV H6.out.2 (λk hk=>av (yI.out k hk) H6.out.1.size) HF.out b wj.out JE.out j (j:Nat) (.inl ⟨rfl,hj⟩) (some (l[j]'hj).1) (by rw[List.getElem?_eq_getElem hj];rfl));have Ur:=ae (Bh (m:=m.aG) (b:=b) nB.out xQ.out.prim hj hp);rw[Bq.out]at Cy;have hzz:¬(j:Int)<0:=(by omega);replace ir:=ae (ir.out.trans (by rw[Yd]));clear Yd;generalize(l[j]'hj).1=o at Cy Ur ir;clear hj hp;go_wp2_with fail;refine Cy.out.mono ?_;rintro e W7 ⟨rfl,hw⟩;rw[show m.aG.cW b (some o)=m.cW b (some o)from rfl]at hw⊢;rcases hw with⟨cq,hb⟩|⟨cq,v',tv,hr⟩
      ·have mW:=ae (ir.out.trans (if_pos cq));have H7:=ae (H6.out.below hb);rw[cq];clear hb cq Cy;go_wp2;go_ret;unfold FN;rw[mW.out];exact⟨rfl,_,_,H7.out⟩
      ·have mW:=ae (ir.out.trans (if_neg cq));have H7:=ae (H6.out.trans hr);rw[Ur.out]at H7;clear hr cq Cy;go_wp2;go_ret;unfold FN;rw[mW.out];exact⟨rfl,_,_,H7.out⟩
     ·have mW:=ae (ir.out.trans (by rw[qT nB.out hno]));clear hno;go_wp2;go_ret;unfold FN;rw[mW.out];exact⟨rfl,_,_,H6.out⟩
end
noncomputable def Qn:Code:=(Tryz.f70.body.bind (kg 21)).getD .skip
theorem SH {W0:World} {q g c cv j:Nat} {A:Option Addr} {m:X.M} {l:List HP} {Q:Exit→Act→World→Prop} (hQ:∀c a d v w,Q (.panic c) (Act.put a d v) w→Q (.panic c) a w) (hrow:W0.heap[q]? =some (gF m g c (.slice A l.length cv))) (hcv:l.length≤cv) (hat:qJ W0 A l) (Qo:∀b o,A=some ⟨b,o,none⟩→o=0) (Uw:∀x∈l,oc x.2) (hj:j<l.length) (sB:l.length≤1000000) (u1 u2 u3 u4 u5 u6 u7 u8 u9 gY gq iF gG gH u16 gu gw gI gJ gK gL u23 u24 ju u26 jv u28 jw jx jy u32 u33 jz jA jB jC jD jE jF iG iH iI u44 iJ iK iL iM iN iO iP iQ iR iT jG jH jI jJ jK kA kB kC kD u64 kE kF kG kH kI kJ kK lX nC nD nE nG ll ln lq lr lu lx ly lA lB lC lD lF lG lH kL tE tF tG tH tI tJ tK vY kP kQ kR kS kT kU kV kW kX kY kZ lZ jS jT iV iW iX iY iZ ja jb jc jd je jf jg jh ji jk jl:Value) (h:∀(d111 d112 d113 d114 d115 d116 d117 d118 d119 d120 d121 d122 d123 d124 d125 d126 d127 d128 d129 v':Value) (x':World),x'.ownsRow W0.heap.size 52 2 v' (l.length - 1) (aY (l.eraseIdx j))→Below W0.heap.size W0 x'→Q .normal (⟨#[.pointer (some ⟨q,0,none⟩),u1,u2,u3,u4,u5,u6,u7,u8,u9,gY, .int .i64 (j:Nat),gq,iF,gG,gH,u16,gu,gw,gI,gJ,gK,gL,u23,u24,ju,u26,jv,u28,jw,jx,jy,u32,u33,jz,jA,jB,jC,jD,jE,jF,iG,iH,iI,u44,iJ,iK,iL,iM,iN,iO,iP,iQ,iR,iT,jG,jH,jI,jJ,jK,kA,kB,kC,kD,u64,kE,kF,kG,kH,kI,kJ,kK,lX,nC,nD,nE,nG,ll,ln,lq,lr,lu,lx,ly,lA,lB,lC,lD,lF,lG,lH,kL,tE,tF,tG,tH,tI,tJ,tK,vY,kP,kQ,kR,kS,kT,kU,kV,kW,kX,kY,kZ,d111,d112,d113,d114,d115,d116,d117,d118,d119,d120,d121,d122,d123,d124,d125,d126,d127,d128,d129],[]⟩:Act) (x'.setCell ⟨q,4,none⟩ v')):Code.wp Tryz.prog Qn Q (⟨#[.pointer (some ⟨q,0,none⟩),u1,u2,u3,u4,u5,u6,u7,u8,u9,gY, .int .i64 (j:Nat),gq,iF,gG,gH,u16,gu,gw,gI,gJ,gK,gL,u23,u24,ju,u26,jv,u28,jw,jx,jy,u32,u33,jz,jA,jB,jC,jD,jE,jF,iG,iH,iI,u44,iJ,iK,iL,iM,iN,iO,iP,iQ,iR,iT,jG,jH,jI,jJ,jK,kA,kB,kC,kD,u64,kE,kF,kG,kH,kI,kJ,kK,lX,nC,nD,nE,nG,ll,ln,lq,lr,lu,lx,ly,lA,lB,lC,lD,lF,lG,lH,kL,tE,tF,tG,tH,tI,tJ,tK,vY,kP,kQ,kR,kS,kT,kU,kV,kW,kX,kY,kZ,lZ,jS,jT,iV,iW,iX,iY,iZ,ja,jb,jc,jd,je,jf,jg,jh,ji,jk,jl],[]⟩:Act) W0:=by
 have HX:=ae h;clear h
 conv=>arg 2;whnf
 have gz:Hid (Below W0.heap.size W0 W0.drew):=ae ((ak _ W0).drew);obtain⟨A1,hr1,hs1⟩:=fV (A:=A) (l:=l) (n:=l.length) (c:=cv) rfl 0 j (Nat.zero_le _) (Nat.le_of_lt hj) hcv none (some (.int .i64 (j:Nat))) (.inr ⟨rfl,rfl⟩) (.inl rfl) Qo;obtain⟨A2,hr2,hs2⟩:=fV (A:=A) (l:=l) (n:=l.length) (c:=cv) rfl (j+1) l.length (by omega) (aq _) hcv (some (.int .i64 ((j+1:Nat):Int))) none (.inl rfl) (.inr ⟨rfl,rfl⟩) Qo;have hr3:∀w,(Instr.sliceAt 31 (.slice A l.length cv) (some (.int .i64 ((j:Int)+1))) none none).run Tryz.prog w= .ok (.slice A2 (l.length - (j+1)) (cv - (j+1))) w:=λw=>hr2 w;have su:=ae (hs1 _ (hat.below gz.out));have vP:=ae (hs2 _ (hat.below gz.out));have Ye:=ae ((gz.out.block q (ai hrow).1).trans hrow);have XE:=ae (λy (hy:y∈(l.take j).drop 0)=>Uw y (List.mem_of_mem_take (List.mem_of_mem_drop hy)));have Th:=ae (λy (hy:y∈(l.take l.length).drop (j+1))=>Uw y (List.mem_of_mem_take (List.mem_of_mem_drop hy)));have gD:=ae (show((l.take j).drop 0).length=j - 0 by rw[List.length_drop,List.length_take];omega);have jQ:=ae (show((l.take l.length).drop (j+1)).length=l.length - (j+1) by rw[List.length_drop,List.length_take];omega);have wW:wrap64 ((j:Int)+1)=((j+1:Nat):Int):=by rw[IntWalk.wrap64_in _ (by omega)];rfl
 have hw2:IntKind.i64.wrap ((j:Int)+1)=((j+1:Nat):Int):=by rw[IntKind.wrap_i64];omega
 have fO:Hid (∀v' x',x'.ownsRow W0.drew.heap.size 52 2 v' (0+(j - 0)+(l.length - (j+1))) (aY (([]++(l.take j).drop 0)++(l.take l.length).drop (j+1)))→Below W0.drew.heap.size W0.drew x'→x'.ownsRow W0.heap.size 52 2 v' (l.length - 1) (aY (l.eraseIdx j))∧Below W0.heap.size W0 x'):=ae (λv' x' ho hb=>by
  rw[show 0+(j - 0)+(l.length - (j+1))=l.length - 1 by omega,List.nil_append,List.drop_zero,List.take_length,←List.eraseIdx_eq_take_drop_succ]at ho;exact⟨qh ho gz.out.size,gz.out.trans (hb.mono gz.out.size)⟩)
 have HK:=ae (show j<l.length∧l.length≤1000000 from⟨hj,sB⟩);clear hs1 hs2 hat hrow Uw sB Qo;refine aD 17 (.rd 0 (.rd 2 (.rd 3 (.rd 4 (.rd 5 (.rd 6 (.rd 7 (.rd 9 (.rd 10 (.rd 11 (.rd 12 (.rd 13 (.rd 14 (.rd 15 (.wr 1 (.wr 8 (.wr 16 .fin))))))))))))))))) (λw'=>Below W0.drew.heap.size W0.drew w') (by kernel_rfl) (by kernel_rfl) hQ (ak _ _) ?_;generalize W0.drew=V at su vP Ye fO gz⊢;repeat
  refine az (v:= ?_) (by rfl) (by rfl) (λw' hS=> ?_) (λK hK=> ?_);rotate_left
  ·have hc:=aj w' q ((hS.block q (ai Ye.out).1).trans Ye.out);clear hS;go_simp;try with_reducible rfl
  go_simp;refine hK _ ?_;clear hK K
 clear hr1 hr2 hr3;refine wpPm_write (by rfl) (λK hK=> ?_);go_simp;have pS:Hid (World.ownsRow (V.alloc (.cells #[] 52)) V.heap.size 52 2 (.slice (some ⟨V.heap.size,0,none⟩) 0 0) 0 (aY [])):=ae (rK (base:=V.heap.size) V (aq _));have cn:=ae ((ak V.heap.size V).alloc (aq _) (.cells #[] 52));refine hK.out _ _ (λw'=>Below V.heap.size V w') (λ_ h=>h) cn.out ?_;clear hK K;refine wpPm_write (by rfl) (λK hK=> ?_);refine(if_pos (by rfl)).mpr ?_;refine dR _ _ (by rfl) V.heap.size (.slice (some ⟨V.heap.size,0,none⟩) 0 0) 0 [] (by rfl) pS.out A1 (j - 0) (cv - 0) ((l.take j).drop 0) (by rfl) (su.out.below cn.out) gD.out XE.out (by have:=HK.out;omega) cn.out.size ?_;intro v8 x8 ou DY DZ;have yJ:=ae (cn.out.grown DY cn.out.size (λj hj=>(pS.out.lt j hj).1));have Mr:=ae ou;clear ou DY DZ;refine hK.out _ _ (λw'=>Below V.heap.size V w') (λ_ h=>h) yJ.out ?_;clear hK K;refine wpPm_write (by rfl) (λK hK=> ?_);refine(if_pos (by rfl)).mpr ?_;refine dR _ _ (by rfl) V.heap.size v8 (0+(j - 0)) ([]++(l.take j).drop 0) (by rfl) Mr.out A2 (l.length - (j+1)) (cv - (j+1)) ((l.take l.length).drop (j+1)) (by rfl) (vP.out.below yJ.out) jQ.out Th.out (by have:=HK.out;omega) yJ.out.size ?_;intro v9 x9 ni pq Ea;have pU:=ae (yJ.out.grown pq yJ.out.size (λj hj=>(Mr.out.lt j hj).1));have HF9:=ae (fO.out _ _ ni pU.out);obtain⟨A9,n9,c9,rfl⟩:=dv ni;clear ni pq Ea fO;refine hK.out _ _ (λw'=>Below V.heap.size V w') (λ_ h=>h) pU.out ?_;clear hK K;have JH:=(pU.out.block q (ai Ye.out).1).trans Ye.out;have hc9:=aj x9 q JH;have JI:=aC JH;clear JH;show wpList _ _ _ _ _ _;go_wp2;exact HX.out _ _ _ _ _ _ _ _ _ _ _ _ _ _ _ _ _ _ _ _ _ HF9.out.1 HF9.out.2
end Go.Proofs.YtipljcmmokaokaaGreat
