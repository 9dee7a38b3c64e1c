import Derived.Test.YtipljcmmokaokaaGreatQM24
import Derived.Test.YtipljcmmokaokaaGreatQM23
set_option linter.unusedVariables false
set_option linter.unusedSimpArgs false
set_option maxHeartbeats 4000000
namespace Go.Proofs.YtipljcmmokaokaaGreat
open Go.RowKit Go.Lib Go.Maps Go.WideMaps Go.Sort
set_option maxRecDepth 100000
noncomputable def rF:Code:=(Tryz.f16.body.bind (lR 7)).getD .skip
theorem Ur {W0:World} {q g c:Nat} {m:X.M} {v:Value} {S VK WV:ByteArray} {Q:Exit→Act→World→Prop} (hQ:∀c a d v w,Q (.panic c) (Act.put a d v) w→Q (.panic c) a w) (qM:Hid (∀w',Below W0.heap.size W0 w'→w'.heap[q]? =some (.cells #[.string ⟨#[102]⟩, .int .i64 (m.size:Nat), .slice (some ⟨g,0,none⟩) m.ks.length c, .bool m.there,v, .int .i64 (m.time:Nat), .int .u8 (m.mode:Nat), .bool m.ord, .int .i64 (m.key:Nat), .bool m.lost, .string ⟨m.value.toArray⟩, .int .i64 (m.at_:Nat), .bool m.same, .string ⟨m.last.toArray⟩, .bool m.read, .string WV] 34 (0,0)))) (kn:Hid (∀W,Below W0.heap.size W0 W→Calls Tryz.prog 52 #[.pointer (some ⟨q,0,none⟩), .int .i64 0, .string S] W fun e w'=>e= .returned (.string VK)∧Below W.heap.size W w')) (ho:m.ord=false)
  (u2 u3 u4 u5 u6 u7 u8 u9 eU dF kj fU fV fW u16 fX fY ei ej en eo u23 u24 gD u26 gF u28 gG gH gI u32 u33 gJ gK gL gM gN gO gP ep er eu u44 ew ey ez eB eC eD eE eF eG eH eI eJ eK eL eM:Value) (h:∀(d20 d21 d22 d23 d24 d25 d26 d27 d28 d29 d30 d31 d32 d33 d34 d35 d36 d37 d38 d39 d40:Value) (W':World),Below W0.heap.size W0 W'→Q .normal (⟨#[.pointer (some ⟨q,0,none⟩), .string S,u2,u3,u4,u5,u6,u7,u8,u9,eU,dF,kj,fU,fV,fW,u16,fX,fY, .bool false,d20,d21,d22,d23,d24,d25,d26,d27,d28,d29,d30,d31,d32,d33,d34,d35,d36,d37,d38,d39,d40,ep,er,eu,u44,ew,ey,ez,eB,eC,eD,eE,eF,eG,eH,eI,eJ,eK,eL,eM],[]⟩:Act) W'):Code.wp Tryz.prog rF Q (⟨#[.pointer (some ⟨q,0,none⟩), .string S,u2,u3,u4,u5,u6,u7,u8,u9,eU,dF,kj,fU,fV,fW,u16,fX,fY,ei,ej,en,eo,u23,u24,gD,u26,gF,u28,gG,gH,gI,u32,u33,gJ,gK,gL,gM,gN,gO,gP,ep,er,eu,u44,ew,ey,ez,eB,eC,eD,eE,eF,eG,eH,eI,eJ,eK,eL,eM],[]⟩:Act) W0:=by
 rw[ho]at qM
 conv=>arg 2;whnf
 have jz:Hid (Below W0.heap.size W0 W0.drew):=aa ((ai _ W0).drew);refine aL (.rd 0 (.rd 1 (.rd 2 (.rd 3 (.rd 4 (.rd 5 (.rd 6 (.rd 7 (.rd 8 (.rd 9 (.rd 10 (.rd 11 (.rd 12 (.rd 13 (.rd 15 (.rd 16 (.rd 17 (.rd 18 (.wr 14 (.rd 19 (.rd 20 (.rd 21 .fin)))))))))))))))))))))) (fun w'=>Below W0.heap.size W0 w') (by kernel_rfl) (by kernel_rfl) hQ jz.out ?_
 iterate 5
  refine aw (v:= ?_) (by rfl) (by rfl) (fun w' hS=> ?_) (fun K hK=> ?_);rotate_left
  ·have hc:=fun j=>ag w' q j _ _ _ (qM.out w' hS);clear hS;go_simp;try with_reducible rfl
  go_simp;refine hK _ ?_;clear hK K
 refine ax (by rfl) (by rfl) (fun K hK=> ?_);go_simp;refine hK _ ?_;clear hK K;refine ax (by rfl) (by rfl) (fun K hK=> ?_);go_simp;refine hK _ ?_;clear hK K;refine ax (by rfl) (by rfl) (fun K hK=> ?_);go_simp;refine hK _ ?_;clear hK K;refine ax (by rfl) (by rfl) (fun K hK=> ?_);go_simp;refine hK _ ?_;clear hK K;refine ax (by rfl) (by rfl) (fun K hK=> ?_);go_simp;refine hK _ ?_;clear hK K
 iterate 2
  refine aw (v:= ?_) (by rfl) (by rfl) (fun w' hS=> ?_) (fun K hK=> ?_);rotate_left
  ·clear hS;go_simp;try with_reducible rfl
  go_simp;refine hK _ ?_;clear hK K
 refine ax (by rfl) (by rfl) (fun K hK=> ?_);go_simp;refine hK _ ?_;clear hK K;refine ax (by rfl) (by rfl) (fun K hK=> ?_);go_simp;refine hK _ ?_;clear hK K;refine ax (by rfl) (by rfl) (fun K hK=> ?_);go_simp;refine hK _ ?_;clear hK K;refine ax (by rfl) (by rfl) (fun K hK=> ?_);go_simp;refine hK _ ?_;clear hK K;refine ax (by rfl) (by rfl) (fun K hK=> ?_);go_simp;refine hK _ ?_;clear hK K;refine ax (by rfl) (by rfl) (fun K hK=> ?_);go_simp;refine hK _ ?_;clear hK K;refine il (by rfl) (by rfl) (fun K hK=> ?_);go_simp;refine hK.out _ _ (fun w'=>Below W0.heap.size W0 w') (fun _ h=>h) jz.out ?_;clear hK K;refine ax (by rfl) (by rfl) (fun K hK=> ?_);go_simp;refine hK _ ?_;clear hK K
 iterate 2
  refine aw (v:= ?_) (by rfl) (by rfl) (fun w' hS=> ?_) (fun K hK=> ?_);rotate_left
  ·clear hS;go_simp;try with_reducible rfl
  go_simp;refine hK _ ?_;clear hK K
 show wpList _ _ _ _ _ _;simp only[wpList];exact h _ _ _ _ _ _ _ _ _ _ _ _ _ _ _ _ _ _ _ _ _ _ jz.out
theorem Us {W0:World} {q g c:Nat} {m:X.M} {v:Value} {S VK WV:ByteArray} {Q:Exit→Act→World→Prop} (hQ:∀c a d v w,Q (.panic c) (Act.put a d v) w→Q (.panic c) a w) (qM:Hid (∀w',Below W0.heap.size W0 w'→w'.heap[q]? =some (.cells #[.string ⟨#[102]⟩, .int .i64 (m.size:Nat), .slice (some ⟨g,0,none⟩) m.ks.length c, .bool m.there,v, .int .i64 (m.time:Nat), .int .u8 (m.mode:Nat), .bool m.ord, .int .i64 (m.key:Nat), .bool m.lost, .string ⟨m.value.toArray⟩, .int .i64 (m.at_:Nat), .bool m.same, .string ⟨m.last.toArray⟩, .bool m.read, .string WV] 34 (0,0)))) (kn:Hid (∀W,Below W0.heap.size W0 W→Calls Tryz.prog 52 #[.pointer (some ⟨q,0,none⟩), .int .i64 0, .string S] W fun e w'=>e= .returned (.string VK)∧Below W.heap.size W w')) (ho:m.ord=true) (hm:((m.mode:Int) !=3)=false)
  (u2 u3 u4 u5 u6 u7 u8 u9 eU dF kj fU fV fW u16 fX fY ei ej en eo u23 u24 gD u26 gF u28 gG gH gI u32 u33 gJ gK gL gM gN gO gP ep er eu u44 ew ey ez eB eC eD eE eF eG eH eI eJ eK eL eM:Value) (h:∀(d20 d21 d22 d23 d24 d25 d26 d27 d28 d29 d30 d31 d32 d33 d34 d35 d36 d37 d38 d39 d40:Value) (W':World),Below W0.heap.size W0 W'→Q .normal (⟨#[.pointer (some ⟨q,0,none⟩), .string S,u2,u3,u4,u5,u6,u7,u8,u9,eU,dF,kj,fU,fV,fW,u16,fX,fY, .bool false,d20,d21,d22,d23,d24,d25,d26,d27,d28,d29,d30,d31,d32,d33,d34,d35,d36,d37,d38,d39,d40,ep,er,eu,u44,ew,ey,ez,eB,eC,eD,eE,eF,eG,eH,eI,eJ,eK,eL,eM],[]⟩:Act) W'):Code.wp Tryz.prog rF Q (⟨#[.pointer (some ⟨q,0,none⟩), .string S,u2,u3,u4,u5,u6,u7,u8,u9,eU,dF,kj,fU,fV,fW,u16,fX,fY,ei,ej,en,eo,u23,u24,gD,u26,gF,u28,gG,gH,gI,u32,u33,gJ,gK,gL,gM,gN,gO,gP,ep,er,eu,u44,ew,ey,ez,eB,eC,eD,eE,eF,eG,eH,eI,eJ,eK,eL,eM],[]⟩:Act) W0:=by
 rw[ho]at qM
 conv=>arg 2;whnf
 have jz:Hid (Below W0.heap.size W0 W0.drew):=aa ((ai _ W0).drew);refine aL (.rd 0 (.rd 1 (.rd 2 (.rd 3 (.rd 4 (.rd 5 (.rd 6 (.rd 7 (.rd 8 (.rd 9 (.rd 10 (.rd 11 (.rd 12 (.rd 13 (.rd 15 (.rd 16 (.rd 17 (.rd 18 (.wr 14 (.rd 19 (.rd 20 (.rd 21 .fin)))))))))))))))))))))) (fun w'=>Below W0.heap.size W0 w') (by kernel_rfl) (by kernel_rfl) hQ jz.out ?_
 iterate 12
  refine aw (v:= ?_) (by rfl) (by rfl) (fun w' hS=> ?_) (fun K hK=> ?_);rotate_left
  ·have hc:=fun j=>ag w' q j _ _ _ (qM.out w' hS);clear hS;go_simp;try with_reducible rfl
  go_simp;refine hK _ ?_;clear hK K
 refine ax (by rfl) (by rfl) (fun K hK=> ?_);go_simp;refine hK _ ?_;clear hK K;refine ax (by rfl) (by rfl) (fun K hK=> ?_);go_simp;refine hK _ ?_;clear hK K;refine ax (by rfl) (by rfl) (fun K hK=> ?_);go_simp;refine hK _ ?_;clear hK K;refine ax (by rfl) (by rfl) (fun K hK=> ?_);go_simp;refine hK _ ?_;clear hK K;refine ax (by rfl) (by rfl) (fun K hK=> ?_);go_simp;refine hK _ ?_;clear hK K;refine ax (by rfl) (by rfl) (fun K hK=> ?_);go_simp;refine hK _ ?_;clear hK K;refine il (by rfl) (by rfl) (fun K hK=> ?_);go_simp;refine hK.out _ _ (fun w'=>Below W0.heap.size W0 w') (fun _ h=>h) jz.out ?_;clear hK K;refine ax (by rfl) (by rfl) (fun K hK=> ?_);go_simp;refine hK _ ?_;clear hK K
 iterate 2
  refine aw (v:= ?_) (by rfl) (by rfl) (fun w' hS=> ?_) (fun K hK=> ?_);rotate_left
  ·clear hS;go_simp;try with_reducible rfl
  go_simp;refine hK _ ?_;clear hK K
 show wpList _ _ _ _ _ _;simp only[wpList];exact h _ _ _ _ _ _ _ _ _ _ _ _ _ _ _ _ _ _ _ _ _ _ jz.out
theorem Ut {W0:World} {q g c:Nat} {m:X.M} {v:Value} {S VK WV:ByteArray} {Q:Exit→Act→World→Prop} (hQ:∀c a d v w,Q (.panic c) (Act.put a d v) w→Q (.panic c) a w) (qM:Hid (∀w',Below W0.heap.size W0 w'→w'.heap[q]? =some (.cells #[.string ⟨#[102]⟩, .int .i64 (m.size:Nat), .slice (some ⟨g,0,none⟩) m.ks.length c, .bool m.there,v, .int .i64 (m.time:Nat), .int .u8 (m.mode:Nat), .bool m.ord, .int .i64 (m.key:Nat), .bool m.lost, .string ⟨m.value.toArray⟩, .int .i64 (m.at_:Nat), .bool m.same, .string ⟨m.last.toArray⟩, .bool m.read, .string WV] 34 (0,0)))) (kn:Hid (∀W,Below W0.heap.size W0 W→Calls Tryz.prog 52 #[.pointer (some ⟨q,0,none⟩), .int .i64 0, .string S] W fun e w'=>e= .returned (.string VK)∧Below W.heap.size W w')) (ho:m.ord=true) (hm:((m.mode:Int) !=3)=true) (h1:Op.bytesLess VK.toList WV.toList=true)
  (u2 u3 u4 u5 u6 u7 u8 u9 eU dF kj fU fV fW u16 fX fY ei ej en eo u23 u24 gD u26 gF u28 gG gH gI u32 u33 gJ gK gL gM gN gO gP ep er eu u44 ew ey ez eB eC eD eE eF eG eH eI eJ eK eL eM:Value) (h:∀(d20 d21 d22 d23 d24 d25 d26 d27 d28 d29 d30 d31 d32 d33 d34 d35 d36 d37 d38 d39 d40:Value) (W':World),Below W0.heap.size W0 W'→Q .normal (⟨#[.pointer (some ⟨q,0,none⟩), .string S,u2,u3,u4,u5,u6,u7,u8,u9,eU,dF,kj,fU,fV,fW,u16,fX,fY, .bool true,d20,d21,d22,d23,d24,d25,d26,d27,d28,d29,d30,d31,d32,d33,d34,d35,d36,d37,d38,d39,d40,ep,er,eu,u44,ew,ey,ez,eB,eC,eD,eE,eF,eG,eH,eI,eJ,eK,eL,eM],[]⟩:Act) W'):Code.wp Tryz.prog rF Q (⟨#[.pointer (some ⟨q,0,none⟩), .string S,u2,u3,u4,u5,u6,u7,u8,u9,eU,dF,kj,fU,fV,fW,u16,fX,fY,ei,ej,en,eo,u23,u24,gD,u26,gF,u28,gG,gH,gI,u32,u33,gJ,gK,gL,gM,gN,gO,gP,ep,er,eu,u44,ew,ey,ez,eB,eC,eD,eE,eF,eG,eH,eI,eJ,eK,eL,eM],[]⟩:Act) W0:=by
 rw[ho]at qM
 conv=>arg 2;whnf
 have jz:Hid (Below W0.heap.size W0 W0.drew):=aa ((ai _ W0).drew);refine aL (.rd 0 (.rd 1 (.rd 2 (.rd 3 (.rd 4 (.rd 5 (.rd 6 (.rd 7 (.rd 8 (.rd 9 (.rd 10 (.rd 11 (.rd 12 (.rd 13 (.rd 15 (.rd 16 (.rd 17 (.rd 18 (.wr 14 (.rd 19 (.rd 20 (.rd 21 .fin)))))))))))))))))))))) (fun w'=>Below W0.heap.size W0 w') (by kernel_rfl) (by kernel_rfl) hQ jz.out ?_
 iterate 18
  refine aw (v:= ?_) (by rfl) (by rfl) (fun w' hS=> ?_) (fun K hK=> ?_);rotate_left
  ·have hc:=fun j=>ag w' q j _ _ _ (qM.out w' hS);clear hS;go_simp;try with_reducible rfl
  go_simp;refine hK _ ?_;clear hK K
 refine wpPm_write (by rfl) (fun K hK=> ?_);refine(if_pos (by rfl)).mpr ?_;go_simp;refine(kn.out _ jz.out).mono ?_;rintro e V1 ⟨rfl,hb⟩;have cH:=aa (jz.out.trans (hb.mono jz.out.size));refine hK.out _ _ (fun w'=>Below W0.heap.size W0 w') (fun _ h=>h) cH.out ?_;clear hK K hb
 iterate 3
  refine aw (v:= ?_) (by rfl) (by rfl) (fun w' hS=> ?_) (fun K hK=> ?_);rotate_left
  ·clear hS;go_simp;try with_reducible rfl
  go_simp;refine hK _ ?_;clear hK K
 show wpList _ _ _ _ _ _;simp only[wpList];exact h _ _ _ _ _ _ _ _ _ _ _ _ _ _ _ _ _ _ _ _ _ _ cH.out
theorem Uu {W0:World} {q g c:Nat} {m:X.M} {v:Value} {S VK WV:ByteArray} {Q:Exit→Act→World→Prop} (hQ:∀c a d v w,Q (.panic c) (Act.put a d v) w→Q (.panic c) a w) (qM:Hid (∀w',Below W0.heap.size W0 w'→w'.heap[q]? =some (.cells #[.string ⟨#[102]⟩, .int .i64 (m.size:Nat), .slice (some ⟨g,0,none⟩) m.ks.length c, .bool m.there,v, .int .i64 (m.time:Nat), .int .u8 (m.mode:Nat), .bool m.ord, .int .i64 (m.key:Nat), .bool m.lost, .string ⟨m.value.toArray⟩, .int .i64 (m.at_:Nat), .bool m.same, .string ⟨m.last.toArray⟩, .bool m.read, .string WV] 34 (0,0)))) (kn:Hid (∀W,Below W0.heap.size W0 W→Calls Tryz.prog 52 #[.pointer (some ⟨q,0,none⟩), .int .i64 0, .string S] W fun e w'=>e= .returned (.string VK)∧Below W.heap.size W w')) (ho:m.ord=true) (hm:((m.mode:Int) !=3)=true) (h1:Op.bytesLess VK.toList WV.toList=false) (h2:(VK.toList==WV.toList)=true)
  (u2 u3 u4 u5 u6 u7 u8 u9 eU dF kj fU fV fW u16 fX fY ei ej en eo u23 u24 gD u26 gF u28 gG gH gI u32 u33 gJ gK gL gM gN gO gP ep er eu u44 ew ey ez eB eC eD eE eF eG eH eI eJ eK eL eM:Value) (h:∀(d20 d21 d22 d23 d24 d25 d26 d27 d28 d29 d30 d31 d32 d33 d34 d35 d36 d37 d38 d39 d40:Value) (W':World),Below W0.heap.size W0 W'→Q .normal (⟨#[.pointer (some ⟨q,0,none⟩), .string S,u2,u3,u4,u5,u6,u7,u8,u9,eU,dF,kj,fU,fV,fW,u16,fX,fY, .bool true,d20,d21,d22,d23,d24,d25,d26,d27,d28,d29,d30,d31,d32,d33,d34,d35,d36,d37,d38,d39,d40,ep,er,eu,u44,ew,ey,ez,eB,eC,eD,eE,eF,eG,eH,eI,eJ,eK,eL,eM],[]⟩:Act) W'):Code.wp Tryz.prog rF Q (⟨#[.pointer (some ⟨q,0,none⟩), .string S,u2,u3,u4,u5,u6,u7,u8,u9,eU,dF,kj,fU,fV,fW,u16,fX,fY,ei,ej,en,eo,u23,u24,gD,u26,gF,u28,gG,gH,gI,u32,u33,gJ,gK,gL,gM,gN,gO,gP,ep,er,eu,u44,ew,ey,ez,eB,eC,eD,eE,eF,eG,eH,eI,eJ,eK,eL,eM],[]⟩:Act) W0:=by
 rw[ho]at qM
 conv=>arg 2;whnf
 have jz:Hid (Below W0.heap.size W0 W0.drew):=aa ((ai _ W0).drew);refine aL (.rd 0 (.rd 1 (.rd 2 (.rd 3 (.rd 4 (.rd 5 (.rd 6 (.rd 7 (.rd 8 (.rd 9 (.rd 10 (.rd 11 (.rd 12 (.rd 13 (.rd 15 (.rd 16 (.rd 17 (.rd 18 (.wr 14 (.rd 19 (.rd 20 (.rd 21 .fin)))))))))))))))))))))) (fun w'=>Below W0.heap.size W0 w') (by kernel_rfl) (by kernel_rfl) hQ jz.out ?_
 iterate 18
  refine aw (v:= ?_) (by rfl) (by rfl) (fun w' hS=> ?_) (fun K hK=> ?_);rotate_left
  ·have hc:=fun j=>ag w' q j _ _ _ (qM.out w' hS);clear hS;go_simp;try with_reducible rfl
  go_simp;refine hK _ ?_;clear hK K
 refine wpPm_write (by rfl) (fun K hK=> ?_);refine(if_pos (by rfl)).mpr ?_;go_simp;refine(kn.out _ jz.out).mono ?_;rintro e V1 ⟨rfl,hb⟩;have cH:=aa (jz.out.trans (hb.mono jz.out.size));refine hK.out _ _ (fun w'=>Below W0.heap.size W0 w') (fun _ h=>h) cH.out ?_;clear hK K hb
 iterate 3
  refine aw (v:= ?_) (by rfl) (by rfl) (fun w' hS=> ?_) (fun K hK=> ?_);rotate_left
  ·clear hS;go_simp;try with_reducible rfl
  go_simp;refine hK _ ?_;clear hK K
 show wpList _ _ _ _ _ _;simp only[wpList];exact h _ _ _ _ _ _ _ _ _ _ _ _ _ _ _ _ _ _ _ _ _ _ cH.out
theorem Uv {W0:World} {q g c:Nat} {m:X.M} {v:Value} {S VK WV:ByteArray} {Q:Exit→Act→World→Prop} (hQ:∀c a d v w,Q (.panic c) (Act.put a d v) w→Q (.panic c) a w) (qM:Hid (∀w',Below W0.heap.size W0 w'→w'.heap[q]? =some (.cells #[.string ⟨#[102]⟩, .int .i64 (m.size:Nat), .slice (some ⟨g,0,none⟩) m.ks.length c, .bool m.there,v, .int .i64 (m.time:Nat), .int .u8 (m.mode:Nat), .bool m.ord, .int .i64 (m.key:Nat), .bool m.lost, .string ⟨m.value.toArray⟩, .int .i64 (m.at_:Nat), .bool m.same, .string ⟨m.last.toArray⟩, .bool m.read, .string WV] 34 (0,0)))) (kn:Hid (∀W,Below W0.heap.size W0 W→Calls Tryz.prog 52 #[.pointer (some ⟨q,0,none⟩), .int .i64 0, .string S] W fun e w'=>e= .returned (.string VK)∧Below W.heap.size W w')) (ho:m.ord=true) (hm:((m.mode:Int) !=3)=true) (h1:Op.bytesLess VK.toList WV.toList=false) (h2:(VK.toList==WV.toList)=false)
  (u2 u3 u4 u5 u6 u7 u8 u9 eU dF kj fU fV fW u16 fX fY ei ej en eo u23 u24 gD u26 gF u28 gG gH gI u32 u33 gJ gK gL gM gN gO gP ep er eu u44 ew ey ez eB eC eD eE eF eG eH eI eJ eK eL eM:Value) (h:∀(d20 d21 d22 d23 d24 d25 d26 d27 d28 d29 d30 d31 d32 d33 d34 d35 d36 d37 d38 d39 d40:Value) (W':World),Below W0.heap.size W0 W'→Q .normal (⟨#[.pointer (some ⟨q,0,none⟩), .string S,u2,u3,u4,u5,u6,u7,u8,u9,eU,dF,kj,fU,fV,fW,u16,fX,fY, .bool false,d20,d21,d22,d23,d24,d25,d26,d27,d28,d29,d30,d31,d32,d33,d34,d35,d36,d37,d38,d39,d40,ep,er,eu,u44,ew,ey,ez,eB,eC,eD,eE,eF,eG,eH,eI,eJ,eK,eL,eM],[]⟩:Act) W'):Code.wp Tryz.prog rF Q (⟨#[.pointer (some ⟨q,0,none⟩), .string S,u2,u3,u4,u5,u6,u7,u8,u9,eU,dF,kj,fU,fV,fW,u16,fX,fY,ei,ej,en,eo,u23,u24,gD,u26,gF,u28,gG,gH,gI,u32,u33,gJ,gK,gL,gM,gN,gO,gP,ep,er,eu,u44,ew,ey,ez,eB,eC,eD,eE,eF,eG,eH,eI,eJ,eK,eL,eM],[]⟩:Act) W0:=by
 rw[ho]at qM
 conv=>arg 2;whnf
 have jz:Hid (Below W0.heap.size W0 W0.drew):=aa ((ai _ W0).drew);refine aL (.rd 0 (.rd 1 (.rd 2 (.rd 3 (.rd 4 (.rd 5 (.rd 6 (.rd 7 (.rd 8 (.rd 9 (.rd 10 (.rd 11 (.rd 12 (.rd 13 (.rd 15 (.rd 16 (.rd 17 (.rd 18 (.wr 14 (.rd 19 (.rd 20 (.rd 21 .fin)))))))))))))))))))))) (fun w'=>Below W0.heap.size W0 w') (by kernel_rfl) (by kernel_rfl) hQ jz.out ?_
 iterate 18
  refine aw (v:= ?_) (by rfl) (by rfl) (fun w' hS=> ?_) (fun K hK=> ?_);rotate_left
  ·have hc:=fun j=>ag w' q j _ _ _ (qM.out w' hS);clear hS;go_simp;try with_reducible rfl
  go_simp;refine hK _ ?_;clear hK K
 refine wpPm_write (by rfl) (fun K hK=> ?_);refine(if_pos (by rfl)).mpr ?_;go_simp;refine(kn.out _ jz.out).mono ?_;rintro e V1 ⟨rfl,hb⟩;have cH:=aa (jz.out.trans (hb.mono jz.out.size));refine hK.out _ _ (fun w'=>Below W0.heap.size W0 w') (fun _ h=>h) cH.out ?_;clear hK K hb
 iterate 3
  refine aw (v:= ?_) (by rfl) (by rfl) (fun w' hS=> ?_) (fun K hK=> ?_);rotate_left
  ·clear hS;go_simp;try with_reducible rfl
  go_simp;refine hK _ ?_;clear hK K
 show wpList _ _ _ _ _ _;simp only[wpList];exact h _ _ _ _ _ _ _ _ _ _ _ _ _ _ _ _ _ _ _ _ _ _ cH.out
theorem Uw {W0:World} {q g c:Nat} {m:X.M} {v:Value} {S VK WV:ByteArray} {Q:Exit→Act→World→Prop} (hQ:∀c a d v w,Q (.panic c) (Act.put a d v) w→Q (.panic c) a w) (qM:Hid (∀w',Below W0.heap.size W0 w'→w'.heap[q]? =some (.cells #[.string ⟨#[102]⟩, .int .i64 (m.size:Nat), .slice (some ⟨g,0,none⟩) m.ks.length c, .bool m.there,v, .int .i64 (m.time:Nat), .int .u8 (m.mode:Nat), .bool m.ord, .int .i64 (m.key:Nat), .bool m.lost, .string ⟨m.value.toArray⟩, .int .i64 (m.at_:Nat), .bool m.same, .string ⟨m.last.toArray⟩, .bool m.read, .string WV] 34 (0,0)))) (kn:Hid (∀W,Below W0.heap.size W0 W→Calls Tryz.prog 52 #[.pointer (some ⟨q,0,none⟩), .int .i64 0, .string S] W fun e w'=>e= .returned (.string VK)∧Below W.heap.size W w')) (res:Bool) (e:res=(m.ord&&(((m.mode:Int) !=3)&&(Op.bytesLess VK.toList WV.toList||(VK.toList==WV.toList)))))
  (u2 u3 u4 u5 u6 u7 u8 u9 eU dF kj fU fV fW u16 fX fY ei ej en eo u23 u24 gD u26 gF u28 gG gH gI u32 u33 gJ gK gL gM gN gO gP ep er eu u44 ew ey ez eB eC eD eE eF eG eH eI eJ eK eL eM:Value) (h:∀(d20 d21 d22 d23 d24 d25 d26 d27 d28 d29 d30 d31 d32 d33 d34 d35 d36 d37 d38 d39 d40:Value) (W':World),Below W0.heap.size W0 W'→Q .normal (⟨#[.pointer (some ⟨q,0,none⟩), .string S,u2,u3,u4,u5,u6,u7,u8,u9,eU,dF,kj,fU,fV,fW,u16,fX,fY, .bool res,d20,d21,d22,d23,d24,d25,d26,d27,d28,d29,d30,d31,d32,d33,d34,d35,d36,d37,d38,d39,d40,ep,er,eu,u44,ew,ey,ez,eB,eC,eD,eE,eF,eG,eH,eI,eJ,eK,eL,eM],[]⟩:Act) W'):Code.wp Tryz.prog rF Q (⟨#[.pointer (some ⟨q,0,none⟩), .string S,u2,u3,u4,u5,u6,u7,u8,u9,eU,dF,kj,fU,fV,fW,u16,fX,fY,ei,ej,en,eo,u23,u24,gD,u26,gF,u28,gG,gH,gI,u32,u33,gJ,gK,gL,gM,gN,gO,gP,ep,er,eu,u44,ew,ey,ez,eB,eC,eD,eE,eF,eG,eH,eI,eJ,eK,eL,eM],[]⟩:Act) W0:=by
 cases ho:m.ord with
 |false=>
  rw[ho,Bool.false_and]at e;subst e;exact Ur hQ qM kn ho u2 u3 u4 u5 u6 u7 u8 u9 eU dF kj fU fV fW u16 fX fY ei ej en eo u23 u24 gD u26 gF u28 gG gH gI u32 u33 gJ gK gL gM gN gO gP ep er eu u44 ew ey ez eB eC eD eE eF eG eH eI eJ eK eL eM h
 |true=>
  rw[ho,Bool.true_and]at e;cases hm:(m.mode:Int) !=3 with
  |false=>
   rw[hm,Bool.false_and]at e;subst e;exact Us hQ qM kn ho hm u2 u3 u4 u5 u6 u7 u8 u9 eU dF kj fU fV fW u16 fX fY ei ej en eo u23 u24 gD u26 gF u28 gG gH gI u32 u33 gJ gK gL gM gN gO gP ep er eu u44 ew ey ez eB eC eD eE eF eG eH eI eJ eK eL eM h
  |true=>
   rw[hm,Bool.true_and]at e;cases h1:Op.bytesLess VK.toList WV.toList with
   |true=>
    rw[h1,Bool.true_or]at e;subst e;exact Ut hQ qM kn ho hm h1 u2 u3 u4 u5 u6 u7 u8 u9 eU dF kj fU fV fW u16 fX fY ei ej en eo u23 u24 gD u26 gF u28 gG gH gI u32 u33 gJ gK gL gM gN gO gP ep er eu u44 ew ey ez eB eC eD eE eF eG eH eI eJ eK eL eM h
   |false=>
    rw[h1,Bool.false_or]at e;cases h2:VK.toList==WV.toList with
    |true=>
     rw[h2]at e;subst e;exact Uu hQ qM kn ho hm h1 h2 u2 u3 u4 u5 u6 u7 u8 u9 eU dF kj fU fV fW u16 fX fY ei ej en eo u23 u24 gD u26 gF u28 gG gH gI u32 u33 gJ gK gL gM gN gO gP ep er eu u44 ew ey ez eB eC eD eE eF eG eH eI eJ eK eL eM h
    |false=>
     rw[h2]at e;subst e;exact Uv hQ qM kn ho hm h1 h2 u2 u3 u4 u5 u6 u7 u8 u9 eU dF kj fU fV fW u16 fX fY ei ej en eo u23 u24 gD u26 gF u28 gG gH gI u32 u33 gJ gK gL gM gN gO gP ep er eu u44 ew ey ez eB eC eD eE eF eG eH eI eJ eK eL eM h
section
variable {w w' : World} {q g c ct : Nat} {M : Nat → Prop} {m : X.M} {v : Value} {l : List HP}
def Pj (w:World) (q g c:Nat) (M:Nat→Prop) (m:X.M) (b:J.B) (e:Ending) (w':World):Prop:=e= .returned (.string ⟨(m.write b).2.toArray⟩)∧∃v' l',HR w q g c M (m.write b).1 v' l' w'
theorem Ci (h:oL w q g c M m v l) (b:J.B) (hc:X.cB [52,56] [2,4,3] m.mode≠X.good):
  Calls Tryz.prog 16 #[.pointer (some ⟨q,0,none⟩), .string ⟨b.toArray⟩] w fun e w'=>e= .returned (.string ⟨(m.write b).2.toArray⟩)∧∃v' l',HR w q g c M (m.write b).1 v' l' w':=by
 unfold X.M.write;rw[if_pos hc];have HM:=aa (EC h.row [52,56] 2 4 3 [2,4,3] (by simp) hc);have HS:=aa (C9 h);obtain⟨F9,Pz⟩:=Ay (NK [52,56] [2,4,3] m.mode (by decide));clear h hc;generalize(⟨(X.cB [52,56] [2,4,3] m.mode).toArray⟩:ByteArray)=S at HM F9 Pz⊢;go_enter Tryz.func16,Tryz.ntmps16;go_wp2_with fail;refine HM.out.mono ?_;rintro e w1 ⟨rfl,rfl⟩;go_wp2;go_ret;exact⟨rfl,_,_,HS.out⟩
theorem KU (he:l.map (·.1)=m.rows) {p:J.B} (hn:∀x∈l,X.val m.ks 0 x.1.b≠p):m.find p=none:=by
 unfold X.M.find;rw[←he];exact B6 (p:=fun r=>decide (X.val m.ks 0 r.b=p)) (fun t ht=>decide_eq_false (hn _ (List.getElem_mem ht)))
theorem KV (he:l.map (·.1)=m.rows) {p:J.B} {j:Nat} (hj:j<l.length) (hp:X.val m.ks 0 l[j].1.b=p):(m.find p).isSome=true:=by
 unfold X.M.find;rw[←he,List.find?_isSome];exact⟨l[j].1,List.mem_map_of_mem (List.getElem_mem hj),decide_eq_true hp⟩
theorem EU (h:oL w q g c M m v l) (hM:∀k,M k→k<w.heap.size) (hf:jI m l) (N1:m.time≤100000) (b:J.B) (hbl:b.length≤1000000) (hc:X.cB [52,56] [2,4,3] m.mode=X.good):
  Calls Tryz.prog 16 #[.pointer (some ⟨q,0,none⟩), .string ⟨b.toArray⟩] w (Pj w q g c M m b):=by
 have KW:Hid (m.write b=if X.bg m.ks m.size b=false then(m.aO,[52,52])
  else if m.ord=true∧m.mode≠3∧¬m.written<X.val m.ks 0 b then(m.aO,[50,49])
  else if(m.find (X.val m.ks 0 b)).isSome∨m.dZ b none=[50,50]then(m.aO,[50,50])
  else({m.aO.put b none with written:=X.val m.ks 0 b},m.dZ b none)):=aa (by unfold X.M.write;rw[if_neg (Decidable.not_not.2 hc)])
 have HM:=aa (EB h.row [52,56] 2 4 3 [2,4,3] (by simp) (by decide) hc);have hcc:=fun j=>ag w q j _ _ _ h.row;have hz:=az h.row;have HH:Hid (HR w q g c M m.aO v l (w.setCell ⟨q,14,none⟩ (.bool false))):=aa ((C9 h).set 14 (.bool false) (aC h.row 14 _) rfl rfl);have HF:Hid (jI m.aO l):=aa ⟨hf.fit,hf.ts,hf.ks,hf.len⟩;have KN:=aa hM;have FB:=aa N1;have FC:=aa hbl;have BR:=aa h.eq;have oM:=aa hf.ks;generalize hS:(⟨b.toArray⟩:ByteArray)=S;have JS:=aa hS;clear h hM hf N1 hbl hc hS;go_enter Tryz.func16,Tryz.ntmps16;go_wp2_with fail;refine HM.out.mono ?_;rintro e w1 ⟨rfl,rfl⟩;clear HM;go_upto_region 5 with fail;refine aG (fun Y=>HR w q g c M m.aO v l Y) HH.out ?_;rintro W1 h1;have H1:=aa h1;have FI:=aa (Es h1.2 oM.out b FC.out);rw[JS.out]at FI;rw[show X.bg m.aO.ks m.aO.size b=X.bg m.ks m.size b from rfl]at FI;clear h1 HH hcc hz;cases Kc:X.bg m.ks m.size b with
 |false=>
  rw[Kc]at FI;have KX:=aa (KW.out.trans (if_pos Kc));clear Kc;go_wp2_with fail;refine FI.out.mono ?_;rintro e W2 ⟨rfl,hb⟩;have H2:=aa (H1.out.below hb);clear hb FI;go_wp2;go_ret;unfold Pj;rw[KX.out];exact⟨rfl,_,_,H2.out⟩
 |true=>
  rw[Kc]at FI;replace KW:=aa (KW.out.trans (if_neg (by rw[Kc];decide)));have Cb:=aa Kc;clear Kc;go_wp2_with fail;refine FI.out.mono ?_;rintro e W2 ⟨rfl,hb⟩;have H2:=aa (H1.out.below hb);have kn:=aa (fun(W:World) (hb:Below W2.heap.size W2 W)=>hpart_any (H2.out.below hb).2.row (H2.out.below hb).2.ks 0 oM.out.one.1 b ((X.aM.1 Cb.out).2 _ (X.aR oM.out.one.1)) FC.out);have qM:=aa (fun(W:World) (hb:Below W2.heap.size W2 W)=>(H2.out.below hb).2.row);rw[JS.out]at kn;clear hb FI H1;go_upto_region 7 with fail;refine Uw (m:=m.aO) (fun c a d v w h=>by cases d<;>exact h) (aa qM.out) (aa kn.out) _ rfl _ _ _ _ _ _ _ _ _ _ _ _ _ _ _ _ _ _ _ _ _ _ _ _ _ _ _ _ _ _ _ _ _ _ _ _ _ _ _ _ _ _ _ _ _ _ _ _ _ _ _ _ _ _ _ _ _ _ ?_;intro d20 d21 d22 d23 d24 d25 d26 d27 d28 d29 d30 d31 d32 d33 d34 d35 d36 d37 d38 d39 d40 W3 hb3;have cO:=aa hb3;have SA:Hid (((m.aO).ord&&((((m.aO).mode:Int) !=3)&&(Op.bytesLess (⟨(X.val m.aO.ks 0 b).toArray⟩:ByteArray).toList (⟨(m.aO).written.toArray⟩:ByteArray).toList||((⟨(X.val m.aO.ks 0 b).toArray⟩:ByteArray).toList==(⟨(m.aO).written.toArray⟩:ByteArray).toList))))=decide (m.ord=true∧m.mode≠3∧¬m.written<X.val m.ks 0 b)):=aa (by
   rw[ea,NJ];show(m.ord&&(((m.mode:Int) !=3)&&(decide (X.val m.ks 0 b<m.written)||decide (X.val m.ks 0 b=m.written))))=_;have e1:((m.mode:Int) !=3)=decide (m.mode≠3):=by
    by_cases h3:m.mode=3
    ·rw[h3];rfl
    ·rw[decide_eq_true h3];simp;omega
   have e2:(decide (X.val m.ks 0 b<m.written)||decide (X.val m.ks 0 b=m.written))=decide (¬m.written<X.val m.ks 0 b):=by
    rw[Bool.eq_iff_iff,Bool.or_eq_true,decide_eq_true_eq,decide_eq_true_eq,decide_eq_true_eq];constructor
    ·rintro(h1|h1)
     ·exact List.lt_asymm h1
     ·rw[h1];exact List.lt_irrefl _
    ·intro h1;rcases List.le_iff_lt_or_eq.1 (List.not_lt.1 h1)with h2|h2
     ·exact .inl h2
     ·exact .inr h2
   rw[e1,e2];cases m.ord<;>simp)
  clear hb3;by_cases dL:m.ord=true∧m.mode≠3∧¬m.written<X.val m.ks 0 b
  ·have KX:=aa (KW.out.trans (if_pos dL));have HX:Hid _:=aa (SA.out.trans (decide_eq_true dL));have H3:=aa (H2.out.below cO.out);rw[HX.out];clear dL SA HX kn qM;go_wp2;go_ret;unfold Pj;rw[KX.out];exact⟨rfl,_,_,H3.out⟩
  ·replace KW:=aa (KW.out.trans (if_neg dL));have HX:Hid _:=aa (SA.out.trans (decide_eq_false dL));rw[HX.out];have H3:=aa (H2.out.below cO.out);have SB:=aa (kn.out _ cO.out);have Hy:=aa (fun(W:World) (hb:Below W3.heap.size W3 W)=>Ep (H3.out.below hb).2 oM.out HF.out.fit HF.out.len (X.val m.ks 0 b));rw[show m.aO.ks=m.ks from rfl]at SB;generalize Sv:(⟨(X.val m.ks 0 b).toArray⟩:ByteArray)=VK at SB Hy;have WI:=aa Sv;clear dL SA HX kn qM Sv;go_wp2_with fail;refine SB.out.mono ?_;rintro e W4 ⟨rfl,hb⟩;have jV:=aa hb;clear hb SB;go_wp2_with fail;refine(Hy.out _ jV.out).mono ?_;rintro e W5 ⟨⟨z,rfl,hz⟩,hb⟩;have H5:=aa ((H3.out.below jV.out).below hb);have WJ:=aa hz;clear hb Hy jV;rcases hz with⟨j,hj,rfl,hp⟩|⟨rfl,hno⟩
   ·have KX:=aa (KW.out.trans (if_pos (.inl (KV BR.out hj hp))));have hzz:(0:Int)≤(j:Nat):=(by omega);clear hp hj WJ;go_wp2;go_ret;unfold Pj;rw[KX.out];exact⟨rfl,_,_,H5.out⟩
   ·have PW:=aa hno;have SC:=aa (Il H5.out.2 (fun k hk=>aq (KN.out k hk) H5.out.1.size) HF.out b Cb.out FB.out l.length (-1) (.inr ⟨rfl,rfl⟩) none (by rw[List.getElem?_eq_none (Nat.le_refl _)];rfl));have KY:=aa (KU BR.out hno);have YK:Hid (NP m.aO b l l.length none=m.aO.put b none):=aa (Ic BR.out hno);rw[JS.out]at SC;clear hno WJ;go_wp2_with fail;refine SC.out.mono ?_;rintro e W6 ⟨rfl,hw⟩;rw[show m.aO.dZ b none=m.dZ b none from rfl]at hw⊢;rcases hw with⟨cA,hb⟩|⟨cA,v',tv,hr⟩
    ·have KX:=aa (KW.out.trans (if_pos (.inr cA)));have H6:=aa (H5.out.below hb);rw[cA];clear hb cA SC;go_wp2;go_ret;unfold Pj;rw[KX.out];exact⟨rfl,_,_,H6.out⟩
    ·have KX:=aa (KW.out.trans (if_neg (fun hh=>hh.elim (fun h1=>by rw[KY.out]at h1;cases h1) (fun h1=>cA h1))));have H6:=aa (H5.out.trans hr);have hne:(⟨(m.dZ b none).toArray⟩:ByteArray).toList≠[50,50]:=(by rw[ByteArray.toList_eq];exact cA);have Ux:((⟨(m.dZ b none).toArray⟩:ByteArray).toList==[50,50])=false:=(by simpa using hne);have Uy:=aa (fun(W:World) (hb:Below W6.heap.size W6 W)=>hpart_any (H6.out.below hb).2.row (H6.out.below hb).2.ks 0 oM.out.one.1 b ((X.aM.1 Cb.out).2 _ (X.aR oM.out.one.1)) FC.out);rw[JS.out,show(NP m.aO b l l.length none).ks=m.ks from rfl,WI.out]at Uy;generalize WK:(⟨(m.dZ b none).toArray⟩:ByteArray)=CL at hne Ux⊢;have Uz:=aa WK;clear cA hr SC WK;go_wp2_with fail;refine(Uy.out _ (ai _ _)).mono ?_;rintro e W7 ⟨rfl,hb⟩;have H7:=aa (H6.out.below hb);have ZN:=az H7.out.2.row;have ZO:=fun j=>ag W7 q j _ _ _ H7.out.2.row;have H8:Hid (HR w q g c M {m.aO.put b none with written:=X.val m.ks 0 b} v' (l.eraseIdx l.length++[(⟨b,m.aO.times b none⟩,tv)]) (W7.setCell ⟨q,15,none⟩ (.string VK))):=by
      have:=H7.out.set (m':={NP m.aO b l l.length none with written:=X.val m.ks 0 b}) 15 (.string VK) (by rw[←WI.out];exact aC H7.out.2.row 15 _) rfl rfl;rw[YK.out]at this;exact aa this
     clear hb Uy hne;go_wp2;go_ret;unfold Pj;rw[KX.out];exact⟨by first|rfl|(rw[Uz.out];rfl),_,_,H8.out⟩
theorem Cj (h:oL w q g c M m v l) (hM:∀k,M k→k<w.heap.size) (hf:jI m l) (N1:m.time≤100000) (b:J.B) (hbl:b.length≤1000000):
  Calls Tryz.prog 16 #[.pointer (some ⟨q,0,none⟩), .string ⟨b.toArray⟩] w fun e w'=>e= .returned (.string ⟨(m.write b).2.toArray⟩)∧∃v' l',HR w q g c M (m.write b).1 v' l' w':=by
 by_cases hc:X.cB [52,56] [2,4,3] m.mode=X.good
 ·exact EU h hM hf N1 b hbl hc
 ·exact Ci h b hc
end
end Go.Proofs.YtipljcmmokaokaaGreat
