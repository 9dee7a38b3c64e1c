import Derived.Test.YtipljcmmokaokaaGreatQM34
set_option linter.unusedVariables false
set_option linter.unusedSimpArgs false
set_option maxHeartbeats 4000000
namespace Go.Proofs.YtipljcmmokaokaaGreat
open Go.RowKit Go.Lib Go.Maps Go.WideMaps Go.Sort
set_option maxRecDepth 100000
def ld (s:Nat):List X.Ky:=if s%4=1 then [⟨1,1,false⟩,⟨0,1,true⟩,⟨2,2,false⟩]else if s%4=2 then [⟨0,2,false⟩]else if s%4=3 then [⟨2,1,false⟩,⟨0,2,false⟩,⟨0,1,true⟩]else [⟨0,2,false⟩,⟨2,1,true⟩]
theorem QM (s:Nat):X.eo (ld s) 5:=by
 have:s%4=0∨s%4=1∨s%4=2∨s%4=3:=by omega
 unfold ld;rcases this with h|h|h|h<;>rw[h]<;>exact⟨by decide,by decide,by decide,rfl⟩
theorem qV {w:World} {g:Nat} {ks:List X.Ky} {C:Array Value} {o:Nat×Nat} (h:w.heap[g]? =some (.cells C 66 o)) (hp:∀(j:Nat) (u:Value),(cG ks)[j]? =some u→C[j]? =some u):dB w g ks:=
 ⟨(ai h).1,λj u hu=>by rw[cell_of_row w g j _ _ _ h];exact hp j u hu⟩
def yZ (w:World) (s:Nat) (e:Ending) (w':World):Prop:=∃g c,e= .returned (lT [102] 5 (.slice (some ⟨g,0,none⟩) (ld s).length c))∧Below w.heap.size w w'∧(ld s).length≤c∧w.heap.size≤g∧dB w' g (ld s)
theorem YT (s:Nat) (hs:s%4=0) (w:World):Calls Tryz.prog 10 #[.int .u8 (s:Nat)] w (yZ w s):=by
 have HE:Hid (ld s=[⟨0,2,false⟩,⟨2,1,true⟩]):=ae (by unfold ld;rw[hs];rfl);have fp:(s:Int).tmod 4=0:=by rw[Int.tmod_eq_emod_of_nonneg (by omega)];omega
 have Ve:(s:Int)%4=0:=by omega
 have HR:Hid ((((w.alloc (.cells #[.string ⟨#[102]⟩, .int .i64 5, .slice (some ⟨w.heap.size+1,0,none⟩) 2 2] 29)).alloc (.cells #[.int .i64 0, .int .i64 2, .bool false, .int .i64 2, .int .i64 1, .bool true] 66)).alloc (.cells #[.string ⟨#[102]⟩, .int .i64 5, .slice (some ⟨w.heap.size+1,0,none⟩) 2 2] 29)).heap[w.heap.size]? =some (.cells #[.string ⟨#[102]⟩, .int .i64 5, .slice (some ⟨w.heap.size+1,0,none⟩) 2 2] 29 (0,0))):=ae (bp ((ak _ _).alloc (aq _) _) (bp ((ak _ _).alloc (aq _) _) (heap_alloc_new w (.cells #[.string ⟨#[102]⟩, .int .i64 5, .slice (some ⟨w.heap.size+1,0,none⟩) 2 2] 29))));have HK:Hid ((((w.alloc (.cells #[.string ⟨#[102]⟩, .int .i64 5, .slice (some ⟨w.heap.size+1,0,none⟩) 2 2] 29)).alloc (.cells #[.int .i64 0, .int .i64 2, .bool false, .int .i64 2, .int .i64 1, .bool true] 66)).alloc (.cells #[.string ⟨#[102]⟩, .int .i64 5, .slice (some ⟨w.heap.size+1,0,none⟩) 2 2] 29)).heap[w.heap.size+1]? =some (.cells #[.int .i64 0, .int .i64 2, .bool false, .int .i64 2, .int .i64 1, .bool true] 66 (0,0))):=ae (by
  have h:(((w.alloc (.cells #[.string ⟨#[102]⟩, .int .i64 5, .slice (some ⟨w.heap.size+1,0,none⟩) 2 2] 29)).alloc (.cells #[.int .i64 0, .int .i64 2, .bool false, .int .i64 2, .int .i64 1, .bool true] 66)).alloc (.cells #[.string ⟨#[102]⟩, .int .i64 5, .slice (some ⟨w.heap.size+1,0,none⟩) 2 2] 29)).heap[(w.alloc (.cells #[.string ⟨#[102]⟩, .int .i64 5, .slice (some ⟨w.heap.size+1,0,none⟩) 2 2] 29)).heap.size]? =_:=bp ((ak _ _).alloc (aq _) _) (heap_alloc_new (w.alloc (.cells #[.string ⟨#[102]⟩, .int .i64 5, .slice (some ⟨w.heap.size+1,0,none⟩) 2 2] 29)) (.cells #[.int .i64 0, .int .i64 2, .bool false, .int .i64 2, .int .i64 1, .bool true] 66));simp only[World.size_alloc]at h;exact h)
 have HB:Hid (Below w.heap.size w (((w.alloc (.cells #[.string ⟨#[102]⟩, .int .i64 5, .slice (some ⟨w.heap.size+1,0,none⟩) 2 2] 29)).alloc (.cells #[.int .i64 0, .int .i64 2, .bool false, .int .i64 2, .int .i64 1, .bool true] 66)).alloc (.cells #[.string ⟨#[102]⟩, .int .i64 5, .slice (some ⟨w.heap.size+1,0,none⟩) 2 2] 29))):=ae ((((ak _ w).alloc (aq _) _).alloc (by simp) _).alloc (by simp;omega) _);clear hs;go_enter Tryz.func10,Tryz.ntmps10;go_wp2_with fail;refine bodyPost_ret (results_cell_row rfl _ _ w.heap.size _ _ _ _ rfl HR.out Tryz.underlying29 rfl (by kernel_rfl)) rfl ?_;unfold yZ;rw[HE.out];refine⟨_,2,rfl,HB.out,by decide,by omega,qV HK.out (λj u hu=> ?_)⟩;have hj:=(List.getElem?_eq_some_iff.1 hu).1;rw[←hu]
 match j,hj with
 |0,_=>rfl
 |1,_=>rfl
 |2,_=>rfl
 |3,_=>rfl
 |4,_=>rfl
 |5,_=>rfl
theorem YU (s:Nat) (hs:s%4=1) (w:World):Calls Tryz.prog 10 #[.int .u8 (s:Nat)] w (yZ w s):=by
 have HE:Hid (ld s=[⟨1,1,false⟩,⟨0,1,true⟩,⟨2,2,false⟩]):=ae (by unfold ld;rw[hs];rfl);have fp:(s:Int).tmod 4=1:=by rw[Int.tmod_eq_emod_of_nonneg (by omega)];omega
 have Ve:(s:Int)%4=1:=by omega
 have HR:Hid (((((w.alloc (.cells #[.string ⟨#[102]⟩, .int .i64 5, .slice (some ⟨w.heap.size+1+1+1,0,none⟩) 3 3] 29)).alloc (.cells #[.int .i64 0, .int .i64 2, .bool false, .int .i64 2, .int .i64 1, .bool true] 66)).alloc (.cells #[.string ⟨#[102]⟩, .int .i64 5, .slice (some ⟨w.heap.size+1+1+1,0,none⟩) 3 3] 29)).alloc (.cells #[.int .i64 1, .int .i64 1, .bool false, .int .i64 0, .int .i64 1, .bool true, .int .i64 2, .int .i64 2, .bool false] 66)).heap[w.heap.size]? =some (.cells #[.string ⟨#[102]⟩, .int .i64 5, .slice (some ⟨w.heap.size+1+1+1,0,none⟩) 3 3] 29 (0,0))):=ae (bp ((ak _ _).alloc (aq _) _) (bp ((ak _ _).alloc (aq _) _) (bp ((ak _ _).alloc (aq _) _) (heap_alloc_new w (.cells #[.string ⟨#[102]⟩, .int .i64 5, .slice (some ⟨w.heap.size+1+1+1,0,none⟩) 3 3] 29)))));have HK:Hid (((((w.alloc (.cells #[.string ⟨#[102]⟩, .int .i64 5, .slice (some ⟨w.heap.size+1+1+1,0,none⟩) 3 3] 29)).alloc (.cells #[.int .i64 0, .int .i64 2, .bool false, .int .i64 2, .int .i64 1, .bool true] 66)).alloc (.cells #[.string ⟨#[102]⟩, .int .i64 5, .slice (some ⟨w.heap.size+1+1+1,0,none⟩) 3 3] 29)).alloc (.cells #[.int .i64 1, .int .i64 1, .bool false, .int .i64 0, .int .i64 1, .bool true, .int .i64 2, .int .i64 2, .bool false] 66)).heap[w.heap.size+1+1+1]? =some (.cells #[.int .i64 1, .int .i64 1, .bool false, .int .i64 0, .int .i64 1, .bool true, .int .i64 2, .int .i64 2, .bool false] 66 (0,0))):=ae (by
  have h:((((w.alloc (.cells #[.string ⟨#[102]⟩, .int .i64 5, .slice (some ⟨w.heap.size+1+1+1,0,none⟩) 3 3] 29)).alloc (.cells #[.int .i64 0, .int .i64 2, .bool false, .int .i64 2, .int .i64 1, .bool true] 66)).alloc (.cells #[.string ⟨#[102]⟩, .int .i64 5, .slice (some ⟨w.heap.size+1+1+1,0,none⟩) 3 3] 29)).alloc (.cells #[.int .i64 1, .int .i64 1, .bool false, .int .i64 0, .int .i64 1, .bool true, .int .i64 2, .int .i64 2, .bool false] 66)).heap[(((w.alloc (.cells #[.string ⟨#[102]⟩, .int .i64 5, .slice (some ⟨w.heap.size+1+1+1,0,none⟩) 3 3] 29)).alloc (.cells #[.int .i64 0, .int .i64 2, .bool false, .int .i64 2, .int .i64 1, .bool true] 66)).alloc (.cells #[.string ⟨#[102]⟩, .int .i64 5, .slice (some ⟨w.heap.size+1+1+1,0,none⟩) 3 3] 29)).heap.size]? =_:=heap_alloc_new (((w.alloc (.cells #[.string ⟨#[102]⟩, .int .i64 5, .slice (some ⟨w.heap.size+1+1+1,0,none⟩) 3 3] 29)).alloc (.cells #[.int .i64 0, .int .i64 2, .bool false, .int .i64 2, .int .i64 1, .bool true] 66)).alloc (.cells #[.string ⟨#[102]⟩, .int .i64 5, .slice (some ⟨w.heap.size+1+1+1,0,none⟩) 3 3] 29)) (.cells #[.int .i64 1, .int .i64 1, .bool false, .int .i64 0, .int .i64 1, .bool true, .int .i64 2, .int .i64 2, .bool false] 66);simp only[World.size_alloc]at h;exact h)
 have HB:Hid (Below w.heap.size w ((((w.alloc (.cells #[.string ⟨#[102]⟩, .int .i64 5, .slice (some ⟨w.heap.size+1+1+1,0,none⟩) 3 3] 29)).alloc (.cells #[.int .i64 0, .int .i64 2, .bool false, .int .i64 2, .int .i64 1, .bool true] 66)).alloc (.cells #[.string ⟨#[102]⟩, .int .i64 5, .slice (some ⟨w.heap.size+1+1+1,0,none⟩) 3 3] 29)).alloc (.cells #[.int .i64 1, .int .i64 1, .bool false, .int .i64 0, .int .i64 1, .bool true, .int .i64 2, .int .i64 2, .bool false] 66))):=ae (((((ak _ w).alloc (aq _) _).alloc (by simp) _).alloc (by simp;omega) _).alloc (by simp;omega) _);clear hs;go_enter Tryz.func10,Tryz.ntmps10;go_wp2_with fail;refine bodyPost_ret (results_cell_row rfl _ _ w.heap.size _ _ _ _ rfl HR.out Tryz.underlying29 rfl (by kernel_rfl)) rfl ?_;unfold yZ;rw[HE.out];refine⟨_,3,rfl,HB.out,by decide,by omega,qV HK.out (λj u hu=> ?_)⟩;have hj:=(List.getElem?_eq_some_iff.1 hu).1;rw[←hu]
 match j,hj with
 |0,_=>rfl
 |1,_=>rfl
 |2,_=>rfl
 |3,_=>rfl
 |4,_=>rfl
 |5,_=>rfl
 |6,_=>rfl
 |7,_=>rfl
 |8,_=>rfl
theorem YV (s:Nat) (hs:s%4=2) (w:World):Calls Tryz.prog 10 #[.int .u8 (s:Nat)] w (yZ w s):=by
 have HE:Hid (ld s=[⟨0,2,false⟩]):=ae (by unfold ld;rw[hs];rfl);have fp:(s:Int).tmod 4=2:=by rw[Int.tmod_eq_emod_of_nonneg (by omega)];omega
 have Ve:(s:Int)%4=2:=by omega
 have HR:Hid ((((w.alloc (.cells #[.string ⟨#[102]⟩, .int .i64 5, .slice (some ⟨w.heap.size+1,0,none⟩) 1 2] 29)).alloc (.cells #[.int .i64 0, .int .i64 2, .bool false, .int .i64 2, .int .i64 1, .bool true] 66)).alloc (.cells #[.string ⟨#[102]⟩, .int .i64 5, .slice (some ⟨w.heap.size+1,0,none⟩) 1 2] 29)).heap[w.heap.size]? =some (.cells #[.string ⟨#[102]⟩, .int .i64 5, .slice (some ⟨w.heap.size+1,0,none⟩) 1 2] 29 (0,0))):=ae (bp ((ak _ _).alloc (aq _) _) (bp ((ak _ _).alloc (aq _) _) (heap_alloc_new w (.cells #[.string ⟨#[102]⟩, .int .i64 5, .slice (some ⟨w.heap.size+1,0,none⟩) 1 2] 29))));have HK:Hid ((((w.alloc (.cells #[.string ⟨#[102]⟩, .int .i64 5, .slice (some ⟨w.heap.size+1,0,none⟩) 1 2] 29)).alloc (.cells #[.int .i64 0, .int .i64 2, .bool false, .int .i64 2, .int .i64 1, .bool true] 66)).alloc (.cells #[.string ⟨#[102]⟩, .int .i64 5, .slice (some ⟨w.heap.size+1,0,none⟩) 1 2] 29)).heap[w.heap.size+1]? =some (.cells #[.int .i64 0, .int .i64 2, .bool false, .int .i64 2, .int .i64 1, .bool true] 66 (0,0))):=ae (by
  have h:(((w.alloc (.cells #[.string ⟨#[102]⟩, .int .i64 5, .slice (some ⟨w.heap.size+1,0,none⟩) 1 2] 29)).alloc (.cells #[.int .i64 0, .int .i64 2, .bool false, .int .i64 2, .int .i64 1, .bool true] 66)).alloc (.cells #[.string ⟨#[102]⟩, .int .i64 5, .slice (some ⟨w.heap.size+1,0,none⟩) 1 2] 29)).heap[(w.alloc (.cells #[.string ⟨#[102]⟩, .int .i64 5, .slice (some ⟨w.heap.size+1,0,none⟩) 1 2] 29)).heap.size]? =_:=bp ((ak _ _).alloc (aq _) _) (heap_alloc_new (w.alloc (.cells #[.string ⟨#[102]⟩, .int .i64 5, .slice (some ⟨w.heap.size+1,0,none⟩) 1 2] 29)) (.cells #[.int .i64 0, .int .i64 2, .bool false, .int .i64 2, .int .i64 1, .bool true] 66));simp only[World.size_alloc]at h;exact h)
 have HB:Hid (Below w.heap.size w (((w.alloc (.cells #[.string ⟨#[102]⟩, .int .i64 5, .slice (some ⟨w.heap.size+1,0,none⟩) 1 2] 29)).alloc (.cells #[.int .i64 0, .int .i64 2, .bool false, .int .i64 2, .int .i64 1, .bool true] 66)).alloc (.cells #[.string ⟨#[102]⟩, .int .i64 5, .slice (some ⟨w.heap.size+1,0,none⟩) 1 2] 29))):=ae ((((ak _ w).alloc (aq _) _).alloc (by simp) _).alloc (by simp;omega) _);clear hs;go_enter Tryz.func10,Tryz.ntmps10;go_wp2_with fail;refine bodyPost_ret (results_cell_row rfl _ _ w.heap.size _ _ _ _ rfl HR.out Tryz.underlying29 rfl (by kernel_rfl)) rfl ?_;unfold yZ;rw[HE.out];refine⟨_,2,rfl,HB.out,by decide,by omega,qV HK.out (λj u hu=> ?_)⟩;have hj:=(List.getElem?_eq_some_iff.1 hu).1;rw[←hu]
 match j,hj with
 |0,_=>rfl
 |1,_=>rfl
 |2,_=>rfl
theorem YW (s:Nat) (hs:s%4=3) (w:World):Calls Tryz.prog 10 #[.int .u8 (s:Nat)] w (yZ w s):=by
 have HE:Hid (ld s=[⟨2,1,false⟩,⟨0,2,false⟩,⟨0,1,true⟩]):=ae (by unfold ld;rw[hs];rfl);have fp:(s:Int).tmod 4=3:=by rw[Int.tmod_eq_emod_of_nonneg (by omega)];omega
 have Ve:(s:Int)%4=3:=by omega
 have HR:Hid (((((w.alloc (.cells #[.string ⟨#[102]⟩, .int .i64 5, .slice (some ⟨w.heap.size+1+1+1,0,none⟩) 3 3] 29)).alloc (.cells #[.int .i64 0, .int .i64 2, .bool false, .int .i64 2, .int .i64 1, .bool true] 66)).alloc (.cells #[.string ⟨#[102]⟩, .int .i64 5, .slice (some ⟨w.heap.size+1+1+1,0,none⟩) 3 3] 29)).alloc (.cells #[.int .i64 2, .int .i64 1, .bool false, .int .i64 0, .int .i64 2, .bool false, .int .i64 0, .int .i64 1, .bool true] 66)).heap[w.heap.size]? =some (.cells #[.string ⟨#[102]⟩, .int .i64 5, .slice (some ⟨w.heap.size+1+1+1,0,none⟩) 3 3] 29 (0,0))):=ae (bp ((ak _ _).alloc (aq _) _) (bp ((ak _ _).alloc (aq _) _) (bp ((ak _ _).alloc (aq _) _) (heap_alloc_new w (.cells #[.string ⟨#[102]⟩, .int .i64 5, .slice (some ⟨w.heap.size+1+1+1,0,none⟩) 3 3] 29)))));have HK:Hid (((((w.alloc (.cells #[.string ⟨#[102]⟩, .int .i64 5, .slice (some ⟨w.heap.size+1+1+1,0,none⟩) 3 3] 29)).alloc (.cells #[.int .i64 0, .int .i64 2, .bool false, .int .i64 2, .int .i64 1, .bool true] 66)).alloc (.cells #[.string ⟨#[102]⟩, .int .i64 5, .slice (some ⟨w.heap.size+1+1+1,0,none⟩) 3 3] 29)).alloc (.cells #[.int .i64 2, .int .i64 1, .bool false, .int .i64 0, .int .i64 2, .bool false, .int .i64 0, .int .i64 1, .bool true] 66)).heap[w.heap.size+1+1+1]? =some (.cells #[.int .i64 2, .int .i64 1, .bool false, .int .i64 0, .int .i64 2, .bool false, .int .i64 0, .int .i64 1, .bool true] 66 (0,0))):=ae (by
  have h:((((w.alloc (.cells #[.string ⟨#[102]⟩, .int .i64 5, .slice (some ⟨w.heap.size+1+1+1,0,none⟩) 3 3] 29)).alloc (.cells #[.int .i64 0, .int .i64 2, .bool false, .int .i64 2, .int .i64 1, .bool true] 66)).alloc (.cells #[.string ⟨#[102]⟩, .int .i64 5, .slice (some ⟨w.heap.size+1+1+1,0,none⟩) 3 3] 29)).alloc (.cells #[.int .i64 2, .int .i64 1, .bool false, .int .i64 0, .int .i64 2, .bool false, .int .i64 0, .int .i64 1, .bool true] 66)).heap[(((w.alloc (.cells #[.string ⟨#[102]⟩, .int .i64 5, .slice (some ⟨w.heap.size+1+1+1,0,none⟩) 3 3] 29)).alloc (.cells #[.int .i64 0, .int .i64 2, .bool false, .int .i64 2, .int .i64 1, .bool true] 66)).alloc (.cells #[.string ⟨#[102]⟩, .int .i64 5, .slice (some ⟨w.heap.size+1+1+1,0,none⟩) 3 3] 29)).heap.size]? =_:=heap_alloc_new (((w.alloc (.cells #[.string ⟨#[102]⟩, .int .i64 5, .slice (some ⟨w.heap.size+1+1+1,0,none⟩) 3 3] 29)).alloc (.cells #[.int .i64 0, .int .i64 2, .bool false, .int .i64 2, .int .i64 1, .bool true] 66)).alloc (.cells #[.string ⟨#[102]⟩, .int .i64 5, .slice (some ⟨w.heap.size+1+1+1,0,none⟩) 3 3] 29)) (.cells #[.int .i64 2, .int .i64 1, .bool false, .int .i64 0, .int .i64 2, .bool false, .int .i64 0, .int .i64 1, .bool true] 66);simp only[World.size_alloc]at h;exact h)
 have HB:Hid (Below w.heap.size w ((((w.alloc (.cells #[.string ⟨#[102]⟩, .int .i64 5, .slice (some ⟨w.heap.size+1+1+1,0,none⟩) 3 3] 29)).alloc (.cells #[.int .i64 0, .int .i64 2, .bool false, .int .i64 2, .int .i64 1, .bool true] 66)).alloc (.cells #[.string ⟨#[102]⟩, .int .i64 5, .slice (some ⟨w.heap.size+1+1+1,0,none⟩) 3 3] 29)).alloc (.cells #[.int .i64 2, .int .i64 1, .bool false, .int .i64 0, .int .i64 2, .bool false, .int .i64 0, .int .i64 1, .bool true] 66))):=ae (((((ak _ w).alloc (aq _) _).alloc (by simp) _).alloc (by simp;omega) _).alloc (by simp;omega) _);clear hs;go_enter Tryz.func10,Tryz.ntmps10;go_wp2_with fail;refine bodyPost_ret (results_cell_row rfl _ _ w.heap.size _ _ _ _ rfl HR.out Tryz.underlying29 rfl (by kernel_rfl)) rfl ?_;unfold yZ;rw[HE.out];refine⟨_,3,rfl,HB.out,by decide,by omega,qV HK.out (λj u hu=> ?_)⟩;have hj:=(List.getElem?_eq_some_iff.1 hu).1;rw[←hu]
 match j,hj with
 |0,_=>rfl
 |1,_=>rfl
 |2,_=>rfl
 |3,_=>rfl
 |4,_=>rfl
 |5,_=>rfl
 |6,_=>rfl
 |7,_=>rfl
 |8,_=>rfl
theorem Nw (s:Nat) (w:World):Calls Tryz.prog 10 #[.int .u8 (s:Nat)] w (yZ w s):=by
 have:s%4=0∨s%4=1∨s%4=2∨s%4=3:=by omega
 rcases this with h|h|h|h
 ·exact YT s h w
 ·exact YU s h w
 ·exact YV s h w
 ·exact YW s h w
def EE (x:UInt8):UInt8:=UInt8.ofNat (97+x.toNat%3)
def rc (b:J.B):J.B:=(b.take 7).map EE
theorem QN (x:UInt8):(EE x).toNat=97+x.toNat%3:=by unfold EE;rw[UInt8.toNat_ofNat'];omega
theorem pO (b:J.B):(rc b).length≤7:=by unfold rc;rw[List.length_map,List.length_take];omega
theorem Vf (j:Nat) (h:j≤100):Value.int .i64 (wrap64 ((j:Int)+1))= .int .i64 ((j+1:Nat):Int):=by rw[IntWalk.wrap64_in _ (by omega)];rfl
theorem Nx {base:Nat} (X:World) (hb:base≤X.heap.size):(X.alloc (.cells #[] 5)).ownsRow base 5 1 (.slice (some ⟨X.heap.size,0,none⟩) 0 0) 0 (dx []):=
 ⟨rfl, .inr ⟨X.heap.size,0,#[],rfl,hb,heap_alloc_new X _,aq _,Nat.zero_le _,rfl,rfl⟩⟩
theorem Vg (V:World) (x:UInt8):By (V.alloc (.cells #[u8 x] 5)) bF (some ⟨V.heap.size,0,none⟩) 1 [x]:=
 ⟨rfl,λ_=>⟨V.heap.size,0,rfl,by simp,λh=>h,λj hj=>by
  obtain rfl:j=0:=(by simpa using hj);rw[cell_of_row _ V.heap.size _ _ _ _ (heap_alloc_new V _)];rfl⟩⟩
theorem jo (v:Value) (b:J.B) (M:Nat→Prop) (w:World) (hv:Sl w M v b) (hbl:b.length≤1000000):
  Calls Tryz.prog 14 #[v] w λe w'=>∃v',e= .returned v'∧w'.ownsRow w.heap.size 5 1 v' (rc b).length (dx (rc b))∧v'≠ .slice none 0 0∧Below w.heap.size w w':=by
 obtain⟨A,c,rfl,hc,hby⟩:=hv.by
 have lY:=ae hby
 have sS:=ae (Nx w (aq _));have cn:=ae ((ak _ w).alloc (aq _) (.cells #[] 5));have vZ:=ae hbl;clear hv hby hbl hc;go_enter Tryz.func14,Tryz.ntmps14;go_wp2_with fail;go_loopw [3,4] (fun t u W=>∃i:Nat,i≤b.length∧i≤7∧u= .int .i64 i∧Hid (W.ownsRow w.heap.size 5 1 t i (dx ((b.take i).map EE)))∧t≠ .slice none 0 0∧Hid (Below w.heap.size w W)) (fun _ u _=>7 - (intOf u).toNat)
 case atStart=>exact⟨0,Nat.zero_le _,Nat.zero_le _,rfl,sS,(λe=>by cases e),cn⟩
 case round=>
  clear sS cn;obtain⟨i,hi,h7,rfl,HO,hne,HB⟩:=hrel;have XT:=ae hne;clear hne;by_cases hlt:i<b.length∧i<7
  ·obtain⟨hl,hl7⟩:=hlt;have PB:(i:Int)<(b.length:Nat):=(by omega);have ag3:(i:Int)<7:=(by omega);obtain⟨g,o,rfl,hg,hm,cq⟩:=lY.out.2 (by omega);have hx:wr.cell? ⟨g,o+i,none⟩=some (.int .u8 ((b[i]'hl).toNat:Nat)):=(HB.out.cell (p:=⟨g,o+i,none⟩) hg).trans (cq i hl);have II:Hid ((b.take (i+1)).map EE=(b.take i).map EE++[EE (b[i]'hl)]):=ae (by rw[List.take_succ_eq_append_getElem hl,List.map_append];rfl);have HI:=ae (show i+1≤b.length∧i+1≤7 from⟨hl,hl7⟩);obtain⟨Ao,co,vg⟩:=cJ HO.out;generalize b[i]'hl=x at hx II;have hxb:x.toNat<256:=x.toNat_lt;have hrc:97+((x.toNat:Nat):Int)%3=(((EE x).toNat:Nat):Int):=(by rw[QN];omega);subst vg;have JF:=ae (cD HO.out ((ak _ wr).alloc (aq _) (.cells #[.int .u8 ((EE x).toNat:Nat)] 5)));have Wd:=ae (Vg wr (EE x));have Mu:=ae (HB.out.alloc HB.out.size (.cells #[.int .u8 ((EE x).toNat:Nat)] 5));clear cq hm hg hxb hi h7;go_wp2_with (refine bq rfl _ _ rfl w.heap.size _ i ((b.take i).map EE) rfl JF.out bF _ 1 1 [EE x] rfl Wd.out (by have:=HI.out;omega) Mu.out.size ?_);intro v' w9 hown pq hloc hnil;obtain⟨A9,c9,rfl⟩:=cJ hown;have Eb:Hid (w9.ownsRow w.heap.size 5 1 (.slice A9 (i+1) c9) (i+1) (dx ((b.take (i+1)).map EE))):=ae (by rw[II.out];first|exact hown|(rw[List.map_take];exact hown));have pU:=ae (Mu.out.grown pq Mu.out.size (λk hk=>(JF.out.lt k hk).1));have HN9:Hid (Value.slice A9 (i+1) c9≠ .slice none 0 0):=ae (λe=>by injection e with _ e;cases e);clear hown pq hloc hnil;go_wp2;go_roundw
   case rel=>exact⟨i+1,HI.out.1,HI.out.2,by first|exact Vf i (by have:=HI.out;omega)|rfl,Eb,HN9.out,pU⟩
   case measure=>first|(rw[IntWalk.wrap64_in _ (by omega)];simp only[intOf];omega)|(simp only[intOf];omega)
  ·have nB:Hid ((b.take i).map EE=rc b∧i=(rc b).length):=ae (by
    unfold rc;by_cases h:i=7
    ·subst h;exact⟨rfl,by rw[List.length_map,List.length_take];omega⟩
    ·obtain rfl:i=b.length:=(by omega);rw[List.take_length,List.take_of_length_le (by omega),List.length_map];exact⟨rfl,rfl⟩)
   have dJ:¬(i:Int)<(b.length:Nat)∨(i:Int)<(b.length:Nat)∧¬(i:Int)<7:=(by omega);obtain⟨Ao,co,vg⟩:=cJ HO.out;subst vg;have gN:Hid (wr.ownsRow w.heap.size 5 1 (.slice Ao i co) (rc b).length (dx (rc b))):=ae (by
    have h:=HO.out;rw[nB.out.1]at h;generalize Value.slice Ao i co=vv at h⊢;rw[←nB.out.2];exact h)
   clear hlt hi h7;rcases dJ with h|⟨h1,h2⟩
   ·have hn:¬i<b.length:=(by omega);go_wp2;go_ret;exact⟨_,rfl,gN.out,XT.out,HB.out⟩
   ·have hn:i<b.length:=(by omega);go_wp2;go_ret;exact⟨_,rfl,gN.out,XT.out,HB.out⟩
end Go.Proofs.YtipljcmmokaokaaGreat
