import Derived.Test.YtipljcmmokaokaaGreatQM34
set_option linter.unusedVariables false
set_option linter.unusedSimpArgs false
set_option maxHeartbeats 4000000
namespace Go.Proofs.YtipljcmmokaokaaGreat
open Go.RowKit Go.Lib Go.Maps Go.WideMaps Go.Sort
set_option maxRecDepth 100000
def l8 (s:Nat):List X.Ky:=if s%4=1 then [⟨1,1,false⟩,⟨0,1,true⟩,⟨2,2,false⟩]else if s%4=2 then [⟨0,2,false⟩]else if s%4=3 then [⟨2,1,false⟩,⟨0,2,false⟩,⟨0,1,true⟩]else [⟨0,2,false⟩,⟨2,1,true⟩]
theorem Lg (s:Nat):X.fQ (l8 s) 5:=by
 have:s%4=0∨s%4=1∨s%4=2∨s%4=3:=by omega
 unfold l8;rcases this with h|h|h|h<;>rw[h]<;>exact⟨by decide,by decide,by decide,rfl⟩
theorem qH {w:World} {g:Nat} {ks:List X.Ky} {C:Array Value} {o:Nat×Nat} (h:w.heap[g]? =some (.cells C 66 o)) (hp:∀(j:Nat) (u:Value),(cJ ks)[j]? =some u→C[j]? =some u):eY w g ks:=
 ⟨(ah h).1,fun j u hu=>by rw[cell_of_row w g j _ _ _ h];exact hp j u hu⟩
def xL (w:World) (s:Nat) (e:Ending) (w':World):Prop:=∃g c,e= .returned (mq [102] 5 (.slice (some ⟨g,0,none⟩) (l8 s).length c))∧Below w.heap.size w w'∧(l8 s).length≤c∧w.heap.size≤g∧eY w' g (l8 s)
theorem Rv (s:Nat) (hs:s%4=0) (w:World):Calls Tryz.prog 10 #[.int .u8 (s:Nat)] w (xL w s):=by
 have HE:Hid (l8 s=[⟨0,2,false⟩,⟨2,1,true⟩]):=aa (by unfold l8;rw[hs];rfl);have jZ:(s:Int).tmod 4=0:=by rw[Int.tmod_eq_emod_of_nonneg (by omega)];omega
 have Om:(s:Int)%4=0:=by omega
 have HR:Hid ((((w.alloc (.cells #[.string ⟨#[102]⟩, .int .i64 5, .slice (some ⟨w.heap.size+1,0,none⟩) 2 2] 29)).alloc (.cells #[.int .i64 0, .int .i64 2, .bool false, .int .i64 2, .int .i64 1, .bool true] 66)).alloc (.cells #[.string ⟨#[102]⟩, .int .i64 5, .slice (some ⟨w.heap.size+1,0,none⟩) 2 2] 29)).heap[w.heap.size]? =some (.cells #[.string ⟨#[102]⟩, .int .i64 5, .slice (some ⟨w.heap.size+1,0,none⟩) 2 2] 29 (0,0))):=aa (bV ((ai _ _).alloc (aj _) _) (bV ((ai _ _).alloc (aj _) _) (heap_alloc_new w (.cells #[.string ⟨#[102]⟩, .int .i64 5, .slice (some ⟨w.heap.size+1,0,none⟩) 2 2] 29))));have HK:Hid ((((w.alloc (.cells #[.string ⟨#[102]⟩, .int .i64 5, .slice (some ⟨w.heap.size+1,0,none⟩) 2 2] 29)).alloc (.cells #[.int .i64 0, .int .i64 2, .bool false, .int .i64 2, .int .i64 1, .bool true] 66)).alloc (.cells #[.string ⟨#[102]⟩, .int .i64 5, .slice (some ⟨w.heap.size+1,0,none⟩) 2 2] 29)).heap[w.heap.size+1]? =some (.cells #[.int .i64 0, .int .i64 2, .bool false, .int .i64 2, .int .i64 1, .bool true] 66 (0,0))):=aa (by
  have h:(((w.alloc (.cells #[.string ⟨#[102]⟩, .int .i64 5, .slice (some ⟨w.heap.size+1,0,none⟩) 2 2] 29)).alloc (.cells #[.int .i64 0, .int .i64 2, .bool false, .int .i64 2, .int .i64 1, .bool true] 66)).alloc (.cells #[.string ⟨#[102]⟩, .int .i64 5, .slice (some ⟨w.heap.size+1,0,none⟩) 2 2] 29)).heap[(w.alloc (.cells #[.string ⟨#[102]⟩, .int .i64 5, .slice (some ⟨w.heap.size+1,0,none⟩) 2 2] 29)).heap.size]? =_:=bV ((ai _ _).alloc (aj _) _) (heap_alloc_new (w.alloc (.cells #[.string ⟨#[102]⟩, .int .i64 5, .slice (some ⟨w.heap.size+1,0,none⟩) 2 2] 29)) (.cells #[.int .i64 0, .int .i64 2, .bool false, .int .i64 2, .int .i64 1, .bool true] 66));simp only[World.size_alloc]at h;exact h)
 have HB:Hid (Below w.heap.size w (((w.alloc (.cells #[.string ⟨#[102]⟩, .int .i64 5, .slice (some ⟨w.heap.size+1,0,none⟩) 2 2] 29)).alloc (.cells #[.int .i64 0, .int .i64 2, .bool false, .int .i64 2, .int .i64 1, .bool true] 66)).alloc (.cells #[.string ⟨#[102]⟩, .int .i64 5, .slice (some ⟨w.heap.size+1,0,none⟩) 2 2] 29))):=aa ((((ai _ w).alloc (aj _) _).alloc (by simp) _).alloc (by simp;omega) _);clear hs;go_enter Tryz.func10,Tryz.ntmps10;go_wp2_with fail;refine bodyPost_ret (results_cell_row rfl _ _ w.heap.size _ _ _ _ rfl HR.out Tryz.underlying29 rfl (by kernel_rfl)) rfl ?_;unfold xL;rw[HE.out];refine⟨_,2,rfl,HB.out,by decide,by omega,qH HK.out (fun j u hu=> ?_)⟩;have hj:=(List.getElem?_eq_some_iff.1 hu).1;rw[←hu]
 match j,hj with
 |0,_=>rfl
 |1,_=>rfl
 |2,_=>rfl
 |3,_=>rfl
 |4,_=>rfl
 |5,_=>rfl
theorem Rw (s:Nat) (hs:s%4=1) (w:World):Calls Tryz.prog 10 #[.int .u8 (s:Nat)] w (xL w s):=by
 have HE:Hid (l8 s=[⟨1,1,false⟩,⟨0,1,true⟩,⟨2,2,false⟩]):=aa (by unfold l8;rw[hs];rfl);have jZ:(s:Int).tmod 4=1:=by rw[Int.tmod_eq_emod_of_nonneg (by omega)];omega
 have Om:(s:Int)%4=1:=by omega
 have HR:Hid (((((w.alloc (.cells #[.string ⟨#[102]⟩, .int .i64 5, .slice (some ⟨w.heap.size+1+1+1,0,none⟩) 3 3] 29)).alloc (.cells #[.int .i64 0, .int .i64 2, .bool false, .int .i64 2, .int .i64 1, .bool true] 66)).alloc (.cells #[.string ⟨#[102]⟩, .int .i64 5, .slice (some ⟨w.heap.size+1+1+1,0,none⟩) 3 3] 29)).alloc (.cells #[.int .i64 1, .int .i64 1, .bool false, .int .i64 0, .int .i64 1, .bool true, .int .i64 2, .int .i64 2, .bool false] 66)).heap[w.heap.size]? =some (.cells #[.string ⟨#[102]⟩, .int .i64 5, .slice (some ⟨w.heap.size+1+1+1,0,none⟩) 3 3] 29 (0,0))):=aa (bV ((ai _ _).alloc (aj _) _) (bV ((ai _ _).alloc (aj _) _) (bV ((ai _ _).alloc (aj _) _) (heap_alloc_new w (.cells #[.string ⟨#[102]⟩, .int .i64 5, .slice (some ⟨w.heap.size+1+1+1,0,none⟩) 3 3] 29)))));have HK:Hid (((((w.alloc (.cells #[.string ⟨#[102]⟩, .int .i64 5, .slice (some ⟨w.heap.size+1+1+1,0,none⟩) 3 3] 29)).alloc (.cells #[.int .i64 0, .int .i64 2, .bool false, .int .i64 2, .int .i64 1, .bool true] 66)).alloc (.cells #[.string ⟨#[102]⟩, .int .i64 5, .slice (some ⟨w.heap.size+1+1+1,0,none⟩) 3 3] 29)).alloc (.cells #[.int .i64 1, .int .i64 1, .bool false, .int .i64 0, .int .i64 1, .bool true, .int .i64 2, .int .i64 2, .bool false] 66)).heap[w.heap.size+1+1+1]? =some (.cells #[.int .i64 1, .int .i64 1, .bool false, .int .i64 0, .int .i64 1, .bool true, .int .i64 2, .int .i64 2, .bool false] 66 (0,0))):=aa (by
  have h:((((w.alloc (.cells #[.string ⟨#[102]⟩, .int .i64 5, .slice (some ⟨w.heap.size+1+1+1,0,none⟩) 3 3] 29)).alloc (.cells #[.int .i64 0, .int .i64 2, .bool false, .int .i64 2, .int .i64 1, .bool true] 66)).alloc (.cells #[.string ⟨#[102]⟩, .int .i64 5, .slice (some ⟨w.heap.size+1+1+1,0,none⟩) 3 3] 29)).alloc (.cells #[.int .i64 1, .int .i64 1, .bool false, .int .i64 0, .int .i64 1, .bool true, .int .i64 2, .int .i64 2, .bool false] 66)).heap[(((w.alloc (.cells #[.string ⟨#[102]⟩, .int .i64 5, .slice (some ⟨w.heap.size+1+1+1,0,none⟩) 3 3] 29)).alloc (.cells #[.int .i64 0, .int .i64 2, .bool false, .int .i64 2, .int .i64 1, .bool true] 66)).alloc (.cells #[.string ⟨#[102]⟩, .int .i64 5, .slice (some ⟨w.heap.size+1+1+1,0,none⟩) 3 3] 29)).heap.size]? =_:=heap_alloc_new (((w.alloc (.cells #[.string ⟨#[102]⟩, .int .i64 5, .slice (some ⟨w.heap.size+1+1+1,0,none⟩) 3 3] 29)).alloc (.cells #[.int .i64 0, .int .i64 2, .bool false, .int .i64 2, .int .i64 1, .bool true] 66)).alloc (.cells #[.string ⟨#[102]⟩, .int .i64 5, .slice (some ⟨w.heap.size+1+1+1,0,none⟩) 3 3] 29)) (.cells #[.int .i64 1, .int .i64 1, .bool false, .int .i64 0, .int .i64 1, .bool true, .int .i64 2, .int .i64 2, .bool false] 66);simp only[World.size_alloc]at h;exact h)
 have HB:Hid (Below w.heap.size w ((((w.alloc (.cells #[.string ⟨#[102]⟩, .int .i64 5, .slice (some ⟨w.heap.size+1+1+1,0,none⟩) 3 3] 29)).alloc (.cells #[.int .i64 0, .int .i64 2, .bool false, .int .i64 2, .int .i64 1, .bool true] 66)).alloc (.cells #[.string ⟨#[102]⟩, .int .i64 5, .slice (some ⟨w.heap.size+1+1+1,0,none⟩) 3 3] 29)).alloc (.cells #[.int .i64 1, .int .i64 1, .bool false, .int .i64 0, .int .i64 1, .bool true, .int .i64 2, .int .i64 2, .bool false] 66))):=aa (((((ai _ w).alloc (aj _) _).alloc (by simp) _).alloc (by simp;omega) _).alloc (by simp;omega) _);clear hs;go_enter Tryz.func10,Tryz.ntmps10;go_wp2_with fail;refine bodyPost_ret (results_cell_row rfl _ _ w.heap.size _ _ _ _ rfl HR.out Tryz.underlying29 rfl (by kernel_rfl)) rfl ?_;unfold xL;rw[HE.out];refine⟨_,3,rfl,HB.out,by decide,by omega,qH HK.out (fun j u hu=> ?_)⟩;have hj:=(List.getElem?_eq_some_iff.1 hu).1;rw[←hu]
 match j,hj with
 |0,_=>rfl
 |1,_=>rfl
 |2,_=>rfl
 |3,_=>rfl
 |4,_=>rfl
 |5,_=>rfl
 |6,_=>rfl
 |7,_=>rfl
 |8,_=>rfl
theorem Rx (s:Nat) (hs:s%4=2) (w:World):Calls Tryz.prog 10 #[.int .u8 (s:Nat)] w (xL w s):=by
 have HE:Hid (l8 s=[⟨0,2,false⟩]):=aa (by unfold l8;rw[hs];rfl);have jZ:(s:Int).tmod 4=2:=by rw[Int.tmod_eq_emod_of_nonneg (by omega)];omega
 have Om:(s:Int)%4=2:=by omega
 have HR:Hid ((((w.alloc (.cells #[.string ⟨#[102]⟩, .int .i64 5, .slice (some ⟨w.heap.size+1,0,none⟩) 1 2] 29)).alloc (.cells #[.int .i64 0, .int .i64 2, .bool false, .int .i64 2, .int .i64 1, .bool true] 66)).alloc (.cells #[.string ⟨#[102]⟩, .int .i64 5, .slice (some ⟨w.heap.size+1,0,none⟩) 1 2] 29)).heap[w.heap.size]? =some (.cells #[.string ⟨#[102]⟩, .int .i64 5, .slice (some ⟨w.heap.size+1,0,none⟩) 1 2] 29 (0,0))):=aa (bV ((ai _ _).alloc (aj _) _) (bV ((ai _ _).alloc (aj _) _) (heap_alloc_new w (.cells #[.string ⟨#[102]⟩, .int .i64 5, .slice (some ⟨w.heap.size+1,0,none⟩) 1 2] 29))));have HK:Hid ((((w.alloc (.cells #[.string ⟨#[102]⟩, .int .i64 5, .slice (some ⟨w.heap.size+1,0,none⟩) 1 2] 29)).alloc (.cells #[.int .i64 0, .int .i64 2, .bool false, .int .i64 2, .int .i64 1, .bool true] 66)).alloc (.cells #[.string ⟨#[102]⟩, .int .i64 5, .slice (some ⟨w.heap.size+1,0,none⟩) 1 2] 29)).heap[w.heap.size+1]? =some (.cells #[.int .i64 0, .int .i64 2, .bool false, .int .i64 2, .int .i64 1, .bool true] 66 (0,0))):=aa (by
  have h:(((w.alloc (.cells #[.string ⟨#[102]⟩, .int .i64 5, .slice (some ⟨w.heap.size+1,0,none⟩) 1 2] 29)).alloc (.cells #[.int .i64 0, .int .i64 2, .bool false, .int .i64 2, .int .i64 1, .bool true] 66)).alloc (.cells #[.string ⟨#[102]⟩, .int .i64 5, .slice (some ⟨w.heap.size+1,0,none⟩) 1 2] 29)).heap[(w.alloc (.cells #[.string ⟨#[102]⟩, .int .i64 5, .slice (some ⟨w.heap.size+1,0,none⟩) 1 2] 29)).heap.size]? =_:=bV ((ai _ _).alloc (aj _) _) (heap_alloc_new (w.alloc (.cells #[.string ⟨#[102]⟩, .int .i64 5, .slice (some ⟨w.heap.size+1,0,none⟩) 1 2] 29)) (.cells #[.int .i64 0, .int .i64 2, .bool false, .int .i64 2, .int .i64 1, .bool true] 66));simp only[World.size_alloc]at h;exact h)
 have HB:Hid (Below w.heap.size w (((w.alloc (.cells #[.string ⟨#[102]⟩, .int .i64 5, .slice (some ⟨w.heap.size+1,0,none⟩) 1 2] 29)).alloc (.cells #[.int .i64 0, .int .i64 2, .bool false, .int .i64 2, .int .i64 1, .bool true] 66)).alloc (.cells #[.string ⟨#[102]⟩, .int .i64 5, .slice (some ⟨w.heap.size+1,0,none⟩) 1 2] 29))):=aa ((((ai _ w).alloc (aj _) _).alloc (by simp) _).alloc (by simp;omega) _);clear hs;go_enter Tryz.func10,Tryz.ntmps10;go_wp2_with fail;refine bodyPost_ret (results_cell_row rfl _ _ w.heap.size _ _ _ _ rfl HR.out Tryz.underlying29 rfl (by kernel_rfl)) rfl ?_;unfold xL;rw[HE.out];refine⟨_,2,rfl,HB.out,by decide,by omega,qH HK.out (fun j u hu=> ?_)⟩;have hj:=(List.getElem?_eq_some_iff.1 hu).1;rw[←hu]
 match j,hj with
 |0,_=>rfl
 |1,_=>rfl
 |2,_=>rfl
theorem Ry (s:Nat) (hs:s%4=3) (w:World):Calls Tryz.prog 10 #[.int .u8 (s:Nat)] w (xL w s):=by
 have HE:Hid (l8 s=[⟨2,1,false⟩,⟨0,2,false⟩,⟨0,1,true⟩]):=aa (by unfold l8;rw[hs];rfl);have jZ:(s:Int).tmod 4=3:=by rw[Int.tmod_eq_emod_of_nonneg (by omega)];omega
 have Om:(s:Int)%4=3:=by omega
 have HR:Hid (((((w.alloc (.cells #[.string ⟨#[102]⟩, .int .i64 5, .slice (some ⟨w.heap.size+1+1+1,0,none⟩) 3 3] 29)).alloc (.cells #[.int .i64 0, .int .i64 2, .bool false, .int .i64 2, .int .i64 1, .bool true] 66)).alloc (.cells #[.string ⟨#[102]⟩, .int .i64 5, .slice (some ⟨w.heap.size+1+1+1,0,none⟩) 3 3] 29)).alloc (.cells #[.int .i64 2, .int .i64 1, .bool false, .int .i64 0, .int .i64 2, .bool false, .int .i64 0, .int .i64 1, .bool true] 66)).heap[w.heap.size]? =some (.cells #[.string ⟨#[102]⟩, .int .i64 5, .slice (some ⟨w.heap.size+1+1+1,0,none⟩) 3 3] 29 (0,0))):=aa (bV ((ai _ _).alloc (aj _) _) (bV ((ai _ _).alloc (aj _) _) (bV ((ai _ _).alloc (aj _) _) (heap_alloc_new w (.cells #[.string ⟨#[102]⟩, .int .i64 5, .slice (some ⟨w.heap.size+1+1+1,0,none⟩) 3 3] 29)))));have HK:Hid (((((w.alloc (.cells #[.string ⟨#[102]⟩, .int .i64 5, .slice (some ⟨w.heap.size+1+1+1,0,none⟩) 3 3] 29)).alloc (.cells #[.int .i64 0, .int .i64 2, .bool false, .int .i64 2, .int .i64 1, .bool true] 66)).alloc (.cells #[.string ⟨#[102]⟩, .int .i64 5, .slice (some ⟨w.heap.size+1+1+1,0,none⟩) 3 3] 29)).alloc (.cells #[.int .i64 2, .int .i64 1, .bool false, .int .i64 0, .int .i64 2, .bool false, .int .i64 0, .int .i64 1, .bool true] 66)).heap[w.heap.size+1+1+1]? =some (.cells #[.int .i64 2, .int .i64 1, .bool false, .int .i64 0, .int .i64 2, .bool false, .int .i64 0, .int .i64 1, .bool true] 66 (0,0))):=aa (by
  have h:((((w.alloc (.cells #[.string ⟨#[102]⟩, .int .i64 5, .slice (some ⟨w.heap.size+1+1+1,0,none⟩) 3 3] 29)).alloc (.cells #[.int .i64 0, .int .i64 2, .bool false, .int .i64 2, .int .i64 1, .bool true] 66)).alloc (.cells #[.string ⟨#[102]⟩, .int .i64 5, .slice (some ⟨w.heap.size+1+1+1,0,none⟩) 3 3] 29)).alloc (.cells #[.int .i64 2, .int .i64 1, .bool false, .int .i64 0, .int .i64 2, .bool false, .int .i64 0, .int .i64 1, .bool true] 66)).heap[(((w.alloc (.cells #[.string ⟨#[102]⟩, .int .i64 5, .slice (some ⟨w.heap.size+1+1+1,0,none⟩) 3 3] 29)).alloc (.cells #[.int .i64 0, .int .i64 2, .bool false, .int .i64 2, .int .i64 1, .bool true] 66)).alloc (.cells #[.string ⟨#[102]⟩, .int .i64 5, .slice (some ⟨w.heap.size+1+1+1,0,none⟩) 3 3] 29)).heap.size]? =_:=heap_alloc_new (((w.alloc (.cells #[.string ⟨#[102]⟩, .int .i64 5, .slice (some ⟨w.heap.size+1+1+1,0,none⟩) 3 3] 29)).alloc (.cells #[.int .i64 0, .int .i64 2, .bool false, .int .i64 2, .int .i64 1, .bool true] 66)).alloc (.cells #[.string ⟨#[102]⟩, .int .i64 5, .slice (some ⟨w.heap.size+1+1+1,0,none⟩) 3 3] 29)) (.cells #[.int .i64 2, .int .i64 1, .bool false, .int .i64 0, .int .i64 2, .bool false, .int .i64 0, .int .i64 1, .bool true] 66);simp only[World.size_alloc]at h;exact h)
 have HB:Hid (Below w.heap.size w ((((w.alloc (.cells #[.string ⟨#[102]⟩, .int .i64 5, .slice (some ⟨w.heap.size+1+1+1,0,none⟩) 3 3] 29)).alloc (.cells #[.int .i64 0, .int .i64 2, .bool false, .int .i64 2, .int .i64 1, .bool true] 66)).alloc (.cells #[.string ⟨#[102]⟩, .int .i64 5, .slice (some ⟨w.heap.size+1+1+1,0,none⟩) 3 3] 29)).alloc (.cells #[.int .i64 2, .int .i64 1, .bool false, .int .i64 0, .int .i64 2, .bool false, .int .i64 0, .int .i64 1, .bool true] 66))):=aa (((((ai _ w).alloc (aj _) _).alloc (by simp) _).alloc (by simp;omega) _).alloc (by simp;omega) _);clear hs;go_enter Tryz.func10,Tryz.ntmps10;go_wp2_with fail;refine bodyPost_ret (results_cell_row rfl _ _ w.heap.size _ _ _ _ rfl HR.out Tryz.underlying29 rfl (by kernel_rfl)) rfl ?_;unfold xL;rw[HE.out];refine⟨_,3,rfl,HB.out,by decide,by omega,qH HK.out (fun j u hu=> ?_)⟩;have hj:=(List.getElem?_eq_some_iff.1 hu).1;rw[←hu]
 match j,hj with
 |0,_=>rfl
 |1,_=>rfl
 |2,_=>rfl
 |3,_=>rfl
 |4,_=>rfl
 |5,_=>rfl
 |6,_=>rfl
 |7,_=>rfl
 |8,_=>rfl
theorem I9 (s:Nat) (w:World):Calls Tryz.prog 10 #[.int .u8 (s:Nat)] w (xL w s):=by
 have:s%4=0∨s%4=1∨s%4=2∨s%4=3:=by omega
 rcases this with h|h|h|h
 ·exact Rv s h w
 ·exact Rw s h w
 ·exact Rx s h w
 ·exact Ry s h w
def Cx (x:UInt8):UInt8:=UInt8.ofNat (97+x.toNat%3)
def rc (b:J.B):J.B:=(b.take 7).map Cx
theorem Lh (x:UInt8):(Cx x).toNat=97+x.toNat%3:=by unfold Cx;rw[UInt8.toNat_ofNat'];omega
theorem Oo (j:Nat) (h:j≤100):Value.int .i64 (wrap64 ((j:Int)+1))= .int .i64 ((j+1:Nat):Int):=by rw[IntWalk.wrap64_in _ (by omega)];rfl
theorem uO {base:Nat} (X:World) (hb:base≤X.heap.size):(X.alloc (.cells #[] 5)).ownsRow base 5 1 (.slice (some ⟨X.heap.size,0,none⟩) 0 0) 0 (dy []):=
 ⟨rfl, .inr ⟨X.heap.size,0,#[],rfl,hb,heap_alloc_new X _,aj _,Nat.zero_le _,rfl,rfl⟩⟩
theorem Oq (V:World) (x:UInt8):By (V.alloc (.cells #[u8 x] 5)) bL (some ⟨V.heap.size,0,none⟩) 1 [x]:=
 ⟨rfl,fun _=>⟨V.heap.size,0,rfl,by simp,fun h=>h,fun j hj=>by
  obtain rfl:j=0:=(by simpa using hj);rw[cell_of_row _ V.heap.size _ _ _ _ (heap_alloc_new V _)];rfl⟩⟩
theorem uP (v:Value) (b:J.B) (M:Nat→Prop) (w:World) (hv:Sl w M v b) (hbl:b.length≤1000000):
  Calls Tryz.prog 14 #[v] w fun e w'=>∃v',e= .returned v'∧w'.ownsRow w.heap.size 5 1 v' (rc b).length (dy (rc b))∧v'≠ .slice none 0 0∧Below w.heap.size w w':=by
 obtain⟨A,c,rfl,hc,hby⟩:=hv.by
 have nO:=aa hby
 have oF:=aa (uO w (aj _));have j5:=aa ((ai _ w).alloc (aj _) (.cells #[] 5));have FC:=aa hbl;clear hv hby hbl hc;go_enter Tryz.func14,Tryz.ntmps14;go_wp2_with fail;go_loopw [3,4] (fun t u W=>∃i:Nat,i≤b.length∧i≤7∧u= .int .i64 i∧Hid (W.ownsRow w.heap.size 5 1 t i (dy ((b.take i).map Cx)))∧t≠ .slice none 0 0∧Hid (Below w.heap.size w W)) (fun _ u _=>7 - (intOf u).toNat)
 case atStart=>exact⟨0,Nat.zero_le _,Nat.zero_le _,rfl,oF,(fun e=>by cases e),j5⟩
 case round=>
  clear oF j5;obtain⟨i,hi,h7,rfl,HO,hne,HB⟩:=hrel;have Pf:=aa hne;clear hne;by_cases hlt:i<b.length∧i<7
  ·obtain⟨hl,Y5⟩:=hlt;have O3:(i:Int)<(b.length:Nat):=(by omega);have Y6:(i:Int)<7:=(by omega);obtain⟨g,o,rfl,hg,hm,cA⟩:=nO.out.2 (by omega);have hx:wr.cell? ⟨g,o+i,none⟩=some (.int .u8 ((b[i]'hl).toNat:Nat)):=(HB.out.cell (p:=⟨g,o+i,none⟩) hg).trans (cA i hl);have Rl:Hid ((b.take (i+1)).map Cx=(b.take i).map Cx++[Cx (b[i]'hl)]):=aa (by rw[List.take_succ_eq_append_getElem hl,List.map_append];rfl);have HI:=aa (show i+1≤b.length∧i+1≤7 from⟨hl,Y5⟩);obtain⟨Ao,co,mA⟩:=bj HO.out;generalize b[i]'hl=x at hx Rl;have Y7:x.toNat<256:=x.toNat_lt;have ZV:97+((x.toNat:Nat):Int)%3=(((Cx x).toNat:Nat):Int):=(by rw[Lh];omega);subst mA;have FH:=aa (cW HO.out ((ai _ wr).alloc (aj _) (.cells #[.int .u8 ((Cx x).toNat:Nat)] 5)));have Pc:=aa (Oq wr (Cx x));have Io:=aa (HB.out.alloc HB.out.size (.cells #[.int .u8 ((Cx x).toNat:Nat)] 5));clear cA hm hg Y7 hi h7;go_wp2_with (refine aU rfl _ _ rfl w.heap.size _ i ((b.take i).map Cx) rfl FH.out bL _ 1 1 [Cx x] rfl Pc.out (by have:=HI.out;omega) Io.out.size ?_);intro v' w9 hown se hloc hnil;obtain⟨A9,c9,rfl⟩:=bj hown;have Ca:Hid (w9.ownsRow w.heap.size 5 1 (.slice A9 (i+1) c9) (i+1) (dy ((b.take (i+1)).map Cx))):=aa (by rw[Rl.out];first|exact hown|(rw[List.map_take];exact hown));have sY:=aa (Io.out.grown se Io.out.size (fun k hk=>(FH.out.lt k hk).1));have Y8:Hid (Value.slice A9 (i+1) c9≠ .slice none 0 0):=aa (fun e=>by injection e with _ e;cases e);clear hown se hloc hnil;go_wp2;go_roundw
   case rel=>exact⟨i+1,HI.out.1,HI.out.2,by first|exact Oo i (by have:=HI.out;omega)|rfl,Ca,Y8.out,sY⟩
   case measure=>first|(rw[IntWalk.wrap64_in _ (by omega)];simp only[intOf];omega)|(simp only[intOf];omega)
  ·have BR:Hid ((b.take i).map Cx=rc b∧i=(rc b).length):=aa (by
    unfold rc;by_cases h:i=7
    ·subst h;exact⟨rfl,by rw[List.length_map,List.length_take];omega⟩
    ·obtain rfl:i=b.length:=(by omega);rw[List.take_length,List.take_of_length_le (by omega),List.length_map];exact⟨rfl,rfl⟩)
   have dL:¬(i:Int)<(b.length:Nat)∨(i:Int)<(b.length:Nat)∧¬(i:Int)<7:=(by omega);obtain⟨Ao,co,mA⟩:=bj HO.out;subst mA;have kx:Hid (wr.ownsRow w.heap.size 5 1 (.slice Ao i co) (rc b).length (dy (rc b))):=aa (by
    have h:=HO.out;rw[BR.out.1]at h;generalize Value.slice Ao i co=vv at h⊢;rw[←BR.out.2];exact h)
   clear hlt hi h7;rcases dL with h|⟨h1,h2⟩
   ·have hn:¬i<b.length:=(by omega);go_wp2;go_ret;exact⟨_,rfl,kx.out,Pf.out,HB.out⟩
   ·have hn:i<b.length:=(by omega);go_wp2;go_ret;exact⟨_,rfl,kx.out,Pf.out,HB.out⟩
end Go.Proofs.YtipljcmmokaokaaGreat
