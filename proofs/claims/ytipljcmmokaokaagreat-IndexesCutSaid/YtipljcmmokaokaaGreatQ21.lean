import Derived.Test.YtipljcmmokaokaaGreatQ20
set_option linter.unusedVariables false
set_option linter.unusedSimpArgs false
set_option maxHeartbeats 40000000
namespace Go.Proofs.YtipljcmmokaokaaGreat
open Go.RowKit Go.Lib Go.Maps Go.WideMaps Go.Sort
set_option maxRecDepth 100000
def kt (s:Nat):List X.Ky:=if s%4=1 then [⟨1,1,false⟩,⟨0,1,true⟩,⟨2,2,false⟩]else if s%4=2 then [⟨0,2,false⟩]else if s%4=3 then [⟨2,1,false⟩,⟨0,2,false⟩,⟨0,1,true⟩]else [⟨0,2,false⟩,⟨2,1,true⟩]
theorem Wc (s:Nat):X.eC (kt s) 5:=by
 have:s%4=0\/s%4=1\/s%4=2\/s%4=3:=by omega
 unfold kt;rcases this with h|h|h|h<;>rw[h]<;>exact⟨by decide,by decide,by decide,rfl⟩
theorem rR {w:World} {g:Nat} {ks:List X.Ky} {C:Array Value} {o:Nat×Nat} (h:w.heap[g]? =some (.cells C 66 o)) (a:∀(j:Nat) (u:Value),(cQ ks)[j]? =some u->C[j]? =some u):dJ w g ks:=
 ⟨(ai h).1,λj u b=>by rw[cell_of_row w g j _ _ _ h];exact a j u b⟩
def Cg (w:World) (s:Nat) (e:Ending) (w':World):Prop:=∃g c,e= .returned (kL [102] 5 (.slice (some ⟨g,0,none⟩) (kt s).length c))/\Below w.heap.size w w'/\(kt s).length<=c/\w.heap.size<=g/\dJ w' g (kt s)
theorem afi (s:Nat) (a:s%4=0) (w:World):Calls Tryz.prog 10 #[.int .u8 (s:Nat)] w (Cg w s):=by
 have d:aa (kt s=[⟨0,2,false⟩,⟨2,1,true⟩]):=ae (by unfold kt;rw[a];rfl);have g:(s:Int).tmod 4=0:=by rw[Int.tmod_eq_emod_of_nonneg (by omega)];omega
 have i:(s:Int)%4=0:=by omega
 have HR:aa ((((w.alloc (.cells #[.string ⟨#[102]⟩, .int .i64 5, .slice (some ⟨w.heap.size+1,0,none⟩) 2 2] 29)).alloc (.cells #[.int .i64 0, .int .i64 2, .bool false, .int .i64 2, .int .i64 1, .bool true] 66)).alloc (.cells #[.string ⟨#[102]⟩, .int .i64 5, .slice (some ⟨w.heap.size+1,0,none⟩) 2 2] 29)).heap[w.heap.size]? =some (.cells #[.string ⟨#[102]⟩, .int .i64 5, .slice (some ⟨w.heap.size+1,0,none⟩) 2 2] 29 (0,0))):=ae (bu ((ak _ _).alloc (aq _) _) (bu ((ak _ _).alloc (aq _) _) (heap_alloc_new w (.cells #[.string ⟨#[102]⟩, .int .i64 5, .slice (some ⟨w.heap.size+1,0,none⟩) 2 2] 29))));have e:aa ((((w.alloc (.cells #[.string ⟨#[102]⟩, .int .i64 5, .slice (some ⟨w.heap.size+1,0,none⟩) 2 2] 29)).alloc (.cells #[.int .i64 0, .int .i64 2, .bool false, .int .i64 2, .int .i64 1, .bool true] 66)).alloc (.cells #[.string ⟨#[102]⟩, .int .i64 5, .slice (some ⟨w.heap.size+1,0,none⟩) 2 2] 29)).heap[w.heap.size+1]? =some (.cells #[.int .i64 0, .int .i64 2, .bool false, .int .i64 2, .int .i64 1, .bool true] 66 (0,0))):=ae (by
  have h:(((w.alloc (.cells #[.string ⟨#[102]⟩, .int .i64 5, .slice (some ⟨w.heap.size+1,0,none⟩) 2 2] 29)).alloc (.cells #[.int .i64 0, .int .i64 2, .bool false, .int .i64 2, .int .i64 1, .bool true] 66)).alloc (.cells #[.string ⟨#[102]⟩, .int .i64 5, .slice (some ⟨w.heap.size+1,0,none⟩) 2 2] 29)).heap[(w.alloc (.cells #[.string ⟨#[102]⟩, .int .i64 5, .slice (some ⟨w.heap.size+1,0,none⟩) 2 2] 29)).heap.size]? =_:=bu ((ak _ _).alloc (aq _) _) (heap_alloc_new (w.alloc (.cells #[.string ⟨#[102]⟩, .int .i64 5, .slice (some ⟨w.heap.size+1,0,none⟩) 2 2] 29)) (.cells #[.int .i64 0, .int .i64 2, .bool false, .int .i64 2, .int .i64 1, .bool true] 66));simp only[World.size_alloc]at h;exact h)
 have c:aa (Below w.heap.size w (((w.alloc (.cells #[.string ⟨#[102]⟩, .int .i64 5, .slice (some ⟨w.heap.size+1,0,none⟩) 2 2] 29)).alloc (.cells #[.int .i64 0, .int .i64 2, .bool false, .int .i64 2, .int .i64 1, .bool true] 66)).alloc (.cells #[.string ⟨#[102]⟩, .int .i64 5, .slice (some ⟨w.heap.size+1,0,none⟩) 2 2] 29))):=ae ((((ak _ w).alloc (aq _) _).alloc (by simp) _).alloc (by simp;omega) _);clear a;go_enter Tryz.func10,Tryz.ntmps10;go_wp2_with fail;refine bodyPost_ret (results_cell_row rfl _ _ w.heap.size _ _ _ _ rfl HR.o Tryz.underlying29 rfl (by kernel_rfl)) rfl ?_;unfold Cg;rw[d.o];refine⟨_,2,rfl,c.o,by decide,by omega,rR e.o (λj u b=> ?_)⟩;have f:=(List.getElem?_eq_some_iff.1 b).1;rw[<-b]
 match j,f with
 |0,_=>rfl
 |1,_=>rfl
 |2,_=>rfl
 |3,_=>rfl
 |4,_=>rfl
 |5,_=>rfl
theorem afj (s:Nat) (a:s%4=1) (w:World):Calls Tryz.prog 10 #[.int .u8 (s:Nat)] w (Cg w s):=by
 have d:aa (kt s=[⟨1,1,false⟩,⟨0,1,true⟩,⟨2,2,false⟩]):=ae (by unfold kt;rw[a];rfl);have g:(s:Int).tmod 4=1:=by rw[Int.tmod_eq_emod_of_nonneg (by omega)];omega
 have i:(s:Int)%4=1:=by omega
 have HR:aa (((((w.alloc (.cells #[.string ⟨#[102]⟩, .int .i64 5, .slice (some ⟨w.heap.size+1+1+1,0,none⟩) 3 3] 29)).alloc (.cells #[.int .i64 0, .int .i64 2, .bool false, .int .i64 2, .int .i64 1, .bool true] 66)).alloc (.cells #[.string ⟨#[102]⟩, .int .i64 5, .slice (some ⟨w.heap.size+1+1+1,0,none⟩) 3 3] 29)).alloc (.cells #[.int .i64 1, .int .i64 1, .bool false, .int .i64 0, .int .i64 1, .bool true, .int .i64 2, .int .i64 2, .bool false] 66)).heap[w.heap.size]? =some (.cells #[.string ⟨#[102]⟩, .int .i64 5, .slice (some ⟨w.heap.size+1+1+1,0,none⟩) 3 3] 29 (0,0))):=ae (bu ((ak _ _).alloc (aq _) _) (bu ((ak _ _).alloc (aq _) _) (bu ((ak _ _).alloc (aq _) _) (heap_alloc_new w (.cells #[.string ⟨#[102]⟩, .int .i64 5, .slice (some ⟨w.heap.size+1+1+1,0,none⟩) 3 3] 29)))));have e:aa (((((w.alloc (.cells #[.string ⟨#[102]⟩, .int .i64 5, .slice (some ⟨w.heap.size+1+1+1,0,none⟩) 3 3] 29)).alloc (.cells #[.int .i64 0, .int .i64 2, .bool false, .int .i64 2, .int .i64 1, .bool true] 66)).alloc (.cells #[.string ⟨#[102]⟩, .int .i64 5, .slice (some ⟨w.heap.size+1+1+1,0,none⟩) 3 3] 29)).alloc (.cells #[.int .i64 1, .int .i64 1, .bool false, .int .i64 0, .int .i64 1, .bool true, .int .i64 2, .int .i64 2, .bool false] 66)).heap[w.heap.size+1+1+1]? =some (.cells #[.int .i64 1, .int .i64 1, .bool false, .int .i64 0, .int .i64 1, .bool true, .int .i64 2, .int .i64 2, .bool false] 66 (0,0))):=ae (by
  have h:((((w.alloc (.cells #[.string ⟨#[102]⟩, .int .i64 5, .slice (some ⟨w.heap.size+1+1+1,0,none⟩) 3 3] 29)).alloc (.cells #[.int .i64 0, .int .i64 2, .bool false, .int .i64 2, .int .i64 1, .bool true] 66)).alloc (.cells #[.string ⟨#[102]⟩, .int .i64 5, .slice (some ⟨w.heap.size+1+1+1,0,none⟩) 3 3] 29)).alloc (.cells #[.int .i64 1, .int .i64 1, .bool false, .int .i64 0, .int .i64 1, .bool true, .int .i64 2, .int .i64 2, .bool false] 66)).heap[(((w.alloc (.cells #[.string ⟨#[102]⟩, .int .i64 5, .slice (some ⟨w.heap.size+1+1+1,0,none⟩) 3 3] 29)).alloc (.cells #[.int .i64 0, .int .i64 2, .bool false, .int .i64 2, .int .i64 1, .bool true] 66)).alloc (.cells #[.string ⟨#[102]⟩, .int .i64 5, .slice (some ⟨w.heap.size+1+1+1,0,none⟩) 3 3] 29)).heap.size]? =_:=heap_alloc_new (((w.alloc (.cells #[.string ⟨#[102]⟩, .int .i64 5, .slice (some ⟨w.heap.size+1+1+1,0,none⟩) 3 3] 29)).alloc (.cells #[.int .i64 0, .int .i64 2, .bool false, .int .i64 2, .int .i64 1, .bool true] 66)).alloc (.cells #[.string ⟨#[102]⟩, .int .i64 5, .slice (some ⟨w.heap.size+1+1+1,0,none⟩) 3 3] 29)) (.cells #[.int .i64 1, .int .i64 1, .bool false, .int .i64 0, .int .i64 1, .bool true, .int .i64 2, .int .i64 2, .bool false] 66);simp only[World.size_alloc]at h;exact h)
 have c:aa (Below w.heap.size w ((((w.alloc (.cells #[.string ⟨#[102]⟩, .int .i64 5, .slice (some ⟨w.heap.size+1+1+1,0,none⟩) 3 3] 29)).alloc (.cells #[.int .i64 0, .int .i64 2, .bool false, .int .i64 2, .int .i64 1, .bool true] 66)).alloc (.cells #[.string ⟨#[102]⟩, .int .i64 5, .slice (some ⟨w.heap.size+1+1+1,0,none⟩) 3 3] 29)).alloc (.cells #[.int .i64 1, .int .i64 1, .bool false, .int .i64 0, .int .i64 1, .bool true, .int .i64 2, .int .i64 2, .bool false] 66))):=ae (((((ak _ w).alloc (aq _) _).alloc (by simp) _).alloc (by simp;omega) _).alloc (by simp;omega) _);clear a;go_enter Tryz.func10,Tryz.ntmps10;go_wp2_with fail;refine bodyPost_ret (results_cell_row rfl _ _ w.heap.size _ _ _ _ rfl HR.o Tryz.underlying29 rfl (by kernel_rfl)) rfl ?_;unfold Cg;rw[d.o];refine⟨_,3,rfl,c.o,by decide,by omega,rR e.o (λj u b=> ?_)⟩;have f:=(List.getElem?_eq_some_iff.1 b).1;rw[<-b]
 match j,f with
 |0,_=>rfl
 |1,_=>rfl
 |2,_=>rfl
 |3,_=>rfl
 |4,_=>rfl
 |5,_=>rfl
 |6,_=>rfl
 |7,_=>rfl
 |8,_=>rfl
theorem afk (s:Nat) (a:s%4=2) (w:World):Calls Tryz.prog 10 #[.int .u8 (s:Nat)] w (Cg w s):=by
 have d:aa (kt s=[⟨0,2,false⟩]):=ae (by unfold kt;rw[a];rfl);have g:(s:Int).tmod 4=2:=by rw[Int.tmod_eq_emod_of_nonneg (by omega)];omega
 have i:(s:Int)%4=2:=by omega
 have HR:aa ((((w.alloc (.cells #[.string ⟨#[102]⟩, .int .i64 5, .slice (some ⟨w.heap.size+1,0,none⟩) 1 2] 29)).alloc (.cells #[.int .i64 0, .int .i64 2, .bool false, .int .i64 2, .int .i64 1, .bool true] 66)).alloc (.cells #[.string ⟨#[102]⟩, .int .i64 5, .slice (some ⟨w.heap.size+1,0,none⟩) 1 2] 29)).heap[w.heap.size]? =some (.cells #[.string ⟨#[102]⟩, .int .i64 5, .slice (some ⟨w.heap.size+1,0,none⟩) 1 2] 29 (0,0))):=ae (bu ((ak _ _).alloc (aq _) _) (bu ((ak _ _).alloc (aq _) _) (heap_alloc_new w (.cells #[.string ⟨#[102]⟩, .int .i64 5, .slice (some ⟨w.heap.size+1,0,none⟩) 1 2] 29))));have e:aa ((((w.alloc (.cells #[.string ⟨#[102]⟩, .int .i64 5, .slice (some ⟨w.heap.size+1,0,none⟩) 1 2] 29)).alloc (.cells #[.int .i64 0, .int .i64 2, .bool false, .int .i64 2, .int .i64 1, .bool true] 66)).alloc (.cells #[.string ⟨#[102]⟩, .int .i64 5, .slice (some ⟨w.heap.size+1,0,none⟩) 1 2] 29)).heap[w.heap.size+1]? =some (.cells #[.int .i64 0, .int .i64 2, .bool false, .int .i64 2, .int .i64 1, .bool true] 66 (0,0))):=ae (by
  have h:(((w.alloc (.cells #[.string ⟨#[102]⟩, .int .i64 5, .slice (some ⟨w.heap.size+1,0,none⟩) 1 2] 29)).alloc (.cells #[.int .i64 0, .int .i64 2, .bool false, .int .i64 2, .int .i64 1, .bool true] 66)).alloc (.cells #[.string ⟨#[102]⟩, .int .i64 5, .slice (some ⟨w.heap.size+1,0,none⟩) 1 2] 29)).heap[(w.alloc (.cells #[.string ⟨#[102]⟩, .int .i64 5, .slice (some ⟨w.heap.size+1,0,none⟩) 1 2] 29)).heap.size]? =_:=bu ((ak _ _).alloc (aq _) _) (heap_alloc_new (w.alloc (.cells #[.string ⟨#[102]⟩, .int .i64 5, .slice (some ⟨w.heap.size+1,0,none⟩) 1 2] 29)) (.cells #[.int .i64 0, .int .i64 2, .bool false, .int .i64 2, .int .i64 1, .bool true] 66));simp only[World.size_alloc]at h;exact h)
 have c:aa (Below w.heap.size w (((w.alloc (.cells #[.string ⟨#[102]⟩, .int .i64 5, .slice (some ⟨w.heap.size+1,0,none⟩) 1 2] 29)).alloc (.cells #[.int .i64 0, .int .i64 2, .bool false, .int .i64 2, .int .i64 1, .bool true] 66)).alloc (.cells #[.string ⟨#[102]⟩, .int .i64 5, .slice (some ⟨w.heap.size+1,0,none⟩) 1 2] 29))):=ae ((((ak _ w).alloc (aq _) _).alloc (by simp) _).alloc (by simp;omega) _);clear a;go_enter Tryz.func10,Tryz.ntmps10;go_wp2_with fail;refine bodyPost_ret (results_cell_row rfl _ _ w.heap.size _ _ _ _ rfl HR.o Tryz.underlying29 rfl (by kernel_rfl)) rfl ?_;unfold Cg;rw[d.o];refine⟨_,2,rfl,c.o,by decide,by omega,rR e.o (λj u b=> ?_)⟩;have f:=(List.getElem?_eq_some_iff.1 b).1;rw[<-b]
 match j,f with
 |0,_=>rfl
 |1,_=>rfl
 |2,_=>rfl
theorem afl (s:Nat) (a:s%4=3) (w:World):Calls Tryz.prog 10 #[.int .u8 (s:Nat)] w (Cg w s):=by
 have d:aa (kt s=[⟨2,1,false⟩,⟨0,2,false⟩,⟨0,1,true⟩]):=ae (by unfold kt;rw[a];rfl);have g:(s:Int).tmod 4=3:=by rw[Int.tmod_eq_emod_of_nonneg (by omega)];omega
 have i:(s:Int)%4=3:=by omega
 have HR:aa (((((w.alloc (.cells #[.string ⟨#[102]⟩, .int .i64 5, .slice (some ⟨w.heap.size+1+1+1,0,none⟩) 3 3] 29)).alloc (.cells #[.int .i64 0, .int .i64 2, .bool false, .int .i64 2, .int .i64 1, .bool true] 66)).alloc (.cells #[.string ⟨#[102]⟩, .int .i64 5, .slice (some ⟨w.heap.size+1+1+1,0,none⟩) 3 3] 29)).alloc (.cells #[.int .i64 2, .int .i64 1, .bool false, .int .i64 0, .int .i64 2, .bool false, .int .i64 0, .int .i64 1, .bool true] 66)).heap[w.heap.size]? =some (.cells #[.string ⟨#[102]⟩, .int .i64 5, .slice (some ⟨w.heap.size+1+1+1,0,none⟩) 3 3] 29 (0,0))):=ae (bu ((ak _ _).alloc (aq _) _) (bu ((ak _ _).alloc (aq _) _) (bu ((ak _ _).alloc (aq _) _) (heap_alloc_new w (.cells #[.string ⟨#[102]⟩, .int .i64 5, .slice (some ⟨w.heap.size+1+1+1,0,none⟩) 3 3] 29)))));have e:aa (((((w.alloc (.cells #[.string ⟨#[102]⟩, .int .i64 5, .slice (some ⟨w.heap.size+1+1+1,0,none⟩) 3 3] 29)).alloc (.cells #[.int .i64 0, .int .i64 2, .bool false, .int .i64 2, .int .i64 1, .bool true] 66)).alloc (.cells #[.string ⟨#[102]⟩, .int .i64 5, .slice (some ⟨w.heap.size+1+1+1,0,none⟩) 3 3] 29)).alloc (.cells #[.int .i64 2, .int .i64 1, .bool false, .int .i64 0, .int .i64 2, .bool false, .int .i64 0, .int .i64 1, .bool true] 66)).heap[w.heap.size+1+1+1]? =some (.cells #[.int .i64 2, .int .i64 1, .bool false, .int .i64 0, .int .i64 2, .bool false, .int .i64 0, .int .i64 1, .bool true] 66 (0,0))):=ae (by
  have h:((((w.alloc (.cells #[.string ⟨#[102]⟩, .int .i64 5, .slice (some ⟨w.heap.size+1+1+1,0,none⟩) 3 3] 29)).alloc (.cells #[.int .i64 0, .int .i64 2, .bool false, .int .i64 2, .int .i64 1, .bool true] 66)).alloc (.cells #[.string ⟨#[102]⟩, .int .i64 5, .slice (some ⟨w.heap.size+1+1+1,0,none⟩) 3 3] 29)).alloc (.cells #[.int .i64 2, .int .i64 1, .bool false, .int .i64 0, .int .i64 2, .bool false, .int .i64 0, .int .i64 1, .bool true] 66)).heap[(((w.alloc (.cells #[.string ⟨#[102]⟩, .int .i64 5, .slice (some ⟨w.heap.size+1+1+1,0,none⟩) 3 3] 29)).alloc (.cells #[.int .i64 0, .int .i64 2, .bool false, .int .i64 2, .int .i64 1, .bool true] 66)).alloc (.cells #[.string ⟨#[102]⟩, .int .i64 5, .slice (some ⟨w.heap.size+1+1+1,0,none⟩) 3 3] 29)).heap.size]? =_:=heap_alloc_new (((w.alloc (.cells #[.string ⟨#[102]⟩, .int .i64 5, .slice (some ⟨w.heap.size+1+1+1,0,none⟩) 3 3] 29)).alloc (.cells #[.int .i64 0, .int .i64 2, .bool false, .int .i64 2, .int .i64 1, .bool true] 66)).alloc (.cells #[.string ⟨#[102]⟩, .int .i64 5, .slice (some ⟨w.heap.size+1+1+1,0,none⟩) 3 3] 29)) (.cells #[.int .i64 2, .int .i64 1, .bool false, .int .i64 0, .int .i64 2, .bool false, .int .i64 0, .int .i64 1, .bool true] 66);simp only[World.size_alloc]at h;exact h)
 have c:aa (Below w.heap.size w ((((w.alloc (.cells #[.string ⟨#[102]⟩, .int .i64 5, .slice (some ⟨w.heap.size+1+1+1,0,none⟩) 3 3] 29)).alloc (.cells #[.int .i64 0, .int .i64 2, .bool false, .int .i64 2, .int .i64 1, .bool true] 66)).alloc (.cells #[.string ⟨#[102]⟩, .int .i64 5, .slice (some ⟨w.heap.size+1+1+1,0,none⟩) 3 3] 29)).alloc (.cells #[.int .i64 2, .int .i64 1, .bool false, .int .i64 0, .int .i64 2, .bool false, .int .i64 0, .int .i64 1, .bool true] 66))):=ae (((((ak _ w).alloc (aq _) _).alloc (by simp) _).alloc (by simp;omega) _).alloc (by simp;omega) _);clear a;go_enter Tryz.func10,Tryz.ntmps10;go_wp2_with fail;refine bodyPost_ret (results_cell_row rfl _ _ w.heap.size _ _ _ _ rfl HR.o Tryz.underlying29 rfl (by kernel_rfl)) rfl ?_;unfold Cg;rw[d.o];refine⟨_,3,rfl,c.o,by decide,by omega,rR e.o (λj u b=> ?_)⟩;have f:=(List.getElem?_eq_some_iff.1 b).1;rw[<-b]
 match j,f with
 |0,_=>rfl
 |1,_=>rfl
 |2,_=>rfl
 |3,_=>rfl
 |4,_=>rfl
 |5,_=>rfl
 |6,_=>rfl
 |7,_=>rfl
 |8,_=>rfl
theorem RX (s:Nat) (w:World):Calls Tryz.prog 10 #[.int .u8 (s:Nat)] w (Cg w s):=by
 have:s%4=0\/s%4=1\/s%4=2\/s%4=3:=by omega
 rcases this with h|h|h|h
 ·exact afi s h w
 ·exact afj s h w
 ·exact afk s h w
 ·exact afl s h w
def IH (x:UInt8):UInt8:=UInt8.ofNat (97+x.toNat%3)
def rc (b:J.B):J.B:=(b.take 7).map IH
theorem Wd (x:UInt8):(IH x).toNat=97+x.toNat%3:=by unfold IH;rw[UInt8.toNat_ofNat'];omega
theorem tO (b:J.B):(rc b).length<=7:=by unfold rc;rw[List.length_map,List.length_take];omega
theorem abm (j:Nat) (h:j<=100):Value.int .i64 (wrap64 ((j:Int)+1))= .int .i64 ((j+1:Nat):Int):=by rw[IntWalk.wrap64_in _ (by omega)];rfl
theorem RY {base:Nat} (X:World) (a:base<=X.heap.size):(X.alloc (.cells #[] 5)).ownsRow base 5 1 (.slice (some ⟨X.heap.size,0,none⟩) 0 0) 0 (dK []):=
 ⟨rfl, .inr ⟨X.heap.size,0,#[],rfl,a,heap_alloc_new X _,aq _,Nat.zero_le _,rfl,rfl⟩⟩
theorem abn (V:World) (x:UInt8):By (V.alloc (.cells #[u8 x] 5)) bE (some ⟨V.heap.size,0,none⟩) 1 [x]:=
 ⟨rfl,λ_=>⟨V.heap.size,0,rfl,by simp,λh=>h,λj a=>by
  obtain rfl:j=0:=(by simpa using a);rw[cell_of_row _ V.heap.size _ _ _ _ (heap_alloc_new V _)];rfl⟩⟩
theorem kU (v:Value) (b:J.B) (M:Nat->Prop) (w:World) (Q:Sl w M v b) (G:b.length<=1000000):
  Calls Tryz.prog 14 #[v] w λe w'=>∃v',e= .returned v'/\w'.ownsRow w.heap.size 5 1 v' (rc b).length (dK (rc b))/\v'≠ .slice none 0 0/\Below w.heap.size w w':=by
 obtain⟨A,c,rfl,Z,H⟩:=Q.by
 have T:=ae H;have z:=ae (RY w (aq _));have r:=ae ((ak _ w).alloc (aq _) (.cells #[] 5));have a5:=ae G;clear Q H G Z;go_enter Tryz.func14,Tryz.ntmps14;go_wp2_with fail;go_loopw [3,4] (fun t u W=>∃i:Nat,i<=b.length/\i<=7/\u= .int .i64 i/\aa (W.ownsRow w.heap.size 5 1 t i (dK ((b.take i).map IH)))/\t≠ .slice none 0 0/\aa (Below w.heap.size w W)) (fun _ u _=>7 - (intOf u).toNat)
 case atStart=>exact⟨0,Nat.zero_le _,Nat.zero_le _,rfl,z,(λe=>by cases e),r⟩
 case round=>
  clear z r;obtain⟨i,N,F,rfl,j,P,d⟩:=hrel;have y:=ae P;clear P;by_cases O:i<b.length/\i<7
  ·obtain⟨a,a0⟩:=O;have a6:(i:Int)<(b.length:Nat):=(by omega);have a7:(i:Int)<7:=(by omega);obtain⟨g,o,rfl,K,hm,I⟩:=T.o.2 (by omega);have hx:wr.cell? ⟨g,o+i,none⟩=some (.int .u8 ((b[i]'a).toNat:Nat)):=(d.o.cell (p:=⟨g,o+i,none⟩) K).trans (I i a);have D:aa ((b.take (i+1)).map IH=(b.take i).map IH++[IH (b[i]'a)]):=ae (by rw[List.take_succ_eq_append_getElem a,List.map_append];rfl);have f:=ae (show i+1<=b.length/\i+1<=7 from⟨a,a0⟩);obtain⟨Ao,co,n⟩:=cj j.o;generalize b[i]'a=x at hx D;have a4:x.toNat<256:=x.toNat_lt;have a8:97+((x.toNat:Nat):Int)%3=(((IH x).toNat:Nat):Int):=(by rw[Wd];omega);subst n;have C:=ae (cN j.o ((ak _ wr).alloc (aq _) (.cells #[.int .u8 ((IH x).toNat:Nat)] 5)));have Y:=ae (abn wr (IH x));have m:=ae (d.o.alloc d.o.size (.cells #[.int .u8 ((IH x).toNat:Nat)] 5));clear I hm K a4 N F;go_wp2_with (refine bz rfl _ _ rfl w.heap.size _ i ((b.take i).map IH) rfl C.o bE _ 1 1 [IH x] rfl Y.o (by have:=f.o;omega) m.o.size ?_);intro v' w9 l L a1 a2;obtain⟨q,E,rfl⟩:=cj l;have V:aa (w9.ownsRow w.heap.size 5 1 (.slice q (i+1) E) (i+1) (dK ((b.take (i+1)).map IH))):=ae (by rw[D.o];first|exact l|(rw[List.map_take];exact l));have S:=ae (m.o.grown L m.o.size (λk hk=>(C.o.lt k hk).1));have U:aa (Value.slice q (i+1) E≠ .slice none 0 0):=ae (λe=>by injection e with _ e;cases e);clear l L a1 a2;go_wp2;go_roundw
   case rel=>exact⟨i+1,f.o.1,f.o.2,by first|exact abm i (by have:=f.o;omega)|rfl,V,U.o,S⟩
   case measure=>first|(rw[IntWalk.wrap64_in _ (by omega)];simp only[intOf];omega)|(simp only[intOf];omega)
  ·have s:aa ((b.take i).map IH=rc b/\i=(rc b).length):=ae (by
    unfold rc;by_cases h:i=7
    ·subst h;exact⟨rfl,by rw[List.length_map,List.length_take];omega⟩
    ·obtain rfl:i=b.length:=(by omega);rw[List.take_length,List.take_of_length_le (by omega),List.length_map];exact⟨rfl,rfl⟩)
   have a3:¬(i:Int)<(b.length:Nat)\/(i:Int)<(b.length:Nat)/\¬(i:Int)<7:=(by omega);obtain⟨Ao,co,n⟩:=cj j.o;subst n;have B:aa (wr.ownsRow w.heap.size 5 1 (.slice Ao i co) (rc b).length (dK (rc b))):=ae (by
    have h:=j.o;rw[s.o.1]at h;generalize Value.slice Ao i co=vv at h|-;rw[<-s.o.2];exact h)
   clear O N F;rcases a3 with h|⟨h1,h2⟩
   ·have hn:¬i<b.length:=(by omega);go_wp2;go_ret;exact⟨_,rfl,B.o,y.o,d.o⟩
   ·have hn:i<b.length:=(by omega);go_wp2;go_ret;exact⟨_,rfl,B.o,y.o,d.o⟩
section
variable {w0 : World} {p pf g c size ct u : Nat} {nm : J.B} {ks : List X.Ky} {rows : List X.Row} {f : Fv} {w w' : World} {s s1 s2 : J.St} {fs : List (Nat × Obj)} {ok : Obj}
variable {o : X.Row} {p0 : J.B}
theorem MT {B:Nat} {v:Value} (h:w.heap[B]? =some (bW v)) (b:∃A n c,v= .slice A n c):uF w B:=by
 obtain⟨A,n,c,rfl⟩:=b;refine⟨λo u v hh=> ?_,λ⟨_,cur,d,e⟩=> ?_⟩
 ·rw[cell_of_row w B o _ _ _ h,cell_of_row w B (o+1) _ _ _ h]at hh;obtain⟨h1,a⟩:=hh;rcases o with _|o<;>simp at h1 a
 ·rw[h]at e;injection e with e;injection e with e1 e2;exact absurd e2 (by decide)
theorem At.gV {B:Nat} {v:Value} (h:At w0 p ((B,bW v)::fs) s w) (d:∃A n c,v= .slice A n c) (a:∀x∈fs,x.1≠B) (b:J.Two s) (v':Value):At w0 p ((B,bW v')::fs) s (w.setCell ⟨B,0,none⟩ v'):=
 h.turn a b (MT (h.get af) d) (ay (World.grownBy.refl w (some B)) 0 _) (aB (h.get af) 0 _)
theorem We {gs:List (Nat×Obj)} {W:World} {Bf Bp Bo:Nat} {pv:ByteArray} (h:At w0 p gs s W) (A:Option Addr) (cb:Nat) (z:(⟨p0.toArray⟩:ByteArray)=pv) (hF:(pf,ax p nm size g ks.length c f)∈gs) (l:(Bf,aO pf)∈gs) (m:(Bp,aZ pv)∈gs) (n:(Bo,bW (.slice A o.b.length cb))∈gs) (y:(g,ok)∈gs) (q:bR ok ks) (w:ks.length<=c)
  (d:X.mL u s.now s) (C:u<=340) (a:XF nm size ks rows ct s.now) (B:Src w0 p gs (.slice A o.b.length cb) o.b) (x:rows.find? (λr=>decide (X.val ks 0 r.b=p0))=some o) (E:rows.length<=u):
  Calls Tryz.prog 45 #[.pointer (some ⟨pf,0,none⟩), .func (.func 73) #[] #[.pointer (some ⟨Bf,0,none⟩), .pointer (some ⟨Bp,0,none⟩), .pointer (some ⟨Bo,0,none⟩)]] W λe w'=>e= .returned (.string ⟨#[48,48]⟩)/\
   ∃s1 now,At w0 p gs (J.aK s1) w'/\X.Tx u s s1 now/\X.iF nm (X.attr size ks) ks (X.iM ks rows p0) ct now:=by
 subst z;refine(pQ (f:=f) (nm:=nm) (size:=size) (g:=g) (ks:=ks) (c:=c) h hF d.opn 73 _ (enters_of Tryz.func73 (by kernel_rfl) rfl) (λs1=>∃now,X.Tx u s s1 now/\X.iF nm (X.attr size ks) ks (X.iM ks rows p0) ct now)
  (λw1 ha=> ?_) (λs1 w1 ha t=> ?_)).mono ?_
 ·refine(QD (by rw[X.rz]at ha;exact ha) (f:=f) hF y q w Bf Bp Bo A cb l m n a ⟨X.lO d,by simp[J.encs], .inl rfl⟩ B x).mono ?_;rintro e w' ⟨D,chs,now,b⟩;have h1:=a.ks.one;have k:=X.Qm (j:=ks.length - 1) (by omega) a.rows b.mix;refine⟨D,_,b.at_,now,QU d C a.ks ⟨b.tx.inv,by have:=b.tx.len;omega, .inr (b.tx.mn.resolve_left (by omega))⟩ k (X.zl a.rows p0) (by have:=a.ct;omega) ?_,k⟩;have:=X.zm ks rows p0;omega
 ·obtain⟨now,i,_⟩:=t;exact tI i _ _ ha
 ·rintro e w' ⟨rfl,s1,ha,now,i,v⟩;exact⟨rfl,s1,now,ha,i,v⟩
theorem Kq:(∀{w0:World} {p pf g c size ct u:Nat} {nm:J.B} {ks:List X.Ky} {rows:List X.Row} {f:Fv} {w:World} {s:J.St} {fs:List (Nat×Obj)} {ok:Obj} (h:At w0 p ((pf,ax p nm size g ks.length c f)::fs) s w) (hf:∀x∈fs,x.1≠pf) (bF:(g,ok)∈fs) (hO:bR ok ks) (hcap:ks.length<=c) (ht:J.Two s) (hX:XF nm size ks rows ct s.now) (b:J.B) (A:Option Addr) (cb:Nat) (hs:X.bP [52,57] [3] f.mode=[48,48]) (dZ:f.ord=false) (xN:(X.aH ks 0).at_+(X.aH ks 0).len<=b.length) (hbl:b.length<=1000000) (ER:(X.val ks 0 b).length<=160) (eG:Src w0 p fs (.slice A b.length cb) b) {o:X.Row} (ea:rows.find? (λr=>decide (X.val ks 0 r.b=X.val ks 0 b))=some o) (ij:X.mL u s.now s) (hu:u<=340) (hro:rows.length<=u),Calls Tryz.prog 27 #[.pointer (some ⟨pf,0,none⟩), .slice A b.length cb] w λe w'=>e= .returned (.string ⟨#[48,48]⟩)/\∃s1 now,At w0 p ((pf,ax p nm size g ks.length c {f with read:=false})::fs) (J.aK s1) w'/\X.Tx u s s1 now/\X.iF nm (X.attr size ks) ks (X.iM ks rows (X.val ks 0 b)) ct now)/\(∀{w0:World} {p pf g c size ct u:Nat} {nm:J.B} {ks:List X.Ky} {rows:List X.Row} {f:Fv} {w:World} {s:J.St} {fs:List (Nat×Obj)} {ok:Obj} (h:At w0 p ((pf,ax p nm size g ks.length c f)::fs) s w) (hf:∀x∈fs,x.1≠pf) (bF:(g,ok)∈fs) (hO:bR ok ks) (hcap:ks.length<=c) (ht:J.Two s) (hX:XF nm size ks rows ct s.now) (b:J.B) (A:Option Addr) (cb:Nat) (hs:X.bP [52,57] [3] f.mode=[48,48]) (dZ:f.ord=true) (jU:f.read=true) (ER:f.last.length<=160) {o:X.Row} (ea:rows.find? (λr=>decide (X.val ks 0 r.b=f.last))=some o) (ij:X.mL u s.now s) (hu:u<=340) (hro:rows.length<=u),Calls Tryz.prog 27 #[.pointer (some ⟨pf,0,none⟩), .slice A b.length cb] w λe w'=>e= .returned (.string ⟨#[48,48]⟩)/\∃s1 now,At w0 p ((pf,ax p nm size g ks.length c {f with read:=false})::fs) (J.aK s1) w'/\X.Tx u s s1 now/\X.iF nm (X.attr size ks) ks (X.iM ks rows (f.last)) ct now)/\(∀{w0:World} {p pf g c size ct:Nat} {nm:J.B} {ks:List X.Ky} {rows:List X.Row} {f:Fv} {w:World} {s:J.St} {fs:List (Nat×Obj)} {ok:Obj} (h:At w0 p ((pf,ax p nm size g ks.length c f)::fs) s w) (hf:∀x∈fs,x.1≠pf) (bF:(g,ok)∈fs) (hO:bR ok ks) (hcap:ks.length<=c) (ht:J.Two s) (hX:XF nm size ks rows ct s.now) (b:J.B) (A:Option Addr) (cb:Nat) (hs:X.bP [52,57] [3] f.mode=[48,48]) (dZ:f.ord=false) (xN:(X.aH ks 0).at_+(X.aH ks 0).len<=b.length) (hbl:b.length<=1000000) (ER:(X.val ks 0 b).length<=160) (eG:Src w0 p fs (.slice A b.length cb) b) (ea:rows.find? (λr=>decide (X.val ks 0 r.b=X.val ks 0 b))=none),Calls Tryz.prog 27 #[.pointer (some ⟨pf,0,none⟩), .slice A b.length cb] w λe w'=>e= .returned (.string ⟨#[50,51]⟩)/\At w0 p ((pf,ax p nm size g ks.length c {f with read:=false})::fs) s w')/\(∀{w0:World} {p pf g c size ct:Nat} {nm:J.B} {ks:List X.Ky} {rows:List X.Row} {f:Fv} {w:World} {s:J.St} {fs:List (Nat×Obj)} {ok:Obj} (h:At w0 p ((pf,ax p nm size g ks.length c f)::fs) s w) (hf:∀x∈fs,x.1≠pf) (bF:(g,ok)∈fs) (hO:bR ok ks) (hcap:ks.length<=c) (ht:J.Two s) (hX:XF nm size ks rows ct s.now) (b:J.B) (A:Option Addr) (cb:Nat) (hs:X.bP [52,57] [3] f.mode=[48,48]) (dZ:f.ord=true) (jU:f.read=true) (ER:f.last.length<=160) (ea:rows.find? (λr=>decide (X.val ks 0 r.b=f.last))=none),Calls Tryz.prog 27 #[.pointer (some ⟨pf,0,none⟩), .slice A b.length cb] w λe w'=>e= .returned (.string ⟨#[50,51]⟩)/\At w0 p ((pf,ax p nm size g ks.length c {f with read:=false})::fs) s w'):=by
 refine⟨?z0, ?z1, ?z2, ?z3⟩
 case' z0=>intro w0 p pf g c size ct u nm ks rows f w s fs ok h hf bF hO hcap ht hX b A cb hs dZ xN hbl ER eG o ea ij hu hro
 case' z1=>(intro w0 p pf g c size ct u nm ks rows f w s fs ok h hf bF hO hcap ht hX b A cb hs dZ jU ER o ea ij hu hro;have aI:=trivial)
 case' z2=>(intro w0 p pf g c size ct nm ks rows f w s fs ok h hf bF hO hcap ht hX b A cb hs dZ xN hbl ER eG ea;have aM:=trivial)
 case' z3=>(intro w0 p pf g c size ct nm ks rows f w s fs ok h hf bF hO hcap ht hX b A cb hs dZ jU ER ea;have aV:=trivial)
 all_goals
  first
   |have aV:=aV
    have qz:=ae jU;clear jU
   |have aM:=aM
    have hw:wrap64 (((X.aH ks 0).at_:Int)+(X.aH ks 0).len)=(((X.aH ks 0).at_+(X.aH ks 0).len:Nat):Int):=(by rw[IntWalk.wrap64_in _ (by omega)];omega);have hw2:IntKind.i64.wrap (((X.aH ks 0).at_:Int)+(X.aH ks 0).len)=(((X.aH ks 0).at_+(X.aH ks 0).len:Nat):Int):=(by rw[IntKind.wrap_i64];omega);have Hg:¬(b.length:Int)<(((X.aH ks 0).at_+(X.aH ks 0).len:Nat):Int):=by omega
    skip
   |have aI:=aI
    have qz:=ae jU;clear jU
   |have hw:wrap64 (((X.aH ks 0).at_:Int)+(X.aH ks 0).len)=(((X.aH ks 0).at_+(X.aH ks 0).len:Nat):Int):=by rw[IntWalk.wrap64_in _ (by omega)];omega
    have hw2:IntKind.i64.wrap (((X.aH ks 0).at_:Int)+(X.aH ks 0).len)=(((X.aH ks 0).at_+(X.aH ks 0).len:Nat):Int):=(by rw[IntKind.wrap_i64];omega);have Hg:¬(b.length:Int)<(((X.aH ks 0).at_+(X.aH ks 0).len:Nat):Int):=by omega
  obtain⟨hB,hf2⟩:=h.tL hf (aO pf);have bq:=hX.ks.one;have ajI:=hX.nm;first
   |have aV:=aV
    have kz:=ae (λW=>dM nm size (some ⟨g,0,none⟩) ks.length c 0 0 f.last (by decide) (by decide) (by omega) (by omega) W);have hlk:=hX.con.kJ hX.rows f.last
    skip
   |have aM:=aM
    have kz:=ae (λW=>dM nm size (some ⟨g,0,none⟩) ks.length c 0 0 (X.val ks 0 b) (by decide) (by decide) (by omega) (by omega) W);have hlk:=hX.con.kJ hX.rows (X.val ks 0 b)
    skip
   |have aI:=aI
    have kz:=ae (λW=>dM nm size (some ⟨g,0,none⟩) ks.length c 0 0 f.last (by decide) (by decide) (by omega) (by omega) W);have hlk:=hX.con.kJ hX.rows f.last
    skip
   |have kz:=ae (λW=>dM nm size (some ⟨g,0,none⟩) ks.length c 0 0 (X.val ks 0 b) (by decide) (by decide) (by omega) (by omega) W)
    have hlk:=hX.con.kJ hX.rows (X.val ks 0 b)
  rw[ea]at hlk;first
   |have aV:=aV
    have kr:=ae (λgs W (hh:At w0 p gs s W)=>fF hh (X.cy nm 0 f.last 0) (by have h3:=X.cZ nm 0 f.last 0;omega) (λl hl=>by have:=hX.len _ _ hl;omega))
    skip
   |have aM:=aM
    have kr:=ae (λgs W (hh:At w0 p gs s W)=>fF hh (X.cy nm 0 (X.val ks 0 b) 0) (by have h3:=X.cZ nm 0 (X.val ks 0 b) 0;omega) (λl hl=>by have:=hX.len _ _ hl;omega))
    skip
   |have aI:=aI
    have kr:=ae (λgs W (hh:At w0 p gs s W)=>fF hh (X.cy nm 0 f.last 0) (by have h3:=X.cZ nm 0 f.last 0;omega) (λl hl=>by have:=hX.len _ _ hl;omega))
    skip
   |have kr:=ae (λgs W (hh:At w0 p gs s W)=>fF hh (X.cy nm 0 (X.val ks 0 b) 0) (by have h3:=X.cZ nm 0 (X.val ks 0 b) 0;omega) (λl hl=>by have:=hX.len _ _ hl;omega))
  rw[hlk]at kr;have JS:=ae ht;first
   |have aV:=aV
    generalize BN:(⟨(f.last).toArray⟩:ByteArray)=pv at kz
   |have aM:=aM
    generalize BN:(⟨((X.val ks 0 b)).toArray⟩:ByteArray)=pv at kz
   |have afm:=(X.bI ea).1
    have BO:=hX.rows.fit o afm;have ho0:o.b≠[]:=λe=>by
     have h0:=hX.ks.one;have h1:=(X.aS.1 BO).2 _ (X.aY h0.1);have h2:=(hX.lens h0.1).1;have h3:X.lens ks 0=(X.aH ks 0).len:=rfl;rw[e,List.length_nil]at h1;omega
    have vT:=ae ho0;have Tp:=ae hf;have jo:=ae bF;have HU:=ae (λgs W Bp Bo pv' A cb (hh:At w0 p gs s W) BN (q1:(pf,ax p nm size g ks.length c {f with read:=false})∈gs) (q2:(w.heap.size,aO pf)∈gs) q3 q4 (q5:(g,ok)∈gs) JO=>We (f:={f with read:=false}) (Bf:=w.heap.size) (Bp:=Bp) (Bo:=Bo) (pv:=pv') hh A cb BN q1 q2 q3 q4 q5 hO hcap ij hu hX JO ea hro);clear afm BO ho0;first
     |have aI:=aI
      generalize BN:(⟨(f.last).toArray⟩:ByteArray)=pv at kz
     |generalize BN:(⟨((X.val ks 0 b)).toArray⟩:ByteArray)=pv at kz
  have gi:=ae BN;first
   |have aV:=aV
    generalize(⟨(X.cy nm 0 (f.last) 0).toArray⟩:ByteArray)=pe at kz kr
   |have aM:=aM
    generalize(⟨(X.cy nm 0 ((X.val ks 0 b)) 0).toArray⟩:ByteArray)=pe at kz kr
   |have aI:=aI
    generalize(⟨(X.cy nm 0 (f.last) 0).toArray⟩:ByteArray)=pe at kz kr
   |generalize(⟨(X.cy nm 0 ((X.val ks 0 b)) 0).toArray⟩:ByteArray)=pe at kz kr
  clear hlk BN ajI;first
   |have aV:=aV
    skip
   |have aM:=aM
    have HV:=ae (λgs t (hs:∀x∈fs,x∈gs) w1 (hh:At w0 p gs t w1)=>cG (X.aH ks 0) (.slice A b.length cb) b bE w1 (eG _ _ _ hs hh) xN hbl);rw[show(X.aH ks 0).val b=X.val ks 0 b from rfl,gi.o]at HV;have Az:=ae xN;clear eG xN hbl ER
   |have aI:=aI
    skip
   |have HV:=ae (λgs t (hs:∀x∈fs,x∈gs) w1 (hh:At w0 p gs t w1)=>cG (X.aH ks 0) (.slice A b.length cb) b bE w1 (eG _ _ _ hs hh) xN hbl)
    rw[show(X.aH ks 0).val b=X.val ks 0 b from rfl,gi.o]at HV;have Az:=ae xN;clear eG xN hbl ER
  have dQ:=ae (bQ (hB.get af) [52,57] [3] 1 #[.int .u8 3] rfl rfl (by decide) (w.heap.size+1) (by simp));rw[hs]at dQ;have HA:=ae (hB.below ((ak _ _).alloc (aq _) (.cells #[.int .u8 3] 32)));have gR:=ae (λW (hh:At w0 p ((pf,ax p nm size g ks.length c {f with read:=false})::(w.heap.size,aO pf)::fs) s W)=>hO.2 W g (hh.get (ag _ (ag _ bF))));have HFA:=ae (λW (hh:At w0 p ((pf,ax p nm size g ks.length c f)::(w.heap.size,aO pf)::fs) s W) (h1:W.heap[pf]? =some (ax p nm size g ks.length c f))=>cR (f':={f with read:=false}) hh hf2 ht (ay (World.grownBy.refl W (some pf)) 11 (.bool false)) (aB h1 11 (.bool false)));have eb:=ae bq;first
   |have aV:=aV
    clear h hs hf bF hO ht hX hB hf2 bq ea hcap ER
   |have aM:=aM
    clear h hs hf bF hO ht hX hB hf2 bq ea hcap
   |have aI:=aI
    clear h hs hf bF hO ht hX hB hf2 bq ea hcap ER ij hu hro
   |clear h hs hf bF hO ht hX hB hf2 bq ea hcap ij hu hro
  go_enter Tryz.func27,Tryz.ntmps27;go_wp2_with fail;refine dQ.o.mono ?_;rintro e W1 ⟨rfl,hW1⟩;subst hW1;clear dQ;refine aL (λX=>At w0 p ((pf,ax p nm size g ks.length c f)::(w.heap.size,aO pf)::fs) s X) HA.o ?_;intro W ha;clear HA;have h1:W.heap[pf]? =some (ax p nm size g ks.length c f):=ha.get af;have hz:=aD h1;have hc:=aj W pf h1;have ed:=aj W w.heap.size (ha.get (ag _ af));first
   |have aV:=aV
    rw[qz.o]at hc
   |have aM:=aM
    skip
   |have aI:=aI
    rw[qz.o]at hc
   |skip
  have HG:=ae (HFA.o _ ha h1);clear ha h1 HFA;go_upto_region 6 with fail;refine aL (λY=>At w0 p ((pf,ax p nm size g ks.length c {f with read:=false})::(w.heap.size,aO pf)::fs) s Y) HG.o ?_;intro W2 ha2;have gh:=ae ha2;have hc:=aj W2 pf (ha2.get af);have ed:=aj W2 w.heap.size (ha2.get (ag _ af));have eM:0<ks.length:=(by have:=eb.o;omega);have cB:=gR.o _ ha2;have k1:=cB.at_ eM;have k2:=cB.len eM;have k3:=cB.dup eM;rw[Nat.zero_mul]at k1 k2 k3;rw[Nat.zero_add]at k2 k3;have Mz:(0:Int)<(ks.length:Nat):=(by omega);have HZ:=ae (heap_alloc_new W2 dU);clear ha2 HG cB gR hz;go_wp2_with (refine wpList_store_row rfl _ _ 66 rfl W2.heap.size rfl _ rfl _ _ HZ.o rfl (by kernel_rfl) rfl ?_);intro W3 hrow hg hsz;obtain⟨td,hb3⟩:=gh.o.stored dU hg;have hrow:W3.heap[W2.heap.size]? =some (aT (X.aH ks 0)):=hrow;have cY:=ae td;have hc:=aj W3 pf (td.get af);have ed:=aj W3 w.heap.size (td.get (ag _ af));have eD:=aj W3 W2.heap.size hrow;first
   |have aV:=aV
    skip
   |have aM:=aM
    have lL:=ae hrow
    skip
   |have aI:=aI
    skip
   |have lL:=ae hrow
  clear td hb3 hrow hg hsz HZ k1 k2 k3 gh;rw[dZ]at hc;first
   |have aV:=aV
    rw[gi.o]at hc
   |have aM:=aM
    generalize Ml:(⟨f.last.toArray⟩:ByteArray)=lb at hc;have HLB:=ae Ml;clear Ml
   |have aI:=aI
    rw[gi.o]at hc
   |generalize Ml:(⟨f.last.toArray⟩:ByteArray)=lb at hc
    have HLB:=ae Ml;clear Ml
  go_upto_region 12 with fail;first
   |have aV:=aV
    have dC:=ae (cY.o.more (aZ pv));refine aL (λY=>At w0 p ((W3.heap.size,aZ pv)::(pf,ax p nm size g ks.length c {f with read:=false})::(w.heap.size,aO pf)::fs) s Y) dC.o ?_;intro W4 ha
   |have aM:=aM
    have dC:=ae (cY.o.more (aZ lb));have YR:=ae ((((ak _ W3).alloc (aq _) (aZ lb)).block _ (ai lL.o).1).trans lL.o);have HN8:=ae (λy (hy:y∈((pf,ax p nm size g ks.length c {f with read:=false})::(w.heap.size,aO pf)::fs))=>(by have:=cY.o.lt hy;omega:y.1≠W3.heap.size));refine aL (λY=>At w0 p ((W3.heap.size,aZ lb)::((pf,ax p nm size g ks.length c {f with read:=false})::(w.heap.size,aO pf)::fs)) s Y/\Y.heap[W2.heap.size]? =some (aT (X.aH ks 0))) ⟨dC.o,YR.o⟩ ?_;rintro W4 ⟨ha,hr⟩
   |have aI:=aI
    have dC:=ae (cY.o.more (aZ pv));refine aL (λY=>At w0 p ((W3.heap.size,aZ pv)::(pf,ax p nm size g ks.length c {f with read:=false})::(w.heap.size,aO pf)::fs) s Y) dC.o ?_;intro W4 ha
   |have dC:=ae (cY.o.more (aZ lb))
    have YR:=ae ((((ak _ W3).alloc (aq _) (aZ lb)).block _ (ai lL.o).1).trans lL.o);have HN8:=ae (λy (hy:y∈((pf,ax p nm size g ks.length c {f with read:=false})::(w.heap.size,aO pf)::fs))=>(by have:=cY.o.lt hy;omega:y.1≠W3.heap.size));refine aL (λY=>At w0 p ((W3.heap.size,aZ lb)::((pf,ax p nm size g ks.length c {f with read:=false})::(w.heap.size,aO pf)::fs)) s Y/\Y.heap[W2.heap.size]? =some (aT (X.aH ks 0))) ⟨dC.o,YR.o⟩ ?_;rintro W4 ⟨ha,hr⟩
  have dC:=ae ha;first
   |have aV:=aV
    have hc:=aj W4 pf (ha.get (ag _ af:(pf,ax p nm size g ks.length c {f with read:=false})∈((W3.heap.size,aZ pv)::(pf,ax p nm size g ks.length c {f with read:=false})::(w.heap.size,aO pf)::fs)));have ed:=aj W4 w.heap.size (ha.get (ag _ (ag _ af):(w.heap.size,aO pf)∈((W3.heap.size,aZ pv)::(pf,ax p nm size g ks.length c {f with read:=false})::(w.heap.size,aO pf)::fs)))
    skip
   |have aM:=aM
    have hc:=aj W4 pf (ha.get (ag _ af:(pf,ax p nm size g ks.length c {f with read:=false})∈_));have ed:=aj W4 w.heap.size (ha.get (ag _ (ag _ af):(w.heap.size,aO pf)∈_));have eD:=aj W4 W2.heap.size hr
    skip
   |have aI:=aI
    have hc:=aj W4 pf (ha.get (ag _ af:(pf,ax p nm size g ks.length c {f with read:=false})∈((W3.heap.size,aZ pv)::(pf,ax p nm size g ks.length c {f with read:=false})::(w.heap.size,aO pf)::fs)));have ed:=aj W4 w.heap.size (ha.get (ag _ (ag _ af):(w.heap.size,aO pf)∈((W3.heap.size,aZ pv)::(pf,ax p nm size g ks.length c {f with read:=false})::(w.heap.size,aO pf)::fs)))
    skip
   |have hc:=aj W4 pf (ha.get (ag _ af:(pf,ax p nm size g ks.length c {f with read:=false})∈_))
    have ed:=aj W4 w.heap.size (ha.get (ag _ (ag _ af):(w.heap.size,aO pf)∈_));have eD:=aj W4 W2.heap.size hr
  rw[dZ]at hc;first
   |have aV:=aV
    clear ha eD dZ
   |have aM:=aM
    clear ha hr YR lL cY dZ;go_wp2_with fail;refine(HV.o _ _ (λy hy=>by simp[hy]) _ dC.o).mono ?_;rintro e W5 ⟨rfl,hb⟩;have fw:=ae (dC.o.below hb);have IG:=aj W5 W3.heap.size (fw.o.get af);have hz8:=aD (fw.o.get af);clear hb dC hc ed eD HV
   |have aI:=aI
    clear ha eD dZ
   |clear ha hr YR lL cY dZ
    go_wp2_with fail;refine(HV.o _ _ (λy hy=>by simp[hy]) _ dC.o).mono ?_;rintro e W5 ⟨rfl,hb⟩;have fw:=ae (dC.o.below hb);have IG:=aj W5 W3.heap.size (fw.o.get af);have hz8:=aD (fw.o.get af);clear hb dC hc ed eD HV
  go_upto_region 14 with fail;first
   |have aV:=aV
    refine aL (λY=>At w0 p ((W3.heap.size,aZ pv)::(pf,ax p nm size g ks.length c {f with read:=false})::(w.heap.size,aO pf)::fs) s Y) dC.o ?_
   |have aM:=aM
    have eP:=ae (fw.o.BQ HN8.o JS.o pv);refine aL (λY=>At w0 p ((W3.heap.size,aZ pv)::(pf,ax p nm size g ks.length c {f with read:=false})::(w.heap.size,aO pf)::fs) s Y) eP.o ?_
   |have aI:=aI
    refine aL (λY=>At w0 p ((W3.heap.size,aZ pv)::(pf,ax p nm size g ks.length c {f with read:=false})::(w.heap.size,aO pf)::fs) s Y) dC.o ?_
   |have eP:=ae (fw.o.BQ HN8.o JS.o pv)
    refine aL (λY=>At w0 p ((W3.heap.size,aZ pv)::(pf,ax p nm size g ks.length c {f with read:=false})::(w.heap.size,aO pf)::fs) s Y) eP.o ?_
  intro W ha;have Wf:=ae ha;first
   |have aV:=aV
    clear ha dC cY hc ed
   |have aM:=aM
    clear ha fw eP IG hz8
   |have aI:=aI
    clear ha dC cY hc ed
   |clear ha fw eP IG hz8
  refine aJ 16 (.rd 0 (.rd 1 (.rd 2 (.rd 3 (.rd 4 (.rd 5 (.rd 6 (.rd 7 (.rd 8 (.two 9 (.two 10 (.rd 11 (.rd 12 (.rd 13 (.wr 14 (.wr 15 .fin))))) 14 (.wr 10 (.rd 11 (.rd 12 (.rd 13 (.wr 15 .fin)))))) 14 (.wr 9 (.wr 10 (.rd 11 (.rd 12 (.rd 13 (.wr 15 .fin)))))))))))))))) (λw'=>At w0 p ((W3.heap.size,aZ pv)::(pf,ax p nm size g ks.length c {f with read:=false})::(w.heap.size,aO pf)::fs) s w') (Wf.o.below ((ak _ _).drew)) ?_;repeat
   refine aA (v:= ?_) (λw' hS=> ?_) (λK hK=> ?_);rotate_left
   ·have hc:=aj w' pf (hS.get (ag _ af:(pf,ax p nm size g ks.length c {f with read:=false})∈((W3.heap.size,aZ pv)::(pf,ax p nm size g ks.length c {f with read:=false})::(w.heap.size,aO pf)::fs)));have ed:=aj w' w.heap.size (hS.get (ag _ (ag _ af):(w.heap.size,aO pf)∈((W3.heap.size,aZ pv)::(pf,ax p nm size g ks.length c {f with read:=false})::(w.heap.size,aO pf)::fs)));have IG:=aj w' W3.heap.size (hS.get (af:(W3.heap.size,aZ pv)∈((W3.heap.size,aZ pv)::(pf,ax p nm size g ks.length c {f with read:=false})::(w.heap.size,aO pf)::fs)));clear hS;go_simp;try with_reducible rfl
   go_simp;refine hK _ ?_;clear hK K
  refine dX (by rfl) (by rfl) (λK hK=> ?_) (λK hK=> ?_)
  ·go_simp;refine(kz.o _).mono ?_;rintro e W6 ⟨rfl,hb⟩;have eP:=ae (Wf.o.below (((ak _ W).drew).trans hb));refine hK.out _ _ (λw'=>At w0 p ((W3.heap.size,aZ pv)::(pf,ax p nm size g ks.length c {f with read:=false})::(w.heap.size,aO pf)::fs) s w') (λ_ h=>h) eP.o ?_;clear hK K hb kz;refine dX (by rfl) (by rfl) (λK hK=> ?_) (λK hK=> ?_)
   ·go_simp;refine(kr.o _ _ eP.o).mono ?_;rintro e W7 ⟨v,rfl,nE,uY,tF⟩;first
     |have aV:=aV
      obtain⟨A7,c7,hv,_,_⟩:=(nE.sl).by
      skip
     |have aM:=aM
      obtain⟨A7,c7,hv,_,_⟩:=(nE.sl).by
      skip
     |have nE:bT W7 (· <W6.heap.size) v o.b:=nE
      obtain⟨x,h8,hx8,vA,bo,oo,hv⟩:=eP.o.old tF nE vT.o
    subst hv;first
     |have aV:=aV
      skip
     |have aM:=aM
      skip
     |have lH:=ae h8
      have Rz:=ae vA
    have ez:=ae uY;first
     |have aV:=aV
      clear uY nE tF eP kr
     |have aM:=aM
      clear uY nE tF eP kr
     |clear uY nE tF h8 hx8 vA eP kr
    refine hK.out _ _ (λw'=>At w0 p ((W3.heap.size,aZ pv)::(pf,ax p nm size g ks.length c {f with read:=false})::(w.heap.size,aO pf)::fs) s w') (λ_ h=>h) ez.o ?_;clear hK K;repeat
     refine aA (v:= ?_) (λw' hS=> ?_) (λK hK=> ?_);rotate_left
     ·have hc:=aj w' pf (hS.get (ag _ af:(pf,ax p nm size g ks.length c {f with read:=false})∈((W3.heap.size,aZ pv)::(pf,ax p nm size g ks.length c {f with read:=false})::(w.heap.size,aO pf)::fs)));have ed:=aj w' w.heap.size (hS.get (ag _ (ag _ af):(w.heap.size,aO pf)∈((W3.heap.size,aZ pv)::(pf,ax p nm size g ks.length c {f with read:=false})::(w.heap.size,aO pf)::fs)));have IG:=aj w' W3.heap.size (hS.get (af:(W3.heap.size,aZ pv)∈((W3.heap.size,aZ pv)::(pf,ax p nm size g ks.length c {f with read:=false})::(w.heap.size,aO pf)::fs)));clear hS;go_simp;try with_reducible rfl
     go_simp;refine hK _ ?_;clear hK K
    iterate 2
     refine az (λK hK=> ?_);go_simp;refine hK.out _ _ (λw'=>At w0 p ((W3.heap.size,aZ pv)::(pf,ax p nm size g ks.length c {f with read:=false})::(w.heap.size,aO pf)::fs) s w') (λ_ h=>h) (ez.o.below ((ak _ W7).alloc (aq _) _)) ?_;clear hK K
    first
     |have aV:=aV
      have lI:=ae (ez.o.below ((ak _ W7).alloc (aq _) (bW (.slice A7 (([]:J.B).length:Nat) c7))))
      skip
     |have aM:=aM
      have lI:=ae (ez.o.below ((ak _ W7).alloc (aq _) (bW (.slice A7 (([]:J.B).length:Nat) c7))))
      skip
     |have lI:=ae (lH.o.more (bW (.slice (some ⟨bo,oo,none⟩) o.b.length o.b.length)))
    show wpList _ _ _ _ _ _;first
     |have aV:=aV
      refine aL (λY=>At w0 p ((W3.heap.size,aZ pv)::(pf,ax p nm size g ks.length c {f with read:=false})::(w.heap.size,aO pf)::fs) s Y) lI.o ?_
     |have aM:=aM
      refine aL (λY=>At w0 p ((W3.heap.size,aZ pv)::(pf,ax p nm size g ks.length c {f with read:=false})::(w.heap.size,aO pf)::fs) s Y) lI.o ?_
     |refine aL (λY=>At w0 p ((W7.heap.size,bW (.slice (some ⟨bo,oo,none⟩) o.b.length o.b.length))::(W3.heap.size,aZ pv)::x::((pf,ax p nm size g ks.length c {f with read:=false})::(w.heap.size,aO pf)::fs)) s Y) lI.o ?_
    intro W9 uX;have lI:=ae uX;first
     |have aV:=aV
      clear uX ez
     |have aM:=aM
      clear uX ez
     |have ed:=aj W9 w.heap.size (uX.get (by simp:(w.heap.size,aO pf)∈_))
      have NT:=ae (HU.o _ W9 W3.heap.size W7.heap.size pv _ _ lI.o gi.o (by simp) (by simp) (by simp) (by simp) (by simp[jo.o]) ((Rz.o.2).more (λy hy=>by rcases au hy with rfl|hy<;>simp_all)));clear uX lH ez HU Rz;go_wp2_with fail;refine NT.o.mono ?_;rintro e W10 ⟨rfl,s1,now,h8,zI,hcon⟩;have IA:=ae (h8.less (gs:=(pf,ax p nm size g ks.length c {f with read:=false})::fs) (λy hy=>by rcases au hy with rfl|hy<;>simp_all));have Hq:=ae zI;have QO:=ae hcon;clear h8 zI hcon NT lI
    go_wp2;go_ret;first
     |have aV:=aV
      exact⟨rfl,lI.o.less (λy hy=>by rcases au hy with rfl|hy<;>simp_all)⟩
      skip
     |have aM:=aM
      exact⟨rfl,lI.o.less (λy hy=>by rcases au hy with rfl|hy<;>simp_all)⟩
      skip
     |exact⟨rfl,_,_,IA.o,Hq.o,QO.o⟩
   ·go_simp;have nG:=ae (eP.o.more (bW (.slice none 0 0)));have sR:=ae (λy (hy:y∈((W3.heap.size,aZ pv)::(pf,ax p nm size g ks.length c {f with read:=false})::(w.heap.size,aO pf)::fs))=>(by have:=eP.o.lt hy;omega:y.1≠W6.heap.size));refine hK.out _ _ (λw'=>At w0 p ((W3.heap.size,aZ pv)::(pf,ax p nm size g ks.length c {f with read:=false})::(w.heap.size,aO pf)::fs) s w') (λ_ h=>h) (nG.o.less (λy hy=>ag _ hy)) ?_;clear hK K;refine az (λK hK=> ?_);generalize hB9:W6.heap.size=B9 at nG sR|-;go_simp;refine(kr.o _ _ nG.o).mono ?_;rintro e W7 ⟨v,rfl,nE,uY,tF⟩;first
     |have aV:=aV
      obtain⟨A7,c7,hv,_,_⟩:=(nE.sl).by
      skip
     |have aM:=aM
      obtain⟨A7,c7,hv,_,_⟩:=(nE.sl).by
      skip
     |have nE:bT W7 (· <_) v o.b:=nE
      obtain⟨x,h8,hx8,vA,bo,oo,hv⟩:=nG.o.old tF nE vT.o
    subst hv;first
     |have aV:=aV
      skip
     |have aM:=aM
      skip
     |have lH:=ae h8
      have Rz:=ae vA;have yA:=ae (λy (hy:y∈x::((W3.heap.size,aZ pv)::(pf,ax p nm size g ks.length c {f with read:=false})::(w.heap.size,aO pf)::fs))=>(by
       rcases au hy with rfl|hy
       ·have:=nG.o.lt af;omega
       ·exact sR.o y hy:y.1≠B9))
    have ez:=ae uY;first
     |have aV:=aV
      clear uY nE tF nG kr
     |have aM:=aM
      clear uY nE tF nG kr
     |clear uY nE tF h8 hx8 vA nG kr
    refine hK.out _ _ (λw'=>At w0 p ((W3.heap.size,aZ pv)::(pf,ax p nm size g ks.length c {f with read:=false})::(w.heap.size,aO pf)::fs) s w') (λ_ h=>h) (ez.o.less (λy hy=>ag _ hy)) ?_;clear hK K;repeat
     refine aA (v:= ?_) (λw' hS=> ?_) (λK hK=> ?_);rotate_left
     ·have hc:=aj w' pf (hS.get (ag _ af:(pf,ax p nm size g ks.length c {f with read:=false})∈((W3.heap.size,aZ pv)::(pf,ax p nm size g ks.length c {f with read:=false})::(w.heap.size,aO pf)::fs)));have ed:=aj w' w.heap.size (hS.get (ag _ (ag _ af):(w.heap.size,aO pf)∈((W3.heap.size,aZ pv)::(pf,ax p nm size g ks.length c {f with read:=false})::(w.heap.size,aO pf)::fs)));have IG:=aj w' W3.heap.size (hS.get (af:(W3.heap.size,aZ pv)∈((W3.heap.size,aZ pv)::(pf,ax p nm size g ks.length c {f with read:=false})::(w.heap.size,aO pf)::fs)));clear hS;go_simp;try with_reducible rfl
     go_simp;refine hK _ ?_;clear hK K
    have qA:=aj W7 B9 (ez.o.get (af:(B9,bW (.slice none 0 0))∈(B9,bW (.slice none 0 0))::((W3.heap.size,aZ pv)::(pf,ax p nm size g ks.length c {f with read:=false})::(w.heap.size,aO pf)::fs)));have NS:=aD (ez.o.get (af:(B9,bW (.slice none 0 0))∈(B9,bW (.slice none 0 0))::((W3.heap.size,aZ pv)::(pf,ax p nm size g ks.length c {f with read:=false})::(w.heap.size,aO pf)::fs)));first
     |have aV:=aV
      have nH:=ae (ez.o.gV ⟨_,_,_,rfl⟩ sR.o JS.o (.slice A7 (([]:J.B).length:Nat) c7))
      skip
     |have aM:=aM
      have nH:=ae (ez.o.gV ⟨_,_,_,rfl⟩ sR.o JS.o (.slice A7 (([]:J.B).length:Nat) c7))
      skip
     |have nH:=ae (ez.o.gV ⟨_,_,_,rfl⟩ sR.o JS.o (.slice (some ⟨bo,oo,none⟩) o.b.length o.b.length))
    refine az (λK hK=> ?_);go_simp;refine hK.out _ _ (λw'=>At w0 p ((W3.heap.size,aZ pv)::(pf,ax p nm size g ks.length c {f with read:=false})::(w.heap.size,aO pf)::fs) s w') (λ_ h=>h) (nH.o.less (λy hy=>ag _ hy)) ?_;clear hK K qA NS;first
     |have aV:=aV
      skip
     |have aM:=aM
      skip
     |have lI:=ae (lH.o.gV ⟨_,_,_,rfl⟩ yA.o JS.o (.slice (some ⟨bo,oo,none⟩) o.b.length o.b.length))
    show wpList _ _ _ _ _ _;first
     |have aV:=aV
      refine aL (λY=>At w0 p ((W3.heap.size,aZ pv)::(pf,ax p nm size g ks.length c {f with read:=false})::(w.heap.size,aO pf)::fs) s Y) (nH.o.less (λy hy=>ag _ hy)) ?_
     |have aM:=aM
      refine aL (λY=>At w0 p ((W3.heap.size,aZ pv)::(pf,ax p nm size g ks.length c {f with read:=false})::(w.heap.size,aO pf)::fs) s Y) (nH.o.less (λy hy=>ag _ hy)) ?_
     |refine aL (λY=>At w0 p ((B9,bW (.slice (some ⟨bo,oo,none⟩) o.b.length o.b.length))::x::((W3.heap.size,aZ pv)::(pf,ax p nm size g ks.length c {f with read:=false})::(w.heap.size,aO pf)::fs)) s Y) lI.o ?_
    intro W9 uX;have lI:=ae uX;first
     |have aV:=aV
      clear uX ez nH
     |have aM:=aM
      clear uX ez nH
     |have ed:=aj W9 w.heap.size (uX.get (by simp:(w.heap.size,aO pf)∈_))
      have NT:=ae (HU.o _ W9 W3.heap.size B9 pv _ _ lI.o gi.o (by simp) (by simp) (by simp) (by simp) (by simp[jo.o]) ((Rz.o.2).more (λy hy=>ag _ hy)));clear uX lH ez nH HU Rz yA;go_wp2_with fail;refine NT.o.mono ?_;rintro e W10 ⟨rfl,s1,now,h8,zI,hcon⟩;have IA:=ae (h8.less (gs:=(pf,ax p nm size g ks.length c {f with read:=false})::fs) (λy hy=>by rcases au hy with rfl|hy<;>simp_all));have Hq:=ae zI;have QO:=ae hcon;clear h8 zI hcon NT lI
    go_wp2;go_ret;first
     |have aV:=aV
      exact⟨rfl,lI.o.less (λy hy=>by rcases au hy with rfl|hy<;>simp_all)⟩
      skip
     |have aM:=aM
      exact⟨rfl,lI.o.less (λy hy=>by rcases au hy with rfl|hy<;>simp_all)⟩
      skip
     |exact⟨rfl,_,_,IA.o,Hq.o,QO.o⟩
  ·go_simp;have Wh:=ae ((Wf.o.below ((ak _ W).drew)).more (bW (.slice none 0 0)));have sR:=ae (λy (hy:y∈((W3.heap.size,aZ pv)::(pf,ax p nm size g ks.length c {f with read:=false})::(w.heap.size,aO pf)::fs))=>(by have:=Wf.o.lt hy;omega:y.1≠W.heap.size));have aaI:W.drew.heap.size=W.heap.size:=(by simp);rw[aaI]at Wh;refine hK.out _ _ (λw'=>At w0 p ((W3.heap.size,aZ pv)::(pf,ax p nm size g ks.length c {f with read:=false})::(w.heap.size,aO pf)::fs) s w') (λ_ h=>h) (Wh.o.less (λy hy=>ag _ hy)) ?_;clear hK K;refine az (λK hK=> ?_);go_simp;refine(kz.o _).mono ?_;rintro e W6 ⟨rfl,hb⟩;have nG:=ae (Wh.o.below hb);refine hK.out _ _ (λw'=>At w0 p ((W3.heap.size,aZ pv)::(pf,ax p nm size g ks.length c {f with read:=false})::(w.heap.size,aO pf)::fs) s w') (λ_ h=>h) (nG.o.less (λy hy=>ag _ hy)) ?_;clear hK K hb kz Wh;refine az (λK hK=> ?_);generalize hB9:W.heap.size=B9 at nG sR|-;go_simp;refine(kr.o _ _ nG.o).mono ?_;rintro e W7 ⟨v,rfl,nE,uY,tF⟩;first
    |have aV:=aV
     obtain⟨A7,c7,hv,_,_⟩:=(nE.sl).by
     skip
    |have aM:=aM
     obtain⟨A7,c7,hv,_,_⟩:=(nE.sl).by
     skip
    |have nE:bT W7 (· <_) v o.b:=nE
     obtain⟨x,h8,hx8,vA,bo,oo,hv⟩:=nG.o.old tF nE vT.o
   subst hv;first
    |have aV:=aV
     skip
    |have aM:=aM
     skip
    |have lH:=ae h8
     have Rz:=ae vA;have yA:=ae (λy (hy:y∈x::((W3.heap.size,aZ pv)::(pf,ax p nm size g ks.length c {f with read:=false})::(w.heap.size,aO pf)::fs))=>(by
      rcases au hy with rfl|hy
      ·have:=nG.o.lt af;omega
      ·exact sR.o y hy:y.1≠B9))
   have ez:=ae uY;first
    |have aV:=aV
     clear uY nE tF nG kr
    |have aM:=aM
     clear uY nE tF nG kr
    |clear uY nE tF h8 hx8 vA nG kr
   refine hK.out _ _ (λw'=>At w0 p ((W3.heap.size,aZ pv)::(pf,ax p nm size g ks.length c {f with read:=false})::(w.heap.size,aO pf)::fs) s w') (λ_ h=>h) (ez.o.less (λy hy=>ag _ hy)) ?_;clear hK K;repeat
    refine aA (v:= ?_) (λw' hS=> ?_) (λK hK=> ?_);rotate_left
    ·have hc:=aj w' pf (hS.get (ag _ af:(pf,ax p nm size g ks.length c {f with read:=false})∈((W3.heap.size,aZ pv)::(pf,ax p nm size g ks.length c {f with read:=false})::(w.heap.size,aO pf)::fs)));have ed:=aj w' w.heap.size (hS.get (ag _ (ag _ af):(w.heap.size,aO pf)∈((W3.heap.size,aZ pv)::(pf,ax p nm size g ks.length c {f with read:=false})::(w.heap.size,aO pf)::fs)));have IG:=aj w' W3.heap.size (hS.get (af:(W3.heap.size,aZ pv)∈((W3.heap.size,aZ pv)::(pf,ax p nm size g ks.length c {f with read:=false})::(w.heap.size,aO pf)::fs)));clear hS;go_simp;try with_reducible rfl
    go_simp;refine hK _ ?_;clear hK K
   have qA:=aj W7 B9 (ez.o.get (af:(B9,bW (.slice none 0 0))∈(B9,bW (.slice none 0 0))::((W3.heap.size,aZ pv)::(pf,ax p nm size g ks.length c {f with read:=false})::(w.heap.size,aO pf)::fs)));have NS:=aD (ez.o.get (af:(B9,bW (.slice none 0 0))∈(B9,bW (.slice none 0 0))::((W3.heap.size,aZ pv)::(pf,ax p nm size g ks.length c {f with read:=false})::(w.heap.size,aO pf)::fs)));first
    |have aV:=aV
     have nH:=ae (ez.o.gV ⟨_,_,_,rfl⟩ sR.o JS.o (.slice A7 (([]:J.B).length:Nat) c7))
     skip
    |have aM:=aM
     have nH:=ae (ez.o.gV ⟨_,_,_,rfl⟩ sR.o JS.o (.slice A7 (([]:J.B).length:Nat) c7))
     skip
    |have nH:=ae (ez.o.gV ⟨_,_,_,rfl⟩ sR.o JS.o (.slice (some ⟨bo,oo,none⟩) o.b.length o.b.length))
   refine az (λK hK=> ?_);go_simp;refine hK.out _ _ (λw'=>At w0 p ((W3.heap.size,aZ pv)::(pf,ax p nm size g ks.length c {f with read:=false})::(w.heap.size,aO pf)::fs) s w') (λ_ h=>h) (nH.o.less (λy hy=>ag _ hy)) ?_;clear hK K qA NS;first
    |have aV:=aV
     skip
    |have aM:=aM
     skip
    |have lI:=ae (lH.o.gV ⟨_,_,_,rfl⟩ yA.o JS.o (.slice (some ⟨bo,oo,none⟩) o.b.length o.b.length))
   show wpList _ _ _ _ _ _;first
    |have aV:=aV
     refine aL (λY=>At w0 p ((W3.heap.size,aZ pv)::(pf,ax p nm size g ks.length c {f with read:=false})::(w.heap.size,aO pf)::fs) s Y) (nH.o.less (λy hy=>ag _ hy)) ?_
    |have aM:=aM
     refine aL (λY=>At w0 p ((W3.heap.size,aZ pv)::(pf,ax p nm size g ks.length c {f with read:=false})::(w.heap.size,aO pf)::fs) s Y) (nH.o.less (λy hy=>ag _ hy)) ?_
    |refine aL (λY=>At w0 p ((B9,bW (.slice (some ⟨bo,oo,none⟩) o.b.length o.b.length))::x::((W3.heap.size,aZ pv)::(pf,ax p nm size g ks.length c {f with read:=false})::(w.heap.size,aO pf)::fs)) s Y) lI.o ?_
   intro W9 uX;have lI:=ae uX;first
    |have aV:=aV
     clear uX ez nH
    |have aM:=aM
     clear uX ez nH
    |have ed:=aj W9 w.heap.size (uX.get (by simp:(w.heap.size,aO pf)∈_))
     have NT:=ae (HU.o _ W9 W3.heap.size B9 pv _ _ lI.o gi.o (by simp) (by simp) (by simp) (by simp) (by simp[jo.o]) ((Rz.o.2).more (λy hy=>ag _ hy)));clear uX lH ez nH HU Rz yA;go_wp2_with fail;refine NT.o.mono ?_;rintro e W10 ⟨rfl,s1,now,h8,zI,hcon⟩;have IA:=ae (h8.less (gs:=(pf,ax p nm size g ks.length c {f with read:=false})::fs) (λy hy=>by rcases au hy with rfl|hy<;>simp_all));have Hq:=ae zI;have QO:=ae hcon;clear h8 zI hcon NT lI
   go_wp2;go_ret;first
    |have aV:=aV
     exact⟨rfl,lI.o.less (λy hy=>by rcases au hy with rfl|hy<;>simp_all)⟩
     skip
    |have aM:=aM
     exact⟨rfl,lI.o.less (λy hy=>by rcases au hy with rfl|hy<;>simp_all)⟩
     skip
    |exact⟨rfl,_,_,IA.o,Hq.o,QO.o⟩
abbrev MU:= @Kq.1
abbrev MV:= @Kq.2.1
abbrev ES:= @Kq.2.2.1
abbrev ET:= @Kq.2.2.2
end
end Go.Proofs.YtipljcmmokaokaaGreat
