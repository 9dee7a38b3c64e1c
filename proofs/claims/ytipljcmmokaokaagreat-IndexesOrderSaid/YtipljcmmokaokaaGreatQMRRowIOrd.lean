import Derived.Test.YtipljcmmokaokaaGreatQM41
set_option linter.unusedVariables false
set_option linter.unusedSimpArgs false
namespace Go.Proofs.YtipljcmmokaokaaGreat
open Go.ChangeShapes Go.WideShapes Go.ChangeAt Go.WideMaps Go.WideElems Go.RowKit
set_option maxRecDepth 100000
theorem oW (os:Os) (started:os.Started) (H:Type) (enc:TypeId×Value→H):
  ReturnsInHanded {} Tryz.checked os 3 .any (fun w args=>Rows.indexesOrderSpec.pre enc Tryz.prog Tryz.f3 [] false w args∧sizedMet enc Tryz.prog Tryz.f3 (OpenSpec.ofChange Rows.indexesOrderSpec) false w args)
   (Rows.indexesOrderSpec.post enc Tryz.prog Tryz.f3 false true false false):=by
 refine Gx (tb:=4) started (by kernel_rfl) Tryz.func3
  (ChangeSpec.witness6 (enc:=enc) (C:=Tryz.checked) false ⟨#[],#[.int .u8 0, .slice none 0 0],[]⟩ 8 (by kernel_rfl) (by kernel_rfl) (by kernel_rfl) (by kernel_rfl))
  rfl (fun l hl=> ?_) (by kernel_rfl) Tryz.underlying4 (by kernel_rfl) ?_
 ·match l,hl with
  |[a,b],_=>rfl
 ·intro W base args ds ps hval hA _ _;rw[Tryz.params3]at hA hval;obtain⟨v0,v1,d0,d1,p0,p1,rfl,rfl,rfl,h0,h1⟩:=trodAll_two hA;obtain⟨z,rfl,_,_,w2⟩:=open_int Tryz.underlying5 (hval 0 5 v0 rfl rfl) h0;obtain⟨_,_,_,rfl⟩:=okWide_slice Tryz.underlying22 (hval 1 22 v1 rfl rfl);obtain⟨A1,c1,L1,e1,hL⟩:=Jp h1 rfl;rw[e1];obtain⟨a,rfl⟩:∃a:Nat,z=a:=by
   have:=bounds_u8 w2;exact⟨z.toNat,by omega⟩
  exact CG A1 c1 L1 a W hL
theorem indexesOrder_holds:Rows.IndexesOrderSaid:=
 OpenClaim.holds_of_wide 3 Tryz.f3 rfl rfl rfl rfl rfl rfl rfl ⟨rfl,rfl,rfl,rfl,rfl⟩ rfl rfl rfl rfl rfl (by kernel_rfl) Tryz.func3 (by kernel_rfl)
  (of_decide_eq_true (by kernel_rfl)) (by unfold Func.isWrapper;rw[if_neg (of_decide_eq_false (by kernel_rfl))];exact⟨rfl,rfl⟩)
  (fun os started H enc _=>oW os started H enc)
end Go.Proofs.YtipljcmmokaokaaGreat
