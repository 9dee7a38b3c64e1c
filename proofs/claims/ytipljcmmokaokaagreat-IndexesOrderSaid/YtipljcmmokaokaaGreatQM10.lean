import Derived.Test.YtipljcmmokaokaaGreatQM09
import Derived.Test.YtipljcmmokaokaaGreatQM08
set_option linter.unusedVariables false
set_option linter.unusedSimpArgs false
set_option maxHeartbeats 8000000
namespace Go.Proofs.YtipljcmmokaokaaGreat
open Go.RowKit Go.Lib
set_option maxRecDepth 100000
def Ns (w:World) (v:Value) (m:J.iC):Prop:=∃h0 h1 a0 a1,v=wT h0 h1 a0 a1∧Sl w bL h0 m.h0∧Sl w bL h1 m.h1∧Sl w bL a0 m.a0∧Sl w bL a1 m.a1
theorem Ns.below {w w':World} {v:Value} {m:J.iC} (h:Ns w v m) (hb:Below w.heap.size w w'):Ns w' v m:=by
 obtain⟨h0,h1,a0,a1,rfl,q0,q1,q2,q3⟩:=h;exact⟨h0,h1,a0,a1,rfl,q0.step (Step.aH hb),q1.step (Step.aH hb),q2.step (Step.aH hb),q3.step (Step.aH hb)⟩
theorem qc {w:World} {base n:Nat} {v:Value} {l:List UInt8} (h:w.ownsRow base 5 1 v n (dy l)):Sl w bL v l:=rk h (fun _ h=>h.elim)
end Go.Proofs.YtipljcmmokaokaaGreat
namespace Go.Proofs.YtipljcmmokaokaaGreat
open Go.RowKit Go.Lib Go.Maps Go.WideMaps
set_option maxRecDepth 100000
theorem vQ (p:Nat) (M:Nat→Prop) (s:J.St) (kd i:Nat) (v:Value) (bs:List UInt8) (w:World) (h:cp w p M s) (hk:kd≤2) (hi:i≤1) (hv:Sl w M v bs) (hb:bs.length≤40000000) (rj:s.logged+bs.length≤100000000) (qb:s.writes.length+1≤100000000) (h0:kd≠1→0<bs.length)
  (ha0:s.disk.a0.length≤16000000) (ha1:s.disk.a1.length≤16000000) (Sj:s.disk.h0.length≤16000000) (Sk:s.disk.h1.length≤16000000):
  Calls Tryz.prog 130 #[.pointer (some ⟨p,0,none⟩), .agg #[.int .u8 kd, .int .i64 i,v]] w fun e w'=>(∃r,e= .returned r)∧∃M',cp w' p M' (J.write s ⟨kd,i,bs⟩)∧Step M M' w w':=by
 obtain⟨A,c,rfl⟩:=hv.dg;have hq:=h.cap;have hs:Sl w (fun k=>M k∧k<w.heap.size) (.slice A bs.length c) bs:=hv.weak (fun k h=>h.1);have hM:∀k,(fun k=>M k∧k<w.heap.size) k→k<w.heap.size:=fun k h=>h.2;have fin:∀{e:Ending} {w':World} {L:J.St},((∃r,e= .returned r)∧∃M',cp w' p M' L∧Step (fun k=>M k∧k<w.heap.size) M' w w')→(∃r,e= .returned r)∧∃M',cp w' p M' L∧Step M M' w w':=
  fun⟨h1,M',h2,h3⟩=>⟨h1,M',h2,h3.yJ⟩
 rcases(show kd=0∨kd=1∨kd=2 by omega)with rfl|rfl|rfl<;>rcases(show i=0∨i=1 by omega)with rfl|rfl
 ·exact(yN p _ s A bs.length c bs w hq hM hs rj qb rfl (h0 (by decide)) (by omega)).mono fun e w' h=>fin h
 ·exact(yO p _ s A bs.length c bs w hq hM hs rj qb rfl (h0 (by decide)) (by omega)).mono fun e w' h=>fin h
 ·exact(wY p _ s A bs.length c bs w hq hM hs rj qb rfl).mono fun e w' h=>fin h
 ·exact(wZ p _ s A bs.length c bs w hq hM hs rj qb rfl).mono fun e w' h=>fin h
 ·exact(yQ p _ s A bs.length c bs w hq hM hs rj qb rfl (h0 (by decide)) (by omega) hb).mono fun e w' h=>fin h
 ·exact(yR p _ s A bs.length c bs w hq hM hs rj qb rfl (h0 (by decide)) (by omega) hb).mono fun e w' h=>fin h
structure tW (s:J.St) (m:List (J.B×J.B)):Prop where
 enc:(J.encs (J.values m)).length≤40000000
 com:s.commits<4611686018427387904
 key:∀p∈m,p.1.length≤maxLen
theorem bj {w:World} {base n size:Nat} {e:TypeId} {v:Value} {xs:List Value} (h:w.ownsRow base e size v n xs):∃A c,v= .slice A n c:=by
 rcases h.2 with⟨rfl,h0⟩|⟨g',cap,cur,rfl,_⟩
 ·exact⟨none,0,by rw[h0]⟩
 ·exact⟨_,_,rfl⟩
theorem jW.sl {w:World} {M:Nat→Prop} {v:Value} {l:List UInt8} (h:jW w M v l):Sl w bL v l:=by
 rcases h with⟨h,_⟩|h
 ·have hl:l.length=l.length:=rfl;exact rk h (fun k h=>h.elim)
 ·exact h.sl.weak (fun k h=>h.elim)
theorem Nt:Ok J.new:=
 ⟨by decide,by decide,by decide,by decide,by decide,by decide,by decide,by decide,(fun h=>by cases h),(fun _=>rfl),by decide,by decide,by decide,by decide,by decide,by decide⟩
theorem J9 (w:World):
  Calls Tryz.prog 9 #[] w fun e w'=>∃p M,e= .returned (.pointer (some ⟨p,0,none⟩))∧bt w' p M J.new∧(∀k,M k→w.heap.size≤k)∧Below w.heap.size w w':=by
 have PJ:= @run_makeMap Tryz.prog;go_enter Tryz.func9,Tryz.ntmps9;go_wp2_with fail;go_ret;refine⟨w.heap.size+1,fun k=>w.heap.size≤k,rfl,⟨w.heap.size,none, .slice none 0 0, .slice none 0 0, .slice none 0 0, .slice none 0 0, .slice none 0 0, .slice none 0 0, .slice none 0 0, .slice none 0 0, .slice none 0 0, .slice none 0 0, ?_,by show _≤_;omega,⟨?_,aj _,rfl,fS.iF _ _ _,fun k h=>(by cases h),⟨[],rfl,World.ownsRow_nil _ _ _ _,fun k h=>(by cases h),fun i h=>absurd h (by simp[J.new])⟩,cE.iF,cE.iF,cE.iF,cE.iF,Sl.iF,Sl.iF, .inr cE.iF, .inr cE.iF,fun k h=>(by cases h)⟩,Nt⟩,fun k h=>h,((ai _ w).alloc (aj _) _).alloc (by simp) _⟩
 ·have:=heap_alloc_new (w.alloc (.map #[] 0)) (.cells (bC J.new w.heap.size none (.slice none 0 0) (.slice none 0 0) (.slice none 0 0) (.slice none 0 0) (.slice none 0 0) (.slice none 0 0) (.slice none 0 0) (.slice none 0 0) (.slice none 0 0) (.slice none 0 0)) 99);rw[show(w.alloc (.map #[] 0)).heap.size=w.heap.size+1 by simp]at this;exact this
 ·exact(dp.made w _).step (Step.aH ((ai _ (w.alloc (.map #[] 0))).alloc (aj _) _)) (Below.heap_alloc _ _ _ (by simp))
end Go.Proofs.YtipljcmmokaokaaGreat
