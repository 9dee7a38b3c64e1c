import Derived.Test.YtipljcmmokaokaaGreatQM09
import Derived.Test.YtipljcmmokaokaaGreatQM08
set_option linter.unusedVariables false
set_option linter.unusedSimpArgs false
set_option maxHeartbeats 8000000
namespace Go.Proofs.YtipljcmmokaokaaGreat
open Go.RowKit Go.Lib
set_option maxRecDepth 100000
def TH (w:World) (v:Value) (m:J.eF):Prop:=∃h0 h1 a0 a1,v=xL h0 h1 a0 a1∧Sl w bF h0 m.h0∧Sl w bF h1 m.h1∧Sl w bF a0 m.a0∧Sl w bF a1 m.a1
theorem TH.below {w w':World} {v:Value} {m:J.eF} (h:TH w v m) (hb:Below w.heap.size w w'):TH w' v m:=by
 obtain⟨h0,h1,a0,a1,rfl,q0,q1,q2,q3⟩:=h;exact⟨h0,h1,a0,a1,rfl,q0.step (Step.aI hb),q1.step (Step.aI hb),q2.step (Step.aI hb),q3.step (Step.aI hb)⟩
theorem Fw {w:World} {base n:Nat} {v:Value} {l:List UInt8} (h:w.ownsRow base 5 1 v n (dx l)):Sl w bF v l:=uu h (λ_ h=>h.elim)
end Go.Proofs.YtipljcmmokaokaaGreat
namespace Go.Proofs.YtipljcmmokaokaaGreat
open Go.RowKit Go.Lib Go.Maps Go.WideMaps
set_option maxRecDepth 100000
theorem wJ (p:Nat) (M:Nat→Prop) (s:J.St) (kd i:Nat) (v:Value) (bs:List UInt8) (w:World) (h:ck w p M s) (hk:kd≤2) (hi:i≤1) (hv:Sl w M v bs) (hb:bs.length≤40000000) (mG:s.logged+bs.length≤100000000) (sU:s.writes.length+1≤100000000) (h0:kd≠1→0<bs.length)
  (ha0:s.disk.a0.length≤16000000) (ha1:s.disk.a1.length≤16000000) (hh0:s.disk.h0.length≤16000000) (hh1:s.disk.h1.length≤16000000):
  Calls Tryz.prog 130 #[.pointer (some ⟨p,0,none⟩), .agg #[.int .u8 kd, .int .i64 i,v]] w λe w'=>(∃r,e= .returned r)∧∃M',ck w' p M' (J.write s ⟨kd,i,bs⟩)∧Step M M' w w':=by
 obtain⟨A,c,rfl⟩:=hv.cP;have hq:=h.cap;have hs:Sl w (λk=>M k∧k<w.heap.size) (.slice A bs.length c) bs:=hv.weak (λk h=>h.1);have hM:∀k,(λk=>M k∧k<w.heap.size) k→k<w.heap.size:=λk h=>h.2;have fin:∀{e:Ending} {w':World} {L:J.St},((∃r,e= .returned r)∧∃M',ck w' p M' L∧Step (λk=>M k∧k<w.heap.size) M' w w')→(∃r,e= .returned r)∧∃M',ck w' p M' L∧Step M M' w w':=
  λ⟨h1,M',h2,h3⟩=>⟨h1,M',h2,h3.Fp⟩
 rcases(show kd=0∨kd=1∨kd=2 by omega)with rfl|rfl|rfl<;>rcases(show i=0∨i=1 by omega)with rfl|rfl
 ·exact(Ak p _ s A bs.length c bs w hq hM hs mG sU rfl (h0 (by decide)) (by omega)).mono λe w' h=>fin h
 ·exact(Al p _ s A bs.length c bs w hq hM hs mG sU rfl (h0 (by decide)) (by omega)).mono λe w' h=>fin h
 ·exact(xR p _ s A bs.length c bs w hq hM hs mG sU rfl).mono λe w' h=>fin h
 ·exact(xS p _ s A bs.length c bs w hq hM hs mG sU rfl).mono λe w' h=>fin h
 ·exact(Ap p _ s A bs.length c bs w hq hM hs mG sU rfl (h0 (by decide)) (by omega) hb).mono λe w' h=>fin h
 ·exact(Aq p _ s A bs.length c bs w hq hM hs mG sU rfl (h0 (by decide)) (by omega) hb).mono λe w' h=>fin h
structure uv (s:J.St) (m:List (J.B×J.B)):Prop where
 enc:(J.encs (J.values m)).length≤40000000
 com:s.commits<4611686018427387904
 key:∀p∈m,p.1.length≤maxLen
theorem cJ {w:World} {base n size:Nat} {e:TypeId} {v:Value} {xs:List Value} (h:w.ownsRow base e size v n xs):∃A c,v= .slice A n c:=by
 rcases h.2 with⟨rfl,h0⟩|⟨g',cap,cur,rfl,_⟩
 ·exact⟨none,0,by rw[h0]⟩
 ·exact⟨_,_,rfl⟩
theorem fG.sl {w:World} {M:Nat→Prop} {v:Value} {l:List UInt8} (h:fG w M v l):Sl w bF v l:=by
 rcases h with⟨h,_⟩|h
 ·have hl:l.length=l.length:=rfl;exact uu h (λk h=>h.elim)
 ·exact h.sl.weak (λk h=>h.elim)
theorem TI:Ok J.new:=
 ⟨by decide,by decide,by decide,by decide,by decide,by decide,by decide,by decide,(λh=>by cases h),(λ_=>rfl),by decide,by decide,by decide,by decide,by decide,by decide⟩
theorem Pj (w:World):
  Calls Tryz.prog 9 #[] w λe w'=>∃p M,e= .returned (.pointer (some ⟨p,0,none⟩))∧bA w' p M J.new∧(∀k,M k→w.heap.size≤k)∧Below w.heap.size w w':=by
 have WI:= @run_makeMap Tryz.prog;go_enter Tryz.func9,Tryz.ntmps9;go_wp2_with fail;go_ret;refine⟨w.heap.size+1,λk=>w.heap.size≤k,rfl,⟨w.heap.size,none, .slice none 0 0, .slice none 0 0, .slice none 0 0, .slice none 0 0, .slice none 0 0, .slice none 0 0, .slice none 0 0, .slice none 0 0, .slice none 0 0, .slice none 0 0, ?_,by show _≤_;omega,⟨?_,aq _,rfl,en.ey _ _ _,λk h=>(by cases h),⟨[],rfl,World.ownsRow_nil _ _ _ _,λk h=>(by cases h),λi h=>absurd h (by simp[J.new])⟩,bT.ey,bT.ey,bT.ey,bT.ey,Sl.ey,Sl.ey, .inr bT.ey, .inr bT.ey,λk h=>(by cases h)⟩,TI⟩,λk h=>h,((ak _ w).alloc (aq _) _).alloc (by simp) _⟩
 ·have:=heap_alloc_new (w.alloc (.map #[] 0)) (.cells (bW J.new w.heap.size none (.slice none 0 0) (.slice none 0 0) (.slice none 0 0) (.slice none 0 0) (.slice none 0 0) (.slice none 0 0) (.slice none 0 0) (.slice none 0 0) (.slice none 0 0) (.slice none 0 0)) 99);rw[show(w.alloc (.map #[] 0)).heap.size=w.heap.size+1 by simp]at this;exact this
 ·exact(dp.made w _).step (Step.aI ((ak _ (w.alloc (.map #[] 0))).alloc (aq _) _)) (Below.heap_alloc _ _ _ (by simp))
end Go.Proofs.YtipljcmmokaokaaGreat
