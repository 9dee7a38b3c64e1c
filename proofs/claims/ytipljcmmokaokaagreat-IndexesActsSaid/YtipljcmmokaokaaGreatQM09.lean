import Derived.Test.YtipljcmmokaokaaGreatQM07
set_option linter.unusedVariables false
set_option linter.unusedSimpArgs false
set_option maxHeartbeats 40000000
namespace Go.Proofs.YtipljcmmokaokaaGreat
open Go.RowKit Go.Lib Go.Maps Go.WideMaps
set_option maxRecDepth 100000
theorem fG.cP {w:World} {M:Nat→Prop} {v:Value} {l:List UInt8} (h:fG w M v l):∃A n c,v= .slice A n c:=by
 rcases h with⟨h,_⟩|h
 ·exact dv h
 ·obtain⟨A,e⟩:=h.cP;exact⟨_,_,_,e⟩
theorem Sl.slice3 {w:World} {M:Nat→Prop} {v:Value} {l:List UInt8} (h:Sl w M v l):∃A n c,v= .slice A n c:=by
 obtain⟨A,c,e⟩:=h.cP;exact⟨_,_,_,e⟩
theorem uu {w:World} {M:Nat→Prop} {base n:Nat} {v:Value} {l:List UInt8} (h:w.ownsRow base 5 1 v n (dx l)) (hM:∀k,M k→k<base):Sl w M v l:=by
 have hl:l.length=n:=by have:=h.1;simpa [eX] using this
 obtain⟨A,c,e,hc,hy⟩:=fH h hM;rcases h.2 with⟨rfl,rfl⟩|⟨g,cap,cur,rfl,hbase,hb,h1,h2,h3,h4⟩
 ·exact .inl ⟨none,rfl,List.eq_nil_of_length_eq_zero hl⟩
 ·injection e with e1 e2 e3;subst e1 e3 hl;exact .inr ⟨g,0,cap,rfl,hc,(ai hb).1,hy⟩
theorem bX.disk {w w':World} {M:Nat→Prop} {s:J.St} {bn:Nat} {bw:Option Nat} {ch wr b0 b1 b2 b3 d0 d1 d2 d3 d0' d1' d2' d3':Value} {m:J.eF} (h:bX w M s bn bw ch wr b0 b1 b2 b3 d0 d1 d2 d3) (hb:Below w.heap.size w w')
  (e0:Sl w' M d0' m.h0) (e1:Sl w' M d1' m.h1) (e2:fG w' M d2' m.a0) (e3:fG w' M d3' m.a1) (dd:∀k,d2'.ownBlock=some k→d3'.ownBlock=some k→¬M k):bX w' M {s with disk:=m} bn bw ch wr b0 b1 b2 b3 d0' d1' d2' d3':=by
 have P:=h.below hb;exact⟨P.now,P.mbn,P.was,P.chs,P.mch,P.wrs,P.f0,P.f1,P.f2,P.f3,e0,e1,e2,e3,dd⟩
theorem qw {a b:World} {n:Nat} (h:Below n a.drew b):Below n a b:=⟨h.os,h.tape,h.output,h.size,h.block⟩
theorem Fu:(∀(p:Nat) (M:Nat→Prop) (s:J.St) (A:Option Addr) (n c:Nat) (bs:List UInt8) (w:World) (h:ck w p M s) (hM:∀k,M k→k<w.heap.size) (hv:Sl w M (.slice A n c) bs) (mG:s.logged+n≤100000000) (sU:s.writes.length+1≤100000000) (hn:bs.length=n) (h0:0<n) (hsz:s.disk.h0.length≤40000000) (CX:n≤40000000),Calls Tryz.prog 130 #[.pointer (some ⟨p,0,none⟩), .agg #[.int .u8 2, .int .i64 0, .slice A n c]] w λe w'=>(∃r,e= .returned r)∧∃M',ck w' p M' (J.write s ⟨2,0,bs⟩)∧Step M M' w w')∧(∀(p:Nat) (M:Nat→Prop) (s:J.St) (A:Option Addr) (n c:Nat) (bs:List UInt8) (w:World) (h:ck w p M s) (hM:∀k,M k→k<w.heap.size) (hv:Sl w M (.slice A n c) bs) (mG:s.logged+n≤100000000) (sU:s.writes.length+1≤100000000) (hn:bs.length=n) (h0:0<n) (hsz:s.disk.h1.length≤40000000) (CX:n≤40000000),Calls Tryz.prog 130 #[.pointer (some ⟨p,0,none⟩), .agg #[.int .u8 2, .int .i64 1, .slice A n c]] w λe w'=>(∃r,e= .returned r)∧∃M',ck w' p M' (J.write s ⟨2,1,bs⟩)∧Step M M' w w')∧(∀(p:Nat) (M:Nat→Prop) (s:J.St) (A:Option Addr) (n c:Nat) (bs:List UInt8) (w:World) (h:ck w p M s) (hM:∀k,M k→k<w.heap.size) (hv:Sl w M (.slice A n c) bs) (mG:s.logged+n≤100000000) (sU:s.writes.length+1≤100000000) (hn:bs.length=n),Calls Tryz.prog 130 #[.pointer (some ⟨p,0,none⟩), .agg #[.int .u8 1, .int .i64 0, .slice A n c]] w λe w'=>(∃r,e= .returned r)∧∃M',ck w' p M' (J.write s ⟨1,0,bs⟩)∧Step M M' w w')∧(∀(p:Nat) (M:Nat→Prop) (s:J.St) (A:Option Addr) (n c:Nat) (bs:List UInt8) (w:World) (h:ck w p M s) (hM:∀k,M k→k<w.heap.size) (hv:Sl w M (.slice A n c) bs) (mG:s.logged+n≤100000000) (sU:s.writes.length+1≤100000000) (hn:bs.length=n),Calls Tryz.prog 130 #[.pointer (some ⟨p,0,none⟩), .agg #[.int .u8 1, .int .i64 1, .slice A n c]] w λe w'=>(∃r,e= .returned r)∧∃M',ck w' p M' (J.write s ⟨1,1,bs⟩)∧Step M M' w w'):=by
 refine⟨?z0, ?z1, ?z2, ?z3⟩
 case' z0=>intro p M s A n c bs w h hM hv mG sU hn h0 hsz CX
 case' z1=>(intro p M s A n c bs w h hM hv mG sU hn h0 hsz CX;have aH:=trivial)
 case' z2=>(intro p M s A n c bs w h hM hv mG sU hn;have aJ:=trivial)
 case' z3=>(intro p M s A n c bs w h hM hv mG sU hn;have aT:=trivial)
 all_goals
  obtain⟨bn,bw,ch,wr,b0,b1,b2,b3,d0,d1,d2,d3,h1,h2,h3⟩:=h;have H1:=ae h1;have H2:=ae h2;have H3:=ae h3;have HV:=ae hv;have HM:=ae hM;have hpl:p<w.heap.size:=(ai h1).1;first
   |have aT:=aT
    have hB:Below w.heap.size w (w.alloc (.cells #[.int .u8 1, .int .i64 1, .slice A n c] 139)):=(ak _ _).alloc (aq _) _
    skip
   |have aJ:=aJ
    have hB:Below w.heap.size w (w.alloc (.cells #[.int .u8 1, .int .i64 0, .slice A n c] 139)):=(ak _ _).alloc (aq _) _
    skip
   |have aH:=aH
    have hB:Below w.heap.size w (w.alloc (.cells #[.int .u8 2, .int .i64 1, .slice A n c] 139)):=(ak _ _).alloc (aq _) _
    skip
   |have hB:Below w.heap.size w (w.alloc (.cells #[.int .u8 2, .int .i64 0, .slice A n c] 139)):=(ak _ _).alloc (aq _) _
  have hr1:=(hB.block p hpl).trans h1;have hc:=aj _ p hr1;have hf:=aC hr1;first
   |have aT:=aT
    have hb0:=λj=>World.cell?_alloc_new w #[.int .u8 1, .int .i64 1, .slice A n c] 139 j
    skip
   |have aJ:=aJ
    have hb0:=λj=>World.cell?_alloc_new w #[.int .u8 1, .int .i64 0, .slice A n c] 139 j
    skip
   |have aH:=aH
    have hb0:=λj=>World.cell?_alloc_new w #[.int .u8 2, .int .i64 1, .slice A n c] 139 j
    skip
   |have hb0:=λj=>World.cell?_alloc_new w #[.int .u8 2, .int .i64 0, .slice A n c] 139 j
  obtain⟨vs,g1,g2,g3,g4⟩:=h3.wrs;have hne:wr.ownBlock≠some p:=cT g2 h1 (by decide);first
   |have aT:=aT
    have cF:((w.alloc (.cells #[.int .u8 1, .int .i64 1, .slice A n c] 139))).heap[w.heap.size]? =some (.cells #[.int .u8 1, .int .i64 1, .slice A n c] 139 (0,0)):=heap_alloc_new w _
    skip
   |have aJ:=aJ
    have cF:((w.alloc (.cells #[.int .u8 1, .int .i64 0, .slice A n c] 139))).heap[w.heap.size]? =some (.cells #[.int .u8 1, .int .i64 0, .slice A n c] 139 (0,0)):=heap_alloc_new w _
    skip
   |have aH:=aH
    have cF:((w.alloc (.cells #[.int .u8 2, .int .i64 1, .slice A n c] 139))).heap[w.heap.size]? =some (.cells #[.int .u8 2, .int .i64 1, .slice A n c] 139 (0,0)):=heap_alloc_new w _
    skip
   |have cF:((w.alloc (.cells #[.int .u8 2, .int .i64 0, .slice A n c] 139))).heap[w.heap.size]? =some (.cells #[.int .u8 2, .int .i64 0, .slice A n c] 139 (0,0)):=heap_alloc_new w _
  have rE:=ae (show wr.ownBlock≠some w.heap.size fromλe=>absurd (g2.lt _ e).2 (Nat.lt_irrefl _));have HB:=ae hB;have eb:=ae hr1;have HG:=ae (dW g2 (λk e=>hB.block k (g2.lt k e).2));have uk:=ae g1;have zo:=ae g3;have TD:=ae g4;have HN:=ae hne;have HX:=ae cF;have vF:=ae hn;clear h1 h2 h3 hB hr1 g1 g2 g3 g4 hne hv cF hM hn;go_enter Tryz.func130,Tryz.ntmps130;go_upto_region 1 with fail;first
   |have aT:=aT
    generalize hW:w.alloc (.cells #[.int .u8 1, .int .i64 1, .slice A n c] 139)=W at hc hf hb0 HB eb HG HX⊢
   |have aJ:=aJ
    generalize hW:w.alloc (.cells #[.int .u8 1, .int .i64 0, .slice A n c] 139)=W at hc hf hb0 HB eb HG HX⊢
   |have aH:=aH
    generalize hW:w.alloc (.cells #[.int .u8 2, .int .i64 1, .slice A n c] 139)=W at hc hf hb0 HB eb HG HX⊢
   |generalize hW:w.alloc (.cells #[.int .u8 2, .int .i64 0, .slice A n c] 139)=W at hc hf hb0 HB eb HG HX⊢
  clear hW;first
   |have aT:=aT
    have hnews:∀(W':World),∀j u,([.int .u8 1, .int .i64 1, .slice A n c]:List Value)[j]? =some u→(W'.alloc (.cells #[.int .u8 1, .int .i64 1, .slice A n c] 139)).cell? ((⟨W'.heap.size,0,none⟩:Addr).add j)=some u:=λW' j u hu=>by
     have:=World.cell?_alloc_new W' #[.int .u8 1, .int .i64 1, .slice A n c] 139 j;rw[show(⟨W'.heap.size,0,none⟩:Addr).add j=⟨W'.heap.size,j,none⟩ by simp[Addr.add];intro e;exact e.symm];rw[this];rw[←hu];simp
    have bg:∀u∈([.int .u8 1, .int .i64 1, .slice A n c]:List Value),u.oneCell'=true:=by intro u hu;simp at hu;rcases hu with rfl|rfl|rfl<;>rfl
    skip
   |have aJ:=aJ
    have hnews:∀(W':World),∀j u,([.int .u8 1, .int .i64 0, .slice A n c]:List Value)[j]? =some u→(W'.alloc (.cells #[.int .u8 1, .int .i64 0, .slice A n c] 139)).cell? ((⟨W'.heap.size,0,none⟩:Addr).add j)=some u:=λW' j u hu=>by
     have:=World.cell?_alloc_new W' #[.int .u8 1, .int .i64 0, .slice A n c] 139 j;rw[show(⟨W'.heap.size,0,none⟩:Addr).add j=⟨W'.heap.size,j,none⟩ by simp[Addr.add];intro e;exact e.symm];rw[this];rw[←hu];simp
    have bg:∀u∈([.int .u8 1, .int .i64 0, .slice A n c]:List Value),u.oneCell'=true:=by intro u hu;simp at hu;rcases hu with rfl|rfl|rfl<;>rfl
    skip
   |have aH:=aH
    have hnews:∀(W':World),∀j u,([.int .u8 2, .int .i64 1, .slice A n c]:List Value)[j]? =some u→(W'.alloc (.cells #[.int .u8 2, .int .i64 1, .slice A n c] 139)).cell? ((⟨W'.heap.size,0,none⟩:Addr).add j)=some u:=λW' j u hu=>by
     have:=World.cell?_alloc_new W' #[.int .u8 2, .int .i64 1, .slice A n c] 139 j;rw[show(⟨W'.heap.size,0,none⟩:Addr).add j=⟨W'.heap.size,j,none⟩ by simp[Addr.add];intro e;exact e.symm];rw[this];rw[←hu];simp
    have bg:∀u∈([.int .u8 2, .int .i64 1, .slice A n c]:List Value),u.oneCell'=true:=by intro u hu;simp at hu;rcases hu with rfl|rfl|rfl<;>rfl
    skip
   |skip
    have hnews:∀(W':World),∀j u,([.int .u8 2, .int .i64 0, .slice A n c]:List Value)[j]? =some u→(W'.alloc (.cells #[.int .u8 2, .int .i64 0, .slice A n c] 139)).cell? ((⟨W'.heap.size,0,none⟩:Addr).add j)=some u:=λW' j u hu=>by
     have:=World.cell?_alloc_new W' #[.int .u8 2, .int .i64 0, .slice A n c] 139 j;rw[show(⟨W'.heap.size,0,none⟩:Addr).add j=⟨W'.heap.size,j,none⟩ by simp[Addr.add];intro e;exact e.symm];rw[this];rw[←hu];simp
    have bg:∀u∈([.int .u8 2, .int .i64 0, .slice A n c]:List Value),u.oneCell'=true:=by intro u hu;simp at hu;rcases hu with rfl|rfl|rfl<;>rfl
  have Ag:=ae hnews;have dL:=ae bg;have TE:=ae sU;have WG:=ae (show p≠w.heap.size by omega);have aaS:IntKind.i64.wrap ((s.logged:Int)+(n:Int))=(s.logged:Int)+(n:Int):=IntWalk.i64_in _ (by omega);clear hnews bg sU;first
   |have aT:=aT
    let S2:World→Prop:=λw'=>w'.heap[w.heap.size]? =some (.cells #[.int .u8 1, .int .i64 1, .slice A n c] 139 (0,0))
    skip
   |have aJ:=aJ
    let S2:World→Prop:=λw'=>w'.heap[w.heap.size]? =some (.cells #[.int .u8 1, .int .i64 0, .slice A n c] 139 (0,0))
    skip
   |have aH:=aH
    let S2:World→Prop:=λw'=>w'.heap[w.heap.size]? =some (.cells #[.int .u8 2, .int .i64 1, .slice A n c] 139 (0,0))
    skip
   |let S2:World→Prop:=λw'=>w'.heap[w.heap.size]? =some (.cells #[.int .u8 2, .int .i64 0, .slice A n c] 139 (0,0))
  let S1:World→Prop:=λw'=>w'.heap[p]? =some (.cells (bW s bn bw ch wr b0 b1 b2 b3 d0 d1 d2 d3) 99 (0,0))∧S2 w';first
   |have aT:=aT
    have hS1:∀w':World,S1 w'→(∀j,w'.cell? ⟨p,j,none⟩=(bW s bn bw ch wr b0 b1 b2 b3 d0 d1 d2 d3)[j]?)∧(∀j,w'.cell? ⟨w.heap.size,j,none⟩=(#[.int .u8 1, .int .i64 1, .slice A n c]:Array Value)[j]?):=λw' h=>⟨aj _ p h.1,aj _ w.heap.size h.2⟩;have Kz:∀w':World,S2 w'→(∀j,w'.cell? ⟨w.heap.size,j,none⟩=(#[.int .u8 1, .int .i64 1, .slice A n c]:Array Value)[j]?):=λw' h=>aj _ w.heap.size h;have Cp:=ae ((((ak W.heap.size W.drew).alloc (aq _) (.cells #[.int .u8 1, .int .i64 1, .slice A n c] 139)).block p (ai eb.out).1).trans eb.out);have fE:=ae ((((ak W.heap.size W.drew).alloc (aq _) (.cells #[.int .u8 1, .int .i64 1, .slice A n c] 139)).block w.heap.size (ai HX.out).1).trans HX.out)
    skip
   |have aJ:=aJ
    have hS1:∀w':World,S1 w'→(∀j,w'.cell? ⟨p,j,none⟩=(bW s bn bw ch wr b0 b1 b2 b3 d0 d1 d2 d3)[j]?)∧(∀j,w'.cell? ⟨w.heap.size,j,none⟩=(#[.int .u8 1, .int .i64 0, .slice A n c]:Array Value)[j]?):=λw' h=>⟨aj _ p h.1,aj _ w.heap.size h.2⟩;have Kz:∀w':World,S2 w'→(∀j,w'.cell? ⟨w.heap.size,j,none⟩=(#[.int .u8 1, .int .i64 0, .slice A n c]:Array Value)[j]?):=λw' h=>aj _ w.heap.size h;have Cp:=ae ((((ak W.heap.size W.drew).alloc (aq _) (.cells #[.int .u8 1, .int .i64 0, .slice A n c] 139)).block p (ai eb.out).1).trans eb.out);have fE:=ae ((((ak W.heap.size W.drew).alloc (aq _) (.cells #[.int .u8 1, .int .i64 0, .slice A n c] 139)).block w.heap.size (ai HX.out).1).trans HX.out)
    skip
   |have aH:=aH
    have hS1:∀w':World,S1 w'→(∀j,w'.cell? ⟨p,j,none⟩=(bW s bn bw ch wr b0 b1 b2 b3 d0 d1 d2 d3)[j]?)∧(∀j,w'.cell? ⟨w.heap.size,j,none⟩=(#[.int .u8 2, .int .i64 1, .slice A n c]:Array Value)[j]?):=λw' h=>⟨aj _ p h.1,aj _ w.heap.size h.2⟩;have Kz:∀w':World,S2 w'→(∀j,w'.cell? ⟨w.heap.size,j,none⟩=(#[.int .u8 2, .int .i64 1, .slice A n c]:Array Value)[j]?):=λw' h=>aj _ w.heap.size h;have Cp:=ae ((((ak W.heap.size W.drew).alloc (aq _) (.cells #[.int .u8 2, .int .i64 1, .slice A n c] 139)).block p (ai eb.out).1).trans eb.out);have fE:=ae ((((ak W.heap.size W.drew).alloc (aq _) (.cells #[.int .u8 2, .int .i64 1, .slice A n c] 139)).block w.heap.size (ai HX.out).1).trans HX.out)
    skip
   |have hS1:∀w':World,S1 w'→(∀j,w'.cell? ⟨p,j,none⟩=(bW s bn bw ch wr b0 b1 b2 b3 d0 d1 d2 d3)[j]?)∧(∀j,w'.cell? ⟨w.heap.size,j,none⟩=(#[.int .u8 2, .int .i64 0, .slice A n c]:Array Value)[j]?):=λw' h=>⟨aj _ p h.1,aj _ w.heap.size h.2⟩
    have Kz:∀w':World,S2 w'→(∀j,w'.cell? ⟨w.heap.size,j,none⟩=(#[.int .u8 2, .int .i64 0, .slice A n c]:Array Value)[j]?):=λw' h=>aj _ w.heap.size h;have Cp:=ae ((((ak W.heap.size W.drew).alloc (aq _) (.cells #[.int .u8 2, .int .i64 0, .slice A n c] 139)).block p (ai eb.out).1).trans eb.out);have fE:=ae ((((ak W.heap.size W.drew).alloc (aq _) (.cells #[.int .u8 2, .int .i64 0, .slice A n c] 139)).block w.heap.size (ai HX.out).1).trans HX.out)
  have su:=ae hS1;have vP:=ae Kz;clear hS1 Kz hc hf hb0;first
   |have aT:=aT
    go_cut []from 4 to 24 (λwx=>ur w p M s ⟨1,1,bs⟩ (.slice A n c) wx)
   |have aJ:=aJ
    go_cut []from 4 to 24 (λwx=>ur w p M s ⟨1,0,bs⟩ (.slice A n c) wx)
   |have aH:=aH
    go_cut []from 4 to 24 (λwx=>ur w p M s ⟨2,1,bs⟩ (.slice A n c) wx)
   |go_cut []from 4 to 24 (λwx=>ur w p M s ⟨2,0,bs⟩ (.slice A n c) wx)
  case first=>
   refine mZ 20 [1,9,10,11,13,14,15,16,17,19] [7,8,19] [(0,false),(2,false),(3,false),(4,false),(5,false),(6,false),(1,false),(9,false),(10,false),(11,false),(12,false),(13,false),(14,false),(15,false),(16,false),(7,true),(8,true),(17,false),(18,false),(19,true)] S1 S2 (by kernel_rfl) (by kernel_rfl) (λc a d v w h=>by cases d<;>exact h) ⟨eb.out,HX.out⟩ HX.out ?_;repeat
    first
     |refine gV (v:= ?_) (by rfl) (by rfl) (by rfl) (λw' hS=> ?_) (λK hK=> ?_)
      rotate_left
      ·obtain⟨Jw,hcb⟩:=su.out w' hS;clear hS;go_simp;try with_reducible rfl
     |refine gW (v:= ?_) (by rfl) (by rfl) (λw' hS=> ?_) (λK hK=> ?_)
      rotate_left
      ·have hcb:=vP.out w' hS;clear hS;go_simp;try with_reducible rfl
    go_simp;refine hK _ ?_;clear hK K
   refine fS (by rfl) (λK hK=> ?_);go_simp;refine hK.out _ _ ⟨Cp.out,fE.out⟩ fE.out ?_;clear hK K;refine fS (by rfl) (λK hK=> ?_);first
    |have aT:=aT
     refine fq (by rfl) _ _ (by rfl) wr s.writes.length (eY s.writes vs) (by rfl) (HG.out.drew.alloc _) ⟨W.drew.heap.size,0,none⟩ 1 1 [.int .u8 1, .int .i64 1, .slice A n c] (by rfl) (by rfl) (Ag.out _) dL.out TE.out ?_
    |have aJ:=aJ
     refine fq (by rfl) _ _ (by rfl) wr s.writes.length (eY s.writes vs) (by rfl) (HG.out.drew.alloc _) ⟨W.drew.heap.size,0,none⟩ 1 1 [.int .u8 1, .int .i64 0, .slice A n c] (by rfl) (by rfl) (Ag.out _) dL.out TE.out ?_
    |have aH:=aH
     refine fq (by rfl) _ _ (by rfl) wr s.writes.length (eY s.writes vs) (by rfl) (HG.out.drew.alloc _) ⟨W.drew.heap.size,0,none⟩ 1 1 [.int .u8 2, .int .i64 1, .slice A n c] (by rfl) (by rfl) (Ag.out _) dL.out TE.out ?_
    |refine fq (by rfl) _ _ (by rfl) wr s.writes.length (eY s.writes vs) (by rfl) (HG.out.drew.alloc _) ⟨W.drew.heap.size,0,none⟩ 1 1 [.int .u8 2, .int .i64 0, .slice A n c] (by rfl) (by rfl) (Ag.out _) dL.out TE.out ?_
   intro v1 w1 hown1 hg1 CP;obtain⟨A1,m1,c1,rfl⟩:=dv hown1;have fy:=ae (gi (W:=W.drew) eb.out hg1 HN.out);have nz:=ae (gi (W:=W.drew) HX.out hg1 rE.out);have uo:=ae hown1;have Tr:=ae hg1;have Pg:=ae CP;clear hown1 hg1 CP;go_simp;refine hK.out _ _ ⟨fy.out,nz.out⟩ nz.out ?_;clear hK K;have hc1:=aj _ p fy.out;have GC:=aC fy.out;repeat
    first|refine gV (v:= ?_) (by rfl) (by rfl) (by rfl) (λw' hS=> ?_) (λK hK=> ?_)|refine gW (v:= ?_) (by rfl) (by rfl) (λw' hS=> ?_) (λK hK=> ?_)
    rotate_left
    ·clear hS;go_simp;try with_reducible rfl
    go_simp;refine hK _ ?_;clear hK K
   refine qp (by rfl) (by kernel_rfl) (λK hK=> ?_);go_simp;refine hK.out _ _ (qu nz.out (by exact WG.out)) ?_;clear hK K;show wpList _ _ _ _ _ _;go_wp2_with fail;go_meet;exact KT H3.out H2.out hpl HM.out uk.out zo.out TD.out HV.out vF.out HB.out.drew uo.out Tr.out Pg.out fy.out nz.out rE.out
  case rest=>
   obtain⟨M1,hq,hst,cF,TC,hlt⟩:=hcut;have KR:=HV.out.step hst;obtain⟨bn,bw,ch,wr,b0,b1,b2,b3,d0,d1,d2,d3,q1,q2,q3⟩:=hq;obtain⟨A0,n0,c0,rfl⟩:=q3.e0.slice3;obtain⟨A1,n1,c1,rfl⟩:=q3.e1.slice3;obtain⟨A2,n2,c2,rfl⟩:=q3.e2.cP;obtain⟨A3,n3,c3,rfl⟩:=q3.e3.cP;first
    |have aT:=aT
     generalize GL:({s with writes:=s.writes++[⟨1,1,bs⟩],logged:=s.logged+bs.length}:J.St)=S0 at q1 q3
    |have aJ:=aJ
     generalize GL:({s with writes:=s.writes++[⟨1,0,bs⟩],logged:=s.logged+bs.length}:J.St)=S0 at q1 q3
    |have aH:=aH
     generalize GL:({s with writes:=s.writes++[⟨2,1,bs⟩],logged:=s.logged+bs.length}:J.St)=S0 at q1 q3
    |generalize GL:({s with writes:=s.writes++[⟨2,0,bs⟩],logged:=s.logged+bs.length}:J.St)=S0 at q1 q3
   have TF:=ae GL;first
    |have aT:=aT
     skip
    |have aJ:=aJ
     skip
    |skip
     first
      |have aH:=aH
       have xN:=ae (show S0.disk.h1.length≤40000000 by rw[←GL];exact hsz)
       skip
      |have xN:=ae (show S0.disk.h0.length≤40000000 by rw[←GL];exact hsz)
     clear hsz
   have Q1:=ae q1;have Q2:=ae q2;have Q3:=ae q3;have HST:=ae hst;have eH:=ae cF;have HV1:=ae KR;have aW:=ae hlt;have Jw:=aj wc p q1;have hcb:=aj wc w.heap.size cF;clear GL q1 q2 q3 hst cF KR TC hlt;first
    |have aT:=aT
     skip
    |have aJ:=aJ
     skip
    |obtain⟨A',c',eA,hc',hy⟩:=HV1.out.by
     injection eA with e1 e2 e3;subst e1 e3;obtain⟨ba,oa,rfl,_⟩:=hy.2 (by have:=vF.out;omega);have wI:=ae (show By wc.drew M1 (some ⟨ba,oa,none⟩) n bs from by have h5:By wc M1 (some ⟨ba,oa,none⟩) bs.length bs:=hy;rw[vF.out]at h5;exact h5);have HC4:=ae (show n≤c by have:=vF.out;omega);first
      |have aH:=aH
       obtain⟨A',c',eA,hch,ZC⟩:=Q3.out.e1.by
       skip
      |obtain⟨A',c',eA,hch,ZC⟩:=Q3.out.e0.by
     injection eA with e1 e2h e3;subst e1 e3;first
      |have aH:=aH
       have Dh:=ae (show By wc.drew M1 A1 n1 S0.disk.h1 from by have h5:By wc M1 A1 S0.disk.h1.length S0.disk.h1:=ZC;rw[←e2h]at h5;exact h5);have WH:=ae (show n1≤c1 by omega);have HZ2:=ae (show n1≤40000000 by have:=xN.out;omega)
       skip
      |have Dh:=ae (show By wc.drew M1 A0 n0 S0.disk.h0 from by have h5:By wc M1 A0 S0.disk.h0.length S0.disk.h0:=ZC;rw[←e2h]at h5;exact h5)
       have WH:=ae (show n0≤c0 by omega);have HZ2:=ae (show n0≤40000000 by have:=xN.out;omega)
     clear hy ZC e2 e2h hc' hch
   go_upto_region 4 with fail;clear Jw hcb;first
    |have aT:=aT
     refine bK 10 [(0,false),(1,false),(2,false),(3,false),(4,false),(5,false),(6,false),(7,false),(8,false),(9,true)] (λw'=>w'.heap[p]? =some (.cells (bW S0 bn bw ch wr b0 b1 b2 b3 (.slice A0 n0 c0) (.slice A1 n1 c1) (.slice A2 n2 c2) (.slice A3 n3 c3)) 99 (0,0))∧w'.heap[w.heap.size]? =some (.cells #[.int .u8 1, .int .i64 1, .slice A n c] 139 (0,0))) (by kernel_rfl) (by kernel_rfl) (λc a d v w h=>by cases d<;>exact h) ⟨Q1.out,eH.out⟩ ?_
    |have aJ:=aJ
     refine bK 10 [(0,false),(1,false),(2,false),(3,false),(4,false),(5,false),(6,false),(7,false),(8,false),(9,true)] (λw'=>w'.heap[p]? =some (.cells (bW S0 bn bw ch wr b0 b1 b2 b3 (.slice A0 n0 c0) (.slice A1 n1 c1) (.slice A2 n2 c2) (.slice A3 n3 c3)) 99 (0,0))∧w'.heap[w.heap.size]? =some (.cells #[.int .u8 1, .int .i64 0, .slice A n c] 139 (0,0))) (by kernel_rfl) (by kernel_rfl) (λc a d v w h=>by cases d<;>exact h) ⟨Q1.out,eH.out⟩ ?_
    |have aH:=aH
     refine bK 10 [(0,false),(1,false),(2,false),(3,false),(4,false),(5,false),(6,false),(7,false),(8,false),(9,true)] (λw'=>w'.heap[p]? =some (.cells (bW S0 bn bw ch wr b0 b1 b2 b3 (.slice A0 n0 c0) (.slice A1 n1 c1) (.slice A2 n2 c2) (.slice A3 n3 c3)) 99 (0,0))∧w'.heap[w.heap.size]? =some (.cells #[.int .u8 2, .int .i64 1, .slice (some ⟨ba,oa,none⟩) n c] 139 (0,0))) (by kernel_rfl) (by kernel_rfl) (λc a d v w h=>by cases d<;>exact h) ⟨Q1.out,eH.out⟩ ?_
    |refine bK 10 [(0,false),(1,false),(2,false),(3,false),(4,false),(5,false),(6,false),(7,false),(8,false),(9,true)] (λw'=>w'.heap[p]? =some (.cells (bW S0 bn bw ch wr b0 b1 b2 b3 (.slice A0 n0 c0) (.slice A1 n1 c1) (.slice A2 n2 c2) (.slice A3 n3 c3)) 99 (0,0))∧w'.heap[w.heap.size]? =some (.cells #[.int .u8 2, .int .i64 0, .slice (some ⟨ba,oa,none⟩) n c] 139 (0,0))) (by kernel_rfl) (by kernel_rfl) (λc a d v w h=>by cases d<;>exact h) ⟨Q1.out,eH.out⟩ ?_
   repeat
    refine eB (v:= ?_) (by rfl) (by rfl) (λw' hS=> ?_) (λK hK=> ?_);rotate_left
    ·have Jw:=aj w' p hS.1;have hcb:=aj w' w.heap.size hS.2;clear hS;go_simp;try with_reducible rfl
    go_simp;refine hK _ ?_;clear hK K
   refine fx (by rfl) (λK hK=> ?_);go_simp;first
    |have aT:=aT
     refine(Aa A0 A1 A2 A3 A n0 n1 n2 n3 n c0 c1 c2 c3 c n wc.drew).mono ?_;rintro e w5 ⟨rfl,lh⟩
    |have aJ:=aJ
     refine(zZ A0 A1 A2 A3 A n0 n1 n2 n3 n c0 c1 c2 c3 c n wc.drew).mono ?_;rintro e w5 ⟨rfl,lh⟩
    |skip
     first
      |have aH:=aH
       refine(CZ A0 A1 A2 A3 n0 n1 n2 n3 n c0 c1 c2 c3 c ba oa n wc.drew M1 M1 S0.disk.h1 bs Dh.out WH.out wI.out (aq _) HC4.out HZ2.out CX).mono ?_
      |refine(CY A0 A1 A2 A3 n0 n1 n2 n3 n c0 c1 c2 c3 c ba oa n wc.drew M1 M1 S0.disk.h0 bs Dh.out WH.out wI.out (aq _) HC4.out HZ2.out CX).mono ?_
     rintro e w5 ⟨A',n',c',rfl,oY,lh⟩
   have lh:Below wc.heap.size wc w5:=qw lh;first
    |have aT:=aT
     skip
    |have aJ:=aJ
     skip
    |skip
     first
      |have aH:=aH
       have xE:Sl w5 M1 (.slice A' n' c') (bs.take n++S0.disk.h1.drop n):=uu (show w5.ownsRow wc.heap.size _ _ _ _ _ from oY) aW.out
       skip
      |have xE:Sl w5 M1 (.slice A' n' c') (bs.take n++S0.disk.h0.drop n):=uu (show w5.ownsRow wc.heap.size _ _ _ _ _ from oY) aW.out
     rw[List.take_of_length_le (by rw[vF.out];exact Nat.le_refl _)]at xE;have KV:=ae xE;clear oY xE
   have fy:=ae ((lh.block p (ai Q1.out).1).trans Q1.out);have nz:=ae ((lh.block w.heap.size (ai eH.out).1).trans eH.out);have ed:=ae lh;clear lh;refine hK.out _ _ ⟨fy.out,nz.out⟩ ?_;clear hK K;have hc1:=aj _ p fy.out;have GC:=aC fy.out;show wpList _ _ _ _ _ _;go_wp2_with fail;go_end0;have P:=Q3.out.below ed.out;first
    |have aT:=aT
     have hT:=Q3.out.disk (m:={S0.disk with a1:=[]}) (d0':= .slice A0 n0 c0) (d1':= .slice A1 n1 c1) (d2':= .slice A2 n2 c2) (d3':= .slice none 0 0) ed.out (P.e0) (P.e1) (P.e2) (.inr bT.ey) (λk e2 e3=>by cases e3);have hg2:=aA (aA (aA (aA (World.grownBy.refl w5 (some p)) 15 (.slice A0 n0 c0)) 16 (.slice A1 n1 c1)) 17 (.slice A2 n2 c2)) 18 (.slice none 0 0);have hrow:=aB (aB (aB (aB fy.out 15 (.slice A0 n0 c0)) 16 (.slice A1 n1 c1)) 17 (.slice A2 n2 c2)) 18 (.slice none 0 0)
     skip
    |have aJ:=aJ
     have hT:=Q3.out.disk (m:={S0.disk with a0:=[]}) (d0':= .slice A0 n0 c0) (d1':= .slice A1 n1 c1) (d2':= .slice none 0 0) (d3':= .slice A3 n3 c3) ed.out (P.e0) (P.e1) (.inr bT.ey) (P.e3) (λk e2 e3=>by cases e2);have hg2:=aA (aA (aA (aA (World.grownBy.refl w5 (some p)) 15 (.slice A0 n0 c0)) 16 (.slice A1 n1 c1)) 17 (.slice none 0 0)) 18 (.slice A3 n3 c3);have hrow:=aB (aB (aB (aB fy.out 15 (.slice A0 n0 c0)) 16 (.slice A1 n1 c1)) 17 (.slice none 0 0)) 18 (.slice A3 n3 c3)
     skip
    |have aH:=aH
     have hT:=Q3.out.disk (m:={S0.disk with h1:=bs++S0.disk.h1.drop n}) (d0':= .slice A0 n0 c0) (d1':= .slice A' n' c') (d2':= .slice A2 n2 c2) (d3':= .slice A3 n3 c3) ed.out (P.e0) (KV.out) (P.e2) (P.e3) P.dd;have hg2:=aA (aA (aA (aA (World.grownBy.refl w5 (some p)) 15 (.slice A0 n0 c0)) 16 (.slice A' n' c')) 17 (.slice A2 n2 c2)) 18 (.slice A3 n3 c3);have hrow:=aB (aB (aB (aB fy.out 15 (.slice A0 n0 c0)) 16 (.slice A' n' c')) 17 (.slice A2 n2 c2)) 18 (.slice A3 n3 c3)
     skip
    |have hT:=Q3.out.disk (m:={S0.disk with h0:=bs++S0.disk.h0.drop n}) (d0':= .slice A' n' c') (d1':= .slice A1 n1 c1) (d2':= .slice A2 n2 c2) (d3':= .slice A3 n3 c3) ed.out (KV.out) (P.e1) (P.e2) (P.e3) P.dd
     have hg2:=aA (aA (aA (aA (World.grownBy.refl w5 (some p)) 15 (.slice A' n' c')) 16 (.slice A1 n1 c1)) 17 (.slice A2 n2 c2)) 18 (.slice A3 n3 c3);have hrow:=aB (aB (aB (aB fy.out 15 (.slice A' n' c')) 16 (.slice A1 n1 c1)) 17 (.slice A2 n2 c2)) 18 (.slice A3 n3 c3)
   have htk:bs.take n=bs:=List.take_of_length_le (by rw[vF.out];exact aq _);first
    |have aT:=aT
     have hw:J.write s ⟨1,1,bs⟩={S0 with disk:={S0.disk with a1:=[]}}:=by rw[←TF.out];simp[J.write,J.done,J.eF.bN]
     skip
    |have aJ:=aJ
     have hw:J.write s ⟨1,0,bs⟩={S0 with disk:={S0.disk with a0:=[]}}:=by rw[←TF.out];simp[J.write,J.done,J.eF.bN]
     skip
    |have aH:=aH
     have hw:J.write s ⟨2,1,bs⟩={S0 with disk:={S0.disk with h1:=bs++S0.disk.h1.drop n}}:=by rw[←TF.out];simp[J.write,J.done,J.eF.xz,J.eF.head,vF.out,htk]
     skip
    |have hw:J.write s ⟨2,0,bs⟩={S0 with disk:={S0.disk with h0:=bs++S0.disk.h0.drop n}}:=by rw[←TF.out];simp[J.write,J.done,J.eF.xz,J.eF.head,vF.out,htk]
   rw[hw];exact⟨⟨_,rfl⟩,M1,⟨bn,bw,ch,wr,b0,b1,b2,b3,_,_,_,_,hrow,Q2.out,hT.own fy.out Q2.out hg2⟩,HST.out.trans (((Step.aI ed.out).trans (Step.cC hg2 (λk e _=>by cases e;exact Q2.out))))⟩
abbrev Ap:= @Fu.1
abbrev Aq:= @Fu.2.1
abbrev xR:= @Fu.2.2.1
abbrev xS:= @Fu.2.2.2
end Go.Proofs.YtipljcmmokaokaaGreat
