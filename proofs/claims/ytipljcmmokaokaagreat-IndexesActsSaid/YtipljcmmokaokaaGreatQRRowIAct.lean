import Derived.Test.YtipljcmmokaokaaGreatQM04
import Derived.Test.YtipljcmmokaokaaGreatQDAct
import Derived.Test.YtipljcmmokaokaaGreatQDLies
import Derived.Test.YtipljcmmokaokaaGreatQDDo
import Derived.Test.YtipljcmmokaokaaGreatQM40
set_option linter.unusedVariables false
set_option linter.unusedSimpArgs false
namespace Go.Proofs.YtipljcmmokaokaaGreat
open Go.ChangeShapes Go.WideShapes Go.ChangeAt Go.WideMaps Go.WideElems Go.RowKit Go.Deep
set_option maxRecDepth 100000
section
variable {H : Type} {enc : TypeId × Value → H} {W : World} {base : Nat} {held : Bool}
theorem Jq {fuel:Nat} {cs:List Value} {x:DataW H×List MemPlace} (h:DataW.trod enc Tryz.prog W base (λ_=>true) held fuel 60 cs=some x):
  ∃(a:X.Ac) (v:Value),cs=[.int .u8 a.what, .int .u8 a.key, .int .u8 a.n,v]∧Sl W bF v a.val∧a.what<256∧a.key<256∧a.n<256∧a.val.length≤maxLen:=by
 obtain⟨xs,n,rfl,hx,hlen,Co,hall⟩:=DataW.trod_struct Tryz.underlying60 h;have h3:Tryz.prog.cellsOf 60=4:=by kernel_rfl
 rw[h3]at hlen;obtain⟨c0,c1,c2,c3,rfl⟩:∃c0 c1 c2 c3,cs=[c0,c1,c2,c3]:=by
  match cs,hlen with
  |[c0,c1,c2,c3],_=>exact⟨c0,c1,c2,c3,rfl⟩
 obtain⟨y0,y1,y2,y3,rfl⟩:∃y0 y1 y2 y3,xs=[y0,y1,y2,y3]:=by
  match xs,Co with
  |[y0,y1,y2,y3],_=>exact⟨y0,y1,y2,y3,rfl⟩
 have k0:Tryz.prog.cellsOf 5=1:=by kernel_rfl
 have k2:Tryz.prog.cellsOf 40=1:=by kernel_rfl
 have f0:DataW.trod enc Tryz.prog W base (λ_=>true) held n 5 (([c0,c1,c2,c3].drop 0).take (Tryz.prog.cellsOf 5))=[y0,y1,y2,y3][0]? :=hall 0 _ rfl;have f1:DataW.trod enc Tryz.prog W base (λ_=>true) held n 5 (([c0,c1,c2,c3].drop 1).take (Tryz.prog.cellsOf 5))=[y0,y1,y2,y3][1]? :=hall 1 _ rfl;have f2:DataW.trod enc Tryz.prog W base (λ_=>true) held n 5 (([c0,c1,c2,c3].drop 2).take (Tryz.prog.cellsOf 5))=[y0,y1,y2,y3][2]? :=hall 2 _ rfl;have f3:DataW.trod enc Tryz.prog W base (λ_=>true) held n 40 (([c0,c1,c2,c3].drop 3).take (Tryz.prog.cellsOf 40))=[y0,y1,y2,y3][3]? :=hall 3 _ rfl;rw[k0]at f0 f1 f2;rw[k2]at f3;obtain⟨k,e0,rfl,wk⟩:=DataW.trod_int Tryz.underlying5 (show DataW.trod enc Tryz.prog W base (λ_=>true) held n 5 [c0]=some y0 from f0);obtain⟨q,e1,rfl,wq⟩:=DataW.trod_int Tryz.underlying5 (show DataW.trod enc Tryz.prog W base (λ_=>true) held n 5 [c1]=some y1 from f1);obtain⟨r,e3,rfl,wr⟩:=DataW.trod_int Tryz.underlying5 (show DataW.trod enc Tryz.prog W base (λ_=>true) held n 5 [c2]=some y2 from f2);obtain⟨A,m,c,l,e2,hl,hs,hm⟩:=Dc (show DataW.trod enc Tryz.prog W base (λ_=>true) held n 40 [c3]=some y3 from f3);simp only[List.cons.injEq,and_true]at e0 e1 e2 e3;subst e0 e1 e2 e3;have b0:=bounds_u8 wk;have b1:=bounds_u8 wq;have b2:=bounds_u8 wr;exact⟨⟨k.toNat,q.toNat,r.toNat,l⟩, .slice A m c,by rw[Int.toNat_of_nonneg (by omega),Int.toNat_of_nonneg (by omega),Int.toNat_of_nonneg (by omega)],hs,by show k.toNat<256;omega,by show q.toNat<256;omega,by show r.toNat<256;omega,by rw[hl];exact hm⟩
theorem Jr {fuel:Nat} {cs:List Value} {x:DataW H×List MemPlace} (hf:DataW.trod enc Tryz.prog W base (λ_=>true) held fuel 54 cs=some x):
  ∃A c L,cs=[.slice A L.length c]∧fD W bF A L∧L.length≤maxLen∧∀a∈L,a.val.length≤maxLen:=by
 have k3:Tryz.prog.cellsOf 60=4:=by kernel_rfl
 rcases open_slice Tryz.underlying54 hf with⟨e,_⟩|⟨a,len,cap,m,n,D,Pl,e,_,hl,hm,WI,_,hx⟩
 ·exact⟨none,0,[],e,λh=>absurd h (by simp),Nat.zero_le _,λa ha=>by cases ha⟩
 ·simp at WI;subst WI;have hall:∀i,i<len→∃ac:X.Ac,(∃u,W.cell? (a.add (i*4))=some (.int .u8 ac.what)∧W.cell? ((a.add (i*4)).add 1)=some (.int .u8 ac.key)∧W.cell? ((a.add (i*4)).add 2)=some (.int .u8 ac.n)∧W.cell? ((a.add (i*4)).add 3)=some u∧Sl W bF u ac.val)∧ac.what<256∧ac.key<256∧ac.n<256∧ac.val.length≤maxLen:=by
   intro i hi;obtain⟨cs',h1,h2⟩:=hx i (by omega);rw[k3]at h1;obtain⟨ac,u,rfl,hs,w1,w2,w4,w3⟩:=Jq h2;obtain⟨_,_,hc⟩:=World.cells?_some h1;refine⟨ac,⟨u, ?_,hc 1 (by decide),hc 2 (by decide),hc 3 (by decide),hs⟩,w1,w2,w4,w3⟩;have:=hc 0 (by decide)
   simpa [Addr.add] using this
  haveI:Inhabited X.Ac:=⟨⟨0,0,0,[]⟩⟩
  obtain⟨f,hf2⟩:=choose_lt hall;refine⟨some a,m,(List.range len).map f,by simp[e],λhn=> ?_,by simp;omega,λx hx=> ?_⟩
  ·have h0:0<len:=(by simpa using hn);obtain⟨⟨u,hc0,_⟩,_⟩:=hf2 0 h0;obtain⟨b,o,e2,hb⟩:=wG hc0;have e3:a=⟨b,o,none⟩:=(by rw[←e2];simp[Addr.add]);subst e3;refine⟨b,o,rfl,hb,λh=>h,λi hi=> ?_⟩;have OD:i<len:=(by simpa using hi);obtain⟨⟨u,q0,q1,q2,q4,q3⟩,w1,w2,w4,_⟩:=hf2 i OD;rw[gM]at q0 q1 q2 q4;rw[gM]at q1 q2 q4;simp only[List.getElem_map,List.getElem_range];exact⟨q0,q1,q2,⟨u,q4,q3⟩,w1,w2,w4⟩
  ·obtain⟨i,hi,rfl⟩:=List.mem_map.1 hx;exact(hf2 i (by simpa using hi)).2.2.2.2
theorem VI {r:Reach} {b0:Nat} {v:Value} {d:DataW H} {ps:List MemPlace} (hval:Value.okWide Tryz.prog W r b0 56 v) (hd:DataW.Trod enc Tryz.prog W base (λ_=>true) held 56 v d ps):
  ∃(sz:Nat) (rel:Bool) (A:Option Addr) (c:Nat) (L:List X.Ac),v= .agg #[.int .u8 sz, .bool rel, .slice A L.length c]∧sz<256∧fD W bF A L∧L.length≤maxLen∧∀a∈L,a.val.length≤maxLen:=by
 obtain⟨cs,rfl,_⟩:=okWide_struct Tryz.underlying56 hval;obtain⟨fuel,hf⟩:=hd;have hf:DataW.trod enc Tryz.prog W base (λ_=>true) held fuel 56 cs.toList=some (d,ps):=hf;obtain⟨cl,rfl⟩:∃cl:List Value,cs=cl.toArray:=⟨cs.toList,by simp⟩;obtain⟨xs,n,_,hx,hlen,Co,hall⟩:=DataW.trod_struct Tryz.underlying56 hf;have h3:Tryz.prog.cellsOf 56=3:=by kernel_rfl
 rw[h3]at hlen;obtain⟨c0,c1,c2,rfl⟩:∃c0 c1 c2,cl=[c0,c1,c2]:=by
  match cl,hlen with
  |[c0,c1,c2],_=>exact⟨c0,c1,c2,rfl⟩
 obtain⟨y0,y1,y2,rfl⟩:∃y0 y1 y2,xs=[y0,y1,y2]:=by
  match xs,Co with
  |[y0,y1,y2],_=>exact⟨y0,y1,y2,rfl⟩
 have k0:Tryz.prog.cellsOf 5=1:=by kernel_rfl
 have k1:Tryz.prog.cellsOf 4=1:=by kernel_rfl
 have k2:Tryz.prog.cellsOf 54=1:=by kernel_rfl
 have f0:DataW.trod enc Tryz.prog W base (λ_=>true) held n 5 (([c0,c1,c2].drop 0).take (Tryz.prog.cellsOf 5))=[y0,y1,y2][0]? :=hall 0 _ rfl;have f1:DataW.trod enc Tryz.prog W base (λ_=>true) held n 4 (([c0,c1,c2].drop 1).take (Tryz.prog.cellsOf 4))=[y0,y1,y2][1]? :=hall 1 _ rfl;have f2:DataW.trod enc Tryz.prog W base (λ_=>true) held n 54 (([c0,c1,c2].drop 2).take (Tryz.prog.cellsOf 54))=[y0,y1,y2][2]? :=hall 2 _ rfl;rw[k0]at f0;rw[k1]at f1;rw[k2]at f2;obtain⟨b,e1,rfl⟩:=DataW.trod_bool Tryz.underlying4 (show DataW.trod enc Tryz.prog W base (λ_=>true) held n 4 [c1]=some y1 from f1);obtain⟨k,e0,rfl,wk⟩:=DataW.trod_int Tryz.underlying5 (show DataW.trod enc Tryz.prog W base (λ_=>true) held n 5 [c0]=some y0 from f0);obtain⟨A,c,L,e2,ha,hm,hv⟩:=Jr (show DataW.trod enc Tryz.prog W base (λ_=>true) held n 54 [c2]=some y2 from f2);simp only[List.cons.injEq,and_true]at e0 e1 e2;subst e0 e1 e2;have b0:=bounds_u8 wk;exact⟨k.toNat,b,A,c,L,by rw[Int.toNat_of_nonneg (by omega)],by omega,ha,hm,hv⟩
end
end Go.Proofs.YtipljcmmokaokaaGreat
set_option linter.unusedVariables false
set_option linter.unusedSimpArgs false
set_option maxHeartbeats 8000000
namespace Go.Proofs.YtipljcmmokaokaaGreat
open Go.RowKit Go.Lib Go.Maps Go.WideMaps Go.Sort
set_option maxRecDepth 100000
theorem Ov (s u:Nat) (hu:u≤300):X.Bd [102] (ld s) 5 u∧(ld s).length≤3:=by
 have h3:(ld s).length≤3∧∀k∈ld s,k.len≤2:=by
  have:s%4=0∨s%4=1∨s%4=2∨s%4=3:=(by omega);unfold ld;rcases this with h|h|h|h<;>rw[h]<;>exact⟨by decide,by decide⟩
 refine⟨⟨2,by decide,λi hi=>h3.2 _ (X.aU hi), ?_⟩,h3.1⟩;have h4:=Nat.mul_le_mul h3.1 hu;rw[X.gg];have e:([102]:J.B).length=1:=rfl;rw[e];omega
namespace X
theorem Cj (m:M):m.close.1.ks=m.ks∧m.close.1.size=m.size:=by
 unfold M.close;split<;>exact⟨rfl,rfl⟩
theorem xy (m:M):m.next.1.size=m.size:=by
 unfold M.next;split
 ·rfl
 ·split
  ·rfl
  ·split<;>rfl
theorem Ow (m:M) (k:Int) (b:B):(m.get k b).1.size=m.size:=by
 unfold M.get;split
 ·rfl
 ·split
  ·rfl
  ·split
   ·rfl
   ·split<;>rfl
theorem EW (m:M) (k:Int) (r:Nat) (b:B):(m.start k r b).1.size=m.size:=by
 unfold M.start;split
 ·rfl
 ·split
  ·rfl
  ·split<;>rfl
theorem zi (m:M) (b:B):(m.rewrite b).1.size=m.size:=by
 unfold M.rewrite;split
 ·rfl
 ·split
  ·rfl
  ·split
   ·rfl
   ·split
    ·rfl
    ·split
     ·rfl
     ·split<;>rfl
theorem Ck (m:M) (b:B):(m.delete b).1.size=m.size:=by
 unfold M.delete;split
 ·rfl
 ·split
  ·rfl
  ·split
   ·rfl
   ·split<;>rfl
theorem vC (m:M) (a:Ac) (od:Bool):(m.does a od).ks=m.ks∧(m.does a od).size=m.size:=by
 unfold M.does;split
 ·exact pP m _ od
 ·exact pP m _ od
 ·exact Cj m
 ·exact⟨pQ m,xy m⟩
 ·exact⟨pQ m,xy m⟩
 ·exact⟨xw m _ _,Ow m _ _⟩
 ·exact⟨(eE m _).1,(eE m _).2.1⟩
 ·exact⟨(eE m _).1,(eE m _).2.1⟩
 ·exact⟨(eE m _).1,(eE m _).2.1⟩
 ·exact⟨px m _,zi m _⟩
 ·exact⟨delete_keeps m _,Ck m _⟩
 ·exact⟨sQ m _ _ _,EW m _ _ _⟩
end X
section
variable {w0 : World} {p pf q g c u : Nat} {nm : J.B} {fs : List (Nat × Obj)} {ds : List Nat} {m mf mm : X.M} {L : List (List (J.B × J.B))} {w w' : World}
theorem HY.lies (h:HY w0 p pf [102] u q g c fs ds m m L w) (hu:u≤340):
  Calls Tryz.prog 24 #[.pointer (some ⟨p,0,none⟩), .pointer (some ⟨q,0,none⟩)] w λe w'=>e= .returned (.bool true)∧Below w.heap.size w w':=by
 obtain⟨v,hr⟩:=h.row;have hm:=h.mok;have hc3:w.cell? ⟨q,0+3,none⟩=some (.bool m.there):=by rw[cell_of_row w q _ _ _ _ hr];rfl
 have hc2:w.cell? ⟨q,0+2,none⟩=some (.slice (some ⟨g,0,none⟩) m.ks.length c):=by rw[cell_of_row w q _ _ _ _ hr];rfl
 have Cx:∀W,Below w.heap.size w W→∀i,i<m.ks.length→Calls Tryz.prog 18 #[.pointer (some ⟨q,0,none⟩), .int .i64 (i:Nat)] W λe w'=>∃v' lp,e= .returned v'∧Below W.heap.size W w'∧mP w' bF v' lp∧lp.map (·.1)=X.bQ m.ks i m.rows:=λW hb i hi=>Jj (h.below hb) hm (by omega) i hi;have hql:q<w.heap.size:=(ai hr).1;obtain⟨ks,_,⟨s,f,gf,cf,SS,hI⟩,_⟩:=h.file;cases ht:m.there with
 |false=>
  rw[ht]at hc3;have hcon:=hI.kp.con;unfold X.M.con at hcon;rw[ht]at hcon;have hn:s.now=[]:=hcon;exact Jf (rows:=m.rows) hI.at_ (by rw[hn];rfl) ⟨hc3,hc2,hql,λe=>by cases e⟩
 |true=>
  rw[ht]at hc3;exact Rz hI.at_ (hI.kp.xf hu hI.nm_ ht) ⟨hc3,hc2,hql,λ_=>Cx⟩ (by have:=hm.ks.one;omega)
theorem VH {ko:Obj} (h:IK w0 p pf nm 0 [(q,gF m g c (.slice none 0 0)),(g,ko)] m [[]] w) (hk:KsK ko g m.ks) (hr:m.rows=[]) (Vj:g≠q):HY w0 p pf nm 0 q g c [] [] m m [[]] w:=
 ⟨.slice none 0 0,[],ko,[],h,hk,λW M _=> .ey,hr.symm,λx hx=>by
  simp only[List.nil_append,List.mem_singleton]at hx;subst hx;exact Vj,λx _ hd=>(by cases hd),λd hd=>by cases hd⟩
theorem RH {ks:List X.Ky} {ko:Obj} (h:At w0 p [(q,gF (X.M.new ks 5) g c (.slice none 0 0)),(g,ko)] J.new w) (bY:X.eo ks 5) (bC:KsK ko g ks) (Vj:g≠q):
  Calls Tryz.prog 11 #[.pointer (some ⟨p,0,none⟩), .agg #[.string ⟨#[102]⟩, .int .i64 5, .slice (some ⟨g,0,none⟩) ks.length c]] w λe w'=>∃pf,e= .returned (.tuple #[.pointer (some ⟨pf,0,none⟩), .int .i64 0])∧HY w0 p pf [102] 0 q g c [] [] (X.M.new ks 5) (X.M.new ks 5) [[]] w':=by
 have hk:=bC w (h.get (x:=(g,ko)) (by simp));refine(Nj h [102] ((5:Nat):Int) g 0 ks.length c _ _ _ hk.z (vn ⟨by decide,by decide,by decide⟩ bY)).mono ?_;rintro e w' ⟨pf,rfl,h,_⟩;rw[Vk]at h;exact⟨pf,rfl,VH (m:=X.M.new ks 5) h bC rfl Vj⟩
theorem fD.below {A:Option Addr} {L:List X.Ac} (h:fD w bF A L) (hb:Below w.heap.size w w'):fD w' bF A L:=h.step (Step.aI hb)
end
abbrev SZ (s:Nat) (od:Bool) (A:Option Addr) (n c:Nat):Obj:= .cells #[.int .u8 s, .bool od, .slice A n c] 56
theorem zj (s:Nat) (od:Bool) (A:Option Addr) (c:Nat) (L:List X.Ac) (w:World) (ha:fD w bF A L) (hl:L.length≤9223372036854775807) (hv:∀a∈L,a.val.length≤9223372036854775807) (h:150<X.fC L):
  Calls Tryz.prog 4 #[.agg #[.int .u8 s, .bool od, .slice A L.length c]] w λe w'=>e= .returned (.bool true)∧Below w.heap.size w w':=by
 have cF:=heap_alloc_new w (SZ s od A L.length c);have hcb:=aj _ w.heap.size cF;have cn:=ae ((ak w.heap.size w).alloc (aq _) (SZ s od A L.length c));have hbg:=Gg A c L 150 (w.alloc (SZ s od A L.length c)) (ha.below cn.out) (by decide) hl hv;rw[decide_eq_true h]at hbg;have HB:=ae hbg;have HL:=ae (λW=>vA W);clear ha hl hv hbg h cF;go_enter Tryz.func4,Tryz.ntmps4;go_wp2_with fail;refine HB.out.mono ?_;rintro e Y ⟨rfl,rfl⟩;go_wp2_with fail;refine(HL.out _).mono ?_;rintro e w1 ⟨rfl,hb⟩;have bV:=ae (cn.out.trans (hb.mono cn.out.size));clear hb HL HB cn hcb;go_wp2;go_ret;exact⟨rfl,bV.out⟩
def Zr (w1:World) (p pf q g c k:Nat) (ks:List X.Ky) (W:World):Prop:=∃m L,HY w1 p pf [102] k q g c [] [] m m L W∧m.ks=ks∧m.size=5
theorem zk (s:Nat) (od:Bool) (A:Option Addr) (c0:Nat) (L:List X.Ac) (w:World) (ha:fD w bF A L) (hu:X.fC L≤150):
  Calls Tryz.prog 4 #[.agg #[.int .u8 s, .bool od, .slice A L.length c0]] w λe w'=>e= .returned (.bool true)∧Below w.heap.size w w':=by
 have VL:L.length≤150:=aw (X.Je L) hu;have cF:=heap_alloc_new w (SZ s od A L.length c0);have hcb:=aj _ w.heap.size cF;have cn:=ae ((ak w.heap.size w).alloc (aq _) (SZ s od A L.length c0));have oU:∀a∈L,a.val.length≤1600:=λa h=>by have:=X.NV L a h;omega
 have HBG:=ae (Gg A c0 L 150 (w.alloc (SZ s od A L.length c0)) (ha.below cn.out) (by decide) (by omega) (λa h=>by have:=oU a h;omega));rw[decide_eq_false (by omega)]at HBG;have HA:=ae (ha.below cn.out);have ZN:=ae oU;have HL:=ae (λW=>vA W);have vZ:=ae (show w.heap.size<(w.alloc (SZ s od A L.length c0)).heap.size by simp);have SK:=ae VL;clear ha hu cF oU;go_enter Tryz.func4,Tryz.ntmps4;go_wp2_with fail;refine HBG.out.mono ?_;rintro e Y ⟨rfl,rfl⟩;clear HBG;generalize w.alloc (SZ s od A L.length c0)=wa at cn HA vZ hcb⊢;go_wp2_with fail;refine(KZ wa _ (ak _ _)).mono ?_;rintro e W ⟨p,rfl,h⟩;have H:=ae h;have Bt:Hid (∀(W:World) (hb:Below wa.heap.size wa W) (j:Nat),W.cell? ⟨w.heap.size,j,none⟩=(#[.int .u8 s, .bool od, .slice A L.length c0]:Array Value)[j]?):=ae (λW hb j=>(hb.cell (p:=⟨w.heap.size,j,none⟩) vZ.out).trans (hcb j));clear hcb;have hcb:=Bt.out W h.bel;clear h;go_wp2_with fail;refine(Nw s W).mono ?_;rintro e W1 ⟨g,c,rfl,hb1,hcc,hg,hk⟩;obtain⟨ko,bC,nT⟩:=Vh hk;have gp:=ae (QM s);have eT:=ae (Ov s);have Cq:=ae nT;have pV:Hid (At wa p [(W1.heap.size,gF (X.M.new (ld s) 5) g c (.slice none 0 0)),(g,ko)] J.new (W1.alloc (gF (X.M.new (ld s) 5) g c (.slice none 0 0)))):=ae ((H.out.add hb1 (gs:=[(g,ko)]) (λx hx=>by simp only[List.mem_singleton]at hx;subst hx;exact⟨hg,bC⟩)).more _);have HGQ:Hid (g≠W1.heap.size):=ae (Nat.ne_of_lt hk.1);clear H hb1 hcc hg hk nT bC hcb;generalize ld s=ks at gp eT Cq pV⊢;go_upto_region 5 with fail;generalize W1.heap.size=q at pV HGQ⊢;refine aM (λY=>At wa p [(q,gF (X.M.new ks 5) g c (.slice none 0 0)),(g,ko)] J.new Y) pV.out ?_;intro W2 h2;have hr2:=h2.get (x:=(q,gF (X.M.new ks 5) g c (.slice none 0 0))) af;have hc:=aj W2 q hr2;have KV:=ae (RH h2 gp.out Cq.out HGQ.out);clear h2 hr2 pV HGQ Cq;go_wp2_with fail;refine KV.out.mono ?_;rintro e W3 ⟨pf,rfl,h⟩;have eu:Hid (Zr wa p pf q g c 0 ks W3):=ae ⟨_,_,h,rfl,rfl⟩;clear h KV hc;go_wp2;go_loopw [7] (fun i W=>∃k:Nat,k≤L.length∧i= .int .i64 k∧Hid (Zr wa p pf q g c k ks W)) (fun i _=>L.length - (intOf i).toNat)
 case atStart=>exact⟨0,Nat.zero_le _,rfl,eu⟩
 case round=>
  clear eu;obtain⟨k,hk,rfl,HI⟩:=hrel;obtain⟨m,Lc,hd,bY,hsz⟩:=HI.out;have hcb:=Bt.out wr hd.bel;by_cases hlt:k<L.length
  ·obtain⟨ba,oa,rfl,Zs,_,hcs⟩:=HA.out (by omega);obtain⟨h0,h1,h2,⟨va,h3,eG⟩,hw8,Wm,Wc⟩:=hcs k hlt;obtain⟨Av,cv,rfl,_,_⟩:=eG.by
   have hdr:=hd.below ((ak _ wr).drew);have adn:=SK.out;have cd:ra wa p pf [102] k q g c [] [] m Lc L[k].n Av cv L[k].val wr.drew:=⟨hdr,by rw[bY,hsz];exact(eT.out k (by omega)).1,by omega,eG.step (Step.aI hdr.bel),by have:=ZN.out _ (List.getElem_mem hlt);omega,Wc⟩;have Zt:=ae (VG L[k] od Av cv wr.drew cd);have HAC:=ae (λ(w':World) (hS:Below wa.heap.size wa w')=>And.intro ((hS.cell (p:=⟨ba,oa+k*4,none⟩) Zs).trans h0) (And.intro ((hS.cell (p:=⟨ba,oa+k*4+1,none⟩) Zs).trans h1) (And.intro ((hS.cell (p:=⟨ba,oa+k*4+2,none⟩) Zs).trans h2) ((hS.cell (p:=⟨ba,oa+k*4+3,none⟩) Zs).trans h3))));have MQ:=ae hdr.bel;have aW:=ae hlt;have sY:Hid ((m.does L[k] od).ks=ks∧(m.does L[k] od).size=5):=ae ⟨(X.vC m L[k] od).1.trans bY,(X.vC m L[k] od).2.trans hsz⟩;have lg:(k:Int)<(L.length:Nat):=(by omega);clear hcs h0 h1 h2 h3 eG hdr cd hd Zs hw8 Wm Wc HI adn bY hsz;generalize m.does L[k] od=m3 at Zt sY;generalize L[k]=a at Zt HAC;go_upto_region 11 with fail;refine aK (.rd 0 (.rd 1 (.rd 2 (.rd 3 (.rd 4 (.rd 5 (.rd 6 (.rd 7 (.rd 8 (.wr 9 (.rd 10 (.rd 11 (.rd 12 (.rd 14 (.rd 15 (.rd 16 (.rd 17 (.wr 13 (.rd 18 (.rd 19 (.rd 20 (.rd 21 (.rd 22 (.wr 23 (.rd 24 (.rd 25 .fin)))))))))))))))))))))))))) (λw'=>Below wa.heap.size wa w') (by kernel_rfl) (by kernel_rfl) (λc a d v w h=>by cases d<;>exact h) MQ.out ?_;clear hcb;generalize wr.drew=wd at Zt MQ⊢;repeat
    refine az (v:= ?_) (by rfl) (by rfl) (λw' hS=> ?_) (λK hK=> ?_);rotate_left
    ·obtain⟨d0,d1,d2,d3⟩:=HAC.out w' hS;have hcx:=Bt.out w' hS;clear hS;go_simp;try with_reducible rfl
    go_simp;refine hK _ ?_;clear hK K
   refine wpPm_write (by rfl) (λK hK=> ?_);go_simp;refine Zt.out.mono ?_;rintro e w3 ⟨rfl,L',_,Zu⟩;clear Zt;have DL:=ae Zu;have OL:=ae Zu.Zl;obtain⟨vm,fp⟩:=Zu.row;have Zv:=ae (And.intro Zu.bel fp);clear Zu fp;refine hK.out _ _ (λw'=>Below wa.heap.size wa w'∧w'.heap[q]? =some (gF m3 g c vm)) (λ_ h=>h.1) Zv.out ?_;clear hK K;repeat
    refine az (v:= ?_) (by rfl) (by rfl) (λw' hS=> ?_) (λK hK=> ?_);rotate_left
    ·have hcq:=aj w' q hS.2;clear hS;go_simp;try with_reducible rfl
    go_simp;refine hK _ ?_;clear hK K
   refine wpPm_write (by rfl) (λK hK=> ?_);go_simp;refine OL.out.mono ?_;rintro e Y ⟨rfl,rfl⟩;refine hK.out _ _ (λw'=>Below wa.heap.size wa w'∧w'.heap[q]? =some (gF m3 g c vm)) (λ_ h=>h) Zv.out ?_;clear hK K OL;repeat
    refine az (v:= ?_) (by rfl) (by rfl) (λw' hS=> ?_) (λK hK=> ?_);rotate_left
    ·clear hS;go_simp;try with_reducible rfl
    go_simp;refine hK _ ?_;clear hK K
   refine wpPm_write (by rfl) (λK hK=> ?_);go_simp;refine(DL.out.lies (by have:=SK.out;omega)).mono ?_;rintro e w4 ⟨rfl,hb4⟩;have Qx:=ae (DL.out.below hb4);refine hK.out _ _ (λw'=>Below wa.heap.size wa w'∧w'.heap[q]? =some (gF m3 g c vm)) (λ_ h=>h) ⟨Qx.out.bel,(hb4.block q (ai Zv.out.2).1).trans Zv.out.2⟩ ?_;clear hK K hb4 DL Zv MQ;repeat
    refine az (v:= ?_) (by rfl) (by rfl) (λw' hS=> ?_) (λK hK=> ?_);rotate_left
    ·clear hS;go_simp;try with_reducible rfl
    go_simp;refine hK _ ?_;clear hK K
   show wpList _ _ _ _ _ _;have dV:k≤150:=(by have:=SK.out;omega);go_wp2_with fail;go_roundw
   case rel=>exact⟨k+1,aW.out,by go_num,ae ⟨_,_,Qx.out,sY.out⟩⟩
   case measure=>have:=aW.out;simp[intOf];omega
  ·obtain rfl:k=L.length:=(by omega);have VU:=ae (cn.out.trans (hd.bel.mono cn.out.size));clear hd HI bY hsz;go_wp2_with fail;refine(HL.out _).mono ?_;rintro e w3 ⟨rfl,hb⟩;have cX:=ae (VU.out.trans (hb.mono VU.out.size));clear hb HL;go_wp2;go_ret;exact⟨rfl,cX.out⟩
end Go.Proofs.YtipljcmmokaokaaGreat
set_option linter.unusedVariables false
set_option linter.unusedSimpArgs false
namespace Go.Proofs.YtipljcmmokaokaaGreat
open Go.ChangeShapes Go.WideShapes Go.ChangeAt Go.WideMaps Go.WideElems Go.RowKit
set_option maxRecDepth 100000
theorem pR (os:Os) (started:os.Started) (H:Type) (enc:TypeId×Value→H):
  ReturnsInHanded {} Tryz.checked os 4 .any (λw args=>Rows.indexesActsSpec.pre enc Tryz.prog Tryz.f4 [] false w args∧sizedMet enc Tryz.prog Tryz.f4 (OpenSpec.ofChange Rows.indexesActsSpec) false w args)
   (Rows.indexesActsSpec.post enc Tryz.prog Tryz.f4 false true false false):=by
 refine KO (tb:=4) started (by kernel_rfl) Tryz.func4
  (ChangeSpec.witness6 (enc:=enc) (C:=Tryz.checked) false ⟨#[],#[.agg #[.int .u8 0, .bool false, .slice none 0 0]],[]⟩ 8 (by kernel_rfl) (by kernel_rfl) (by kernel_rfl) (by kernel_rfl))
  rfl (λl hl=> ?_) (by kernel_rfl) Tryz.underlying4 (by kernel_rfl) ?_
 ·match l,hl with
  |[a],_=>rfl
 ·intro W base args ds ps hval hA _ _;rw[Tryz.params4]at hA hval;obtain⟨v0,d0,rfl,rfl,h0⟩:=trodAll_one hA;obtain⟨sz,rel,A,c,L,rfl,_,ha,hl,hv⟩:=VI (hval 0 56 v0 rfl rfl) h0;by_cases hu:150<X.fC L
  ·exact zj sz rel A c L W ha hl hv hu
  ·exact zk sz rel A c L W ha (Nat.not_lt.1 hu)
theorem indexesActs_holds:Rows.IndexesActsSaid:=
 OpenClaim.holds_of_wide 4 Tryz.f4 rfl rfl rfl rfl rfl rfl rfl ⟨rfl,rfl,rfl,rfl,rfl⟩ rfl rfl rfl rfl rfl (by kernel_rfl) Tryz.func4 (by kernel_rfl)
  (of_decide_eq_true (by kernel_rfl)) (by unfold Func.isWrapper;rw[if_neg (of_decide_eq_false (by kernel_rfl))];exact⟨rfl,rfl⟩)
  (λos started H enc _=>pR os started H enc)
end Go.Proofs.YtipljcmmokaokaaGreat
