import Derived.Test.YtipljcmmokaokaaGreatQM36
import Derived.Test.YtipljcmmokaokaaGreatQM37
import Derived.Test.YtipljcmmokaokaaGreatQM35
import Derived.Test.YtipljcmmokaokaaGreatQM26
set_option linter.unusedVariables false
set_option linter.unusedSimpArgs false
namespace Go.Proofs.YtipljcmmokaokaaGreat
open Go.RowKit Go.Lib Go.Maps Go.WideMaps Go.Sort
set_option maxRecDepth 100000
section
variable {w0 : World} {p pf g c : Nat} {nm : J.B} {u : Nat} {fs : List (Nat × Obj)} {m m' : X.M} {L : List (List (J.B × J.B))} {w w' : World} {s s1 s' : J.St} {f f' : Fv} {ok : Obj}
theorem xt (h:IK w0 p pf nm u fs m L w) (hu:u≤340) (v:Value) (b:J.B) (hv:Src w0 p fs v b) (hbl:b.length≤1000000):
  Calls Tryz.prog 27 #[.pointer (some ⟨pf,0,none⟩),v] w λe w'=>e= .returned (.string ⟨(m.delete b).2.toArray⟩)∧CA w0 p pf nm u fs (m.delete b).1 L w':=by
 obtain⟨s,f,g,c,ok,h⟩:=h;obtain⟨A,cb,rfl,uY⟩:=h.src hv;have hm:=X.Hc h.kp.mok b;have gB:=h.fm.mode;revert hm;unfold X.M.delete;by_cases hs:X.bM [52,57] [3] m.mode=X.good
 ·rw[if_neg (Decidable.not_not.2 hs)];have hs':X.bM [52,57] [3] f.mode=[48,48]:=(by rw[gB];exact hs);have xo:=X.eh h.kp.mok (Decidable.not_not.2 hs);have lI:=h.kp.xf hu h.nm_ xo;have nT:=h.kp.mok.ks.key _ (X.aU h.kp.mok.ks.one.1);have hsz:=h.kp.mok.ks.size;by_cases GH:m.ord=false∧b.length<(X.aF m.ks 0).at_+(X.aF m.ks 0).len
  ·rw[if_pos GH];intro hm;refine(EA h.at_ h.ne af h.ko h.kp.sto.two lI b A cb hs' (h.fm.ord.trans GH.1) GH.2 (by omega)).mono ?_;rintro e w1 ⟨rfl,h1⟩;exact⟨rfl,h.same (m':=m.aG) h1 hm h.fm.aG rfl rfl rfl rfl rfl⟩
  ·rw[if_neg GH];by_cases dJ:m.ord=true∧m.read=false
   ·rw[if_pos dJ];intro hm;refine(BP h.at_ h.ne af h.ko h.kp.sto.two lI b A cb hs' (h.fm.ord.trans dJ.1) (h.fm.read.trans dJ.2)).mono ?_;rintro e w1 ⟨rfl,h1⟩;exact⟨rfl,h.same (m':=m.aG) h1 hm h.fm.aG rfl rfl rfl rfl rfl⟩
   ·rw[if_neg dJ];cases ho:m.ord with
    |true=>
     have ov:m.read=true:=Decidable.byContradiction λhn=>dJ ⟨ho,Bool.not_eq_true _▸hn⟩;rw[if_pos rfl];have BU:f.last.length≤160:=(by rw[h.fm.last];exact h.fm.rl ov);cases dK:m.find m.last with
     |none=>
      intro hm;refine(BW h.at_ h.ne af h.ko h.cap h.kp.sto.two lI b A cb hs' (h.fm.ord.trans ho) (h.fm.read.trans ov) BU (by rw[h.fm.last];exact dK)).mono ?_;rintro e w1 ⟨rfl,h1⟩;exact⟨rfl,h.same (m':=m.aG) h1 hm h.fm.aG rfl rfl rfl rfl rfl⟩
     |some o=>
      intro hm;refine(Ja h.at_ h.ne af h.ko h.cap h.kp.sto.two lI b A cb hs' (h.fm.ord.trans ho) (h.fm.read.trans ov) BU (by rw[h.fm.last];exact dK) h.kp.sto hu h.kp.mok.many).mono ?_;rintro e w1 ⟨rfl,s1,now,h1,h2,h3⟩;rw[h.fm.last]at h3;exact⟨rfl,h.tx h.kp h1 hm ⟨gB,h.fm.ord,h.fm.key,h.fm.lost,h.fm.last,rfl,h.fm.written,h.fm.pos,λe=>by cases e⟩ rfl rfl h2 (X.vh (by exact xo) (by exact h3))⟩
    |false=>
     rw[if_neg (by decide)];have vI:(X.aF m.ks 0).at_+(X.aF m.ks 0).len≤b.length:=Nat.le_of_not_lt λhn=>GH ⟨ho,hn⟩;have BU:(X.val m.ks 0 b).length≤160:=by
      show(((b.drop _).take _)).length≤160;rw[List.length_take];omega
     cases dK:m.find (X.val m.ks 0 b)with
     |none=>
      intro hm;refine(BV h.at_ h.ne af h.ko h.cap h.kp.sto.two lI b A cb hs' (h.fm.ord.trans ho) vI hbl BU uY dK).mono ?_;rintro e w1 ⟨rfl,h1⟩;exact⟨rfl,h.same (m':=m.aG) h1 hm h.fm.aG rfl rfl rfl rfl rfl⟩
     |some o=>
      intro hm;refine(IZ h.at_ h.ne af h.ko h.cap h.kp.sto.two lI b A cb hs' (h.fm.ord.trans ho) vI hbl BU uY dK h.kp.sto hu h.kp.mok.many).mono ?_;rintro e w1 ⟨rfl,s1,now,h1,h2,h3⟩;exact⟨rfl,h.tx h.kp h1 hm ⟨gB,h.fm.ord,h.fm.key,h.fm.lost,h.fm.last,rfl,h.fm.written,h.fm.pos,λe=>by cases e⟩ rfl rfl h2 (X.vh (by exact xo) (by exact h3))⟩
 ·rw[if_pos hs];intro hm;refine(IP h.row (by rw[gB];exact hs) A b.length cb).mono ?_;rintro e w1 ⟨rfl,h1⟩;exact⟨by rw[gB],h.same (h.at_.below h1) hm h.fm rfl rfl rfl rfl rfl⟩
end
def IX (w0:World) (p pf:Nat) (nm:J.B) (u:Nat) (fs:List (Nat×Obj)) (m:X.M) (w:World):Prop:=∃L,IK w0 p pf nm u fs m L w
section
variable {w0 : World} {p pf g c : Nat} {nm : J.B} {u : Nat} {fs gs : List (Nat × Obj)} {m m' : X.M} {L : List (List (J.B × J.B))} {w w' : World} {s s1 s' : J.St} {f f' : Fv} {ok : Obj}
theorem YY (h:IK w0 p pf nm u fs m L w):IX w0 p pf nm u fs m w:=⟨L,h⟩
theorem CA.ix (h:CA w0 p pf nm u fs m L w):IX w0 p pf nm (u+1) fs m w:=by
 obtain⟨L',_,h⟩:=h;exact⟨L',h⟩
theorem KI.below (h:KI w0 p pf nm u fs m L s f g c ok w) (hb:Below w.heap.size w w'):KI w0 p pf nm u fs m L s f g c ok w':=
 ⟨h.at_.below hb,h.kp,h.fm,h.ko,h.cap,h.ne,h.neg,h.nm_⟩
theorem IK.below (h:IK w0 p pf nm u fs m L w) (hb:Below w.heap.size w w'):IK w0 p pf nm u fs m L w':=by
 obtain⟨s,f,g,c,ok,h⟩:=h;exact⟨s,f,g,c,ok,h.below hb⟩
theorem IX.below (h:IX w0 p pf nm u fs m w) (hb:Below w.heap.size w w'):IX w0 p pf nm u fs m w':=by
 obtain⟨L,h⟩:=h;exact⟨L,h.below hb⟩
theorem IX.bel (h:IX w0 p pf nm u fs m w):Below w0.heap.size w0 w:=by
 obtain⟨L,s,f,g,c,ok,h⟩:=h;exact h.at_.bel
theorem IK.more (h:IK w0 p pf nm u fs m L w) (o:Obj):IK w0 p pf nm u ((w.heap.size,o)::fs) m L (w.alloc o):=by
 obtain⟨s,f,g,c,ok,h⟩:=h;have h1:pf<w.heap.size:=(ai (h.at_.get af)).1;have h2:g<w.heap.size:=(ai (h.at_.get (ag _ af))).1;refine⟨s,f,g,c,ok,(h.at_.more o).less (λx hx=> ?_),h.kp,h.fm,h.ko,h.cap,λx hx=> ?_,λx hx=> ?_,h.nm_⟩
 ·simp only[List.mem_cons]at hx⊢;rcases hx with h|h|h|h
  ·exact .inr (.inl h)
  ·exact .inr (.inr (.inl h))
  ·exact .inl h
  ·exact .inr (.inr (.inr h))
 ·rcases au hx with rfl|hx
  ·exact h.ne _ af
  ·rcases au hx with rfl|hx
   ·exact Nat.ne_of_gt h1
   ·exact h.ne x (ag _ hx)
 ·rcases au hx with rfl|hx
  ·exact Nat.ne_of_gt h2
  ·exact h.neg x hx
theorem IK.cY (h:IK w0 p pf nm u fs m L w) (hg:∀x∈gs,x∈fs):IK w0 p pf nm u gs m L w:=by
 obtain⟨s,f,g,c,ok,h⟩:=h;refine⟨s,f,g,c,ok,h.at_.less (λx hx=> ?_),h.kp,h.fm,h.ko,h.cap,λx hx=> ?_,λx hx=>h.neg x (hg x hx),h.nm_⟩
 ·simp only[List.mem_cons]at hx⊢;rcases hx with h|h|h
  ·exact .inl h
  ·exact .inr (.inl h)
  ·exact .inr (.inr (hg x h))
 ·rcases au hx with rfl|hx
  ·exact h.ne _ af
  ·exact h.ne x (ag _ (hg x hx))
theorem IX.more (h:IX w0 p pf nm u fs m w) (o:Obj):IX w0 p pf nm u ((w.heap.size,o)::fs) m (w.alloc o):=by
 obtain⟨L,h⟩:=h;exact⟨L,h.more o⟩
theorem IX.cY (h:IX w0 p pf nm u fs m w) (hg:∀x∈gs,x∈fs):IX w0 p pf nm u gs m w:=by
 obtain⟨L,h⟩:=h;exact⟨L,h.cY hg⟩
theorem oN {x:Nat×Obj} (h:x∈([]:List (Nat×Obj))) {P:Prop}:P:=by cases h
theorem Gb {n:Nat} {b:J.B} {o:Obj} (hs:Sl w bF (.slice (some ⟨g,0,none⟩) n c) b) (hb:b≠[]) (ho:w.heap[g]? =some o) (hm:(g,o)∈fs):Src w0 p fs (.slice (some ⟨g,0,none⟩) n c) b:=by
 intro gs t w1 hg ha;have hr:=ha.get (hg _ hm);have hl:g<w1.heap.size:=(ai hr).1;rcases hs with⟨_,_,e⟩|⟨b',o',c',e,h1,h2,h3⟩
 ·exact absurd e hb
 ·injection e with e1 e2 e3;injection e1 with e1;injection e1 with e1 e4;subst e1 e2 e3 e4;refine .inr ⟨_,0,_,rfl,h1,hl,h3.1,λhn=> ?_⟩;obtain⟨b2,o2,e,_,_,hc⟩:=h3.2 hn;injection e with e;injection e with e1 e2;subst e1 e2;exact⟨_,0,rfl,hl,λh=>h,λj hj=>(World.cell?_of_block (hr.trans ho.symm)).trans (hc j hj)⟩
theorem za (b:J.B) (hb:b≠[]) (C:Array Value) (hC:C=(dx b).toArray) (o:Nat×Nat) (g:Nat):Src w0 p [(g,Obj.cells C 5 o)] (.slice (some ⟨g,0,none⟩) b.length b.length) b:=by
 subst hC;intro gs t w1 hg ha;have hr:=ha.get (hg _ af);have hl:g<w1.heap.size:=(ai hr).1;refine .inr ⟨g,0,_,rfl,aq _,hl,rfl,λ_=>⟨g,0,rfl,hl,λh=>h,λj hj=> ?_⟩⟩;rw[cell_of_row w1 g (0+j) _ _ _ hr,Nat.zero_add];unfold dx;simp[hj]
theorem Nz (h:IX w0 p pf nm u fs m w) (hu:u≤340) (Yw:X.Bd nm m.ks m.size u) (md:Nat) (od:Bool) {st:J.B} (he:m.open md od=(m',st)):
  Calls Tryz.prog 12 #[.pointer (some ⟨pf,0,none⟩), .int .u8 (md:Nat), .bool od] w λe w'=>e= .returned (.string ⟨st.toArray⟩)∧IX w0 p pf nm (u+1) fs m' w':=by
 obtain⟨L,h⟩:=h;refine(FW h hu Yw md od).mono ?_;rw[he];rintro e w' ⟨rfl,h⟩;exact⟨rfl,h.ix⟩
theorem QR (h:IX w0 p pf nm u fs m w) {st:J.B} (he:m.close=(m',st)):
  Calls Tryz.prog 17 #[.pointer (some ⟨pf,0,none⟩)] w λe w'=>e= .returned (.string ⟨st.toArray⟩)∧IX w0 p pf nm (u+1) fs m' w':=by
 obtain⟨L,h⟩:=h;refine(BL h).mono ?_;rw[he];rintro e w' ⟨rfl,h⟩;exact⟨rfl,h.ix⟩
theorem oz (h:IX w0 p pf nm u fs m w) (hu:u≤340) (v:Value) (b:J.B) (hv:Src w0 p fs v b) {st:J.B} (he:m.write b=(m',st)):
  Calls Tryz.prog 15 #[.pointer (some ⟨pf,0,none⟩),v] w λe w'=>e= .returned (.string ⟨st.toArray⟩)∧IX w0 p pf nm (u+1) fs m' w':=by
 obtain⟨L,h⟩:=h;refine(BN h hu v b hv).mono ?_;rw[he];rintro e w' ⟨rfl,h⟩;exact⟨rfl,h.ix⟩
theorem EG (h:IX w0 p pf nm u fs m w) (hu:u≤340) (v:Value) (b:J.B) (hv:Src w0 p fs v b) {st:J.B} (he:m.rewrite b=(m',st)):
  Calls Tryz.prog 26 #[.pointer (some ⟨pf,0,none⟩),v] w λe w'=>e= .returned (.string ⟨st.toArray⟩)∧IX w0 p pf nm (u+1) fs m' w':=by
 obtain⟨L,h⟩:=h;refine(vk h hu v b hv).mono ?_;rw[he];rintro e w' ⟨rfl,h⟩;exact⟨rfl,h.ix⟩
theorem Jb (h:IX w0 p pf nm u fs m w) (hu:u≤340) (v:Value) (b:J.B) (hv:Src w0 p fs v b) (hbl:b.length≤1000000) {st:J.B} (he:m.delete b=(m',st)):
  Calls Tryz.prog 27 #[.pointer (some ⟨pf,0,none⟩),v] w λe w'=>e= .returned (.string ⟨st.toArray⟩)∧IX w0 p pf nm (u+1) fs m' w':=by
 obtain⟨L,h⟩:=h;refine(xt h hu v b hv hbl).mono ?_;rw[he];rintro e w' ⟨rfl,h⟩;exact⟨rfl,h.ix⟩
theorem NA (h:IX w0 p pf nm u fs m w) (hu:u≤340) (k:Int) (r:Nat) (hr:r≤5) (v:Value) (b:J.B) (hv:Src w0 p fs v b) {st:J.B} (he:m.start k r b=(m',st)):
  Calls Tryz.prog 19 #[.pointer (some ⟨pf,0,none⟩), .int .i64 k, .int .u8 (r:Nat),v] w λe w'=>e= .returned (.string ⟨st.toArray⟩)∧IX w0 p pf nm (u+1) fs m' w':=by
 obtain⟨L,h⟩:=h;refine(BM h hu k r hr v b hv).mono ?_;rw[he];rintro e w' ⟨rfl,h⟩;exact⟨rfl,h.ix⟩
theorem QT (h:IX w0 p pf nm u fs m w) (hu:u≤340) (k:Int) (v:Value) (b:J.B) (hv:Src w0 p fs v b) (hbl:b.length≤1000000) {o:Option J.B} {st:J.B} (he:m.get k b=(m',o,st)):
  Calls Tryz.prog 25 #[.pointer (some ⟨pf,0,none⟩), .int .i64 k,v] w λe w'=>∃v,e= .returned (.tuple #[v, .string ⟨st.toArray⟩])∧bT w' (· <w.heap.size) v (o.getD [])∧IX w0 p pf nm (u+1) fs m' w':=by
 obtain⟨L,h⟩:=h;refine(FU h hu k v b hv hbl).mono ?_;rw[he];rintro e w' ⟨v,rfl,hs,h⟩;exact⟨v,rfl,hs,h.ix⟩
theorem vy (h:IX w0 p pf nm u fs m w) (hu:u≤340) {o:Option J.B} {st:J.B} (he:m.next=(m',o,st)):
  Calls Tryz.prog 20 #[.pointer (some ⟨pf,0,none⟩)] w λe w'=>∃v,e= .returned (.tuple #[v, .string ⟨st.toArray⟩])∧bT w' (· <w.heap.size) v (o.getD [])∧IX w0 p pf nm (u+1) fs m' w':=by
 obtain⟨L,h⟩:=h;refine(FT h hu).mono ?_;rw[he];rintro e w' ⟨v,rfl,hs,h⟩;exact⟨v,rfl,hs,h.ix⟩
theorem NB (h:IK w0 p pf nm u fs m L w) (hu:u≤340) (hs:X.bM [52,55] [1,3] m.mode=X.good) (hl:m.lost=false):
  Calls Tryz.prog 20 #[.pointer (some ⟨pf,0,none⟩)] w λe w'=>∃v,e= .returned (.tuple #[v, .string ⟨m.next.2.2.toArray⟩])∧bT w' (· <w.heap.size) v (m.next.2.1.getD [])∧CA w0 p pf nm u fs m.next.1 L w'∧w.grownBy w' (some pf):=by
 obtain⟨s,f,g,c,ok,h⟩:=h;have hm:=X.Fz h.kp.mok;have gB:=h.fm.mode;revert hm;unfold X.M.next;rw[if_neg (Decidable.not_not.2 hs)];have hs':X.bM [52,55] [1,3] f.mode=[48,48]:=by rw[gB];exact hs
 have xo:=X.eh h.kp.mok (Decidable.not_not.2 hs);have lI:=h.kp.xf hu h.nm_ xo;rw[if_neg (by rw[hl];decide)];obtain⟨p1,p2⟩:=h.fm.pos (X.BK hs) hl;have dV:f.key<m.ks.length:=by rw[h.fm.key];exact h.kp.mok.key
 have Ec:afterOf s.now ⟨(X.pre nm f.key).toArray⟩ f.at_ f.same=m.at.map (X.aN nm m.ks f.key):=by
  rw[p1,p2,h.fm.key];exact lI.con.after lI.ks lI.rows (by have:=lI.ct;omega) h.kp.mok.key (by have:=h.kp.mok.at_;omega) (h.kp.mok.pos hl) m.same
 cases hr:m.at with
 |some r=>
  rw[hr]at Ec;intro hm;refine(BZ h.at_ h.ne af h.ko h.kp.sto.two lI hs' (h.fm.lost.trans hl) dV r (X.M.at_mem hr) Ec).mono ?_;rintro e w1 ⟨v,rfl,h1,h2,h3⟩;refine⟨v, ?_,h1,h.same (m':=m.take r) h2 hm (h.fm.take h.kp.mok r (X.M.at_mem hr)) rfl rfl rfl rfl rfl,h3⟩;rw[h.fm.key];rfl
 |none=>
  rw[hr]at Ec;intro hm;refine(Ca h.at_ h.ne af h.ko h.kp.sto.two lI hs' (h.fm.lost.trans hl) dV Ec).mono ?_;rintro e w1 ⟨rfl,h1,h3⟩;exact⟨_,rfl,bT.ey,h.same (m':=m.dG) h1 hm h.fm.dG rfl rfl rfl rfl rfl,h3⟩
theorem qW (h:IX w0 p pf nm u fs m w) (hu:u≤340) (hs:X.bM [52,55] [1,3] m.mode=X.good) (hl:m.lost=false) {o:Option J.B} {st:J.B} (he:m.next=(m',o,st)):
  Calls Tryz.prog 20 #[.pointer (some ⟨pf,0,none⟩)] w λe w'=>∃v,e= .returned (.tuple #[v, .string ⟨st.toArray⟩])∧bT w' (· <w.heap.size) v (o.getD [])∧IX w0 p pf nm (u+1) fs m' w'∧w.grownBy w' (some pf):=by
 obtain⟨L,h⟩:=h;refine(NB h hu hs hl).mono ?_;rw[he];rintro e w' ⟨v,rfl,hs,h,hg⟩;exact⟨v,rfl,hs,h.ix,hg⟩
theorem QU (h:IX w0 p pf nm u fs m w) (hu:u≤340) (hn:yV nm) (ht:m.there=true):
  Calls Tryz.prog 28 #[.pointer (some ⟨p,0,none⟩), .string ⟨nm.toArray⟩] w λe w'=>e= .returned (.int .i64 0)∧Below w.heap.size w w':=by
 obtain⟨L,s,f,g,c,ok,h⟩:=h;exact oK h.at_ hn (h.kp.xf hu h.nm_ ht)
theorem xu (h:IX w0 p pf nm u [] m w) (hu:u≤340) (b:J.B) (hb:b≠[]) (C:Array Value) (hC:C=(dx b).toArray) {o:Nat×Nat} {st:J.B} (he:m.rewrite b=(m',st)):
  Calls Tryz.prog 26 #[.pointer (some ⟨pf,0,none⟩), .slice (some ⟨w.heap.size,0,none⟩) b.length b.length] (w.alloc (.cells C 5 o)) λe w'=>e= .returned (.string ⟨st.toArray⟩)∧IX w0 p pf nm (u+1) [] m' w':=by
 refine(EG (h.more _) hu _ b (za b hb C hC o _) he).mono ?_;rintro e w' ⟨rfl,h⟩;exact⟨rfl,h.cY (λx hx=>oN hx)⟩
theorem NC (h:IX w0 p pf nm u [] m w) (hu:u≤340) (b:J.B) (hb:b≠[]) (hbl:b.length≤1000000) (C:Array Value) (hC:C=(dx b).toArray) {o:Nat×Nat} {st:J.B} (he:m.delete b=(m',st)):
  Calls Tryz.prog 27 #[.pointer (some ⟨pf,0,none⟩), .slice (some ⟨w.heap.size,0,none⟩) b.length b.length] (w.alloc (.cells C 5 o)) λe w'=>e= .returned (.string ⟨st.toArray⟩)∧IX w0 p pf nm (u+1) [] m' w':=by
 refine(Jb (h.more _) hu _ b (za b hb C hC o _) hbl he).mono ?_;rintro e w' ⟨rfl,h⟩;exact⟨rfl,h.cY (λx hx=>oN hx)⟩
theorem zb (h:IX w0 p pf nm u [] m w) (hu:u≤340) (k:Int) (r:Nat) (hr:r≤5) (b:J.B) (hb:b≠[]) (C:Array Value) (hC:C=(dx b).toArray) {o:Nat×Nat} {st:J.B} (he:m.start k r b=(m',st)):
  Calls Tryz.prog 19 #[.pointer (some ⟨pf,0,none⟩), .int .i64 k, .int .u8 (r:Nat), .slice (some ⟨w.heap.size,0,none⟩) b.length b.length] (w.alloc (.cells C 5 o)) λe w'=>e= .returned (.string ⟨st.toArray⟩)∧IX w0 p pf nm (u+1) [] m' w':=by
 refine(NA (h.more _) hu k r hr _ b (za b hb C hC o _) he).mono ?_;rintro e w' ⟨rfl,h⟩;exact⟨rfl,h.cY (λx hx=>oN hx)⟩
theorem ND (h:IX w0 p pf nm u [] m w) (hu:u≤340) (k:Int) (b:J.B) (hb:b≠[]) (hbl:b.length≤1000000) (C:Array Value) (hC:C=(dx b).toArray) {o:Nat×Nat} {x:Option J.B} {st:J.B} (he:m.get k b=(m',x,st)):
  Calls Tryz.prog 25 #[.pointer (some ⟨pf,0,none⟩), .int .i64 k, .slice (some ⟨w.heap.size,0,none⟩) b.length b.length] (w.alloc (.cells C 5 o)) λe w'=>∃v,e= .returned (.tuple #[v, .string ⟨st.toArray⟩])∧bT w' (· <w.heap.size) v (x.getD [])∧IX w0 p pf nm (u+1) [] m' w':=by
 refine(QT (h.more _) hu k _ b (za b hb C hC o _) hbl he).mono ?_;rintro e w' ⟨v,rfl,hs,h⟩;refine⟨v,rfl,hs.weak (λk hk=>av hk (by simp)),h.cY (λx hx=>oN hx)⟩
end
def YZ (rb:List (Nat×Obj)) (v:Value) (l:List HP):Prop:=∀(W:World) (M:Nat→Prop),(∀x∈rb,W.heap[x.1]? =some x.2∧¬M x.1)→mP W M v l
def KsK (ko:Obj) (g:Nat) (ks:List X.Ky):Prop:=∀W:World,W.heap[g]? =some ko→dB W g ks
theorem Vh {w:World} {g:Nat} {ks:List X.Ky} (h:dB w g ks):∃ko,w.heap[g]? =some ko∧KsK ko g ks:=by
 have hg:w.heap[g]? =some (w.heap[g]'h.1):=Array.getElem?_eq_getElem h.1;exact⟨_,hg,λW hW=>⟨(ai hW).1,λj u hu=>(World.cell?_of_block (hW.trans hg.symm)).trans (h.2 j u hu)⟩⟩
section
variable {w w' : World} {M : Nat → Prop} {v : Value} {l : List HP}
theorem Za {v:Value} {ts:List Nat} (h:mO w M v ts):∃x:Nat×Obj,(w.heap[x.1]? =some x.2∧¬M x.1)∧∀(W:World) (M':Nat→Prop),W.heap[x.1]? =some x.2→¬M' x.1→mO W M' v ts:=by
 obtain⟨g,c,rfl,h1,h2,h3⟩:=h;have hg:w.heap[g]? =some w.heap[g]:=Array.getElem?_eq_getElem h1;exact⟨(g,w.heap[g]),⟨hg,h2⟩,λW M' hW hM=>⟨g,c,rfl,(ai hW).1,hM,λj hj=>(World.cell?_of_block (hW.trans hg.symm)).trans (h3 j hj)⟩⟩
theorem NF:∀(l:List HP),(∀x∈l,mO w M x.2 x.1.ts)→∃rb:List (Nat×Obj),(∀x∈rb,w.heap[x.1]? =some x.2∧¬M x.1)∧∀(W:World) (M':Nat→Prop),(∀x∈rb,W.heap[x.1]? =some x.2∧¬M' x.1)→∀x∈l,mO W M' x.2 x.1.ts
 |[],_=>⟨[],λx hx=>(by cases hx),λW M' _ x hx=>by cases hx⟩
 |a::t,h=>by
  obtain⟨rb,h1,h2⟩:=NF t (λx hx=>h x (ag _ hx));obtain⟨x,h3,h4⟩:=Za (h a af);refine⟨x::rb,λy hy=> ?_,λW M' hW y hy=> ?_⟩
  ·rcases au hy with rfl|hy
   ·exact h3
   ·exact h1 y hy
  ·rcases au hy with rfl|hy
   ·exact h4 W M' (hW x af).1 (hW x af).2
   ·exact h2 W M' (λz hz=>hW z (ag _ hz)) y hy
theorem Vi (h:mP w M v l):∃rb,YZ rb v l∧∀x∈rb,w.heap[x.1]? =some x.2∧¬M x.1:=by
 obtain⟨rb,h1,h2⟩:=NF l h.tm;rcases h.row with e|⟨g,c,e,k1,k2,k3,k4⟩
 ·exact⟨rb,λW M' hW=>⟨.inl e,h2 W M' hW⟩,h1⟩
 ·have hg:w.heap[g]? =some w.heap[g]:=Array.getElem?_eq_getElem k2;refine⟨(g,w.heap[g])::rb,λW M' hW=> ?_,λx hx=> ?_⟩
  ·obtain⟨a1,a2⟩:=hW _ af;have a1:W.heap[g]? =some w.heap[g]:=a1;exact⟨.inr ⟨g,c,e,k1,(ai a1).1,a2,λj u hu=>(World.cell?_of_block (a1.trans hg.symm)).trans (k4 j u hu)⟩,h2 W M' (λx hx=>hW x (ag _ hx))⟩
  ·rcases au hx with rfl|hx
   ·exact⟨hg,k3⟩
   ·exact h1 x hx
end
theorem Gc {w:World} {q g c n c':Nat} {m:X.M} {A:Option Addr} (h:w.heap[q]? =some (gF m g c (.slice A n c'))):vQ w q:=by
 refine⟨λo u v hh=> ?_,λ⟨_,cur,fr,e⟩=> ?_⟩
 ·rw[cell_of_row w q o _ _ _ h,cell_of_row w q (o+1) _ _ _ h]at hh;obtain⟨h1,h2⟩:=hh;rcases o with _|_|_|_|_|_|_|_|_|_|_|_|_|_|_|o<;>simp at h1 h2
 ·rw[h]at e;injection e with e;injection e with e1 e2;exact absurd e2 (by decide)
def rh (w0:World) (p pf:Nat) (nm:J.B) (u q g c:Nat) (fs:List (Nat×Obj)) (ds:List Nat) (mf mm:X.M) (L:List (List (J.B×J.B))) (v:Value) (l:List HP) (w:World):Prop:=
 ∃ko rb,IK w0 p pf nm u ((q,gF mm g c v)::(g,ko)::(rb++fs)) mf L w∧KsK ko g mm.ks∧YZ rb v l∧l.map (·.1)=mm.rows∧(∀x∈(g,ko)::(rb++fs),x.1≠q)∧(∀x∈(g,ko)::rb,x.1∉ds)∧∀d∈ds,∃y∈fs,y.1=d
abbrev H3 (w0:World) (p pf:Nat) (nm:J.B) (u q g c:Nat) (fs:List (Nat×Obj)) (mf mm:X.M) (L:List (List (J.B×J.B))) (v:Value) (l:List HP) (w:World):Prop:=rh w0 p pf nm u q g c fs [] mf mm L v l w
section
variable {w0 : World} {p pf q g c : Nat} {nm : J.B} {u u' : Nat} {fs gs : List (Nat × Obj)} {ds : List Nat} {mf ze mm : X.M} {L L' : List (List (J.B × J.B))} {v : Value} {l : List HP} {w w' : World}
theorem IK.get (h:IK w0 p pf nm u fs mf L w) {x:Nat×Obj} (hx:x∈fs):w.heap[x.1]? =some x.2:=by
 obtain⟨s,f,g,c,ok,h⟩:=h;exact h.at_.get (ag _ (ag _ hx))
theorem rh.below (h:rh w0 p pf nm u q g c fs ds mf mm L v l w) (hb:Below w.heap.size w w'):rh w0 p pf nm u q g c fs ds mf mm L v l w':=by
 obtain⟨ko,rb,h1,h2⟩:=h;exact⟨ko,rb,h1.below hb,h2⟩
theorem rh.row (h:rh w0 p pf nm u q g c fs ds mf mm L v l w):w.heap[q]? =some (gF mm g c v):=by
 obtain⟨ko,rb,h1,_⟩:=h;exact h1.get af
theorem rh.get (h:rh w0 p pf nm u q g c fs ds mf mm L v l w) {x:Nat×Obj} (hx:x∈fs):w.heap[x.1]? =some x.2:=by
 obtain⟨ko,rb,h1,_⟩:=h;exact h1.get (ag _ (ag _ (List.mem_append_right _ hx)))
theorem rh.bel (h:rh w0 p pf nm u q g c fs ds mf mm L v l w):Below w0.heap.size w0 w:=by
 obtain⟨ko,rb,⟨s,f,g,c,ok,h⟩,_⟩:=h;exact h.at_.bel
theorem rh.cY (h:rh w0 p pf nm u q g c fs ds mf mm L v l w) (hg:∀x∈gs,x∈fs) (Tp:∀d∈ds,∃y∈gs,y.1=d):rh w0 p pf nm u q g c gs ds mf mm L v l w:=by
 obtain⟨ko,rb,h1,h2,h3,h4,h5,h6,h7⟩:=h;have hs:∀x∈(g,ko)::(rb++gs),x∈(g,ko)::(rb++fs):=λx hx=>by
  simp only[List.mem_cons,List.mem_append]at hx⊢;rcases hx with h|h|h
  ·exact .inl h
  ·exact .inr (.inl h)
  ·exact .inr (.inr (hg x h))
 refine⟨ko,rb,h1.cY (λx hx=> ?_),h2,h3,h4,λx hx=>h5 x (hs x hx),h6,Tp⟩;rcases au hx with rfl|hx
 ·exact af
 ·exact ag _ (hs x hx)
theorem IK.add (h:IK w0 p pf nm u fs mf L w) (hb:Below w.heap.size w w') (hg:∀x∈gs,w.heap.size≤x.1∧w'.heap[x.1]? =some x.2):IK w0 p pf nm u (gs++fs) mf L w':=by
 obtain⟨s,f,g,c,ok,h⟩:=h;have h1:pf<w.heap.size:=(ai (h.at_.get af)).1;have h2:g<w.heap.size:=(ai (h.at_.get (ag _ af))).1;refine⟨s,f,g,c,ok,(h.at_.add hb hg).less (λx hx=> ?_),h.kp,h.fm,h.ko,h.cap,λx hx=> ?_,λx hx=> ?_,h.nm_⟩
 ·simp only[List.mem_cons,List.mem_append]at hx⊢;rcases hx with h|h|h|h
  ·exact .inr (.inl h)
  ·exact .inr (.inr (.inl h))
  ·exact .inl h
  ·exact .inr (.inr (.inr h))
 ·rcases au hx with rfl|hx
  ·exact h.ne _ af
  ·rcases List.mem_append.1 hx with hx|hx
   ·have:=(hg x hx).1;omega
   ·exact h.ne x (ag _ hx)
 ·rcases List.mem_append.1 hx with hx|hx
  ·have:=(hg x hx).1;omega
  ·exact h.neg x hx
theorem rh.add (h:rh w0 p pf nm u q g c fs ds mf mm L v l w) (hb:Below w.heap.size w w') (hg:∀x∈gs,w.heap.size≤x.1∧w'.heap[x.1]? =some x.2):rh w0 p pf nm u q g c (gs++fs) ds mf mm L v l w':=by
 have hq:q<w.heap.size:=(ai h.row).1;obtain⟨ko,rb,h1,h2,h3,h4,h5,h6,h7⟩:=h;have vV:∀x∈rb,x.1<w.heap.size:=λx hx=>(ai (h1.get (ag _ (ag _ (List.mem_append_left _ hx))))).1;refine⟨ko,rb,(h1.add hb hg).cY (λx hx=> ?_),h2,h3,h4,λx hx=> ?_,h6,λd hd=>by
  obtain⟨y,hy,e⟩:=h7 d hd;exact⟨y,List.mem_append_right _ hy,e⟩⟩
 ·simp only[List.mem_cons,List.mem_append]at hx⊢;rcases hx with h|h|h|h|h
  ·exact .inr (.inl h)
  ·exact .inr (.inr (.inl h))
  ·exact .inr (.inr (.inr (.inl h)))
  ·exact .inl h
  ·exact .inr (.inr (.inr (.inr h)))
 ·rcases au hx with rfl|hx
  ·exact h5 _ af
  ·rcases List.mem_append.1 hx with hx|hx
   ·exact h5 x (ag _ (List.mem_append_left _ hx))
   ·rcases List.mem_append.1 hx with hx|hx
    ·have:=(hg x hx).1;omega
    ·exact h5 x (ag _ (List.mem_append_right _ hx))
theorem rh.file (h:rh w0 p pf nm u q g c fs ds mf mm L v l w):∃ks:List (Nat×Obj),(∀x∈fs,x∈ks)∧IK w0 p pf nm u ks mf L w∧∀(u':Nat) (ze:X.M) (L':List (List (J.B×J.B))) (w':World),IK w0 p pf nm u' ks ze L' w'→rh w0 p pf nm u' q g c fs ds ze mm L' v l w':=by
 obtain⟨ko,rb,h1,h2⟩:=h;exact⟨_,λx hx=>ag _ (ag _ (List.mem_append_right _ hx)),h1,λu' ze L' w' h=>⟨ko,rb,h,h2⟩⟩
theorem rh.keep (h:rh w0 p pf nm u q g c fs ds mf mm L v l w):∃rb,YZ rb v l∧rh w0 p pf nm u q g c (rb++fs) ds mf mm L v l w:=by
 obtain⟨ko,rb,h1,h2,h3,h4,h5,h6,h7⟩:=h;refine⟨rb,h3,ko,rb,h1.cY (λx hx=> ?_),h2,h3,h4,λx hx=>h5 x ?_,h6,λd hd=>by
  obtain⟨y,hy,e⟩:=h7 d hd;exact⟨y,List.mem_append_right _ hy,e⟩⟩
 ·simp only[List.mem_cons,List.mem_append]at hx⊢;rcases hx with h|h|h|h|h
  ·exact .inl h
  ·exact .inr (.inl h)
  ·exact .inr (.inr (.inl h))
  ·exact .inr (.inr (.inl h))
  ·exact .inr (.inr (.inr h))
 ·simp only[List.mem_cons,List.mem_append]at hx⊢;rcases hx with h|h|h|h
  ·exact .inl h
  ·exact .inr (.inl h)
  ·exact .inr (.inl h)
  ·exact .inr (.inr h)
theorem YZ.sl {rb:List (Nat×Obj)} (h:YZ rb v l) (hr:∀x∈rb,w.heap[x.1]? =some x.2):∃A c,v= .slice A l.length c:=by
 obtain⟨A,c,e,_⟩:=(h w bF (λx hx=>⟨hr x hx,λh=>h⟩)).cP;exact⟨A,c,e⟩
theorem rh.model (h:rh w0 p pf nm u q g c fs ds mf mm L v l w):∃M:Nat→Prop,(∀k,M k→k<w.heap.size)∧ft w q g c M mm v l∧(∀QV v' l' w',QV.ks=mm.ks→HR w q g c M QV v' l' w'→rh w0 p pf nm u q g c fs ds mf QV L v' l' w')∧M pf∧
  ∀(x:Nat×Obj) (w':World),Below w.heap.size w w'→w'.heap[x.1]? =some x.2→¬M x.1→∃ks,x∈ks∧IK w0 p pf nm u ks mf L w'∧∀(u':Nat) (ze:X.M) (L':List (List (J.B×J.B))) (w2:World),IK w0 p pf nm u' ks ze L' w2→rh w0 p pf nm u' q g c fs ds ze mm L' v l w2:=by
 have hrow:=h.row;obtain⟨ko,rb,h1,bY,cd,heq,hq,hdn,hdi⟩:=h;have vV:∀x∈rb,w.heap[x.1]? =some x.2:=λx hx=>h1.get (ag _ (ag _ (List.mem_append_left _ hx)));have bC:w.heap[g]? =some ko:=h1.get (ag _ af);have Vj:g≠q:=hq _ af;obtain⟨A0,c0,hv0⟩:=cd.sl vV;obtain⟨s,f,gf,cf,SS,hI⟩:=h1;obtain⟨M,k1,k2,k3,k4⟩:=hI.at_;have hql:q<w.heap.size:=(ai hrow).1;have vH:w.heap[pf]? =some _:=hI.at_.get af;have hpl:pf<w.heap.size:=(ai vH).1;have hgr:w.heap[gf]? =some SS:=hI.at_.get (ag _ af);have Cl:gf<w.heap.size:=(ai hgr).1;have dV:g<w.heap.size:=(ai bC).1;have hqp:q≠pf:=hI.ne (q,_) (ag _ af);have hqg:q≠gf:=hI.neg (q,_) af;have TC:vQ w q:=by
  rw[hv0]at hrow;exact Gc hrow
 refine⟨λk=>M k∨k<w0.heap.size∨k=q∨k=pf∨k=gf∨k∈ds,λk hk=> ?_,⟨hrow,bY w bC,Vj,cd w _ (λx hx=>⟨vV x hx,λhk=> ?_⟩), .inr (.inr (.inl rfl)),heq⟩,λQV v' l' w' ek ⟨hg,hH⟩=> ?_, .inr (.inr (.inr (.inl rfl))),λx w' hb hx hm=> ?_⟩
 ·rcases hk with h|h|h|h|h|h
  ·exact(k2 k h).2
  ·exact av h k3.size
  ·omega
  ·omega
  ·omega
  ·obtain⟨y,hy,e⟩:=hdi k h;subst e;exact(ai (k4 y (ag _ (ag _ (ag _ (ag _ (List.mem_append_right _ hy)))))).2.2).1
 ·have hx2:x∈(q,gF mm g c v)::(g,ko)::(rb++fs):=ag _ (ag _ (List.mem_append_left _ hx));obtain⟨a1,a2,_⟩:=k4 x (ag _ (ag _ hx2));rcases hk with h|h|h|h|h|h
  ·exact a2 h
  ·omega
  ·exact hq x (ag _ (List.mem_append_left _ hx)) h
  ·exact hI.ne x (ag _ hx2) h
  ·exact hI.neg x hx2 h
  ·exact hdn x (ag _ hx) h
 ·obtain⟨rb',ac0,NG⟩:=Vi hH.rows;have hold:∀x∈(pf,ax p nm mf.size gf mf.ks.length cf f)::(gf,SS)::(g,ko)::fs,w0.heap.size≤x.1∧¬M x.1∧w'.heap[x.1]? =some x.2:=λx hx=>by
   have hx':x∈(pf,ax p nm mf.size gf mf.ks.length cf f)::(gf,SS)::(q,gF mm g c v)::(g,ko)::(rb++fs):=by
    simp only[List.mem_cons,List.mem_append]at hx⊢;rcases hx with h|h|h|h
    ·exact .inl h
    ·exact .inr (.inl h)
    ·exact .inr (.inr (.inr (.inl h)))
    ·exact .inr (.inr (.inr (.inr (.inr h))))
   obtain⟨a1,a2,a3⟩:=k4 x hx';have hne:x.1≠q:=by
    rcases au hx with h|h
    ·rw[h];exact hqp.symm
    ·rcases au h with h|h
     ·rw[h];exact hqg.symm
     ·rcases au h with h|h
      ·rw[h];exact Vj
      ·exact hq x (ag _ (List.mem_append_right _ h))
   exact⟨a1,a2,(hg.block x.1 (ai a3).1 (λe=>hne (by injection e))).trans a3⟩
  obtain⟨g1,g2,_⟩:=k4 (q,gF mm g c v) (ag _ (ag _ af));have hst:=k1.oth hI.kp.sto.two (zm.cC hg (λk e=>by injection e with e;subst e;exact⟨g2,TC⟩));have hbl:=k3.grown hg k3.size (λk e=>by injection e with e;subst e;exact g1);refine⟨ko,rb',⟨s,f,gf,cf,SS,⟨⟨M,hst,λk hk=>⟨(k2 k hk).1,av (k2 k hk).2 hg.size⟩,hbl,λx hx=> ?_⟩,hI.kp,hI.fm,hI.ko,hI.cap,λx hx=> ?_,λx hx=> ?_,hI.nm_⟩⟩,by rw[ek];exact bY,ac0,hH.eq,λx hx=> ?_,λx hx=> ?_,hdi⟩
  ·simp only[List.mem_cons,List.mem_append]at hx;rcases hx with rfl|rfl|rfl|rfl|hx|hx
   ·exact hold _ af
   ·exact hold _ (ag _ af)
   ·exact⟨g1,g2,hH.row⟩
   ·exact hold _ (ag _ (ag _ af))
   ·obtain⟨b1,b2⟩:=NG x hx;exact⟨Nat.not_lt.1 (λh=>b2 (.inr (.inl h))),λh=>b2 (.inl h),b1⟩
   ·exact hold x (ag _ (ag _ (ag _ hx)))
  ·simp only[List.mem_cons,List.mem_append]at hx;rcases hx with rfl|rfl|rfl|hx|hx
   ·exact hI.ne _ af
   ·exact hqp
   ·exact hI.ne (g,ko) (ag _ (ag _ af))
   ·exactλe=>(NG x hx).2 (.inr (.inr (.inr (.inl e))))
   ·exact hI.ne x (ag _ (ag _ (ag _ (List.mem_append_right _ hx))))
  ·simp only[List.mem_cons,List.mem_append]at hx;rcases hx with rfl|rfl|hx|hx
   ·exact hqg
   ·exact hI.neg (g,ko) (ag _ af)
   ·exactλe=>(NG x hx).2 (.inr (.inr (.inr (.inr (.inl e)))))
   ·exact hI.neg x (ag _ (ag _ (List.mem_append_right _ hx)))
  ·rcases au hx with rfl|hx
   ·exact Vj
   ·rcases List.mem_append.1 hx with hx|hx
    ·exactλe=>(NG x hx).2 (.inr (.inr (.inl e)))
    ·exact hq x (ag _ (List.mem_append_right _ hx))
  ·rcases au hx with rfl|hx
   ·exact hdn _ af
   ·exactλe=>(NG x hx).2 (.inr (.inr (.inr (.inr (.inr e)))))
 ·have h1:IK w0 p pf nm u ((q,gF mm g c v)::(g,ko)::(rb++fs)) mf L w':=IK.below ⟨s,f,gf,cf,SS,hI⟩ hb;refine⟨x::(q,gF mm g c v)::(g,ko)::(rb++fs),af,⟨s,f,gf,cf,SS,⟨?_,hI.kp,hI.fm,hI.ko,hI.cap,λy hy=> ?_,λy hy=> ?_,hI.nm_⟩⟩,λu' ze L' w2 h=>⟨ko,rb,h.cY (λy hy=>ag _ hy),bY,cd,heq,hq,hdn,hdi⟩⟩
  ·refine⟨M,k1.below hb,λk hk=>⟨(k2 k hk).1,av (k2 k hk).2 hb.size⟩,k3.trans (hb.mono k3.size),λy hy=> ?_⟩;have hold:∀z∈(pf,ax p nm mf.size gf mf.ks.length cf f)::(gf,SS)::(q,gF mm g c v)::(g,ko)::(rb++fs),w0.heap.size≤z.1∧¬M z.1∧w'.heap[z.1]? =some z.2:=λz hz=>by
    obtain⟨a1,a2,a3⟩:=k4 z hz;exact⟨a1,a2,(hb.block z.1 (ai a3).1).trans a3⟩
   simp only[List.mem_cons]at hy;rcases hy with rfl|rfl|rfl|hy
   ·exact hold _ af
   ·exact hold _ (ag _ af)
   ·exact⟨Nat.not_lt.1 (λh=>hm (.inr (.inl h))),λh=>hm (.inl h),hx⟩
   ·exact hold y (ag _ (ag _ (List.mem_cons.2 (by simpa [List.mem_cons] using hy))))
  ·rcases au hy with rfl|hy
   ·exact hI.ne _ af
   ·rcases au hy with rfl|hy
    ·exactλe=>hm (.inr (.inr (.inr (.inl e))))
    ·exact hI.ne y (ag _ hy)
  ·rcases au hy with rfl|hy
   ·exactλe=>hm (.inr (.inr (.inr (.inr (.inl e)))))
   ·exact hI.neg y hy
theorem H3.cY (h:H3 w0 p pf nm u q g c fs mf mm L v l w) (hg:∀x∈gs,x∈fs):H3 w0 p pf nm u q g c gs mf mm L v l w:=rh.cY h hg (λd hd=>by cases hd)
end
end Go.Proofs.YtipljcmmokaokaaGreat
namespace Go.Proofs.YtipljcmmokaokaaGreat
theorem Vk (ks:List X.Ky):FX ks.length (λi=>((X.aF ks i).at_:Nat)) (λi=>((X.aF ks i).len:Nat)) (λi=>(X.aF ks i).dup)=ks:=by
 apply List.ext_getElem
 ·rw[mY]
 ·intro i h1 h2;have h:=yT (a:=λi=>((X.aF ks i).at_:Nat)) (l:=λi=>((X.aF ks i).len:Nat)) (d:=λi=>(X.aF ks i).dup) h2;have e:∀(l:List X.Ky) (h:i<l.length),X.aF l i=l[i]:=λl h=>by unfold X.aF;simp[h]
  rw[e _ h1]at h;rw[h,←e ks h2];rfl
namespace X
section
variable {m : M}
theorem eE (m:M) (b:B):(m.write b).1.ks=m.ks∧(m.write b).1.size=m.size∧(m.write b).1.mode=m.mode∧(m.write b).1.there=m.there:=by
 unfold M.write;split
 ·exact⟨rfl,rfl,rfl,rfl⟩
 ·split
  ·exact⟨rfl,rfl,rfl,rfl⟩
  ·split
   ·exact⟨rfl,rfl,rfl,rfl⟩
   ·split<;>exact⟨rfl,rfl,rfl,rfl⟩
end
end X
end Go.Proofs.YtipljcmmokaokaaGreat
namespace Go.Proofs.YtipljcmmokaokaaGreat
open Go.RowKit Go.Lib Go.Maps Go.WideMaps Go.Sort
set_option maxRecDepth 100000
def HX (w0:World) (p pf:Nat) (nm:J.B) (u q g c:Nat) (fs:List (Nat×Obj)) (mf mm:X.M) (w:World):Prop:=∃L v l,H3 w0 p pf nm u q g c fs mf mm L v l w
section
variable {w0 : World} {p pf q g c : Nat} {nm : J.B} {u u' : Nat} {fs gs : List (Nat × Obj)} {mf ze mm QV : X.M} {L : List (List (J.B × J.B))} {w w' : World}
theorem HX.below (h:HX w0 p pf nm u q g c fs mf mm w) (hb:Below w.heap.size w w'):HX w0 p pf nm u q g c fs mf mm w':=by
 obtain⟨L,v,l,h⟩:=h;exact⟨L,v,l,h.below hb⟩
theorem HX.cY (h:HX w0 p pf nm u q g c fs mf mm w) (hg:∀x∈gs,x∈fs):HX w0 p pf nm u q g c gs mf mm w:=by
 obtain⟨L,v,l,h⟩:=h;exact⟨L,v,l,h.cY hg⟩
theorem HX.add (h:HX w0 p pf nm u q g c fs mf mm w) (hb:Below w.heap.size w w') (hg:∀x∈gs,w.heap.size≤x.1∧w'.heap[x.1]? =some x.2):HX w0 p pf nm u q g c (gs++fs) mf mm w':=by
 obtain⟨L,v,l,h⟩:=h;exact⟨L,v,l,h.add hb hg⟩
theorem HX.get (h:HX w0 p pf nm u q g c fs mf mm w) {x:Nat×Obj} (hx:x∈fs):w.heap[x.1]? =some x.2:=by
 obtain⟨L,v,l,h⟩:=h;exact h.get hx
theorem HX.bel (h:HX w0 p pf nm u q g c fs mf mm w):Below w0.heap.size w0 w:=by
 obtain⟨L,v,l,h⟩:=h;exact h.bel
theorem HX.row (h:HX w0 p pf nm u q g c fs mf mm w):∃v,w.heap[q]? =some (gF mm g c v):=by
 obtain⟨L,v,l,h⟩:=h;exact⟨v,h.row⟩
theorem HX.mok (h:HX w0 p pf nm u q g c fs mf mm w):X.eQ u mf:=by
 obtain⟨L,v,l,ko,rb,⟨s,f,g,c,ok,h⟩,_⟩:=h;exact h.kp.mok
theorem IK.mono (h:IK w0 p pf nm u fs mf L w) (hv:u≤u'):IK w0 p pf nm u' fs mf L w:=by
 obtain⟨s,f,g,c,ok,h⟩:=h;exact⟨s,f,g,c,ok,h.at_,⟨h.kp.mok.mono hv,h.kp.sto.mono hv,h.kp.con,h.kp.hist,h.kp.len⟩,h.fm,h.ko,h.cap,h.ne,h.neg,h.nm_⟩
theorem HX.mono (h:HX w0 p pf nm u q g c fs mf mm w) (hv:u≤u'):HX w0 p pf nm u' q g c fs mf mm w:=by
 obtain⟨L,v,l,ko,rb,h,h2⟩:=h;exact⟨L,v,l,ko,rb,h.mono hv,h2⟩
theorem HX.file (h:HX w0 p pf nm u q g c fs mf mm w):∃ks:List (Nat×Obj),(∀x∈fs,x∈ks)∧IX w0 p pf nm u ks mf w∧∀(u':Nat) (ze:X.M) (w':World),IX w0 p pf nm u' ks ze w'→HX w0 p pf nm u' q g c fs ze mm w':=by
 obtain⟨L,v,l,h⟩:=h;obtain⟨ks,h1,h2,h3⟩:=h.file;exact⟨ks,h1,⟨L,h2⟩,λu' ze w' ⟨L',h⟩=>⟨L',v,l,h3 u' ze L' w' h⟩⟩
theorem Src.sub {v:Value} {b:J.B} (h:Src w0 p fs v b) (hs:∀x∈fs,x∈gs):Src w0 p gs v b:=λks t w1 hk ha=>h ks t w1 (λx hx=>hk x (hs x hx)) ha
end
end Go.Proofs.YtipljcmmokaokaaGreat
