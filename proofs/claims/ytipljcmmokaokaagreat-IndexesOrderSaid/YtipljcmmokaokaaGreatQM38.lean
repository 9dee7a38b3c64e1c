import Derived.Test.YtipljcmmokaokaaGreatQM36
import Derived.Test.YtipljcmmokaokaaGreatQM37
import Derived.Test.YtipljcmmokaokaaGreatQM35
import Derived.Test.YtipljcmmokaokaaGreatQM26
set_option linter.unusedVariables false
set_option linter.unusedSimpArgs false
set_option maxHeartbeats 4000000
namespace Go.Proofs.YtipljcmmokaokaaGreat
open Go.RowKit Go.Lib Go.Maps Go.WideMaps Go.Sort
set_option maxRecDepth 100000
section
variable {w0 : World} {p pf g c : Nat} {nm : J.B} {u : Nat} {fs : List (Nat × Obj)} {m m' : X.M} {L : List (List (J.B × J.B))} {w w' : World} {s s1 s' : J.St} {f f' : Fv} {ok : Obj}
theorem Ff (h:IK w0 p pf nm u fs m L w) (hu:u≤340) (v:Value) (b:J.B) (hv:Src w0 p fs v b) (hbl:b.length≤1000000):
  Calls Tryz.prog 27 #[.pointer (some ⟨pf,0,none⟩),v] w fun e w'=>e= .returned (.string ⟨(m.delete b).2.toArray⟩)∧Cq w0 p pf nm u fs (m.delete b).1 L w':=by
 obtain⟨s,f,g,c,ok,h⟩:=h;obtain⟨A,cb,rfl,xX⟩:=h.src hv;have hm:=X.Eb h.kp.mok b;have kq:=h.fm.mode;revert hm;unfold X.M.delete;by_cases hs:X.cB [52,57] [3] m.mode=X.good
 ·rw[if_neg (Decidable.not_not.2 hs)];have hs':X.cB [52,57] [3] f.mode=[48,48]:=(by rw[kq];exact hs);have wD:=X.gB h.kp.mok (Decidable.not_not.2 hs);have mg:=h.kp.xf hu h.nm_ wD;have oc:=h.kp.mok.ks.key _ (X.aR h.kp.mok.ks.one.1);have hsz:=h.kp.mok.ks.size;by_cases Nd:m.ord=false∧b.length<(X.aF m.ks 0).at_+(X.aF m.ks 0).len
  ·rw[if_pos Nd];intro hm;refine(Cs h.at_ h.ne ae h.ko h.kp.sto.two mg b A cb hs' (h.fm.ord.trans Nd.1) Nd.2 (by omega)).mono ?_;rintro e w1 ⟨rfl,h1⟩;exact⟨rfl,h.same (m':=m.aO) h1 hm h.fm.aO rfl rfl rfl rfl rfl⟩
  ·rw[if_neg Nd];by_cases dL:m.ord=true∧m.read=false
   ·rw[if_pos dL];intro hm;refine(zP h.at_ h.ne ae h.ko h.kp.sto.two mg b A cb hs' (h.fm.ord.trans dL.1) (h.fm.read.trans dL.2)).mono ?_;rintro e w1 ⟨rfl,h1⟩;exact⟨rfl,h.same (m':=m.aO) h1 hm h.fm.aO rfl rfl rfl rfl rfl⟩
   ·rw[if_neg dL];cases ho:m.ord with
    |true=>
     have qQ:m.read=true:=Decidable.byContradiction fun hn=>dL ⟨ho,Bool.not_eq_true _▸hn⟩;rw[if_pos rfl];have Fb:f.last.length≤160:=(by rw[h.fm.last];exact h.fm.rl qQ);cases eh:m.find m.last with
     |none=>
      intro hm;refine(zT h.at_ h.ne ae h.ko h.cap h.kp.sto.two mg b A cb hs' (h.fm.ord.trans ho) (h.fm.read.trans qQ) Fb (by rw[h.fm.last];exact eh)).mono ?_;rintro e w1 ⟨rfl,h1⟩;exact⟨rfl,h.same (m':=m.aO) h1 hm h.fm.aO rfl rfl rfl rfl rfl⟩
     |some o=>
      intro hm;refine(Fc h.at_ h.ne ae h.ko h.cap h.kp.sto.two mg b A cb hs' (h.fm.ord.trans ho) (h.fm.read.trans qQ) Fb (by rw[h.fm.last];exact eh) h.kp.sto hu h.kp.mok.many).mono ?_;rintro e w1 ⟨rfl,s1,now,h1,h2,h3⟩;rw[h.fm.last]at h3;exact⟨rfl,h.tx h.kp h1 hm ⟨kq,h.fm.ord,h.fm.key,h.fm.lost,h.fm.last,rfl,h.fm.written,h.fm.pos,fun e=>by cases e⟩ rfl rfl h2 (X.uJ (by exact wD) (by exact h3))⟩
    |false=>
     rw[if_neg (by decide)];have uA:(X.aF m.ks 0).at_+(X.aF m.ks 0).len≤b.length:=Nat.le_of_not_lt fun hn=>Nd ⟨ho,hn⟩;have Fb:(X.val m.ks 0 b).length≤160:=by
      show(((b.drop _).take _)).length≤160;rw[List.length_take];omega
     cases eh:m.find (X.val m.ks 0 b)with
     |none=>
      intro hm;refine(zU h.at_ h.ne ae h.ko h.cap h.kp.sto.two mg b A cb hs' (h.fm.ord.trans ho) uA hbl Fb xX eh).mono ?_;rintro e w1 ⟨rfl,h1⟩;exact⟨rfl,h.same (m':=m.aO) h1 hm h.fm.aO rfl rfl rfl rfl rfl⟩
     |some o=>
      intro hm;refine(Fe h.at_ h.ne ae h.ko h.cap h.kp.sto.two mg b A cb hs' (h.fm.ord.trans ho) uA hbl Fb xX eh h.kp.sto hu h.kp.mok.many).mono ?_;rintro e w1 ⟨rfl,s1,now,h1,h2,h3⟩;exact⟨rfl,h.tx h.kp h1 hm ⟨kq,h.fm.ord,h.fm.key,h.fm.lost,h.fm.last,rfl,h.fm.written,h.fm.pos,fun e=>by cases e⟩ rfl rfl h2 (X.uJ (by exact wD) (by exact h3))⟩
 ·rw[if_pos hs];intro hm;refine(E1 h.row (by rw[kq];exact hs) A b.length cb).mono ?_;rintro e w1 ⟨rfl,h1⟩;exact⟨by rw[kq],h.same (h.at_.below h1) hm h.fm rfl rfl rfl rfl rfl⟩
end
def IX (w0:World) (p pf:Nat) (nm:J.B) (u:Nat) (fs:List (Nat×Obj)) (m:X.M) (w:World):Prop:=∃L,IK w0 p pf nm u fs m L w
section
variable {w0 : World} {p pf g c : Nat} {nm : J.B} {u : Nat} {fs gs : List (Nat × Obj)} {m m' : X.M} {L : List (List (J.B × J.B))} {w w' : World} {s s1 s' : J.St} {f f' : Fv} {ok : Obj}
theorem Jc (h:IK w0 p pf nm u fs m L w):IX w0 p pf nm u fs m w:=⟨L,h⟩
theorem Cq.ix (h:Cq w0 p pf nm u fs m L w):IX w0 p pf nm (u+1) fs m w:=by
 obtain⟨L',_,h⟩:=h;exact⟨L',h⟩
theorem KI.below (h:KI w0 p pf nm u fs m L s f g c ok w) (hb:Below w.heap.size w w'):KI w0 p pf nm u fs m L s f g c ok w':=
 ⟨h.at_.below hb,h.kp,h.fm,h.ko,h.cap,h.ne,h.neg,h.nm_⟩
theorem IK.below (h:IK w0 p pf nm u fs m L w) (hb:Below w.heap.size w w'):IK w0 p pf nm u fs m L w':=by
 obtain⟨s,f,g,c,ok,h⟩:=h;exact⟨s,f,g,c,ok,h.below hb⟩
theorem IX.below (h:IX w0 p pf nm u fs m w) (hb:Below w.heap.size w w'):IX w0 p pf nm u fs m w':=by
 obtain⟨L,h⟩:=h;exact⟨L,h.below hb⟩
theorem IX.bel (h:IX w0 p pf nm u fs m w):Below w0.heap.size w0 w:=by
 obtain⟨L,s,f,g,c,ok,h⟩:=h;exact h.at_.bel
theorem IK.more (h:IK w0 p pf nm u fs m L w) (o:Obj):IK w0 p pf nm u ((w.heap.size,o)::fs) m L (w.alloc o):=by
 obtain⟨s,f,g,c,ok,h⟩:=h;have h1:pf<w.heap.size:=(ah (h.at_.get ae)).1;have h2:g<w.heap.size:=(ah (h.at_.get (af _ ae))).1;refine⟨s,f,g,c,ok,(h.at_.more o).less (fun x hx=> ?_),h.kp,h.fm,h.ko,h.cap,fun x hx=> ?_,fun x hx=> ?_,h.nm_⟩
 ·simp only[List.mem_cons]at hx⊢;rcases hx with h|h|h|h
  ·exact .inr (.inl h)
  ·exact .inr (.inr (.inl h))
  ·exact .inl h
  ·exact .inr (.inr (.inr h))
 ·rcases ak hx with rfl|hx
  ·exact h.ne _ ae
  ·rcases ak hx with rfl|hx
   ·exact Nat.ne_of_gt h1
   ·exact h.ne x (af _ hx)
 ·rcases ak hx with rfl|hx
  ·exact Nat.ne_of_gt h2
  ·exact h.neg x hx
theorem IK.gZ (h:IK w0 p pf nm u fs m L w) (hg:∀x∈gs,x∈fs):IK w0 p pf nm u gs m L w:=by
 obtain⟨s,f,g,c,ok,h⟩:=h;refine⟨s,f,g,c,ok,h.at_.less (fun x hx=> ?_),h.kp,h.fm,h.ko,h.cap,fun x hx=> ?_,fun x hx=>h.neg x (hg x hx),h.nm_⟩
 ·simp only[List.mem_cons]at hx⊢;rcases hx with h|h|h
  ·exact .inl h
  ·exact .inr (.inl h)
  ·exact .inr (.inr (hg x h))
 ·rcases ak hx with rfl|hx
  ·exact h.ne _ ae
  ·exact h.ne x (af _ (hg x hx))
theorem IX.more (h:IX w0 p pf nm u fs m w) (o:Obj):IX w0 p pf nm u ((w.heap.size,o)::fs) m (w.alloc o):=by
 obtain⟨L,h⟩:=h;exact⟨L,h.more o⟩
theorem IX.gZ (h:IX w0 p pf nm u fs m w) (hg:∀x∈gs,x∈fs):IX w0 p pf nm u gs m w:=by
 obtain⟨L,h⟩:=h;exact⟨L,h.gZ hg⟩
theorem oQ {x:Nat×Obj} (h:x∈([]:List (Nat×Obj))) {P:Prop}:P:=by cases h
theorem Dj {n:Nat} {b:J.B} {o:Obj} (hs:Sl w bL (.slice (some ⟨g,0,none⟩) n c) b) (hb:b≠[]) (ho:w.heap[g]? =some o) (hm:(g,o)∈fs):Src w0 p fs (.slice (some ⟨g,0,none⟩) n c) b:=by
 intro gs t w1 hg ha;have hr:=ha.get (hg _ hm);have hl:g<w1.heap.size:=(ah hr).1;rcases hs with⟨_,_,e⟩|⟨b',o',c',e,h1,h2,h3⟩
 ·exact absurd e hb
 ·injection e with e1 e2 e3;injection e1 with e1;injection e1 with e1 e4;subst e1 e2 e3 e4;refine .inr ⟨_,0,_,rfl,h1,hl,h3.1,fun hn=> ?_⟩;obtain⟨b2,o2,e,_,_,hc⟩:=h3.2 hn;injection e with e;injection e with e1 e2;subst e1 e2;exact⟨_,0,rfl,hl,fun h=>h,fun j hj=>(World.cell?_of_block (hr.trans ho.symm)).trans (hc j hj)⟩
theorem rI (b:J.B) (hb:b≠[]) (C:Array Value) (hC:C=(dy b).toArray) (o:Nat×Nat) (g:Nat):Src w0 p [(g,Obj.cells C 5 o)] (.slice (some ⟨g,0,none⟩) b.length b.length) b:=by
 subst hC;intro gs t w1 hg ha;have hr:=ha.get (hg _ ae);have hl:g<w1.heap.size:=(ah hr).1;refine .inr ⟨g,0,_,rfl,aj _,hl,rfl,fun _=>⟨g,0,rfl,hl,fun h=>h,fun j hj=> ?_⟩⟩;rw[cell_of_row w1 g (0+j) _ _ _ hr,Nat.zero_add];unfold dy;simp[hj]
theorem CA (h:IX w0 p pf nm u fs m w) (hu:u≤340) (Q7:X.Bd nm m.ks m.size u) (md:Nat) (od:Bool) {st:J.B} (he:m.open md od=(m',st)):
  Calls Tryz.prog 12 #[.pointer (some ⟨pf,0,none⟩), .int .u8 (md:Nat), .bool od] w fun e w'=>e= .returned (.string ⟨st.toArray⟩)∧IX w0 p pf nm (u+1) fs m' w':=by
 obtain⟨L,h⟩:=h;refine(K8 h hu Q7 md od).mono ?_;rw[he];rintro e w' ⟨rfl,h⟩;exact⟨rfl,h.ix⟩
theorem Dk (h:IX w0 p pf nm u fs m w) {st:J.B} (he:m.close=(m',st)):
  Calls Tryz.prog 17 #[.pointer (some ⟨pf,0,none⟩)] w fun e w'=>e= .returned (.string ⟨st.toArray⟩)∧IX w0 p pf nm (u+1) fs m' w':=by
 obtain⟨L,h⟩:=h;refine(IL h).mono ?_;rw[he];rintro e w' ⟨rfl,h⟩;exact⟨rfl,h.ix⟩
theorem mC (h:IX w0 p pf nm u fs m w) (hu:u≤340) (v:Value) (b:J.B) (hv:Src w0 p fs v b) {st:J.B} (he:m.write b=(m',st)):
  Calls Tryz.prog 15 #[.pointer (some ⟨pf,0,none⟩),v] w fun e w'=>e= .returned (.string ⟨st.toArray⟩)∧IX w0 p pf nm (u+1) fs m' w':=by
 obtain⟨L,h⟩:=h;refine(IP h hu v b hv).mono ?_;rw[he];rintro e w' ⟨rfl,h⟩;exact⟨rfl,h.ix⟩
theorem CB (h:IX w0 p pf nm u fs m w) (hu:u≤340) (v:Value) (b:J.B) (hv:Src w0 p fs v b) {st:J.B} (he:m.rewrite b=(m',st)):
  Calls Tryz.prog 26 #[.pointer (some ⟨pf,0,none⟩),v] w fun e w'=>e= .returned (.string ⟨st.toArray⟩)∧IX w0 p pf nm (u+1) fs m' w':=by
 obtain⟨L,h⟩:=h;refine(Cr h hu v b hv).mono ?_;rw[he];rintro e w' ⟨rfl,h⟩;exact⟨rfl,h.ix⟩
theorem Fg (h:IX w0 p pf nm u fs m w) (hu:u≤340) (v:Value) (b:J.B) (hv:Src w0 p fs v b) (hbl:b.length≤1000000) {st:J.B} (he:m.delete b=(m',st)):
  Calls Tryz.prog 27 #[.pointer (some ⟨pf,0,none⟩),v] w fun e w'=>e= .returned (.string ⟨st.toArray⟩)∧IX w0 p pf nm (u+1) fs m' w':=by
 obtain⟨L,h⟩:=h;refine(Ff h hu v b hv hbl).mono ?_;rw[he];rintro e w' ⟨rfl,h⟩;exact⟨rfl,h.ix⟩
theorem zY (h:IX w0 p pf nm u fs m w) (hu:u≤340) (k:Int) (r:Nat) (hr:r≤5) (v:Value) (b:J.B) (hv:Src w0 p fs v b) {st:J.B} (he:m.start k r b=(m',st)):
  Calls Tryz.prog 19 #[.pointer (some ⟨pf,0,none⟩), .int .i64 k, .int .u8 (r:Nat),v] w fun e w'=>e= .returned (.string ⟨st.toArray⟩)∧IX w0 p pf nm (u+1) fs m' w':=by
 obtain⟨L,h⟩:=h;refine(IM h hu k r hr v b hv).mono ?_;rw[he];rintro e w' ⟨rfl,h⟩;exact⟨rfl,h.ix⟩
theorem Li (h:IX w0 p pf nm u fs m w) (hu:u≤340) (k:Int) (v:Value) (b:J.B) (hv:Src w0 p fs v b) (hbl:b.length≤1000000) {o:Option J.B} {st:J.B} (he:m.get k b=(m',o,st)):
  Calls Tryz.prog 25 #[.pointer (some ⟨pf,0,none⟩), .int .i64 k,v] w fun e w'=>∃v,e= .returned (.tuple #[v, .string ⟨st.toArray⟩])∧cE w' (· <w.heap.size) v (o.getD [])∧IX w0 p pf nm (u+1) fs m' w':=by
 obtain⟨L,h⟩:=h;refine(K6 h hu k v b hv hbl).mono ?_;rw[he];rintro e w' ⟨v,rfl,hs,h⟩;exact⟨v,rfl,hs,h.ix⟩
theorem pN (h:IX w0 p pf nm u fs m w) (hu:u≤340) {o:Option J.B} {st:J.B} (he:m.next=(m',o,st)):
  Calls Tryz.prog 20 #[.pointer (some ⟨pf,0,none⟩)] w fun e w'=>∃v,e= .returned (.tuple #[v, .string ⟨st.toArray⟩])∧cE w' (· <w.heap.size) v (o.getD [])∧IX w0 p pf nm (u+1) fs m' w':=by
 obtain⟨L,h⟩:=h;refine(K5 h hu).mono ?_;rw[he];rintro e w' ⟨v,rfl,hs,h⟩;exact⟨v,rfl,hs,h.ix⟩
theorem Jd (h:IK w0 p pf nm u fs m L w) (hu:u≤340) (hs:X.cB [52,55] [1,3] m.mode=X.good) (hl:m.lost=false):
  Calls Tryz.prog 20 #[.pointer (some ⟨pf,0,none⟩)] w fun e w'=>∃v,e= .returned (.tuple #[v, .string ⟨m.next.2.2.toArray⟩])∧cE w' (· <w.heap.size) v (m.next.2.1.getD [])∧Cq w0 p pf nm u fs m.next.1 L w'∧w.grownBy w' (some pf):=by
 obtain⟨s,f,g,c,ok,h⟩:=h;have hm:=X.C2 h.kp.mok;have kq:=h.fm.mode;revert hm;unfold X.M.next;rw[if_neg (Decidable.not_not.2 hs)];have hs':X.cB [52,55] [1,3] f.mode=[48,48]:=by rw[kq];exact hs
 have wD:=X.gB h.kp.mok (Decidable.not_not.2 hs);have mg:=h.kp.xf hu h.nm_ wD;rw[if_neg (by rw[hl];decide)];obtain⟨p1,p2⟩:=h.fm.pos (X.zM hs) hl;have fR:f.key<m.ks.length:=by rw[h.fm.key];exact h.kp.mok.key
 have Cc:afterOf s.now ⟨(X.pre nm f.key).toArray⟩ f.at_ f.same=m.at.map (X.aJ nm m.ks f.key):=by
  rw[p1,p2,h.fm.key];exact mg.con.after mg.ks mg.rows (by have:=mg.ct;omega) h.kp.mok.key (by have:=h.kp.mok.at_;omega) (h.kp.mok.pos hl) m.same
 cases hr:m.at with
 |some r=>
  rw[hr]at Cc;intro hm;refine(zX h.at_ h.ne ae h.ko h.kp.sto.two mg hs' (h.fm.lost.trans hl) fR r (X.M.at_mem hr) Cc).mono ?_;rintro e w1 ⟨v,rfl,h1,h2,h3⟩;refine⟨v, ?_,h1,h.same (m':=m.take r) h2 hm (h.fm.take h.kp.mok r (X.M.at_mem hr)) rfl rfl rfl rfl rfl,h3⟩;rw[h.fm.key];rfl
 |none=>
  rw[hr]at Cc;intro hm;refine(zW h.at_ h.ne ae h.ko h.kp.sto.two mg hs' (h.fm.lost.trans hl) fR Cc).mono ?_;rintro e w1 ⟨rfl,h1,h3⟩;exact⟨_,rfl,cE.iF,h.same (m':=m.dx) h1 hm h.fm.dx rfl rfl rfl rfl rfl,h3⟩
theorem qI (h:IX w0 p pf nm u fs m w) (hu:u≤340) (hs:X.cB [52,55] [1,3] m.mode=X.good) (hl:m.lost=false) {o:Option J.B} {st:J.B} (he:m.next=(m',o,st)):
  Calls Tryz.prog 20 #[.pointer (some ⟨pf,0,none⟩)] w fun e w'=>∃v,e= .returned (.tuple #[v, .string ⟨st.toArray⟩])∧cE w' (· <w.heap.size) v (o.getD [])∧IX w0 p pf nm (u+1) fs m' w'∧w.grownBy w' (some pf):=by
 obtain⟨L,h⟩:=h;refine(Jd h hu hs hl).mono ?_;rw[he];rintro e w' ⟨v,rfl,hs,h,hg⟩;exact⟨v,rfl,hs,h.ix,hg⟩
theorem Lj (h:IX w0 p pf nm u fs m w) (hu:u≤340) (hn:E2 nm) (ht:m.there=true):
  Calls Tryz.prog 28 #[.pointer (some ⟨p,0,none⟩), .string ⟨nm.toArray⟩] w fun e w'=>e= .returned (.int .i64 0)∧Below w.heap.size w w':=by
 obtain⟨L,s,f,g,c,ok,h⟩:=h;exact E9 h.at_ hn (h.kp.xf hu h.nm_ ht)
theorem wF (h:IX w0 p pf nm u [] m w) (hu:u≤340) (b:J.B) (hb:b≠[]) (C:Array Value) (hC:C=(dy b).toArray) {o:Nat×Nat} {st:J.B} (he:m.rewrite b=(m',st)):
  Calls Tryz.prog 26 #[.pointer (some ⟨pf,0,none⟩), .slice (some ⟨w.heap.size,0,none⟩) b.length b.length] (w.alloc (.cells C 5 o)) fun e w'=>e= .returned (.string ⟨st.toArray⟩)∧IX w0 p pf nm (u+1) [] m' w':=by
 refine(CB (h.more _) hu _ b (rI b hb C hC o _) he).mono ?_;rintro e w' ⟨rfl,h⟩;exact⟨rfl,h.gZ (fun x hx=>oQ hx)⟩
theorem Je (h:IX w0 p pf nm u [] m w) (hu:u≤340) (b:J.B) (hb:b≠[]) (hbl:b.length≤1000000) (C:Array Value) (hC:C=(dy b).toArray) {o:Nat×Nat} {st:J.B} (he:m.delete b=(m',st)):
  Calls Tryz.prog 27 #[.pointer (some ⟨pf,0,none⟩), .slice (some ⟨w.heap.size,0,none⟩) b.length b.length] (w.alloc (.cells C 5 o)) fun e w'=>e= .returned (.string ⟨st.toArray⟩)∧IX w0 p pf nm (u+1) [] m' w':=by
 refine(Fg (h.more _) hu _ b (rI b hb C hC o _) hbl he).mono ?_;rintro e w' ⟨rfl,h⟩;exact⟨rfl,h.gZ (fun x hx=>oQ hx)⟩
theorem xM (h:IX w0 p pf nm u [] m w) (hu:u≤340) (k:Int) (r:Nat) (hr:r≤5) (b:J.B) (hb:b≠[]) (C:Array Value) (hC:C=(dy b).toArray) {o:Nat×Nat} {st:J.B} (he:m.start k r b=(m',st)):
  Calls Tryz.prog 19 #[.pointer (some ⟨pf,0,none⟩), .int .i64 k, .int .u8 (r:Nat), .slice (some ⟨w.heap.size,0,none⟩) b.length b.length] (w.alloc (.cells C 5 o)) fun e w'=>e= .returned (.string ⟨st.toArray⟩)∧IX w0 p pf nm (u+1) [] m' w':=by
 refine(zY (h.more _) hu k r hr _ b (rI b hb C hC o _) he).mono ?_;rintro e w' ⟨rfl,h⟩;exact⟨rfl,h.gZ (fun x hx=>oQ hx)⟩
theorem Jf (h:IX w0 p pf nm u [] m w) (hu:u≤340) (k:Int) (b:J.B) (hb:b≠[]) (hbl:b.length≤1000000) (C:Array Value) (hC:C=(dy b).toArray) {o:Nat×Nat} {x:Option J.B} {st:J.B} (he:m.get k b=(m',x,st)):
  Calls Tryz.prog 25 #[.pointer (some ⟨pf,0,none⟩), .int .i64 k, .slice (some ⟨w.heap.size,0,none⟩) b.length b.length] (w.alloc (.cells C 5 o)) fun e w'=>∃v,e= .returned (.tuple #[v, .string ⟨st.toArray⟩])∧cE w' (· <w.heap.size) v (x.getD [])∧IX w0 p pf nm (u+1) [] m' w':=by
 refine(Li (h.more _) hu k _ b (rI b hb C hC o _) hbl he).mono ?_;rintro e w' ⟨v,rfl,hs,h⟩;refine⟨v,rfl,hs.weak (fun k hk=>aq hk (by simp)),h.gZ (fun x hx=>oQ hx)⟩
end
def Rz (rb:List (Nat×Obj)) (v:Value) (l:List HP):Prop:=∀(W:World) (M:Nat→Prop),(∀x∈rb,W.heap[x.1]? =some x.2∧¬M x.1)→qP W M v l
def SR (ko:Obj) (g:Nat) (ks:List X.Ky):Prop:=∀W:World,W.heap[g]? =some ko→eY W g ks
theorem Ou {w:World} {g:Nat} {ks:List X.Ky} (h:eY w g ks):∃ko,w.heap[g]? =some ko∧SR ko g ks:=by
 have hg:w.heap[g]? =some (w.heap[g]'h.1):=Array.getElem?_eq_getElem h.1;exact⟨_,hg,fun W hW=>⟨(ah hW).1,fun j u hu=>(World.cell?_of_block (hW.trans hg.symm)).trans (h.2 j u hu)⟩⟩
section
variable {w w' : World} {M : Nat → Prop} {v : Value} {l : List HP}
theorem RA {v:Value} {ts:List Nat} (h:nk w M v ts):∃x:Nat×Obj,(w.heap[x.1]? =some x.2∧¬M x.1)∧∀(W:World) (M':Nat→Prop),W.heap[x.1]? =some x.2→¬M' x.1→nk W M' v ts:=by
 obtain⟨g,c,rfl,h1,h2,h3⟩:=h;have hg:w.heap[g]? =some w.heap[g]:=Array.getElem?_eq_getElem h1;exact⟨(g,w.heap[g]),⟨hg,h2⟩,fun W M' hW hM=>⟨g,c,rfl,(ah hW).1,hM,fun j hj=>(World.cell?_of_block (hW.trans hg.symm)).trans (h3 j hj)⟩⟩
theorem Jg:∀(l:List HP),(∀x∈l,nk w M x.2 x.1.ts)→∃rb:List (Nat×Obj),(∀x∈rb,w.heap[x.1]? =some x.2∧¬M x.1)∧∀(W:World) (M':Nat→Prop),(∀x∈rb,W.heap[x.1]? =some x.2∧¬M' x.1)→∀x∈l,nk W M' x.2 x.1.ts
 |[],_=>⟨[],fun x hx=>(by cases hx),fun W M' _ x hx=>by cases hx⟩
 |a::t,h=>by
  obtain⟨rb,h1,h2⟩:=Jg t (fun x hx=>h x (af _ hx));obtain⟨x,h3,h4⟩:=RA (h a ae);refine⟨x::rb,fun y hy=> ?_,fun W M' hW y hy=> ?_⟩
  ·rcases ak hy with rfl|hy
   ·exact h3
   ·exact h1 y hy
  ·rcases ak hy with rfl|hy
   ·exact h4 W M' (hW x ae).1 (hW x ae).2
   ·exact h2 W M' (fun z hz=>hW z (af _ hz)) y hy
theorem Ov (h:qP w M v l):∃rb,Rz rb v l∧∀x∈rb,w.heap[x.1]? =some x.2∧¬M x.1:=by
 obtain⟨rb,h1,h2⟩:=Jg l h.tm;rcases h.row with e|⟨g,c,e,k1,k2,k3,k4⟩
 ·exact⟨rb,fun W M' hW=>⟨.inl e,h2 W M' hW⟩,h1⟩
 ·have hg:w.heap[g]? =some w.heap[g]:=Array.getElem?_eq_getElem k2;refine⟨(g,w.heap[g])::rb,fun W M' hW=> ?_,fun x hx=> ?_⟩
  ·obtain⟨a1,a2⟩:=hW _ ae;have a1:W.heap[g]? =some w.heap[g]:=a1;exact⟨.inr ⟨g,c,e,k1,(ah a1).1,a2,fun j u hu=>(World.cell?_of_block (a1.trans hg.symm)).trans (k4 j u hu)⟩,h2 W M' (fun x hx=>hW x (af _ hx))⟩
  ·rcases ak hx with rfl|hx
   ·exact⟨hg,k3⟩
   ·exact h1 x hx
end
theorem Lk {w:World} {q g c n c':Nat} {m:X.M} {A:Option Addr} (h:w.heap[q]? =some (pQ m g c (.slice A n c'))):yG w q:=by
 refine⟨fun o u v hh=> ?_,fun⟨_,cur,fr,e⟩=> ?_⟩
 ·rw[cell_of_row w q o _ _ _ h,cell_of_row w q (o+1) _ _ _ h]at hh;obtain⟨h1,h2⟩:=hh;rcases o with _|_|_|_|_|_|_|_|_|_|_|_|_|_|_|o<;>simp at h1 h2
 ·rw[h]at e;injection e with e;injection e with e1 e2;exact absurd e2 (by decide)
def rJ (w0:World) (p pf:Nat) (nm:J.B) (u q g c:Nat) (fs:List (Nat×Obj)) (ds:List Nat) (mf mm:X.M) (L:List (List (J.B×J.B))) (v:Value) (l:List HP) (w:World):Prop:=
 ∃ko rb,IK w0 p pf nm u ((q,pQ mm g c v)::(g,ko)::(rb++fs)) mf L w∧SR ko g mm.ks∧Rz rb v l∧l.map (·.1)=mm.rows∧(∀x∈(g,ko)::(rb++fs),x.1≠q)∧(∀x∈(g,ko)::rb,x.1∉ds)∧∀d∈ds,∃y∈fs,y.1=d
abbrev H3 (w0:World) (p pf:Nat) (nm:J.B) (u q g c:Nat) (fs:List (Nat×Obj)) (mf mm:X.M) (L:List (List (J.B×J.B))) (v:Value) (l:List HP) (w:World):Prop:=rJ w0 p pf nm u q g c fs [] mf mm L v l w
section
variable {w0 : World} {p pf q g c : Nat} {nm : J.B} {u u' : Nat} {fs gs : List (Nat × Obj)} {ds : List Nat} {mf mf' mm : X.M} {L L' : List (List (J.B × J.B))} {v : Value} {l : List HP} {w w' : World}
theorem IK.get (h:IK w0 p pf nm u fs mf L w) {x:Nat×Obj} (hx:x∈fs):w.heap[x.1]? =some x.2:=by
 obtain⟨s,f,g,c,ok,h⟩:=h;exact h.at_.get (af _ (af _ hx))
theorem rJ.below (h:rJ w0 p pf nm u q g c fs ds mf mm L v l w) (hb:Below w.heap.size w w'):rJ w0 p pf nm u q g c fs ds mf mm L v l w':=by
 obtain⟨ko,rb,h1,h2⟩:=h;exact⟨ko,rb,h1.below hb,h2⟩
theorem rJ.row (h:rJ w0 p pf nm u q g c fs ds mf mm L v l w):w.heap[q]? =some (pQ mm g c v):=by
 obtain⟨ko,rb,h1,_⟩:=h;exact h1.get ae
theorem rJ.get (h:rJ w0 p pf nm u q g c fs ds mf mm L v l w) {x:Nat×Obj} (hx:x∈fs):w.heap[x.1]? =some x.2:=by
 obtain⟨ko,rb,h1,_⟩:=h;exact h1.get (af _ (af _ (List.mem_append_right _ hx)))
theorem rJ.bel (h:rJ w0 p pf nm u q g c fs ds mf mm L v l w):Below w0.heap.size w0 w:=by
 obtain⟨ko,rb,⟨s,f,g,c,ok,h⟩,_⟩:=h;exact h.at_.bel
theorem rJ.gZ (h:rJ w0 p pf nm u q g c fs ds mf mm L v l w) (hg:∀x∈gs,x∈fs) (Tq:∀d∈ds,∃y∈gs,y.1=d):rJ w0 p pf nm u q g c gs ds mf mm L v l w:=by
 obtain⟨ko,rb,h1,h2,h3,h4,h5,h6,h7⟩:=h;have hs:∀x∈(g,ko)::(rb++gs),x∈(g,ko)::(rb++fs):=fun x hx=>by
  simp only[List.mem_cons,List.mem_append]at hx⊢;rcases hx with h|h|h
  ·exact .inl h
  ·exact .inr (.inl h)
  ·exact .inr (.inr (hg x h))
 refine⟨ko,rb,h1.gZ (fun x hx=> ?_),h2,h3,h4,fun x hx=>h5 x (hs x hx),h6,Tq⟩;rcases ak hx with rfl|hx
 ·exact ae
 ·exact af _ (hs x hx)
theorem IK.add (h:IK w0 p pf nm u fs mf L w) (hb:Below w.heap.size w w') (hg:∀x∈gs,w.heap.size≤x.1∧w'.heap[x.1]? =some x.2):IK w0 p pf nm u (gs++fs) mf L w':=by
 obtain⟨s,f,g,c,ok,h⟩:=h;have h1:pf<w.heap.size:=(ah (h.at_.get ae)).1;have h2:g<w.heap.size:=(ah (h.at_.get (af _ ae))).1;refine⟨s,f,g,c,ok,(h.at_.add hb hg).less (fun x hx=> ?_),h.kp,h.fm,h.ko,h.cap,fun x hx=> ?_,fun x hx=> ?_,h.nm_⟩
 ·simp only[List.mem_cons,List.mem_append]at hx⊢;rcases hx with h|h|h|h
  ·exact .inr (.inl h)
  ·exact .inr (.inr (.inl h))
  ·exact .inl h
  ·exact .inr (.inr (.inr h))
 ·rcases ak hx with rfl|hx
  ·exact h.ne _ ae
  ·rcases List.mem_append.1 hx with hx|hx
   ·have:=(hg x hx).1;omega
   ·exact h.ne x (af _ hx)
 ·rcases List.mem_append.1 hx with hx|hx
  ·have:=(hg x hx).1;omega
  ·exact h.neg x hx
theorem rJ.add (h:rJ w0 p pf nm u q g c fs ds mf mm L v l w) (hb:Below w.heap.size w w') (hg:∀x∈gs,w.heap.size≤x.1∧w'.heap[x.1]? =some x.2):rJ w0 p pf nm u q g c (gs++fs) ds mf mm L v l w':=by
 have hq:q<w.heap.size:=(ah h.row).1;obtain⟨ko,rb,h1,h2,h3,h4,h5,h6,h7⟩:=h;have Ef:∀x∈rb,x.1<w.heap.size:=fun x hx=>(ah (h1.get (af _ (af _ (List.mem_append_left _ hx))))).1;refine⟨ko,rb,(h1.add hb hg).gZ (fun x hx=> ?_),h2,h3,h4,fun x hx=> ?_,h6,fun d hd=>by
  obtain⟨y,hy,e⟩:=h7 d hd;exact⟨y,List.mem_append_right _ hy,e⟩⟩
 ·simp only[List.mem_cons,List.mem_append]at hx⊢;rcases hx with h|h|h|h|h
  ·exact .inr (.inl h)
  ·exact .inr (.inr (.inl h))
  ·exact .inr (.inr (.inr (.inl h)))
  ·exact .inl h
  ·exact .inr (.inr (.inr (.inr h)))
 ·rcases ak hx with rfl|hx
  ·exact h5 _ ae
  ·rcases List.mem_append.1 hx with hx|hx
   ·exact h5 x (af _ (List.mem_append_left _ hx))
   ·rcases List.mem_append.1 hx with hx|hx
    ·have:=(hg x hx).1;omega
    ·exact h5 x (af _ (List.mem_append_right _ hx))
theorem rJ.file (h:rJ w0 p pf nm u q g c fs ds mf mm L v l w):∃ks:List (Nat×Obj),(∀x∈fs,x∈ks)∧IK w0 p pf nm u ks mf L w∧∀(u':Nat) (mf':X.M) (L':List (List (J.B×J.B))) (w':World),IK w0 p pf nm u' ks mf' L' w'→rJ w0 p pf nm u' q g c fs ds mf' mm L' v l w':=by
 obtain⟨ko,rb,h1,h2⟩:=h;exact⟨_,fun x hx=>af _ (af _ (List.mem_append_right _ hx)),h1,fun u' mf' L' w' h=>⟨ko,rb,h,h2⟩⟩
theorem rJ.keep (h:rJ w0 p pf nm u q g c fs ds mf mm L v l w):∃rb,Rz rb v l∧rJ w0 p pf nm u q g c (rb++fs) ds mf mm L v l w:=by
 obtain⟨ko,rb,h1,h2,h3,h4,h5,h6,h7⟩:=h;refine⟨rb,h3,ko,rb,h1.gZ (fun x hx=> ?_),h2,h3,h4,fun x hx=>h5 x ?_,h6,fun d hd=>by
  obtain⟨y,hy,e⟩:=h7 d hd;exact⟨y,List.mem_append_right _ hy,e⟩⟩
 ·simp only[List.mem_cons,List.mem_append]at hx⊢;rcases hx with h|h|h|h|h
  ·exact .inl h
  ·exact .inr (.inl h)
  ·exact .inr (.inr (.inl h))
  ·exact .inr (.inr (.inl h))
  ·exact .inr (.inr (.inr h))
 ·simp only[List.mem_cons,List.mem_append]at hx⊢;rcases hx with h|h|h|h
  ·exact .inl h
  ·exact .inr (.inl h)
  ·exact .inr (.inl h)
  ·exact .inr (.inr h)
theorem Rz.sl {rb:List (Nat×Obj)} (h:Rz rb v l) (hr:∀x∈rb,w.heap[x.1]? =some x.2):∃A c,v= .slice A l.length c:=by
 obtain⟨A,c,e,_⟩:=(h w bL (fun x hx=>⟨hr x hx,fun h=>h⟩)).dg;exact⟨A,c,e⟩
theorem rJ.model (h:rJ w0 p pf nm u q g c fs ds mf mm L v l w):∃M:Nat→Prop,(∀k,M k→k<w.heap.size)∧oL w q g c M mm v l∧(∀JW v' l' w',JW.ks=mm.ks→HR w q g c M JW v' l' w'→rJ w0 p pf nm u q g c fs ds mf JW L v' l' w')∧M pf∧
  ∀(x:Nat×Obj) (w':World),Below w.heap.size w w'→w'.heap[x.1]? =some x.2→¬M x.1→∃ks,x∈ks∧IK w0 p pf nm u ks mf L w'∧∀(u':Nat) (mf':X.M) (L':List (List (J.B×J.B))) (w2:World),IK w0 p pf nm u' ks mf' L' w2→rJ w0 p pf nm u' q g c fs ds mf' mm L' v l w2:=by
 have hrow:=h.row;obtain⟨ko,rb,h1,bh,l9,heq,hq,U3,U4⟩:=h;have Ef:∀x∈rb,w.heap[x.1]? =some x.2:=fun x hx=>h1.get (af _ (af _ (List.mem_append_left _ hx)));have bq:w.heap[g]? =some ko:=h1.get (af _ ae);have Ow:g≠q:=hq _ ae;obtain⟨A0,c0,hv0⟩:=l9.sl Ef;obtain⟨s,f,gf,cf,Ox,hI⟩:=h1;obtain⟨M,k1,k2,k3,k4⟩:=hI.at_;have ZW:q<w.heap.size:=(ah hrow).1;have DZ:w.heap[pf]? =some _:=hI.at_.get ae;have hpl:pf<w.heap.size:=(ah DZ).1;have hgr:w.heap[gf]? =some Ox:=hI.at_.get (af _ ae);have z7:gf<w.heap.size:=(ah hgr).1;have fR:g<w.heap.size:=(ah bq).1;have Xn:q≠pf:=hI.ne (q,_) (af _ ae);have Xo:q≠gf:=hI.neg (q,_) ae;have Bl:yG w q:=by
  rw[hv0]at hrow;exact Lk hrow
 refine⟨fun k=>M k∨k<w0.heap.size∨k=q∨k=pf∨k=gf∨k∈ds,fun k hk=> ?_,⟨hrow,bh w bq,Ow,l9 w _ (fun x hx=>⟨Ef x hx,fun hk=> ?_⟩), .inr (.inr (.inl rfl)),heq⟩,fun JW v' l' w' ek ⟨hg,hH⟩=> ?_, .inr (.inr (.inr (.inl rfl))),fun x w' hb hx hm=> ?_⟩
 ·rcases hk with h|h|h|h|h|h
  ·exact(k2 k h).2
  ·exact aq h k3.size
  ·omega
  ·omega
  ·omega
  ·obtain⟨y,hy,e⟩:=U4 k h;subst e;exact(ah (k4 y (af _ (af _ (af _ (af _ (List.mem_append_right _ hy)))))).2.2).1
 ·have hx2:x∈(q,pQ mm g c v)::(g,ko)::(rb++fs):=af _ (af _ (List.mem_append_left _ hx));obtain⟨a1,a2,_⟩:=k4 x (af _ (af _ hx2));rcases hk with h|h|h|h|h|h
  ·exact a2 h
  ·omega
  ·exact hq x (af _ (List.mem_append_left _ hx)) h
  ·exact hI.ne x (af _ hx2) h
  ·exact hI.neg x hx2 h
  ·exact U3 x (af _ hx) h
 ·obtain⟨Y9,U5,Jh⟩:=Ov hH.rows;have hold:∀x∈(pf,av p nm mf.size gf mf.ks.length cf f)::(gf,Ox)::(g,ko)::fs,w0.heap.size≤x.1∧¬M x.1∧w'.heap[x.1]? =some x.2:=fun x hx=>by
   have Za:x∈(pf,av p nm mf.size gf mf.ks.length cf f)::(gf,Ox)::(q,pQ mm g c v)::(g,ko)::(rb++fs):=by
    simp only[List.mem_cons,List.mem_append]at hx⊢;rcases hx with h|h|h|h
    ·exact .inl h
    ·exact .inr (.inl h)
    ·exact .inr (.inr (.inr (.inl h)))
    ·exact .inr (.inr (.inr (.inr (.inr h))))
   obtain⟨a1,a2,a3⟩:=k4 x Za;have hne:x.1≠q:=by
    rcases ak hx with h|h
    ·rw[h];exact Xn.symm
    ·rcases ak h with h|h
     ·rw[h];exact Xo.symm
     ·rcases ak h with h|h
      ·rw[h];exact Ow
      ·exact hq x (af _ (List.mem_append_right _ h))
   exact⟨a1,a2,(hg.block x.1 (ah a3).1 (fun e=>hne (by injection e))).trans a3⟩
  obtain⟨g1,g2,_⟩:=k4 (q,pQ mm g c v) (af _ (af _ ae));have hst:=k1.oth hI.kp.sto.two (yH.bY hg (fun k e=>by injection e with e;subst e;exact⟨g2,Bl⟩));have hbl:=k3.grown hg k3.size (fun k e=>by injection e with e;subst e;exact g1);refine⟨ko,Y9,⟨s,f,gf,cf,Ox,⟨⟨M,hst,fun k hk=>⟨(k2 k hk).1,aq (k2 k hk).2 hg.size⟩,hbl,fun x hx=> ?_⟩,hI.kp,hI.fm,hI.ko,hI.cap,fun x hx=> ?_,fun x hx=> ?_,hI.nm_⟩⟩,by rw[ek];exact bh,U5,hH.eq,fun x hx=> ?_,fun x hx=> ?_,U4⟩
  ·simp only[List.mem_cons,List.mem_append]at hx;rcases hx with rfl|rfl|rfl|rfl|hx|hx
   ·exact hold _ ae
   ·exact hold _ (af _ ae)
   ·exact⟨g1,g2,hH.row⟩
   ·exact hold _ (af _ (af _ ae))
   ·obtain⟨b1,b2⟩:=Jh x hx;exact⟨Nat.not_lt.1 (fun h=>b2 (.inr (.inl h))),fun h=>b2 (.inl h),b1⟩
   ·exact hold x (af _ (af _ (af _ hx)))
  ·simp only[List.mem_cons,List.mem_append]at hx;rcases hx with rfl|rfl|rfl|hx|hx
   ·exact hI.ne _ ae
   ·exact Xn
   ·exact hI.ne (g,ko) (af _ (af _ ae))
   ·exact fun e=>(Jh x hx).2 (.inr (.inr (.inr (.inl e))))
   ·exact hI.ne x (af _ (af _ (af _ (List.mem_append_right _ hx))))
  ·simp only[List.mem_cons,List.mem_append]at hx;rcases hx with rfl|rfl|hx|hx
   ·exact Xo
   ·exact hI.neg (g,ko) (af _ ae)
   ·exact fun e=>(Jh x hx).2 (.inr (.inr (.inr (.inr (.inl e)))))
   ·exact hI.neg x (af _ (af _ (List.mem_append_right _ hx)))
  ·rcases ak hx with rfl|hx
   ·exact Ow
   ·rcases List.mem_append.1 hx with hx|hx
    ·exact fun e=>(Jh x hx).2 (.inr (.inr (.inl e)))
    ·exact hq x (af _ (List.mem_append_right _ hx))
  ·rcases ak hx with rfl|hx
   ·exact U3 _ ae
   ·exact fun e=>(Jh x hx).2 (.inr (.inr (.inr (.inr (.inr e)))))
 ·have h1:IK w0 p pf nm u ((q,pQ mm g c v)::(g,ko)::(rb++fs)) mf L w':=IK.below ⟨s,f,gf,cf,Ox,hI⟩ hb;refine⟨x::(q,pQ mm g c v)::(g,ko)::(rb++fs),ae,⟨s,f,gf,cf,Ox,⟨?_,hI.kp,hI.fm,hI.ko,hI.cap,fun y hy=> ?_,fun y hy=> ?_,hI.nm_⟩⟩,fun u' mf' L' w2 h=>⟨ko,rb,h.gZ (fun y hy=>af _ hy),bh,l9,heq,hq,U3,U4⟩⟩
  ·refine⟨M,k1.below hb,fun k hk=>⟨(k2 k hk).1,aq (k2 k hk).2 hb.size⟩,k3.trans (hb.mono k3.size),fun y hy=> ?_⟩;have hold:∀z∈(pf,av p nm mf.size gf mf.ks.length cf f)::(gf,Ox)::(q,pQ mm g c v)::(g,ko)::(rb++fs),w0.heap.size≤z.1∧¬M z.1∧w'.heap[z.1]? =some z.2:=fun z hz=>by
    obtain⟨a1,a2,a3⟩:=k4 z hz;exact⟨a1,a2,(hb.block z.1 (ah a3).1).trans a3⟩
   simp only[List.mem_cons]at hy;rcases hy with rfl|rfl|rfl|hy
   ·exact hold _ ae
   ·exact hold _ (af _ ae)
   ·exact⟨Nat.not_lt.1 (fun h=>hm (.inr (.inl h))),fun h=>hm (.inl h),hx⟩
   ·exact hold y (af _ (af _ (List.mem_cons.2 (by simpa [List.mem_cons] using hy))))
  ·rcases ak hy with rfl|hy
   ·exact hI.ne _ ae
   ·rcases ak hy with rfl|hy
    ·exact fun e=>hm (.inr (.inr (.inr (.inl e))))
    ·exact hI.ne y (af _ hy)
  ·rcases ak hy with rfl|hy
   ·exact fun e=>hm (.inr (.inr (.inr (.inr (.inl e)))))
   ·exact hI.neg y hy
theorem H3.gZ (h:H3 w0 p pf nm u q g c fs mf mm L v l w) (hg:∀x∈gs,x∈fs):H3 w0 p pf nm u q g c gs mf mm L v l w:=rJ.gZ h hg (fun d hd=>by cases hd)
end
end Go.Proofs.YtipljcmmokaokaaGreat
namespace Go.Proofs.YtipljcmmokaokaaGreat
theorem Oy (ks:List X.Ky):Df ks.length (fun i=>((X.aF ks i).at_:Nat)) (fun i=>((X.aF ks i).len:Nat)) (fun i=>(X.aF ks i).dup)=ks:=by
 apply List.ext_getElem
 ·rw[ny]
 ·intro i h1 h2;have h:=xI (a:=fun i=>((X.aF ks i).at_:Nat)) (l:=fun i=>((X.aF ks i).len:Nat)) (d:=fun i=>(X.aF ks i).dup) h2;have e:∀(l:List X.Ky) (h:i<l.length),X.aF l i=l[i]:=fun l h=>by unfold X.aF;simp[h]
  rw[e _ h1]at h;rw[h,←e ks h2];rfl
namespace X
def nB (b:B):B:=(rc (b.take 5++[1,2,0,1,2])).take 5
def iq (ks:List Ky) (L:List B):Nat→M
 |0=>(M.new ks 5).opened 2 false
 |k+1=>((iq ks L k).write (nB (L[k]?.getD []))).1
section
variable {m : M}
theorem sg (m:M) (b:B):(m.write b).1.ks=m.ks∧(m.write b).1.size=m.size∧(m.write b).1.mode=m.mode∧(m.write b).1.there=m.there:=by
 unfold M.write;split
 ·exact⟨rfl,rfl,rfl,rfl⟩
 ·split
  ·exact⟨rfl,rfl,rfl,rfl⟩
  ·split
   ·exact⟨rfl,rfl,rfl,rfl⟩
   ·split<;>exact⟨rfl,rfl,rfl,rfl⟩
theorem CC (ks:List Ky) (L:List B) (k:Nat):(iq ks L k).ks=ks∧(iq ks L k).size=5∧(iq ks L k).mode=2∧(iq ks L k).there=true:=by
 induction k with
 |zero=>exact⟨rfl,rfl,rfl,rfl⟩
 |succ k ih=>
  obtain⟨h1,h2,h3,h4⟩:=sg (iq ks L k) (nB (L[k]?.getD []));exact⟨h1.trans ih.1,h2.trans ih.2.1,h3.trans ih.2.2.1,h4.trans ih.2.2.2⟩
theorem uQ (b:B):(nB b).length=5:=by
 unfold nB rc;rw[List.length_take,List.length_map,List.length_take,List.length_append,List.length_take];simp;omega
structure sH (m F:M):Prop where
 ks:F.ks=m.ks
 rows:F.rows=m.rows
 mode:F.mode=1
theorem Fh (h:m.mode=2):m.close=({m with mode:=0},good):=by
 unfold M.close;rw[if_neg (by rw[h];decide)]
theorem Ji (h4:m.there=true):M.open {m with mode:=0} 1 true=(M.opened {m with mode:=0} 1 true,good):=by
 unfold M.open;rw[if_neg (by decide),if_neg (by simp),if_neg (by rintro⟨_,h⟩;rw[show({m with mode:=0}:M).there=m.there from rfl,h4]at h;cases h)]
theorem Fi:sH m (M.opened {m with mode:=0} 1 true):=⟨rfl,rfl,rfl⟩
structure Jj (m F:M) (k i:Nat):Prop where
 f:sH m F
 lost:F.lost=false
 at_:F.at=(bS m.ks k m.rows)[i]?
 key:F.key=k
theorem Fj {ks:List Ky} {size ct:Nat} {k:Nat} (hk:k<ks.length) (bh:fQ ks size) {x:Row} (hf:bg ks size x.b=true):rel 2 ((val ks k x.b).take 1) [0]=true:=by
 have hl:=aP hf hk;have h1:=(bh.key _ (aR hk)).1;have pO:1≤(val ks k x.b).length:=by rw[hl];exact h1
 generalize val ks k x.b=y at pO;cases y with
 |nil=>simp at pO
 |cons a t=>
  show(!decide (([a]:B)<[0]))=true;rw[decide_eq_false]
  ·rfl
  ·intro h;cases h with
   |rel h=>exact absurd h (by simp[UInt8.lt_iff_toNat_lt])
   |cons h=>cases h
theorem Fk {F:M} {size ct:Nat} (h:sH m F) (hr:aS m.ks size ct m.rows) (bh:fQ m.ks size) {k:Nat} (hk:k<m.ks.length):
  (m.rows=[]∧F.start k 2 [0]=(F.dx,[50,51]))∨(m.rows≠[]∧(F.start k 2 [0]).2=good∧Jj m (F.start k 2 [0]).1 k 0):=by
 have hc:cB [52,55] [1,3] F.mode=good:=by rw[h.mode];decide
 have hlen:=(bh.key _ (aR hk)).1;have hpl:F.place k 2 [0]=(bS m.ks k m.rows)[0]? :=by
  unfold M.place;rw[if_neg (by decide),h.ks,h.rows];cases e:bS m.ks k m.rows with
  |nil=>rfl
  |cons x t=>
   have hx:x∈m.rows:=(bm m.ks k x m.rows).1 (by rw[e];exact ae);rw[List.find?_cons];have:=Fj (ct:=ct) hk bh (hr.fit x hx);show(match rel 2 ((val m.ks k x.b).take 1) [0]with|true=>some x|false=>_)=_;rw[this];rfl
 have hst:F.start k 2 [0]=match F.place k 2 [0]with
   |none=>(F.dx,[50,51])
   |some x=>({F with read:=false,lost:=false,key:=k,value:=val F.ks k x.b,at_:=x.t k,same:=true},good):=by
  unfold M.start;rw[if_neg (by rw[hc];exact fun h=>h rfl),if_neg (by
   rintro(h1|h1|h1|h1)
   ·omega
   ·rw[h.ks]at h1;omega
   ·cases h1
   ·rw[Int.toNat_natCast,h.ks]at h1;simp at h1;omega),Int.toNat_natCast]
  cases F.place k 2 [0]<;>rfl
 by_cases h0:m.rows=[]
 ·refine .inl ⟨h0, ?_⟩;rw[hst,hpl,h0];rfl
 ·have hn:0<(bS m.ks k m.rows).length:=(by rw[lJ];exact List.length_pos_iff.2 h0);rw[hst,hpl,List.getElem?_eq_getElem hn];refine .inr ⟨h0,rfl,⟨h.ks,h.rows,h.mode⟩,rfl, ?_,rfl⟩;show(bS F.ks k F.rows).find? (sj F.ks k (val F.ks k (bS m.ks k m.rows)[0].b) ((bS m.ks k m.rows)[0].t k) true)=_;rw[h.ks,h.rows];generalize hh:bS m.ks k m.rows=l at hn;cases l with
  |nil=>simp at hn
  |cons x t=>
   rw[List.find?_cons];have:sj m.ks k (val m.ks k x.b) (x.t k) true x=true:=(by unfold sj;simp);show(match sj m.ks k (val m.ks k x.b) (x.t k) true x with|true=>some x|false=>_)=_;rw[this];rfl
theorem Jk {F:M} {size ct k i:Nat} (h:Jj m F k i) (hr:aS m.ks size ct m.rows) (hk:k<m.ks.length) (hi:i<(bS m.ks k m.rows).length):
  ∃F' st,F.next=(F',some (bS m.ks k m.rows)[i].b,st)∧(st=good∨st=[48,50])∧Jj m F' k (i+1):=by
 have hc:cB [52,55] [1,3] F.mode=good:=by rw[h.f.mode];decide
 have ha:=h.at_;rw[List.getElem?_eq_getElem hi]at ha;refine⟨F.take (bS m.ks k m.rows)[i],F.CR (bS m.ks k m.rows)[i], ?_, ?_,⟨h.f.ks,h.f.rows,h.f.mode⟩,rfl, ?_,h.key⟩
 ·unfold M.next;rw[if_neg (by rw[hc];exact fun h=>h rfl),if_neg (by rw[h.lost];decide),ha]
 ·unfold M.CR;split
  ·exact .inr rfl
  ·exact .inl rfl
 ·show(bS F.ks F.key F.rows).find? (sj F.ks F.key (val F.ks F.key (bS m.ks k m.rows)[i].b) ((bS m.ks k m.rows)[i].t F.key) false)=_;rw[h.f.ks,h.f.rows,h.key,show sj m.ks k (val m.ks k (bS m.ks k m.rows)[i].b) ((bS m.ks k m.rows)[i].t k) false=(nC m.ks k (bS m.ks k m.rows)[i] ·)from funext (fun x=>yZ _ _ _ _)];exact Et (mX m.ks k m.rows (hr.yh hk)) hi
theorem Ll {F:M} {k:Nat} (h:Jj m F k (bS m.ks k m.rows).length):F.next=(F.dx,none,[49,48])∧sH m F.dx:=by
 have hc:cB [52,55] [1,3] F.mode=good:=by rw[h.f.mode];decide
 have ha:=h.at_;rw[List.getElem?_eq_none (Nat.le_refl _)]at ha;refine⟨?_,h.f.ks,h.f.rows,h.f.mode⟩;unfold M.next;rw[if_neg (by rw[hc];exact fun h=>h rfl),if_neg (by rw[h.lost];decide),ha]
theorem Jl {F:M} (h:sH m F):F.dx.next=({F.dx with read:=false},none,[52,54])∧sH m {F.dx with read:=false}:=by
 have hc:cB [52,55] [1,3] F.dx.mode=good:=by rw[show F.dx.mode=F.mode from rfl,h.mode];decide
 refine⟨?_,h.ks,h.rows,h.mode⟩;unfold M.next;rw[if_neg (by rw[hc];exact fun h=>h rfl),if_pos (show F.dx.lost=true from rfl)]
theorem Oz {F:M} (h:sH m F) (b:B):F.write b=(F,[52,56]):=by
 unfold M.write;have hc:cB [52,56] [2,4,3] F.mode=[52,56]:=by rw[h.mode];decide
 rw[if_pos (by rw[hc];decide),hc]
end
end X
end Go.Proofs.YtipljcmmokaokaaGreat
namespace Go.Proofs.YtipljcmmokaokaaGreat
open Go.RowKit Go.Lib Go.Maps Go.WideMaps Go.Sort
set_option maxRecDepth 100000
def HX (w0:World) (p pf:Nat) (nm:J.B) (u q g c:Nat) (fs:List (Nat×Obj)) (mf mm:X.M) (w:World):Prop:=∃L v l,H3 w0 p pf nm u q g c fs mf mm L v l w
section
variable {w0 : World} {p pf q g c : Nat} {nm : J.B} {u u' : Nat} {fs gs : List (Nat × Obj)} {mf mf' mm JW : X.M} {L : List (List (J.B × J.B))} {w w' : World}
theorem HX.below (h:HX w0 p pf nm u q g c fs mf mm w) (hb:Below w.heap.size w w'):HX w0 p pf nm u q g c fs mf mm w':=by
 obtain⟨L,v,l,h⟩:=h;exact⟨L,v,l,h.below hb⟩
theorem HX.gZ (h:HX w0 p pf nm u q g c fs mf mm w) (hg:∀x∈gs,x∈fs):HX w0 p pf nm u q g c gs mf mm w:=by
 obtain⟨L,v,l,h⟩:=h;exact⟨L,v,l,h.gZ hg⟩
theorem HX.add (h:HX w0 p pf nm u q g c fs mf mm w) (hb:Below w.heap.size w w') (hg:∀x∈gs,w.heap.size≤x.1∧w'.heap[x.1]? =some x.2):HX w0 p pf nm u q g c (gs++fs) mf mm w':=by
 obtain⟨L,v,l,h⟩:=h;exact⟨L,v,l,h.add hb hg⟩
theorem HX.get (h:HX w0 p pf nm u q g c fs mf mm w) {x:Nat×Obj} (hx:x∈fs):w.heap[x.1]? =some x.2:=by
 obtain⟨L,v,l,h⟩:=h;exact h.get hx
theorem HX.bel (h:HX w0 p pf nm u q g c fs mf mm w):Below w0.heap.size w0 w:=by
 obtain⟨L,v,l,h⟩:=h;exact h.bel
theorem HX.row (h:HX w0 p pf nm u q g c fs mf mm w):∃v,w.heap[q]? =some (pQ mm g c v):=by
 obtain⟨L,v,l,h⟩:=h;exact⟨v,h.row⟩
theorem HX.mok (h:HX w0 p pf nm u q g c fs mf mm w):X.jA u mf:=by
 obtain⟨L,v,l,ko,rb,⟨s,f,g,c,ok,h⟩,_⟩:=h;exact h.kp.mok
theorem IK.mono (h:IK w0 p pf nm u fs mf L w) (hv:u≤u'):IK w0 p pf nm u' fs mf L w:=by
 obtain⟨s,f,g,c,ok,h⟩:=h;exact⟨s,f,g,c,ok,h.at_,⟨h.kp.mok.mono hv,h.kp.sto.mono hv,h.kp.con,h.kp.hist,h.kp.len⟩,h.fm,h.ko,h.cap,h.ne,h.neg,h.nm_⟩
theorem HX.mono (h:HX w0 p pf nm u q g c fs mf mm w) (hv:u≤u'):HX w0 p pf nm u' q g c fs mf mm w:=by
 obtain⟨L,v,l,ko,rb,h,h2⟩:=h;exact⟨L,v,l,ko,rb,h.mono hv,h2⟩
theorem HX.file (h:HX w0 p pf nm u q g c fs mf mm w):∃ks:List (Nat×Obj),(∀x∈fs,x∈ks)∧IX w0 p pf nm u ks mf w∧∀(u':Nat) (mf':X.M) (w':World),IX w0 p pf nm u' ks mf' w'→HX w0 p pf nm u' q g c fs mf' mm w':=by
 obtain⟨L,v,l,h⟩:=h;obtain⟨ks,h1,h2,h3⟩:=h.file;exact⟨ks,h1,⟨L,h2⟩,fun u' mf' w' ⟨L',h⟩=>⟨L',v,l,h3 u' mf' L' w' h⟩⟩
theorem Dl (h:HX w0 p pf nm u q g c fs mf mm w) (hu:u≤340) (Q7:X.Bd nm mf.ks mf.size u) (md:Nat) (od:Bool) {st:J.B} (he:mf.open md od=(mf',st)):
  Calls Tryz.prog 12 #[.pointer (some ⟨pf,0,none⟩), .int .u8 (md:Nat), .bool od] w fun e w'=>e= .returned (.string ⟨st.toArray⟩)∧HX w0 p pf nm (u+1) q g c fs mf' mm w':=by
 obtain⟨ks,_,h2,h3⟩:=h.file;refine(CA h2 hu Q7 md od he).mono ?_;rintro e w' ⟨rfl,h⟩;exact⟨rfl,h3 _ _ _ h⟩
theorem Jm (h:HX w0 p pf nm u q g c fs mf mm w) {st:J.B} (he:mf.close=(mf',st)):
  Calls Tryz.prog 17 #[.pointer (some ⟨pf,0,none⟩)] w fun e w'=>e= .returned (.string ⟨st.toArray⟩)∧HX w0 p pf nm (u+1) q g c fs mf' mm w':=by
 obtain⟨ks,_,h2,h3⟩:=h.file;refine(Dk h2 he).mono ?_;rintro e w' ⟨rfl,h⟩;exact⟨rfl,h3 _ _ _ h⟩
theorem Src.sub {v:Value} {b:J.B} (h:Src w0 p fs v b) (hs:∀x∈fs,x∈gs):Src w0 p gs v b:=fun ks t w1 hk ha=>h ks t w1 (fun x hx=>hk x (hs x hx)) ha
theorem wG (h:HX w0 p pf nm u q g c fs mf mm w) (hu:u≤340) (v:Value) (b:J.B) (hv:Src w0 p fs v b) {st:J.B} (he:mf.write b=(mf',st)):
  Calls Tryz.prog 15 #[.pointer (some ⟨pf,0,none⟩),v] w fun e w'=>e= .returned (.string ⟨st.toArray⟩)∧HX w0 p pf nm (u+1) q g c fs mf' mm w':=by
 obtain⟨ks,h1,h2,h3⟩:=h.file;refine(mC h2 hu v b (hv.sub h1) he).mono ?_;rintro e w' ⟨rfl,h⟩;exact⟨rfl,h3 _ _ _ h⟩
theorem Fl (h:HX w0 p pf nm u q g c fs mf mm w) (hm:X.jA u' mm) (hu:u'≤1000) (b:J.B) (hbl:b.length≤1000000) {st:J.B} (he:mm.write b=(JW,st)):
  Calls Tryz.prog 16 #[.pointer (some ⟨q,0,none⟩), .string ⟨b.toArray⟩] w fun e w'=>e= .returned (.string ⟨st.toArray⟩)∧HX w0 p pf nm u q g c fs mf JW w':=by
 obtain⟨L,v,l,h⟩:=h;obtain⟨M,h1,h2,h3,_⟩:=h.model;have hk:=(X.sg mm b).1;refine(Cj h2 h1 (jI.of (size:=mm.size) h2 hm.rows hm.ks (by have:=hm.many;omega)) (by have:=hm.time;omega) b hbl).mono ?_;rw[he]at hk⊢;rintro e w' ⟨rfl,v',l',hr⟩;exact⟨rfl,L,v',l',h3 _ _ _ _ hk hr⟩
theorem CD (h:HX w0 p pf nm u q g c fs mf mm w) (hm:X.jA u' mm) (hu:u'≤1000) (i:Nat) (hi:i<mm.ks.length):
  Calls Tryz.prog 18 #[.pointer (some ⟨q,0,none⟩), .int .i64 (i:Nat)] w fun e w'=>∃A cw ks,e= .returned (.slice A mm.rows.length cw)∧IX w0 p pf nm u ks mf w'∧(∀(u2:Nat) (Jn:X.M) (w2:World),IX w0 p pf nm u2 ks Jn w2→HX w0 p pf nm u2 q g c fs Jn mm w2)∧
   ∀(u2:Nat) (Jn:X.M) (w2:World),IX w0 p pf nm u2 ks Jn w2→∀k r,(X.bS mm.ks i mm.rows)[k]? =some r→∃g0,A=some ⟨g0,0,none⟩∧w2.cell? ⟨g0,k*2,none⟩=some (encStr r.b):=by
 obtain⟨L,v,l,h⟩:=h;obtain⟨M,h1,h2,h3,h4,h5⟩:=h.model;refine(zv h2 h1 (jI.of (size:=mm.size) h2 hm.rows hm.ks (by have:=hm.many;omega)) i hi).mono ?_;rintro e w' ⟨v',rfl,hb,hw⟩;have hs:=h2.bS i;have hl:(pE mm.ks i l).length=mm.rows.length:=by rw[←X.lJ mm.ks i,←hs,List.length_map]
 generalize pE mm.ks i l=lp at hw hs hl;rcases hw.row with⟨rfl,e⟩|⟨g0,c0,rfl,k1,k2,k3,k4⟩
 ·obtain⟨ks,j1,j2,j3⟩:=h.file;refine⟨none,0,ks, ?_,(Jc j2).below hb,fun u2 Jn w2 ⟨L2,h⟩=>⟨L2,v,l,j3 _ _ _ _ h⟩,fun u2 Jn w2 _ k r hr=> ?_⟩
  ·rw[←hl,e];rfl
  ·rw[←hs,e]at hr;cases hr
 ·have hg:w'.heap[g0]? =some w'.heap[g0]:=Array.getElem?_eq_getElem k2;obtain⟨ks,j1,j2,j3⟩:=h5 (g0,w'.heap[g0]) w' hb hg k3;refine⟨_,c0,ks,by rw[hl],Jc j2,fun u2 Jn w2 ⟨L2,h⟩=>⟨L2,v,l,j3 _ _ _ _ h⟩,fun u2 Jn w2 hx k r hr=>⟨g0,rfl, ?_⟩⟩;rw[←hs,List.getElem?_map]at hr;obtain⟨y,hy,rfl⟩:=Option.map_eq_some_iff.1 hr;obtain⟨hk,rfl⟩:=List.getElem?_eq_some_iff.1 hy;obtain⟨_,Zb⟩:=hx;have hq:=Zb.get j1;have hq:w2.heap[g0]? =some w'.heap[g0]:=hq;exact(World.cell?_of_block (hq.trans hg.symm)).trans (k4 _ _ (lQ lp k hk).1)
theorem OA {ko:Obj} {m:X.M} (h:IK w0 p pf nm 0 [(q,pQ mm g c (.slice none 0 0)),(g,ko)] m [[]] w) (hk:SR ko g mm.ks) (hr:mm.rows=[]) (Ow:g≠q):HX w0 p pf nm 0 q g c [] m mm w:=
 ⟨[[]], .slice none 0 0,[],ko,[],h,hk,fun W M _=> .iF,hr.symm,fun x hx=>by
  simp only[List.nil_append,List.mem_singleton]at hx;subst hx;exact Ow,fun x _ hd=>(by cases hd),fun d hd=>by cases hd⟩
end
noncomputable def Lm:Code:=(Tryz.f3.body.bind (lR 13)).getD .skip
noncomputable def xN:Code:=(Tryz.f3.body.bind (lR 23)).getD .skip
noncomputable def xO:Code:=(Tryz.f3.body.bind (lR 29)).getD .skip
noncomputable def xP:Code:=(Tryz.f3.body.bind (lR 32)).getD .skip
theorem RB {W0:World} {N cw:Nat} {Aw:Option Addr} {S:ByteArray} {Q:Exit→Act→World→Prop} (hn:decide (0<N)=false) (hs:(S.toList==[48,48])=false) (u0 u1 u2 u3 u4 u5 u6 u7 u8 u9 eU dF fV fW u16 fX fY ei ej en eo u23 u24 gD u26 gF u28 gG gH gI u32 u33 gJ gK gL gM gN gO gP ep er eu u44 ew ey ez eB eC eD eE eF eG eH eI eJ eK eL eM jM jN jO jP u64 jQ jR jS jJ jK jT jU j6 j7 j8 j9 ke jy jf jg jh ji jk jl jm jn jo jq jr js jt ju mD mE mF mG mH mI mJ mK gR gS gT gU gV gW eN eO eP eQ eR eT dM dN dO dP dQ fe fg fh fj fk fo fp fq ft fu fw fx fy fz fA fB dR dS dT dU dV u138 fC fD fE fF fG fH fI fJ fK fL fM fO ir iu iv iw iy iz iA iB gh gi gj gl gp gq gu gy:Value) (h:∀(d100 d101 d102 d103 d104:Value),Q .normal (⟨#[u0,u1,u2,u3,u4,u5,u6,u7,u8,u9,eU,dF, .slice Aw N cw, .string S,fV,fW,u16,fX,fY,ei,ej,en,eo,u23,u24,gD,u26,gF,u28,gG,gH,gI,u32,u33,gJ,gK,gL,gM,gN,gO,gP,ep,er,eu,u44,ew,ey,ez,eB,eC,eD,eE,eF,eG,eH,eI,eJ,eK,eL,eM,jM,jN,jO,jP,u64,jQ,jR,jS,jJ,jK,jT,jU,j6,j7,j8,j9,ke,jy,jf,jg,jh,ji,jk,jl,jm,jn,jo,jq,jr,js,jt,ju,mD,mE,mF,mG,mH,mI,mJ,mK,d100,d101,d102,d103,d104, .bool false,eN,eO,eP,eQ,eR,eT,dM,dN,dO,dP,dQ,fe,fg,fh,fj,fk,fo,fp,fq,ft,fu,fw,fx,fy,fz,fA,fB,dR,dS,dT,dU,dV,u138,fC,fD,fE,fF,fG,fH,fI,fJ,fK,fL,fM,fO,ir,iu,iv,iw,iy,iz,iA,iB,gh,gi,gj,gl,gp,gq,gu,gy],[]⟩:Act) W0):Code.wp Tryz.prog xN Q (⟨#[u0,u1,u2,u3,u4,u5,u6,u7,u8,u9,eU,dF, .slice Aw N cw, .string S,fV,fW,u16,fX,fY,ei,ej,en,eo,u23,u24,gD,u26,gF,u28,gG,gH,gI,u32,u33,gJ,gK,gL,gM,gN,gO,gP,ep,er,eu,u44,ew,ey,ez,eB,eC,eD,eE,eF,eG,eH,eI,eJ,eK,eL,eM,jM,jN,jO,jP,u64,jQ,jR,jS,jJ,jK,jT,jU,j6,j7,j8,j9,ke,jy,jf,jg,jh,ji,jk,jl,jm,jn,jo,jq,jr,js,jt,ju,mD,mE,mF,mG,mH,mI,mJ,mK,gR,gS,gT,gU,gV,gW,eN,eO,eP,eQ,eR,eT,dM,dN,dO,dP,dQ,fe,fg,fh,fj,fk,fo,fp,fq,ft,fu,fw,fx,fy,fz,fA,fB,dR,dS,dT,dU,dV,u138,fC,fD,fE,fF,fG,fH,fI,fJ,fK,fL,fM,fO,ir,iu,iv,iw,iy,iz,iA,iB,gh,gi,gj,gl,gp,gq,gu,gy],[]⟩:Act) W0:=by
 have HX:=aa h;clear h
 conv=>arg 2;whnf
 go_wp2;exact HX.out _ _ _ _ _
theorem RD {W0:World} {N cw:Nat} {Aw:Option Addr} {S:ByteArray} {Q:Exit→Act→World→Prop} (hn:decide (0<N)=true) (hs:(S.toList==[48,48])=true) (u0 u1 u2 u3 u4 u5 u6 u7 u8 u9 eU dF fV fW u16 fX fY ei ej en eo u23 u24 gD u26 gF u28 gG gH gI u32 u33 gJ gK gL gM gN gO gP ep er eu u44 ew ey ez eB eC eD eE eF eG eH eI eJ eK eL eM jM jN jO jP u64 jQ jR jS jJ jK jT jU j6 j7 j8 j9 ke jy jf jg jh ji jk jl jm jn jo jq jr js jt ju mD mE mF mG mH mI mJ mK gR gS gT gU gV gW eN eO eP eQ eR eT dM dN dO dP dQ fe fg fh fj fk fo fp fq ft fu fw fx fy fz fA fB dR dS dT dU dV u138 fC fD fE fF fG fH fI fJ fK fL fM fO ir iu iv iw iy iz iA iB gh gi gj gl gp gq gu gy:Value) (h:∀(d100 d101 d102 d103 d104:Value),Q .normal (⟨#[u0,u1,u2,u3,u4,u5,u6,u7,u8,u9,eU,dF, .slice Aw N cw, .string S,fV,fW,u16,fX,fY,ei,ej,en,eo,u23,u24,gD,u26,gF,u28,gG,gH,gI,u32,u33,gJ,gK,gL,gM,gN,gO,gP,ep,er,eu,u44,ew,ey,ez,eB,eC,eD,eE,eF,eG,eH,eI,eJ,eK,eL,eM,jM,jN,jO,jP,u64,jQ,jR,jS,jJ,jK,jT,jU,j6,j7,j8,j9,ke,jy,jf,jg,jh,ji,jk,jl,jm,jn,jo,jq,jr,js,jt,ju,mD,mE,mF,mG,mH,mI,mJ,mK,d100,d101,d102,d103,d104, .bool false,eN,eO,eP,eQ,eR,eT,dM,dN,dO,dP,dQ,fe,fg,fh,fj,fk,fo,fp,fq,ft,fu,fw,fx,fy,fz,fA,fB,dR,dS,dT,dU,dV,u138,fC,fD,fE,fF,fG,fH,fI,fJ,fK,fL,fM,fO,ir,iu,iv,iw,iy,iz,iA,iB,gh,gi,gj,gl,gp,gq,gu,gy],[]⟩:Act) W0):Code.wp Tryz.prog xN Q (⟨#[u0,u1,u2,u3,u4,u5,u6,u7,u8,u9,eU,dF, .slice Aw N cw, .string S,fV,fW,u16,fX,fY,ei,ej,en,eo,u23,u24,gD,u26,gF,u28,gG,gH,gI,u32,u33,gJ,gK,gL,gM,gN,gO,gP,ep,er,eu,u44,ew,ey,ez,eB,eC,eD,eE,eF,eG,eH,eI,eJ,eK,eL,eM,jM,jN,jO,jP,u64,jQ,jR,jS,jJ,jK,jT,jU,j6,j7,j8,j9,ke,jy,jf,jg,jh,ji,jk,jl,jm,jn,jo,jq,jr,js,jt,ju,mD,mE,mF,mG,mH,mI,mJ,mK,gR,gS,gT,gU,gV,gW,eN,eO,eP,eQ,eR,eT,dM,dN,dO,dP,dQ,fe,fg,fh,fj,fk,fo,fp,fq,ft,fu,fw,fx,fy,fz,fA,fB,dR,dS,dT,dU,dV,u138,fC,fD,fE,fF,fG,fH,fI,fJ,fK,fL,fM,fO,ir,iu,iv,iw,iy,iz,iA,iB,gh,gi,gj,gl,gp,gq,gu,gy],[]⟩:Act) W0:=by
 have HX:=aa h;clear h
 conv=>arg 2;whnf
 go_wp2;exact HX.out _ _ _ _ _
def Xp (N:Nat) (S:ByteArray):Prop:=(¬(0:Int)<(N:Nat)∧(((N:Nat):Int)==0)=true∧(S.toList==[52,54])=true)∨((0:Int)<(N:Nat)∧(((N:Nat):Int)==0)=false∧(S.toList==[49,48])=true)
theorem RF {W0:World} {N cw cb:Nat} {Aw Ab:Option Addr} {S:ByteArray} {Q:Exit→Act→World→Prop} (hn:¬(0:Int)<(N:Nat)) (Pz:(((N:Nat):Int)==0)=true) (hs:(S.toList==[52,54])=true) (u0 u1 u2 u3 u4 u5 u6 u7 u8 u9 eU dF fU fV fW u16 ei ej en eo u23 u24 gD u26 gF u28 gG gH gI u32 u33 gJ gK gL gM gN gO gP ep er eu u44 ew ey ez eB eC eD eE eF eG eH eI eJ eK eL eM jM jN jO jP u64 jQ jR jS jJ jK jT jU j6 j7 j8 j9 ke jy jf jg jh ji jk jl jm jn jo jq jr js jt ju mD mE mF mG mH mI mJ mK gR gS gT gU gV gW eN eO eP eQ eR eT dM dN dO dP dQ fe fg fh fj fk fo fp fq ft fu fw fx fy fz fA fB dR dS dT dU dV u138 fC fD fE fF fG fH fI fJ fK fL fM fO ir iu iv iw iy iz iA iB gh gi gj gl gp gq gu gy:Value) (h:∀(d138 d139 d140 d141 d142 d143 d144 d145 d146 d147 d148 d149 d150 d151 d152 d153 d154 d155 d156 d157:Value),Q .normal (⟨#[u0,u1,u2,u3,u4,u5,u6,u7,u8,u9,eU,dF, .slice Aw N cw,fU,fV,fW,u16, .slice Ab 0 cb, .string S,ei,ej,en,eo,u23,u24,gD,u26,gF,u28,gG,gH,gI,u32,u33,gJ,gK,gL,gM,gN,gO,gP,ep,er,eu,u44,ew,ey,ez,eB,eC,eD,eE,eF,eG,eH,eI,eJ,eK,eL,eM,jM,jN,jO,jP,u64,jQ,jR,jS,jJ,jK,jT,jU,j6,j7,j8,j9,ke,jy,jf,jg,jh,ji,jk,jl,jm,jn,jo,jq,jr,js,jt,ju,mD,mE,mF,mG,mH,mI,mJ,mK,gR,gS,gT,gU,gV,gW,eN,eO,eP,eQ,eR,eT,dM,dN,dO,dP,dQ,fe,fg,fh,fj,fk,fo,fp,fq,ft,fu,fw,fx,fy,fz,fA,fB,dR,dS,dT,dU,dV,d138,d139,d140,d141,d142,d143,d144,d145,d146,d147,d148,d149,d150,d151,d152,d153,d154,d155,d156,d157, .bool false,gh,gi,gj,gl,gp,gq,gu,gy],[]⟩:Act) W0):Code.wp Tryz.prog xP Q (⟨#[u0,u1,u2,u3,u4,u5,u6,u7,u8,u9,eU,dF, .slice Aw N cw,fU,fV,fW,u16, .slice Ab 0 cb, .string S,ei,ej,en,eo,u23,u24,gD,u26,gF,u28,gG,gH,gI,u32,u33,gJ,gK,gL,gM,gN,gO,gP,ep,er,eu,u44,ew,ey,ez,eB,eC,eD,eE,eF,eG,eH,eI,eJ,eK,eL,eM,jM,jN,jO,jP,u64,jQ,jR,jS,jJ,jK,jT,jU,j6,j7,j8,j9,ke,jy,jf,jg,jh,ji,jk,jl,jm,jn,jo,jq,jr,js,jt,ju,mD,mE,mF,mG,mH,mI,mJ,mK,gR,gS,gT,gU,gV,gW,eN,eO,eP,eQ,eR,eT,dM,dN,dO,dP,dQ,fe,fg,fh,fj,fk,fo,fp,fq,ft,fu,fw,fx,fy,fz,fA,fB,dR,dS,dT,dU,dV,u138,fC,fD,fE,fF,fG,fH,fI,fJ,fK,fL,fM,fO,ir,iu,iv,iw,iy,iz,iA,iB,gh,gi,gj,gl,gp,gq,gu,gy],[]⟩:Act) W0:=by
 have HX:=aa h;clear h
 conv=>arg 2;whnf
 go_wp2;exact HX.out _ _ _ _ _ _ _ _ _ _ _ _ _ _ _ _ _ _ _ _
theorem RG {W0:World} {N cw cb:Nat} {Aw Ab:Option Addr} {S:ByteArray} {Q:Exit→Act→World→Prop} (hn:(0:Int)<(N:Nat)) (Pz:(((N:Nat):Int)==0)=false) (hs:(S.toList==[49,48])=true) (u0 u1 u2 u3 u4 u5 u6 u7 u8 u9 eU dF fU fV fW u16 ei ej en eo u23 u24 gD u26 gF u28 gG gH gI u32 u33 gJ gK gL gM gN gO gP ep er eu u44 ew ey ez eB eC eD eE eF eG eH eI eJ eK eL eM jM jN jO jP u64 jQ jR jS jJ jK jT jU j6 j7 j8 j9 ke jy jf jg jh ji jk jl jm jn jo jq jr js jt ju mD mE mF mG mH mI mJ mK gR gS gT gU gV gW eN eO eP eQ eR eT dM dN dO dP dQ fe fg fh fj fk fo fp fq ft fu fw fx fy fz fA fB dR dS dT dU dV u138 fC fD fE fF fG fH fI fJ fK fL fM fO ir iu iv iw iy iz iA iB gh gi gj gl gp gq gu gy:Value) (h:∀(d138 d139 d140 d141 d142 d143 d144 d145 d146 d147 d148 d149 d150 d151 d152 d153 d154 d155 d156 d157:Value),Q .normal (⟨#[u0,u1,u2,u3,u4,u5,u6,u7,u8,u9,eU,dF, .slice Aw N cw,fU,fV,fW,u16, .slice Ab 0 cb, .string S,ei,ej,en,eo,u23,u24,gD,u26,gF,u28,gG,gH,gI,u32,u33,gJ,gK,gL,gM,gN,gO,gP,ep,er,eu,u44,ew,ey,ez,eB,eC,eD,eE,eF,eG,eH,eI,eJ,eK,eL,eM,jM,jN,jO,jP,u64,jQ,jR,jS,jJ,jK,jT,jU,j6,j7,j8,j9,ke,jy,jf,jg,jh,ji,jk,jl,jm,jn,jo,jq,jr,js,jt,ju,mD,mE,mF,mG,mH,mI,mJ,mK,gR,gS,gT,gU,gV,gW,eN,eO,eP,eQ,eR,eT,dM,dN,dO,dP,dQ,fe,fg,fh,fj,fk,fo,fp,fq,ft,fu,fw,fx,fy,fz,fA,fB,dR,dS,dT,dU,dV,d138,d139,d140,d141,d142,d143,d144,d145,d146,d147,d148,d149,d150,d151,d152,d153,d154,d155,d156,d157, .bool false,gh,gi,gj,gl,gp,gq,gu,gy],[]⟩:Act) W0):Code.wp Tryz.prog xP Q (⟨#[u0,u1,u2,u3,u4,u5,u6,u7,u8,u9,eU,dF, .slice Aw N cw,fU,fV,fW,u16, .slice Ab 0 cb, .string S,ei,ej,en,eo,u23,u24,gD,u26,gF,u28,gG,gH,gI,u32,u33,gJ,gK,gL,gM,gN,gO,gP,ep,er,eu,u44,ew,ey,ez,eB,eC,eD,eE,eF,eG,eH,eI,eJ,eK,eL,eM,jM,jN,jO,jP,u64,jQ,jR,jS,jJ,jK,jT,jU,j6,j7,j8,j9,ke,jy,jf,jg,jh,ji,jk,jl,jm,jn,jo,jq,jr,js,jt,ju,mD,mE,mF,mG,mH,mI,mJ,mK,gR,gS,gT,gU,gV,gW,eN,eO,eP,eQ,eR,eT,dM,dN,dO,dP,dQ,fe,fg,fh,fj,fk,fo,fp,fq,ft,fu,fw,fx,fy,fz,fA,fB,dR,dS,dT,dU,dV,u138,fC,fD,fE,fF,fG,fH,fI,fJ,fK,fL,fM,fO,ir,iu,iv,iw,iy,iz,iA,iB,gh,gi,gj,gl,gp,gq,gu,gy],[]⟩:Act) W0:=by
 have HX:=aa h;clear h
 conv=>arg 2;whnf
 go_wp2;exact HX.out _ _ _ _ _ _ _ _ _ _ _ _ _ _ _ _ _ _ _ _
theorem RH {W0:World} {N cw cb k gw:Nat} {Ab:Option Addr} {S:ByteArray} {B:J.B} {M:Nat→Prop} {Q:Exit→Act→World→Prop} (hQ:∀c a d v w,Q (.panic c) (Act.put a d v) w→Q (.panic c) a w) (hby:By W0 M Ab B.length B) (cA:W0.cell? ⟨gw,k*2,none⟩=some (.string ⟨B.toArray⟩)) (hk:(k:Int)<(N:Nat)) (hs:(S.toList==[48,48])=true) (u0 u1 u2 u3 u4 u5 u6 u7 u8 u9 eU dF fU fX fY ei ej en eo u23 u24 gD u26 gF u28 gG gH gI u32 u33 gJ gK gL gM gN gO gP ep er eu u44 ew ey ez eB eC eD eE eF eG eH eI eJ eK eL eM jM jN jO jP u64 jQ jR jS jJ jK jT jU j6 j7 j8 j9 ke jy jf jg jh ji jk jl jm jn jo jq jr js jt ju mD mE mF mG mH mI mJ mK gR gS gT gU gV gW eN eO eP eQ eR eT dM dN dO dP dQ fe fg fh fj fk fo fp fq ft fu fw fx fy fz fA fB dR dS dT dU dV u138 fC fD fE fF fG fH fI fJ fK fL fM fO ir iu iv iw iy iz iA iB gh gi gj gl gp gq gu gy:Value) (h:∀(d117 d118 d119 d120 d121 d122 d123 d124 d125 d126 d127 d128 d129 d130 d131:Value),Q .normal (⟨#[u0,u1,u2,u3,u4,u5,u6,u7,u8,u9,eU,dF, .slice (some ⟨gw,0,none⟩) N cw,fU, .int .i64 (k:Nat), .slice Ab B.length cb, .string S,fX,fY,ei,ej,en,eo,u23,u24,gD,u26,gF,u28,gG,gH,gI,u32,u33,gJ,gK,gL,gM,gN,gO,gP,ep,er,eu,u44,ew,ey,ez,eB,eC,eD,eE,eF,eG,eH,eI,eJ,eK,eL,eM,jM,jN,jO,jP,u64,jQ,jR,jS,jJ,jK,jT,jU,j6,j7,j8,j9,ke,jy,jf,jg,jh,ji,jk,jl,jm,jn,jo,jq,jr,js,jt,ju,mD,mE,mF,mG,mH,mI,mJ,mK,gR,gS,gT,gU,gV,gW,eN,eO,eP,eQ,eR,eT,dM,dN,dO,dP,dQ,d117,d118,d119,d120,d121,d122,d123,d124,d125,d126,d127,d128,d129,d130,d131, .bool false,dR,dS,dT,dU,dV,u138,fC,fD,fE,fF,fG,fH,fI,fJ,fK,fL,fM,fO,ir,iu,iv,iw,iy,iz,iA,iB,gh,gi,gj,gl,gp,gq,gu,gy],[]⟩:Act) W0.drew):Code.wp Tryz.prog xO Q (⟨#[u0,u1,u2,u3,u4,u5,u6,u7,u8,u9,eU,dF, .slice (some ⟨gw,0,none⟩) N cw,fU, .int .i64 (k:Nat), .slice Ab B.length cb, .string S,fX,fY,ei,ej,en,eo,u23,u24,gD,u26,gF,u28,gG,gH,gI,u32,u33,gJ,gK,gL,gM,gN,gO,gP,ep,er,eu,u44,ew,ey,ez,eB,eC,eD,eE,eF,eG,eH,eI,eJ,eK,eL,eM,jM,jN,jO,jP,u64,jQ,jR,jS,jJ,jK,jT,jU,j6,j7,j8,j9,ke,jy,jf,jg,jh,ji,jk,jl,jm,jn,jo,jq,jr,js,jt,ju,mD,mE,mF,mG,mH,mI,mJ,mK,gR,gS,gT,gU,gV,gW,eN,eO,eP,eQ,eR,eT,dM,dN,dO,dP,dQ,fe,fg,fh,fj,fk,fo,fp,fq,ft,fu,fw,fx,fy,fz,fA,fB,dR,dS,dT,dU,dV,u138,fC,fD,fE,fF,fG,fH,fI,fJ,fK,fL,fM,fO,ir,iu,iv,iw,iy,iz,iA,iB,gh,gi,gj,gl,gp,gq,gu,gy],[]⟩:Act) W0:=by
 have HX:=aa h;clear h
 conv=>arg 2;whnf
 refine aA 7 (.rd 0 (.rd 1 (.rd 2 (.rd 3 (.rd 4 (.rd 5 (.rd 6 .fin))))))) (fun w'=>By w' M Ab B.length B∧w'.cell? ⟨gw,k*2,none⟩=some (.string ⟨B.toArray⟩)) (by kernel_rfl) (by kernel_rfl) hQ ⟨hby.step (Step.aH ((ai _ W0).drew)),cA⟩ ?_;clear hby cA;repeat
  refine aw (v:= ?_) (by rfl) (by rfl) (fun w' hS=> ?_) (fun K hK=> ?_);rotate_left
  ·have hcv:=bN (c:=cb) hS.1;have cA:=hS.2;clear hS;go_simp;try with_reducible rfl
  go_simp;refine hK _ ?_;clear hK K
 show wpList _ _ _ _ _ _;go_wp2;exact HX.out _ _ _ _ _ _ _ _ _ _ _ _ _ _ _
theorem RI {W0:World} {N cw cb k gw:Nat} {Ab:Option Addr} {S:ByteArray} {B:J.B} {M:Nat→Prop} {Q:Exit→Act→World→Prop} (hQ:∀c a d v w,Q (.panic c) (Act.put a d v) w→Q (.panic c) a w) (hby:By W0 M Ab B.length B) (cA:W0.cell? ⟨gw,k*2,none⟩=some (.string ⟨B.toArray⟩)) (hk:(k:Int)<(N:Nat)) (hs:(S.toList==[48,48])=false) (hs2:(S.toList==[48,50])=true) (u0 u1 u2 u3 u4 u5 u6 u7 u8 u9 eU dF fU fX fY ei ej en eo u23 u24 gD u26 gF u28 gG gH gI u32 u33 gJ gK gL gM gN gO gP ep er eu u44 ew ey ez eB eC eD eE eF eG eH eI eJ eK eL eM jM jN jO jP u64 jQ jR jS jJ jK jT jU j6 j7 j8 j9 ke jy jf jg jh ji jk jl jm jn jo jq jr js jt ju mD mE mF mG mH mI mJ mK gR gS gT gU gV gW eN eO eP eQ eR eT dM dN dO dP dQ fe fg fh fj fk fo fp fq ft fu fw fx fy fz fA fB dR dS dT dU dV u138 fC fD fE fF fG fH fI fJ fK fL fM fO ir iu iv iw iy iz iA iB gh gi gj gl gp gq gu gy:Value) (h:∀(d117 d118 d119 d120 d121 d122 d123 d124 d125 d126 d127 d128 d129 d130 d131:Value),Q .normal (⟨#[u0,u1,u2,u3,u4,u5,u6,u7,u8,u9,eU,dF, .slice (some ⟨gw,0,none⟩) N cw,fU, .int .i64 (k:Nat), .slice Ab B.length cb, .string S,fX,fY,ei,ej,en,eo,u23,u24,gD,u26,gF,u28,gG,gH,gI,u32,u33,gJ,gK,gL,gM,gN,gO,gP,ep,er,eu,u44,ew,ey,ez,eB,eC,eD,eE,eF,eG,eH,eI,eJ,eK,eL,eM,jM,jN,jO,jP,u64,jQ,jR,jS,jJ,jK,jT,jU,j6,j7,j8,j9,ke,jy,jf,jg,jh,ji,jk,jl,jm,jn,jo,jq,jr,js,jt,ju,mD,mE,mF,mG,mH,mI,mJ,mK,gR,gS,gT,gU,gV,gW,eN,eO,eP,eQ,eR,eT,dM,dN,dO,dP,dQ,d117,d118,d119,d120,d121,d122,d123,d124,d125,d126,d127,d128,d129,d130,d131, .bool false,dR,dS,dT,dU,dV,u138,fC,fD,fE,fF,fG,fH,fI,fJ,fK,fL,fM,fO,ir,iu,iv,iw,iy,iz,iA,iB,gh,gi,gj,gl,gp,gq,gu,gy],[]⟩:Act) W0.drew):Code.wp Tryz.prog xO Q (⟨#[u0,u1,u2,u3,u4,u5,u6,u7,u8,u9,eU,dF, .slice (some ⟨gw,0,none⟩) N cw,fU, .int .i64 (k:Nat), .slice Ab B.length cb, .string S,fX,fY,ei,ej,en,eo,u23,u24,gD,u26,gF,u28,gG,gH,gI,u32,u33,gJ,gK,gL,gM,gN,gO,gP,ep,er,eu,u44,ew,ey,ez,eB,eC,eD,eE,eF,eG,eH,eI,eJ,eK,eL,eM,jM,jN,jO,jP,u64,jQ,jR,jS,jJ,jK,jT,jU,j6,j7,j8,j9,ke,jy,jf,jg,jh,ji,jk,jl,jm,jn,jo,jq,jr,js,jt,ju,mD,mE,mF,mG,mH,mI,mJ,mK,gR,gS,gT,gU,gV,gW,eN,eO,eP,eQ,eR,eT,dM,dN,dO,dP,dQ,fe,fg,fh,fj,fk,fo,fp,fq,ft,fu,fw,fx,fy,fz,fA,fB,dR,dS,dT,dU,dV,u138,fC,fD,fE,fF,fG,fH,fI,fJ,fK,fL,fM,fO,ir,iu,iv,iw,iy,iz,iA,iB,gh,gi,gj,gl,gp,gq,gu,gy],[]⟩:Act) W0:=by
 have HX:=aa h;clear h
 conv=>arg 2;whnf
 refine aA 7 (.rd 0 (.rd 1 (.rd 2 (.rd 3 (.rd 4 (.rd 5 (.rd 6 .fin))))))) (fun w'=>By w' M Ab B.length B∧w'.cell? ⟨gw,k*2,none⟩=some (.string ⟨B.toArray⟩)) (by kernel_rfl) (by kernel_rfl) hQ ⟨hby.step (Step.aH ((ai _ W0).drew)),cA⟩ ?_;clear hby cA;repeat
  refine aw (v:= ?_) (by rfl) (by rfl) (fun w' hS=> ?_) (fun K hK=> ?_);rotate_left
  ·have hcv:=bN (c:=cb) hS.1;have cA:=hS.2;clear hS;go_simp;try with_reducible rfl
  go_simp;refine hK _ ?_;clear hK K
 show wpList _ _ _ _ _ _;go_wp2;exact HX.out _ _ _ _ _ _ _ _ _ _ _ _ _ _ _
theorem RJ {W0:World} {N cw:Nat} {Aw:Option Addr} {S:ByteArray} {Q:Exit→Act→World→Prop} (hc:(decide (0<N)=false∧(S.toList==[48,48])=false)∨(decide (0<N)=true∧(S.toList==[48,48])=true)) (u0 u1 u2 u3 u4 u5 u6 u7 u8 u9 eU dF fV fW u16 fX fY ei ej en eo u23 u24 gD u26 gF u28 gG gH gI u32 u33 gJ gK gL gM gN gO gP ep er eu u44 ew ey ez eB eC eD eE eF eG eH eI eJ eK eL eM jM jN jO jP u64 jQ jR jS jJ jK jT jU j6 j7 j8 j9 ke jy jf jg jh ji jk jl jm jn jo jq jr js jt ju mD mE mF mG mH mI mJ mK gR gS gT gU gV gW eN eO eP eQ eR eT dM dN dO dP dQ fe fg fh fj fk fo fp fq ft fu fw fx fy fz fA fB dR dS dT dU dV u138 fC fD fE fF fG fH fI fJ fK fL fM fO ir iu iv iw iy iz iA iB gh gi gj gl gp gq gu gy:Value) (h:∀(d100 d101 d102 d103 d104:Value),Q .normal (⟨#[u0,u1,u2,u3,u4,u5,u6,u7,u8,u9,eU,dF, .slice Aw N cw, .string S,fV,fW,u16,fX,fY,ei,ej,en,eo,u23,u24,gD,u26,gF,u28,gG,gH,gI,u32,u33,gJ,gK,gL,gM,gN,gO,gP,ep,er,eu,u44,ew,ey,ez,eB,eC,eD,eE,eF,eG,eH,eI,eJ,eK,eL,eM,jM,jN,jO,jP,u64,jQ,jR,jS,jJ,jK,jT,jU,j6,j7,j8,j9,ke,jy,jf,jg,jh,ji,jk,jl,jm,jn,jo,jq,jr,js,jt,ju,mD,mE,mF,mG,mH,mI,mJ,mK,d100,d101,d102,d103,d104, .bool false,eN,eO,eP,eQ,eR,eT,dM,dN,dO,dP,dQ,fe,fg,fh,fj,fk,fo,fp,fq,ft,fu,fw,fx,fy,fz,fA,fB,dR,dS,dT,dU,dV,u138,fC,fD,fE,fF,fG,fH,fI,fJ,fK,fL,fM,fO,ir,iu,iv,iw,iy,iz,iA,iB,gh,gi,gj,gl,gp,gq,gu,gy],[]⟩:Act) W0):Code.wp Tryz.prog xN Q (⟨#[u0,u1,u2,u3,u4,u5,u6,u7,u8,u9,eU,dF, .slice Aw N cw, .string S,fV,fW,u16,fX,fY,ei,ej,en,eo,u23,u24,gD,u26,gF,u28,gG,gH,gI,u32,u33,gJ,gK,gL,gM,gN,gO,gP,ep,er,eu,u44,ew,ey,ez,eB,eC,eD,eE,eF,eG,eH,eI,eJ,eK,eL,eM,jM,jN,jO,jP,u64,jQ,jR,jS,jJ,jK,jT,jU,j6,j7,j8,j9,ke,jy,jf,jg,jh,ji,jk,jl,jm,jn,jo,jq,jr,js,jt,ju,mD,mE,mF,mG,mH,mI,mJ,mK,gR,gS,gT,gU,gV,gW,eN,eO,eP,eQ,eR,eT,dM,dN,dO,dP,dQ,fe,fg,fh,fj,fk,fo,fp,fq,ft,fu,fw,fx,fy,fz,fA,fB,dR,dS,dT,dU,dV,u138,fC,fD,fE,fF,fG,fH,fI,fJ,fK,fL,fM,fO,ir,iu,iv,iw,iy,iz,iA,iB,gh,gi,gj,gl,gp,gq,gu,gy],[]⟩:Act) W0:=by
 rcases hc with⟨h1,h2⟩|⟨h1,h2⟩
 ·exact RB h1 h2 u0 u1 u2 u3 u4 u5 u6 u7 u8 u9 eU dF fV fW u16 fX fY ei ej en eo u23 u24 gD u26 gF u28 gG gH gI u32 u33 gJ gK gL gM gN gO gP ep er eu u44 ew ey ez eB eC eD eE eF eG eH eI eJ eK eL eM jM jN jO jP u64 jQ jR jS jJ jK jT jU j6 j7 j8 j9 ke jy jf jg jh ji jk jl jm jn jo jq jr js jt ju mD mE mF mG mH mI mJ mK gR gS gT gU gV gW eN eO eP eQ eR eT dM dN dO dP dQ fe fg fh fj fk fo fp fq ft fu fw fx fy fz fA fB dR dS dT dU dV u138 fC fD fE fF fG fH fI fJ fK fL fM fO ir iu iv iw iy iz iA iB gh gi gj gl gp gq gu gy h
 ·exact RD h1 h2 u0 u1 u2 u3 u4 u5 u6 u7 u8 u9 eU dF fV fW u16 fX fY ei ej en eo u23 u24 gD u26 gF u28 gG gH gI u32 u33 gJ gK gL gM gN gO gP ep er eu u44 ew ey ez eB eC eD eE eF eG eH eI eJ eK eL eM jM jN jO jP u64 jQ jR jS jJ jK jT jU j6 j7 j8 j9 ke jy jf jg jh ji jk jl jm jn jo jq jr js jt ju mD mE mF mG mH mI mJ mK gR gS gT gU gV gW eN eO eP eQ eR eT dM dN dO dP dQ fe fg fh fj fk fo fp fq ft fu fw fx fy fz fA fB dR dS dT dU dV u138 fC fD fE fF fG fH fI fJ fK fL fM fO ir iu iv iw iy iz iA iB gh gi gj gl gp gq gu gy h
theorem RL {W0:World} {N cw cb:Nat} {Aw Ab:Option Addr} {S:ByteArray} {Q:Exit→Act→World→Prop} (hc:Xp N S) (u0 u1 u2 u3 u4 u5 u6 u7 u8 u9 eU dF fU fV fW u16 ei ej en eo u23 u24 gD u26 gF u28 gG gH gI u32 u33 gJ gK gL gM gN gO gP ep er eu u44 ew ey ez eB eC eD eE eF eG eH eI eJ eK eL eM jM jN jO jP u64 jQ jR jS jJ jK jT jU j6 j7 j8 j9 ke jy jf jg jh ji jk jl jm jn jo jq jr js jt ju mD mE mF mG mH mI mJ mK gR gS gT gU gV gW eN eO eP eQ eR eT dM dN dO dP dQ fe fg fh fj fk fo fp fq ft fu fw fx fy fz fA fB dR dS dT dU dV u138 fC fD fE fF fG fH fI fJ fK fL fM fO ir iu iv iw iy iz iA iB gh gi gj gl gp gq gu gy:Value) (h:∀(d138 d139 d140 d141 d142 d143 d144 d145 d146 d147 d148 d149 d150 d151 d152 d153 d154 d155 d156 d157:Value),Q .normal (⟨#[u0,u1,u2,u3,u4,u5,u6,u7,u8,u9,eU,dF, .slice Aw N cw,fU,fV,fW,u16, .slice Ab 0 cb, .string S,ei,ej,en,eo,u23,u24,gD,u26,gF,u28,gG,gH,gI,u32,u33,gJ,gK,gL,gM,gN,gO,gP,ep,er,eu,u44,ew,ey,ez,eB,eC,eD,eE,eF,eG,eH,eI,eJ,eK,eL,eM,jM,jN,jO,jP,u64,jQ,jR,jS,jJ,jK,jT,jU,j6,j7,j8,j9,ke,jy,jf,jg,jh,ji,jk,jl,jm,jn,jo,jq,jr,js,jt,ju,mD,mE,mF,mG,mH,mI,mJ,mK,gR,gS,gT,gU,gV,gW,eN,eO,eP,eQ,eR,eT,dM,dN,dO,dP,dQ,fe,fg,fh,fj,fk,fo,fp,fq,ft,fu,fw,fx,fy,fz,fA,fB,dR,dS,dT,dU,dV,d138,d139,d140,d141,d142,d143,d144,d145,d146,d147,d148,d149,d150,d151,d152,d153,d154,d155,d156,d157, .bool false,gh,gi,gj,gl,gp,gq,gu,gy],[]⟩:Act) W0):Code.wp Tryz.prog xP Q (⟨#[u0,u1,u2,u3,u4,u5,u6,u7,u8,u9,eU,dF, .slice Aw N cw,fU,fV,fW,u16, .slice Ab 0 cb, .string S,ei,ej,en,eo,u23,u24,gD,u26,gF,u28,gG,gH,gI,u32,u33,gJ,gK,gL,gM,gN,gO,gP,ep,er,eu,u44,ew,ey,ez,eB,eC,eD,eE,eF,eG,eH,eI,eJ,eK,eL,eM,jM,jN,jO,jP,u64,jQ,jR,jS,jJ,jK,jT,jU,j6,j7,j8,j9,ke,jy,jf,jg,jh,ji,jk,jl,jm,jn,jo,jq,jr,js,jt,ju,mD,mE,mF,mG,mH,mI,mJ,mK,gR,gS,gT,gU,gV,gW,eN,eO,eP,eQ,eR,eT,dM,dN,dO,dP,dQ,fe,fg,fh,fj,fk,fo,fp,fq,ft,fu,fw,fx,fy,fz,fA,fB,dR,dS,dT,dU,dV,u138,fC,fD,fE,fF,fG,fH,fI,fJ,fK,fL,fM,fO,ir,iu,iv,iw,iy,iz,iA,iB,gh,gi,gj,gl,gp,gq,gu,gy],[]⟩:Act) W0:=by
 rcases hc with⟨h1,h2,h3⟩|⟨h1,h2,h3⟩
 ·exact RF h1 h2 h3 u0 u1 u2 u3 u4 u5 u6 u7 u8 u9 eU dF fU fV fW u16 ei ej en eo u23 u24 gD u26 gF u28 gG gH gI u32 u33 gJ gK gL gM gN gO gP ep er eu u44 ew ey ez eB eC eD eE eF eG eH eI eJ eK eL eM jM jN jO jP u64 jQ jR jS jJ jK jT jU j6 j7 j8 j9 ke jy jf jg jh ji jk jl jm jn jo jq jr js jt ju mD mE mF mG mH mI mJ mK gR gS gT gU gV gW eN eO eP eQ eR eT dM dN dO dP dQ fe fg fh fj fk fo fp fq ft fu fw fx fy fz fA fB dR dS dT dU dV u138 fC fD fE fF fG fH fI fJ fK fL fM fO ir iu iv iw iy iz iA iB gh gi gj gl gp gq gu gy h
 ·exact RG h1 h2 h3 u0 u1 u2 u3 u4 u5 u6 u7 u8 u9 eU dF fU fV fW u16 ei ej en eo u23 u24 gD u26 gF u28 gG gH gI u32 u33 gJ gK gL gM gN gO gP ep er eu u44 ew ey ez eB eC eD eE eF eG eH eI eJ eK eL eM jM jN jO jP u64 jQ jR jS jJ jK jT jU j6 j7 j8 j9 ke jy jf jg jh ji jk jl jm jn jo jq jr js jt ju mD mE mF mG mH mI mJ mK gR gS gT gU gV gW eN eO eP eQ eR eT dM dN dO dP dQ fe fg fh fj fk fo fp fq ft fu fw fx fy fz fA fB dR dS dT dU dV u138 fC fD fE fF fG fH fI fJ fK fL fM fO ir iu iv iw iy iz iA iB gh gi gj gl gp gq gu gy h
theorem RM {W0:World} {N cw cb k gw:Nat} {Ab:Option Addr} {B st:J.B} {M:Nat→Prop} {Q:Exit→Act→World→Prop} (hQ:∀c a d v w,Q (.panic c) (Act.put a d v) w→Q (.panic c) a w) (hby:By W0 M Ab B.length B) (cA:W0.cell? ⟨gw,k*2,none⟩=some (.string ⟨B.toArray⟩)) (hk:(k:Int)<(N:Nat)) (hc:st=X.good∨st=[48,50]) (u0 u1 u2 u3 u4 u5 u6 u7 u8 u9 eU dF fU fX fY ei ej en eo u23 u24 gD u26 gF u28 gG gH gI u32 u33 gJ gK gL gM gN gO gP ep er eu u44 ew ey ez eB eC eD eE eF eG eH eI eJ eK eL eM jM jN jO jP u64 jQ jR jS jJ jK jT jU j6 j7 j8 j9 ke jy jf jg jh ji jk jl jm jn jo jq jr js jt ju mD mE mF mG mH mI mJ mK gR gS gT gU gV gW eN eO eP eQ eR eT dM dN dO dP dQ fe fg fh fj fk fo fp fq ft fu fw fx fy fz fA fB dR dS dT dU dV u138 fC fD fE fF fG fH fI fJ fK fL fM fO ir iu iv iw iy iz iA iB gh gi gj gl gp gq gu gy:Value) (h:∀(d117 d118 d119 d120 d121 d122 d123 d124 d125 d126 d127 d128 d129 d130 d131:Value),Q .normal (⟨#[u0,u1,u2,u3,u4,u5,u6,u7,u8,u9,eU,dF, .slice (some ⟨gw,0,none⟩) N cw,fU, .int .i64 (k:Nat), .slice Ab B.length cb, .string ⟨st.toArray⟩,fX,fY,ei,ej,en,eo,u23,u24,gD,u26,gF,u28,gG,gH,gI,u32,u33,gJ,gK,gL,gM,gN,gO,gP,ep,er,eu,u44,ew,ey,ez,eB,eC,eD,eE,eF,eG,eH,eI,eJ,eK,eL,eM,jM,jN,jO,jP,u64,jQ,jR,jS,jJ,jK,jT,jU,j6,j7,j8,j9,ke,jy,jf,jg,jh,ji,jk,jl,jm,jn,jo,jq,jr,js,jt,ju,mD,mE,mF,mG,mH,mI,mJ,mK,gR,gS,gT,gU,gV,gW,eN,eO,eP,eQ,eR,eT,dM,dN,dO,dP,dQ,d117,d118,d119,d120,d121,d122,d123,d124,d125,d126,d127,d128,d129,d130,d131, .bool false,dR,dS,dT,dU,dV,u138,fC,fD,fE,fF,fG,fH,fI,fJ,fK,fL,fM,fO,ir,iu,iv,iw,iy,iz,iA,iB,gh,gi,gj,gl,gp,gq,gu,gy],[]⟩:Act) W0.drew):Code.wp Tryz.prog xO Q (⟨#[u0,u1,u2,u3,u4,u5,u6,u7,u8,u9,eU,dF, .slice (some ⟨gw,0,none⟩) N cw,fU, .int .i64 (k:Nat), .slice Ab B.length cb, .string ⟨st.toArray⟩,fX,fY,ei,ej,en,eo,u23,u24,gD,u26,gF,u28,gG,gH,gI,u32,u33,gJ,gK,gL,gM,gN,gO,gP,ep,er,eu,u44,ew,ey,ez,eB,eC,eD,eE,eF,eG,eH,eI,eJ,eK,eL,eM,jM,jN,jO,jP,u64,jQ,jR,jS,jJ,jK,jT,jU,j6,j7,j8,j9,ke,jy,jf,jg,jh,ji,jk,jl,jm,jn,jo,jq,jr,js,jt,ju,mD,mE,mF,mG,mH,mI,mJ,mK,gR,gS,gT,gU,gV,gW,eN,eO,eP,eQ,eR,eT,dM,dN,dO,dP,dQ,fe,fg,fh,fj,fk,fo,fp,fq,ft,fu,fw,fx,fy,fz,fA,fB,dR,dS,dT,dU,dV,u138,fC,fD,fE,fF,fG,fH,fI,fJ,fK,fL,fM,fO,ir,iu,iv,iw,iy,iz,iA,iB,gh,gi,gj,gl,gp,gq,gu,gy],[]⟩:Act) W0:=by
 rcases hc with rfl|rfl
 ·exact RH hQ hby cA hk (by kernel_rfl) u0 u1 u2 u3 u4 u5 u6 u7 u8 u9 eU dF fU fX fY ei ej en eo u23 u24 gD u26 gF u28 gG gH gI u32 u33 gJ gK gL gM gN gO gP ep er eu u44 ew ey ez eB eC eD eE eF eG eH eI eJ eK eL eM jM jN jO jP u64 jQ jR jS jJ jK jT jU j6 j7 j8 j9 ke jy jf jg jh ji jk jl jm jn jo jq jr js jt ju mD mE mF mG mH mI mJ mK gR gS gT gU gV gW eN eO eP eQ eR eT dM dN dO dP dQ fe fg fh fj fk fo fp fq ft fu fw fx fy fz fA fB dR dS dT dU dV u138 fC fD fE fF fG fH fI fJ fK fL fM fO ir iu iv iw iy iz iA iB gh gi gj gl gp gq gu gy h
 ·exact RI hQ hby cA hk (by kernel_rfl) (by kernel_rfl) u0 u1 u2 u3 u4 u5 u6 u7 u8 u9 eU dF fU fX fY ei ej en eo u23 u24 gD u26 gF u28 gG gH gI u32 u33 gJ gK gL gM gN gO gP ep er eu u44 ew ey ez eB eC eD eE eF eG eH eI eJ eK eL eM jM jN jO jP u64 jQ jR jS jJ jK jT jU j6 j7 j8 j9 ke jy jf jg jh ji jk jl jm jn jo jq jr js jt ju mD mE mF mG mH mI mJ mK gR gS gT gU gV gW eN eO eP eQ eR eT dM dN dO dP dQ fe fg fh fj fk fo fp fq ft fu fw fx fy fz fA fB dR dS dT dU dV u138 fC fD fE fF fG fH fI fJ fK fL fM fO ir iu iv iw iy iz iA iB gh gi gj gl gp gq gu gy h
theorem HX.Zc {w0:World} {p pf q g c u:Nat} {nm:J.B} {fs:List (Nat×Obj)} {mf mm:X.M} {w:World} (h:HX w0 p pf nm u q g c fs mf mm w):∃s,At w0 p fs s w:=by
 obtain⟨ks,h1,⟨L,s,f,g,c,ok,h⟩,_⟩:=h.file;exact⟨s,h.at_.less (fun x hx=>af _ (af _ (h1 x hx)))⟩
theorem RN {w W0:World} {p pf q g c gb cb k:Nat} {o:Obj} {ks:List X.Ky} {L:List J.B} {l:J.B} {Q:Exit→Act→World→Prop} (hQ:∀c a d v w,Q (.panic c) (Act.put a d v) w→Q (.panic c) a w) (hx:HX w p pf [102] (1+k) q g c [(gb,o)] (X.iq ks L k) (X.iq ks L k) W0) (hk:k≤300) (hl:L[k]? =some l) (kz:Sl W0 bL (.slice (some ⟨gb,0,none⟩) 5 cb) (X.nB l)) (u0 u1 u2 u3 u4 u5 u8 u9 dF kj fU fV fW u16 fX fY ei ej en eo u23 u24 gD u26 gF u28 gG gH gI u32 u33 gJ gK gL gM gN gO gP ep er eu u44 ew ey ez eB eC eD eE eF eG eH eI eJ eK eL eM jM jN jO jP u64 jQ jR jS jJ jK jT jU j6 j7 j8 j9 ke jy jf jg jh ji jk jl jm jn jo jq jr js jt ju mD mE mF mG mH mI mJ mK gR gS gT gU gV gW eN eO eP eQ eR eT dM dN dO dP dQ fe fg fh fj fk fo fp fq ft fu fw fx fy fz fA fB dR dS dT dU dV u138 fC fD fE fF fG fH fI fJ fK fL fM fO ir iu iv iw iy iz iA iB gh gi gj gl gp gq gu gy:Value) (h:∀(d70 d71 d72 d73 d74 d75 d76:Value) (W':World),HX w p pf [102] (1+(k+1)) q g c [] (X.iq ks L (k+1)) (X.iq ks L (k+1)) W'→Q .normal (⟨#[u0,u1,u2,u3,u4,u5, .pointer (some ⟨q,0,none⟩), .pointer (some ⟨pf,0,none⟩),u8,u9, .slice (some ⟨gb,0,none⟩) 5 cb,dF,kj,fU,fV,fW,u16,fX,fY,ei,ej,en,eo,u23,u24,gD,u26,gF,u28,gG,gH,gI,u32,u33,gJ,gK,gL,gM,gN,gO,gP,ep,er,eu,u44,ew,ey,ez,eB,eC,eD,eE,eF,eG,eH,eI,eJ,eK,eL,eM,jM,jN,jO,jP,u64,jQ,jR,jS,jJ,jK,d70,d71,d72,d73,d74,d75,d76, .bool false,jf,jg,jh,ji,jk,jl,jm,jn,jo,jq,jr,js,jt,ju,mD,mE,mF,mG,mH,mI,mJ,mK,gR,gS,gT,gU,gV,gW,eN,eO,eP,eQ,eR,eT,dM,dN,dO,dP,dQ,fe,fg,fh,fj,fk,fo,fp,fq,ft,fu,fw,fx,fy,fz,fA,fB,dR,dS,dT,dU,dV,u138,fC,fD,fE,fF,fG,fH,fI,fJ,fK,fL,fM,fO,ir,iu,iv,iw,iy,iz,iA,iB,gh,gi,gj,gl,gp,gq,gu,gy],[]⟩:Act) W'):Code.wp Tryz.prog Lm Q (⟨#[u0,u1,u2,u3,u4,u5, .pointer (some ⟨q,0,none⟩), .pointer (some ⟨pf,0,none⟩),u8,u9, .slice (some ⟨gb,0,none⟩) 5 cb,dF,kj,fU,fV,fW,u16,fX,fY,ei,ej,en,eo,u23,u24,gD,u26,gF,u28,gG,gH,gI,u32,u33,gJ,gK,gL,gM,gN,gO,gP,ep,er,eu,u44,ew,ey,ez,eB,eC,eD,eE,eF,eG,eH,eI,eJ,eK,eL,eM,jM,jN,jO,jP,u64,jQ,jR,jS,jJ,jK,jT,jU,j6,j7,j8,j9,ke,jy,jf,jg,jh,ji,jk,jl,jm,jn,jo,jq,jr,js,jt,ju,mD,mE,mF,mG,mH,mI,mJ,mK,gR,gS,gT,gU,gV,gW,eN,eO,eP,eQ,eR,eT,dM,dN,dO,dP,dQ,fe,fg,fh,fj,fk,fo,fp,fq,ft,fu,fw,fx,fy,fz,fA,fB,dR,dS,dT,dU,dV,u138,fC,fD,fE,fF,fG,fH,fI,fJ,fK,fL,fM,fO,ir,iu,iv,iw,iy,iz,iA,iB,gh,gi,gj,gl,gp,gq,gu,gy],[]⟩:Act) W0:=by
 have O6:=aa h;clear h
 conv=>arg 2;whnf
 have hs1:((X.iq ks L k).write (X.nB l)).1=X.iq ks L (k+1):=by
  show _=((X.iq ks L k).write (X.nB (L[k]?.getD []))).1;rw[hl];rfl
 have hne:X.nB l≠[]:=fun e=>by have:=X.uQ l;rw[e]at this;cases this
 have jb:=X.uQ l;have hby:By W0 bL (some ⟨gb,0,none⟩) 5 (X.nB l):=by
  rcases kz with⟨_,_,e⟩|⟨b',o',c',e,_,_,h3⟩
  ·exact absurd e hne
  ·injection e with e1 e2 e3;injection e1 with e1;injection e1 with e1 e4;subst e1 e4;rw[jb]at h3;exact h3
 have HM:=aa hx.mok;have OB:Hid (Src w p [(gb,o)] (.slice (some ⟨gb,0,none⟩) 5 cb) (X.nB l)):=aa (Dj kz hne (hx.get ae) ae);have HH:Hid (HX w p pf [102] (1+k) q g c [(gb,o)] (X.iq ks L k) (X.iq ks L k) W0.drew):=aa (hx.below ((ai _ W0).drew));refine aA 6 (.rd 0 (.rd 1 (.rd 3 (.rd 4 (.rd 5 (.wr 2 .fin)))))) (fun w'=>By w' bL (some ⟨gb,0,none⟩) 5 (X.nB l)) (by kernel_rfl) (by kernel_rfl) hQ (hby.step (Step.aH ((ai _ W0).drew))) ?_;clear hby hx kz hl hne;generalize W0.drew=V at HH⊢;have HW:Hid (∀W,HX w p pf [102] (1+(k+1)) q g c [(gb,o)] (X.iq ks L (k+1)) (X.iq ks L (k+1)) W→HX w p pf [102] (1+(k+1)) q g c [] (X.iq ks L (k+1)) (X.iq ks L (k+1)) W):=aa (fun W h=>h.gZ (fun x hx=>by cases hx));have FK:=aa (wG HH.out (by omega) _ _ OB.out (Prod.eta _).symm);have RO:=aa (fun W (h:HX w p pf [102] (1+k+1) q g c [(gb,o)] ((X.iq ks L k).write (X.nB l)).1 (X.iq ks L k) W)=>Fl h HM.out (by omega) (X.nB l) (by omega) (Prod.eta _).symm);rw[hs1]at FK RO;generalize((X.iq ks L k).write (X.nB l)).2=st at FK RO;generalize X.nB l=bb at FK RO OB jb⊢;clear hs1;repeat
  refine aw (v:= ?_) (by rfl) (by rfl) (fun w' hS=> ?_) (fun K hK=> ?_);rotate_left
  ·have hcv:=bN (c:=cb) hS;clear hS;go_simp;try with_reducible rfl
  go_simp;refine hK _ ?_;clear hK K
 refine wpPm_write (by rfl) (fun K hK=> ?_);go_simp;refine(FK.out).mono ?_;rintro e W1 ⟨rfl,h1⟩;have RP:=aa (RO.out W1 h1);have nO:=aa (show By W1 bL (some ⟨gb,0,none⟩) 5 bb by
  obtain⟨_,h9⟩:=h1.Zc;rcases(OB.out _ _ _ (fun x hx=>hx) h9)with⟨_,_,e⟩|⟨b',o',c',e,_,_,h3⟩
  ·rw[e]at jb;cases jb
  ·injection e with e1 e2 e3;injection e1 with e1;injection e1 with e1 e4;subst e1 e4;rw[jb]at h3;exact h3)
 refine hK.out _ _ (fun w'=>By w' bL (some ⟨gb,0,none⟩) 5 bb) (fun _ h=>h) nO.out ?_;clear hK K h1 nO FK RO;show wpList _ _ _ _ _ _;go_wp2_with fail;refine(RP.out).mono ?_;rintro e W2 ⟨rfl,h2⟩;have H2:=aa (HW.out W2 (h2.mono (by omega)));clear h2 RP HW;go_wp2;exact O6.out _ _ _ _ _ _ _ _ H2.out
end Go.Proofs.YtipljcmmokaokaaGreat
