import Derived.Test.YtipljcmmokaokaaGreatQM25
set_option linter.unusedVariables false
set_option linter.unusedSimpArgs false
set_option maxHeartbeats 40000000
namespace Go.Proofs.YtipljcmmokaokaaGreat
open Go.RowKit Go.Lib Go.Maps Go.WideMaps Go.Sort
set_option maxRecDepth 100000
section
variable {w0 : World} {p pf g c size ct u : Nat} {nm : J.B} {ks : List X.Ky} {rows : List X.Row} {f : Fv} {w w' : World} {s s1 s2 : J.St} {fs : List (Nat × Obj)} {ok : Obj}
variable {s' : J.St}
theorem ma {A B C:World} {r:Option Nat} (h1:A.grownBy B r) (h2:B.grownBy C r):A.grownBy C r:=
 ⟨h2.os.trans h1.os,h2.tape.trans h1.tape,h2.output.trans h1.output,aw h1.size h2.size,λk hk hn=>(h2.block k (av hk h1.size) hn).trans (h1.block k hk hn)⟩
theorem FP (hk:X.eo ks size) (nm:J.B):X.iw nm (X.attr size ks) ks [] 0 [(X.own nm,X.attr size ks)]:=by
 refine X.eP.same (X.Kb nm (X.attr size ks) ks.length (X.lens ks)) (λp v=> ?_) (λi p t q _ _=> ?_) (λi p t q h=> ?_)
 ·exact⟨λ⟨_,h,_⟩=>(by cases h),λh=>h.elim⟩
 ·exact⟨λ⟨_,h,_⟩=>(by cases h),λh=>h.elim⟩
 ·obtain⟨_,h,_⟩:=h;cases h
theorem FQ:(∀{w0:World} {p pf g c size u:Nat} {nm:J.B} {ks:List X.Ky} {f:Fv} {w:World} {s:J.St} {fs:List (Nat×Obj)} {ok:Obj} {s':J.St} (h:At w0 p ((pf,ax p nm size g ks.length c f)::fs) s w) (hf:∀x∈fs,x.1≠pf) (bC:(g,ok)∈fs) (hO:bJ ok ks) (bY:X.eo ks size) (ho:s.opn=false) (hs:X.pn u s'.now s') (hu:u≤340) (hs':J.cA (J.cM s)=s') (Ix:nm.length≤100∧1≤nm.length) (gB:f.mode=0) (od:Bool) (md:Nat) (pJ:1≤md∧md≤4) (GG:md=2) {n:Nat} (hlk:J.look s'.now (X.own nm)=none) (hk:keysOf s'.now ⟨(nm++[0]).toArray⟩=s'.now.map (·.1)) (dV:∀k∈s'.now.map (·.1),k.length≤n) (hn:n≤300) (Eh:(3+n)*s'.now.length+9+nm.length+(X.attr size ks).length≤11900),Calls Tryz.prog 12 #[.pointer (some ⟨pf,0,none⟩), .int .u8 (md:Nat), .bool od] w λe w'=>e= .returned (.string ⟨#[48,48]⟩)∧At w0 p ((pf,ax p nm size g ks.length c {f with mode:=2,ord:=od,key:=0,at_:=X.pre nm 0,same:=true,lost:=false,read:=false,written:=[]})::fs) (J.aL (X.opened s' (X.fz (s'.now.map (·.1))++[⟨X.own nm,X.attr size ks,false⟩]) [(X.own nm,X.attr size ks)])) w')∧(∀{w0:World} {p pf g c size u:Nat} {nm:J.B} {ks:List X.Ky} {f:Fv} {w:World} {s:J.St} {fs:List (Nat×Obj)} {ok:Obj} {s':J.St} (h:At w0 p ((pf,ax p nm size g ks.length c f)::fs) s w) (hf:∀x∈fs,x.1≠pf) (bC:(g,ok)∈fs) (hO:bJ ok ks) (bY:X.eo ks size) (ho:s.opn=false) (hs:X.pn u s'.now s') (hu:u≤340) (hs':J.cA (J.cM s)=s') (Ix:nm.length≤100∧1≤nm.length) (gB:f.mode=0) (od:Bool) (md:Nat) (pJ:1≤md∧md≤4) (GG:md=2) {n:Nat} (a:J.B) (FL:a.length≤90000000) (hlk:J.look s'.now (X.own nm)=some a) (hk:keysOf s'.now ⟨(nm++[0]).toArray⟩=s'.now.map (·.1)) (dV:∀k∈s'.now.map (·.1),k.length≤n) (hn:n≤300) (Eh:(3+n)*s'.now.length+9+nm.length+(X.attr size ks).length≤11900),Calls Tryz.prog 12 #[.pointer (some ⟨pf,0,none⟩), .int .u8 (md:Nat), .bool od] w λe w'=>e= .returned (.string ⟨#[48,48]⟩)∧At w0 p ((pf,ax p nm size g ks.length c {f with mode:=2,ord:=od,key:=0,at_:=X.pre nm 0,same:=true,lost:=false,read:=false,written:=[]})::fs) (J.aL (X.opened s' (X.fz (s'.now.map (·.1))++[⟨X.own nm,X.attr size ks,false⟩]) [(X.own nm,X.attr size ks)])) w')∧(∀{w0:World} {p pf g c size ct:Nat} {nm:J.B} {ks:List X.Ky} {rows:List X.Row} {f:Fv} {w:World} {s:J.St} {fs:List (Nat×Obj)} {ok:Obj} {s':J.St} (h:At w0 p ((pf,ax p nm size g ks.length c f)::fs) s w) (hf:∀x∈fs,x.1≠pf) (bC:(g,ok)∈fs) (hO:bJ ok ks) (bY:X.eo ks size) (ho:s.opn=false) (hs':J.cA (J.cM s)=s') (ht:J.Two s') (nA:nm.length≤100) (gB:f.mode=0) (od:Bool) (md:Nat) (pJ:1≤md∧md≤4) (GG:md≠2) (hX:XF nm size ks rows ct s'.now),Calls Tryz.prog 12 #[.pointer (some ⟨pf,0,none⟩), .int .u8 (md:Nat), .bool od] w λe w'=>e= .returned (.string ⟨#[48,48]⟩)∧At w0 p ((pf,ax p nm size g ks.length c {f with mode:=md,ord:=od,key:=0,at_:=X.pre nm 0,same:=true,lost:=false,read:=false,written:=if md=4 then X.nJ ks rows else []})::fs) s' w')∧(∀{w0:World} {p pf g c size:Nat} {nm:J.B} {ks:List X.Ky} {f:Fv} {w:World} {s:J.St} {fs:List (Nat×Obj)} {ok:Obj} {s':J.St} (h:At w0 p ((pf,ax p nm size g ks.length c f)::fs) s w) (hf:∀x∈fs,x.1≠pf) (bC:(g,ok)∈fs) (hO:bJ ok ks) (bY:X.eo ks size) (ho:s.opn=false) (hs':J.cA (J.cM s)=s') (ht:J.Two s') (nA:nm.length≤100) (gB:f.mode=0) (od:Bool) (md:Nat) (pJ:1≤md∧md≤4) (GG:md≠2) (hlk:J.look s'.now (X.own nm)=none),Calls Tryz.prog 12 #[.pointer (some ⟨pf,0,none⟩), .int .u8 (md:Nat), .bool od] w λe w'=>e= .returned (.string ⟨#[51,53]⟩)∧At w0 p ((pf,ax p nm size g ks.length c f)::fs) s' w'):=by
 refine⟨?z0, ?z1, ?z2, ?z3⟩
 case' z0=>intro w0 p pf g c size u nm ks f w s fs ok s' h hf bC hO bY ho hs hu hs' Ix gB od md pJ GG n hlk hk dV hn Eh
 case' z1=>(intro w0 p pf g c size u nm ks f w s fs ok s' h hf bC hO bY ho hs hu hs' Ix gB od md pJ GG n a FL hlk hk dV hn Eh;have aH:=trivial)
 case' z2=>(intro w0 p pf g c size ct nm ks rows f w s fs ok s' h hf bC hO bY ho hs' ht nA gB od md pJ GG hX;have aJ:=trivial)
 case' z3=>(intro w0 p pf g c size nm ks f w s fs ok s' h hf bC hO bY ho hs' ht nA gB od md pJ GG hlk;have aT:=trivial)
 all_goals
  first
   |have aT:=aT
    skip
   |skip
    first
     |have aJ:=aJ
      have hlk:J.look s'.now (X.own nm)=some (X.attr size ks):=hX.con.own;have SJ:(X.attr size ks==X.attr size ks)=true:=(by simp);have FL:(X.attr size ks).length≤90000000:=(by rw[X.gg];have:=bY.one;omega);have HX:=ae hX
      skip
     |have UC:=ae Ix.2
      have nA:=Ix.1;clear Ix;have ht:J.Two s':=hs.two
    generalize UD:(⟨(X.pre nm 0).toArray⟩:ByteArray)=pp;have Qa:=ae UD;first
     |have aJ:=aJ
      generalize hwr:(if md=4 then X.nJ ks rows else [])=wr;have Yi:=ae hwr;clear hX UD hwr
     |clear UD
      have iE:=bY;have Fs:=FP (nm:=nm) iE;have Yj:(J.aL (X.opened s' (X.fz (s'.now.map (·.1))++[⟨X.own nm,X.attr size ks,false⟩]) [(X.own nm,X.attr size ks)])).now=[(X.own nm,X.attr size ks)]:=rfl;obtain⟨st,hst⟩:∃st,st=J.aL (X.opened s' (X.fz (s'.now.map (·.1))++[⟨X.own nm,X.attr size ks,false⟩]) [(X.own nm,X.attr size ks)]):=⟨_,rfl⟩;have JJ:Hid (∀W Bf Bo,At w0 p ((pf,ax p nm size g ks.length c f)::(Bo,aS ⟨(X.own nm).toArray⟩)::(Bf,aO pf)::fs) s' W→Calls Tryz.prog 45 #[.pointer (some ⟨pf,0,none⟩), .func (.func 46) #[] #[.pointer (some ⟨Bf,0,none⟩), .pointer (some ⟨Bo,0,none⟩)]] W λe w'=>e= .returned (.string ⟨#[48,48]⟩)∧At w0 p ((pf,ax p nm size g ks.length c f)::(Bo,aS ⟨(X.own nm).toArray⟩)::(Bf,aO pf)::fs) st w'∧J.Two st∧XF nm size ks [] 0 st.now):=ae (λW Bf Bo hW=>by
       have hu:=pE hW af hs.opn 46 #[.pointer (some ⟨Bf,0,none⟩), .pointer (some ⟨Bo,0,none⟩)]
        (λxs w=>enters_of Tryz.func46 (by kernel_rfl) rfl xs w) (λs1=>s1=(X.opened s' (X.fz (s'.now.map (·.1))++[⟨X.own nm,X.attr size ks,false⟩]) [(X.own nm,X.attr size ks)])∧X.Tx u s' s1 [(X.own nm,X.attr size ks)])
        (λw1 h1=>(Ip hs hu h1 af (ag _ (ag _ (ag _ bC))) hO bY Bf Bo (ag _ (ag _ af)) (ag _ af) nA hk dV hn Eh).mono (λe w' hh=>⟨hh.1,_,hh.2.1,rfl,hh.2.2⟩))
        (λs1 w1 h1 h2=>rV h2.2 _ _ h1)
       refine hu.mono ?_;rintro e w' ⟨he,s1,h1,rfl,h2⟩;rw[hst];refine⟨he,h1,h2.sto.two, ?_⟩;rw[Yj];have acg:∀k,J.look [(X.own nm,X.attr size ks)] k=if X.own nm=k then some (X.attr size ks)else none:=λk=>by unfold J.look;simp only[List.find?];split<;>simp_all [J.look]
       exact⟨Fs,⟨by simp,by simp,by simp,by simp,List.Pairwise.nil,λ_ _ _=>List.Pairwise.nil,λ_ _ _ _=>List.Pairwise.nil⟩,bY,by decide,UC.out,nA,by simp,λk l dV=>by
        have hl2:l=X.attr size ks:=by
         rw[acg]at dV;split at dV
         ·injection dV with e;exact e.symm
         ·cases dV
        rw[hl2,X.gg];have:=bY.one;omega⟩)
      rw[←hst];clear iE Fs Yj hst hs hk dV hn Eh hu
  obtain⟨hB,hf2⟩:=h.rX hf (aO pf);have HR:=ae (fL (hB.get af));have HI:=ae (wV hB af ho);rw[hs']at HI;have AQ:=ae hf2;have m1:¬(md:Int)<1:=(by omega);have m2:¬(4:Int)<(md:Nat):=(by omega);have JG:=ae nA;have RP:=ae hlk;first
   |have aT:=aT
    have SK:=ae ((λl e=>nomatch e:∀l:J.B,(none:Option J.B)=some l→l.length≤90000000))
    skip
   |have aJ:=aJ
    have SK:=ae ((λl e=>(by injection e with e;rw[←e];exact FL):∀l:J.B,some (X.attr size ks)=some l→l.length≤90000000))
    skip
   |have aH:=aH
    have SK:=ae ((λl e=>(by injection e with e;rw[←e];exact FL):∀l:J.B,some a=some l→l.length≤90000000))
    skip
   |have SK:=ae ((λl e=>nomatch e:∀l:J.B,(none:Option J.B)=some l→l.length≤90000000))
  have HT:=ae ht;have lj:=ae bC;have HO:=ae hO;have gp:=ae bY;have Ju:((f.mode:Int) !=0)=false:=(by rw[gB];rfl);first
   |have aT:=aT
    have m3:((md:Int) !=2)=true:=(by simp;omega);have m4:((md:Int)==2)=false:=(by simp;omega);clear GG
   |have aJ:=aJ
    have m3:((md:Int) !=2)=true:=(by simp;omega);have m4:((md:Int)==2)=false:=(by simp;omega);clear GG
   |have m5:((md:Int)==4)=false:=by rw[GG];rfl
    have m3:((md:Int) !=2)=false:=(by rw[GG];rfl);have m4:((md:Int)==2)=true:=by rw[GG];rfl
  clear nA hlk ht bC hO bY hs';clear h hf ho hB hf2 pJ;go_enter Tryz.func12,Tryz.ntmps12;go_wp2_with fail;refine HR.out.mono ?_;rintro e w1 ⟨rfl,hw⟩;subst hw;clear HR;go_wp2_with fail;refine HI.out.mono ?_;rintro e w2 ⟨rfl,ha⟩;have HA:=ae ha;have hc:=aj w2 pf (ha.get af);have dM:=aj w2 w.heap.size (ha.get (ag _ af));clear ha HI;have HU:=ae (fJ nm [65] w2 w2.heap.size rfl (by have:=JG.out;omega) (by simp));have e1:nm++0::[65]=X.own nm:=rfl;rw[e1]at HU;go_wp2_with fail;refine HU.out.mono ?_;rintro e w3 ⟨rfl,hb⟩;have cU:=ae (HA.out.below hb);clear hb HU e1 HA;have hA4:=cU.out.rX AQ.out (aS ⟨(X.own nm).toArray⟩);have cZ:=ae hA4.1;have Mn:=ae hA4.2;clear hA4 hc dM AQ;have gT:=ae (fk (cZ.out.below ((ak _ _).drew)) (X.own nm) (by rw[X.mz];have:=JG.out;omega) (by rw[RP.out];exact SK.out));rw[RP.out]at gT;first
   |have aT:=aT
    generalize(⟨(X.own nm).toArray⟩:ByteArray)=on at cZ Mn gT
   |have aJ:=aJ
    generalize(⟨(X.own nm).toArray⟩:ByteArray)=on at cZ Mn gT
   |generalize(⟨(X.own nm).toArray⟩:ByteArray)=on at cZ Mn gT JJ
  go_wp2_with fail;clear Ju gB;refine aD 10 (.rd 0 (.rd 1 (.rd 2 (.rd 3 (.rd 4 (.wr 5 (.rd 6 (.rd 7 (.rd 8 (.wr 9 .fin)))))))))) (λw'=>At w0 p ((pf,ax p nm size g ks.length c f)::(w3.heap.size,aS on)::(w.heap.size,aO pf)::fs) s' w') (by kernel_rfl) (by kernel_rfl) (λc a d v w h=>by cases d<;>exact h) (cZ.out.below ((ak _ _).drew)) ?_;repeat
   refine az (v:= ?_) (by rfl) (by rfl) (λw' hS=> ?_) (λK hK=> ?_);rotate_left
   ·have hc:=aj w' pf (hS.get (af:(pf,ax p nm size g ks.length c f)∈(pf,ax p nm size g ks.length c f)::(w3.heap.size,aS on)::(w.heap.size,aO pf)::fs));have hbo:=aj w' w3.heap.size (hS.get (ag _ af:(w3.heap.size,aS on)∈(pf,ax p nm size g ks.length c f)::(w3.heap.size,aS on)::(w.heap.size,aO pf)::fs));have dM:=aj w' w.heap.size (hS.get (ag _ (ag _ af):(w.heap.size,aO pf)∈(pf,ax p nm size g ks.length c f)::(w3.heap.size,aS on)::(w.heap.size,aO pf)::fs));clear hS;go_simp;try with_reducible rfl
   go_simp;refine hK _ ?_;clear hK K
  refine wpPm_write (by rfl) (λK hK=> ?_);go_simp;refine(gT.out).mono ?_;rintro e w5 ⟨v,rfl,hs5,vW,lh⟩;have eI:=ae vW;have zN:=ae hs5;clear vW hs5 lh gT;refine hK.out _ _ (λw'=>At w0 p ((pf,ax p nm size g ks.length c f)::(w3.heap.size,aS on)::(w.heap.size,aO pf)::fs) s' w') (λ_ h=>h) eI.out ?_;clear hK K;repeat
   refine az (v:= ?_) (by rfl) (by rfl) (λw' hS=> ?_) (λK hK=> ?_);rotate_left
   ·have hc:=aj w' pf (hS.get (af:(pf,ax p nm size g ks.length c f)∈(pf,ax p nm size g ks.length c f)::(w3.heap.size,aS on)::(w.heap.size,aO pf)::fs));have hbo:=aj w' w3.heap.size (hS.get (ag _ af:(w3.heap.size,aS on)∈(pf,ax p nm size g ks.length c f)::(w3.heap.size,aS on)::(w.heap.size,aO pf)::fs));have dM:=aj w' w.heap.size (hS.get (ag _ (ag _ af):(w.heap.size,aO pf)∈(pf,ax p nm size g ks.length c f)::(w3.heap.size,aS on)::(w.heap.size,aO pf)::fs));clear hS;go_simp;try with_reducible rfl
   go_simp;refine hK _ ?_;clear hK K
  refine wpPm_write (by rfl) (λK hK=> ?_);go_simp;refine hK.out _ _ (λw'=>At w0 p ((pf,ax p nm size g ks.length c f)::(w3.heap.size,aS on)::(w.heap.size,aO pf)::fs) s' w') (λ_ h=>h) eI.out ?_;clear hK K;show wpList _ _ _ _ _ _;clear cZ cU;first
   |have aT:=aT
    go_wp2;go_ret;exact⟨rfl,Bx eI.out⟩
    skip
   |skip
    first
     |have aJ:=aJ
      have hs5:bT w5 _ v (X.attr size ks):=zN.out;obtain⟨A5,c5,rfl,_,Yk⟩:=hs5.sl.by
      have VZ:=ae Yk;have lY:=ae (λW (hh:At w0 p ((pf,ax p nm size g ks.length c f)::(w3.heap.size,aS on)::(w.heap.size,aO pf)::fs) s' W)=>pH nm size g c ks W (HO.out.2 W g (hh.get (ag _ (ag _ (ag _ lj.out))))) gp.out);have dM:=aj w5 w.heap.size (eI.out.get (ag _ (ag _ af)))
      skip
     |have HUW:=ae (JJ.out w5 w.heap.size w3.heap.size eI.out)
    have hc:=aj w5 pf (eI.out.get af);first
     |have aJ:=aJ
      clear hs5 Yk zN
     |have dM:=aj w5 w.heap.size (eI.out.get (ag _ (ag _ af)))
      clear JJ eI zN
    go_wp2_with fail;first
     |have aJ:=aJ
      refine(lY.out _ eI.out).mono ?_;rintro e w6 ⟨v6,rfl,hown,hb⟩;have dC:=ae (eI.out.below hb);obtain⟨A6,c6,rfl,_,Yl⟩:=(Fw hown).by
      have nB:=ae (nK A5 A6 _ _ c5 c6 _ _ w6 _ _ (VZ.out.below hb) Yl);rw[SJ]at nB;clear hown hb Yl VZ lY eI dM hc;go_wp2_with fail;refine nB.out.mono ?_;rintro e w7 ⟨rfl,hw7⟩;subst hw7;clear nB
     |refine HUW.out.mono ?_
      rintro e w6 ⟨rfl,h6,ht6,hx6⟩;have dC:=ae h6;have Um:=ae ht6;have HX:=ae hx6;clear h6 ht6 hx6 HUW hc dM HT
    go_wp2_with fail;have yR:w.heap.size≠pf:=Mn.out _ (ag _ af);have HP:=ae (λW=>bL nm size (some ⟨g,0,none⟩) ks.length c 0 (by decide) (by have:=JG.out;omega) W);rw[Qa.out]at HP;have h0:w6.heap[pf]? =some (ax p nm size g ks.length c f):=dC.out.get af;have b0:w6.heap[w.heap.size]? =some (aO pf):=dC.out.get (ag _ (ag _ af));refine aD 29 (.rd 0 (.rd 1 (.rd 2 (.rd 3 (.rd 4 (.rd 5 (.rd 6 (.rd 7 (.rd 8 (.rd 9 (.rd 10 (.rd 11 (.wr 12 (.rd 13 (.rd 14 (.rd 15 (.wr 16 (.rd 17 (.rd 18 (.wr 19 (.rd 20 (.rd 21 (.wr 22 (.rd 23 (.rd 24 (.wr 25 (.rd 26 (.rd 27 (.wr 28 .fin))))))))))))))))))))))))))))) (λw'=>(∃f',w'.heap[pf]? =some (ax p nm size g ks.length c f'))∧w'.heap[w.heap.size]? =some (aO pf)) (by kernel_rfl) (by kernel_rfl) (λc a d v w h=>by cases d<;>exact h) ⟨⟨_,h0⟩,b0⟩ ?_;repeat
     refine az (v:= ?_) (by rfl) (by rfl) (λw' hS=> ?_) (λK hK=> ?_);rotate_left
     ·have ML:=hS;obtain⟨⟨f',r1⟩,r2⟩:=ML;have hc:=aj w' pf r1;have dM:=aj w' w.heap.size r2;clear r1 r2;clear hS;go_simp;try with_reducible rfl
     go_simp;refine hK _ ?_;clear hK K
    refine wpPm_write (by rfl) (λK hK=> ?_);go_simp;refine(HP.out _).mono ?_;rintro e OQ ⟨rfl,hb⟩;have MM:=ae (dC.out.below (((ak _ _).drew).trans hb));have TY:OQ.heap[pf]? =some (ax p nm size g ks.length c f):=MM.out.get af;have b12:OQ.heap[w.heap.size]? =some (aO pf):=MM.out.get (ag _ (ag _ af));have G12:=ae (World.grownBy.refl OQ (some pf));refine hK.out _ _ (λw'=>(∃f',w'.heap[pf]? =some (ax p nm size g ks.length c f'))∧w'.heap[w.heap.size]? =some (aO pf)) (λ_ h=>h) ⟨⟨_,TY⟩,b12⟩ ?_;clear hK K hb h0 b0 HP dC;repeat
     refine az (v:= ?_) (by rfl) (by rfl) (λw' hS=> ?_) (λK hK=> ?_);rotate_left
     ·have ML:=hS;obtain⟨⟨f',r1⟩,r2⟩:=ML;have hc:=aj w' pf r1;have dM:=aj w' w.heap.size r2;clear r1 r2;clear hS;go_simp;try with_reducible rfl
     go_simp;refine hK _ ?_;clear hK K
    have hz:=aC TY;have hc:=aj OQ pf TY;refine wpPm_write (by rfl) (λK hK=> ?_);go_simp;first
     |have aJ:=aJ
      obtain⟨MN,hW⟩:∃W,(OQ.setCell ⟨pf,4,none⟩ (.int .u8 (md:Nat)))=W:=⟨_,rfl⟩;have OP:MN.heap[pf]? =some (ax p nm size g ks.length c {f with mode:=md}):=by
       rw[←hW];have:=(aB TY 4 (.int .u8 (md:Nat)))
       skip
       exact this
      skip
     |obtain⟨MN,hW⟩:∃W,(OQ.setCell ⟨pf,4,none⟩ (.int .u8 2))=W:=⟨_,rfl⟩
      have OP:MN.heap[pf]? =some (ax p nm size g ks.length c {f with mode:=2}):=by
       rw[←hW];have:=(aB TY 4 (.int .u8 2))
       skip
       exact this
    have b16:MN.heap[w.heap.size]? =some (aO pf):=by
     rw[←hW];rw[Below.heap_setCell _ _ _ _ (by exact yR)];exact b12
    first
     |have aJ:=aJ
      have G16:=ae (ma G12.out (by rw[←hW];exact(aA (World.grownBy.refl OQ (some pf)) 4 (.int .u8 (md:Nat))):OQ.grownBy MN (some pf)))
      skip
     |have G16:=ae (ma G12.out (by rw[←hW];exact(aA (World.grownBy.refl OQ (some pf)) 4 (.int .u8 2)):OQ.grownBy MN (some pf)))
    refine hK.out _ _ (λw'=>(∃f',w'.heap[pf]? =some (ax p nm size g ks.length c f'))∧w'.heap[w.heap.size]? =some (aO pf)) (λ_ h=>h) (by rw[hW];exact⟨⟨_,OP⟩,b16⟩) ?_;rw[hW];clear hK K hW hz hc TY b12 G12;repeat
     refine az (v:= ?_) (by rfl) (by rfl) (λw' hS=> ?_) (λK hK=> ?_);rotate_left
     ·have ML:=hS;obtain⟨⟨f',r1⟩,r2⟩:=ML;have hc:=aj w' pf r1;have dM:=aj w' w.heap.size r2;clear r1 r2;clear hS;go_simp;try with_reducible rfl
     go_simp;refine hK _ ?_;clear hK K
    have hz:=aC OP;have hc:=aj MN pf OP;refine wpPm_write (by rfl) (λK hK=> ?_);go_simp;obtain⟨OS,hW⟩:∃W,(MN.setCell ⟨pf,5,none⟩ (.bool od))=W:=⟨_,rfl⟩;first
     |have aJ:=aJ
      have UE:OS.heap[pf]? =some (ax p nm size g ks.length c {f with mode:=md,ord:=od}):=by
       rw[←hW];have:=(aB OP 5 (.bool od))
       skip
       exact this
      skip
     |skip
      have UE:OS.heap[pf]? =some (ax p nm size g ks.length c {f with mode:=2,ord:=od}):=by
       rw[←hW];have:=(aB OP 5 (.bool od))
       skip
       exact this
    have b19:OS.heap[w.heap.size]? =some (aO pf):=by
     rw[←hW];rw[Below.heap_setCell _ _ _ _ (by exact yR)];exact b16
    have G19:=ae (ma G16.out (by rw[←hW];exact(aA (World.grownBy.refl MN (some pf)) 5 (.bool od)):MN.grownBy OS (some pf)));refine hK.out _ _ (λw'=>(∃f',w'.heap[pf]? =some (ax p nm size g ks.length c f'))∧w'.heap[w.heap.size]? =some (aO pf)) (λ_ h=>h) (by rw[hW];exact⟨⟨_,UE⟩,b19⟩) ?_;rw[hW];clear hK K hW hz hc OP b16 G16;repeat
     refine az (v:= ?_) (by rfl) (by rfl) (λw' hS=> ?_) (λK hK=> ?_);rotate_left
     ·have ML:=hS;obtain⟨⟨f',r1⟩,r2⟩:=ML;have hc:=aj w' pf r1;have dM:=aj w' w.heap.size r2;clear r1 r2;clear hS;go_simp;try with_reducible rfl
     go_simp;refine hK _ ?_;clear hK K
    have hz:=aC UE;have hc:=aj OS pf UE;refine wpPm_write (by rfl) (λK hK=> ?_);go_simp;obtain⟨Qt,hW⟩:∃W,(OS.setCell ⟨pf,6,none⟩ (.int .i64 0))=W:=⟨_,rfl⟩;first
     |have aJ:=aJ
      have UF:Qt.heap[pf]? =some (ax p nm size g ks.length c {f with mode:=md,ord:=od,key:=0}):=by
       rw[←hW];have:=(aB UE 6 (.int .i64 0))
       skip
       exact this
      skip
     |skip
      have UF:Qt.heap[pf]? =some (ax p nm size g ks.length c {f with mode:=2,ord:=od,key:=0}):=by
       rw[←hW];have:=(aB UE 6 (.int .i64 0))
       skip
       exact this
    have b22:Qt.heap[w.heap.size]? =some (aO pf):=by
     rw[←hW];rw[Below.heap_setCell _ _ _ _ (by exact yR)];exact b19
    have G22:=ae (ma G19.out (by rw[←hW];exact(aA (World.grownBy.refl OS (some pf)) 6 (.int .i64 0)):OS.grownBy Qt (some pf)));refine hK.out _ _ (λw'=>(∃f',w'.heap[pf]? =some (ax p nm size g ks.length c f'))∧w'.heap[w.heap.size]? =some (aO pf)) (λ_ h=>h) (by rw[hW];exact⟨⟨_,UF⟩,b22⟩) ?_;rw[hW];clear hK K hW hz hc UE b19 G19;repeat
     refine az (v:= ?_) (by rfl) (by rfl) (λw' hS=> ?_) (λK hK=> ?_);rotate_left
     ·have ML:=hS;obtain⟨⟨f',r1⟩,r2⟩:=ML;have hc:=aj w' pf r1;have dM:=aj w' w.heap.size r2;clear r1 r2;clear hS;go_simp;try with_reducible rfl
     go_simp;refine hK _ ?_;clear hK K
    have hz:=aC UF;have hc:=aj Qt pf UF;refine wpPm_write (by rfl) (λK hK=> ?_);go_simp;obtain⟨Qu,hW⟩:∃W,(((Qt.setCell ⟨pf,7,none⟩ (.string pp)).setCell ⟨pf,8,none⟩ (.bool true)).setCell ⟨pf,9,none⟩ (.bool false))=W:=⟨_,rfl⟩;first
     |have aJ:=aJ
      have UG:Qu.heap[pf]? =some (ax p nm size g ks.length c {f with mode:=md,ord:=od,key:=0,at_:=X.pre nm 0,same:=true,lost:=false}):=by
       rw[←hW];have:=(aB (aB (aB UF 7 (.string pp)) 8 (.bool true)) 9 (.bool false));rw[←Qa.out]at this⊢;exact this
      skip
     |skip
      have UG:Qu.heap[pf]? =some (ax p nm size g ks.length c {f with mode:=2,ord:=od,key:=0,at_:=X.pre nm 0,same:=true,lost:=false}):=by
       rw[←hW];have:=(aB (aB (aB UF 7 (.string pp)) 8 (.bool true)) 9 (.bool false));rw[←Qa.out]at this⊢;exact this
    have b25:Qu.heap[w.heap.size]? =some (aO pf):=by
     rw[←hW];rw[Below.heap_setCell _ _ _ _ (by exact yR)];rw[Below.heap_setCell _ _ _ _ (by exact yR)];rw[Below.heap_setCell _ _ _ _ (by exact yR)];exact b22
    have G25:=ae (ma G22.out (by rw[←hW];exact(aA (aA (aA (World.grownBy.refl Qt (some pf)) 7 (.string pp)) 8 (.bool true)) 9 (.bool false)):Qt.grownBy Qu (some pf)));refine hK.out _ _ (λw'=>(∃f',w'.heap[pf]? =some (ax p nm size g ks.length c f'))∧w'.heap[w.heap.size]? =some (aO pf)) (λ_ h=>h) (by rw[hW];exact⟨⟨_,UG⟩,b25⟩) ?_;rw[hW];clear hK K hW hz hc UF b22 G22;repeat
     refine az (v:= ?_) (by rfl) (by rfl) (λw' hS=> ?_) (λK hK=> ?_);rotate_left
     ·have ML:=hS;obtain⟨⟨f',r1⟩,r2⟩:=ML;have hc:=aj w' pf r1;have dM:=aj w' w.heap.size r2;clear r1 r2;clear hS;go_simp;try with_reducible rfl
     go_simp;refine hK _ ?_;clear hK K
    have hz:=aC UG;have hc:=aj Qu pf UG;refine wpPm_write (by rfl) (λK hK=> ?_);go_simp;obtain⟨UH,hW⟩:∃W,(Qu.setCell ⟨pf,11,none⟩ (.bool false))=W:=⟨_,rfl⟩;first
     |have aJ:=aJ
      have UI:UH.heap[pf]? =some (ax p nm size g ks.length c {f with mode:=md,ord:=od,key:=0,at_:=X.pre nm 0,same:=true,lost:=false,read:=false}):=by
       rw[←hW];have:=(aB UG 11 (.bool false))
       skip
       exact this
      skip
     |skip
      have UI:UH.heap[pf]? =some (ax p nm size g ks.length c {f with mode:=2,ord:=od,key:=0,at_:=X.pre nm 0,same:=true,lost:=false,read:=false}):=by
       rw[←hW];have:=(aB UG 11 (.bool false))
       skip
       exact this
    have b28:UH.heap[w.heap.size]? =some (aO pf):=by
     rw[←hW];rw[Below.heap_setCell _ _ _ _ (by exact yR)];exact b25
    have G28:=ae (ma G25.out (by rw[←hW];exact(aA (World.grownBy.refl Qu (some pf)) 11 (.bool false)):Qu.grownBy UH (some pf)));refine hK.out _ _ (λw'=>(∃f',w'.heap[pf]? =some (ax p nm size g ks.length c f'))∧w'.heap[w.heap.size]? =some (aO pf)) (λ_ h=>h) (by rw[hW];exact⟨⟨_,UI⟩,b28⟩) ?_;rw[hW];clear hK K hW hz hc UG b25 G25;have hz:=aC UI;have hc:=aj UH pf UI;first
     |have aJ:=aJ
      have Iy:At w0 p ((pf,ax p nm size g ks.length c {f with mode:=md,ord:=od,key:=0,at_:=X.pre nm 0,same:=true,lost:=false,read:=false,written:=[]})::(w3.heap.size,aS on)::(w.heap.size,aO pf)::fs) s' (UH.setCell ⟨pf,12,none⟩ (.string ⟨#[]⟩)):=cz MM.out Mn.out HT.out (aA G28.out 12 (.string ⟨#[]⟩)) (aB UI 12 (.string ⟨#[]⟩))
      skip
     |have Iy:At w0 p ((pf,ax p nm size g ks.length c {f with mode:=2,ord:=od,key:=0,at_:=X.pre nm 0,same:=true,lost:=false,read:=false,written:=[]})::(w3.heap.size,aS on)::(w.heap.size,aO pf)::fs) st (UH.setCell ⟨pf,12,none⟩ (.string ⟨#[]⟩)):=cz MM.out Mn.out Um.out (aA G28.out 12 (.string ⟨#[]⟩)) (aB UI 12 (.string ⟨#[]⟩))
    have BC:=ae Iy;clear Iy MM G28 UI b28;show wpList _ _ _ _ _ _;go_wp2_with fail;clear hz hc;first
     |have aJ:=aJ
      obtain⟨fN,ZU⟩:∃fN:Fv,fN={f with mode:=md,ord:=od,key:=0,at_:=X.pre nm 0,same:=true,lost:=false,read:=false,written:=[]}:=⟨_,rfl⟩
      skip
     |obtain⟨fN,ZU⟩:∃fN:Fv,fN={f with mode:=2,ord:=od,key:=0,at_:=X.pre nm 0,same:=true,lost:=false,read:=false,written:=[]}:=⟨_,rfl⟩
    rw[←ZU]at BC;have SE:=ae ZU;clear ZU;first
     |have aJ:=aJ
      refine aM (λY=>At w0 p ((pf,ax p nm size g ks.length c fN)::(w3.heap.size,aS on)::(w.heap.size,aO pf)::fs) s' Y) BC.out ?_
     |refine aM (λY=>At w0 p ((pf,ax p nm size g ks.length c fN)::(w3.heap.size,aS on)::(w.heap.size,aO pf)::fs) st Y) BC.out ?_
    intro W31 Iy;have BC:=ae Iy;clear Iy;have HP:=ae (λW=>bL nm size (some ⟨g,0,none⟩) ks.length c 0 (by decide) (by have:=JG.out;omega) W);first
     |have aJ:=aJ
      have Jy:=λw1 (hh:At w0 p ((pf,ax p nm size g ks.length c fN)::(w3.heap.size,aS on)::(w.heap.size,aO pf)::fs) s' w1)=>gX hh ⟨(X.pre nm 0).toArray⟩ (by have:=HX.out.many;omega)
      skip
     |have Jy:=λw1 (hh:At w0 p ((pf,ax p nm size g ks.length c fN)::(w3.heap.size,aS on)::(w.heap.size,aO pf)::fs) st w1)=>gX hh ⟨(X.pre nm 0).toArray⟩ (by have:=HX.out.many;omega)
    rw[HX.out.con.gj (by have:=HX.out.ks.one;omega) HX.out.rows (by have:=HX.out.ct;omega) (by have:=HX.out.ks.one;omega)]at Jy;have Cu:=ae Jy;clear Jy;rw[Qa.out]at HP Cu;first
     |have aJ:=aJ
      refine aD 9 (.rd 0 (.rd 1 (.rd 2 (.rd 3 (.rd 4 (.rd 5 (.rd 6 (.rd 7 (.wr 8 .fin))))))))) (λw'=>At w0 p ((pf,ax p nm size g ks.length c fN)::(w3.heap.size,aS on)::(w.heap.size,aO pf)::fs) s' w') (by kernel_rfl) (by kernel_rfl) (λc a d v w h=>by cases d<;>exact h) (BC.out.below ((ak _ _).drew)) ?_
     |refine aD 9 (.rd 0 (.rd 1 (.rd 2 (.rd 3 (.rd 4 (.rd 5 (.rd 6 (.rd 7 (.wr 8 .fin))))))))) (λw'=>At w0 p ((pf,ax p nm size g ks.length c fN)::(w3.heap.size,aS on)::(w.heap.size,aO pf)::fs) st w') (by kernel_rfl) (by kernel_rfl) (λc a d v w h=>by cases d<;>exact h) (BC.out.below ((ak _ _).drew)) ?_
    repeat
     refine az (v:= ?_) (by rfl) (by rfl) (λw' hS=> ?_) (λK hK=> ?_);rotate_left
     ·have hc:=aj w' pf (hS.get (af:(pf,ax p nm size g ks.length c fN)∈(pf,ax p nm size g ks.length c fN)::(w3.heap.size,aS on)::(w.heap.size,aO pf)::fs));have hbo:=aj w' w3.heap.size (hS.get (ag _ af:(w3.heap.size,aS on)∈(pf,ax p nm size g ks.length c fN)::(w3.heap.size,aS on)::(w.heap.size,aO pf)::fs));have dM:=aj w' w.heap.size (hS.get (ag _ (ag _ af):(w.heap.size,aO pf)∈(pf,ax p nm size g ks.length c fN)::(w3.heap.size,aS on)::(w.heap.size,aO pf)::fs));clear hS;go_simp;try with_reducible rfl
     go_simp;refine hK _ ?_;clear hK K
    refine wpPm_write (by rfl) (λK hK=> ?_);go_simp;refine(HP.out _).mono ?_;rintro e W32 ⟨rfl,hb⟩;have Qv:=ae (BC.out.below (((ak _ _).drew).trans hb));clear hb HP BC;first
     |have aJ:=aJ
      refine hK.out _ _ (λw'=>At w0 p ((pf,ax p nm size g ks.length c fN)::(w3.heap.size,aS on)::(w.heap.size,aO pf)::fs) s' w') (λ_ h=>h) Qv.out ?_
     |refine hK.out _ _ (λw'=>At w0 p ((pf,ax p nm size g ks.length c fN)::(w3.heap.size,aS on)::(w.heap.size,aO pf)::fs) st w') (λ_ h=>h) Qv.out ?_
    clear hK K;show wpList _ _ _ _ _ _;go_wp2_with fail;refine(Cu.out _ Qv.out).mono ?_;rintro e W33 ⟨A3,rfl,hst,Ym,_,_⟩;have Em:=ae Ym;have HST:=ae hst;clear hst Ym Cu Qv;first
     |have aJ:=aJ
      have sB:((X.bQ ks 0 rows).map (X.aN nm ks 0)).length=(X.bQ ks 0 rows).length:=List.length_map ..;by_cases h4:md=4
      ·have m5:((md:Int)==4)=true:=(by rw[h4];rfl);by_cases Hv:(X.bQ ks 0 rows).length=0
       ·have hr1:X.bQ ks 0 rows=[]:=List.eq_nil_of_length_eq_zero Hv;have Cz:(if md=4 then X.nJ ks rows else [])=[]:=(by rw[if_pos h4];unfold X.nJ;rw[hr1];rfl);have SL:=ae Cz;rw[hr1];clear h4 Hv hr1 Cz sB;go_wp2;go_ret;refine⟨rfl, ?_⟩;have:=Bx Em.out;rw[SE.out]at this;rw[←Yi.out,SL.out];exact this
       ·have rz:(X.bQ ks 0 rows).length - 1<(X.bQ ks 0 rows).length:=(by omega);obtain⟨g4,rfl,Cl,uP⟩:=HST.out (by rw[sB];omega);have ea:=uP ((X.bQ ks 0 rows).length - 1) (by rw[sB];exact rz);rw[List.getElem_map]at ea;have zq:(X.bQ ks 0 rows)[(X.bQ ks 0 rows).length - 1]∈rows:=(X.bt ks 0 _ rows).1 (List.getElem_mem rz);have og:(X.bQ ks 0 rows).getLast? =some (X.bQ ks 0 rows)[(X.bQ ks 0 rows).length - 1]:=(by rw[List.getLast?_eq_getElem?,List.getElem?_eq_getElem rz]);generalize Jz:(X.bQ ks 0 rows)[(X.bQ ks 0 rows).length - 1]=x at ea zq og;replace ea:W33.cell? ⟨g4,(X.bQ ks 0 rows).length - 1,none⟩=some (.string ⟨(X.aN nm ks 0 x).toArray⟩):=ea;have Cz:(if md=4 then X.nJ ks rows else [])=X.val ks 0 x.b:=(by rw[if_pos h4];unfold X.nJ;rw[og]);have SL:=ae Cz;have hn5:(X.bQ ks 0 rows).length≤100000:=by
         have h1:=HX.out.con.gj (by have:=HX.out.ks.one;omega) HX.out.rows (by have:=HX.out.ct;omega) (i:=0) (by have:=HX.out.ks.one;omega);have h2:=iz s'.now ⟨(X.pre nm 0).toArray⟩;rw[h1,List.length_map]at h2;have:=HX.out.many;omega
        have HV:=ae (λw1 (hh:At w0 p ((pf,ax p nm size g ks.length c fN)::(w3.heap.size,aS on)::(w.heap.size,aO pf)::fs) s' w1)=>ke (c:=c) HX.out (i:=0) (by have:=HX.out.ks.one;omega) zq w1 (HO.out.2 w1 g (hh.get (ag _ (ag _ (ag _ lj.out))))));have dD:=ae ea;have ez:IntKind.i64.wrap (((X.bQ ks 0 rows).length:Int) - 1)=(((X.bQ ks 0 rows).length - 1:Nat):Int):=(by rw[IntKind.wrap_i64];omega);have Bu:wrap64 (((X.bQ ks 0 rows).length:Int) - 1)=(((X.bQ ks 0 rows).length - 1:Nat):Int):=(by rw[IntWalk.wrap64_in _ (by omega)];omega);have ZV:(0:Int)<((X.bQ ks 0 rows).length:Nat):=(by omega);have agI:0<(X.bQ ks 0 rows).length:=(by omega);generalize PE:(X.bQ ks 0 rows).length - 1=n1 at ea rz ez Bu dD;have Lg:(n1:Int)<((X.bQ ks 0 rows).length:Nat):=(by omega);rw[sB];clear Jz uP Cl og Cz ea h4 zq Hv sB;generalize(X.bQ ks 0 rows).length=nl at*;clear PE hn5;go_wp2_with fail;refine aD 12 (.rd 0 (.rd 1 (.rd 2 (.rd 3 (.rd 4 (.rd 5 (.rd 6 (.rd 7 (.rd 8 (.rd 9 (.rd 10 (.wr 11 .fin)))))))))))) (λw'=>At w0 p ((pf,ax p nm size g ks.length c fN)::(w3.heap.size,aS on)::(w.heap.size,aO pf)::fs) s' w'∧w'.cell? ⟨g4,n1,none⟩=some (.string ⟨(X.aN nm ks 0 x).toArray⟩)) (by kernel_rfl) (by kernel_rfl) (λc a d v w h=>by cases d<;>exact h) ⟨Em.out.below ((ak _ _).drew),dD.out⟩ ?_;repeat
         refine az (v:= ?_) (by rfl) (by rfl) (λw' hS=> ?_) (λK hK=> ?_);rotate_left
         ·have hc:=aj w' pf (hS.1.get (af:(pf,ax p nm size g ks.length c fN)∈(pf,ax p nm size g ks.length c fN)::(w3.heap.size,aS on)::(w.heap.size,aO pf)::fs));have hbo:=aj w' w3.heap.size (hS.1.get (ag _ af:(w3.heap.size,aS on)∈(pf,ax p nm size g ks.length c fN)::(w3.heap.size,aS on)::(w.heap.size,aO pf)::fs));have dM:=aj w' w.heap.size (hS.1.get (ag _ (ag _ af):(w.heap.size,aO pf)∈(pf,ax p nm size g ks.length c fN)::(w3.heap.size,aS on)::(w.heap.size,aO pf)::fs));have ea:=hS.2;clear hS;go_simp;try with_reducible rfl
         go_simp;refine hK _ ?_;clear hK K
        refine wpPm_write (by rfl) (λK hK=> ?_);go_simp;refine(HV.out _ (Em.out.below ((ak _ _).drew))).mono ?_;rintro e W34 ⟨rfl,hb⟩;have Qw:=ae (Em.out.below (((ak _ _).drew).trans hb));have Yn:=(hb.cell (p:=⟨g4,n1,none⟩) (World.block_lt_of_cell? _ ⟨g4,n1,none⟩ dD.out)).trans dD.out;refine hK.out _ _ (λw'=>At w0 p ((pf,ax p nm size g ks.length c fN)::(w3.heap.size,aS on)::(w.heap.size,aO pf)::fs) s' w'∧w'.cell? ⟨g4,n1,none⟩=some (.string ⟨(X.aN nm ks 0 x).toArray⟩)) (λ_ h=>h) ⟨Qw.out,Yn⟩ ?_;clear hK K hb Yn dD HV Em;have ZW:W34.heap[pf]? =some (ax p nm size g ks.length c fN):=Qw.out.get af;have hz:=aC ZW;have hc:=aj W34 pf ZW;have Yo:=cz (f':={fN with written:=X.val ks 0 x.b}) Qw.out Mn.out HT.out (aA (World.grownBy.refl W34 (some pf)) 12 (.string ⟨(X.val ks 0 x.b).toArray⟩)) (aB ZW 12 (.string ⟨(X.val ks 0 x.b).toArray⟩));have acu:=ae Yo;clear Yo Qw ZW;show wpList _ _ _ _ _ _;go_wp2;go_ret;refine⟨rfl, ?_⟩;have:=Bx acu.out;rw[SE.out]at this;rw[←Yi.out,SL.out];exact this
      ·have m5:((md:Int)==4)=false:=(by simp;omega);have Cz:(if md=4 then X.nJ ks rows else [])=[]:=if_neg h4;have SL:=ae Cz;clear h4 Cz sB;go_wp2;go_ret;refine⟨rfl, ?_⟩;have:=Bx Em.out;rw[SE.out]at this;rw[←Yi.out,SL.out];exact this
     |have sB:((X.bQ ks 0 []).map (X.aN nm ks 0)).length=(X.bQ ks 0 []).length:=List.length_map ..
      go_wp2;go_ret;refine⟨rfl, ?_⟩;have:=Bx Em.out;rw[SE.out]at this;exact this
abbrev En:= @FQ.1
abbrev Eo:= @FQ.2.1
abbrev BG:= @FQ.2.2.1
abbrev wo:= @FQ.2.2.2
end
end Go.Proofs.YtipljcmmokaokaaGreat
