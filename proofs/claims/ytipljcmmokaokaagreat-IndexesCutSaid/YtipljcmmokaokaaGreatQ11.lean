import Derived.Test.YtipljcmmokaokaaGreatQ10
set_option linter.unusedVariables false
set_option linter.unusedSimpArgs false
set_option maxHeartbeats 4000000
namespace Go.Proofs.YtipljcmmokaokaaGreat
open Go.RowKit Go.Lib Go.Maps Go.WideMaps Go.Sort
set_option maxRecDepth 100000
theorem Qu:∀(x y:J.B),Lib.compareBytes x y=if x<y then -1 else if x=y then 0 else 1
 |[],[]=>rfl
 |[],_::_=>by rw[if_pos (List.nil_lt_cons _ _)];rfl
 |_::_,[]=>by rw[if_neg (List.not_lt_nil _),if_neg (by simp)];rfl
 |a::s,b::t=>by
  unfold Lib.compareBytes;rw[Qu s t];by_cases h1:a<b
  ·rw[if_pos h1,if_pos (R.lx.2 (.inl h1))]
  ·rw[if_neg h1];by_cases c:b<a
   ·rw[if_pos c,if_neg (λh=>by
     rcases R.lx.1 h with h|⟨h,_⟩
     ·exact h1 h
     ·subst h;exact absurd c (by simp)),if_neg (λh=>by injection h with h;subst h;exact absurd c (by simp))]
   ·have e:a=b:=by
     rw[R.Xo]at h1 c;exact UInt8.toNat_inj.1 (by omega)
    subst e;rw[if_neg c];have d:a::s<a::t↔s<t:=by
     rw[R.lx];exact⟨λh=>h.elim (λh=>absurd h h1) (λh=>h.2),λh=> .inr ⟨rfl,h⟩⟩
    simp only[d,List.cons.injEq,true_and]
def Hh (r:Nat) (c:Int):Bool:=
 if r=0 then decide (c=0)else if r=1 then decide (0<c)else if r=2 then decide (0<=c)else if r=3 then decide (c<0)else if r=4 then decide (c<=0)else false
theorem Md (r:Nat) (x y:J.B):Hh r (Lib.compareBytes x y)=X.rel r x y:=by
 rw[Qu];unfold Hh X.rel;by_cases h1:x<y
 ·have b:¬y<x:=λh=>List.lt_asymm h1 h;have a:x≠y:=λh=>by subst h;exact List.lt_irrefl _ h1
  rw[if_pos h1];simp[h1,b,a]
 ·rw[if_neg h1];by_cases a:x=y
  ·subst a;simp[List.lt_irrefl]
  ·have b:y<x:=J.NX x y h1 a;rw[if_neg a];simp[h1,b,a]
theorem Hi (r:Nat) (c:Int) (w:World) (a:r<=5):
  Calls Tryz.prog 64 #[.int .u8 (r:Nat), .int .i64 c] w λe w'=>e= .returned (.bool (Hh r c))/\w=w':=by
 rcases(show r=0\/r=1\/r=2\/r=3\/r=4\/r=5 by omega)with rfl|rfl|rfl|rfl|rfl|rfl
 all_goals
  go_enter Tryz.func64,Tryz.ntmps64;go_wp2;go_ret;exact⟨rfl,rfl⟩
theorem Hj {w0:World} {p pf:Nat} {F:Obj} {s:J.St} {fs:List (Nat×Obj)} {w w':World} {A:Option Addr} {ls:List J.B} (h:At w0 p ((pf,F)::fs) s w) (f:∀x∈fs,x.1≠pf) (d:Below w.heap.size w w') (v:gX w' A ls) (n:∀g,A=some ⟨g,0,none⟩->w.heap.size<=g):
  ∃gs,(∀x∈fs,x∈gs)/\(∀x∈gs,x.1≠pf)/\At w0 p ((pf,F)::gs) s w'/\∀b t W,At w0 p b t W->(∀x∈gs,x∈b)->gX W A ls:=by
 by_cases i:0<ls.length
 ·obtain⟨g,e,u,m⟩:=v i;obtain⟨o,k⟩:∃o,w'.heap[g]? =some o:=⟨_,Array.getElem?_eq_getElem u⟩;have z:pf<w.heap.size:=(ai (h.get af)).1;have q:=n g e;refine⟨(g,o)::fs,λx a=>ag _ a,λx a=> ?_, ?_,λb t W l y=>λ_=> ?_⟩
  ·rcases au a with rfl|a
   ·show g≠pf;omega
   ·exact f x a
  ·refine(h.add d (gs:=[(g,o)]) (λx a=>by simp only[List.mem_singleton]at a;subst a;exact⟨q,k⟩)).less (λx a=> ?_);rcases au a with rfl|a
   ·simp
   ·rcases au a with rfl|a
    ·simp
    ·simp[a]
  ·have c:=l.get (y _ af);exact⟨g,e,(ai c).1,λj r=>(World.cell?_of_block (c.trans k.symm)).trans (m j r)⟩
 ·exact⟨fs,λx a=>a,f,h.below d,λ_ t W _ _ h0=>absurd h0 i⟩
def FA (f:Fv) (nm:J.B) (ks:List X.Ky) (i:Nat):Option X.Row->Fv
 |none=>{f with at_:=[],same:=false,lost:=true,read:=false}
 |some x=>{f with key:=i,at_:=X.aN nm ks i x,same:=true,lost:=false,read:=false}
def Me (ks:List X.Ky) (i r:Nat) (b:J.B) (x:X.Row):Bool:=X.rel r ((X.val ks i x.b).take b.length) b
def pS (ks:List X.Ky) (i:Nat) (rows:List X.Row) (r:Nat) (b:J.B):Option X.Row:=
 if r=3\/r=4 then((X.cn ks i rows).filter (Me ks i r b)).getLast? else(X.cn ks i rows).find? (Me ks i r b)
def stB (o:Option X.Row):J.B:=if o.isSome then [48,48]else [50,51]
theorem rI {a:Type} (q:a->Bool) (l:List a) (x:a):((l++[x]).filter q).getLast? =if q x=true then some x else(l.filter q).getLast? :=by
 rw[List.filter_append];cases h:q x
 ·simp[h]
 ·simp[h]
theorem zw {a:Type} {q:a->Bool} {l:List a} (h:(l.filter q).getLast? =none):∀x∈l,q x=false:=λx c=>by
 have b:l.filter q=[]:=List.getLast?_eq_none_iff.1 h;cases hq:q x with
 |false=>rfl
 |true=>
  have:=List.mem_filter.2 ⟨c,hq⟩;rw[b]at this;cases this
theorem UJ {a:Type} {q:a->Bool} {l:List a} {k:Nat} (b:k<l.length) (h:∀x∈l.take k,q x=false) (c:q l[k]=true):l.find? q=some l[k]:=by
 conv=>lhs;rw[<-List.take_append_drop k l,List.drop_eq_getElem_cons b]
 rw[List.find?_append,List.find?_eq_none.2 (λx d=>by rw[h x d];decide),List.find?_cons,c];rfl
section
variable {w0 : World} {p pf g c size ct u : Nat} {nm : J.B} {ks : List X.Ky} {rows : List X.Row} {f : Fv} {w w' : World} {s s1 s2 : J.St} {fs : List (Nat × Obj)} {ok : Obj}
theorem Ed (h0:w.heap[pf]? =some (ax p nm size g ks.length c f)) (b:X.bP [52,55] [1,3] f.mode≠[48,48]) (k:Int) (r:Nat) (A:Option Addr) (m cb:Nat):
  Calls Tryz.prog 19 #[.pointer (some ⟨pf,0,none⟩), .int .i64 k, .int .u8 (r:Nat), .slice A m cb] w λe w'=>e= .returned (.string ⟨(X.bP [52,55] [1,3] f.mode).toArray⟩)/\Below w.heap.size w w':=by
 have a:=ae (bQ h0 [52,55] [1,3] 2 #[.int .u8 1, .int .u8 3] rfl rfl (by decide) w.heap.size rfl);have i:=uh b;have d:=ae ((ak _ w).alloc (aq _) (.cells #[.int .u8 1, .int .u8 3] 32));generalize(⟨(X.bP [52,55] [1,3] f.mode).toArray⟩:ByteArray)=j at a i|-;clear h0 b;go_enter Tryz.func19,Tryz.ntmps19;go_wp2_with fail;refine a.o.mono ?_;rintro e W1 ⟨rfl,h⟩;subst h;clear a;go_wp2;go_ret;exact⟨rfl,d.o⟩
theorem Hk (h:At w0 p ((pf,ax p nm size g ks.length c f)::fs) s w) (C:∀x∈fs,x.1≠pf) (E:(g,ok)∈fs) (z:bR ok ks) (H:J.Two s) (K:XF nm size ks rows ct s.now) (G:X.bP [52,55] [1,3] f.mode=[48,48]) (k:Int) (r:Nat) (A:Option Addr) (cb:Nat) (b:J.B) (d:k<0\/ks.length<=k\/b.length=0\/(X.aH ks k.toNat).len<b.length):
  Calls Tryz.prog 19 #[.pointer (some ⟨pf,0,none⟩), .int .i64 k, .int .u8 (r:Nat), .slice A b.length cb] w λe w'=>e= .returned (.string ⟨#[50,51]⟩)/\At w0 p ((pf,ax p nm size g ks.length c {f with at_:=[],same:=false,lost:=true,read:=false})::fs) s w':=by
 have F:=(ai (h.get af)).1;have F:pf<w.heap.size:=F;have q:=ae (bQ (h.get af) [52,55] [1,3] 2 #[.int .u8 1, .int .u8 3] rfl rfl (by decide) w.heap.size rfl);rw[G]at q;have u:=ae (h.below ((ak _ w).alloc (aq _) (.cells #[.int .u8 1, .int .u8 3] 32)));have v:=ae (λw1 (hh:At w0 p ((pf,ax p nm size g ks.length c f)::fs) s w1) w2 (a:w1.grownBy w2 (some pf)) (o:w2.heap[pf]? =some (ax p nm size g ks.length c {f with at_:=[],same:=false,lost:=true,read:=false}))=>cR hh C H a o);have y:=ae (λw1 (hh:At w0 p ((pf,ax p nm size g ks.length c {f with at_:=[],same:=false,lost:=true,read:=false})::fs) s w1)=>z.2 w1 g (hh.get (ag _ E)));clear C E z H K;clear h G;go_enter Tryz.func19,Tryz.ntmps19;go_wp2_with fail;refine q.o.mono ?_;rintro e W1 ⟨rfl,I⟩;subst I;clear q;refine aL (λX=>At w0 p ((pf,ax p nm size g ks.length c f)::fs) s X/\Below w.heap.size w X) ⟨u.o,(ak _ w).alloc (aq _) _⟩ ?_;rintro W ⟨ha,B⟩;clear u;go_wp2_with fail;refine(kN (ha.get af)).mono ?_;rintro e W2 ⟨⟨_,rfl⟩,a,o⟩;have n:=v.o _ ha _ a o;have M:aa (w.heap.size<=W2.heap.size):=ae (aw B.size a.size);clear a o v ha B;have N:=aj W2 pf (n.get (af:(pf,ax p nm size g ks.length c {f with at_:=[],same:=false,lost:=true,read:=false})∈(pf,ax p nm size g ks.length c {f with at_:=[],same:=false,lost:=true,read:=false})::fs));have l:=y.o _ n;have m:=ae n;clear n y;by_cases k0:k<0
 ·clear l d;go_wp2;go_ret;exact⟨rfl,m.o⟩
 ·by_cases P:(ks.length:Int)<=k
  ·clear l d;go_wp2;go_ret;exact⟨rfl,m.o⟩
  ·by_cases t:b.length=0
   ·have Q:(b.length:Int)=0:=(by omega);clear l d;go_wp2;go_ret;exact⟨rfl,m.o⟩
   ·obtain⟨i,rfl⟩:∃i:Nat,k=i:=⟨k.toNat,by omega⟩;have D:i<ks.length:=(by omega);have O:=l.len D;have L:(X.aH ks i).len<b.length:=by
     rcases d with h|h|h|h
     ·omega
     ·omega
     ·omega
     ·exact h
    have S:((X.aH ks i).len:Int)<(b.length:Nat):=(by omega);have T:¬(b.length:Int)=0:=(by omega);have U:(i:Int)<(ks.length:Nat):=(by omega);have V:¬b=[]:=λe=>by rw[e]at t;exact t rfl
    clear l d t L D;go_wp2;go_ret;exact⟨rfl,m.o⟩
structure StI (w0:World) (p pf g c size:Nat) (nm:J.B) (ks:List X.Ky) (f:Fv) (gs:List (Nat×Obj)) (s:J.St) (rows:List X.Row) (i r:Nat) (b:J.B) (k:Nat) (o:Option X.Row) (W:World):Prop where
 at_:At w0 p ((pf,ax p nm size g ks.length c (FA f nm ks i o))::gs) s W
 last:o=(((X.cn ks i rows).take k).filter (Me ks i r b)).getLast?
 none:¬(r=3\/r=4)->o=none
theorem Mf (h:At w0 p ((pf,ax p nm size g ks.length c f)::fs) s w) (hf:∀x∈fs,x.1≠pf) (bF:(g,ok)∈fs) (hO:bR ok ks) (ht:J.Two s) (hX:XF nm size ks rows ct s.now) (hs:X.bP [52,55] [1,3] f.mode=[48,48]) (i r:Nat) (hr:r<=5) (A:Option Addr) (cb:Nat) (b:J.B) (eG:Src w0 p fs (.slice A b.length cb) b) (hi:i<ks.length) (hb0:b.length≠0) (hbl:b.length<=(X.aH ks i).len):
  Calls Tryz.prog 19 #[.pointer (some ⟨pf,0,none⟩), .int .i64 (i:Nat), .int .u8 (r:Nat), .slice A b.length cb] w λe w'=>e= .returned (.string ⟨(stB (pS ks i rows r b)).toArray⟩)/\At w0 p ((pf,ax p nm size g ks.length c (FA f nm ks i (pS ks i rows r b)))::fs) s w':=by
 have hlt:=(ai (h.get af)).1;have hlt:pf<w.heap.size:=hlt;have dQ:=ae (bQ (h.get af) [52,55] [1,3] 2 #[.int .u8 1, .int .u8 3] rfl rfl (by decide) w.heap.size rfl);rw[hs]at dQ;have HA:=ae (h.below ((ak _ w).alloc (aq _) (.cells #[.int .u8 1, .int .u8 3] 32)));have HF:=ae (λw1 (hh:At w0 p ((pf,ax p nm size g ks.length c f)::fs) s w1) w2 (hg:w1.grownBy w2 (some pf)) (hr:w2.heap[pf]? =some (ax p nm size g ks.length c {f with at_:=[],same:=false,lost:=true,read:=false}))=>cR hh hf ht hg hr);have gR:=ae (λw1 (hh:At w0 p ((pf,ax p nm size g ks.length c {f with at_:=[],same:=false,lost:=true,read:=false})::fs) s w1)=>hO.2 w1 g (hh.get (ag _ bF)));have LK:(i:Int)<(ks.length:Nat):=by omega
 have Ji:¬(i:Int)<0:=by omega
 have Cp:¬(ks.length:Int)<=(i:Nat):=by omega
 have hb1:¬(b.length:Int)=0:=by omega
 have hb3:¬b=[]:=λe=>by rw[e]at hb0;exact hb0 rfl
 have hb4:((b.length:Int)==0)=false:=by simpa using hb3
 have hb2:¬((X.aH ks i).len:Int)<(b.length:Nat):=by omega
 have hl2:=hX.lens hi;have HP:=ae (λW=>bU nm size (some ⟨g,0,none⟩) ks.length c i (by have:=hX.ks.one;omega) (by have:=hX.nm;omega) W);have NH:=λw1 (hh:At w0 p ((pf,ax p nm size g ks.length c {f with at_:=[],same:=false,lost:=true,read:=false})::fs) s w1)=>ie hh ⟨(X.pre nm i).toArray⟩ (by have:=hX.many;omega);rw[hX.con.gP (by have:=hX.ks.one;omega) hX.rows (by have:=hX.ct;omega) hi]at NH;have FB:=ae NH;have HX:=ae hX;have HO:=ae hO;have jo:=ae bF;have Hl:=ae eG;have HHF:=ae hf;have HT:=ae ht;have HCM:=ae (λa b W=>Tryz.strings_Compare a b W);have HHO:=ae (λc w=>Hi r c w hr);have HI:=ae hi;generalize(⟨(X.pre nm i).toArray⟩:ByteArray)=P at HP FB;clear hf bF hO ht hX eG NH hr;clear h hs;go_enter Tryz.func19,Tryz.ntmps19;go_wp2_with fail;refine dQ.o.mono ?_;rintro e W1 ⟨rfl,hW1⟩;subst hW1;clear dQ;refine aL (λX=>At w0 p ((pf,ax p nm size g ks.length c f)::fs) s X/\Below w.heap.size w X) ⟨HA.o,(ak _ w).alloc (aq _) _⟩ ?_;rintro W ⟨ha,ui⟩;clear HA;go_wp2_with fail;refine(kN (ha.get af)).mono ?_;rintro e W2 ⟨⟨_,rfl⟩,hg,hr⟩;have ha2:=HF.o _ ha _ hg hr;have bJ:aa (w.heap.size<=W2.heap.size):=ae (aw ui.size hg.size);clear hg hr HF ha ui;have hc:=aj W2 pf (ha2.get (af:(pf,ax p nm size g ks.length c {f with at_:=[],same:=false,lost:=true,read:=false})∈(pf,ax p nm size g ks.length c {f with at_:=[],same:=false,lost:=true,read:=false})::fs));have hl:=(gR.o _ ha2).len hi;have gh:=ae ha2;clear ha2 gR;go_wp2_with fail;clear hi hl hc hb2 hb1 Ji Cp hb3 hb4;refine aR (.rd 0 (.rd 1 (.rd 2 (.rd 3 (.rd 4 (.rd 5 (.rd 6 (.rd 7 (.rd 8 (.rd 12 (.wr 9 (.wr 10 (.rd 11 .fin))))))))))))) (λw'=>At w0 p ((pf,ax p nm size g ks.length c {f with at_:=[],same:=false,lost:=true,read:=false})::fs) s w') (gh.o.below ((ak _ _).drew)) ?_;repeat
  refine aA (v:= ?_) (λw' hS=> ?_) (λK hK=> ?_);rotate_left
  ·have hc:=aj w' pf (hS.get (af:(pf,ax p nm size g ks.length c {f with at_:=[],same:=false,lost:=true,read:=false})∈(pf,ax p nm size g ks.length c {f with at_:=[],same:=false,lost:=true,read:=false})::fs));clear hS;go_simp;try with_reducible rfl
  go_simp;refine hK _ ?_;clear hK K
 refine az (λK hK=> ?_);go_simp;refine(HP.o _).mono ?_;rintro e W3 ⟨rfl,hb⟩;have hb:Below W2.heap.size W2 W3:=((ak _ W2).drew).trans hb;have cY:=ae (gh.o.below hb);clear hb HP;refine hK.out _ _ (λw'=>At w0 p ((pf,ax p nm size g ks.length c {f with at_:=[],same:=false,lost:=true,read:=false})::fs) s w') (λ_ h=>h) cY.o ?_;clear hK K;refine az (λK hK=> ?_);go_simp;refine(FB.o _ cY.o).mono ?_;rintro e W4 ⟨A4,rfl,hst,AZ,hb4,qw⟩;have dC:=ae AZ;obtain⟨gs,Ef,hgf,Yj,ou⟩:=Hj cY.o HHF.o hb4 hst qw;have uq:=ae Ef;have HGF:=ae hgf;have Yk:=ae Yj;have HST:=ae ou;clear hst AZ hb4 qw Ef hgf Yj ou FB gh cY;refine hK.out _ _ (λw'=>At w0 p ((pf,ax p nm size g ks.length c {f with at_:=[],same:=false,lost:=true,read:=false})::fs) s w') (λ_ h=>h) dC.o ?_;clear hK K;repeat
  refine aA (v:= ?_) (λw' hS=> ?_) (λK hK=> ?_);rotate_left
  ·have hc:=aj w' pf (hS.get (af:(pf,ax p nm size g ks.length c {f with at_:=[],same:=false,lost:=true,read:=false})∈(pf,ax p nm size g ks.length c {f with at_:=[],same:=false,lost:=true,read:=false})::fs));clear hS;go_simp;try with_reducible rfl
  go_simp;refine hK _ ?_;clear hK K
 show wpList _ _ _ _ _ _;have ue:((X.cn ks i rows).map (X.aN nm ks i)).length=(X.cn ks i rows).length:=List.length_map ..;try rw[ue]
 have UK:=ae ue;clear ue dC;have hn5:(X.cn ks i rows).length<=100000:=by
  have h1:=HX.o.con.gP (by have:=HX.o.ks.one;omega) HX.o.rows (by have:=HX.o.ct;omega) HI.o;have h2:=iK s.now ⟨(X.pre nm i).toArray⟩;rw[h1,List.length_map]at h2;have:=HX.o.many;omega
 generalize UL:(X.cn ks i rows).length=n at hn5;have Ty:=ae UL;clear UL;go_wp2;have gW:aa (StI w0 p pf g c size nm ks f gs s rows i r b 0 none W4):=ae ⟨Yk.o,rfl,λ_=>rfl⟩;clear Yk;go_loopw [63] (fun t W=>∃k:Nat,k<=n/\t= .int .i64 k/\∃o,aa (StI w0 p pf g c size nm ks f gs s rows i r b k o W)) (fun t _=>n - (intOf t).toNat)
 case atStart=>exact⟨0,Nat.zero_le _,rfl,none,gW⟩
 case round=>
  clear gW;obtain⟨k,hk,rfl,o,HS⟩:=hrel;by_cases hlt:k<n
  ·have dS:k<(X.cn ks i rows).length:=(by rw[Ty.o];exact hlt);obtain⟨g4,rfl,pF,xe⟩:=HST.o _ _ _ HS.o.at_ fT (by rw[UK.o];omega);have eD:=xe k (by rw[UK.o];exact dS);rw[List.getElem_map]at eD;have Cq:(X.cn ks i rows)[k]∈rows:=(X.bD ks i _ rows).1 (List.getElem_mem dS);have UM:(X.cn ks i rows)[k]? =some (X.cn ks i rows)[k]:=List.getElem?_eq_getElem dS;generalize NI:(X.cn ks i rows)[k]=x at eD Cq;replace eD:wr.cell? ⟨g4,k,none⟩=some (.string ⟨(X.aN nm ks i x).toArray⟩):=eD;have HXX:=ae NI;have bB:=ae hlt;have HV:=ae (λw1 (hh:At w0 p ((pf,ax p nm size g ks.length c (FA f nm ks i o))::gs) s w1)=>jE (c:=c) HX.o HI.o Cq w1 (HO.o.2 w1 g (hh.get (ag _ (uq.o _ jo.o)))));have mI:=HX.o.vlen HI.o Cq;have hto:=ua (X.val ks i x.b) b.length (by rw[mI];exact hbl);have hcm:=HCM.o ⟨((X.val ks i x.b).take b.length).toArray⟩ ⟨b.toArray⟩;rw[show(⟨((X.val ks i x.b).take b.length).toArray⟩:ByteArray).data.toList=(X.val ks i x.b).take b.length from rfl,show(⟨b.toArray⟩:ByteArray).data.toList=b from rfl]at hcm;have hho:=λw=>HHO.o (Lib.compareBytes ((X.val ks i x.b).take b.length) b) w;rw[Md]at hho;have hq:X.rel r ((X.val ks i x.b).take b.length) b=Me ks i r b x:=rfl;rw[hq]at hho;have Qv:=ae hcm;have aam:=ae hho;have cI:∀j,(FA f nm ks i o).key=j->True:=λ_ _=>trivial;clear xe pF UM NI hcm hho hq mI Cq cI;generalize Lib.compareBytes ((X.val ks i x.b).take b.length) b=cc at Qv aam;generalize(⟨((X.val ks i x.b).take b.length).toArray⟩:ByteArray)=vt at hto Qv;generalize jm:(⟨(X.val ks i x.b).toArray⟩:ByteArray)=vv at hto HV;generalize hbb:(⟨b.toArray⟩:ByteArray)=bb at Qv;have HBB:=ae hbb;generalize NJ:(⟨(X.aN nm ks i x).toArray⟩:ByteArray)=ee at eD HV;have HEE:=ae NJ;clear jm hbb NJ;go_wp2_with fail;refine aJ 14 (.rd 0 (.rd 1 (.rd 2 (.rd 3 (.rd 4 (.rd 5 (.rd 6 (.rd 8 (.rd 9 (.rd 11 (.rd 12 (.wr 7 (.rd 10 (.wr 13 .fin)))))))))))))) (λw'=>At w0 p ((pf,ax p nm size g ks.length c (FA f nm ks i o))::gs) s w') (HS.o.at_.below ((ak _ _).drew)) ?_;repeat
    refine aA (v:= ?_) (λw' hS=> ?_) (λK hK=> ?_);rotate_left
    ·have hc:=aj w' pf (hS.get (af:(pf,ax p nm size g ks.length c (FA f nm ks i o))∈(pf,ax p nm size g ks.length c (FA f nm ks i o))::gs));have hcv:=bL (c:=cb) (by have hq:=(Hl.o _ _ _ (λy hy=>ag _ (uq.o y hy)) hS).by;obtain⟨A',c',e,_,hq⟩:=hq;injection e with e1 e2 e3;subst e1;exact hq:By w' bE A b.length b);rw[HBB.o]at hcv;clear hS;go_simp;try with_reducible rfl
    go_simp;refine hK _ ?_;clear hK K
   refine az (λK hK=> ?_);go_simp;refine(HV.o _ (HS.o.at_.below ((ak _ _).drew))).mono ?_;rintro e W6 ⟨rfl,hb⟩;have eP:=ae (HS.o.at_.below (((ak _ _).drew).trans hb));clear hb HV;refine hK.out _ _ (λw'=>At w0 p ((pf,ax p nm size g ks.length c (FA f nm ks i o))::gs) s w') (λ_ h=>h) eP.o ?_;clear hK K;repeat
    refine aA (v:= ?_) (λw' hS=> ?_) (λK hK=> ?_);rotate_left
    ·have hc:=aj w' pf (hS.get (af:(pf,ax p nm size g ks.length c (FA f nm ks i o))∈(pf,ax p nm size g ks.length c (FA f nm ks i o))::gs));clear hS;go_simp;try with_reducible rfl
    go_simp;refine hK _ ?_;clear hK K
   refine az (λK hK=> ?_);go_simp;refine(Qv.o _).mono ?_;rintro e W7 ⟨rfl,hW7⟩;subst hW7;refine hK.out _ _ (λw'=>At w0 p ((pf,ax p nm size g ks.length c (FA f nm ks i o))::gs) s w') (λ_ h=>h) eP.o ?_;clear hK K;show wpList _ _ _ _ _ _;go_wp2_with fail;refine(aam.o _).mono ?_;rintro e W8 ⟨rfl,hW8⟩;subst hW8;clear Qv aam hto;cases hq:Me ks i r b x with
   |false=>
    have HJ:aa (StI w0 p pf g c size nm ks f gs s rows i r b (k+1) o W7):=ae ⟨eP.o,by
     have hl:=HS.o.last;have dS:k<(X.cn ks i rows).length:=(by rw[Ty.o];exact bB.o);rw[List.take_succ_eq_append_getElem dS,HXX.o,rI,hq];exact hl,HS.o.none⟩
    clear hq eP HS;go_wp2;go_roundw
    case rel=>exact⟨k+1,bB.o,by go_num,o,HJ⟩
    case measure=>have h1:=bB.o;simp[intOf];omega
   |true=>
    have hl5:some x=(((X.cn ks i rows).take (k+1)).filter (Me ks i r b)).getLast? :=by
     have dS:k<(X.cn ks i rows).length:=(by rw[Ty.o];exact bB.o);rw[List.take_succ_eq_append_getElem dS,HXX.o,rI,hq];rfl
    have HL5:=ae hl5;have h6:W7.heap[pf]? =some (ax p nm size g ks.length c (FA f nm ks i o)):=eP.o.get af;have hz:=aD h6;have hc:=aj W7 pf h6;have lH:=ae (cR (f':=FA f nm ks i (some x)) eP.o HGF.o HT.o (ay (ay (ay (ay (World.grownBy.refl W7 (some pf)) 6 (.int .i64 (i:Nat))) 7 (.string ee)) 8 (.bool true)) 9 (.bool false)) (by
     have:=aB (aB (aB (aB h6 6 (.int .i64 (i:Nat))) 7 (.string ee)) 8 (.bool true)) 9 (.bool false);rw[<-HEE.o]at this|-;cases o<;>exact this))
    have HQ:=ae hq;clear hl5 h6 hq eP;by_cases Bg:r=3\/r=4
    ·have HJ:aa (StI w0 p pf g c size nm ks f gs s rows i r b (k+1) (some x) _):=ae ⟨lH.o,HL5.o,λh=>absurd Bg h⟩;clear lH HS;rcases Bg with hr3|hr4
     ·have n3:((r:Int) !=3)=false:=(by subst hr3;rfl);clear hr3;go_wp2;go_roundw
      case rel=>exact⟨k+1,bB.o,by go_num,some x,HJ⟩
      case measure=>have h1:=bB.o;simp[intOf];omega
     ·have n3:((r:Int) !=3)=true:=(by subst hr4;rfl);have n4:((r:Int) !=4)=false:=(by subst hr4;rfl);clear hr4;go_wp2;go_roundw
      case rel=>exact⟨k+1,bB.o,by go_num,some x,HJ⟩
      case measure=>have h1:=bB.o;simp[intOf];omega
    ·have n3:((r:Int) !=3)=true:=(by simp;omega);have n4:((r:Int) !=4)=true:=(by simp;omega);have hpl:pS ks i rows r b=some x:=by
      unfold pS;rw[if_neg Bg];have dS:k<(X.cn ks i rows).length:=(by rw[Ty.o];exact bB.o);have ho:=HS.o.none Bg;have lW:=HS.o.last;rw[ho]at lW;have:=UJ dS (zw lW.symm) (by rw[HXX.o];exact HQ.o);rw[this,HXX.o]
     have HPL:=ae hpl;clear hpl Bg HS;go_wp2;go_ret;rw[HPL.o];exact⟨rfl,lH.o.less (λy hy=>by
      rcases au hy with rfl|hy
      ·exact af
      ·exact ag _ (uq.o y hy))⟩
  ·obtain rfl:k=n:=(by omega);have hpl:pS ks i rows r b=o:=by
    have lW:=HS.o.last;rw[List.take_of_length_le (by rw[Ty.o];exact Nat.le_refl _)]at lW;unfold pS;by_cases Bg:r=3\/r=4
    ·rw[if_pos Bg];exact lW.symm
    ·rw[if_neg Bg];have ho:=HS.o.none Bg;rw[ho]at lW|-;exact List.find?_eq_none.2 (λx hx=>by rw[zw lW.symm x hx];decide)
   have HPL:=ae hpl;have uX:=HS.o.at_;have hc:=aj wr pf (uX.get (af:(pf,ax p nm size g ks.length c (FA f nm ks i o))∈(pf,ax p nm size g ks.length c (FA f nm ks i o))::gs));have lI:=ae (uX.less (gs:=(pf,ax p nm size g ks.length c (FA f nm ks i o))::fs) (λy hy=>by
    rcases au hy with rfl|hy
    ·exact af
    ·exact ag _ (uq.o y hy)))
   clear hpl HS uX;cases o with
   |none=>
    go_wp2;go_ret;rw[HPL.o];exact⟨rfl,lI.o⟩
   |some x=>
    go_wp2;go_ret;rw[HPL.o];exact⟨rfl,lI.o⟩
end
structure jH (w:World) (q g c:Nat) (M:Nat->Prop) (m:X.M) (v:Value) (l:List HP) (D:Value) (o:List HP) (W:World):Prop where
 gr:w.grownBy W (some q)
 md:fH W q g c M m v l
 rw_:lU W M D o
def nxB (ks:List X.Ky) (k:Nat) (o:List HP) (i:Nat) (b:J.B):Bool:=match o[i+1]? with
 |some x=>decide (X.val ks k x.1.b=X.val ks k b)
 |none=>false
def tkS (m:X.M) (o:List HP) (i:Nat) (b:J.B):J.B:=if 0<m.key/\nxB m.ks m.key o i b=true then [48,50]else [48,48]
section
variable {w w' W E : World} {q g c : Nat} {M : Nat -> Prop} {m m' B : X.M} {v D : Value} {l o : List HP}
theorem jH.below (h:jH w q g c M m v l D o W) (a:Below W.heap.size W E):jH w q g c M m v l D o E:=
 ⟨⟨a.os.trans h.gr.os,a.tape.trans h.gr.tape,a.output.trans h.gr.output,aw h.gr.size a.size,λk b d=>(a.block k (av b h.gr.size)).trans (h.gr.block k b d)⟩,h.md.below a,h.rw_.below a⟩
theorem jH.set (h:jH w q g c M m v l D o W) (j:Nat) (x:Value) (f:(W.setCell ⟨q,j,none⟩ x).heap[q]? =some (gz m' g c v)) (e1:m'.ks=m.ks) (e2:m'.rows=m.rows):jH w q g c M m' v l D o (W.setCell ⟨q,j,none⟩ x):=by
 have a:=ay (World.grownBy.refl W (some q)) j x;refine⟨ay h.gr j x,h.md.turn a f e1 e2,h.rw_.keep a.size (λk b d=>a.block k b (λe=>d (by injection e with e;rw[e];exact h.md.nq))) (λ_ _ h=>h)⟩
theorem jH.drew (h:jH w q g c M m v l D o W):jH w q g c M m v l D o W.drew:=h.below (ak _ _).drew
theorem lU.cellAt {a n b:Nat} (h:lU w M (.slice (some ⟨a,0,none⟩) n b) o) {k:Nat} (d:k<o.length):w.cell? ⟨a,k*2,none⟩=some (encStr o[k].1.b)/\w.cell? ⟨a,k*2+1,none⟩=some o[k].2:=by
 obtain⟨g1,c1,e,h1,c⟩:=h.cells d;injection e with e1 e2 e3;injection e1 with e1;injection e1 with e1;subst e1;exact⟨h1,c⟩
theorem lT.cellAt {a n ct:Nat} {ts:List Nat} (h:lT w M (.slice (some ⟨a,0,none⟩) n ct) ts) {i:Nat} (b:i<ts.length):w.cell? ⟨a,i,none⟩=some (xM ts[i]):=by
 obtain⟨g1,c1,e,h1⟩:=h.cell b;injection e with e1 e2 e3;injection e1 with e1;injection e1 with e1;subst e1;exact h1
theorem jH.cells {a n b:Nat} (h:jH w q g c M m v l (.slice (some ⟨a,0,none⟩) n b) o W) {k:Nat} (d:k<o.length):W.cell? ⟨a,k*2,none⟩=some (encStr o[k].1.b)/\W.cell? ⟨a,k*2+1,none⟩=some o[k].2:=h.rw_.cellAt d
theorem jH.tm {a n ct:Nat} (h:jH w q g c M m v l D o W) {x:HP} (e:x∈o) (d:x.2= .slice (some ⟨a,0,none⟩) n ct) {i:Nat} (b:i<x.1.ts.length):W.cell? ⟨a,i,none⟩=some (xM (x.1.t i)):=by
 have h1:=h.rw_.tm x e;rw[d]at h1;have:=h1.cellAt b;rw[this];unfold X.Row.t;rw[List.getD_eq_getElem?_getD,List.getElem?_eq_getElem b];rfl
theorem jH.part (h:jH w q g c M B v l D o W) (f:B.ks=m.ks) (a:bY m o) {k:Nat} (b:k<m.ks.length) {x:HP} (d:x∈o):
  Calls Tryz.prog 52 #[.pointer (some ⟨q,0,none⟩), .int .i64 (k:Nat), .string ⟨x.1.b.toArray⟩] W λe w'=>e= .returned (.string ⟨(X.val m.ks k x.1.b).toArray⟩)/\Below W.heap.size W w':=by
 have h1:=(X.aS.1 (a.fit x d)).2 _ (X.aY b);have i:=(X.aS.1 (a.fit x d)).1;have j:=a.ks.size;rw[<-f]at b h1|-;exact hpart_any h.md.row h.md.ks k b x.1.b h1 (by omega)
theorem UN (i:Nat) (h:i<=1000000):wrap64 ((i:Int)+1)=((i+1:Nat):Int):=by rw[IntWalk.wrap64_in _ (by omega)];omega
theorem Qw (i:Nat) (h:i<=1000000):IntKind.i64.wrap ((i:Int)+1)=((i+1:Nat):Int):=by rw[IntKind.wrap_i64];omega
theorem zx (h:fH w q g c M m v l) (Z:lU w M D o) (u:bY m o) (i:Nat) (z:i<o.length) (O:m.key<m.ks.length):
  Calls Tryz.prog 110 #[.pointer (some ⟨q,0,none⟩),D, .int .i64 (i:Nat)] w λe w'=>e= .returned (.tuple #[.string ⟨(o[i].1.b).toArray⟩, .string ⟨(tkS m o i o[i].1.b).toArray⟩])/\w.grownBy w' (some q)/\fH w' q g c M (m.take o[i].1) v l:=by
 obtain⟨d,f,rfl,_,_⟩:=Z.cells z;have a0:=u.ts _ (List.getElem_mem z);obtain⟨V,ct,P,d0⟩:=(Z.tm _ (List.getElem_mem z)).cell (i:=m.key) (by rw[a0];exact O);have d4:(i:Int)<(o.length:Nat):=by omega
 have b0:(m.key:Int)<(o[i].1.ts.length:Nat):=by rw[a0];omega
 have p:=ae (λ(B:X.M) (W:World) (b:jH w q g c M B v l (.slice (some ⟨d,0,none⟩) o.length f) o W)=>b.cells z);have U:=ae (λ(B:X.M) (W:World) (b:jH w q g c M B v l (.slice (some ⟨d,0,none⟩) o.length f) o W)=>b.tm (List.getElem_mem z) P (i:=m.key) (by rw[a0];exact O));have T:=ae (λ(B:X.M) (W:World) (N:B.ks=m.ks) (b:jH w q g c M B v l (.slice (some ⟨d,0,none⟩) o.length f) o W)=>b.part N u O (List.getElem_mem z));have a2:=ae (λ(B:X.M) (W:World) (N:B.ks=m.ks) (b:jH w q g c M B v l (.slice (some ⟨d,0,none⟩) o.length f) o W)=>b.part N u (k:=0) u.ks.one.1 (List.getElem_mem z));have a1:aa ((nxB m.ks m.key o i o[i].1.b=false/\¬i+1<o.length)\/∃y:HP,i+1<o.length/\(∀(B:X.M) (W:World),jH w q g c M B v l (.slice (some ⟨d,0,none⟩) o.length f) o W->W.cell? ⟨d,(i+1)*2,none⟩=some (.string ⟨y.1.b.toArray⟩))/\nxB m.ks m.key o i o[i].1.b=decide (X.val m.ks m.key y.1.b=X.val m.ks m.key o[i].1.b)/\∀(B:X.M) (W:World),B.ks=m.ks->jH w q g c M B v l (.slice (some ⟨d,0,none⟩) o.length f) o W->Calls Tryz.prog 52 #[.pointer (some ⟨q,0,none⟩), .int .i64 (m.key:Nat), .string ⟨y.1.b.toArray⟩] W λe w'=>e= .returned (.string ⟨(X.val m.ks m.key y.1.b).toArray⟩)/\Below W.heap.size W w'):=ae (by
  by_cases h1:i+1<o.length
  ·refine .inr ⟨o[i+1],h1,λB W b=>(b.cells h1).1, ?_,λB W N b=>b.part N u O (List.getElem_mem h1)⟩;unfold nxB;rw[List.getElem?_eq_getElem h1]
  ·refine .inl ⟨?_,h1⟩;unfold nxB;rw[List.getElem?_eq_none (by omega)])
 have Q:aa (jH w q g c M m v l (.slice (some ⟨d,0,none⟩) o.length f) o w.drew):=ae (jH.drew ⟨World.grownBy.refl w _,h,Z⟩);have c3:=u.len;have d7:=UN i (by omega);have d8:=Qw i (by omega);have S:=ae (λy:HP=>dt (X.val m.ks m.key y.1.b) (X.val m.ks m.key o[i].1.b));clear d0;clear a0 u h Z O c3;generalize o[i]=x at p U T a2 a1 P b0 S|-;obtain⟨xr,xv⟩:=x;have P:xv= .slice (some ⟨V,0,none⟩) xr.ts.length ct:=P;subst P;generalize hx:((xr, .slice (some ⟨V,0,none⟩) xr.ts.length ct):HP)=x at p U T a2 a1 b0 S|-;have c9:x.1=xr:=by rw[<-hx]
 have b2:x.2= .slice (some ⟨V,0,none⟩) x.1.ts.length ct:=by rw[<-hx]
 replace p:=ae (λB W b=>(⟨(p.o B W b).1,(p.o B W b).2.trans (by rw[b2])⟩:W.cell? ⟨d,i*2,none⟩=some (.string ⟨x.1.b.toArray⟩)/\W.cell? ⟨d,i*2+1,none⟩=some (.slice (some ⟨V,0,none⟩) x.1.ts.length ct)));clear hx c9 b2;generalize b9:(⟨(X.val m.ks m.key x.1.b).toArray⟩:ByteArray)=VK at T S;go_enter Tryz.func110,Tryz.ntmps110;go_upto_region 1 with fail;refine aJ 10 (.rd 0 (.rd 1 (.rd 2 (.rd 3 (.rd 4 (.rd 5 (.rd 6 (.rd 7 (.rd 8 (.rd 9 .fin)))))))))) (λw'=>jH w q g c M m v l (.slice (some ⟨d,0,none⟩) o.length f) o w') Q.o ?_
 iterate 10
  refine aA (v:= ?_) (λw' b=> ?_) (λK a=> ?_);rotate_left
  ·have E:=aj w' q b.md.row;obtain⟨k0,C⟩:=p.o m w' b;have k2:=U.o m w' b;clear b;go_simp;try with_reducible rfl
  go_simp;refine a _ ?_;clear a K
 show wpList _ _ _ _ _ _;go_wp2_with fail;refine(T.o m _ rfl Q.o).mono ?_;rintro e w1 ⟨rfl,s⟩;have G:=ae (Q.o.below s);clear s Q;have d1:=aD G.o.md.row;have c0:=aj w1 q G.o.md.row;have H2:=ae (G.o.set (m':={m with lost:=false}) 9 (.bool false) (aB G.o.md.row 9 (.bool false)) rfl rfl);have H3:=ae (H2.o.set (m':={m with lost:=false,value:=X.val m.ks m.key x.1.b}) 10 (.string VK) (by rw[<-b9];exact aB H2.o.md.row 10 _) rfl rfl);go_upto_region 4 with fail;refine aL (λY=>jH w q g c M {m with lost:=false,value:=X.val m.ks m.key x.1.b} v l (.slice (some ⟨d,0,none⟩) o.length f) o Y) H3.o ?_;rintro W3 a7;have t:=ae a7.drew;clear d1 c0 G H2 H3 a7;refine aJ 12 (.rd 0 (.rd 1 (.rd 2 (.rd 3 (.rd 4 (.rd 5 (.rd 6 (.rd 7 (.rd 8 (.rd 9 (.rd 10 (.rd 11 .fin)))))))))))) (λw'=>jH w q g c M {m with lost:=false,value:=X.val m.ks m.key x.1.b} v l (.slice (some ⟨d,0,none⟩) o.length f) o w') t.o ?_
 iterate 12
  refine aA (v:= ?_) (λw' b=> ?_) (λK a=> ?_);rotate_left
  ·have E:=aj w' q b.md.row;obtain⟨k0,C⟩:=p.o {m with lost:=false,value:=X.val m.ks m.key x.1.b} w' b;have k2:=U.o {m with lost:=false,value:=X.val m.ks m.key x.1.b} w' b;clear b;go_simp;try with_reducible rfl
  go_simp;refine a _ ?_;clear a K
 generalize W3.drew=X3 at t|-;show wpList _ _ _ _ _ _;have d2:=aD t.o.md.row;have c1:=aj X3 q t.o.md.row;have H4:=ae (t.o.set (m':={m with lost:=false,value:=X.val m.ks m.key x.1.b,at_:=x.1.t m.key}) 11 (.int .i64 (x.1.t m.key:Nat)) (aB t.o.md.row 11 (.int .i64 (x.1.t m.key:Nat))) rfl rfl);have H5:=ae (H4.o.set (m':={m with lost:=false,value:=X.val m.ks m.key x.1.b,at_:=x.1.t m.key,same:=false}) 12 (.bool false) (aB H4.o.md.row 12 (.bool false)) rfl rfl);go_upto_region 6 with fail;refine aL (λY=>jH w q g c M {m with lost:=false,value:=X.val m.ks m.key x.1.b,at_:=x.1.t m.key,same:=false} v l (.slice (some ⟨d,0,none⟩) o.length f) o Y) H5.o ?_;rintro W5 a8;have I:=ae a8;clear d2 c1 t H4 H5 a8;obtain⟨k0,C⟩:=p.o _ _ I.o;have E:=aj W5 q I.o.md.row;go_wp2_with fail;refine(a2.o {m with lost:=false,value:=X.val m.ks m.key x.1.b,at_:=x.1.t m.key,same:=false} _ rfl I.o).mono ?_;rintro e w6 ⟨rfl,s⟩;have H:=ae (I.o.below s);clear s I k0 C E;have d3:=aD H.o.md.row;have c2:=aj w6 q H.o.md.row;have H7:=ae (H.o.set (m':={m with lost:=false,value:=X.val m.ks m.key x.1.b,at_:=x.1.t m.key,same:=false,last:=X.val m.ks 0 x.1.b}) 13 (.string ⟨(X.val m.ks 0 x.1.b).toArray⟩) (aB H.o.md.row 13 (.string ⟨(X.val m.ks 0 x.1.b).toArray⟩)) rfl rfl);have H8:=ae (H7.o.set (m':=(m.take x.1)) 14 (.bool true) (aB H7.o.md.row 14 (.bool true)) rfl rfl);go_upto_region 8 with fail;refine aL (λY=>jH w q g c M (m.take x.1) v l (.slice (some ⟨d,0,none⟩) o.length f) o Y) H8.o ?_;rintro W8 a9;have r:=ae a9.drew;clear d3 c2 H H7 H8 a9;obtain A|A:m.key=0\/0<m.key:=by omega
 ·have c5:¬(0:Int)<((m.take x.1).key:Nat):=(by show¬(0:Int)<(m.key:Nat);omega);have c4:¬0<(m.take x.1).key:=(by show¬0<m.key;omega);have b7:=ae A;clear A;refine aR (.rd 0 (.rd 1 (.rd 2 (.rd 3 (.rd 4 (.rd 5 (.rd 6 (.rd 7 (.rd 8 (.rd 9 (.rd 10 (.rd 11 (.rd 12 (.rd 13 (.rd 14 (.rd 15 (.rd 16 (.rd 17 (.rd 18 (.rd 19 (.rd 20 (.rd 21 (.rd 22 (.rd 23 (.rd 25 (.wr 24 (.rd 26 (.rd 27 .fin)))))))))))))))))))))))))))) (λw'=>jH w q g c M (m.take x.1) v l (.slice (some ⟨d,0,none⟩) o.length f) o w') r.o ?_
  iterate 6
   refine aA (v:= ?_) (λw' b=> ?_) (λK a=> ?_);rotate_left
   ·have E:=aj w' q b.md.row;clear b;go_simp;try with_reducible rfl
   go_simp;refine a _ ?_;clear a K
  iterate 5
   refine aF (λK a=> ?_);go_simp;refine a _ ?_;clear a K
  iterate 2
   refine aA (v:= ?_) (λw' b=> ?_) (λK a=> ?_);rotate_left
   ·clear b;go_simp;try with_reducible rfl
   go_simp;refine a _ ?_;clear a K
  iterate 12
   refine aF (λK a=> ?_);go_simp;refine a _ ?_;clear a K
  refine dR (by rfl) (by rfl) (λK a=> ?_);go_simp;refine a.out _ _ (λw'=>jH w q g c M (m.take x.1) v l (.slice (some ⟨d,0,none⟩) o.length f) o w') (λ_ h=>h) r.o ?_;clear a K;refine aF (λK a=> ?_);go_simp;refine a _ ?_;clear a K
  iterate 1
   refine aA (v:= ?_) (λw' b=> ?_) (λK a=> ?_);rotate_left
   ·clear b;go_simp;try with_reducible rfl
   go_simp;refine a _ ?_;clear a K
  show wpList _ _ _ _ _ _;simp only[wpList];have n:=r;go_upto_region 10 with fail;obtain⟨k0,C⟩:=p.o _ _ n.o;go_wp2;go_ret2;refine⟨?_,n.o.gr,n.o.md⟩;show Ending.returned (.tuple #[.string ⟨x.1.b.toArray⟩, .string ⟨#[48,48]⟩])=_;unfold tkS;rw[if_neg (by have:=b7.o;omega)]
 ·have c5:(0:Int)<((m.take x.1).key:Nat):=(by show(0:Int)<(m.key:Nat);omega);have c4:0<(m.take x.1).key:=A;obtain⟨b1,h1⟩|⟨y,h1,b4,b3,b5⟩:=a1.o
  ·have c6:¬((i+1:Nat):Int)<(o.length:Nat):=(by omega);have c8:¬i+1<o.length:=h1;have c7:¬(i:Int)+1<(o.length:Nat):=(by omega);have b8:=ae b1;clear b1 h1 A;refine aR (.rd 0 (.rd 1 (.rd 2 (.rd 3 (.rd 4 (.rd 5 (.rd 6 (.rd 7 (.rd 8 (.rd 9 (.rd 10 (.rd 11 (.rd 12 (.rd 13 (.rd 14 (.rd 15 (.rd 16 (.rd 17 (.rd 18 (.rd 19 (.rd 20 (.rd 21 (.rd 22 (.rd 23 (.rd 25 (.wr 24 (.rd 26 (.rd 27 .fin)))))))))))))))))))))))))))) (λw'=>jH w q g c M (m.take x.1) v l (.slice (some ⟨d,0,none⟩) o.length f) o w') r.o ?_
   iterate 13
    refine aA (v:= ?_) (λw' b=> ?_) (λK a=> ?_);rotate_left
    ·have E:=aj w' q b.md.row;clear b;go_simp;try with_reducible rfl
    go_simp;refine a _ ?_;clear a K
   iterate 12
    refine aF (λK a=> ?_);go_simp;refine a _ ?_;clear a K
   refine dR (by rfl) (by rfl) (λK a=> ?_);go_simp;refine a.out _ _ (λw'=>jH w q g c M (m.take x.1) v l (.slice (some ⟨d,0,none⟩) o.length f) o w') (λ_ h=>h) r.o ?_;clear a K;refine aF (λK a=> ?_);go_simp;refine a _ ?_;clear a K
   iterate 1
    refine aA (v:= ?_) (λw' b=> ?_) (λK a=> ?_);rotate_left
    ·clear b;go_simp;try with_reducible rfl
    go_simp;refine a _ ?_;clear a K
   show wpList _ _ _ _ _ _;simp only[wpList];have n:=r;go_upto_region 10 with fail;obtain⟨k0,C⟩:=p.o _ _ n.o;go_wp2;go_ret2;refine⟨?_,n.o.gr,n.o.md⟩;show Ending.returned (.tuple #[.string ⟨x.1.b.toArray⟩, .string ⟨#[48,48]⟩])=_;unfold tkS;rw[if_neg (λhh=>by rw[b8.o]at hh;cases hh.2)]
  ·have c6:((i+1:Nat):Int)<(o.length:Nat):=(by omega);have c8:i+1<o.length:=h1;have c7:(i:Int)+1<(o.length:Nat):=(by omega);have d5:(0:Int)<=(i:Int)+1:=(by omega);have d6:((i:Int)+1).toNat=i+1:=(by omega);have a5:=ae b3;have a6:=ae b4;have a4:=ae (b5 (m.take x.1) W8.drew rfl r.o);have L:=ae (S.o y);have b6:=ae A;clear b3 b4 b5 h1 A;generalize(⟨y.1.b.toArray⟩:ByteArray)=SY at a6 a4;generalize(⟨(X.val m.ks m.key y.1.b).toArray⟩:ByteArray)=VY at a4 L;refine aR (.rd 0 (.rd 1 (.rd 2 (.rd 3 (.rd 4 (.rd 5 (.rd 6 (.rd 7 (.rd 8 (.rd 9 (.rd 10 (.rd 11 (.rd 12 (.rd 13 (.rd 14 (.rd 15 (.rd 16 (.rd 17 (.rd 18 (.rd 19 (.rd 20 (.rd 21 (.rd 22 (.rd 23 (.rd 25 (.wr 24 (.rd 26 (.rd 27 .fin)))))))))))))))))))))))))))) (λw'=>jH w q g c M (m.take x.1) v l (.slice (some ⟨d,0,none⟩) o.length f) o w') r.o ?_
   iterate 25
    refine aA (v:= ?_) (λw' b=> ?_) (λK a=> ?_);rotate_left
    ·have E:=aj w' q b.md.row;have k5:=a6.o _ w' b;clear b;go_simp;try with_reducible rfl
    go_simp;refine a _ ?_;clear a K
   refine az (λK a=> ?_);refine(if_pos (by rfl)).mpr ?_;go_simp;refine a4.o.mono ?_;rintro e W9 ⟨rfl,s⟩;have n:=ae (r.o.below s);refine a.out _ _ (λw'=>jH w q g c M (m.take x.1) v l (.slice (some ⟨d,0,none⟩) o.length f) o w') (λ_ h=>h) n.o ?_;clear a K s r;by_cases F:X.val m.ks m.key y.1.b=X.val m.ks m.key x.1.b
   ·have hq:(VY.toList==VK.toList)=true:=(by rw[L.o];exact decide_eq_true F);have a3:=ae F;clear F L
    iterate 2
     refine aA (v:= ?_) (λw' b=> ?_) (λK a=> ?_);rotate_left
     ·clear b;go_simp;try with_reducible rfl
     go_simp;refine a _ ?_;clear a K
    show wpList _ _ _ _ _ _;simp only[wpList];go_upto_region 9 with fail;obtain⟨k0,C⟩:=p.o _ _ n.o;go_wp2;go_ret2;refine⟨?_,n.o.gr,n.o.md⟩;show Ending.returned (.tuple #[.string ⟨x.1.b.toArray⟩, .string ⟨#[48,50]⟩])=_;unfold tkS;rw[if_pos ⟨b6.o,by rw[a5.o];exact decide_eq_true a3.o⟩]
   ·have hq:(VY.toList==VK.toList)=false:=(by rw[L.o];exact decide_eq_false F);have a3:=ae F;clear F L
    iterate 2
     refine aA (v:= ?_) (λw' b=> ?_) (λK a=> ?_);rotate_left
     ·clear b;go_simp;try with_reducible rfl
     go_simp;refine a _ ?_;clear a K
    show wpList _ _ _ _ _ _;simp only[wpList];go_upto_region 10 with fail;obtain⟨k0,C⟩:=p.o _ _ n.o;go_wp2;go_ret2;refine⟨?_,n.o.gr,n.o.md⟩;show Ending.returned (.tuple #[.string ⟨x.1.b.toArray⟩, .string ⟨#[48,48]⟩])=_;unfold tkS;rw[if_neg (λhh=>by rw[a5.o]at hh;exact a3.o (of_decide_eq_true hh.2))]
end
end Go.Proofs.YtipljcmmokaokaaGreat
