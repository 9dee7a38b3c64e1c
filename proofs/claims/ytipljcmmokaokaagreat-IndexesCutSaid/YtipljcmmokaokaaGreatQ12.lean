import Derived.Test.YtipljcmmokaokaaGreatQ11
set_option linter.unusedVariables false
set_option linter.unusedSimpArgs false
set_option maxHeartbeats 4000000
namespace Go.Proofs.YtipljcmmokaokaaGreat
open Go.RowKit Go.Lib Go.Maps Go.WideMaps Go.Sort
set_option maxRecDepth 100000
namespace X
theorem rJ (s:J.St) (chs:List J.cd) (now:List (B×B)) (k v:B) (a:20+(J.encs chs).length+k.length+v.length<=4194304):J.add (opened s chs now) ⟨k,v,false⟩=(opened s (chs++[⟨k,v,false⟩]) (J.ins now k v),0):=by
 rw[lN _ _ _ _ (by simp only[J.cd.len,Bool.false_eq_true,if_false];omega)];rfl
theorem Eh (s:J.St) (chs:List J.cd) (now:List (B×B)) (k:B) (a:J.look now k≠none) (b:16+(J.encs chs).length+k.length<=4194304):J.delete (opened s chs now) k=(opened s (chs++[⟨k,[],true⟩]) (J.del now k),0):=by
 unfold J.delete;rw[if_neg (by show¬true=false;decide),if_neg (show¬J.look (opened s chs now).now k=none from a),lN _ _ _ _ (by simp only[J.cd.len,if_true];omega)];rfl
structure FC (s:J.St) (chs:List J.cd) (now:List (B×B)) (n:Nat):Prop where
 inv:J.Inv True (opened s chs now)
 len:(J.encs chs).length<=n
 mn:n=0\/7<=(J.encs chs).length
section
variable {s : J.St} {chs : List J.cd} {now : List (B × B)} {n m : Nat}
theorem FC.put (h:FC s chs now n) (k v:B) (h0:k≠[]) (a:k.length<=300) (b:v.length<=8192) (c:n+7+k.length+v.length<=m):FC s (chs++[⟨k,v,false⟩]) (J.ins now k v) m:=by
 have e:(J.encs (chs++[⟨k,v,false⟩])).length=(J.encs chs).length+(7+k.length+v.length):=by
  rw[J.gK,J.dw];simp[J.encs,J.cd.len];omega
 have:=h.len;exact⟨rA h.inv ⟨k,v,false⟩ ⟨h0,a,b,λe=>by cases e⟩ (λe=>by cases e),by rw[e];omega, .inr (by rw[e];omega)⟩
theorem FC.del (h:FC s chs now n) (k:B) (h0:k≠[]) (c:k.length<=300) (d:J.look now k≠none) (f:n+3+k.length<=m) (b:n=0->4<=k.length):FC s (chs++[⟨k,[],true⟩]) (J.del now k) m:=by
 have e:(J.encs (chs++[⟨k,[],true⟩])).length=(J.encs chs).length+(3+k.length):=by
  rw[J.gK,J.dw];simp[J.encs,J.cd.len]
 have:=h.len;exact⟨rA h.inv ⟨k,[],true⟩ ⟨h0,c,Nat.zero_le _,λ_=>rfl⟩ (λ_=>d),by rw[e];omega, .inr (by rw[e];rcases h.mn with a|a;have:=b a;omega;omega)⟩
end
end X
theorem zy {w0:World} {p:Nat} {s:J.St} {fs:List (Nat×Obj)} {w w':World} {A:Option Addr} {ls:List J.B} (h:At w0 p fs s w) (c:Below w.heap.size w w') (q:gX w' A ls) (l:∀g,A=some ⟨g,0,none⟩->w.heap.size<=g):
  ∃gs,(∀x∈fs,x∈gs)/\At w0 p gs s w'/\∀t W,At w0 p gs t W->gX W A ls:=by
 by_cases d:0<ls.length
 ·obtain⟨g,e,n,k⟩:=q d;obtain⟨o,f⟩:∃o,w'.heap[g]? =some o:=⟨_,Array.getElem?_eq_getElem n⟩;refine⟨[(g,o)]++fs,λx a=>List.mem_append_right _ a,h.add c (λx a=> ?_),λt W i=>λ_=> ?_⟩
  ·simp only[List.mem_singleton]at a;subst a;exact⟨l g e,f⟩
  ·have b:=i.get (List.mem_append_left _ (List.mem_singleton.2 rfl):(g,o)∈[(g,o)]++fs);exact⟨g,e,(ai b).1,λj m=>(World.cell?_of_block (b.trans f.symm)).trans (k j m)⟩
 ·exact⟨fs,λx a=>a,h.below c,λt W _ h0=>absurd h0 d⟩
structure RmI (nm:J.B) (ks:List X.Ky) (i:Nat) (o:X.Row) (L:List X.Row) (j0:Nat) (now:List (J.B×J.B)):Prop where
 lt:j0<L.length
 ro:L[j0]? =some o
 one:∀k (h:k<L.length),X.val ks 0 L[k].b=X.val ks 0 o.b->k=j0
 look:∀r∈L,J.look now (X.aN nm ks i r)=some (X.val ks 0 r.b)
 len:∀r∈L,(X.aN nm ks i r).length<=300
 vlen:∀r∈L,(X.val ks 0 r.b).length<=200
 keys:keysOf now ⟨(X.pre nm i++X.val ks i o.b).toArray⟩=L.map (X.aN nm ks i)
def Hm (s:J.St) (chs:List J.cd) (now:List (J.B×J.B)) (e:J.B) (j0 k:Nat):J.St:=if j0<k then X.opened s (chs++[⟨e,[],true⟩]) (J.del now e)else X.opened s chs now
theorem Qx {nm:J.B} {ks:List X.Ky} {i:Nat} {o:X.Row} {L:List X.Row} {c:Nat} {now:List (J.B×J.B)} {s:J.St} {chs:List J.cd} (h:RmI nm ks i o L c now) {k:Nat} (b:k<L.length):J.look (Hm s chs now (X.aN nm ks i o) c k).now (X.aN nm ks i L[k])=some (X.val ks 0 L[k].b):=by
 have h1:=h.look L[k] (List.getElem_mem b);unfold Hm;split
 ·rename_i hj
  show J.look (J.del now _) _=_;rw[J.bX,if_neg (λe=> ?_)]
  ·exact h1
  ·have d:o∈L:=List.mem_of_getElem? h.ro;have a:=h.look o d;rw[<-e,h1]at a;injection a with a;have:=h.one k b a;omega
 ·exact h1
section
variable {w0 : World} {p pf g c size ct u : Nat} {nm : J.B} {ks : List X.Ky} {rows : List X.Row} {f : Fv} {w w' : World} {s s1 s2 : J.St} {fs : List (Nat × Obj)} {ok : Obj}
variable {chs : List J.cd} {now : List (J.B × J.B)}
theorem xg (h:At w0 p fs (X.opened s chs now) w) (hF:(pf,ax p nm size g ks.length c f)∈fs) (bF:(g,ok)∈fs) (hO:bR ok ks) (cB:X.eC ks size) (jl:nm.length<=100) (i:Nat) (hi:i<ks.length) (o:X.Row) (A:Option Addr) (cb:Nat) (eG:Src w0 p fs (.slice A o.b.length cb) o.b) (bj:X.bt ks size o.b=true)
  (L:List X.Row) (j0:Nat) (hR:RmI nm ks i o L j0 now) (uH:now.length<=200000) (hlen:(J.encs chs).length<=4000000):
  Calls Tryz.prog 74 #[.pointer (some ⟨pf,0,none⟩), .int .i64 (i:Nat), .slice A o.b.length cb] w λe w'=>(∃v,e= .returned v)/\At w0 p fs (X.opened s (chs++[⟨X.aN nm ks i o,[],true⟩]) (J.del now (X.aN nm ks i o))) w':=by
 obtain⟨ld,xN⟩:=X.aS.1 bj;have hsz:=cB.size;have bq:=cB.one;have LK:(i:Int)<(ks.length:Nat):=by omega
 have h01:(0:Int)<(ks.length:Nat):=by omega
 have mI:(X.val ks i o.b).length=X.lens ks i:=X.bc bj hi;have hl2:X.lens ks i<=160:=(cB.key _ (X.aY hi)).2.1;have hpl:=X.ia nm i;have HP:=ae (λW=>bU nm size (some ⟨g,0,none⟩) ks.length c i (by omega) (by omega) W);have HV:=ae (λw1 lV t (hs:∀x∈fs,x∈lV) (hh:At w0 p lV t w1)=>cG (X.aH ks i) (.slice A o.b.length cb) o.b bE w1 (eG _ _ _ hs hh) (xN _ (X.aY hi)) (by omega));have Lh:=ae (λw1 lV t (hs:∀x∈fs,x∈lV) (hh:At w0 p lV t w1)=>cG (X.aH ks 0) (.slice A o.b.length cb) o.b bE w1 (eG _ _ _ hs hh) (xN _ (X.aY (by omega))) (by omega));have tQ:(X.aH ks i).val o.b=X.val ks i o.b:=rfl;have hv0:(X.aH ks 0).val o.b=X.val ks 0 o.b:=rfl;rw[tQ]at HV;rw[hv0]at Lh;have NH:=λw1 (hh:At w0 p fs (X.opened s chs now) w1)=>ie hh ⟨(X.pre nm i++X.val ks i o.b).toArray⟩ (show now.length<=1000000 by omega);have pH:(X.opened s chs now).now=now:=rfl;rw[pH,hR.keys]at NH;have FB:=ae NH;have JG:L.length<=200000:=by
  have h1:=iK now ⟨(X.pre nm i++X.val ks i o.b).toArray⟩;rw[hR.keys,List.length_map]at h1;omega
 have hdel:=X.Eh s chs now (X.aN nm ks i o) (by rw[hR.look o (List.mem_of_getElem? hR.ro)];intro e;cases e) (by have:=hR.len o (List.mem_of_getElem? hR.ro);omega);have aij:=ae hdel;have hre:Hm s chs now (X.aN nm ks i o) j0 L.length=X.opened s (chs++[⟨X.aN nm ks i o,[],true⟩]) (J.del now (X.aN nm ks i o)):=by unfold Hm;rw[if_pos hR.lt]
 rw[<-hre];have gR:=ae (λlV t (hs:∀x∈fs,x∈lV) w1 (hh:At w0 p lV t w1)=>hO.2 w1 g (hh.get (hs _ bF)));have gS:=ae (λlV t (hs:∀x∈fs,x∈lV) w1 (hh:At w0 p lV t w1)=>hh.get (hs _ hF));have HR:=ae hR;have e1:=gH (X.pre nm i) (X.val ks i o.b);have hs1:(⟨(X.pre nm i).toArray⟩:ByteArray).size<=1000:=by rw[bm];omega
 have hs2:(⟨(X.val ks i o.b).toArray⟩:ByteArray).size<=1000:=by rw[bm];omega
 have HA:=ae h;have HI:=ae hi;have gW:=ae (show 0<ks.length by omega);generalize(⟨(X.pre nm i).toArray⟩:ByteArray)=P at HP hs1 e1;generalize(⟨(X.val ks i o.b).toArray⟩:ByteArray)=V at HV hs2 e1;generalize(⟨(X.pre nm i++X.val ks i o.b).toArray⟩:ByteArray)=PV at FB e1;clear h hF bF hO cB jl eG bj hR ld xN hsz bq mI hl2 hpl tQ hv0 NH pH uH hlen hdel hre;go_enter Tryz.func74,Tryz.ntmps74;go_upto_region 0 with fail;refine aJ 15 (.rd 0 (.rd 1 (.rd 2 (.rd 3 (.rd 4 (.rd 6 (.rd 7 (.rd 8 (.rd 9 (.rd 10 (.rd 11 (.rd 12 (.rd 13 (.rd 14 (.wr 5 .fin))))))))))))))) (λw'=>At w0 p fs (X.opened s chs now) w') (HA.o.below ((ak _ _).drew)) ?_;repeat
  refine aA (v:= ?_) (λw' hS=> ?_) (λK hK=> ?_);rotate_left
  ·have hc:=aj w' pf (gS.o fs (X.opened s chs now) (λ_ hx=>hx) w' hS);have fZ:=(gR.o fs (X.opened s chs now) (λ_ hx=>hx) w' hS).at_ HI.o;have hk2:=(gR.o fs (X.opened s chs now) (λ_ hx=>hx) w' hS).len HI.o;have hk3:=(gR.o fs (X.opened s chs now) (λ_ hx=>hx) w' hS).dup HI.o;clear hS;go_simp;try with_reducible rfl
  go_simp;refine hK _ ?_;clear hK K
 refine az (λK hK=> ?_);go_simp;refine(HP.o _).mono ?_;rintro e W2 ⟨rfl,hb⟩;have gh:=ae (HA.o.below (((ak _ w).drew).trans hb));clear hb HP HA;refine hK.out _ _ (λw'=>At w0 p fs (X.opened s chs now) w') (λ_ h=>h) gh.o ?_;clear hK K;show wpList _ _ _ _ _ _;go_wp2_with fail;refine(HV.o _ _ _ (λ_ hx=>hx) gh.o).mono ?_;rintro e W3 ⟨rfl,hb⟩;have cY:=ae (gh.o.below hb);have hc:=aj W3 pf (gS.o fs (X.opened s chs now) (λ_ hx=>hx) W3 cY.o);clear hb HV gh;go_wp2_with fail;refine(FB.o _ cY.o).mono ?_;rintro e W4 ⟨A4,rfl,hst,AZ,hb4,qw⟩;obtain⟨gs,Ef,Yj,ou⟩:=zy cY.o hb4 hst qw;have uq:=ae Ef;have HST:=ae ou;have UK:aa ((L.map (X.aN nm ks i)).length=L.length):=ae (List.length_map ..);have HI1:aa (At w0 p gs (Hm s chs now (X.aN nm ks i o) j0 0) W4):=ae (by unfold Hm;rw[if_neg (by omega)];exact Yj);clear hst AZ hb4 qw Ef Yj ou FB cY hc e1 hs1 hs2;go_wp2;go_loopw [35] (fun t W=>∃k:Nat,k<=L.length/\t= .int .i64 k/\aa (At w0 p gs (Hm s chs now (X.aN nm ks i o) j0 k) W)) (fun t _=>L.length - (intOf t).toNat)
 case atStart=>exact⟨0,Nat.zero_le _,rfl,HI1⟩
 case round=>
  clear HI1;obtain⟨k,hk,rfl,HA⟩:=hrel;by_cases hlt:k<L.length
  ·obtain⟨g4,rfl,pF,xe⟩:=HST.o _ _ HA.o (by rw[UK.o];omega);have eD:=xe k (by rw[UK.o];exact hlt);rw[List.getElem_map]at eD;replace eD:wr.cell? ⟨g4,k,none⟩=some (.string ⟨(X.aN nm ks i L[k]).toArray⟩):=eD;have fO:L[k]∈L:=List.getElem_mem hlt;have hlk:=Qx (s:=s) (chs:=chs) HR.o hlt;have Xt:=HR.o.len _ fO;have mI:=HR.o.vlen _ fO;have bq:=HR.o.one k hlt;have bF:k=j0->X.aN nm ks i L[k]=X.aN nm ks i o:=λe=>by
    have h1:=HR.o.ro;rw[<-e,List.getElem?_eq_getElem hlt]at h1;injection h1 with h1;rw[h1]
   have HG:=ae (fF HA.o (X.aN nm ks i L[k]) (by omega) (λl hl=>by rw[hlk]at hl;injection hl with hl;subst hl;omega));rw[hlk]at HG;have HDE:=ae (λw1 (hkj:k=j0) (hh:At w0 p gs (Hm s chs now (X.aN nm ks i o) j0 k) w1)=>at_delete (s:=X.opened s chs now) (by unfold Hm at hh;rw[if_neg (by omega)]at hh;exact hh) (X.aN nm ks i L[k]) (by omega) 0 (by rw[bF hkj];exact aij.o));have jm:=dt (X.val ks 0 L[k].b) (X.val ks 0 o.b);have hc:=aj wr pf (gS.o gs _ uq.o wr HA.o);have Cu:L[k]? =some L[k]:=List.getElem?_eq_getElem hlt;generalize L[k]=r at eD fO hlk Xt mI bq bF HG HDE jm Cu;have HRK:=ae Cu;have bB:=ae hlt;have eb:=ae bq;replace jm:((⟨(X.val ks 0 r.b).toArray⟩:ByteArray).toList==(⟨(X.val ks 0 o.b).toArray⟩:ByteArray).toList)=decide (X.val ks 0 r.b=X.val ks 0 o.b):=jm;generalize hd:decide (X.val ks 0 r.b=X.val ks 0 o.b)=d at jm;have HD:=ae hd;clear xe pF fO hlk Xt bq bF hd Cu;generalize(⟨(X.aN nm ks i r).toArray⟩:ByteArray)=ee at eD HG HDE;generalize Ym:(⟨(X.val ks 0 o.b).toArray⟩:ByteArray)=vo at jm Lh;generalize hvx:(⟨(X.val ks 0 r.b).toArray⟩:ByteArray)=vx at jm;have HVX:=ae hvx;clear Ym hvx;go_wp2_with fail;refine HG.o.mono ?_;rintro e W5 ⟨v,rfl,hs5,yy,eT⟩;have hs5:bT W5 _ v (X.val ks 0 r.b):=hs5;have fw:=ae yy;obtain⟨A5,c5,rfl,pL,hby⟩:=hs5.sl.by
   have mK:=ae hby.noM;clear hs5 yy eT pL hby hc eD HG;generalize(X.val ks 0 r.b).length=vl at mK mI|-;go_wp2_with fail;refine aJ 11 (.rd 0 (.rd 1 (.rd 2 (.rd 3 (.rd 4 (.rd 5 (.rd 6 (.rd 7 (.rd 8 (.rd 9 (.wr 10 .fin))))))))))) (λw'=>At w0 p gs (Hm s chs now (X.aN nm ks i o) j0 k) w'/\By w' bE A5 vl (X.val ks 0 r.b)) ⟨fw.o.below ((ak _ _).drew),mK.o.drew⟩ ?_;repeat
    refine aA (v:= ?_) (λw' hS=> ?_) (λK hK=> ?_);rotate_left
    ·have hc:=aj w' pf (gS.o gs _ uq.o w' hS.1);have FQ:=gW.o;have fZ:=(gR.o gs _ uq.o w' hS.1).at_ gW.o;have hk2:=(gR.o gs _ uq.o w' hS.1).len gW.o;have hk3:=(gR.o gs _ uq.o w' hS.1).dup gW.o;have hcv:=bL (c:=c5) hS.2;rw[HVX.o]at hcv;rw[Nat.zero_mul]at fZ hk2 hk3;clear hS;go_simp;try with_reducible rfl
    go_simp;refine hK _ ?_;clear hK K
   refine az (λK hK=> ?_);go_simp;refine(Lh.o _ _ _ uq.o (fw.o.below ((ak _ _).drew))).mono ?_;rintro e W6 ⟨rfl,hb⟩;have eP:=ae (fw.o.below (((ak _ _).drew).trans hb));have adZ:=ae (mK.o.below (((ak _ _).drew).trans hb));clear hb;refine hK.out _ _ (λw'=>At w0 p gs (Hm s chs now (X.aN nm ks i o) j0 k) w'/\By w' bE A5 vl (X.val ks 0 r.b)) (λ_ h=>h) ⟨eP.o,adZ.o⟩ ?_;clear hK K;show wpList _ _ _ _ _ _;clear fw mK adZ;have hc:=aj W6 pf (gS.o gs _ uq.o W6 eP.o);by_cases hkj:k=j0
   ·have hd:d=true:=by
     rw[<-HD.o];refine decide_eq_true ?_;have h1:=HR.o.ro;rw[<-hkj,HRK.o]at h1;injection h1 with h1;rw[h1]
    subst hd;have ad0:=ae (HDE.o W6 hkj eP.o);have HKJ:=ae hkj;clear hkj HDE eP;go_wp2_with fail;refine ad0.o.mono ?_;rintro e W7 ⟨rfl,uY⟩;have HJ:aa (At w0 p gs (Hm s chs now (X.aN nm ks i o) j0 (k+1)) W7):=ae (by unfold Hm;rw[if_pos (by have:=HKJ.o;omega)];exact uY);clear uY ad0 hc jm;go_wp2;go_roundw
    case rel=>exact⟨k+1,bB.o,by go_num,HJ⟩
    case measure=>have h1:=bB.o;simp[intOf];omega
   ·have hd:d=false:=by
     rw[<-HD.o];exact decide_eq_false (λe=>hkj (eb.o e))
    subst hd;have HJ:aa (At w0 p gs (Hm s chs now (X.aN nm ks i o) j0 (k+1)) W6):=ae (by
     have:=eP.o;unfold Hm at this|-;by_cases h1:j0<k
     ·rw[if_pos h1]at this;rw[if_pos (by omega)];exact this
     ·rw[if_neg h1]at this;rw[if_neg (by omega)];exact this)
    clear hkj HDE eP hc;go_wp2;go_roundw
    case rel=>exact⟨k+1,bB.o,by go_num,HJ⟩
    case measure=>have h1:=bB.o;simp[intOf];omega
  ·obtain rfl:k=L.length:=(by omega);have HE:=ae (HA.o.less uq.o);clear HA;go_wp2;go_end0;exact⟨⟨_,rfl⟩,HE.o⟩
end
theorem Sl.Ei {w:World} (b:J.B) (a:(⟨b.toArray⟩:ByteArray).size<=grownCap w (⟨b.toArray⟩:ByteArray).size 0 5):
  Sl (w.drew.alloc (.cells (bytesRow ⟨b.toArray⟩ (grownCap w (⟨b.toArray⟩:ByteArray).size 0 5)) 5 ((bytesRow ⟨b.toArray⟩ (grownCap w (⟨b.toArray⟩:ByteArray).size 0 5)).size,(bytesRow ⟨b.toArray⟩ (grownCap w (⟨b.toArray⟩:ByteArray).size 0 5)).size+1))) bE (.slice (some ⟨w.heap.size,0,none⟩) (⟨b.toArray⟩:ByteArray).size (grownCap w (⟨b.toArray⟩:ByteArray).size 0 5)) b:=by
 have e:(⟨b.toArray⟩:ByteArray).size=b.length:=by simp[ByteArray.size]
 rw[e]at a|-;have c:w.heap.size<(w.drew.alloc (.cells (bytesRow ⟨b.toArray⟩ (grownCap w b.length 0 5)) 5 ((bytesRow ⟨b.toArray⟩ (grownCap w b.length 0 5)).size,(bytesRow ⟨b.toArray⟩ (grownCap w b.length 0 5)).size+1))).heap.size:=by
  show w.heap.size<(w.heap.push _).size;simp
 refine .inr ⟨w.heap.size,0,_,rfl,a,c,rfl,λ_=>⟨w.heap.size,0,rfl,c,λh=>h,λj d=> ?_⟩⟩;rw[Nat.zero_add,cell_of_row _ w.heap.size j _ _ _ (heap_alloc_new w.drew _)];have:=bytesRow_at ⟨b.toArray⟩ (grownCap w b.length 0 5) j (by simpa using d);rw[this];simp[u8]
theorem gA (w:World) (b:J.B) (S:ByteArray) (g:⟨b.toArray⟩=S):∃c w',(convert 9 40 (.string S)).run Tryz.prog w= .ok (.slice (some ⟨w.heap.size,0,none⟩) b.length c) w'/\Sl w' bE (.slice (some ⟨w.heap.size,0,none⟩) b.length c) b/\Below w.heap.size w w':=by
 subst g;have e:=run_bytes_of_string (P:=Tryz.prog) w 9 40 5 ⟨b.toArray⟩ Tryz.underlying9 Tryz.underlying40 Tryz.underlying5;have h:(⟨b.toArray⟩:ByteArray).size=b.length:=by simp[ByteArray.size]
 have d:(⟨b.toArray⟩:ByteArray).size<=grownCap w (⟨b.toArray⟩:ByteArray).size 0 5:=by simp[grownCap,Question.cut]
 have a:Below w.heap.size w (w.drew.alloc (.cells (bytesRow ⟨b.toArray⟩ (grownCap w (⟨b.toArray⟩:ByteArray).size 0 5)) 5 ((bytesRow ⟨b.toArray⟩ (grownCap w (⟨b.toArray⟩:ByteArray).size 0 5)).size,(bytesRow ⟨b.toArray⟩ (grownCap w (⟨b.toArray⟩:ByteArray).size 0 5)).size+1))):=
  ((ak _ w).drew).alloc (aq _) _
 have f:=Sl.Ei (w:=w) b d;rw[h]at e f a d;exact⟨_,_,e,f,a⟩
theorem ig (g n c:Nat) (h:1<=n) (f:n<=c):∃a,(∀w,(Instr.sliceAt 27 (.slice (some ⟨g,0,none⟩) n c) (some (.int .i64 1)) none none).run Tryz.prog w= .ok (.slice a (n - 1) (c - 1)) w)/\(1<n->a=some ⟨g,3,none⟩):=by
 have b:∀w,(Instr.sliceBounds true n c (some (.int .i64 1)) none none).run Tryz.prog w= .ok (1,n,c) w:=by
  intro w;have e2:(1:Int)<=(n:Int):=(by omega);have e1:(0:Int)<=(1:Int):=(by decide);simp[Instr.sliceBounds,run_sliceBound _ _ _ _ _ e1 e2]
 have e:∀w,(sizeOf (Tryz.prog.elem 27)).run Tryz.prog w= .ok 3 w:=λw=>by kernel_rfl
 have d:∀w,(Instr.sliceAt 27 (.slice (some ⟨g,0,none⟩) n c) (some (.int .i64 1)) none none).run Tryz.prog w= .ok (sliced (some ⟨g,0,none⟩) 1 n c 3) w:=by
  intro w;rw[run_sliceAt_slice _ _ _ _ _ _ Tryz.underlying27,run_slice_any _ _ _ _ _ Tryz.underlying27,b];simp[Result.andThen,e]
 refine⟨_,d,λh1=> ?_⟩;rw[if_neg (by omega)];simp[fB]
theorem cD (k:Nat) (h:k<=1000000):(Value.int .i64 (wrap64 ((k:Int)+1)))=Value.int .i64 ((k+1:Nat):Int):=by
 rw[IntWalk.wrap64_in _ (by omega)];rfl
theorem bZ {n k:Nat} (h:k<n) (a:k<=1000000):n - (intOf (Value.int .i64 (wrap64 ((k:Int)+1)))).toNat<n - (intOf (Value.int .i64 (k:Int))).toNat:=by
 rw[cD k a];show n - (((k+1:Nat):Int)).toNat<n - ((k:Nat):Int).toNat;rw[Int.toNat_natCast,Int.toNat_natCast];omega
theorem bV (k:Nat):(Value.int .i64 ((k:Int)+1))=Value.int .i64 ((k+1:Nat):Int):=rfl
theorem bN {n k:Nat} (h:k<n):n - (intOf (Value.int .i64 ((k:Int)+1))).toNat<n - (intOf (Value.int .i64 (k:Int))).toNat:=by
 rw[bV k];show n - (((k+1:Nat):Int)).toNat<n - ((k:Nat):Int).toNat;rw[Int.toNat_natCast,Int.toNat_natCast];omega
abbrev aO (pf:Nat):Obj:= .cells #[.pointer (some ⟨pf,0,none⟩)] 35 (0,0)
abbrev aZ (v:ByteArray):Obj:= .cells #[.string v] 9 (0,0)
abbrev bW (v:Value):Obj:= .cells #[v] 40 (0,0)
def tu (w0:World) (p:Nat) (fs:List (Nat×Obj)) (vo:Value):Option X.Row->Prop
 |none=>vo= .slice none 0 0
 |some o=>(∃b off c,vo= .slice (some ⟨b,off,none⟩) o.b.length c)/\Src w0 p fs vo o.b
theorem Src.more {w0:World} {p:Nat} {fs gs:List (Nat×Obj)} {v:Value} {l:J.B} (h:Src w0 p fs v l) (c:∀x∈fs,x∈gs):Src w0 p gs v l:=λa t w1 b ha=>h a t w1 (λx d=>b x (c x d)) ha
namespace X
theorem tz {ks:List Ky} {i:Nat} {l:List Row} (h:l.Pairwise (mD ks i · ·)) {a b:Nat} (ha:a<l.length) (d:b<l.length) (e:l[a]=l[b]):a=b:=by
 have f:∀x:Row,mD ks i x x=false:=λx=>by
  cases hx:mD ks i x x with
  |false=>rfl
  |true=>
   rcases qK.1 hx with h|⟨_,h⟩
   ·exact absurd h (List.lt_irrefl _)
   ·omega
 rcases Nat.lt_trichotomy a b with c|c|c
 ·have:=List.pairwise_iff_getElem.1 h a b ha d c;rw[e,f]at this;cases this
 ·exact c
 ·have:=List.pairwise_iff_getElem.1 h b a d ha c;rw[e,f]at this;cases this
end X
section
variable {w0 : World} {p pf g c size ct u : Nat} {nm : J.B} {ks : List X.Ky} {rows : List X.Row} {f : Fv} {w w' : World} {s s1 s2 : J.St} {fs : List (Nat × Obj)} {ok : Obj}
variable {chs : List J.cd} {now : List (J.B × J.B)} {b : J.B} {old : Option X.Row}
theorem Qy (d:X.aQ ks size ct rows) (g:X.eC ks size) (u:ct<1000000) (v:nm.length<=100) {i:Nat} (a:i<ks.length) {o:X.Row} (m:o∈rows)
  (q:∀r∈rows,J.look now (X.aN nm ks i r)=some (X.val ks 0 r.b))
  (p:keysOf now ⟨(X.pre nm i++X.val ks i o.b).toArray⟩=((X.cn ks i rows).filter λr=>decide (X.val ks i r.b=X.val ks i o.b)).map (X.aN nm ks i)):
  ∃L f,RmI nm ks i o L f now:=by
 have s:o∈(X.cn ks i rows).filter λr=>decide (X.val ks i r.b=X.val ks i o.b):=List.mem_filter.2 ⟨(X.bD ks i o rows).2 m,decide_eq_true rfl⟩;obtain⟨f,c,e⟩:=List.mem_iff_getElem.1 s;have b:∀r∈(X.cn ks i rows).filter (λr=>decide (X.val ks i r.b=X.val ks i o.b)),r∈rows:=λr h=>(X.bD ks i r rows).1 (List.mem_filter.1 h).1;have l:∀r∈rows,∀i,i<ks.length->(X.val ks i r.b).length<=160:=λr h i a=>by
  rw[X.bc (d.fit r h) a];exact(g.key _ (X.aY a)).2.1
 refine⟨_,f,c,by rw[List.getElem?_eq_getElem c,e],λk j n=> ?_,λr h=>q r (b r h),λr h=> ?_,λr h=> ?_,p⟩
 ·have h1:=X.rv d.prim (b _ (List.getElem_mem j)) m n;exact X.tz (List.Pairwise.filter _ (X.lD ks i rows (d.CH a))) j c (h1.trans e.symm)
 ·have h1:=X.cZ nm i (X.val ks i r.b) (r.t i);have t:=l r (b r h) i a;show(X.cy nm i _ _).length<=300;omega
 ·have h1:=g.one;have:=l r (b r h) 0 (by omega);omega
theorem lX (nm:J.B) (i:Nat) (v:J.B) (t:Nat):X.cy nm i v t≠[]:=λe=>by
 have h1:=congrArg List.length e;unfold X.cy at h1;rw[List.length_append,List.length_nil]at h1;have:2<=(X.pre nm i).length:=by
  unfold X.pre;split<;>simp
 omega
theorem lj (m:List (J.B×J.B)) (k v:J.B):(J.ins m k v).length<=m.length+1:=by
 rw[J.lj];have:=J.qF m k;omega
structure NK (w0:World) (p:Nat) (fs:List (Nat×Obj)) (s:J.St) (nm:J.B) (size:Nat) (ks:List X.Ky) (ct:Nat) (rows:List X.Row) (b:J.B) (old:Option X.Row) (j:Nat) (chs:List J.cd) (now:List (J.B×J.B)) (W:World):Prop where
 at_:At w0 p fs (X.opened s chs now) W
 tx:X.FC s chs now (4500+704*j)
 mix:X.PX nm (X.attr size ks) ks ct rows b old j now
 len:now.length<=100002+j
theorem UO {j:Nat} (h:NK w0 p fs s nm size ks ct rows b old j chs now w) (a:XF nm size ks rows ct s.now) (c:X.bt ks size b=true) (d:rows.find? (λr=>decide (X.val ks 0 r.b=X.val ks 0 b))=old) (e:j+1<ks.length) (f:X.keeps ks (j+1) b old=true) (ha:At w0 p fs (X.opened s chs now) w'):
  NK w0 p fs s nm size ks ct rows b old (j+1) chs now w':=
 ⟨ha,⟨h.tx.inv,by have:=h.tx.len;omega, .inr (h.tx.mn.resolve_left (by omega))⟩,X.PY a.rows c d e h.mix f,by have:=h.len;omega⟩
theorem UQ {j:Nat} (h:NK w0 p fs s nm size ks ct rows b none j chs now w) (a:XF nm size ks rows ct s.now) (c:X.bt ks size b=true) (e:rows.find? (λr=>decide (X.val ks 0 r.b=X.val ks 0 b))=none) (d:j+1<ks.length):
  J.add (X.opened s chs now) ⟨X.cy nm (j+1) (X.val ks (j+1) b) (ct+1),X.val ks 0 b,false⟩=(X.opened s (chs++[⟨X.cy nm (j+1) (X.val ks (j+1) b) (ct+1),X.val ks 0 b,false⟩]) (J.ins now (X.cy nm (j+1) (X.val ks (j+1) b) (ct+1)) (X.val ks 0 b)),0)/\
  ∀w',At w0 p fs (X.opened s (chs++[⟨X.cy nm (j+1) (X.val ks (j+1) b) (ct+1),X.val ks 0 b,false⟩]) (J.ins now (X.cy nm (j+1) (X.val ks (j+1) b) (ct+1)) (X.val ks 0 b))) w'->
   NK w0 p fs s nm size ks ct rows b none (j+1) (chs++[⟨X.cy nm (j+1) (X.val ks (j+1) b) (ct+1),X.val ks 0 b,false⟩]) (J.ins now (X.cy nm (j+1) (X.val ks (j+1) b) (ct+1)) (X.val ks 0 b)) w':=by
 have h1:=X.bc c d;have f:=a.lens d;have g:=X.bc c (i:=0) (by omega);have k:=a.lens (i:=0) (by omega);have l:=X.cZ nm (j+1) (X.val ks (j+1) b) (ct+1);have m:=a.nm;have n:=a.ks.one;have o:=h.tx.len;refine⟨X.rJ _ _ _ _ _ (by omega),λw' ha=>⟨ha,h.tx.put _ _ (lX _ _ _ _) (by omega) (by omega) (by omega),X.PZ a.ks a.rows (by have:=a.ct;omega) c e d h.mix, ?_⟩⟩;have:=lj now (X.cy nm (j+1) (X.val ks (j+1) b) (ct+1)) (X.val ks 0 b);have:=h.len;omega
theorem UR {j:Nat} {o:X.Row} (h:NK w0 p fs s nm size ks ct rows b (some o) j chs now w) (a:XF nm size ks rows ct s.now) (f:X.bt ks size b=true) (g:rows.find? (λr=>decide (X.val ks 0 r.b=X.val ks 0 b))=some o) (c:j+1<ks.length) (l:X.keeps ks (j+1) b (some o)=false):
  (∃L q,RmI nm ks (j+1) o L q now)/\
  J.add (X.opened s (chs++[⟨X.aN nm ks (j+1) o,[],true⟩]) (J.del now (X.aN nm ks (j+1) o))) ⟨X.cy nm (j+1) (X.val ks (j+1) b) (ct+1),X.val ks 0 b,false⟩=(X.opened s (chs++[⟨X.aN nm ks (j+1) o,[],true⟩]++[⟨X.cy nm (j+1) (X.val ks (j+1) b) (ct+1),X.val ks 0 b,false⟩]) (J.ins (J.del now (X.aN nm ks (j+1) o)) (X.cy nm (j+1) (X.val ks (j+1) b) (ct+1)) (X.val ks 0 b)),0)/\
  ∀w',At w0 p fs (X.opened s (chs++[⟨X.aN nm ks (j+1) o,[],true⟩]++[⟨X.cy nm (j+1) (X.val ks (j+1) b) (ct+1),X.val ks 0 b,false⟩]) (J.ins (J.del now (X.aN nm ks (j+1) o)) (X.cy nm (j+1) (X.val ks (j+1) b) (ct+1)) (X.val ks 0 b))) w'->
   NK w0 p fs s nm size ks ct rows b (some o) (j+1) (chs++[⟨X.aN nm ks (j+1) o,[],true⟩]++[⟨X.cy nm (j+1) (X.val ks (j+1) b) (ct+1),X.val ks 0 b,false⟩]) (J.ins (J.del now (X.aN nm ks (j+1) o)) (X.cy nm (j+1) (X.val ks (j+1) b) (ct+1)) (X.val ks 0 b)) w':=by
 have d:=(X.bI g).1;have h1:=X.bc f c;have x:=a.lens c;have y:=X.bc f (i:=0) (by omega);have z:=a.lens (i:=0) (by omega);have A:=X.cZ nm (j+1) (X.val ks (j+1) b) (ct+1);have B:=a.nm;have C:=a.ks.one;have D:=h.tx.len;have E:=a.vlen c d;have t:=X.cZ nm (j+1) (X.val ks (j+1) o.b) (o.t (j+1));have u:(X.aN nm ks (j+1) o).length<=267:=by show(X.cy nm (j+1) _ _).length<=_;omega
 have m:=X.AV h.mix a.rows (by have:=a.ct;omega) (i:=j+1) (by omega) c d;have k:X.FC s (chs++[⟨X.aN nm ks (j+1) o,[],true⟩]) (J.del now (X.aN nm ks (j+1) o)) (4500+704*j+270):=h.tx.del _ (lX _ _ _ _) (by omega) (by rw[m];intro e;cases e) (by omega) (λe=>by omega);have v:=k.len;refine⟨?_,X.rJ _ _ _ _ _ (by omega),λw' ha=>⟨ha,k.put _ _ (lX _ _ _ _) (by omega) (by omega) (by omega),X.Qa a.ks a.rows (by have:=a.ct;omega) f g c h.mix l, ?_⟩⟩
 ·exact Qy a.rows a.ks a.ct a.nm c d (λr n=>X.AV h.mix a.rows (by have:=a.ct;omega) (by omega) c n) (X.Qb h.mix (by omega) a.rows (by have:=a.ct;omega) (by omega) c _ (X.bc (a.rows.fit o d) c))
 ·have:=lj (J.del now (X.aN nm ks (j+1) o)) (X.cy nm (j+1) (X.val ks (j+1) b) (ct+1)) (X.val ks 0 b);have:=J.qF now (X.aN nm ks (j+1) o);have:=h.len;omega
end
theorem fI {w:World} {o:Oper} {a:Act} {K:Act->World->Prop} {Q:Exit->Act->World->Prop} (s x:Operand) (k:o.op= .call {callee:= .builtin .append,args:=#[s,x],argTypes:=#[40,40]})
  (base:Nat) (v:Value) (n:Nat) (l:List UInt8) (t:a.eval s=v) (p:w.ownsRow base 5 1 v n (dK l)) (M:Nat->Prop) (A:Option Addr) (m c:Nat) (b:List UInt8) (u:a.eval x= .slice A m c) (q:By w M A m b)
  (i:n+m<=100000000) (j:base<=w.heap.size)
  (h:∀v' w',w'.ownsRow base 5 1 v' (n+m) (dK (l++b))->w.grownBy w' v.ownBlock->(v'.ownBlock=v.ownBlock\/v'.ownBlock=some w.heap.size)->(v'= .slice none 0 0↔v= .slice none 0 0/\m=0)->K (a.put o.dst v') w'):o.wp Tryz.prog a w K Q:=by
 obtain⟨v',w',r,d,e,f,g⟩:=gC w base v n l p M A m c b q i j o.type;unfold Oper.wp execOp;simp only[k,resolve,invoke,builtin,Sem.run_bind,Sem.run_pure,Result.andThen_ok,List.map_toArray,List.map_cons,List.map_nil,t,u,r];exact h v' w' d e f g
theorem UU (w:World) (cs:Array Value) (l:J.B) (n:Nat) (a:l.length=n) (e:cs.toList=dK l) (b:n<=1000):(w.alloc (.cells cs 5)).ownsRow w.heap.size 5 1 (.slice (some ⟨w.heap.size,0,none⟩) n n) n (dK l):=by
 have:=World.ownsRow_lit (base:=w.heap.size) (e:=5) (size:=1) w cs n (aq _) (by unfold maxLen;omega) (by rw[<-Array.length_toList,e,fu,a,Nat.mul_one]);rw[e]at this;exact this
theorem dy {W W':World} {base n:Nat} {e:TypeId} {v:Value} {xs:List Value} (h:W.ownsRow base e 1 v n xs) (a:Below W.heap.size W W'):W'.ownsRow base e 1 v n xs:=eE h (λk b=>a.block k (h.lt k b).2)
theorem Qz {W:World} {base n:Nat} {e:TypeId} {v:Value} {xs:List Value} (h:W.ownsRow base e 1 v n xs) {k:Nat} (a:v.ownBlock=some k):∃cur,W.heap[k]? =some (.cells cur e (0,0)):=by
 rcases h.2 with⟨rfl,_⟩|⟨g,cap,cur,rfl,_,b,_⟩
 ·cases a
 ·have:g=k:=(by simpa [Value.ownBlock] using a);subst this;exact⟨cur,b⟩
theorem kQ {W W':World} {b n:Nat} {l:List UInt8} {row:Option Nat} (h:By W bE (some ⟨b,0,none⟩) n l) (d:W.grownBy W' row) (k:row≠some b):By W' bE (some ⟨b,0,none⟩) n l:=
 ⟨h.1,λi=>by
  obtain⟨b',o',a,c,m,f⟩:=h.2 i;injection a with a;injection a with e1 e2 e3;subst e1 e2;exact⟨b,0,rfl,av c d.size,λh=>h,λj g=>(World.cell?_of_block (d.block b c (λe=>k e.symm))).trans (f j g)⟩⟩
theorem fh {W W':World} {base n b:Nat} {e t:TypeId} {v:Value} {xs:List Value} {cs:Array Value} {c:Nat×Nat} (h:W.ownsRow base e 1 v n xs) (a:W.heap[b]? =some (.cells cs t c)) (g:e≠t) (f:W.grownBy W' v.ownBlock):W'.heap[b]? =some (.cells cs t c):=
 (f.block b (ai a).1 (λhh=>by
  obtain⟨c2,d⟩:=Qz h hh.symm;rw[d]at a;injection a with a;injection a with _ a;exact g a)).trans a
theorem xh {W:World} {base n b:Nat} {e:TypeId} {v:Value} {xs:List Value} (h:W.ownsRow base e 1 v n xs) (a:W.heap.size<=b):v.ownBlock≠some b:=λhh=>by
 have:=(h.lt b hh).2;omega
theorem zz {W:World} {b n:Nat} {l:List UInt8} (h:By W bE (some ⟨b,0,none⟩) n l) (d:0<n):b<W.heap.size:=by
 obtain⟨b',o',a,c,_⟩:=h.2 d;injection a with a;injection a with e1 e2 e3;subst e1;exact c
theorem ne_next {v v':Value} {b n:Nat} (h:v.ownBlock≠some b) (ha:v'.ownBlock=v.ownBlock\/v'.ownBlock=some n) (a:b<n):v'.ownBlock≠some b:=by
 rcases ha with ha|ha
 ·rw[ha];exact h
 ·rw[ha];intro e;injection e with e;omega
theorem lY (X:World) (n:Nat):By (X.alloc (.cells (dK (R.cp n)).toArray 5 (0,0))) bE (some ⟨X.heap.size,0,none⟩) 4 (R.cp n):=Jr X n
theorem jX (X:World) (d:UInt8) (C:Array Value) (a:C=#[u8 d]):By (X.alloc (.cells C 5)) bE (some ⟨X.heap.size,0,none⟩) 1 [d]:=by
 subst a;refine⟨rfl,λ_=>⟨X.heap.size,0,rfl,by simp,λh=>h,λj b=> ?_⟩⟩;have:j=0:=by simpa using b
 subst this;rw[cell_of_row _ X.heap.size _ _ _ _ (heap_alloc_new X _)];rfl
def xi (d:Bool):UInt8:=if d then 1 else 0
section
variable {w0 : World} {p pf g c size ct u : Nat} {nm : J.B} {ks : List X.Ky} {rows : List X.Row} {f : Fv} {w w' : World} {s s1 s2 : J.St} {fs : List (Nat × Obj)} {ok : Obj}
def nB (size:Nat) (ks:List X.Ky) (k:Nat):J.B:=2::R.cp size++(ks.take k).flatMap X.Xp
theorem zA (size:Nat) {ks:List X.Ky} {k:Nat} (h:k<=ks.length):(nB size ks k).length=5+9*k:=by
 unfold nB;rw[List.cons_append,List.length_cons,List.length_append,R.dr,X.CN,List.length_take];omega
theorem Hn (size:Nat) {ks:List X.Ky} {k:Nat} (h:k<ks.length):nB size ks (k+1)=nB size ks k++R.cp (X.aH ks k).at_++R.cp (X.aH ks k).len++[xi (X.aH ks k).dup]:=by
 unfold nB;have e:ks[k]=X.aH ks k:=by unfold X.aH;simp[h]
 rw[List.take_succ_eq_append_getElem h,List.flatMap_append,e];simp[X.Xp,xi]
theorem zB (size:Nat) (ks:List X.Ky):nB size ks ks.length=X.attr size ks:=by unfold nB X.attr;rw[List.take_length]
structure ByI (w:World) (g size:Nat) (ks:List X.Ky) (k:Nat) (v:Value) (W:World):Prop where
 own:W.ownsRow w.heap.size 5 1 v (5+9*k) (dK (nB size ks k))
 bel:Below w.heap.size w W
 ks:dJ W g ks
theorem rK {g k a:Nat} {c:J.B} {v:Value} {W:World} {d:UInt8} (e:k<ks.length) (i:nB size ks k=c) (j:5+9*k=a) (f:dJ w g ks)
  (h:W.ownsRow w.heap.size 5 1 v (a+4+4+1) (dK (c++R.cp (X.aH ks k).at_++R.cp (X.aH ks k).len++[d]))) (b:Below w.heap.size w W) (hd:xi (X.aH ks k).dup=d):ByI w g size ks (k+1) v W:=by
 refine⟨?_,b,f.below b⟩;rw[Hn size e,i,hd,show 5+9*(k+1)=a+4+4+1 by omega];exact h
theorem pT (nm:J.B) (size g c:Nat) (ks:List X.Ky) (w:World) (hk:dJ w g ks) (b6:X.eC ks size):
  Calls Tryz.prog 44 #[kL nm size (.slice (some ⟨g,0,none⟩) ks.length c)] w λe w'=>∃v,e= .returned v/\w'.ownsRow w.heap.size 5 1 v (X.attr size ks).length (dK (X.attr size ks))/\Below w.heap.size w w':=by
 have b3:=b6.size;have e4:=b6.one;have d7:Below w.heap.size w ((w.alloc (eR nm size (.slice (some ⟨g,0,none⟩) ks.length c))).alloc (.cells #[.int .u8 2] 5)):=((ak _ w).alloc (aq _) _).alloc (by simp) _;have c6:=UU (w.alloc (eR nm size (.slice (some ⟨g,0,none⟩) ks.length c))) #[.int .u8 2] [2] 1 rfl rfl (by decide);rw[World.size_alloc]at c6;have HF:=ae (λW=>kK (size:Nat) W);rw[kG (Nat.lt_of_le_of_lt b3.2 (by decide))]at HF;have d5:=ae c6;have c7:=ae d7;have HK:=ae hk;have d0:=ae (λk (h:k<ks.length)=>(b6.key _ (X.aY h)));have d4:=ae e4;have e8:=ae b3;clear hk b6 b3 e4 d7 c6;go_enter Tryz.func44,Tryz.ntmps44;go_wp2_with fail;refine(HF.o _).mono ?_;rintro e W1 ⟨rfl,c2⟩;have a:Below (w.heap.size+1+1) ((w.alloc (eR nm size (.slice (some ⟨g,0,none⟩) ks.length c))).alloc (.cells #[.int .u8 2] 5)) W1:=by
  rw[c2];exact(ak _ _).alloc (by simp) _
 have hy:By W1 bE (some ⟨w.heap.size+1+1,0,none⟩) 4 (R.cp size):=by
  rw[c2];have:=lY ((w.alloc (eR nm size (.slice (some ⟨g,0,none⟩) ks.length c))).alloc (.cells #[.int .u8 2] 5)) size;rw[World.size_alloc,World.size_alloc]at this;exact this
 have e6:((w.alloc (eR nm size (.slice (some ⟨g,0,none⟩) ks.length c))).alloc (.cells #[.int .u8 2] 5)).heap.size=w.heap.size+1+1:=by simp
 have e3:W1.ownsRow (w.heap.size+1) 5 1 (.slice (some ⟨w.heap.size+1,0,none⟩) 1 1) 1 (dK [2]):=dy d5.o (by rw[e6];exact a);have d8:Below w.heap.size w W1:=c7.o.trans (a.mono (by omega));have d9:=(a.block w.heap.size (by omega)).trans ((Below.heap_alloc _ _ _ (by simp)).trans (heap_alloc_new w (eR nm size (.slice (some ⟨g,0,none⟩) ks.length c))));have M:=ae e3;have HY:=ae hy;have b7:=ae d8;have c8:=ae d9;clear a hy e3 d8 c2 d9 HF c7 d5 e6;go_wp2_with (at_builtin;refine bz rfl _ _ rfl (w.heap.size+1) _ 1 [2] rfl M.o bE _ 4 4 (R.cp size) rfl HY.o (by omega) (by have:=M.o.lt (w.heap.size+1) rfl;omega) ?_);intro v2 W2 i f _ _;have e5:W2.ownsRow w.heap.size 5 1 v2 5 (dK ([2]++R.cp size)):=qR i (by omega);have c3:Below w.heap.size w W2:=b7.o.grown f b7.o.size (λj n=>Nat.le_of_succ_le (M.o.lt j n).1);have e0:=fh M.o c8.o (by decide) f;have c9:aa (ByI w g size ks 0 v2 W2):=ae ⟨e5,c3,HK.o.below c3⟩;have hc:=DU e0;clear i f e5 c3 e0 M HY b7 c8;go_wp2;clear hc;go_loopw [3,15] (fun v t W=>∃k:Nat,k<=ks.length/\t= .int .i64 k/\aa (ByI w g size ks k v W)) (fun _ t _=>ks.length - (intOf t).toNat)
 case atStart=>exact⟨0,Nat.zero_le _,rfl,c9⟩
 case round=>
  clear c9;obtain⟨k,hk,rfl,T⟩:=hrel;by_cases a5:k<ks.length
  ·have s:=ae a5;have S:aa (k<=1000000):=ae (by have:=d4.o;omega);have k1:=T.o.ks.at_ a5;have k2:=T.o.ks.len a5;have k3:=T.o.ks.dup a5;have HZ:=ae (heap_alloc_new wr dU);go_wp2_with (refine wpList_store_row rfl _ _ 66 rfl wr.heap.size rfl _ rfl _ _ HZ.o rfl (by kernel_rfl) rfl ?_);intro I Z f b3;have Z:I.heap[wr.heap.size]? =some (aT (X.aH ks k)):=Z;have c4:Below wr.heap.size wr I:=((ak _ wr).alloc (aq _) dU).grown f (by simp) (λk e=>by injection e with e;omega);have F:=ae (dy T.o.own c4);have e7:=ae (T.o.bel.trans (c4.mono T.o.bel.size));have b8:=ae (λW=>kK (((X.aH ks k).at_:Nat):Int) W);have a6:=ae (λW=>kK (((X.aH ks k).len:Nat):Int) W);rw[kG (by have h1:=d0.o k a5;have h2:=e8.o;omega)]at b8;rw[kG (by have h1:=d0.o k a5;omega)]at a6;generalize f1:wr.heap.size=l at Z|-;have c5:=aj I l Z;have f2:aa ((nB size ks k).length=5+9*k):=ae (zA size hk);have a7:=ae HK.o;have u:aa (5+9*k<=100):=ae (by have:=d4.o;omega);generalize e1:nB size ks k=y at F;have a8:=ae e1;generalize e2:5+9*k=z at F u;have a9:=ae e2;clear k1 k2 k3 HZ f b3 c4 f1 T e1 e2;cases hd:(X.aH ks k).dup
   have m:=trivial
   all_goals
    rw[hd]at c5;first
     |have m:=m
      have HD:aa (xi (X.aH ks k).dup=0):=ae (by rw[hd];rfl)
      skip
     |have HD:aa (xi (X.aH ks k).dup=1):=ae (by rw[hd];rfl)
    clear hd;go_wp2_with fail;refine aJ 11 (.rd 0 (.rd 1 (.rd 2 (.rd 5 (.rd 6 (.rd 9 (.two 3 (.two 4 (.two 7 (.two 8 (.wr 10 .fin) 10 (.wr 8 .fin)) 10 (.wr 7 (.wr 8 .fin))) 10 (.wr 4 (.wr 7 (.wr 8 .fin)))) 10 (.wr 3 (.wr 4 (.wr 7 (.wr 8 .fin))))))))))) (λw'=>w'.heap[l]? =some (aT (X.aH ks k))) Z ?_;repeat
     refine aA (v:= ?_) (λw' hS=> ?_) (λK d=> ?_);rotate_left
     ·have c5:=aj w' l hS;clear hS;go_simp;try with_reducible rfl
     go_simp;refine d _ ?_;clear d K
    clear c5;have b9:=ae (show I.drew.ownsRow w.heap.size 5 1 _ z (dK y)from F.o);have b4:=ae e7.o.drew;refine dX (by rfl) (by rfl) (λK d=> ?_) (λK d=> ?_)
    ·go_simp;refine(b8.o _).mono ?_;rintro e D ⟨rfl,b⟩;have a:Below I.drew.heap.size I.drew D:=(by rw[b];exact(ak _ _).alloc (aq _) _);have b0:aa (By D bE (some ⟨I.drew.heap.size,0,none⟩) 4 (R.cp (X.aH ks k).at_)):=ae (by rw[b];exact lY _ _);have M:=ae (dy b9.o a);have a1:=ae (b4.o.trans (a.mono b4.o.size));have a4:=(a.block l (ai Z).1).trans Z;clear a b;refine d.out _ _ (λw'=>w'.heap[l]? =some (aT (X.aH ks k))) (λ_ h=>h) a4 ?_;clear d K;refine dX (by rfl) (by rfl) (λK d=> ?_) (λK d=> ?_)
     ·refine(if_pos (by rfl)).mpr ?_;refine fI _ _ (by rfl) w.heap.size _ z y (by rfl) M.o bE _ 4 4 (R.cp (X.aH ks k).at_) (by rfl) b0.o (by have:=u.o;omega) a1.o.size ?_;intro v2 C i f r _;have O:=ae i;have N:=ae (a1.o.grown f a1.o.size (λj n=>(M.o.lt j n).1));have Q:=fh M.o a4 (by decide) f;clear i f r;refine d.out _ _ (λw'=>w'.heap[l]? =some (aT (X.aH ks k))) (λ_ h=>h) Q ?_;clear d K;refine dX (by rfl) (by rfl) (λK d=> ?_) (λK d=> ?_)
      ·go_simp;refine(a6.o _).mono ?_;rintro e o ⟨rfl,b⟩;have a:Below C.heap.size C o:=(by rw[b];exact(ak _ _).alloc (aq _) _);have b2:aa (By o bE (some ⟨C.heap.size,0,none⟩) 4 (R.cp (X.aH ks k).len)):=ae (by rw[b];exact lY _ _);have F:=ae (dy O.o a);have H:=ae (N.o.trans (a.mono N.o.size));have E:=(a.block l (ai Q).1).trans Q;clear a b;refine d.out _ _ (λw'=>w'.heap[l]? =some (aT (X.aH ks k))) (λ_ h=>h) E ?_;clear d K;refine dX (by rfl) (by rfl) (λK d=> ?_) (λK d=> ?_)
       ·refine(if_pos (by rfl)).mpr ?_;refine fI _ _ (by rfl) w.heap.size _ (z+4) (y++R.cp (X.aH ks k).at_) (by rfl) F.o bE _ 4 4 (R.cp (X.aH ks k).len) (by rfl) b2.o (by have:=u.o;omega) H.o.size ?_;intro v4 q i f r _;have B:=ae i;have A:=ae (H.o.grown f H.o.size (λj n=>(F.o.lt j n).1));have G:=fh F.o E (by decide) f;clear i f r;refine d.out _ _ (λw'=>w'.heap[l]? =some (aT (X.aH ks k))) (λ_ h=>h) G ?_;clear d K;refine az (λK d=> ?_);go_simp;first
         |have m:=m
          obtain⟨V5,b⟩:∃V,q.alloc (.cells #[.int .u8 0] 5)=V:=⟨_,rfl⟩
          skip
         |obtain⟨V5,b⟩:∃V,q.alloc (.cells #[.int .u8 1] 5)=V:=⟨_,rfl⟩
        have a:Below q.heap.size q V5:=(by rw[<-b];exact(ak _ _).alloc (aq _) _);first
         |have m:=m
          have c0:aa (By V5 bE (some ⟨q.heap.size,0,none⟩) 1 [0]):=ae (by rw[<-b];exact jX _ _ _ rfl)
          skip
         |have c0:aa (By V5 bE (some ⟨q.heap.size,0,none⟩) 1 [1]):=ae (by rw[<-b];exact jX _ _ _ rfl)
        have b5:=ae (xh B.o (aq q.heap.size));have x:=ae (dy B.o a);have p:=ae (A.o.trans (a.mono A.o.size));have a0:=(a.block l (ai G).1).trans G;refine d.out _ _ (λw'=>w'.heap[l]? =some (aT (X.aH ks k))) (λ_ h=>h) (by rw[b];exact a0) ?_;rw[b];clear d K a b;show wpList _ _ _ _ _ _;first
         |have m:=m
          refine bz rfl _ _ rfl w.heap.size _ ((z+4)+4) ((y++R.cp (X.aH ks k).at_)++R.cp (X.aH ks k).len) rfl x.o bE _ 1 1 [0] rfl c0.o (by have:=u.o;omega) p.o.size ?_
         |refine bz rfl _ _ rfl w.heap.size _ ((z+4)+4) ((y++R.cp (X.aH ks k).at_)++R.cp (X.aH ks k).len) rfl x.o bE _ 1 1 [1] rfl c0.o (by have:=u.o;omega) p.o.size ?_
        intro v9 W9 i f _ _;have L:=p.o.grown f p.o.size (λj n=>(x.o.lt j n).1);have U:=ae (rK s.o a8.o a9.o a7.o i L HD.o);clear i f L;go_wp2;go_roundw
        case rel=>exact⟨k+1,s.o,by first|exact cD k S.o|exact bV k,U⟩
        case measure=>first|exact bZ s.o S.o|exact bN s.o
       ·go_simp;first
         |have m:=m
          obtain⟨q,b⟩:∃V,o.alloc (.cells #[.int .u8 0] 5)=V:=⟨_,rfl⟩
          skip
         |obtain⟨q,b⟩:∃V,o.alloc (.cells #[.int .u8 1] 5)=V:=⟨_,rfl⟩
        have a:Below o.heap.size o q:=(by rw[<-b];exact(ak _ _).alloc (aq _) _);first
         |have m:=m
          have Y:aa (By q bE (some ⟨o.heap.size,0,none⟩) 1 [0]):=ae (by rw[<-b];exact jX _ _ _ rfl)
          skip
         |have Y:aa (By q bE (some ⟨o.heap.size,0,none⟩) 1 [1]):=ae (by rw[<-b];exact jX _ _ _ rfl)
        have d3:=ae (xh F.o (aq o.heap.size));have B:=ae (dy F.o a);have A:=ae (H.o.trans (a.mono H.o.size));have G:=(a.block l (ai E).1).trans E;have f0:=ae (b2.o.below a);refine d.out _ _ (λw'=>w'.heap[l]? =some (aT (X.aH ks k))) (λ_ h=>h) (by rw[b];exact G) ?_;rw[b];clear d K a b;refine az (λK d=> ?_);refine(if_pos (by rfl)).mpr ?_;refine fI _ _ (by rfl) w.heap.size _ (z+4) (y++R.cp (X.aH ks k).at_) (by rfl) B.o bE _ 4 4 (R.cp (X.aH ks k).len) (by rfl) f0.o (by have:=u.o;omega) A.o.size ?_;intro v5 V5 i f r _;have x:=ae i;have p:=ae (A.o.grown f A.o.size (λj n=>(B.o.lt j n).1));have a0:=fh B.o G (by decide) f;have P:=ae (kQ Y.o f d3.o);have b5:=ae (ne_next d3.o r (zz Y.o (by decide)));clear i f r;refine d.out _ _ (λw'=>w'.heap[l]? =some (aT (X.aH ks k))) (λ_ h=>h) a0 ?_;clear d K;show wpList _ _ _ _ _ _;first
         |have m:=m
          refine bz rfl _ _ rfl w.heap.size _ ((z+4)+4) ((y++R.cp (X.aH ks k).at_)++R.cp (X.aH ks k).len) rfl x.o bE _ 1 1 [0] rfl P.o (by have:=u.o;omega) p.o.size ?_
         |refine bz rfl _ _ rfl w.heap.size _ ((z+4)+4) ((y++R.cp (X.aH ks k).at_)++R.cp (X.aH ks k).len) rfl x.o bE _ 1 1 [1] rfl P.o (by have:=u.o;omega) p.o.size ?_
        intro v9 W9 i f _ _;have L:=p.o.grown f p.o.size (λj n=>(x.o.lt j n).1);have U:=ae (rK s.o a8.o a9.o a7.o i L HD.o);clear i f L;go_wp2;go_roundw
        case rel=>exact⟨k+1,s.o,by first|exact cD k S.o|exact bV k,U⟩
        case measure=>first|exact bZ s.o S.o|exact bN s.o
      ·go_simp;first
        |have m:=m
         obtain⟨o,b⟩:∃V,C.alloc (.cells #[.int .u8 0] 5)=V:=⟨_,rfl⟩
         skip
        |obtain⟨o,b⟩:∃V,C.alloc (.cells #[.int .u8 1] 5)=V:=⟨_,rfl⟩
       have a:Below C.heap.size C o:=(by rw[<-b];exact(ak _ _).alloc (aq _) _);first
        |have m:=m
         have b2:aa (By o bE (some ⟨C.heap.size,0,none⟩) 1 [0]):=ae (by rw[<-b];exact jX _ _ _ rfl)
         skip
        |have b2:aa (By o bE (some ⟨C.heap.size,0,none⟩) 1 [1]):=ae (by rw[<-b];exact jX _ _ _ rfl)
       have a2:=ae (xh O.o (aq C.heap.size));have F:=ae (dy O.o a);have H:=ae (N.o.trans (a.mono N.o.size));have E:=(a.block l (ai Q).1).trans Q;refine d.out _ _ (λw'=>w'.heap[l]? =some (aT (X.aH ks k))) (λ_ h=>h) (by rw[b];exact E) ?_;rw[b];clear d K a b;refine az (λK d=> ?_);go_simp;refine(a6.o _).mono ?_;rintro e q ⟨rfl,b⟩;have a:Below o.heap.size o q:=(by rw[b];exact(ak _ _).alloc (aq _) _);have Y:aa (By q bE (some ⟨o.heap.size,0,none⟩) 4 (R.cp (X.aH ks k).len)):=ae (by rw[b];exact lY _ _);have B:=ae (dy F.o a);have A:=ae (H.o.trans (a.mono H.o.size));have G:=(a.block l (ai E).1).trans E;have a3:=ae (b2.o.below a);clear a b;refine d.out _ _ (λw'=>w'.heap[l]? =some (aT (X.aH ks k))) (λ_ h=>h) G ?_;clear d K;refine az (λK d=> ?_);refine(if_pos (by rfl)).mpr ?_;refine fI _ _ (by rfl) w.heap.size _ (z+4) (y++R.cp (X.aH ks k).at_) (by rfl) B.o bE _ 4 4 (R.cp (X.aH ks k).len) (by rfl) Y.o (by have:=u.o;omega) A.o.size ?_;intro v5 V5 i f r _;have x:=ae i;have p:=ae (A.o.grown f A.o.size (λj n=>(B.o.lt j n).1));have a0:=fh B.o G (by decide) f;have P:=ae (kQ a3.o f a2.o);have b5:=ae (ne_next a2.o r (zz a3.o (by decide)));clear i f r;refine d.out _ _ (λw'=>w'.heap[l]? =some (aT (X.aH ks k))) (λ_ h=>h) a0 ?_;clear d K;show wpList _ _ _ _ _ _;first
        |have m:=m
         refine bz rfl _ _ rfl w.heap.size _ ((z+4)+4) ((y++R.cp (X.aH ks k).at_)++R.cp (X.aH ks k).len) rfl x.o bE _ 1 1 [0] rfl P.o (by have:=u.o;omega) p.o.size ?_
        |refine bz rfl _ _ rfl w.heap.size _ ((z+4)+4) ((y++R.cp (X.aH ks k).at_)++R.cp (X.aH ks k).len) rfl x.o bE _ 1 1 [1] rfl P.o (by have:=u.o;omega) p.o.size ?_
       intro v9 W9 i f _ _;have L:=p.o.grown f p.o.size (λj n=>(x.o.lt j n).1);have U:=ae (rK s.o a8.o a9.o a7.o i L HD.o);clear i f L;go_wp2;go_roundw
       case rel=>exact⟨k+1,s.o,by first|exact cD k S.o|exact bV k,U⟩
       case measure=>first|exact bZ s.o S.o|exact bN s.o
     ·go_simp;first
       |have m:=m
        obtain⟨C,b⟩:∃V,D.alloc (.cells #[.int .u8 0] 5)=V:=⟨_,rfl⟩
        skip
       |obtain⟨C,b⟩:∃V,D.alloc (.cells #[.int .u8 1] 5)=V:=⟨_,rfl⟩
      have a:Below D.heap.size D C:=(by rw[<-b];exact(ak _ _).alloc (aq _) _);first
       |have m:=m
        have b1:aa (By C bE (some ⟨D.heap.size,0,none⟩) 1 [0]):=ae (by rw[<-b];exact jX _ _ _ rfl)
        skip
       |have b1:aa (By C bE (some ⟨D.heap.size,0,none⟩) 1 [1]):=ae (by rw[<-b];exact jX _ _ _ rfl)
      have d2:=ae (xh M.o (aq D.heap.size));have O:=ae (dy M.o a);have N:=ae (a1.o.trans (a.mono a1.o.size));have Q:=(a.block l (ai a4).1).trans a4;have e9:=ae (b0.o.below a);refine d.out _ _ (λw'=>w'.heap[l]? =some (aT (X.aH ks k))) (λ_ h=>h) (by rw[b];exact Q) ?_;rw[b];clear d K a b;refine az (λK d=> ?_);refine(if_pos (by rfl)).mpr ?_;refine fI _ _ (by rfl) w.heap.size _ z y (by rfl) O.o bE _ 4 4 (R.cp (X.aH ks k).at_) (by rfl) e9.o (by have:=u.o;omega) N.o.size ?_;intro v3 o i f r _;have F:=ae i;have H:=ae (N.o.grown f N.o.size (λj n=>(O.o.lt j n).1));have E:=fh O.o Q (by decide) f;have c1:=ae (kQ b1.o f d2.o);have a2:=ae (ne_next d2.o r (zz b1.o (by decide)));clear i f r;refine d.out _ _ (λw'=>w'.heap[l]? =some (aT (X.aH ks k))) (λ_ h=>h) E ?_;clear d K;refine az (λK d=> ?_);go_simp;refine(a6.o _).mono ?_;rintro e q ⟨rfl,b⟩;have a:Below o.heap.size o q:=(by rw[b];exact(ak _ _).alloc (aq _) _);have Y:aa (By q bE (some ⟨o.heap.size,0,none⟩) 4 (R.cp (X.aH ks k).len)):=ae (by rw[b];exact lY _ _);have B:=ae (dy F.o a);have A:=ae (H.o.trans (a.mono H.o.size));have G:=(a.block l (ai E).1).trans E;have a3:=ae (c1.o.below a);clear a b;refine d.out _ _ (λw'=>w'.heap[l]? =some (aT (X.aH ks k))) (λ_ h=>h) G ?_;clear d K;refine az (λK d=> ?_);refine(if_pos (by rfl)).mpr ?_;refine fI _ _ (by rfl) w.heap.size _ (z+4) (y++R.cp (X.aH ks k).at_) (by rfl) B.o bE _ 4 4 (R.cp (X.aH ks k).len) (by rfl) Y.o (by have:=u.o;omega) A.o.size ?_;intro v5 V5 i f r _;have x:=ae i;have p:=ae (A.o.grown f A.o.size (λj n=>(B.o.lt j n).1));have a0:=fh B.o G (by decide) f;have P:=ae (kQ a3.o f a2.o);have b5:=ae (ne_next a2.o r (zz a3.o (by decide)));clear i f r;refine d.out _ _ (λw'=>w'.heap[l]? =some (aT (X.aH ks k))) (λ_ h=>h) a0 ?_;clear d K;show wpList _ _ _ _ _ _;first
       |have m:=m
        refine bz rfl _ _ rfl w.heap.size _ ((z+4)+4) ((y++R.cp (X.aH ks k).at_)++R.cp (X.aH ks k).len) rfl x.o bE _ 1 1 [0] rfl P.o (by have:=u.o;omega) p.o.size ?_
       |refine bz rfl _ _ rfl w.heap.size _ ((z+4)+4) ((y++R.cp (X.aH ks k).at_)++R.cp (X.aH ks k).len) rfl x.o bE _ 1 1 [1] rfl P.o (by have:=u.o;omega) p.o.size ?_
      intro v9 W9 i f _ _;have L:=p.o.grown f p.o.size (λj n=>(x.o.lt j n).1);have U:=ae (rK s.o a8.o a9.o a7.o i L HD.o);clear i f L;go_wp2;go_roundw
      case rel=>exact⟨k+1,s.o,by first|exact cD k S.o|exact bV k,U⟩
      case measure=>first|exact bZ s.o S.o|exact bN s.o
    ·go_simp;first
      |have m:=m
       obtain⟨D,b⟩:∃V,(I.alloc (.cells #[.int .u8 0] 5)).drew=V:=⟨_,rfl⟩
       skip
      |obtain⟨D,b⟩:∃V,(I.alloc (.cells #[.int .u8 1] 5)).drew=V:=⟨_,rfl⟩
     have a:Below I.drew.heap.size I.drew D:=(by rw[<-b];exact(ak _ _).alloc (aq _) _);first
      |have m:=m
       have b0:aa (By D bE (some ⟨I.drew.heap.size,0,none⟩) 1 [0]):=ae (by rw[<-b];exact jX _ _ _ rfl)
       skip
      |have b0:aa (By D bE (some ⟨I.drew.heap.size,0,none⟩) 1 [1]):=ae (by rw[<-b];exact jX _ _ _ rfl)
     have d1:=ae (xh b9.o (aq I.drew.heap.size));have M:=ae (dy b9.o a);have a1:=ae (b4.o.trans (a.mono b4.o.size));have a4:=(a.block l (ai Z).1).trans Z;refine d.out _ _ (λw'=>w'.heap[l]? =some (aT (X.aH ks k))) (λ_ h=>h) (by rw[b];exact a4) ?_;rw[b];clear d K a b;refine az (λK d=> ?_);go_simp;refine(b8.o _).mono ?_;rintro e C ⟨rfl,b⟩;have a:Below D.heap.size D C:=(by rw[b];exact(ak _ _).alloc (aq _) _);have b1:aa (By C bE (some ⟨D.heap.size,0,none⟩) 4 (R.cp (X.aH ks k).at_)):=ae (by rw[b];exact lY _ _);have O:=ae (dy M.o a);have N:=ae (a1.o.trans (a.mono a1.o.size));have Q:=(a.block l (ai a4).1).trans a4;have d6:=ae (b0.o.below a);clear a b;refine d.out _ _ (λw'=>w'.heap[l]? =some (aT (X.aH ks k))) (λ_ h=>h) Q ?_;clear d K;refine az (λK d=> ?_);refine(if_pos (by rfl)).mpr ?_;refine fI _ _ (by rfl) w.heap.size _ z y (by rfl) O.o bE _ 4 4 (R.cp (X.aH ks k).at_) (by rfl) b1.o (by have:=u.o;omega) N.o.size ?_;intro v3 o i f r _;have F:=ae i;have H:=ae (N.o.grown f N.o.size (λj n=>(O.o.lt j n).1));have E:=fh O.o Q (by decide) f;have c1:=ae (kQ d6.o f d1.o);have a2:=ae (ne_next d1.o r (zz d6.o (by decide)));clear i f r;refine d.out _ _ (λw'=>w'.heap[l]? =some (aT (X.aH ks k))) (λ_ h=>h) E ?_;clear d K;refine az (λK d=> ?_);go_simp;refine(a6.o _).mono ?_;rintro e q ⟨rfl,b⟩;have a:Below o.heap.size o q:=(by rw[b];exact(ak _ _).alloc (aq _) _);have Y:aa (By q bE (some ⟨o.heap.size,0,none⟩) 4 (R.cp (X.aH ks k).len)):=ae (by rw[b];exact lY _ _);have B:=ae (dy F.o a);have A:=ae (H.o.trans (a.mono H.o.size));have G:=(a.block l (ai E).1).trans E;have a3:=ae (c1.o.below a);clear a b;refine d.out _ _ (λw'=>w'.heap[l]? =some (aT (X.aH ks k))) (λ_ h=>h) G ?_;clear d K;refine az (λK d=> ?_);refine(if_pos (by rfl)).mpr ?_;refine fI _ _ (by rfl) w.heap.size _ (z+4) (y++R.cp (X.aH ks k).at_) (by rfl) B.o bE _ 4 4 (R.cp (X.aH ks k).len) (by rfl) Y.o (by have:=u.o;omega) A.o.size ?_;intro v5 V5 i f r _;have x:=ae i;have p:=ae (A.o.grown f A.o.size (λj n=>(B.o.lt j n).1));have a0:=fh B.o G (by decide) f;have P:=ae (kQ a3.o f a2.o);have b5:=ae (ne_next a2.o r (zz a3.o (by decide)));clear i f r;refine d.out _ _ (λw'=>w'.heap[l]? =some (aT (X.aH ks k))) (λ_ h=>h) a0 ?_;clear d K;show wpList _ _ _ _ _ _;first
      |have m:=m
       refine bz rfl _ _ rfl w.heap.size _ ((z+4)+4) ((y++R.cp (X.aH ks k).at_)++R.cp (X.aH ks k).len) rfl x.o bE _ 1 1 [0] rfl P.o (by have:=u.o;omega) p.o.size ?_
      |refine bz rfl _ _ rfl w.heap.size _ ((z+4)+4) ((y++R.cp (X.aH ks k).at_)++R.cp (X.aH ks k).len) rfl x.o bE _ 1 1 [1] rfl P.o (by have:=u.o;omega) p.o.size ?_
     intro v9 W9 i f _ _;have L:=p.o.grown f p.o.size (λj n=>(x.o.lt j n).1);have U:=ae (rK s.o a8.o a9.o a7.o i L HD.o);clear i f L;go_wp2;go_roundw
     case rel=>exact⟨k+1,s.o,by first|exact cD k S.o|exact bV k,U⟩
     case measure=>first|exact bZ s.o S.o|exact bN s.o
  ·obtain rfl:k=ks.length:=(by omega);have HE:=ae T.o;clear T;go_wp2;go_ret;refine⟨_,rfl, ?_,HE.o.bel⟩;have h1:=HE.o.own;rw[zB]at h1;have h2:(X.attr size ks).length=5+9*ks.length:=(by rw[<-zB,zA size (Nat.le_refl _)]);rw[h2];exact h1
end
section
variable {w0 : World} {p pf g c size ct u : Nat} {nm : J.B} {ks : List X.Ky} {rows : List X.Row} {f : Fv} {w w' : World} {s s1 s2 : J.St} {fs : List (Nat × Obj)} {ok : Obj}
variable {chs : List J.cd} {now : List (J.B × J.B)} {o : X.Row} {p0 : J.B}
theorem QB {k:Nat} (h:k<=1000000):wrap64 ((k:Int)+1)=(k:Int)+1:=IntWalk.wrap64_in _ (by omega)
structure DtI (w0:World) (p:Nat) (fs:List (Nat×Obj)) (s:J.St) (nm:J.B) (size:Nat) (ks:List X.Ky) (ct:Nat) (rows:List X.Row) (p0:J.B) (j:Nat) (chs:List J.cd) (now:List (J.B×J.B)) (W:World):Prop where
 at_:At w0 p fs (X.opened s chs now) W
 tx:X.FC s chs now (300+270*j)
 mix:X.Ql nm (X.attr size ks) ks ct rows p0 j now
 len:now.length<=100000
theorem QC (a:XF nm size ks rows ct s.now) (c:X.FC s [] s.now 0) (j:rows.find? (λr=>decide (X.val ks 0 r.b=p0))=some o):
  J.delete (X.opened s [] s.now) (X.cy nm 0 p0 0)=(X.opened s [⟨X.cy nm 0 p0 0,[],true⟩] (J.del s.now (X.cy nm 0 p0 0)),0)/\
  ∀w',At w0 p fs (X.opened s [⟨X.cy nm 0 p0 0,[],true⟩] (J.del s.now (X.cy nm 0 p0 0))) w'->DtI w0 p fs s nm size ks ct rows p0 0 [⟨X.cy nm 0 p0 0,[],true⟩] (J.del s.now (X.cy nm 0 p0 0)) w':=by
 obtain⟨f,g⟩:=X.bI j;have n:=a.ks.one;have h:=a.vlen (i:=0) (by omega) f;have k:=a.lens (i:=0) (by omega);have l:=X.cZ nm 0 p0 0;have m:=a.nm;rw[g]at h;have d:J.look s.now (X.cy nm 0 p0 0)≠none:=by rw[<-g,a.con.ry a.rows f];intro e;cases e
 have t:=c.len;have b:=c.del (X.cy nm 0 p0 0) (lX _ _ _ _) (by omega) d (aq _) (λ_=>by
  have q:=a.nm1;unfold X.cy X.tail;rw[if_pos rfl,List.length_append,X.Og];omega)
 refine⟨X.Eh _ _ _ _ d (by omega),λw' ha=>⟨ha,⟨b.inv,aw b.len (by omega), .inr (b.mn.resolve_left (by omega))⟩,X.He a.con a.ks a.rows p0, ?_⟩⟩;have:=J.qF s.now (X.cy nm 0 p0 0);have:=a.many;omega
theorem UY {j:Nat} (h:DtI w0 p fs s nm size ks ct rows p0 j chs now w) (a:XF nm size ks rows ct s.now) (g:rows.find? (λr=>decide (X.val ks 0 r.b=p0))=some o) (b:j+1<ks.length):
  (∃L u,RmI nm ks (j+1) o L u now)/\∀w',At w0 p fs (X.opened s (chs++[⟨X.aN nm ks (j+1) o,[],true⟩]) (J.del now (X.aN nm ks (j+1) o))) w'->
   DtI w0 p fs s nm size ks ct rows p0 (j+1) (chs++[⟨X.aN nm ks (j+1) o,[],true⟩]) (J.del now (X.aN nm ks (j+1) o)) w':=by
 obtain⟨d,m⟩:=X.bI g;have f:∀p t q,(if j+1<=j then X.Ee ks (X.iM ks rows p0) (j+1) p t q else X.Ee ks rows (j+1) p t q)↔X.Ee ks rows (j+1) p t q:=λp t q=>by rw[if_neg (by omega)]
 have c:ct<4294967296:=by have:=a.ct;omega
 have z:=a.ks.one;have k:=a.vlen b d;have A:=a.lens b;have v:=X.cZ nm (j+1) (X.val ks (j+1) o.b) (o.t (j+1));have y:=a.nm;have x:(X.aN nm ks (j+1) o).length<=267:=by show(X.cy nm (j+1) _ _).length<=_;omega
 have l:=X.tj h.mix (i:=j+1) (by omega) b f a.rows c d;refine⟨Qy a.rows a.ks a.ct a.nm b d (λr n=>X.tj h.mix (by omega) b f a.rows c n) (X.LW h.mix (by omega) (by omega) b f a.rows c _ k),λw' ha=>⟨ha,h.tx.del _ (lX _ _ _ _) (by omega) (by rw[l];intro e;cases e) (by omega) (λe=>by omega),X.LX a.ks a.rows c d m b h.mix, ?_⟩⟩;have:=J.qF now (X.aN nm ks (j+1) o);have:=h.len;omega
theorem Mh {j:Nat} (h:DtI w0 p fs s nm size ks ct rows p0 j chs now w) (hF:(pf,ax p nm size g ks.length c f)∈fs) (n:(g,ok)∈fs) (l:bR ok ks) (a:XF nm size ks rows ct s.now) (b:rows.find? (λr=>decide (X.val ks 0 r.b=p0))=some o) (A:Option Addr) (cb:Nat) (u:Src w0 p fs (.slice A o.b.length cb) o.b) (d:j+1<ks.length):
  Calls Tryz.prog 74 #[.pointer (some ⟨pf,0,none⟩), .int .i64 (j+1:Nat), .slice A o.b.length cb] w λe w'=>(∃v,e= .returned v)/\∃chs now,DtI w0 p fs s nm size ks ct rows p0 (j+1) chs now w':=by
 obtain⟨⟨L,y,t⟩,m⟩:=UY h a b d;have q:=(X.bI b).1;have B:=a.ks.one;have h1:=h.len;have z:=h.tx.len;have i:now.length<=200000:=by omega
 have k:(J.encs chs).length<=4000000:=by omega
 refine(xg h.at_ hF n l a.ks a.nm (j+1) d o A cb u (a.rows.fit o q) L y t i k).mono ?_;rintro e w' ⟨x,ha⟩;exact⟨x,_,_,m _ ha⟩
theorem QD (h:At w0 p fs (X.opened s [] s.now) w) (hF:(pf,ax p nm size g ks.length c f)∈fs) (a4:(g,ok)∈fs) (hO:bR ok ks) (a2:ks.length<=c) (Bf Bp Bo:Nat) (A:Option Addr) (cb:Nat)
  (Z:(Bf,aO pf)∈fs) (a0:(Bp,aZ ⟨p0.toArray⟩)∈fs) (a1:(Bo,bW (.slice A o.b.length cb))∈fs)
  (d:XF nm size ks rows ct s.now) (hT:X.FC s [] s.now 0) (a5:Src w0 p fs (.slice A o.b.length cb) o.b) (E:rows.find? (λr=>decide (X.val ks 0 r.b=p0))=some o):
  Calls Tryz.prog 73 #[.pointer (some ⟨Bf,0,none⟩), .pointer (some ⟨Bp,0,none⟩), .pointer (some ⟨Bo,0,none⟩)] w λe w'=>(∃v,e= .returned v)/\∃chs now,DtI w0 p fs s nm size ks ct rows p0 (ks.length - 1) chs now w':=by
 obtain⟨q1,q3⟩:=QC (w0:=w0) (p:=p) (fs:=fs) d hT E;obtain⟨O,hp⟩:=X.bI E;have P:=d.ks.one;have b4:=d.nm;have b2:=d.lens (i:=0) (by omega);have a6:=d.vlen (i:=0) (by omega) O;rw[hp]at a6;have h5:=X.cZ nm 0 p0 0;have y:=ae (λY t (F:∀x∈fs,x∈Y) w1 (hh:At w0 p Y t w1)=>(⟨hh.get (F _ hF),hh.get (F _ Z),hh.get (F _ a0),hh.get (F _ a1)⟩:w1.heap[pf]? =some (ax p nm size g ks.length c f)/\w1.heap[Bf]? =some (aO pf)/\w1.heap[Bp]? =some (aZ ⟨p0.toArray⟩)/\w1.heap[Bo]? =some (bW (.slice A o.b.length cb))));have l:=ae (λW=>dM nm size (some ⟨g,0,none⟩) ks.length c 0 0 p0 (by decide) (by decide) (by omega) (by omega) W);have L:=ae (λw1 (hh:At w0 p fs (X.opened s [] s.now) w1)=>at_delete hh (X.cy nm 0 p0 0) (by omega) 0 q1);have T:=ae q3;obtain⟨A',G,b1⟩:=ig g ks.length c P.1 a2;have V:=ae G;have HX:=ae d;have a7:=ae E;have b0:=ae a5;have a8:=ae hF;have a9:=ae a4;have HO:=ae hO;have H:=ae h;have S:=ae P;have b5:=ae O;generalize(⟨p0.toArray⟩:ByteArray)=pv at y l;generalize(⟨(X.cy nm 0 p0 0).toArray⟩:ByteArray)=pe at L l;clear h hF a4 hO a2 Z a0 a1 d hT a5 E q1 q3 P b4 b2 a6 h5 G b1 O hp;go_enter Tryz.func73,Tryz.ntmps73;go_upto_region 0 with fail;refine aJ 10 (.rd 0 (.rd 1 (.rd 2 (.rd 3 (.rd 4 (.rd 5 (.rd 6 (.rd 7 (.rd 8 (.wr 9 .fin)))))))))) (λw'=>At w0 p fs (X.opened s [] s.now) w') (H.o.below ((ak _ _).drew)) ?_;repeat
  refine aA (v:= ?_) (λw' hS=> ?_) (λK q=> ?_);rotate_left
  ·obtain⟨r1,r2,a,b⟩:=y.o fs (X.opened s [] s.now) (λ_ u=>u) w' hS;have z:=aj w' pf r1;have B:=aj w' Bf r2;have C:=aj w' Bp a;have D:=aj w' Bo b;clear r1 r2 a b;clear hS;go_simp;try with_reducible rfl
  go_simp;refine q _ ?_;clear q K
 refine az (λK q=> ?_);go_simp;refine(l.o _).mono ?_;rintro e W1 ⟨rfl,hb⟩;have I:=ae (H.o.below (((ak _ w).drew).trans hb));clear hb l H;refine q.out _ _ (λw'=>At w0 p fs (X.opened s [] s.now) w') (λ_ h=>h) I.o ?_;clear q K;show wpList _ _ _ _ _ _;go_wp2_with fail;refine(L.o _ I.o).mono ?_;rintro e n ⟨rfl,ha⟩;have M:=ae (T.o _ ha);clear ha L I T;obtain⟨r1,r2,a,b⟩:=y.o fs (X.opened s [⟨X.cy nm 0 p0 0,[],true⟩] (J.del s.now (X.cy nm 0 p0 0))) (λ_ u=>u) n M.o.at_;have z:=aj n pf r1;have B:=aj n Bf r2;have C:=aj n Bp a;have D:=aj n Bo b;clear r1 r2 a b;have G:=V.o;clear V;go_wp2;clear z B C D G;go_loopw [22] (fun t W=>∃k:Nat,k<=ks.length - 1/\t= .int .i64 k/\∃chs now,aa (DtI w0 p fs s nm size ks ct rows p0 k chs now W)) (fun t _=>ks.length - 1 - (intOf t).toNat)
 case atStart=>exact⟨0,Nat.zero_le _,rfl,_,_,M⟩
 case round=>
  clear M;obtain⟨k,hk,rfl,chs,now,m⟩:=hrel;by_cases b3:k<ks.length - 1
  ·have a3:k+1<ks.length:=(by omega);have N:=ae b3;have Q:aa (k<=1000000):=ae (by have:=S.o;omega);have b8:(k:Int)<((ks.length - 1:Nat):Int):=(by omega);have U:=ae (Mh m.o a8.o a9.o HO.o HX.o a7.o A cb b0.o a3);have b7:wrap64 ((k:Int)+1)=(k:Int)+1:=QB (by have:=S.o;omega);obtain⟨r1,r2,a,b⟩:=y.o fs _ (λ_ u=>u) wr m.o.at_;have z:=aj wr pf r1;have B:=aj wr Bf r2;have C:=aj wr Bp a;have D:=aj wr Bo b;clear r1 r2 a b;clear a3;go_wp2_with fail;clear z B C D;refine U.o.mono ?_;rintro e W7 ⟨⟨_,rfl⟩,b6,b9,ha⟩;have HJ:=ae ha;clear ha U m;go_wp2;go_roundw
   case rel=>exact⟨k+1,N.o,by first|exact cD k Q.o|exact bV k,_,_,HJ⟩
   case measure=>first|exact bZ N.o Q.o|exact bN N.o
  ·obtain rfl:k=ks.length - 1:=(by omega);have l:=ae m.o;clear m;go_wp2;go_end0;exact⟨⟨_,rfl⟩,_,_,l.o⟩
end
end Go.Proofs.YtipljcmmokaokaaGreat
