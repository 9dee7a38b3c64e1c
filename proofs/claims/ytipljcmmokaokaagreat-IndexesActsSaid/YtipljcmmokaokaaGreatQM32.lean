import Derived.Test.YtipljcmmokaokaaGreatQM21
import Derived.Test.YtipljcmmokaokaaGreatQM23
set_option linter.unusedVariables false
set_option linter.unusedSimpArgs false
set_option maxHeartbeats 40000000
namespace Go.Proofs.YtipljcmmokaokaaGreat
open Go.RowKit Go.Lib Go.Maps Go.WideMaps Go.Sort
set_option maxRecDepth 100000
noncomputable def Qz:Code:=(Tryz.f71.body.bind (kg 13)).getD .skip
noncomputable def QA:Code:=(Tryz.f71.body.bind (kg 14)).getD .skip
theorem uZ {W0:World} {r:Nat} {VK WV:ByteArray} {Q:Exit→Act→World→Prop} (hc:Mf VK WV) (hr:r≤5) (res:Bool) (e:res=(decide (r=3)&&Op.bytesLess VK.toList WV.toList||decide (r=4)&&(Op.bytesLess VK.toList WV.toList||(VK.toList==WV.toList)))) (u0 u1 u4 u5 u6 u7 u8 u9 gY gS gq gG gH u16 gu gw gI gJ gK gL u23 u24 ju u26 jv u28 jw jx jy u32 u33 jz jA jB jC jD jE jF iG iH iI u44 iJ iK iL iM iN iO iP iQ iR iT jG jH jI jJ jK kA kB kC kD u64 kE kF kG kH kI kJ kK lX nC nD nE nG ll ln lq lr lu lx ly lA lB lC lD lF lG lH kL tE tF tG tH tI tJ tK vY kP kQ kR kS kT kU kV kW kX kY kZ lZ jS jT iV iW iX iY iZ ja jb jc jd je jf jg jh ji jk jl yj yl ym yn yo yq yr yt u138 yu yv yw yx yy yz yA yB yC yD yE yF MR MS MT MU MV MW:Value) (h:∀(d73 d74 d75 d76 d77 d78 d79 d80 d81 d82 d83 d84 d85 d86 d87 d88:Value),Q .normal (⟨#[u0,u1, .int .u8 (r:Nat), .string WV,u4,u5,u6,u7,u8,u9,gY,gS,gq, .string VK, .bool res,gH,u16,gu,gw,gI,gJ,gK,gL,u23,u24,ju,u26,jv,u28,jw,jx,jy,u32,u33,jz,jA,jB,jC,jD,jE,jF,iG,iH,iI,u44,iJ,iK,iL,iM,iN,iO,iP,iQ,iR,iT,jG,jH,jI,jJ,jK,kA,kB,kC,kD,u64,kE,kF,kG,kH,kI,kJ,kK,lX,d73,d74,d75,d76,d77,d78,d79,d80,d81,d82,d83,d84,d85,d86,d87,d88,lG,lH,kL,tE,tF,tG,tH,tI,tJ,tK,vY,kP,kQ,kR,kS,kT,kU,kV,kW,kX,kY,kZ,lZ,jS,jT,iV,iW,iX,iY,iZ,ja,jb,jc,jd,je,jf,jg,jh,ji,jk,jl,yj,yl,ym,yn,yo,yq,yr,yt,u138,yu,yv,yw,yx,yy,yz,yA,yB,yC,yD,yE,yF,MR,MS,MT,MU,MV,MW],[]⟩:Act) W0):Code.wp Tryz.prog Qz Q (⟨#[u0,u1, .int .u8 (r:Nat), .string WV,u4,u5,u6,u7,u8,u9,gY,gS,gq, .string VK,gG,gH,u16,gu,gw,gI,gJ,gK,gL,u23,u24,ju,u26,jv,u28,jw,jx,jy,u32,u33,jz,jA,jB,jC,jD,jE,jF,iG,iH,iI,u44,iJ,iK,iL,iM,iN,iO,iP,iQ,iR,iT,jG,jH,jI,jJ,jK,kA,kB,kC,kD,u64,kE,kF,kG,kH,kI,kJ,kK,lX,nC,nD,nE,nG,ll,ln,lq,lr,lu,lx,ly,lA,lB,lC,lD,lF,lG,lH,kL,tE,tF,tG,tH,tI,tJ,tK,vY,kP,kQ,kR,kS,kT,kU,kV,kW,kX,kY,kZ,lZ,jS,jT,iV,iW,iX,iY,iZ,ja,jb,jc,jd,je,jf,jg,jh,ji,jk,jl,yj,yl,ym,yn,yo,yq,yr,yt,u138,yu,yv,yw,yx,yy,yz,yA,yB,yC,yD,yE,yF,MR,MS,MT,MU,MV,MW],[]⟩:Act) W0:=by
 subst e;have HX:=ae h;clear h;obtain rfl|rfl|rfl|rfl|rfl|rfl:r=0∨r=1∨r=2∨r=3∨r=4∨r=5:=by omega
 all_goals
  rcases hc with⟨h1,h2,h3,h4⟩|⟨h1,h2,h3,h4⟩|⟨h1,h2,h3,h4⟩
  all_goals
   conv=>arg 2;whnf
   simp only[h1,h2,h3,h4]at HX;go_wp2;exact HX.out _ _ _ _ _ _ _ _ _ _ _ _ _ _ _ _
theorem vd {W0:World} {r:Nat} {VK WV:ByteArray} {Q:Exit→Act→World→Prop} (hc:Mf VK WV) (hr:r≤5) (res:Bool) (e:res=(decide (r=0)&&(VK.toList==WV.toList)||decide (r=1)&&Op.bytesLess WV.toList VK.toList||decide (r=2)&&(Op.bytesLess WV.toList VK.toList||(WV.toList==VK.toList)))) (u0 u1 u4 u5 u6 u7 u8 u9 gY gS gq gG gH u16 gu gw gI gJ gK gL u23 u24 ju u26 jv u28 jw jx jy u32 u33 jz jA jB jC jD jE jF iG iH iI u44 iJ iK iL iM iN iO iP iQ iR iT jG jH jI jJ jK kA kB kC kD u64 kE kF kG kH kI kJ kK lX nC nD nE nG ll ln lq lr lu lx ly lA lB lC lD lF lG lH kL tE tF tG tH tI tJ tK vY kP kQ kR kS kT kU kV kW kX kY kZ lZ jS jT iV iW iX iY iZ ja jb jc jd je jf jg jh ji jk jl yj yl ym yn yo yq yr yt u138 yu yv yw yx yy yz yA yB yC yD yE yF MR MS MT MU MV MW:Value) (h:∀(d89 d90 d91 d92 d93 d94 d95 d96 d97 d98 d99 d100 d101 d102 d103 d104 d105 d106 d107 d108 d109 d110 d111 d112 d113:Value),Q .normal (⟨#[u0,u1, .int .u8 (r:Nat), .string WV,u4,u5,u6,u7,u8,u9,gY,gS,gq, .string VK,gG, .bool res,u16,gu,gw,gI,gJ,gK,gL,u23,u24,ju,u26,jv,u28,jw,jx,jy,u32,u33,jz,jA,jB,jC,jD,jE,jF,iG,iH,iI,u44,iJ,iK,iL,iM,iN,iO,iP,iQ,iR,iT,jG,jH,jI,jJ,jK,kA,kB,kC,kD,u64,kE,kF,kG,kH,kI,kJ,kK,lX,nC,nD,nE,nG,ll,ln,lq,lr,lu,lx,ly,lA,lB,lC,lD,lF,d89,d90,d91,d92,d93,d94,d95,d96,d97,d98,d99,d100,d101,d102,d103,d104,d105,d106,d107,d108,d109,d110,d111,d112,d113,iV,iW,iX,iY,iZ,ja,jb,jc,jd,je,jf,jg,jh,ji,jk,jl,yj,yl,ym,yn,yo,yq,yr,yt,u138,yu,yv,yw,yx,yy,yz,yA,yB,yC,yD,yE,yF,MR,MS,MT,MU,MV,MW],[]⟩:Act) W0):Code.wp Tryz.prog QA Q (⟨#[u0,u1, .int .u8 (r:Nat), .string WV,u4,u5,u6,u7,u8,u9,gY,gS,gq, .string VK,gG,gH,u16,gu,gw,gI,gJ,gK,gL,u23,u24,ju,u26,jv,u28,jw,jx,jy,u32,u33,jz,jA,jB,jC,jD,jE,jF,iG,iH,iI,u44,iJ,iK,iL,iM,iN,iO,iP,iQ,iR,iT,jG,jH,jI,jJ,jK,kA,kB,kC,kD,u64,kE,kF,kG,kH,kI,kJ,kK,lX,nC,nD,nE,nG,ll,ln,lq,lr,lu,lx,ly,lA,lB,lC,lD,lF,lG,lH,kL,tE,tF,tG,tH,tI,tJ,tK,vY,kP,kQ,kR,kS,kT,kU,kV,kW,kX,kY,kZ,lZ,jS,jT,iV,iW,iX,iY,iZ,ja,jb,jc,jd,je,jf,jg,jh,ji,jk,jl,yj,yl,ym,yn,yo,yq,yr,yt,u138,yu,yv,yw,yx,yy,yz,yA,yB,yC,yD,yE,yF,MR,MS,MT,MU,MV,MW],[]⟩:Act) W0:=by
 subst e;have HX:=ae h;clear h;obtain rfl|rfl|rfl|rfl|rfl|rfl:r=0∨r=1∨r=2∨r=3∨r=4∨r=5:=by omega
 all_goals
  rcases hc with⟨h1,h2,h3,h4⟩|⟨h1,h2,h3,h4⟩|⟨h1,h2,h3,h4⟩
  all_goals
   conv=>arg 2;whnf
   simp only[h1,h2,h3,h4]at HX;go_wp2;exact HX.out _ _ _ _ _ _ _ _ _ _ _ _ _ _ _ _ _ _ _ _ _ _ _ _ _
def rY (m:X.M) (k r:Nat) (b:J.B) (x:X.Row):Bool:=X.rel r ((X.val m.ks k x.b).take b.length) b
def Wk (m:X.M) (k r:Nat) (b:J.B) (ls:List HP) (i:Nat) (z:Int):Prop:=(z= -1∧∀t (ht:t<ls.length),t<i→rY m k r b ls[t].1=false)∨∃(j:Nat) (hj:j<ls.length),z=(j:Nat)∧j<i∧rY m k r b ls[j].1=true∧∀t (ht:t<ls.length),(if r=3∨r=4 then j<t∧t<i else t<j)→rY m k r b ls[t].1=false
theorem BH {p:X.Row→Bool} {ls:List HP} {j:Nat} (hj:j<ls.length) (hno:∀t (ht:t<ls.length),j<t→p ls[t].1=false) (hy:p ls[j].1=true):((ls.map (·.1)).filter p).getLast? =some ls[j].1:=by
 have e:ls=ls.take j++ls[j]::ls.drop (j+1):=by rw[←List.drop_eq_getElem_cons hj,List.take_append_drop]
 have hd:((ls.drop (j+1)).map (·.1)).filter p=[]:=List.filter_eq_nil_iff.2 (λx hx=>by
  obtain⟨z,hz,rfl⟩:=List.mem_map.1 hx;obtain⟨t,ht,rfl⟩:=List.getElem_of_mem hz;rw[List.length_drop]at ht;rw[List.getElem_drop,hno (j+1+t) (by omega) (by omega)];decide)
 conv=>lhs;rw[e]
 rw[List.map_append,List.map_cons,List.filter_append,List.filter_cons_of_pos hy,hd,List.getLast?_append,List.getLast?_singleton];rfl
theorem BI {p:X.Row→Bool} {ls:List HP} (hno:∀t (ht:t<ls.length),p ls[t].1=false):((ls.map (·.1)).filter p).getLast? =none:=by
 rw[List.filter_eq_nil_iff.2 (λx hx=>by
  obtain⟨z,hz,rfl⟩:=List.mem_map.1 hx;obtain⟨t,ht,rfl⟩:=List.getElem_of_mem hz;rw[hno t ht];decide)]
 rfl
theorem QB {x y:J.B} {r:Nat}:(decide (r=3)&&decide (x<y)||decide (r=4)&&(decide (x<y)||decide (x=y)))=(decide (r=3∨r=4)&&X.rel r x y):=by
 unfold X.rel;have e2:(decide (x<y)||decide (x=y))= !decide (y<x):=by
  rw[Bool.eq_iff_iff,Bool.or_eq_true,decide_eq_true_eq,decide_eq_true_eq,Bool.not_eq_true',decide_eq_false_iff_not];constructor
  ·rintro(h1|h1)
   ·exact List.lt_asymm h1
   ·rw[h1];exact List.lt_irrefl _
  ·intro h1;rcases List.le_iff_lt_or_eq.1 (List.not_lt.1 h1)with h2|h2
   ·exact .inl h2
   ·exact .inr h2
 by_cases h3:r=3
 ·subst h3;simp
 ·by_cases h4:r=4
  ·subst h4;rw[e2];simp
  ·simp[h3,h4]
theorem MX {x y:J.B} {r:Nat} (hr:r≤5):(decide (r=0)&&decide (x=y)||decide (r=1)&&decide (y<x)||decide (r=2)&&(decide (y<x)||decide (y=x)))=(!decide (r=3∨r=4)&&X.rel r x y):=by
 unfold X.rel;have e2:(decide (y<x)||decide (y=x))= !decide (x<y):=by
  rw[Bool.eq_iff_iff,Bool.or_eq_true,decide_eq_true_eq,decide_eq_true_eq,Bool.not_eq_true',decide_eq_false_iff_not];constructor
  ·rintro(h1|h1)
   ·exact List.lt_asymm h1
   ·rw[h1];exact List.lt_irrefl _
  ·intro h1;rcases List.le_iff_lt_or_eq.1 (List.not_lt.1 h1)with h2|h2
   ·exact .inl h2
   ·exact .inr h2
 match r,hr with
 |0,_=>simp
 |1,_=>simp
 |2,_=>rw[e2];simp
 |3,_=>simp
 |4,_=>simp
 |5,_=>simp
section
variable {w w' : World} {q g c ct : Nat} {M : Nat → Prop} {m : X.M} {v : Value} {l : List HP}
theorem MZ (h:ft w q g c M m v l) {k r:Nat} {b:J.B} {z:Int} (hf:Wk m k r b (dg m.ks k l) (dg m.ks k l).length z):(z= -1∧m.place k r b=none)∨∃(j:Nat) (hj:j<(dg m.ks k l).length),z=(j:Nat)∧m.place k r b=some (dg m.ks k l)[j].1:=by
 unfold X.M.place;rw[←h.bQ k];rcases hf with⟨hz,hno⟩|⟨j,hj,hz,_,hy,hno⟩
 ·refine .inl ⟨hz, ?_⟩;split
  ·exact BI (p:=rY m k r b) (λt ht=>hno t ht ht)
  ·exact mU (p:=rY m k r b) (λt ht=>hno t ht ht)
 ·refine .inr ⟨j,hj,hz, ?_⟩;split
  ·rename_i hr
   exact BH (p:=rY m k r b) hj (λt ht LI=>hno t ht (by rw[if_pos hr];exact⟨LI,ht⟩)) hy
  ·rename_i hr
   exact ki (p:=rY m k r b) hj (λt ht LI=>hno t ht (by rw[if_neg hr];exact LI)) hy
def StQ (w:World) (q g c:Nat) (M:Nat→Prop) (m:X.M) (v:Value) (l:List HP) (k r:Nat) (b:J.B) (e:Ending) (w':World):Prop:=e= .returned (.string ⟨(m.start (k:Nat) r b).2.toArray⟩)∧HR w q g c M (m.start (k:Nat) r b).1 v l w'
theorem SN {n k:Nat} {b:J.B} {y:Nat} (hk:k<n) (hb:b≠[]) (hbl:b.length≤y):¬((k:Int)<0∨(n:Int)≤k∨b.length=0∨y<b.length):=by
 intro hh;rcases hh with hh|hh|hh|hh
 ·omega
 ·omega
 ·exact hb (List.eq_nil_of_length_eq_zero hh)
 ·omega
theorem Er {k r:Nat} {b:J.B} (hc:X.bM [52,55] [1,3] m.mode=X.good) (hk:k<m.ks.length) (hb:b≠[]) (hbl:b.length≤(X.aF m.ks k).len) {x:X.Row} (h:m.place k r b=some x):m.start (k:Nat) r b=({lz m with lost:=false,key:=k,value:=X.val m.ks k x.b,at_:=x.t k,same:=true},X.good):=by
 unfold X.M.start;rw[if_neg (Decidable.not_not.2 hc),if_neg (by rw[Int.toNat_natCast];exact SN hk hb hbl),Int.toNat_natCast,h]
theorem Es {k r:Nat} {b:J.B} (hc:X.bM [52,55] [1,3] m.mode=X.good) (hk:k<m.ks.length) (hb:b≠[]) (hbl:b.length≤(X.aF m.ks k).len) (h:m.place k r b=none):m.start (k:Nat) r b=(m.dG,[50,51]):=by
 unfold X.M.start;rw[if_neg (Decidable.not_not.2 hc),if_neg (by rw[Int.toNat_natCast];exact SN hk hb hbl),Int.toNat_natCast,h]
theorem Et (h:ft w q g c M m v l) (k:Int) (r:Nat) (b:J.B) (hc:X.bM [52,55] [1,3] m.mode≠X.good):
  Calls Tryz.prog 71 #[.pointer (some ⟨q,0,none⟩), .int .i64 k, .int .u8 (r:Nat), .string ⟨b.toArray⟩] w λe w'=>e= .returned (.string ⟨(m.start k r b).2.toArray⟩)∧HR w q g c M (m.start k r b).1 v l w':=by
 unfold X.M.start;rw[if_pos hc];have HM:=ae (ik h.row [52,55] 1 3 3 [1,3] (by simp) hc);have HS:=ae (fe h);obtain⟨rz,wE⟩:=kq (rS [52,55] [1,3] m.mode (by decide));clear h hc;generalize(⟨(X.bM [52,55] [1,3] m.mode).toArray⟩:ByteArray)=S at HM rz wE⊢;go_enter Tryz.func71,Tryz.ntmps71;go_wp2_with fail;refine HM.out.mono ?_;rintro e w1 ⟨rfl,rfl⟩;go_wp2;go_ret;exact⟨rfl,HS.out⟩
theorem Eu (h:ft w q g c M m v l) (k:Int) (r:Nat) (b:J.B) (hc:X.bM [52,55] [1,3] m.mode=X.good) (hk:k<0∨m.ks.length≤k∨b.length=0∨(X.aF m.ks k.toNat).len<b.length):
  Calls Tryz.prog 71 #[.pointer (some ⟨q,0,none⟩), .int .i64 k, .int .u8 (r:Nat), .string ⟨b.toArray⟩] w λe w'=>e= .returned (.string ⟨(m.start k r b).2.toArray⟩)∧HR w q g c M (m.start k r b).1 v l w':=by
 unfold X.M.start;rw[if_neg (Decidable.not_not.2 hc),if_pos hk];have HM:=ae (ei h.row [52,55] 1 3 3 [1,3] (by simp) (by decide) hc);have HL:=ae (ij h.row);have HH:=ae h;have Qh:k<0∨(¬k<0∧¬k<(m.ks.length:Nat))∨(¬k<0∧k<(m.ks.length:Nat)∧b=[])∨(∃n:Nat,k=(n:Nat)∧n<m.ks.length∧b≠[]∧(X.aF m.ks n).len<b.length):=by
  by_cases h0:k<0
  ·exact .inl h0
  ·by_cases h1:m.ks.length≤k
   ·exact .inr (.inl ⟨h0,by omega⟩)
   ·by_cases h2:b=[]
    ·exact .inr (.inr (.inl ⟨h0,by omega,h2⟩))
    ·refine .inr (.inr (.inr ⟨k.toNat,by omega,by omega,h2, ?_⟩));rcases hk with hk|hk|hk|hk
     ·exact absurd hk h0
     ·exact absurd hk h1
     ·exact absurd (List.eq_nil_of_length_eq_zero hk) h2
     ·exact hk
 clear h hc hk;rcases Qh with h0|⟨h0,h1⟩|⟨h0,h1,rfl⟩|⟨n,rfl,h1,hb,hlen⟩
 ·generalize(⟨b.toArray⟩:ByteArray)=S;go_enter Tryz.func71,Tryz.ntmps71;go_wp2_with fail;refine HM.out.mono ?_;rintro e w1 ⟨rfl,rfl⟩;clear HM;go_wp2_with fail;refine(HL.out).mono ?_;rintro e w2 ⟨⟨vx,rfl⟩,hg,hrow⟩;have H2:Hid (HR w q g c M (lz m) v l w2):=ae ⟨hg,HH.out.turn hg hrow rfl rfl⟩;clear hg hrow HL;have hcc:=aj w2 q H2.out.2.row;go_wp2;go_ret;exact⟨rfl,H2.out⟩
 ·generalize(⟨b.toArray⟩:ByteArray)=S;go_enter Tryz.func71,Tryz.ntmps71;go_wp2_with fail;refine HM.out.mono ?_;rintro e w1 ⟨rfl,rfl⟩;clear HM;go_wp2_with fail;refine(HL.out).mono ?_;rintro e w2 ⟨⟨vx,rfl⟩,hg,hrow⟩;have H2:Hid (HR w q g c M (lz m) v l w2):=ae ⟨hg,HH.out.turn hg hrow rfl rfl⟩;clear hg hrow HL;have hcc:=aj w2 q H2.out.2.row;go_wp2;go_ret;exact⟨rfl,H2.out⟩
 ·show Calls _ _ #[_,_,_, .string ⟨#[]⟩] _ _;go_enter Tryz.func71,Tryz.ntmps71;go_wp2_with fail;refine HM.out.mono ?_;rintro e w1 ⟨rfl,rfl⟩;clear HM;go_wp2_with fail;refine(HL.out).mono ?_;rintro e w2 ⟨⟨vx,rfl⟩,hg,hrow⟩;have H2:Hid (HR w q g c M (lz m) v l w2):=ae ⟨hg,HH.out.turn hg hrow rfl rfl⟩;clear hg hrow HL;have hcc:=aj w2 q H2.out.2.row;go_wp2;go_ret;exact⟨rfl,H2.out⟩
 ·have DC:(⟨b.toArray⟩:ByteArray).size=b.length:=bh b;obtain⟨rz,wE⟩:=kq hb;have h0:¬(n:Int)<0:=(by omega);have h3:(n:Int)<(m.ks.length:Nat):=(by omega);have h4:((X.aF m.ks n).len:Int)<(b.length:Nat):=(by omega);have fc:=ae h1;clear hb hlen h1;generalize(⟨b.toArray⟩:ByteArray)=S at DC rz wE⊢;go_enter Tryz.func71,Tryz.ntmps71;go_wp2_with fail;refine HM.out.mono ?_;rintro e w1 ⟨rfl,rfl⟩;clear HM;go_wp2_with fail;refine(HL.out).mono ?_;rintro e w2 ⟨⟨vx,rfl⟩,hg,hrow⟩;have H2:Hid (HR w q g c M (lz m) v l w2):=ae ⟨hg,HH.out.turn hg hrow rfl rfl⟩;clear hg hrow HL;have hcc:=aj w2 q H2.out.2.row;have iE:dB w2 g m.ks:=H2.out.2.ks;have k2:=iE.len fc.out;go_wp2;go_ret;exact⟨rfl,H2.out⟩
theorem Na {k r i:Nat} {b:J.B} {ls:List HP} {z:Int} (h:Wk m k r b ls i z) (hi:i<ls.length) (hr:r≤5):
  Wk m k r b ls (i+1) (if(decide (r=3∨r=4)&&rY m k r b ls[i].1||(!decide (r=3∨r=4)&&rY m k r b ls[i].1)&&decide (z<0))=true then(i:Int)else z):=by
 by_cases hl:r=3∨r=4
 ·rw[decide_eq_true hl,Bool.true_and,Bool.not_true,Bool.false_and,Bool.false_and,Bool.or_false];cases hb:rY m k r b ls[i].1 with
  |true=>
   rw[if_pos rfl];exact .inr ⟨i,hi,rfl,by omega,hb,λt ht hh=>by rw[if_pos hl]at hh;omega⟩
  |false=>
   rw[if_neg (by decide)];rcases h with⟨hz,hno⟩|⟨j,hj,hz,lf,hy,hno⟩
   ·refine .inl ⟨hz,λt ht hti=> ?_⟩;by_cases e:t=i
    ·subst e;exact hb
    ·exact hno t ht (by omega)
   ·refine .inr ⟨j,hj,hz,by omega,hy,λt ht hh=> ?_⟩;rw[if_pos hl]at hh;by_cases e:t=i
    ·subst e;exact hb
    ·exact hno t ht (by rw[if_pos hl];omega)
 ·rw[decide_eq_false hl,Bool.false_and,Bool.not_false,Bool.true_and,Bool.false_or];rcases h with⟨hz,hno⟩|⟨j,hj,hz,lf,hy,hno⟩
  ·cases hb:rY m k r b ls[i].1 with
   |true=>
    rw[if_pos (by simp;omega)];exact .inr ⟨i,hi,rfl,by omega,hb,λt ht hh=>by rw[if_neg hl]at hh;exact hno t ht hh⟩
   |false=>
    rw[if_neg (by simp)];refine .inl ⟨hz,λt ht hti=> ?_⟩;by_cases e:t=i
    ·subst e;exact hb
    ·exact hno t ht (by omega)
  ·rw[if_neg (by simp;omega)];exact .inr ⟨j,hj,hz,by omega,hy,λt ht hh=>by rw[if_neg hl]at hh;exact hno t ht (by rw[if_neg hl];exact hh)⟩
theorem IH (h:ft w q g c M m v l) (hM:∀k,M k→k<w.heap.size) (hf:cj m l) (k r:Nat) (hr:r≤5) (b:J.B) (hc:X.bM [52,55] [1,3] m.mode=X.good) (hk:k<m.ks.length) (hb:b≠[]) (hbl:b.length≤(X.aF m.ks k).len):
  Calls Tryz.prog 71 #[.pointer (some ⟨q,0,none⟩), .int .i64 (k:Nat), .int .u8 (r:Nat), .string ⟨b.toArray⟩] w (StQ w q g c M m v l k r b):=by
 have acz:=ae (λx=>Er (r:=r) (x:=x) hc hk hb hbl);have acA:=ae (Es (r:=r) hc hk hb hbl);have HM:=ae (ei h.row [52,55] 1 3 3 [1,3] (by simp) (by decide) hc);have HL:=ae (ij h.row);have HH:=ae h;have DC:(⟨b.toArray⟩:ByteArray).size=b.length:=bh b;obtain⟨rz,wE⟩:=kq hb;have h0:¬(k:Int)<0:=by omega
 have h3:(k:Int)<(m.ks.length:Nat):=by omega
 have h4:¬((X.aF m.ks k).len:Int)<(b.length:Nat):=by omega
 have fc:=ae hk;have yI:=ae hM;have HF:Hid (cj (lz m) l):=ae ⟨hf.fit,hf.ts,hf.ks,hf.len⟩;have vZ:=ae hbl;have JK:=ae hr;generalize hS:(⟨b.toArray⟩:ByteArray)=S at DC rz wE⊢;have Bq:=ae hS;clear h hc hk hb hf hM hbl hr hS;go_enter Tryz.func71,Tryz.ntmps71;go_wp2_with fail;refine HM.out.mono ?_;rintro e w1 ⟨rfl,rfl⟩;clear HM;go_wp2_with fail;refine(HL.out).mono ?_;rintro e w2 ⟨⟨vx,rfl⟩,hg,hrow⟩;have H2:Hid (HR w q g c M (lz m) v l w2):=ae ⟨hg,HH.out.turn hg hrow rfl rfl⟩;clear hg hrow HL;have hcc:=aj w2 q H2.out.2.row;have iE:dB w2 g m.ks:=H2.out.2.ks;have k2:=iE.len fc.out;have sN:=ae (gA H2.out.2 (λj hj=>av (yI.out j hj) H2.out.1.size) HF.out k fc.out);go_wp2_with fail;refine sN.out.mono ?_;rintro e w4 ⟨vs,rfl,hb4,MD⟩;have H4:=ae (H2.out.below hb4);have xm:Hid (cj m (dg m.ks k l)):=ae ⟨(HF.out.bQ k).fit,(HF.out.bQ k).ts,(HF.out.bQ k).ks,(HF.out.bQ k).len⟩;have TV:=ae (λz=>MZ HH.out (k:=k) (r:=r) (b:=b) (z:=z));have Bz:Hid (mP w4 M vs (dg m.ks k l)):=ae MD;have zr:=xm.out.len;generalize dg m.ks k l=ls at xm TV Bz zr;clear hb4 MD hcc iE sN k2 h0 h4 rz wE;obtain⟨A,cs,rfl,hlc,hat,_,_⟩:=Bz.out.cP;clear hat hlc;go_wp2_with fail;go_loopw [11,12] (fun t u W=>∃i:Nat,i≤ls.length∧u= .int .i64 i∧∃z:Int,t= .int .i64 z∧Hid (Wk m k r b ls i z)∧Hid (Below w4.heap.size w4 W)) (fun _ u _=>ls.length - (intOf u).toNat)
 case atStart=>exact⟨0,Nat.zero_le _,rfl, -1,rfl,ae (.inl ⟨rfl,λt _ h=>absurd h (Nat.not_lt_zero t)⟩),ae (ak _ _)⟩
 case round=>
  obtain⟨i,hi,rfl,z,rfl,HSF,fF⟩:=hrel;by_cases hlt:i<ls.length
  ·obtain⟨g0,c0,e0,hx1,hx2⟩:=Bz.out.cells hlt;clear hx1 hx2;injection e0 with e0 e1 e2;subst e0 e2;have PB:(i:Int)<(ls.length:Nat):=(by omega);have SF:=ae (λ(W:World) (hb:Below wr.heap.size wr W)=>H4.out.below (fF.out.trans (hb.mono fF.out.size)));have ej:wr.cell? ⟨g0,i*2,none⟩=some (.string ⟨ls[i].1.b.toArray⟩):=((Bz.out.below fF.out).cellAt hlt).1;have kz:Hid (Calls Tryz.prog 52 #[.pointer (some ⟨q,0,none⟩), .int .i64 (k:Nat), .string ⟨ls[i].1.b.toArray⟩] wr λe w'=>e= .returned (.string ⟨(X.val m.ks k ls[i].1.b).toArray⟩)∧Below wr.heap.size wr w'):=ae (kh.part (m:=m) ⟨World.grownBy.refl wr (some q),(SF.out wr (ak _ _)).2,Bz.out.below fF.out⟩ rfl xm.out fc.out (List.getElem_mem hlt));have aW:=ae hlt;have nh:=ae (show i≤1000000 by omega);have II:=ae (Na HSF.out hlt JK.out);have oU:(X.val m.ks k ls[i].1.b).length=(X.aF m.ks k).len:=X.aV (xm.out.fit _ (List.getElem_mem hlt)) fc.out;have eG:(⟨(X.val m.ks k ls[i].1.b).toArray⟩:ByteArray).extract 0 b.length=⟨((X.val m.ks k ls[i].1.b).take b.length).toArray⟩:=(by rw[ByteArray.extract_mk,List.drop_zero,Nat.sub_zero]);have hvs:(⟨(X.val m.ks k ls[i].1.b).toArray⟩:ByteArray).size=(X.aF m.ks k).len:=(by rw[bh];exact oU);have hbi:(b.length:Int)≤((X.aF m.ks k).len:Nat):=(by have:=vZ.out;omega);have hbn:b.length≤(X.aF m.ks k).len:=vZ.out;have sk:=ae (Bg ((X.val m.ks k ls[i].1.b).take b.length) b);have Oz:Hid (rY m k r b ls[i].1=X.rel r ((X.val m.ks k ls[i].1.b).take b.length) b):=ae rfl;have gD:=ae (rR ((X.val m.ks k ls[i].1.b).take b.length) b);have jQ:=ae (df ((X.val m.ks k ls[i].1.b).take b.length) b);have om:=ae (rR b ((X.val m.ks k ls[i].1.b).take b.length));have kO:=ae (df b ((X.val m.ks k ls[i].1.b).take b.length));rw[Bq.out]at sk gD jQ om kO;generalize(⟨(X.val m.ks k ls[i].1.b).toArray⟩:ByteArray)=VF at kz eG hvs;generalize(⟨((X.val m.ks k ls[i].1.b).take b.length).toArray⟩:ByteArray)=VK at eG sk gD jQ om kO;generalize(⟨ls[i].1.b.toArray⟩:ByteArray)=SI at ej kz;generalize((X.val m.ks k ls[i].1.b).take b.length)=vt at Oz gD jQ om kO;clear oU hi zr;go_wp2_with fail;refine kz.out.mono ?_;rintro e w5 ⟨rfl,hb⟩;have ed:=ae hb;clear hb kz ej;have rZ:=ae (QB (x:=vt) (y:=b) (r:=r));have se:=ae (MX (x:=vt) (y:=b) JK.out);rw[←gD.out,←jQ.out,←Oz.out]at rZ;rw[←jQ.out,←om.out,←kO.out,←Oz.out]at se;clear gD jQ om kO Oz;generalize rY m k r b ls[i].1=sb at II rZ se;generalize decide (r=3∨r=4)=rb at II rZ se;cases sb with
   |false=>
    cases rb with
    |false=>
     go_upto_region 13 with fail;refine uZ sk.out JK.out false (by rw[rZ.out];rfl) _ _ _ _ _ _ _ _ _ _ _ _ _ _ _ _ _ _ _ _ _ _ _ _ _ _ _ _ _ _ _ _ _ _ _ _ _ _ _ _ _ _ _ _ _ _ _ _ _ _ _ _ _ _ _ _ _ _ _ _ _ _ _ _ _ _ _ _ _ _ _ _ _ _ _ _ _ _ _ _ _ _ _ _ _ _ _ _ _ _ _ _ _ _ _ _ _ _ _ _ _ _ _ _ _ _ _ _ _ _ _ _ _ _ _ _ _ _ _ _ _ _ _ _ _ _ _ _ _ _ _ _ _ _ _ _ _ _ _ _ _ _ _ _ _ _ _ _ _ _ _ _ _ _ ?_;intro d73 d74 d75 d76 d77 d78 d79 d80 d81 d82 d83 d84 d85 d86 d87 d88;go_upto_region 14 with fail;refine vd sk.out JK.out false (by rw[se.out];rfl) _ _ _ _ _ _ _ _ _ _ _ _ _ _ _ _ _ _ _ _ _ _ _ _ _ _ _ _ _ _ _ _ _ _ _ _ _ _ _ _ _ _ _ _ _ _ _ _ _ _ _ _ _ _ _ _ _ _ _ _ _ _ _ _ _ _ _ _ _ _ _ _ _ _ _ _ _ _ _ _ _ _ _ _ _ _ _ _ _ _ _ _ _ _ _ _ _ _ _ _ _ _ _ _ _ _ _ _ _ _ _ _ _ _ _ _ _ _ _ _ _ _ _ _ _ _ _ _ _ _ _ _ _ _ _ _ _ _ _ _ _ _ _ _ _ _ _ _ _ _ _ _ _ _ ?_;intro d89 d90 d91 d92 d93 d94 d95 d96 d97 d98 d99 d100 d101 d102 d103 d104 d105 d106 d107 d108 d109 d110 d111 d112 d113;clear sk rZ se;go_wp2;go_roundw
     case rel=>exact⟨i+1,aW.out,by first|exact fo i nh.out|rfl,z,rfl,II,ae (fF.out.trans (ed.out.mono fF.out.size))⟩
     case measure=>first|exact dT aW.out nh.out|exact dr aW.out
    |true=>
     go_upto_region 13 with fail;refine uZ sk.out JK.out false (by rw[rZ.out];rfl) _ _ _ _ _ _ _ _ _ _ _ _ _ _ _ _ _ _ _ _ _ _ _ _ _ _ _ _ _ _ _ _ _ _ _ _ _ _ _ _ _ _ _ _ _ _ _ _ _ _ _ _ _ _ _ _ _ _ _ _ _ _ _ _ _ _ _ _ _ _ _ _ _ _ _ _ _ _ _ _ _ _ _ _ _ _ _ _ _ _ _ _ _ _ _ _ _ _ _ _ _ _ _ _ _ _ _ _ _ _ _ _ _ _ _ _ _ _ _ _ _ _ _ _ _ _ _ _ _ _ _ _ _ _ _ _ _ _ _ _ _ _ _ _ _ _ _ _ _ _ _ _ _ _ ?_;intro d73 d74 d75 d76 d77 d78 d79 d80 d81 d82 d83 d84 d85 d86 d87 d88;go_upto_region 14 with fail;refine vd sk.out JK.out false (by rw[se.out];rfl) _ _ _ _ _ _ _ _ _ _ _ _ _ _ _ _ _ _ _ _ _ _ _ _ _ _ _ _ _ _ _ _ _ _ _ _ _ _ _ _ _ _ _ _ _ _ _ _ _ _ _ _ _ _ _ _ _ _ _ _ _ _ _ _ _ _ _ _ _ _ _ _ _ _ _ _ _ _ _ _ _ _ _ _ _ _ _ _ _ _ _ _ _ _ _ _ _ _ _ _ _ _ _ _ _ _ _ _ _ _ _ _ _ _ _ _ _ _ _ _ _ _ _ _ _ _ _ _ _ _ _ _ _ _ _ _ _ _ _ _ _ _ _ _ _ _ _ _ _ _ _ _ _ _ ?_;intro d89 d90 d91 d92 d93 d94 d95 d96 d97 d98 d99 d100 d101 d102 d103 d104 d105 d106 d107 d108 d109 d110 d111 d112 d113;clear sk rZ se;go_wp2;go_roundw
     case rel=>exact⟨i+1,aW.out,by first|exact fo i nh.out|rfl,z,rfl,II,ae (fF.out.trans (ed.out.mono fF.out.size))⟩
     case measure=>first|exact dT aW.out nh.out|exact dr aW.out
   |true=>
    cases rb with
    |true=>
     go_upto_region 13 with fail;refine uZ sk.out JK.out true (by rw[rZ.out];rfl) _ _ _ _ _ _ _ _ _ _ _ _ _ _ _ _ _ _ _ _ _ _ _ _ _ _ _ _ _ _ _ _ _ _ _ _ _ _ _ _ _ _ _ _ _ _ _ _ _ _ _ _ _ _ _ _ _ _ _ _ _ _ _ _ _ _ _ _ _ _ _ _ _ _ _ _ _ _ _ _ _ _ _ _ _ _ _ _ _ _ _ _ _ _ _ _ _ _ _ _ _ _ _ _ _ _ _ _ _ _ _ _ _ _ _ _ _ _ _ _ _ _ _ _ _ _ _ _ _ _ _ _ _ _ _ _ _ _ _ _ _ _ _ _ _ _ _ _ _ _ _ _ _ _ ?_;intro d73 d74 d75 d76 d77 d78 d79 d80 d81 d82 d83 d84 d85 d86 d87 d88;go_upto_region 14 with fail;refine vd sk.out JK.out false (by rw[se.out];rfl) _ _ _ _ _ _ _ _ _ _ _ _ _ _ _ _ _ _ _ _ _ _ _ _ _ _ _ _ _ _ _ _ _ _ _ _ _ _ _ _ _ _ _ _ _ _ _ _ _ _ _ _ _ _ _ _ _ _ _ _ _ _ _ _ _ _ _ _ _ _ _ _ _ _ _ _ _ _ _ _ _ _ _ _ _ _ _ _ _ _ _ _ _ _ _ _ _ _ _ _ _ _ _ _ _ _ _ _ _ _ _ _ _ _ _ _ _ _ _ _ _ _ _ _ _ _ _ _ _ _ _ _ _ _ _ _ _ _ _ _ _ _ _ _ _ _ _ _ _ _ _ _ _ _ ?_;intro d89 d90 d91 d92 d93 d94 d95 d96 d97 d98 d99 d100 d101 d102 d103 d104 d105 d106 d107 d108 d109 d110 d111 d112 d113;clear sk rZ se;go_wp2;go_roundw
     case rel=>exact⟨i+1,aW.out,by first|exact fo i nh.out|rfl,(i:Int),rfl,II,ae (fF.out.trans (ed.out.mono fF.out.size))⟩
     case measure=>first|exact dT aW.out nh.out|exact dr aW.out
    |false=>
     by_cases hz:z<0
     ·have UK:Hid (Wk m k r b ls (i+1) (i:Int)):=ae (by
       have:=II.out;rw[if_pos (by simp[hz])]at this;exact this)
      go_upto_region 13 with fail;refine uZ sk.out JK.out false (by rw[rZ.out];rfl) _ _ _ _ _ _ _ _ _ _ _ _ _ _ _ _ _ _ _ _ _ _ _ _ _ _ _ _ _ _ _ _ _ _ _ _ _ _ _ _ _ _ _ _ _ _ _ _ _ _ _ _ _ _ _ _ _ _ _ _ _ _ _ _ _ _ _ _ _ _ _ _ _ _ _ _ _ _ _ _ _ _ _ _ _ _ _ _ _ _ _ _ _ _ _ _ _ _ _ _ _ _ _ _ _ _ _ _ _ _ _ _ _ _ _ _ _ _ _ _ _ _ _ _ _ _ _ _ _ _ _ _ _ _ _ _ _ _ _ _ _ _ _ _ _ _ _ _ _ _ _ _ _ _ ?_;intro d73 d74 d75 d76 d77 d78 d79 d80 d81 d82 d83 d84 d85 d86 d87 d88;go_upto_region 14 with fail;refine vd sk.out JK.out true (by rw[se.out];rfl) _ _ _ _ _ _ _ _ _ _ _ _ _ _ _ _ _ _ _ _ _ _ _ _ _ _ _ _ _ _ _ _ _ _ _ _ _ _ _ _ _ _ _ _ _ _ _ _ _ _ _ _ _ _ _ _ _ _ _ _ _ _ _ _ _ _ _ _ _ _ _ _ _ _ _ _ _ _ _ _ _ _ _ _ _ _ _ _ _ _ _ _ _ _ _ _ _ _ _ _ _ _ _ _ _ _ _ _ _ _ _ _ _ _ _ _ _ _ _ _ _ _ _ _ _ _ _ _ _ _ _ _ _ _ _ _ _ _ _ _ _ _ _ _ _ _ _ _ _ _ _ _ _ _ ?_;intro d89 d90 d91 d92 d93 d94 d95 d96 d97 d98 d99 d100 d101 d102 d103 d104 d105 d106 d107 d108 d109 d110 d111 d112 d113;clear sk rZ se;go_wp2;go_roundw
      case rel=>exact⟨i+1,aW.out,by first|exact fo i nh.out|rfl,(i:Int),rfl,UK,ae (fF.out.trans (ed.out.mono fF.out.size))⟩
      case measure=>first|exact dT aW.out nh.out|exact dr aW.out
     ·have UK:Hid (Wk m k r b ls (i+1) z):=ae (by
       have:=II.out;rw[if_neg (by simp[hz])]at this;exact this)
      go_upto_region 13 with fail;refine uZ sk.out JK.out false (by rw[rZ.out];rfl) _ _ _ _ _ _ _ _ _ _ _ _ _ _ _ _ _ _ _ _ _ _ _ _ _ _ _ _ _ _ _ _ _ _ _ _ _ _ _ _ _ _ _ _ _ _ _ _ _ _ _ _ _ _ _ _ _ _ _ _ _ _ _ _ _ _ _ _ _ _ _ _ _ _ _ _ _ _ _ _ _ _ _ _ _ _ _ _ _ _ _ _ _ _ _ _ _ _ _ _ _ _ _ _ _ _ _ _ _ _ _ _ _ _ _ _ _ _ _ _ _ _ _ _ _ _ _ _ _ _ _ _ _ _ _ _ _ _ _ _ _ _ _ _ _ _ _ _ _ _ _ _ _ _ ?_;intro d73 d74 d75 d76 d77 d78 d79 d80 d81 d82 d83 d84 d85 d86 d87 d88;go_upto_region 14 with fail;refine vd sk.out JK.out true (by rw[se.out];rfl) _ _ _ _ _ _ _ _ _ _ _ _ _ _ _ _ _ _ _ _ _ _ _ _ _ _ _ _ _ _ _ _ _ _ _ _ _ _ _ _ _ _ _ _ _ _ _ _ _ _ _ _ _ _ _ _ _ _ _ _ _ _ _ _ _ _ _ _ _ _ _ _ _ _ _ _ _ _ _ _ _ _ _ _ _ _ _ _ _ _ _ _ _ _ _ _ _ _ _ _ _ _ _ _ _ _ _ _ _ _ _ _ _ _ _ _ _ _ _ _ _ _ _ _ _ _ _ _ _ _ _ _ _ _ _ _ _ _ _ _ _ _ _ _ _ _ _ _ _ _ _ _ _ _ ?_;intro d89 d90 d91 d92 d93 d94 d95 d96 d97 d98 d99 d100 d101 d102 d103 d104 d105 d106 d107 d108 d109 d110 d111 d112 d113;clear sk rZ se;go_wp2;go_roundw
      case rel=>exact⟨i+1,aW.out,by first|exact fo i nh.out|rfl,z,rfl,UK,ae (fF.out.trans (ed.out.mono fF.out.size))⟩
      case measure=>first|exact dT aW.out nh.out|exact dr aW.out
  ·obtain rfl:i=ls.length:=(by omega);have hpl:=TV.out z HSF.out;have bV:=fF;clear hi HSF;rcases hpl with⟨rfl,hpn⟩|⟨j,hj,rfl,ZV⟩
   ·have WG:=ae hpn;clear hpn;go_wp2;go_ret;unfold StQ;rw[acA.out WG.out];exact⟨rfl,H4.out.below bV.out⟩
   ·have HPS:=ae ZV;obtain⟨g0,c0,e0,hx1,hx2⟩:=Bz.out.cells hj;clear hx1 hx2;injection e0 with e0 e1 e2;subst e0 e2;have lf:(j:Int)<(ls.length:Nat):=(by omega);have hjz:¬(j:Int)<0:=(by omega);have Ys:=ae (⟨World.grownBy.refl wr (some q),(H4.out.below bV.out).2,Bz.out.below bV.out⟩:kh wr q g c M (lz m) v l (.slice (some ⟨g0,0,none⟩) ls.length cs) ls wr);have jO:=xm.out.ts _ (List.getElem_mem hj);obtain⟨gt,ct2,zt,Jz⟩:=(Bz.out.tm _ (List.getElem_mem hj)).cell (i:=k) (by rw[jO];exact fc.out);have TX:(k:Int)<(ls[j].1.ts.length:Nat):=(by rw[jO];exact h3);have nb:=ae (λ(mm:X.M) (W:World) (hS:kh wr q g c M mm v l (.slice (some ⟨g0,0,none⟩) ls.length cs) ls W)=>(⟨(hS.cells hj).1,by rw[(hS.cells hj).2,zt],hS.tm (List.getElem_mem hj) zt (i:=k) (by rw[jO];exact fc.out)⟩:W.cell? ⟨g0,j*2,none⟩=some (.string ⟨ls[j].1.b.toArray⟩)∧W.cell? ⟨g0,j*2+1,none⟩=some (.slice (some ⟨gt,0,none⟩) ls[j].1.ts.length ct2)∧W.cell? ⟨gt,k,none⟩=some (pT (ls[j].1.t k))));have kz:=ae (λ(mm:X.M) (W:World) (em:mm.ks=m.ks) (hS:kh wr q g c M mm v l (.slice (some ⟨g0,0,none⟩) ls.length cs) ls W)=>kh.part (m:=m) hS em xm.out fc.out (List.getElem_mem hj));have hz0:=aC Ys.out.md.row;have hc0:=aj wr q Ys.out.md.row;have HT1:=ae (Ys.out.set (m':={lz m with lost:=false}) 9 (.bool false) (aB Ys.out.md.row 9 _) rfl rfl);have HT2:=ae (HT1.out.set (m':={lz m with lost:=false,key:=k}) 8 (.int .i64 (k:Nat)) (aB HT1.out.md.row 8 _) rfl rfl);generalize hxe:ls[j]=x at nb kz HPS jO TX zt ZV;clear Jz;clear jO zt ZV;go_upto_region 21 with fail;refine aM (λY=>kh wr q g c M {lz m with lost:=false,key:=k} v l (.slice (some ⟨g0,0,none⟩) ls.length cs) ls Y) HT2.out ?_;rintro W5 Pm;have H5:=ae Pm;clear Pm Ys HT1 HT2 hz0 hc0;obtain⟨k0,k1,k3⟩:=nb.out _ _ H5.out;go_wp2_with fail;refine(kz.out {lz m with lost:=false,key:=k} _ rfl H5.out).mono ?_;rintro e w6 ⟨rfl,hb⟩;have H6:=ae (H5.out.below hb);clear hb H5 k0 k1 k3;have hz6:=aC H6.out.md.row;have WM:=aj w6 q H6.out.md.row;have H7:=ae (H6.out.set (m':={lz m with lost:=false,key:=k,value:=X.val m.ks k x.1.b}) 10 (.string ⟨(X.val m.ks k x.1.b).toArray⟩) (aB H6.out.md.row 10 _) rfl rfl);go_upto_region 22 with fail;refine aM (λY=>kh wr q g c M {lz m with lost:=false,key:=k,value:=X.val m.ks k x.1.b} v l (.slice (some ⟨g0,0,none⟩) ls.length cs) ls Y) H7.out ?_;rintro W7 hS7;have H8:=ae hS7;clear hS7 H6 H7 hz6 WM;obtain⟨k0,k1,k3⟩:=nb.out _ _ H8.out;have ZX:=aC H8.out.md.row;have hc8:=aj W7 q H8.out.md.row;have H9:=ae (H8.out.set (m':={lz m with lost:=false,key:=k,value:=X.val m.ks k x.1.b,at_:=x.1.t k}) 11 (.int .i64 (x.1.t k:Nat)) (aB H8.out.md.row 11 _) rfl rfl);have H10:=ae (H9.out.set (m':={lz m with lost:=false,key:=k,value:=X.val m.ks k x.1.b,at_:=x.1.t k,same:=true}) 12 (.bool true) (aB H9.out.md.row 12 _) rfl rfl);go_wp2;go_ret;unfold StQ;rw[acz.out _ HPS.out];exact⟨rfl,(H4.out.below bV.out).trans ⟨H10.out.gr,H10.out.md⟩⟩
theorem Ev (h:ft w q g c M m v l) (hM:∀k,M k→k<w.heap.size) (hf:cj m l) (k:Int) (r:Nat) (hr:r≤5) (b:J.B):
  Calls Tryz.prog 71 #[.pointer (some ⟨q,0,none⟩), .int .i64 k, .int .u8 (r:Nat), .string ⟨b.toArray⟩] w λe w'=>e= .returned (.string ⟨(m.start k r b).2.toArray⟩)∧HR w q g c M (m.start k r b).1 v l w':=by
 by_cases hc:X.bM [52,55] [1,3] m.mode=X.good
 ·by_cases hk:k<0∨m.ks.length≤k∨b.length=0∨(X.aF m.ks k.toNat).len<b.length
  ·exact Eu h k r b hc hk
  ·obtain⟨n,rfl⟩:∃n:Nat,k=n:=⟨k.toNat,by omega⟩;rw[Int.toNat_natCast]at hk;exact IH h hM hf n r hr b hc (by omega) (λe=>by rw[e]at hk;simp at hk) (by omega)
 ·exact Et h k r b hc
end
end Go.Proofs.YtipljcmmokaokaaGreat
