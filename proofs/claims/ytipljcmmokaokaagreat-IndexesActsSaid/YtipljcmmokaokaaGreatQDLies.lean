import Derived.Test.YtipljcmmokaokaaGreatQDAll
import Derived.Test.YtipljcmmokaokaaGreatQM23
set_option linter.unusedVariables false
set_option linter.unusedSimpArgs false
set_option maxHeartbeats 4000000
namespace Go.Proofs.YtipljcmmokaokaaGreat
open Go.RowKit Go.Lib Go.Maps Go.WideMaps Go.Sort
set_option maxRecDepth 100000
theorem VE (j:Nat) (h:j≤1000):Value.int .i64 (wrap64 ((j:Int) - 1+1))= .int .i64 (((j+1:Nat):Int) - 1):=by rw[IntWalk.wrap64_in _ (by omega)];congr 1;omega
theorem Ry {j n:Nat} (h:j<n) (hj:j≤1000):n - (intOf (Value.int .i64 (wrap64 ((j:Int) - 1+1)))+1).toNat<n - (intOf (Value.int .i64 ((j:Int) - 1))+1).toNat:=by
 rw[IntWalk.wrap64_in _ (by omega)];simp only[intOf];omega
structure LiM (w:World) (q o g c:Nat) (there:Bool) (ks:List X.Ky) (rows:List X.Row):Prop where
 th:w.cell? ⟨q,o+3,none⟩=some (.bool there)
 kss:w.cell? ⟨q,o+2,none⟩=some (.slice (some ⟨g,0,none⟩) ks.length c)
 ql:q<w.heap.size
 so:there=true→∀W,Below w.heap.size w W→∀i,i<ks.length→Calls Tryz.prog 18 #[.pointer (some ⟨q,o,none⟩), .int .i64 (i:Nat)] W λe w'=>∃v' lp,e= .returned v'∧Below W.heap.size W w'∧mP w' bF v' lp∧lp.map (·.1)=X.bQ ks i rows
section
variable {w0 : World} {p size ct q o g c : Nat} {nm : J.B} {ks : List X.Ky} {rows : List X.Row} {w w' : World} {s : J.St} {fs : List (Nat × Obj)}
theorem Jf (h:At w0 p fs s w) (hl:J.look s.now (X.own [102])=none) (hm:LiM w q o g c false ks rows):
  Calls Tryz.prog 24 #[.pointer (some ⟨p,0,none⟩), .pointer (some ⟨q,o,none⟩)] w λe w'=>e= .returned (.bool true)∧Below w.heap.size w w':=by
 have HA:=ae (Ce (nm:=[102]) h (by decide) hl);have HQ:=ae (λW (hb:Below w.heap.size w W)=>(hb.cell (p:=⟨q,o+3,none⟩) hm.ql).trans hm.th);clear h hl hm;go_enter Tryz.func24,Tryz.ntmps24;go_wp2_with fail;refine HA.out.mono ?_;rintro e w1 ⟨rfl,hb1⟩;have hq:=HQ.out _ hb1;have bV:=ae hb1;clear hb1 HA;go_wp2;go_ret;exact⟨rfl,bV.out⟩
theorem Rz (h:At w0 p fs s w) (hX:XF [102] size ks rows ct s.now) (hm:LiM w q o g c true ks rows) (hk3:ks.length≤8):
  Calls Tryz.prog 24 #[.pointer (some ⟨p,0,none⟩), .pointer (some ⟨q,o,none⟩)] w λe w'=>e= .returned (.bool true)∧Below w.heap.size w w':=by
 have hn:yV ([102]:J.B):=⟨by decide,by decide,by decide⟩;have Sm:=ae (oK h hn hX);have AD:=ae (λW (hb:Below w.heap.size w W) (k:Int) (hk:k<0∨(ks.length:Int)≤k)=>NX (h.below hb) hn hX k hk);have Ss:=ae (λW (hb:Below w.heap.size w W) (k:Nat) (hk:k<ks.length)=>Rx (h.below hb) hn hX k hk);have HQ:=ae (λW (hb:Below w.heap.size w W)=>(And.intro ((hb.cell (p:=⟨q,o+3,none⟩) hm.ql).trans hm.th) ((hb.cell (p:=⟨q,o+2,none⟩) hm.ql).trans hm.kss)));have sN:=ae (λW (hb:Below w.heap.size w W) (k:Nat) (hk:k<ks.length)=>hm.so rfl W hb k hk);have Pg:=ae (λk=>X.qc ks k rows);have UO:=ae hk3;have SQ:rows.length≤100000:=by
  have Fs:=hX.con.count hX.rows (by have:=hX.ct;omega) hX.ks.one.1 (by have:=hX.ks.one;omega);have:=hX.many;have:=Nat.le_mul_of_pos_left rows.length (show 0<ks.length from hX.ks.one.1);omega
 have eb:=ae SQ;clear h hX hm hn hk3 SQ;go_enter Tryz.func24,Tryz.ntmps24;go_wp2_with fail;refine Sm.out.mono ?_;rintro e w1 ⟨rfl,hb1⟩;obtain⟨Kh,OG⟩:=HQ.out _ hb1;have bV:=ae hb1;clear hb1 Sm;go_wp2;go_loopw [6] (fun u W=>∃j:Nat,j≤ks.length+2∧u= .int .i64 ((j:Int) - 1)∧Hid (Below w.heap.size w W)) (fun u _=>ks.length+2 - (intOf u+1).toNat)
 case atStart=>exact⟨0,Nat.zero_le _,rfl,bV⟩
 case round=>
  clear Kh OG bV;obtain⟨j,hj,rfl,HI⟩:=hrel;obtain⟨Kh,OG⟩:=HQ.out _ HI.out;have hj3:j≤1000:=(by have:=UO.out;omega);by_cases hlt:j<ks.length+2
  ·have hle:(j:Int) - 1≤(ks.length:Nat):=(by omega);have aW:=ae hlt;have VO:=ae hj3;by_cases cd:1≤j∧j≤ks.length
   ·obtain⟨i,rfl⟩:∃i:Nat,j=i+1:=⟨j - 1,by omega⟩;have hik:i<ks.length:=(by omega);have lf:((i+1:Nat):Int) - 1=(i:Nat):=(by omega);have HJI:=ae lf;rw[lf]at hle⊢;have h0:¬(i:Int)<0:=(by omega);have hne:((i:Int)==(ks.length:Nat))=false:=beq_eq_false_iff_ne.2 (by omega);have fE:=ae (Ss.out wr HI.out i hik);have HLI:=ae (Pg.out i);have HSI:=ae (λW hb=>sN.out W hb i hik);clear hlt cd lf hj hj3;go_wp2_with fail;refine fE.out.mono ?_;rintro e w2 ⟨A,rfl,hat,hb2⟩;have pV:=ae hat;have br:=ae (HI.out.trans (hb2.mono HI.out.size));obtain⟨hq3,hq4⟩:=HQ.out _ br.out;clear hat hb2 fE Kh OG HI;go_wp2_with fail;refine(HSI.out _ br.out).mono ?_;rintro e w3 ⟨v',lp,rfl,hb3,MD,Cz⟩;obtain⟨Ar,cr,rfl,hlc,TK,_,_⟩:=MD.cP;have hlen:lp.length=rows.length:=(by rw[←HLI.out,←Cz,List.length_map]);have HAR:=ae TK;have SL:=ae Cz;have HLEN:=ae hlen;have Zj:=ae (pV.out.below hb3);have cX:=ae (br.out.trans (hb3.mono br.out.size));rw[hlen];have PE:(((rows.length:Nat):Int) !=(rows.length:Nat))=false:=(by simp);clear hb3 MD hlc TK Cz hlen HSI br hq3 hq4 pV;go_wp2;go_loopw [10] (fun u W=>∃k:Nat,k≤rows.length∧u= .int .i64 k∧Hid (Below w3.heap.size w3 W)) (fun u _=>rows.length - (intOf u).toNat)
    case atStart=>exact⟨0,Nat.zero_le _,rfl,ae (ak _ _)⟩
    case round=>
     obtain⟨k,hk,rfl,HK⟩:=hrel;by_cases dV:k<rows.length
     ·have Zk:k<lp.length:=(by rw[HLEN.out];exact dV);have hs1:k<((X.bQ ks i rows).map (·.b)).length:=(by rw[List.length_map,HLI.out];exact dV);obtain⟨ga,va,rfl,Ns,hca,hsa⟩:=Zj.out k hs1;have vV:((X.bQ ks i rows).map (·.b))[k]=lp[k].1.b:=(by rw[List.getElem_map,List.getElem_of_eq SL.out.symm,List.getElem_map]);rw[vV]at hsa;obtain⟨gr,rfl,hgr,hcr⟩:=HAR.out (by omega);obtain⟨c0,c1⟩:=kf lp k Zk;have Hv:=hcr _ _ c0;generalize lp[k].1.b=B at hsa Hv;obtain⟨Ab,cb,rfl,_,hby⟩:=hsa.by
      have Hv:w3.cell? ⟨gr,k*2,none⟩=some (.string ⟨B.toArray⟩):=Hv;have lg:(k:Int)<(rows.length:Nat):=(by omega);have HCA:=ae (λ(w':World) (hS:Below w3.heap.size w3 w')=>And.intro ((hS.cell (p:=⟨ga,k,none⟩) Ns).trans hca) ((hS.cell (p:=⟨gr,k*2,none⟩) hgr).trans Hv));have lY:=ae hby
      have fc:=ae dV;have UO:=ae (show k≤1000000 by have:=eb.out;omega);have HKD:=ae HK.out.drew;clear c1 vV hs1 Zk Ns hca hsa hgr hcr c0 Hv hby dV hk;go_upto_region 19 with fail;refine aK (.rd 0 (.rd 1 (.rd 2 (.rd 3 (.rd 4 (.rd 5 (.rd 6 (.rd 7 (.rd 8 (.rd 9 (.rd 10 .fin))))))))))) (λw'=>Below w3.heap.size w3 w') (by kernel_rfl) (by kernel_rfl) (λc a d v w h=>by cases d<;>exact h) HKD.out ?_;repeat
       refine az (v:= ?_) (by rfl) (by rfl) (λw' hS=> ?_) (λK hK=> ?_);rotate_left
       ·obtain⟨d1,d2⟩:=HCA.out w' hS;have hcv:=bu (c:=cb) (lY.out.below hS);clear hS;go_simp;try with_reducible rfl
       go_simp;refine hK _ ?_;clear hK K
      show wpList _ _ _ _ _ _;clear HCA lY HK;go_wp2_with fail;go_roundw
      case rel=>exact⟨k+1,fc.out,by first|exact yY k UO.out|rfl,HKD⟩
      case measure=>first|exact tN fc.out UO.out|exact qU fc.out
     ·obtain rfl:k=rows.length:=(by omega);have JL:=ae (cX.out.trans (HK.out.mono cX.out.size));have HW:Hid (Value.int .i64 (wrap64 ((i:Int)+1))= .int .i64 (((i+1+1:Nat):Int) - 1)):=ae (by have:=VO.out;rw[IntWalk.wrap64_in _ (by omega)];congr 1;omega);have ME:Hid (ks.length+2 - (intOf (Value.int .i64 (wrap64 ((i:Int)+1)))+1).toNat<ks.length+2 - (intOf (Value.int .i64 (i:Int))+1).toNat):=ae (by have:=VO.out;have:=aW.out;rw[IntWalk.wrap64_in _ (by omega)];simp only[intOf];omega);clear hk dV HK Zj HAR SL;go_wp2;go_roundw
      case rel=>exact⟨i+1+1,by have:=aW.out;omega,by first|exact HW.out|rfl|(congr 1;omega),JL⟩
      case measure=>first|exact ME.out|(have:=aW.out;simp only[intOf];omega)
   ·have bC:(j:Int) - 1<0∨(ks.length:Int)≤(j:Int) - 1:=(by omega);have Im:=ae (AD.out wr HI.out _ bC);have HW:=ae (VE j VO.out);have ME:=ae (Ry hlt VO.out);clear hlt cd hj;rcases bC with ahp|vE
    ·go_wp2_with fail;refine Im.out.mono ?_;rintro e w2 ⟨rfl,hb2⟩;have br:=ae (HI.out.trans (hb2.mono HI.out.size));obtain⟨hq3,hq4⟩:=HQ.out _ br.out;clear hb2 Im Kh OG HI;go_wp2;go_roundw
     case rel=>exact⟨j+1,aW.out,by first|exact HW.out|rfl|(congr 1;omega),br⟩
     case measure=>first|exact ME.out|(have:=aW.out;simp only[intOf];omega)
    ·have h0:¬(j:Int) - 1<0:=(by omega);have heq:(((j:Int) - 1)==((ks.length:Nat):Int))=true:=(by simp;omega);go_wp2_with fail;refine Im.out.mono ?_;rintro e w2 ⟨rfl,hb2⟩;have br:=ae (HI.out.trans (hb2.mono HI.out.size));obtain⟨hq3,hq4⟩:=HQ.out _ br.out;clear hb2 Im Kh OG HI;go_wp2;go_roundw
     case rel=>exact⟨j+1,aW.out,by first|exact HW.out|rfl|(congr 1;omega),br⟩
     case measure=>first|exact ME.out|(have:=aW.out;simp only[intOf];omega)
  ·have XC:¬(j:Int) - 1≤(ks.length:Nat):=(by omega);have HE:=HI;clear hlt;go_wp2;go_ret;exact⟨rfl,HE.out⟩
end
end Go.Proofs.YtipljcmmokaokaaGreat
