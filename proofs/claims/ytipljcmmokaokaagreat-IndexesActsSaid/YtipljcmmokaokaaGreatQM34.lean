import Derived.Test.YtipljcmmokaokaaGreatQM33
set_option linter.unusedVariables false
set_option linter.unusedSimpArgs false
set_option maxHeartbeats 8000000
namespace Go.Proofs.YtipljcmmokaokaaGreat
open Go.RowKit Go.Lib Go.Maps Go.WideMaps Go.Sort
set_option maxRecDepth 100000
theorem Tryz.Ng:(Tryz.prog.info? 66).map (λi=>(i.zero,i.size,i.bytes))=some (some (.agg #[.int .i64 0, .int .i64 0, .bool false]),3,24):=by kernel_rfl
def FX (n:Nat) (a l:Nat→Int) (d:Nat→Bool):List X.Ky:=(List.range n).map λi=>⟨(a i).toNat,(l i).toNat,d i⟩
theorem mY (n:Nat) (a l:Nat→Int) (d:Nat→Bool):(FX n a l d).length=n:=by simp[FX]
theorem yT {n:Nat} {a l:Nat→Int} {d:Nat→Bool} {i:Nat} (hi:i<n):X.aF (FX n a l d) i=⟨(a i).toNat,(l i).toNat,d i⟩:=by
 unfold X.aF FX;rw[List.getD_eq_getElem?_getD,List.getElem?_map,List.getElem?_range hi];rfl
theorem Nh {w:World} {g o n:Nat} {a l:Nat→Int} {d:Nat→Bool} (hz:sV w g o n a l d) (h0:∀i,i<n→0≤a i∧0≤l i):∀j u,(cG (FX n a l d))[j]? =some u→w.cell? ⟨g,o+j,none⟩=some u:=by
 intro j u hu;have hj:j<n*3:=by
  have:=(List.getElem?_eq_some_iff.1 hu).1
  rwa [nX,mY]at this
 obtain⟨i,hi,e⟩:∃i,i<n∧(j=i*3∨j=i*3+1∨j=i*3+2):=⟨j/3,by omega,by omega⟩;obtain⟨g1,g2,g3⟩:=gl (FX n a l d) i (by rw[mY];exact hi);obtain⟨p1,p2⟩:=h0 i hi;rw[yT hi]at g1 g2 g3;rcases e with rfl|rfl|rfl
 ·rw[g1]at hu;rw[←hu,hz.a i hi];simp only[Int.toNat_of_nonneg p1]
 ·rw[g2]at hu;rw[←hu,←Nat.add_assoc,hz.l i hi];simp only[Int.toNat_of_nonneg p2]
 ·rw[g3]at hu;rw[←hu,←Nat.add_assoc,hz.d i hi]
theorem BQ {nm:J.B} {z:Int} {n:Nat} {a l:Nat→Int} {d:Nat→Bool} (h:nY nm z n a l d=true):X.eo (FX n a l d) z.toNat∧nm≠[]∧nm.length≤100∧(1≤z∧z≤4096)∧(1≤n∧n≤8)∧∀i,i<n→0≤a i∧0≤l i:=by
 unfold nY at h;simp only[Bool.and_eq_true,Bool.not_eq_true',Bool.or_eq_false_iff,decide_eq_false_iff_not,List.any_eq_false,List.mem_range]at h;obtain⟨⟨⟨⟨⟨⟨⟨⟨h1,h2⟩,h3⟩,h4⟩,h5⟩,h6⟩,h7⟩,h8⟩,h9⟩:=h;have hk:∀i,i<n→0≤a i∧1≤l i∧l i≤160∧a i≤z - l i:=λi hi=>by
  have:=h9 i hi;unfold rH at this;simp only[Bool.or_eq_true,decide_eq_true_eq]at this;omega
 refine⟨⟨by rw[mY];omega,λk Qh=> ?_,by omega, ?_⟩,h1,by omega,by omega,by omega,λi hi=>by have:=hk i hi;omega⟩
 ·unfold FX at Qh;obtain⟨i,hi,rfl⟩:=List.mem_map.1 Qh;have:=hk i (List.mem_range.1 hi);dsimp only;omega
 ·rw[yT (by omega)];exact h8
section
variable {w0 : World} {p : Nat} {w : World} {s : J.St} {fs : List (Nat × Obj)}
theorem Ni (g0 o n c:Nat) (ks:List X.Ky) (hn:ks.length=n) (h1:1≤n∧n≤8) (hg:g0<w.heap.size) (hc:∀j u,(cG ks)[j]? =some u→w.cell? ⟨g0,o+j,none⟩=some u):
  Calls Tryz.prog 38 #[.slice (some ⟨g0,o,none⟩) n c] w λe w'=>∃g c',e= .returned (.slice (some ⟨g,0,none⟩) n c')∧Below w.heap.size w w'∧w.heap.size≤g∧n≤c'∧∃ok,w'.heap[g]? =some ok∧bJ ok ks:=by
 have hi:=Tryz.Ng;obtain⟨i0,hi,hz⟩:∃i0,Tryz.prog.info? 66=some i0∧(i0.zero,i0.size,i0.bytes)=(some (.agg #[.int .i64 0, .int .i64 0, .bool false]),3,24):=by
  cases h:Tryz.prog.info? 66 with
  |none=>rw[h]at hi;cases hi
  |some i=>rw[h]at hi;exact⟨i,rfl,by simpa using hi⟩
 obtain⟨hz0,hz1,hz2⟩:i0.zero=some (.agg #[.int .i64 0, .int .i64 0, .bool false])∧i0.size=3∧i0.bytes=24:=by simpa using hz
 have HO:=ae (World.ownsRow_lit (base:=w.heap.size) (e:=66) (size:=3) w #[] 0 (aq _) (by unfold maxLen;omega) rfl);have hb0:Below w.heap.size w (w.alloc (.cells #[] 66)):=(ak _ w).alloc (aq _) _;have Ag:=ae (λj u (hu:(cG ks)[j]? =some u)=>(hb0.cell (p:=⟨g0,o+j,none⟩) hg).trans (hc j u hu));have cn:=ae hb0;have HL:=ae (show(cG ks).length=n*3 by rw[nX,hn]);have hq:=λw=>run_eql_slice_nil (P:=Tryz.prog) w 27 66 (some ⟨g0,o,none⟩) n c Tryz.underlying27;clear hc hb0 hz;go_enter Tryz.func38,Tryz.ntmps38;go_wp2_with (at_builtin;refine wpList_append_own_at _ rfl _ _ 27 rfl w.heap.size 66 i0 _ 3 24 Tryz.underlying27 hi hz0 hz1 hz2 rfl (by decide) _ 0 [] rfl HO.out ⟨g0,o,none⟩ n c (cG ks) rfl HL.out (λj u hu=>by rw[gM];exact Ag.out j u hu) (AG _) (by unfold maxLen;omega) (by omega) (by simp) ?_);intro v' w1 hown hg3 hnil hloc;have hb:=cn.out.grown hg3 cn.out.size (λk e=>(HO.out.lt k e).1);rcases hown.2 with⟨_,h0⟩|⟨g,cap,cur,rfl,hbg,hgr,Ox,_,hcs,xp⟩
 ·omega
 ·have HB:=ae hb;have HK:Hid (bJ (.cells cur 66 (0,0)) ks):=ae ⟨⟨cur,(0,0),rfl⟩,λW g' hr=>⟨(ai hr).1,λj u hu=>by
   have Qd:j<n*3:=(by rw[←HL.out];exact(List.getElem?_eq_some_iff.1 hu).1);rw[cell_of_row W g' j _ _ _ hr,←Array.getElem?_toList];rw[←xp,List.getElem?_take]at hu;simp only[Nat.zero_add,Qd,if_true]at hu;exact hu⟩⟩
  have HG:=ae hgr;clear hown hg3 hnil hloc hb hgr hcs xp HO Ag cn HL;go_wp2;go_ret;exact⟨g,cap,by simp,HB.out,hbg,by omega,_,HG.out,HK.out⟩
abbrev f0:Fv:=⟨0,false,0,[],false,false,[],false,[]⟩
theorem QG (h:At w0 p fs s w) (nm:J.B) (z:Int) (g o n c:Nat) (a l:Nat→Int) (d:Nat→Bool) (hz:sV w g o n a l d) (hv:nY nm z n a l d=true):
  Calls Tryz.prog 11 #[.pointer (some ⟨p,0,none⟩), .agg #[.string ⟨nm.toArray⟩, .int .i64 z, .slice (some ⟨g,o,none⟩) n c]] w λe w'=>∃pf g' c' ok,e= .returned (.tuple #[.pointer (some ⟨pf,0,none⟩), .int .i64 0])∧At w0 p ((pf,ax p nm z.toNat g' n c' f0)::(g',ok)::fs) s w'∧bJ ok (FX n a l d)∧n≤c'∧g'≠pf∧w.heap.size≤pf∧w.heap.size≤g':=by
 obtain⟨bY,CM,rz,hz1,Wc,PE⟩:=BQ hv;obtain⟨zn,rfl⟩:∃k:Nat,z=k:=⟨z.toNat,by omega⟩;rw[Int.toNat_natCast];have hb0:Below w.heap.size w (w.alloc (.cells #[.string ⟨nm.toArray⟩, .int .i64 (zn:Nat), .slice (some ⟨g,o,none⟩) n c] 29 (0,0))):=(ak _ w).alloc (aq _) _;have hz':sV (w.alloc (.cells #[.string ⟨nm.toArray⟩, .int .i64 (zn:Nat), .slice (some ⟨g,o,none⟩) n c] 29 (0,0))) g o n a l d:=
  ⟨by have:=hz.lt;simp;omega,λi hi=>(hb0.cell (p:=⟨g,_,none⟩) hz.lt).trans (hz.a i hi),λi hi=>(hb0.cell (p:=⟨g,_,none⟩) hz.lt).trans (hz.l i hi),λi hi=>(hb0.cell (p:=⟨g,_,none⟩) hz.lt).trans (hz.d i hi)⟩
 have HV:=ae (uE nm (zn:Nat) (some ⟨g,o,none⟩) g o n c a l d _ (λ_=>⟨rfl,hz'⟩) (by omega) (by omega));rw[hv]at HV;have nb:=ae (λW (hb:Below w.heap.size w W)=>Ni (w:=W) g o n c (FX n a l d) (mY n a l d) Wc (av hz.lt hb.size) (λj u hu=>(hb.cell (p:=⟨g,o+j,none⟩) hz.lt).trans (Nh hz PE j u hu)));have HA0:=ae h;have cn:=ae hb0;have pS:=ae (heap_alloc_new w (.cells #[.string ⟨nm.toArray⟩, .int .i64 (zn:Nat), .slice (some ⟨g,o,none⟩) n c] 29 (0,0)));clear h hz hv bY PE hb0 hz';go_enter Tryz.func11,Tryz.ntmps11;go_wp2_with fail;refine HV.out.mono ?_;rintro e w1 ⟨rfl,hb⟩;have bV:=ae (cn.out.trans (hb.mono cn.out.size));have hr1:=(hb.block _ (ai pS.out).1).trans pS.out;have hc1:=aj w1 w.heap.size hr1;have eb:=ae hr1;clear hb HV cn pS hr1;go_wp2_with fail;refine(nb.out _ bV.out).mono ?_;rintro e w2 ⟨g',c',rfl,hb,hgg,hcc,ok,jN,bC⟩;have br:=ae hb;have hr2:=(hb.block _ (ai eb.out).1).trans eb.out;have hc2:=aj w2 w.heap.size hr2;have hz2:=aC hr2;have fy:=ae hr2;have OA:=ae jN;have lj:=ae bC;have ZZ:=ae hgg;clear hb hc1 hr2 jN bC nb;go_upto_region 6 with fail;have Ul:w.heap.size<w1.heap.size:=(ai eb.out).1;have hgw:w.heap.size≠g':=by have:=ZZ.out;omega
 refine aM (λY=>Below w.heap.size w Y∧Y.heap[w.heap.size]? =some (.cells #[.string ⟨nm.toArray⟩, .int .i64 (zn:Nat), .slice (some ⟨g',0,none⟩) n c'] 29 (0,0))∧Y.heap[g']? =some ok) ⟨(bV.out.trans (br.out.mono bV.out.size)).setCell (aq _) _,aB fy.out 2 (.slice (some ⟨g',0,none⟩) n c'),(Below.heap_setCell w2 _ _ g' (λe=>hgw e.symm)).trans OA.out⟩ ?_;rintro W5 ⟨lh,Dt,vO⟩;have uw:=aj W5 w.heap.size Dt;have Cl:g'<W5.heap.size:=(ai vO).1;have wN:=lh.alloc lh.size (ax p nm zn g' n c' f0);have HF:=ae (HA0.out.add wN (gs:=[(W5.heap.size,ax p nm zn g' n c' f0),(g',ok)]) (λx hx=>by
  simp only[List.mem_cons,List.not_mem_nil,or_false]at hx;rcases hx with rfl|rfl
  ·exact⟨lh.size,heap_alloc_new W5 _⟩
  ·exact⟨by have:=ZZ.out;have:=bV.out.size;omega,(((ak _ W5).alloc (aq _) _).block _ Cl).trans vO⟩))
 have HZ:Hid (g'≠W5.heap.size∧w.heap.size≤W5.heap.size∧w.heap.size≤g'):=ae ⟨by omega,lh.size,by have:=ZZ.out;have:=bV.out.size;omega⟩;clear lh Dt vO Cl wN hc2 hz2 HA0 bV br eb fy OA ZZ Ul hgw;go_wp2;go_ret2;exact⟨_,g',c',ok,rfl,HF.out,lj.out,by omega,HZ.out.1,HZ.out.2.1,HZ.out.2.2⟩
end
theorem Nj {w0 w:World} {p:Nat} {fs:List (Nat×Obj)} (h:At w0 p fs J.new w) (nm:J.B) (z:Int) (g o n c:Nat) (a l:Nat→Int) (d:Nat→Bool) (hz:sV w g o n a l d) (hv:nY nm z n a l d=true):
  Calls Tryz.prog 11 #[.pointer (some ⟨p,0,none⟩), .agg #[.string ⟨nm.toArray⟩, .int .i64 z, .slice (some ⟨g,o,none⟩) n c]] w λe w'=>∃pf,e= .returned (.tuple #[.pointer (some ⟨pf,0,none⟩), .int .i64 0])∧IK w0 p pf nm 0 fs (X.M.new (FX n a l d) z.toNat) [[]] w'∧w.heap.size≤pf:=by
 obtain⟨bY,CM,rz,_⟩:=BQ hv;have RX:∀x∈fs,x.1<w.heap.size:=λx hx=>(ai (h.get hx)).1;refine(QG h nm z g o n c a l d hz hv).mono ?_;rintro e w' ⟨pf,g',c',ok,rfl,ha,bC,hc,hne,h1,h2⟩;refine⟨pf,rfl,⟨J.new,f0,g',c',ok, ?_,X.UL nm bY,⟨rfl,rfl,rfl,rfl,rfl,rfl,rfl,(λe=>absurd rfl e),λe=>by cases e⟩,bC, ?_,λx hx=> ?_,λx hx=> ?_,⟨rz,List.length_pos_iff.2 CM⟩⟩,h1⟩
 ·show At w0 p ((pf,ax p nm z.toNat g' (FX n a l d).length c' f0)::(g',ok)::fs) J.new w';rw[mY];exact ha
 ·show(FX n a l d).length≤c';rw[mY];exact hc
 ·rcases au hx with rfl|hx
  ·exact hne
  ·have:=RX x hx;omega
 ·have:=RX x hx;omega
section
variable {P : Program} {w : World}
theorem wp_store_row {o:Oper} {a:Act} {K:Act→World→Prop} {Q:Exit→Act→World→Prop}
  (x y:Operand) (ty:TypeId) (hop:o.op=Op.store ty x y) (g:Nat) (hx:a.eval x= .pointer (some ⟨g,0,none⟩)) (vs:List Value) (hy:a.eval y= .agg vs.toArray)
  (t:TypeId) (C:Array Value) (hg:w.heap[g]? =some (.cells C t (0,0))) (hC:C.size=vs.length) (hi:(P.info? ty).map (·.size)=some vs.length) (h1:(vs.all λv=>v.oneCell')=true)
  (hK:∀w',w'.heap[g]? =some (.cells vs.toArray t (0,0))→w.grownBy w' (some g)→w'.heap.size=w.heap.size→K (a.put o.dst undef) w'):o.wp P a w K Q:=by
 have hcell:∀j,w.cell? ⟨g,j,none⟩=C[j]? :=λj=>ah w g j C t (0,0) hg;have hst:=run_storeCells_cells (P:=P) g 0 vs 0 w (λj hj=>by rw[hcell];simp[hC];omega) (λj _=>by simp[World.frozen?,hg]) (λv hv=>List.all_eq_true.1 h1 v hv);have hrun:(Instr.storeAt ty (.pointer (some ⟨g,0,none⟩)) (.agg vs.toArray)).run P w= .ok () (w.setCells g 0 vs):=by
  cases hq:P.info? ty with
  |none=>simp[hq]at hi
  |some i=>
   have hs:i.size=vs.length:=(by simpa [hq] using hi);simp[Instr.storeAt,Instr.sureAddr,storeVar,Sem.run_bind,sizeOf,typeInfo,hq,hs,Value.cells]
   simpa using hst
 obtain⟨C',Wx,hC2⟩:=ku g t (0,0) vs 0 w C hg;have hCe:C'=vs.toArray:=by
  apply Array.ext_getElem?;intro j;have e:=ah (w.setCells g 0 vs) g j C' t (0,0) Wx;rw[←e];by_cases hj:j<vs.length
  ·have:=World.cell?_setCells_in g vs 0 w (λj hj=>by rw[Nat.zero_add,hcell];simp[hC];omega) j hj;rw[Nat.zero_add]at this;rw[this];simp[hj]
  ·rw[e,Array.getElem?_eq_none (by omega)];simp;omega
 subst hCe;have hb:=fI g vs 0 w;unfold Oper.wp;simp only[execOp,hop,hx,hy];have:=hK _ Wx hb.1 hb.2;simp only[Sem.run_bind,hrun,Result.andThen];exact this
end
theorem yU {n:Nat} (h:n<4294967296) (t:J.B) (w:World):
  Calls Tryz.prog 114 #[.string ⟨(R.bI n++t).toArray⟩] w λe w'=>e= .returned (.int .i64 (n:Nat))∧Below w.heap.size w w':=by
 have hv:R.xF (R.bI n)=n:=R.pY h;have:=Lf (UInt8.ofNat (n/16777216)) (UInt8.ofNat (n/65536)) (UInt8.ofNat (n/256)) (UInt8.ofNat n) t w;rw[show R.xF [UInt8.ofNat (n/16777216),UInt8.ofNat (n/65536),UInt8.ofNat (n/256),UInt8.ofNat n]=n from hv]at this;exact this
def yV (nm:J.B):Prop:=nm≠[]∧nm.length≤100∧decide (0≤Lib.indexByte nm 0)=false
theorem vn {nm:J.B} {size:Nat} {ks:List X.Ky} (hn:yV nm) (hk:X.eo ks size):nY nm (size:Nat) ks.length (λi=>((X.aF ks i).at_:Nat)) (λi=>((X.aF ks i).len:Nat)) (λi=>(X.aF ks i).dup)=true:=by
 obtain⟨h1,h2,h3⟩:=hn;have h4:=hk.size;have h5:=hk.one;unfold nY;rw[decide_eq_false h1,decide_eq_false (show¬100<nm.length by omega),h3,decide_eq_false (show¬(size:Int)<1 by omega),decide_eq_false (show¬(4096:Int)<size by omega),decide_eq_false (show¬ks.length<1 by omega),decide_eq_false (show¬8<ks.length by omega)];dsimp only;rw[hk.first];simp only[Bool.or_false,Bool.not_false,Bool.true_and,Bool.not_eq_true',List.any_eq_false,List.mem_range];intro i hi;have h6:=hk.key _ (X.aU hi);unfold rH;simp only[Bool.or_eq_true,decide_eq_true_eq];omega
def eU (ks:List X.Ky) (k:Nat):J.B:=(ks.drop k).flatMap X.RM
theorem mg {ks:List X.Ky} {k:Nat} (h:k<ks.length):eU ks k=R.bI (X.aF ks k).at_++(R.bI (X.aF ks k).len++(uS (X.aF ks k).dup::eU ks (k+1))):=by
 unfold eU;have e:ks[k]=X.aF ks k:=by unfold X.aF;simp[h]
 rw[List.drop_eq_getElem_cons h,List.flatMap_cons,e];simp[X.RM,uS]
theorem Nk (ks:List X.Ky):eU ks ks.length=[]:=by unfold eU;rw[List.drop_length];rfl
theorem UM {ks:List X.Ky} {k:Nat} (h:k<ks.length):eU ks k≠[]:=by
 rw[mg h];intro e;have:=congrArg List.length e;simp[R.dc]at this
structure RdK (S S4 S9:ByteArray) (a l:Nat) (d:Bool):Prop where
 ne:(S.toList==[])=false
 o1:∀w,Calls Tryz.prog 114 #[.string S] w λe w'=>e= .returned (.int .i64 (a:Nat))∧Below w.heap.size w w'
 s4:∀w,(Instr.slice 9 (.string S) (some (.int .i64 4)) none none).run Tryz.prog w= .ok (.string S4) w
 o2:∀w,Calls Tryz.prog 114 #[.string S4] w λe w'=>e= .returned (.int .i64 (l:Nat))∧Below w.heap.size w w'
 ix:∃z:Int,(∀w,(Instr.index 9 (.string S) (.int .i64 8)).run Tryz.prog w= .ok (.int .u8 z) w)∧(z==1)=d
 s9:∀w,(Instr.slice 9 (.string S) (some (.int .i64 9)) none none).run Tryz.prog w= .ok (.string S9) w
theorem rdK {ks:List X.Ky} {size k:Nat} (bY:X.eo ks size) (h:k<ks.length):∃S4,RdK ⟨(eU ks k).toArray⟩ S4 ⟨(eU ks (k+1)).toArray⟩ (X.aF ks k).at_ (X.aF ks k).len (X.aF ks k).dup:=by
 have h6:=bY.key _ (X.aU h);have h7:=bY.size;have hl:=R.dc (X.aF ks k).at_;have hl2:=R.dc (X.aF ks k).len;have Yy:(eU ks k).drop 4=R.bI (X.aF ks k).len++(uS (X.aF ks k).dup::eU ks (k+1)):=by
  rw[mg h,show 4=(R.bI (X.aF ks k).at_).length from hl.symm,List.drop_left]
 have hd9:(eU ks k).drop 9=eU ks (k+1):=by
  rw[show 9=4+5 from rfl,←List.drop_drop,Yy,show 5=(R.bI (X.aF ks k).len).length+1 by rw[hl2],List.drop_append];simp
 have hlen:9≤(eU ks k).length:=by rw[mg h];simp[hl,hl2];omega
 have DY:(eU ks k)[8]'(by omega)=uS (X.aF ks k).dup:=by
  have:(eU ks k)[8]? =some (uS (X.aF ks k).dup):=by
   rw[show 8=4+4 from rfl,←List.getElem?_drop,Yy,show 4=(R.bI (X.aF ks k).len).length from hl2.symm,List.getElem?_append_right (Nat.le_refl _)];simp
  rw[List.getElem?_eq_getElem (by omega)]at this;injection this
 refine⟨⟨((eU ks k).drop 4).toArray⟩,⟨Lh (UM h),λw=> ?_,λw=>fU _ 4 (by omega) w,λw=> ?_,⟨(uS (X.aF ks k).dup).toNat,λw=> ?_, ?_⟩,λw=> ?_⟩⟩
 ·rw[mg h];exact yU (by omega) _ w
 ·rw[Yy];exact yU (by omega) _ w
 ·have:=eW (eU ks k) 8 (by omega) w;rw[DY]at this;exact this
 ·cases(X.aF ks k).dup<;>rfl
 ·have:=fU (eU ks k) 9 hlen w;rw[hd9]at this;exact this
abbrev EB (nm:J.B) (size:Nat) (v:Value):Obj:= .cells #[.string ⟨nm.toArray⟩, .int .i64 (size:Nat),v] 29 (0,0)
abbrev ia:Obj:= .cells #[.string ⟨#[]⟩, .int .i64 0, .slice none 0 0] 29 (0,0)
structure AtI (w:World) (nm:J.B) (size:Nat) (ks:List X.Ky) (B k:Nat) (W:World) (v:Value):Prop where
 bel:Below w.heap.size w W
 row0:W.heap[w.heap.size]? =some ia
 row:W.heap[B]? =some (EB nm size v)
 own:W.ownsRow w.heap.size 66 3 v k (cG (ks.take k))
 ne:B≠w.heap.size∧w.heap.size≤B
theorem Nl {w W W1 W2:World} {nm:J.B} {size:Nat} {ks:List X.Ky} {B k:Nat} {v v':Value} (h:AtI w nm size ks B k W v) (hk:k<ks.length) (hb:Below W.heap.size W W1) (hv':∃A n c,v'= .slice A n c)
  (ho:W2.ownsRow w.heap.size 66 3 v' (k+1) (cG (ks.take k)++[.int .i64 ((X.aF ks k).at_:Nat), .int .i64 ((X.aF ks k).len:Nat), .bool (X.aF ks k).dup])) (hg:W1.grownBy W2 v.ownBlock):
  W2.heap[B]? =some (EB nm size v)∧AtI w nm size ks B (k+1) (W2.setCell ⟨B,2,none⟩ v') v':=by
 have DO:=cD h.own hb;have hr1:=(hb.block B (ai h.row).1).trans h.row;have hz1:=(hb.block _ (ai h.row0).1).trans h.row0;have hr2:=uL DO hr1 (by decide) hg;have hz2:=uL DO hz1 (by decide) hg;have hb1:=h.bel.trans (hb.mono h.bel.size);have hb2:=hb1.grown hg hb1.size (λj hj=>(h.own.lt j hj).1);have cq:B<W2.heap.size:=(ai hr2).1;have Hu:=aA (World.grownBy.refl W2 (some B)) 2 v';have e:ks[k]=X.aF ks k:=by unfold X.aF;simp[hk]
 refine⟨hr2,⟨hb2.setCell h.ne.2 _, ?_,aB hr2 2 v', ?_,h.ne⟩⟩
 ·exact(Hu.block _ (ai hz2).1 (λe=>h.ne.1 (by injection e with e;exact e.symm))).trans hz2
 ·rw[List.take_succ_eq_append_getElem hk,AH,e];refine xa ho (λj hj=>Hu.block j (ho.lt j hj).2 (λe=> ?_));injection e with e;subst e;exact FC ho hr2 (by decide) hj
section
variable {w : World} {nm : J.B} {size : Nat} {ks : List X.Ky}
theorem Nn (hn:yV nm) (bY:X.eo ks size) (A:Option Addr) (c:Nat) (M:Nat→Prop) (hy:By w M A (X.attr size ks).length (X.attr size ks)) (Fs:(X.attr size ks).length≤c):
  Calls Tryz.prog 113 #[.string ⟨nm.toArray⟩, .slice A (X.attr size ks).length c] w λe w'=>∃g c',e= .returned (.tuple #[lT nm size (.slice (some ⟨g,0,none⟩) ks.length c'), .bool true])∧Below w.heap.size w w'∧ks.length≤c'∧w.heap.size≤g∧dB w' g ks:=by
 have FL:=X.gg size ks;have hsz:=bY.size;have bg:=bY.one;obtain⟨b0,o0,rfl,hb0,_,hcell⟩:=hy.2 (by omega);have hx0:w.cell? ⟨b0,o0,none⟩=some (.int .u8 2):=by
  have:=hcell 0 (by omega);exact this
 have vG:=ae (λk (h:k<ks.length)=>rdK bY h);have Xh:(⟨(eU ks ks.length).toArray⟩:ByteArray)=⟨#[]⟩:=by rw[Nk]
 have OT:=ae Xh;have sS:=ae (yU (n:=size) (by omega) (eU ks 0));have UN:(⟨(R.bI size++eU ks 0).toArray⟩:ByteArray).extract 4 (4+(eU ks 0).length)=⟨(eU ks 0).toArray⟩:=by
  rw[ByteArray.extract_mk,show 4=(R.bI size).length from(R.dc size).symm,List.drop_left,Nat.add_sub_cancel_left,List.take_length]
 have hdr:(X.attr size ks).drop 1=R.bI size++eU ks 0:=rfl;have HVT:=ae (vn hn bY);have JG:=ae hn.2.1;have HHK:=ae bY;have HY:=ae hy;clear hn bY hcell Xh;generalize hN:(X.attr size ks).length=N at*;have n1:¬(N:Int)<5:=by omega
 have w1:wrap64 ((N:Int) - 1)=(N:Int) - 1:=IntWalk.wrap64_in _ (by omega);have w2:wrap64 ((N:Int) - 1 - 4)=(N:Int) - 1 - 4:=IntWalk.wrap64_in _ (by omega);have n2:(((N:Int) - 1 - 4).tmod 9 !=0)=false:=by
  rw[show(N:Int) - 1 - 4=((9*ks.length:Nat):Int) by omega,show((9*ks.length:Nat):Int).tmod 9=((9*ks.length%9:Nat):Int)from rfl];simp
 have n3:((N:Int) - 1 - 4)%9=0:=by rw[show(N:Int) - 1 - 4=9*(ks.length:Int) by omega];omega
 have Ss:=ae FL;have PF:=ae (show 1≤N by omega);have hK1:1≤ks.length:=bg.1;have HK8:=ae bg;clear FL bg hsz;go_enter Tryz.func113,Tryz.ntmps113;go_upto_region 3 with fail;go_wp2_with (refine zQ rfl _ _ rfl (some ⟨b0,o0,none⟩) N c rfl 1 rfl PF.out Fs ?_);intro A1 hp1;have Pb:By (w.alloc ia) M A1 (N - 1) (R.bI size++eU ks 0):=by
  have:=hp1.out (w.alloc ia) M _ (HY.out.alloc ia);rw[List.take_of_length_le (by rw[hN];exact Nat.le_refl _),hdr]at this;exact this
 go_wp2_with (refine oZ rfl _ rfl A1 (N - 1) (c - 1) rfl (by simpa using Pb) ?_);have yR:(⟨(R.bI size++eU ks 0).toArray⟩:ByteArray).size=4+(eU ks 0).length:=by rw[bh];simp[R.dc]
 generalize(⟨(R.bI size++eU ks 0).toArray⟩:ByteArray)=S0 at sS UN yR⊢;have acE:=ae UN;clear UN;have hb0:Below w.heap.size w (w.alloc ia):=(ak _ w).alloc (aq _) _;have cn:=ae hb0;have pS:=ae (heap_alloc_new w ia);clear Pb hp1 hx0 n1 n2 n3 w1 w2 hb0 hdr;go_wp2_with fail;refine(sS.out _).mono ?_;rintro e w1 ⟨rfl,hb1⟩;have bV:=ae (cn.out.trans (hb1.mono cn.out.size));have eb:=ae ((hb1.block _ (ai pS.out).1).trans pS.out);clear hb1 sS cn pS;have HZ:=ae (heap_alloc_new w1 ia);go_wp2_with (refine wpList_store_row rfl _ _ 29 rfl w1.heap.size rfl [.string ⟨nm.toArray⟩, .int .i64 (size:Nat), .slice none 0 0] rfl _ _ HZ.out rfl (by kernel_rfl) rfl ?_);intro W3 hrow hg acF;have hbl:w.heap.size<w1.heap.size:=(ai eb.out).1;have hb3:=((ak w1.heap.size w1).alloc (aq _) ia).grown hg (by simp) (λk e=>by injection e with e;omega);have eu:Hid (AtI w nm size ks w1.heap.size 0 W3 (.slice none 0 0)):=ae ⟨bV.out.trans (hb3.mono bV.out.size),(hb3.block _ hbl).trans eb.out,hrow,World.ownsRow_nil _ _ _ _,by omega,by omega⟩;generalize w1.heap.size=B at eu HZ hbl⊢;clear hrow hg acF HZ eb bV hb3 hbl;go_wp2;obtain⟨i0,hi,hz0,hz1,hz2⟩:=info_parts Tryz.Ng;go_loopw [6] (fun t W=>∃k:Nat,k≤ks.length∧t= .string ⟨(eU ks k).toArray⟩∧∃v,Hid (AtI w nm size ks B k W v)) (fun t _=>match t with| .string b=>b.size|_=>0)
 case atStart=>exact⟨0,Nat.zero_le _,by rw[acE.out],_,eu⟩
 case round=>
  obtain⟨k,hk,rfl,v,HI⟩:=hrel;clear eu;by_cases hlt:k<ks.length
  ·obtain⟨S4,ov⟩:=vG.out k hlt;obtain⟨z,rO,hzd⟩:=ov.ix;have hne:=ov.ne;have Dk:=ov.s4;have hs9:=ov.s9;have oT:=ae ov.o1;have gN:=ae ov.o2;have xN:Hid ((⟨(eU ks (k+1)).toArray⟩:ByteArray).size<(⟨(eU ks k).toArray⟩:ByteArray).size):=ae (by
    rw[bh,bh,mg hlt];simp;omega)
   have aW:=ae hlt;obtain⟨Av,nv,cv,rfl⟩:=dv HI.out.own;generalize hS9:(⟨(eU ks (k+1)).toArray⟩:ByteArray)=S9 at hs9 xN⊢;have Hh:=ae hS9;clear hS9;generalize(⟨(eU ks k).toArray⟩:ByteArray)=S at hne Dk hs9 rO oT xN⊢;have sY:Hid (X.aF ks k=X.aF ks k):=ae rfl;clear ov;have Ii:=ae (λw' (hS:Below wr.heap.size wr w')=>(hS.block B (ai HI.out.row).1).trans HI.out.row);have uQ:=ae (λW1 W2 v' (hb:Below wr.heap.size wr W1) hv' ho hg=>Nl (W1:=W1) (W2:=W2) (v':=v') HI.out hlt hb hv' ho hg);have HOW:=ae (λW1 (hb:Below wr.heap.size wr W1)=>cD HI.out.own hb);have vF:=ae HI.out.bel.size;have Wm:k≤8:=(by have:=HK8.out;omega);generalize X.aF ks k=ky at oT gN hzd uQ;obtain⟨ka,kl,kd⟩:=ky;dsimp only at oT gN hzd uQ;go_upto_region 8 with fail;refine aD 12 (.rd 0 (.rd 1 (.rd 2 (.rd 4 (.rd 5 (.rd 7 (.rd 8 (.rd 9 (.wr 3 (.wr 6 (.rd 10 (.wr 11 .fin)))))))))))) (λw'=>Below wr.heap.size wr w') (by kernel_rfl) (by kernel_rfl) (λc a d v w h=>by cases d<;>exact h) ((ak _ wr).drew) ?_;repeat
    refine az (v:= ?_) (by rfl) (by rfl) (λw' hS=> ?_) (λK hK=> ?_);rotate_left
    ·have hc:=aj w' B (Ii.out w' hS);clear hS;go_simp;try with_reducible rfl
    go_simp;refine hK _ ?_;clear hK K
   refine wpPm_write (by rfl) (λK hK=> ?_);go_simp;refine(oT.out _).mono ?_;rintro e V1 ⟨rfl,hb⟩;have bV:=ae (((ak wr.heap.size wr).drew).trans hb);refine hK.out _ _ (λw'=>Below wr.heap.size wr w') (λ_ h=>h) bV.out ?_;clear hK K hb oT;refine wpPm_write (by rfl) (λK hK=> ?_);go_simp;refine(gN.out _).mono ?_;rintro e V2 ⟨rfl,hb⟩;have br:=ae (bV.out.trans (hb.mono bV.out.size));refine hK.out _ _ (λw'=>Below wr.heap.size wr w') (λ_ h=>h) br.out ?_;clear hK K hb gN bV;repeat
    refine az (v:= ?_) (by rfl) (by rfl) (λw' hS=> ?_) (λK hK=> ?_);rotate_left
    ·have hc:=aj w' B (Ii.out w' hS);clear hS;go_simp;try with_reducible rfl
    go_simp;refine hK _ ?_;clear hK K
   refine wpPm_write (by rfl) (λK hK=> ?_);go_simp;have cX:=ae (br.out.alloc br.out.size (.cells #[.int .i64 (ka:Nat), .int .i64 (kl:Nat), .bool kd] 66));refine hK.out _ _ (λw'=>Below wr.heap.size wr w') (λ_ h=>h) cX.out ?_;clear hK K;show wpList _ _ _ _ _ _;have JF:=ae (HOW.out _ cX.out);have Ag:=ae (World.news_of_block (heap_alloc_new V2 (.cells #[.int .i64 (ka:Nat), .int .i64 (kl:Nat), .bool kd] 66)));have Yz:w.heap.size≤(V2.alloc (.cells #[.int .i64 (ka:Nat), .int .i64 (kl:Nat), .bool kd] 66)).heap.size:=aw vF.out cX.out.size;refine wpList_append_own_at _ rfl _ _ 27 rfl w.heap.size 66 i0 _ 3 24 Tryz.underlying27 hi hz0 hz1 hz2 rfl (by decide) _ k (cG (ks.take k)) rfl JF.out ⟨V2.heap.size,0,none⟩ 1 1 [.int .i64 (ka:Nat), .int .i64 (kl:Nat), .bool kd] rfl rfl Ag.out (by intro u hu;simp only[List.mem_cons,List.not_mem_nil,or_false]at hu;rcases hu with rfl|rfl|rfl<;>rfl) (by unfold maxLen;omega) (by omega) Yz ?_;intro v' w4 hown hg hnil hloc;obtain⟨A',n',c',rfl⟩:=dv hown;obtain⟨hr4,CX⟩:=uQ.out _ _ _ cX.out ⟨_,_,_,rfl⟩ hown hg;have gR:=aj w4 B hr4;have hz4:=aC hr4;have HN4:=ae CX;clear hr4 CX hown hg hnil hloc JF Ag Yz cX br uQ HOW Ii vF;go_wp2;go_roundw
   case rel=>exact⟨k+1,aW.out,by rw[Hh.out],_,HN4⟩
   case measure=>exact xN.out
  ·obtain rfl:k=ks.length:=(by omega);rw[OT.out];obtain⟨hl,⟨e,h0⟩|⟨g,cap,cur,rfl,hbg,hgr,Ox,hcm,hcs,xp⟩⟩:=HI.out.own
   ·omega
   rw[List.take_length]at xp;have QH:dB wr g ks:=⟨(ai hgr).1,λj u hu=>by
    have Qd:j<ks.length*3:=(by rw[←nX];exact(List.getElem?_eq_some_iff.1 hu).1);rw[cell_of_row wr g j _ _ _ hgr,←Array.getElem?_toList];rw[←xp,List.getElem?_take]at hu;simp only[Qd,if_true]at hu;exact hu⟩
   have YA:g≠w.heap.size:=λe=>by
    have h1:=HI.out.row0;rw[←e,hgr]at h1;injection h1 with h1;injection h1 with _ h1;exact absurd h1 (by decide)
   have HGZ:=ae (⟨YA,hbg⟩:g≠w.heap.size∧w.heap.size≤g);have gp:=ae (λW (hb:Below wr.heap.size wr W)=>QH.below hb);have IQ:=ae (λW (hb:Below wr.heap.size wr W)=>uE nm (size:Nat) (some ⟨g,0,none⟩) g 0 ks.length cap _ _ _ W (λ_=>⟨rfl,(QH.below hb).z⟩) (by have:=JG.out;omega) (by have:=HK8.out;omega));rw[HVT.out]at IQ;have lY:=ae (λW (hb:Below wr.heap.size wr W)=>pH nm size g cap ks W (QH.below hb) HHK.out);rw[hN]at lY;have HYW:=ae (λW (hb:Below wr.heap.size wr W)=>(HY.out.below (HI.out.bel.trans (hb.mono HI.out.bel.size))).weak (M':=bF) (λ_ h=>h.elim));have Ii:=ae (λW (hb:Below wr.heap.size wr W)=>(hb.block B (ai HI.out.row).1).trans HI.out.row);have HZC:=ae (λW (hb:Below wr.heap.size wr W)=>(hb.block _ (ai HI.out.row0).1).trans HI.out.row0);have HCP:=ae Ox;have ZA:=ae HI.out.bel;have rE:=ae HI.out.ne;clear hl hbg hgr Ox hcm hcs xp QH YA vG OT hi hz0 hz1 hz2;go_upto_region 9 with fail;have cn:=ae ((ak wr.heap.size wr).drew);refine aD 10 (.rd 0 (.rd 1 (.wr 2 (.rd 3 (.rd 4 (.rd 6 (.wr 5 (.wr 7 (.rd 8 (.wr 9 .fin)))))))))) (λw'=>w'.heap[B]? =some (EB nm size (.slice (some ⟨g,0,none⟩) ks.length cap))) (by kernel_rfl) (by kernel_rfl) (λc a d v w h=>by cases d<;>exact h) (Ii.out _ cn.out) ?_;repeat
    refine az (v:= ?_) (by rfl) (by rfl) (λw' hS=> ?_) (λK hK=> ?_);rotate_left
    ·have hc:=aj w' B hS;clear hS;go_simp;try with_reducible rfl
    go_simp;refine hK _ ?_;clear hK K
   refine wpPm_write (by rfl) (λK hK=> ?_);go_simp;refine(IQ.out _ cn.out).mono ?_;rintro e V1 ⟨rfl,hb⟩;have bV:=ae (cn.out.trans (hb.mono cn.out.size));refine hK.out _ _ (λw'=>w'.heap[B]? =some (EB nm size (.slice (some ⟨g,0,none⟩) ks.length cap))) (λ_ h=>h) (Ii.out _ bV.out) ?_;clear hK K hb IQ;repeat
    refine az (v:= ?_) (by rfl) (by rfl) (λw' hS=> ?_) (λK hK=> ?_);rotate_left
    ·have hc:=aj w' B hS;clear hS;go_simp;try with_reducible rfl
    go_simp;refine hK _ ?_;clear hK K
   refine wpPm_write (by rfl) (λK hK=> ?_);go_simp;refine(lY.out _ bV.out).mono ?_;rintro e V2 ⟨vb,rfl,jL,hb⟩;obtain⟨Ab,cb,rfl,hcb,Xc⟩:=fH (M:=bF) jL (λ_ h=>h.elim);have br:=ae (bV.out.trans (hb.mono bV.out.size));have Xd:=ae Xc;refine hK.out _ _ (λw'=>w'.heap[B]? =some (EB nm size (.slice (some ⟨g,0,none⟩) ks.length cap))) (λ_ h=>h) (Ii.out _ br.out) ?_;clear hK K hb jL Xc hcb lY;refine wpPm_write (by rfl) (λK hK=> ?_);go_simp;refine(nK _ _ _ _ _ _ (X.attr size ks) (X.attr size ks) _ bF bF Xd.out (HYW.out _ br.out)).mono ?_;rintro e V3 ⟨rfl,rfl⟩;rw[beq_self_eq_true];refine hK.out _ _ (λw'=>w'.heap[B]? =some (EB nm size (.slice (some ⟨g,0,none⟩) ks.length cap))) (λ_ h=>h) (Ii.out _ br.out) ?_;clear hK K Xd HYW;repeat
    refine az (v:= ?_) (by rfl) (by rfl) (λw' hS=> ?_) (λK hK=> ?_);rotate_left
    ·have hc:=aj w' B hS;clear hS;go_simp;try with_reducible rfl
    go_simp;refine hK _ ?_;clear hK K
   refine wpPm_write (by rfl) (λK hK=> ?_);refine(if_pos (by rfl)).mpr ?_;refine wp_store_row _ _ 29 (by rfl) w.heap.size (by rfl) [.string ⟨nm.toArray⟩, .int .i64 (size:Nat), .slice (some ⟨g,0,none⟩) ks.length cap] (by rfl) _ _ (HZC.out _ br.out) rfl (by kernel_rfl) rfl ?_;intro W9 JH pq JI;have YB:=ae JH;have hkf:=gp.out _ br.out;have We:Hid (dB W9 g ks):=ae ⟨by rw[JI];exact hkf.1,λj u hu=>(World.cell?_of_block (pq.block g hkf.1 (λe=>HGZ.out.1 (by injection e)))).trans (hkf.2 j u hu)⟩;have Fx:=ZA.out.trans (br.out.mono ZA.out.size);have wj:=ae (Fx.grown pq Fx.size (λk e=>by injection e with e;omega));refine hK.out _ _ (λw'=>w'.heap[B]? =some (EB nm size (.slice (some ⟨g,0,none⟩) ks.length cap))) (λ_ h=>h) ((pq.block B (ai (Ii.out _ br.out)).1 (λe=>rE.out.1 (by injection e))).trans (Ii.out _ br.out)) ?_;clear hK K JH hkf Fx pq JI gp Ii HZC br bV cn;show wpList _ _ _ _ _ _;go_wp2_with fail;refine bodyPost_ret (gO rfl _ _ w.heap.size _ _ _ _ rfl YB.out Tryz.underlying29 rfl (by kernel_rfl)) rfl ?_;exact⟨g,cap,rfl,wj.out,HCP.out,HGZ.out.2,We.out⟩
end
section
variable {w0 : World} {p : Nat} {w : World} {s : J.St} {fs : List (Nat × Obj)} {nm : J.B} {size : Nat} {ks : List X.Ky}
theorem FY (nm:J.B):nm++0::[65]=X.own nm:=rfl
theorem bp {w1 w2:World} {b:Nat} {o:Obj} (hb:Below w1.heap.size w1 w2) (h:w1.heap[b]? =some o):w2.heap[b]? =some o:=(hb.block b (ai h).1).trans h
theorem BR (h:At w0 p fs s w) (hn:nm.length≤200) (hl:J.look s.now (X.own nm)=none):
  Calls Tryz.prog 75 #[.pointer (some ⟨p,0,none⟩), .string ⟨nm.toArray⟩] w λe w'=>e= .returned (.tuple #[.agg #[.string ⟨#[]⟩, .int .i64 0, .slice none 0 0], .int .i64 7])∧Below w.heap.size w w':=by
 have HB:=ae ((ak _ w).alloc (aq _) ia);have HU:=ae (fJ nm [65] (w.alloc ia) (w.heap.size+1) (by simp) (by omega) (by simp));rw[FY]at HU;have HG:=ae (λw1 (hb:Below w.heap.size w w1)=>fk (h.below hb) (X.own nm) (by rw[X.mz];omega) (λl hh=>by rw[hl]at hh;cases hh));rw[hl]at HG;have pS:=ae (heap_alloc_new w ia);clear h hl hn;go_enter Tryz.func75,Tryz.ntmps75;go_wp2_with fail;refine HU.out.mono ?_;rintro e w1 ⟨rfl,hb⟩;have br:=ae (HB.out.trans (hb.mono HB.out.size));have eb:=ae (bp hb pS.out);clear hb HU HB pS;go_wp2_with fail;refine(HG.out _ br.out).mono ?_;rintro e w2 ⟨v,rfl,hs,ha,hb3⟩;have hs:bT w2 _ v []:=hs;obtain⟨A2,c2,rfl,hc2,hby⟩:=hs.sl.by
 have cX:=ae (br.out.trans (hb3.mono br.out.size));have fy:=ae (bp hb3 eb.out);clear hs ha hb3 hby hc2 HG br eb;go_wp2_with (refine wpList_store_row rfl _ _ 29 rfl w.heap.size rfl [.string ⟨#[]⟩, .int .i64 0, .slice none 0 0] rfl _ _ fy.out rfl (by kernel_rfl) rfl ?_);intro W9 JH pq JI;have YB:=ae JH;have wj:=ae (cX.out.grown pq cX.out.size (λk e=>by injection e with e;omega));clear JH pq JI cX fy;go_wp2_with fail;refine bodyPost_ret (gO rfl _ _ w.heap.size _ _ _ _ rfl YB.out Tryz.underlying29 rfl (by kernel_rfl)) rfl ?_;exact⟨rfl,wj.out⟩
theorem sf (h:At w0 p fs s w) (hn:yV nm) (bY:X.eo ks size) (hl:J.look s.now (X.own nm)=some (X.attr size ks)):
  Calls Tryz.prog 75 #[.pointer (some ⟨p,0,none⟩), .string ⟨nm.toArray⟩] w λe w'=>∃g c',e= .returned (.tuple #[lT nm size (.slice (some ⟨g,0,none⟩) ks.length c'), .int .i64 0])∧Below w.heap.size w w'∧ks.length≤c'∧w.heap.size≤g∧dB w' g ks:=by
 have hnl:=hn.2.1;have FL:=X.gg size ks;have Wm:=bY.one;have HB:=ae ((ak _ w).alloc (aq _) ia);have HU:=ae (fJ nm [65] (w.alloc ia) (w.heap.size+1) (by simp) (by omega) (by simp));rw[FY]at HU;have HG:=ae (λw1 (hb:Below w.heap.size w w1)=>fk (h.below hb) (X.own nm) (by rw[X.mz];omega) (λl hh=>by rw[hl]at hh;injection hh with hh;subst hh;omega));rw[hl]at HG;have pS:=ae (heap_alloc_new w ia);have JG:=ae hn;have gp:=ae bY;clear h hl hn bY hnl FL Wm;go_enter Tryz.func75,Tryz.ntmps75;go_wp2_with fail;refine HU.out.mono ?_;rintro e w1 ⟨rfl,hb⟩;have br:=ae (HB.out.trans (hb.mono HB.out.size));have eb:=ae (bp hb pS.out);clear hb HU HB pS;go_wp2_with fail;refine(HG.out _ br.out).mono ?_;rintro e w2 ⟨v,rfl,hs,ha,hb3⟩;have hs:bT w2 _ v (X.attr size ks):=hs;obtain⟨A2,c2,rfl,hc2,hby⟩:=hs.sl.by
 have cX:=ae (br.out.trans (hb3.mono br.out.size));have fy:=ae (bp hb3 eb.out);have pV:=ae (Nn JG.out gp.out A2 c2 _ hby hc2);clear hs ha hb3 hby hc2 HG br eb;generalize(X.attr size ks).length=N at pV⊢;go_wp2_with fail;refine pV.out.mono ?_;rintro e w3 ⟨g,c3,rfl,hb4,hc3,hg3,hk3⟩;have eR:=ae (cX.out.trans (hb4.mono cX.out.size));have FI:=ae (bp hb4 fy.out);have UO:=ae hk3;have zo:=ae (aw cX.out.size hg3);have sk:=ae hc3;have HZ:=ae (heap_alloc_new w3 ia);clear hb4 hc3 hg3 hk3 pV cX fy;go_wp2_with (refine wpList_store_row rfl _ _ 29 rfl w3.heap.size rfl [.string ⟨nm.toArray⟩, .int .i64 (size:Nat), .slice (some ⟨g,0,none⟩) ks.length c3] rfl _ _ HZ.out rfl (by kernel_rfl) rfl ?_);intro W5 Dt vO hz5;have lh:=((ak w3.heap.size w3).alloc (aq _) ia).grown vO (by simp) (λk e=>by injection e with e;omega);have ed:=ae (eR.out.trans (lh.mono eR.out.size));have YC:=ae (bp lh FI.out);have YD:=ae (UO.out.below lh);have uw:=aj W5 w3.heap.size Dt;clear Dt vO hz5 lh eR FI UO HZ;go_wp2_with (refine wpList_store_row rfl _ _ 29 rfl w.heap.size rfl [.string ⟨nm.toArray⟩, .int .i64 (size:Nat), .slice (some ⟨g,0,none⟩) ks.length c3] rfl _ _ YC.out rfl (by kernel_rfl) rfl ?_);intro W9 JH pq JI;have YB:=ae JH;have wj:=ae (ed.out.grown pq ed.out.size (λk e=>by injection e with e;omega));have YA:g≠w.heap.size:=λe=>by
  have h1:=YD.out.at_ (i:=0) gp.out.one.1;rw[e,cell_of_row W5 w.heap.size _ _ _ _ YC.out]at h1;simp at h1
 have We:Hid (dB W9 g ks):=ae ⟨by rw[JI];exact YD.out.1,λj u hu=>(World.cell?_of_block (pq.block g YD.out.1 (λe=>YA (by injection e)))).trans (YD.out.2 j u hu)⟩;clear JH pq JI ed YC YD uw YA;go_wp2_with fail;refine bodyPost_ret (gO rfl _ _ w.heap.size _ _ _ _ rfl YB.out Tryz.underlying29 rfl (by kernel_rfl)) rfl ?_;exact⟨g,c3,rfl,wj.out,sk.out,zo.out,We.out⟩
end
def Seen (W:World) (b n:Nat) (l:List J.B):Prop:=∃D:DataW Unit,W.ownsMap Tryz.prog 9 (plainElem (H:=Unit) Tryz.prog 4) b n D∧∀x:J.B,x∉l→D.atKey (.string x) (.lit (.bool false))= .lit (.bool false)
theorem Np (W:World):Seen (W.alloc (.map #[] 0)) W.heap.size 0 []:=⟨.map [],World.ownsMap_made _ _ _ _,λx _=>rfl⟩
theorem QI {W W':World} {b n:Nat} {D:DataW Unit} (h:W.ownsMap Tryz.prog 9 (plainElem (H:=Unit) Tryz.prog 4) b n D) (hb:Below W.heap.size W W'):W'.ownsMap Tryz.prog 9 (plainElem (H:=Unit) Tryz.prog 4) b n D:=by
 have hl:=h.lt;obtain⟨es,clock,e1,e2⟩:=h;exact⟨es,clock,(hb.block b hl).trans e1,e2⟩
theorem Nq {W W':World} {b n:Nat} {l:List J.B} (h:Seen W b n l) (hb:Below W.heap.size W W'):Seen W' b n l:=by
 obtain⟨D,h1,h2⟩:=h;have hl:=h1.lt;obtain⟨es,clock,e1,e2⟩:=h1;exact⟨D,⟨es,clock,(hb.block b hl).trans e1,e2⟩,h2⟩
theorem FZ {x:J.B} (hx:x.length≤1000):keyOf Tryz.prog 9 (.string ⟨x.toArray⟩)=some (.string x):=keyOf_string_mk (s:=⟨x.toArray⟩) Tryz.underlying9 (by show x.toArray.size≤_;unfold maxLen;simp;omega)
theorem vp {v:Value} {b:Bool} {ps:List MemPlace} (h:plainElem (H:=Unit) Tryz.prog 4 v=some (.lit (.bool b),ps)):v= .bool b:=by
 unfold plainElem at h;rw[show Tryz.prog.underlying 4=some .bool from Tryz.underlying4]at h;cases v<;>first|(simp at h;done)|(simp at h;rw[h.1])
theorem vu {W:World} {M:Nat→Prop} {v:Value} {l:J.B} (h:bT W M v l) (h0:l≠[]):∃b o,v= .slice (some ⟨b,o,none⟩) l.length l.length:=by
 rcases h with⟨_,e⟩|⟨b,off,e,_⟩
 ·exact absurd e h0
 ·exact⟨b,off,e⟩
theorem IU (w:World):(zeroValue 4).run Tryz.prog w= .ok (.bool false) w:=by kernel_rfl
theorem IV {W:World} {b n:Nat} {l:List J.B} (h:Seen W b n l) {x:J.B} (hx:x∉l) (hl:x.length≤1000):(Instr.lookup 175 (.map (some b)) (.string ⟨x.toArray⟩) false).run Tryz.prog W= .ok (.bool false) W:=by
 obtain⟨D,h1,h2⟩:=h;obtain⟨v,ps,hrun,hv⟩:=h1.lookup qi Tryz.underlying175 (IU W) (plainElem_bool Tryz.underlying4 false) (FZ hl);rw[h2 x hx]at hv;rw[hrun,vp hv]
theorem YE (a b:Nat) (h:a+b≤10000):wrap64 ((a:Int)+(b:Nat))=((a+b:Nat):Int):=by rw[IntWalk.wrap64_in _ (by omega)];omega
theorem YF (m:Nat) (h:m≤10000):wrap64 ((m:Int)+4)=((m+4:Nat):Int):=by rw[IntWalk.wrap64_in _ (by omega)];omega
theorem UQ (a b:Nat) (h:a+b≤10000):IntKind.i64.wrap ((a:Int)+(b:Nat))=((a+b:Nat):Int):=by rw[IntKind.wrap_i64];omega
theorem UR (m:Nat) (h:m≤10000):IntKind.i64.wrap ((m:Int)+4)=((m+4:Nat):Int):=by rw[IntKind.wrap_i64];omega
theorem YG (m:Nat) (h:m≤10000):wrap64 (((m+4:Nat):Int) - 4)=(m:Int):=by rw[IntWalk.wrap64_in _ (by omega)];omega
theorem YH (m:Nat) (h:m≤10000):IntKind.i64.wrap (((m+4:Nat):Int) - 4)=(m:Int):=by rw[IntKind.wrap_i64];omega
theorem EC (j:Nat) (h:j≤100000):Value.int .i64 (wrap64 ((j:Int)+1))= .int .i64 ((j+1:Nat):Int):=by rw[IntWalk.wrap64_in _ (by omega)];rfl
theorem yX {j n:Nat} (h:j<n) (hj:j≤100000):n - (intOf (Value.int .i64 (wrap64 ((j:Int)+1)))).toNat<n - (intOf (Value.int .i64 (j:Int))).toNat:=by
 rw[IntWalk.wrap64_in _ (by omega)];simp only[intOf];omega
theorem vw {n:Nat} (h:0<n):n - (intOf (Value.int .i64 1)).toNat<n - (intOf (Value.int .i64 ((0:Nat):Int))).toNat:=by
 simp only[intOf];omega
namespace X
theorem UT {nm:B} {ks:List Ky} {i:Nat} (hi:i≠0) (r:Row):aN nm ks i r=pre nm i++(val ks i r.b++R.bI (r.t i)):=by
 unfold aN bS tail;rw[if_neg hi]
end X
namespace X
theorem YI {α β:Type} {f:α→β} {l:List α} (h:l.Pairwise λx y=>f x≠f y) {r s:α} (hr:r∈l) (hs:s∈l) (e:f r=f s):r=s:=by
 induction l with
 |nil=>cases hr
 |cons x t ih=>
  obtain⟨h1,h2⟩:=List.pairwise_cons.1 h;rcases au hr with rfl|lL<;>rcases au hs with rfl|hs'
  ·rfl
  ·exact absurd e (h1 s hs')
  ·exact absurd e.symm (h1 r lL)
  ·exact ih h2 lL hs'
theorem UU {ks:List Ky} {size ct i:Nat} {rows:List Row} (hr:aQ ks size ct rows) (hi:i<ks.length) {j:Nat} (hj:j<(bQ ks i rows).length):val ks 0 (bQ ks i rows)[j].b∉((bQ ks i rows).take j).map λr=>val ks 0 r.b:=λhm=>by
 obtain⟨x,hx,e⟩:=List.mem_map.1 hm;obtain⟨k,hk,rfl⟩:=List.getElem_of_mem hx;rw[List.length_take]at hk;rw[List.getElem_take]at e;have h1:(bQ ks i rows)[k]'(by omega)∈rows:=(bt ks i _ rows).1 (List.getElem_mem _);have h2:(bQ ks i rows)[j]∈rows:=(bt ks i _ rows).1 (List.getElem_mem _);have:=rQ (mD ks i rows (hr.zI hi)) _ _ (qC hr.prim h1 h2 e);omega
theorem IW {ks:List Ky} {size ct i:Nat} {rows:List Row} {bf:B} (hr:aQ ks size ct rows) (hi:1≤i∧i<ks.length) {j:Nat} (hj:j<(bQ ks i rows).length) (hb:∀k,k+1=j→∀r,(bQ ks i rows)[k]? =some r→bf=val ks i r.b) (hd:(aF ks i).dup=false) (h0:0<j):bf≠val ks i (bQ ks i rows)[j].b:=λe=>by
 have h1:j - 1<(bQ ks i rows).length:=by omega
 have h2:=hb (j - 1) (by omega) _ (List.getElem?_eq_getElem h1);rw[h2]at e;have m1:(bQ ks i rows)[j - 1]∈rows:=(bt ks i _ rows).1 (List.getElem_mem _);have m2:(bQ ks i rows)[j]∈rows:=(bt ks i _ rows).1 (List.getElem_mem _);have:=rQ (mD ks i rows (hr.zI hi.2)) _ _ (YI (f:=λx:Row=>val ks i x.b) (hr.nodup i hi.1 hi.2 hd) m1 m2 e);omega
end X
section
variable {w0 : World} {p g c size ct : Nat} {nm : J.B} {ks : List X.Ky} {rows : List X.Row} {w w' : World} {s : J.St} {fs : List (Nat × Obj)}
structure AgI (w:World) (nm:J.B) (size g c:Nat) (ks:List X.Ky) (rows:List X.Row) (i bx bs j:Nat) (bf:J.B) (W:World):Prop where
 bel:Below w.heap.size w W
 box:W.heap[w.heap.size]? =some (er nm size (.slice (some ⟨g,0,none⟩) ks.length c))
 key:W.heap[bx]? =some (aP (X.aF ks i))
 seen:Seen W bs j (((X.bQ ks i rows).take j).map λr=>X.val ks 0 r.b)
 ge:w.heap.size≤bs∧bs≠w.heap.size∧bs≠bx
 bf:∀k,k+1=j→∀r,(X.bQ ks i rows)[k]? =some r→bf=X.val ks i r.b
theorem ED (h:At w0 p fs s w) (hX:XF nm size ks rows ct s.now) (hk:dB w g ks) (i:Nat) (h1:1≤i) (hi:i<ks.length):
  Calls Tryz.prog 76 #[lT nm size (.slice (some ⟨g,0,none⟩) ks.length c), .pointer (some ⟨p,0,none⟩), .int .i64 (i:Nat), .int .i64 (rows.length:Nat)] w λe w'=>e= .returned (.bool true)∧Below w.heap.size w w':=by
 have bg:=hX.ks.one;have nA:=hX.nm;have hrt:=hX.ct;have Nr:=hX.many;have dV:=hX.lens hi;have hb0:Below w.heap.size w (w.alloc (er nm size (.slice (some ⟨g,0,none⟩) ks.length c))):=(ak _ w).alloc (aq _) _;have cn:=ae hb0;have eH:=ae (heap_alloc_new w (er nm size (.slice (some ⟨g,0,none⟩) ks.length c)));have k1:=(hk.below hb0).at_ hi;have k2:=(hk.below hb0).len hi;have k3:=(hk.below hb0).dup hi;have hii:(i:Int)<(ks.length:Nat):=by omega
 have HP:=ae (λW=>bL nm size (some ⟨g,0,none⟩) ks.length c i (by omega) (by omega) W);have sY:=ae (λW (hb:Below w.heap.size w W)=>gX (h.below hb) ⟨(X.pre nm i).toArray⟩ (by omega));rw[show keysOf s.now ⟨(X.pre nm i).toArray⟩=(X.bQ ks i rows).map (X.aN nm ks i)from hX.con.gj (by omega) hX.rows (by omega) hi]at sY;have HX:=ae hX;have pV:=ae h;have gp:=ae hk;have H1:=ae (⟨h1,hi⟩:1≤i∧i<ks.length);have zr:(X.bQ ks i rows).length=rows.length:=X.qc ks i rows;have YJ:rows.length≤100000:=by
  have Fs:=hX.con.count hX.rows (by omega) bg.1 (by omega);have:=Nat.le_mul_of_pos_left rows.length (show 0<ks.length by omega);omega
 have GM:=ae YJ;clear YJ;clear h hX hk bg nA hrt Nr h1 hi dV hb0;generalize UD:(⟨(X.pre nm i).toArray⟩:ByteArray)=pp at HP sY;go_enter Tryz.func76,Tryz.ntmps76;go_wp2_with fail;refine(HP.out _).mono ?_;rintro e w1 ⟨rfl,hb1⟩;have JL:=ae (heap_alloc_new (w.alloc (er nm size (.slice (some ⟨g,0,none⟩) ks.length c))) (aP (X.aF ks i)));have bV:=ae (((cn.out.alloc cn.out.size (aP (X.aF ks i)))).trans (hb1.mono (cn.out.alloc cn.out.size (aP (X.aF ks i))).size));have sg:=ae (bp hb1 (bp ((ak _ (w.alloc (er nm size (.slice (some ⟨g,0,none⟩) ks.length c)))).alloc (aq _) (aP (X.aF ks i))) eH.out));have il:Hid (w1.heap[w.heap.size+1]? =some (aP (X.aF ks i))):=ae (by
  have h:=bp hb1 JL.out;rw[World.size_alloc]at h;exact h)
 have Qa:=HP;clear hb1 HP JL eH cn k1 k2 k3;go_wp2_with fail;refine(sY.out _ bV.out).mono ?_;rintro e w2 ⟨A,rfl,hst,ha,hb2,hA⟩;have QJ:=bV.out.trans (hb2.mono bV.out.size);rw[List.length_map]at*;have HST:=ae hst;have eu:Hid (AgI w nm size g c ks rows i (w.heap.size+1) w2.heap.size 0 [] (w2.alloc (.map #[] 0))):=ae ⟨QJ.alloc QJ.size _,bp ((ak _ w2).alloc (aq _) _) (bp hb2 sg.out),bp ((ak _ w2).alloc (aq _) _) (bp hb2 il.out),Np w2,(by
  have:=(ai (bp hb2 il.out)).1;exact⟨QJ.size,by omega,by omega⟩),λk hk=>by omega⟩
 clear hst ha hb2 hA sY QJ sg il bV;generalize w.heap.size+1=bx at eu⊢;have ME:=ae ((ak w2.heap.size w2).alloc (aq _) (.map #[] 0));have WI:= @run_makeMap Tryz.prog;go_wp2;have Wj:Hid (w2.heap.size≤w2.heap.size):=ae (aq _);generalize YK:w2.heap.size=bs at eu⊢;replace Wj:Hid (w2.heap.size≤bs):=ae (by rw[←YK];exact aq _);clear YK;clear WI;go_loopw [12,32] (fun t u W=>∃j:Nat,j≤rows.length∧u= .int .i64 j∧∃bf:J.B,t= .string ⟨bf.toArray⟩∧Hid (AgI w nm size g c ks rows i bx bs j bf W)∧Hid (Below w2.heap.size w2 W)) (fun _ u _=>rows.length - (intOf u).toNat)
 case atStart=>exact⟨0,Nat.zero_le _,rfl,[],rfl,eu,ME⟩
 case round=>
  obtain⟨j,hj,rfl,bf,rfl,HI,fF⟩:=hrel;clear eu ME;by_cases hlt:j<rows.length
  ·have pN:j<(X.bQ ks i rows).length:=(by rw[zr];exact hlt);have Fq:j<((X.bQ ks i rows).map (X.aN nm ks i)).length:=(by rw[List.length_map];exact pN);obtain⟨ga,rfl,Ns,cq⟩:=HST.out (by omega);have hce:=cq j Fq;rw[List.getElem_map]at hce;have hce:wr.cell? ⟨ga,j,none⟩=some (.string ⟨(X.aN nm ks i (X.bQ ks i rows)[j]).toArray⟩):=(fF.out.cell (p:=⟨ga,j,none⟩) Ns).trans hce;have fp:(X.bQ ks i rows)[j]∈rows:=(X.bt ks i _ rows).1 (List.getElem_mem pN);have hrg:(X.bQ ks i rows)[j]? =some (X.bQ ks i rows)[j]:=List.getElem?_eq_getElem pN;have UW:X.val ks 0 (X.bQ ks i rows)[j].b∉((X.bQ ks i rows).take j).map λr=>X.val ks 0 r.b:=X.UU HX.out.rows H1.out.2 pN;have UX:(X.aF ks i).dup=false→0<j→bf≠X.val ks i (X.bQ ks i rows)[j].b:=X.IW HX.out.rows H1.out pN HI.out.bf;have Yj:((X.bQ ks i rows).take (j+1)).map (λr=>X.val ks 0 r.b)=((X.bQ ks i rows).take j).map (λr=>X.val ks 0 r.b)++[X.val ks 0 (X.bQ ks i rows)[j].b]:=(by rw[List.take_succ_eq_append_getElem pN,List.map_append];rfl);have II:=ae Yj;have RZ:=ae hrg;have aW:=ae hlt;generalize(X.bQ ks i rows)[j]=r at hce fp UW UX II RZ;have JM:=HX.out.rows.fit r fp;have nT:=HX.out.ks.key _ (X.aU H1.out.2);have ej:=HX.out.ks.key _ (X.aU HX.out.ks.one.1);have hsz:=HX.out.ks.size;have bg:=HX.out.ks.one;have nA:=HX.out.nm;have vU:=HX.out.ct;have oU:(X.val ks i r.b).length=(X.aF ks i).len:=X.aV JM H1.out.2;have hv0:(X.val ks 0 r.b).length=(X.aF ks 0).len:=X.aV JM bg.1;have hpl:=X.gU nm i;have rr:(X.pre nm i).length+(X.aF ks i).len≤10000:=(by omega);have htp:=HX.out.rows.tp r fp i H1.out.1 H1.out.2;have hex:=X.UT (nm:=nm) (ks:=ks) (i:=i) (by have:=H1.out.1;omega) r;have rF:=(X.aR.1 JM).1;have vV:r.b≠[]:=λe=>by
    have h1:=(X.aR.1 JM).2 _ (X.aU bg.1);rw[e,List.length_nil]at h1;omega
   have HRB:=ae vV;have Ti:(X.aN nm ks i r).length=(X.pre nm i).length+(X.aF ks i).len+4:=(by rw[hex];simp[oU,R.dc];omega);have hsE:(⟨(X.aN nm ks i r).toArray⟩:ByteArray).size=(X.pre nm i).length+(X.aF ks i).len+4:=(by rw[bh];exact Ti);have hsP:pp.size=(X.pre nm i).length:=(by rw[←UD,bh]);have eG:=fU (X.aN nm ks i r) ((X.pre nm i).length+(X.aF ks i).len) (by omega);rw[show(X.aN nm ks i r).drop ((X.pre nm i).length+(X.aF ks i).len)=R.bI (r.t i)++[] by rw[hex,←List.append_assoc,←oU,←List.length_append,List.drop_left,List.append_nil]]at eG;have Qb:=ae (yU (n:=r.t i) (by omega) []);have xk:=ae (λW (hb:Below wr.heap.size wr W)=>sA nm size g c ks i (X.val ks i r.b++R.bI (r.t i)) W (gp.out.below (HI.out.bel.trans (hb.mono HI.out.bel.size))) H1.out.2 (by omega) (by omega) (by rw[List.length_append,oU];show(X.aF ks i).len≤_;omega) (by rw[List.length_append,oU,R.dc];omega));rw[←hex,show(X.val ks i r.b++R.bI (r.t i)).take (X.lens ks i)=X.val ks i r.b by show(X.val ks i r.b++R.bI (r.t i)).take (X.aF ks i).len=_;rw[←oU,List.take_left]]at xk;have UY:=HX.out.con.qD HX.out.rows fp;have OT:=ae (λW (hb:Below wr.heap.size wr W)=>sF (pV.out.below (HI.out.bel.trans (hb.mono HI.out.bel.size))) nm size (some ⟨g,0,none⟩) ks.length c i (X.val ks i r.b++R.bI (r.t i)) (X.val ks 0 r.b) (by omega) nA (by rw[List.length_append,oU,R.dc];omega) (by omega) (λe=>by have:=H1.out.1;omega) (λ_=>by rw[←hex,HX.out.con.uC HX.out.rows (by omega) (by have:=H1.out.1;omega) H1.out.2 fp];rfl) (λl hh=>by rw[UY]at hh;injection hh with hh;subst hh;omega));rw[←hex,UY]at OT;have IQ:=ae (λW v M (hv:Sl W M v r.b)=>cw (X.aF ks i) v r.b M W hv ((X.aR.1 JM).2 _ (X.aU H1.out.2)) (by omega));rw[show(X.aF ks i).val r.b=X.val ks i r.b from rfl]at IQ;have zw:=ae (λW (hb:Below wr.heap.size wr W)=>AP (pV.out.below (HI.out.bel.trans (hb.mono HI.out.bel.size))) nm size (some ⟨g,0,none⟩) ks.length c ct (by omega) HX.out.con.tim nA);have VX:¬((r.t i:Nat):Int)<1:=(by omega);have Js:¬(ct:Int)<((r.t i:Nat):Int):=(by omega);have HK:=ae (FZ (x:=X.val ks 0 r.b) (by omega));have RP:=ae (λW (hb:Below wr.heap.size wr W)=>IV (Nq HI.out.seen hb) UW (by omega));have SJ:=df (X.val ks i r.b) bf;have hbq:(X.aF ks i).dup=false→0<j→decide (X.val ks i r.b=bf)=false:=λh1 h2=>decide_eq_false (λe=>UX h1 h2 e.symm);have YL:=Qa;have eH:=ae (λW (hb:Below wr.heap.size wr W)=>bp hb HI.out.box);have JL:=ae (λW (hb:Below wr.heap.size wr W)=>bp hb HI.out.key);have wW:=YE (X.pre nm i).length (X.aF ks i).len rr;have hw2:=YF ((X.pre nm i).length+(X.aF ks i).len) rr;have BS:=UQ (X.pre nm i).length (X.aF ks i).len rr;have QK:=UR ((X.pre nm i).length+(X.aF ks i).len) rr;have hw3:=YG ((X.pre nm i).length+(X.aF ks i).len) rr;have hw4:=YH ((X.pre nm i).length+(X.aF ks i).len) rr;generalize(X.pre nm i).length+(X.aF ks i).len+4=N at hsE hw2 QK hw3 hw4;generalize(X.pre nm i).length+(X.aF ks i).len=Mm at eG wW BS hw2 QK hw3 hw4;generalize(X.pre nm i).length=PL at hsP wW BS;generalize(⟨(R.bI (r.t i)++[]).toArray⟩:ByteArray)=TS at eG Qb;generalize(⟨(X.aN nm ks i r).toArray⟩:ByteArray)=E at hce hsE eG xk OT;generalize hVS:(⟨(X.val ks i r.b).toArray⟩:ByteArray)=VS at xk IQ SJ;generalize hQS:(⟨(X.val ks 0 r.b).toArray⟩:ByteArray)=QS at OT HK RP;generalize(⟨bf.toArray⟩:ByteArray)=BF at SJ⊢;generalize r.t i=tr at Qb VX Js;have hnq:((N:Int) !=wrap64 (wrap64 ((PL:Int)+((X.aF ks i).len:Nat))+4))=false:=(by rw[wW,hw2];simp);have acI:((N:Int) !=IntKind.i64.wrap (IntKind.i64.wrap ((PL:Int)+((X.aF ks i).len:Nat))+4))=false:=(by rw[BS,QK];simp);clear rr JM nT ej hsz bg nA vU oU hv0 hpl htp hex rF vV Ti UY Yj UW UX Ns cq;have cn:=ae ((ak wr.heap.size wr).drew);go_upto_region 8 with fail;refine aK (.rd 0 (.rd 1 (.rd 2 (.rd 3 (.rd 6 (.rd 7 (.wr 4 (.rd 5 (.rd 8 (.rd 9 (.rd 10 .fin))))))))))) (λw'=>Below wr.heap.size wr w') (by kernel_rfl) (by kernel_rfl) (λc a d v w h=>by cases d<;>exact h) cn.out ?_;repeat
    refine az (v:= ?_) (by rfl) (by rfl) (λw' hS=> ?_) (λK hK=> ?_);rotate_left
    ·have dM:=aj w' w.heap.size (eH.out _ hS);have hkx:=aj w' bx (JL.out _ hS);clear hS;go_simp;try with_reducible rfl
    go_simp;refine hK _ ?_;clear hK K
   refine wpPm_write (by rfl) (λK hK=> ?_);go_simp;refine(YL.out _).mono ?_;rintro e V1 ⟨rfl,hb⟩;have bV:=ae (cn.out.trans (hb.mono cn.out.size));refine hK.out _ _ (λw'=>Below wr.heap.size wr w') (λ_ h=>h) bV.out ?_;clear hK K hb cn;repeat
    refine az (v:= ?_) (by rfl) (by rfl) (λw' hS=> ?_) (λK hK=> ?_);rotate_left
    ·have dM:=aj w' w.heap.size (eH.out _ hS);have hkx:=aj w' bx (JL.out _ hS);clear hS;go_simp;try with_reducible rfl
    go_simp;refine hK _ ?_;clear hK K
   show wpList _ _ _ _ _ _;have acJ:=aj V1 w.heap.size (eH.out _ bV.out);go_wp2_with fail;refine(OT.out _ bV.out).mono ?_;rintro e V2 ⟨v,rfl,hs,ha,hb⟩;have hs:bT V2 _ v r.b:=hs;obtain⟨bo,oo,rfl⟩:=vu hs HRB.out;have HSV:=ae hs.sl;have br:=ae (bV.out.trans (hb.mono bV.out.size));clear hs ha hb bV OT acJ;go_upto_region 11 with fail;have cX:=ae br.out.drew;refine aD 9 (.rd 0 (.rd 1 (.rd 2 (.rd 4 (.rd 5 (.rd 6 (.rd 7 (.rd 8 (.wr 3 .fin))))))))) (λw'=>Below wr.heap.size wr w') (by kernel_rfl) (by kernel_rfl) (λc a d v w h=>by cases d<;>exact h) cX.out ?_;repeat
    refine az (v:= ?_) (by rfl) (by rfl) (λw' hS=> ?_) (λK hK=> ?_);rotate_left
    ·have dM:=aj w' w.heap.size (eH.out _ hS);have hkx:=aj w' bx (JL.out _ hS);clear hS;go_simp;try with_reducible rfl
    go_simp;refine hK _ ?_;clear hK K
   refine wpPm_write (by rfl) (λK hK=> ?_);go_simp;refine(xk.out _ cX.out).mono ?_;rintro e V3 ⟨rfl,hb⟩;have eR:=ae (cX.out.trans (hb.mono cX.out.size));have YM:=ae (((ae HSV.out).out.step (Step.aI ((ak _ _).drew))).step (Step.aI hb));refine hK.out _ _ (λw'=>Below wr.heap.size wr w') (λ_ h=>h) eR.out ?_;clear hK K hb cX xk eG;show wpList _ _ _ _ _ _;go_wp2_with fail;refine(Qb.out _).mono ?_;rintro e V4 ⟨rfl,hb⟩;have ed:=ae (eR.out.trans (hb.mono eR.out.size));have YN:=ae (YM.out.step (Step.aI hb));have hlk:=RP.out _ ed.out;have hq:=λw=>run_eql_slice_nil (P:=Tryz.prog) w 40 5 (some ⟨bo,oo,none⟩) r.b.length r.b.length Tryz.underlying40;have Md:=aj V4 bx (JL.out _ ed.out);clear hb eR YM Qb;obtain⟨D,hD1,hD2⟩:=HI.out.seen;have HD2:=ae hD2;have HDX:=ae (λW (hb:Below wr.heap.size wr W)=>QI hD1 hb);have acL:(X.aF ks i).dup=true∨(X.aF ks i).dup=false:=(by cases(X.aF ks i).dup<;>simp);have hjc:j=0∨0<j:=(by omega);have xq:=ae (show j≤100000 by have:=GM.out;omega);clear hD1 hD2 BS QK acI hnq wW hw2 hw3 hw4 hsP;go_wp2_with fail;refine(IQ.out _ _ _ YN.out).mono ?_;rintro e V5 ⟨rfl,hb⟩;have jt:=ae (ed.out.trans (hb.mono ed.out.size));have acN:=aj V5 w.heap.size (eH.out _ jt.out);clear hb ed YN IQ hlk hq Md;go_wp2_with fail;refine(zw.out _ jt.out).mono ?_;rintro e V6 ⟨rfl,ha,hb⟩;have Mq:=ae (jt.out.trans (hb.mono jt.out.size));have Md:=aj V6 bx (JL.out _ Mq.out);clear ha hb jt zw acN;have Wn:=ae (HDX.out _ Mq.out);have uQ:Hid (∀W',V6.grownBy W' (some bs)→W'.ownsMap Tryz.prog 9 (plainElem (H:=Unit) Tryz.prog 4) bs (j+1) (D.put (.string (X.val ks 0 r.b)) (.lit (.bool true)))→AgI w nm size g c ks rows i bx bs (j+1) (X.val ks i r.b) W'∧Below w2.heap.size w2 W'):=ae (λW' hg ho=>by
    have rf:=HI.out.bel.trans (Mq.out.mono HI.out.bel.size);have vE:=HI.out.ge;have JN:=rf.grown hg rf.size (λk e=>by injection e with e;omega);have hw8:=(fF.out.trans (Mq.out.mono fF.out.size));refine⟨⟨JN,(hg.block _ (ai (eH.out _ Mq.out)).1 (λe=>vE.2.1 (by injection e with e;exact e.symm))).trans (eH.out _ Mq.out),(hg.block _ (ai (JL.out _ Mq.out)).1 (λe=>vE.2.2 (by injection e with e;exact e.symm))).trans (JL.out _ Mq.out),⟨_,ho,λy hy=> ?_⟩,vE,λk hk r' lL=> ?_⟩,hw8.grown hg hw8.size (λk e=>by injection e with e;have:=Wj.out;omega)⟩
    ·rw[II.out]at hy;rw[Maps.atKey_put_other (λe=>hy (List.mem_append_right _ (by injection e with e;rw[e];exact List.mem_singleton_self _)))];exact HD2.out y (λhm=>hy (List.mem_append_left _ hm))
    ·obtain rfl:k=j:=(by omega);rw[RZ.out]at lL;injection lL with lL;rw[lL])
   have HEV:=ae hVS;have nu:∀x,x=BF→True:=λ_ _=>trivial;clear hVS hQS nu;rcases acL with hd|hd
   ·rw[hd]at Md;clear SJ hbq hd hjc;go_wp2_with (at_mapUpdate;refine wpList_mapUpdate_own _ rfl _ _ _ 175 rfl 9 4 qi Tryz.underlying175 _ bs _ D rfl Wn.out (by have:=xq.out;unfold maxLen;omega) _ _ _ rfl rfl HK.out _ [] (plainElem_bool Tryz.underlying4 true) ?_);intro W9 hown hg;have hn:=uQ.out _ hg hown;have UC:=ae hn.1;have Im:=ae hn.2;clear hown hg hn uQ Wn;go_wp2;go_roundw
    case rel=>exact⟨_+1,aW.out,(by first|exact EC _ xq.out|rfl),X.val ks i r.b,by rw[HEV.out],UC,Im⟩
    case measure=>first|exact yX aW.out xq.out|exact vw aW.out
   ·rw[hd]at Md;rcases hjc with rfl|SM
    ·clear SJ hbq hd;go_wp2_with (at_mapUpdate;refine wpList_mapUpdate_own _ rfl _ _ _ 175 rfl 9 4 qi Tryz.underlying175 _ bs _ D rfl Wn.out (by have:=xq.out;unfold maxLen;omega) _ _ _ rfl rfl HK.out _ [] (plainElem_bool Tryz.underlying4 true) ?_);intro W9 hown hg;have hn:=uQ.out _ hg hown;have UC:=ae hn.1;have Im:=ae hn.2;clear hown hg hn uQ Wn;go_wp2;go_roundw
     case rel=>exact⟨_+1,aW.out,(by first|exact EC _ xq.out|rfl),X.val ks i r.b,by rw[HEV.out],UC,Im⟩
     case measure=>first|exact yX aW.out xq.out|exact vw aW.out
    ·have hjj:(0:Int)<(j:Nat):=(by omega);have agY:(VS.toList==BF.toList)=false:=(by rw[SJ];exact hbq hd SM);clear SJ hbq hd SM;go_wp2_with (at_mapUpdate;refine wpList_mapUpdate_own _ rfl _ _ _ 175 rfl 9 4 qi Tryz.underlying175 _ bs _ D rfl Wn.out (by have:=xq.out;unfold maxLen;omega) _ _ _ rfl rfl HK.out _ [] (plainElem_bool Tryz.underlying4 true) ?_);intro W9 hown hg;have hn:=uQ.out _ hg hown;have UC:=ae hn.1;have Im:=ae hn.2;clear hown hg hn uQ Wn;go_wp2;go_roundw
     case rel=>exact⟨_+1,aW.out,(by first|exact EC _ xq.out|rfl),X.val ks i r.b,by rw[HEV.out],UC,Im⟩
     case measure=>first|exact yX aW.out xq.out|exact vw aW.out
  ·obtain rfl:j=rows.length:=(by omega);have HE:=HI;go_wp2;go_ret;exact⟨rfl,HE.out.bel⟩
end
theorem acP (a b:Nat) (h:a+b≤1000000):wrap64 ((a:Int)+(b:Nat))=((a+b:Nat):Int):=by rw[IntWalk.wrap64_in _ (by omega)];omega
theorem YO (a b:Nat) (h:a+b≤1000000):IntKind.i64.wrap ((a:Int)+(b:Nat))=((a+b:Nat):Int):=by rw[IntKind.wrap_i64];omega
theorem SP (b:Nat) (h:b≤1000000):wrap64 (1+(b:Int))=((1+b:Nat):Int):=by rw[IntWalk.wrap64_in _ (by omega)];omega
theorem Nt (b:Nat) (h:b≤1000000):IntKind.i64.wrap (1+(b:Int))=((1+b:Nat):Int):=by rw[IntKind.wrap_i64];omega
theorem Nu (b:Nat) (h:b≤1000000):wrap64 ((b:Int)+1)=((b+1:Nat):Int):=by rw[IntWalk.wrap64_in _ (by omega)];omega
theorem UZ (b:Nat) (h:b≤1000000):IntKind.i64.wrap ((b:Int)+1)=((b+1:Nat):Int):=by rw[IntKind.wrap_i64];omega
theorem yY (j:Nat) (h:j≤1000000):Value.int .i64 (wrap64 ((j:Int)+1))= .int .i64 ((j+1:Nat):Int):=by rw[Nu j h]
theorem tN {j n:Nat} (h:j<n) (hj:j≤1000000):n - (intOf (Value.int .i64 (wrap64 ((j:Int)+1)))).toNat<n - (intOf (Value.int .i64 (j:Int))).toNat:=by
 rw[Nu j hj];simp only[intOf];omega
theorem qU {j n:Nat} (h:j<n):n - (intOf (Value.int .i64 ((j:Int)+1))).toNat<n - (intOf (Value.int .i64 (j:Int))).toNat:=by
 simp only[intOf];omega
theorem Va {nm:J.B} {ks:List X.Ky} (r:X.Row):X.aN nm ks 0 r=X.bS nm 0 (X.val ks 0 r.b) 0:=by
 unfold X.aN X.bS X.tail;rw[if_pos rfl,if_pos rfl]
section
variable {w0 : World} {p g c size ct : Nat} {nm : J.B} {ks : List X.Ky} {rows : List X.Row} {w w' : World} {s : J.St} {fs : List (Nat × Obj)}
structure Vb (w:World) (nm:J.B) (size g c bx:Nat) (ks:List X.Ky) (W:World):Prop where
 bel:Below w.heap.size w W
 box:W.heap[bx]? =some (er nm size (.slice (some ⟨g,0,none⟩) ks.length c))
 ky:dB W g ks
theorem Vb.below {w W W':World} {nm:J.B} {size g c bx:Nat} {ks:List X.Ky} (h:Vb w nm size g c bx ks W) (hb:Below W.heap.size W W'):Vb w nm size g c bx ks W':=
 ⟨h.bel.trans (hb.mono h.bel.size),bp hb h.box,h.ky.below hb⟩
theorem oK (h:At w0 p fs s w) (hn:yV nm) (hX:XF nm size ks rows ct s.now):
  Calls Tryz.prog 28 #[.pointer (some ⟨p,0,none⟩), .string ⟨nm.toArray⟩] w λe w'=>e= .returned (.int .i64 0)∧Below w.heap.size w w':=by
 have bg:=hX.ks.one;have Fs:=hX.con.count hX.rows (by have:=hX.ct;omega) bg.1 (by omega);have Nr:=hX.many;have SQ:rows.length≤100000:=by
  have:=Nat.le_mul_of_pos_left rows.length (show 0<ks.length by omega);omega
 have Nv:=ae (sf h hn hX.ks hX.con.own);have pV:=ae (λW (hb:Below w.heap.size w W)=>h.below hb);have HX:=ae hX;have JG:=ae hX.nm;have sY:=ae (λW (hb:Below w.heap.size w W)=>gX (h.below hb) ⟨(X.pre nm 0).toArray⟩ (by omega));rw[show keysOf s.now ⟨(X.pre nm 0).toArray⟩=(X.bQ ks 0 rows).map (X.aN nm ks 0)from hX.con.gj (by omega) hX.rows (by have:=hX.ct;omega) (by omega)]at sY;have HKA:=ae (λW (hb:Below w.heap.size w W)=>gX (h.below hb) ⟨(nm++[0]).toArray⟩ (by omega));rw[hX.con.uB]at HKA;have Sn:(s.now.map (·.1)).length=1+(if 0<ct then 1 else 0)+ks.length*rows.length:=by rw[List.length_map];exact Fs
 have HKN:=ae Sn;have zr:(X.bQ ks 0 rows).length=rows.length:=X.qc ks 0 rows;have Vc:=ae zr;have YL:=ae (λ(g c:Nat) W=>bL nm size (some ⟨g,0,none⟩) ks.length c 0 (by omega) (by have:=hX.nm;omega) W);have HGC:=ae (λW (hb:Below w.heap.size w W)=>fk (h.below hb) (X.cK nm) (by rw[X.ru];have:=hX.nm;omega) (λl hh=>by have:=hX.len _ _ hh;omega));rw[hX.con.tim]at HGC;have HUN:=ae (λW=>uD nm W (by have:=hX.nm;omega));have HUC:=ae (λW B (hB:W.heap.size=B)=>fJ nm [67] W B hB (by have:=hX.nm;omega) (by simp));rw[show nm++0::[67]=X.cK nm from rfl]at HUC;have eb:=ae SQ;generalize UD:(⟨(X.pre nm 0).toArray⟩:ByteArray)=pp at sY YL;generalize hpa:(⟨(nm++[0]).toArray⟩:ByteArray)=pa at HKA HUN;generalize hpc:(⟨(X.cK nm).toArray⟩:ByteArray)=pc at HGC HUC;clear h hn hX Fs Nr Sn zr UD hpa hpc SQ;go_enter Tryz.func28,Tryz.ntmps28;go_wp2_with fail;refine Nv.out.mono ?_;rintro e w1 ⟨g,c,rfl,hb1,hc1,hg1,fP⟩;have il:=ae fP;have bV:=ae hb1;have uk:=ae hg1;have HZ:=ae (heap_alloc_new w1 ia);clear hb1 hc1 hg1 fP Nv;go_wp2_with (refine wpList_store_row rfl _ _ 29 rfl w1.heap.size rfl [.string ⟨nm.toArray⟩, .int .i64 (size:Nat), .slice (some ⟨g,0,none⟩) ks.length c] rfl _ _ HZ.out rfl (by kernel_rfl) rfl ?_);intro W2 hr2 hg2 hz2;have hb2:=((ak w1.heap.size w1).alloc (aq _) ia).grown hg2 (by simp) (λk e=>by injection e with e;omega);have GR:Hid (Vb w nm size g c w1.heap.size ks W2):=ae ⟨bV.out.trans (hb2.mono bV.out.size),hr2,il.out.below hb2⟩;have dM:=aj W2 w1.heap.size hr2;clear hr2 hg2 hz2 hb2 HZ bV il;generalize w1.heap.size=bx at GR dM⊢;go_wp2_with fail;refine(YL.out g c W2).mono ?_;rintro e w3 ⟨rfl,hb3⟩;have HI3:=ae (GR.out.below hb3);clear hb3 dM GR YL;go_wp2_with fail;refine(sY.out _ HI3.out.bel).mono ?_;rintro e w4 ⟨A,rfl,hst,ha,hb4,hA⟩;have HI4:=ae (HI3.out.below hb4);have HST:=ae hst;have Fq:((X.bQ ks 0 rows).map (X.aN nm ks 0)).length=rows.length:=by rw[List.length_map];exact Vc.out
 rw[Fq];have wW:=SP rows.length (by have:=eb.out;omega);have BS:=Nt rows.length (by have:=eb.out;omega);clear hst ha hb4 hA sY HI3 Fq;go_wp2_with fail;go_loopw [34] (fun u W=>∃j:Nat,j≤rows.length∧u= .int .i64 j∧Hid (Vb w nm size g c bx ks W)∧Hid (Below w4.heap.size w4 W)) (fun u _=>rows.length - (intOf u).toNat)
 case atStart=>exact⟨0,Nat.zero_le _,rfl,HI4,ae (ak _ _)⟩
 case round=>
  obtain⟨j,hj,rfl,HI,fF⟩:=hrel;clear HI4 wW BS;by_cases hlt:j<rows.length
  ·have pN:j<(X.bQ ks 0 rows).length:=(by rw[Vc.out];exact hlt);have Fq:j<((X.bQ ks 0 rows).map (X.aN nm ks 0)).length:=(by rw[List.length_map];exact pN);obtain⟨ga,rfl,Ns,cq⟩:=HST.out (by omega);have hce:=cq j Fq;rw[List.getElem_map]at hce;replace hce:wr.cell? ⟨ga,j,none⟩=some (.string ⟨(X.aN nm ks 0 (X.bQ ks 0 rows)[j]).toArray⟩):=(fF.out.cell (p:=⟨ga,j,none⟩) Ns).trans hce;have fp:(X.bQ ks 0 rows)[j]∈rows:=(X.bt ks 0 _ rows).1 (List.getElem_mem pN);have aW:=ae hlt;have xq:=ae (show j≤1000000 by have:=eb.out;omega);generalize(X.bQ ks 0 rows)[j]=r at hce fp;rw[Va]at hce;have JM:=HX.out.rows.fit r fp;have nT:=HX.out.ks.key _ (X.aU HX.out.ks.one.1);have hsz:=HX.out.ks.size;have hv0:(X.val ks 0 r.b).length=(X.aF ks 0).len:=X.aV JM HX.out.ks.one.1;have rF:=(X.aR.1 JM).1;have LO:=(X.aR.1 JM).2 _ (X.aU HX.out.ks.one.1);have nA:=JG.out;have UY:=HX.out.con.qD HX.out.rows fp;have gT:=ae (λW (hb:Below w.heap.size w W)=>fk (pV.out W hb) (X.bS nm 0 (X.val ks 0 r.b) 0) (by have:=X.cR nm 0 (X.val ks 0 r.b) 0;omega) (λl hh=>by rw[UY]at hh;injection hh with hh;subst hh;omega));rw[UY]at gT;have td:=ae (λW (hb:Below wr.heap.size wr W) A cb=>nZ nm size g c ks A r.b.length cb W (HI.out.below hb).ky (by have:=HX.out.ks.one;omega) (λk hk=>by have:=HX.out.ks.key k hk;omega) r.b rfl);rw[JM]at td;have IQ:=ae (λW v M (hv:Sl W M v r.b)=>cw (X.aF ks 0) v r.b M W hv LO (by omega));rw[show(X.aF ks 0).val r.b=X.val ks 0 r.b from rfl]at IQ;have iq:=ae (λW=>dw nm size (some ⟨g,0,none⟩) ks.length c 0 0 (X.val ks 0 r.b) (by omega) (by omega) (by omega) (by omega) W);have eH:=ae (λW (hb:Below wr.heap.size wr W)=>(HI.out.below hb).box);have Cu:=ae (λW (hb:Below wr.heap.size wr W)=>(HI.out.below hb).ky);have Iu:(0:Int)<(ks.length:Nat):=(by have:=HX.out.ks.one;omega);have acS:0<ks.length:=HX.out.ks.one.1;have Dg:=ae acS;have vV:r.b≠[]:=λe=>by rw[e,List.length_nil]at LO;omega
   have HRB:=ae vV;have lf:(j:Int)<(rows.length:Nat):=(by omega);generalize hVS:(⟨(X.val ks 0 r.b).toArray⟩:ByteArray)=VS at IQ iq;generalize(⟨(X.bS nm 0 (X.val ks 0 r.b) 0).toArray⟩:ByteArray)=E at hce gT iq;clear pN Fq cq Ns fp JM nT hsz hv0 rF LO nA UY vV hVS hj;go_wp2_with fail;refine(gT.out _ HI.out.bel).mono ?_;rintro e V1 ⟨v,rfl,hs,ha,hb⟩;have hs:bT V1 _ v r.b:=hs;obtain⟨bo,oo,rfl⟩:=vu hs HRB.out;have HSV:=ae hs.sl;have bV:=ae hb;have eT:=ae hb.drew;have HSD:=ae (hs.sl.step (Step.aI ((ak V1.heap.size V1).drew)));clear hs ha hb hce gT HSV;go_upto_region 10 with fail;refine aK (.rd 0 (.rd 1 (.wr 2 (.rd 3 (.rd 4 (.rd 5 (.rd 6 (.rd 7 (.rd 8 (.rd 9 (.rd 10 (.rd 13 (.wr 11 (.wr 12 (.rd 14 (.rd 15 .fin)))))))))))))))) (λw'=>Below wr.heap.size wr w') (by kernel_rfl) (by kernel_rfl) (λc a d v w h=>by cases d<;>exact h) eT.out ?_;generalize V1.drew=V1d at eT HSD⊢
   iterate 2
    refine az (v:= ?_) (by rfl) (by rfl) (λw' hS=> ?_) (λK hK=> ?_);rotate_left
    ·have dM:=aj w' bx (eH.out _ hS);clear hS;go_simp;try with_reducible rfl
    go_simp;refine hK _ ?_;clear hK K
   refine wpPm_write (by rfl) (λK hK=> ?_);go_simp;refine(td.out _ eT.out _ _).mono ?_;rintro e V2 ⟨rfl,hb⟩;have br:=ae (eT.out.trans (hb.mono eT.out.size));have vP:=ae (HSD.out.step (Step.aI hb));refine hK.out _ _ (λw'=>Below wr.heap.size wr w') (λ_ h=>h) br.out ?_;clear hK K hb eT HSD
   iterate 9
    refine az (v:= ?_) (by rfl) (by rfl) (λw' hS=> ?_) (λK hK=> ?_);rotate_left
    ·have dM:=aj w' bx (eH.out _ hS);have k1:=(Cu.out _ hS).at_ Dg.out;have k2:=(Cu.out _ hS).len Dg.out;have k3:=(Cu.out _ hS).dup Dg.out;clear hS;go_simp;try with_reducible rfl
    go_simp;refine hK _ ?_;clear hK K
   refine wpPm_write (by rfl) (λK hK=> ?_);refine(if_pos (by rfl)).mpr ?_;go_simp;refine(IQ.out _ _ _ vP.out).mono ?_;rintro e V3 ⟨rfl,hb⟩;have cX:=ae (br.out.trans (hb.mono br.out.size));refine hK.out _ _ (λw'=>Below wr.heap.size wr w') (λ_ h=>h) cX.out ?_;clear hK K hb br vP;refine wpPm_write (by rfl) (λK hK=> ?_);refine(if_pos (by rfl)).mpr ?_;go_simp;refine(iq.out _).mono ?_;rintro e V4 ⟨rfl,hb⟩;have eR:=ae (cX.out.trans (hb.mono cX.out.size));refine hK.out _ _ (λw'=>Below wr.heap.size wr w') (λ_ h=>h) eR.out ?_;clear hK K hb cX
   iterate 2
    refine az (v:= ?_) (by rfl) (by rfl) (λw' hS=> ?_) (λK hK=> ?_);rotate_left
    ·clear hS;go_simp;try with_reducible rfl
    go_simp;refine hK _ ?_;clear hK K
   show wpList _ _ _ _ _ _;simp only[wpList];clear td IQ iq eH Cu;go_wp2;go_roundw
   case rel=>exact⟨j+1,aW.out,by first|exact yY j xq.out|rfl,ae (HI.out.below eR.out),ae (fF.out.trans (eR.out.mono fF.out.size))⟩
   case measure=>first|exact tN aW.out xq.out|exact qU aW.out
  ·obtain rfl:j=rows.length:=(by omega);have YP:=HI;clear HST hj fF;have wW:=SP rows.length (by have:=eb.out;omega);have BS:=Nt rows.length (by have:=eb.out;omega);have Sm:=ae (λ(W:World) (hb:Vb w nm size g c bx ks W) i h1 hi=>ED (c:=c) (pV.out W hb.bel) HX.out hb.ky i h1 hi);go_wp2_with fail;go_loopw [8,13] (fun t u W=>∃i a:Nat,1≤i∧i≤ks.length∧u= .int .i64 i∧t= .int .i64 a∧Hid (a=1+i*rows.length)∧Hid (Vb w nm size g c bx ks W)) (fun _ u _=>ks.length - (intOf u).toNat)
   case atStart=>exact⟨1,1+rows.length,aq _,bg.1,rfl,by first|rfl|rw[wW]|(simp),ae (by omega),YP⟩
   case round=>
    obtain⟨i,a,Lg,hi,rfl,rfl,HA,Cs⟩:=hrel;clear YP wW BS;have dM:=aj wr bx Cs.out.box;by_cases hlt:i<ks.length
    ·have hii:(i:Int)<(ks.length:Nat):=(by omega);have aW:=ae hlt;have xq:=ae (show i≤1000000 by omega);have hab:a+rows.length≤1000000:=by
      have h1:=HA.out;have h2:i*rows.length≤8*100000:=Nat.mul_le_mul (by omega) eb.out;have:=eb.out;omega
     have hw:=acP a rows.length hab;have hwk:=YO a rows.length hab;have YQ:=ae (Sm.out wr Cs.out i Lg hlt);have fE:Hid (a+rows.length=1+(i+1)*rows.length):=ae (by rw[HA.out,Nat.succ_mul];omega);clear hlt hi Lg hab;generalize a+rows.length=a2 at hw hwk fE;go_wp2_with fail;refine YQ.out.mono ?_;rintro e V5 ⟨rfl,hb⟩;have HI7:=ae (Cs.out.below hb);clear hb YQ dM Cs;go_wp2;go_roundw
     case rel=>exact⟨i+1,a2,by omega,aW.out,by first|exact yY i xq.out|rfl,by first|rfl|rw[hw],fE,HI7⟩
     case measure=>first|exact tN aW.out xq.out|exact qU aW.out
    ·obtain rfl:i=ks.length:=(by omega);have HI7:=Cs;have YR:=ae (HUC.out wr wr.heap.size rfl);have QL:Hid ((s.now.map (·.1)).length=a+(if 0<ct then 1 else 0)):=ae (by rw[HKN.out,HA.out];omega);have hab:a≤900001:=by
      have h1:=HA.out;have h2:ks.length*rows.length≤8*100000:=Nat.mul_le_mul (by omega) eb.out;omega
     have hw:=Nu a (by omega);have hwk:=UZ a (by omega);clear hlt hi Lg Sm HKN HA HUC hab;go_wp2_with fail;refine YR.out.mono ?_;rintro e V1 ⟨rfl,hb⟩;have Br:=ae (HI7.out.below hb);clear hb YR HI7 Cs dM;go_wp2_with fail;refine(HGC.out _ Br.out.bel).mono ?_;rintro e V2 ⟨v,rfl,hs,ha,hb⟩;have HI9:=ae (Br.out.below hb);have fc:=ae (HKA.out V2 HI9.out.bel);have YS:=ae (HUN.out V2);clear ha hb HGC Br HKA HUN;by_cases vU:0<ct
     ·rw[if_pos vU]at hs⊢;rw[if_pos vU]at QL;have hs:bT V2 _ v (R.bI ct):=hs;obtain⟨bo,oo,rfl⟩:=vu hs (λe=>by have:=R.dc ct;rw[e]at this;cases this);rw[R.dc];rw[QL.out]at fc;clear hs vU;go_wp2_with fail;refine YS.out.mono ?_;rintro e V3 ⟨rfl,rfl⟩;go_wp2_with fail;refine fc.out.mono ?_;rintro e V4 ⟨A4,rfl,hst,ha,hb,hA⟩;have Vd:=ae (HI9.out.below hb);clear hst ha hb hA;go_wp2;go_ret;exact⟨rfl,Vd.out.bel⟩
     ·rw[if_neg vU]at hs⊢;rw[if_neg vU,Nat.add_zero]at QL;rw[QL.out]at fc;have hs:bT V2 _ v []:=hs;have hse:v= .slice none 0 0∨∃b o,v= .slice (some ⟨b,o,none⟩) 0 0:=by
       rcases hs with⟨e,_⟩|⟨b,off,e,_⟩
       ·exact .inl e
       ·exact .inr ⟨b,off,e⟩
      clear hs vU;rcases hse with rfl|⟨bo,oo,rfl⟩
      all_goals
       go_wp2_with fail;refine YS.out.mono ?_;rintro e V3 ⟨rfl,rfl⟩;go_wp2_with fail;refine fc.out.mono ?_;rintro e V4 ⟨A4,rfl,hst,ha,hb,hA⟩;have Vd:=ae (HI9.out.below hb);clear hst ha hb hA;go_wp2;go_ret;exact⟨rfl,Vd.out.bel⟩
end
end Go.Proofs.YtipljcmmokaokaaGreat
