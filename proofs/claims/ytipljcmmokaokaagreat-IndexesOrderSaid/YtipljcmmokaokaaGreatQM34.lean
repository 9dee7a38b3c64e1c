import Derived.Test.YtipljcmmokaokaaGreatQM33
set_option linter.unusedVariables false
set_option linter.unusedSimpArgs false
set_option maxHeartbeats 8000000
namespace Go.Proofs.YtipljcmmokaokaaGreat
open Go.RowKit Go.Lib Go.Maps Go.WideMaps Go.Sort
set_option maxRecDepth 100000
theorem Tryz.IU:(Tryz.prog.info? 66).map (fun i=>(i.zero,i.size,i.bytes))=some (some (.agg #[.int .i64 0, .int .i64 0, .bool false]),3,24):=by kernel_rfl
def Df (n:Nat) (a l:Nat→Int) (d:Nat→Bool):List X.Ky:=(List.range n).map fun i=>⟨(a i).toNat,(l i).toNat,d i⟩
theorem ny (n:Nat) (a l:Nat→Int) (d:Nat→Bool):(Df n a l d).length=n:=by simp[Df]
theorem xI {n:Nat} {a l:Nat→Int} {d:Nat→Bool} {i:Nat} (hi:i<n):X.aF (Df n a l d) i=⟨(a i).toNat,(l i).toNat,d i⟩:=by
 unfold X.aF Df;rw[List.getD_eq_getElem?_getD,List.getElem?_map,List.getElem?_range hi];rfl
theorem IV {w:World} {g o n:Nat} {a l:Nat→Int} {d:Nat→Bool} (hz:sw w g o n a l d) (h0:∀i,i<n→0≤a i∧0≤l i):∀j u,(cJ (Df n a l d))[j]? =some u→w.cell? ⟨g,o+j,none⟩=some u:=by
 intro j u hu;have hj:j<n*3:=by
  have:=(List.getElem?_eq_some_iff.1 hu).1
  rwa [ou,ny]at this
 obtain⟨i,hi,e⟩:∃i,i<n∧(j=i*3∨j=i*3+1∨j=i*3+2):=⟨j/3,by omega,by omega⟩;obtain⟨g1,g2,g3⟩:=kJ (Df n a l d) i (by rw[ny];exact hi);obtain⟨p1,p2⟩:=h0 i hi;rw[xI hi]at g1 g2 g3;rcases e with rfl|rfl|rfl
 ·rw[g1]at hu;rw[←hu,hz.a i hi];simp only[Int.toNat_of_nonneg p1]
 ·rw[g2]at hu;rw[←hu,←Nat.add_assoc,hz.l i hi];simp only[Int.toNat_of_nonneg p2]
 ·rw[g3]at hu;rw[←hu,←Nat.add_assoc,hz.d i hi]
theorem zQ {nm:J.B} {z:Int} {n:Nat} {a l:Nat→Int} {d:Nat→Bool} (h:ov nm z n a l d=true):X.fQ (Df n a l d) z.toNat∧nm≠[]∧nm.length≤100∧(1≤z∧z≤4096)∧(1≤n∧n≤8)∧∀i,i<n→0≤a i∧0≤l i:=by
 unfold ov at h;simp only[Bool.and_eq_true,Bool.not_eq_true',Bool.or_eq_false_iff,decide_eq_false_iff_not,List.any_eq_false,List.mem_range]at h;obtain⟨⟨⟨⟨⟨⟨⟨⟨h1,h2⟩,h3⟩,h4⟩,h5⟩,h6⟩,h7⟩,h8⟩,h9⟩:=h;have hk:∀i,i<n→0≤a i∧1≤l i∧l i≤160∧a i≤z - l i:=fun i hi=>by
  have:=h9 i hi;unfold rp at this;simp only[Bool.or_eq_true,decide_eq_true_eq]at this;omega
 refine⟨⟨by rw[ny];omega,fun k QO=> ?_,by omega, ?_⟩,h1,by omega,by omega,by omega,fun i hi=>by have:=hk i hi;omega⟩
 ·unfold Df at QO;obtain⟨i,hi,rfl⟩:=List.mem_map.1 QO;have:=hk i (List.mem_range.1 hi);dsimp only;omega
 ·rw[xI (by omega)];exact h8
section
variable {w0 : World} {p : Nat} {w : World} {s : J.St} {fs : List (Nat × Obj)}
theorem IW (g0 o n c:Nat) (ks:List X.Ky) (hn:ks.length=n) (h1:1≤n∧n≤8) (hg:g0<w.heap.size) (hc:∀j u,(cJ ks)[j]? =some u→w.cell? ⟨g0,o+j,none⟩=some u):
  Calls Tryz.prog 38 #[.slice (some ⟨g0,o,none⟩) n c] w fun e w'=>∃g c',e= .returned (.slice (some ⟨g,0,none⟩) n c')∧Below w.heap.size w w'∧w.heap.size≤g∧n≤c'∧∃ok,w'.heap[g]? =some ok∧bI ok ks:=by
 have hi:=Tryz.IU;obtain⟨i0,hi,hz⟩:∃i0,Tryz.prog.info? 66=some i0∧(i0.zero,i0.size,i0.bytes)=(some (.agg #[.int .i64 0, .int .i64 0, .bool false]),3,24):=by
  cases h:Tryz.prog.info? 66 with
  |none=>rw[h]at hi;cases hi
  |some i=>rw[h]at hi;exact⟨i,rfl,by simpa using hi⟩
 obtain⟨hz0,hz1,hz2⟩:i0.zero=some (.agg #[.int .i64 0, .int .i64 0, .bool false])∧i0.size=3∧i0.bytes=24:=by simpa using hz
 have HO:=aa (World.ownsRow_lit (base:=w.heap.size) (e:=66) (size:=3) w #[] 0 (aj _) (by unfold maxLen;omega) rfl);have hb0:Below w.heap.size w (w.alloc (.cells #[] 66)):=(ai _ w).alloc (aj _) _;have vd:=aa (fun j u (hu:(cJ ks)[j]? =some u)=>(hb0.cell (p:=⟨g0,o+j,none⟩) hg).trans (hc j u hu));have j5:=aa hb0;have HL:=aa (show(cJ ks).length=n*3 by rw[ou,hn]);have hq:=fun w=>run_eql_slice_nil (P:=Tryz.prog) w 27 66 (some ⟨g0,o,none⟩) n c Tryz.underlying27;clear hc hb0 hz;go_enter Tryz.func38,Tryz.ntmps38;go_wp2_with (at_builtin;refine wpList_append_own_at _ rfl _ _ 27 rfl w.heap.size 66 i0 _ 3 24 Tryz.underlying27 hi hz0 hz1 hz2 rfl (by decide) _ 0 [] rfl HO.out ⟨g0,o,none⟩ n c (cJ ks) rfl HL.out (fun j u hu=>by rw[lq];exact vd.out j u hu) (y5 _) (by unfold maxLen;omega) (by omega) (by simp) ?_);intro v' w1 hown hg3 hnil hloc;have hb:=j5.out.grown hg3 j5.out.size (fun k e=>(HO.out.lt k e).1);rcases hown.2 with⟨_,h0⟩|⟨g,cap,cur,rfl,hbg,hgr,Fp,_,hcs,wE⟩
 ·omega
 ·have HB:=aa hb;have HK:Hid (bI (.cells cur 66 (0,0)) ks):=aa ⟨⟨cur,(0,0),rfl⟩,fun W g' hr=>⟨(ah hr).1,fun j u hu=>by
   have QA:j<n*3:=(by rw[←HL.out];exact(List.getElem?_eq_some_iff.1 hu).1);rw[cell_of_row W g' j _ _ _ hr,←Array.getElem?_toList];rw[←wE,List.getElem?_take]at hu;simp only[Nat.zero_add,QA,if_true]at hu;exact hu⟩⟩
  have HG:=aa hgr;clear hown hg3 hnil hloc hb hgr hcs wE HO vd j5 HL;go_wp2;go_ret;exact⟨g,cap,by simp,HB.out,hbg,by omega,_,HG.out,HK.out⟩
abbrev f0:Fv:=⟨0,false,0,[],false,false,[],false,[]⟩
theorem K9 (h:At w0 p fs s w) (nm:J.B) (z:Int) (g o n c:Nat) (a l:Nat→Int) (d:Nat→Bool) (hz:sw w g o n a l d) (hv:ov nm z n a l d=true):
  Calls Tryz.prog 11 #[.pointer (some ⟨p,0,none⟩), .agg #[.string ⟨nm.toArray⟩, .int .i64 z, .slice (some ⟨g,o,none⟩) n c]] w fun e w'=>∃pf g' c' ok,e= .returned (.tuple #[.pointer (some ⟨pf,0,none⟩), .int .i64 0])∧At w0 p ((pf,av p nm z.toNat g' n c' f0)::(g',ok)::fs) s w'∧bI ok (Df n a l d)∧n≤c'∧g'≠pf∧w.heap.size≤pf∧w.heap.size≤g':=by
 obtain⟨bh,CT,F9,hz1,Uh,NA⟩:=zQ hv;obtain⟨zn,rfl⟩:∃k:Nat,z=k:=⟨z.toNat,by omega⟩;rw[Int.toNat_natCast];have hb0:Below w.heap.size w (w.alloc (.cells #[.string ⟨nm.toArray⟩, .int .i64 (zn:Nat), .slice (some ⟨g,o,none⟩) n c] 29 (0,0))):=(ai _ w).alloc (aj _) _;have hz':sw (w.alloc (.cells #[.string ⟨nm.toArray⟩, .int .i64 (zn:Nat), .slice (some ⟨g,o,none⟩) n c] 29 (0,0))) g o n a l d:=
  ⟨by have:=hz.lt;simp;omega,fun i hi=>(hb0.cell (p:=⟨g,_,none⟩) hz.lt).trans (hz.a i hi),fun i hi=>(hb0.cell (p:=⟨g,_,none⟩) hz.lt).trans (hz.l i hi),fun i hi=>(hb0.cell (p:=⟨g,_,none⟩) hz.lt).trans (hz.d i hi)⟩
 have HV:=aa (uf nm (zn:Nat) (some ⟨g,o,none⟩) g o n c a l d _ (fun _=>⟨rfl,hz'⟩) (by omega) (by omega));rw[hv]at HV;have jw:=aa (fun W (hb:Below w.heap.size w W)=>IW (w:=W) g o n c (Df n a l d) (ny n a l d) Uh (aq hz.lt hb.size) (fun j u hu=>(hb.cell (p:=⟨g,o+j,none⟩) hz.lt).trans (IV hz NA j u hu)));have WN:=aa h;have j5:=aa hb0;have sR:=aa (heap_alloc_new w (.cells #[.string ⟨nm.toArray⟩, .int .i64 (zn:Nat), .slice (some ⟨g,o,none⟩) n c] 29 (0,0)));clear h hz hv bh NA hb0 hz';go_enter Tryz.func11,Tryz.ntmps11;go_wp2_with fail;refine HV.out.mono ?_;rintro e w1 ⟨rfl,hb⟩;have cH:=aa (j5.out.trans (hb.mono j5.out.size));have hr1:=(hb.block _ (ah sR.out).1).trans sR.out;have hc1:=fun j=>ag w1 w.heap.size j _ _ _ hr1;have eX:=aa hr1;clear hb HV j5 sR hr1;go_wp2_with fail;refine(jw.out _ cH.out).mono ?_;rintro e w2 ⟨g',c',rfl,hb,YQ,hcc,ok,lG,bq⟩;have bB:=aa hb;have hr2:=(hb.block _ (ah eX.out).1).trans eX.out;have hc2:=fun j=>ag w2 w.heap.size j _ _ _ hr2;have hz2:=az hr2;have dc:=aa hr2;have JL:=aa lG;have oM:=aa bq;have SF:=aa YQ;clear hb hc1 hr2 lG bq jw;go_upto_region 6 with fail;have N0:w.heap.size<w1.heap.size:=(ah eX.out).1;have WO:w.heap.size≠g':=by have:=SF.out;omega
 refine aG (fun Y=>Below w.heap.size w Y∧Y.heap[w.heap.size]? =some (.cells #[.string ⟨nm.toArray⟩, .int .i64 (zn:Nat), .slice (some ⟨g',0,none⟩) n c'] 29 (0,0))∧Y.heap[g']? =some ok) ⟨(cH.out.trans (bB.out.mono cH.out.size)).setCell (aj _) _,aC dc.out 2 (.slice (some ⟨g',0,none⟩) n c'),(Below.heap_setCell w2 _ _ g' (fun e=>WO e.symm)).trans JL.out⟩ ?_;rintro W5 ⟨jb,Hc,sQ⟩;have qN:=fun j=>ag W5 w.heap.size j _ _ _ Hc;have z7:g'<W5.heap.size:=(ah sQ).1;have Ae:=jb.alloc jb.size (av p nm zn g' n c' f0);have HF:=aa (WN.out.add Ae (gs:=[(W5.heap.size,av p nm zn g' n c' f0),(g',ok)]) (fun x hx=>by
  simp only[List.mem_cons,List.not_mem_nil,or_false]at hx;rcases hx with rfl|rfl
  ·exact⟨jb.size,heap_alloc_new W5 _⟩
  ·exact⟨by have:=SF.out;have:=cH.out.size;omega,(((ai _ W5).alloc (aj _) _).block _ z7).trans sQ⟩))
 have HZ:Hid (g'≠W5.heap.size∧w.heap.size≤W5.heap.size∧w.heap.size≤g'):=aa ⟨by omega,jb.size,by have:=SF.out;have:=cH.out.size;omega⟩;clear jb Hc sQ z7 Ae hc2 hz2 WN cH bB eX dc JL SF N0 WO;go_wp2;go_ret2;exact⟨_,g',c',ok,rfl,HF.out,oM.out,by omega,HZ.out.1,HZ.out.2.1,HZ.out.2.2⟩
end
theorem IY {w0 w:World} {p:Nat} {fs:List (Nat×Obj)} (h:At w0 p fs J.new w) (nm:J.B) (z:Int) (g o n c:Nat) (a l:Nat→Int) (d:Nat→Bool) (hz:sw w g o n a l d) (hv:ov nm z n a l d=true):
  Calls Tryz.prog 11 #[.pointer (some ⟨p,0,none⟩), .agg #[.string ⟨nm.toArray⟩, .int .i64 z, .slice (some ⟨g,o,none⟩) n c]] w fun e w'=>∃pf,e= .returned (.tuple #[.pointer (some ⟨pf,0,none⟩), .int .i64 0])∧IK w0 p pf nm 0 fs (X.M.new (Df n a l d) z.toNat) [[]] w'∧w.heap.size≤pf:=by
 obtain⟨bh,CT,F9,_⟩:=zQ hv;have Mb:∀x∈fs,x.1<w.heap.size:=fun x hx=>(ah (h.get hx)).1;refine(K9 h nm z g o n c a l d hz hv).mono ?_;rintro e w' ⟨pf,g',c',ok,rfl,ha,bq,hc,hne,h1,h2⟩;refine⟨pf,rfl,⟨J.new,f0,g',c',ok, ?_,X.N6 nm bh,⟨rfl,rfl,rfl,rfl,rfl,rfl,rfl,(fun e=>absurd rfl e),fun e=>by cases e⟩,bq, ?_,fun x hx=> ?_,fun x hx=> ?_,⟨F9,List.length_pos_iff.2 CT⟩⟩,h1⟩
 ·show At w0 p ((pf,av p nm z.toNat g' (Df n a l d).length c' f0)::(g',ok)::fs) J.new w';rw[ny];exact ha
 ·show(Df n a l d).length≤c';rw[ny];exact hc
 ·rcases ak hx with rfl|hx
  ·exact hne
  ·have:=Mb x hx;omega
 ·have:=Mb x hx;omega
section
variable {P : Program} {w : World}
theorem wp_store_row {o:Oper} {a:Act} {K:Act→World→Prop} {Q:Exit→Act→World→Prop}
  (x y:Operand) (ty:TypeId) (hop:o.op=Op.store ty x y) (g:Nat) (hx:a.eval x= .pointer (some ⟨g,0,none⟩)) (vs:List Value) (hy:a.eval y= .agg vs.toArray)
  (t:TypeId) (C:Array Value) (hg:w.heap[g]? =some (.cells C t (0,0))) (hC:C.size=vs.length) (hi:(P.info? ty).map (·.size)=some vs.length) (h1:(vs.all fun v=>v.oneCell')=true)
  (hK:∀w',w'.heap[g]? =some (.cells vs.toArray t (0,0))→w.grownBy w' (some g)→w'.heap.size=w.heap.size→K (a.put o.dst undef) w'):o.wp P a w K Q:=by
 have hcell:∀j,w.cell? ⟨g,j,none⟩=C[j]? :=fun j=>ag w g j C t (0,0) hg;have hst:=run_storeCells_cells (P:=P) g 0 vs 0 w (fun j hj=>by rw[hcell];simp[hC];omega) (fun j _=>by simp[World.frozen?,hg]) (fun v hv=>List.all_eq_true.1 h1 v hv);have hrun:(Instr.storeAt ty (.pointer (some ⟨g,0,none⟩)) (.agg vs.toArray)).run P w= .ok () (w.setCells g 0 vs):=by
  cases hq:P.info? ty with
  |none=>simp[hq]at hi
  |some i=>
   have hs:i.size=vs.length:=(by simpa [hq] using hi);simp[Instr.storeAt,Instr.sureAddr,storeVar,Sem.run_bind,sizeOf,typeInfo,hq,hs,Value.cells]
   simpa using hst
 obtain⟨C',Pv,XJ⟩:=lW g t (0,0) vs 0 w C hg;have S6:C'=vs.toArray:=by
  apply Array.ext_getElem?;intro j;have e:=ag (w.setCells g 0 vs) g j C' t (0,0) Pv;rw[←e];by_cases hj:j<vs.length
  ·have:=World.cell?_setCells_in g vs 0 w (fun j hj=>by rw[Nat.zero_add,hcell];simp[hC];omega) j hj;rw[Nat.zero_add]at this;rw[this];simp[hj]
  ·rw[e,Array.getElem?_eq_none (by omega)];simp;omega
 subst S6;have hb:=kg g vs 0 w;unfold Oper.wp;simp only[execOp,hop,hx,hy];have:=hK _ Pv hb.1 hb.2;simp only[Sem.run_bind,hrun,Result.andThen];exact this
end
theorem xJ {n:Nat} (h:n<4294967296) (t:J.B) (w:World):
  Calls Tryz.prog 114 #[.string ⟨(R.bF n++t).toArray⟩] w fun e w'=>e= .returned (.int .i64 (n:Nat))∧Below w.heap.size w w':=by
 have hv:R.wM (R.bF n)=n:=R.pU h;have:=GU (UInt8.ofNat (n/16777216)) (UInt8.ofNat (n/65536)) (UInt8.ofNat (n/256)) (UInt8.ofNat n) t w;rw[show R.wM [UInt8.ofNat (n/16777216),UInt8.ofNat (n/65536),UInt8.ofNat (n/256),UInt8.ofNat n]=n from hv]at this;exact this
def E2 (nm:J.B):Prop:=nm≠[]∧nm.length≤100∧decide (0≤Lib.indexByte nm 0)=false
theorem uK {nm:J.B} {size:Nat} {ks:List X.Ky} (hn:E2 nm) (hk:X.fQ ks size):ov nm (size:Nat) ks.length (fun i=>((X.aF ks i).at_:Nat)) (fun i=>((X.aF ks i).len:Nat)) (fun i=>(X.aF ks i).dup)=true:=by
 obtain⟨h1,h2,h3⟩:=hn;have h4:=hk.size;have h5:=hk.one;unfold ov;rw[decide_eq_false h1,decide_eq_false (show¬100<nm.length by omega),h3,decide_eq_false (show¬(size:Int)<1 by omega),decide_eq_false (show¬(4096:Int)<size by omega),decide_eq_false (show¬ks.length<1 by omega),decide_eq_false (show¬8<ks.length by omega)];dsimp only;rw[hk.first];simp only[Bool.or_false,Bool.not_false,Bool.true_and,Bool.not_eq_true',List.any_eq_false,List.mem_range];intro i hi;have h6:=hk.key _ (X.aR hi);unfold rp;simp only[Bool.or_eq_true,decide_eq_true_eq];omega
def iO (ks:List X.Ky) (k:Nat):J.B:=(ks.drop k).flatMap X.L0
theorem mB {ks:List X.Ky} {k:Nat} (h:k<ks.length):iO ks k=R.bF (X.aF ks k).at_++(R.bF (X.aF ks k).len++(uB (X.aF ks k).dup::iO ks (k+1))):=by
 unfold iO;have e:ks[k]=X.aF ks k:=by unfold X.aF;simp[h]
 rw[List.drop_eq_getElem_cons h,List.flatMap_cons,e];simp[X.L0,uB]
theorem IZ (ks:List X.Ky):iO ks ks.length=[]:=by unfold iO;rw[List.drop_length];rfl
theorem N7 {ks:List X.Ky} {k:Nat} (h:k<ks.length):iO ks k≠[]:=by
 rw[mB h];intro e;have:=congrArg List.length e;simp[R.df]at this
structure YR (S S4 S9:ByteArray) (a l:Nat) (d:Bool):Prop where
 ne:(S.toList==[])=false
 o1:∀w,Calls Tryz.prog 114 #[.string S] w fun e w'=>e= .returned (.int .i64 (a:Nat))∧Below w.heap.size w w'
 s4:∀w,(Instr.slice 9 (.string S) (some (.int .i64 4)) none none).run Tryz.prog w= .ok (.string S4) w
 o2:∀w,Calls Tryz.prog 114 #[.string S4] w fun e w'=>e= .returned (.int .i64 (l:Nat))∧Below w.heap.size w w'
 ix:∃z:Int,(∀w,(Instr.index 9 (.string S) (.int .i64 8)).run Tryz.prog w= .ok (.int .u8 z) w)∧(z==1)=d
 s9:∀w,(Instr.slice 9 (.string S) (some (.int .i64 9)) none none).run Tryz.prog w= .ok (.string S9) w
theorem YS {ks:List X.Ky} {size k:Nat} (bh:X.fQ ks size) (h:k<ks.length):∃S4,YR ⟨(iO ks k).toArray⟩ S4 ⟨(iO ks (k+1)).toArray⟩ (X.aF ks k).at_ (X.aF ks k).len (X.aF ks k).dup:=by
 have h6:=bh.key _ (X.aR h);have h7:=bh.size;have hl:=R.df (X.aF ks k).at_;have hl2:=R.df (X.aF ks k).len;have UD:(iO ks k).drop 4=R.bF (X.aF ks k).len++(uB (X.aF ks k).dup::iO ks (k+1)):=by
  rw[mB h,show 4=(R.bF (X.aF ks k).at_).length from hl.symm,List.drop_left]
 have YT:(iO ks k).drop 9=iO ks (k+1):=by
  rw[show 9=4+5 from rfl,←List.drop_drop,UD,show 5=(R.bF (X.aF ks k).len).length+1 by rw[hl2],List.drop_append];simp
 have hlen:9≤(iO ks k).length:=by rw[mB h];simp[hl,hl2];omega
 have FE:(iO ks k)[8]'(by omega)=uB (X.aF ks k).dup:=by
  have:(iO ks k)[8]? =some (uB (X.aF ks k).dup):=by
   rw[show 8=4+4 from rfl,←List.getElem?_drop,UD,show 4=(R.bF (X.aF ks k).len).length from hl2.symm,List.getElem?_append_right (Nat.le_refl _)];simp
  rw[List.getElem?_eq_getElem (by omega)]at this;injection this
 refine⟨⟨((iO ks k).drop 4).toArray⟩,⟨GV (N7 h),fun w=> ?_,fun w=>kB _ 4 (by omega) w,fun w=> ?_,⟨(uB (X.aF ks k).dup).toNat,fun w=> ?_, ?_⟩,fun w=> ?_⟩⟩
 ·rw[mB h];exact xJ (by omega) _ w
 ·rw[UD];exact xJ (by omega) _ w
 ·have:=iR (iO ks k) 8 (by omega) w;rw[FE]at this;exact this
 ·cases(X.aF ks k).dup<;>rfl
 ·have:=kB (iO ks k) 9 hlen w;rw[YT]at this;exact this
abbrev Ct (nm:J.B) (size:Nat) (v:Value):Obj:= .cells #[.string ⟨nm.toArray⟩, .int .i64 (size:Nat),v] 29 (0,0)
abbrev pM:Obj:= .cells #[.string ⟨#[]⟩, .int .i64 0, .slice none 0 0] 29 (0,0)
structure SG (w:World) (nm:J.B) (size:Nat) (ks:List X.Ky) (B k:Nat) (W:World) (v:Value):Prop where
 bel:Below w.heap.size w W
 row0:W.heap[w.heap.size]? =some pM
 row:W.heap[B]? =some (Ct nm size v)
 own:W.ownsRow w.heap.size 66 3 v k (cJ (ks.take k))
 ne:B≠w.heap.size∧w.heap.size≤B
theorem I0 {w W W1 W2:World} {nm:J.B} {size:Nat} {ks:List X.Ky} {B k:Nat} {v v':Value} (h:SG w nm size ks B k W v) (hk:k<ks.length) (hb:Below W.heap.size W W1) (hv':∃A n c,v'= .slice A n c)
  (ho:W2.ownsRow w.heap.size 66 3 v' (k+1) (cJ (ks.take k)++[.int .i64 ((X.aF ks k).at_:Nat), .int .i64 ((X.aF ks k).len:Nat), .bool (X.aF ks k).dup])) (hg:W1.grownBy W2 v.ownBlock):
  W2.heap[B]? =some (Ct nm size v)∧SG w nm size ks B (k+1) (W2.setCell ⟨B,2,none⟩ v') v':=by
 have Qj:=cW h.own hb;have hr1:=(hb.block B (ah h.row).1).trans h.row;have hz1:=(hb.block _ (ah h.row0).1).trans h.row0;have hr2:=uq Qj hr1 (by decide) hg;have hz2:=uq Qj hz1 (by decide) hg;have hb1:=h.bel.trans (hb.mono h.bel.size);have hb2:=hb1.grown hg hb1.size (fun j hj=>(h.own.lt j hj).1);have cA:B<W2.heap.size:=(ah hr2).1;have Ex:=ay (World.grownBy.refl W2 (some B)) 2 v';have e:ks[k]=X.aF ks k:=by unfold X.aF;simp[hk]
 refine⟨hr2,⟨hb2.setCell h.ne.2 _, ?_,aC hr2 2 v', ?_,h.ne⟩⟩
 ·exact(Ex.block _ (ah hz2).1 (fun e=>h.ne.1 (by injection e with e;exact e.symm))).trans hz2
 ·rw[List.take_succ_eq_append_getElem hk,y6,e];refine wk ho (fun j hj=>Ex.block j (ho.lt j hj).2 (fun e=> ?_));injection e with e;subst e;exact C6 ho hr2 (by decide) hj
section
variable {w : World} {nm : J.B} {size : Nat} {ks : List X.Ky}
theorem I1 (hn:E2 nm) (bh:X.fQ ks size) (A:Option Addr) (c:Nat) (M:Nat→Prop) (hy:By w M A (X.attr size ks).length (X.attr size ks)) (Bj:(X.attr size ks).length≤c):
  Calls Tryz.prog 113 #[.string ⟨nm.toArray⟩, .slice A (X.attr size ks).length c] w fun e w'=>∃g c',e= .returned (.tuple #[mq nm size (.slice (some ⟨g,0,none⟩) ks.length c'), .bool true])∧Below w.heap.size w w'∧ks.length≤c'∧w.heap.size≤g∧eY w' g ks:=by
 have ES:=X.jE size ks;have hsz:=bh.size;have aN:=bh.one;obtain⟨b0,o0,rfl,hb0,_,hcell⟩:=hy.2 (by omega);have hx0:w.cell? ⟨b0,o0,none⟩=some (.int .u8 2):=by
  have:=hcell 0 (by omega);exact this
 have yM:=aa (fun k (h:k<ks.length)=>YS bh h);have Qc:(⟨(iO ks ks.length).toArray⟩:ByteArray)=⟨#[]⟩:=by rw[IZ]
 have MK:=aa Qc;have oF:=aa (xJ (n:=size) (by omega) (iO ks 0));have N8:(⟨(R.bF size++iO ks 0).toArray⟩:ByteArray).extract 4 (4+(iO ks 0).length)=⟨(iO ks 0).toArray⟩:=by
  rw[ByteArray.extract_mk,show 4=(R.bF size).length from(R.df size).symm,List.drop_left,Nat.add_sub_cancel_left,List.take_length]
 have hdr:(X.attr size ks).drop 1=R.bF size++iO ks 0:=rfl;have YU:=aa (uK hn bh);have sD:=aa hn.2.1;have YV:=aa bh;have HY:=aa hy;clear hn bh hcell Qc;generalize hN:(X.attr size ks).length=N at*;have n1:¬(N:Int)<5:=by omega
 have w1:wrap64 ((N:Int) - 1)=(N:Int) - 1:=IntWalk.wrap64_in _ (by omega);have w2:wrap64 ((N:Int) - 1 - 4)=(N:Int) - 1 - 4:=IntWalk.wrap64_in _ (by omega);have n2:(((N:Int) - 1 - 4).tmod 9 !=0)=false:=by
  rw[show(N:Int) - 1 - 4=((9*ks.length:Nat):Int) by omega,show((9*ks.length:Nat):Int).tmod 9=((9*ks.length%9:Nat):Int)from rfl];simp
 have n3:((N:Int) - 1 - 4)%9=0:=by rw[show(N:Int) - 1 - 4=9*(ks.length:Int) by omega];omega
 have O9:=aa ES;have NB:=aa (show 1≤N by omega);have ZQ:1≤ks.length:=aN.1;have WQ:=aa aN;clear ES aN hsz;go_enter Tryz.func113,Tryz.ntmps113;go_upto_region 3 with fail;go_wp2_with (refine yo rfl _ _ rfl (some ⟨b0,o0,none⟩) N c rfl 1 rfl NB.out Bj ?_);intro A1 WR;have J3:By (w.alloc pM) M A1 (N - 1) (R.bF size++iO ks 0):=by
  have:=WR.out (w.alloc pM) M _ (HY.out.alloc pM);rw[List.take_of_length_le (by rw[hN];exact Nat.le_refl _),hdr]at this;exact this
 go_wp2_with (refine o5 rfl _ rfl A1 (N - 1) (c - 1) rfl (by simpa using J3) ?_);have kT:(⟨(R.bF size++iO ks 0).toArray⟩:ByteArray).size=4+(iO ks 0).length:=by rw[bu];simp[R.df]
 generalize(⟨(R.bF size++iO ks 0).toArray⟩:ByteArray)=S0 at oF N8 kT⊢;have UE:=aa N8;clear N8;have hb0:Below w.heap.size w (w.alloc pM):=(ai _ w).alloc (aj _) _;have j5:=aa hb0;have sR:=aa (heap_alloc_new w pM);clear J3 WR hx0 n1 n2 n3 w1 w2 hb0 hdr;go_wp2_with fail;refine(oF.out _).mono ?_;rintro e w1 ⟨rfl,hb1⟩;have cH:=aa (j5.out.trans (hb1.mono j5.out.size));have eX:=aa ((hb1.block _ (ah sR.out).1).trans sR.out);clear hb1 oF j5 sR;have HZ:=aa (heap_alloc_new w1 pM);go_wp2_with (refine wpList_store_row rfl _ _ 29 rfl w1.heap.size rfl [.string ⟨nm.toArray⟩, .int .i64 (size:Nat), .slice none 0 0] rfl _ _ HZ.out rfl (by kernel_rfl) rfl ?_);intro W3 hrow hg UF;have hbl:w.heap.size<w1.heap.size:=(ah eX.out).1;have hb3:=((ai w1.heap.size w1).alloc (aj _) pM).grown hg (by simp) (fun k e=>by injection e with e;omega);have ib:Hid (SG w nm size ks w1.heap.size 0 W3 (.slice none 0 0)):=aa ⟨cH.out.trans (hb3.mono cH.out.size),(hb3.block _ hbl).trans eX.out,hrow,World.ownsRow_nil _ _ _ _,by omega,by omega⟩;generalize w1.heap.size=B at ib HZ hbl⊢;clear hrow hg UF HZ eX cH hb3 hbl;go_wp2;obtain⟨i0,hi,hz0,hz1,hz2⟩:=info_parts Tryz.IU;go_loopw [6] (fun t W=>∃k:Nat,k≤ks.length∧t= .string ⟨(iO ks k).toArray⟩∧∃v,Hid (SG w nm size ks B k W v)) (fun t _=>match t with| .string b=>b.size|_=>0)
 case atStart=>exact⟨0,Nat.zero_le _,by rw[UE.out],_,ib⟩
 case round=>
  obtain⟨k,hk,rfl,v,HI⟩:=hrel;clear ib;by_cases hlt:k<ks.length
  ·obtain⟨S4,qQ⟩:=yM.out k hlt;obtain⟨z,rA,hzd⟩:=qQ.ix;have hne:=qQ.ne;have Bw:=qQ.s4;have WS:=qQ.s9;have oU:=aa qQ.o1;have kx:=aa qQ.o2;have wV:Hid ((⟨(iO ks (k+1)).toArray⟩:ByteArray).size<(⟨(iO ks k).toArray⟩:ByteArray).size):=aa (by
    rw[bu,bu,mB hlt];simp;omega)
   have a7:=aa hlt;obtain⟨Av,nv,cv,rfl⟩:=cF HI.out.own;generalize WT:(⟨(iO ks (k+1)).toArray⟩:ByteArray)=S9 at WS wV⊢;have Ei:=aa WT;clear WT;generalize(⟨(iO ks k).toArray⟩:ByteArray)=S at hne Bw WS rA oU wV⊢;have Am:Hid (X.aF ks k=X.aF ks k):=aa rfl;clear qQ;have EJ:=aa (fun w' (hS:Below wr.heap.size wr w')=>(hS.block B (ah HI.out.row).1).trans HI.out.row);have qG:=aa (fun W1 W2 v' (hb:Below wr.heap.size wr W1) hv' ho hg=>I0 (W1:=W1) (W2:=W2) (v':=v') HI.out hlt hb hv' ho hg);have HOW:=aa (fun W1 (hb:Below wr.heap.size wr W1)=>cW HI.out.own hb);have om:=aa HI.out.bel.size;have SE:k≤8:=(by have:=WQ.out;omega);generalize X.aF ks k=ky at oU kx hzd qG;obtain⟨ka,kl,kd⟩:=ky;dsimp only at oU kx hzd qG;go_upto_region 8 with fail;refine aA 12 (.rd 0 (.rd 1 (.rd 2 (.rd 4 (.rd 5 (.rd 7 (.rd 8 (.rd 9 (.wr 3 (.wr 6 (.rd 10 (.wr 11 .fin)))))))))))) (fun w'=>Below wr.heap.size wr w') (by kernel_rfl) (by kernel_rfl) (fun c a d v w h=>by cases d<;>exact h) ((ai _ wr).drew) ?_;repeat
    refine aw (v:= ?_) (by rfl) (by rfl) (fun w' hS=> ?_) (fun K hK=> ?_);rotate_left
    ·have hc:=fun j=>ag w' B j _ _ _ (EJ.out w' hS);clear hS;go_simp;try with_reducible rfl
    go_simp;refine hK _ ?_;clear hK K
   refine wpPm_write (by rfl) (fun K hK=> ?_);go_simp;refine(oU.out _).mono ?_;rintro e V1 ⟨rfl,hb⟩;have cH:=aa (((ai wr.heap.size wr).drew).trans hb);refine hK.out _ _ (fun w'=>Below wr.heap.size wr w') (fun _ h=>h) cH.out ?_;clear hK K hb oU;refine wpPm_write (by rfl) (fun K hK=> ?_);go_simp;refine(kx.out _).mono ?_;rintro e V2 ⟨rfl,hb⟩;have bB:=aa (cH.out.trans (hb.mono cH.out.size));refine hK.out _ _ (fun w'=>Below wr.heap.size wr w') (fun _ h=>h) bB.out ?_;clear hK K hb kx cH;repeat
    refine aw (v:= ?_) (by rfl) (by rfl) (fun w' hS=> ?_) (fun K hK=> ?_);rotate_left
    ·have hc:=fun j=>ag w' B j _ _ _ (EJ.out w' hS);clear hS;go_simp;try with_reducible rfl
    go_simp;refine hK _ ?_;clear hK K
   refine wpPm_write (by rfl) (fun K hK=> ?_);go_simp;have cO:=aa (bB.out.alloc bB.out.size (.cells #[.int .i64 (ka:Nat), .int .i64 (kl:Nat), .bool kd] 66));refine hK.out _ _ (fun w'=>Below wr.heap.size wr w') (fun _ h=>h) cO.out ?_;clear hK K;show wpList _ _ _ _ _ _;have FH:=aa (HOW.out _ cO.out);have vd:=aa (World.news_of_block (heap_alloc_new V2 (.cells #[.int .i64 (ka:Nat), .int .i64 (kl:Nat), .bool kd] 66)));have Q8:w.heap.size≤(V2.alloc (.cells #[.int .i64 (ka:Nat), .int .i64 (kl:Nat), .bool kd] 66)).heap.size:=au om.out cO.out.size;refine wpList_append_own_at _ rfl _ _ 27 rfl w.heap.size 66 i0 _ 3 24 Tryz.underlying27 hi hz0 hz1 hz2 rfl (by decide) _ k (cJ (ks.take k)) rfl FH.out ⟨V2.heap.size,0,none⟩ 1 1 [.int .i64 (ka:Nat), .int .i64 (kl:Nat), .bool kd] rfl rfl vd.out (by intro u hu;simp only[List.mem_cons,List.not_mem_nil,or_false]at hu;rcases hu with rfl|rfl|rfl<;>rfl) (by unfold maxLen;omega) (by omega) Q8 ?_;intro v' w4 hown hg hnil hloc;obtain⟨A',n',c',rfl⟩:=cF hown;obtain⟨hr4,Gn⟩:=qG.out _ _ _ cO.out ⟨_,_,_,rfl⟩ hown hg;have ly:=fun j=>ag w4 B j _ _ _ hr4;have ZR:=az hr4;have Tt:=aa Gn;clear hr4 Gn hown hg hnil hloc FH vd Q8 cO bB qG HOW EJ om;go_wp2;go_roundw
   case rel=>exact⟨k+1,a7.out,by rw[Ei.out],_,Tt⟩
   case measure=>exact wV.out
  ·obtain rfl:k=ks.length:=(by omega);rw[MK.out];obtain⟨hl,⟨e,h0⟩|⟨g,cap,cur,rfl,hbg,hgr,Fp,hcm,hcs,wE⟩⟩:=HI.out.own
   ·omega
   rw[List.take_length]at wE;have La:eY wr g ks:=⟨(ah hgr).1,fun j u hu=>by
    have QA:j<ks.length*3:=(by rw[←ou];exact(List.getElem?_eq_some_iff.1 hu).1);rw[cell_of_row wr g j _ _ _ hgr,←Array.getElem?_toList];rw[←wE,List.getElem?_take]at hu;simp only[QA,if_true]at hu;exact hu⟩
   have Q9:g≠w.heap.size:=fun e=>by
    have h1:=HI.out.row0;rw[←e,hgr]at h1;injection h1 with h1;injection h1 with _ h1;exact absurd h1 (by decide)
   have WU:=aa (⟨Q9,hbg⟩:g≠w.heap.size∧w.heap.size≤g);have dK:=aa (fun W (hb:Below wr.heap.size wr W)=>La.below hb);have E3:=aa (fun W (hb:Below wr.heap.size wr W)=>uf nm (size:Nat) (some ⟨g,0,none⟩) g 0 ks.length cap _ _ _ W (fun _=>⟨rfl,(La.below hb).z⟩) (by have:=sD.out;omega) (by have:=WQ.out;omega));rw[YU.out]at E3;have nO:=aa (fun W (hb:Below wr.heap.size wr W)=>pG nm size g cap ks W (La.below hb) YV.out);rw[hN]at nO;have WW:=aa (fun W (hb:Below wr.heap.size wr W)=>(HY.out.below (HI.out.bel.trans (hb.mono HI.out.bel.size))).weak (M':=bL) (fun _ h=>h.elim));have EJ:=aa (fun W (hb:Below wr.heap.size wr W)=>(hb.block B (ah HI.out.row).1).trans HI.out.row);have WX:=aa (fun W (hb:Below wr.heap.size wr W)=>(hb.block _ (ah HI.out.row0).1).trans HI.out.row0);have VJ:=aa Fp;have Sh:=aa HI.out.bel;have kO:=aa HI.out.ne;clear hl hbg hgr Fp hcm hcs wE La Q9 yM MK hi hz0 hz1 hz2;go_upto_region 9 with fail;have j5:=aa ((ai wr.heap.size wr).drew);refine aA 10 (.rd 0 (.rd 1 (.wr 2 (.rd 3 (.rd 4 (.rd 6 (.wr 5 (.wr 7 (.rd 8 (.wr 9 .fin)))))))))) (fun w'=>w'.heap[B]? =some (Ct nm size (.slice (some ⟨g,0,none⟩) ks.length cap))) (by kernel_rfl) (by kernel_rfl) (fun c a d v w h=>by cases d<;>exact h) (EJ.out _ j5.out) ?_;repeat
    refine aw (v:= ?_) (by rfl) (by rfl) (fun w' hS=> ?_) (fun K hK=> ?_);rotate_left
    ·have hc:=fun j=>ag w' B j _ _ _ hS;clear hS;go_simp;try with_reducible rfl
    go_simp;refine hK _ ?_;clear hK K
   refine wpPm_write (by rfl) (fun K hK=> ?_);go_simp;refine(E3.out _ j5.out).mono ?_;rintro e V1 ⟨rfl,hb⟩;have cH:=aa (j5.out.trans (hb.mono j5.out.size));refine hK.out _ _ (fun w'=>w'.heap[B]? =some (Ct nm size (.slice (some ⟨g,0,none⟩) ks.length cap))) (fun _ h=>h) (EJ.out _ cH.out) ?_;clear hK K hb E3;repeat
    refine aw (v:= ?_) (by rfl) (by rfl) (fun w' hS=> ?_) (fun K hK=> ?_);rotate_left
    ·have hc:=fun j=>ag w' B j _ _ _ hS;clear hS;go_simp;try with_reducible rfl
    go_simp;refine hK _ ?_;clear hK K
   refine wpPm_write (by rfl) (fun K hK=> ?_);go_simp;refine(nO.out _ cH.out).mono ?_;rintro e V2 ⟨vb,rfl,NF,hb⟩;obtain⟨Ab,cb,rfl,hcb,WY⟩:=kf (M:=bL) NF (fun _ h=>h.elim);have bB:=aa (cH.out.trans (hb.mono cH.out.size));have WZ:=aa WY;refine hK.out _ _ (fun w'=>w'.heap[B]? =some (Ct nm size (.slice (some ⟨g,0,none⟩) ks.length cap))) (fun _ h=>h) (EJ.out _ bB.out) ?_;clear hK K hb NF WY hcb nO;refine wpPm_write (by rfl) (fun K hK=> ?_);go_simp;refine(nR _ _ _ _ _ _ (X.attr size ks) (X.attr size ks) _ bL bL WZ.out (WW.out _ bB.out)).mono ?_;rintro e V3 ⟨rfl,rfl⟩;rw[beq_self_eq_true];refine hK.out _ _ (fun w'=>w'.heap[B]? =some (Ct nm size (.slice (some ⟨g,0,none⟩) ks.length cap))) (fun _ h=>h) (EJ.out _ bB.out) ?_;clear hK K WZ WW;repeat
    refine aw (v:= ?_) (by rfl) (by rfl) (fun w' hS=> ?_) (fun K hK=> ?_);rotate_left
    ·have hc:=fun j=>ag w' B j _ _ _ hS;clear hS;go_simp;try with_reducible rfl
    go_simp;refine hK _ ?_;clear hK K
   refine wpPm_write (by rfl) (fun K hK=> ?_);refine(if_pos (by rfl)).mpr ?_;refine wp_store_row _ _ 29 (by rfl) w.heap.size (by rfl) [.string ⟨nm.toArray⟩, .int .i64 (size:Nat), .slice (some ⟨g,0,none⟩) ks.length cap] (by rfl) _ _ (WX.out _ bB.out) rfl (by kernel_rfl) rfl ?_;intro W9 Ra se vE;have UG:=aa Ra;have SH:=dK.out _ bB.out;have Pe:Hid (eY W9 g ks):=aa ⟨by rw[vE];exact SH.1,fun j u hu=>(World.cell?_of_block (se.block g SH.1 (fun e=>WU.out.1 (by injection e)))).trans (SH.2 j u hu)⟩;have C0:=Sh.out.trans (bB.out.mono Sh.out.size);have Cb:=aa (C0.grown se C0.size (fun k e=>by injection e with e;omega));refine hK.out _ _ (fun w'=>w'.heap[B]? =some (Ct nm size (.slice (some ⟨g,0,none⟩) ks.length cap))) (fun _ h=>h) ((se.block B (ah (EJ.out _ bB.out)).1 (fun e=>kO.out.1 (by injection e))).trans (EJ.out _ bB.out)) ?_;clear hK K Ra SH C0 se vE dK EJ WX bB cH j5;show wpList _ _ _ _ _ _;go_wp2_with fail;refine bodyPost_ret (nD rfl _ _ w.heap.size _ _ _ _ rfl UG.out Tryz.underlying29 rfl (by kernel_rfl)) rfl ?_;exact⟨g,cap,rfl,Cb.out,VJ.out,WU.out.2,Pe.out⟩
end
section
variable {w0 : World} {p : Nat} {w : World} {s : J.St} {fs : List (Nat × Obj)} {nm : J.B} {size : Nat} {ks : List X.Ky}
theorem Lb (nm:J.B):nm++0::[65]=X.own nm:=rfl
theorem bV {w1 w2:World} {b:Nat} {o:Obj} (hb:Below w1.heap.size w1 w2) (h:w1.heap[b]? =some o):w2.heap[b]? =some o:=(hb.block b (ah h).1).trans h
theorem E4 (h:At w0 p fs s w) (hn:E2 nm) (bh:X.fQ ks size) (hl:J.look s.now (X.own nm)=some (X.attr size ks)):
  Calls Tryz.prog 75 #[.pointer (some ⟨p,0,none⟩), .string ⟨nm.toArray⟩] w fun e w'=>∃g c',e= .returned (.tuple #[mq nm size (.slice (some ⟨g,0,none⟩) ks.length c'), .int .i64 0])∧Below w.heap.size w w'∧ks.length≤c'∧w.heap.size≤g∧eY w' g ks:=by
 have Wf:=hn.2.1;have ES:=X.jE size ks;have SE:=bh.one;have HB:=aa ((ai _ w).alloc (aj _) pM);have HU:=aa (gA nm [65] (w.alloc pM) (w.heap.size+1) (by simp) (by omega) (by simp));rw[Lb]at HU;have HG:=aa (fun w1 (hb:Below w.heap.size w w1)=>dJ (h.below hb) (X.own nm) (by rw[X.kW];omega) (fun l hh=>by rw[hl]at hh;injection hh with hh;subst hh;omega));rw[hl]at HG;have sR:=aa (heap_alloc_new w pM);have sD:=aa hn;have dK:=aa bh;clear h hl hn bh Wf ES SE;go_enter Tryz.func75,Tryz.ntmps75;go_wp2_with fail;refine HU.out.mono ?_;rintro e w1 ⟨rfl,hb⟩;have bB:=aa (HB.out.trans (hb.mono HB.out.size));have eX:=aa (bV hb sR.out);clear hb HU HB sR;go_wp2_with fail;refine(HG.out _ bB.out).mono ?_;rintro e w2 ⟨v,rfl,hs,ha,hb3⟩;have hs:cE w2 _ v (X.attr size ks):=hs;obtain⟨A2,c2,rfl,hc2,hby⟩:=hs.sl.by
 have cO:=aa (bB.out.trans (hb3.mono bB.out.size));have dc:=aa (bV hb3 eX.out);have uG:=aa (I1 sD.out dK.out A2 c2 _ hby hc2);clear hs ha hb3 hby hc2 HG bB eX;generalize(X.attr size ks).length=N at uG⊢;go_wp2_with fail;refine uG.out.mono ?_;rintro e w3 ⟨g,c3,rfl,hb4,hc3,hg3,hk3⟩;have jV:=aa (cO.out.trans (hb4.mono cO.out.size));have JR:=aa (bV hb4 dc.out);have I2:=aa hk3;have vO:=aa (au cO.out.size hg3);have Ts:=aa hc3;have HZ:=aa (heap_alloc_new w3 pM);clear hb4 hc3 hg3 hk3 uG cO dc;go_wp2_with (refine wpList_store_row rfl _ _ 29 rfl w3.heap.size rfl [.string ⟨nm.toArray⟩, .int .i64 (size:Nat), .slice (some ⟨g,0,none⟩) ks.length c3] rfl _ _ HZ.out rfl (by kernel_rfl) rfl ?_);intro W5 Hc sQ YW;have jb:=((ai w3.heap.size w3).alloc (aj _) pM).grown sQ (by simp) (fun k e=>by injection e with e;omega);have jX:=aa (jV.out.trans (jb.mono jV.out.size));have UH:=aa (bV jb JR.out);have Rb:=aa (I2.out.below jb);have qN:=fun j=>ag W5 w3.heap.size j _ _ _ Hc;clear Hc sQ YW jb jV JR I2 HZ;go_wp2_with (refine wpList_store_row rfl _ _ 29 rfl w.heap.size rfl [.string ⟨nm.toArray⟩, .int .i64 (size:Nat), .slice (some ⟨g,0,none⟩) ks.length c3] rfl _ _ UH.out rfl (by kernel_rfl) rfl ?_);intro W9 Ra se vE;have UG:=aa Ra;have Cb:=aa (jX.out.grown se jX.out.size (fun k e=>by injection e with e;omega));have Q9:g≠w.heap.size:=fun e=>by
  have h1:=Rb.out.at_ (i:=0) dK.out.one.1;rw[e,cell_of_row W5 w.heap.size _ _ _ _ UH.out]at h1;simp at h1
 have Pe:Hid (eY W9 g ks):=aa ⟨by rw[vE];exact Rb.out.1,fun j u hu=>(World.cell?_of_block (se.block g Rb.out.1 (fun e=>Q9 (by injection e)))).trans (Rb.out.2 j u hu)⟩;clear Ra se vE jX UH Rb qN Q9;go_wp2_with fail;refine bodyPost_ret (nD rfl _ _ w.heap.size _ _ _ _ rfl UG.out Tryz.underlying29 rfl (by kernel_rfl)) rfl ?_;exact⟨g,c3,rfl,Cb.out,Ts.out,vO.out,Pe.out⟩
end
def Seen (W:World) (b n:Nat) (l:List J.B):Prop:=∃D:DataW Unit,W.ownsMap Tryz.prog 9 (plainElem (H:=Unit) Tryz.prog 4) b n D∧∀x:J.B,x∉l→D.atKey (.string x) (.lit (.bool false))= .lit (.bool false)
theorem I3 (W:World):Seen (W.alloc (.map #[] 0)) W.heap.size 0 []:=⟨.map [],World.ownsMap_made _ _ _ _,fun x _=>rfl⟩
theorem Lc {W W':World} {b n:Nat} {D:DataW Unit} (h:W.ownsMap Tryz.prog 9 (plainElem (H:=Unit) Tryz.prog 4) b n D) (hb:Below W.heap.size W W'):W'.ownsMap Tryz.prog 9 (plainElem (H:=Unit) Tryz.prog 4) b n D:=by
 have hl:=h.lt;obtain⟨es,clock,e1,e2⟩:=h;exact⟨es,clock,(hb.block b hl).trans e1,e2⟩
theorem I4 {W W':World} {b n:Nat} {l:List J.B} (h:Seen W b n l) (hb:Below W.heap.size W W'):Seen W' b n l:=by
 obtain⟨D,h1,h2⟩:=h;have hl:=h1.lt;obtain⟨es,clock,e1,e2⟩:=h1;exact⟨D,⟨es,clock,(hb.block b hl).trans e1,e2⟩,h2⟩
theorem Dg {x:J.B} (hx:x.length≤1000):keyOf Tryz.prog 9 (.string ⟨x.toArray⟩)=some (.string x):=keyOf_string_mk (s:=⟨x.toArray⟩) Tryz.underlying9 (by show x.toArray.size≤_;unfold maxLen;simp;omega)
theorem uL {v:Value} {b:Bool} {ps:List MemPlace} (h:plainElem (H:=Unit) Tryz.prog 4 v=some (.lit (.bool b),ps)):v= .bool b:=by
 unfold plainElem at h;rw[show Tryz.prog.underlying 4=some .bool from Tryz.underlying4]at h;cases v<;>first|(simp at h;done)|(simp at h;rw[h.1])
theorem uM {W:World} {M:Nat→Prop} {v:Value} {l:J.B} (h:cE W M v l) (h0:l≠[]):∃b o,v= .slice (some ⟨b,o,none⟩) l.length l.length:=by
 rcases h with⟨_,e⟩|⟨b,off,e,_⟩
 ·exact absurd e h0
 ·exact⟨b,off,e⟩
theorem E5 (w:World):(zeroValue 4).run Tryz.prog w= .ok (.bool false) w:=by kernel_rfl
theorem E6 {W:World} {b n:Nat} {l:List J.B} (h:Seen W b n l) {x:J.B} (hx:x∉l) (hl:x.length≤1000):(Instr.lookup 175 (.map (some b)) (.string ⟨x.toArray⟩) false).run Tryz.prog W= .ok (.bool false) W:=by
 obtain⟨D,h1,h2⟩:=h;obtain⟨v,ps,hrun,hv⟩:=h1.lookup p3 Tryz.underlying175 (E5 W) (plainElem_bool Tryz.underlying4 false) (Dg hl);rw[h2 x hx]at hv;rw[hrun,uL hv]
theorem Rc (a b:Nat) (h:a+b≤10000):wrap64 ((a:Int)+(b:Nat))=((a+b:Nat):Int):=by rw[IntWalk.wrap64_in _ (by omega)];omega
theorem Re (m:Nat) (h:m≤10000):wrap64 ((m:Int)+4)=((m+4:Nat):Int):=by rw[IntWalk.wrap64_in _ (by omega)];omega
theorem N9 (a b:Nat) (h:a+b≤10000):IntKind.i64.wrap ((a:Int)+(b:Nat))=((a+b:Nat):Int):=by rw[IntKind.wrap_i64];omega
theorem Oa (m:Nat) (h:m≤10000):IntKind.i64.wrap ((m:Int)+4)=((m+4:Nat):Int):=by rw[IntKind.wrap_i64];omega
theorem Rf (m:Nat) (h:m≤10000):wrap64 (((m+4:Nat):Int) - 4)=(m:Int):=by rw[IntWalk.wrap64_in _ (by omega)];omega
theorem Rg (m:Nat) (h:m≤10000):IntKind.i64.wrap (((m+4:Nat):Int) - 4)=(m:Int):=by rw[IntKind.wrap_i64];omega
theorem Cu (j:Nat) (h:j≤100000):Value.int .i64 (wrap64 ((j:Int)+1))= .int .i64 ((j+1:Nat):Int):=by rw[IntWalk.wrap64_in _ (by omega)];rfl
theorem xK {j n:Nat} (h:j<n) (hj:j≤100000):n - (intOf (Value.int .i64 (wrap64 ((j:Int)+1)))).toNat<n - (intOf (Value.int .i64 (j:Int))).toNat:=by
 rw[IntWalk.wrap64_in _ (by omega)];simp only[intOf];omega
theorem uN {n:Nat} (h:0<n):n - (intOf (Value.int .i64 1)).toNat<n - (intOf (Value.int .i64 ((0:Nat):Int))).toNat:=by
 simp only[intOf];omega
namespace X
theorem Ob {nm:B} {ks:List Ky} {i:Nat} (hi:i≠0) (r:Row):aJ nm ks i r=pre nm i++(val ks i r.b++R.bF (r.t i)):=by
 unfold aJ bP tail;rw[if_neg hi]
end X
namespace X
theorem Rh {α β:Type} {f:α→β} {l:List α} (h:l.Pairwise fun x y=>f x≠f y) {r s:α} (hr:r∈l) (hs:s∈l) (e:f r=f s):r=s:=by
 induction l with
 |nil=>cases hr
 |cons x t ih=>
  obtain⟨h1,h2⟩:=List.pairwise_cons.1 h;rcases ak hr with rfl|mi<;>rcases ak hs with rfl|hs'
  ·rfl
  ·exact absurd e (h1 s hs')
  ·exact absurd e.symm (h1 r mi)
  ·exact ih h2 mi hs'
theorem Oc {ks:List Ky} {size ct i:Nat} {rows:List Row} (hr:aS ks size ct rows) (hi:i<ks.length) {j:Nat} (hj:j<(bS ks i rows).length):val ks 0 (bS ks i rows)[j].b∉((bS ks i rows).take j).map fun r=>val ks 0 r.b:=fun hm=>by
 obtain⟨x,hx,e⟩:=List.mem_map.1 hm;obtain⟨k,hk,rfl⟩:=List.getElem_of_mem hx;rw[List.length_take]at hk;rw[List.getElem_take]at e;have h1:(bS ks i rows)[k]'(by omega)∈rows:=(bm ks i _ rows).1 (List.getElem_mem _);have h2:(bS ks i rows)[j]∈rows:=(bm ks i _ rows).1 (List.getElem_mem _);have:=rB (mX ks i rows (hr.yh hi)) _ _ (qj hr.prim h1 h2 e);omega
theorem E7 {ks:List Ky} {size ct i:Nat} {rows:List Row} {bf:B} (hr:aS ks size ct rows) (hi:1≤i∧i<ks.length) {j:Nat} (hj:j<(bS ks i rows).length) (hb:∀k,k+1=j→∀r,(bS ks i rows)[k]? =some r→bf=val ks i r.b) (hd:(aF ks i).dup=false) (h0:0<j):bf≠val ks i (bS ks i rows)[j].b:=fun e=>by
 have h1:j - 1<(bS ks i rows).length:=by omega
 have h2:=hb (j - 1) (by omega) _ (List.getElem?_eq_getElem h1);rw[h2]at e;have m1:(bS ks i rows)[j - 1]∈rows:=(bm ks i _ rows).1 (List.getElem_mem _);have m2:(bS ks i rows)[j]∈rows:=(bm ks i _ rows).1 (List.getElem_mem _);have:=rB (mX ks i rows (hr.yh hi.2)) _ _ (Rh (f:=fun x:Row=>val ks i x.b) (hr.nodup i hi.1 hi.2 hd) m1 m2 e);omega
end X
section
variable {w0 : World} {p g c size ct : Nat} {nm : J.B} {ks : List X.Ky} {rows : List X.Row} {w w' : World} {s : J.St} {fs : List (Nat × Obj)}
structure UI (w:World) (nm:J.B) (size g c:Nat) (ks:List X.Ky) (rows:List X.Row) (i bx bs j:Nat) (bf:J.B) (W:World):Prop where
 bel:Below w.heap.size w W
 box:W.heap[w.heap.size]? =some (ia nm size (.slice (some ⟨g,0,none⟩) ks.length c))
 key:W.heap[bx]? =some (aK (X.aF ks i))
 seen:Seen W bs j (((X.bS ks i rows).take j).map fun r=>X.val ks 0 r.b)
 ge:w.heap.size≤bs∧bs≠w.heap.size∧bs≠bx
 bf:∀k,k+1=j→∀r,(X.bS ks i rows)[k]? =some r→bf=X.val ks i r.b
theorem Cv (h:At w0 p fs s w) (hX:XF nm size ks rows ct s.now) (hk:eY w g ks) (i:Nat) (h1:1≤i) (hi:i<ks.length):
  Calls Tryz.prog 76 #[mq nm size (.slice (some ⟨g,0,none⟩) ks.length c), .pointer (some ⟨p,0,none⟩), .int .i64 (i:Nat), .int .i64 (rows.length:Nat)] w fun e w'=>e= .returned (.bool true)∧Below w.heap.size w w':=by
 have aN:=hX.ks.one;have lf:=hX.nm;have hrt:=hX.ct;have I5:=hX.many;have fR:=hX.lens hi;have hb0:Below w.heap.size w (w.alloc (ia nm size (.slice (some ⟨g,0,none⟩) ks.length c))):=(ai _ w).alloc (aj _) _;have j5:=aa hb0;have jG:=aa (heap_alloc_new w (ia nm size (.slice (some ⟨g,0,none⟩) ks.length c)));have k1:=(hk.below hb0).at_ hi;have k2:=(hk.below hb0).len hi;have k3:=(hk.below hb0).dup hi;have Wb:(i:Int)<(ks.length:Nat):=by omega
 have HP:=aa (fun W=>aZ nm size (some ⟨g,0,none⟩) ks.length c i (by omega) (by omega) W);have Am:=aa (fun W (hb:Below w.heap.size w W)=>kX (h.below hb) ⟨(X.pre nm i).toArray⟩ (by omega));rw[show keysOf s.now ⟨(X.pre nm i).toArray⟩=(X.bS ks i rows).map (X.aJ nm ks i)from hX.con.jH (by omega) hX.rows (by omega) hi]at Am;have HX:=aa hX;have uG:=aa h;have dK:=aa hk;have H1:=aa (⟨h1,hi⟩:1≤i∧i<ks.length);have SJ:(X.bS ks i rows).length=rows.length:=X.lJ ks i rows;have Ri:rows.length≤100000:=by
  have Bj:=hX.con.count hX.rows (by omega) aN.1 (by omega);have:=Nat.le_mul_of_pos_left rows.length (show 0<ks.length by omega);omega
 have PN:=aa Ri;clear Ri;clear h hX hk aN lf hrt I5 h1 hi fR hb0;generalize FJ:(⟨(X.pre nm i).toArray⟩:ByteArray)=pp at HP Am;go_enter Tryz.func76,Tryz.ntmps76;go_wp2_with fail;refine(HP.out _).mono ?_;rintro e w1 ⟨rfl,hb1⟩;have E8:=aa (heap_alloc_new (w.alloc (ia nm size (.slice (some ⟨g,0,none⟩) ks.length c))) (aK (X.aF ks i)));have cH:=aa (((j5.out.alloc j5.out.size (aK (X.aF ks i)))).trans (hb1.mono (j5.out.alloc j5.out.size (aK (X.aF ks i))).size));have rH:=aa (bV hb1 (bV ((ai _ (w.alloc (ia nm size (.slice (some ⟨g,0,none⟩) ks.length c)))).alloc (aj _) (aK (X.aF ks i))) jG.out));have kV:Hid (w1.heap[w.heap.size+1]? =some (aK (X.aF ks i))):=aa (by
  have h:=bV hb1 E8.out;rw[World.size_alloc]at h;exact h)
 have xw:=HP;clear hb1 HP E8 jG j5 k1 k2 k3;go_wp2_with fail;refine(Am.out _ cH.out).mono ?_;rintro e w2 ⟨A,rfl,hst,ha,hb2,hA⟩;have Ld:=cH.out.trans (hb2.mono cH.out.size);rw[List.length_map]at*;have HST:=aa hst;have ib:Hid (UI w nm size g c ks rows i (w.heap.size+1) w2.heap.size 0 [] (w2.alloc (.map #[] 0))):=aa ⟨Ld.alloc Ld.size _,bV ((ai _ w2).alloc (aj _) _) (bV hb2 rH.out),bV ((ai _ w2).alloc (aj _) _) (bV hb2 kV.out),I3 w2,(by
  have:=(ah (bV hb2 kV.out)).1;exact⟨Ld.size,by omega,by omega⟩),fun k hk=>by omega⟩
 clear hst ha hb2 hA Am Ld rH kV cH;generalize w.heap.size+1=bx at ib⊢;have Xa:=aa ((ai w2.heap.size w2).alloc (aj _) (.map #[] 0));have PJ:= @run_makeMap Tryz.prog;go_wp2;have JV:Hid (w2.heap.size≤w2.heap.size):=aa (aj _);generalize Rj:w2.heap.size=bs at ib⊢;replace JV:Hid (w2.heap.size≤bs):=aa (by rw[←Rj];exact aj _);clear Rj;clear PJ;go_loopw [12,32] (fun t u W=>∃j:Nat,j≤rows.length∧u= .int .i64 j∧∃bf:J.B,t= .string ⟨bf.toArray⟩∧Hid (UI w nm size g c ks rows i bx bs j bf W)∧Hid (Below w2.heap.size w2 W)) (fun _ u _=>rows.length - (intOf u).toNat)
 case atStart=>exact⟨0,Nat.zero_le _,rfl,[],rfl,ib,Xa⟩
 case round=>
  obtain⟨j,hj,rfl,bf,rfl,HI,qL⟩:=hrel;clear ib Xa;by_cases hlt:j<rows.length
  ·have vF:j<(X.bS ks i rows).length:=(by rw[SJ];exact hlt);have Mc:j<((X.bS ks i rows).map (X.aJ nm ks i)).length:=(by rw[List.length_map];exact vF);obtain⟨ga,rfl,Rk,cA⟩:=HST.out (by omega);have hce:=cA j Mc;rw[List.getElem_map]at hce;have hce:wr.cell? ⟨ga,j,none⟩=some (.string ⟨(X.aJ nm ks i (X.bS ks i rows)[j]).toArray⟩):=(qL.out.cell (p:=⟨ga,j,none⟩) Rk).trans hce;have jZ:(X.bS ks i rows)[j]∈rows:=(X.bm ks i _ rows).1 (List.getElem_mem vF);have hrg:(X.bS ks i rows)[j]? =some (X.bS ks i rows)[j]:=List.getElem?_eq_getElem vF;have Od:X.val ks 0 (X.bS ks i rows)[j].b∉((X.bS ks i rows).take j).map fun r=>X.val ks 0 r.b:=X.Oc HX.out.rows H1.out.2 vF;have Oe:(X.aF ks i).dup=false→0<j→bf≠X.val ks i (X.bS ks i rows)[j].b:=X.E7 HX.out.rows H1.out vF HI.out.bf;have MJ:((X.bS ks i rows).take (j+1)).map (fun r=>X.val ks 0 r.b)=((X.bS ks i rows).take j).map (fun r=>X.val ks 0 r.b)++[X.val ks 0 (X.bS ks i rows)[j].b]:=(by rw[List.take_succ_eq_append_getElem vF,List.map_append];rfl);have Rl:=aa MJ;have Me:=aa hrg;have a7:=aa hlt;generalize(X.bS ks i rows)[j]=r at hce jZ Od Oe Rl Me;have FL:=HX.out.rows.fit r jZ;have oc:=HX.out.ks.key _ (X.aR H1.out.2);have cQ:=HX.out.ks.key _ (X.aR HX.out.ks.one.1);have hsz:=HX.out.ks.size;have aN:=HX.out.ks.one;have lf:=HX.out.nm;have sy:=HX.out.ct;have rr:(X.val ks i r.b).length=(X.aF ks i).len:=X.aP FL H1.out.2;have hv0:(X.val ks 0 r.b).length=(X.aF ks 0).len:=X.aP FL aN.1;have hpl:=X.kt nm i;have qX:(X.pre nm i).length+(X.aF ks i).len≤10000:=(by omega);have VX:=HX.out.rows.tp r jZ i H1.out.1 H1.out.2;have hex:=X.Ob (nm:=nm) (ks:=ks) (i:=i) (by have:=H1.out.1;omega) r;have Br:=(X.aM.1 FL).1;have Ef:r.b≠[]:=fun e=>by
    have h1:=(X.aM.1 FL).2 _ (X.aR aN.1);rw[e,List.length_nil]at h1;omega
   have UJ:=aa Ef;have MX:(X.aJ nm ks i r).length=(X.pre nm i).length+(X.aF ks i).len+4:=(by rw[hex];simp[rr,R.df];omega);have Xb:(⟨(X.aJ nm ks i r).toArray⟩:ByteArray).size=(X.pre nm i).length+(X.aF ks i).len+4:=(by rw[bu];exact MX);have Xc:pp.size=(X.pre nm i).length:=(by rw[←FJ,bu]);have kz:=kB (X.aJ nm ks i r) ((X.pre nm i).length+(X.aF ks i).len) (by omega);rw[show(X.aJ nm ks i r).drop ((X.pre nm i).length+(X.aF ks i).len)=R.bF (r.t i)++[] by rw[hex,←List.append_assoc,←rr,←List.length_append,List.drop_left,List.append_nil]]at kz;have KM:=aa (xJ (n:=r.t i) (by omega) []);have wz:=aa (fun W (hb:Below wr.heap.size wr W)=>rR nm size g c ks i (X.val ks i r.b++R.bF (r.t i)) W (dK.out.below (HI.out.bel.trans (hb.mono HI.out.bel.size))) H1.out.2 (by omega) (by omega) (by rw[List.length_append,rr];show(X.aF ks i).len≤_;omega) (by rw[List.length_append,rr,R.df];omega));rw[←hex,show(X.val ks i r.b++R.bF (r.t i)).take (X.lens ks i)=X.val ks i r.b by show(X.val ks i r.b++R.bF (r.t i)).take (X.aF ks i).len=_;rw[←rr,List.take_left]]at wz;have Og:=HX.out.con.ql HX.out.rows jZ;have MK:=aa (fun W (hb:Below wr.heap.size wr W)=>rT (uG.out.below (HI.out.bel.trans (hb.mono HI.out.bel.size))) nm size (some ⟨g,0,none⟩) ks.length c i (X.val ks i r.b++R.bF (r.t i)) (X.val ks 0 r.b) (by omega) lf (by rw[List.length_append,rr,R.df];omega) (by omega) (fun e=>by have:=H1.out.1;omega) (fun _=>by rw[←hex,HX.out.con.ud HX.out.rows (by omega) (by have:=H1.out.1;omega) H1.out.2 jZ];rfl) (fun l hh=>by rw[Og]at hh;injection hh with hh;subst hh;omega));rw[←hex,Og]at MK;have E3:=aa (fun W v M (hv:Sl W M v r.b)=>bD (X.aF ks i) v r.b M W hv ((X.aM.1 FL).2 _ (X.aR H1.out.2)) (by omega));rw[show(X.aF ks i).val r.b=X.val ks i r.b from rfl]at E3;have JT:=aa (fun W (hb:Below wr.heap.size wr W)=>uj (uG.out.below (HI.out.bel.trans (hb.mono HI.out.bel.size))) nm size (some ⟨g,0,none⟩) ks.length c ct (by omega) HX.out.con.tim lf);have O7:¬((r.t i:Nat):Int)<1:=(by omega);have Fo:¬(ct:Int)<((r.t i:Nat):Int):=(by omega);have HK:=aa (Dg (x:=X.val ks 0 r.b) (by omega));have yt:=aa (fun W (hb:Below wr.heap.size wr W)=>E6 (I4 HI.out.seen hb) Od (by omega));have MB:=ea (X.val ks i r.b) bf;have SK:(X.aF ks i).dup=false→0<j→decide (X.val ks i r.b=bf)=false:=fun h1 h2=>decide_eq_false (fun e=>Oe h1 h2 e.symm);have Rm:=xw;have jG:=aa (fun W (hb:Below wr.heap.size wr W)=>bV hb HI.out.box);have E8:=aa (fun W (hb:Below wr.heap.size wr W)=>bV hb HI.out.key);have xU:=Rc (X.pre nm i).length (X.aF ks i).len qX;have hw2:=Re ((X.pre nm i).length+(X.aF ks i).len) qX;have zR:=N9 (X.pre nm i).length (X.aF ks i).len qX;have Le:=Oa ((X.pre nm i).length+(X.aF ks i).len) qX;have hw3:=Rf ((X.pre nm i).length+(X.aF ks i).len) qX;have hw4:=Rg ((X.pre nm i).length+(X.aF ks i).len) qX;generalize(X.pre nm i).length+(X.aF ks i).len+4=N at Xb hw2 Le hw3 hw4;generalize(X.pre nm i).length+(X.aF ks i).len=Mm at kz xU zR hw2 Le hw3 hw4;generalize(X.pre nm i).length=PL at Xc xU zR;generalize(⟨(R.bF (r.t i)++[]).toArray⟩:ByteArray)=TS at kz KM;generalize(⟨(X.aJ nm ks i r).toArray⟩:ByteArray)=E at hce Xb kz wz MK;generalize SL:(⟨(X.val ks i r.b).toArray⟩:ByteArray)=VS at wz E3 MB;generalize YX:(⟨(X.val ks 0 r.b).toArray⟩:ByteArray)=QS at MK HK yt;generalize(⟨bf.toArray⟩:ByteArray)=BF at MB⊢;generalize r.t i=tr at KM O7 Fo;have YY:((N:Int) !=wrap64 (wrap64 ((PL:Int)+((X.aF ks i).len:Nat))+4))=false:=(by rw[xU,hw2];simp);have UK:((N:Int) !=IntKind.i64.wrap (IntKind.i64.wrap ((PL:Int)+((X.aF ks i).len:Nat))+4))=false:=(by rw[zR,Le];simp);clear qX FL oc cQ hsz aN lf sy rr hv0 hpl VX hex Br Ef MX Og MJ Od Oe Rk cA;have j5:=aa ((ai wr.heap.size wr).drew);go_upto_region 8 with fail;refine aL (.rd 0 (.rd 1 (.rd 2 (.rd 3 (.rd 6 (.rd 7 (.wr 4 (.rd 5 (.rd 8 (.rd 9 (.rd 10 .fin))))))))))) (fun w'=>Below wr.heap.size wr w') (by kernel_rfl) (by kernel_rfl) (fun c a d v w h=>by cases d<;>exact h) j5.out ?_;repeat
    refine aw (v:= ?_) (by rfl) (by rfl) (fun w' hS=> ?_) (fun K hK=> ?_);rotate_left
    ·have b6:=fun j=>ag w' w.heap.size j _ _ _ (jG.out _ hS);have Xd:=fun j=>ag w' bx j _ _ _ (E8.out _ hS);clear hS;go_simp;try with_reducible rfl
    go_simp;refine hK _ ?_;clear hK K
   refine wpPm_write (by rfl) (fun K hK=> ?_);go_simp;refine(Rm.out _).mono ?_;rintro e V1 ⟨rfl,hb⟩;have cH:=aa (j5.out.trans (hb.mono j5.out.size));refine hK.out _ _ (fun w'=>Below wr.heap.size wr w') (fun _ h=>h) cH.out ?_;clear hK K hb j5;repeat
    refine aw (v:= ?_) (by rfl) (by rfl) (fun w' hS=> ?_) (fun K hK=> ?_);rotate_left
    ·have b6:=fun j=>ag w' w.heap.size j _ _ _ (jG.out _ hS);have Xd:=fun j=>ag w' bx j _ _ _ (E8.out _ hS);clear hS;go_simp;try with_reducible rfl
    go_simp;refine hK _ ?_;clear hK K
   show wpList _ _ _ _ _ _;have UL:=fun j=>ag V1 w.heap.size j _ _ _ (jG.out _ cH.out);go_wp2_with fail;refine(MK.out _ cH.out).mono ?_;rintro e V2 ⟨v,rfl,hs,ha,hb⟩;have hs:cE V2 _ v r.b:=hs;obtain⟨bo,oo,rfl⟩:=uM hs UJ.out;have UM:=aa hs.sl;have bB:=aa (cH.out.trans (hb.mono cH.out.size));clear hs ha hb cH MK UL;go_upto_region 11 with fail;have cO:=aa bB.out.drew;refine aA 9 (.rd 0 (.rd 1 (.rd 2 (.rd 4 (.rd 5 (.rd 6 (.rd 7 (.rd 8 (.wr 3 .fin))))))))) (fun w'=>Below wr.heap.size wr w') (by kernel_rfl) (by kernel_rfl) (fun c a d v w h=>by cases d<;>exact h) cO.out ?_;repeat
    refine aw (v:= ?_) (by rfl) (by rfl) (fun w' hS=> ?_) (fun K hK=> ?_);rotate_left
    ·have b6:=fun j=>ag w' w.heap.size j _ _ _ (jG.out _ hS);have Xd:=fun j=>ag w' bx j _ _ _ (E8.out _ hS);clear hS;go_simp;try with_reducible rfl
    go_simp;refine hK _ ?_;clear hK K
   refine wpPm_write (by rfl) (fun K hK=> ?_);go_simp;refine(wz.out _ cO.out).mono ?_;rintro e V3 ⟨rfl,hb⟩;have jV:=aa (cO.out.trans (hb.mono cO.out.size));have Rn:=aa (((aa UM.out).out.step (Step.aH ((ai _ _).drew))).step (Step.aH hb));refine hK.out _ _ (fun w'=>Below wr.heap.size wr w') (fun _ h=>h) jV.out ?_;clear hK K hb cO wz kz;show wpList _ _ _ _ _ _;go_wp2_with fail;refine(KM.out _).mono ?_;rintro e V4 ⟨rfl,hb⟩;have jX:=aa (jV.out.trans (hb.mono jV.out.size));have Ro:=aa (Rn.out.step (Step.aH hb));have hlk:=yt.out _ jX.out;have hq:=fun w=>run_eql_slice_nil (P:=Tryz.prog) w 40 5 (some ⟨bo,oo,none⟩) r.b.length r.b.length Tryz.underlying40;have EA:=fun j=>ag V4 bx j _ _ _ (E8.out _ jX.out);clear hb jV Rn KM;obtain⟨D,Xe,Xf⟩:=HI.out.seen;have YZ:=aa Xf;have Y0:=aa (fun W (hb:Below wr.heap.size wr W)=>Lc Xe hb);have UN:(X.aF ks i).dup=true∨(X.aF ks i).dup=false:=(by cases(X.aF ks i).dup<;>simp);have UO:j=0∨0<j:=(by omega);have Cw:=aa (show j≤100000 by have:=PN.out;omega);clear Xe Xf zR Le UK YY xU hw2 hw3 hw4 Xc;go_wp2_with fail;refine(E3.out _ _ _ Ro.out).mono ?_;rintro e V5 ⟨rfl,hb⟩;have nL:=aa (jX.out.trans (hb.mono jX.out.size));have UQ:=fun j=>ag V5 w.heap.size j _ _ _ (jG.out _ nL.out);clear hb jX Ro E3 hlk hq EA;go_wp2_with fail;refine(JT.out _ nL.out).mono ?_;rintro e V6 ⟨rfl,ha,hb⟩;have Ih:=aa (nL.out.trans (hb.mono nL.out.size));have EA:=fun j=>ag V6 bx j _ _ _ (E8.out _ Ih.out);clear ha hb nL JT UQ;have Pk:=aa (Y0.out _ Ih.out);have qG:Hid (∀W',V6.grownBy W' (some bs)→W'.ownsMap Tryz.prog 9 (plainElem (H:=Unit) Tryz.prog 4) bs (j+1) (D.put (.string (X.val ks 0 r.b)) (.lit (.bool true)))→UI w nm size g c ks rows i bx bs (j+1) (X.val ks i r.b) W'∧Below w2.heap.size w2 W'):=aa (fun W' hg ho=>by
    have kS:=HI.out.bel.trans (Ih.out.mono HI.out.bel.size);have sN:=HI.out.ge;have s8:=kS.grown hg kS.size (fun k e=>by injection e with e;omega);have Xg:=(qL.out.trans (Ih.out.mono qL.out.size));refine⟨⟨s8,(hg.block _ (ah (jG.out _ Ih.out)).1 (fun e=>sN.2.1 (by injection e with e;exact e.symm))).trans (jG.out _ Ih.out),(hg.block _ (ah (E8.out _ Ih.out)).1 (fun e=>sN.2.2 (by injection e with e;exact e.symm))).trans (E8.out _ Ih.out),⟨_,ho,fun y hy=> ?_⟩,sN,fun k hk r' mi=> ?_⟩,Xg.grown hg Xg.size (fun k e=>by injection e with e;have:=JV.out;omega)⟩
    ·rw[Rl.out]at hy;rw[Maps.atKey_put_other (fun e=>hy (List.mem_append_right _ (by injection e with e;rw[e];exact List.mem_singleton_self _)))];exact YZ.out y (fun hm=>hy (List.mem_append_left _ hm))
    ·obtain rfl:k=j:=(by omega);rw[Me.out]at mi;injection mi with mi;rw[mi])
   have UR:=aa SL;have nK:∀x,x=BF→True:=fun _ _=>trivial;clear SL YX nK;rcases UN with hd|hd
   ·rw[hd]at EA;clear MB SK hd UO;go_wp2_with (at_mapUpdate;refine wpList_mapUpdate_own _ rfl _ _ _ 175 rfl 9 4 p3 Tryz.underlying175 _ bs _ D rfl Pk.out (by have:=Cw.out;unfold maxLen;omega) _ _ _ rfl rfl HK.out _ [] (plainElem_bool Tryz.underlying4 true) ?_);intro W9 hown hg;have hn:=qG.out _ hg hown;have K0:=aa hn.1;have Mx:=aa hn.2;clear hown hg hn qG Pk;go_wp2;go_roundw
    case rel=>exact⟨_+1,a7.out,(by first|exact Cu _ Cw.out|rfl),X.val ks i r.b,by rw[UR.out],K0,Mx⟩
    case measure=>first|exact xK a7.out Cw.out|exact uN a7.out
   ·rw[hd]at EA;rcases UO with rfl|Xh
    ·clear MB SK hd;go_wp2_with (at_mapUpdate;refine wpList_mapUpdate_own _ rfl _ _ _ 175 rfl 9 4 p3 Tryz.underlying175 _ bs _ D rfl Pk.out (by have:=Cw.out;unfold maxLen;omega) _ _ _ rfl rfl HK.out _ [] (plainElem_bool Tryz.underlying4 true) ?_);intro W9 hown hg;have hn:=qG.out _ hg hown;have K0:=aa hn.1;have Mx:=aa hn.2;clear hown hg hn qG Pk;go_wp2;go_roundw
     case rel=>exact⟨_+1,a7.out,(by first|exact Cu _ Cw.out|rfl),X.val ks i r.b,by rw[UR.out],K0,Mx⟩
     case measure=>first|exact xK a7.out Cw.out|exact uN a7.out
    ·have ZT:(0:Int)<(j:Nat):=(by omega);have Y1:(VS.toList==BF.toList)=false:=(by rw[MB];exact SK hd Xh);clear MB SK hd Xh;go_wp2_with (at_mapUpdate;refine wpList_mapUpdate_own _ rfl _ _ _ 175 rfl 9 4 p3 Tryz.underlying175 _ bs _ D rfl Pk.out (by have:=Cw.out;unfold maxLen;omega) _ _ _ rfl rfl HK.out _ [] (plainElem_bool Tryz.underlying4 true) ?_);intro W9 hown hg;have hn:=qG.out _ hg hown;have K0:=aa hn.1;have Mx:=aa hn.2;clear hown hg hn qG Pk;go_wp2;go_roundw
     case rel=>exact⟨_+1,a7.out,(by first|exact Cu _ Cw.out|rfl),X.val ks i r.b,by rw[UR.out],K0,Mx⟩
     case measure=>first|exact xK a7.out Cw.out|exact uN a7.out
  ·obtain rfl:j=rows.length:=(by omega);have HE:=HI;go_wp2;go_ret;exact⟨rfl,HE.out.bel⟩
end
theorem UT (a b:Nat) (h:a+b≤1000000):wrap64 ((a:Int)+(b:Nat))=((a+b:Nat):Int):=by rw[IntWalk.wrap64_in _ (by omega)];omega
theorem Rp (a b:Nat) (h:a+b≤1000000):IntKind.i64.wrap ((a:Int)+(b:Nat))=((a+b:Nat):Int):=by rw[IntKind.wrap_i64];omega
theorem ML (b:Nat) (h:b≤1000000):wrap64 (1+(b:Int))=((1+b:Nat):Int):=by rw[IntWalk.wrap64_in _ (by omega)];omega
theorem I6 (b:Nat) (h:b≤1000000):IntKind.i64.wrap (1+(b:Int))=((1+b:Nat):Int):=by rw[IntKind.wrap_i64];omega
theorem I7 (b:Nat) (h:b≤1000000):wrap64 ((b:Int)+1)=((b+1:Nat):Int):=by rw[IntWalk.wrap64_in _ (by omega)];omega
theorem Oh (b:Nat) (h:b≤1000000):IntKind.i64.wrap ((b:Int)+1)=((b+1:Nat):Int):=by rw[IntKind.wrap_i64];omega
theorem I8 (j:Nat) (h:j≤1000000):Value.int .i64 (wrap64 ((j:Int)+1))= .int .i64 ((j+1:Nat):Int):=by rw[I7 j h]
theorem Dh {j n:Nat} (h:j<n) (hj:j≤1000000):n - (intOf (Value.int .i64 (wrap64 ((j:Int)+1)))).toNat<n - (intOf (Value.int .i64 (j:Int))).toNat:=by
 rw[I7 j hj];simp only[intOf];omega
theorem zS {j n:Nat} (h:j<n):n - (intOf (Value.int .i64 ((j:Int)+1))).toNat<n - (intOf (Value.int .i64 (j:Int))).toNat:=by
 simp only[intOf];omega
theorem Oi {nm:J.B} {ks:List X.Ky} (r:X.Row):X.aJ nm ks 0 r=X.bP nm 0 (X.val ks 0 r.b) 0:=by
 unfold X.aJ X.bP X.tail;rw[if_pos rfl,if_pos rfl]
section
variable {w0 : World} {p g c size ct : Nat} {nm : J.B} {ks : List X.Ky} {rows : List X.Row} {w w' : World} {s : J.St} {fs : List (Nat × Obj)}
structure Oj (w:World) (nm:J.B) (size g c bx:Nat) (ks:List X.Ky) (W:World):Prop where
 bel:Below w.heap.size w W
 box:W.heap[bx]? =some (ia nm size (.slice (some ⟨g,0,none⟩) ks.length c))
 ky:eY W g ks
theorem Oj.below {w W W':World} {nm:J.B} {size g c bx:Nat} {ks:List X.Ky} (h:Oj w nm size g c bx ks W) (hb:Below W.heap.size W W'):Oj w nm size g c bx ks W':=
 ⟨h.bel.trans (hb.mono h.bel.size),bV hb h.box,h.ky.below hb⟩
theorem E9 (h:At w0 p fs s w) (hn:E2 nm) (hX:XF nm size ks rows ct s.now):
  Calls Tryz.prog 28 #[.pointer (some ⟨p,0,none⟩), .string ⟨nm.toArray⟩] w fun e w'=>e= .returned (.int .i64 0)∧Below w.heap.size w w':=by
 have aN:=hX.ks.one;have Bj:=hX.con.count hX.rows (by have:=hX.ct;omega) aN.1 (by omega);have I5:=hX.many;have Xi:rows.length≤100000:=by
  have:=Nat.le_mul_of_pos_left rows.length (show 0<ks.length by omega);omega
 have Xj:=aa (E4 h hn hX.ks hX.con.own);have uG:=aa (fun W (hb:Below w.heap.size w W)=>h.below hb);have HX:=aa hX;have sD:=aa hX.nm;have Am:=aa (fun W (hb:Below w.heap.size w W)=>kX (h.below hb) ⟨(X.pre nm 0).toArray⟩ (by omega));rw[show keysOf s.now ⟨(X.pre nm 0).toArray⟩=(X.bS ks 0 rows).map (X.aJ nm ks 0)from hX.con.jH (by omega) hX.rows (by have:=hX.ct;omega) (by omega)]at Am;have SM:=aa (fun W (hb:Below w.heap.size w W)=>kX (h.below hb) ⟨(nm++[0]).toArray⟩ (by omega));rw[hX.con.ub]at SM;have Pd:(s.now.map (·.1)).length=1+(if 0<ct then 1 else 0)+ks.length*rows.length:=by rw[List.length_map];exact Bj
 have Xk:=aa Pd;have SJ:(X.bS ks 0 rows).length=rows.length:=X.lJ ks 0 rows;have Xl:=aa SJ;have Rm:=aa (fun(g c:Nat) W=>aZ nm size (some ⟨g,0,none⟩) ks.length c 0 (by omega) (by have:=hX.nm;omega) W);have SN:=aa (fun W (hb:Below w.heap.size w W)=>dJ (h.below hb) (X.cK nm) (by rw[X.px];have:=hX.nm;omega) (fun l hh=>by have:=hX.len _ _ hh;omega));rw[hX.con.tim]at SN;have UU:=aa (fun W=>ue nm W (by have:=hX.nm;omega));have SP:=aa (fun W B (hB:W.heap.size=B)=>gA nm [67] W B hB (by have:=hX.nm;omega) (by simp));rw[show nm++0::[67]=X.cK nm from rfl]at SP;have eX:=aa Xi;generalize FJ:(⟨(X.pre nm 0).toArray⟩:ByteArray)=pp at Am Rm;generalize Y2:(⟨(nm++[0]).toArray⟩:ByteArray)=pa at SM UU;generalize Y3:(⟨(X.cK nm).toArray⟩:ByteArray)=pc at SN SP;clear h hn hX Bj I5 Pd SJ FJ Y2 Y3 Xi;go_enter Tryz.func28,Tryz.ntmps28;go_wp2_with fail;refine Xj.out.mono ?_;rintro e w1 ⟨g,c,rfl,hb1,hc1,hg1,jB⟩;have kV:=aa jB;have cH:=aa hb1;have sq:=aa hg1;have HZ:=aa (heap_alloc_new w1 pM);clear hb1 hc1 hg1 jB Xj;go_wp2_with (refine wpList_store_row rfl _ _ 29 rfl w1.heap.size rfl [.string ⟨nm.toArray⟩, .int .i64 (size:Nat), .slice (some ⟨g,0,none⟩) ks.length c] rfl _ _ HZ.out rfl (by kernel_rfl) rfl ?_);intro W2 hr2 hg2 hz2;have hb2:=((ai w1.heap.size w1).alloc (aj _) pM).grown hg2 (by simp) (fun k e=>by injection e with e;omega);have D1:Hid (Oj w nm size g c w1.heap.size ks W2):=aa ⟨cH.out.trans (hb2.mono cH.out.size),hr2,kV.out.below hb2⟩;have b6:=fun j=>ag W2 w1.heap.size j _ _ _ hr2;clear hr2 hg2 hz2 hb2 HZ cH kV;generalize w1.heap.size=bx at D1 b6⊢;go_wp2_with fail;refine(Rm.out g c W2).mono ?_;rintro e w3 ⟨rfl,hb3⟩;have UW:=aa (D1.out.below hb3);clear hb3 b6 D1 Rm;go_wp2_with fail;refine(Am.out _ UW.out.bel).mono ?_;rintro e w4 ⟨A,rfl,hst,ha,hb4,hA⟩;have Xm:=aa (UW.out.below hb4);have HST:=aa hst;have Mc:((X.bS ks 0 rows).map (X.aJ nm ks 0)).length=rows.length:=by rw[List.length_map];exact Xl.out
 rw[Mc];have xU:=ML rows.length (by have:=eX.out;omega);have zR:=I6 rows.length (by have:=eX.out;omega);clear hst ha hb4 hA Am UW Mc;go_wp2_with fail;go_loopw [34] (fun u W=>∃j:Nat,j≤rows.length∧u= .int .i64 j∧Hid (Oj w nm size g c bx ks W)∧Hid (Below w4.heap.size w4 W)) (fun u _=>rows.length - (intOf u).toNat)
 case atStart=>exact⟨0,Nat.zero_le _,rfl,Xm,aa (ai _ _)⟩
 case round=>
  obtain⟨j,hj,rfl,HI,qL⟩:=hrel;clear Xm xU zR;by_cases hlt:j<rows.length
  ·have vF:j<(X.bS ks 0 rows).length:=(by rw[Xl.out];exact hlt);have Mc:j<((X.bS ks 0 rows).map (X.aJ nm ks 0)).length:=(by rw[List.length_map];exact vF);obtain⟨ga,rfl,Rk,cA⟩:=HST.out (by omega);have hce:=cA j Mc;rw[List.getElem_map]at hce;replace hce:wr.cell? ⟨ga,j,none⟩=some (.string ⟨(X.aJ nm ks 0 (X.bS ks 0 rows)[j]).toArray⟩):=(qL.out.cell (p:=⟨ga,j,none⟩) Rk).trans hce;have jZ:(X.bS ks 0 rows)[j]∈rows:=(X.bm ks 0 _ rows).1 (List.getElem_mem vF);have a7:=aa hlt;have Cw:=aa (show j≤1000000 by have:=eX.out;omega);generalize(X.bS ks 0 rows)[j]=r at hce jZ;rw[Oi]at hce;have FL:=HX.out.rows.fit r jZ;have oc:=HX.out.ks.key _ (X.aR HX.out.ks.one.1);have hsz:=HX.out.ks.size;have hv0:(X.val ks 0 r.b).length=(X.aF ks 0).len:=X.aP FL HX.out.ks.one.1;have Br:=(X.aM.1 FL).1;have Hk:=(X.aM.1 FL).2 _ (X.aR HX.out.ks.one.1);have lf:=sD.out;have Og:=HX.out.con.ql HX.out.rows jZ;have cS:=aa (fun W (hb:Below w.heap.size w W)=>dJ (uG.out W hb) (X.bP nm 0 (X.val ks 0 r.b) 0) (by have:=X.b9 nm 0 (X.val ks 0 r.b) 0;omega) (fun l hh=>by rw[Og]at hh;injection hh with hh;subst hh;omega));rw[Og]at cS;have FI:=aa (fun W (hb:Below wr.heap.size wr W) A cb=>fT nm size g c ks A r.b.length cb W (HI.out.below hb).ky (by have:=HX.out.ks.one;omega) (fun k hk=>by have:=HX.out.ks.key k hk;omega) r.b rfl);rw[FL]at FI;have E3:=aa (fun W v M (hv:Sl W M v r.b)=>bD (X.aF ks 0) v r.b M W hv Hk (by omega));rw[show(X.aF ks 0).val r.b=X.val ks 0 r.b from rfl]at E3;have dA:=aa (fun W=>cy nm size (some ⟨g,0,none⟩) ks.length c 0 0 (X.val ks 0 r.b) (by omega) (by omega) (by omega) (by omega) W);have jG:=aa (fun W (hb:Below wr.heap.size wr W)=>(HI.out.below hb).box);have sU:=aa (fun W (hb:Below wr.heap.size wr W)=>(HI.out.below hb).ky);have pK:(0:Int)<(ks.length:Nat):=(by have:=HX.out.ks.one;omega);have UX:0<ks.length:=HX.out.ks.one.1;have tS:=aa UX;have Ef:r.b≠[]:=fun e=>by rw[e,List.length_nil]at Hk;omega
   have UJ:=aa Ef;have nJ:(j:Int)<(rows.length:Nat):=(by omega);generalize SL:(⟨(X.val ks 0 r.b).toArray⟩:ByteArray)=VS at E3 dA;generalize(⟨(X.bP nm 0 (X.val ks 0 r.b) 0).toArray⟩:ByteArray)=E at hce cS dA;clear vF Mc cA Rk jZ FL oc hsz hv0 Br Hk lf Og Ef SL hj;go_wp2_with fail;refine(cS.out _ HI.out.bel).mono ?_;rintro e V1 ⟨v,rfl,hs,ha,hb⟩;have hs:cE V1 _ v r.b:=hs;obtain⟨bo,oo,rfl⟩:=uM hs UJ.out;have UM:=aa hs.sl;have cH:=aa hb;have jz:=aa hb.drew;have UY:=aa (hs.sl.step (Step.aH ((ai V1.heap.size V1).drew)));clear hs ha hb hce cS UM;go_upto_region 10 with fail;refine aL (.rd 0 (.rd 1 (.wr 2 (.rd 3 (.rd 4 (.rd 5 (.rd 6 (.rd 7 (.rd 8 (.rd 9 (.rd 10 (.rd 13 (.wr 11 (.wr 12 (.rd 14 (.rd 15 .fin)))))))))))))))) (fun w'=>Below wr.heap.size wr w') (by kernel_rfl) (by kernel_rfl) (fun c a d v w h=>by cases d<;>exact h) jz.out ?_;generalize V1.drew=ZU at jz UY⊢
   iterate 2
    refine aw (v:= ?_) (by rfl) (by rfl) (fun w' hS=> ?_) (fun K hK=> ?_);rotate_left
    ·have b6:=fun j=>ag w' bx j _ _ _ (jG.out _ hS);clear hS;go_simp;try with_reducible rfl
    go_simp;refine hK _ ?_;clear hK K
   refine wpPm_write (by rfl) (fun K hK=> ?_);go_simp;refine(FI.out _ jz.out _ _).mono ?_;rintro e V2 ⟨rfl,hb⟩;have bB:=aa (jz.out.trans (hb.mono jz.out.size));have rf:=aa (UY.out.step (Step.aH hb));refine hK.out _ _ (fun w'=>Below wr.heap.size wr w') (fun _ h=>h) bB.out ?_;clear hK K hb jz UY
   iterate 9
    refine aw (v:= ?_) (by rfl) (by rfl) (fun w' hS=> ?_) (fun K hK=> ?_);rotate_left
    ·have b6:=fun j=>ag w' bx j _ _ _ (jG.out _ hS);have k1:=(sU.out _ hS).at_ tS.out;have k2:=(sU.out _ hS).len tS.out;have k3:=(sU.out _ hS).dup tS.out;clear hS;go_simp;try with_reducible rfl
    go_simp;refine hK _ ?_;clear hK K
   refine wpPm_write (by rfl) (fun K hK=> ?_);refine(if_pos (by rfl)).mpr ?_;go_simp;refine(E3.out _ _ _ rf.out).mono ?_;rintro e V3 ⟨rfl,hb⟩;have cO:=aa (bB.out.trans (hb.mono bB.out.size));refine hK.out _ _ (fun w'=>Below wr.heap.size wr w') (fun _ h=>h) cO.out ?_;clear hK K hb bB rf;refine wpPm_write (by rfl) (fun K hK=> ?_);refine(if_pos (by rfl)).mpr ?_;go_simp;refine(dA.out _).mono ?_;rintro e V4 ⟨rfl,hb⟩;have jV:=aa (cO.out.trans (hb.mono cO.out.size));refine hK.out _ _ (fun w'=>Below wr.heap.size wr w') (fun _ h=>h) jV.out ?_;clear hK K hb cO
   iterate 2
    refine aw (v:= ?_) (by rfl) (by rfl) (fun w' hS=> ?_) (fun K hK=> ?_);rotate_left
    ·clear hS;go_simp;try with_reducible rfl
    go_simp;refine hK _ ?_;clear hK K
   show wpList _ _ _ _ _ _;simp only[wpList];clear FI E3 dA jG sU;go_wp2;go_roundw
   case rel=>exact⟨j+1,a7.out,by first|exact I8 j Cw.out|rfl,aa (HI.out.below jV.out),aa (qL.out.trans (jV.out.mono qL.out.size))⟩
   case measure=>first|exact Dh a7.out Cw.out|exact zS a7.out
  ·obtain rfl:j=rows.length:=(by omega);have Rq:=HI;clear HST hj qL;have xU:=ML rows.length (by have:=eX.out;omega);have zR:=I6 rows.length (by have:=eX.out;omega);have P7:=aa (fun(W:World) (hb:Oj w nm size g c bx ks W) i h1 hi=>Cv (c:=c) (uG.out W hb.bel) HX.out hb.ky i h1 hi);go_wp2_with fail;go_loopw [8,13] (fun t u W=>∃i a:Nat,1≤i∧i≤ks.length∧u= .int .i64 i∧t= .int .i64 a∧Hid (a=1+i*rows.length)∧Hid (Oj w nm size g c bx ks W)) (fun _ u _=>ks.length - (intOf u).toNat)
   case atStart=>exact⟨1,1+rows.length,aj _,aN.1,rfl,by first|rfl|rw[xU]|(simp),aa (by omega),Rq⟩
   case round=>
    obtain⟨i,a,Fw,hi,rfl,rfl,HA,Af⟩:=hrel;clear Rq xU zR;have b6:=fun j=>ag wr bx j _ _ _ Af.out.box;by_cases hlt:i<ks.length
    ·have Wb:(i:Int)<(ks.length:Nat):=(by omega);have a7:=aa hlt;have Cw:=aa (show i≤1000000 by omega);have hab:a+rows.length≤1000000:=by
      have h1:=HA.out;have h2:i*rows.length≤8*100000:=Nat.mul_le_mul (by omega) eX.out;have:=eX.out;omega
     have hw:=UT a rows.length hab;have S8:=Rp a rows.length hab;have Rs:=aa (P7.out wr Af.out i Fw hlt);have dD:Hid (a+rows.length=1+(i+1)*rows.length):=aa (by rw[HA.out,Nat.succ_mul];omega);clear hlt hi Fw hab;generalize a+rows.length=a2 at hw S8 dD;go_wp2_with fail;refine Rs.out.mono ?_;rintro e V5 ⟨rfl,hb⟩;have SQ:=aa (Af.out.below hb);clear hb Rs b6 Af;go_wp2;go_roundw
     case rel=>exact⟨i+1,a2,by omega,a7.out,by first|exact I8 i Cw.out|rfl,by first|rfl|rw[hw],dD,SQ⟩
     case measure=>first|exact Dh a7.out Cw.out|exact zS a7.out
    ·obtain rfl:i=ks.length:=(by omega);have SQ:=Af;have Rt:=aa (SP.out wr wr.heap.size rfl);have Lf:Hid ((s.now.map (·.1)).length=a+(if 0<ct then 1 else 0)):=aa (by rw[Xk.out,HA.out];omega);have hab:a≤900001:=by
      have h1:=HA.out;have h2:ks.length*rows.length≤8*100000:=Nat.mul_le_mul (by omega) eX.out;omega
     have hw:=I7 a (by omega);have S8:=Oh a (by omega);clear hlt hi Fw P7 Xk HA SP hab;go_wp2_with fail;refine Rt.out.mono ?_;rintro e V1 ⟨rfl,hb⟩;have zy:=aa (SQ.out.below hb);clear hb Rt SQ Af b6;go_wp2_with fail;refine(SN.out _ zy.out.bel).mono ?_;rintro e V2 ⟨v,rfl,hs,ha,hb⟩;have UZ:=aa (zy.out.below hb);have po:=aa (SM.out V2 UZ.out.bel);have Ru:=aa (UU.out V2);clear ha hb SN zy SM UU;by_cases sy:0<ct
     ·rw[if_pos sy]at hs⊢;rw[if_pos sy]at Lf;have hs:cE V2 _ v (R.bF ct):=hs;obtain⟨bo,oo,rfl⟩:=uM hs (fun e=>by have:=R.df ct;rw[e]at this;cases this);rw[R.df];rw[Lf.out]at po;clear hs sy;go_wp2_with fail;refine Ru.out.mono ?_;rintro e V3 ⟨rfl,rfl⟩;go_wp2_with fail;refine po.out.mono ?_;rintro e V4 ⟨A4,rfl,hst,ha,hb,hA⟩;have Ol:=aa (UZ.out.below hb);clear hst ha hb hA;go_wp2;go_ret;exact⟨rfl,Ol.out.bel⟩
     ·rw[if_neg sy]at hs⊢;rw[if_neg sy,Nat.add_zero]at Lf;rw[Lf.out]at po;have hs:cE V2 _ v []:=hs;have Y4:v= .slice none 0 0∨∃b o,v= .slice (some ⟨b,o,none⟩) 0 0:=by
       rcases hs with⟨e,_⟩|⟨b,off,e,_⟩
       ·exact .inl e
       ·exact .inr ⟨b,off,e⟩
      clear hs sy;rcases Y4 with rfl|⟨bo,oo,rfl⟩
      all_goals
       go_wp2_with fail;refine Ru.out.mono ?_;rintro e V3 ⟨rfl,rfl⟩;go_wp2_with fail;refine po.out.mono ?_;rintro e V4 ⟨A4,rfl,hst,ha,hb,hA⟩;have Ol:=aa (UZ.out.below hb);clear hst ha hb hA;go_wp2;go_ret;exact⟨rfl,Ol.out.bel⟩
end
end Go.Proofs.YtipljcmmokaokaaGreat
