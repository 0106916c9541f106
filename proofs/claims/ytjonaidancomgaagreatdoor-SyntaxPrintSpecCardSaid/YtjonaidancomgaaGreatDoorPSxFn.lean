/- Parts of the proof, joined into one text: q2j, Xe, Xf, Xg. -/
import Derived.Test.YtjonaidancomgaaGreatDoorPSxKids
import Derived.Test.YtjonaidancomgaaGreatDoorPSxEq
import Derived.Maps.Own
import Derived.Maps.OwnOps
import Derived.Maps.OwnSet
import Derived.Maps.Views
import Derived.Deep.RegionHeldLaw
import Derived.Deep.CutRange
set_option maxHeartbeats 4000000
set_option maxRecDepth 20000
namespace Go.Proofs.YtjonaidancomgaaGreatDoor
open Go.RowKit Go.Maps Go.WideMaps
def Sx.iX:List (List UInt8):=[Sx.fJ,Sx.oh,Sx.bR,Sx.dM,Sx.cK,Sx.vG,Sx.om]
def Sx.sN:List Nat:=[84,85,86,87,88,89,90]
def yF:Value→Option (DataW Unit × List MemPlace)
 | .func (.func n) a c=>if a.isEmpty && c.isEmpty then some (.lit (.int .i64 (n:Nat)),[]) else none
 | .nilFunc=>some (.lit (.int .i64 (-1)),[])
 | _=>none
theorem CF {v:Value} {n:Int} {ps:List MemPlace} (h:yF v=some (.lit (.int .i64 n),ps)):(∃ f:Nat,n=f∧v = .func (.func f) #[] #[])∨(n = -1∧v = .nilFunc):=by
 unfold yF at h
 split at h
 ·rename_i m a c
  split at h
  ·rename_i hac;simp at hac;obtain ⟨ha,hc⟩:=hac;subst ha;subst hc;simp at h;exact .inl ⟨m,h.1.symm,rfl⟩
  ·cases h
 ·simp at h;exact .inr ⟨h.1.symm,rfl⟩
 ·cases h
def Sx.J7:Nat→DataW Unit
 | 0=>.map []
 | k+1=>(Sx.J7 k).put (.string (Sx.iX.getD k [])) (.lit (.int .i64 (Sx.sN.getD k 0:Nat)))
theorem CG:Keyed Tryz.prog 9:=string_keyed Tryz.underlying9
def AA (w:World) (b:Nat):Prop:=w.ownsMap Tryz.prog 9 yF b 7 (Sx.J7 7)
theorem Sx.zJ:∀ k,IsMap (Sx.J7 k)
 | 0=>⟨[],rfl⟩
 | k+1=>by
  obtain ⟨es,he⟩:=Sx.zJ k;unfold Sx.J7;rw[he];exact ⟨_,rfl⟩
theorem Sx.CJ {l:List (List UInt8)} (hnd:l.Nodup) (k:Nat) (hk:k < l.length):(l.take k).findIdx? (· == l[k])=none:=by
 rw[List.findIdx?_eq_none_iff];intro x hx;obtain ⟨j,hj⟩:=List.mem_iff_getElem?.1 hx;have hjl:=(List.getElem?_eq_some_iff.1 hj).1;rw[List.length_take] at hjl;rw[List.getElem?_take_of_lt (by omega),List.getElem?_eq_getElem (by omega)] at hj;injection hj with hj;rw[beq_eq_false_iff_ne,←hj];intro e;have:=(List.getElem_inj hnd).1 e;omega
theorem Sx.KD (t:List UInt8) (z:DataW Unit):∀ k,k≤7→(Sx.J7 k).atKey (.string t) z=match (Sx.iX.take k).findIdx? (· == t) with | some i=>.lit (.int .i64 (Sx.sN.getD i 0:Nat)) | none=>z
 | 0,_=>rfl
 | k+1,hk=>by
  have hlt:k < Sx.iX.length:=by show k < 7;omega
  have hget:Sx.iX.getD k []=Sx.iX[k]:=by simp [List.getD,List.getElem?_eq_getElem hlt]
  have hnd:Sx.iX.Nodup:=by decide
  unfold Sx.J7;rw[hget,List.take_succ_eq_append_getElem hlt,List.findIdx?_append]
  by_cases e:t=Sx.iX[k]
  ·rw[e,atKey_put_same (k:=.string Sx.iX[k]) (Sx.zJ k) (show WideAt.IsKeyLit (.string Sx.iX[k]) from trivial)];rw[Sx.CJ hnd k hlt];have hl:(Sx.iX.take k).length=k:=by rw [List.length_take];omega
   simp[List.findIdx?_cons];rw[Nat.min_eq_left (by omega)]
  ·rw[atKey_put_other (by intro h;injection h with h;exact e h),Sx.KD t z k (by omega)];cases h:(Sx.iX.take k).findIdx? (· == t) with
   | some i=>rfl
   | none=>
    have hne:(Sx.iX[k] == t)=false:=beq_eq_false_iff_ne.2 (fun h=>e h.symm);simp[List.findIdx?_cons,hne]
theorem QU (w:World):(zeroValue 145).run Tryz.prog w = .ok .nilFunc w:=by kernel_rfl
def Sx.uQ (x:List UInt8):Option Nat:=Sx.iX.findIdx? (· == x)
theorem AA.look {w:World} {b:Nat} (h:AA w b) (s:ByteArray) (hs:s.size≤maxLen):(Instr.lookup 147 (.map (some b)) (.string s) true).run Tryz.prog w = .ok (match Sx.uQ s.data.toList with | some i=>.tuple #[.func (.func (Sx.sN.getD i 0)) #[] #[],.bool true] | none=>.tuple #[.nilFunc,.bool false]) w:=by
 obtain ⟨v,ps,hrun,hv⟩:=World.ownsMap.look_ok h CG Tryz.underlying147 (QU w) (show yF .nilFunc=some (.lit (.int .i64 (-1)),[]) from rfl) (keyOf_string_mk Tryz.underlying9 hs);rw[hrun];have ht:Sx.iX.take 7=Sx.iX:=rfl;have hat:=Sx.KD s.data.toList;rw[hat _ 7 (Nat.le_refl _),ht] at hv;unfold Sx.uQ;cases hf:Sx.iX.findIdx? (· == s.data.toList) with
 | none=>
  rw[hf] at hv;rw[has_false_of_atKey (fun z=>by rw [hat z 7 (Nat.le_refl _),ht,hf])]
  rcases CF hv with ⟨f,e,_⟩ | ⟨_,rfl⟩
  ·omega
  ·rfl
 | some i=>
  rw[hf] at hv;rw[has_true_of_atKey (fun z=>by rw [hat z 7 (Nat.le_refl _),ht,hf])]
  rcases CF hv with ⟨f,e,rfl⟩ | ⟨e,_⟩
  ·have:Sx.sN.getD i 0=f:=by omega
   show _=Result.ok (Value.tuple #[.func (.func (Sx.sN.getD i 0)) #[] #[],.bool true]) w;rw[this]
  ·omega
theorem AA.kept {w w':World} {b:Nat} (h:AA w b) (hb:w'.heap[b]?=w.heap[b]?):AA w' b:=by
 obtain ⟨es,clock,hh,F,hs,hD⟩:=h;exact ⟨es,clock,hb.trans hh,F,hs,hD⟩
theorem AA.lt {w:World} {b:Nat} (h:AA w b):b < w.heap.size:=World.ownsMap.lt h
theorem rE {w:World} {b k:Nat} (h:w.ownsMap Tryz.prog 9 yF b k (Sx.J7 k)) (hk:k < 7) (s:ByteArray) (f:Nat) (hs:s.data.toList=Sx.iX.getD k []) (hl:s.size≤maxLen) (hf:f=Sx.sN.getD k 0) :
  ∃ w',(Instr.mapUpdate 147 (.map (some b)) (.string s) (.func (.func f) #[] #[])).run Tryz.prog w = .ok () w'∧w'.ownsMap Tryz.prog 9 yF b (k+1) (Sx.J7 (k+1))∧w.grownBy w' (some b):=by
 obtain ⟨w',h1,h2,h3⟩:=World.ownsMap.update h CG Tryz.underlying147 (by unfold maxLen;omega) (keyOf_string_mk Tryz.underlying9 hl) (show yF (.func (.func f) #[] #[])=some (.lit (.int .i64 (f:Nat)),[]) from rfl);refine ⟨w',h1,?_,h3⟩;rw[show Sx.J7 (k+1)=(Sx.J7 k).put (.string (Sx.iX.getD k [])) (.lit (.int .i64 (Sx.sN.getD k 0:Nat))) from rfl,←hs,←hf];exact h2
theorem Sx.uR (x:List UInt8):Sx.ig x=(Sx.uQ x).isSome:=by
 by_cases h1:x=Sx.fJ
 ·subst h1;decide
 by_cases h2:x=Sx.oh
 ·subst h2;decide
 by_cases h3:x=Sx.bR
 ·subst h3;decide
 by_cases h4:x=Sx.dM
 ·subst h4;decide
 by_cases h5:x=Sx.cK
 ·subst h5;decide
 by_cases h6:x=Sx.vG
 ·subst h6;decide
 by_cases h7:x=Sx.om
 ·subst h7;decide
 have e1:(Sx.fJ == x)=false:=beq_eq_false_iff_ne.2 (fun h=>h1 h.symm);have e2:(Sx.oh == x)=false:=beq_eq_false_iff_ne.2 (fun h=>h2 h.symm);have e3:(Sx.bR == x)=false:=beq_eq_false_iff_ne.2 (fun h=>h3 h.symm);have e4:(Sx.dM == x)=false:=beq_eq_false_iff_ne.2 (fun h=>h4 h.symm);have e5:(Sx.cK == x)=false:=beq_eq_false_iff_ne.2 (fun h=>h5 h.symm);have e6:(Sx.vG == x)=false:=beq_eq_false_iff_ne.2 (fun h=>h6 h.symm);have e7:(Sx.om == x)=false:=beq_eq_false_iff_ne.2 (fun h=>h7 h.symm);unfold Sx.ig Sx.uQ Sx.iX
 simp[h1,h2,h3,h4,h5,h6,h7,List.findIdx?_cons,e1,e2,e3,e4,e5,e6,e7]
end Go.Proofs.YtjonaidancomgaaGreatDoor
namespace Go.Proofs.YtjonaidancomgaaGreatDoor
open Go.RowKit
def Y1 (x:Sx.Cls) (v:Value) (_:World):Prop:=v = .agg #[bB x.name,.int .i64 x.gD,.int .i64 x.mean.num,.int .i64 x.mean.den]∧x.name.length≤140737488351232
theorem zK (g B:Nat) (l:List Lx.Tok) (last:Int) (w:World) (h:PS g B last l w) :
  Calls Tryz.prog 163 #[.pointer (some ⟨g,0,none⟩)] w (dH g B last w Y1 (Sx.standing last l)):=by
 obtain ⟨R,hR⟩:∃ R,R=Sx.standing last l:=⟨_,rfl⟩
 rw[←hR];unfold Sx.standing at hR;have HR:=Lh hR;have hlt:=h.lt;have L:=Lh (jl.start h 82 #[.string ⟨#[]⟩,.int .i64 0,.int .i64 0,.int .i64 0]);clear h hR;go_enter Tryz.func163,Tryz.ntmps163;go_wp2_with fail;refine (zq g B l last _ L.out.ps).mono ?_;intro e w1 he
 rcases he.split with ⟨p,x,hv,rfl,hf⟩ | ⟨nm,l1,v,hv,rfl,hV,hs,hf⟩
 ·exact ⟨rfl,dH.aM (Sx.aR HR.out hv) (L.out.fr.trans hf)⟩
 obtain ⟨hV,hnl⟩:=hV;unfold bB at hV;subst hV;replace HR:=Lh (Sx.go_ok HR.out hv);have L1:=Lh (L.out.step hf hs);have Hnl:=Lh hnl;clear hv hs hf he L hnl;go_wp2_with fail;refine (fV g B l1 last 0 10000 _ L1.out.ps).mono ?_;intro e w2 he
 rcases he.split with ⟨p,x,hv,rfl,hf⟩ | ⟨ea,l2,v,hv,rfl,hV,hs,hf⟩
 ·exact ⟨rfl,dH.aM (Sx.aR HR.out hv) (L1.out.fr.trans hf)⟩
 unfold gJ at hV;subst hV;replace HR:=Lh (Sx.go_ok HR.out hv);have L2:=L1.out.step hf hs;have hpr:w.heap.size < w2.heap.size:=L2.blk.lt;have P:=Lh (L2.new 82 #[.string (Lx.bs nm),.int .i64 ea,.int .i64 0,.int .i64 0]);have Q:=Lh (L2.alloc (.cells #[.string (Lx.bs nm),.int .i64 ea,.int .i64 0,.int .i64 0] 82));clear hv hs hf he L1 L2;go_wp2_with fail;refine (FE g B l2 last _ _ P.out.ps).mono ?_;intro e w3 he
 rcases he.split with ⟨p,x,hv,rfl,hf⟩ | ⟨u,l3,v,hv,rfl,hV,hs,hf⟩
 ·exact ⟨rfl,dH.aM (Sx.aR HR.out hv) (P.out.fr.trans hf)⟩
 unfold fQ at hV;subst hV;replace HR:=Lh (Sx.go_ok HR.out hv);have P3:=Lh (P.out.step hf hs);have Q3:=Lh (Q.out.step hf hs);clear hv hs hf he P Q;go_wp2_with fail;refine (Ey g B l3 last _ P3.out.ps).mono ?_;intro e w4 he
 rcases he.split with ⟨p,x,hv,rfl,hf⟩ | ⟨me,l4,v,hv,rfl,hV,hs,hf⟩
 ·exact ⟨rfl,dH.aM (Sx.aR HR.out hv) (P3.out.fr.trans hf)⟩
 unfold Nt at hV;subst hV;replace HR:=Lh (Sx.go_ok HR.out hv);have P4:=P3.out.step hf hs;have Q4:=Lh (Q3.out.step hf hs);have q2:=P4.blk.cell 2;have q3:=P4.blk.cell 3;have yA:=P4.blk.free 2;have sQ:=P4.blk.free 3;simp at q2 q3;have SN:=P4.blk.lt;have P5:Hid (jl g B last l4 w2.heap.size 82 #[.string (Lx.bs nm),.int .i64 ea,.int .i64 me.num,.int .i64 me.den] w ((w4.setCell ⟨w2.heap.size,2,none⟩ (.int .i64 me.num)).setCell ⟨w2.heap.size,3,none⟩ (.int .i64 me.den))):=Lh (by have:=(P4.set 2 (.int .i64 me.num)).set 3 (.int .i64 me.den);simpa using this)
 have Q5:=Lh ((Q4.out.far (b:=w2.heap.size) (by omega) P4.old 2 (.int .i64 me.num)).far (b:=w2.heap.size) (by omega) P4.old 3 (.int .i64 me.den));clear hv hs hf he P3 Q3 P4 Q4;go_wp2_with fail;refine (iA g B l4 last 59 _ P5.out.ps).mono ?_;intro e w5 he
 rcases he.split with ⟨p,x,hv,rfl,hf⟩ | ⟨u,l5,v,hv,rfl,hV,hs,hf⟩
 ·exact ⟨rfl,dH.aM (Sx.aR HR.out hv) (P5.out.fr.trans hf)⟩
 unfold fQ at hV;subst hV;replace HR:=Lh (Sx.go_ok HR.out hv);have P6:=P5.out.step hf hs;have Q6:=Q5.out.step hf hs;have x0:=P6.blk.cell 0;have x1:=P6.blk.cell 1;have x2:=P6.blk.cell 2;have x3:=P6.blk.cell 3;have y0:=Q6.blk.cell 0;have y1:=Q6.blk.cell 1;have y2:=Q6.blk.cell 2;have y3:=Q6.blk.cell 3;have WC:=Q6.blk.free 0;have WE:=Q6.blk.free 1;have WG:=Q6.blk.free 2;have WH:=Q6.blk.free 3;simp at x0 x1 x2 x3 y0 y1 y2 y3;have hp6:=P6.blk.lt;have hq6:=Q6.blk.lt;have Q7:=Lh Q6;clear hv hs hf he P5 Q5 P6 Q6 q2 q3 yA sQ SN;go_wp2_with fail
 obtain ⟨V,hV⟩:∃ V,V=(((w5.setCell ⟨w.heap.size,0,none⟩ (.string (Lx.bs nm))).setCell ⟨w.heap.size,1,none⟩ (.int .i64 ea)).setCell ⟨w.heap.size,2,none⟩ (.int .i64 me.num)).setCell ⟨w.heap.size,3,none⟩ (.int .i64 me.den):=⟨_,rfl⟩
 have hL:jl g B last l5 w.heap.size 82 #[.string (Lx.bs nm),.int .i64 ea,.int .i64 me.num,.int .i64 me.den] w V:=by
  rw[hV];have:=(((Q7.out.set 0 (.string (Lx.bs nm))).set 1 (.int .i64 ea)).set 2 (.int .i64 me.num)).set 3 (.int .i64 me.den);simpa using this
 have d0:=hL.blk.cell 0;have d1:=hL.blk.cell 1;have d2:=hL.blk.cell 2;have d3:=hL.blk.cell 3;simp at d0 d1 d2 d3
 try simp only [Exit.inBlock,Exit.then]
 rw[←hV];clear hV;exact bodyPost_ret (v:=.agg #[.string (Lx.bs nm),.int .i64 ea,.int .i64 me.num,.int .i64 me.den]) (by simp [results,Tryz.results163,go_sem,d0,d1,d2,d3]) rfl (by rw [HR.out];exact ⟨_,rfl,⟨rfl,Hnl.out⟩,hL.ps,hL.fr⟩)
theorem Tryz.infoClassD:(Tryz.prog.info? 82).map (fun i=>(i.zero,i.size,i.bytes))=some (some (.agg #[.string ⟨#[]⟩,.int .i64 0,.int .i64 0,.int .i64 0]),4,40):=by kernel_rfl
theorem Tryz.infoFeeD:(Tryz.prog.info? 86).map (fun i=>(i.zero,i.size,i.bytes))=some (some (.agg #[.string ⟨#[]⟩,.int .i64 0]),2,24):=by kernel_rfl
theorem Qs (N:Nat):Cn N 87 fun last c l=>(Sx.standing last l).bind fun x l=>.ok { c with classes:=c.classes++[x] } l:=by
  intro g B h l last w0 w c vs css H he hN gT hl;obtain ⟨R,hR⟩:∃ R,R=(Sx.standing last l).bind fun x l=>(.ok { c with classes:=c.classes++[x] } l:Sx.R Sx.dh):=⟨_,rfl⟩
  show Calls _ _ _ _ (aP g B last h w0 ((Sx.standing last l).bind fun x l=>(.ok { c with classes:=c.classes++[x] } l:Sx.R Sx.dh)));rw[←hR];replace hR:R=(Sx.standing last l).bind fun x l=>(.ok { c with classes:=c.classes++[x] } l:Sx.R Sx.dh):=by rw [hR]
  have HR:=Lh hR;have HC:=Lh H;have HE:=Lh he;have hlt:=H.ps.lt;have hgl:h < w.heap.size:=H.blk.lt;have hgh:=H.gh;obtain ⟨i0,hi0,hz0,hz1,hz2⟩:=info_parts Tryz.infoClassD;obtain ⟨v,rs,is,hv1,ni,iB,hrl⟩:=H.get (i:=3) (by omega);have hrf:rs.length≤1000000:=by rw [hrl];exact gT is (List.mem_of_getElem? iB)
  have nu:is=c.classes.map .cls:=by simpa [dA] using iB.symm
  have hrow:=fun u (hu:u∈vs) z (hz:u.ownBlock=some z)=>(H.ny hu hz).2;have um:=Lh hrow;have HI:=Lh (And.intro hv1 (And.intro ni iB));have HIS:=Lh nu;clear H hR hrow hv1 ni iB hrl gT nu he;have c0:w.cell? ⟨h,3,none⟩=some v:=by rw [HC.out.blk.cell 3];simpa using HI.out.1
  have KE:=Lh HC.out.drew;go_enter Tryz.func87,Tryz.ntmps87;go_wp2_with fail
  go_region_law (first
    | (refine QV.out.step_append (i:=3) (lo:=w.heap.size) (x:=.cls s) (cs:=[.string (Lx.bs s.name),.int .i64 s.gD,.int .i64 s.mean.num,.int .i64 s.mean.den]) HI.out.1 HI.out.2.1 HI.out.2.2 ⟨rfl,Eb.out⟩ rfl hgl um.out hrf rfl _ _ _ rfl i0 _ 40 Tryz.underlying26 hi0 hz0 hz1 hz2 rfl (by omega) rfl rfl (by simp [Value.oneCell']) ?_;intro gg cap w6 d1 Nr HP)
    | (go_simp;go_at_call 163;refine (zK g B l last _ KE.out.ps).mono ?_;intro e w5 he;rcases he.split with ⟨p,x,hv,rfl,hf⟩ | ⟨s,l5,u5,hv,rfl,hV,hs,hf⟩;(exact ⟨rfl,aP.aM (Sx.aR HR.out hv) (KE.out.fr.trans hf)⟩);obtain ⟨hV,hsl⟩:=hV;unfold bB at hV;subst hV;have Eb:=Lh hsl;clear hsl;have rZ:=Lh (Sx.go_ok HR.out hv);have C5:=KE.out.step hf hs;have c5:w5.cell? ⟨h,3,none⟩=some v:=(by rw [C5.blk.cell 3];simpa using HI.out.1);have hh5:=C5.blk.lt;have QV:=Lh C5;clear hv hs hf he C5))
  all_goals go_end0
  all_goals exact aP.sU rZ.out (by rw [HIS.out];simp[dA]) HP
theorem Nj (N:Nat):Cn N 88 fun last c l=>(Sx.standing last l).bind fun x l=>.ok { c with aJ:=c.aJ++[x] } l:=by
  intro g B h l last w0 w c vs css H he hN gT hl;obtain ⟨R,hR⟩:∃ R,R=(Sx.standing last l).bind fun x l=>(.ok { c with aJ:=c.aJ++[x] } l:Sx.R Sx.dh):=⟨_,rfl⟩
  show Calls _ _ _ _ (aP g B last h w0 ((Sx.standing last l).bind fun x l=>(.ok { c with aJ:=c.aJ++[x] } l:Sx.R Sx.dh)));rw[←hR];replace hR:R=(Sx.standing last l).bind fun x l=>(.ok { c with aJ:=c.aJ++[x] } l:Sx.R Sx.dh):=by rw [hR]
  have HR:=Lh hR;have HC:=Lh H;have HE:=Lh he;have hlt:=H.ps.lt;have hgl:h < w.heap.size:=H.blk.lt;have hgh:=H.gh;obtain ⟨i0,hi0,hz0,hz1,hz2⟩:=info_parts Tryz.infoClassD;obtain ⟨v,rs,is,hv1,ni,iB,hrl⟩:=H.get (i:=5) (by omega);have hrf:rs.length≤1000000:=by rw [hrl];exact gT is (List.mem_of_getElem? iB)
  have nu:is=c.aJ.map .cls:=by simpa [dA] using iB.symm
  have hrow:=fun u (hu:u∈vs) z (hz:u.ownBlock=some z)=>(H.ny hu hz).2;have um:=Lh hrow;have HI:=Lh (And.intro hv1 (And.intro ni iB));have HIS:=Lh nu;clear H hR hrow hv1 ni iB hrl gT nu he;have c0:w.cell? ⟨h,5,none⟩=some v:=by rw [HC.out.blk.cell 5];simpa using HI.out.1
  have KE:=Lh HC.out.drew;go_enter Tryz.func88,Tryz.ntmps88;go_wp2_with fail
  go_region_law (first
    | (refine QV.out.step_append (i:=5) (lo:=w.heap.size) (x:=.cls s) (cs:=[.string (Lx.bs s.name),.int .i64 s.gD,.int .i64 s.mean.num,.int .i64 s.mean.den]) HI.out.1 HI.out.2.1 HI.out.2.2 ⟨rfl,Eb.out⟩ rfl hgl um.out hrf rfl _ _ _ rfl i0 _ 40 Tryz.underlying26 hi0 hz0 hz1 hz2 rfl (by omega) rfl rfl (by simp [Value.oneCell']) ?_;intro gg cap w6 d1 Nr HP)
    | (go_simp;go_at_call 163;refine (zK g B l last _ KE.out.ps).mono ?_;intro e w5 he;rcases he.split with ⟨p,x,hv,rfl,hf⟩ | ⟨s,l5,u5,hv,rfl,hV,hs,hf⟩;(exact ⟨rfl,aP.aM (Sx.aR HR.out hv) (KE.out.fr.trans hf)⟩);obtain ⟨hV,hsl⟩:=hV;unfold bB at hV;subst hV;have Eb:=Lh hsl;clear hsl;have rZ:=Lh (Sx.go_ok HR.out hv);have C5:=KE.out.step hf hs;have c5:w5.cell? ⟨h,5,none⟩=some v:=(by rw [C5.blk.cell 5];simpa using HI.out.1);have hh5:=C5.blk.lt;have QV:=Lh C5;clear hv hs hf he C5))
  all_goals go_end0
  all_goals exact aP.sU rZ.out (by rw [HIS.out];simp[dA]) HP
theorem Yg (N:Nat):Cn N 89 fun last c l=>(Sx.Ar last l).bind fun x l=>.ok { c with bZ:=c.bZ++[x] } l:=by
  intro g B h l last w0 w c vs css H he hN gT hl;obtain ⟨R,hR⟩:∃ R,R=(Sx.Ar last l).bind fun x l=>(.ok { c with bZ:=c.bZ++[x] } l:Sx.R Sx.dh):=⟨_,rfl⟩
  show Calls _ _ _ _ (aP g B last h w0 ((Sx.Ar last l).bind fun x l=>(.ok { c with bZ:=c.bZ++[x] } l:Sx.R Sx.dh)));rw[←hR];replace hR:R=(Sx.name last l).bind fun nm l=>(Sx.number last 0 10000 l).bind fun cr l=>(Sx.sign last 59 l).bind fun _ l=>.ok { c with bZ:=c.bZ++[⟨nm,cr⟩] } l:=by rw [hR];simp only[Sx.Ar,Sx.R.rG,Sx.fU]
  have HR:=Lh hR;have HC:=Lh H;have HE:=Lh he;have hlt:=H.ps.lt;have hgl:h < w.heap.size:=H.blk.lt;have hgh:=H.gh;obtain ⟨i0,hi0,hz0,hz1,hz2⟩:=info_parts Tryz.infoFeeD;obtain ⟨v,rs,is,hv1,ni,iB,hrl⟩:=H.get (i:=4) (by omega);have hrf:rs.length≤1000000:=by rw [hrl];exact gT is (List.mem_of_getElem? iB)
  have nu:is=c.bZ.map .Ar:=by simpa [dA] using iB.symm
  have hrow:=fun u (hu:u∈vs) z (hz:u.ownBlock=some z)=>(H.ny hu hz).2;have um:=Lh hrow;have HI:=Lh (And.intro hv1 (And.intro ni iB));have HIS:=Lh nu;clear H hR hrow hv1 ni iB hrl gT nu he;have c0:w.cell? ⟨h,4,none⟩=some v:=by rw [HC.out.blk.cell 4];simpa using HI.out.1
  have KE:=Lh HC.out.drew;go_enter Tryz.func89,Tryz.ntmps89;go_wp2_with fail
  go_region_law (first
    | (refine Y2.out.step_append (i:=4) (lo:=w.heap.size) (x:=.Ar ⟨nm,cr⟩) (cs:=[.string (Lx.bs nm),.int .i64 cr]) HI.out.1 HI.out.2.1 HI.out.2.2 ⟨rfl,Y3.out⟩ rfl hgl um.out hrf rfl _ _ _ rfl i0 _ 24 Tryz.underlying27 hi0 hz0 hz1 hz2 rfl (by omega) rfl rfl (by simp [Value.oneCell']) ?_;intro gg cap w7 d1 Nr HP)
    | (go_simp;go_at_call 157;refine (zq g B l last _ KE.out.ps).mono ?_;intro e w5 he;rcases he.split with ⟨p,x,hv,rfl,hf⟩ | ⟨nm,l5,u5,hv,rfl,hV,hs,hf⟩;(exact ⟨rfl,aP.aM (Sx.aR HR.out hv) (KE.out.fr.trans hf)⟩);obtain ⟨hV,Vp⟩:=hV;unfold bB at hV;subst hV;have Y3:=Lh Vp;clear Vp;have rZ:=Lh (Sx.go_ok HR.out hv);have C5:=KE.out.step hf hs;have c5:w5.cell? ⟨h,4,none⟩=some v:=(by rw [C5.blk.cell 4];simpa using HI.out.1);have hh5:=C5.blk.lt;have QV:=Lh C5;clear hv hs hf he C5)
    | (go_simp;go_at_call 109;refine (fV g B l5 last 0 10000 _ QV.out.ps).mono ?_;intro e w6 he;rcases he.split with ⟨p,x,hv,rfl,hf⟩ | ⟨cr,l6,u6,hv,rfl,hV,hs,hf⟩;(exact ⟨rfl,aP.aM (Sx.aR rZ.out hv) (QV.out.fr.trans hf)⟩);unfold gJ at hV;subst hV;have xJ:=Lh (Sx.go_ok rZ.out hv);have C6:=QV.out.step hf hs;have c6:w6.cell? ⟨h,4,none⟩=some v:=(by rw [C6.blk.cell 4];simpa using HI.out.1);have hh6:=C6.blk.lt;have Y2:=Lh C6;clear hv hs hf he C6))
  all_goals (try go_wp2_with fail)
  all_goals refine (iA g B l6 last 59 _ HP.ps).mono ?_
  all_goals intro e w8 he
  all_goals rcases he.split with ⟨p,x,hv,rfl,hf⟩ | ⟨u,l8,u8,hv,rfl,hV,hs,hf⟩
  all_goals first
    | exact ⟨rfl,aP.aM (Sx.aR xJ.out hv) (HP.fr.trans hf)⟩
    | (unfold fQ at hV
       subst hV;have vM:=Lh (Sx.go_ok xJ.out hv);have HP8:=Lh (HP.step hf hs);clear hv hs hf he HP;go_wp2_with fail
       go_end0
       exact aP.sU vM.out (by rw [HIS.out];simp[dA]) HP8.out)
theorem Sx.gI {last:Int} {ws:List (List UInt8)} {l r:List Lx.Tok} {i:Int} (h:Sx.oneOf last ws l = .ok i r):0≤i∧i < ws.length:=by
 unfold Sx.oneOf at h
 split at h
 ·rename_i j hj;injection h with h1 h2;unfold Sx.find at hj;have:=(List.findIdx?_eq_some_iff_getElem.1 hj).1;omega
 ·unfold Sx.fail at h;cases h
def KF (g B:Nat) (last:Int) (l:List Lx.Tok) (w W:World):Prop:=PS g B last l W∧eP g w W∧g < w.heap.size
theorem KF.alloc {g B:Nat} {last:Int} {l:List Lx.Tok} {w W:World} (h:KF g B last l w W) (o:Obj):KF g B last l w (W.alloc o):=⟨h.1.alloc o,h.2.1.alloc h.2.2 o,h.2.2⟩
theorem KF.step {g B:Nat} {last:Int} {l l':List Lx.Tok} {w W W':World} (h:KF g B last l w W) (hf:eP g W W') (hs:PS g B last l' W'):KF g B last l' w W':=⟨hs,h.2.1.trans hf,h.2.2⟩
def KG (g p:Nat) (w W:World):Prop:=aC W p 90 #[.int .i64 0,.int .i64 0,.int .i64 0,.int .i64 0]∧p≠g∧w.heap.size≤p
theorem KG.step {g p:Nat} {w W W':World} (h:KG g p w W) (hf:eP g W W'):KG g p w W':=⟨hf.blk h.1 h.2.1,h.2⟩
theorem KG.new {g B:Nat} {last:Int} {l:List Lx.Tok} {w W:World} (h:KF g B last l w W):KG g W.heap.size w (W.alloc (.cells #[.int .i64 0,.int .i64 0,.int .i64 0,.int .i64 0] 90)):=⟨aC.new _ _ _,by have:=h.1.lt;omega,h.2.1.aY.size⟩
theorem Tryz.infoClauseD:(Tryz.prog.info? 90).map (fun i=>(i.zero,i.size,i.bytes))=some (some (.agg #[.int .i64 0,.int .i64 0,.int .i64 0,.int .i64 0]),4,32):=by kernel_rfl
theorem Nk (N:Nat):Cn N 90 fun last c l=>(Sx.clause last l).bind fun x l=>.ok { c with clauses:=c.clauses++[x] } l:=by
 intro g B h l last w0 w c vs css H he hN gT hl;obtain ⟨R,hR⟩:∃ R,R=(Sx.clause last l).bind fun x l=>(.ok { c with clauses:=c.clauses++[x] } l:Sx.R Sx.dh):=⟨_,rfl⟩
 show Calls _ _ _ _ (aP g B last h w0 ((Sx.clause last l).bind fun x l=>(.ok { c with clauses:=c.clauses++[x] } l:Sx.R Sx.dh)));rw[←hR];replace hR:R=(Sx.oneOf last Sx.kindWords l).bind fun k l=>(Sx.oneOf last Sx.whenWords l).bind fun wn l=>(Sx.oneOf last Sx.actionWords l).bind fun a l=>(Sx.word last Sx.nL l).bind fun _ l=>(Sx.number last 0 12 l).bind fun u l=>(Sx.sign last 59 l).bind fun _ l=>.ok { c with clauses:=c.clauses++[⟨k+1,wn,a+1,u⟩] } l:=by rw [hR];simp only[Sx.clause,Sx.R.rG,Sx.fU]
 have HR:=Lh hR;have HC:=Lh H;have HE:=Lh he;have hlt:=H.ps.lt;have hgl:h < w.heap.size:=H.blk.lt;have hgh:=H.gh;obtain ⟨i0,hi0,hz0,hz1,hz2⟩:=info_parts Tryz.infoClauseD;obtain ⟨v,rs,is,hv1,ni,iB,hrl⟩:=H.get (i:=6) (by omega);have hrf:rs.length≤1000000:=by rw [hrl];exact gT is (List.mem_of_getElem? iB)
 have nu:is=c.clauses.map .clause:=by simpa [dA] using iB.symm
 have hrow:=fun u (hu:u∈vs) z (hz:u.ownBlock=some z)=>(H.ny hu hz).2;have um:=Lh hrow;have HI:=Lh (And.intro hv1 (And.intro ni iB));have HIS:=Lh nu;clear H hR hrow hv1 ni iB hrl gT nu he;have DN:=HE.out.size;obtain ⟨bk,ok,ck,kc,kN,kw⟩:=HE.out.kind;have FV:=Lh (fun (W:World) (l:List Lx.Tok) (hM:KF g B last l w W)=>iH g B N bk ok ck Sx.kindWords l last W hM.1 (kw.keep (hM.2.1.aY.mono hN)) hN (by decide));rw[show Sx.kindWords.length=5 from rfl] at FV kc;have Mc:=Lh (fun (W:World) (hF:eP g w W)=>(hF.cell (b:=0) (by omega) (by omega) 0).trans kc)
 obtain ⟨bn,on,cn,nc,nN,nw⟩:=HE.out.gH;have CK:=Lh (fun (W:World) (l:List Lx.Tok) (hM:KF g B last l w W)=>iH g B N bn on cn Sx.whenWords l last W hM.1 (nw.keep (hM.2.1.aY.mono hN)) hN (by decide));rw[show Sx.whenWords.length=3 from rfl] at CK nc;have Md:=Lh (fun (W:World) (hF:eP g w W)=>(hF.cell (b:=1) (by omega) (by omega) 0).trans nc);obtain ⟨ba,oa,ca,ac,aN,aw⟩:=HE.out.action;have CO:=Lh (fun (W:World) (l:List Lx.Tok) (hM:KF g B last l w W)=>iH g B N ba oa ca Sx.actionWords l last W hM.1 (aw.keep (hM.2.1.aY.mono hN)) hN (by decide))
 rw[show Sx.actionWords.length=3 from rfl] at CO ac;have Me:=Lh (fun (W:World) (hF:eP g w W)=>(hF.cell (b:=2) (by omega) (by omega) 0).trans ac);have HM:=Lh (show KF g B last l w w.drew from ⟨HC.out.ps.next (Below.refl _ _).drew,eP.below ((Below.refl w.heap.size w).drew) hlt,hlt⟩);clear kw nw aw;go_enter Tryz.func90,Tryz.ntmps90;go_wp2_with fail;have kg:=kN;have ng:=nN;have ag:=aN
 go_cut [0,1,4] from 5 to 17 (fun v0 v1 v4 wx=>v0 = .pointer (some ⟨g,0,none⟩)∧v1 = .pointer (some ⟨h,0,none⟩)∧∃ p kd wn ac l7,v4 = .pointer (some ⟨p,0,none⟩)∧Hid (R=(Sx.word last Sx.nL l7).bind fun _ l=>(Sx.number last 0 12 l).bind fun u l=>(Sx.sign last 59 l).bind fun _ l=>.ok { c with clauses:=c.clauses++[⟨kd+1,wn,ac+1,u⟩] } l)∧Hid (jl g B last l7 p 90 #[.int .i64 (kd+1),.int .i64 wn,.int .i64 (ac+1),.int .i64 0] w wx))
 case first=>
  go_region_held_law (fun w':World=>w'.cell? ⟨0,0,none⟩=some (.slice (some ⟨bk,ok,none⟩) 5 ck)∧w'.cell? ⟨1,0,none⟩=some (.slice (some ⟨bn,on,none⟩) 3 cn)∧w'.cell? ⟨2,0,none⟩=some (.slice (some ⟨ba,oa,none⟩) 3 ca)) (first | (refine ⟨Mc.out _ ?_,Md.out _ ?_,Me.out _ ?_⟩ <;> exact ((((Pk.out.2.1.iI hlt Z7.out.2.2 0 _).iI hlt Z7.out.2.2 1 _).iI hlt Z7.out.2.2 2 _).iI hlt Z7.out.2.2 3 _)) | go_keep) (first | (go_at_call 107;refine (CO.out _ l6 Jk.out).mono ?_;intro e w7 he;rcases he.split with ⟨p,x,hv,rfl,hf⟩ | ⟨ac,l7,u7,hv,rfl,hV,hs,hf⟩;(exact ⟨rfl,aP.aM (Sx.aR xJ.out hv) (HC.out.fr.trans (Jk.out.2.1.trans hf))⟩);unfold gJ at hV;subst hV;have xI:=Sx.gI hv;rw[show Sx.actionWords.length=3 from rfl] at xI;have Vq:=xI.1;have Vr:=xI.2;have t7:IntKind.i64.wrap (1+ac)=ac+1:=(by rw [show 1+ac=ac+1 by omega];exact IntWalk.i64_in _ (by omega));have LX:=Lh (Sx.go_ok xJ.out hv);have m7:=Jk.out.step hf hs;have rk7:=Mc.out _ m7.2.1;have rn7:=Md.out _ m7.2.1;have ra7:=Me.out _ m7.2.1;have Z7:=Lh (Z6.out.step hf);have Y4:=Z7.out.1.cell 0;have Y5:=Z7.out.1.cell 1;have Y6:=Z7.out.1.cell 2;have Y7:=Z7.out.1.cell 3;have y7e:=Z7.out.1.free 0;have y7f:=Z7.out.1.free 1;have y7g:=Z7.out.1.free 2;have y7h:=Z7.out.1.free 3;have y7l:=Z7.out.1.lt;simp at Y4 Y5 Y6 Y7;have v70:=(show ∀ q:Nat,w.heap.size≤q→0≠q from fun q hq=>by omega) _ Z7.out.2.2;have v71:=(show ∀ q:Nat,w.heap.size≤q→1≠q from fun q hq=>by omega) _ Z7.out.2.2;have v72:=(show ∀ q:Nat,w.heap.size≤q→2≠q from fun q hq=>by omega) _ Z7.out.2.2;have Pk:=Lh m7;clear hv hs hf he m7 xI) | (go_at_call 107;refine (CO.out _ l6 Jk.out).mono ?_;intro e w7 he;rcases he.split with ⟨p,x,hv,rfl,hf⟩ | ⟨ac,l7,u7,hv,rfl,hV,hs,hf⟩;(exact ⟨rfl,aP.aM (Sx.aR xJ.out hv) (HC.out.fr.trans (Jk.out.2.1.trans hf))⟩);unfold gJ at hV;subst hV;have xI:=Sx.gI hv;rw[show Sx.actionWords.length=3 from rfl] at xI;have Vq:=xI.1;have Vr:=xI.2;have t7:IntKind.i64.wrap (1+ac)=ac+1:=(by rw [show 1+ac=ac+1 by omega];exact IntWalk.i64_in _ (by omega));have LX:=Lh (Sx.go_ok xJ.out hv);have m7:=Jk.out.step hf hs;have rk7:=Mc.out _ m7.2.1;have rn7:=Md.out _ m7.2.1;have ra7:=Me.out _ m7.2.1;have Pk:=Lh m7;clear hv hs hf he m7 xI) | (go_at_call 107;refine (CO.out _ l6 (Jk.out.alloc (Obj.cells #[.int .i64 0,.int .i64 0,.int .i64 0,.int .i64 0] 90))).mono ?_;intro e w7 he;rcases he.split with ⟨p,x,hv,rfl,hf⟩ | ⟨ac,l7,u7,hv,rfl,hV,hs,hf⟩;(exact ⟨rfl,aP.aM (Sx.aR xJ.out hv) (HC.out.fr.trans ((Jk.out.alloc (Obj.cells #[.int .i64 0,.int .i64 0,.int .i64 0,.int .i64 0] 90)).2.1.trans hf))⟩);unfold gJ at hV;subst hV;have xI:=Sx.gI hv;rw[show Sx.actionWords.length=3 from rfl] at xI;have Vq:=xI.1;have Vr:=xI.2;have t7:IntKind.i64.wrap (1+ac)=ac+1:=(by rw [show 1+ac=ac+1 by omega];exact IntWalk.i64_in _ (by omega));have LX:=Lh (Sx.go_ok xJ.out hv);have m7:=(Jk.out.alloc (Obj.cells #[.int .i64 0,.int .i64 0,.int .i64 0,.int .i64 0] 90)).step hf hs;have rk7:=Mc.out _ m7.2.1;have rn7:=Md.out _ m7.2.1;have ra7:=Me.out _ m7.2.1;have Z7:Hid (KG g w6.heap.size w w7):=Lh ((KG.new Jk.out).step hf);have Y4:=Z7.out.1.cell 0;have Y5:=Z7.out.1.cell 1;have Y6:=Z7.out.1.cell 2;have Y7:=Z7.out.1.cell 3;have y7e:=Z7.out.1.free 0;have y7f:=Z7.out.1.free 1;have y7g:=Z7.out.1.free 2;have y7h:=Z7.out.1.free 3;have y7l:=Z7.out.1.lt;simp at Y4 Y5 Y6 Y7;have v70:=(show ∀ q:Nat,w.heap.size≤q→0≠q from fun q hq=>by omega) _ Z7.out.2.2;have v71:=(show ∀ q:Nat,w.heap.size≤q→1≠q from fun q hq=>by omega) _ Z7.out.2.2;have v72:=(show ∀ q:Nat,w.heap.size≤q→2≠q from fun q hq=>by omega) _ Z7.out.2.2;have Pk:=Lh m7;clear hv hs hf he m7 xI) | (go_at_call 107;refine (CK.out _ l5 KH.out).mono ?_;intro e w6 he;rcases he.split with ⟨p,x,hv,rfl,hf⟩ | ⟨wn,l6,u6,hv,rfl,hV,hs,hf⟩;(exact ⟨rfl,aP.aM (Sx.aR rZ.out hv) (HC.out.fr.trans (KH.out.2.1.trans hf))⟩);unfold gJ at hV;subst hV;have hb6:=Sx.gI hv;rw[show Sx.whenWords.length=3 from rfl] at hb6;have Vt:=hb6.1;have Vu:=hb6.2;have t6:IntKind.i64.wrap wn=wn:=IntWalk.i64_in _ (by omega);have xJ:=Lh (Sx.go_ok rZ.out hv);have m6:=KH.out.step hf hs;have rk6:=Mc.out _ m6.2.1;have rn6:=Md.out _ m6.2.1;have ra6:=Me.out _ m6.2.1;have Z6:=Lh (Z5.out.step hf);have Y8:=Z6.out.1.cell 0;have Y9:=Z6.out.1.cell 1;have Za:=Z6.out.1.cell 2;have Zb:=Z6.out.1.cell 3;have y6e:=Z6.out.1.free 0;have y6f:=Z6.out.1.free 1;have y6g:=Z6.out.1.free 2;have y6h:=Z6.out.1.free 3;have y6l:=Z6.out.1.lt;simp at Y8 Y9 Za Zb;have v60:=(show ∀ q:Nat,w.heap.size≤q→0≠q from fun q hq=>by omega) _ Z6.out.2.2;have v61:=(show ∀ q:Nat,w.heap.size≤q→1≠q from fun q hq=>by omega) _ Z6.out.2.2;have v62:=(show ∀ q:Nat,w.heap.size≤q→2≠q from fun q hq=>by omega) _ Z6.out.2.2;have Jk:=Lh m6;clear hv hs hf he m6 hb6) | (go_at_call 107;refine (CK.out _ l5 KH.out).mono ?_;intro e w6 he;rcases he.split with ⟨p,x,hv,rfl,hf⟩ | ⟨wn,l6,u6,hv,rfl,hV,hs,hf⟩;(exact ⟨rfl,aP.aM (Sx.aR rZ.out hv) (HC.out.fr.trans (KH.out.2.1.trans hf))⟩);unfold gJ at hV;subst hV;have hb6:=Sx.gI hv;rw[show Sx.whenWords.length=3 from rfl] at hb6;have Vt:=hb6.1;have Vu:=hb6.2;have t6:IntKind.i64.wrap wn=wn:=IntWalk.i64_in _ (by omega);have xJ:=Lh (Sx.go_ok rZ.out hv);have m6:=KH.out.step hf hs;have rk6:=Mc.out _ m6.2.1;have rn6:=Md.out _ m6.2.1;have ra6:=Me.out _ m6.2.1;have Jk:=Lh m6;clear hv hs hf he m6 hb6) | (go_at_call 107;refine (CK.out _ l5 (KH.out.alloc (Obj.cells #[.int .i64 0,.int .i64 0,.int .i64 0,.int .i64 0] 90))).mono ?_;intro e w6 he;rcases he.split with ⟨p,x,hv,rfl,hf⟩ | ⟨wn,l6,u6,hv,rfl,hV,hs,hf⟩;(exact ⟨rfl,aP.aM (Sx.aR rZ.out hv) (HC.out.fr.trans ((KH.out.alloc (Obj.cells #[.int .i64 0,.int .i64 0,.int .i64 0,.int .i64 0] 90)).2.1.trans hf))⟩);unfold gJ at hV;subst hV;have hb6:=Sx.gI hv;rw[show Sx.whenWords.length=3 from rfl] at hb6;have Vt:=hb6.1;have Vu:=hb6.2;have t6:IntKind.i64.wrap wn=wn:=IntWalk.i64_in _ (by omega);have xJ:=Lh (Sx.go_ok rZ.out hv);have m6:=(KH.out.alloc (Obj.cells #[.int .i64 0,.int .i64 0,.int .i64 0,.int .i64 0] 90)).step hf hs;have rk6:=Mc.out _ m6.2.1;have rn6:=Md.out _ m6.2.1;have ra6:=Me.out _ m6.2.1;have Z6:Hid (KG g w5.heap.size w w6):=Lh ((KG.new KH.out).step hf);have Y8:=Z6.out.1.cell 0;have Y9:=Z6.out.1.cell 1;have Za:=Z6.out.1.cell 2;have Zb:=Z6.out.1.cell 3;have y6e:=Z6.out.1.free 0;have y6f:=Z6.out.1.free 1;have y6g:=Z6.out.1.free 2;have y6h:=Z6.out.1.free 3;have y6l:=Z6.out.1.lt;simp at Y8 Y9 Za Zb;have v60:=(show ∀ q:Nat,w.heap.size≤q→0≠q from fun q hq=>by omega) _ Z6.out.2.2;have v61:=(show ∀ q:Nat,w.heap.size≤q→1≠q from fun q hq=>by omega) _ Z6.out.2.2;have v62:=(show ∀ q:Nat,w.heap.size≤q→2≠q from fun q hq=>by omega) _ Z6.out.2.2;have Jk:=Lh m6;clear hv hs hf he m6 hb6) | (go_at_call 107;refine (FV.out _ l HM.out).mono ?_;intro e w5 he;rcases he.split with ⟨p,x,hv,rfl,hf⟩ | ⟨kd,l5,u5,hv,rfl,hV,hs,hf⟩;(exact ⟨rfl,aP.aM (Sx.aR HR.out hv) (HC.out.fr.trans (HM.out.2.1.trans hf))⟩);unfold gJ at hV;subst hV;have hb5:=Sx.gI hv;rw[show Sx.kindWords.length=5 from rfl] at hb5;have Zc:=hb5.1;have Zd:=hb5.2;have t5:IntKind.i64.wrap (1+kd)=kd+1:=(by rw [show 1+kd=kd+1 by omega];exact IntWalk.i64_in _ (by omega));have rZ:=Lh (Sx.go_ok HR.out hv);have m5:=HM.out.step hf hs;have rk5:=Mc.out _ m5.2.1;have rn5:=Md.out _ m5.2.1;have ra5:=Me.out _ m5.2.1;have KH:=Lh m5;clear hv hs hf he m5 hb5) | (go_at_call 107;refine (FV.out _ l (HM.out.alloc (Obj.cells #[.int .i64 0,.int .i64 0,.int .i64 0,.int .i64 0] 90))).mono ?_;intro e w5 he;rcases he.split with ⟨p,x,hv,rfl,hf⟩ | ⟨kd,l5,u5,hv,rfl,hV,hs,hf⟩;(exact ⟨rfl,aP.aM (Sx.aR HR.out hv) (HC.out.fr.trans ((HM.out.alloc (Obj.cells #[.int .i64 0,.int .i64 0,.int .i64 0,.int .i64 0] 90)).2.1.trans hf))⟩);unfold gJ at hV;subst hV;have hb5:=Sx.gI hv;rw[show Sx.kindWords.length=5 from rfl] at hb5;have Zc:=hb5.1;have Zd:=hb5.2;have t5:IntKind.i64.wrap (1+kd)=kd+1:=(by rw [show 1+kd=kd+1 by omega];exact IntWalk.i64_in _ (by omega));have rZ:=Lh (Sx.go_ok HR.out hv);have m5:=(HM.out.alloc (Obj.cells #[.int .i64 0,.int .i64 0,.int .i64 0,.int .i64 0] 90)).step hf hs;have rk5:=Mc.out _ m5.2.1;have rn5:=Md.out _ m5.2.1;have ra5:=Me.out _ m5.2.1;have Z5:Hid (KG g w.heap.size w w5):=Lh ((KG.new HM.out).step hf);have y5a:=Z5.out.1.cell 0;have y5b:=Z5.out.1.cell 1;have y5c:=Z5.out.1.cell 2;have y5d:=Z5.out.1.cell 3;have y5e:=Z5.out.1.free 0;have y5f:=Z5.out.1.free 1;have y5g:=Z5.out.1.free 2;have y5h:=Z5.out.1.free 3;have y5l:=Z5.out.1.lt;simp at y5a y5b y5c y5d;have v50:=(show ∀ q:Nat,w.heap.size≤q→0≠q from fun q hq=>by omega) _ Z5.out.2.2;have v51:=(show ∀ q:Nat,w.heap.size≤q→1≠q from fun q hq=>by omega) _ Z5.out.2.2;have v52:=(show ∀ q:Nat,w.heap.size≤q→2≠q from fun q hq=>by omega) _ Z5.out.2.2;have KH:=Lh m5;clear hv hs hf he m5 hb5))
  all_goals (try go_wp2_with fail)
  all_goals go_meet
  all_goals first
   | exact ⟨rfl,rfl,_,kd,wn,ac,l7,rfl,LX,Lh (by have L:=((((jl.mk Pk.out.1 Pk.out.2.1 Z7.out.1 Z7.out.2.2 hlt).set 0 (.int .i64 (kd+1))).set 1 (.int .i64 wn)).set 2 (.int .i64 (ac+1))).set 3 (.int .i64 0);simpa using L)⟩
   | exact ⟨rfl,rfl,_,kd,wn,ac,l7,rfl,LX,Lh ⟨(Pk.out.alloc _).1,(Pk.out.alloc _).2.1,aC.new _ _ _,Pk.out.2.1.aY.size,hlt⟩⟩
 case rest=>
  obtain ⟨rfl,rfl,p,kd,wn,ac,l7,rfl,LX,HL⟩:=hcut;clear HR HM FV CK CO Mc Md Me kc nc kN nN aN kg ng ag HE;go_wp2_with fail;refine (FE g B l7 last _ _ HL.out.ps).mono ?_;intro e w8 he
  rcases he.split with ⟨p',x,hv,rfl,hf⟩ | ⟨_,l8,u8,hv,rfl,hV,hs,hf⟩
  ·exact ⟨rfl,aP.aM (Sx.aR LX.out hv) (HC.out.fr.trans (HL.out.fr.trans hf))⟩
  unfold fQ at hV;subst hV;have vM:=Lh (Sx.go_ok LX.out hv);have FC:=Lh (HL.out.step hf hs);clear hv hs hf he HL LX;go_wp2_with fail;refine (fV g B l8 last 0 12 _ FC.out.ps).mono ?_;intro e w9 he
  rcases he.split with ⟨p',x,hv,rfl,hf⟩ | ⟨ut,l9,u9,hv,rfl,hV,hs,hf⟩
  ·exact ⟨rfl,aP.aM (Sx.aR vM.out hv) (HC.out.fr.trans (FC.out.fr.trans hf))⟩
  unfold gJ at hV;subst hV;have QW:=Lh (Sx.go_ok vM.out hv);have L9:=FC.out.step hf hs;have q3:=L9.blk.cell 3;have sQ:=L9.blk.free 3;simp at q3;have Ze:=L9.blk.lt;have vY:Hid (jl g B last l9 p 90 #[.int .i64 (kd+1),.int .i64 wn,.int .i64 (ac+1),.int .i64 ut] w (w9.setCell ⟨p,3,none⟩ (.int .i64 ut))):=Lh (by have:=L9.set 3 (.int .i64 ut);simpa using this);clear hv hs hf he FC vM L9;go_wp2_with fail;refine (iA g B l9 last 59 _ vY.out.ps).mono ?_;intro e QF he
  rcases he.split with ⟨p',x,hv,rfl,hf⟩ | ⟨_,l10,u10,hv,rfl,hV,hs,hf⟩
  ·exact ⟨rfl,aP.aM (Sx.aR QW.out hv) (HC.out.fr.trans (vY.out.fr.trans hf))⟩
  unfold fQ at hV;subst hV;have Zf:=Lh (Sx.go_ok QW.out hv);have sS:=vY.out.step hf hs;have x0:=sS.blk.cell 0;have x1:=sS.blk.cell 1;have x2:=sS.blk.cell 2;have x3:=sS.blk.cell 3;simp at x0 x1 x2 x3;have YF:=sS.blk.lt;have Nq:=HC.out.step sS.fr sS.ps;have c11:QF.cell? ⟨h,6,none⟩=some v:=by rw [Nq.blk.cell 6];simpa using HI.out.1
  have YG:=Nq.blk.lt;have QG:=Lh Nq.drew;clear hv hs hf he sS Nq QW vY q3 sQ Ze;go_wp2_with fail
  go_region_law (refine QG.out.step_append (i:=6) (lo:=w.heap.size) (x:=.clause ⟨kd+1,wn,ac+1,ut⟩) (cs:=[.int .i64 (kd+1),.int .i64 wn,.int .i64 (ac+1),.int .i64 ut]) HI.out.1 HI.out.2.1 HI.out.2.2 rfl rfl hgl um.out hrf rfl _ _ _ rfl i0 _ 32 Tryz.underlying28 hi0 hz0 hz1 hz2 rfl (by omega) rfl rfl (by simp [Value.oneCell']) ?_;intro gg cap WM d1 Nr HP)
  all_goals go_end0
  all_goals exact aP.sU Zf.out (by rw [HIS.out];simp[dA]) HP
end Go.Proofs.YtjonaidancomgaaGreatDoor
