/- Parts of the proof, joined into one text: SxFn, SxStand, SxDefsB, SxDefsC. -/
import Derived.Test.YtjonaidancomgaaGreatDoorPSxKids
import Derived.Test.YtjonaidancomgaaGreatDoorPSxLen
import Derived.Maps.Own
import Derived.Maps.OwnOps
import Derived.Maps.OwnSet
import Derived.Maps.Views
import Derived.Deep.RegionHeldLaw
import Derived.Deep.CutRange

namespace Go.Proofs.YtjonaidancomgaaGreatDoor
open Go.RowKit Go.Maps Go.WideMaps

def Sx.defWs:List (List UInt8):=[Sx.wCourse,Sx.wSame,Sx.wProgramme,Sx.wClass,Sx.wHonour,Sx.wFee,Sx.wWhen]
def Sx.defFs:List Nat:=[84,85,86,87,88,89,90]
def fnEl:Value→Option (DataW Unit × List MemPlace)
 | .func (.func n) a c=>if a.isEmpty && c.isEmpty then some (.lit (.int .i64 (n:Nat)),[]) else none
 | .nilFunc=>some (.lit (.int .i64 (-1)),[])
 | _=>none
theorem fnEl_inv {v:Value} {n:Int} {ps:List MemPlace} (h:fnEl v=some (.lit (.int .i64 n),ps)):(∃ f:Nat,n=f∧v = .func (.func f) #[] #[])∨(n = -1∧v = .nilFunc):=by
 unfold fnEl at h
 split at h
 ·rename_i m a c
  split at h
  ·rename_i hac
   simp at hac
   obtain ⟨ha,hc⟩:=hac
   subst ha;subst hc
   simp at h
   exact .inl ⟨m,h.1.symm,rfl⟩
  ·cases h
 ·simp at h
  exact .inr ⟨h.1.symm,rfl⟩
 ·cases h
def Sx.fnD:Nat→DataW Unit
 | 0=>.map []
 | k+1=>(Sx.fnD k).put (.string (Sx.defWs.getD k [])) (.lit (.int .i64 (Sx.defFs.getD k 0:Nat)))
theorem fnKeyLaw:Keyed Tryz.prog 9:=string_keyed Tryz.underlying9
def FnAt (w:World) (b:Nat):Prop:=w.ownsMap Tryz.prog 9 fnEl b 7 (Sx.fnD 7)
theorem Sx.fnD_isMap:∀ k,IsMap (Sx.fnD k)
 | 0=>⟨[],rfl⟩
 | k+1=>by
  obtain ⟨es,he⟩:=Sx.fnD_isMap k
  unfold Sx.fnD
  rw[he]
  exact ⟨_,rfl⟩
theorem Sx.idx_none_of {l:List (List UInt8)} (hnd:l.Nodup) (k:Nat) (hk:k < l.length):(l.take k).findIdx? (· == l[k])=none:=by
 rw[List.findIdx?_eq_none_iff]
 intro x hx
 obtain ⟨j,hj⟩:=List.mem_iff_getElem?.1 hx
 have hjl:=(List.getElem?_eq_some_iff.1 hj).1
 rw[List.length_take] at hjl
 rw[List.getElem?_take_of_lt (by omega),List.getElem?_eq_getElem (by omega)] at hj
 injection hj with hj
 rw[beq_eq_false_iff_ne,←hj]
 intro e
 have:=(List.getElem_inj hnd).1 e
 omega
theorem Sx.fnD_at (t:List UInt8) (z:DataW Unit):∀ k,k≤7→(Sx.fnD k).atKey (.string t) z=match (Sx.defWs.take k).findIdx? (· == t) with | some i=>.lit (.int .i64 (Sx.defFs.getD i 0:Nat)) | none=>z
 | 0,_=>rfl
 | k+1,hk=>by
  have hlt:k < Sx.defWs.length:=by show k < 7;omega
  have hget:Sx.defWs.getD k []=Sx.defWs[k]:=by simp [List.getD,List.getElem?_eq_getElem hlt]
  have hnd:Sx.defWs.Nodup:=by decide
  unfold Sx.fnD
  rw[hget,List.take_succ_eq_append_getElem hlt,List.findIdx?_append]
  by_cases e:t=Sx.defWs[k]
  ·rw[e,atKey_put_same (k:=.string Sx.defWs[k]) (Sx.fnD_isMap k) (show WideAt.IsKeyLit (.string Sx.defWs[k]) from trivial)]
   rw[Sx.idx_none_of hnd k hlt]
   have hl:(Sx.defWs.take k).length=k:=by rw [List.length_take];omega
   simp[List.findIdx?_cons]
   rw[Nat.min_eq_left (by omega)]
  ·rw[atKey_put_other (by intro h;injection h with h;exact e h),Sx.fnD_at t z k (by omega)]
   cases h:(Sx.defWs.take k).findIdx? (· == t) with
   | some i=>rfl
   | none=>
    have hne:(Sx.defWs[k] == t)=false:=beq_eq_false_iff_ne.2 (fun h=>e h.symm)
    simp[List.findIdx?_cons,hne]
theorem zeroFn (w:World):(zeroValue 145).run Tryz.prog w = .ok .nilFunc w:=by kernel_rfl
def Sx.defIx (x:List UInt8):Option Nat:=Sx.defWs.findIdx? (· == x)
theorem FnAt.look {w:World} {b:Nat} (h:FnAt w b) (s:ByteArray) (hs:s.size≤maxLen):(Instr.lookup 147 (.map (some b)) (.string s) true).run Tryz.prog w = .ok (match Sx.defIx s.data.toList with | some i=>.tuple #[.func (.func (Sx.defFs.getD i 0)) #[] #[],.bool true] | none=>.tuple #[.nilFunc,.bool false]) w:=by
 obtain ⟨v,ps,hrun,hv⟩:=World.ownsMap.look_ok h fnKeyLaw Tryz.underlying147 (zeroFn w) (show fnEl .nilFunc=some (.lit (.int .i64 (-1)),[]) from rfl) (keyOf_string_mk Tryz.underlying9 hs)
 rw[hrun]
 have ht:Sx.defWs.take 7=Sx.defWs:=rfl
 have hat:=Sx.fnD_at s.data.toList
 rw[hat _ 7 (Nat.le_refl _),ht] at hv
 unfold Sx.defIx
 cases hf:Sx.defWs.findIdx? (· == s.data.toList) with
 | none=>
  rw[hf] at hv
  rw[has_false_of_atKey (fun z=>by rw [hat z 7 (Nat.le_refl _),ht,hf])]
  rcases fnEl_inv hv with ⟨f,e,_⟩ | ⟨_,rfl⟩
  ·omega
  ·rfl
 | some i=>
  rw[hf] at hv
  rw[has_true_of_atKey (fun z=>by rw [hat z 7 (Nat.le_refl _),ht,hf])]
  rcases fnEl_inv hv with ⟨f,e,rfl⟩ | ⟨e,_⟩
  ·have:Sx.defFs.getD i 0=f:=by omega
   show _=Result.ok (Value.tuple #[.func (.func (Sx.defFs.getD i 0)) #[] #[],.bool true]) w
   rw[this]
  ·omega
theorem FnAt.kept {w w':World} {b:Nat} (h:FnAt w b) (hb:w'.heap[b]?=w.heap[b]?):FnAt w' b:=by
 obtain ⟨es,clock,hh,F,hs,hD⟩:=h
 exact ⟨es,clock,hb.trans hh,F,hs,hD⟩
theorem FnAt.lt {w:World} {b:Nat} (h:FnAt w b):b < w.heap.size:=World.ownsMap.lt h
theorem fn_put {w:World} {b k:Nat} (h:w.ownsMap Tryz.prog 9 fnEl b k (Sx.fnD k)) (hk:k < 7) (s:ByteArray) (f:Nat) (hs:s.data.toList=Sx.defWs.getD k []) (hl:s.size≤maxLen) (hf:f=Sx.defFs.getD k 0) :
  ∃ w',(Instr.mapUpdate 147 (.map (some b)) (.string s) (.func (.func f) #[] #[])).run Tryz.prog w = .ok () w'∧w'.ownsMap Tryz.prog 9 fnEl b (k+1) (Sx.fnD (k+1))∧w.grownBy w' (some b):=by
 obtain ⟨w',h1,h2,h3⟩:=World.ownsMap.update h fnKeyLaw Tryz.underlying147 (by unfold maxLen;omega) (keyOf_string_mk Tryz.underlying9 hl) (show fnEl (.func (.func f) #[] #[])=some (.lit (.int .i64 (f:Nat)),[]) from rfl)
 refine ⟨w',h1,?_,h3⟩
 rw[show Sx.fnD (k+1)=(Sx.fnD k).put (.string (Sx.defWs.getD k [])) (.lit (.int .i64 (Sx.defFs.getD k 0:Nat))) from rfl,←hs,←hf]
 exact h2
theorem Sx.defIx_isDef (x:List UInt8):Sx.isDef x=(Sx.defIx x).isSome:=by
 by_cases h1:x=Sx.wCourse
 ·subst h1;decide
 by_cases h2:x=Sx.wSame
 ·subst h2;decide
 by_cases h3:x=Sx.wProgramme
 ·subst h3;decide
 by_cases h4:x=Sx.wClass
 ·subst h4;decide
 by_cases h5:x=Sx.wHonour
 ·subst h5;decide
 by_cases h6:x=Sx.wFee
 ·subst h6;decide
 by_cases h7:x=Sx.wWhen
 ·subst h7;decide
 have e1:(Sx.wCourse == x)=false:=beq_eq_false_iff_ne.2 (fun h=>h1 h.symm)
 have e2:(Sx.wSame == x)=false:=beq_eq_false_iff_ne.2 (fun h=>h2 h.symm)
 have e3:(Sx.wProgramme == x)=false:=beq_eq_false_iff_ne.2 (fun h=>h3 h.symm)
 have e4:(Sx.wClass == x)=false:=beq_eq_false_iff_ne.2 (fun h=>h4 h.symm)
 have e5:(Sx.wHonour == x)=false:=beq_eq_false_iff_ne.2 (fun h=>h5 h.symm)
 have e6:(Sx.wFee == x)=false:=beq_eq_false_iff_ne.2 (fun h=>h6 h.symm)
 have e7:(Sx.wWhen == x)=false:=beq_eq_false_iff_ne.2 (fun h=>h7 h.symm)
 unfold Sx.isDef Sx.defIx Sx.defWs
 simp[h1,h2,h3,h4,h5,h6,h7,List.findIdx?_cons,e1,e2,e3,e4,e5,e6,e7]
end Go.Proofs.YtjonaidancomgaaGreatDoor

namespace Go.Proofs.YtjonaidancomgaaGreatDoor
open Go.RowKit

def vCls (x:Sx.Cls) (v:Value) (_:World):Prop:=v = .agg #[strV x.name,.int .i64 x.earn,.int .i64 x.mean.num,.int .i64 x.mean.den]∧x.name.length≤140737488351232
set_option maxRecDepth 20000 in
set_option maxHeartbeats 2000000 in
theorem sStanding (g B:Nat) (l:List Lx.Tok) (last:Int) (w:World) (h:PS g B last l w) :
  Calls Tryz.prog 163 #[.pointer (some ⟨g,0,none⟩)] w (SPar g B last w vCls (Sx.standing last l)):=by
 obtain ⟨R,hR⟩:∃ R,R=Sx.standing last l:=⟨_,rfl⟩
 rw[←hR]
 unfold Sx.standing at hR
 have HR:=Lh hR
 have hlt:=h.lt
 have L:=Lh (LSt.start h 82 #[.string ⟨#[]⟩,.int .i64 0,.int .i64 0,.int .i64 0])
 clear h hR
 go_enter Tryz.func163,Tryz.ntmps163
 go_wp2_with fail
 refine (sName g B l last _ L.out.ps).mono ?_
 intro e w1 he
 rcases he.split with ⟨p,x,hv,rfl,hf⟩ | ⟨nm,l1,v,hv,rfl,hV,hs,hf⟩
 ·exact ⟨rfl,SPar.of_bad (Sx.go_bad HR.out hv) (L.out.fr.trans hf)⟩
 obtain ⟨hV,hnl⟩:=hV
 unfold strV at hV
 subst hV
 replace HR:=Lh (Sx.go_ok HR.out hv)
 have L1:=Lh (L.out.step hf hs)
 have Hnl:=Lh hnl
 clear hv hs hf he L hnl
 go_wp2_with fail
 refine (sNumber g B l1 last 0 10000 _ L1.out.ps).mono ?_
 intro e w2 he
 rcases he.split with ⟨p,x,hv,rfl,hf⟩ | ⟨ea,l2,v,hv,rfl,hV,hs,hf⟩
 ·exact ⟨rfl,SPar.of_bad (Sx.go_bad HR.out hv) (L1.out.fr.trans hf)⟩
 unfold vInt at hV
 subst hV
 replace HR:=Lh (Sx.go_ok HR.out hv)
 have L2:=L1.out.step hf hs
 have hpr:w.heap.size < w2.heap.size:=L2.blk.lt
 have P:=Lh (L2.new 82 #[.string (Lx.bs nm),.int .i64 ea,.int .i64 0,.int .i64 0])
 have Q:=Lh (L2.alloc (.cells #[.string (Lx.bs nm),.int .i64 ea,.int .i64 0,.int .i64 0] 82))
 clear hv hs hf he L1 L2
 go_wp2_with fail
 refine (sWord g B l2 last _ _ P.out.ps).mono ?_
 intro e w3 he
 rcases he.split with ⟨p,x,hv,rfl,hf⟩ | ⟨u,l3,v,hv,rfl,hV,hs,hf⟩
 ·exact ⟨rfl,SPar.of_bad (Sx.go_bad HR.out hv) (P.out.fr.trans hf)⟩
 unfold vUnit at hV
 subst hV
 replace HR:=Lh (Sx.go_ok HR.out hv)
 have P3:=Lh (P.out.step hf hs)
 have Q3:=Lh (Q.out.step hf hs)
 clear hv hs hf he P Q
 go_wp2_with fail
 refine (sRatio g B l3 last _ P3.out.ps).mono ?_
 intro e w4 he
 rcases he.split with ⟨p,x,hv,rfl,hf⟩ | ⟨me,l4,v,hv,rfl,hV,hs,hf⟩
 ·exact ⟨rfl,SPar.of_bad (Sx.go_bad HR.out hv) (P3.out.fr.trans hf)⟩
 unfold vRat at hV
 subst hV
 replace HR:=Lh (Sx.go_ok HR.out hv)
 have P4:=P3.out.step hf hs
 have Q4:=Lh (Q3.out.step hf hs)
 have q2:=P4.blk.cell 2;have q3:=P4.blk.cell 3;have qf2:=P4.blk.free 2;have qf3:=P4.blk.free 3
 simp at q2 q3
 have hp4:=P4.blk.lt
 have P5:Hid (LSt g B last l4 w2.heap.size 82 #[.string (Lx.bs nm),.int .i64 ea,.int .i64 me.num,.int .i64 me.den] w ((w4.setCell ⟨w2.heap.size,2,none⟩ (.int .i64 me.num)).setCell ⟨w2.heap.size,3,none⟩ (.int .i64 me.den))):=Lh (by have:=(P4.set 2 (.int .i64 me.num)).set 3 (.int .i64 me.den);simpa using this)
 have Q5:=Lh ((Q4.out.far (b:=w2.heap.size) (by omega) P4.old 2 (.int .i64 me.num)).far (b:=w2.heap.size) (by omega) P4.old 3 (.int .i64 me.den))
 clear hv hs hf he P3 Q3 P4 Q4
 go_wp2_with fail
 refine (sSign g B l4 last 59 _ P5.out.ps).mono ?_
 intro e w5 he
 rcases he.split with ⟨p,x,hv,rfl,hf⟩ | ⟨u,l5,v,hv,rfl,hV,hs,hf⟩
 ·exact ⟨rfl,SPar.of_bad (Sx.go_bad HR.out hv) (P5.out.fr.trans hf)⟩
 unfold vUnit at hV
 subst hV
 replace HR:=Lh (Sx.go_ok HR.out hv)
 have P6:=P5.out.step hf hs
 have Q6:=Q5.out.step hf hs
 have x0:=P6.blk.cell 0;have x1:=P6.blk.cell 1;have x2:=P6.blk.cell 2;have x3:=P6.blk.cell 3
 have y0:=Q6.blk.cell 0;have y1:=Q6.blk.cell 1;have y2:=Q6.blk.cell 2;have y3:=Q6.blk.cell 3
 have yf0:=Q6.blk.free 0;have yf1:=Q6.blk.free 1;have yf2:=Q6.blk.free 2;have yf3:=Q6.blk.free 3
 simp at x0 x1 x2 x3 y0 y1 y2 y3
 have hp6:=P6.blk.lt
 have hq6:=Q6.blk.lt
 have Q7:=Lh Q6
 clear hv hs hf he P5 Q5 P6 Q6 q2 q3 qf2 qf3 hp4
 go_wp2_with fail
 obtain ⟨V,hV⟩:∃ V,V=(((w5.setCell ⟨w.heap.size,0,none⟩ (.string (Lx.bs nm))).setCell ⟨w.heap.size,1,none⟩ (.int .i64 ea)).setCell ⟨w.heap.size,2,none⟩ (.int .i64 me.num)).setCell ⟨w.heap.size,3,none⟩ (.int .i64 me.den):=⟨_,rfl⟩
 have hL:LSt g B last l5 w.heap.size 82 #[.string (Lx.bs nm),.int .i64 ea,.int .i64 me.num,.int .i64 me.den] w V:=by
  rw[hV]
  have:=(((Q7.out.set 0 (.string (Lx.bs nm))).set 1 (.int .i64 ea)).set 2 (.int .i64 me.num)).set 3 (.int .i64 me.den)
  simpa using this
 have d0:=hL.blk.cell 0;have d1:=hL.blk.cell 1;have d2:=hL.blk.cell 2;have d3:=hL.blk.cell 3
 simp at d0 d1 d2 d3
 try simp only [Exit.inBlock,Exit.then]
 rw[←hV]
 clear hV
 exact bodyPost_ret (v:=.agg #[.string (Lx.bs nm),.int .i64 ea,.int .i64 me.num,.int .i64 me.den]) (by simp [results,Tryz.results163,go_sem,d0,d1,d2,d3]) rfl (by rw [HR.out];exact ⟨_,rfl,⟨rfl,Hnl.out⟩,hL.ps,hL.fr⟩)
end Go.Proofs.YtjonaidancomgaaGreatDoor

namespace Go.Proofs.YtjonaidancomgaaGreatDoor
open Go.RowKit

theorem Tryz.infoClassD:(Tryz.prog.info? 82).map (fun i=>(i.zero,i.size,i.bytes))=some (some (.agg #[.string ⟨#[]⟩,.int .i64 0,.int .i64 0,.int .i64 0]),4,40):=by kernel_rfl

theorem Tryz.infoFeeD:(Tryz.prog.info? 86).map (fun i=>(i.zero,i.size,i.bytes))=some (some (.agg #[.string ⟨#[]⟩,.int .i64 0]),2,24):=by kernel_rfl

set_option maxRecDepth 20000 in
set_option maxHeartbeats 4000000 in
theorem sClass (N:Nat):DefC N 87 fun last c l=>(Sx.standing last l).bind fun x l=>.ok { c with classes:=c.classes++[x] } l:=by
  intro g B h l last w0 w c vs css H he hN hfew hl
  obtain ⟨R,hR⟩:∃ R,R=(Sx.standing last l).bind fun x l=>(.ok { c with classes:=c.classes++[x] } l:Sx.R Sx.Cat):=⟨_,rfl⟩
  show Calls _ _ _ _ (DefPost g B last h w0 ((Sx.standing last l).bind fun x l=>(.ok { c with classes:=c.classes++[x] } l:Sx.R Sx.Cat)))
  rw[←hR]
  replace hR:R=(Sx.standing last l).bind fun x l=>(.ok { c with classes:=c.classes++[x] } l:Sx.R Sx.Cat):=by rw [hR]
  have HR:=Lh hR
  have HC:=Lh H
  have HE:=Lh he
  have hlt:=H.ps.lt
  have hgl:h < w.heap.size:=H.blk.lt
  have hgh:=H.gh
  obtain ⟨i0,hi0,hz0,hz1,hz2⟩:=info_parts Tryz.infoClassD
  obtain ⟨v,rs,is,hv1,hrs1,his1,hrl⟩:=H.get (i:=3) (by omega)
  have hrf:rs.length≤1000000:=by rw [hrl];exact hfew is (List.mem_of_getElem? his1)
  have his2:is=c.classes.map .cls:=by simpa [itemsOf] using his1.symm
  have hrow:=fun u (hu:u∈vs) z (hz:u.ownBlock=some z)=>(H.ownOf hu hz).2
  have HROW:=Lh hrow;have HI:=Lh (And.intro hv1 (And.intro hrs1 his1));have HIS:=Lh his2
  clear H hR hrow hv1 hrs1 his1 hrl hfew his2 he
  have c0:w.cell? ⟨h,3,none⟩=some v:=by rw [HC.out.blk.cell 3];simpa using HI.out.1
  have HCd:=Lh HC.out.drew
  go_enter Tryz.func87,Tryz.ntmps87
  go_wp2_with fail
  go_region_law (first
    | (refine HC5.out.step_append (i:=3) (lo:=w.heap.size) (x:=.cls s) (cs:=[.string (Lx.bs s.name),.int .i64 s.earn,.int .i64 s.mean.num,.int .i64 s.mean.den]) HI.out.1 HI.out.2.1 HI.out.2.2 ⟨rfl,Hsl.out⟩ rfl hgl HROW.out hrf rfl _ _ _ rfl i0 _ 40 Tryz.underlying26 hi0 hz0 hz1 hz2 rfl (by omega) rfl rfl (by simp [Value.oneCell']) ?_;intro gg cap w6 d1 df1 HP)
    | (go_simp;go_at_call 163;refine (sStanding g B l last _ HCd.out.ps).mono ?_;intro e w5 he;rcases he.split with ⟨p,x,hv,rfl,hf⟩ | ⟨s,l5,u5,hv,rfl,hV,hs,hf⟩;(exact ⟨rfl,DefPost.of_bad (Sx.go_bad HR.out hv) (HCd.out.fr.trans hf)⟩);obtain ⟨hV,hsl⟩:=hV;unfold strV at hV;subst hV;have Hsl:=Lh hsl;clear hsl;have HR5:=Lh (Sx.go_ok HR.out hv);have C5:=HCd.out.step hf hs;have c5:w5.cell? ⟨h,3,none⟩=some v:=(by rw [C5.blk.cell 3];simpa using HI.out.1);have hh5:=C5.blk.lt;have HC5:=Lh C5;clear hv hs hf he C5))
  all_goals go_end0
  all_goals exact DefPost.of_ok HR5.out (by rw [HIS.out];simp[itemsOf]) HP

set_option maxRecDepth 20000 in
set_option maxHeartbeats 4000000 in
theorem sHonour (N:Nat):DefC N 88 fun last c l=>(Sx.standing last l).bind fun x l=>.ok { c with honours:=c.honours++[x] } l:=by
  intro g B h l last w0 w c vs css H he hN hfew hl
  obtain ⟨R,hR⟩:∃ R,R=(Sx.standing last l).bind fun x l=>(.ok { c with honours:=c.honours++[x] } l:Sx.R Sx.Cat):=⟨_,rfl⟩
  show Calls _ _ _ _ (DefPost g B last h w0 ((Sx.standing last l).bind fun x l=>(.ok { c with honours:=c.honours++[x] } l:Sx.R Sx.Cat)))
  rw[←hR]
  replace hR:R=(Sx.standing last l).bind fun x l=>(.ok { c with honours:=c.honours++[x] } l:Sx.R Sx.Cat):=by rw [hR]
  have HR:=Lh hR
  have HC:=Lh H
  have HE:=Lh he
  have hlt:=H.ps.lt
  have hgl:h < w.heap.size:=H.blk.lt
  have hgh:=H.gh
  obtain ⟨i0,hi0,hz0,hz1,hz2⟩:=info_parts Tryz.infoClassD
  obtain ⟨v,rs,is,hv1,hrs1,his1,hrl⟩:=H.get (i:=5) (by omega)
  have hrf:rs.length≤1000000:=by rw [hrl];exact hfew is (List.mem_of_getElem? his1)
  have his2:is=c.honours.map .cls:=by simpa [itemsOf] using his1.symm
  have hrow:=fun u (hu:u∈vs) z (hz:u.ownBlock=some z)=>(H.ownOf hu hz).2
  have HROW:=Lh hrow;have HI:=Lh (And.intro hv1 (And.intro hrs1 his1));have HIS:=Lh his2
  clear H hR hrow hv1 hrs1 his1 hrl hfew his2 he
  have c0:w.cell? ⟨h,5,none⟩=some v:=by rw [HC.out.blk.cell 5];simpa using HI.out.1
  have HCd:=Lh HC.out.drew
  go_enter Tryz.func88,Tryz.ntmps88
  go_wp2_with fail
  go_region_law (first
    | (refine HC5.out.step_append (i:=5) (lo:=w.heap.size) (x:=.cls s) (cs:=[.string (Lx.bs s.name),.int .i64 s.earn,.int .i64 s.mean.num,.int .i64 s.mean.den]) HI.out.1 HI.out.2.1 HI.out.2.2 ⟨rfl,Hsl.out⟩ rfl hgl HROW.out hrf rfl _ _ _ rfl i0 _ 40 Tryz.underlying26 hi0 hz0 hz1 hz2 rfl (by omega) rfl rfl (by simp [Value.oneCell']) ?_;intro gg cap w6 d1 df1 HP)
    | (go_simp;go_at_call 163;refine (sStanding g B l last _ HCd.out.ps).mono ?_;intro e w5 he;rcases he.split with ⟨p,x,hv,rfl,hf⟩ | ⟨s,l5,u5,hv,rfl,hV,hs,hf⟩;(exact ⟨rfl,DefPost.of_bad (Sx.go_bad HR.out hv) (HCd.out.fr.trans hf)⟩);obtain ⟨hV,hsl⟩:=hV;unfold strV at hV;subst hV;have Hsl:=Lh hsl;clear hsl;have HR5:=Lh (Sx.go_ok HR.out hv);have C5:=HCd.out.step hf hs;have c5:w5.cell? ⟨h,5,none⟩=some v:=(by rw [C5.blk.cell 5];simpa using HI.out.1);have hh5:=C5.blk.lt;have HC5:=Lh C5;clear hv hs hf he C5))
  all_goals go_end0
  all_goals exact DefPost.of_ok HR5.out (by rw [HIS.out];simp[itemsOf]) HP

set_option maxRecDepth 20000 in
set_option maxHeartbeats 4000000 in
theorem sFee (N:Nat):DefC N 89 fun last c l=>(Sx.fee last l).bind fun x l=>.ok { c with fees:=c.fees++[x] } l:=by
  intro g B h l last w0 w c vs css H he hN hfew hl
  obtain ⟨R,hR⟩:∃ R,R=(Sx.fee last l).bind fun x l=>(.ok { c with fees:=c.fees++[x] } l:Sx.R Sx.Cat):=⟨_,rfl⟩
  show Calls _ _ _ _ (DefPost g B last h w0 ((Sx.fee last l).bind fun x l=>(.ok { c with fees:=c.fees++[x] } l:Sx.R Sx.Cat)))
  rw[←hR]
  replace hR:R=(Sx.name last l).bind fun nm l=>(Sx.number last 0 10000 l).bind fun cr l=>(Sx.sign last 59 l).bind fun _ l=>.ok { c with fees:=c.fees++[⟨nm,cr⟩] } l:=by rw [hR];simp only[Sx.fee,Sx.R.assoc2,Sx.ok_bind]
  have HR:=Lh hR
  have HC:=Lh H
  have HE:=Lh he
  have hlt:=H.ps.lt
  have hgl:h < w.heap.size:=H.blk.lt
  have hgh:=H.gh
  obtain ⟨i0,hi0,hz0,hz1,hz2⟩:=info_parts Tryz.infoFeeD
  obtain ⟨v,rs,is,hv1,hrs1,his1,hrl⟩:=H.get (i:=4) (by omega)
  have hrf:rs.length≤1000000:=by rw [hrl];exact hfew is (List.mem_of_getElem? his1)
  have his2:is=c.fees.map .fee:=by simpa [itemsOf] using his1.symm
  have hrow:=fun u (hu:u∈vs) z (hz:u.ownBlock=some z)=>(H.ownOf hu hz).2
  have HROW:=Lh hrow;have HI:=Lh (And.intro hv1 (And.intro hrs1 his1));have HIS:=Lh his2
  clear H hR hrow hv1 hrs1 his1 hrl hfew his2 he
  have c0:w.cell? ⟨h,4,none⟩=some v:=by rw [HC.out.blk.cell 4];simpa using HI.out.1
  have HCd:=Lh HC.out.drew
  go_enter Tryz.func89,Tryz.ntmps89
  go_wp2_with fail
  go_region_law (first
    | (refine HC6.out.step_append (i:=4) (lo:=w.heap.size) (x:=.fee ⟨nm,cr⟩) (cs:=[.string (Lx.bs nm),.int .i64 cr]) HI.out.1 HI.out.2.1 HI.out.2.2 ⟨rfl,Hnml.out⟩ rfl hgl HROW.out hrf rfl _ _ _ rfl i0 _ 24 Tryz.underlying27 hi0 hz0 hz1 hz2 rfl (by omega) rfl rfl (by simp [Value.oneCell']) ?_;intro gg cap w7 d1 df1 HP)
    | (go_simp;go_at_call 157;refine (sName g B l last _ HCd.out.ps).mono ?_;intro e w5 he;rcases he.split with ⟨p,x,hv,rfl,hf⟩ | ⟨nm,l5,u5,hv,rfl,hV,hs,hf⟩;(exact ⟨rfl,DefPost.of_bad (Sx.go_bad HR.out hv) (HCd.out.fr.trans hf)⟩);obtain ⟨hV,hnml⟩:=hV;unfold strV at hV;subst hV;have Hnml:=Lh hnml;clear hnml;have HR5:=Lh (Sx.go_ok HR.out hv);have C5:=HCd.out.step hf hs;have c5:w5.cell? ⟨h,4,none⟩=some v:=(by rw [C5.blk.cell 4];simpa using HI.out.1);have hh5:=C5.blk.lt;have HC5:=Lh C5;clear hv hs hf he C5)
    | (go_simp;go_at_call 109;refine (sNumber g B l5 last 0 10000 _ HC5.out.ps).mono ?_;intro e w6 he;rcases he.split with ⟨p,x,hv,rfl,hf⟩ | ⟨cr,l6,u6,hv,rfl,hV,hs,hf⟩;(exact ⟨rfl,DefPost.of_bad (Sx.go_bad HR5.out hv) (HC5.out.fr.trans hf)⟩);unfold vInt at hV;subst hV;have HR6:=Lh (Sx.go_ok HR5.out hv);have C6:=HC5.out.step hf hs;have c6:w6.cell? ⟨h,4,none⟩=some v:=(by rw [C6.blk.cell 4];simpa using HI.out.1);have hh6:=C6.blk.lt;have HC6:=Lh C6;clear hv hs hf he C6))
  all_goals (try go_wp2_with fail)
  all_goals refine (sSign g B l6 last 59 _ HP.ps).mono ?_
  all_goals intro e w8 he
  all_goals rcases he.split with ⟨p,x,hv,rfl,hf⟩ | ⟨u,l8,u8,hv,rfl,hV,hs,hf⟩
  all_goals first
    | exact ⟨rfl,DefPost.of_bad (Sx.go_bad HR6.out hv) (HP.fr.trans hf)⟩
    | (unfold vUnit at hV
       subst hV
       have HR8:=Lh (Sx.go_ok HR6.out hv)
       have HP8:=Lh (HP.step hf hs)
       clear hv hs hf he HP
       go_wp2_with fail
       go_end0
       exact DefPost.of_ok HR8.out (by rw [HIS.out];simp[itemsOf]) HP8.out)

end Go.Proofs.YtjonaidancomgaaGreatDoor

namespace Go.Proofs.YtjonaidancomgaaGreatDoor
open Go.RowKit

theorem Sx.oneOf_bound {last:Int} {ws:List (List UInt8)} {l r:List Lx.Tok} {i:Int} (h:Sx.oneOf last ws l = .ok i r):0≤i∧i < ws.length:=by
 unfold Sx.oneOf at h
 split at h
 ·rename_i j hj
  injection h with h1 h2
  unfold Sx.find at hj
  have:=(List.findIdx?_eq_some_iff_getElem.1 hj).1
  omega
 ·unfold Sx.fail at h;cases h
def MSt (g B:Nat) (last:Int) (l:List Lx.Tok) (w W:World):Prop:=PS g B last l W∧FrG g w W∧g < w.heap.size
theorem MSt.alloc {g B:Nat} {last:Int} {l:List Lx.Tok} {w W:World} (h:MSt g B last l w W) (o:Obj):MSt g B last l w (W.alloc o):=⟨h.1.alloc o,h.2.1.alloc h.2.2 o,h.2.2⟩
theorem MSt.step {g B:Nat} {last:Int} {l l':List Lx.Tok} {w W W':World} (h:MSt g B last l w W) (hf:FrG g W W') (hs:PS g B last l' W'):MSt g B last l' w W':=⟨hs,h.2.1.trans hf,h.2.2⟩
def ZAt (g p:Nat) (w W:World):Prop:=Blk W p 90 #[.int .i64 0,.int .i64 0,.int .i64 0,.int .i64 0]∧p≠g∧w.heap.size≤p
theorem ZAt.step {g p:Nat} {w W W':World} (h:ZAt g p w W) (hf:FrG g W W'):ZAt g p w W':=⟨hf.blk h.1 h.2.1,h.2⟩
theorem ZAt.new {g B:Nat} {last:Int} {l:List Lx.Tok} {w W:World} (h:MSt g B last l w W):ZAt g W.heap.size w (W.alloc (.cells #[.int .i64 0,.int .i64 0,.int .i64 0,.int .i64 0] 90)):=⟨Blk.new _ _ _,by have:=h.1.lt;omega,h.2.1.bel.size⟩

theorem Tryz.infoClauseD:(Tryz.prog.info? 90).map (fun i=>(i.zero,i.size,i.bytes))=some (some (.agg #[.int .i64 0,.int .i64 0,.int .i64 0,.int .i64 0]),4,32):=by kernel_rfl

set_option maxRecDepth 20000 in
set_option maxHeartbeats 4000000 in
theorem sClause (N:Nat):DefC N 90 fun last c l=>(Sx.clause last l).bind fun x l=>.ok { c with clauses:=c.clauses++[x] } l:=by
 intro g B h l last w0 w c vs css H he hN hfew hl
 obtain ⟨R,hR⟩:∃ R,R=(Sx.clause last l).bind fun x l=>(.ok { c with clauses:=c.clauses++[x] } l:Sx.R Sx.Cat):=⟨_,rfl⟩
 show Calls _ _ _ _ (DefPost g B last h w0 ((Sx.clause last l).bind fun x l=>(.ok { c with clauses:=c.clauses++[x] } l:Sx.R Sx.Cat)))
 rw[←hR]
 replace hR:R=(Sx.oneOf last Sx.kindWords l).bind fun k l=>(Sx.oneOf last Sx.whenWords l).bind fun wn l=>(Sx.oneOf last Sx.actionWords l).bind fun a l=>(Sx.word last Sx.wUntil l).bind fun _ l=>(Sx.number last 0 12 l).bind fun u l=>(Sx.sign last 59 l).bind fun _ l=>.ok { c with clauses:=c.clauses++[⟨k+1,wn,a+1,u⟩] } l:=by rw [hR];simp only[Sx.clause,Sx.R.assoc2,Sx.ok_bind]
 have HR:=Lh hR
 have HC:=Lh H
 have HE:=Lh he
 have hlt:=H.ps.lt
 have hgl:h < w.heap.size:=H.blk.lt
 have hgh:=H.gh
 obtain ⟨i0,hi0,hz0,hz1,hz2⟩:=info_parts Tryz.infoClauseD
 obtain ⟨v,rs,is,hv1,hrs1,his1,hrl⟩:=H.get (i:=6) (by omega)
 have hrf:rs.length≤1000000:=by rw [hrl];exact hfew is (List.mem_of_getElem? his1)
 have his2:is=c.clauses.map .clause:=by simpa [itemsOf] using his1.symm
 have hrow:=fun u (hu:u∈vs) z (hz:u.ownBlock=some z)=>(H.ownOf hu hz).2
 have HROW:=Lh hrow;have HI:=Lh (And.intro hv1 (And.intro hrs1 his1));have HIS:=Lh his2
 clear H hR hrow hv1 hrs1 his1 hrl hfew his2 he
 have hNw:=HE.out.size
 obtain ⟨bk,ok,ck,kc,kN,kw⟩:=HE.out.kind
 have Honek:=Lh (fun (W:World) (l:List Lx.Tok) (hM:MSt g B last l w W)=>sOneOf g B N bk ok ck Sx.kindWords l last W hM.1 (kw.keep (hM.2.1.bel.mono hN)) hN (by decide))
 rw[show Sx.kindWords.length=5 from rfl] at Honek kc
 have Hkc:=Lh (fun (W:World) (hF:FrG g w W)=>(hF.cell (b:=0) (by omega) (by omega) 0).trans kc)
 obtain ⟨bn,on,cn,nc,nN,nw⟩:=HE.out.when_
 have Honen:=Lh (fun (W:World) (l:List Lx.Tok) (hM:MSt g B last l w W)=>sOneOf g B N bn on cn Sx.whenWords l last W hM.1 (nw.keep (hM.2.1.bel.mono hN)) hN (by decide))
 rw[show Sx.whenWords.length=3 from rfl] at Honen nc
 have Hnc:=Lh (fun (W:World) (hF:FrG g w W)=>(hF.cell (b:=1) (by omega) (by omega) 0).trans nc)
 obtain ⟨ba,oa,ca,ac,aN,aw⟩:=HE.out.action
 have Honea:=Lh (fun (W:World) (l:List Lx.Tok) (hM:MSt g B last l w W)=>sOneOf g B N ba oa ca Sx.actionWords l last W hM.1 (aw.keep (hM.2.1.bel.mono hN)) hN (by decide))
 rw[show Sx.actionWords.length=3 from rfl] at Honea ac
 have Hac:=Lh (fun (W:World) (hF:FrG g w W)=>(hF.cell (b:=2) (by omega) (by omega) 0).trans ac)
 have HM:=Lh (show MSt g B last l w w.drew from ⟨HC.out.ps.next (Below.refl _ _).drew,FrG.below ((Below.refl w.heap.size w).drew) hlt,hlt⟩)
 clear kw nw aw
 go_enter Tryz.func90,Tryz.ntmps90
 go_wp2_with fail
 have kg:=kN;have ng:=nN;have ag:=aN
 go_cut [0,1,4] from 5 to 17 (fun v0 v1 v4 wx=>v0 = .pointer (some ⟨g,0,none⟩)∧v1 = .pointer (some ⟨h,0,none⟩)∧∃ p kd wn ac l7,v4 = .pointer (some ⟨p,0,none⟩)∧Hid (R=(Sx.word last Sx.wUntil l7).bind fun _ l=>(Sx.number last 0 12 l).bind fun u l=>(Sx.sign last 59 l).bind fun _ l=>.ok { c with clauses:=c.clauses++[⟨kd+1,wn,ac+1,u⟩] } l)∧Hid (LSt g B last l7 p 90 #[.int .i64 (kd+1),.int .i64 wn,.int .i64 (ac+1),.int .i64 0] w wx))
 case first=>
  go_region_held_law (fun w':World=>w'.cell? ⟨0,0,none⟩=some (.slice (some ⟨bk,ok,none⟩) 5 ck)∧w'.cell? ⟨1,0,none⟩=some (.slice (some ⟨bn,on,none⟩) 3 cn)∧w'.cell? ⟨2,0,none⟩=some (.slice (some ⟨ba,oa,none⟩) 3 ca)) (first | (refine ⟨Hkc.out _ ?_,Hnc.out _ ?_,Hac.out _ ?_⟩ <;> exact ((((HM7.out.2.1.setFar hlt Z7.out.2.2 0 _).setFar hlt Z7.out.2.2 1 _).setFar hlt Z7.out.2.2 2 _).setFar hlt Z7.out.2.2 3 _)) | go_keep) (first | (go_at_call 107;refine (Honea.out _ l6 HM6.out).mono ?_;intro e w7 he;rcases he.split with ⟨p,x,hv,rfl,hf⟩ | ⟨ac,l7,u7,hv,rfl,hV,hs,hf⟩;(exact ⟨rfl,DefPost.of_bad (Sx.go_bad HR6.out hv) (HC.out.fr.trans (HM6.out.2.1.trans hf))⟩);unfold vInt at hV;subst hV;have hb7:=Sx.oneOf_bound hv;rw[show Sx.actionWords.length=3 from rfl] at hb7;have hb7x:=hb7.1;have hb7y:=hb7.2;have t7:IntKind.i64.wrap (1+ac)=ac+1:=(by rw [show 1+ac=ac+1 by omega];exact IntWalk.i64_in _ (by omega));have HR7:=Lh (Sx.go_ok HR6.out hv);have m7:=HM6.out.step hf hs;have rk7:=Hkc.out _ m7.2.1;have rn7:=Hnc.out _ m7.2.1;have ra7:=Hac.out _ m7.2.1;have Z7:=Lh (Z6.out.step hf);have y7a:=Z7.out.1.cell 0;have y7b:=Z7.out.1.cell 1;have y7c:=Z7.out.1.cell 2;have y7d:=Z7.out.1.cell 3;have y7e:=Z7.out.1.free 0;have y7f:=Z7.out.1.free 1;have y7g:=Z7.out.1.free 2;have y7h:=Z7.out.1.free 3;have y7l:=Z7.out.1.lt;simp at y7a y7b y7c y7d;have v70:=(show ∀ q:Nat,w.heap.size≤q→0≠q from fun q hq=>by omega) _ Z7.out.2.2;have v71:=(show ∀ q:Nat,w.heap.size≤q→1≠q from fun q hq=>by omega) _ Z7.out.2.2;have v72:=(show ∀ q:Nat,w.heap.size≤q→2≠q from fun q hq=>by omega) _ Z7.out.2.2;have HM7:=Lh m7;clear hv hs hf he m7 hb7) | (go_at_call 107;refine (Honea.out _ l6 HM6.out).mono ?_;intro e w7 he;rcases he.split with ⟨p,x,hv,rfl,hf⟩ | ⟨ac,l7,u7,hv,rfl,hV,hs,hf⟩;(exact ⟨rfl,DefPost.of_bad (Sx.go_bad HR6.out hv) (HC.out.fr.trans (HM6.out.2.1.trans hf))⟩);unfold vInt at hV;subst hV;have hb7:=Sx.oneOf_bound hv;rw[show Sx.actionWords.length=3 from rfl] at hb7;have hb7x:=hb7.1;have hb7y:=hb7.2;have t7:IntKind.i64.wrap (1+ac)=ac+1:=(by rw [show 1+ac=ac+1 by omega];exact IntWalk.i64_in _ (by omega));have HR7:=Lh (Sx.go_ok HR6.out hv);have m7:=HM6.out.step hf hs;have rk7:=Hkc.out _ m7.2.1;have rn7:=Hnc.out _ m7.2.1;have ra7:=Hac.out _ m7.2.1;have HM7:=Lh m7;clear hv hs hf he m7 hb7) | (go_at_call 107;refine (Honea.out _ l6 (HM6.out.alloc (Obj.cells #[.int .i64 0,.int .i64 0,.int .i64 0,.int .i64 0] 90))).mono ?_;intro e w7 he;rcases he.split with ⟨p,x,hv,rfl,hf⟩ | ⟨ac,l7,u7,hv,rfl,hV,hs,hf⟩;(exact ⟨rfl,DefPost.of_bad (Sx.go_bad HR6.out hv) (HC.out.fr.trans ((HM6.out.alloc (Obj.cells #[.int .i64 0,.int .i64 0,.int .i64 0,.int .i64 0] 90)).2.1.trans hf))⟩);unfold vInt at hV;subst hV;have hb7:=Sx.oneOf_bound hv;rw[show Sx.actionWords.length=3 from rfl] at hb7;have hb7x:=hb7.1;have hb7y:=hb7.2;have t7:IntKind.i64.wrap (1+ac)=ac+1:=(by rw [show 1+ac=ac+1 by omega];exact IntWalk.i64_in _ (by omega));have HR7:=Lh (Sx.go_ok HR6.out hv);have m7:=(HM6.out.alloc (Obj.cells #[.int .i64 0,.int .i64 0,.int .i64 0,.int .i64 0] 90)).step hf hs;have rk7:=Hkc.out _ m7.2.1;have rn7:=Hnc.out _ m7.2.1;have ra7:=Hac.out _ m7.2.1;have Z7:Hid (ZAt g w6.heap.size w w7):=Lh ((ZAt.new HM6.out).step hf);have y7a:=Z7.out.1.cell 0;have y7b:=Z7.out.1.cell 1;have y7c:=Z7.out.1.cell 2;have y7d:=Z7.out.1.cell 3;have y7e:=Z7.out.1.free 0;have y7f:=Z7.out.1.free 1;have y7g:=Z7.out.1.free 2;have y7h:=Z7.out.1.free 3;have y7l:=Z7.out.1.lt;simp at y7a y7b y7c y7d;have v70:=(show ∀ q:Nat,w.heap.size≤q→0≠q from fun q hq=>by omega) _ Z7.out.2.2;have v71:=(show ∀ q:Nat,w.heap.size≤q→1≠q from fun q hq=>by omega) _ Z7.out.2.2;have v72:=(show ∀ q:Nat,w.heap.size≤q→2≠q from fun q hq=>by omega) _ Z7.out.2.2;have HM7:=Lh m7;clear hv hs hf he m7 hb7) | (go_at_call 107;refine (Honen.out _ l5 HM5.out).mono ?_;intro e w6 he;rcases he.split with ⟨p,x,hv,rfl,hf⟩ | ⟨wn,l6,u6,hv,rfl,hV,hs,hf⟩;(exact ⟨rfl,DefPost.of_bad (Sx.go_bad HR5.out hv) (HC.out.fr.trans (HM5.out.2.1.trans hf))⟩);unfold vInt at hV;subst hV;have hb6:=Sx.oneOf_bound hv;rw[show Sx.whenWords.length=3 from rfl] at hb6;have hb6x:=hb6.1;have hb6y:=hb6.2;have t6:IntKind.i64.wrap wn=wn:=IntWalk.i64_in _ (by omega);have HR6:=Lh (Sx.go_ok HR5.out hv);have m6:=HM5.out.step hf hs;have rk6:=Hkc.out _ m6.2.1;have rn6:=Hnc.out _ m6.2.1;have ra6:=Hac.out _ m6.2.1;have Z6:=Lh (Z5.out.step hf);have y6a:=Z6.out.1.cell 0;have y6b:=Z6.out.1.cell 1;have y6c:=Z6.out.1.cell 2;have y6d:=Z6.out.1.cell 3;have y6e:=Z6.out.1.free 0;have y6f:=Z6.out.1.free 1;have y6g:=Z6.out.1.free 2;have y6h:=Z6.out.1.free 3;have y6l:=Z6.out.1.lt;simp at y6a y6b y6c y6d;have v60:=(show ∀ q:Nat,w.heap.size≤q→0≠q from fun q hq=>by omega) _ Z6.out.2.2;have v61:=(show ∀ q:Nat,w.heap.size≤q→1≠q from fun q hq=>by omega) _ Z6.out.2.2;have v62:=(show ∀ q:Nat,w.heap.size≤q→2≠q from fun q hq=>by omega) _ Z6.out.2.2;have HM6:=Lh m6;clear hv hs hf he m6 hb6) | (go_at_call 107;refine (Honen.out _ l5 HM5.out).mono ?_;intro e w6 he;rcases he.split with ⟨p,x,hv,rfl,hf⟩ | ⟨wn,l6,u6,hv,rfl,hV,hs,hf⟩;(exact ⟨rfl,DefPost.of_bad (Sx.go_bad HR5.out hv) (HC.out.fr.trans (HM5.out.2.1.trans hf))⟩);unfold vInt at hV;subst hV;have hb6:=Sx.oneOf_bound hv;rw[show Sx.whenWords.length=3 from rfl] at hb6;have hb6x:=hb6.1;have hb6y:=hb6.2;have t6:IntKind.i64.wrap wn=wn:=IntWalk.i64_in _ (by omega);have HR6:=Lh (Sx.go_ok HR5.out hv);have m6:=HM5.out.step hf hs;have rk6:=Hkc.out _ m6.2.1;have rn6:=Hnc.out _ m6.2.1;have ra6:=Hac.out _ m6.2.1;have HM6:=Lh m6;clear hv hs hf he m6 hb6) | (go_at_call 107;refine (Honen.out _ l5 (HM5.out.alloc (Obj.cells #[.int .i64 0,.int .i64 0,.int .i64 0,.int .i64 0] 90))).mono ?_;intro e w6 he;rcases he.split with ⟨p,x,hv,rfl,hf⟩ | ⟨wn,l6,u6,hv,rfl,hV,hs,hf⟩;(exact ⟨rfl,DefPost.of_bad (Sx.go_bad HR5.out hv) (HC.out.fr.trans ((HM5.out.alloc (Obj.cells #[.int .i64 0,.int .i64 0,.int .i64 0,.int .i64 0] 90)).2.1.trans hf))⟩);unfold vInt at hV;subst hV;have hb6:=Sx.oneOf_bound hv;rw[show Sx.whenWords.length=3 from rfl] at hb6;have hb6x:=hb6.1;have hb6y:=hb6.2;have t6:IntKind.i64.wrap wn=wn:=IntWalk.i64_in _ (by omega);have HR6:=Lh (Sx.go_ok HR5.out hv);have m6:=(HM5.out.alloc (Obj.cells #[.int .i64 0,.int .i64 0,.int .i64 0,.int .i64 0] 90)).step hf hs;have rk6:=Hkc.out _ m6.2.1;have rn6:=Hnc.out _ m6.2.1;have ra6:=Hac.out _ m6.2.1;have Z6:Hid (ZAt g w5.heap.size w w6):=Lh ((ZAt.new HM5.out).step hf);have y6a:=Z6.out.1.cell 0;have y6b:=Z6.out.1.cell 1;have y6c:=Z6.out.1.cell 2;have y6d:=Z6.out.1.cell 3;have y6e:=Z6.out.1.free 0;have y6f:=Z6.out.1.free 1;have y6g:=Z6.out.1.free 2;have y6h:=Z6.out.1.free 3;have y6l:=Z6.out.1.lt;simp at y6a y6b y6c y6d;have v60:=(show ∀ q:Nat,w.heap.size≤q→0≠q from fun q hq=>by omega) _ Z6.out.2.2;have v61:=(show ∀ q:Nat,w.heap.size≤q→1≠q from fun q hq=>by omega) _ Z6.out.2.2;have v62:=(show ∀ q:Nat,w.heap.size≤q→2≠q from fun q hq=>by omega) _ Z6.out.2.2;have HM6:=Lh m6;clear hv hs hf he m6 hb6) | (go_at_call 107;refine (Honek.out _ l HM.out).mono ?_;intro e w5 he;rcases he.split with ⟨p,x,hv,rfl,hf⟩ | ⟨kd,l5,u5,hv,rfl,hV,hs,hf⟩;(exact ⟨rfl,DefPost.of_bad (Sx.go_bad HR.out hv) (HC.out.fr.trans (HM.out.2.1.trans hf))⟩);unfold vInt at hV;subst hV;have hb5:=Sx.oneOf_bound hv;rw[show Sx.kindWords.length=5 from rfl] at hb5;have hb5x:=hb5.1;have hb5y:=hb5.2;have t5:IntKind.i64.wrap (1+kd)=kd+1:=(by rw [show 1+kd=kd+1 by omega];exact IntWalk.i64_in _ (by omega));have HR5:=Lh (Sx.go_ok HR.out hv);have m5:=HM.out.step hf hs;have rk5:=Hkc.out _ m5.2.1;have rn5:=Hnc.out _ m5.2.1;have ra5:=Hac.out _ m5.2.1;have HM5:=Lh m5;clear hv hs hf he m5 hb5) | (go_at_call 107;refine (Honek.out _ l (HM.out.alloc (Obj.cells #[.int .i64 0,.int .i64 0,.int .i64 0,.int .i64 0] 90))).mono ?_;intro e w5 he;rcases he.split with ⟨p,x,hv,rfl,hf⟩ | ⟨kd,l5,u5,hv,rfl,hV,hs,hf⟩;(exact ⟨rfl,DefPost.of_bad (Sx.go_bad HR.out hv) (HC.out.fr.trans ((HM.out.alloc (Obj.cells #[.int .i64 0,.int .i64 0,.int .i64 0,.int .i64 0] 90)).2.1.trans hf))⟩);unfold vInt at hV;subst hV;have hb5:=Sx.oneOf_bound hv;rw[show Sx.kindWords.length=5 from rfl] at hb5;have hb5x:=hb5.1;have hb5y:=hb5.2;have t5:IntKind.i64.wrap (1+kd)=kd+1:=(by rw [show 1+kd=kd+1 by omega];exact IntWalk.i64_in _ (by omega));have HR5:=Lh (Sx.go_ok HR.out hv);have m5:=(HM.out.alloc (Obj.cells #[.int .i64 0,.int .i64 0,.int .i64 0,.int .i64 0] 90)).step hf hs;have rk5:=Hkc.out _ m5.2.1;have rn5:=Hnc.out _ m5.2.1;have ra5:=Hac.out _ m5.2.1;have Z5:Hid (ZAt g w.heap.size w w5):=Lh ((ZAt.new HM.out).step hf);have y5a:=Z5.out.1.cell 0;have y5b:=Z5.out.1.cell 1;have y5c:=Z5.out.1.cell 2;have y5d:=Z5.out.1.cell 3;have y5e:=Z5.out.1.free 0;have y5f:=Z5.out.1.free 1;have y5g:=Z5.out.1.free 2;have y5h:=Z5.out.1.free 3;have y5l:=Z5.out.1.lt;simp at y5a y5b y5c y5d;have v50:=(show ∀ q:Nat,w.heap.size≤q→0≠q from fun q hq=>by omega) _ Z5.out.2.2;have v51:=(show ∀ q:Nat,w.heap.size≤q→1≠q from fun q hq=>by omega) _ Z5.out.2.2;have v52:=(show ∀ q:Nat,w.heap.size≤q→2≠q from fun q hq=>by omega) _ Z5.out.2.2;have HM5:=Lh m5;clear hv hs hf he m5 hb5))
  all_goals (try go_wp2_with fail)
  all_goals go_meet
  all_goals first
   | exact ⟨rfl,rfl,_,kd,wn,ac,l7,rfl,HR7,Lh (by have L:=((((LSt.mk HM7.out.1 HM7.out.2.1 Z7.out.1 Z7.out.2.2 hlt).set 0 (.int .i64 (kd+1))).set 1 (.int .i64 wn)).set 2 (.int .i64 (ac+1))).set 3 (.int .i64 0);simpa using L)⟩
   | exact ⟨rfl,rfl,_,kd,wn,ac,l7,rfl,HR7,Lh ⟨(HM7.out.alloc _).1,(HM7.out.alloc _).2.1,Blk.new _ _ _,HM7.out.2.1.bel.size,hlt⟩⟩
 case rest=>
  obtain ⟨rfl,rfl,p,kd,wn,ac,l7,rfl,HR7,HL⟩:=hcut
  clear HR HM Honek Honen Honea Hkc Hnc Hac kc nc kN nN aN kg ng ag HE
  go_wp2_with fail
  refine (sWord g B l7 last _ _ HL.out.ps).mono ?_
  intro e w8 he
  rcases he.split with ⟨p',x,hv,rfl,hf⟩ | ⟨_,l8,u8,hv,rfl,hV,hs,hf⟩
  ·exact ⟨rfl,DefPost.of_bad (Sx.go_bad HR7.out hv) (HC.out.fr.trans (HL.out.fr.trans hf))⟩
  unfold vUnit at hV
  subst hV
  have HR8:=Lh (Sx.go_ok HR7.out hv)
  have HL8:=Lh (HL.out.step hf hs)
  clear hv hs hf he HL HR7
  go_wp2_with fail
  refine (sNumber g B l8 last 0 12 _ HL8.out.ps).mono ?_
  intro e w9 he
  rcases he.split with ⟨p',x,hv,rfl,hf⟩ | ⟨ut,l9,u9,hv,rfl,hV,hs,hf⟩
  ·exact ⟨rfl,DefPost.of_bad (Sx.go_bad HR8.out hv) (HC.out.fr.trans (HL8.out.fr.trans hf))⟩
  unfold vInt at hV
  subst hV
  have HR9:=Lh (Sx.go_ok HR8.out hv)
  have L9:=HL8.out.step hf hs
  have q3:=L9.blk.cell 3;have qf3:=L9.blk.free 3
  simp at q3
  have hp9:=L9.blk.lt
  have L10:Hid (LSt g B last l9 p 90 #[.int .i64 (kd+1),.int .i64 wn,.int .i64 (ac+1),.int .i64 ut] w (w9.setCell ⟨p,3,none⟩ (.int .i64 ut))):=Lh (by have:=L9.set 3 (.int .i64 ut);simpa using this)
  clear hv hs hf he HL8 HR8 L9
  go_wp2_with fail
  refine (sSign g B l9 last 59 _ L10.out.ps).mono ?_
  intro e w10 he
  rcases he.split with ⟨p',x,hv,rfl,hf⟩ | ⟨_,l10,u10,hv,rfl,hV,hs,hf⟩
  ·exact ⟨rfl,DefPost.of_bad (Sx.go_bad HR9.out hv) (HC.out.fr.trans (L10.out.fr.trans hf))⟩
  unfold vUnit at hV
  subst hV
  have HR10:=Lh (Sx.go_ok HR9.out hv)
  have L11:=L10.out.step hf hs
  have x0:=L11.blk.cell 0;have x1:=L11.blk.cell 1;have x2:=L11.blk.cell 2;have x3:=L11.blk.cell 3
  simp at x0 x1 x2 x3
  have hp10:=L11.blk.lt
  have C11:=HC.out.step L11.fr L11.ps
  have c11:w10.cell? ⟨h,6,none⟩=some v:=by rw [C11.blk.cell 6];simpa using HI.out.1
  have hh11:=C11.blk.lt
  have HC11:=Lh C11.drew
  clear hv hs hf he L11 C11 HR9 L10 q3 qf3 hp9
  go_wp2_with fail
  go_region_law (refine HC11.out.step_append (i:=6) (lo:=w.heap.size) (x:=.clause ⟨kd+1,wn,ac+1,ut⟩) (cs:=[.int .i64 (kd+1),.int .i64 wn,.int .i64 (ac+1),.int .i64 ut]) HI.out.1 HI.out.2.1 HI.out.2.2 rfl rfl hgl HROW.out hrf rfl _ _ _ rfl i0 _ 32 Tryz.underlying28 hi0 hz0 hz1 hz2 rfl (by omega) rfl rfl (by simp [Value.oneCell']) ?_;intro gg cap w12 d1 df1 HP)
  all_goals go_end0
  all_goals exact DefPost.of_ok HR10.out (by rw [HIS.out];simp[itemsOf]) HP

end Go.Proofs.YtjonaidancomgaaGreatDoor
