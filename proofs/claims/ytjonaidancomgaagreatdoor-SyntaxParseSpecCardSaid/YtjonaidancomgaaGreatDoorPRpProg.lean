/- Parts of the proof, joined into one text: RpProg. -/
import Derived.Test.YtjonaidancomgaaGreatDoorPRpTake
import Derived.Test.YtjonaidancomgaaGreatDoorPSxDefsD
import Derived.Test.YtjonaidancomgaaGreatDoorPSxPrC0
import Derived.Test.YtjonaidancomgaaGreatDoorPRpRulC
import Derived.Test.YtjonaidancomgaaGreatDoorPRpRulB
import Derived.Deep.CutRange

namespace Go.Proofs.YtjonaidancomgaaGreatDoor
open Go.RowKit

namespace Sx
open Lx (Tok)
def progE (last:Int) (nm:List UInt8) (no us ea:Int) (me:Ratio) (qs:List Req) (l:List Tok):R Prog:=(sign last 125 l).bind fun _ l=>.ok ⟨nm,no,us,ea,me,qs⟩ l
def progR (last:Int) (nm:List UInt8) (no us ea:Int) (me:Ratio) (l:List Tok):R Prog:=(takes last l.length.succ [] l).bind fun qs l=>progE last nm no us ea me qs l
def progM (last:Int) (nm:List UInt8) (no us ea:Int) (l:List Tok):R Prog:=(opt last wMean (ratio last) ⟨0,1⟩ l).bind fun me l=>progR last nm no us ea me l
def progN (last:Int) (nm:List UInt8) (no us:Int) (l:List Tok):R Prog:=(opt last wEarn (number last 0 10000) 0 l).bind fun ea l=>progM last nm no us ea l
def progU (last:Int) (nm:List UInt8) (no:Int) (l:List Tok):R Prog:=(opt last wUses (number last 1 4) 1 l).bind fun us l=>progN last nm no us l
theorem prog_steps (last:Int) (l:List Tok):programme last l=(number last 0 255 l).bind fun no l=>(name last l).bind fun nm l=>(sign last 123 l).bind fun _ l=>progU last nm no l:=rfl
end Sx
def vProgB (lo:Nat) (w:World) (a:Sx.Prog) (vs:List Value):Prop:=∃ cs,vs = [.agg cs.toArray]∧ProgAt w (fun b=>lo≤b∧b < w.heap.size) a cs
theorem pst7 {w:World} {b:Nat} {t:TypeId} {z0 z1 z2 z3 z4 z5 z6:Value} (h:Blk w b t #[z0,z1,z2,z3,z4,z5,z6]) (a0 a1 a2 a3 a4 a5 a6:Value):∃ W:World,W=((((((w.setCell ⟨b,0,none⟩ a0).setCell ⟨b,1,none⟩ a1).setCell ⟨b,2,none⟩ a2).setCell ⟨b,3,none⟩ a3).setCell ⟨b,4,none⟩ a4).setCell ⟨b,5,none⟩ a5).setCell ⟨b,6,none⟩ a6∧Blk W b t #[a0,a1,a2,a3,a4,a5,a6]∧((∀ k,k≠b→W.heap[k]?=w.heap[k]?)∧W.heap.size=w.heap.size)∧∀ (B:Nat) (w0:World),Below B w0 w→B≤b→Below B w0 W:=by
 refine ⟨_,rfl,?_,⟨fun k hk=>?_,by simp [World.setCell]⟩,fun B w0 hb hB=>((((((hb.setCell (p:=⟨b,0,none⟩) hB a0).setCell (p:=⟨b,1,none⟩) hB a1).setCell (p:=⟨b,2,none⟩) hB a2).setCell (p:=⟨b,3,none⟩) hB a3).setCell (p:=⟨b,4,none⟩) hB a4).setCell (p:=⟨b,5,none⟩) hB a5).setCell (p:=⟨b,6,none⟩) hB a6⟩
 ·have:=((((((h.set 0 a0).set 1 a1).set 2 a2).set 3 a3).set 4 a4).set 5 a5).set 6 a6
  simpa using this
 ·rw[Below.heap_setCell _ ⟨b,6,none⟩ _ k hk,Below.heap_setCell _ ⟨b,5,none⟩ _ k hk,Below.heap_setCell _ ⟨b,4,none⟩ _ k hk,Below.heap_setCell _ ⟨b,3,none⟩ _ k hk,Below.heap_setCell _ ⟨b,2,none⟩ _ k hk,Below.heap_setCell _ ⟨b,1,none⟩ _ k hk,Below.heap_setCell _ ⟨b,0,none⟩ _ k hk]
set_option maxRecDepth 20000 in
set_option maxHeartbeats 2000000 in
theorem pProg (T:List Lx.Tok) (A:Option Addr) (c:Nat) (last:Int) (s:Sx.R Unit) (k e p:Int) (w:World) (hc:PCtx T A w) (hp:PAt T s k e p) :
  Calls Tryz.prog 34 #[pv A T.length c k last e p] w (PRead T A c last (vProgB w.heap.size) (Sx.go s (fun l=>(Sx.word last Sx.wProgramme l).bind fun _ l=>Sx.programme last l)) w):=by
 have HC:=Lh hc;have HP0:=Lh hp
 have hlen:=hc.toks.len
 obtain ⟨R,hR⟩:∃ R,R=Sx.go s (fun l=>(Sx.word last Sx.wProgramme l).bind fun _ l=>Sx.programme last l):=⟨_,rfl⟩
 obtain ⟨n,hn⟩:∃ n,n=T.length:=⟨_,rfl⟩
 rw[←hR]
 unfold PRead
 have Hn:=Lh hn;have HR0:=Lh hR
 unfold pv
 rw[←hn] at hlen ⊢
 obtain ⟨W1,W2,W3,hW1,hW2,hW3,p1,p2,p3,hb,hsz⟩:=pbox6 w 78 #[.string ⟨#[]⟩,.int .i64 0,.int .i64 0,.int .i64 0,.int .i64 0,.int .i64 0,.slice none 0 0] (.slice A n c) (.int .i64 k) (.int .i64 last) (.int .i64 e) (.int .i64 p)
 have HB:=Lh hb;have HX_p:=Lh p1;have HX_a:=Lh p2;have HX_q:=Lh p3
 clear hc hp hn hb p1 p2 p3 hR
 go_enter Tryz.func34,Tryz.ntmps34
 go_upto_region 1 with fail
 rw[←hW1,←hW2,←hW3]
 clear hW1 hW2 hW3
 obtain ⟨X1,hX1⟩:∃ V,V=W3.alloc (.cells #[.string ⟨#[]⟩,.int .i64 0,.int .i64 1,.int .i64 0,.int .i64 0,.int .i64 1,.slice none 0 0] 78):=⟨_,rfl⟩
 obtain ⟨HX_x,hb⟩:=bnw hX1
 have hgz:=hb.size
 replace HB:=bmb HB hb
 replace HX_p:=bmv HX_p hb
 replace HX_a:=bmv HX_a hb
 replace HX_q:=bmv HX_q hb
 clear hb
 have hx1:X1.heap.size=w.heap.size+4:=by rw [hX1];simp[hsz]
 replace HX_x:=bat (b:=w.heap.size+1+1+1) HX_x (by omega)
 go_upto_region 2 with fail
 rw[←hX1]
 clear hX1
 obtain ⟨c_p0,c_p1,c_p2,c_p3,c_p4,z_p⟩:=cells5 HX_p.out
 have HW:=Lh (fun w' h=>pWord T A c last ⟨#[112,114,111,103,114,97,109,109,101]⟩ s (k) (e) (p) w' h HP0.out)
 rw[show Sx.need last 1 (⟨#[112,114,111,103,114,97,109,109,101]⟩:ByteArray).data.toList=Sx.word last Sx.wProgramme from rfl] at HW
 unfold PPost pv at HW
 rw[←Hn.out] at HW
 obtain ⟨s1,hs⟩:∃ s',s'=Sx.go s (Sx.word last Sx.wProgramme):=⟨_,rfl⟩
 rw[←hs] at HW
 have HR1:=Lh (HR0.out.trans ((Sx.go_unit _ _ _).trans (by rw [←hs])))
 clear hs HR0
 go_wp2_with fail
 refine (HW.out _ (HC.out.next HB.out)).mono ?_
 rintro e' v1 ⟨k1,x1,p1,rfl,ha,hb⟩
 have HP1:=Lh ha
 clear ha HW
 clear c_p0 c_p1 c_p2 c_p3 c_p4 z_p
 have hgz:=hb.size
 replace HB:=bmb HB hb
 replace HX_p:=bmv HX_p hb
 replace HX_a:=bmv HX_a hb
 replace HX_q:=bmv HX_q hb
 replace HX_x:=bmv HX_x hb
 clear hb
 replace HR1:=Lh (HR1.out.trans (by rw [funext (Sx.prog_steps last)]))
 have HW:=Lh (fun w' h=>pNumber T A c last 0 255 s1 (k1) (x1) (p1) w' h HP1.out)
 unfold PRead pv at HW
 rw[←Hn.out] at HW
 obtain ⟨s2,hs⟩:∃ s',s'=(Sx.go s1 (Sx.number last 0 255)).void:=⟨_,rfl⟩
 go_wp2_with fail
 refine (HW.out _ (HC.out.next HB.out)).mono ?_
 rintro e' v2 ⟨no,vs,k2,x2,p2,rfl,hv,hvs,ha,hb⟩
 rw[←hs] at ha
 have HP2:=Lh ha
 have HR2:=Lh (HR1.out.trans ((Sx.R.Val.step hv _).trans (by rw [←hs])))
 unfold vInts intV at hvs
 subst hvs
 simp only[List.cons_append,List.nil_append]
 clear hs ha hv HW HR1
 have hgz:=hb.size
 replace HB:=bmb HB hb
 replace HX_p:=bmv HX_p hb
 replace HX_a:=bmv HX_a hb
 replace HX_q:=bmv HX_q hb
 replace HX_x:=bmv HX_x hb
 clear hb
 obtain ⟨c_p0,c_p1,c_p2,c_p3,c_p4,z_p⟩:=cells5 HX_p.out
 obtain ⟨f_p0,f_p1,f_p2,f_p3,f_p4⟩:=frees5 HX_p.out
 obtain ⟨c_x0,c_x1,c_x2,c_x3,c_x4,c_x5,c_x6,z_x⟩:=cells7 HX_x.out
 obtain ⟨f_x0,f_x1,f_x2,f_x3,f_x4,f_x5,f_x6⟩:=frees7 HX_x.out
 obtain ⟨A0,hA0⟩:∃ V,V=v2.setCell ⟨(w.heap.size+1+1+1),1,none⟩ (.int .i64 no):=⟨_,rfl⟩
 have hsz_A0:=bss hA0
 replace HB:=bsb hA0 HB (by omega)
 replace HX_p:=bst hA0 HX_p (by omega)
 replace HX_a:=bst hA0 HX_a (by omega)
 replace HX_q:=bst hA0 HX_q (by omega)
 replace HX_x:=bsc hA0 HX_x (cs':=#[.string ⟨#[]⟩,.int .i64 no,.int .i64 1,.int .i64 0,.int .i64 0,.int .i64 1,.slice none 0 0]) (by simp)
 obtain ⟨Ap,hAp,hxn,hfar,hbn⟩:=pstoreB HX_p.out (.slice A n c) (.int .i64 k2) (.int .i64 last) (.int .i64 x2) (.int .i64 p2)
 replace HB:=Lh (hbn w.heap.size w HB.out (by omega))
 replace HX_a:=bfr hfar.1 HX_a (by omega)
 replace HX_q:=bfr hfar.1 HX_q (by omega)
 replace HX_x:=bfr hfar.1 HX_x (by omega)
 replace HX_p:=Lh hxn
 have hsz_Ap:=hfar.2
 clear hxn hfar hbn
 rw[hA0] at hAp
 go_upto_region 3 with fail
 rw[←hAp]
 clear hA0 hAp
 clear c_p0 c_p1 c_p2 c_p3 c_p4 z_p f_p0 f_p1 f_p2 f_p3 f_p4 c_x0 c_x1 c_x2 c_x3 c_x4 c_x5 c_x6 z_x f_x0 f_x1 f_x2 f_x3 f_x4 f_x5 f_x6
 obtain ⟨c_p0,c_p1,c_p2,c_p3,c_p4,z_p⟩:=cells5 HX_p.out
 have HW:=Lh (fun w' h=>pName T A c last s2 (k2) (x2) (p2) w' h HP2.out)
 unfold PRead pv at HW
 rw[←Hn.out] at HW
 obtain ⟨s3,hs⟩:∃ s',s'=(Sx.go s2 (Sx.name last)).void:=⟨_,rfl⟩
 go_wp2_with fail
 refine (HW.out _ (HC.out.next HB.out)).mono ?_
 rintro e' v3 ⟨nm,vs,k3,x3,p3,rfl,hv,hvs,ha,hb⟩
 rw[←hs] at ha
 have HP3:=Lh ha
 have HR3:=Lh (HR2.out.trans ((Sx.R.Val.step hv _).trans (by rw [←hs])))
 obtain ⟨hvs,hl⟩:=hvs
 unfold strV at hvs
 subst hvs
 have HL:=Lh hl
 clear hl
 simp only[List.cons_append,List.nil_append]
 clear hs ha hv HW HR2
 clear c_p0 c_p1 c_p2 c_p3 c_p4 z_p
 have hgz:=hb.size
 replace HB:=bmb HB hb
 replace HX_p:=bmv HX_p hb
 replace HX_a:=bmv HX_a hb
 replace HX_q:=bmv HX_q hb
 replace HX_x:=bmv HX_x hb
 clear hb
 obtain ⟨c_p0,c_p1,c_p2,c_p3,c_p4,z_p⟩:=cells5 HX_p.out
 obtain ⟨f_p0,f_p1,f_p2,f_p3,f_p4⟩:=frees5 HX_p.out
 obtain ⟨c_x0,c_x1,c_x2,c_x3,c_x4,c_x5,c_x6,z_x⟩:=cells7 HX_x.out
 obtain ⟨f_x0,f_x1,f_x2,f_x3,f_x4,f_x5,f_x6⟩:=frees7 HX_x.out
 obtain ⟨B0,hB0⟩:∃ V,V=v3.setCell ⟨(w.heap.size+1+1+1),0,none⟩ (.string (Lx.bs nm)):=⟨_,rfl⟩
 have hsz_B0:=bss hB0
 replace HB:=bsb hB0 HB (by omega)
 replace HX_p:=bst hB0 HX_p (by omega)
 replace HX_a:=bst hB0 HX_a (by omega)
 replace HX_q:=bst hB0 HX_q (by omega)
 replace HX_x:=bsc hB0 HX_x (cs':=#[.string (Lx.bs nm),.int .i64 no,.int .i64 1,.int .i64 0,.int .i64 0,.int .i64 1,.slice none 0 0]) (by simp)
 obtain ⟨Bp,hBp,hxn,hfar,hbn⟩:=pstoreB HX_p.out (.slice A n c) (.int .i64 k3) (.int .i64 last) (.int .i64 x3) (.int .i64 p3)
 replace HB:=Lh (hbn w.heap.size w HB.out (by omega))
 replace HX_a:=bfr hfar.1 HX_a (by omega)
 replace HX_q:=bfr hfar.1 HX_q (by omega)
 replace HX_x:=bfr hfar.1 HX_x (by omega)
 replace HX_p:=Lh hxn
 have hsz_Bp:=hfar.2
 clear hxn hfar hbn
 rw[hB0] at hBp
 go_upto_region 4 with fail
 rw[←hBp]
 clear hB0 hBp
 clear c_p0 c_p1 c_p2 c_p3 c_p4 z_p f_p0 f_p1 f_p2 f_p3 f_p4 c_x0 c_x1 c_x2 c_x3 c_x4 c_x5 c_x6 z_x f_x0 f_x1 f_x2 f_x3 f_x4 f_x5 f_x6
 obtain ⟨c_p0,c_p1,c_p2,c_p3,c_p4,z_p⟩:=cells5 HX_p.out
 have HW:=Lh (fun w' h=>pSg T A c last 123 s3 (k3) (x3) (p3) w' h HP3.out)
 unfold PPost pv at HW
 rw[←Hn.out] at HW
 obtain ⟨s4,hs⟩:∃ s',s'=Sx.go s3 (Sx.sign last 123):=⟨_,rfl⟩
 rw[←hs] at HW
 have HR4:=Lh (HR3.out.trans ((Sx.go_unit _ _ _).trans (by rw [←hs])))
 clear hs HR3
 go_wp2_with fail
 refine (HW.out _ (HC.out.next HB.out)).mono ?_
 rintro e' v4 ⟨k4,x4,p4,rfl,ha,hb⟩
 have HP4:=Lh ha
 clear ha HW
 clear c_p0 c_p1 c_p2 c_p3 c_p4 z_p
 have hgz:=hb.size
 replace HB:=bmb HB hb
 replace HX_p:=bmv HX_p hb
 replace HX_a:=bmv HX_a hb
 replace HX_q:=bmv HX_q hb
 replace HX_x:=bmv HX_x hb
 clear hb
 obtain ⟨c_p0,c_p1,c_p2,c_p3,c_p4,z_p⟩:=cells5 HX_p.out
 obtain ⟨f_p0,f_p1,f_p2,f_p3,f_p4⟩:=frees5 HX_p.out
 obtain ⟨D1,hD1,hxn,hfar,hbn⟩:=pstoreB HX_p.out (.slice A n c) (.int .i64 k4) (.int .i64 last) (.int .i64 x4) (.int .i64 p4)
 replace HB:=Lh (hbn w.heap.size w HB.out (by omega))
 replace HX_a:=bfr hfar.1 HX_a (by omega)
 replace HX_q:=bfr hfar.1 HX_q (by omega)
 replace HX_x:=bfr hfar.1 HX_x (by omega)
 replace HX_p:=Lh hxn
 have hsz_D1:=hfar.2
 clear hxn hfar hbn
 go_upto_region 5 with fail
 rw[←hD1]
 clear hD1
 clear c_p0 c_p1 c_p2 c_p3 c_p4 z_p f_p0 f_p1 f_p2 f_p3 f_p4
 replace HR4:=Lh (show R=Sx.go s4 (fun l=>(Sx.opt last Sx.wUses (Sx.number last 1 4) 1 l).bind fun us l=>Sx.progN last nm no us l) from HR4.out)
 have HI:=Lh (fun w' h=>pW T A c last ⟨#[117,115,101,115]⟩ s4 (k4) (x4) (p4) w' h HP4.out)
 rw[show (⟨#[117,115,101,115]⟩:ByteArray).data.toList=Sx.wUses from rfl] at HI
 unfold pv at HI
 rw[←Hn.out] at HI
 obtain ⟨c_p0,c_p1,c_p2,c_p3,c_p4,z_p⟩:=cells5 HX_p.out
 go_wp2_with fail
 refine (HI.out _ (HC.out.next HB.out)).mono ?_
 rintro e' v5 ⟨rfl,hb⟩
 clear HI
 clear c_p0 c_p1 c_p2 c_p3 c_p4 z_p
 have hgz:=hb.size
 replace HB:=bmb HB hb
 replace HX_p:=bmv HX_p hb
 replace HX_a:=bmv HX_a hb
 replace HX_q:=bmv HX_q hb
 replace HX_x:=bmv HX_x hb
 clear hb
 go_upto_if 25 with fail
 go_cut [] from 25 to 34 (fun wx=>∃ (us:Int) (s5:Sx.R Unit) (k5 x5 p5:Int),Hid (R=Sx.go s5 (Sx.progN last nm no us))∧Hid (PAt T s5 k5 x5 p5)∧Hid (Blk wx w.heap.size 64 #[.slice A n c,.int .i64 k5,.int .i64 last,.int .i64 x5,.int .i64 p5])∧Hid (Blk wx (w.heap.size+1) 78 #[.string ⟨#[]⟩,.int .i64 0,.int .i64 0,.int .i64 0,.int .i64 0,.int .i64 0,.slice none 0 0])∧Hid (Blk wx (w.heap.size+1+1) 64 #[.slice none 0 0,.int .i64 0,.int .i64 0,.int .i64 0,.int .i64 0])∧Hid (Blk wx (w.heap.size+1+1+1) 78 #[.string (Lx.bs nm),.int .i64 no,.int .i64 us,.int .i64 0,.int .i64 0,.int .i64 1,.slice none 0 0])∧Hid (Below w.heap.size w wx)∧Hid (w.heap.size+4≤wx.heap.size))
 case first=>
  cases hh:(s4).hits 1 Sx.wUses with
  | false=>
   have HRn:=Lh (HR4.out.trans (Sx.go_opt_bind_no _ hh))
   clear hh
   go_wp2_with fail
   go_meet
   exact ⟨1,_,_,_,_,HRn,HP4,HX_p,HX_a,HX_q,HX_x,HB,Lh (by omega)⟩
  | true=>
   replace HR4:=Lh (HR4.out.trans (Sx.go_opt_bind_yes _ hh))
   clear hh
   obtain ⟨c_p0,c_p1,c_p2,c_p3,c_p4,z_p⟩:=cells5 HX_p.out
   have HW:=Lh (fun w' h=>pWord T A c last ⟨#[117,115,101,115]⟩ s4 (k4) (x4) (p4) w' h HP4.out)
   rw[show Sx.need last 1 (⟨#[117,115,101,115]⟩:ByteArray).data.toList=Sx.word last Sx.wUses from rfl] at HW
   unfold PPost pv at HW
   rw[←Hn.out] at HW
   obtain ⟨s6,hs⟩:∃ s',s'=Sx.go s4 (Sx.word last Sx.wUses):=⟨_,rfl⟩
   rw[←hs] at HW
   have HR6:=Lh (HR4.out.trans ((Sx.go_unit _ _ _).trans (by rw [←hs])))
   clear hs HR4
   go_wp2_with fail
   refine (HW.out _ (HC.out.next HB.out)).mono ?_
   rintro e' v6 ⟨k6,x6,p6,rfl,ha,hb⟩
   have HP6:=Lh ha
   clear ha HW
   clear c_p0 c_p1 c_p2 c_p3 c_p4 z_p
   have hgz:=hb.size
   replace HB:=bmb HB hb
   replace HX_p:=bmv HX_p hb
   replace HX_a:=bmv HX_a hb
   replace HX_q:=bmv HX_q hb
   replace HX_x:=bmv HX_x hb
   clear hb
   have HW:=Lh (fun w' h=>pNumber T A c last 1 4 s6 (k6) (x6) (p6) w' h HP6.out)
   unfold PRead pv at HW
   rw[←Hn.out] at HW
   obtain ⟨s7,hs⟩:∃ s',s'=(Sx.go s6 (Sx.number last 1 4)).void:=⟨_,rfl⟩
   go_wp2_with fail
   refine (HW.out _ (HC.out.next HB.out)).mono ?_
   rintro e' v7 ⟨us,vs,k7,x7,p7,rfl,hv,hvs,ha,hb⟩
   rw[←hs] at ha
   have HP7:=Lh ha
   have HR7:=Lh (HR6.out.trans ((Sx.R.Val.step hv _).trans (by rw [←hs])))
   unfold vInts intV at hvs
   subst hvs
   simp only[List.cons_append,List.nil_append]
   clear hs ha hv HW HR6
   have hgz:=hb.size
   replace HB:=bmb HB hb
   replace HX_p:=bmv HX_p hb
   replace HX_a:=bmv HX_a hb
   replace HX_q:=bmv HX_q hb
   replace HX_x:=bmv HX_x hb
   clear hb
   obtain ⟨c_p0,c_p1,c_p2,c_p3,c_p4,z_p⟩:=cells5 HX_p.out
   obtain ⟨f_p0,f_p1,f_p2,f_p3,f_p4⟩:=frees5 HX_p.out
   obtain ⟨c_x0,c_x1,c_x2,c_x3,c_x4,c_x5,c_x6,z_x⟩:=cells7 HX_x.out
   obtain ⟨f_x0,f_x1,f_x2,f_x3,f_x4,f_x5,f_x6⟩:=frees7 HX_x.out
   obtain ⟨Eu0,hEu0⟩:∃ V,V=v7.setCell ⟨(w.heap.size+1+1+1),2,none⟩ (.int .i64 us):=⟨_,rfl⟩
   have hsz_Eu0:=bss hEu0
   replace HB:=bsb hEu0 HB (by omega)
   replace HX_p:=bst hEu0 HX_p (by omega)
   replace HX_a:=bst hEu0 HX_a (by omega)
   replace HX_q:=bst hEu0 HX_q (by omega)
   replace HX_x:=bsc hEu0 HX_x (cs':=#[.string (Lx.bs nm),.int .i64 no,.int .i64 us,.int .i64 0,.int .i64 0,.int .i64 1,.slice none 0 0]) (by simp)
   obtain ⟨Eup,hEup,hxn,hfar,hbn⟩:=pstoreB HX_p.out (.slice A n c) (.int .i64 k7) (.int .i64 last) (.int .i64 x7) (.int .i64 p7)
   replace HB:=Lh (hbn w.heap.size w HB.out (by omega))
   replace HX_a:=bfr hfar.1 HX_a (by omega)
   replace HX_q:=bfr hfar.1 HX_q (by omega)
   replace HX_x:=bfr hfar.1 HX_x (by omega)
   replace HX_p:=Lh hxn
   have hsz_Eup:=hfar.2
   clear hxn hfar hbn
   rw[hEu0] at hEup
   go_upto_region 7 with fail
   rw[←hEup]
   clear hEu0 hEup
   clear c_p0 c_p1 c_p2 c_p3 c_p4 z_p f_p0 f_p1 f_p2 f_p3 f_p4 c_x0 c_x1 c_x2 c_x3 c_x4 c_x5 c_x6 z_x f_x0 f_x1 f_x2 f_x3 f_x4 f_x5 f_x6
   obtain ⟨c_p0,c_p1,c_p2,c_p3,c_p4,z_p⟩:=cells5 HX_p.out
   have HW:=Lh (fun w' h=>pSg T A c last 59 s7 (k7) (x7) (p7) w' h HP7.out)
   unfold PPost pv at HW
   rw[←Hn.out] at HW
   obtain ⟨s8,hs⟩:∃ s',s'=Sx.go s7 (Sx.sign last 59):=⟨_,rfl⟩
   rw[←hs] at HW
   have HR8:=Lh (HR7.out.trans ((Sx.go_unit _ _ _).trans (by rw [←hs])))
   clear hs HR7
   go_wp2_with fail
   refine (HW.out _ (HC.out.next HB.out)).mono ?_
   rintro e' v8 ⟨k8,x8,p8,rfl,ha,hb⟩
   have HP8:=Lh ha
   clear ha HW
   clear c_p0 c_p1 c_p2 c_p3 c_p4 z_p
   have hgz:=hb.size
   replace HB:=bmb HB hb
   replace HX_p:=bmv HX_p hb
   replace HX_a:=bmv HX_a hb
   replace HX_q:=bmv HX_q hb
   replace HX_x:=bmv HX_x hb
   clear hb
   obtain ⟨c_p0,c_p1,c_p2,c_p3,c_p4,z_p⟩:=cells5 HX_p.out
   obtain ⟨f_p0,f_p1,f_p2,f_p3,f_p4⟩:=frees5 HX_p.out
   obtain ⟨Gu,hGu,hxn,hfar,hbn⟩:=pstoreB HX_p.out (.slice A n c) (.int .i64 k8) (.int .i64 last) (.int .i64 x8) (.int .i64 p8)
   replace HB:=Lh (hbn w.heap.size w HB.out (by omega))
   replace HX_a:=bfr hfar.1 HX_a (by omega)
   replace HX_q:=bfr hfar.1 HX_q (by omega)
   replace HX_x:=bfr hfar.1 HX_x (by omega)
   replace HX_p:=Lh hxn
   have hsz_Gu:=hfar.2
   clear hxn hfar hbn
   go_wp2_with fail
   rw[←hGu]
   go_meet
   exact ⟨_,_,k8,x8,p8,HR8,HP8,HX_p,HX_a,HX_q,HX_x,HB,Lh (by omega)⟩
 case rest=>
  clear HB HX_p HX_a HX_q HX_x
  obtain ⟨us,s5,k5,x5,p5,HRc,HPc,HX_p,HX_a,HX_q,HX_x,HB,HZ⟩:=hcut
  have hz:=HZ.out
  replace HRc:=Lh (show R=Sx.go s5 (fun l=>(Sx.opt last Sx.wEarn (Sx.number last 0 10000) 0 l).bind fun ea l=>Sx.progM last nm no us ea l) from HRc.out)
  go_upto_region 8 with fail
  have HI:=Lh (fun w' h=>pW T A c last ⟨#[101,97,114,110]⟩ s5 (k5) (x5) (p5) w' h HPc.out)
  rw[show (⟨#[101,97,114,110]⟩:ByteArray).data.toList=Sx.wEarn from rfl] at HI
  unfold pv at HI
  rw[←Hn.out] at HI
  obtain ⟨c_p0,c_p1,c_p2,c_p3,c_p4,z_p⟩:=cells5 HX_p.out
  go_wp2_with fail
  refine (HI.out _ (HC.out.next HB.out)).mono ?_
  rintro e' v6 ⟨rfl,hb⟩
  clear HI
  clear c_p0 c_p1 c_p2 c_p3 c_p4 z_p
  have hgz:=hb.size
  replace HB:=bmb HB hb
  replace HX_p:=bmv HX_p hb
  replace HX_a:=bmv HX_a hb
  replace HX_q:=bmv HX_q hb
  replace HX_x:=bmv HX_x hb
  clear hb
  go_upto_if 36 with fail
  go_cut [] from 36 to 45 (fun wx=>∃ (ea:Int) (s5:Sx.R Unit) (k5 x5 p5:Int),Hid (R=Sx.go s5 (Sx.progM last nm no us ea))∧Hid (PAt T s5 k5 x5 p5)∧Hid (Blk wx w.heap.size 64 #[.slice A n c,.int .i64 k5,.int .i64 last,.int .i64 x5,.int .i64 p5])∧Hid (Blk wx (w.heap.size+1) 78 #[.string ⟨#[]⟩,.int .i64 0,.int .i64 0,.int .i64 0,.int .i64 0,.int .i64 0,.slice none 0 0])∧Hid (Blk wx (w.heap.size+1+1) 64 #[.slice none 0 0,.int .i64 0,.int .i64 0,.int .i64 0,.int .i64 0])∧Hid (Blk wx (w.heap.size+1+1+1) 78 #[.string (Lx.bs nm),.int .i64 no,.int .i64 us,.int .i64 ea,.int .i64 0,.int .i64 1,.slice none 0 0])∧Hid (Below w.heap.size w wx)∧Hid (w.heap.size+4≤wx.heap.size))
  case first=>
   cases hh:(s5).hits 1 Sx.wEarn with
   | false=>
    have HRn:=Lh (HRc.out.trans (Sx.go_opt_bind_no _ hh))
    clear hh
    go_wp2_with fail
    go_meet
    exact ⟨0,_,_,_,_,HRn,HPc,HX_p,HX_a,HX_q,HX_x,HB,Lh (by omega)⟩
   | true=>
    replace HRc:=Lh (HRc.out.trans (Sx.go_opt_bind_yes _ hh))
    clear hh
    obtain ⟨c_p0,c_p1,c_p2,c_p3,c_p4,z_p⟩:=cells5 HX_p.out
    have HW:=Lh (fun w' h=>pWord T A c last ⟨#[101,97,114,110]⟩ s5 (k5) (x5) (p5) w' h HPc.out)
    rw[show Sx.need last 1 (⟨#[101,97,114,110]⟩:ByteArray).data.toList=Sx.word last Sx.wEarn from rfl] at HW
    unfold PPost pv at HW
    rw[←Hn.out] at HW
    obtain ⟨s7,hs⟩:∃ s',s'=Sx.go s5 (Sx.word last Sx.wEarn):=⟨_,rfl⟩
    rw[←hs] at HW
    have HR7:=Lh (HRc.out.trans ((Sx.go_unit _ _ _).trans (by rw [←hs])))
    clear hs HRc
    go_wp2_with fail
    refine (HW.out _ (HC.out.next HB.out)).mono ?_
    rintro e' v7 ⟨k7,x7,p7,rfl,ha,hb⟩
    have HP7:=Lh ha
    clear ha HW
    clear c_p0 c_p1 c_p2 c_p3 c_p4 z_p
    have hgz:=hb.size
    replace HB:=bmb HB hb
    replace HX_p:=bmv HX_p hb
    replace HX_a:=bmv HX_a hb
    replace HX_q:=bmv HX_q hb
    replace HX_x:=bmv HX_x hb
    clear hb
    have HW:=Lh (fun w' h=>pNumber T A c last 0 10000 s7 (k7) (x7) (p7) w' h HP7.out)
    unfold PRead pv at HW
    rw[←Hn.out] at HW
    obtain ⟨s8,hs⟩:∃ s',s'=(Sx.go s7 (Sx.number last 0 10000)).void:=⟨_,rfl⟩
    go_wp2_with fail
    refine (HW.out _ (HC.out.next HB.out)).mono ?_
    rintro e' v8 ⟨ea,vs,k8,x8,p8,rfl,hv,hvs,ha,hb⟩
    rw[←hs] at ha
    have HP8:=Lh ha
    have HR8:=Lh (HR7.out.trans ((Sx.R.Val.step hv _).trans (by rw [←hs])))
    unfold vInts intV at hvs
    subst hvs
    simp only[List.cons_append,List.nil_append]
    clear hs ha hv HW HR7
    have hgz:=hb.size
    replace HB:=bmb HB hb
    replace HX_p:=bmv HX_p hb
    replace HX_a:=bmv HX_a hb
    replace HX_q:=bmv HX_q hb
    replace HX_x:=bmv HX_x hb
    clear hb
    obtain ⟨c_p0,c_p1,c_p2,c_p3,c_p4,z_p⟩:=cells5 HX_p.out
    obtain ⟨f_p0,f_p1,f_p2,f_p3,f_p4⟩:=frees5 HX_p.out
    obtain ⟨c_x0,c_x1,c_x2,c_x3,c_x4,c_x5,c_x6,z_x⟩:=cells7 HX_x.out
    obtain ⟨f_x0,f_x1,f_x2,f_x3,f_x4,f_x5,f_x6⟩:=frees7 HX_x.out
    obtain ⟨Ee0,hEe0⟩:∃ V,V=v8.setCell ⟨(w.heap.size+1+1+1),3,none⟩ (.int .i64 ea):=⟨_,rfl⟩
    have hsz_Ee0:=bss hEe0
    replace HB:=bsb hEe0 HB (by omega)
    replace HX_p:=bst hEe0 HX_p (by omega)
    replace HX_a:=bst hEe0 HX_a (by omega)
    replace HX_q:=bst hEe0 HX_q (by omega)
    replace HX_x:=bsc hEe0 HX_x (cs':=#[.string (Lx.bs nm),.int .i64 no,.int .i64 us,.int .i64 ea,.int .i64 0,.int .i64 1,.slice none 0 0]) (by simp)
    obtain ⟨Eep,hEep,hxn,hfar,hbn⟩:=pstoreB HX_p.out (.slice A n c) (.int .i64 k8) (.int .i64 last) (.int .i64 x8) (.int .i64 p8)
    replace HB:=Lh (hbn w.heap.size w HB.out (by omega))
    replace HX_a:=bfr hfar.1 HX_a (by omega)
    replace HX_q:=bfr hfar.1 HX_q (by omega)
    replace HX_x:=bfr hfar.1 HX_x (by omega)
    replace HX_p:=Lh hxn
    have hsz_Eep:=hfar.2
    clear hxn hfar hbn
    rw[hEe0] at hEep
    go_upto_region 10 with fail
    rw[←hEep]
    clear hEe0 hEep
    clear c_p0 c_p1 c_p2 c_p3 c_p4 z_p f_p0 f_p1 f_p2 f_p3 f_p4 c_x0 c_x1 c_x2 c_x3 c_x4 c_x5 c_x6 z_x f_x0 f_x1 f_x2 f_x3 f_x4 f_x5 f_x6
    obtain ⟨c_p0,c_p1,c_p2,c_p3,c_p4,z_p⟩:=cells5 HX_p.out
    have HW:=Lh (fun w' h=>pSg T A c last 59 s8 (k8) (x8) (p8) w' h HP8.out)
    unfold PPost pv at HW
    rw[←Hn.out] at HW
    obtain ⟨s9,hs⟩:∃ s',s'=Sx.go s8 (Sx.sign last 59):=⟨_,rfl⟩
    rw[←hs] at HW
    have HR9:=Lh (HR8.out.trans ((Sx.go_unit _ _ _).trans (by rw [←hs])))
    clear hs HR8
    go_wp2_with fail
    refine (HW.out _ (HC.out.next HB.out)).mono ?_
    rintro e' v9 ⟨k9,x9,p9,rfl,ha,hb⟩
    have HP9:=Lh ha
    clear ha HW
    clear c_p0 c_p1 c_p2 c_p3 c_p4 z_p
    have hgz:=hb.size
    replace HB:=bmb HB hb
    replace HX_p:=bmv HX_p hb
    replace HX_a:=bmv HX_a hb
    replace HX_q:=bmv HX_q hb
    replace HX_x:=bmv HX_x hb
    clear hb
    obtain ⟨c_p0,c_p1,c_p2,c_p3,c_p4,z_p⟩:=cells5 HX_p.out
    obtain ⟨f_p0,f_p1,f_p2,f_p3,f_p4⟩:=frees5 HX_p.out
    obtain ⟨Ge,hGe,hxn,hfar,hbn⟩:=pstoreB HX_p.out (.slice A n c) (.int .i64 k9) (.int .i64 last) (.int .i64 x9) (.int .i64 p9)
    replace HB:=Lh (hbn w.heap.size w HB.out (by omega))
    replace HX_a:=bfr hfar.1 HX_a (by omega)
    replace HX_q:=bfr hfar.1 HX_q (by omega)
    replace HX_x:=bfr hfar.1 HX_x (by omega)
    replace HX_p:=Lh hxn
    have hsz_Ge:=hfar.2
    clear hxn hfar hbn
    go_wp2_with fail
    rw[←hGe]
    go_meet
    exact ⟨_,_,k9,x9,p9,HR9,HP9,HX_p,HX_a,HX_q,HX_x,HB,Lh (by omega)⟩
  case rest=>
   clear HB HX_p HX_a HX_q HX_x
   obtain ⟨ea,s5,k5,x5,p5,HRc,HPc,HX_p,HX_a,HX_q,HX_x,HB,HZ⟩:=hcut
   have hz:=HZ.out
   replace HRc:=Lh (show R=Sx.go s5 (fun l=>(Sx.opt last Sx.wMean (Sx.ratio last) ⟨0,1⟩ l).bind fun me l=>Sx.progR last nm no us ea me l) from HRc.out)
   go_upto_region 11 with fail
   have HI:=Lh (fun w' h=>pW T A c last ⟨#[109,101,97,110]⟩ s5 (k5) (x5) (p5) w' h HPc.out)
   rw[show (⟨#[109,101,97,110]⟩:ByteArray).data.toList=Sx.wMean from rfl] at HI
   unfold pv at HI
   rw[←Hn.out] at HI
   obtain ⟨c_p0,c_p1,c_p2,c_p3,c_p4,z_p⟩:=cells5 HX_p.out
   go_wp2_with fail
   refine (HI.out _ (HC.out.next HB.out)).mono ?_
   rintro e' v7 ⟨rfl,hb⟩
   clear HI
   clear c_p0 c_p1 c_p2 c_p3 c_p4 z_p
   have hgz:=hb.size
   replace HB:=bmb HB hb
   replace HX_p:=bmv HX_p hb
   replace HX_a:=bmv HX_a hb
   replace HX_q:=bmv HX_q hb
   replace HX_x:=bmv HX_x hb
   clear hb
   go_upto_if 47 with fail
   go_cut [] from 47 to 56 (fun wx=>∃ (me:Sx.Ratio) (s5:Sx.R Unit) (k5 x5 p5:Int),Hid (R=Sx.go s5 (Sx.progR last nm no us ea me))∧Hid (PAt T s5 k5 x5 p5)∧Hid (Blk wx w.heap.size 64 #[.slice A n c,.int .i64 k5,.int .i64 last,.int .i64 x5,.int .i64 p5])∧Hid (Blk wx (w.heap.size+1) 78 #[.string ⟨#[]⟩,.int .i64 0,.int .i64 0,.int .i64 0,.int .i64 0,.int .i64 0,.slice none 0 0])∧Hid (Blk wx (w.heap.size+1+1) 64 #[.slice none 0 0,.int .i64 0,.int .i64 0,.int .i64 0,.int .i64 0])∧Hid (Blk wx (w.heap.size+1+1+1) 78 #[.string (Lx.bs nm),.int .i64 no,.int .i64 us,.int .i64 ea,.int .i64 me.num,.int .i64 me.den,.slice none 0 0])∧Hid (Below w.heap.size w wx)∧Hid (w.heap.size+4≤wx.heap.size))
   case first=>
    cases hh:(s5).hits 1 Sx.wMean with
    | false=>
     have HRn:=Lh (HRc.out.trans (Sx.go_opt_bind_no _ hh))
     clear hh
     go_wp2_with fail
     go_meet
     exact ⟨⟨0,1⟩,_,_,_,_,HRn,HPc,HX_p,HX_a,HX_q,HX_x,HB,Lh (by omega)⟩
    | true=>
     replace HRc:=Lh (HRc.out.trans (Sx.go_opt_bind_yes _ hh))
     clear hh
     obtain ⟨c_p0,c_p1,c_p2,c_p3,c_p4,z_p⟩:=cells5 HX_p.out
     have HW:=Lh (fun w' h=>pWord T A c last ⟨#[109,101,97,110]⟩ s5 (k5) (x5) (p5) w' h HPc.out)
     rw[show Sx.need last 1 (⟨#[109,101,97,110]⟩:ByteArray).data.toList=Sx.word last Sx.wMean from rfl] at HW
     unfold PPost pv at HW
     rw[←Hn.out] at HW
     obtain ⟨s8,hs⟩:∃ s',s'=Sx.go s5 (Sx.word last Sx.wMean):=⟨_,rfl⟩
     rw[←hs] at HW
     have HR8:=Lh (HRc.out.trans ((Sx.go_unit _ _ _).trans (by rw [←hs])))
     clear hs HRc
     go_wp2_with fail
     refine (HW.out _ (HC.out.next HB.out)).mono ?_
     rintro e' v8 ⟨k8,x8,p8,rfl,ha,hb⟩
     have HP8:=Lh ha
     clear ha HW
     clear c_p0 c_p1 c_p2 c_p3 c_p4 z_p
     have hgz:=hb.size
     replace HB:=bmb HB hb
     replace HX_p:=bmv HX_p hb
     replace HX_a:=bmv HX_a hb
     replace HX_q:=bmv HX_q hb
     replace HX_x:=bmv HX_x hb
     clear hb
     have HW:=Lh (fun w' h=>pRatio T A c last s8 (k8) (x8) (p8) w' h HP8.out)
     unfold PRead pv at HW
     rw[←Hn.out] at HW
     obtain ⟨s9,hs⟩:∃ s',s'=(Sx.go s8 (Sx.ratio last)).void:=⟨_,rfl⟩
     go_wp2_with fail
     refine (HW.out _ (HC.out.next HB.out)).mono ?_
     rintro e' v9 ⟨me,vs,k9,x9,p9,rfl,hv,hvs,ha,hb⟩
     rw[←hs] at ha
     have HP9:=Lh ha
     have HR9:=Lh (HR8.out.trans ((Sx.R.Val.step hv _).trans (by rw [←hs])))
     unfold vRatB intV at hvs
     subst hvs
     simp only[List.cons_append,List.nil_append]
     clear hs ha hv HW HR8
     have hgz:=hb.size
     replace HB:=bmb HB hb
     replace HX_p:=bmv HX_p hb
     replace HX_a:=bmv HX_a hb
     replace HX_q:=bmv HX_q hb
     replace HX_x:=bmv HX_x hb
     clear hb
     obtain ⟨c_p0,c_p1,c_p2,c_p3,c_p4,z_p⟩:=cells5 HX_p.out
     obtain ⟨f_p0,f_p1,f_p2,f_p3,f_p4⟩:=frees5 HX_p.out
     obtain ⟨c_x0,c_x1,c_x2,c_x3,c_x4,c_x5,c_x6,z_x⟩:=cells7 HX_x.out
     obtain ⟨f_x0,f_x1,f_x2,f_x3,f_x4,f_x5,f_x6⟩:=frees7 HX_x.out
     obtain ⟨Em0,hEm0⟩:∃ V,V=v9.setCell ⟨(w.heap.size+1+1+1),4,none⟩ (.int .i64 me.num):=⟨_,rfl⟩
     have hsz_Em0:=bss hEm0
     replace HB:=bsb hEm0 HB (by omega)
     replace HX_p:=bst hEm0 HX_p (by omega)
     replace HX_a:=bst hEm0 HX_a (by omega)
     replace HX_q:=bst hEm0 HX_q (by omega)
     replace HX_x:=bsc hEm0 HX_x (cs':=#[.string (Lx.bs nm),.int .i64 no,.int .i64 us,.int .i64 ea,.int .i64 me.num,.int .i64 1,.slice none 0 0]) (by simp)
     obtain ⟨Em1,hEm1⟩:∃ V,V=Em0.setCell ⟨(w.heap.size+1+1+1),5,none⟩ (.int .i64 me.den):=⟨_,rfl⟩
     have hsz_Em1:=bss hEm1
     replace HB:=bsb hEm1 HB (by omega)
     replace HX_p:=bst hEm1 HX_p (by omega)
     replace HX_a:=bst hEm1 HX_a (by omega)
     replace HX_q:=bst hEm1 HX_q (by omega)
     replace HX_x:=bsc hEm1 HX_x (cs':=#[.string (Lx.bs nm),.int .i64 no,.int .i64 us,.int .i64 ea,.int .i64 me.num,.int .i64 me.den,.slice none 0 0]) (by simp)
     obtain ⟨Emp,hEmp,hxn,hfar,hbn⟩:=pstoreB HX_p.out (.slice A n c) (.int .i64 k9) (.int .i64 last) (.int .i64 x9) (.int .i64 p9)
     replace HB:=Lh (hbn w.heap.size w HB.out (by omega))
     replace HX_a:=bfr hfar.1 HX_a (by omega)
     replace HX_q:=bfr hfar.1 HX_q (by omega)
     replace HX_x:=bfr hfar.1 HX_x (by omega)
     replace HX_p:=Lh hxn
     have hsz_Emp:=hfar.2
     clear hxn hfar hbn
     rw[hEm0] at hEm1
     rw[hEm1] at hEmp
     go_upto_region 13 with fail
     rw[←hEmp]
     clear hEm0 hEm1 hEmp
     clear c_p0 c_p1 c_p2 c_p3 c_p4 z_p f_p0 f_p1 f_p2 f_p3 f_p4 c_x0 c_x1 c_x2 c_x3 c_x4 c_x5 c_x6 z_x f_x0 f_x1 f_x2 f_x3 f_x4 f_x5 f_x6
     obtain ⟨c_p0,c_p1,c_p2,c_p3,c_p4,z_p⟩:=cells5 HX_p.out
     have HW:=Lh (fun w' h=>pSg T A c last 59 s9 (k9) (x9) (p9) w' h HP9.out)
     unfold PPost pv at HW
     rw[←Hn.out] at HW
     obtain ⟨s10,hs⟩:∃ s',s'=Sx.go s9 (Sx.sign last 59):=⟨_,rfl⟩
     rw[←hs] at HW
     have HR10:=Lh (HR9.out.trans ((Sx.go_unit _ _ _).trans (by rw [←hs])))
     clear hs HR9
     go_wp2_with fail
     refine (HW.out _ (HC.out.next HB.out)).mono ?_
     rintro e' v10 ⟨k10,x10,p10,rfl,ha,hb⟩
     have HP10:=Lh ha
     clear ha HW
     clear c_p0 c_p1 c_p2 c_p3 c_p4 z_p
     have hgz:=hb.size
     replace HB:=bmb HB hb
     replace HX_p:=bmv HX_p hb
     replace HX_a:=bmv HX_a hb
     replace HX_q:=bmv HX_q hb
     replace HX_x:=bmv HX_x hb
     clear hb
     obtain ⟨c_p0,c_p1,c_p2,c_p3,c_p4,z_p⟩:=cells5 HX_p.out
     obtain ⟨f_p0,f_p1,f_p2,f_p3,f_p4⟩:=frees5 HX_p.out
     obtain ⟨Gm,hGm,hxn,hfar,hbn⟩:=pstoreB HX_p.out (.slice A n c) (.int .i64 k10) (.int .i64 last) (.int .i64 x10) (.int .i64 p10)
     replace HB:=Lh (hbn w.heap.size w HB.out (by omega))
     replace HX_a:=bfr hfar.1 HX_a (by omega)
     replace HX_q:=bfr hfar.1 HX_q (by omega)
     replace HX_x:=bfr hfar.1 HX_x (by omega)
     replace HX_p:=Lh hxn
     have hsz_Gm:=hfar.2
     clear hxn hfar hbn
     go_wp2_with fail
     rw[←hGm]
     go_meet
     exact ⟨_,_,k10,x10,p10,HR10,HP10,HX_p,HX_a,HX_q,HX_x,HB,Lh (by omega)⟩
   case rest=>
    clear HB HX_p HX_a HX_q HX_x
    obtain ⟨me,s5,k5,x5,p5,HRc,HPc,HX_p,HX_a,HX_q,HX_x,HB,HZ⟩:=hcut
    have hz:=HZ.out
    replace HRc:=Lh (show R=Sx.go s5 (Sx.progR last nm no us ea me) from HRc.out)
    obtain ⟨fu,hfu2⟩:∃ fu,fu=Sx.fuel s5:=⟨_,rfl⟩
    have HR3:Hid (R=Sx.go s5 fun l=>(Sx.takes last fu [] l).bind fun qs l=>Sx.progE last nm no us ea me qs l):=Lh (by rw [HRc.out,hfu2];cases s5 <;> rfl)
    have HS3:Hid (∀ l,s5 = .ok () l→l.length+1≤fu):=Lh (fun l hl=>by rw [hfu2,hl];exact Nat.le_refl _)
    clear hfu2
    go_wp2_with fail
    go_loopg [5,6] fu (fun gk v5 v6 wr=>∃ (qs:List Sx.Req) (css:List (List Value)) (rA:Option Addr) (rc i:Nat) (st:Sx.R Unit) (kx ex px:Int),i=qs.length∧i≤64∧Hid (R=Sx.go st fun l=>(Sx.takes last gk qs l).bind fun qs l=>Sx.progE last nm no us ea me qs l)∧Hid (PAt T st kx ex px)∧Hid (∀ l,st = .ok () l→l.length+1≤gk)∧Hid (GRow 0 (w.heap.size+4) 108 6 ReqAt qs css (.slice rA i rc) wr)∧Hid (Blk wr w.heap.size 64 #[.slice A n c,.int .i64 kx,.int .i64 last,.int .i64 ex,.int .i64 px])∧Hid (Blk wr (w.heap.size+1) 78 #[.string ⟨#[]⟩,.int .i64 0,.int .i64 0,.int .i64 0,.int .i64 0,.int .i64 0,.slice none 0 0])∧Hid (Blk wr (w.heap.size+1+1) 64 #[.slice none 0 0,.int .i64 0,.int .i64 0,.int .i64 0,.int .i64 0])∧Hid (Blk wr (w.heap.size+1+1+1) 78 #[.string (Lx.bs nm),.int .i64 no,.int .i64 us,.int .i64 ea,.int .i64 me.num,.int .i64 me.den,.slice rA i rc])∧Hid (Below w.heap.size w wr)∧Hid (w.heap.size+4≤wr.heap.size))
    case atStart=>exact ⟨[],[],none,0,0,s5,k5,x5,p5,rfl,by omega,HR3,HPc,HS3,Lh GRow.start,HX_p,HX_a,HX_q,HX_x,HB,HZ⟩
    case round=>
     clear HR3 HRc HPc HS3 HX_p HX_a HX_q HX_x HB HZ hz
     obtain ⟨qs,css,rA,rc,i,st,kx,ex,px,hi,hi64,HR,HP,HS,HG,HX_p,HX_a,HX_q,HX_x,HB,HZ⟩:=hrel
     have Hi:=Lh hi
     have hz:=HZ.out
     clear hi
     have HI:=Lh (fun w' h=>pW T A c last ⟨#[116,97,107,101]⟩ st kx ex px w' h HP.out)
     rw[show (⟨#[116,97,107,101]⟩:ByteArray).data.toList=Sx.wTake from rfl] at HI
     unfold pv at HI
     rw[←Hn.out] at HI
     cases hh:st.hits 1 Sx.wTake with
     | false=>
      rw[hh] at HI
      replace HR:=Lh (HR.out.trans (Sx.takes_end _ HS.out hh))
      replace HR:=Lh (show R=Sx.go st (fun l=>(Sx.sign last 125 l).bind fun _ l=>.ok ⟨nm,no,us,ea,me,qs⟩ l) from HR.out)
      clear hh
      obtain ⟨c_p0,c_p1,c_p2,c_p3,c_p4,z_p⟩:=cells5 HX_p.out
      go_wp2_with fail
      refine (HI.out _ (HC.out.next HB.out)).mono ?_
      rintro e' wz ⟨rfl,hb⟩
      clear HI
      have hGz:=HG.out.next keep_req hb
      clear HG
      have HG:=Lh hGz
      clear hGz
      clear c_p0 c_p1 c_p2 c_p3 c_p4 z_p
      have hgz:=hb.size
      replace HB:=bmb HB hb
      replace HX_p:=bmv HX_p hb
      replace HX_a:=bmv HX_a hb
      replace HX_q:=bmv HX_q hb
      replace HX_x:=bmv HX_x hb
      clear hb
      go_upto_region 20 with fail
      have HSg:=Lh (pSg T A c last 125 st (kx) (ex) (px) wz.drew ((HC.out.next HB.out).next (Below.refl _ _).drew) HP.out)
      unfold PPost pv at HSg
      rw[←Hn.out] at HSg
      have HE:Hid (R=Sx.go (Sx.go st (Sx.sign last 125)) fun l=>.ok ⟨nm,no,us,ea,me,qs⟩ l):=Lh (HR.out.trans (Sx.go_unit _ _ _))
      have HV:Hid (R.Val ⟨nm,no,us,ea,me,qs⟩):=Lh (by rw [HE.out];exact .done _ _)
      have HVd:Hid (R.void=Sx.go st (Sx.sign last 125)):=Lh (by rw [HE.out,Sx.void_done])
      rw[←HVd.out] at HSg
      clear HE HVd HR
      obtain ⟨c_p0,c_p1,c_p2,c_p3,c_p4,z_p⟩:=cells5 HX_p.out
      obtain ⟨c_x0,c_x1,c_x2,c_x3,c_x4,c_x5,c_x6,z_x⟩:=cells7 HX_x.out
      go_region_law (go_simp;go_at_call 96;refine HSg.out.mono ?_;rintro e w6 ⟨k6,x6,p6,rfl,ha,hb6⟩;have hb:Below wz.heap.size wz w6:=Below.trans (Below.refl _ _).drew hb6;have HA:=Lh ha;have HB6:=Lh hb;have HY_a:=bmv HX_a hb;have HY_q:=bmv HX_q hb;have HY_x:=bmv HX_x hb;obtain ⟨d_x0,d_x1,d_x2,d_x3,d_x4,d_x5,d_x6,d_z⟩:=cells7 HY_x.out;obtain ⟨y_a0,y_a1,y_a2,y_a3,y_a4,y_a5,y_a6,y_z⟩:=cells7 HY_a.out;obtain ⟨g_a0,g_a1,g_a2,g_a3,g_a4,g_a5,g_a6⟩:=frees7 HY_a.out;obtain ⟨y_q0,y_q1,y_q2,y_q3,y_q4,y_q⟩:=cells5 HY_q.out;obtain ⟨g_q0,g_q1,g_q2,g_q3,g_q4⟩:=frees5 HY_q.out;clear ha hb6 hb)
      all_goals (try go_wp2_with fail)
      all_goals (
       have hgz:=HB6.out.size
       obtain ⟨W8,hW8,hxn,hfar,hbn⟩:=pst7 HY_a.out (.string (Lx.bs nm)) (.int .i64 no) (.int .i64 us) (.int .i64 ea) (.int .i64 me.num) (.int .i64 me.den) (.slice rA i rc)
       have HX8:=bfr hfar.1 HY_q (by omega)
       obtain ⟨W9,hW9,hxn9,hfar9,hbn9⟩:=pstoreB HX8.out (.slice A n c) (.int .i64 k6) (.int .i64 last) (.int .i64 x6) (.int .i64 p6)
       have hxa9:=bfr hfar9.1 (Lh hxn) (by omega)
       have hbel:=hbn9 w.heap.size w (hbn w.heap.size w (HB.out.trans (HB6.out.mono HB.out.size)) (by omega)) (by omega)
       have HFar:Hid (∀ b,w.heap.size+1+1 < b→W9.heap[b]?=w6.heap[b]?):=Lh fun b hb=>(hfar9.1 b (by omega)).trans (hfar.1 b (by omega))
       have HSz:Hid (W9.heap.size=w6.heap.size):=Lh (hfar9.2.trans hfar.2)
       rw[hW8] at hW9
       rw[←hW9]
       clear hW9 hW8
       obtain ⟨t0,t1,t2,t3,t4,tz⟩:=cells5 hxn9
       obtain ⟨r0,r1,r2,r3,r4,r5,r6,rz⟩:=cells7 hxa9.out
       have hG9:=(HG.out.next keep_req HB6.out).keep (w':=W9) keep_req (Nat.le_of_eq HSz.out.symm) (fun b _ hb=>HFar.out b (by omega))
       obtain ⟨rB,rd,hvv,hrow⟩:=hG9.row keep_req (fun _ _ _ _ h=>by obtain ⟨_,_,_,_,e,_⟩:=h;rw[e];rfl) (by have:=Hi.out;omega)
       injection hvv with v1 v2 v3
       rw[←v1] at hrow
       have hSS:∀ b,((b < 0∨w.heap.size+4≤b)∧b < W9.heap.size)→(w.heap.size≤b∧b < W9.heap.size)∧∀ j,W9.cell? ⟨b,j,none⟩=W9.cell? ⟨b,j,none⟩:=fun b hb=>⟨⟨by have:=hb.1;omega,hb.2⟩,fun _=>rfl⟩
       clear v1 v2 v3
       exact bodyPost_ret (v:=.tuple #[.agg #[.string (Lx.bs nm),.int .i64 no,.int .i64 us,.int .i64 ea,.int .i64 me.num,.int .i64 me.den,.slice rA i rc],pv A n c k6 last x6 p6]) (by simp [results,Tryz.results34,go_sem,pv,t0,t1,t2,t3,t4,r0,r1,r2,r3,r4,r5,r6]) rfl ⟨_,[.agg #[.string (Lx.bs nm),.int .i64 no,.int .i64 us,.int .i64 ea,.int .i64 me.num,.int .i64 me.den,.slice rA i rc]],_,_,_,rfl,HV.out,⟨_,rfl,rA,rc,by rw [Hi.out];rfl,HL.out,hrow.keep hSS fun _ _ _ h=>ReqAt.keep hSS h⟩,HA.out,hbel⟩)
     | true=>
      rw[hh] at HI
      have Hh:=Lh hh
      clear hh
      obtain ⟨c_p0,c_p1,c_p2,c_p3,c_p4,z_p⟩:=cells5 HX_p.out
      go_wp2_with fail
      refine (HI.out _ (HC.out.next HB.out)).mono ?_
      rintro e' wz ⟨rfl,hb⟩
      clear HI
      have hGz:=HG.out.next keep_req hb
      clear HG
      have HG:=Lh hGz
      clear hGz
      clear c_p0 c_p1 c_p2 c_p3 c_p4 z_p
      have hgz:=hb.size
      replace HB:=bmb HB hb
      replace HX_p:=bmv HX_p hb
      replace HX_a:=bmv HX_a hb
      replace HX_q:=bmv HX_q hb
      replace HX_x:=bmv HX_x hb
      clear hb
      have hst0:∃ l,st = .ok () l:=by obtain ⟨l,e,_⟩:=Sx.hits_need (last:=last) _ Hh.out;exact ⟨l,e⟩
      obtain ⟨g',hg'⟩:∃ g',gk=g'+1:=by obtain ⟨l,e⟩:=hst0;have:=HS.out l e;exact ⟨gk - 1,by omega⟩
      by_cases hi6:i=64
      ·obtain rfl:=hi6
       have hHR:=HR.out
       rw[hg',Sx.takes_full _ Hh.out Hi.out.symm] at hHR
       have hHRv:R.Val ⟨nm,no,us,ea,me,qs⟩:=by rw [hHR];intro x l h;cases st <;> cases h
       have hHRw:R.void=Sx.go st fun l=>Sx.fail last l 2:=by rw [hHR];cases st <;> rfl
       have HV:=Lh hHRv;have HVd:=Lh hHRw
       clear hHR hHRv hHRw hst0
       obtain ⟨c_x0,c_x1,c_x2,c_x3,c_x4,c_x5,c_x6,z_x⟩:=cells7 HX_x.out
       go_upto_region 16 with fail
       clear c_x0 c_x1 c_x2 c_x3 c_x4 c_x5 c_x6 z_x
       have HSg:=Lh (pFail T A c last 2 (by omega) st kx ex px wz.drew ((HC.out.next HB.out).next (Below.refl _ _).drew) HP.out)
       unfold PPost pv at HSg
       rw[←Hn.out,←HVd.out] at HSg
       clear HVd HR
       obtain ⟨c_p0,c_p1,c_p2,c_p3,c_p4,z_p⟩:=cells5 HX_p.out
       obtain ⟨c_x0,c_x1,c_x2,c_x3,c_x4,c_x5,c_x6,z_x⟩:=cells7 HX_x.out
       go_region_law (go_simp;go_at_call 38;refine HSg.out.mono ?_;rintro e w6 ⟨k6,x6,p6,rfl,ha,hb6⟩;have hb:Below wz.heap.size wz w6:=Below.trans (Below.refl _ _).drew hb6;have HA:=Lh ha;have HB6:=Lh hb;have HY_a:=bmv HX_a hb;have HY_q:=bmv HX_q hb;have HY_x:=bmv HX_x hb;obtain ⟨d_x0,d_x1,d_x2,d_x3,d_x4,d_x5,d_x6,d_z⟩:=cells7 HY_x.out;obtain ⟨y_a0,y_a1,y_a2,y_a3,y_a4,y_a5,y_a6,y_z⟩:=cells7 HY_a.out;obtain ⟨g_a0,g_a1,g_a2,g_a3,g_a4,g_a5,g_a6⟩:=frees7 HY_a.out;obtain ⟨y_q0,y_q1,y_q2,y_q3,y_q4,y_q⟩:=cells5 HY_q.out;obtain ⟨g_q0,g_q1,g_q2,g_q3,g_q4⟩:=frees5 HY_q.out;clear ha hb6 hb)
       all_goals (try go_wp2_with fail)
       all_goals (
        have hgz:=HB6.out.size
        obtain ⟨W8,hW8,hxn,hfar,hbn⟩:=pst7 HY_a.out (.string (Lx.bs nm)) (.int .i64 no) (.int .i64 us) (.int .i64 ea) (.int .i64 me.num) (.int .i64 me.den) (.slice rA 64 rc)
        have HX8:=bfr hfar.1 HY_q (by omega)
        obtain ⟨W9,hW9,hxn9,hfar9,hbn9⟩:=pstoreB HX8.out (.slice A n c) (.int .i64 k6) (.int .i64 last) (.int .i64 x6) (.int .i64 p6)
        have hxa9:=bfr hfar9.1 (Lh hxn) (by omega)
        have hbel:=hbn9 w.heap.size w (hbn w.heap.size w (HB.out.trans (HB6.out.mono HB.out.size)) (by omega)) (by omega)
        have HFar:Hid (∀ b,w.heap.size+1+1 < b→W9.heap[b]?=w6.heap[b]?):=Lh fun b hb=>(hfar9.1 b (by omega)).trans (hfar.1 b (by omega))
        have HSz:Hid (W9.heap.size=w6.heap.size):=Lh (hfar9.2.trans hfar.2)
        rw[hW8] at hW9
        rw[←hW9]
        clear hW9 hW8
        obtain ⟨t0,t1,t2,t3,t4,tz⟩:=cells5 hxn9
        obtain ⟨r0,r1,r2,r3,r4,r5,r6,rz⟩:=cells7 hxa9.out
        have hG9:=(HG.out.next keep_req HB6.out).keep (w':=W9) keep_req (Nat.le_of_eq HSz.out.symm) (fun b _ hb=>HFar.out b (by omega))
        obtain ⟨rB,rd,hvv,hrow⟩:=hG9.row keep_req (fun _ _ _ _ h=>by obtain ⟨_,_,_,_,e,_⟩:=h;rw[e];rfl) (by have:=Hi.out;omega)
        injection hvv with v1 v2 v3
        rw[←v1] at hrow
        have hSS:∀ b,((b < 0∨w.heap.size+4≤b)∧b < W9.heap.size)→(w.heap.size≤b∧b < W9.heap.size)∧∀ j,W9.cell? ⟨b,j,none⟩=W9.cell? ⟨b,j,none⟩:=fun b hb=>⟨⟨by have:=hb.1;omega,hb.2⟩,fun _=>rfl⟩
        clear v1 v2 v3
        exact bodyPost_ret (v:=.tuple #[.agg #[.string (Lx.bs nm),.int .i64 no,.int .i64 us,.int .i64 ea,.int .i64 me.num,.int .i64 me.den,.slice rA 64 rc],pv A n c k6 last x6 p6]) (by simp [results,Tryz.results34,go_sem,pv,t0,t1,t2,t3,t4,r0,r1,r2,r3,r4,r5,r6]) rfl ⟨_,[.agg #[.string (Lx.bs nm),.int .i64 no,.int .i64 us,.int .i64 ea,.int .i64 me.num,.int .i64 me.den,.slice rA 64 rc]],_,_,_,rfl,HV.out,⟨_,rfl,rA,rc,by rw [Hi.out];rfl,HL.out,hrow.keep hSS fun _ _ _ h=>ReqAt.keep hSS h⟩,HA.out,hbel⟩)
      ·have hi5:i < 64:=by omega
       have hHR:=HR.out
       rw[hg',Sx.takes_go _ Hh.out (by have:=Hi.out;omega)] at hHR
       have HRt:=Lh hHR
       have HLf:Hid (∀ l,(Sx.go st fun l=>(Sx.word last Sx.wTake l).bind fun _ l=>Sx.take last l).void = .ok () l→l.length+1≤g'):=Lh (fun l h=>Sx.takes_left (by rw [←hg'];exact HS.out) h)
       have HT:=Lh (fun w' h=>pTake T A c last st kx ex px w' h HP.out)
       unfold PRead pv at HT
       rw[←Hn.out] at HT
       clear hHR hst0 HS HR
       obtain ⟨c_p0,c_p1,c_p2,c_p3,c_p4,z_p⟩:=cells5 HX_p.out
       obtain ⟨c_x0,c_x1,c_x2,c_x3,c_x4,c_x5,c_x6,z_x⟩:=cells7 HX_x.out
       go_wp2_with fail
       refine (HT.out _ (HC.out.next HB.out)).mono ?_
       rintro e' w4 ⟨q,vs,k4,x4,p4,rfl,hv,⟨cq,hvs,hq⟩,ha,hb⟩
       have HRq:=Lh hq
       obtain ⟨s0,i1,i2,b3,A4,n4,c4,A5,n5,c5,rfl⟩:=form_req hq
       subst hvs
       simp only[List.cons_append,List.nil_append]
       obtain ⟨s4,hs4⟩:∃ s4,s4=(Sx.go st (fun l=>(Sx.word last Sx.wTake l).bind fun _ l=>Sx.take last l)).void:=⟨_,rfl⟩
       rw[←hs4] at ha HLf
       have HP4:=Lh ha
       have HR5:Hid (R=Sx.go s4 fun l=>(Sx.takes last g' (qs++[q]) l).bind fun qs l=>Sx.progE last nm no us ea me qs l):=Lh (HRt.out.trans (by rw [hv.step,←hs4]))
       have hGz:=HG.out.next keep_req hb
       have hown0:=fun z hz=>own_lt (b:=z) HG.out.own hz
       have hown1:=fun z hz=>own_ge (b:=z) HG.out.own hz
       have HO0:=Lh hown0;have HO1:=Lh hown1
       clear HG
       have HG:=Lh hGz
       have hgw:=hb.size
       clear hv ha HT hq hs4 HRt hGz hown0 hown1
       clear c_p0 c_p1 c_p2 c_p3 c_p4 z_p c_x0 c_x1 c_x2 c_x3 c_x4 c_x5 c_x6 z_x
       have hgz:=hb.size
       replace HB:=bmb HB hb
       replace HX_p:=bmv HX_p hb
       replace HX_a:=bmv HX_a hb
       replace HX_q:=bmv HX_q hb
       replace HX_x:=bmv HX_x hb
       clear hb
       obtain ⟨V3,hV3⟩:∃ V,V=w4.alloc (.cells #[.string s0,.int .i64 i1,.int .i64 i2,.bool b3,.slice A4 n4 c4,.slice A5 n5 c5] 108):=⟨_,rfl⟩
       obtain ⟨HX_t,hb⟩:=bnw hV3
       have hgz:=hb.size
       replace HB:=bmb HB hb
       replace HX_p:=bmv HX_p hb
       replace HX_a:=bmv HX_a hb
       replace HX_q:=bmv HX_q hb
       replace HX_x:=bmv HX_x hb
       clear hb
       obtain ⟨V4,hV4⟩:∃ V,V=V3.alloc (.cells #[.slice A n c,.int .i64 k4,.int .i64 last,.int .i64 x4,.int .i64 p4] 64):=⟨_,rfl⟩
       obtain ⟨HX_u,hb⟩:=bnw hV4
       have hgz:=hb.size
       replace HB:=bmb HB hb
       replace HX_p:=bmv HX_p hb
       replace HX_a:=bmv HX_a hb
       replace HX_q:=bmv HX_q hb
       replace HX_x:=bmv HX_x hb
       replace HX_t:=bmv HX_t hb
       clear hb
       rw[hV3] at hV4
       have hsz3:V3.heap.size=w4.heap.size+1:=by rw [hV3];simp
       have hsz4:V4.heap.size=w4.heap.size+2:=by rw [hV4];simp
       replace HX_u:=bat (b:=w4.heap.size+1) HX_u hsz3
       have hb4:Below w4.heap.size w4 V4:=by rw [hV4];exact ((Below.refl _ _).alloc (Nat.le_refl _) _).alloc (by simp) _
       have hGz:=HG.out.next keep_req hb4
       clear HG
       have HG:=Lh hGz
       clear hGz
       go_upto_region 18 with fail
       rw[←hV4]
       clear hV3 hV4
       obtain ⟨c_t0,c_t1,c_t2,c_t3,c_t4,c_t5,z_t⟩:=cells6 HX_t.out
       obtain ⟨c_x0,c_x1,c_x2,c_x3,c_x4,c_x5,c_x6,z_x⟩:=cells7 HX_x.out
       obtain ⟨f_x0,f_x1,f_x2,f_x3,f_x4,f_x5,f_x6⟩:=frees7 HX_x.out
       obtain ⟨V6,hV6⟩:∃ V,V=V4.alloc (.cells #[.string s0,.int .i64 i1,.int .i64 i2,.bool b3,.slice A4 n4 c4,.slice A5 n5 c5] 108):=⟨_,rfl⟩
       obtain ⟨HX_kb,hb⟩:=bnw hV6
       have hgz:=hb.size
       replace HB:=bmb HB hb
       replace HX_p:=bmv HX_p hb
       replace HX_a:=bmv HX_a hb
       replace HX_q:=bmv HX_q hb
       replace HX_x:=bmv HX_x hb
       replace HX_t:=bmv HX_t hb
       replace HX_u:=bmv HX_u hb
       clear hb
       replace HX_kb:=bat (b:=w4.heap.size+2) HX_kb hsz4
       have hsz6:V6.heap.size=w4.heap.size+3:=by rw [hV6];simp[hsz4]
       have hb46:Below V4.heap.size V4 V6:=by rw [hV6];exact (Below.refl _ _).alloc (Nat.le_refl _) _
       have hGz:=HG.out.next keep_req hb46
       clear HG
       have HG:=Lh hGz
       have hRq6:ReqAt V6 (GS 0 (w.heap.size+4) (.slice rA i rc) V6) q [.string s0,.int .i64 i1,.int .i64 i2,.bool b3,.slice A4 n4 c4,.slice A5 n5 c5]:=ReqAt.keep (fun b hb=>⟨⟨.inr (by have:=hb.1;omega),by have:=hb.2;omega,fun e=>by have:=HO0.out b e;have:=hb.1;omega⟩,fun j=>(hb46.cell (p:=⟨b,j,none⟩) (show b < V4.heap.size by have:=hb.2;omega)).trans (hb4.cell (p:=⟨b,j,none⟩) hb.2)⟩) HRq.out
       have HRq6:=Lh hRq6
       obtain ⟨ir,hir,rz0,rz1,rz2⟩:=info_parts Tryz.infoReqD
       have hlV:=HX_u.out.lt
       clear hGz hRq6 hb4 hb46 HRq
       go_upto_region 19 with (at_builtin;rw[←hV6];refine wpList_append_own_at _ rfl (.tmp 72) (.tmp 74) 76 rfl (w.heap.size+4) 108 ir _ 6 88 Tryz.underlying76 hir rz0 rz1 rz2 rfl (by decide) (.slice rA i rc) i css.flatten rfl (by have:=HG.out.own;rwa [←Hi.out] at this) ⟨w4.heap.size+2,0,none⟩ 1 1 [.string s0,.int .i64 i1,.int .i64 i2,.bool b3,.slice A4 n4 c4,.slice A5 n5 c5] rfl rfl (World.news_of_block (cs:=#[.string s0,.int .i64 i1,.int .i64 i2,.bool b3,.slice A4 n4 c4,.slice A5 n5 c5]) (t:=108) (fr:=(0,0)) HX_kb.out) (by simp [Value.oneCell']) (by unfold maxLen;omega) (by omega) (by omega) ?_;intro v' w10 hown hgrow _ hat;obtain ⟨rB,rd,rfl,-⟩:=own_slice hown;have HG10:=Lh (HG.out.grow keep_req HRq6.out (by rw [←Hi.out];exact hown) hgrow hat);have HBn:=Lh (Below.grown HB.out hgrow (by omega) (fun z hz=>by have:=HO1.out z hz;omega));have HXn_p:=Lh (HX_p.out.grown hgrow (fun e=>by have h1:=HO0.out _ e;have h2:=HO1.out _ e;omega));have HXn_a:=Lh (HX_a.out.grown hgrow (fun e=>by have h1:=HO0.out _ e;have h2:=HO1.out _ e;omega));have HXn_q:=Lh (HX_q.out.grown hgrow (fun e=>by have h1:=HO0.out _ e;have h2:=HO1.out _ e;omega));have HXn_x:=Lh (HX_x.out.grown hgrow (fun e=>by have h1:=HO0.out _ e;have h2:=HO1.out _ e;omega));have HXn_u:=Lh (HX_u.out.grown hgrow (fun e=>by have h1:=HO0.out _ e;have h2:=HO1.out _ e;omega));have hg10:=hgrow.size;obtain ⟨e_x0,e_x1,e_x2,e_x3,e_x4,e_x5,e_x6,e_zx⟩:=cells7 HXn_x.out;obtain ⟨h_x0,h_x1,h_x2,h_x3,h_x4,h_x5,h_x6⟩:=frees7 HXn_x.out;clear hown hgrow hat)
       clear HB HG HX_p HX_a HX_q HX_x HX_t HX_u HX_kb
       have HB:=HBn
       have HX_p:=HXn_p
       have HX_a:=HXn_a
       have HX_q:=HXn_q
       have HX_x:=HXn_x
       have HX_u:=HXn_u
       clear HBn HXn_p HXn_a HXn_q HXn_x HXn_u
       clear c_t0 c_t1 c_t2 c_t3 c_t4 c_t5 z_t c_x0 c_x1 c_x2 c_x3 c_x4 c_x5 c_x6 z_x f_x0 f_x1 f_x2 f_x3 f_x4 f_x5 f_x6 e_x0 h_x0 e_x1 h_x1 e_x2 h_x2 e_x3 h_x3 e_x4 h_x4 e_x5 h_x5 e_x6 h_x6 e_zx
       obtain ⟨V11,hV11⟩:∃ V,V=w10.setCell ⟨(w.heap.size+1+1+1),6,none⟩ (.slice rB (i+1) rd):=⟨_,rfl⟩
       have hsz_V11:=bss hV11
       replace HB:=bsb hV11 HB (by omega)
       replace HX_p:=bst hV11 HX_p (by omega)
       replace HX_a:=bst hV11 HX_a (by omega)
       replace HX_q:=bst hV11 HX_q (by omega)
       replace HX_u:=bst hV11 HX_u (by omega)
       replace HX_x:=bsc hV11 HX_x (cs':=#[.string (Lx.bs nm),.int .i64 no,.int .i64 us,.int .i64 ea,.int .i64 me.num,.int .i64 me.den,.slice rB (i+1) rd]) (by simp)
       have hG11:=HG10.out.keep (w':=V11) keep_req (by omega) (fun b _ hb=>by rw [hV11];exact Below.heap_setCell w10 ⟨w.heap.size+1+1+1,6,none⟩ _ b (show b≠w.heap.size+1+1+1 by omega))
       have HG11:=Lh hG11
       clear hG11 HG10
       rw[←hV11]
       clear hV11
       obtain ⟨c_u0,c_u1,c_u2,c_u3,c_u4,z_u⟩:=cells5 HX_u.out
       obtain ⟨c_p0,c_p1,c_p2,c_p3,c_p4,z_p⟩:=cells5 HX_p.out
       obtain ⟨f_p0,f_p1,f_p2,f_p3,f_p4⟩:=frees5 HX_p.out
       obtain ⟨VV,hVV,hvb,hvfar,hvbn⟩:=pstoreB HX_p.out (.slice A n c) (.int .i64 k4) (.int .i64 last) (.int .i64 x4) (.int .i64 p4)
       have hG13:=HG11.out.keep (w':=VV) keep_req (Nat.le_of_eq hvfar.2.symm) (fun b _ hb=>hvfar.1 b (by omega))
       have HG13:=Lh hG13
       clear hG13
       have HXn_a:=bfr hvfar.1 HX_a (by omega)
       have HXn_q:=bfr hvfar.1 HX_q (by omega)
       have HXn_x:=bfr hvfar.1 HX_x (by omega)
       have HXn_u:=bfr hvfar.1 HX_u (by omega)
       have HXn_p:=Lh hvb
       have HBn:=Lh (hvbn w.heap.size w HB.out (Nat.le_refl _))
       have hvs:=hvfar.2
       have hv13:w.heap.size+4≤VV.heap.size:=by omega
       clear hvfar hvbn hvb
       go_wp2_with fail
       rw[←hVV]
       clear hVV
       go_roundg g'
       all_goals first
        | omega
        | exact ⟨qs++[q],_,rB,rd,i+1,s4,k4,x4,p4,by rw [Hi.out];simp,by omega,HR5,HP4,HLf,by rw [Hi.out] at HG13 ⊢;exact HG13,HXn_p,HXn_a,HXn_q,HXn_x,HBn,Lh hv13⟩
end Go.Proofs.YtjonaidancomgaaGreatDoor
