/- Parts of the proof, joined into one text: RpCourse. -/
import Derived.Test.YtjonaidancomgaaGreatDoorPRpDefA
import Derived.Test.YtjonaidancomgaaGreatDoorPRpRulD
import Derived.Deep.CutRange
import Derived.Deep.CutBlock

namespace Go.Proofs.YtjonaidancomgaaGreatDoor
open Go.RowKit

namespace Sx
open Lx (Tok)
def courseE (last:Int) (nm:List UInt8) (no cr rp:Int) (nd br:Rule) (l:List Tok):R Course:=(sign last 125 l).bind fun _ l=>.ok ⟨nm,no,cr,rp,nd,br⟩ l
def courseB (last:Int) (nm:List UInt8) (no cr rp:Int) (nd:Rule) (l:List Tok):R Course:=(opt last wBar (rule last 16 0) (.mk 2 0 [] 0 0 []) l).bind fun br l=>courseE last nm no cr rp nd br l
def courseN (last:Int) (nm:List UInt8) (no cr rp:Int) (l:List Tok):R Course:=(opt last wNeed (rule last 16 0) (.mk 1 0 [] 0 0 []) l).bind fun nd l=>courseB last nm no cr rp nd l
def courseK (last:Int) (nm:List UInt8) (no cr rp:Int) (l:List Tok):R Course:=(sign last 123 l).bind fun _ l=>courseN last nm no cr rp l
def courseF (last:Int) (nm:List UInt8) (no cr:Int) (l:List Tok):R Course:=match find repeatWords l with | some i=>courseK last nm no cr i l.tail | none=>courseK last nm no cr 0 l
theorem course_steps (last:Int) (l:List Tok):course last l=(number last 0 4095 l).bind fun no l=>(name last l).bind fun nm l=>(number last 1 60 l).bind fun cr l=>courseF last nm no cr l:=by
 unfold course courseF courseK courseN courseB courseE
 congr 1;funext no l;congr 1;funext nm l;congr 1;funext cr l
 cases find repeatWords l <;> rfl
theorem courseF_at {s:R Unit} {last no cr:Int} {nm x:List UInt8} {i:Nat} (hx:repeatWords[i]?=some x) (hn:NoneBefore s repeatWords i) (h:s.hits 1 x=true):go s (courseF last nm no cr)=go (go s (word last x)) (courseK last nm no cr i):=by
 obtain ⟨l,rfl,hf⟩:=find_at hx hn h
 obtain ⟨l',e,h1,h2⟩:=hits_need (last:=last) _ h
 injection e with _ e
 subst e
 have h3:go (.ok () l) (word last x) = .ok () l.tail:=h2
 rw[h3,goOk,goOk]
 unfold courseF
 rw[hf]
theorem courseF_none {s:R Unit} {last no cr:Int} {nm:List UInt8} (hn:NoneBefore s repeatWords 3):go s (courseF last nm no cr)=go s (courseK last nm no cr 0):=by
 cases s with
 | bad p e=>rfl
 | ok u l=>
  have:=findNone (ws:=repeatWords) hn
  rw[goOk,goOk]
  unfold courseF
  rw[this]
end Sx
theorem cells3of16 {w:World} {b:Nat} {t:TypeId} {a0 a1 a2 a3 a4 a5 a6 a7 a8 a9 a10 a11 a12 a13 a14 a15:Value} (h:Blk w b t #[a0,a1,a2,a3,a4,a5,a6,a7,a8,a9,a10,a11,a12,a13,a14,a15]):w.cell? ⟨b,0,none⟩=some a0∧w.cell? ⟨b,1,none⟩=some a1∧w.cell? ⟨b,2,none⟩=some a2∧w.cell? ⟨b,3,none⟩=some a3∧b < w.heap.size:=⟨(h.cell 0).trans rfl,(h.cell 1).trans rfl,(h.cell 2).trans rfl,(h.cell 3).trans rfl,h.lt⟩
theorem free3of16 {w:World} {b:Nat} {t:TypeId} {cs:Array Value} (h:Blk w b t cs):w.frozen? ⟨b,3,none⟩=false∧w.frozen? ⟨b,4,none⟩=false:=⟨h.free 3,h.free 4⟩
theorem wbs {w V:World} {b i a o:Nat} {u:Value} {ws:List (List UInt8)} (e:V=w.setCell ⟨b,i,none⟩ u) (h:Hid (WordsB w a o ws)) (hn:a≠b):Hid (WordsB V a o ws):=Lh ⟨by rw [bss e];exact h.out.1,fun j x hx=>by rw [e];exact (World.cell?_of_block (a:=⟨a,o+j,none⟩) (Below.heap_setCell _ ⟨b,i,none⟩ _ a hn)).trans (h.out.2 j x hx)⟩
theorem pRuleTop (T:List Lx.Tok) (A:Option Addr) (c:Nat) (last:Int) (s:Sx.R Unit) (k e p:Int) (w:World) (hc:PCtx T A w) (hp:PAt T s k e p) :
  Calls Tryz.prog 46 #[pv A T.length c k last e p,.int .i64 1,.bool false] w (PRead T A c last (vRuleB w.heap.size) (Sx.go s (Sx.rule last 16 0)) w):=by
 have:=pRule T A c last 16 (Nat.le_refl _) false s k e p w hc hp
 rwa [show (17:Int) - ((16:Nat):Int)=1 from rfl,if_neg (by simp)] at this
def vCourseB (lo:Nat) (w:World) (a:Sx.Course) (vs:List Value):Prop:=∃ cs,vs = [.agg cs.toArray]∧CourseAt w (fun b=>lo≤b∧b < w.heap.size) a cs
theorem frees16 {w:World} {b:Nat} {t:TypeId} {cs:Array Value} (h:Blk w b t cs):w.frozen? ⟨b,0,none⟩=false∧w.frozen? ⟨b,1,none⟩=false∧w.frozen? ⟨b,2,none⟩=false∧w.frozen? ⟨b,3,none⟩=false∧w.frozen? ⟨b,4,none⟩=false∧w.frozen? ⟨b,5,none⟩=false∧w.frozen? ⟨b,6,none⟩=false∧w.frozen? ⟨b,7,none⟩=false∧w.frozen? ⟨b,8,none⟩=false∧w.frozen? ⟨b,9,none⟩=false∧w.frozen? ⟨b,10,none⟩=false∧w.frozen? ⟨b,11,none⟩=false∧w.frozen? ⟨b,12,none⟩=false∧w.frozen? ⟨b,13,none⟩=false∧w.frozen? ⟨b,14,none⟩=false∧w.frozen? ⟨b,15,none⟩=false:=⟨h.free 0,h.free 1,h.free 2,h.free 3,h.free 4,h.free 5,h.free 6,h.free 7,h.free 8,h.free 9,h.free 10,h.free 11,h.free 12,h.free 13,h.free 14,h.free 15⟩
set_option maxRecDepth 20000 in
set_option maxHeartbeats 8000000 in
theorem pCourse (T:List Lx.Tok) (A:Option Addr) (c:Nat) (last:Int) (s:Sx.R Unit) (k e p:Int) (w:World) (hc:PCtx T A w) (hp:PAt T s k e p) :
  Calls Tryz.prog 32 #[pv A T.length c k last e p] w (PRead T A c last (vCourseB w.heap.size) (Sx.go s (fun l=>(Sx.word last Sx.wCourse l).bind fun _ l=>Sx.course last l)) w):=by
 have HC:=Lh hc;have HP0:=Lh hp
 have hlen:=hc.toks.len
 obtain ⟨R,hR⟩:∃ R,R=Sx.go s (fun l=>(Sx.word last Sx.wCourse l).bind fun _ l=>Sx.course last l):=⟨_,rfl⟩
 obtain ⟨n,hn⟩:∃ n,n=T.length:=⟨_,rfl⟩
 rw[←hR]
 unfold PRead
 have Hn:=Lh hn;have HR0:=Lh hR
 unfold pv
 rw[←hn] at hlen ⊢
 obtain ⟨W1,W2,W3,hW1,hW2,hW3,p1,p2,p3,hb,hsz⟩:=pbox6 w 58 #[.string ⟨#[]⟩,.int .i64 0,.int .i64 0,.int .i64 0,.int .i64 0,.int .i64 0,.string ⟨#[]⟩,.int .i64 0,.int .i64 0,.slice none 0 0,.int .i64 0,.int .i64 0,.string ⟨#[]⟩,.int .i64 0,.int .i64 0,.slice none 0 0] (.slice A n c) (.int .i64 k) (.int .i64 last) (.int .i64 e) (.int .i64 p)
 have HB:=Lh hb;have HX_p:=Lh p1;have HX_a:=Lh p2;have HX_q:=Lh p3
 clear hc hp hn hb p1 p2 p3 hR
 go_enter Tryz.func32,Tryz.ntmps32
 go_upto_region 1 with fail
 rw[←hW1,←hW2,←hW3]
 clear hW1 hW2 hW3
 obtain ⟨X1,hX1⟩:∃ V,V=W3.alloc (.cells #[.string ⟨#[]⟩,.int .i64 0,.int .i64 0,.int .i64 0,.int .i64 1,.int .i64 0,.string ⟨#[]⟩,.int .i64 0,.int .i64 0,.slice none 0 0,.int .i64 2,.int .i64 0,.string ⟨#[]⟩,.int .i64 0,.int .i64 0,.slice none 0 0] 58):=⟨_,rfl⟩
 obtain ⟨HX_x,hb⟩:=bnw hX1
 have hgz:=hb.size
 replace HB:=bmb HB hb
 replace HX_p:=bmv HX_p hb
 replace HX_a:=bmv HX_a hb
 replace HX_q:=bmv HX_q hb
 clear hb
 have hx1:X1.heap.size=w.heap.size+4:=by rw [hX1];simp[hsz]
 replace HX_x:=bat (b:=w.heap.size+1+1+1) HX_x (by omega)
 go_upto_region 2 with fail
 rw[←hX1]
 clear hX1
 obtain ⟨c_p0,c_p1,c_p2,c_p3,c_p4,z_p⟩:=cells5 HX_p.out
 have HW:=Lh (fun w' h=>pWord T A c last ⟨#[99,111,117,114,115,101]⟩ s (k) (e) (p) w' h HP0.out)
 rw[show Sx.need last 1 (⟨#[99,111,117,114,115,101]⟩:ByteArray).data.toList=Sx.word last Sx.wCourse from rfl] at HW
 unfold PPost pv at HW
 rw[←Hn.out] at HW
 obtain ⟨s1,hs⟩:∃ s',s'=Sx.go s (Sx.word last Sx.wCourse):=⟨_,rfl⟩
 rw[←hs] at HW
 have HR1:=Lh (HR0.out.trans ((Sx.go_unit _ _ _).trans (by rw [←hs])))
 clear hs HR0
 go_wp2_with fail
 refine (HW.out _ (HC.out.next HB.out)).mono ?_
 rintro e' v1 ⟨k1,x1,p1,rfl,ha,hb⟩
 have HP1:=Lh ha
 clear ha HW
 clear c_p0 c_p1 c_p2 c_p3 c_p4 z_p
 have hgz:=hb.size
 replace HB:=bmb HB hb
 replace HX_p:=bmv HX_p hb
 replace HX_a:=bmv HX_a hb
 replace HX_q:=bmv HX_q hb
 replace HX_x:=bmv HX_x hb
 clear hb
 replace HR1:=Lh (HR1.out.trans (by rw [funext (Sx.course_steps last)]))
 have HW:=Lh (fun w' h=>pNumber T A c last 0 4095 s1 (k1) (x1) (p1) w' h HP1.out)
 unfold PRead pv at HW
 rw[←Hn.out] at HW
 obtain ⟨s2,hs⟩:∃ s',s'=(Sx.go s1 (Sx.number last 0 4095)).void:=⟨_,rfl⟩
 go_wp2_with fail
 refine (HW.out _ (HC.out.next HB.out)).mono ?_
 rintro e' v2 ⟨no,vs,k2,x2,p2,rfl,hv,hvs,ha,hb⟩
 rw[←hs] at ha
 have HP2:=Lh ha
 have HR2:=Lh (HR1.out.trans ((Sx.R.Val.step hv _).trans (by rw [←hs])))
 unfold vInts intV at hvs
 subst hvs
 simp only[List.cons_append,List.nil_append]
 clear hs ha hv HW HR1
 have hgz:=hb.size
 replace HB:=bmb HB hb
 replace HX_p:=bmv HX_p hb
 replace HX_a:=bmv HX_a hb
 replace HX_q:=bmv HX_q hb
 replace HX_x:=bmv HX_x hb
 clear hb
 obtain ⟨c_p0,c_p1,c_p2,c_p3,c_p4,z_p⟩:=cells5 HX_p.out
 obtain ⟨f_p0,f_p1,f_p2,f_p3,f_p4⟩:=frees5 HX_p.out
 obtain ⟨c_x0,c_x1,c_x2,c_x3,c_x4,c_x5,c_x6,c_x7,c_x8,c_x9,c_x10,c_x11,c_x12,c_x13,c_x14,c_x15,z_x⟩:=cells16 HX_x.out
 obtain ⟨f_x0,f_x1,f_x2,f_x3,f_x4,f_x5,f_x6,f_x7,f_x8,f_x9,f_x10,f_x11,f_x12,f_x13,f_x14,f_x15⟩:=frees16 HX_x.out
 obtain ⟨A0,hA0⟩:∃ V,V=v2.setCell ⟨(w.heap.size+1+1+1),1,none⟩ (.int .i64 no):=⟨_,rfl⟩
 have hsz_A0:=bss hA0
 replace HB:=bsb hA0 HB (by omega)
 replace HX_p:=bst hA0 HX_p (by omega)
 replace HX_a:=bst hA0 HX_a (by omega)
 replace HX_q:=bst hA0 HX_q (by omega)
 replace HX_x:=bsc hA0 HX_x (cs':=#[.string ⟨#[]⟩,.int .i64 no,.int .i64 0,.int .i64 0,.int .i64 1,.int .i64 0,.string ⟨#[]⟩,.int .i64 0,.int .i64 0,.slice none 0 0,.int .i64 2,.int .i64 0,.string ⟨#[]⟩,.int .i64 0,.int .i64 0,.slice none 0 0]) (by simp)
 obtain ⟨Ap,hAp,hxn,hfar,hbn⟩:=pstoreB HX_p.out (.slice A n c) (.int .i64 k2) (.int .i64 last) (.int .i64 x2) (.int .i64 p2)
 replace HB:=Lh (hbn w.heap.size w HB.out (by omega))
 replace HX_a:=bfr hfar.1 HX_a (by omega)
 replace HX_q:=bfr hfar.1 HX_q (by omega)
 replace HX_x:=bfr hfar.1 HX_x (by omega)
 replace HX_p:=Lh hxn
 have hsz_Ap:=hfar.2
 clear hxn hfar hbn
 rw[hA0] at hAp
 go_upto_region 3 with fail
 rw[←hAp]
 clear hA0 hAp
 clear c_p0 c_p1 c_p2 c_p3 c_p4 z_p f_p0 f_p1 f_p2 f_p3 f_p4 c_x0 c_x1 c_x2 c_x3 c_x4 c_x5 c_x6 c_x7 c_x8 c_x9 c_x10 c_x11 c_x12 c_x13 c_x14 c_x15 z_x f_x0 f_x1 f_x2 f_x3 f_x4 f_x5 f_x6 f_x7 f_x8 f_x9 f_x10 f_x11 f_x12 f_x13 f_x14 f_x15
 obtain ⟨c_p0,c_p1,c_p2,c_p3,c_p4,z_p⟩:=cells5 HX_p.out
 have HW:=Lh (fun w' h=>pName T A c last s2 (k2) (x2) (p2) w' h HP2.out)
 unfold PRead pv at HW
 rw[←Hn.out] at HW
 obtain ⟨s3,hs⟩:∃ s',s'=(Sx.go s2 (Sx.name last)).void:=⟨_,rfl⟩
 go_wp2_with fail
 refine (HW.out _ (HC.out.next HB.out)).mono ?_
 rintro e' v3 ⟨nm,vs,k3,x3,p3,rfl,hv,hvs,ha,hb⟩
 rw[←hs] at ha
 have HP3:=Lh ha
 have HR3:=Lh (HR2.out.trans ((Sx.R.Val.step hv _).trans (by rw [←hs])))
 obtain ⟨hvs,hl⟩:=hvs
 unfold strV at hvs
 subst hvs
 have HL:=Lh hl
 clear hl
 simp only[List.cons_append,List.nil_append]
 clear hs ha hv HW HR2
 clear c_p0 c_p1 c_p2 c_p3 c_p4 z_p
 have hgz:=hb.size
 replace HB:=bmb HB hb
 replace HX_p:=bmv HX_p hb
 replace HX_a:=bmv HX_a hb
 replace HX_q:=bmv HX_q hb
 replace HX_x:=bmv HX_x hb
 clear hb
 obtain ⟨c_p0,c_p1,c_p2,c_p3,c_p4,z_p⟩:=cells5 HX_p.out
 obtain ⟨f_p0,f_p1,f_p2,f_p3,f_p4⟩:=frees5 HX_p.out
 obtain ⟨c_x0,c_x1,c_x2,c_x3,c_x4,c_x5,c_x6,c_x7,c_x8,c_x9,c_x10,c_x11,c_x12,c_x13,c_x14,c_x15,z_x⟩:=cells16 HX_x.out
 obtain ⟨f_x0,f_x1,f_x2,f_x3,f_x4,f_x5,f_x6,f_x7,f_x8,f_x9,f_x10,f_x11,f_x12,f_x13,f_x14,f_x15⟩:=frees16 HX_x.out
 obtain ⟨B0,hB0⟩:∃ V,V=v3.setCell ⟨(w.heap.size+1+1+1),0,none⟩ (.string (Lx.bs nm)):=⟨_,rfl⟩
 have hsz_B0:=bss hB0
 replace HB:=bsb hB0 HB (by omega)
 replace HX_p:=bst hB0 HX_p (by omega)
 replace HX_a:=bst hB0 HX_a (by omega)
 replace HX_q:=bst hB0 HX_q (by omega)
 replace HX_x:=bsc hB0 HX_x (cs':=#[.string (Lx.bs nm),.int .i64 no,.int .i64 0,.int .i64 0,.int .i64 1,.int .i64 0,.string ⟨#[]⟩,.int .i64 0,.int .i64 0,.slice none 0 0,.int .i64 2,.int .i64 0,.string ⟨#[]⟩,.int .i64 0,.int .i64 0,.slice none 0 0]) (by simp)
 obtain ⟨Bp,hBp,hxn,hfar,hbn⟩:=pstoreB HX_p.out (.slice A n c) (.int .i64 k3) (.int .i64 last) (.int .i64 x3) (.int .i64 p3)
 replace HB:=Lh (hbn w.heap.size w HB.out (by omega))
 replace HX_a:=bfr hfar.1 HX_a (by omega)
 replace HX_q:=bfr hfar.1 HX_q (by omega)
 replace HX_x:=bfr hfar.1 HX_x (by omega)
 replace HX_p:=Lh hxn
 have hsz_Bp:=hfar.2
 clear hxn hfar hbn
 rw[hB0] at hBp
 go_upto_region 4 with fail
 rw[←hBp]
 clear hB0 hBp
 clear c_p0 c_p1 c_p2 c_p3 c_p4 z_p f_p0 f_p1 f_p2 f_p3 f_p4 c_x0 c_x1 c_x2 c_x3 c_x4 c_x5 c_x6 c_x7 c_x8 c_x9 c_x10 c_x11 c_x12 c_x13 c_x14 c_x15 z_x f_x0 f_x1 f_x2 f_x3 f_x4 f_x5 f_x6 f_x7 f_x8 f_x9 f_x10 f_x11 f_x12 f_x13 f_x14 f_x15
 obtain ⟨c_p0,c_p1,c_p2,c_p3,c_p4,z_p⟩:=cells5 HX_p.out
 have HW:=Lh (fun w' h=>pNumber T A c last 1 60 s3 (k3) (x3) (p3) w' h HP3.out)
 unfold PRead pv at HW
 rw[←Hn.out] at HW
 obtain ⟨s4,hs⟩:∃ s',s'=(Sx.go s3 (Sx.number last 1 60)).void:=⟨_,rfl⟩
 go_wp2_with fail
 refine (HW.out _ (HC.out.next HB.out)).mono ?_
 rintro e' v4 ⟨cr,vs,k4,x4,p4,rfl,hv,hvs,ha,hb⟩
 rw[←hs] at ha
 have HP4:=Lh ha
 have HR4:=Lh (HR3.out.trans ((Sx.R.Val.step hv _).trans (by rw [←hs])))
 unfold vInts intV at hvs
 subst hvs
 simp only[List.cons_append,List.nil_append]
 clear hs ha hv HW HR3
 clear c_p0 c_p1 c_p2 c_p3 c_p4 z_p
 have hgz:=hb.size
 replace HB:=bmb HB hb
 replace HX_p:=bmv HX_p hb
 replace HX_a:=bmv HX_a hb
 replace HX_q:=bmv HX_q hb
 replace HX_x:=bmv HX_x hb
 clear hb
 obtain ⟨c_p0,c_p1,c_p2,c_p3,c_p4,z_p⟩:=cells5 HX_p.out
 obtain ⟨f_p0,f_p1,f_p2,f_p3,f_p4⟩:=frees5 HX_p.out
 obtain ⟨c_x0,c_x1,c_x2,c_x3,c_x4,c_x5,c_x6,c_x7,c_x8,c_x9,c_x10,c_x11,c_x12,c_x13,c_x14,c_x15,z_x⟩:=cells16 HX_x.out
 obtain ⟨f_x0,f_x1,f_x2,f_x3,f_x4,f_x5,f_x6,f_x7,f_x8,f_x9,f_x10,f_x11,f_x12,f_x13,f_x14,f_x15⟩:=frees16 HX_x.out
 obtain ⟨C0,hC0⟩:∃ V,V=v4.setCell ⟨(w.heap.size+1+1+1),2,none⟩ (.int .i64 cr):=⟨_,rfl⟩
 have hsz_C0:=bss hC0
 replace HB:=bsb hC0 HB (by omega)
 replace HX_p:=bst hC0 HX_p (by omega)
 replace HX_a:=bst hC0 HX_a (by omega)
 replace HX_q:=bst hC0 HX_q (by omega)
 replace HX_x:=bsc hC0 HX_x (cs':=#[.string (Lx.bs nm),.int .i64 no,.int .i64 cr,.int .i64 0,.int .i64 1,.int .i64 0,.string ⟨#[]⟩,.int .i64 0,.int .i64 0,.slice none 0 0,.int .i64 2,.int .i64 0,.string ⟨#[]⟩,.int .i64 0,.int .i64 0,.slice none 0 0]) (by simp)
 obtain ⟨Cp,hCp,hxn,hfar,hbn⟩:=pstoreB HX_p.out (.slice A n c) (.int .i64 k4) (.int .i64 last) (.int .i64 x4) (.int .i64 p4)
 replace HB:=Lh (hbn w.heap.size w HB.out (by omega))
 replace HX_a:=bfr hfar.1 HX_a (by omega)
 replace HX_q:=bfr hfar.1 HX_q (by omega)
 replace HX_x:=bfr hfar.1 HX_x (by omega)
 replace HX_p:=Lh hxn
 have hsz_Cp:=hfar.2
 clear hxn hfar hbn
 rw[hC0] at hCp
 go_upto_region 5 with fail
 rw[←hCp]
 clear hC0 hCp
 clear c_p0 c_p1 c_p2 c_p3 c_p4 z_p f_p0 f_p1 f_p2 f_p3 f_p4 c_x0 c_x1 c_x2 c_x3 c_x4 c_x5 c_x6 c_x7 c_x8 c_x9 c_x10 c_x11 c_x12 c_x13 c_x14 c_x15 z_x f_x0 f_x1 f_x2 f_x3 f_x4 f_x5 f_x6 f_x7 f_x8 f_x9 f_x10 f_x11 f_x12 f_x13 f_x14 f_x15
 obtain ⟨Y1,hY1⟩:∃ V,V=Cp.alloc (.cells #[.string ⟨#[98,101,115,116]⟩,.string ⟨#[108,97,115,116]⟩,.string ⟨#[101,97,99,104]⟩] 9):=⟨_,rfl⟩
 obtain ⟨HX_ws,hb⟩:=bnw hY1
 have hgz:=hb.size
 replace HB:=bmb HB hb
 replace HX_p:=bmv HX_p hb
 replace HX_a:=bmv HX_a hb
 replace HX_q:=bmv HX_q hb
 replace HX_x:=bmv HX_x hb
 clear hb
 go_upto_block 0 with fail
 rw[←hY1]
 clear hY1
 have hz4:w.heap.size+4≤Y1.heap.size:=by omega
 go_cut [] from 30 to 50 (fun wx=>∃ (rp:Int) (s5:Sx.R Unit) (k5 x5 p5:Int),Hid (R=Sx.go s5 (Sx.courseK last nm no cr rp))∧Hid (PAt T s5 k5 x5 p5)∧Hid (Blk wx w.heap.size 64 #[.slice A n c,.int .i64 k5,.int .i64 last,.int .i64 x5,.int .i64 p5])∧Hid (Blk wx (w.heap.size+1) 58 #[.string ⟨#[]⟩,.int .i64 0,.int .i64 0,.int .i64 0,.int .i64 0,.int .i64 0,.string ⟨#[]⟩,.int .i64 0,.int .i64 0,.slice none 0 0,.int .i64 0,.int .i64 0,.string ⟨#[]⟩,.int .i64 0,.int .i64 0,.slice none 0 0])∧Hid (Blk wx (w.heap.size+1+1) 64 #[.slice none 0 0,.int .i64 0,.int .i64 0,.int .i64 0,.int .i64 0])∧Hid (Blk wx (w.heap.size+1+1+1) 58 #[.string (Lx.bs nm),.int .i64 no,.int .i64 cr,.int .i64 rp,.int .i64 1,.int .i64 0,.string ⟨#[]⟩,.int .i64 0,.int .i64 0,.slice none 0 0,.int .i64 2,.int .i64 0,.string ⟨#[]⟩,.int .i64 0,.int .i64 0,.slice none 0 0])∧Hid (Below w.heap.size w wx)∧Hid (w.heap.size+4≤wx.heap.size))
 case first=>
  have hwz:=HX_ws.out.lt
  have hwa:WordsB Y1 v4.heap.size 0 Sx.repeatWords:=⟨by omega,fun i x hx=>by
   have hws:=bat (b:=v4.heap.size) HX_ws (by omega)
   rw[Nat.zero_add,hws.out.cell]
   match i,hx with
   | 0,hx=>exact congrArg some (congrArg Value.string (congrArg Lx.bs (Option.some.inj hx)))
   | 1,hx=>exact congrArg some (congrArg Value.string (congrArg Lx.bs (Option.some.inj hx)))
   | 2,hx=>exact congrArg some (congrArg Value.string (congrArg Lx.bs (Option.some.inj hx)))
   | i+3,hx=>simp [Sx.repeatWords] at hx⟩
  have HWa:=Lh hwa
  have H1:=Lh (fun (x:ByteArray) w' h=>pW T A c last x s4 k4 x4 p4 w' h HP4.out)
  have H2:=Lh (fun (x:ByteArray) w' h=>pWord T A c last x s4 k4 x4 p4 w' h HP4.out)
  unfold PPost at H2
  unfold pv at H1 H2
  rw[←Hn.out] at H1 H2
  clear hwa
  go_wp2_with fail
  go_loopg [6] 3 (fun gk v6 wr=>∃ i:Nat,v6 = .int .i64 i∧i+gk=3∧Hid (Sx.NoneBefore s4 Sx.repeatWords i)∧Hid (Below Y1.heap.size Y1 wr))
  case atStart=>exact ⟨0,rfl,rfl,Lh (fun j x hj=>absurd hj (by omega)),Lh (Below.refl _ _)⟩
  case round=>
   obtain ⟨i,rfl,hi,HN,HBr⟩:=hrel
   have hgr:=HBr.out.size
   replace HB:=bmb HB HBr.out
   replace HX_p:=bmv HX_p HBr.out
   replace HX_a:=bmv HX_a HBr.out
   replace HX_q:=bmv HX_q HBr.out
   replace HX_x:=bmv HX_x HBr.out
   replace HX_ws:=bmv HX_ws HBr.out
   replace HWa:=Lh (HWa.out.next HBr.out)
   obtain ⟨c_p0,c_p1,c_p2,c_p3,c_p4,z_p⟩:=cells5 HX_p.out
   by_cases hlt:i < 3
   ·obtain ⟨x,hx⟩:∃ x,Sx.repeatWords[i]?=some x:=⟨_,List.getElem?_eq_getElem (show i < Sx.repeatWords.length from hlt)⟩
    have cw:=HWa.out.2 i x hx
    have cwz:=HWa.out.1
    rw[Nat.zero_add] at cw
    have Hcall:=Lh (H1.out (Lx.bs x) wr.drew ((HC.out.next HB.out).next (Below.refl _ _).drew))
    rw[Lx.bs_list] at Hcall
    cases hh:(s4).hits 1 x with
    | true=>
     rw[hh] at Hcall
     have HRw:=Lh (HR4.out.trans (Sx.courseF_at hx HN.out hh))
     have Hx:=Lh hx
     clear hx hh
     go_wp2_with fail
     go_region_law (go_simp;go_at_call 31;refine Hcall.out.mono ?_;rintro e w5 ⟨rfl,hb5⟩;have hb:Below wr.heap.size wr w5:=Below.trans (Below.refl _ _).drew hb5;have Hb5:=Lh hb;obtain ⟨d0,d1,d2,d3,d_z⟩:=cells3of16 (bmv HX_x hb).out;obtain ⟨g3,g4⟩:=free3of16 (bmv HX_x hb).out;clear hb5 hb)
     all_goals (
      clear c_p0 c_p1 c_p2 c_p3 c_p4 z_p cw cwz
      go_upto_region 11 with fail
      have hb:=Hb5.out
      replace HWa:=Lh (HWa.out.next hb)
      clear d0 d1 d2 d3 d_z g3 g4
      have hgz:=hb.size
      replace HB:=bmb HB hb
      replace HX_p:=bmv HX_p hb
      replace HX_a:=bmv HX_a hb
      replace HX_q:=bmv HX_q hb
      replace HX_x:=bmv HX_x hb
      replace HX_ws:=bmv HX_ws hb
      clear hb
      obtain ⟨V1,hV1⟩:∃ V,V=w5.setCell ⟨(w.heap.size+1+1+1),3,none⟩ (.int .i64 i):=⟨_,rfl⟩
      have hsz_V1:=bss hV1
      replace HB:=bsb hV1 HB (by omega)
      replace HX_p:=bst hV1 HX_p (by omega)
      replace HX_a:=bst hV1 HX_a (by omega)
      replace HX_q:=bst hV1 HX_q (by omega)
      replace HX_ws:=bst hV1 HX_ws (by omega)
      replace HX_x:=bsc hV1 HX_x (cs':=#[.string (Lx.bs nm),.int .i64 no,.int .i64 cr,.int .i64 i,.int .i64 1,.int .i64 0,.string ⟨#[]⟩,.int .i64 0,.int .i64 0,.slice none 0 0,.int .i64 2,.int .i64 0,.string ⟨#[]⟩,.int .i64 0,.int .i64 0,.slice none 0 0]) (by simp)
      replace HWa:=wbs hV1 HWa (by omega)
      rw[←hV1]
      clear hV1
      have Hwd:=Lh (H2.out (Lx.bs x) V1.drew ((HC.out.next HB.out).next (Below.refl _ _).drew))
      rw[Lx.bs_list,show Sx.need last 1 x=Sx.word last x from rfl] at Hwd
      have cw:=HWa.out.2 i x Hx.out
      have cwz:=HWa.out.1
      rw[Nat.zero_add] at cw
      obtain ⟨c_p0,c_p1,c_p2,c_p3,c_p4,z_p⟩:=cells5 HX_p.out
      go_region_law (go_simp;go_at_call 94;refine Hwd.out.mono ?_;rintro e w6 ⟨k6,x6,p6,rfl,ha,hb6⟩;have hb:Below V1.heap.size V1 w6:=Below.trans (Below.refl _ _).drew hb6;have HA:=Lh ha;have HB6:=Lh hb;have HY_p:=bmv HX_p hb;obtain ⟨y_0,y_1,y_2,y_3,y_4,y_z⟩:=cells5 HY_p.out;obtain ⟨h_0,h_1,h_2,h_3,h_4⟩:=frees5 HY_p.out;clear ha hb6 hb)
      all_goals (
       have hb:=HB6.out
       clear c_p0 c_p1 c_p2 c_p3 c_p4 z_p cw cwz y_0 y_1 y_2 y_3 y_4 y_z h_0 h_1 h_2 h_3 h_4
       have hgz:=hb.size
       replace HB:=bmb HB hb
       replace HX_p:=bmv HX_p hb
       replace HX_a:=bmv HX_a hb
       replace HX_q:=bmv HX_q hb
       replace HX_x:=bmv HX_x hb
       replace HX_ws:=bmv HX_ws hb
       clear hb
       go_wp2_with fail
       obtain ⟨V9,hV9,hxn,hfar,hbn⟩:=pstoreB HX_p.out (.slice A n c) (.int .i64 k6) (.int .i64 last) (.int .i64 x6) (.int .i64 p6)
       replace HB:=Lh (hbn w.heap.size w HB.out (by omega))
       replace HX_a:=bfr hfar.1 HX_a (by omega)
       replace HX_q:=bfr hfar.1 HX_q (by omega)
       replace HX_x:=bfr hfar.1 HX_x (by omega)
       replace HX_ws:=bfr hfar.1 HX_ws (by omega)
       replace HX_p:=Lh hxn
       have hsz_V9:=hfar.2
       clear hxn hfar hbn
       rw[←hV9]
       clear hV9
       go_wp2_with fail
       go_meet
       exact ⟨i,_,k6,x6,p6,HRw,HA,HX_p,HX_a,HX_q,HX_x,HB,Lh (by omega)⟩))
    | false=>
      rw[hh] at Hcall
      have HN2:Hid (Sx.NoneBefore s4 Sx.repeatWords (i+1)):=Lh (fun j y hj hy=>by
       rcases Nat.lt_or_ge j i with h | h
       ·exact HN.out j y h hy
       ·obtain rfl:j=i:=by omega
        rw[hx] at hy;injection hy with hy;rw[←hy];exact hh)
      clear hx hh
      go_wp2_with fail
      go_region_law (go_simp;go_at_call 31;refine Hcall.out.mono ?_;rintro e w5 ⟨rfl,hb5⟩;have Hb5:=Lh hb5;clear hb5)
      all_goals (try go_wp2_with fail)
      all_goals go_roundg (gk - 1)
      all_goals first
       | omega
       | exact ⟨i+1,by go_num,by omega,HN2,Lh (HBr.out.trans ((Below.trans (Below.refl _ _).drew Hb5.out).mono (show Y1.heap.size≤wr.heap.size from HBr.out.size)))⟩
   ·obtain rfl:i=3:=by omega
    have HRn:=Lh (HR4.out.trans (Sx.courseF_none HN.out))
    go_wp2_with fail
    go_meet
    exact ⟨0,_,_,_,_,HRn,HP4,HX_p,HX_a,HX_q,HX_x,HB,Lh (by omega)⟩
 case rest=>
  clear HX_ws
  clear HB HX_p HX_a HX_q HX_x
  obtain ⟨rp,s5,k5,x5,p5,HRc,HPc,HX_p,HX_a,HX_q,HX_x,HB,HZ⟩:=hcut
  have hz:=HZ.out
  replace HRc:=Lh (show R=Sx.go s5 (fun l=>(Sx.sign last 123 l).bind fun _ l=>Sx.courseN last nm no cr rp l) from HRc.out)
  go_upto_region 12 with fail
  obtain ⟨c_p0,c_p1,c_p2,c_p3,c_p4,z_p⟩:=cells5 HX_p.out
  have HW:=Lh (fun w' h=>pSg T A c last 123 s5 (k5) (x5) (p5) w' h HPc.out)
  unfold PPost pv at HW
  rw[←Hn.out] at HW
  obtain ⟨s6,hs⟩:∃ s',s'=Sx.go s5 (Sx.sign last 123):=⟨_,rfl⟩
  rw[←hs] at HW
  have HR6:=Lh (HRc.out.trans ((Sx.go_unit _ _ _).trans (by rw [←hs])))
  clear hs HRc
  go_wp2_with fail
  refine (HW.out _ (HC.out.next HB.out)).mono ?_
  rintro e' v6 ⟨k6,x6,p6,rfl,ha,hb⟩
  have HP6:=Lh ha
  clear ha HW
  clear c_p0 c_p1 c_p2 c_p3 c_p4 z_p
  have hgz:=hb.size
  replace HB:=bmb HB hb
  replace HX_p:=bmv HX_p hb
  replace HX_a:=bmv HX_a hb
  replace HX_q:=bmv HX_q hb
  replace HX_x:=bmv HX_x hb
  clear hb
  obtain ⟨c_p0,c_p1,c_p2,c_p3,c_p4,z_p⟩:=cells5 HX_p.out
  obtain ⟨f_p0,f_p1,f_p2,f_p3,f_p4⟩:=frees5 HX_p.out
  obtain ⟨D1,hD1,hxn,hfar,hbn⟩:=pstoreB HX_p.out (.slice A n c) (.int .i64 k6) (.int .i64 last) (.int .i64 x6) (.int .i64 p6)
  replace HB:=Lh (hbn w.heap.size w HB.out (by omega))
  replace HX_a:=bfr hfar.1 HX_a (by omega)
  replace HX_q:=bfr hfar.1 HX_q (by omega)
  replace HX_x:=bfr hfar.1 HX_x (by omega)
  replace HX_p:=Lh hxn
  have hsz_D1:=hfar.2
  clear hxn hfar hbn
  go_upto_region 13 with fail
  rw[←hD1]
  clear hD1
  clear c_p0 c_p1 c_p2 c_p3 c_p4 z_p f_p0 f_p1 f_p2 f_p3 f_p4
  replace HR6:=Lh (show R=Sx.go s6 (fun l=>(Sx.opt last Sx.wNeed (Sx.rule last 16 0) (.mk 1 0 [] 0 0 []) l).bind fun nd l=>Sx.courseB last nm no cr rp nd l) from HR6.out)
  have HI:=Lh (fun w' h=>pW T A c last ⟨#[110,101,101,100]⟩ s6 (k6) (x6) (p6) w' h HP6.out)
  rw[show (⟨#[110,101,101,100]⟩:ByteArray).data.toList=Sx.wNeed from rfl] at HI
  unfold pv at HI
  rw[←Hn.out] at HI
  obtain ⟨c_p0,c_p1,c_p2,c_p3,c_p4,z_p⟩:=cells5 HX_p.out
  go_wp2_with fail
  refine (HI.out _ (HC.out.next HB.out)).mono ?_
  rintro e' v7 ⟨rfl,hb⟩
  clear HI
  clear c_p0 c_p1 c_p2 c_p3 c_p4 z_p
  have hgz:=hb.size
  replace HB:=bmb HB hb
  replace HX_p:=bmv HX_p hb
  replace HX_a:=bmv HX_a hb
  replace HX_q:=bmv HX_q hb
  replace HX_x:=bmv HX_x hb
  clear hb
  go_upto_if 54 with fail
  go_cut [] from 54 to 63 (fun wx=>∃ (nr:Sx.Rule) (s5:Sx.R Unit) (k5 x5 p5 n0 n1:Int) (n2:ByteArray) (n3 n4:Int) (nA:Option Addr) (nN nC:Nat),Hid (R=Sx.go s5 (Sx.courseB last nm no cr rp nr))∧Hid (PAt T s5 k5 x5 p5)∧Hid (Blk wx w.heap.size 64 #[.slice A n c,.int .i64 k5,.int .i64 last,.int .i64 x5,.int .i64 p5])∧Hid (Blk wx (w.heap.size+1) 58 #[.string ⟨#[]⟩,.int .i64 0,.int .i64 0,.int .i64 0,.int .i64 0,.int .i64 0,.string ⟨#[]⟩,.int .i64 0,.int .i64 0,.slice none 0 0,.int .i64 0,.int .i64 0,.string ⟨#[]⟩,.int .i64 0,.int .i64 0,.slice none 0 0])∧Hid (Blk wx (w.heap.size+1+1) 64 #[.slice none 0 0,.int .i64 0,.int .i64 0,.int .i64 0,.int .i64 0])∧Hid (Blk wx (w.heap.size+1+1+1) 58 #[.string (Lx.bs nm),.int .i64 no,.int .i64 cr,.int .i64 rp,.int .i64 n0,.int .i64 n1,.string n2,.int .i64 n3,.int .i64 n4,.slice nA nN nC,.int .i64 2,.int .i64 0,.string ⟨#[]⟩,.int .i64 0,.int .i64 0,.slice none 0 0])∧Hid (Below w.heap.size w wx)∧Hid (w.heap.size+4≤wx.heap.size)∧Hid (RuleAt wx (fun b=>w.heap.size+4≤b∧b < wx.heap.size) nr [.int .i64 n0,.int .i64 n1,.string n2,.int .i64 n3,.int .i64 n4,.slice nA nN nC]))
  case first=>
   cases hh:(s6).hits 1 Sx.wNeed with
   | false=>
    have HRn:=Lh (HR6.out.trans (Sx.go_opt_bind_no _ hh))
    clear hh
    go_wp2_with fail
    go_meet
    exact ⟨_,_,_,_,_,1,0,⟨#[]⟩,0,0,none,0,0,HRn,HP6,HX_p,HX_a,HX_q,HX_x,HB,Lh (by omega),Lh (rule_leaf _ _ 1 0 [] 0 0 (by simp))⟩
   | true=>
    replace HR6:=Lh (HR6.out.trans (Sx.go_opt_bind_yes _ hh))
    clear hh
    obtain ⟨c_p0,c_p1,c_p2,c_p3,c_p4,z_p⟩:=cells5 HX_p.out
    have HW:=Lh (fun w' h=>pWord T A c last ⟨#[110,101,101,100]⟩ s6 (k6) (x6) (p6) w' h HP6.out)
    rw[show Sx.need last 1 (⟨#[110,101,101,100]⟩:ByteArray).data.toList=Sx.word last Sx.wNeed from rfl] at HW
    unfold PPost pv at HW
    rw[←Hn.out] at HW
    obtain ⟨s8,hs⟩:∃ s',s'=Sx.go s6 (Sx.word last Sx.wNeed):=⟨_,rfl⟩
    rw[←hs] at HW
    have HR8:=Lh (HR6.out.trans ((Sx.go_unit _ _ _).trans (by rw [←hs])))
    clear hs HR6
    go_wp2_with fail
    refine (HW.out _ (HC.out.next HB.out)).mono ?_
    rintro e' v8 ⟨k8,x8,p8,rfl,ha,hb⟩
    have HP8:=Lh ha
    clear ha HW
    clear c_p0 c_p1 c_p2 c_p3 c_p4 z_p
    have hgz:=hb.size
    replace HB:=bmb HB hb
    replace HX_p:=bmv HX_p hb
    replace HX_a:=bmv HX_a hb
    replace HX_q:=bmv HX_q hb
    replace HX_x:=bmv HX_x hb
    clear hb
    have HW:=Lh (fun w' h=>pRuleTop T A c last s8 (k8) (x8) (p8) w' h HP8.out)
    unfold PRead pv at HW
    rw[←Hn.out] at HW
    obtain ⟨s9,hs⟩:∃ s',s'=(Sx.go s8 (Sx.rule last 16 0)).void:=⟨_,rfl⟩
    go_wp2_with fail
    refine (HW.out _ (HC.out.next HB.out)).mono ?_
    rintro e' v9 ⟨nr,vs,k9,x9,p9,rfl,hv,hvs,ha,hb⟩
    rw[←hs] at ha
    have HP9:=Lh ha
    have HR9:=Lh (HR8.out.trans ((Sx.R.Val.step hv _).trans (by rw [←hs])))
    obtain ⟨ck,hvs,hrk⟩:=hvs
    have HNew:=rke hrk (lo':=w.heap.size+4) (by omega)
    obtain ⟨n0,n1,n2,n3,n4,nA,nN,nC,rfl⟩:=form_ruleB hrk
    subst hvs
    clear hrk
    simp only[List.cons_append,List.nil_append]
    clear hs ha hv HW HR8
    have hgz:=hb.size
    replace HB:=bmb HB hb
    replace HX_p:=bmv HX_p hb
    replace HX_a:=bmv HX_a hb
    replace HX_q:=bmv HX_q hb
    replace HX_x:=bmv HX_x hb
    clear hb
    obtain ⟨c_p0,c_p1,c_p2,c_p3,c_p4,z_p⟩:=cells5 HX_p.out
    obtain ⟨f_p0,f_p1,f_p2,f_p3,f_p4⟩:=frees5 HX_p.out
    obtain ⟨c_x0,c_x1,c_x2,c_x3,c_x4,c_x5,c_x6,c_x7,c_x8,c_x9,c_x10,c_x11,c_x12,c_x13,c_x14,c_x15,z_x⟩:=cells16 HX_x.out
    obtain ⟨f_x0,f_x1,f_x2,f_x3,f_x4,f_x5,f_x6,f_x7,f_x8,f_x9,f_x10,f_x11,f_x12,f_x13,f_x14,f_x15⟩:=frees16 HX_x.out
    obtain ⟨En0,hEn0⟩:∃ V,V=v9.setCell ⟨(w.heap.size+1+1+1),4,none⟩ (.int .i64 n0):=⟨_,rfl⟩
    have hsz_En0:=bss hEn0
    replace HB:=bsb hEn0 HB (by omega)
    replace HX_p:=bst hEn0 HX_p (by omega)
    replace HX_a:=bst hEn0 HX_a (by omega)
    replace HX_q:=bst hEn0 HX_q (by omega)
    replace HNew:=rks hEn0 HNew (by omega)
    replace HX_x:=bsc hEn0 HX_x (cs':=#[.string (Lx.bs nm),.int .i64 no,.int .i64 cr,.int .i64 rp,.int .i64 n0,.int .i64 0,.string ⟨#[]⟩,.int .i64 0,.int .i64 0,.slice none 0 0,.int .i64 2,.int .i64 0,.string ⟨#[]⟩,.int .i64 0,.int .i64 0,.slice none 0 0]) (by simp)
    obtain ⟨En1,hEn1⟩:∃ V,V=En0.setCell ⟨(w.heap.size+1+1+1),5,none⟩ (.int .i64 n1):=⟨_,rfl⟩
    have hsz_En1:=bss hEn1
    replace HB:=bsb hEn1 HB (by omega)
    replace HX_p:=bst hEn1 HX_p (by omega)
    replace HX_a:=bst hEn1 HX_a (by omega)
    replace HX_q:=bst hEn1 HX_q (by omega)
    replace HNew:=rks hEn1 HNew (by omega)
    replace HX_x:=bsc hEn1 HX_x (cs':=#[.string (Lx.bs nm),.int .i64 no,.int .i64 cr,.int .i64 rp,.int .i64 n0,.int .i64 n1,.string ⟨#[]⟩,.int .i64 0,.int .i64 0,.slice none 0 0,.int .i64 2,.int .i64 0,.string ⟨#[]⟩,.int .i64 0,.int .i64 0,.slice none 0 0]) (by simp)
    obtain ⟨En2,hEn2⟩:∃ V,V=En1.setCell ⟨(w.heap.size+1+1+1),6,none⟩ (.string n2):=⟨_,rfl⟩
    have hsz_En2:=bss hEn2
    replace HB:=bsb hEn2 HB (by omega)
    replace HX_p:=bst hEn2 HX_p (by omega)
    replace HX_a:=bst hEn2 HX_a (by omega)
    replace HX_q:=bst hEn2 HX_q (by omega)
    replace HNew:=rks hEn2 HNew (by omega)
    replace HX_x:=bsc hEn2 HX_x (cs':=#[.string (Lx.bs nm),.int .i64 no,.int .i64 cr,.int .i64 rp,.int .i64 n0,.int .i64 n1,.string n2,.int .i64 0,.int .i64 0,.slice none 0 0,.int .i64 2,.int .i64 0,.string ⟨#[]⟩,.int .i64 0,.int .i64 0,.slice none 0 0]) (by simp)
    obtain ⟨En3,hEn3⟩:∃ V,V=En2.setCell ⟨(w.heap.size+1+1+1),7,none⟩ (.int .i64 n3):=⟨_,rfl⟩
    have hsz_En3:=bss hEn3
    replace HB:=bsb hEn3 HB (by omega)
    replace HX_p:=bst hEn3 HX_p (by omega)
    replace HX_a:=bst hEn3 HX_a (by omega)
    replace HX_q:=bst hEn3 HX_q (by omega)
    replace HNew:=rks hEn3 HNew (by omega)
    replace HX_x:=bsc hEn3 HX_x (cs':=#[.string (Lx.bs nm),.int .i64 no,.int .i64 cr,.int .i64 rp,.int .i64 n0,.int .i64 n1,.string n2,.int .i64 n3,.int .i64 0,.slice none 0 0,.int .i64 2,.int .i64 0,.string ⟨#[]⟩,.int .i64 0,.int .i64 0,.slice none 0 0]) (by simp)
    obtain ⟨En4,hEn4⟩:∃ V,V=En3.setCell ⟨(w.heap.size+1+1+1),8,none⟩ (.int .i64 n4):=⟨_,rfl⟩
    have hsz_En4:=bss hEn4
    replace HB:=bsb hEn4 HB (by omega)
    replace HX_p:=bst hEn4 HX_p (by omega)
    replace HX_a:=bst hEn4 HX_a (by omega)
    replace HX_q:=bst hEn4 HX_q (by omega)
    replace HNew:=rks hEn4 HNew (by omega)
    replace HX_x:=bsc hEn4 HX_x (cs':=#[.string (Lx.bs nm),.int .i64 no,.int .i64 cr,.int .i64 rp,.int .i64 n0,.int .i64 n1,.string n2,.int .i64 n3,.int .i64 n4,.slice none 0 0,.int .i64 2,.int .i64 0,.string ⟨#[]⟩,.int .i64 0,.int .i64 0,.slice none 0 0]) (by simp)
    obtain ⟨En5,hEn5⟩:∃ V,V=En4.setCell ⟨(w.heap.size+1+1+1),9,none⟩ (.slice nA nN nC):=⟨_,rfl⟩
    have hsz_En5:=bss hEn5
    replace HB:=bsb hEn5 HB (by omega)
    replace HX_p:=bst hEn5 HX_p (by omega)
    replace HX_a:=bst hEn5 HX_a (by omega)
    replace HX_q:=bst hEn5 HX_q (by omega)
    replace HNew:=rks hEn5 HNew (by omega)
    replace HX_x:=bsc hEn5 HX_x (cs':=#[.string (Lx.bs nm),.int .i64 no,.int .i64 cr,.int .i64 rp,.int .i64 n0,.int .i64 n1,.string n2,.int .i64 n3,.int .i64 n4,.slice nA nN nC,.int .i64 2,.int .i64 0,.string ⟨#[]⟩,.int .i64 0,.int .i64 0,.slice none 0 0]) (by simp)
    obtain ⟨Enp,hEnp,hxn,hfar,hbn⟩:=pstoreB HX_p.out (.slice A n c) (.int .i64 k9) (.int .i64 last) (.int .i64 x9) (.int .i64 p9)
    replace HB:=Lh (hbn w.heap.size w HB.out (by omega))
    replace HX_a:=bfr hfar.1 HX_a (by omega)
    replace HX_q:=bfr hfar.1 HX_q (by omega)
    replace HX_x:=bfr hfar.1 HX_x (by omega)
    replace HX_p:=Lh hxn
    replace HNew:=rkf hfar.1 hfar.2 HNew (by omega)
    have hsz_Enp:=hfar.2
    clear hxn hfar hbn
    rw[hEn0] at hEn1
    rw[hEn1] at hEn2
    rw[hEn2] at hEn3
    rw[hEn3] at hEn4
    rw[hEn4] at hEn5
    rw[hEn5] at hEnp
    go_upto_region 15 with fail
    rw[←hEnp]
    clear hEn0 hEn1 hEn2 hEn3 hEn4 hEn5 hEnp
    clear c_p0 c_p1 c_p2 c_p3 c_p4 z_p f_p0 f_p1 f_p2 f_p3 f_p4 c_x0 c_x1 c_x2 c_x3 c_x4 c_x5 c_x6 c_x7 c_x8 c_x9 c_x10 c_x11 c_x12 c_x13 c_x14 c_x15 z_x f_x0 f_x1 f_x2 f_x3 f_x4 f_x5 f_x6 f_x7 f_x8 f_x9 f_x10 f_x11 f_x12 f_x13 f_x14 f_x15
    obtain ⟨c_p0,c_p1,c_p2,c_p3,c_p4,z_p⟩:=cells5 HX_p.out
    have HW:=Lh (fun w' h=>pSg T A c last 59 s9 (k9) (x9) (p9) w' h HP9.out)
    unfold PPost pv at HW
    rw[←Hn.out] at HW
    obtain ⟨s10,hs⟩:∃ s',s'=Sx.go s9 (Sx.sign last 59):=⟨_,rfl⟩
    rw[←hs] at HW
    have HR10:=Lh (HR9.out.trans ((Sx.go_unit _ _ _).trans (by rw [←hs])))
    clear hs HR9
    go_wp2_with fail
    refine (HW.out _ (HC.out.next HB.out)).mono ?_
    rintro e' v10 ⟨k10,x10,p10,rfl,ha,hb⟩
    have HP10:=Lh ha
    clear ha HW
    clear c_p0 c_p1 c_p2 c_p3 c_p4 z_p
    have hgz:=hb.size
    replace HB:=bmb HB hb
    replace HX_p:=bmv HX_p hb
    replace HX_a:=bmv HX_a hb
    replace HX_q:=bmv HX_q hb
    replace HX_x:=bmv HX_x hb
    replace HNew:=rkm HNew hb
    clear hb
    obtain ⟨c_p0,c_p1,c_p2,c_p3,c_p4,z_p⟩:=cells5 HX_p.out
    obtain ⟨f_p0,f_p1,f_p2,f_p3,f_p4⟩:=frees5 HX_p.out
    obtain ⟨Gn,hGn,hxn,hfar,hbn⟩:=pstoreB HX_p.out (.slice A n c) (.int .i64 k10) (.int .i64 last) (.int .i64 x10) (.int .i64 p10)
    replace HB:=Lh (hbn w.heap.size w HB.out (by omega))
    replace HX_a:=bfr hfar.1 HX_a (by omega)
    replace HX_q:=bfr hfar.1 HX_q (by omega)
    replace HX_x:=bfr hfar.1 HX_x (by omega)
    replace HX_p:=Lh hxn
    replace HNew:=rkf hfar.1 hfar.2 HNew (by omega)
    have hsz_Gn:=hfar.2
    clear hxn hfar hbn
    go_wp2_with fail
    rw[←hGn]
    go_meet
    exact ⟨_,_,k10,x10,p10,n0,n1,n2,n3,n4,nA,nN,nC,HR10,HP10,HX_p,HX_a,HX_q,HX_x,HB,Lh (by omega),HNew⟩
  case rest=>
   clear HB HX_p HX_a HX_q HX_x
   obtain ⟨nr,s5,k5,x5,p5,n0,n1,n2,n3,n4,nA,nN,nC,HRc,HPc,HX_p,HX_a,HX_q,HX_x,HB,HZ,HNr⟩:=hcut
   have hz:=HZ.out
   replace HRc:=Lh (show R=Sx.go s5 (fun l=>(Sx.opt last Sx.wBar (Sx.rule last 16 0) (.mk 2 0 [] 0 0 []) l).bind fun br l=>Sx.courseE last nm no cr rp nr br l) from HRc.out)
   go_upto_region 16 with fail
   have HI:=Lh (fun w' h=>pW T A c last ⟨#[98,97,114]⟩ s5 (k5) (x5) (p5) w' h HPc.out)
   rw[show (⟨#[98,97,114]⟩:ByteArray).data.toList=Sx.wBar from rfl] at HI
   unfold pv at HI
   rw[←Hn.out] at HI
   obtain ⟨c_p0,c_p1,c_p2,c_p3,c_p4,z_p⟩:=cells5 HX_p.out
   go_wp2_with fail
   refine (HI.out _ (HC.out.next HB.out)).mono ?_
   rintro e' v8 ⟨rfl,hb⟩
   clear HI
   clear c_p0 c_p1 c_p2 c_p3 c_p4 z_p
   have hgz:=hb.size
   replace HB:=bmb HB hb
   replace HX_p:=bmv HX_p hb
   replace HX_a:=bmv HX_a hb
   replace HX_q:=bmv HX_q hb
   replace HX_x:=bmv HX_x hb
   replace HNr:=rkm HNr hb
   clear hb
   go_upto_if 65 with fail
   go_cut [] from 65 to 74 (fun wx=>∃ (br:Sx.Rule) (s5:Sx.R Unit) (k5 x5 p5 b0 b1:Int) (b2:ByteArray) (b3 b4:Int) (bA:Option Addr) (bN bC:Nat),Hid (R=Sx.go s5 (Sx.courseE last nm no cr rp nr br))∧Hid (PAt T s5 k5 x5 p5)∧Hid (Blk wx w.heap.size 64 #[.slice A n c,.int .i64 k5,.int .i64 last,.int .i64 x5,.int .i64 p5])∧Hid (Blk wx (w.heap.size+1) 58 #[.string ⟨#[]⟩,.int .i64 0,.int .i64 0,.int .i64 0,.int .i64 0,.int .i64 0,.string ⟨#[]⟩,.int .i64 0,.int .i64 0,.slice none 0 0,.int .i64 0,.int .i64 0,.string ⟨#[]⟩,.int .i64 0,.int .i64 0,.slice none 0 0])∧Hid (Blk wx (w.heap.size+1+1) 64 #[.slice none 0 0,.int .i64 0,.int .i64 0,.int .i64 0,.int .i64 0])∧Hid (Blk wx (w.heap.size+1+1+1) 58 #[.string (Lx.bs nm),.int .i64 no,.int .i64 cr,.int .i64 rp,.int .i64 n0,.int .i64 n1,.string n2,.int .i64 n3,.int .i64 n4,.slice nA nN nC,.int .i64 b0,.int .i64 b1,.string b2,.int .i64 b3,.int .i64 b4,.slice bA bN bC])∧Hid (Below w.heap.size w wx)∧Hid (w.heap.size+4≤wx.heap.size)∧Hid (RuleAt wx (fun b=>w.heap.size+4≤b∧b < wx.heap.size) nr [.int .i64 n0,.int .i64 n1,.string n2,.int .i64 n3,.int .i64 n4,.slice nA nN nC])∧Hid (RuleAt wx (fun b=>w.heap.size+4≤b∧b < wx.heap.size) br [.int .i64 b0,.int .i64 b1,.string b2,.int .i64 b3,.int .i64 b4,.slice bA bN bC]))
   case first=>
    cases hh:(s5).hits 1 Sx.wBar with
    | false=>
     have HRn:=Lh (HRc.out.trans (Sx.go_opt_bind_no _ hh))
     clear hh
     go_wp2_with fail
     go_meet
     exact ⟨_,_,_,_,_,2,0,⟨#[]⟩,0,0,none,0,0,HRn,HPc,HX_p,HX_a,HX_q,HX_x,HB,Lh (by omega),HNr,Lh (rule_leaf _ _ 2 0 [] 0 0 (by simp))⟩
    | true=>
     replace HRc:=Lh (HRc.out.trans (Sx.go_opt_bind_yes _ hh))
     clear hh
     obtain ⟨c_p0,c_p1,c_p2,c_p3,c_p4,z_p⟩:=cells5 HX_p.out
     have HW:=Lh (fun w' h=>pWord T A c last ⟨#[98,97,114]⟩ s5 (k5) (x5) (p5) w' h HPc.out)
     rw[show Sx.need last 1 (⟨#[98,97,114]⟩:ByteArray).data.toList=Sx.word last Sx.wBar from rfl] at HW
     unfold PPost pv at HW
     rw[←Hn.out] at HW
     obtain ⟨s9,hs⟩:∃ s',s'=Sx.go s5 (Sx.word last Sx.wBar):=⟨_,rfl⟩
     rw[←hs] at HW
     have HR9:=Lh (HRc.out.trans ((Sx.go_unit _ _ _).trans (by rw [←hs])))
     clear hs HRc
     go_wp2_with fail
     refine (HW.out _ (HC.out.next HB.out)).mono ?_
     rintro e' v9 ⟨k9,x9,p9,rfl,ha,hb⟩
     have HP9:=Lh ha
     clear ha HW
     clear c_p0 c_p1 c_p2 c_p3 c_p4 z_p
     have hgz:=hb.size
     replace HB:=bmb HB hb
     replace HX_p:=bmv HX_p hb
     replace HX_a:=bmv HX_a hb
     replace HX_q:=bmv HX_q hb
     replace HX_x:=bmv HX_x hb
     replace HNr:=rkm HNr hb
     clear hb
     have HW:=Lh (fun w' h=>pRuleTop T A c last s9 (k9) (x9) (p9) w' h HP9.out)
     unfold PRead pv at HW
     rw[←Hn.out] at HW
     obtain ⟨s10,hs⟩:∃ s',s'=(Sx.go s9 (Sx.rule last 16 0)).void:=⟨_,rfl⟩
     go_wp2_with fail
     refine (HW.out _ (HC.out.next HB.out)).mono ?_
     rintro e' v10 ⟨br,vs,k10,x10,p10,rfl,hv,hvs,ha,hb⟩
     rw[←hs] at ha
     have HP10:=Lh ha
     have HR10:=Lh (HR9.out.trans ((Sx.R.Val.step hv _).trans (by rw [←hs])))
     obtain ⟨ck,hvs,hrk⟩:=hvs
     have HNew:=rke hrk (lo':=w.heap.size+4) (by omega)
     obtain ⟨b0,b1,b2,b3,b4,bA,bN,bC,rfl⟩:=form_ruleB hrk
     subst hvs
     clear hrk
     simp only[List.cons_append,List.nil_append]
     clear hs ha hv HW HR9
     have hgz:=hb.size
     replace HB:=bmb HB hb
     replace HX_p:=bmv HX_p hb
     replace HX_a:=bmv HX_a hb
     replace HX_q:=bmv HX_q hb
     replace HX_x:=bmv HX_x hb
     replace HNr:=rkm HNr hb
     clear hb
     obtain ⟨c_p0,c_p1,c_p2,c_p3,c_p4,z_p⟩:=cells5 HX_p.out
     obtain ⟨f_p0,f_p1,f_p2,f_p3,f_p4⟩:=frees5 HX_p.out
     obtain ⟨c_x0,c_x1,c_x2,c_x3,c_x4,c_x5,c_x6,c_x7,c_x8,c_x9,c_x10,c_x11,c_x12,c_x13,c_x14,c_x15,z_x⟩:=cells16 HX_x.out
     obtain ⟨f_x0,f_x1,f_x2,f_x3,f_x4,f_x5,f_x6,f_x7,f_x8,f_x9,f_x10,f_x11,f_x12,f_x13,f_x14,f_x15⟩:=frees16 HX_x.out
     obtain ⟨Eb0,hEb0⟩:∃ V,V=v10.setCell ⟨(w.heap.size+1+1+1),10,none⟩ (.int .i64 b0):=⟨_,rfl⟩
     have hsz_Eb0:=bss hEb0
     replace HB:=bsb hEb0 HB (by omega)
     replace HX_p:=bst hEb0 HX_p (by omega)
     replace HX_a:=bst hEb0 HX_a (by omega)
     replace HX_q:=bst hEb0 HX_q (by omega)
     replace HNr:=rks hEb0 HNr (by omega)
     replace HNew:=rks hEb0 HNew (by omega)
     replace HX_x:=bsc hEb0 HX_x (cs':=#[.string (Lx.bs nm),.int .i64 no,.int .i64 cr,.int .i64 rp,.int .i64 n0,.int .i64 n1,.string n2,.int .i64 n3,.int .i64 n4,.slice nA nN nC,.int .i64 b0,.int .i64 0,.string ⟨#[]⟩,.int .i64 0,.int .i64 0,.slice none 0 0]) (by simp)
     obtain ⟨Eb1,hEb1⟩:∃ V,V=Eb0.setCell ⟨(w.heap.size+1+1+1),11,none⟩ (.int .i64 b1):=⟨_,rfl⟩
     have hsz_Eb1:=bss hEb1
     replace HB:=bsb hEb1 HB (by omega)
     replace HX_p:=bst hEb1 HX_p (by omega)
     replace HX_a:=bst hEb1 HX_a (by omega)
     replace HX_q:=bst hEb1 HX_q (by omega)
     replace HNr:=rks hEb1 HNr (by omega)
     replace HNew:=rks hEb1 HNew (by omega)
     replace HX_x:=bsc hEb1 HX_x (cs':=#[.string (Lx.bs nm),.int .i64 no,.int .i64 cr,.int .i64 rp,.int .i64 n0,.int .i64 n1,.string n2,.int .i64 n3,.int .i64 n4,.slice nA nN nC,.int .i64 b0,.int .i64 b1,.string ⟨#[]⟩,.int .i64 0,.int .i64 0,.slice none 0 0]) (by simp)
     obtain ⟨Eb2,hEb2⟩:∃ V,V=Eb1.setCell ⟨(w.heap.size+1+1+1),12,none⟩ (.string b2):=⟨_,rfl⟩
     have hsz_Eb2:=bss hEb2
     replace HB:=bsb hEb2 HB (by omega)
     replace HX_p:=bst hEb2 HX_p (by omega)
     replace HX_a:=bst hEb2 HX_a (by omega)
     replace HX_q:=bst hEb2 HX_q (by omega)
     replace HNr:=rks hEb2 HNr (by omega)
     replace HNew:=rks hEb2 HNew (by omega)
     replace HX_x:=bsc hEb2 HX_x (cs':=#[.string (Lx.bs nm),.int .i64 no,.int .i64 cr,.int .i64 rp,.int .i64 n0,.int .i64 n1,.string n2,.int .i64 n3,.int .i64 n4,.slice nA nN nC,.int .i64 b0,.int .i64 b1,.string b2,.int .i64 0,.int .i64 0,.slice none 0 0]) (by simp)
     obtain ⟨Eb3,hEb3⟩:∃ V,V=Eb2.setCell ⟨(w.heap.size+1+1+1),13,none⟩ (.int .i64 b3):=⟨_,rfl⟩
     have hsz_Eb3:=bss hEb3
     replace HB:=bsb hEb3 HB (by omega)
     replace HX_p:=bst hEb3 HX_p (by omega)
     replace HX_a:=bst hEb3 HX_a (by omega)
     replace HX_q:=bst hEb3 HX_q (by omega)
     replace HNr:=rks hEb3 HNr (by omega)
     replace HNew:=rks hEb3 HNew (by omega)
     replace HX_x:=bsc hEb3 HX_x (cs':=#[.string (Lx.bs nm),.int .i64 no,.int .i64 cr,.int .i64 rp,.int .i64 n0,.int .i64 n1,.string n2,.int .i64 n3,.int .i64 n4,.slice nA nN nC,.int .i64 b0,.int .i64 b1,.string b2,.int .i64 b3,.int .i64 0,.slice none 0 0]) (by simp)
     obtain ⟨Eb4,hEb4⟩:∃ V,V=Eb3.setCell ⟨(w.heap.size+1+1+1),14,none⟩ (.int .i64 b4):=⟨_,rfl⟩
     have hsz_Eb4:=bss hEb4
     replace HB:=bsb hEb4 HB (by omega)
     replace HX_p:=bst hEb4 HX_p (by omega)
     replace HX_a:=bst hEb4 HX_a (by omega)
     replace HX_q:=bst hEb4 HX_q (by omega)
     replace HNr:=rks hEb4 HNr (by omega)
     replace HNew:=rks hEb4 HNew (by omega)
     replace HX_x:=bsc hEb4 HX_x (cs':=#[.string (Lx.bs nm),.int .i64 no,.int .i64 cr,.int .i64 rp,.int .i64 n0,.int .i64 n1,.string n2,.int .i64 n3,.int .i64 n4,.slice nA nN nC,.int .i64 b0,.int .i64 b1,.string b2,.int .i64 b3,.int .i64 b4,.slice none 0 0]) (by simp)
     obtain ⟨Eb5,hEb5⟩:∃ V,V=Eb4.setCell ⟨(w.heap.size+1+1+1),15,none⟩ (.slice bA bN bC):=⟨_,rfl⟩
     have hsz_Eb5:=bss hEb5
     replace HB:=bsb hEb5 HB (by omega)
     replace HX_p:=bst hEb5 HX_p (by omega)
     replace HX_a:=bst hEb5 HX_a (by omega)
     replace HX_q:=bst hEb5 HX_q (by omega)
     replace HNr:=rks hEb5 HNr (by omega)
     replace HNew:=rks hEb5 HNew (by omega)
     replace HX_x:=bsc hEb5 HX_x (cs':=#[.string (Lx.bs nm),.int .i64 no,.int .i64 cr,.int .i64 rp,.int .i64 n0,.int .i64 n1,.string n2,.int .i64 n3,.int .i64 n4,.slice nA nN nC,.int .i64 b0,.int .i64 b1,.string b2,.int .i64 b3,.int .i64 b4,.slice bA bN bC]) (by simp)
     obtain ⟨Ebp,hEbp,hxn,hfar,hbn⟩:=pstoreB HX_p.out (.slice A n c) (.int .i64 k10) (.int .i64 last) (.int .i64 x10) (.int .i64 p10)
     replace HB:=Lh (hbn w.heap.size w HB.out (by omega))
     replace HX_a:=bfr hfar.1 HX_a (by omega)
     replace HX_q:=bfr hfar.1 HX_q (by omega)
     replace HX_x:=bfr hfar.1 HX_x (by omega)
     replace HX_p:=Lh hxn
     replace HNr:=rkf hfar.1 hfar.2 HNr (by omega)
     replace HNew:=rkf hfar.1 hfar.2 HNew (by omega)
     have hsz_Ebp:=hfar.2
     clear hxn hfar hbn
     rw[hEb0] at hEb1
     rw[hEb1] at hEb2
     rw[hEb2] at hEb3
     rw[hEb3] at hEb4
     rw[hEb4] at hEb5
     rw[hEb5] at hEbp
     go_upto_region 18 with fail
     rw[←hEbp]
     clear hEb0 hEb1 hEb2 hEb3 hEb4 hEb5 hEbp
     clear c_p0 c_p1 c_p2 c_p3 c_p4 z_p f_p0 f_p1 f_p2 f_p3 f_p4 c_x0 c_x1 c_x2 c_x3 c_x4 c_x5 c_x6 c_x7 c_x8 c_x9 c_x10 c_x11 c_x12 c_x13 c_x14 c_x15 z_x f_x0 f_x1 f_x2 f_x3 f_x4 f_x5 f_x6 f_x7 f_x8 f_x9 f_x10 f_x11 f_x12 f_x13 f_x14 f_x15
     obtain ⟨c_p0,c_p1,c_p2,c_p3,c_p4,z_p⟩:=cells5 HX_p.out
     have HW:=Lh (fun w' h=>pSg T A c last 59 s10 (k10) (x10) (p10) w' h HP10.out)
     unfold PPost pv at HW
     rw[←Hn.out] at HW
     obtain ⟨s11,hs⟩:∃ s',s'=Sx.go s10 (Sx.sign last 59):=⟨_,rfl⟩
     rw[←hs] at HW
     have HR11:=Lh (HR10.out.trans ((Sx.go_unit _ _ _).trans (by rw [←hs])))
     clear hs HR10
     go_wp2_with fail
     refine (HW.out _ (HC.out.next HB.out)).mono ?_
     rintro e' v11 ⟨k11,x11,p11,rfl,ha,hb⟩
     have HP11:=Lh ha
     clear ha HW
     clear c_p0 c_p1 c_p2 c_p3 c_p4 z_p
     have hgz:=hb.size
     replace HB:=bmb HB hb
     replace HX_p:=bmv HX_p hb
     replace HX_a:=bmv HX_a hb
     replace HX_q:=bmv HX_q hb
     replace HX_x:=bmv HX_x hb
     replace HNr:=rkm HNr hb
     replace HNew:=rkm HNew hb
     clear hb
     obtain ⟨c_p0,c_p1,c_p2,c_p3,c_p4,z_p⟩:=cells5 HX_p.out
     obtain ⟨f_p0,f_p1,f_p2,f_p3,f_p4⟩:=frees5 HX_p.out
     obtain ⟨Gb,hGb,hxn,hfar,hbn⟩:=pstoreB HX_p.out (.slice A n c) (.int .i64 k11) (.int .i64 last) (.int .i64 x11) (.int .i64 p11)
     replace HB:=Lh (hbn w.heap.size w HB.out (by omega))
     replace HX_a:=bfr hfar.1 HX_a (by omega)
     replace HX_q:=bfr hfar.1 HX_q (by omega)
     replace HX_x:=bfr hfar.1 HX_x (by omega)
     replace HX_p:=Lh hxn
     replace HNr:=rkf hfar.1 hfar.2 HNr (by omega)
     replace HNew:=rkf hfar.1 hfar.2 HNew (by omega)
     have hsz_Gb:=hfar.2
     clear hxn hfar hbn
     go_wp2_with fail
     rw[←hGb]
     go_meet
     exact ⟨_,_,k11,x11,p11,b0,b1,b2,b3,b4,bA,bN,bC,HR11,HP11,HX_p,HX_a,HX_q,HX_x,HB,Lh (by omega),HNr,HNew⟩
   case rest=>
    clear HB HX_p HX_a HX_q HX_x HNr
    obtain ⟨br,s5,k5,x5,p5,b0,b1,b2,b3,b4,bA,bN,bC,HRc,HPc,HX_p,HX_a,HX_q,HX_x,HB,HZ,HNr,HBr⟩:=hcut
    have hz:=HZ.out
    replace HRc:=Lh (show R=Sx.go s5 (fun l=>(Sx.sign last 125 l).bind fun _ l=>.ok ⟨nm,no,cr,rp,nr,br⟩ l) from HRc.out)
    go_upto_region 19 with fail
    have HSg:=Lh (pSg T A c last 125 s5 (k5) (x5) (p5) wc.drew ((HC.out.next HB.out).next (Below.refl _ _).drew) HPc.out)
    unfold PPost pv at HSg
    rw[←Hn.out] at HSg
    have HE:Hid (R=Sx.go (Sx.go s5 (Sx.sign last 125)) fun l=>.ok ⟨nm,no,cr,rp,nr,br⟩ l):=Lh (HRc.out.trans (Sx.go_unit _ _ _))
    have HV:Hid (R.Val ⟨nm,no,cr,rp,nr,br⟩):=Lh (by rw [HE.out];exact .done _ _)
    have HVd:Hid (R.void=Sx.go s5 (Sx.sign last 125)):=Lh (by rw [HE.out,Sx.void_done])
    rw[←HVd.out] at HSg
    clear HE HVd HRc
    refine endDraw (fn:=Tryz.f32) (T:=58) (xs:=#[.string (Lx.bs nm),.int .i64 no,.int .i64 cr,.int .i64 rp,.int .i64 n0,.int .i64 n1,.string n2,.int .i64 n3,.int .i64 n4,.slice nA nN nC,.int .i64 b0,.int .i64 b1,.string b2,.int .i64 b3,.int .i64 b4,.slice bA bN bC]) (zs:=#[.string ⟨#[]⟩,.int .i64 0,.int .i64 0,.int .i64 0,.int .i64 0,.int .i64 0,.string ⟨#[]⟩,.int .i64 0,.int .i64 0,.slice none 0 0,.int .i64 0,.int .i64 0,.string ⟨#[]⟩,.int .i64 0,.int .i64 0,.slice none 0 0]) (z5:=#[.slice none 0 0,.int .i64 0,.int .i64 0,.int .i64 0,.int .i64 0]) (by kernel_rfl) rfl (by simp [Value.oneCell']) Tryz.results32 (sx:=4) (sp:=1) (d0:=75) (d1:=76) (d2:=77) (by simp) (fun b W h=>run_loadVar_row W b _ _ _ (0,0) _ h Tryz.underlying58 rfl (by kernel_rfl)) rfl rfl rfl rfl rfl (by omega) rfl rfl HX_x.out HX_p.out HX_a.out HX_q.out (by omega) (by omega) HB.out (Post:=fun qs _=>∃ k6 x6 p6,qs=#[.slice A n c,.int .i64 k6,.int .i64 last,.int .i64 x6,.int .i64 p6]∧PAt T R.void k6 x6 p6) enter_sign (HSg.out.mono fun e w6 ⟨k6,x6,p6,he,hpa,hb⟩=>⟨_,he,rfl,by simp [Value.oneCell'],hb,k6,x6,p6,rfl,hpa⟩) (by assumption) ?_
    rintro qs w6 W9 ⟨k6,x6,p6,rfl,hpa⟩ hb6 hsz hfar hbel
    have HB6:=Lh hb6;have HSz:=Lh hsz
    have hgz:=hb6.size
    have HFar:Hid (∀ b,w.heap.size+1+1 < b→W9.heap[b]?=w6.heap[b]?):=Lh fun b hb=>hfar b (by omega) (by omega)
    have hN9:=RuleAt.keep (w':=W9) (S':=fun b=>w.heap.size≤b∧b < W9.heap.size) (fun b hb=>⟨⟨by have:=hb.1;omega,by rw [HSz.out];exact Nat.lt_of_lt_of_le hb.2 hgz⟩,fun j=>World.cell?_of_block (a:=⟨b,j,none⟩) ((HFar.out b (by have:=hb.1;omega)).trans (HB6.out.block b hb.2))⟩) _ _ HNr.out
    have hB9:=RuleAt.keep (w':=W9) (S':=fun b=>w.heap.size≤b∧b < W9.heap.size) (fun b hb=>⟨⟨by have:=hb.1;omega,by rw [HSz.out];exact Nat.lt_of_lt_of_le hb.2 hgz⟩,fun j=>World.cell?_of_block (a:=⟨b,j,none⟩) ((HFar.out b (by have:=hb.1;omega)).trans (HB6.out.block b hb.2))⟩) _ _ HBr.out
    exact ⟨_,[.agg #[.string (Lx.bs nm),.int .i64 no,.int .i64 cr,.int .i64 rp,.int .i64 n0,.int .i64 n1,.string n2,.int .i64 n3,.int .i64 n4,.slice nA nN nC,.int .i64 b0,.int .i64 b1,.string b2,.int .i64 b3,.int .i64 b4,.slice bA bN bC]],k6,x6,p6,rfl,HV.out,⟨_,rfl,[.int .i64 n0,.int .i64 n1,.string n2,.int .i64 n3,.int .i64 n4,.slice nA nN nC],[.int .i64 b0,.int .i64 b1,.string b2,.int .i64 b3,.int .i64 b4,.slice bA bN bC],rfl,HL.out,hN9,hB9⟩,hpa,hbel⟩
end Go.Proofs.YtjonaidancomgaaGreatDoor
