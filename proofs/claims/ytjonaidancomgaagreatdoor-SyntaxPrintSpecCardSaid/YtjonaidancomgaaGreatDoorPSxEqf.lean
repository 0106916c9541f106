/- Parts of the proof, joined into one text: q1l, q1m. -/
import Derived.Test.YtjonaidancomgaaGreatDoorPSxAll
import Derived.Test.YtjonaidancomgaaGreatDoorPSxSameC
import Derived.Deep.Cut
set_option maxHeartbeats 8000000
set_option maxRecDepth 20000
namespace Go.Proofs.YtjonaidancomgaaGreatDoor
open Go.RowKit
theorem Km (A B:Option Addr) (c d:Nat) (l l':List Sx.Rule) (w:World) (hl:Row w (Old w) A 6 (aB w (Old w)) l) (hl':Row w (Old w) B 6 (aB w (Old w)) l')
  (HC:∀ x∈l,∀ y∈l',∀ ca cb W,Below w.heap.size w W→aB W (Old W) x ca→aB W (Old W) y cb→Calls Tryz.prog 62 #[.agg ca.toArray,.agg cb.toArray] W (ak (decide (x=y)) W)) :
  Calls Tryz.prog 151 #[.slice A l.length c,.slice B l'.length d,.func (.func 62) #[] #[]] w (ak (decide (l=l')) w):=by
 obtain ⟨m,hm⟩:∃ m,m=l.length:=⟨_,rfl⟩
 obtain ⟨m',hm'⟩:∃ m,m=l'.length:=⟨_,rfl⟩
 obtain ⟨R,hR⟩:∃ R,R=decide (l=l'):=⟨_,rfl⟩
 have z0:=hl.len;have z1:=hl'.len;rw[←hm] at z0 ⊢;rw[←hm'] at z1 ⊢;rw[←hR];have Hl:=Lh hl;have AV:=Lh hl';have Hm:=Lh hm;have lM:=Lh hm';have HR:=Lh hR;have vH:=Lh HC;clear hl hl' hm hm' hR HC;cases q0:((m:Int) != (m':Int)) with
 | true=>
  have HR2:Hid (R=false):=Lh (by rw [HR.out];exact decide_eq_false fun e=>by rw [Hm.out,lM.out,e] at q0;simp at q0);go_enter Tryz.func151,Tryz.ntmps151;go_wp2_with fail;go_ret;exact ⟨aj HR2.out.symm,Below.refl _ _⟩
 | false=>
 obtain rfl:m=m':=by have:(m:Int)=m':=(by simpa using q0);omega
 go_enter Tryz.func151,Tryz.ntmps151;go_wp2_with fail
 go_loopg [17] m (fun gk v17 wr=>∃ i:Nat,v17 = .int .i64 i∧i+gk=m∧Hid (Below w.heap.size w wr)∧Hid (∀ j x y,j < i→l[j]?=some x→l'[j]?=some y→x=y))
 case atStart=>exact ⟨0,rfl,by omega,Lh (Below.refl _ _),Lh (fun j x y hj=>absurd hj (Nat.not_lt_zero j))⟩
 case round=>
  obtain ⟨i,rfl,hi,Hb,dQ⟩:=hrel;have hws:=Hb.out.size
  by_cases hlt:i < m
  ·obtain ⟨x,hx⟩:∃ x,l[i]?=some x:=⟨_,List.getElem?_eq_getElem (by have:=Hm.out;omega)⟩
   obtain ⟨y,hy⟩:∃ y,l'[i]?=some y:=⟨_,List.getElem?_eq_getElem (by have:=lM.out;omega)⟩
   have Hx:=Lh hx;have Hy:=Lh hy;obtain ⟨bk,ok,cs,rfl,hS,hP,hck⟩:=Hl.out.at_ i x hx;obtain ⟨bl,ol,cs',rfl,hS',hQ,hcl⟩:=AV.out.at_ i y hy;have hcall:=vH.out x (List.mem_of_getElem? hx) y (List.mem_of_getElem? hy) cs cs';have hP':=cu Hb.out hP;have hQ':=cu Hb.out hQ;have hbk:bk < wr.heap.size:=Nat.lt_of_lt_of_le hS hws;have hbl:bl < wr.heap.size:=Nat.lt_of_lt_of_le hS' hws;obtain ⟨i0,i1,s2,i3,i4,A5,n5,c5,rfl⟩:=bG hP;obtain ⟨YN,LY,s2',Ph,Pj,NA,n5',NC,rfl⟩:=bG hQ;have k0:=(Hb.out.cell (p:=⟨bk,_,none⟩) hS).trans (hck 0 _ rfl)
   have l0:=(Hb.out.cell (p:=⟨bl,_,none⟩) hS').trans (hcl 0 _ rfl);have k1:=(Hb.out.cell (p:=⟨bk,_,none⟩) hS).trans (hck 1 _ rfl);have l1:=(Hb.out.cell (p:=⟨bl,_,none⟩) hS').trans (hcl 1 _ rfl);have k2:=(Hb.out.cell (p:=⟨bk,_,none⟩) hS).trans (hck 2 _ rfl);have l2:=(Hb.out.cell (p:=⟨bl,_,none⟩) hS').trans (hcl 2 _ rfl);have k3:=(Hb.out.cell (p:=⟨bk,_,none⟩) hS).trans (hck 3 _ rfl);have l3:=(Hb.out.cell (p:=⟨bl,_,none⟩) hS').trans (hcl 3 _ rfl);have k4:=(Hb.out.cell (p:=⟨bk,_,none⟩) hS).trans (hck 4 _ rfl);have l4:=(Hb.out.cell (p:=⟨bl,_,none⟩) hS').trans (hcl 4 _ rfl)
   have k5:=(Hb.out.cell (p:=⟨bk,_,none⟩) hS).trans (hck 5 _ rfl);have l5:=(Hb.out.cell (p:=⟨bl,_,none⟩) hS').trans (hcl 5 _ rfl);simp only[Nat.add_zero] at k0 l0 k1 l1 k2 l2 k3 l3 k4 l4 k5 l5;obtain ⟨W,hW⟩:∃ W,W=(wr.alloc (.cells #[.int .i64 i0,.int .i64 i1,.string s2,.int .i64 i3,.int .i64 i4,.slice A5 n5 c5] 38)).alloc (.cells #[.int .i64 YN,.int .i64 LY,.string s2',.int .i64 Ph,.int .i64 Pj,.slice NA n5' NC] 38):=⟨_,rfl⟩
   have hbw:Below wr.heap.size wr W:=by rw [hW];exact ((Below.refl _ _).alloc (Nat.le_refl _) _).alloc (by simp) _
   have hbW:=Hb.out.trans (hbw.mono hws);have aH:=Lh (hcall W hbW (cu hbw hP') (cu hbw hQ'));have yN:=Lh hbW;clear hcall hP hP' hQ hQ' hck hcl hx hy hbw hbW;obtain ⟨b,hb⟩:∃ b,b=decide (x=y):=⟨_,rfl⟩
   rw[←hb] at aH;have HB:=Lh hb;clear hb;go_wp2_with fail;rw[←hW];refine aH.out.mono ?_;rintro e w5 ⟨rfl,hb5⟩;have Hb5:=Lh hb5;clear hb5 hW k0 l0 k1 l1 k2 l2 k3 l3 k4 l4 k5 l5;cases b with
   | false=>
    have HR2:Hid (R=false):=Lh (by
     rw[HR.out];exact decide_eq_false fun e=>(of_decide_eq_false HB.out.symm) (by have h1:=Hx.out;rw[e,Hy.out] at h1;injection h1 with h1;exact h1.symm))
    go_wp2_with fail;go_ret;exact ⟨aj HR2.out.symm,yN.out.trans (Hb5.out.mono yN.out.size)⟩
   | true=>
    have Hq:=Lh (of_decide_eq_true HB.out.symm);go_wp2_with fail
    go_roundg (gk - 1)
    all_goals first
     | omega
     | exact ⟨i+1,by go_num,by omega,Lh (yN.out.trans (Hb5.out.mono yN.out.size)),Lh (fun j a b hj h1 h2=>by
       rcases Nat.lt_or_ge j i with h3 | h3
       ·exact dQ.out j a b h3 h1 h2
       ·obtain rfl:j=i:=by omega
        rw[Hx.out] at h1;rw[Hy.out] at h2;injection h1 with h1;injection h2 with h2;rw[←h1,←h2];exact Hq.out)⟩
  ·obtain rfl:i=m:=by omega
   have HR2:Hid (R=true):=Lh (by
    rw[HR.out];refine decide_eq_true (List.ext_getElem? fun j=>?_)
    rcases Nat.lt_or_ge j i with h3 | h3
    ·have h1:l[j]?=some (l[j]'(by have:=Hm.out;omega)):=List.getElem?_eq_getElem _;have h2:l'[j]?=some (l'[j]'(by have:=lM.out;omega)):=List.getElem?_eq_getElem _;rw[h1,h2,dQ.out j _ _ h3 h1 h2]
    ·rw[List.getElem?_eq_none (by have:=Hm.out;omega),List.getElem?_eq_none (by have:=lM.out;omega)])
   go_wp2_with fail;go_ret;exact ⟨aj HR2.out.symm,Hb.out⟩
theorem Ih (op co x d op' BF x' d':Int) (nm nm':List UInt8) (A A':Option Addr) (m c m' c':Nat) (b:Bool) (w:World) (hb:∀ W,Below w.heap.size w W→Calls Tryz.prog 151 #[.slice A m c,.slice A' m' c',.func (.func 62) #[] #[]] W (ak b W)) :
  Calls Tryz.prog 62 #[.agg #[.int .i64 op,.int .i64 co,.string (Lx.bs nm),.int .i64 x,.int .i64 d,.slice A m c],.agg #[.int .i64 op',.int .i64 BF,.string (Lx.bs nm'),.int .i64 x',.int .i64 d',.slice A' m' c']] w (ak ((op == op') && (co == BF) && (nm == nm') && (x == x') && (d == d') && b) w):=by
 obtain ⟨R,hR⟩:∃ R:Bool,R=((op == op') && (co == BF) && (nm == nm') && (x == x') && (d == d') && b):=⟨_,rfl⟩
 rw[←hR];obtain ⟨W,hW⟩:∃ W,W=(w.alloc (.cells #[.int .i64 op,.int .i64 co,.string (Lx.bs nm),.int .i64 x,.int .i64 d,.slice A m c] 38)).alloc (.cells #[.int .i64 op',.int .i64 BF,.string (Lx.bs nm'),.int .i64 x',.int .i64 d',.slice A' m' c'] 38):=⟨_,rfl⟩
 have hbW:Below w.heap.size w W:=by rw [hW];exact ((Below.refl _ _).alloc (Nat.le_refl _) _).alloc (by simp) _
 have e0:aC W w.heap.size 38 #[.int .i64 op,.int .i64 co,.string (Lx.bs nm),.int .i64 x,.int .i64 d,.slice A m c]:=by rw [hW];exact (aC.new w _ _).alloc _
 have f0:aC W (w.heap.size+1) 38 #[.int .i64 op',.int .i64 BF,.string (Lx.bs nm'),.int .i64 x',.int .i64 d',.slice A' m' c']:=by rw [hW];exact aC.aZ _ _ (by simp)
 have HB0:=Lh hbW;have E0:=Lh e0;have F0:=Lh f0;clear hbW e0 f0;have hbs:((Lx.bs nm).toList == (Lx.bs nm').toList)=(nm == nm'):=by rw [ByteArray.toList_eq,ByteArray.toList_eq,Lx.aK,Lx.aK]
 have K5:=Lh (hb);cases q0:(op == op') with
 | false=>
  rw[q0] at hR;have HR:Hid (R=false):=Lh (by rw [hR];simp);clear hR;go_enter Tryz.func62,Tryz.ntmps62;go_wp2_with fail;go_ret;exact ⟨aj HR.out.symm,(by have h:=HB0.out;rw[hW] at h;exact h)⟩
 | true=>
 rw[q0] at hR;cases q1:(co == BF) with
 | false=>
  rw[q1] at hR;have HR:Hid (R=false):=Lh (by rw [hR];simp);clear hR;go_enter Tryz.func62,Tryz.ntmps62;go_wp2_with fail;go_ret;exact ⟨aj HR.out.symm,(by have h:=HB0.out;rw[hW] at h;exact h)⟩
 | true=>
 rw[q1] at hR;cases q2:(nm == nm') with
 | false=>
  rw[q2] at hbs hR;have HR:Hid (R=false):=Lh (by rw [hR];simp);clear hR;go_enter Tryz.func62,Tryz.ntmps62;go_wp2_with fail;go_ret;exact ⟨aj HR.out.symm,(by have h:=HB0.out;rw[hW] at h;exact h)⟩
 | true=>
 rw[q2] at hbs hR;cases q3:(x == x') with
 | false=>
  rw[q3] at hR;have HR:Hid (R=false):=Lh (by rw [hR];simp);clear hR;go_enter Tryz.func62,Tryz.ntmps62;go_wp2_with fail;go_ret;exact ⟨aj HR.out.symm,(by have h:=HB0.out;rw[hW] at h;exact h)⟩
 | true=>
 rw[q3] at hR;cases q4:(d == d') with
 | false=>
  rw[q4] at hR;have HR:Hid (R=false):=Lh (by rw [hR];simp);clear hR;go_enter Tryz.func62,Tryz.ntmps62;go_wp2_with fail;go_ret;exact ⟨aj HR.out.symm,(by have h:=HB0.out;rw[hW] at h;exact h)⟩
 | true=>
 rw[q4] at hR;have HR:Hid (R=(b)):=Lh (by rw [hR];simp);clear hR;go_enter Tryz.func62,Tryz.ntmps62;go_wp2_with fail;rw[←hW];refine (K5.out _ HB0.out).mono ?_;rintro e w1 ⟨rfl,hb⟩;have HB1:=Lh (HB0.out.trans (hb.mono HB0.out.size));have y:=E0.out.below hb E0.out.lt;have y':=F0.out.below hb F0.out.lt;have E1:=Lh y;have F1:=Lh y';have x0:=y.cell 0;have x1:=y.cell 1;have x2:=y.cell 2;have x3:=y.cell 3;have x4:=y.cell 4;have x5:=y.cell 5;have r0:=y'.cell 0;have r1:=y'.cell 1;have r2:=y'.cell 2;have r3:=y'.cell 3;have r4:=y'.cell 4;have r5:=y'.cell 5;simp at x0 r0 x1 r1 x2 r2 x3 r3 x4 r4 x5 r5
 have z1:=y'.lt;clear hb y y';go_wp2_with fail;go_ret;exact ⟨aj HR.out.symm,HB1.out⟩
theorem zG {w:World} {A:Option Addr} {ks:List Sx.Rule} (h:dP w (Old w) A 0 ks) (hl:ks.length≤140737488351232):Row w (Old w) A 6 (aB w (Old w)) ks:=⟨kZ.1 h,hl⟩
theorem zH:∀ (n:Nat) (a b:Sx.Rule),SizeOf.sizeOf a < n→∀ (w:World) (ca cb:List Value),aB w (Old w) a ca→aB w (Old w) b cb→
  Calls Tryz.prog 62 #[.agg ca.toArray,.agg cb.toArray] w (ak (decide (a=b)) w)
 | 0,a,b,hn,w,ca,cb,ha,hb=>by omega
 | n+1,.mk op co nm x d ks,.mk op' BF nm' x' d' ks',hn,w,ca,cb,ha,hb=>by
  have ih:=zH n;rw[aB] at ha hb;obtain ⟨A,c,rfl,ha2,LU,MP⟩:=ha;obtain ⟨B,c',rfl,hb2,hb3,hb4⟩:=hb;have e:decide (Sx.Rule.mk op co nm x d ks = .mk op' BF nm' x' d' ks')=((op == op') && (co == BF) && (nm == nm') && (x == x') && (d == d') && decide (ks=ks')):=by
   rw[Bool.eq_iff_iff];simp[and_assoc]
  rw[e];exact Ih op co x d op' BF x' d' nm nm' A B _ c _ c' _ w fun W hW=>
   Km A B c c' ks ks' W ((zG MP LU).keep (P':=aB W (Old W)) (aG hW) fun _ _ _ h=>cu hW h) ((zG hb4 hb3).keep (P':=aB W (Old W)) (aG hW) fun _ _ _ h=>cu hW h)
    (fun y hy z hz ca cb W' _ h1 h2=>ih y z (by obtain ⟨i,hi⟩:=List.mem_iff_getElem?.1 hy;have:=Sx.BU (op:=op) (co:=co) (nm:=nm) (n:=x) (d:=d) hi;omega) W' ca cb h1 h2)
theorem xE (a b:Sx.Rule) (w:World) (ca cb:List Value) (ha:aB w (Old w) a ca) (hb:aB w (Old w) b cb):Calls Tryz.prog 62 #[.agg ca.toArray,.agg cb.toArray] w (ak (decide (a=b)) w):=zH _ a b (Nat.lt_succ_self _) w ca cb ha hb
theorem Cw (nm nm':List UInt8) (no cr rp no' Ii rp':Int) (a0 a1:Int) (a2:ByteArray) (a3 a4:Int) (aA:Option Addr) (an ac:Nat) (b0 b1:Int) (b2:ByteArray) (b3 b4:Int) (bA:Option Addr) (bn bc:Nat) (a0' a1':Int) (QK:ByteArray) (a3' a4':Int) (WQ:Option Addr) (WR WS:Nat) (b0' b1':Int) (b2':ByteArray) (b3' WT:Int) (WU:Option Addr) (WV bc':Nat) (p1 p2:Bool) (w:World) (h1:∀ W,Below w.heap.size w W→Calls Tryz.prog 62 #[.agg #[.int .i64 a0,.int .i64 a1,.string a2,.int .i64 a3,.int .i64 a4,.slice aA an ac],.agg #[.int .i64 a0',.int .i64 a1',.string QK,.int .i64 a3',.int .i64 a4',.slice WQ WR WS]] W (ak p1 W)) (h2:∀ W,Below w.heap.size w W→Calls Tryz.prog 62 #[.agg #[.int .i64 b0,.int .i64 b1,.string b2,.int .i64 b3,.int .i64 b4,.slice bA bn bc],.agg #[.int .i64 b0',.int .i64 b1',.string b2',.int .i64 b3',.int .i64 WT,.slice WU WV bc']] W (ak p2 W)) :
  Calls Tryz.prog 61 #[.agg #[.string (Lx.bs nm),.int .i64 no,.int .i64 cr,.int .i64 rp,.int .i64 a0,.int .i64 a1,.string a2,.int .i64 a3,.int .i64 a4,.slice aA an ac,.int .i64 b0,.int .i64 b1,.string b2,.int .i64 b3,.int .i64 b4,.slice bA bn bc],.agg #[.string (Lx.bs nm'),.int .i64 no',.int .i64 Ii,.int .i64 rp',.int .i64 a0',.int .i64 a1',.string QK,.int .i64 a3',.int .i64 a4',.slice WQ WR WS,.int .i64 b0',.int .i64 b1',.string b2',.int .i64 b3',.int .i64 WT,.slice WU WV bc']] w (ak ((nm == nm') && (no == no') && (cr == Ii) && (rp == rp') && p1 && p2) w):=by
 obtain ⟨R,hR⟩:∃ R:Bool,R=((nm == nm') && (no == no') && (cr == Ii) && (rp == rp') && p1 && p2):=⟨_,rfl⟩
 rw[←hR];obtain ⟨W,hW⟩:∃ W,W=(w.alloc (.cells #[.string (Lx.bs nm),.int .i64 no,.int .i64 cr,.int .i64 rp,.int .i64 a0,.int .i64 a1,.string a2,.int .i64 a3,.int .i64 a4,.slice aA an ac,.int .i64 b0,.int .i64 b1,.string b2,.int .i64 b3,.int .i64 b4,.slice bA bn bc] 58)).alloc (.cells #[.string (Lx.bs nm'),.int .i64 no',.int .i64 Ii,.int .i64 rp',.int .i64 a0',.int .i64 a1',.string QK,.int .i64 a3',.int .i64 a4',.slice WQ WR WS,.int .i64 b0',.int .i64 b1',.string b2',.int .i64 b3',.int .i64 WT,.slice WU WV bc'] 58):=⟨_,rfl⟩
 have hbW:Below w.heap.size w W:=by rw [hW];exact ((Below.refl _ _).alloc (Nat.le_refl _) _).alloc (by simp) _
 have e0:aC W w.heap.size 58 #[.string (Lx.bs nm),.int .i64 no,.int .i64 cr,.int .i64 rp,.int .i64 a0,.int .i64 a1,.string a2,.int .i64 a3,.int .i64 a4,.slice aA an ac,.int .i64 b0,.int .i64 b1,.string b2,.int .i64 b3,.int .i64 b4,.slice bA bn bc]:=by rw [hW];exact (aC.new w _ _).alloc _
 have f0:aC W (w.heap.size+1) 58 #[.string (Lx.bs nm'),.int .i64 no',.int .i64 Ii,.int .i64 rp',.int .i64 a0',.int .i64 a1',.string QK,.int .i64 a3',.int .i64 a4',.slice WQ WR WS,.int .i64 b0',.int .i64 b1',.string b2',.int .i64 b3',.int .i64 WT,.slice WU WV bc']:=by rw [hW];exact aC.aZ _ _ (by simp)
 have HB0:=Lh hbW;have E0:=Lh e0;have F0:=Lh f0;clear hbW e0 f0;have hbs:((Lx.bs nm).toList == (Lx.bs nm').toList)=(nm == nm'):=by rw [ByteArray.toList_eq,ByteArray.toList_eq,Lx.aK,Lx.aK]
 have K4:=Lh (h1);have K5:=Lh (h2);cases q0:(nm == nm') with
 | false=>
  rw[q0] at hbs hR;have HR:Hid (R=false):=Lh (by rw [hR];simp);clear hR;go_enter Tryz.func61,Tryz.ntmps61;go_wp2_with fail;go_ret;exact ⟨aj HR.out.symm,(by have h:=HB0.out;rw[hW] at h;exact h)⟩
 | true=>
 rw[q0] at hbs hR;cases q1:(no == no') with
 | false=>
  rw[q1] at hR;have HR:Hid (R=false):=Lh (by rw [hR];simp);clear hR;go_enter Tryz.func61,Tryz.ntmps61;go_wp2_with fail;go_ret;exact ⟨aj HR.out.symm,(by have h:=HB0.out;rw[hW] at h;exact h)⟩
 | true=>
 rw[q1] at hR;cases q2:(cr == Ii) with
 | false=>
  rw[q2] at hR;have HR:Hid (R=false):=Lh (by rw [hR];simp);clear hR;go_enter Tryz.func61,Tryz.ntmps61;go_wp2_with fail;go_ret;exact ⟨aj HR.out.symm,(by have h:=HB0.out;rw[hW] at h;exact h)⟩
 | true=>
 rw[q2] at hR;cases q3:(rp == rp') with
 | false=>
  rw[q3] at hR;have HR:Hid (R=false):=Lh (by rw [hR];simp);clear hR;go_enter Tryz.func61,Tryz.ntmps61;go_wp2_with fail;go_ret;exact ⟨aj HR.out.symm,(by have h:=HB0.out;rw[hW] at h;exact h)⟩
 | true=>
 rw[q3] at hR;cases q4:p1 with
 | false=>
  rw[q4] at K4 hR;have HR:Hid (R=false):=Lh (by rw [hR];simp);clear hR;go_enter Tryz.func61,Tryz.ntmps61;go_wp2_with fail;rw[←hW];refine (K4.out _ HB0.out).mono ?_;rintro e w1 ⟨rfl,hb⟩;have HB1:=Lh (HB0.out.trans (hb.mono HB0.out.size));have y:=E0.out.below hb E0.out.lt;have y':=F0.out.below hb F0.out.lt;have E1:=Lh y;have F1:=Lh y'
  have x0:=y.cell 0;have x1:=y.cell 1;have x2:=y.cell 2;have x3:=y.cell 3;have x4:=y.cell 4;have x5:=y.cell 5;have x6:=y.cell 6;have x7:=y.cell 7;have x8:=y.cell 8;have x9:=y.cell 9;have x10:=y.cell 10;have kG:=y.cell 11;have kH:=y.cell 12;have kI:=y.cell 13;have mI:=y.cell 14;have lS:=y.cell 15
  have r0:=y'.cell 0;have r1:=y'.cell 1;have r2:=y'.cell 2;have r3:=y'.cell 3;have r4:=y'.cell 4;have r5:=y'.cell 5;have r6:=y'.cell 6;have r7:=y'.cell 7;have r8:=y'.cell 8;have r9:=y'.cell 9;have Kn:=y'.cell 10;have Ko:=y'.cell 11;have Kq:=y'.cell 12;have Kr:=y'.cell 13;have U4:=y'.cell 14;have U5:=y'.cell 15;simp at x0 r0 x1 r1 x2 r2 x3 r3 x4 r4 x5 r5 x6 r6 x7 r7 x8 r8 x9 r9 x10 Kn kG Ko kH Kq kI Kr mI U4 lS U5;have z1:=y'.lt;clear hb y y';go_wp2_with fail;go_ret;exact ⟨aj HR.out.symm,HB1.out⟩
 | true=>
 rw[q4] at K4 hR;have HR:Hid (R=(p2)):=Lh (by rw [hR];simp);clear hR;go_enter Tryz.func61,Tryz.ntmps61;go_wp2_with fail;rw[←hW];refine (K4.out _ HB0.out).mono ?_;rintro e w1 ⟨rfl,hb⟩;have HB1:=Lh (HB0.out.trans (hb.mono HB0.out.size));have y:=E0.out.below hb E0.out.lt;have y':=F0.out.below hb F0.out.lt;have E1:=Lh y;have F1:=Lh y'
 have x0:=y.cell 0;have x1:=y.cell 1;have x2:=y.cell 2;have x3:=y.cell 3;have x4:=y.cell 4;have x5:=y.cell 5;have x6:=y.cell 6;have x7:=y.cell 7;have x8:=y.cell 8;have x9:=y.cell 9;have x10:=y.cell 10;have kG:=y.cell 11;have kH:=y.cell 12;have kI:=y.cell 13;have mI:=y.cell 14;have lS:=y.cell 15
 have r0:=y'.cell 0;have r1:=y'.cell 1;have r2:=y'.cell 2;have r3:=y'.cell 3;have r4:=y'.cell 4;have r5:=y'.cell 5;have r6:=y'.cell 6;have r7:=y'.cell 7;have r8:=y'.cell 8;have r9:=y'.cell 9;have Kn:=y'.cell 10;have Ko:=y'.cell 11;have Kq:=y'.cell 12;have Kr:=y'.cell 13;have U4:=y'.cell 14;have U5:=y'.cell 15;simp at x0 r0 x1 r1 x2 r2 x3 r3 x4 r4 x5 r5 x6 r6 x7 r7 x8 r8 x9 r9 x10 Kn kG Ko kH Kq kI Kr mI U4 lS U5;have z1:=y'.lt;clear hb y y';go_wp2_with fail;refine (K5.out _ HB1.out).mono ?_;rintro e w2 ⟨rfl,hb⟩;have HB2:=Lh (HB1.out.trans (hb.mono HB1.out.size))
 have y:=E1.out.below hb E1.out.lt;have y':=F1.out.below hb F1.out.lt;have E2:=Lh y;have F2:=Lh y';have x0:=y.cell 0;have x1:=y.cell 1;have x2:=y.cell 2;have x3:=y.cell 3;have x4:=y.cell 4;have x5:=y.cell 5;have x6:=y.cell 6;have x7:=y.cell 7;have x8:=y.cell 8;have x9:=y.cell 9;have x10:=y.cell 10;have kG:=y.cell 11;have kH:=y.cell 12;have kI:=y.cell 13;have mI:=y.cell 14;have lS:=y.cell 15
 have r0:=y'.cell 0;have r1:=y'.cell 1;have r2:=y'.cell 2;have r3:=y'.cell 3;have r4:=y'.cell 4;have r5:=y'.cell 5;have r6:=y'.cell 6;have r7:=y'.cell 7;have r8:=y'.cell 8;have r9:=y'.cell 9;have Kn:=y'.cell 10;have Ko:=y'.cell 11;have Kq:=y'.cell 12;have Kr:=y'.cell 13;have U4:=y'.cell 14;have U5:=y'.cell 15;simp at x0 r0 x1 r1 x2 r2 x3 r3 x4 r4 x5 r5 x6 r6 x7 r7 x8 r8 x9 r9 x10 Kn kG Ko kH Kq kI Kr mI U4 lS U5;have z2:=y'.lt;clear hb y y';go_wp2_with fail;go_ret;exact ⟨aj HR.out.symm,HB2.out⟩
theorem Cx (x y:Sx.Course) (w:World) (ca cb:List Value) (ha:aV w (Old w) x ca) (hb:aV w (Old w) y cb):Calls Tryz.prog 61 #[.agg ca.toArray,.agg cb.toArray] w (ak (decide (x=y)) w):=by
 obtain ⟨cn,cb1,rfl,_,h1,h2⟩:=ha;obtain ⟨cn',YO,rfl,_,h1',h2'⟩:=hb;have k1:=fun W (hW:Below w.heap.size w W)=>xE x.need y.need W cn cn' (cu hW h1) (cu hW h1');have k2:=fun W (hW:Below w.heap.size w W)=>xE x.bar y.bar W cb1 YO (cu hW h2) (cu hW h2');obtain ⟨i0,i1,s2,i3,i4,A5,n5,c5,rfl⟩:=bG h1;obtain ⟨j0,j1,t2,j3,j4,B5,m5,d5,rfl⟩:=bG h2;obtain ⟨YN,LY,s2',Ph,Pj,NA,n5',NC,rfl⟩:=bG h1';obtain ⟨j0',j1',t2',j3',j4',B5',m5',d5',rfl⟩:=bG h2'
 have e:decide (x=y)=((x.name == y.name) && (x.number == y.number) && (x.aU == y.aU) && (x.rep == y.rep) && decide (x.need=y.need) && decide (x.bar=y.bar)):=by
  cases x;cases y;rw[Bool.eq_iff_iff];simp[and_assoc]
 rw[e];exact Cw x.name y.name x.number x.aU x.rep y.number y.aU y.rep i0 i1 s2 i3 i4 A5 n5 c5 j0 j1 t2 j3 j4 B5 m5 d5 YN LY s2' Ph Pj NA n5' NC j0' j1' t2' j3' j4' B5' m5' d5' _ _ w k1 k2
theorem EA (A B:Option Addr) (c d:Nat) (l l':List Sx.Course) (w:World) (hl:Row w (Old w) A 16 (aV w (Old w)) l) (hl':Row w (Old w) B 16 (aV w (Old w)) l')
  (HC:∀ x∈l,∀ y∈l',∀ ca cb W,Below w.heap.size w W→aV W (Old W) x ca→aV W (Old W) y cb→Calls Tryz.prog 61 #[.agg ca.toArray,.agg cb.toArray] W (ak (decide (x=y)) W)) :
  Calls Tryz.prog 68 #[.slice A l.length c,.slice B l'.length d,.func (.func 61) #[] #[]] w (ak (decide (l=l')) w):=by
 obtain ⟨m,hm⟩:∃ m,m=l.length:=⟨_,rfl⟩
 obtain ⟨m',hm'⟩:∃ m,m=l'.length:=⟨_,rfl⟩
 obtain ⟨R,hR⟩:∃ R,R=decide (l=l'):=⟨_,rfl⟩
 have z0:=hl.len;have z1:=hl'.len;rw[←hm] at z0 ⊢;rw[←hm'] at z1 ⊢;rw[←hR];have Hl:=Lh hl;have AV:=Lh hl';have Hm:=Lh hm;have lM:=Lh hm';have HR:=Lh hR;have vH:=Lh HC;clear hl hl' hm hm' hR HC;cases q0:((m:Int) != (m':Int)) with
 | true=>
  have HR2:Hid (R=false):=Lh (by rw [HR.out];exact decide_eq_false fun e=>by rw [Hm.out,lM.out,e] at q0;simp at q0);go_enter Tryz.func68,Tryz.ntmps68;go_wp2_with fail;go_ret;exact ⟨aj HR2.out.symm,Below.refl _ _⟩
 | false=>
 obtain rfl:m=m':=by have:(m:Int)=m':=(by simpa using q0);omega
 go_enter Tryz.func68,Tryz.ntmps68;go_wp2_with fail
 go_loopg [17] m (fun gk v17 wr=>∃ i:Nat,v17 = .int .i64 i∧i+gk=m∧Hid (Below w.heap.size w wr)∧Hid (∀ j x y,j < i→l[j]?=some x→l'[j]?=some y→x=y))
 case atStart=>exact ⟨0,rfl,by omega,Lh (Below.refl _ _),Lh (fun j x y hj=>absurd hj (Nat.not_lt_zero j))⟩
 case round=>
  obtain ⟨i,rfl,hi,Hb,dQ⟩:=hrel;have hws:=Hb.out.size
  by_cases hlt:i < m
  ·obtain ⟨x,hx⟩:∃ x,l[i]?=some x:=⟨_,List.getElem?_eq_getElem (by have:=Hm.out;omega)⟩
   obtain ⟨y,hy⟩:∃ y,l'[i]?=some y:=⟨_,List.getElem?_eq_getElem (by have:=lM.out;omega)⟩
   have Hx:=Lh hx;have Hy:=Lh hy;obtain ⟨bk,ok,cs,rfl,hS,hP,hck⟩:=Hl.out.at_ i x hx;obtain ⟨bl,ol,cs',rfl,hS',hQ,hcl⟩:=AV.out.at_ i y hy;have hcall:=vH.out x (List.mem_of_getElem? hx) y (List.mem_of_getElem? hy) cs cs';have hP':=fZ Hb.out hP;have hQ':=fZ Hb.out hQ;have hbk:bk < wr.heap.size:=Nat.lt_of_lt_of_le hS hws;have hbl:bl < wr.heap.size:=Nat.lt_of_lt_of_le hS' hws;obtain ⟨s0,i1,i2,i3,i4,i5,s6,i7,i8,A9,n9,c9,Qn,i11,s12,Qo,Qp,Qq,n15,c15,rfl⟩:=jP hP
   obtain ⟨SS,LY,SV,Ph,Pj,WW,s6',i7',i8',A9',n9',c9',U6,U7,U8,U9,Va,Vb,n15',Vd,rfl⟩:=jP hQ;have k0:=(Hb.out.cell (p:=⟨bk,_,none⟩) hS).trans (hck 0 _ rfl);have l0:=(Hb.out.cell (p:=⟨bl,_,none⟩) hS').trans (hcl 0 _ rfl);have k1:=(Hb.out.cell (p:=⟨bk,_,none⟩) hS).trans (hck 1 _ rfl);have l1:=(Hb.out.cell (p:=⟨bl,_,none⟩) hS').trans (hcl 1 _ rfl);have k2:=(Hb.out.cell (p:=⟨bk,_,none⟩) hS).trans (hck 2 _ rfl);have l2:=(Hb.out.cell (p:=⟨bl,_,none⟩) hS').trans (hcl 2 _ rfl);have k3:=(Hb.out.cell (p:=⟨bk,_,none⟩) hS).trans (hck 3 _ rfl)
   have l3:=(Hb.out.cell (p:=⟨bl,_,none⟩) hS').trans (hcl 3 _ rfl);have k4:=(Hb.out.cell (p:=⟨bk,_,none⟩) hS).trans (hck 4 _ rfl);have l4:=(Hb.out.cell (p:=⟨bl,_,none⟩) hS').trans (hcl 4 _ rfl);have k5:=(Hb.out.cell (p:=⟨bk,_,none⟩) hS).trans (hck 5 _ rfl);have l5:=(Hb.out.cell (p:=⟨bl,_,none⟩) hS').trans (hcl 5 _ rfl);have k6:=(Hb.out.cell (p:=⟨bk,_,none⟩) hS).trans (hck 6 _ rfl);have l6:=(Hb.out.cell (p:=⟨bl,_,none⟩) hS').trans (hcl 6 _ rfl);have k7:=(Hb.out.cell (p:=⟨bk,_,none⟩) hS).trans (hck 7 _ rfl);have l7:=(Hb.out.cell (p:=⟨bl,_,none⟩) hS').trans (hcl 7 _ rfl)
   have k8:=(Hb.out.cell (p:=⟨bk,_,none⟩) hS).trans (hck 8 _ rfl);have l8:=(Hb.out.cell (p:=⟨bl,_,none⟩) hS').trans (hcl 8 _ rfl);have k9:=(Hb.out.cell (p:=⟨bk,_,none⟩) hS).trans (hck 9 _ rfl);have l9:=(Hb.out.cell (p:=⟨bl,_,none⟩) hS').trans (hcl 9 _ rfl);have k10:=(Hb.out.cell (p:=⟨bk,_,none⟩) hS).trans (hck 10 _ rfl);have l10:=(Hb.out.cell (p:=⟨bl,_,none⟩) hS').trans (hcl 10 _ rfl);have k11:=(Hb.out.cell (p:=⟨bk,_,none⟩) hS).trans (hck 11 _ rfl);have Ve:=(Hb.out.cell (p:=⟨bl,_,none⟩) hS').trans (hcl 11 _ rfl);have k12:=(Hb.out.cell (p:=⟨bk,_,none⟩) hS).trans (hck 12 _ rfl)
   have Vf:=(Hb.out.cell (p:=⟨bl,_,none⟩) hS').trans (hcl 12 _ rfl);have k13:=(Hb.out.cell (p:=⟨bk,_,none⟩) hS).trans (hck 13 _ rfl);have Vg:=(Hb.out.cell (p:=⟨bl,_,none⟩) hS').trans (hcl 13 _ rfl);have k14:=(Hb.out.cell (p:=⟨bk,_,none⟩) hS).trans (hck 14 _ rfl);have Vh:=(Hb.out.cell (p:=⟨bl,_,none⟩) hS').trans (hcl 14 _ rfl);have k15:=(Hb.out.cell (p:=⟨bk,_,none⟩) hS).trans (hck 15 _ rfl);have Vi:=(Hb.out.cell (p:=⟨bl,_,none⟩) hS').trans (hcl 15 _ rfl);simp only[Nat.add_zero] at k0 l0 k1 l1 k2 l2 k3 l3 k4 l4 k5 l5 k6 l6 k7 l7 k8 l8 k9 l9 k10 l10 k11 Ve k12 Vf k13 Vg k14 Vh k15 Vi
   obtain ⟨W1,hW1⟩:∃ W,W=wr.alloc (.cells #[.string s0,.int .i64 i1,.int .i64 i2,.int .i64 i3,.int .i64 i4,.int .i64 i5,.string s6,.int .i64 i7,.int .i64 i8,.slice A9 n9 c9,.int .i64 Qn,.int .i64 i11,.string s12,.int .i64 Qo,.int .i64 Qp,.slice Qq n15 c15] 58):=⟨_,rfl⟩
   obtain ⟨W,hW⟩:∃ W,W=W1.alloc (.cells #[.string SS,.int .i64 LY,.int .i64 SV,.int .i64 Ph,.int .i64 Pj,.int .i64 WW,.string s6',.int .i64 i7',.int .i64 i8',.slice A9' n9' c9',.int .i64 U6,.int .i64 U7,.string U8,.int .i64 U9,.int .i64 Va,.slice Vb n15' Vd] 58):=⟨_,rfl⟩
   have hs1:W1.heap.size=wr.heap.size+1:=by rw [hW1];simp
   have hb1:Below wr.heap.size wr W1:=by rw [hW1];exact (Below.refl _ _).alloc (Nat.le_refl _) _
   have hbw:Below wr.heap.size wr W:=by rw [hW];exact hb1.alloc (by omega) _
   have e1:aC W wr.heap.size 58 #[.string s0,.int .i64 i1,.int .i64 i2,.int .i64 i3,.int .i64 i4,.int .i64 i5,.string s6,.int .i64 i7,.int .i64 i8,.slice A9 n9 c9,.int .i64 Qn,.int .i64 i11,.string s12,.int .i64 Qo,.int .i64 Qp,.slice Qq n15 c15]:=by rw [hW,hW1];exact (aC.new wr _ _).alloc _
   have e2:aC W (wr.heap.size+1) 58 #[.string SS,.int .i64 LY,.int .i64 SV,.int .i64 Ph,.int .i64 Pj,.int .i64 WW,.string s6',.int .i64 i7',.int .i64 i8',.slice A9' n9' c9',.int .i64 U6,.int .i64 U7,.string U8,.int .i64 U9,.int .i64 Va,.slice Vb n15' Vd]:=by rw [hW];exact aC.aZ _ _ hs1
   have m0:=(hb1.cell (p:=⟨bl,_,none⟩) hbl).trans l0;have m1:=(hb1.cell (p:=⟨bl,_,none⟩) hbl).trans l1;have m2:=(hb1.cell (p:=⟨bl,_,none⟩) hbl).trans l2;have m3:=(hb1.cell (p:=⟨bl,_,none⟩) hbl).trans l3;have m4:=(hb1.cell (p:=⟨bl,_,none⟩) hbl).trans l4;have m5:=(hb1.cell (p:=⟨bl,_,none⟩) hbl).trans l5;have m6:=(hb1.cell (p:=⟨bl,_,none⟩) hbl).trans l6;have m7:=(hb1.cell (p:=⟨bl,_,none⟩) hbl).trans l7;have m8:=(hb1.cell (p:=⟨bl,_,none⟩) hbl).trans l8;have m9:=(hb1.cell (p:=⟨bl,_,none⟩) hbl).trans l9;have m10:=(hb1.cell (p:=⟨bl,_,none⟩) hbl).trans l10
   have m11:=(hb1.cell (p:=⟨bl,_,none⟩) hbl).trans Ve;have m12:=(hb1.cell (p:=⟨bl,_,none⟩) hbl).trans Vf;have m13:=(hb1.cell (p:=⟨bl,_,none⟩) hbl).trans Vg;have m14:=(hb1.cell (p:=⟨bl,_,none⟩) hbl).trans Vh;have m15:=(hb1.cell (p:=⟨bl,_,none⟩) hbl).trans Vi;have q2i:bl < W1.heap.size:=by omega
   have hbW:=Hb.out.trans (hbw.mono hws);have aH:=Lh (hcall W hbW (fZ hbw hP') (fZ hbw hQ'));have yN:=Lh hbW;have E1:=Lh e1;have E2:=Lh e2;have hs2:W.heap.size=wr.heap.size+2:=by rw [hW];simp;omega
   have Hi:=Lh hi;clear hcall hP hP' hQ hQ' hck hcl hx hy hbw hbW hb1 e1 e2 l0 l1 l2 l3 l4 l5 l6 l7 l8 l9 l10 Ve Vf Vg Vh Vi;obtain ⟨b,hb⟩:∃ b,b=decide (x=y):=⟨_,rfl⟩
   rw[←hb] at aH;have HB:=Lh hb;clear hb;go_upto_region 6 with fail;rw[←hW1]
   as_aux_lemma=>
   clear k0 k1 k2 k3 k4 k5 k6 k7 k8 k9 k10 k11 k12 k13 k14 k15 hW1;go_upto_region 7 with fail;rw[←hW]
   as_aux_lemma=>
   clear m0 m1 m2 m3 m4 m5 m6 m7 m8 m9 m10 m11 m12 m13 m14 m15 hW;have x0:=E1.out.cell 0;have x1:=E1.out.cell 1;have x2:=E1.out.cell 2;have x3:=E1.out.cell 3;have x4:=E1.out.cell 4;have x5:=E1.out.cell 5;have x6:=E1.out.cell 6;have x7:=E1.out.cell 7;have x8:=E1.out.cell 8;have x9:=E1.out.cell 9;have x10:=E1.out.cell 10;have kG:=E1.out.cell 11;have kH:=E1.out.cell 12;have kI:=E1.out.cell 13;have mI:=E1.out.cell 14;have lS:=E1.out.cell 15
   have y0:=E2.out.cell 0;have y1:=E2.out.cell 1;have y2:=E2.out.cell 2;have y3:=E2.out.cell 3;have y4:=E2.out.cell 4;have y5:=E2.out.cell 5;have y6:=E2.out.cell 6;have y7:=E2.out.cell 7;have y8:=E2.out.cell 8;have y9:=E2.out.cell 9;have FM:=E2.out.cell 10;have ND:=E2.out.cell 11;have NG:=E2.out.cell 12;have y13:=E2.out.cell 13;have NH:=E2.out.cell 14;have NI:=E2.out.cell 15;simp at x0 x1 x2 x3 x4 x5 x6 x7 x8 x9 x10 kG kH kI mI lS y0 y1 y2 y3 y4 y5 y6 y7 y8 y9 FM ND NG y13 NH NI;have hlw:wr.heap.size+1 < W.heap.size:=E2.out.lt;go_wp2_with fail;refine aH.out.mono ?_
   rintro e w5 ⟨rfl,hb5⟩;have Hb5:=Lh hb5;clear hb5 x0 x1 x2 x3 x4 x5 x6 x7 x8 x9 x10 kG kH kI mI lS y0 y1 y2 y3 y4 y5 y6 y7 y8 y9 FM ND NG y13 NH NI;cases b with
   | false=>
    have HR2:Hid (R=false):=Lh (by
     rw[HR.out];exact decide_eq_false fun e=>(of_decide_eq_false HB.out.symm) (by have h1:=Hx.out;rw[e,Hy.out] at h1;injection h1 with h1;exact h1.symm))
    go_wp2_with fail;go_ret;exact ⟨aj HR2.out.symm,yN.out.trans (Hb5.out.mono yN.out.size)⟩
   | true=>
    have Hq:=Lh (of_decide_eq_true HB.out.symm);go_wp2_with fail
    go_roundg (gk - 1)
    all_goals first
     | omega
     | exact ⟨i+1,by go_num,by omega,Lh (yN.out.trans (Hb5.out.mono yN.out.size)),Lh (fun j a b hj h1 h2=>by
       rcases Nat.lt_or_ge j i with h3 | h3
       ·exact dQ.out j a b h3 h1 h2
       ·obtain rfl:j=i:=by omega
        rw[Hx.out] at h1;rw[Hy.out] at h2;injection h1 with h1;injection h2 with h2;rw[←h1,←h2];exact Hq.out)⟩
  ·obtain rfl:i=m:=by omega
   have HR2:Hid (R=true):=Lh (by
    rw[HR.out];refine decide_eq_true (List.ext_getElem? fun j=>?_)
    rcases Nat.lt_or_ge j i with h3 | h3
    ·have h1:l[j]?=some (l[j]'(by have:=Hm.out;omega)):=List.getElem?_eq_getElem _;have h2:l'[j]?=some (l'[j]'(by have:=lM.out;omega)):=List.getElem?_eq_getElem _;rw[h1,h2,dQ.out j _ _ h3 h1 h2]
    ·rw[List.getElem?_eq_none (by have:=Hm.out;omega),List.getElem?_eq_none (by have:=lM.out;omega)])
   go_wp2_with fail;go_ret;exact ⟨aj HR2.out.symm,Hb.out⟩
end Go.Proofs.YtjonaidancomgaaGreatDoor
