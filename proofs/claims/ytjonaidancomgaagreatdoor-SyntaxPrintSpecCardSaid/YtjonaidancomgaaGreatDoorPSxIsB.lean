/- Parts of the proof, joined into one text: q1t, Zg, Zh, Zi, Zj. -/
import Derived.Test.YtjonaidancomgaaGreatDoorPSxFewW
import Derived.Test.YtjonaidancomgaaGreatDoorPSxAll
import Derived.Test.YtjonaidancomgaaGreatDoorPSxRd
import Derived.Deep.CutRange
set_option maxHeartbeats 8000000
set_option maxRecDepth 20000
namespace Go.Proofs.YtjonaidancomgaaGreatDoor
open Go.RowKit
theorem QZ (op co n d:Int) (nm:List UInt8) (A:Option Addr) (m c:Nat) (w:World) :
    Calls Tryz.prog 149 #[.agg #[.int .i64 op,.int .i64 co,.string (Lx.bs nm),.int .i64 n,.int .i64 d,.slice A m c],.bool false,.bool false,.bool false,.bool true] w (ak (nm.isEmpty && (co == 0) && (n == 0) && (d == 0)) w):=by
  obtain ⟨R,hR⟩:∃ R:Bool,R=(nm.isEmpty && (co == 0) && (n == 0) && (d == 0)):=⟨_,rfl⟩
  rw[←hR];have HR:=Lh hR;have HB0:=Lh (show Below w.heap.size w (w.alloc (.cells #[.int .i64 op,.int .i64 co,.string (Lx.bs nm),.int .i64 n,.int .i64 d,.slice A m c] 38)) from (Below.refl _ _).alloc (Nat.le_refl _) _);have hbs:((Lx.bs nm).toList == (⟨#[]⟩:ByteArray).toList)=nm.isEmpty:=by rw [ByteArray.toList_eq,ByteArray.toList_eq,Lx.aK];cases nm <;> rfl
  have fH:(Lx.bs nm).toList.isEmpty=nm.isEmpty:=by rw [ByteArray.toList_eq,Lx.aK]
  clear hR;cases q0:nm.isEmpty with
  | false=>
    have HF:Hid (R=false):=Lh (by rw [HR.out,q0];simp);rw[q0] at hbs fH;go_enter Tryz.func149,Tryz.ntmps149;go_wp2_with fail;go_ret;exact ⟨aj HF.out.symm,HB0.out⟩
  | true=>
  rw[q0] at hbs fH;cases q1:(co == 0) with
  | false=>
    have HF:Hid (R=false):=Lh (by rw [HR.out,q0,q1];simp);go_enter Tryz.func149,Tryz.ntmps149;go_wp2_with fail;go_ret;exact ⟨aj HF.out.symm,HB0.out⟩
  | true=>
  cases q2:(n == 0) with
  | false=>
    have HF:Hid (R=false):=Lh (by rw [HR.out,q0,q1,q2];simp);go_enter Tryz.func149,Tryz.ntmps149;go_wp2_with fail;go_ret;exact ⟨aj HF.out.symm,HB0.out⟩
  | true=>
  cases q3:(d == 0) with
  | false=>
    have HF:Hid (R=false):=Lh (by rw [HR.out,q0,q1,q2,q3];simp);go_enter Tryz.func149,Tryz.ntmps149;go_wp2_with fail;go_ret;exact ⟨aj HF.out.symm,HB0.out⟩
  | true=>
  have HF:Hid (R=true):=Lh (by rw [HR.out,q0,q1,q2,q3];rfl);go_enter Tryz.func149,Tryz.ntmps149;go_wp2_with fail;go_ret;exact ⟨aj HF.out.symm,HB0.out⟩
theorem Zk (op co n d:Int) (nm:List UInt8) (A:Option Addr) (m c:Nat) (w:World) :
    Calls Tryz.prog 149 #[.agg #[.int .i64 op,.int .i64 co,.string (Lx.bs nm),.int .i64 n,.int .i64 d,.slice A m c],.bool false,.bool true,.bool false,.bool true] w (ak (nm.isEmpty && (co == 0) && (d == 0)) w):=by
  obtain ⟨R,hR⟩:∃ R:Bool,R=(nm.isEmpty && (co == 0) && (d == 0)):=⟨_,rfl⟩
  rw[←hR];have HR:=Lh hR;have HB0:=Lh (show Below w.heap.size w (w.alloc (.cells #[.int .i64 op,.int .i64 co,.string (Lx.bs nm),.int .i64 n,.int .i64 d,.slice A m c] 38)) from (Below.refl _ _).alloc (Nat.le_refl _) _);have hbs:((Lx.bs nm).toList == (⟨#[]⟩:ByteArray).toList)=nm.isEmpty:=by rw [ByteArray.toList_eq,ByteArray.toList_eq,Lx.aK];cases nm <;> rfl
  have fH:(Lx.bs nm).toList.isEmpty=nm.isEmpty:=by rw [ByteArray.toList_eq,Lx.aK]
  clear hR;cases q0:nm.isEmpty with
  | false=>
    have HF:Hid (R=false):=Lh (by rw [HR.out,q0];simp);rw[q0] at hbs fH;go_enter Tryz.func149,Tryz.ntmps149;go_wp2_with fail;go_ret;exact ⟨aj HF.out.symm,HB0.out⟩
  | true=>
  rw[q0] at hbs fH;cases q1:(co == 0) with
  | false=>
    have HF:Hid (R=false):=Lh (by rw [HR.out,q0,q1];simp);go_enter Tryz.func149,Tryz.ntmps149;go_wp2_with fail;go_ret;exact ⟨aj HF.out.symm,HB0.out⟩
  | true=>
  cases q2:(d == 0) with
  | false=>
    have HF:Hid (R=false):=Lh (by rw [HR.out,q0,q1,q2];simp);go_enter Tryz.func149,Tryz.ntmps149;go_wp2_with fail;go_ret;exact ⟨aj HF.out.symm,HB0.out⟩
  | true=>
  have HF:Hid (R=true):=Lh (by rw [HR.out,q0,q1,q2];rfl);go_enter Tryz.func149,Tryz.ntmps149;go_wp2_with fail;go_ret;exact ⟨aj HF.out.symm,HB0.out⟩
theorem Vv (op co n d:Int) (nm:List UInt8) (A:Option Addr) (m c:Nat) (w:World) :
    Calls Tryz.prog 149 #[.agg #[.int .i64 op,.int .i64 co,.string (Lx.bs nm),.int .i64 n,.int .i64 d,.slice A m c],.bool true,.bool true,.bool false,.bool false] w (ak ((d == 0) && ((m:Int) == 0)) w):=by
  obtain ⟨R,hR⟩:∃ R:Bool,R=((d == 0) && ((m:Int) == 0)):=⟨_,rfl⟩
  rw[←hR];have HR:=Lh hR;have HB0:=Lh (show Below w.heap.size w (w.alloc (.cells #[.int .i64 op,.int .i64 co,.string (Lx.bs nm),.int .i64 n,.int .i64 d,.slice A m c] 38)) from (Below.refl _ _).alloc (Nat.le_refl _) _);have hbs:((Lx.bs nm).toList == (⟨#[]⟩:ByteArray).toList)=nm.isEmpty:=by rw [ByteArray.toList_eq,ByteArray.toList_eq,Lx.aK];cases nm <;> rfl
  have fH:(Lx.bs nm).toList.isEmpty=nm.isEmpty:=by rw [ByteArray.toList_eq,Lx.aK]
  clear hR;cases q0:(d == 0) with
  | false=>
    have HF:Hid (R=false):=Lh (by rw [HR.out,q0];simp);go_enter Tryz.func149,Tryz.ntmps149;go_wp2_with fail;go_ret;exact ⟨aj HF.out.symm,HB0.out⟩
  | true=>
  cases q1:((m:Int) == 0) with
  | false=>
    have HF:Hid (R=false):=Lh (by rw [HR.out,q0,q1];simp);go_enter Tryz.func149,Tryz.ntmps149;go_wp2_with fail;go_ret;exact ⟨aj HF.out.symm,HB0.out⟩
  | true=>
  have HF:Hid (R=true):=Lh (by rw [HR.out,q0,q1];rfl);go_enter Tryz.func149,Tryz.ntmps149;go_wp2_with fail;go_ret;exact ⟨aj HF.out.symm,HB0.out⟩
theorem Zl (op co n d:Int) (nm:List UInt8) (A:Option Addr) (m c:Nat) (w:World) :
    Calls Tryz.prog 149 #[.agg #[.int .i64 op,.int .i64 co,.string (Lx.bs nm),.int .i64 n,.int .i64 d,.slice A m c],.bool false,.bool true,.bool false,.bool false] w (ak (nm.isEmpty && (co == 0) && (d == 0) && ((m:Int) == 0)) w):=by
  obtain ⟨R,hR⟩:∃ R:Bool,R=(nm.isEmpty && (co == 0) && (d == 0) && ((m:Int) == 0)):=⟨_,rfl⟩
  rw[←hR];have HR:=Lh hR;have HB0:=Lh (show Below w.heap.size w (w.alloc (.cells #[.int .i64 op,.int .i64 co,.string (Lx.bs nm),.int .i64 n,.int .i64 d,.slice A m c] 38)) from (Below.refl _ _).alloc (Nat.le_refl _) _);have hbs:((Lx.bs nm).toList == (⟨#[]⟩:ByteArray).toList)=nm.isEmpty:=by rw [ByteArray.toList_eq,ByteArray.toList_eq,Lx.aK];cases nm <;> rfl
  have fH:(Lx.bs nm).toList.isEmpty=nm.isEmpty:=by rw [ByteArray.toList_eq,Lx.aK]
  clear hR;cases q0:nm.isEmpty with
  | false=>
    have HF:Hid (R=false):=Lh (by rw [HR.out,q0];simp);rw[q0] at hbs fH;go_enter Tryz.func149,Tryz.ntmps149;go_wp2_with fail;go_ret;exact ⟨aj HF.out.symm,HB0.out⟩
  | true=>
  rw[q0] at hbs fH;cases q1:(co == 0) with
  | false=>
    have HF:Hid (R=false):=Lh (by rw [HR.out,q0,q1];simp);go_enter Tryz.func149,Tryz.ntmps149;go_wp2_with fail;go_ret;exact ⟨aj HF.out.symm,HB0.out⟩
  | true=>
  cases q2:(d == 0) with
  | false=>
    have HF:Hid (R=false):=Lh (by rw [HR.out,q0,q1,q2];simp);go_enter Tryz.func149,Tryz.ntmps149;go_wp2_with fail;go_ret;exact ⟨aj HF.out.symm,HB0.out⟩
  | true=>
  cases q3:((m:Int) == 0) with
  | false=>
    have HF:Hid (R=false):=Lh (by rw [HR.out,q0,q1,q2,q3];simp);go_enter Tryz.func149,Tryz.ntmps149;go_wp2_with fail;go_ret;exact ⟨aj HF.out.symm,HB0.out⟩
  | true=>
  have HF:Hid (R=true):=Lh (by rw [HR.out,q0,q1,q2,q3];rfl);go_enter Tryz.func149,Tryz.ntmps149;go_wp2_with fail;go_ret;exact ⟨aj HF.out.symm,HB0.out⟩
theorem Zm (op co n d:Int) (nm:List UInt8) (A:Option Addr) (m c:Nat) (w:World) :
    Calls Tryz.prog 149 #[.agg #[.int .i64 op,.int .i64 co,.string (Lx.bs nm),.int .i64 n,.int .i64 d,.slice A m c],.bool false,.bool true,.bool true,.bool false] w (ak (nm.isEmpty && (co == 0) && ((m:Int) == 0)) w):=by
  obtain ⟨R,hR⟩:∃ R:Bool,R=(nm.isEmpty && (co == 0) && ((m:Int) == 0)):=⟨_,rfl⟩
  rw[←hR];have HR:=Lh hR;have HB0:=Lh (show Below w.heap.size w (w.alloc (.cells #[.int .i64 op,.int .i64 co,.string (Lx.bs nm),.int .i64 n,.int .i64 d,.slice A m c] 38)) from (Below.refl _ _).alloc (Nat.le_refl _) _);have hbs:((Lx.bs nm).toList == (⟨#[]⟩:ByteArray).toList)=nm.isEmpty:=by rw [ByteArray.toList_eq,ByteArray.toList_eq,Lx.aK];cases nm <;> rfl
  have fH:(Lx.bs nm).toList.isEmpty=nm.isEmpty:=by rw [ByteArray.toList_eq,Lx.aK]
  clear hR;cases q0:nm.isEmpty with
  | false=>
    have HF:Hid (R=false):=Lh (by rw [HR.out,q0];simp);rw[q0] at hbs fH;go_enter Tryz.func149,Tryz.ntmps149;go_wp2_with fail;go_ret;exact ⟨aj HF.out.symm,HB0.out⟩
  | true=>
  rw[q0] at hbs fH;cases q1:(co == 0) with
  | false=>
    have HF:Hid (R=false):=Lh (by rw [HR.out,q0,q1];simp);go_enter Tryz.func149,Tryz.ntmps149;go_wp2_with fail;go_ret;exact ⟨aj HF.out.symm,HB0.out⟩
  | true=>
  cases q2:((m:Int) == 0) with
  | false=>
    have HF:Hid (R=false):=Lh (by rw [HR.out,q0,q1,q2];simp);go_enter Tryz.func149,Tryz.ntmps149;go_wp2_with fail;go_ret;exact ⟨aj HF.out.symm,HB0.out⟩
  | true=>
  have HF:Hid (R=true):=Lh (by rw [HR.out,q0,q1,q2];rfl);go_enter Tryz.func149,Tryz.ntmps149;go_wp2_with fail;go_ret;exact ⟨aj HF.out.symm,HB0.out⟩
theorem Zn (op co n d:Int) (nm:List UInt8) (A:Option Addr) (m c:Nat) (w:World) :
    Calls Tryz.prog 149 #[.agg #[.int .i64 op,.int .i64 co,.string (Lx.bs nm),.int .i64 n,.int .i64 d,.slice A m c],.bool true,.bool false,.bool false,.bool false] w (ak ((n == 0) && (d == 0) && ((m:Int) == 0)) w):=by
  obtain ⟨R,hR⟩:∃ R:Bool,R=((n == 0) && (d == 0) && ((m:Int) == 0)):=⟨_,rfl⟩
  rw[←hR];have HR:=Lh hR;have HB0:=Lh (show Below w.heap.size w (w.alloc (.cells #[.int .i64 op,.int .i64 co,.string (Lx.bs nm),.int .i64 n,.int .i64 d,.slice A m c] 38)) from (Below.refl _ _).alloc (Nat.le_refl _) _);have hbs:((Lx.bs nm).toList == (⟨#[]⟩:ByteArray).toList)=nm.isEmpty:=by rw [ByteArray.toList_eq,ByteArray.toList_eq,Lx.aK];cases nm <;> rfl
  have fH:(Lx.bs nm).toList.isEmpty=nm.isEmpty:=by rw [ByteArray.toList_eq,Lx.aK]
  clear hR;cases q0:(n == 0) with
  | false=>
    have HF:Hid (R=false):=Lh (by rw [HR.out,q0];simp);go_enter Tryz.func149,Tryz.ntmps149;go_wp2_with fail;go_ret;exact ⟨aj HF.out.symm,HB0.out⟩
  | true=>
  cases q1:(d == 0) with
  | false=>
    have HF:Hid (R=false):=Lh (by rw [HR.out,q0,q1];simp);go_enter Tryz.func149,Tryz.ntmps149;go_wp2_with fail;go_ret;exact ⟨aj HF.out.symm,HB0.out⟩
  | true=>
  cases q2:((m:Int) == 0) with
  | false=>
    have HF:Hid (R=false):=Lh (by rw [HR.out,q0,q1,q2];simp);go_enter Tryz.func149,Tryz.ntmps149;go_wp2_with fail;go_ret;exact ⟨aj HF.out.symm,HB0.out⟩
  | true=>
  have HF:Hid (R=true):=Lh (by rw [HR.out,q0,q1,q2];rfl);go_enter Tryz.func149,Tryz.ntmps149;go_wp2_with fail;go_ret;exact ⟨aj HF.out.symm,HB0.out⟩
theorem Sx.Iq (k:Nat) (op co:Int) (nm:List UInt8) (n d:Int) (ks:List Sx.Rule) (h1:ks.length≤200) (h2:∀ y∈ks,Sx.aO k y=true) (_o:Bool→Bool) :
    Sx.aO (k+1) (.mk op co nm n d ks)=(if op=1∨op=2 then nm.isEmpty && co == 0 && n == 0 && d == 0
     else if op=3 then nm.isEmpty && co == 0 && Sx.dX n 0 200 && d == 0
     else if op=4 then nm.isEmpty && co == 0 && n == 0 && d == 0 && ((ks.length:Int) == 1)
     else if op=5 then Sx.bQ nm co && Sx.dX n 0 12 && d == 0 && ((ks.length:Int) == 0)
     else if op=6 then Sx.bQ nm co && Sx.dX n 1 100 && d == 0 && ((ks.length:Int) == 0)
     else if op=7 then nm.isEmpty && co == 0 && Sx.dX n 0 10000 && d == 0 && ((ks.length:Int) == 0)
     else if op=8 then nm.isEmpty && co == 0 && Sx.bL.fine ⟨n,d⟩ && ((ks.length:Int) == 0)
     else if op=9 then Sx.bQ nm co && n == 0 && d == 0 && ((ks.length:Int) == 0)
     else false):=by
  have e1:((ks.length:Int) == 1)=(ks.length == 1):=by rw [Bool.eq_iff_iff];simp;omega
  have e0:((ks.length:Int) == 0)=ks.isEmpty:=by cases ks <;> simp;omega
  have e2:Sx.dU k ks=true:=by
    have:∀ l:List Sx.Rule,(∀ y∈l,Sx.aO k y=true)→Sx.dU k l=true:=fun l=>by
      induction l with
      | nil=>intro _;rfl
      | cons y l ih=>intro h;rw[Sx.dU,h y (by simp),ih fun z hz=>h z (by simp [hz])];rfl
    exact this ks h2
  rw[e1,e0,Sx.aO,e2,decide_eq_true h1,Bool.true_and,Bool.true_and]
theorem Sx.EK {k:Nat} {op co:Int} {nm:List UInt8} {n d:Int} {ks:List Sx.Rule} {i:Nat} {y:Sx.Rule} (hy:ks[i]?=some y) (h:Sx.aO k y=false):Sx.aO (k+1) (.mk op co nm n d ks)=false:=by
  cases q:Sx.aO (k+1) (.mk op co nm n d ks) with
  | false=>rfl
  | true=>
    rw[Sx.aO] at q;simp only[Bool.and_eq_true] at q;rw[Sx.jR q.1.2 y (List.mem_of_getElem? hy)] at h;cases h
theorem Sx.CU {k:Nat} {op co:Int} {nm:List UInt8} {n d:Int} {ks:List Sx.Rule} (h:200 < ks.length):Sx.aO (k+1) (.mk op co nm n d ks)=false:=by
  rw[Sx.aO,decide_eq_false (by omega)];simp
theorem vU:∀ (k:Nat) (z:Int),z=17 - (k:Int)→k≤16→∀ (r:Sx.Rule) (w:World) (cs:List Value),aB w (Old w) r cs→Calls Tryz.prog 59 #[.agg cs.toArray,.int .i64 z] w (ak (Sx.aO k r) w)
  | 0,z,hz,_,r,w,cs,h=>by
    obtain rfl:z=17:=by omega
    obtain ⟨i0,i1,s2,i3,i4,A5,n5,c5,rfl⟩:=bG h;have e:Sx.aO 0 r=false:=by cases r;rfl
    rw[e];clear h hz e;go_enter Tryz.func59,Tryz.ntmps59;go_wp2_with fail;go_ret;exact ⟨rfl,(Below.refl _ _).alloc (Nat.le_refl _) _⟩
  | k+1,z,hz,hk,.mk op co nm n d ks,w,cs,h=>by
    have BG:=Lh (vU k (z+1) (by omega) (by omega));rw[aB] at h;obtain ⟨A,c,rfl,hn,hkl,hA⟩:=h;have UF:=Lh hA;obtain ⟨R,hR⟩:∃ R,R=Sx.aO (k+1) (.mk op co nm n d ks):=⟨_,rfl⟩
    rw[←hR];obtain ⟨m,hm⟩:∃ m,m=ks.length:=⟨_,rfl⟩
    rw[←hm] at hkl ⊢;have Hm:=Lh hm;have HR:=Lh hR;have hz1:¬ 16 < z:=by omega
    have hz2:0≤z:=by omega
    unfold aT bB;obtain ⟨W,hW⟩:∃ W,W=w.alloc (.cells #[.int .i64 op,.int .i64 co,.string (Lx.bs nm),.int .i64 n,.int .i64 d,.slice A m c] 38):=⟨_,rfl⟩
    have hb0:Below w.heap.size w W:=by rw [hW];exact (Below.refl _ _).alloc (Nat.le_refl _) _
    have e0:aC W w.heap.size 38 #[.int .i64 op,.int .i64 co,.string (Lx.bs nm),.int .i64 n,.int .i64 d,.slice A m c]:=by rw [hW];exact aC.new _ _ _
    have sF:=Lh e0;have HB0:=Lh hb0;clear hA hm hR hz e0 hb0
    by_cases hl:200 < m
    · have HF:Hid (R=false):=Lh (by rw [HR.out];exact Sx.CU (by rw [←Hm.out];exact hl));go_enter Tryz.func59,Tryz.ntmps59;go_wp2_with fail;go_ret;exact ⟨aj HF.out.symm,by rw [←hW];exact HB0.out⟩
    go_enter Tryz.func59,Tryz.ntmps59;go_wp2_with fail
    try rw [←hW]
    clear hW
    go_loopg [5] m (fun gk v5 wr=>∃ i:Nat,v5 = .int .i64 i∧i+gk=m∧Hid (∀ (j:Nat) y,j < i→ks[j]?=some y→Sx.aO k y=true)∧Hid (Below W.heap.size W wr))
    case atStart=>exact ⟨0,rfl,by omega,Lh (fun j y hj=>absurd hj (Nat.not_lt_zero j)),Lh (Below.refl _ _)⟩
    case round=>
      obtain ⟨i,rfl,hi,dQ,Hb⟩:=hrel;have Bl:=Lh (HB0.out.trans (Hb.out.mono HB0.out.size));have E1:=Lh (sF.out.below Hb.out sF.out.lt);have hWs:=HB0.out.size;obtain ⟨x0,x1,x2,x3,x4,x5,xz⟩:=aQ E1.out
      by_cases hlt:i < m
      · obtain ⟨y,hy⟩:∃ y,ks[i]?=some y:=⟨_,List.getElem?_eq_getElem (by have:=Hm.out;omega)⟩
        have Hy:=Lh hy;obtain ⟨bk,ok,Fw,rfl,gV,oL,hck⟩:=UF.out.get i y hy;have mK:=oL.old Bl.out;obtain ⟨i0,i1,s2,i3,i4,A5,n5,c5,rfl⟩:=bG oL;have k0:=(Bl.out.cell (p:=⟨bk,_,none⟩) gV).trans (hck 0 _ rfl);have k1:=(Bl.out.cell (p:=⟨bk,_,none⟩) gV).trans (hck 1 _ rfl);have k2:=(Bl.out.cell (p:=⟨bk,_,none⟩) gV).trans (hck 2 _ rfl);have k3:=(Bl.out.cell (p:=⟨bk,_,none⟩) gV).trans (hck 3 _ rfl);have k4:=(Bl.out.cell (p:=⟨bk,_,none⟩) gV).trans (hck 4 _ rfl);have k5:=(Bl.out.cell (p:=⟨bk,_,none⟩) gV).trans (hck 5 _ rfl);simp only[Nat.zero_add,Nat.add_zero] at k0 k1 k2 k3 k4 k5
        have aH:=Lh (BG.out y wr _ mK);clear mK oL hck hy;cases q:Sx.aO k y with
        | false=>
          have HF:Hid (R=false):=Lh (by rw [HR.out];exact Sx.EK Hy.out q);rw[q] at aH;clear q;go_wp2_with fail;refine aH.out.mono ?_;rintro e w5 ⟨rfl,hb5⟩;have Hb5:=Lh hb5;clear hb5;go_wp2_with fail;go_ret;exact ⟨aj HF.out.symm,Bl.out.trans (Hb5.out.mono Bl.out.size)⟩
        | true=>
          have HQ:=Lh q;rw[q] at aH;clear q;go_wp2_with fail;refine aH.out.mono ?_;rintro e w5 ⟨rfl,hb5⟩;have Hb5:=Lh hb5;clear hb5;go_wp2_with fail
          go_roundg (gk - 1)
          all_goals first
            | omega
            | exact ⟨i+1,by go_num,by omega,Lh (fun j u hj h1=>by
                rcases Nat.lt_or_ge j i with h3 | h3
                · exact dQ.out j u h3 h1
                · obtain rfl:j=i:=by omega
                  rw[Hy.out] at h1;injection h1 with h1;rw[←h1];exact HQ.out),Lh (Hb.out.trans (Hb5.out.mono Hb.out.size))⟩
      · obtain rfl:i=m:=by omega
        have HRR:=Lh (HR.out.trans (Sx.Iq k op co nm n d ks (by rw [←Hm.out];omega) (fun y hy=>by
          obtain ⟨j,hj⟩:=List.getElem?_of_mem hy;exact dQ.out j y (by have:=(List.getElem?_eq_some_iff.1 hj).1;have:=Hm.out;omega) hj) id))
        rw[←Hm.out] at HRR;clear HR dQ hi hlt;cases q1:(op == 1) with
        | true=>
          have HP:Hid (R=((nm.isEmpty && (co == 0) && (n == 0) && (d == 0)))):=Lh (by rw [HRR.out,if_pos (.inl (by simpa using q1))];try (rw [Bool.eq_iff_iff];simp[and_comm,and_left_comm,and_assoc]));clear HRR;go_wp2_with fail;refine (QZ op co n d nm A i c _).mono ?_;rintro e v0 ⟨rfl,hb⟩;have V0:=Lh (Bl.out.trans (hb.mono Bl.out.size));have F0:=Lh (E1.out.below hb E1.out.lt);obtain ⟨y0,y1,y2,y3,y4,y5,yz⟩:=aQ F0.out;clear hb x0 x1 x2 x3 x4 x5;go_wp2_with fail;go_ret;exact ⟨aj (by rw [HP.out]),V0.out⟩
        | false=>
        cases q2:(op == 2) with
        | true=>
          have HP:Hid (R=((nm.isEmpty && (co == 0) && (n == 0) && (d == 0)))):=Lh (by rw [HRR.out,if_pos (.inr (by simpa using q2))];try (rw [Bool.eq_iff_iff];simp[and_comm,and_left_comm,and_assoc]));clear HRR;go_wp2_with fail;refine (QZ op co n d nm A i c _).mono ?_;rintro e v0 ⟨rfl,hb⟩;have V0:=Lh (Bl.out.trans (hb.mono Bl.out.size));have F0:=Lh (E1.out.below hb E1.out.lt);obtain ⟨y0,y1,y2,y3,y4,y5,yz⟩:=aQ F0.out;clear hb x0 x1 x2 x3 x4 x5;go_wp2_with fail;go_ret;exact ⟨aj (by rw [HP.out]),V0.out⟩
        | false=>
        cases q3:(op == 3) with
        | true=>
          have HP:Hid (R=((nm.isEmpty && (co == 0) && (d == 0)) && Sx.dX n 0 200)):=Lh (by rw [HRR.out,if_neg (by simp at q1 q2;omega),if_pos (by simp at q3;omega)];try (rw [Bool.eq_iff_iff];simp[and_comm,and_left_comm,and_assoc]));clear HRR;go_wp2_with fail;refine (Zk op co n d nm A i c _).mono ?_;rintro e v0 ⟨rfl,hb⟩;have V0:=Lh (Bl.out.trans (hb.mono Bl.out.size));have F0:=Lh (E1.out.below hb E1.out.lt);obtain ⟨y0,y1,y2,y3,y4,y5,yz⟩:=aQ F0.out;clear hb x0 x1 x2 x3 x4 x5;obtain ⟨b,hb⟩:∃ b:Bool,b=(nm.isEmpty && (co == 0) && (d == 0)):=⟨_,rfl⟩
          rw[←hb] at HP ⊢;clear hb;cases b with
          | false=>
            have HF:Hid (R=false):=Lh (by rw [HP.out];simp);go_wp2_with fail;go_ret;exact ⟨aj HF.out.symm,V0.out⟩
          | true=>
          go_wp2_with fail;refine (Xd n 0 200 _).mono ?_;rintro e v1 ⟨rfl,hb⟩;have V1:=Lh (V0.out.trans (hb.mono V0.out.size));have F1:=Lh (F0.out.below hb F0.out.lt);obtain ⟨y0,y1,y2,y3,y4,y5,yz⟩:=aQ F1.out;clear hb;go_wp2_with fail;go_ret;exact ⟨aj (by rw [HP.out];simp),V1.out⟩
        | false=>
        cases q4:(op == 4) with
        | true=>
          have HP:Hid (R=((nm.isEmpty && (co == 0) && (n == 0) && (d == 0)) && ((i:Int) == 1))):=Lh (by rw [HRR.out,if_neg (by simp at q1 q2;omega),if_neg (by simp at q3;omega),if_pos (by simp at q4;omega)];try (rw [Bool.eq_iff_iff];simp[and_comm,and_left_comm,and_assoc]));clear HRR;go_wp2_with fail;refine (QZ op co n d nm A i c _).mono ?_;rintro e v0 ⟨rfl,hb⟩;have V0:=Lh (Bl.out.trans (hb.mono Bl.out.size));have F0:=Lh (E1.out.below hb E1.out.lt);obtain ⟨y0,y1,y2,y3,y4,y5,yz⟩:=aQ F0.out;clear hb x0 x1 x2 x3 x4 x5
          obtain ⟨b,hb⟩:∃ b:Bool,b=(nm.isEmpty && (co == 0) && (n == 0) && (d == 0)):=⟨_,rfl⟩
          rw[←hb] at HP ⊢;clear hb;cases b with
          | false=>
            have HF:Hid (R=false):=Lh (by rw [HP.out];simp);go_wp2_with fail;go_ret;exact ⟨aj HF.out.symm,V0.out⟩
          | true=>
          go_wp2_with fail;go_ret;exact ⟨aj (by rw [HP.out];simp),V0.out⟩
        | false=>
        cases q5:(op == 5) with
        | true=>
          have HP:Hid (R=(((d == 0) && ((i:Int) == 0)) && Sx.bQ nm co && Sx.dX n 0 12)):=Lh (by rw [HRR.out,if_neg (by simp at q1 q2;omega),if_neg (by simp at q3;omega),if_neg (by simp at q4;omega),if_pos (by simp at q5;omega)];try (rw [Bool.eq_iff_iff];simp[and_comm,and_left_comm,and_assoc]));clear HRR;go_wp2_with fail;refine (Vv op co n d nm A i c _).mono ?_;rintro e v0 ⟨rfl,hb⟩;have V0:=Lh (Bl.out.trans (hb.mono Bl.out.size));have F0:=Lh (E1.out.below hb E1.out.lt);obtain ⟨y0,y1,y2,y3,y4,y5,yz⟩:=aQ F0.out;clear hb x0 x1 x2 x3 x4 x5
          obtain ⟨b,hb⟩:∃ b:Bool,b=((d == 0) && ((i:Int) == 0)):=⟨_,rfl⟩
          rw[←hb] at HP ⊢;clear hb;cases b with
          | false=>
            have HF:Hid (R=false):=Lh (by rw [HP.out];simp);go_wp2_with fail;go_ret;exact ⟨aj HF.out.symm,V0.out⟩
          | true=>
          go_wp2_with fail;refine (EH nm co _ hn).mono ?_;rintro e v1 ⟨rfl,hb⟩;have V1:=Lh (V0.out.trans (hb.mono V0.out.size));have F1:=Lh (F0.out.below hb F0.out.lt);obtain ⟨y0,y1,y2,y3,y4,y5,yz⟩:=aQ F1.out;clear hb;obtain ⟨b0,hb⟩:∃ b:Bool,b=(Sx.bQ nm co):=⟨_,rfl⟩
          rw[←hb] at HP ⊢;clear hb;cases b0 with
          | false=>
            have HF:Hid (R=false):=Lh (by rw [HP.out];simp);go_wp2_with fail;go_ret;exact ⟨aj HF.out.symm,V1.out⟩
          | true=>
          go_wp2_with fail;refine (Xd n 0 12 _).mono ?_;rintro e v2 ⟨rfl,hb⟩;have V2:=Lh (V1.out.trans (hb.mono V1.out.size));have F2:=Lh (F1.out.below hb F1.out.lt);obtain ⟨y0,y1,y2,y3,y4,y5,yz⟩:=aQ F2.out;clear hb;go_wp2_with fail;go_ret;exact ⟨aj (by rw [HP.out];simp),V2.out⟩
        | false=>
        cases q6:(op == 6) with
        | true=>
          have HP:Hid (R=(((d == 0) && ((i:Int) == 0)) && Sx.bQ nm co && Sx.dX n 1 100)):=Lh (by rw [HRR.out,if_neg (by simp at q1 q2;omega),if_neg (by simp at q3;omega),if_neg (by simp at q4;omega),if_neg (by simp at q5;omega),if_pos (by simp at q6;omega)];try (rw [Bool.eq_iff_iff];simp[and_comm,and_left_comm,and_assoc]));clear HRR;go_wp2_with fail;refine (Vv op co n d nm A i c _).mono ?_;rintro e v0 ⟨rfl,hb⟩;have V0:=Lh (Bl.out.trans (hb.mono Bl.out.size));have F0:=Lh (E1.out.below hb E1.out.lt);obtain ⟨y0,y1,y2,y3,y4,y5,yz⟩:=aQ F0.out;clear hb x0 x1 x2 x3 x4 x5
          obtain ⟨b,hb⟩:∃ b:Bool,b=((d == 0) && ((i:Int) == 0)):=⟨_,rfl⟩
          rw[←hb] at HP ⊢;clear hb;cases b with
          | false=>
            have HF:Hid (R=false):=Lh (by rw [HP.out];simp);go_wp2_with fail;go_ret;exact ⟨aj HF.out.symm,V0.out⟩
          | true=>
          go_wp2_with fail;refine (EH nm co _ hn).mono ?_;rintro e v1 ⟨rfl,hb⟩;have V1:=Lh (V0.out.trans (hb.mono V0.out.size));have F1:=Lh (F0.out.below hb F0.out.lt);obtain ⟨y0,y1,y2,y3,y4,y5,yz⟩:=aQ F1.out;clear hb;obtain ⟨b0,hb⟩:∃ b:Bool,b=(Sx.bQ nm co):=⟨_,rfl⟩
          rw[←hb] at HP ⊢;clear hb;cases b0 with
          | false=>
            have HF:Hid (R=false):=Lh (by rw [HP.out];simp);go_wp2_with fail;go_ret;exact ⟨aj HF.out.symm,V1.out⟩
          | true=>
          go_wp2_with fail;refine (Xd n 1 100 _).mono ?_;rintro e v2 ⟨rfl,hb⟩;have V2:=Lh (V1.out.trans (hb.mono V1.out.size));have F2:=Lh (F1.out.below hb F1.out.lt);obtain ⟨y0,y1,y2,y3,y4,y5,yz⟩:=aQ F2.out;clear hb;go_wp2_with fail;go_ret;exact ⟨aj (by rw [HP.out];simp),V2.out⟩
        | false=>
        cases q7:(op == 7) with
        | true=>
          have HP:Hid (R=((nm.isEmpty && (co == 0) && (d == 0) && ((i:Int) == 0)) && Sx.dX n 0 10000)):=Lh (by rw [HRR.out,if_neg (by simp at q1 q2;omega),if_neg (by simp at q3;omega),if_neg (by simp at q4;omega),if_neg (by simp at q5;omega),if_neg (by simp at q6;omega),if_pos (by simp at q7;omega)];try (rw [Bool.eq_iff_iff];simp[and_comm,and_left_comm,and_assoc]));clear HRR;go_wp2_with fail;refine (Zl op co n d nm A i c _).mono ?_;rintro e v0 ⟨rfl,hb⟩;have V0:=Lh (Bl.out.trans (hb.mono Bl.out.size));have F0:=Lh (E1.out.below hb E1.out.lt);obtain ⟨y0,y1,y2,y3,y4,y5,yz⟩:=aQ F0.out
          clear hb x0 x1 x2 x3 x4 x5;obtain ⟨b,hb⟩:∃ b:Bool,b=(nm.isEmpty && (co == 0) && (d == 0) && ((i:Int) == 0)):=⟨_,rfl⟩
          rw[←hb] at HP ⊢;clear hb;cases b with
          | false=>
            have HF:Hid (R=false):=Lh (by rw [HP.out];simp);go_wp2_with fail;go_ret;exact ⟨aj HF.out.symm,V0.out⟩
          | true=>
          go_wp2_with fail;refine (Xd n 0 10000 _).mono ?_;rintro e v1 ⟨rfl,hb⟩;have V1:=Lh (V0.out.trans (hb.mono V0.out.size));have F1:=Lh (F0.out.below hb F0.out.lt);obtain ⟨y0,y1,y2,y3,y4,y5,yz⟩:=aQ F1.out;clear hb;go_wp2_with fail;go_ret;exact ⟨aj (by rw [HP.out];simp),V1.out⟩
        | false=>
        cases q8:(op == 8) with
        | true=>
          have HP:Hid (R=((nm.isEmpty && (co == 0) && ((i:Int) == 0)) && Sx.bL.fine ⟨n,d⟩)):=Lh (by rw [HRR.out,if_neg (by simp at q1 q2;omega),if_neg (by simp at q3;omega),if_neg (by simp at q4;omega),if_neg (by simp at q5;omega),if_neg (by simp at q6;omega),if_neg (by simp at q7;omega),if_pos (by simp at q8;omega)];try (rw [Bool.eq_iff_iff];simp[and_comm,and_left_comm,and_assoc]));clear HRR;go_wp2_with fail;refine (Zm op co n d nm A i c _).mono ?_;rintro e v0 ⟨rfl,hb⟩;have V0:=Lh (Bl.out.trans (hb.mono Bl.out.size));have F0:=Lh (E1.out.below hb E1.out.lt)
          obtain ⟨y0,y1,y2,y3,y4,y5,yz⟩:=aQ F0.out;clear hb x0 x1 x2 x3 x4 x5;obtain ⟨b,hb⟩:∃ b:Bool,b=(nm.isEmpty && (co == 0) && ((i:Int) == 0)):=⟨_,rfl⟩
          rw[←hb] at HP ⊢;clear hb;cases b with
          | false=>
            have HF:Hid (R=false):=Lh (by rw [HP.out];simp);go_wp2_with fail;go_ret;exact ⟨aj HF.out.symm,V0.out⟩
          | true=>
          go_wp2_with fail;refine (FU n d _).mono ?_;rintro e v1 ⟨rfl,hb⟩;have V1:=Lh (V0.out.trans (hb.mono V0.out.size));have F1:=Lh (F0.out.below hb F0.out.lt);obtain ⟨y0,y1,y2,y3,y4,y5,yz⟩:=aQ F1.out;clear hb;go_wp2_with fail;go_ret;exact ⟨aj (by rw [HP.out];simp),V1.out⟩
        | false=>
        cases q9:(op == 9) with
        | true=>
          have HP:Hid (R=(((n == 0) && (d == 0) && ((i:Int) == 0)) && Sx.bQ nm co)):=Lh (by rw [HRR.out,if_neg (by simp at q1 q2;omega),if_neg (by simp at q3;omega),if_neg (by simp at q4;omega),if_neg (by simp at q5;omega),if_neg (by simp at q6;omega),if_neg (by simp at q7;omega),if_neg (by simp at q8;omega),if_pos (by simp at q9;omega)];try (rw [Bool.eq_iff_iff];simp[and_comm,and_left_comm,and_assoc]));clear HRR;go_wp2_with fail;refine (Zn op co n d nm A i c _).mono ?_;rintro e v0 ⟨rfl,hb⟩;have V0:=Lh (Bl.out.trans (hb.mono Bl.out.size));have F0:=Lh (E1.out.below hb E1.out.lt)
          obtain ⟨y0,y1,y2,y3,y4,y5,yz⟩:=aQ F0.out;clear hb x0 x1 x2 x3 x4 x5;obtain ⟨b,hb⟩:∃ b:Bool,b=((n == 0) && (d == 0) && ((i:Int) == 0)):=⟨_,rfl⟩
          rw[←hb] at HP ⊢;clear hb;cases b with
          | false=>
            have HF:Hid (R=false):=Lh (by rw [HP.out];simp);go_wp2_with fail;go_ret;exact ⟨aj HF.out.symm,V0.out⟩
          | true=>
          go_wp2_with fail;refine (EH nm co _ hn).mono ?_;rintro e v1 ⟨rfl,hb⟩;have V1:=Lh (V0.out.trans (hb.mono V0.out.size));have F1:=Lh (F0.out.below hb F0.out.lt);obtain ⟨y0,y1,y2,y3,y4,y5,yz⟩:=aQ F1.out;clear hb;go_wp2_with fail;go_ret;exact ⟨aj (by rw [HP.out];simp),V1.out⟩
        | false=>
        have HF:Hid (R=false):=Lh (by rw [HRR.out,if_neg (by simp at q1 q2;omega),if_neg (by simp at q3;omega),if_neg (by simp at q4;omega),if_neg (by simp at q5;omega),if_neg (by simp at q6;omega),if_neg (by simp at q7;omega),if_neg (by simp at q8;omega),if_neg (by simp at q9;omega)]);go_wp2_with fail;go_ret;exact ⟨aj HF.out.symm,Bl.out⟩
namespace Sx
open Lx (Tok)
end Sx
def nQ (w:World) (b o:Nat) (ws:List (List UInt8)):Prop:=b < w.heap.size∧∀ (i:Nat) x,ws[i]?=some x→w.cell? ⟨b,o+i,none⟩=some (.string (Lx.bs x))
theorem nQ.next {w w':World} {b o:Nat} {ws:List (List UInt8)} (h:nQ w b o ws) (hb:Below w.heap.size w w'):nQ w' b o ws:=
 ⟨Nat.lt_of_lt_of_le h.1 hb.size,fun i x hx=>(hb.cell (p:=⟨b,o+i,none⟩) h.1).trans (h.2 i x hx)⟩
namespace Sx
open Lx (Tok)
end Sx
theorem Vw {w:World} {b:Nat} {t:TypeId} {z0 z1 z2 z3:Value} (h:aC w b t #[z0,z1,z2,z3]) (a0 a1 a2 a3:Value):∃ W:World,W=(((w.setCell ⟨b,0,none⟩ a0).setCell ⟨b,1,none⟩ a1).setCell ⟨b,2,none⟩ a2).setCell ⟨b,3,none⟩ a3∧aC W b t #[a0,a1,a2,a3]∧((∀ k,k≠b→W.heap[k]?=w.heap[k]?)∧W.heap.size=w.heap.size)∧∀ (B:Nat) (w0:World),Below B w0 w→B≤b→Below B w0 W:=by
 refine ⟨_,rfl,?_,⟨fun k hk=>?_,by simp [World.setCell]⟩,fun B w0 hb hB=>(((hb.setCell (p:=⟨b,0,none⟩) hB a0).setCell (p:=⟨b,1,none⟩) hB a1).setCell (p:=⟨b,2,none⟩) hB a2).setCell (p:=⟨b,3,none⟩) hB a3⟩
 ·have:=(((h.set 0 a0).set 1 a1).set 2 a2).set 3 a3;simpa using this
 ·rw[Below.heap_setCell _ ⟨b,3,none⟩ _ k hk,Below.heap_setCell _ ⟨b,2,none⟩ _ k hk,Below.heap_setCell _ ⟨b,1,none⟩ _ k hk,Below.heap_setCell _ ⟨b,0,none⟩ _ k hk]
end Go.Proofs.YtjonaidancomgaaGreatDoor
