/- Parts of the proof, joined into one text: q1n. -/
import Derived.Test.YtjonaidancomgaaGreatDoorPSxAll
import Derived.Test.YtjonaidancomgaaGreatDoorPSxSameC
set_option maxHeartbeats 4000000
set_option maxRecDepth 20000
namespace Go.Proofs.YtjonaidancomgaaGreatDoor
open Go.RowKit
theorem Kt (A B:Option Addr) (c d:Nat) (l l':List Sx.Pair) (w:World) (hl:Row w (Old w) A 4 fq l) (hl':Row w (Old w) B 4 fq l') :
  Calls Tryz.prog 69 #[.slice A l.length c,.slice B l'.length d] w (ak (decide (l=l')) w):=by
 obtain ⟨m,hm⟩:∃ m,m=l.length:=⟨_,rfl⟩
 obtain ⟨m',hm'⟩:∃ m,m=l'.length:=⟨_,rfl⟩
 obtain ⟨R,hR⟩:∃ R,R=decide (l=l'):=⟨_,rfl⟩
 have z0:=hl.len;have z1:=hl'.len;rw[←hm] at z0 ⊢;rw[←hm'] at z1 ⊢;rw[←hR];have Hl:=Lh hl;have AV:=Lh hl';have Hm:=Lh hm;have lM:=Lh hm';have HR:=Lh hR;clear hl hl' hm hm' hR;cases q0:((m:Int) != (m':Int)) with
 | true=>
  have HR2:Hid (R=false):=Lh (by rw [HR.out];exact decide_eq_false fun e=>by rw [Hm.out,lM.out,e] at q0;simp at q0);go_enter Tryz.func69,Tryz.ntmps69;go_wp2_with fail;go_ret;exact ⟨aj HR2.out.symm,Below.refl _ _⟩
 | false=>
 obtain rfl:m=m':=by have:(m:Int)=m':=(by simpa using q0);omega
 go_enter Tryz.func69,Tryz.ntmps69;go_wp2_with fail
 go_loopg [13] m (fun gk v13 wr=>∃ i nn:Nat,v13 = .int .i64 i∧i+gk=m∧wr=w.drewN nn∧Hid (∀ j,j < i→l[j]?=l'[j]?))
 case atStart=>exact ⟨0,0,rfl,by omega,rfl,Lh (fun j hj=>absurd hj (Nat.not_lt_zero j))⟩
 case round=>
  obtain ⟨i,nn,rfl,hi,rfl,dQ⟩:=hrel
  by_cases hlt:i < m
  ·obtain ⟨x,hx⟩:∃ x,l[i]?=some x:=⟨_,List.getElem?_eq_getElem (by have:=Hm.out;omega)⟩
   obtain ⟨y,hy⟩:∃ y,l'[i]?=some y:=⟨_,List.getElem?_eq_getElem (by have:=lM.out;omega)⟩
   have Hx:=Lh hx;have Hy:=Lh hy;obtain ⟨bk,ok,cs,rfl,hS,hP,hck⟩:=Hl.out.at_ i x hx;obtain ⟨bl,ol,cs',rfl,hS',hQ,hcl⟩:=AV.out.at_ i y hy;obtain rfl:=hP.1;obtain rfl:=hQ.1;have k0:=hck 0 _ rfl;have l0:=hcl 0 _ rfl;have k1:=hck 1 _ rfl;have l1:=hcl 1 _ rfl;have k2:=hck 2 _ rfl;have l2:=hcl 2 _ rfl;have k3:=hck 3 _ rfl;have l3:=hcl 3 _ rfl;simp only[Nat.add_zero,bB,aT] at k0 l0 k1 l1 k2 l2 k3 l3;clear hck hcl hx hy;have hneq:=Cy x y;unfold qP at hneq;cases hb:decide (x=y) with
   | false=>
    have HR2:Hid (R=false):=Lh (by
     rw[HR.out];exact decide_eq_false fun e=>(of_decide_eq_false hb) (by have h1:=Hx.out;rw[e,Hy.out] at h1;injection h1 with h1;exact h1.symm))
    rw[hb] at hneq;go_wp2_with fail
    go_quiet (fail)
    go_wp2_with fail;go_ret;exact ⟨aj HR2.out.symm,ay (ay (Below.refl _ _) _) _⟩
   | true=>
    have mW:=Lh (bY dQ.out (by rw [Hx.out,Hy.out,of_decide_eq_true hb]));rw[hb] at hneq;go_wp2_with fail
    go_quiet (fail)
    go_wp2_with fail
    go_roundg (gk - 1)
    all_goals first
     | omega
     | exact ⟨i+1,_,by go_num,by omega,(by first | rfl | exact World.drewN_drewN _ _ _),mW⟩
  ·obtain rfl:i=m:=by omega
   have HR2:Hid (R=true):=Lh (by rw [HR.out];exact decide_eq_true (dG dQ.out Hm.out lM.out));go_wp2_with fail;go_ret;exact ⟨aj HR2.out.symm,ay (Below.refl _ _) _⟩
theorem FN (A B:Option Addr) (c d:Nat) (l l':List Sx.Cls) (w:World) (hl:Row w (Old w) A 4 eu l) (hl':Row w (Old w) B 4 eu l') :
  Calls Tryz.prog 71 #[.slice A l.length c,.slice B l'.length d] w (ak (decide (l=l')) w):=by
 obtain ⟨m,hm⟩:∃ m,m=l.length:=⟨_,rfl⟩
 obtain ⟨m',hm'⟩:∃ m,m=l'.length:=⟨_,rfl⟩
 obtain ⟨R,hR⟩:∃ R,R=decide (l=l'):=⟨_,rfl⟩
 have z0:=hl.len;have z1:=hl'.len;rw[←hm] at z0 ⊢;rw[←hm'] at z1 ⊢;rw[←hR];have Hl:=Lh hl;have AV:=Lh hl';have Hm:=Lh hm;have lM:=Lh hm';have HR:=Lh hR;clear hl hl' hm hm' hR;cases q0:((m:Int) != (m':Int)) with
 | true=>
  have HR2:Hid (R=false):=Lh (by rw [HR.out];exact decide_eq_false fun e=>by rw [Hm.out,lM.out,e] at q0;simp at q0);go_enter Tryz.func71,Tryz.ntmps71;go_wp2_with fail;go_ret;exact ⟨aj HR2.out.symm,Below.refl _ _⟩
 | false=>
 obtain rfl:m=m':=by have:(m:Int)=m':=(by simpa using q0);omega
 go_enter Tryz.func71,Tryz.ntmps71;go_wp2_with fail
 go_loopg [13] m (fun gk v13 wr=>∃ i nn:Nat,v13 = .int .i64 i∧i+gk=m∧wr=w.drewN nn∧Hid (∀ j,j < i→l[j]?=l'[j]?))
 case atStart=>exact ⟨0,0,rfl,by omega,rfl,Lh (fun j hj=>absurd hj (Nat.not_lt_zero j))⟩
 case round=>
  obtain ⟨i,nn,rfl,hi,rfl,dQ⟩:=hrel
  by_cases hlt:i < m
  ·obtain ⟨x,hx⟩:∃ x,l[i]?=some x:=⟨_,List.getElem?_eq_getElem (by have:=Hm.out;omega)⟩
   obtain ⟨y,hy⟩:∃ y,l'[i]?=some y:=⟨_,List.getElem?_eq_getElem (by have:=lM.out;omega)⟩
   have Hx:=Lh hx;have Hy:=Lh hy;obtain ⟨bk,ok,cs,rfl,hS,hP,hck⟩:=Hl.out.at_ i x hx;obtain ⟨bl,ol,cs',rfl,hS',hQ,hcl⟩:=AV.out.at_ i y hy;obtain rfl:=hP.1;obtain rfl:=hQ.1;have k0:=hck 0 _ rfl;have l0:=hcl 0 _ rfl;have k1:=hck 1 _ rfl;have l1:=hcl 1 _ rfl;have k2:=hck 2 _ rfl;have l2:=hcl 2 _ rfl;have k3:=hck 3 _ rfl;have l3:=hcl 3 _ rfl;simp only[Nat.add_zero,bB,aT] at k0 l0 k1 l1 k2 l2 k3 l3;clear hck hcl hx hy;have hneq:=FP x y;unfold yO at hneq;cases hb:decide (x=y) with
   | false=>
    have HR2:Hid (R=false):=Lh (by
     rw[HR.out];exact decide_eq_false fun e=>(of_decide_eq_false hb) (by have h1:=Hx.out;rw[e,Hy.out] at h1;injection h1 with h1;exact h1.symm))
    rw[hb] at hneq;go_wp2_with fail
    go_quiet (fail)
    go_wp2_with fail;go_ret;exact ⟨aj HR2.out.symm,ay (ay (Below.refl _ _) _) _⟩
   | true=>
    have mW:=Lh (bY dQ.out (by rw [Hx.out,Hy.out,of_decide_eq_true hb]));rw[hb] at hneq;go_wp2_with fail
    go_quiet (fail)
    go_wp2_with fail
    go_roundg (gk - 1)
    all_goals first
     | omega
     | exact ⟨i+1,_,by go_num,by omega,(by first | rfl | exact World.drewN_drewN _ _ _),mW⟩
  ·obtain rfl:i=m:=by omega
   have HR2:Hid (R=true):=Lh (by rw [HR.out];exact decide_eq_true (dG dQ.out Hm.out lM.out));go_wp2_with fail;go_ret;exact ⟨aj HR2.out.symm,ay (Below.refl _ _) _⟩
theorem NJ (A B:Option Addr) (c d:Nat) (l l':List Sx.tL) (w:World) (hl:Row w (Old w) A 2 gG l) (hl':Row w (Old w) B 2 gG l') :
  Calls Tryz.prog 72 #[.slice A l.length c,.slice B l'.length d] w (ak (decide (l=l')) w):=by
 obtain ⟨m,hm⟩:∃ m,m=l.length:=⟨_,rfl⟩
 obtain ⟨m',hm'⟩:∃ m,m=l'.length:=⟨_,rfl⟩
 obtain ⟨R,hR⟩:∃ R,R=decide (l=l'):=⟨_,rfl⟩
 have z0:=hl.len;have z1:=hl'.len;rw[←hm] at z0 ⊢;rw[←hm'] at z1 ⊢;rw[←hR];have Hl:=Lh hl;have AV:=Lh hl';have Hm:=Lh hm;have lM:=Lh hm';have HR:=Lh hR;clear hl hl' hm hm' hR;cases q0:((m:Int) != (m':Int)) with
 | true=>
  have HR2:Hid (R=false):=Lh (by rw [HR.out];exact decide_eq_false fun e=>by rw [Hm.out,lM.out,e] at q0;simp at q0);go_enter Tryz.func72,Tryz.ntmps72;go_wp2_with fail;go_ret;exact ⟨aj HR2.out.symm,Below.refl _ _⟩
 | false=>
 obtain rfl:m=m':=by have:(m:Int)=m':=(by simpa using q0);omega
 go_enter Tryz.func72,Tryz.ntmps72;go_wp2_with fail
 go_loopg [13] m (fun gk v13 wr=>∃ i nn:Nat,v13 = .int .i64 i∧i+gk=m∧wr=w.drewN nn∧Hid (∀ j,j < i→l[j]?=l'[j]?))
 case atStart=>exact ⟨0,0,rfl,by omega,rfl,Lh (fun j hj=>absurd hj (Nat.not_lt_zero j))⟩
 case round=>
  obtain ⟨i,nn,rfl,hi,rfl,dQ⟩:=hrel
  by_cases hlt:i < m
  ·obtain ⟨x,hx⟩:∃ x,l[i]?=some x:=⟨_,List.getElem?_eq_getElem (by have:=Hm.out;omega)⟩
   obtain ⟨y,hy⟩:∃ y,l'[i]?=some y:=⟨_,List.getElem?_eq_getElem (by have:=lM.out;omega)⟩
   have Hx:=Lh hx;have Hy:=Lh hy;obtain ⟨bk,ok,cs,rfl,hS,hP,hck⟩:=Hl.out.at_ i x hx;obtain ⟨bl,ol,cs',rfl,hS',hQ,hcl⟩:=AV.out.at_ i y hy;obtain rfl:=hP.1;obtain rfl:=hQ.1;have k0:=hck 0 _ rfl;have l0:=hcl 0 _ rfl;have k1:=hck 1 _ rfl;have l1:=hcl 1 _ rfl;simp only[Nat.add_zero,bB,aT] at k0 l0 k1 l1;clear hck hcl hx hy;have hneq:=FQ x y;unfold yP at hneq;cases hb:decide (x=y) with
   | false=>
    have HR2:Hid (R=false):=Lh (by
     rw[HR.out];exact decide_eq_false fun e=>(of_decide_eq_false hb) (by have h1:=Hx.out;rw[e,Hy.out] at h1;injection h1 with h1;exact h1.symm))
    rw[hb] at hneq;go_wp2_with fail
    go_quiet (fail)
    go_wp2_with fail;go_ret;exact ⟨aj HR2.out.symm,ay (ay (Below.refl _ _) _) _⟩
   | true=>
    have mW:=Lh (bY dQ.out (by rw [Hx.out,Hy.out,of_decide_eq_true hb]));rw[hb] at hneq;go_wp2_with fail
    go_quiet (fail)
    go_wp2_with fail
    go_roundg (gk - 1)
    all_goals first
     | omega
     | exact ⟨i+1,_,by go_num,by omega,(by first | rfl | exact World.drewN_drewN _ _ _),mW⟩
  ·obtain rfl:i=m:=by omega
   have HR2:Hid (R=true):=Lh (by rw [HR.out];exact decide_eq_true (dG dQ.out Hm.out lM.out));go_wp2_with fail;go_ret;exact ⟨aj HR2.out.symm,ay (Below.refl _ _) _⟩
theorem EB (A B:Option Addr) (c d:Nat) (l l':List Sx.Clause) (w:World) (hl:Row w (Old w) A 4 bH l) (hl':Row w (Old w) B 4 bH l') :
  Calls Tryz.prog 73 #[.slice A l.length c,.slice B l'.length d] w (ak (decide (l=l')) w):=by
 obtain ⟨m,hm⟩:∃ m,m=l.length:=⟨_,rfl⟩
 obtain ⟨m',hm'⟩:∃ m,m=l'.length:=⟨_,rfl⟩
 obtain ⟨R,hR⟩:∃ R,R=decide (l=l'):=⟨_,rfl⟩
 have z0:=hl.len;have z1:=hl'.len;rw[←hm] at z0 ⊢;rw[←hm'] at z1 ⊢;rw[←hR];have Hl:=Lh hl;have AV:=Lh hl';have Hm:=Lh hm;have lM:=Lh hm';have HR:=Lh hR;clear hl hl' hm hm' hR;cases q0:((m:Int) != (m':Int)) with
 | true=>
  have HR2:Hid (R=false):=Lh (by rw [HR.out];exact decide_eq_false fun e=>by rw [Hm.out,lM.out,e] at q0;simp at q0);go_enter Tryz.func73,Tryz.ntmps73;go_wp2_with fail;go_ret;exact ⟨aj HR2.out.symm,Below.refl _ _⟩
 | false=>
 obtain rfl:m=m':=by have:(m:Int)=m':=(by simpa using q0);omega
 go_enter Tryz.func73,Tryz.ntmps73;go_wp2_with fail
 go_loopg [13] m (fun gk v13 wr=>∃ i nn:Nat,v13 = .int .i64 i∧i+gk=m∧wr=w.drewN nn∧Hid (∀ j,j < i→l[j]?=l'[j]?))
 case atStart=>exact ⟨0,0,rfl,by omega,rfl,Lh (fun j hj=>absurd hj (Nat.not_lt_zero j))⟩
 case round=>
  obtain ⟨i,nn,rfl,hi,rfl,dQ⟩:=hrel
  by_cases hlt:i < m
  ·obtain ⟨x,hx⟩:∃ x,l[i]?=some x:=⟨_,List.getElem?_eq_getElem (by have:=Hm.out;omega)⟩
   obtain ⟨y,hy⟩:∃ y,l'[i]?=some y:=⟨_,List.getElem?_eq_getElem (by have:=lM.out;omega)⟩
   have Hx:=Lh hx;have Hy:=Lh hy;obtain ⟨bk,ok,cs,rfl,hS,hP,hck⟩:=Hl.out.at_ i x hx;obtain ⟨bl,ol,cs',rfl,hS',hQ,hcl⟩:=AV.out.at_ i y hy;unfold bH at hP hQ;subst hP;subst hQ;have k0:=hck 0 _ rfl;have l0:=hcl 0 _ rfl;have k1:=hck 1 _ rfl;have l1:=hcl 1 _ rfl;have k2:=hck 2 _ rfl;have l2:=hcl 2 _ rfl;have k3:=hck 3 _ rfl;have l3:=hcl 3 _ rfl;simp only[Nat.add_zero,aT] at k0 l0 k1 l1 k2 l2 k3 l3;clear hck hcl hx hy;have hneq:=xG x y;unfold jI at hneq;cases hb:decide (x=y) with
   | false=>
    have HR2:Hid (R=false):=Lh (by
     rw[HR.out];exact decide_eq_false fun e=>(of_decide_eq_false hb) (by have h1:=Hx.out;rw[e,Hy.out] at h1;injection h1 with h1;exact h1.symm))
    rw[hb] at hneq;go_wp2_with fail
    go_quiet (fail)
    go_wp2_with fail;go_ret;exact ⟨aj HR2.out.symm,ay (ay (Below.refl _ _) _) _⟩
   | true=>
    have mW:=Lh (bY dQ.out (by rw [Hx.out,Hy.out,of_decide_eq_true hb]));rw[hb] at hneq;go_wp2_with fail
    go_quiet (fail)
    go_wp2_with fail
    go_roundg (gk - 1)
    all_goals first
     | omega
     | exact ⟨i+1,_,by go_num,by omega,(by first | rfl | exact World.drewN_drewN _ _ _),mW⟩
  ·obtain rfl:i=m:=by omega
   have HR2:Hid (R=true):=Lh (by rw [HR.out];exact decide_eq_true (dG dQ.out Hm.out lM.out));go_wp2_with fail;go_ret;exact ⟨aj HR2.out.symm,ay (Below.refl _ _) _⟩
theorem NK (A B:Option Addr) (c d:Nat) (l l':List (List UInt8)) (w:World) (hl:Row w (Old w) A 1 qM l) (hl':Row w (Old w) B 1 qM l') :
  Calls Tryz.prog 64 #[.slice A l.length c,.slice B l'.length d] w (ak (decide (l=l')) w):=by
 obtain ⟨m,hm⟩:∃ m,m=l.length:=⟨_,rfl⟩
 obtain ⟨m',hm'⟩:∃ m,m=l'.length:=⟨_,rfl⟩
 obtain ⟨R,hR⟩:∃ R,R=decide (l=l'):=⟨_,rfl⟩
 have z0:=hl.len;have z1:=hl'.len;rw[←hm] at z0 ⊢;rw[←hm'] at z1 ⊢;rw[←hR];have Hl:=Lh hl;have AV:=Lh hl';have Hm:=Lh hm;have lM:=Lh hm';have HR:=Lh hR;clear hl hl' hm hm' hR;cases q0:((m:Int) != (m':Int)) with
 | true=>
  have HR2:Hid (R=false):=Lh (by rw [HR.out];exact decide_eq_false fun e=>by rw [Hm.out,lM.out,e] at q0;simp at q0);go_enter Tryz.func64,Tryz.ntmps64;go_wp2_with fail;go_ret;exact ⟨aj HR2.out.symm,Below.refl _ _⟩
 | false=>
 obtain rfl:m=m':=by have:(m:Int)=m':=(by simpa using q0);omega
 go_enter Tryz.func64,Tryz.ntmps64;go_wp2_with fail
 go_loopg [13] m (fun gk v13 wr=>∃ i nn:Nat,v13 = .int .i64 i∧i+gk=m∧wr=w.drewN nn∧Hid (∀ j,j < i→l[j]?=l'[j]?))
 case atStart=>exact ⟨0,0,rfl,by omega,rfl,Lh (fun j hj=>absurd hj (Nat.not_lt_zero j))⟩
 case round=>
  obtain ⟨i,nn,rfl,hi,rfl,dQ⟩:=hrel
  by_cases hlt:i < m
  ·obtain ⟨x,hx⟩:∃ x,l[i]?=some x:=⟨_,List.getElem?_eq_getElem (by have:=Hm.out;omega)⟩
   obtain ⟨y,hy⟩:∃ y,l'[i]?=some y:=⟨_,List.getElem?_eq_getElem (by have:=lM.out;omega)⟩
   have Hx:=Lh hx;have Hy:=Lh hy;obtain ⟨bk,ok,cs,rfl,hS,hP,hck⟩:=Hl.out.at_ i x hx;obtain ⟨bl,ol,cs',rfl,hS',hQ,hcl⟩:=AV.out.at_ i y hy;obtain rfl:=hP.1;obtain rfl:=hQ.1;have k0:=hck 0 _ rfl;have l0:=hcl 0 _ rfl;simp only[Nat.add_zero,Nat.mul_one,bB] at k0 l0;clear hck hcl hx hy;cases hb:decide (x=y) with
   | false=>
    have HR2:Hid (R=false):=Lh (by
     rw[HR.out];exact decide_eq_false fun e=>(of_decide_eq_false hb) (by have h1:=Hx.out;rw[e,Hy.out] at h1;injection h1 with h1;exact h1.symm))
    have hq:((Lx.bs x).toList == (Lx.bs y).toList)=false:=by rw [ByteArray.toList_eq,ByteArray.toList_eq,Lx.aK,Lx.aK];simpa using hb
    go_wp2_with fail
    go_quiet (fail)
    go_wp2_with fail;go_ret;exact ⟨aj HR2.out.symm,ay (ay (Below.refl _ _) _) _⟩
   | true=>
    have mW:=Lh (bY dQ.out (by rw [Hx.out,Hy.out,of_decide_eq_true hb]));have hq:((Lx.bs x).toList == (Lx.bs y).toList)=true:=by rw [ByteArray.toList_eq,ByteArray.toList_eq,Lx.aK,Lx.aK];simpa using hb
    go_wp2_with fail
    go_quiet (fail)
    go_wp2_with fail
    go_roundg (gk - 1)
    all_goals first
     | omega
     | exact ⟨i+1,_,by go_num,by omega,(by first | rfl | exact World.drewN_drewN _ _ _),mW⟩
  ·obtain rfl:i=m:=by omega
   have HR2:Hid (R=true):=Lh (by rw [HR.out];exact decide_eq_true (dG dQ.out Hm.out lM.out));go_wp2_with fail;go_ret;exact ⟨aj HR2.out.symm,ay (Below.refl _ _) _⟩
theorem NM (A B:Option Addr) (c d:Nat) (l l':List Int) (w:World) (hl:Row w (Old w) A 1 (lT aT) l) (hl':Row w (Old w) B 1 (lT aT) l') :
  Calls Tryz.prog 65 #[.slice A l.length c,.slice B l'.length d] w (ak (decide (l=l')) w):=by
 obtain ⟨m,hm⟩:∃ m,m=l.length:=⟨_,rfl⟩
 obtain ⟨m',hm'⟩:∃ m,m=l'.length:=⟨_,rfl⟩
 obtain ⟨R,hR⟩:∃ R,R=decide (l=l'):=⟨_,rfl⟩
 have z0:=hl.len;have z1:=hl'.len;rw[←hm] at z0 ⊢;rw[←hm'] at z1 ⊢;rw[←hR];have Hl:=Lh hl;have AV:=Lh hl';have Hm:=Lh hm;have lM:=Lh hm';have HR:=Lh hR;clear hl hl' hm hm' hR;cases q0:((m:Int) != (m':Int)) with
 | true=>
  have HR2:Hid (R=false):=Lh (by rw [HR.out];exact decide_eq_false fun e=>by rw [Hm.out,lM.out,e] at q0;simp at q0);go_enter Tryz.func65,Tryz.ntmps65;go_wp2_with fail;go_ret;exact ⟨aj HR2.out.symm,Below.refl _ _⟩
 | false=>
 obtain rfl:m=m':=by have:(m:Int)=m':=(by simpa using q0);omega
 go_enter Tryz.func65,Tryz.ntmps65;go_wp2_with fail
 go_loopg [13] m (fun gk v13 wr=>∃ i nn:Nat,v13 = .int .i64 i∧i+gk=m∧wr=w.drewN nn∧Hid (∀ j,j < i→l[j]?=l'[j]?))
 case atStart=>exact ⟨0,0,rfl,by omega,rfl,Lh (fun j hj=>absurd hj (Nat.not_lt_zero j))⟩
 case round=>
  obtain ⟨i,nn,rfl,hi,rfl,dQ⟩:=hrel
  by_cases hlt:i < m
  ·obtain ⟨x,hx⟩:∃ x,l[i]?=some x:=⟨_,List.getElem?_eq_getElem (by have:=Hm.out;omega)⟩
   obtain ⟨y,hy⟩:∃ y,l'[i]?=some y:=⟨_,List.getElem?_eq_getElem (by have:=lM.out;omega)⟩
   have Hx:=Lh hx;have Hy:=Lh hy;obtain ⟨bk,ok,cs,rfl,hS,hP,hck⟩:=Hl.out.at_ i x hx;obtain ⟨bl,ol,cs',rfl,hS',hQ,hcl⟩:=AV.out.at_ i y hy;unfold lT at hP hQ;subst hP;subst hQ;have k0:=hck 0 _ rfl;have l0:=hcl 0 _ rfl;simp only[Nat.add_zero,Nat.mul_one,aT] at k0 l0;clear hck hcl hx hy;cases hb:decide (x=y) with
   | false=>
    have HR2:Hid (R=false):=Lh (by
     rw[HR.out];exact decide_eq_false fun e=>(of_decide_eq_false hb) (by have h1:=Hx.out;rw[e,Hy.out] at h1;injection h1 with h1;exact h1.symm))
    have hq:(x == y)=false:=by simpa using hb
    go_wp2_with fail
    go_quiet (fail)
    go_wp2_with fail;go_ret;exact ⟨aj HR2.out.symm,ay (ay (Below.refl _ _) _) _⟩
   | true=>
    have mW:=Lh (bY dQ.out (by rw [Hx.out,Hy.out,of_decide_eq_true hb]));have hq:(x == y)=true:=by simpa using hb
    go_wp2_with fail
    go_quiet (fail)
    go_wp2_with fail
    go_roundg (gk - 1)
    all_goals first
     | omega
     | exact ⟨i+1,_,by go_num,by omega,(by first | rfl | exact World.drewN_drewN _ _ _),mW⟩
  ·obtain rfl:i=m:=by omega
   have HR2:Hid (R=true):=Lh (by rw [HR.out];exact decide_eq_true (dG dQ.out Hm.out lM.out));go_wp2_with fail;go_ret;exact ⟨aj HR2.out.symm,ay (Below.refl _ _) _⟩
theorem NP (A B:Option Addr) (c d:Nat) (l l':List Sx.iK) (w:World) (hl:Row w (Old w) A 6 (bW w (Old w)) l) (hl':Row w (Old w) B 6 (bW w (Old w)) l')
  (HC:∀ x∈l,∀ y∈l',∀ ca cb W,Below w.heap.size w W→bW W (Old W) x ca→bW W (Old W) y cb→Calls Tryz.prog 63 #[.agg ca.toArray,.agg cb.toArray] W (ak (decide (x=y)) W)) :
  Calls Tryz.prog 67 #[.slice A l.length c,.slice B l'.length d,.func (.func 63) #[] #[]] w (ak (decide (l=l')) w):=by
 obtain ⟨m,hm⟩:∃ m,m=l.length:=⟨_,rfl⟩
 obtain ⟨m',hm'⟩:∃ m,m=l'.length:=⟨_,rfl⟩
 obtain ⟨R,hR⟩:∃ R,R=decide (l=l'):=⟨_,rfl⟩
 have z0:=hl.len;have z1:=hl'.len;rw[←hm] at z0 ⊢;rw[←hm'] at z1 ⊢;rw[←hR];have Hl:=Lh hl;have AV:=Lh hl';have Hm:=Lh hm;have lM:=Lh hm';have HR:=Lh hR;clear hl hl' hm hm' hR;have vH:=Lh HC;clear HC;cases q0:((m:Int) != (m':Int)) with
 | true=>
  have HR2:Hid (R=false):=Lh (by rw [HR.out];exact decide_eq_false fun e=>by rw [Hm.out,lM.out,e] at q0;simp at q0);go_enter Tryz.func67,Tryz.ntmps67;go_wp2_with fail;go_ret;exact ⟨aj HR2.out.symm,Below.refl _ _⟩
 | false=>
 obtain rfl:m=m':=by have:(m:Int)=m':=(by simpa using q0);omega
 go_enter Tryz.func67,Tryz.ntmps67;go_wp2_with fail
 go_loopg [17] m (fun gk v17 wr=>∃ i:Nat,v17 = .int .i64 i∧i+gk=m∧Hid (Below w.heap.size w wr)∧Hid (∀ j,j < i→l[j]?=l'[j]?))
 case atStart=>exact ⟨0,rfl,by omega,Lh (Below.refl _ _),Lh (fun j hj=>absurd hj (Nat.not_lt_zero j))⟩
 case round=>
  obtain ⟨i,rfl,hi,Hb,dQ⟩:=hrel;have hws:=Hb.out.size
  by_cases hlt:i < m
  ·obtain ⟨x,hx⟩:∃ x,l[i]?=some x:=⟨_,List.getElem?_eq_getElem (by have:=Hm.out;omega)⟩
   obtain ⟨y,hy⟩:∃ y,l'[i]?=some y:=⟨_,List.getElem?_eq_getElem (by have:=lM.out;omega)⟩
   have Hx:=Lh hx;have Hy:=Lh hy;obtain ⟨bk,ok,cs,rfl,hS,hP,hck⟩:=Hl.out.at_ i x hx;obtain ⟨bl,ol,cs',rfl,hS',hQ,hcl⟩:=AV.out.at_ i y hy;have hcall:=vH.out x (List.mem_of_getElem? hx) y (List.mem_of_getElem? hy) cs cs';have hP':=jF Hb.out hP;have hQ':=jF Hb.out hQ;have hbk:bk < wr.heap.size:=Nat.lt_of_lt_of_le hS hws;have hbl:bl < wr.heap.size:=Nat.lt_of_lt_of_le hS' hws;obtain ⟨s0,i1,i2,b3,A4,n4,c4,A5,n5,c5,rfl⟩:=sM hP;obtain ⟨SS,LY,SV,b3',Vj,n4',Vk,NA,n5',NC,rfl⟩:=sM hQ
   have k0:=(Hb.out.cell (p:=⟨bk,_,none⟩) hS).trans (hck 0 _ rfl);have l0:=(Hb.out.cell (p:=⟨bl,_,none⟩) hS').trans (hcl 0 _ rfl);have k1:=(Hb.out.cell (p:=⟨bk,_,none⟩) hS).trans (hck 1 _ rfl);have l1:=(Hb.out.cell (p:=⟨bl,_,none⟩) hS').trans (hcl 1 _ rfl);have k2:=(Hb.out.cell (p:=⟨bk,_,none⟩) hS).trans (hck 2 _ rfl);have l2:=(Hb.out.cell (p:=⟨bl,_,none⟩) hS').trans (hcl 2 _ rfl);have k3:=(Hb.out.cell (p:=⟨bk,_,none⟩) hS).trans (hck 3 _ rfl);have l3:=(Hb.out.cell (p:=⟨bl,_,none⟩) hS').trans (hcl 3 _ rfl)
   have k4:=(Hb.out.cell (p:=⟨bk,_,none⟩) hS).trans (hck 4 _ rfl);have l4:=(Hb.out.cell (p:=⟨bl,_,none⟩) hS').trans (hcl 4 _ rfl);have k5:=(Hb.out.cell (p:=⟨bk,_,none⟩) hS).trans (hck 5 _ rfl);have l5:=(Hb.out.cell (p:=⟨bl,_,none⟩) hS').trans (hcl 5 _ rfl);simp only[Nat.add_zero] at k0 l0 k1 l1 k2 l2 k3 l3 k4 l4 k5 l5;obtain ⟨W,hW⟩:∃ W,W=(wr.alloc (.cells #[.string s0,.int .i64 i1,.int .i64 i2,.bool b3,.slice A4 n4 c4,.slice A5 n5 c5] 108)).alloc (.cells #[.string SS,.int .i64 LY,.int .i64 SV,.bool b3',.slice Vj n4' Vk,.slice NA n5' NC] 108):=⟨_,rfl⟩
   have hbw:Below wr.heap.size wr W:=by rw [hW];exact ((Below.refl _ _).alloc (Nat.le_refl _) _).alloc (by simp) _
   have hbW:=Hb.out.trans (hbw.mono hws);have aH:=Lh (hcall W hbW (jF hbw hP') (jF hbw hQ'));have yN:=Lh hbW;clear hcall hP hP' hQ hQ' hck hcl hx hy hbw hbW;obtain ⟨b,hb⟩:∃ b,decide (x=y)=b:=⟨_,rfl⟩
   rw[hb] at aH;have HB:=Lh hb;clear hb;go_wp2_with fail;rw[←hW];refine aH.out.mono ?_;rintro e w5 ⟨rfl,hb5⟩;have Hb5:=Lh (yN.out.trans (hb5.mono yN.out.size));clear hb5 hW k0 l0 k1 l1 k2 l2 k3 l3 k4 l4 k5 l5;have hb:=HB.out;cases b with
   | false=>
    have HR2:Hid (R=false):=Lh (by
     rw[HR.out];exact decide_eq_false fun e=>(of_decide_eq_false hb) (by have h1:=Hx.out;rw[e,Hy.out] at h1;injection h1 with h1;exact h1.symm))
    go_wp2_with fail;go_ret;exact ⟨aj HR2.out.symm,Hb5.out⟩
   | true=>
    have mW:=Lh (bY dQ.out (by rw [Hx.out,Hy.out,of_decide_eq_true hb]));go_wp2_with fail
    go_roundg (gk - 1)
    all_goals first
     | omega
     | exact ⟨i+1,by go_num,by omega,Hb5,mW⟩
  ·obtain rfl:i=m:=by omega
   have HR2:Hid (R=true):=Lh (by rw [HR.out];exact decide_eq_true (dG dQ.out Hm.out lM.out));go_wp2_with fail;go_ret;exact ⟨aj HR2.out.symm,Hb.out⟩
theorem Ku (bx:Nat) (A B:Option Addr) (c d:Nat) (l l':List Sx.Prog) (w:World) (hl:Row w (Old w) A 7 (bS w (Old w)) l) (hl':Row w (Old w) B 7 (bS w (Old w)) l')
  (HC:∀ x∈l,∀ y∈l',∀ ca cb W,Below w.heap.size w W→bS W (Old W) x ca→bS W (Old W) y cb→Calls Tryz.prog 66 #[.agg ca.toArray,.agg cb.toArray,.pointer (some ⟨bx,0,none⟩)] W (ak (decide (x=y)) W)) :
  Calls Tryz.prog 70 #[.slice A l.length c,.slice B l'.length d,.func (.func 66) #[] #[.pointer (some ⟨bx,0,none⟩)]] w (ak (decide (l=l')) w):=by
 obtain ⟨m,hm⟩:∃ m,m=l.length:=⟨_,rfl⟩
 obtain ⟨m',hm'⟩:∃ m,m=l'.length:=⟨_,rfl⟩
 obtain ⟨R,hR⟩:∃ R,R=decide (l=l'):=⟨_,rfl⟩
 have z0:=hl.len;have z1:=hl'.len;rw[←hm] at z0 ⊢;rw[←hm'] at z1 ⊢;rw[←hR];have Hl:=Lh hl;have AV:=Lh hl';have Hm:=Lh hm;have lM:=Lh hm';have HR:=Lh hR;clear hl hl' hm hm' hR;have vH:=Lh HC;clear HC;cases q0:((m:Int) != (m':Int)) with
 | true=>
  have HR2:Hid (R=false):=Lh (by rw [HR.out];exact decide_eq_false fun e=>by rw [Hm.out,lM.out,e] at q0;simp at q0);go_enter Tryz.func70,Tryz.ntmps70;go_wp2_with fail;go_ret;exact ⟨aj HR2.out.symm,Below.refl _ _⟩
 | false=>
 obtain rfl:m=m':=by have:(m:Int)=m':=(by simpa using q0);omega
 go_enter Tryz.func70,Tryz.ntmps70;go_wp2_with fail
 go_loopg [17] m (fun gk v17 wr=>∃ i:Nat,v17 = .int .i64 i∧i+gk=m∧Hid (Below w.heap.size w wr)∧Hid (∀ j,j < i→l[j]?=l'[j]?))
 case atStart=>exact ⟨0,rfl,by omega,Lh (Below.refl _ _),Lh (fun j hj=>absurd hj (Nat.not_lt_zero j))⟩
 case round=>
  obtain ⟨i,rfl,hi,Hb,dQ⟩:=hrel;have hws:=Hb.out.size
  by_cases hlt:i < m
  ·obtain ⟨x,hx⟩:∃ x,l[i]?=some x:=⟨_,List.getElem?_eq_getElem (by have:=Hm.out;omega)⟩
   obtain ⟨y,hy⟩:∃ y,l'[i]?=some y:=⟨_,List.getElem?_eq_getElem (by have:=lM.out;omega)⟩
   have Hx:=Lh hx;have Hy:=Lh hy;obtain ⟨bk,ok,cs,rfl,hS,hP,hck⟩:=Hl.out.at_ i x hx;obtain ⟨bl,ol,cs',rfl,hS',hQ,hcl⟩:=AV.out.at_ i y hy;have hcall:=vH.out x (List.mem_of_getElem? hx) y (List.mem_of_getElem? hy) cs cs';have hP':=iy Hb.out hP;have hQ':=iy Hb.out hQ;have hbk:bk < wr.heap.size:=Nat.lt_of_lt_of_le hS hws;have hbl:bl < wr.heap.size:=Nat.lt_of_lt_of_le hS' hws;obtain ⟨s0,i1,i2,i3,i4,i5,A6,n6,c6,rfl⟩:=kS hP;obtain ⟨SS,LY,SV,Ph,Pj,WW,WX,n6',WY,rfl⟩:=kS hQ
   have k0:=(Hb.out.cell (p:=⟨bk,_,none⟩) hS).trans (hck 0 _ rfl);have l0:=(Hb.out.cell (p:=⟨bl,_,none⟩) hS').trans (hcl 0 _ rfl);have k1:=(Hb.out.cell (p:=⟨bk,_,none⟩) hS).trans (hck 1 _ rfl);have l1:=(Hb.out.cell (p:=⟨bl,_,none⟩) hS').trans (hcl 1 _ rfl);have k2:=(Hb.out.cell (p:=⟨bk,_,none⟩) hS).trans (hck 2 _ rfl);have l2:=(Hb.out.cell (p:=⟨bl,_,none⟩) hS').trans (hcl 2 _ rfl);have k3:=(Hb.out.cell (p:=⟨bk,_,none⟩) hS).trans (hck 3 _ rfl);have l3:=(Hb.out.cell (p:=⟨bl,_,none⟩) hS').trans (hcl 3 _ rfl)
   have k4:=(Hb.out.cell (p:=⟨bk,_,none⟩) hS).trans (hck 4 _ rfl);have l4:=(Hb.out.cell (p:=⟨bl,_,none⟩) hS').trans (hcl 4 _ rfl);have k5:=(Hb.out.cell (p:=⟨bk,_,none⟩) hS).trans (hck 5 _ rfl);have l5:=(Hb.out.cell (p:=⟨bl,_,none⟩) hS').trans (hcl 5 _ rfl);have k6:=(Hb.out.cell (p:=⟨bk,_,none⟩) hS).trans (hck 6 _ rfl);have l6:=(Hb.out.cell (p:=⟨bl,_,none⟩) hS').trans (hcl 6 _ rfl);simp only[Nat.add_zero] at k0 l0 k1 l1 k2 l2 k3 l3 k4 l4 k5 l5 k6 l6
   obtain ⟨W,hW⟩:∃ W,W=(wr.alloc (.cells #[.string s0,.int .i64 i1,.int .i64 i2,.int .i64 i3,.int .i64 i4,.int .i64 i5,.slice A6 n6 c6] 78)).alloc (.cells #[.string SS,.int .i64 LY,.int .i64 SV,.int .i64 Ph,.int .i64 Pj,.int .i64 WW,.slice WX n6' WY] 78):=⟨_,rfl⟩
   have hbw:Below wr.heap.size wr W:=by rw [hW];exact ((Below.refl _ _).alloc (Nat.le_refl _) _).alloc (by simp) _
   have hbW:=Hb.out.trans (hbw.mono hws);have aH:=Lh (hcall W hbW (iy hbw hP') (iy hbw hQ'));have yN:=Lh hbW;clear hcall hP hP' hQ hQ' hck hcl hx hy hbw hbW;obtain ⟨b,hb⟩:∃ b,decide (x=y)=b:=⟨_,rfl⟩
   rw[hb] at aH;have HB:=Lh hb;clear hb;go_wp2_with fail;rw[←hW];refine aH.out.mono ?_;rintro e w5 ⟨rfl,hb5⟩;have Hb5:=Lh (yN.out.trans (hb5.mono yN.out.size));clear hb5 hW k0 l0 k1 l1 k2 l2 k3 l3 k4 l4 k5 l5 k6 l6;have hb:=HB.out;cases b with
   | false=>
    have HR2:Hid (R=false):=Lh (by
     rw[HR.out];exact decide_eq_false fun e=>(of_decide_eq_false hb) (by have h1:=Hx.out;rw[e,Hy.out] at h1;injection h1 with h1;exact h1.symm))
    go_wp2_with fail;go_ret;exact ⟨aj HR2.out.symm,Hb5.out⟩
   | true=>
    have mW:=Lh (bY dQ.out (by rw [Hx.out,Hy.out,of_decide_eq_true hb]));go_wp2_with fail
    go_roundg (gk - 1)
    all_goals first
     | omega
     | exact ⟨i+1,by go_num,by omega,Hb5,mW⟩
  ·obtain rfl:i=m:=by omega
   have HR2:Hid (R=true):=Lh (by rw [HR.out];exact decide_eq_true (dG dQ.out Hm.out lM.out));go_wp2_with fail;go_ret;exact ⟨aj HR2.out.symm,Hb.out⟩
end Go.Proofs.YtjonaidancomgaaGreatDoor
