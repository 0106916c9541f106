/- Parts of the proof, joined into one text: q1R. -/
import Derived.Test.YtjonaidancomgaaGreatDoorPSxJnM
import Derived.Test.YtjonaidancomgaaGreatDoorPSxTkK
import Derived.Test.YtjonaidancomgaaGreatDoorPSxIsC
import Derived.Deep.CutBlock
set_option maxHeartbeats 32000000
set_option maxRecDepth 20000
namespace Go.Proofs.YtjonaidancomgaaGreatDoor
open Go.RowKit
theorem yt {w:World} {S:Nat→Prop} {r:Sx.Rule} {i0 i1 i3 i4:Int} {s2:ByteArray} {A:Option Addr} {n c:Nat} (h:aB w S r [.int .i64 i0,.int .i64 i1,.string s2,.int .i64 i3,.int .i64 i4,.slice A n c]):r.op=i0∧r.kids.length=n:=by
 cases r;rw[aB] at h;obtain ⟨A',c',e,_⟩:=h;simp only[aT,bB,List.cons.injEq,Value.int.injEq,Value.slice.injEq,true_and,and_true] at e;exact ⟨e.1.symm,e.2.2.2.2.2.2.1.symm⟩
theorem Gr {o i c:Int} {ks:List Sx.Rule} {n:Nat} {b:Bool} (hb:b=decide (o≠c∨ks≠[])) (h:o=i∧ks.length=n):b=((i != c) || decide ((0:Int) < (n:Int))):=by
 obtain ⟨rfl,rfl⟩:=h;rw[hb,Bool.eq_iff_iff];cases ks <;> simp
theorem Jd {p:Sx.Prog} (h:Sx.dW p=true) (hf:Sx.iD p=true):∀ z∈p.reqs,z.names.length=z.froms.length∧z.names.length≤20:=fun z hz=>by
 unfold Sx.dW at h;unfold Sx.iD at hf;simp only[Bool.and_eq_true] at h hf;have h1:=List.all_eq_true.1 h.2 z hz;have h2:=List.all_eq_true.1 hf.2 z hz;unfold Sx.fG at h1;unfold Sx.uw at h2;simp only[Bool.and_eq_true,beq_iff_eq] at h1;exact ⟨h1.1.2,by simpa using h2⟩
theorem SB {x:Sx.dh} {w W wr:World} {A0 A1 A2 A3 A4 A5 A6 A':Option Addr} {c0 c1 c2 c3 c4 c5 c6 c' n0 n1 n2 n3 n4 n5 n6 n':Nat} {P1:List Lx.Tok} {u5 u14 u15 u16 u17 u18 u19 u20 u21 u22 u23 u24 u25 u26 u27 u28 u29 u30 u31 u32 u33 u34 u35 u36 u37 u38 u39 u40 u41 u42 u43 u44 u45 u46 u47 u48 u49 u50 u51 u52 u53 u54 u55 u56 u57 u58 u59 u60 u61 u62 u63 u64 u65 u66 u67 u68 u69 u70 u71 u72 u73 u74 u75 u76 u77 u78 u79 u80 u81 u82 u83 u84 u85 u86 u87 u88 u89 u90 u91 u92 u93 u94 u95 u96 u97 u98 u99 q0C q0D q0E q0F q0G u105:Value} {K1 K:Act→World→Prop} {ra rb rc rd re rf:Code} (hc:Tryz.f56.body=some (.seq ra (.seq rb (.seq rc (.seq (.seq rd re) rf))))) (HLEN:Hid ((x.courses.flatMap Sx.bP).length+(x.same.flatMap Sx.pairT).length+(x.aS.flatMap Sx.eB).length+(x.classes.flatMap (Sx.fu Sx.dM)).length+(x.bZ.flatMap Sx.jy).length+(x.aJ.flatMap (Sx.fu Sx.cK)).length+(x.clauses.flatMap Sx.dI).length≤60000)) (LV:Hid (∀ y∈x.aS,Sx.iD y=true)) (z1:n1≤140737488351232) (tO:Hid (n1=x.same.length)) (R1:Hid (Row w (Old w) A1 4 fq x.same)) (_OK1:Hid (∀ y∈x.same,Sx.gW y=true)) (z2:n2≤140737488351232) (nE:Hid (n2=x.aS.length)) (R2:Hid (Row w (Old w) A2 7 (bS w (Old w)) x.aS)) (OK2:Hid (∀ y∈x.aS,Sx.dW y=true)) (z3:n3≤140737488351232) (yS:Hid (n3=x.classes.length)) (R3:Hid (Row w (Old w) A3 4 eu x.classes)) (_OK3:Hid (∀ y∈x.classes,Sx.fT y=true)) (z4:n4≤140737488351232) (Mf:Hid (n4=x.bZ.length)) (R4:Hid (Row w (Old w) A4 2 gG x.bZ)) (_OK4:Hid (∀ y∈x.bZ,Sx.jo y=true)) (z5:n5≤140737488351232) (Mg:Hid (n5=x.aJ.length)) (R5:Hid (Row w (Old w) A5 4 eu x.aJ)) (_OK5:Hid (∀ y∈x.aJ,Sx.fT y=true)) (z6:n6≤140737488351232) (Mh:Hid (n6=x.clauses.length)) (R6:Hid (Row w (Old w) A6 4 bH x.clauses)) (OK6:Hid (∀ y∈x.clauses,Sx.dL y=true)) (HB0:Hid (Below w.heap.size w W)) (_kz:w.heap.size < W.heap.size) (iW:Hid (∀ w':World,KP W w'→w'.cell? ⟨w.heap.size,0,none⟩=some (.slice A0 n0 c0)∧w'.cell? ⟨w.heap.size,1,none⟩=some (.slice A1 n1 c1)∧w'.cell? ⟨w.heap.size,2,none⟩=some (.slice A2 n2 c2)∧w'.cell? ⟨w.heap.size,3,none⟩=some (.slice A3 n3 c3)∧w'.cell? ⟨w.heap.size,4,none⟩=some (.slice A4 n4 c4)∧w'.cell? ⟨w.heap.size,5,none⟩=some (.slice A5 n5 c5)∧w'.cell? ⟨w.heap.size,6,none⟩=some (.slice A6 n6 c6))) (HT:Hid (TS w W P1 A' n' c' wr)) (rX:Hid (P1=x.courses.flatMap Sx.bP)) (HS:Hid (P1.length=0+(x.courses.flatMap Sx.bP).length)) (h1:∀ a w',Code.wp Tryz.prog rf (bodyPost Tryz.prog Tryz.f56 (jD (Sx.gQ x) w)) a w'→K1 a w') (h:∀ a w',Code.wp Tryz.prog re (Exit.then K1 (bodyPost Tryz.prog Tryz.f56 (jD (Sx.gQ x) w))) a w'→K a w'):Code.wp Tryz.prog rd (Exit.then K (Exit.then K1 (bodyPost Tryz.prog Tryz.f56 (jD (Sx.gQ x) w)))) { tmps:=#[.agg #[.slice A0 n0 c0,.slice A1 n1 c1,.slice A2 n2 c2,.slice A3 n3 c3,.slice A4 n4 c4,.slice A5 n5 c5,.slice A6 n6 c6],.pointer (some { block:=w.heap.size,off:=0 }),.slice none 0 0,.slice A' n' c',.int .i64 n0,u5,undef,undef,undef,undef,undef,undef,undef,undef,u14,u15,u16,u17,u18,u19,u20,u21,u22,u23,u24,u25,u26,u27,u28,u29,u30,u31,u32,u33,u34,u35,u36,u37,u38,u39,u40,u41,u42,u43,u44,u45,u46,u47,u48,u49,u50,u51,u52,u53,u54,u55,u56,u57,u58,u59,u60,u61,u62,u63,u64,u65,u66,u67,u68,u69,u70,u71,u72,u73,u74,u75,u76,u77,u78,u79,u80,u81,u82,u83,u84,u85,u86,u87,u88,u89,u90,u91,u92,u93,u94,u95,u96,u97,u98,u99,q0C,q0D,q0E,q0F,q0G,u105,undef,undef,undef,undef,undef,undef,undef,undef,undef,undef,undef,undef,undef,undef,undef,undef,undef,undef,undef,undef,undef,undef,undef,undef,undef,undef,undef,undef,undef,undef,undef,undef,undef,undef,undef,undef,undef,undef,undef,undef,undef,undef,undef,undef,undef,undef,undef,undef,undef,undef,undef,undef,undef,undef,undef,undef,undef,undef,undef,undef,undef,undef,undef,undef,undef,undef,undef,undef,undef,undef,undef,undef,undef,undef,undef,undef,undef,undef,undef,undef,undef,undef,undef,undef,undef,undef,undef,undef,undef,undef,undef,undef,undef,undef,undef,undef,undef,undef,undef,undef,undef,undef,undef,undef,undef,undef,undef,undef,undef,undef,undef,undef,undef,undef,undef,undef,undef,undef,undef,undef,undef,undef,undef,undef,undef,undef,undef,undef,undef,undef,undef,undef,undef,undef,undef,undef,undef,undef,undef,undef,undef,undef,undef,undef,undef,undef,undef,undef,undef],defers:=[] } wr:=by
 rw[show Tryz.f56.body=some _ from rfl] at hc;simp only[Option.some.injEq,Code.seq.injEq] at hc;obtain ⟨-,-,-,⟨rfl,rfl⟩,rfl⟩:=hc;obtain ⟨k0,k1,k2,k3,k4,k5,k6⟩:=iW.out _ HT.out.kp;go_wp2_with fail
 go_loopg [3,6] n1 (fun gk v3 vs wr=>∃ (i n' c':Nat) (A':Option Addr) (L':List Lx.Tok),vs = .int .i64 i∧i+gk=n1∧v3 = .slice A' n' c'∧Hid (TS w W L' A' n' c' wr)∧Hid (L'=P1++(x.same.take i).flatMap Sx.pairT))
 case atStart=>exact ⟨0,_,_,_,_,rfl,by omega,rfl,HT,Lh (by simp)⟩
 case round=>
  obtain ⟨i,n',c',A',L',rfl,hi,rfl,HT,HL⟩:=hrel;clear k0 k1 k2 k3 k4 k5 k6;obtain ⟨k0,k1,k2,k3,k4,k5,k6⟩:=iW.out _ HT.out.kp;have Hn:=Lh (show n'≤60000 by
   rw[←HT.out.len,HL.out,List.length_append];have h1:=HLEN.out;have h2:=mh (f:=Sx.pairT) x.same i;have h3:=HS.out;omega)
  by_cases hlt:i < n1
  ·obtain ⟨y,hy⟩:∃ y,x.same[i]?=some y:=⟨_,List.getElem?_eq_getElem (by have:=tO.out;omega)⟩
   have Hy:=Lh hy;obtain ⟨be,oe,ce,rfl,cO,hre,hce⟩:=R1.out.at_ i _ hy;have hbe:be < wr.heap.size:=Nat.lt_of_lt_of_le cO HT.out.aY.size;obtain ⟨rfl,hla,hlb⟩:=hre;have g0:=(HT.out.aY.cell (p:=⟨be,_,none⟩) cO).trans (hce 0 _ rfl);have g1:=(HT.out.aY.cell (p:=⟨be,_,none⟩) cO).trans (hce 1 _ rfl);have g2:=(HT.out.aY.cell (p:=⟨be,_,none⟩) cO).trans (hce 2 _ rfl);have g3:=(HT.out.aY.cell (p:=⟨be,_,none⟩) cO).trans (hce 3 _ rfl)
   try simp only [Nat.add_zero,bB,aT] at g0 g1 g2 g3
   clear hce hy;obtain ⟨v,hv⟩:∃ V,V=wr.alloc (.cells #[.string (Lx.bs y.a),.string (Lx.bs y.b),.int .i64 y.x,.int .i64 y.y] 71):=⟨_,rfl⟩
   have hb0:Below wr.heap.size wr v:=by rw [hv];exact (Below.refl _ _).alloc (Nat.le_refl _) _
   have e0:aC v wr.heap.size 71 #[.string (Lx.bs y.a),.string (Lx.bs y.b),.int .i64 y.x,.int .i64 y.y]:=by rw [hv];exact aC.new _ _ _
   have Ra:=Lh (HT.out.call hb0).kp;replace HT:=Lh (HT.out.call hb0).at;go_upto_region 22 with fail;rw[←hv];obtain ⟨bz,hbz⟩:∃ b,b=wr.heap.size:=⟨_,rfl⟩
   rw[←hbz] at e0 ⊢;have HX:=Lh e0;clear hv hb0 e0 hbz g0 g1 g2 g3 k0 k1 k2 k3 k4 k5 k6;have HA:Hid (∀ w':World,KP v w'→w'.cell? ⟨bz,0,none⟩=some (.string (Lx.bs y.a))∧w'.cell? ⟨bz,2,none⟩=some (.int .i64 y.x)):=Lh (fun w' hk=>by
    obtain ⟨x0,x1,x2,x3,_⟩:=fB (hk.blk HX.out (by decide) (by decide));exact ⟨x0,x2⟩)
   have HC:Hid (∀ w':World,KP v w'→w'.cell? ⟨bz,1,none⟩=some (.string (Lx.bs y.b))∧w'.cell? ⟨bz,3,none⟩=some (.int .i64 y.y)):=Lh (fun w' hk=>by
    obtain ⟨x0,x1,x2,x3,_⟩:=fB (hk.blk HX.out (by decide) (by decide));exact ⟨x1,x3⟩)
   have hz:=HX.out.lt;obtain ⟨r0,r1⟩:=HA.out _ HT.out.kp
   go_region_held_law (fun w':World=>w'.cell? ⟨bz,0,none⟩=some (.string (Lx.bs y.a))∧w'.cell? ⟨bz,2,none⟩=some (.int .i64 y.x)) (first | exact HA.out _ HT.out.drew.kp | go_keep) (first
    | (go_at_call 140;refine (sj _ _).mono ?_;rintro e w5 ⟨rfl,hb⟩;replace HT:=(by first | exact Lh (HT.out.call hb) | exact Lh (HT.out.drew.call hb));obtain ⟨r0,r1⟩:=HA.out _ HT.out.kp;clear hb)
    | (go_at_call 143;refine (xP y.a y.x _).mono ?_;rintro e w5 ⟨A5,n5,c5,rfl,hr⟩;have hb:=hr.aY;have HQ:=Lh hr;replace HT:=(by first | exact Lh (HT.out.call hb) | exact Lh (HT.out.drew.call hb));obtain ⟨r0,r1⟩:=HA.out _ HT.out.kp;clear hb)
    | (have ex:=TS.app (d:=c5) 51 HT.out HQ.out.lies HQ.out.len (by have a1:=mq.out;have:=HQ.out.len;have:=jS y.a y.x;have:=Hn.out;omega);refine aL rfl rfl _ _ _ rfl rfl rfl ex ?_;clear ex;rintro v w6 ⟨Pm,Pn,c2',Ob,rfl,hn,hL,ht⟩;have Ji:=Lh hn;have HL2:=Lh hL;replace HT:=Lh ht;clear hn hL ht;obtain ⟨r0,r1⟩:=HA.out _ HT.out.kp;(try simp only [Act.put,List.setIfInBounds_toArray,List.set_cons_zero,List.set_cons_succ]))
    | (have ex:=TS.lit (k:=1) 51 HT.out [Sx.av Sx.oh] rfl rfl (by have:=Hn.out;omega);refine aL rfl rfl _ _ _ rfl rfl rfl ex ?_;clear ex;rintro v w6 ⟨wm,n1',c1',tq,rfl,hn,hL,ht⟩;have mq:=Lh hn;have mX:=Lh hL;replace HT:=Lh ht;clear hn hL ht;obtain ⟨r0,r1⟩:=HA.out _ HT.out.kp;(try simp only [Act.put,List.setIfInBounds_toArray,List.set_cons_zero,List.set_cons_succ])))
   have HB2:=Lh (show Pn≤60010 by have:=mq.out;have:=Ji.out;have:=HQ.out.len;have:=jS y.a y.x;have:=Hn.out;omega);clear r0 r1 hz;obtain ⟨r0,r1⟩:=HC.out _ HT.out.kp;have hz:=(HT.out.kp.blk HX.out (by decide) (by decide)).lt;go_wp2_with fail
   go_region_held_law (fun w':World=>w'.cell? ⟨bz,1,none⟩=some (.string (Lx.bs y.b))∧w'.cell? ⟨bz,3,none⟩=some (.int .i64 y.y)) (first | exact HC.out _ HT.out.drew.kp | go_keep) (first
    | (go_at_call 142;refine (uY _ _).mono ?_;rintro e w5 ⟨rfl,hb⟩;replace HT:=(by first | exact Lh (HT.out.call hb) | exact Lh (HT.out.drew.call hb));obtain ⟨r0,r1⟩:=HC.out _ HT.out.kp;clear hb)
    | (go_at_call 143;refine (xP y.b y.y _).mono ?_;rintro e w5 ⟨A5,n5,c5,rfl,hr⟩;have hb:=hr.aY;have HQ:=Lh hr;replace HT:=(by first | exact Lh (HT.out.call hb) | exact Lh (HT.out.drew.call hb));obtain ⟨r0,r1⟩:=HC.out _ HT.out.kp;clear hb)
    | (have ex:=TS.lit (k:=1) 51 HT.out [Sx.bI 59] rfl rfl (by have:=Xj.out;have:=XP.out;have:=HQ.out.len;have:=jS y.b y.y;have:=HB2.out;omega);refine aL rfl rfl _ _ _ rfl rfl rfl ex ?_;clear ex;rintro v w6 ⟨NA,n5',NC,L5',rfl,hn,hL,ht⟩;have HN5:=Lh hn;have HL5:=Lh hL;replace HT:=Lh ht;clear hn hL ht;obtain ⟨r0,r1⟩:=HC.out _ HT.out.kp;(try simp only [Act.put,List.setIfInBounds_toArray,List.set_cons_zero,List.set_cons_succ]))
    | (have ex:=TS.app (d:=c5) 51 HT.out HQ.out.lies HQ.out.len (by have:=Xj.out;have:=HQ.out.len;have:=jS y.b y.y;have:=HB2.out;omega);refine aL rfl rfl _ _ _ rfl rfl rfl ex ?_;clear ex;rintro v w6 ⟨Vj,n4',Vk,L4',rfl,hn,hL,ht⟩;have XP:=Lh hn;have HL4:=Lh hL;replace HT:=Lh ht;clear hn hL ht;obtain ⟨r0,r1⟩:=HC.out _ HT.out.kp;(try simp only [Act.put,List.setIfInBounds_toArray,List.set_cons_zero,List.set_cons_succ]))
    | (have ex:=TS.lit (k:=1) 51 HT.out [Sx.bI 61] rfl rfl (by have:=HB2.out;omega);refine aL rfl rfl _ _ _ rfl rfl rfl ex ?_;clear ex;rintro v w6 ⟨Xi,n3',c3',L3',rfl,hn,hL,ht⟩;have Xj:=Lh hn;have Zr:=Lh hL;replace HT:=Lh ht;clear hn hL ht;obtain ⟨r0,r1⟩:=HC.out _ HT.out.kp;(try simp only [Act.put,List.setIfInBounds_toArray,List.set_cons_zero,List.set_cons_succ])))
   all_goals (try go_wp2_with fail)
   go_roundg (gk - 1)
   all_goals first
    | omega
    | exact ⟨i+1,_,_,_,_,by go_num,by omega,rfl,Lh (HT.out.onto Ra.out),Lh (by rw [HL5.out,HL4.out,Zr.out,HL2.out,mX.out,HL.out,iZ Hy.out];simp[Sx.pairT])⟩
  ·obtain rfl:i=n1:=by omega
   have HE2:=Lh (show L'=P1++x.same.flatMap Sx.pairT by rw [HL.out,show x.same.take i=x.same by rw [tO.out];exact List.take_length]);replace HS:=Lh (show L'.length=0+(x.courses.flatMap Sx.bP).length+(x.same.flatMap Sx.pairT).length by rw [HE2.out,List.length_append,HS.out]);obtain ⟨P2,rfl⟩:∃ P,P=L':=⟨_,rfl⟩
   clear hi Hn HL hlt;go_wp2_with fail
   go_loopg [3,8] n2 (fun gk v3 vs wr=>∃ (i n' c':Nat) (A':Option Addr) (L':List Lx.Tok),vs = .int .i64 i∧i+gk=n2∧v3 = .slice A' n' c'∧Hid (TS w W L' A' n' c' wr)∧Hid (L'=P2++(x.aS.take i).flatMap Sx.eB))
   case atStart=>exact ⟨0,_,_,_,_,rfl,by omega,rfl,HT,Lh (by simp)⟩
   case round=>
    obtain ⟨i,n',c',A',L',rfl,hi,rfl,HT,HL⟩:=hrel;clear k0 k1 k2 k3 k4 k5 k6;obtain ⟨k0,k1,k2,k3,k4,k5,k6⟩:=iW.out _ HT.out.kp;have Hn:=Lh (show n'≤60000 by
     rw[←HT.out.len,HL.out,List.length_append];have h1:=HLEN.out;have h2:=mh (f:=Sx.eB) x.aS i;have h3:=HS.out;omega)
    by_cases hlt:i < n2
    ·obtain ⟨y,hy⟩:∃ y,x.aS[i]?=some y:=⟨_,List.getElem?_eq_getElem (by have:=nE.out;omega)⟩
     have Hy:=Lh hy;obtain ⟨be,oe,ce,rfl,cO,hre,hce⟩:=R2.out.at_ i _ hy;have hbe:be < wr.heap.size:=Nat.lt_of_lt_of_le cO HT.out.aY.size;have HRe:=Lh hre;have SC:=Sx.Dx (LV.out y (List.mem_of_getElem? Hy.out));have HRQ:=Lh (Jd (OK2.out y (List.mem_of_getElem? Hy.out)) (LV.out y (List.mem_of_getElem? Hy.out)));obtain ⟨s0,i1,i2,i3,i4,i5,A_6,n_6,c_6,rfl⟩:=kS hre;have g0:=(HT.out.aY.cell (p:=⟨be,_,none⟩) cO).trans (hce 0 _ rfl);have g1:=(HT.out.aY.cell (p:=⟨be,_,none⟩) cO).trans (hce 1 _ rfl);have g2:=(HT.out.aY.cell (p:=⟨be,_,none⟩) cO).trans (hce 2 _ rfl)
     have g3:=(HT.out.aY.cell (p:=⟨be,_,none⟩) cO).trans (hce 3 _ rfl);have g4:=(HT.out.aY.cell (p:=⟨be,_,none⟩) cO).trans (hce 4 _ rfl);have g5:=(HT.out.aY.cell (p:=⟨be,_,none⟩) cO).trans (hce 5 _ rfl);have g6:=(HT.out.aY.cell (p:=⟨be,_,none⟩) cO).trans (hce 6 _ rfl)
     try simp only [Nat.add_zero] at g0 g1 g2 g3 g4 g5 g6
     clear hce hy;go_wp2_with (first | (go_at_call 144;refine (Q9 y _ _ (iy HT.out.aY HRe.out) (by have:=SC;omega) HRQ.out).mono ?_;rintro e w5 ⟨A5,n5,c5,rfl,hr⟩;have hb:=hr.aY;have HQ:=Lh hr;replace HT:=Lh (HT.out.call hb);clear hb) | (at_builtin;have ex:=TS.app (d:=c5) 51 HT.out HQ.out.lies HQ.out.len (by have:=HQ.out.len;have:=Hn.out;have:=SC;omega);refine aI rfl _ _ _ rfl rfl rfl ex ?_;clear ex;rintro v w6 ⟨wm,n1',c1',tq,rfl,hn,hL,ht⟩;have mq:=Lh hn;have mX:=Lh hL;replace HT:=Lh ht;clear hn hL ht;skip))
     go_roundg (gk - 1)
     all_goals first
      | omega
      | exact ⟨i+1,_,_,_,_,by go_num,by omega,rfl,HT,Lh (by rw [mX.out,HL.out,iZ Hy.out];simp)⟩
    ·obtain rfl:i=n2:=by omega
     have UY:=Lh (show L'=P2++x.aS.flatMap Sx.eB by rw [HL.out,show x.aS.take i=x.aS by rw [nE.out];exact List.take_length]);replace HS:=Lh (show L'.length=0+(x.courses.flatMap Sx.bP).length+(x.same.flatMap Sx.pairT).length+(x.aS.flatMap Sx.eB).length by rw [UY.out,List.length_append,HS.out]);obtain ⟨P3,rfl⟩:∃ P,P=L':=⟨_,rfl⟩
     clear hi Hn HL hlt;go_wp2_with fail
     go_loopg [3,9] n3 (fun gk v3 vs wr=>∃ (i n' c':Nat) (A':Option Addr) (L':List Lx.Tok),vs = .int .i64 i∧i+gk=n3∧v3 = .slice A' n' c'∧Hid (TS w W L' A' n' c' wr)∧Hid (L'=P3++(x.classes.take i).flatMap (Sx.fu Sx.dM)))
     case atStart=>exact ⟨0,_,_,_,_,rfl,by omega,rfl,HT,Lh (by simp)⟩
     case round=>
      obtain ⟨i,n',c',A',L',rfl,hi,rfl,HT,HL⟩:=hrel;clear k0 k1 k2 k3 k4 k5 k6;obtain ⟨k0,k1,k2,k3,k4,k5,k6⟩:=iW.out _ HT.out.kp;have Hn:=Lh (show n'≤60000 by
       rw[←HT.out.len,HL.out,List.length_append];have h1:=HLEN.out;have h2:=mh (f:=(Sx.fu Sx.dM)) x.classes i;have h3:=HS.out;omega)
      by_cases hlt:i < n3
      ·obtain ⟨y,hy⟩:∃ y,x.classes[i]?=some y:=⟨_,List.getElem?_eq_getElem (by have:=yS.out;omega)⟩
       have Hy:=Lh hy;obtain ⟨be,oe,ce,rfl,cO,hre,hce⟩:=R3.out.at_ i _ hy;have hbe:be < wr.heap.size:=Nat.lt_of_lt_of_le cO HT.out.aY.size;obtain ⟨rfl,hnl⟩:=hre;have SC:=Sx.wG Sx.dM y;have g0:=(HT.out.aY.cell (p:=⟨be,_,none⟩) cO).trans (hce 0 _ rfl);have g1:=(HT.out.aY.cell (p:=⟨be,_,none⟩) cO).trans (hce 1 _ rfl);have g2:=(HT.out.aY.cell (p:=⟨be,_,none⟩) cO).trans (hce 2 _ rfl);have g3:=(HT.out.aY.cell (p:=⟨be,_,none⟩) cO).trans (hce 3 _ rfl)
       try simp only [Nat.add_zero,bB,aT] at g0 g1 g2 g3
       clear hce hy;go_wp2_with (first | (go_at_call 145;refine (Gs Sx.dM y _).mono ?_;rintro e w5 ⟨A5,n5,c5,rfl,hr⟩;have hb:=hr.aY;have HQ:=Lh hr;replace HT:=Lh (HT.out.call hb);clear hb) | (at_builtin;have ex:=TS.app (d:=c5) 51 HT.out HQ.out.lies HQ.out.len (by have:=HQ.out.len;have:=Hn.out;have:=SC;omega);refine aI rfl _ _ _ rfl rfl rfl ex ?_;clear ex;rintro v w6 ⟨wm,n1',c1',tq,rfl,hn,hL,ht⟩;have mq:=Lh hn;have mX:=Lh hL;replace HT:=Lh ht;clear hn hL ht;skip))
       go_roundg (gk - 1)
       all_goals first
        | omega
        | exact ⟨i+1,_,_,_,_,by go_num,by omega,rfl,HT,Lh (by rw [mX.out,HL.out,iZ Hy.out];simp)⟩
      ·obtain rfl:i=n3:=by omega
       have HE4:=Lh (show L'=P3++x.classes.flatMap (Sx.fu Sx.dM) by rw [HL.out,show x.classes.take i=x.classes by rw [yS.out];exact List.take_length]);replace HS:=Lh (show L'.length=0+(x.courses.flatMap Sx.bP).length+(x.same.flatMap Sx.pairT).length+(x.aS.flatMap Sx.eB).length+(x.classes.flatMap (Sx.fu Sx.dM)).length by rw [HE4.out,List.length_append,HS.out]);obtain ⟨P4,rfl⟩:∃ P,P=L':=⟨_,rfl⟩
       clear hi Hn HL hlt;go_wp2_with fail
       go_loopg [3,10] n4 (fun gk v3 vs wr=>∃ (i n' c':Nat) (A':Option Addr) (L':List Lx.Tok),vs = .int .i64 i∧i+gk=n4∧v3 = .slice A' n' c'∧Hid (TS w W L' A' n' c' wr)∧Hid (L'=P4++(x.bZ.take i).flatMap Sx.jy))
       case atStart=>exact ⟨0,_,_,_,_,rfl,by omega,rfl,HT,Lh (by simp)⟩
       case round=>
        obtain ⟨i,n',c',A',L',rfl,hi,rfl,HT,HL⟩:=hrel;clear k0 k1 k2 k3 k4 k5 k6;obtain ⟨k0,k1,k2,k3,k4,k5,k6⟩:=iW.out _ HT.out.kp;have Hn:=Lh (show n'≤60000 by
         rw[←HT.out.len,HL.out,List.length_append];have h1:=HLEN.out;have h2:=mh (f:=Sx.jy) x.bZ i;have h3:=HS.out;omega)
        by_cases hlt:i < n4
        ·obtain ⟨y,hy⟩:∃ y,x.bZ[i]?=some y:=⟨_,List.getElem?_eq_getElem (by have:=Mf.out;omega)⟩
         have Hy:=Lh hy;obtain ⟨be,oe,ce,rfl,cO,hre,hce⟩:=R4.out.at_ i _ hy;have hbe:be < wr.heap.size:=Nat.lt_of_lt_of_le cO HT.out.aY.size;obtain ⟨rfl,hnl⟩:=hre;have g0:=(HT.out.aY.cell (p:=⟨be,_,none⟩) cO).trans (hce 0 _ rfl);have g1:=(HT.out.aY.cell (p:=⟨be,_,none⟩) cO).trans (hce 1 _ rfl)
         try simp only [Nat.add_zero,bB,aT] at g0 g1
         have h0_:=hce 0 _ rfl;have h1_:=hce 1 _ rfl;simp only[Nat.add_zero,bB,aT] at h0_ h1_;have Hg0:=Lh h0_;have Hg1:=Lh h1_;have kC:Hid (∀ {w':World} {l:List Lx.Tok} {A:Option Addr} {n c:Nat},TS w W l A n c w'→w'.cell? ⟨w.heap.size,4,none⟩=some (.slice (some ⟨be,oe,none⟩) n4 c4)∧w'.cell? ⟨be,oe+i*2,none⟩=some (.string (Lx.bs y.name))∧w'.cell? ⟨be,oe+i*2+1,none⟩=some (.int .i64 y.aU)):=Lh (fun h=>by
          obtain ⟨_,_,_,_,q4,_,_⟩:=iW.out _ h.kp;exact ⟨q4,(h.aY.cell (p:=⟨be,_,none⟩) cO).trans Hg0.out,(h.aY.cell (p:=⟨be,_,none⟩) cO).trans Hg1.out⟩)
         clear hce hy h0_ h1_;go_wp2_with fail
         go_region_held_law (fun w':World=>w'.cell? ⟨w.heap.size,4,none⟩=some (.slice (some ⟨be,oe,none⟩) n4 c4)∧w'.cell? ⟨be,oe+i*2,none⟩=some (.string (Lx.bs y.name))∧w'.cell? ⟨be,oe+i*2+1,none⟩=some (.int .i64 y.aU)) (first | exact kC.out HT.out.drew | go_keep) (first
          | ((first | (go_at_call 140;refine (sj _ _).mono ?_) | (go_at_call 141;refine (EN _ _).mono ?_) | (go_at_call 142;refine (uY _ _).mono ?_));rintro e w5 ⟨rfl,hb⟩;replace HT:=(by first | exact Lh (HT.out.call hb) | exact Lh (HT.out.drew.call hb));obtain ⟨r0,r1,r2⟩:=kC.out HT.out;clear hb)
          | (have ex:=TS.lit (k:=4) 51 HT.out [Sx.av Sx.vG,Sx.av y.name,Sx.aW y.aU,Sx.bI 59] rfl rfl (by have:=Hn.out;omega);refine aL rfl rfl _ _ _ rfl rfl rfl ex ?_;clear ex;rintro v w6 ⟨wm,n1',c1',tq,rfl,hn,hL,ht⟩;have mq:=Lh hn;have mX:=Lh hL;replace HT:=Lh ht;clear hn hL ht;obtain ⟨r0,r1,r2⟩:=kC.out HT.out;(try simp only [Act.put,List.setIfInBounds_toArray,List.set_cons_zero,List.set_cons_succ])))
         all_goals (try go_wp2_with fail)
         go_roundg (gk - 1)
         all_goals first
          | omega
          | exact ⟨i+1,_,_,_,_,by go_num,by omega,rfl,HT,Lh (by rw [mX.out,HL.out,iZ Hy.out];simp[Sx.jy])⟩
        ·obtain rfl:i=n4:=by omega
         have HE5:=Lh (show L'=P4++x.bZ.flatMap Sx.jy by rw [HL.out,show x.bZ.take i=x.bZ by rw [Mf.out];exact List.take_length]);replace HS:=Lh (show L'.length=0+(x.courses.flatMap Sx.bP).length+(x.same.flatMap Sx.pairT).length+(x.aS.flatMap Sx.eB).length+(x.classes.flatMap (Sx.fu Sx.dM)).length+(x.bZ.flatMap Sx.jy).length by rw [HE5.out,List.length_append,HS.out]);obtain ⟨P5,rfl⟩:∃ P,P=L':=⟨_,rfl⟩
         clear hi Hn HL hlt;go_wp2_with fail
         go_loopg [3,11] n5 (fun gk v3 vs wr=>∃ (i n' c':Nat) (A':Option Addr) (L':List Lx.Tok),vs = .int .i64 i∧i+gk=n5∧v3 = .slice A' n' c'∧Hid (TS w W L' A' n' c' wr)∧Hid (L'=P5++(x.aJ.take i).flatMap (Sx.fu Sx.cK)))
         case atStart=>exact ⟨0,_,_,_,_,rfl,by omega,rfl,HT,Lh (by simp)⟩
         case round=>
          obtain ⟨i,n',c',A',L',rfl,hi,rfl,HT,HL⟩:=hrel;clear k0 k1 k2 k3 k4 k5 k6;obtain ⟨k0,k1,k2,k3,k4,k5,k6⟩:=iW.out _ HT.out.kp;have Hn:=Lh (show n'≤60000 by
           rw[←HT.out.len,HL.out,List.length_append];have h1:=HLEN.out;have h2:=mh (f:=(Sx.fu Sx.cK)) x.aJ i;have h3:=HS.out;omega)
          by_cases hlt:i < n5
          ·obtain ⟨y,hy⟩:∃ y,x.aJ[i]?=some y:=⟨_,List.getElem?_eq_getElem (by have:=Mg.out;omega)⟩
           have Hy:=Lh hy;obtain ⟨be,oe,ce,rfl,cO,hre,hce⟩:=R5.out.at_ i _ hy;have hbe:be < wr.heap.size:=Nat.lt_of_lt_of_le cO HT.out.aY.size;obtain ⟨rfl,hnl⟩:=hre;have SC:=Sx.wG Sx.cK y;have g0:=(HT.out.aY.cell (p:=⟨be,_,none⟩) cO).trans (hce 0 _ rfl);have g1:=(HT.out.aY.cell (p:=⟨be,_,none⟩) cO).trans (hce 1 _ rfl);have g2:=(HT.out.aY.cell (p:=⟨be,_,none⟩) cO).trans (hce 2 _ rfl);have g3:=(HT.out.aY.cell (p:=⟨be,_,none⟩) cO).trans (hce 3 _ rfl)
           try simp only [Nat.add_zero,bB,aT] at g0 g1 g2 g3
           clear hce hy;go_wp2_with (first | (go_at_call 145;refine (Gs Sx.cK y _).mono ?_;rintro e w5 ⟨A5,n5,c5,rfl,hr⟩;have hb:=hr.aY;have HQ:=Lh hr;replace HT:=Lh (HT.out.call hb);clear hb) | (at_builtin;have ex:=TS.app (d:=c5) 51 HT.out HQ.out.lies HQ.out.len (by have:=HQ.out.len;have:=Hn.out;have:=SC;omega);refine aI rfl _ _ _ rfl rfl rfl ex ?_;clear ex;rintro v w6 ⟨wm,n1',c1',tq,rfl,hn,hL,ht⟩;have mq:=Lh hn;have mX:=Lh hL;replace HT:=Lh ht;clear hn hL ht;skip))
           go_roundg (gk - 1)
           all_goals first
            | omega
            | exact ⟨i+1,_,_,_,_,by go_num,by omega,rfl,HT,Lh (by rw [mX.out,HL.out,iZ Hy.out];simp)⟩
          ·obtain rfl:i=n5:=by omega
           have HE6:=Lh (show L'=P5++x.aJ.flatMap (Sx.fu Sx.cK) by rw [HL.out,show x.aJ.take i=x.aJ by rw [Mg.out];exact List.take_length]);replace HS:=Lh (show L'.length=0+(x.courses.flatMap Sx.bP).length+(x.same.flatMap Sx.pairT).length+(x.aS.flatMap Sx.eB).length+(x.classes.flatMap (Sx.fu Sx.dM)).length+(x.bZ.flatMap Sx.jy).length+(x.aJ.flatMap (Sx.fu Sx.cK)).length by rw [HE6.out,List.length_append,HS.out]);obtain ⟨P6,rfl⟩:∃ P,P=L':=⟨_,rfl⟩
           clear hi Hn HL hlt;go_wp2_with fail
           go_loopg [3,12] n6 (fun gk v3 vs wr=>∃ (i n' c':Nat) (A':Option Addr) (L':List Lx.Tok),vs = .int .i64 i∧i+gk=n6∧v3 = .slice A' n' c'∧Hid (TS w W L' A' n' c' wr)∧Hid (L'=P6++(x.clauses.take i).flatMap Sx.dI))
           case atStart=>exact ⟨0,_,_,_,_,rfl,by omega,rfl,HT,Lh (by simp)⟩
           case round=>
            obtain ⟨i,n',c',A',L',rfl,hi,rfl,HT,HL⟩:=hrel;clear k0 k1 k2 k3 k4 k5 k6;obtain ⟨k0,k1,k2,k3,k4,k5,k6⟩:=iW.out _ HT.out.kp;have Hn:=Lh (show n'≤60000 by
             rw[←HT.out.len,HL.out,List.length_append];have h1:=HLEN.out;have h2:=mh (f:=Sx.dI) x.clauses i;have h3:=HS.out;omega)
            by_cases hlt:i < n6
            ·obtain ⟨y,hy⟩:∃ y,x.clauses[i]?=some y:=⟨_,List.getElem?_eq_getElem (by have:=Mh.out;omega)⟩
             have Hy:=Lh hy;obtain ⟨be,oe,ce,rfl,cO,hre,hce⟩:=R6.out.at_ i _ hy;have hbe:be < wr.heap.size:=Nat.lt_of_lt_of_le cO HT.out.aY.size;unfold bH at hre;subst hre;have hoy:=OK6.out y (List.mem_of_getElem? Hy.out);obtain ⟨kd,wn,ac,u_⟩:=y;simp only[Sx.dL,Sx.dX,Bool.and_eq_true,decide_eq_true_eq] at hoy;obtain ⟨Dy,rfl⟩:∃ k:Nat,kd=(k:Int)+1:=⟨(kd - 1).toNat,by omega⟩
             obtain ⟨Dz,rfl⟩:∃ k:Nat,wn=(k:Int):=⟨wn.toNat,by omega⟩
             obtain ⟨DC,rfl⟩:∃ k:Nat,ac=(k:Int)+1:=⟨(ac - 1).toNat,by omega⟩
             have kl1:Dy < 5:=by omega
             have ki1:(Dy:Int) < 5:=by omega
             have ki2:(Dz:Int) < 3:=by omega
             have ki3:(DC:Int) < 3:=by omega
             have kl2:Dz < 3:=by omega
             have kl3:DC < 3:=by omega
             obtain ⟨Pz,hw1⟩:∃ y,Sx.kindWords[Dy]?=some y:=⟨_,List.getElem?_eq_getElem (by rw [show Sx.kindWords.length=5 from rfl];exact kl1)⟩
             obtain ⟨PD,hw2⟩:∃ y,Sx.whenWords[Dz]?=some y:=⟨_,List.getElem?_eq_getElem (by rw [show Sx.whenWords.length=3 from rfl];exact kl2)⟩
             obtain ⟨PE,hw3⟩:∃ y,Sx.actionWords[DC]?=some y:=⟨_,List.getElem?_eq_getElem (by rw [show Sx.actionWords.length=3 from rfl];exact kl3)⟩
             have tk1:IntKind.i64.wrap ((Dy:Int)+1 - 1)=(Dy:Int):=by rw [show (Dy:Int)+1 - 1=Dy by omega];exact IntWalk.i64_in _ (by omega)
             have tk2:IntKind.i64.wrap ((Dz:Int) - 0)=(Dz:Int):=by rw [show (Dz:Int) - 0=Dz by omega];exact IntWalk.i64_in _ (by omega)
             have tk3:IntKind.i64.wrap ((DC:Int)+1 - 1)=(DC:Int):=by rw [show (DC:Int)+1 - 1=DC by omega];exact IntWalk.i64_in _ (by omega)
             have tw1:IntKind.i64.wrap (Dy:Int)=(Dy:Int):=IntWalk.i64_in _ (by omega);have tw2:IntKind.i64.wrap (Dz:Int)=(Dz:Int):=IntWalk.i64_in _ (by omega);have tw3:IntKind.i64.wrap (DC:Int)=(DC:Int):=IntWalk.i64_in _ (by omega);have Htk:=Lh (show Sx.dI ⟨(Dy:Int)+1,Dz,(DC:Int)+1,u_⟩ = [Sx.av Sx.om,Sx.av Pz,Sx.av PD,Sx.av PE,Sx.av Sx.nL,Sx.aW u_,Sx.bI 59] by
              unfold Sx.dI;rw[show ((Dy:Int)+1 - 1).toNat=Dy by omega,show ((Dz:Int)).toNat=Dz by omega,show ((DC:Int)+1 - 1).toNat=DC by omega];simp only[List.getD_eq_getElem?_getD,hw1,hw2,hw3,Option.getD_some])
             have Hw1:=Lh hw1;have Hw2:=Lh hw2;have Hw3:=Lh hw3;clear hw1 hw2 hw3 hoy;have g0:=(HT.out.aY.cell (p:=⟨be,_,none⟩) cO).trans (hce 0 _ rfl);have g1:=(HT.out.aY.cell (p:=⟨be,_,none⟩) cO).trans (hce 1 _ rfl);have g2:=(HT.out.aY.cell (p:=⟨be,_,none⟩) cO).trans (hce 2 _ rfl);have g3:=(HT.out.aY.cell (p:=⟨be,_,none⟩) cO).trans (hce 3 _ rfl)
             try simp only [Nat.add_zero,aT] at g0 g1 g2 g3
             clear hce hy;obtain ⟨v,hv⟩:∃ V,V=wr.alloc (.cells #[.int .i64 ((Dy:Int)+1),.int .i64 (Dz:Int),.int .i64 ((DC:Int)+1),.int .i64 u_] 90):=⟨_,rfl⟩
             have hb0:Below wr.heap.size wr v:=by rw [hv];exact (Below.refl _ _).alloc (Nat.le_refl _) _
             have e0:aC v wr.heap.size 90 #[.int .i64 ((Dy:Int)+1),.int .i64 (Dz:Int),.int .i64 ((DC:Int)+1),.int .i64 u_]:=by rw [hv];exact aC.new _ _ _
             have Ra:=Lh (HT.out.call hb0).kp;replace HT:=Lh (HT.out.call hb0).at;go_upto_region 44 with fail;rw[←hv];obtain ⟨bz,hbz⟩:∃ b,b=wr.heap.size:=⟨_,rfl⟩
             rw[←hbz] at e0 ⊢;have HX:=Lh e0;clear hv hb0 e0 hbz g0 g1 g2 g3 k0 k1 k2 k3 k4 k5 k6;have HA:Hid (∀ w':World,KP v w'→w'.cell? ⟨bz,0,none⟩=some (.int .i64 ((Dy:Int)+1))∧w'.cell? ⟨bz,1,none⟩=some (.int .i64 (Dz:Int))∧w'.cell? ⟨bz,2,none⟩=some (.int .i64 ((DC:Int)+1))∧w'.cell? ⟨bz,3,none⟩=some (.int .i64 u_)):=Lh (fun w' hk=>by
              obtain ⟨x0,x1,x2,x3,_⟩:=fB (hk.blk HX.out (by decide) (by decide));exact ⟨x0,x1,x2,x3⟩)
             have hz:=HX.out.lt;obtain ⟨r0,r1,r2,r3⟩:=HA.out _ HT.out.kp;refine wp_region_held_drew (S:=fun w':World=>w'.cell? ⟨bz,0,none⟩=some (.int .i64 ((Dy:Int)+1))∧w'.cell? ⟨bz,1,none⟩=some (.int .i64 (Dz:Int))∧w'.cell? ⟨bz,2,none⟩=some (.int .i64 ((DC:Int)+1))∧w'.cell? ⟨bz,3,none⟩=some (.int .i64 u_)) (by kernel_rfl) (HA.out _ HT.out.drew.kp) (fun hHeld=>?_);refine wpAnyH_take (i:=0) (v:=?_) rfl (by kernel_rfl) (by kernel_rfl) (by kernel_rfl) (fun _ _ _ h=>h) (Or.inl ⟨by rfl,?_⟩) (by assumption) ?_
             rotate_left
             ·(intro w hSw;(try dsimp only at hSw);go_simp) <;> with_reducible rfl
             try simp only [Act.put,List.setIfInBounds_toArray,List.set_cons_zero,List.set_cons_succ,List.getElem_toArray,List.getElem_cons_zero]
             refine wpAnyH_take (i:=3) (v:=?_) rfl (by kernel_rfl) (by kernel_rfl) (by kernel_rfl) (fun _ _ _ h=>h) (Or.inl ⟨by rfl,?_⟩) (by assumption) ?_
             rotate_left
             ·(intro w hSw;(try dsimp only at hSw);go_simp) <;> with_reducible rfl
             try simp only [Act.put,List.setIfInBounds_toArray,List.set_cons_zero,List.set_cons_succ,List.getElem_toArray,List.getElem_cons_zero,List.getElem_cons_succ]
             refine wpAnyH_take (i:=4) (v:=?_) rfl (by kernel_rfl) (by kernel_rfl) (by kernel_rfl) (fun _ _ _ h=>h) (Or.inl ⟨by rfl,?_⟩) (by assumption) ?_
             rotate_left
             ·(intro w hSw;(try dsimp only at hSw);go_simp) <;> with_reducible rfl
             try simp only [Act.put,List.setIfInBounds_toArray,List.set_cons_zero,List.set_cons_succ,List.getElem_toArray,List.getElem_cons_zero,List.getElem_cons_succ]
             refine wpAnyH_take (i:=5) (v:=?_) rfl (by kernel_rfl) (by kernel_rfl) (by kernel_rfl) (fun _ _ _ h=>h) (Or.inl ⟨by rfl,?_⟩) (by assumption) ?_
             rotate_left
             ·(intro w hSw;(try dsimp only at hSw);go_simp) <;> with_reducible rfl
             try simp only [Act.put,List.setIfInBounds_toArray,List.set_cons_zero,List.set_cons_succ,List.getElem_toArray,List.getElem_cons_zero,List.getElem_cons_succ]
             refine wpAnyH_take (i:=10) (v:=?_) rfl (by kernel_rfl) (by kernel_rfl) (by kernel_rfl) (fun _ _ _ h=>h) (Or.inl ⟨by rfl,?_⟩) (by assumption) ?_
             rotate_left
             ·(intro w hSw;(try dsimp only at hSw);go_simp) <;> with_reducible rfl
             try simp only [Act.put,List.setIfInBounds_toArray,List.set_cons_zero,List.set_cons_succ,List.getElem_toArray,List.getElem_cons_zero,List.getElem_cons_succ]
             refine wpAnyH_take (i:=11) (v:=?_) rfl (by kernel_rfl) (by kernel_rfl) (by kernel_rfl) (fun _ _ _ h=>h) (Or.inl ⟨by rfl,?_⟩) (by assumption) ?_
             rotate_left
             ·(intro w hSw;(try dsimp only at hSw);go_simp) <;> with_reducible rfl
             try simp only [Act.put,List.setIfInBounds_toArray,List.set_cons_zero,List.set_cons_succ,List.getElem_toArray,List.getElem_cons_zero,List.getElem_cons_succ]
             refine wpAnyH_take (i:=12) (v:=?_) rfl (by kernel_rfl) (by kernel_rfl) (by kernel_rfl) (fun _ _ _ h=>h) (Or.inl ⟨by rfl,?_⟩) (by assumption) ?_
             rotate_left
             ·(intro w hSw;(try dsimp only at hSw);go_simp) <;> with_reducible rfl
             try simp only [Act.put,List.setIfInBounds_toArray,List.set_cons_zero,List.set_cons_succ,List.getElem_toArray,List.getElem_cons_zero,List.getElem_cons_succ]
             refine wpAnyH_take (i:=17) (v:=?_) rfl (by kernel_rfl) (by kernel_rfl) (by kernel_rfl) (fun _ _ _ h=>h) (Or.inl ⟨by rfl,?_⟩) (by assumption) ?_
             rotate_left
             ·(intro w hSw;(try dsimp only at hSw);go_simp) <;> with_reducible rfl
             try simp only [Act.put,List.setIfInBounds_toArray,List.set_cons_zero,List.set_cons_succ,List.getElem_toArray,List.getElem_cons_zero,List.getElem_cons_succ]
             refine wpAnyH_take (i:=18) (v:=?_) rfl (by kernel_rfl) (by kernel_rfl) (by kernel_rfl) (fun _ _ _ h=>h) (Or.inl ⟨by rfl,?_⟩) (by assumption) ?_
             rotate_left
             ·(intro w hSw;(try dsimp only at hSw);go_simp) <;> with_reducible rfl
             try simp only [Act.put,List.setIfInBounds_toArray,List.set_cons_zero,List.set_cons_succ,List.getElem_toArray,List.getElem_cons_zero,List.getElem_cons_succ]
             refine wpAnyH_take (i:=19) (v:=?_) rfl (by kernel_rfl) (by kernel_rfl) (by kernel_rfl) (fun _ _ _ h=>h) (Or.inl ⟨by rfl,?_⟩) (by assumption) ?_
             rotate_left
             ·(intro w hSw;(try dsimp only at hSw);go_simp) <;> with_reducible rfl
             try simp only [Act.put,List.setIfInBounds_toArray,List.set_cons_zero,List.set_cons_succ,List.getElem_toArray,List.getElem_cons_zero,List.getElem_cons_succ]
             refine wpAnyH_take (i:=24) (v:=?_) rfl (by kernel_rfl) (by kernel_rfl) (by kernel_rfl) (fun _ _ _ h=>h) (Or.inl ⟨by rfl,?_⟩) (by assumption) ?_
             rotate_left
             ·(intro w hSw;(try dsimp only at hSw);go_simp) <;> with_reducible rfl
             try simp only [Act.put,List.setIfInBounds_toArray,List.set_cons_zero,List.set_cons_succ,List.getElem_toArray,List.getElem_cons_zero,List.getElem_cons_succ]
             refine wpAnyH_take (i:=25) (v:=?_) rfl (by kernel_rfl) (by kernel_rfl) (by kernel_rfl) (fun _ _ _ h=>h) (Or.inl ⟨by rfl,?_⟩) (by assumption) ?_
             rotate_left
             ·(intro w hSw;(try dsimp only at hSw);go_simp) <;> with_reducible rfl
             try simp only [Act.put,List.setIfInBounds_toArray,List.set_cons_zero,List.set_cons_succ,List.getElem_toArray,List.getElem_cons_zero,List.getElem_cons_succ]
             refine wpAnyH_ready (rs:=[1]) (by kernel_rfl) (by simp) ?_;refine AllReadyH.cons rfl (fun K hK=>?_) AllReadyH.nil;go_simp;go_at_call 140;refine (sj _ _).mono ?_;rintro e w5 ⟨rfl,hb⟩;replace HT:=(by first | exact Lh (HT.out.call hb) | exact Lh (HT.out.drew.call hb))
             clear hb;refine hK.out _ _ (HA.out _ HT.out.kp) (fun hHeld=>?_);clear hK K
             try simp only [Act.put,List.setIfInBounds_toArray,List.set_cons_zero,List.set_cons_succ,List.getElem_toArray,List.getElem_cons_zero,List.getElem_cons_succ]
             refine wpAnyH_ready (rs:=[2]) (by kernel_rfl) (by simp) ?_;refine AllReadyH.cons rfl (fun K hK=>?_) AllReadyH.nil;go_simp;go_at_call 101;refine (SE _).mono ?_;rintro e w5 ⟨rfl,hb,hwd⟩;have hv1:=hwd.2 Dy Pz Hw1.out;simp only[Nat.zero_add] at hv1;replace HT:=Lh (HT.out.call hb);clear hb hwd;refine hK.out _ _ (HA.out _ HT.out.kp) (fun hHeld=>?_);clear hK K
             try simp only [Act.put,List.setIfInBounds_toArray,List.set_cons_zero,List.set_cons_succ,List.getElem_toArray,List.getElem_cons_zero,List.getElem_cons_succ]
             refine wpAnyH_take (i:=6) (v:=?_) rfl (by kernel_rfl) (by kernel_rfl) (by kernel_rfl) (fun _ _ _ h=>h) (Or.inl ⟨by rfl,?_⟩) (by assumption) ?_
             rotate_left
             ·(intro w hSw;(try dsimp only at hSw);go_simp) <;> with_reducible rfl
             try simp only [Act.put,List.setIfInBounds_toArray,List.set_cons_zero,List.set_cons_succ,List.getElem_toArray,List.getElem_cons_zero,List.getElem_cons_succ]
             refine wpAnyH_ready (rs:=[7]) (by kernel_rfl) (by simp) ?_;refine AllReadyH.cons rfl (fun K hK=>?_) AllReadyH.nil;go_simp;refine hK.out _ _ (HA.out _ HT.out.kp) (fun hHeld=>?_);clear hK K
             try simp only [Act.put,List.setIfInBounds_toArray,List.set_cons_zero,List.set_cons_succ,List.getElem_toArray,List.getElem_cons_zero,List.getElem_cons_succ]
             refine wpAnyH_ready (rs:=[8]) (by kernel_rfl) (by simp) ?_;refine AllReadyH.cons rfl (fun K hK=>?_) AllReadyH.nil;go_simp;go_at_call 140;refine (sj _ _).mono ?_;rintro e w5 ⟨rfl,hb⟩;replace HT:=(by first | exact Lh (HT.out.call hb) | exact Lh (HT.out.drew.call hb))
             clear hb;refine hK.out _ _ (HA.out _ HT.out.kp) (fun hHeld=>?_);clear hK K
             try simp only [Act.put,List.setIfInBounds_toArray,List.set_cons_zero,List.set_cons_succ,List.getElem_toArray,List.getElem_cons_zero,List.getElem_cons_succ]
             refine wpAnyH_ready (rs:=[9]) (by kernel_rfl) (by simp) ?_;refine AllReadyH.cons rfl (fun K hK=>?_) AllReadyH.nil;go_simp;go_at_call 102;refine (SF _).mono ?_;rintro e w5 ⟨rfl,hb,hwd⟩;have hv2:=hwd.2 Dz PD Hw2.out;simp only[Nat.zero_add] at hv2;replace HT:=Lh (HT.out.call hb);clear hb hwd;refine hK.out _ _ (HA.out _ HT.out.kp) (fun hHeld=>?_);clear hK K
             try simp only [Act.put,List.setIfInBounds_toArray,List.set_cons_zero,List.set_cons_succ,List.getElem_toArray,List.getElem_cons_zero,List.getElem_cons_succ]
             refine wpAnyH_take (i:=13) (v:=?_) rfl (by kernel_rfl) (by kernel_rfl) (by kernel_rfl) (fun _ _ _ h=>h) (Or.inl ⟨by rfl,?_⟩) (by assumption) ?_
             rotate_left
             ·(intro w hSw;(try dsimp only at hSw);go_simp) <;> with_reducible rfl
             try simp only [Act.put,List.setIfInBounds_toArray,List.set_cons_zero,List.set_cons_succ,List.getElem_toArray,List.getElem_cons_zero,List.getElem_cons_succ]
             refine wpAnyH_ready (rs:=[14]) (by kernel_rfl) (by simp) ?_;refine AllReadyH.cons rfl (fun K hK=>?_) AllReadyH.nil;go_simp;refine hK.out _ _ (HA.out _ HT.out.kp) (fun hHeld=>?_);clear hK K
             try simp only [Act.put,List.setIfInBounds_toArray,List.set_cons_zero,List.set_cons_succ,List.getElem_toArray,List.getElem_cons_zero,List.getElem_cons_succ]
             refine wpAnyH_ready (rs:=[15]) (by kernel_rfl) (by simp) ?_;refine AllReadyH.cons rfl (fun K hK=>?_) AllReadyH.nil;go_simp;go_at_call 140;refine (sj _ _).mono ?_;rintro e w5 ⟨rfl,hb⟩;replace HT:=(by first | exact Lh (HT.out.call hb) | exact Lh (HT.out.drew.call hb))
             clear hb;refine hK.out _ _ (HA.out _ HT.out.kp) (fun hHeld=>?_);clear hK K
             try simp only [Act.put,List.setIfInBounds_toArray,List.set_cons_zero,List.set_cons_succ,List.getElem_toArray,List.getElem_cons_zero,List.getElem_cons_succ]
             refine wpAnyH_ready (rs:=[16]) (by kernel_rfl) (by simp) ?_;refine AllReadyH.cons rfl (fun K hK=>?_) AllReadyH.nil;go_simp;go_at_call 103;refine (Lu _).mono ?_;rintro e w5 ⟨rfl,hb,hwd⟩;have hv3:=hwd.2 DC PE Hw3.out;simp only[Nat.zero_add] at hv3;replace HT:=Lh (HT.out.call hb);clear hb hwd;refine hK.out _ _ (HA.out _ HT.out.kp) (fun hHeld=>?_);clear hK K
             try simp only [Act.put,List.setIfInBounds_toArray,List.set_cons_zero,List.set_cons_succ,List.getElem_toArray,List.getElem_cons_zero,List.getElem_cons_succ]
             refine wpAnyH_take (i:=20) (v:=?_) rfl (by kernel_rfl) (by kernel_rfl) (by kernel_rfl) (fun _ _ _ h=>h) (Or.inl ⟨by rfl,?_⟩) (by assumption) ?_
             rotate_left
             ·(intro w hSw;(try dsimp only at hSw);go_simp) <;> with_reducible rfl
             try simp only [Act.put,List.setIfInBounds_toArray,List.set_cons_zero,List.set_cons_succ,List.getElem_toArray,List.getElem_cons_zero,List.getElem_cons_succ]
             refine wpAnyH_ready (rs:=[21]) (by kernel_rfl) (by simp) ?_;refine AllReadyH.cons rfl (fun K hK=>?_) AllReadyH.nil;go_simp;refine hK.out _ _ (HA.out _ HT.out.kp) (fun hHeld=>?_);clear hK K
             try simp only [Act.put,List.setIfInBounds_toArray,List.set_cons_zero,List.set_cons_succ,List.getElem_toArray,List.getElem_cons_zero,List.getElem_cons_succ]
             refine wpAnyH_ready (rs:=[22]) (by kernel_rfl) (by simp) ?_;refine AllReadyH.cons rfl (fun K hK=>?_) AllReadyH.nil;go_simp;go_at_call 140;refine (sj _ _).mono ?_;rintro e w5 ⟨rfl,hb⟩;replace HT:=(by first | exact Lh (HT.out.call hb) | exact Lh (HT.out.drew.call hb))
             clear hb;refine hK.out _ _ (HA.out _ HT.out.kp) (fun hHeld=>?_);clear hK K
             try simp only [Act.put,List.setIfInBounds_toArray,List.set_cons_zero,List.set_cons_succ,List.getElem_toArray,List.getElem_cons_zero,List.getElem_cons_succ]
             refine wpAnyH_ready (rs:=[23]) (by kernel_rfl) (by simp) ?_;refine AllReadyH.cons rfl (fun K hK=>?_) AllReadyH.nil;go_simp;go_at_call 140;refine (sj _ _).mono ?_;rintro e w5 ⟨rfl,hb⟩;replace HT:=(by first | exact Lh (HT.out.call hb) | exact Lh (HT.out.drew.call hb))
             clear hb;refine hK.out _ _ (HA.out _ HT.out.kp) (fun hHeld=>?_);clear hK K
             try simp only [Act.put,List.setIfInBounds_toArray,List.set_cons_zero,List.set_cons_succ,List.getElem_toArray,List.getElem_cons_zero,List.getElem_cons_succ]
             refine wpAnyH_ready (rs:=[26]) (by kernel_rfl) (by simp) ?_;refine AllReadyH.cons rfl (fun K hK=>?_) AllReadyH.nil;go_simp;go_at_call 141;refine (EN _ _).mono ?_;rintro e w5 ⟨rfl,hb⟩;replace HT:=(by first | exact Lh (HT.out.call hb) | exact Lh (HT.out.drew.call hb))
             clear hb;refine hK.out _ _ (HA.out _ HT.out.kp) (fun hHeld=>?_);clear hK K
             try simp only [Act.put,List.setIfInBounds_toArray,List.set_cons_zero,List.set_cons_succ,List.getElem_toArray,List.getElem_cons_zero,List.getElem_cons_succ]
             refine wpAnyH_ready (rs:=[27]) (by kernel_rfl) (by simp) ?_;refine AllReadyH.cons rfl (fun K hK=>?_) AllReadyH.nil;go_simp;go_at_call 142;refine (uY _ _).mono ?_;rintro e w5 ⟨rfl,hb⟩;replace HT:=(by first | exact Lh (HT.out.call hb) | exact Lh (HT.out.drew.call hb))
             clear hb;refine hK.out _ _ (HA.out _ HT.out.kp) (fun hHeld=>?_);clear hK K
             try simp only [Act.put,List.setIfInBounds_toArray,List.set_cons_zero,List.set_cons_succ,List.getElem_toArray,List.getElem_cons_zero,List.getElem_cons_succ]
             refine wpAnyH_ready (rs:=[28]) (by kernel_rfl) (by simp) ?_;refine AllReadyH.cons rfl (fun K hK=>?_) AllReadyH.nil;go_simp;refine hK.out _ _ (HA.out _ (HT.out.alloc).kp) (fun hHeld=>?_);clear hK K
             try simp only [Act.put,List.setIfInBounds_toArray,List.set_cons_zero,List.set_cons_succ,List.getElem_toArray,List.getElem_cons_zero,List.getElem_cons_succ]
             refine wpAnyH_ready (rs:=[29]) (by kernel_rfl) (by simp) ?_;refine AllReadyH.cons rfl (fun K hK=>?_) AllReadyH.nil;have ex:=TS.lit (k:=7) 51 HT.out [Sx.av Sx.om,Sx.av Pz,Sx.av PD,Sx.av PE,Sx.av Sx.nL,Sx.aW u_,Sx.bI 59] rfl rfl (by have:=Hn.out;omega);refine aL rfl rfl _ _ _ rfl rfl rfl ex ?_;clear ex;rintro v w6 ⟨wm,n1',c1',tq,rfl,hn,hL,ht⟩;have mq:=Lh hn;have mX:=Lh hL;replace HT:=Lh ht;clear hn hL ht;refine hK.out _ _ (HA.out _ HT.out.kp) (fun hHeld=>?_);clear hK K
             try simp only [Act.put,List.setIfInBounds_toArray,List.set_cons_zero,List.set_cons_succ]
             refine wpAnyH_ready (rs:=[30]) (by kernel_rfl) (by simp) ?_;refine AllReadyH.cons rfl (fun K hK=>?_) AllReadyH.nil;go_simp;refine hK.out _ _ (HA.out _ HT.out.kp) (fun hHeld=>?_);clear hK K
             try simp only [Act.put,List.setIfInBounds_toArray,List.set_cons_zero,List.set_cons_succ,List.getElem_toArray,List.getElem_cons_zero,List.getElem_cons_succ]
             refine wpAnyH_done (by kernel_rfl) ?_ _
             all_goals (try go_wp2_with fail)
             go_roundg (gk - 1)
             all_goals first
              | omega
              | exact ⟨i+1,_,_,_,_,by go_num,by omega,rfl,Lh (HT.out.onto Ra.out),Lh (by rw [mX.out,HL.out,iZ Hy.out,Htk.out];simp)⟩
            ·obtain rfl:i=n6:=by omega
             have SQ:=Lh (show L'=P6++x.clauses.flatMap Sx.dI by rw [HL.out,show x.clauses.take i=x.clauses by rw [Mh.out];exact List.take_length]);replace HS:=Lh (show L'.length=0+(x.courses.flatMap Sx.bP).length+(x.same.flatMap Sx.pairT).length+(x.aS.flatMap Sx.eB).length+(x.classes.flatMap (Sx.fu Sx.dM)).length+(x.bZ.flatMap Sx.jy).length+(x.aJ.flatMap (Sx.fu Sx.cK)).length+(x.clauses.flatMap Sx.dI).length by rw [SQ.out,List.length_append,HS.out]);obtain ⟨P7,rfl⟩:∃ P,P=L':=⟨_,rfl⟩
             clear hi Hn HL hlt;go_wp2_with fail;go_ret;have e:P7=Sx.gQ x:=by rw [SQ.out,HE6.out,HE5.out,HE4.out,UY.out,HE2.out,rX.out];rfl
             rw[←e];exact ⟨_,_,_,rfl,(HT.out.onto (KP.below HB0.out)).re (by first | rfl | omega)⟩
theorem Jp (x:Sx.dh) (w:World) (ca:List Value) (ha:bE w (Old w) x ca) (hk:Sx.eX x=true) (hf:Sx.few x=true):Calls Tryz.prog 56 #[.agg ca.toArray] w (jD (Sx.gQ x) w):=by
 obtain ⟨A0,c0,A1,c1,A2,c2,A3,c3,A4,c4,A5,c5,A6,c6,rfl,q0,q1,q2,q3,q4,q5,q6⟩:=ha;obtain ⟨ok0,ok1,ok2,ok3,ok4,ok5,ok6⟩:=Sx.iY hk;obtain ⟨-,-,-,-,f0,f2⟩:=Sx.Ac hf;have hlen:=Sx.qW hf;rw[Sx.gQ] at hlen;simp only[List.length_append] at hlen;have HLEN:=Lh hlen;have HF0:=Lh f0;have LV:=Lh f2;obtain ⟨n0,hn0⟩:∃ n,n=x.courses.length:=⟨_,rfl⟩
 have z0:=q0.len;rw[←hn0] at z0;have AZ:=Lh hn0;have R0:=Lh q0;have OK0:=Lh (List.all_eq_true.1 ok0);obtain ⟨n1,hn1⟩:∃ n,n=x.same.length:=⟨_,rfl⟩
 have z1:=q1.len;rw[←hn1] at z1;have tO:=Lh hn1;have R1:=Lh q1;have OK1:=Lh (List.all_eq_true.1 ok1);obtain ⟨n2,hn2⟩:∃ n,n=x.aS.length:=⟨_,rfl⟩
 have z2:=q2.len;rw[←hn2] at z2;have nE:=Lh hn2;have R2:=Lh q2;have OK2:=Lh (List.all_eq_true.1 ok2);obtain ⟨n3,rH⟩:∃ n,n=x.classes.length:=⟨_,rfl⟩
 have z3:=q3.len;rw[←rH] at z3;have yS:=Lh rH;have R3:=Lh q3;have OK3:=Lh (List.all_eq_true.1 ok3);obtain ⟨n4,uS⟩:∃ n,n=x.bZ.length:=⟨_,rfl⟩
 have z4:=q4.len;rw[←uS] at z4;have Mf:=Lh uS;have R4:=Lh q4;have OK4:=Lh (List.all_eq_true.1 ok4);obtain ⟨n5,uT⟩:∃ n,n=x.aJ.length:=⟨_,rfl⟩
 have z5:=q5.len;rw[←uT] at z5;have Mg:=Lh uT;have R5:=Lh q5;have OK5:=Lh (List.all_eq_true.1 ok5);obtain ⟨n6,uU⟩:∃ n,n=x.clauses.length:=⟨_,rfl⟩
 have z6:=q6.len;rw[←uU] at z6;have Mh:=Lh uU;have R6:=Lh q6;have OK6:=Lh (List.all_eq_true.1 ok6);rw[←hn0,←hn1,←hn2,←rH,←uS,←uT,←uU];obtain ⟨W,hW⟩:∃ W,W=w.alloc (.cells #[.slice A0 n0 c0,.slice A1 n1 c1,.slice A2 n2 c2,.slice A3 n3 c3,.slice A4 n4 c4,.slice A5 n5 c5,.slice A6 n6 c6] 30):=⟨_,rfl⟩
 have hb0:Below w.heap.size w W:=by rw [hW];exact (Below.refl _ _).alloc (Nat.le_refl _) _
 have e0:aC W w.heap.size 30 #[.slice A0 n0 c0,.slice A1 n1 c1,.slice A2 n2 c2,.slice A3 n3 c3,.slice A4 n4 c4,.slice A5 n5 c5,.slice A6 n6 c6]:=by rw [hW];exact aC.new _ _ _
 have iW:Hid (∀ w':World,KP W w'→w'.cell? ⟨w.heap.size,0,none⟩=some (.slice A0 n0 c0)∧w'.cell? ⟨w.heap.size,1,none⟩=some (.slice A1 n1 c1)∧w'.cell? ⟨w.heap.size,2,none⟩=some (.slice A2 n2 c2)∧w'.cell? ⟨w.heap.size,3,none⟩=some (.slice A3 n3 c3)∧w'.cell? ⟨w.heap.size,4,none⟩=some (.slice A4 n4 c4)∧w'.cell? ⟨w.heap.size,5,none⟩=some (.slice A5 n5 c5)∧w'.cell? ⟨w.heap.size,6,none⟩=some (.slice A6 n6 c6)):=Lh (fun w' hk=>by
  obtain ⟨x0,x1,x2,x3,x4,x5,x6,_⟩:=bJ (hk.blk e0 (by decide) (by decide));exact ⟨x0,x1,x2,x3,x4,x5,x6⟩)
 have HB0:=Lh hb0;have kz:=e0.lt;have HT:=Lh (TS.start (V:=W) (l:=[]) (n:=0) (cs:=#[]) hb0 (KP.refl W) rfl (by simp) rfl);clear hb0 e0 hk hf hlen f0 f2 hn0 q0 ok0 hn1 q1 ok1 hn2 q2 ok2 rH q3 ok3 uS q4 ok4 uT q5 ok5 uU q6 ok6;go_enter Tryz.func56,Tryz.ntmps56;go_upto_region 1 with fail;rw[←hW];clear hW;go_upto_region 2 with fail;obtain ⟨k0,k1,k2,k3,k4,k5,k6⟩:=iW.out _ HT.out.kp;have HS:=Lh (show ([]:List Lx.Tok).length=0 from rfl);obtain ⟨P0,hP0⟩:∃ P:List Lx.Tok,P = []:=⟨_,rfl⟩
 rw[←hP0] at HT HS;have sF:=Lh hP0;clear hP0;go_wp2_with fail
 go_loopg [3,4] n0 (fun gk v3 vs wr=>∃ (i n' c':Nat) (A':Option Addr) (L':List Lx.Tok),vs = .int .i64 i∧i+gk=n0∧v3 = .slice A' n' c'∧Hid (TS w W L' A' n' c' wr)∧Hid (L'=P0++(x.courses.take i).flatMap Sx.bP))
 case atStart=>exact ⟨0,_,_,_,_,rfl,by omega,rfl,HT,Lh (by simp)⟩
 case round=>
  obtain ⟨i,n',c',A',L',rfl,hi,rfl,HT,HL⟩:=hrel;clear k0 k1 k2 k3 k4 k5 k6;obtain ⟨k0,k1,k2,k3,k4,k5,k6⟩:=iW.out _ HT.out.kp;have Hn:=Lh (show n'≤60000 by
   rw[←HT.out.len,HL.out,List.length_append];have h1:=HLEN.out;have h2:=mh (f:=Sx.bP) x.courses i;have h3:=HS.out;omega)
  by_cases hlt:i < n0
  ·obtain ⟨y,hy⟩:∃ y,x.courses[i]?=some y:=⟨_,List.getElem?_eq_getElem (by have:=AZ.out;omega)⟩
   have Hy:=Lh hy;obtain ⟨be,oe,ce,rfl,cO,hre,hce⟩:=R0.out.at_ i _ hy;have hbe:be < wr.heap.size:=Nat.lt_of_lt_of_le cO HT.out.aY.size;obtain ⟨cn,cb,rfl,hnl,hcn,hcb⟩:=hre;have Kg:=Lh hcn;have HRb:=Lh hcb;have Wd:=HF0.out y (List.mem_of_getElem? Hy.out);unfold Sx.fP at Wd;rw[Bool.and_eq_true] at Wd;have hl1:=Sx.mZ Wd.1;have hl2:=Sx.mZ Wd.2;have hoy:=OK0.out y (List.mem_of_getElem? Hy.out);simp only[Sx.dw,Bool.and_eq_true] at hoy;obtain ⟨⟨⟨-,LW⟩,hon⟩,Sr⟩:=hoy;simp only[Sx.dX,Bool.and_eq_true,decide_eq_true_eq] at LW
   have zu:=Lh hl1;have XQ:=Lh hl2;have HOn:=Lh hon;have HOb:=Lh Sr;obtain ⟨rp,SG⟩:∃ r,r=y.rep:=⟨_,rfl⟩
   rw[←SG] at LW hce;have Hrp:=Lh SG;have q0H:=Lh LW;obtain ⟨bn,hbn⟩:∃ b:Bool,b=decide (y.need.op≠1∨y.need.kids≠[]):=⟨_,rfl⟩
   obtain ⟨bb,hbb⟩:∃ b:Bool,b=decide (y.bar.op≠2∨y.bar.kids≠[]):=⟨_,rfl⟩
   have Hbn:=Lh hbn;have Hbb:=Lh hbb;obtain ⟨i0,i1,s2,i3,i4,A7,n7,c7,rfl⟩:=bG hcn;obtain ⟨j0,j1,t2,j3,j4,B7,m7,d7,rfl⟩:=bG hcb;have Wh:y.need.op=i0∧y.need.kids.length=n7:=yt hcn;have Wi:y.bar.op=j0∧y.bar.kids.length=m7:=yt hcb;have Hen:=Lh Wh;have Heb:=Lh Wi;clear Wd hl1 hl2 hon Sr LW SG hbn hbb Wh Wi hcn hcb;have g0:=(HT.out.aY.cell (p:=⟨be,_,none⟩) cO).trans (hce 0 _ rfl);have g1:=(HT.out.aY.cell (p:=⟨be,_,none⟩) cO).trans (hce 1 _ rfl);have g2:=(HT.out.aY.cell (p:=⟨be,_,none⟩) cO).trans (hce 2 _ rfl)
   have g3:=(HT.out.aY.cell (p:=⟨be,_,none⟩) cO).trans (hce 3 _ rfl);have g4:=(HT.out.aY.cell (p:=⟨be,_,none⟩) cO).trans (hce 4 _ rfl);have g5:=(HT.out.aY.cell (p:=⟨be,_,none⟩) cO).trans (hce 5 _ rfl);have g6:=(HT.out.aY.cell (p:=⟨be,_,none⟩) cO).trans (hce 6 _ rfl);have g7:=(HT.out.aY.cell (p:=⟨be,_,none⟩) cO).trans (hce 7 _ rfl);have g8:=(HT.out.aY.cell (p:=⟨be,_,none⟩) cO).trans (hce 8 _ rfl);have g9:=(HT.out.aY.cell (p:=⟨be,_,none⟩) cO).trans (hce 9 _ rfl);have g10:=(HT.out.aY.cell (p:=⟨be,_,none⟩) cO).trans (hce 10 _ rfl)
   have g11:=(HT.out.aY.cell (p:=⟨be,_,none⟩) cO).trans (hce 11 _ rfl);have g12:=(HT.out.aY.cell (p:=⟨be,_,none⟩) cO).trans (hce 12 _ rfl);have g13:=(HT.out.aY.cell (p:=⟨be,_,none⟩) cO).trans (hce 13 _ rfl);have g14:=(HT.out.aY.cell (p:=⟨be,_,none⟩) cO).trans (hce 14 _ rfl);have g15:=(HT.out.aY.cell (p:=⟨be,_,none⟩) cO).trans (hce 15 _ rfl)
   try simp only [Nat.add_zero,bB,aT] at g0 g1 g2 g3 g4 g5 g6 g7 g8 g9 g10 g11 g12 g13 g14 g15
   clear hce hy;obtain ⟨v,hv⟩:∃ V,V=wr.alloc (.cells #[.string (Lx.bs y.name),.int .i64 y.number,.int .i64 y.aU,.int .i64 rp,.int .i64 i0,.int .i64 i1,.string s2,.int .i64 i3,.int .i64 i4,.slice A7 n7 c7,.int .i64 j0,.int .i64 j1,.string t2,.int .i64 j3,.int .i64 j4,.slice B7 m7 d7] 58):=⟨_,rfl⟩
   have hb0:Below wr.heap.size wr v:=by rw [hv];exact (Below.refl _ _).alloc (Nat.le_refl _) _
   have e0:aC v wr.heap.size 58 #[.string (Lx.bs y.name),.int .i64 y.number,.int .i64 y.aU,.int .i64 rp,.int .i64 i0,.int .i64 i1,.string s2,.int .i64 i3,.int .i64 i4,.slice A7 n7 c7,.int .i64 j0,.int .i64 j1,.string t2,.int .i64 j3,.int .i64 j4,.slice B7 m7 d7]:=by rw [hv];exact aC.new _ _ _
   have Ra:=Lh (HT.out.call hb0).kp;replace HT:=Lh (HT.out.call hb0).at;go_upto_region 6 with fail;rw[←hv];obtain ⟨bz,hbz⟩:∃ b,b=wr.heap.size:=⟨_,rfl⟩
   rw[←hbz] at e0 ⊢;have HX:=Lh e0;clear hv hb0 e0 hbz g0 g1 g2 g3 g4 g5 g6 g7 g8 g9 g10 g11 g12 g13 g14 g15 k0 k1 k2 k3 k4 k5 k6;have HA:Hid (∀ w':World,KP v w'→w'.cell? ⟨bz,0,none⟩=some (.string (Lx.bs y.name))∧w'.cell? ⟨bz,1,none⟩=some (.int .i64 y.number)∧w'.cell? ⟨bz,2,none⟩=some (.int .i64 y.aU)):=Lh (fun w' hk=>by
    obtain ⟨x0,x1,x2,x3,x4,x5,x6,x7,x8,x9,x10,kG,kH,kI,mI,lS,_⟩:=fM (hk.blk HX.out (by decide) (by decide));exact ⟨x0,x1,x2⟩)
   have HC:Hid (∀ w':World,KP v w'→w'.cell? ⟨bz,4,none⟩=some (.int .i64 i0)∧w'.cell? ⟨bz,9,none⟩=some (.slice A7 n7 c7)∧w'.cell? ⟨bz,10,none⟩=some (.int .i64 j0)∧w'.cell? ⟨bz,15,none⟩=some (.slice B7 m7 d7)∧w'.cell? ⟨bz,3,none⟩=some (.int .i64 rp)∧bz < w'.heap.size):=Lh (fun w' hk=>by
    obtain ⟨x0,x1,x2,x3,x4,x5,x6,x7,x8,x9,x10,kG,kH,kI,mI,lS,xz⟩:=fM (hk.blk HX.out (by decide) (by decide));exact ⟨x4,x9,x10,lS,x3,xz⟩)
   have HN:Hid (∀ w':World,KP v w'→w'.cell? ⟨bz,4,none⟩=some (.int .i64 i0)∧w'.cell? ⟨bz,5,none⟩=some (.int .i64 i1)∧w'.cell? ⟨bz,6,none⟩=some (.string s2)∧w'.cell? ⟨bz,7,none⟩=some (.int .i64 i3)∧w'.cell? ⟨bz,8,none⟩=some (.int .i64 i4)∧w'.cell? ⟨bz,9,none⟩=some (.slice A7 n7 c7)):=Lh (fun w' hk=>by
    obtain ⟨x0,x1,x2,x3,x4,x5,x6,x7,x8,x9,x10,kG,kH,kI,mI,lS,_⟩:=fM (hk.blk HX.out (by decide) (by decide));exact ⟨x4,x5,x6,x7,x8,x9⟩)
   have N9:Hid (∀ w':World,KP v w'→w'.cell? ⟨bz,10,none⟩=some (.int .i64 j0)∧w'.cell? ⟨bz,11,none⟩=some (.int .i64 j1)∧w'.cell? ⟨bz,12,none⟩=some (.string t2)∧w'.cell? ⟨bz,13,none⟩=some (.int .i64 j3)∧w'.cell? ⟨bz,14,none⟩=some (.int .i64 j4)∧w'.cell? ⟨bz,15,none⟩=some (.slice B7 m7 d7)):=Lh (fun w' hk=>by
    obtain ⟨x0,x1,x2,x3,x4,x5,x6,x7,x8,x9,x10,kG,kH,kI,mI,lS,_⟩:=fM (hk.blk HX.out (by decide) (by decide));exact ⟨x10,kG,kH,kI,mI,lS⟩)
   obtain ⟨r0,r1,r2⟩:=HA.out _ HT.out.kp;have xz:=(HC.out _ HT.out.kp).2.2.2.2.2
   go_region_held_law (fun w':World=>w'.cell? ⟨bz,0,none⟩=some (.string (Lx.bs y.name))∧w'.cell? ⟨bz,1,none⟩=some (.int .i64 y.number)∧w'.cell? ⟨bz,2,none⟩=some (.int .i64 y.aU)) (first | exact HA.out _ HT.out.drew.kp | go_keep) (first
    | ((first | (go_at_call 140;refine (sj _ _).mono ?_) | (go_at_call 141;refine (EN _ _).mono ?_));rintro e w5 ⟨rfl,hb⟩;replace HT:=(by first | exact Lh (HT.out.call hb) | exact Lh (HT.out.drew.call hb));obtain ⟨r0,r1,r2⟩:=HA.out _ HT.out.kp;clear hb)
    | (have ex:=TS.lit (k:=4) 51 HT.out [Sx.av Sx.fJ,Sx.aW y.number,Sx.av y.name,Sx.aW y.aU] rfl rfl (by have:=Hn.out;omega);refine aL rfl rfl _ _ _ rfl rfl rfl ex ?_;clear ex;rintro v w6 ⟨wm,n1',c1',tq,rfl,hn,hL,ht⟩;have mq:=Lh hn;have mX:=Lh hL;replace HT:=Lh ht;clear hn hL ht;obtain ⟨r0,r1,r2⟩:=HA.out _ HT.out.kp;(try simp only [Act.put,List.setIfInBounds_toArray,List.set_cons_zero,List.set_cons_succ])))
   clear r0 r1 r2;obtain ⟨h4,h9,h10,PU,h3,hz⟩:=HC.out _ HT.out.kp;go_upto_block 2 with fail;go_cut [3] from 42 to 53 (fun v3 wx=>∃ A n c L,v3 = .slice A n c∧Hid (TS w v L A n c wx)∧Hid (L=tq++(if rp≠0 then [Sx.av (Sx.repeatWords.getD rp.toNat [])] else []))∧Hid (n≤60010))
   case first=>
    have hr3:rp=0∨rp=1∨rp=2:=by have:=q0H.out;omega
    rcases hr3 with rfl | rfl | rfl
    ·go_wp2_with fail
     go_meet
     exact ⟨_,_,_,_,rfl,HT,Lh (by simp),Lh (by have:=mq.out;have:=Hn.out;omega)⟩
    ·go_wp2_with (first | (go_at_call 140;refine (sj _ _).mono ?_;rintro e w5 ⟨rfl,hb⟩;replace HT:=Lh (HT.out.call hb);clear hb) | (at_builtin;have ex:=TS.lit (k:=1) 51 HT.out [Sx.av (Sx.repeatWords.getD (1:Int).toNat [])] rfl rfl (by have:=mq.out;have:=Hn.out;omega);refine aI rfl _ _ _ rfl rfl rfl ex ?_;clear ex;rintro v w6 ⟨q2J,q2K,q2L,q2M,rfl,hn,hL,ht⟩;have q0I:=Lh hn;have q0J:=Lh hL;replace HT:=Lh ht;clear hn hL ht;skip))
     go_meet
     exact ⟨_,_,_,_,rfl,HT,Lh (by rw [q0J.out];rfl),Lh (by have:=q0I.out;have:=mq.out;have:=Hn.out;omega)⟩
    ·go_wp2_with (first | (go_at_call 140;refine (sj _ _).mono ?_;rintro e w5 ⟨rfl,hb⟩;replace HT:=Lh (HT.out.call hb);clear hb) | (at_builtin;have ex:=TS.lit (k:=1) 51 HT.out [Sx.av (Sx.repeatWords.getD (2:Int).toNat [])] rfl rfl (by have:=mq.out;have:=Hn.out;omega);refine aI rfl _ _ _ rfl rfl rfl ex ?_;clear ex;rintro v w6 ⟨q2N,q2O,q2P,q2Q,rfl,hn,hL,ht⟩;have q0K:=Lh hn;have q0L:=Lh hL;replace HT:=Lh ht;clear hn hL ht;skip))
     go_meet
     exact ⟨_,_,_,_,rfl,HT,Lh (by rw [q0L.out];rfl),Lh (by have:=q0K.out;have:=mq.out;have:=Hn.out;omega)⟩
   case rest=>
   obtain ⟨A_2,n_2,c_2,L_2,rfl,HT,Xh,HB2⟩:=hcut;clear h4 h9 h10 PU h3 hz;obtain ⟨h4,h9,h10,PU,h3,hz⟩:=HC.out _ HT.out.kp
   go_upto_region 13 with (first | (go_at_call 142;refine (uY _ _).mono ?_;rintro e w5 ⟨rfl,hb⟩;replace HT:=Lh (HT.out.call hb);clear hb;obtain ⟨h4,h9,h10,PU,h3,hz⟩:=HC.out _ HT.out.kp) | (at_builtin;have ex:=TS.lit (k:=1) 51 HT.out [Sx.bI 123] rfl rfl (by have:=HB2.out;omega);refine aI rfl _ _ _ rfl rfl rfl ex ?_;clear ex;rintro v w6 ⟨q2R,q0M,q2S,q0N,rfl,hn,hL,ht⟩;have q0O:=Lh hn;have q0P:=Lh hL;replace HT:=Lh ht;clear hn hL ht;skip;obtain ⟨h4,h9,h10,PU,h3,hz⟩:=HC.out _ HT.out.kp))
   have Lv:=Lh (show q0M≤60011 by have:=q0O.out;have:=HB2.out;omega);have XP:=Lh (Gr Hbn.out Hen.out);go_cut [68] from 58 to 68 (fun vt wx=>vt = .bool bn∧wx=w6)
   case first=>
    cases q1:(i0 != 1) with
    | true=>
     go_wp2_with fail
     go_meet
     exact ⟨by rw [XP.out,q1];rfl,rfl⟩
    | false=>
     go_wp2_with fail
     go_meet
     exact ⟨by rw [XP.out,q1];simp,rfl⟩
   case rest=>
   obtain ⟨rfl,hwc⟩:=hcut;subst hwc;clear h4 h9 h10 PU h3 hz;obtain ⟨r0,r1,r2,r3,r4,r5⟩:=HN.out _ HT.out.kp;have hz:=(HC.out _ HT.out.kp).2.2.2.2.2;go_upto_if 68 with fail;go_cut [3] from 69 to 79 (fun v3 wx=>∃ A n c L,v3 = .slice A n c∧Hid (TS w v L A n c wx)∧Hid (L=q0N++(if y.need.op≠1∨y.need.kids≠[] then Sx.av Sx.je::(Sx.aF y.need++[Sx.bI 59]) else []))∧Hid (n≤61500))
   case first=>
    cases bn with
    | true=>
     go_wp2_with fail
     go_region_held_law (fun w':World=>w'.cell? ⟨bz,4,none⟩=some (.int .i64 i0)∧w'.cell? ⟨bz,5,none⟩=some (.int .i64 i1)∧w'.cell? ⟨bz,6,none⟩=some (.string s2)∧w'.cell? ⟨bz,7,none⟩=some (.int .i64 i3)∧w'.cell? ⟨bz,8,none⟩=some (.int .i64 i4)∧w'.cell? ⟨bz,9,none⟩=some (.slice A7 n7 c7)) (first | exact HN.out _ HT.out.drew.kp | go_keep) (first
      | ((first | (go_at_call 140;refine (sj _ _).mono ?_) | (go_at_call 142;refine (uY _ _).mono ?_));rintro e w5 ⟨rfl,hb⟩;replace HT:=(by first | exact Lh (HT.out.call hb) | exact Lh (HT.out.drew.call hb));obtain ⟨r0,r1,r2,r3,r4,r5⟩:=HN.out _ HT.out.kp;clear hb)
      | (go_at_call 60;refine (wN 16 y.need HOn.out (by have:=zu.out;omega) _ _ (cu HT.out.aY Kg.out)).mono ?_;rintro e w5 ⟨A5,n5,c5,rfl,hr⟩;have hb:=hr.aY;have HQ:=Lh hr;replace HT:=(by first | exact Lh (HT.out.call hb) | exact Lh (HT.out.drew.call hb));obtain ⟨r0,r1,r2,r3,r4,r5⟩:=HN.out _ HT.out.kp;clear hb)
      | (have ex:=TS.lit (k:=1) 51 HT.out [Sx.bI 59] rfl rfl (by have:=SH.out;have:=Wj.out;have:=HQ.out.len;have:=zu.out;have:=Lv.out;omega);refine aL rfl rfl _ _ _ rfl rfl rfl ex ?_;clear ex;rintro v w6 ⟨q2T,q2U,q2V,q2W,rfl,hn,hL,ht⟩;have q0Q:=Lh hn;have q0R:=Lh hL;replace HT:=Lh ht;clear hn hL ht;obtain ⟨r0,r1,r2,r3,r4,r5⟩:=HN.out _ HT.out.kp;(try simp only [Act.put,List.setIfInBounds_toArray,List.set_cons_zero,List.set_cons_succ]))
      | (have ex:=TS.app (d:=c5) 51 HT.out HQ.out.lies HQ.out.len (by have:=SH.out;have:=HQ.out.len;have:=zu.out;have:=Lv.out;omega);refine aL rfl rfl _ _ _ rfl rfl rfl ex ?_;clear ex;rintro v w6 ⟨q2X,q2Y,q2Z,q20,rfl,hn,hL,ht⟩;have Wj:=Lh hn;have q0S:=Lh hL;replace HT:=Lh ht;clear hn hL ht;obtain ⟨r0,r1,r2,r3,r4,r5⟩:=HN.out _ HT.out.kp;(try simp only [Act.put,List.setIfInBounds_toArray,List.set_cons_zero,List.set_cons_succ]))
      | (have ex:=TS.lit (k:=1) 51 HT.out [Sx.av Sx.je] rfl rfl (by have:=Lv.out;omega);refine aL rfl rfl _ _ _ rfl rfl rfl ex ?_;clear ex;rintro v w6 ⟨q21,q23,q25,q26,rfl,hn,hL,ht⟩;have SH:=Lh hn;have q0T:=Lh hL;replace HT:=Lh ht;clear hn hL ht;obtain ⟨r0,r1,r2,r3,r4,r5⟩:=HN.out _ HT.out.kp;(try simp only [Act.put,List.setIfInBounds_toArray,List.set_cons_zero,List.set_cons_succ])))
     all_goals (try go_wp2_with fail)
     all_goals go_meet
     all_goals exact ⟨_,_,_,_,rfl,HT,Lh (by rw [q0R.out,q0S.out,q0T.out,if_pos (of_decide_eq_true Hbn.out.symm)];simp),Lh (by have:=SH.out;have:=Wj.out;have:=q0Q.out;have:=HQ.out.len;have:=zu.out;have:=Lv.out;omega)⟩
    | false=>
     go_wp2_with fail
     go_meet
     exact ⟨_,_,_,_,rfl,HT,Lh (by rw [if_neg (of_decide_eq_false Hbn.out.symm)];simp),Lh (by have:=Lv.out;omega)⟩
   case rest=>
   obtain ⟨q27,q28,q29,q0U,rfl,HT,q0V,LD⟩:=hcut;clear r0 r1 r2 r3 r4 r5 hz;obtain ⟨h4,h9,h10,PU,h3,hz⟩:=HC.out _ HT.out.kp;go_upto_region 15 with fail;have HN5:=Lh (Gr Hbb.out Heb.out);go_cut [90] from 80 to 90 (fun vt wx=>vt = .bool bb∧wx=wc)
   case first=>
    cases q1:(j0 != 2) with
    | true=>
     go_wp2_with fail
     go_meet
     exact ⟨by rw [HN5.out,q1];rfl,rfl⟩
    | false=>
     go_wp2_with fail
     go_meet
     exact ⟨by rw [HN5.out,q1];simp,rfl⟩
   case rest=>
   obtain ⟨rfl,hwc⟩:=hcut;subst hwc;clear h4 h9 h10 PU h3 hz;obtain ⟨r0,r1,r2,r3,r4,r5⟩:=N9.out _ HT.out.kp;have hz:=(HC.out _ HT.out.kp).2.2.2.2.2;go_upto_if 90 with fail;go_cut [3] from 91 to 101 (fun v3 wx=>∃ A n c L,v3 = .slice A n c∧Hid (TS w v L A n c wx)∧Hid (L=q0U++(if y.bar.op≠2∨y.bar.kids≠[] then Sx.av Sx.lN::(Sx.aF y.bar++[Sx.bI 59]) else []))∧Hid (n≤63000))
   case first=>
    cases bb with
    | true=>
     go_wp2_with fail
     go_region_held_law (fun w':World=>w'.cell? ⟨bz,10,none⟩=some (.int .i64 j0)∧w'.cell? ⟨bz,11,none⟩=some (.int .i64 j1)∧w'.cell? ⟨bz,12,none⟩=some (.string t2)∧w'.cell? ⟨bz,13,none⟩=some (.int .i64 j3)∧w'.cell? ⟨bz,14,none⟩=some (.int .i64 j4)∧w'.cell? ⟨bz,15,none⟩=some (.slice B7 m7 d7)) (first | exact N9.out _ HT.out.drew.kp | go_keep) (first
      | ((first | (go_at_call 140;refine (sj _ _).mono ?_) | (go_at_call 142;refine (uY _ _).mono ?_));rintro e w5 ⟨rfl,hb⟩;replace HT:=(by first | exact Lh (HT.out.call hb) | exact Lh (HT.out.drew.call hb));obtain ⟨r0,r1,r2,r3,r4,r5⟩:=N9.out _ HT.out.kp;clear hb)
      | (go_at_call 60;refine (wN 16 y.bar HOb.out (by have:=XQ.out;omega) _ _ (cu HT.out.aY HRb.out)).mono ?_;rintro e w5 ⟨A5,n5,c5,rfl,hr⟩;have hb:=hr.aY;have HQ:=Lh hr;replace HT:=(by first | exact Lh (HT.out.call hb) | exact Lh (HT.out.drew.call hb));obtain ⟨r0,r1,r2,r3,r4,r5⟩:=N9.out _ HT.out.kp;clear hb)
      | (have ex:=TS.lit (k:=1) 51 HT.out [Sx.bI 59] rfl rfl (by have:=SI.out;have:=Wm.out;have:=HQ.out.len;have:=XQ.out;have:=LD.out;omega);refine aL rfl rfl _ _ _ rfl rfl rfl ex ?_;clear ex;rintro v w6 ⟨q3a,q3b,q3c,q3d,rfl,hn,hL,ht⟩;have q0W:=Lh hn;have q0X:=Lh hL;replace HT:=Lh ht;clear hn hL ht;obtain ⟨r0,r1,r2,r3,r4,r5⟩:=N9.out _ HT.out.kp;(try simp only [Act.put,List.setIfInBounds_toArray,List.set_cons_zero,List.set_cons_succ]))
      | (have ex:=TS.app (d:=c5) 51 HT.out HQ.out.lies HQ.out.len (by have:=SI.out;have:=HQ.out.len;have:=XQ.out;have:=LD.out;omega);refine aL rfl rfl _ _ _ rfl rfl rfl ex ?_;clear ex;rintro v w6 ⟨q3e,q3f,q3g,q3h,rfl,hn,hL,ht⟩;have Wm:=Lh hn;have q0Y:=Lh hL;replace HT:=Lh ht;clear hn hL ht;obtain ⟨r0,r1,r2,r3,r4,r5⟩:=N9.out _ HT.out.kp;(try simp only [Act.put,List.setIfInBounds_toArray,List.set_cons_zero,List.set_cons_succ]))
      | (have ex:=TS.lit (k:=1) 51 HT.out [Sx.av Sx.lN] rfl rfl (by have:=LD.out;omega);refine aL rfl rfl _ _ _ rfl rfl rfl ex ?_;clear ex;rintro v w6 ⟨q3i,q3j,q3k,q3l,rfl,hn,hL,ht⟩;have SI:=Lh hn;have q0Z:=Lh hL;replace HT:=Lh ht;clear hn hL ht;obtain ⟨r0,r1,r2,r3,r4,r5⟩:=N9.out _ HT.out.kp;(try simp only [Act.put,List.setIfInBounds_toArray,List.set_cons_zero,List.set_cons_succ])))
     all_goals (try go_wp2_with fail)
     all_goals go_meet
     all_goals exact ⟨_,_,_,_,rfl,HT,Lh (by rw [q0X.out,q0Y.out,q0Z.out,if_pos (of_decide_eq_true Hbb.out.symm)];simp),Lh (by have:=SI.out;have:=Wm.out;have:=q0W.out;have:=HQ.out.len;have:=XQ.out;have:=LD.out;omega)⟩
    | false=>
     go_wp2_with fail
     go_meet
     exact ⟨_,_,_,_,rfl,HT,Lh (by rw [if_neg (of_decide_eq_false Hbb.out.symm)];simp),Lh (by have:=LD.out;omega)⟩
   case rest=>
   obtain ⟨q3m,q3n,q3o,q3p,rfl,HT,q00,q02⟩:=hcut;clear r0 r1 r2 r3 r4 r5 hz;obtain ⟨h4,h9,h10,PU,h3,hz⟩:=HC.out _ HT.out.kp;go_wp2_with (first | (go_at_call 142;refine (uY _ _).mono ?_;rintro e w5 ⟨rfl,hb⟩;replace HT:=Lh (HT.out.call hb);clear hb) | (at_builtin;have ex:=TS.lit (k:=1) 51 HT.out [Sx.bI 125] rfl rfl (by have:=q02.out;omega);refine aI rfl _ _ _ rfl rfl rfl ex ?_;clear ex;rintro v w6 ⟨q3q,q3r,q3s,q3t,rfl,hn,hL,ht⟩;have q3u:=Lh hn;have q03:=Lh hL;replace HT:=Lh ht;clear hn hL ht;skip))
   go_roundg (gk - 1)
   all_goals first
    | omega
    | exact ⟨i+1,_,_,_,_,by go_num,by omega,rfl,Lh (HT.out.onto Ra.out),Lh (by rw [q03.out,q00.out,q0V.out,q0P.out,Xh.out,mX.out,Hrp.out,HL.out,iZ Hy.out];simp[Sx.bP])⟩
  ·obtain rfl:i=n0:=by omega
   have rX:=Lh (show L'=P0++x.courses.flatMap Sx.bP by rw [HL.out,show x.courses.take i=x.courses by rw [AZ.out];exact List.take_length]);replace HS:=Lh (show L'.length=0+(x.courses.flatMap Sx.bP).length by rw [rX.out,List.length_append,HS.out]);obtain ⟨P1,rfl⟩:∃ P,P=L':=⟨_,rfl⟩
   clear hi Hn HL hlt;go_upto_region 18 with fail;rename_i K1 h1 K h;exact SB rfl HLEN LV z1 tO R1 OK1 z2 nE R2 OK2 z3 yS R3 OK3 z4 Mf R4 OK4 z5 Mg R5 OK5 z6 Mh R6 OK6 HB0 kz iW HT (Lh (by rw [rX.out,sF.out];rfl)) HS h1 h
end Go.Proofs.YtjonaidancomgaaGreatDoor
