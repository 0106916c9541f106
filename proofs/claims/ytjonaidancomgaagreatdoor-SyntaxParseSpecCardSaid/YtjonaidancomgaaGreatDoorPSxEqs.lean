/- Parts of the proof, joined into one text: SxEqs, SxSameR, SxSameB, SxReqS, SxProgS. -/
import Derived.Test.YtjonaidancomgaaGreatDoorPLxE
import Derived.Laws.StructEq
import Derived.Test.YtjonaidancomgaaGreatDoorPSxEq
import Derived.Test.YtjonaidancomgaaGreatDoorPLxI
import Derived.Deep.LoopGhost
import Derived.Deep.AppendLies
import Derived.Deep.RegionLaw

namespace Go.Proofs.YtjonaidancomgaaGreatDoor
open Go.RowKit

theorem sEqInt (d:Nat) (w:World) (x y:Int):(Op.equalIn (d+1) 3 (.int .i64 x) (.int .i64 y)).run Tryz.prog w = .ok (x == y) w:=run_equalIn_int w d 3 .i64 .i64 x y Tryz.underlying3
theorem sEqStr (d:Nat) (w:World) (x y:List UInt8):(Op.equalIn (d+1) 9 (.string (Lx.bs x)) (.string (Lx.bs y))).run Tryz.prog w = .ok (x == y) w:=by
 rw[run_equalIn_string w d 9 _ _ Tryz.underlying9,ByteArray.toList_eq,ByteArray.toList_eq,Lx.bs_list,Lx.bs_list]
def pairV (x:Sx.Pair):Value:=.agg #[.string (Lx.bs x.a),.string (Lx.bs x.b),.int .i64 x.x,.int .i64 x.y]
def clsV (x:Sx.Cls):Value:=.agg #[.string (Lx.bs x.name),.int .i64 x.earn,.int .i64 x.mean.num,.int .i64 x.mean.den]
def feeV (x:Sx.Fee):Value:=.agg #[.string (Lx.bs x.name),.int .i64 x.credits]
def clauseV (x:Sx.Clause):Value:=.agg #[.int .i64 x.kind,.int .i64 x.when_,.int .i64 x.action,.int .i64 x.til]
theorem sEqRat (d:Nat) (w:World) (x y:Sx.Ratio):(Op.equalIn (d+1+1) 75 (.agg #[.int .i64 x.num,.int .i64 x.den]) (.agg #[.int .i64 y.num,.int .i64 y.den])).run Tryz.prog w = .ok (x.num == y.num && x.den == y.den) w:=by
 rw[run_equalIn_struct w (d+1) 75 _ _ (by kernel_rfl) (by kernel_rfl)]
 have p0:∀ (w:World) (z:Sx.Ratio),(part 3 #[.int .i64 z.num,.int .i64 z.den] 0).run Tryz.prog w = .ok (.int .i64 z.num) w:=fun _ _=>by kernel_rfl
 have p1:∀ (w:World) (z:Sx.Ratio),(part 3 #[.int .i64 z.num,.int .i64 z.den] 1).run Tryz.prog w = .ok (.int .i64 z.den) w:=fun _ _=>by kernel_rfl
 simp only[Program.fieldsOf,Tryz.underlying75]
 cases h0:(x.num == y.num)
 ·simp only[Op.eqFields,Sem.run_bind,Sem.run_ite,p0,sEqInt,h0,Result.andThen_ok];simp
 cases h1:(x.den == y.den)
 ·simp only[Op.eqFields,Sem.run_bind,Sem.run_ite,p0,p1,sEqInt,h0,h1,Result.andThen_ok];simp
 ·simp only[Op.eqFields,Sem.run_bind,Sem.run_ite,p0,p1,sEqInt,h0,h1,Result.andThen_ok];simp
theorem Sx.ratio_eq (a b:Sx.Ratio):a=b↔(a.num=b.num∧a.den=b.den):=by
 cases a;cases b;simp
theorem sEqPair (x y:Sx.Pair) (w:World):(Op.equal 71 (pairV x) (pairV y)).run Tryz.prog w = .ok (decide (x=y)) w:=by
 have e:decide (x=y)=(x.a == y.a && (x.b == y.b && (x.x == y.x && (x.y == y.y)))):=by
  cases x
  cases y
  rw[Bool.eq_iff_iff]
  simp only[decide_eq_true_eq,Sx.Pair.mk.injEq,Bool.and_eq_true,beq_iff_eq]
 rw[e]
 show (Op.equalIn (9997+1+1+1) 71 (pairV x) (pairV y)).run Tryz.prog w=_
 unfold pairV
 rw[run_equalIn_struct w (9997+1+1) 71 _ _ (by kernel_rfl) (by kernel_rfl)]
 have p0:∀ (w:World) (z:Sx.Pair),(part 9 #[.string (Lx.bs z.a),.string (Lx.bs z.b),.int .i64 z.x,.int .i64 z.y] 0).run Tryz.prog w = .ok (.string (Lx.bs z.a)) w:=fun _ _=>by kernel_rfl
 have p1:∀ (w:World) (z:Sx.Pair),(part 9 #[.string (Lx.bs z.a),.string (Lx.bs z.b),.int .i64 z.x,.int .i64 z.y] 1).run Tryz.prog w = .ok (.string (Lx.bs z.b)) w:=fun _ _=>by kernel_rfl
 have p2:∀ (w:World) (z:Sx.Pair),(part 3 #[.string (Lx.bs z.a),.string (Lx.bs z.b),.int .i64 z.x,.int .i64 z.y] 2).run Tryz.prog w = .ok (.int .i64 z.x) w:=fun _ _=>by kernel_rfl
 have p3:∀ (w:World) (z:Sx.Pair),(part 3 #[.string (Lx.bs z.a),.string (Lx.bs z.b),.int .i64 z.x,.int .i64 z.y] 3).run Tryz.prog w = .ok (.int .i64 z.y) w:=fun _ _=>by kernel_rfl
 simp only[Program.fieldsOf,Tryz.underlying71]
 cases h0:(x.a == y.a)
 ·simp only[Op.eqFields,Sem.run_bind,Sem.run_ite,p0,sEqStr,h0,Result.andThen_ok];simp
 cases h1:(x.b == y.b)
 ·simp only[Op.eqFields,Sem.run_bind,Sem.run_ite,p0,p1,sEqStr,h0,h1,Result.andThen_ok];simp
 cases h2:(x.x == y.x)
 ·simp only[Op.eqFields,Sem.run_bind,Sem.run_ite,p0,p1,p2,sEqInt,sEqStr,h0,h1,h2,Result.andThen_ok];simp
 cases h3:(x.y == y.y)
 ·simp only[Op.eqFields,Sem.run_bind,Sem.run_ite,p0,p1,p2,p3,sEqInt,sEqStr,h0,h1,h2,h3,Result.andThen_ok];simp
 ·simp only[Op.eqFields,Sem.run_bind,Sem.run_ite,p0,p1,p2,p3,sEqInt,sEqStr,h0,h1,h2,h3,Result.andThen_ok];simp
theorem sNeqPair (x y:Sx.Pair) (w:World):(binOp .neq 71 (pairV x) (pairV y)).run Tryz.prog w = .ok (.bool (!decide (x=y))) w:=by
 have h:=sEqPair x y w
 unfold pairV at h ⊢
 simp only[binOp]
 simp[h]
theorem sEqCls (x y:Sx.Cls) (w:World):(Op.equal 82 (clsV x) (clsV y)).run Tryz.prog w = .ok (decide (x=y)) w:=by
 have e:decide (x=y)=(x.name == y.name && (x.earn == y.earn && ((x.mean.num == y.mean.num && x.mean.den == y.mean.den)))):=by
  cases x
  cases y
  rw[Bool.eq_iff_iff]
  simp only[decide_eq_true_eq,Sx.Cls.mk.injEq,Bool.and_eq_true,beq_iff_eq,Sx.ratio_eq]
 rw[e]
 show (Op.equalIn (9997+1+1+1) 82 (clsV x) (clsV y)).run Tryz.prog w=_
 unfold clsV
 rw[run_equalIn_struct w (9997+1+1) 82 _ _ (by kernel_rfl) (by kernel_rfl)]
 have p0:∀ (w:World) (z:Sx.Cls),(part 9 #[.string (Lx.bs z.name),.int .i64 z.earn,.int .i64 z.mean.num,.int .i64 z.mean.den] 0).run Tryz.prog w = .ok (.string (Lx.bs z.name)) w:=fun _ _=>by kernel_rfl
 have p1:∀ (w:World) (z:Sx.Cls),(part 3 #[.string (Lx.bs z.name),.int .i64 z.earn,.int .i64 z.mean.num,.int .i64 z.mean.den] 1).run Tryz.prog w = .ok (.int .i64 z.earn) w:=fun _ _=>by kernel_rfl
 have p2:∀ (w:World) (z:Sx.Cls),(part 75 #[.string (Lx.bs z.name),.int .i64 z.earn,.int .i64 z.mean.num,.int .i64 z.mean.den] 2).run Tryz.prog w = .ok (.agg #[.int .i64 z.mean.num,.int .i64 z.mean.den]) w:=fun _ _=>by kernel_rfl
 simp only[Program.fieldsOf,Tryz.underlying82]
 cases h0:(x.name == y.name)
 ·simp only[Op.eqFields,Sem.run_bind,Sem.run_ite,p0,sEqStr,h0,Result.andThen_ok];simp
 cases h1:(x.earn == y.earn)
 ·simp only[Op.eqFields,Sem.run_bind,Sem.run_ite,p0,p1,sEqInt,sEqStr,h0,h1,Result.andThen_ok];simp
 cases h2:((x.mean.num == y.mean.num && x.mean.den == y.mean.den))
 ·simp only[Op.eqFields,Sem.run_bind,Sem.run_ite,p0,p1,p2,sEqInt,sEqStr,sEqRat,h0,h1,h2,Result.andThen_ok];simp
 ·simp only[Op.eqFields,Sem.run_bind,Sem.run_ite,p0,p1,p2,sEqInt,sEqStr,sEqRat,h0,h1,h2,Result.andThen_ok];simp
theorem sNeqCls (x y:Sx.Cls) (w:World):(binOp .neq 82 (clsV x) (clsV y)).run Tryz.prog w = .ok (.bool (!decide (x=y))) w:=by
 have h:=sEqCls x y w
 unfold clsV at h ⊢
 simp only[binOp]
 simp[h]
theorem sEqFee (x y:Sx.Fee) (w:World):(Op.equal 86 (feeV x) (feeV y)).run Tryz.prog w = .ok (decide (x=y)) w:=by
 have e:decide (x=y)=(x.name == y.name && (x.credits == y.credits)):=by
  cases x
  cases y
  rw[Bool.eq_iff_iff]
  simp only[decide_eq_true_eq,Sx.Fee.mk.injEq,Bool.and_eq_true,beq_iff_eq]
 rw[e]
 show (Op.equalIn (9997+1+1+1) 86 (feeV x) (feeV y)).run Tryz.prog w=_
 unfold feeV
 rw[run_equalIn_struct w (9997+1+1) 86 _ _ (by kernel_rfl) (by kernel_rfl)]
 have p0:∀ (w:World) (z:Sx.Fee),(part 9 #[.string (Lx.bs z.name),.int .i64 z.credits] 0).run Tryz.prog w = .ok (.string (Lx.bs z.name)) w:=fun _ _=>by kernel_rfl
 have p1:∀ (w:World) (z:Sx.Fee),(part 3 #[.string (Lx.bs z.name),.int .i64 z.credits] 1).run Tryz.prog w = .ok (.int .i64 z.credits) w:=fun _ _=>by kernel_rfl
 simp only[Program.fieldsOf,Tryz.underlying86]
 cases h0:(x.name == y.name)
 ·simp only[Op.eqFields,Sem.run_bind,Sem.run_ite,p0,sEqStr,h0,Result.andThen_ok];simp
 cases h1:(x.credits == y.credits)
 ·simp only[Op.eqFields,Sem.run_bind,Sem.run_ite,p0,p1,sEqInt,sEqStr,h0,h1,Result.andThen_ok];simp
 ·simp only[Op.eqFields,Sem.run_bind,Sem.run_ite,p0,p1,sEqInt,sEqStr,h0,h1,Result.andThen_ok];simp
theorem sNeqFee (x y:Sx.Fee) (w:World):(binOp .neq 86 (feeV x) (feeV y)).run Tryz.prog w = .ok (.bool (!decide (x=y))) w:=by
 have h:=sEqFee x y w
 unfold feeV at h ⊢
 simp only[binOp]
 simp[h]
theorem sEqClause (x y:Sx.Clause) (w:World):(Op.equal 90 (clauseV x) (clauseV y)).run Tryz.prog w = .ok (decide (x=y)) w:=by
 have e:decide (x=y)=(x.kind == y.kind && (x.when_ == y.when_ && (x.action == y.action && (x.til == y.til)))):=by
  cases x
  cases y
  rw[Bool.eq_iff_iff]
  simp only[decide_eq_true_eq,Sx.Clause.mk.injEq,Bool.and_eq_true,beq_iff_eq]
 rw[e]
 show (Op.equalIn (9997+1+1+1) 90 (clauseV x) (clauseV y)).run Tryz.prog w=_
 unfold clauseV
 rw[run_equalIn_struct w (9997+1+1) 90 _ _ (by kernel_rfl) (by kernel_rfl)]
 have p0:∀ (w:World) (z:Sx.Clause),(part 3 #[.int .i64 z.kind,.int .i64 z.when_,.int .i64 z.action,.int .i64 z.til] 0).run Tryz.prog w = .ok (.int .i64 z.kind) w:=fun _ _=>by kernel_rfl
 have p1:∀ (w:World) (z:Sx.Clause),(part 3 #[.int .i64 z.kind,.int .i64 z.when_,.int .i64 z.action,.int .i64 z.til] 1).run Tryz.prog w = .ok (.int .i64 z.when_) w:=fun _ _=>by kernel_rfl
 have p2:∀ (w:World) (z:Sx.Clause),(part 3 #[.int .i64 z.kind,.int .i64 z.when_,.int .i64 z.action,.int .i64 z.til] 2).run Tryz.prog w = .ok (.int .i64 z.action) w:=fun _ _=>by kernel_rfl
 have p3:∀ (w:World) (z:Sx.Clause),(part 3 #[.int .i64 z.kind,.int .i64 z.when_,.int .i64 z.action,.int .i64 z.til] 3).run Tryz.prog w = .ok (.int .i64 z.til) w:=fun _ _=>by kernel_rfl
 simp only[Program.fieldsOf,Tryz.underlying90]
 cases h0:(x.kind == y.kind)
 ·simp only[Op.eqFields,Sem.run_bind,Sem.run_ite,p0,sEqInt,h0,Result.andThen_ok];simp
 cases h1:(x.when_ == y.when_)
 ·simp only[Op.eqFields,Sem.run_bind,Sem.run_ite,p0,p1,sEqInt,h0,h1,Result.andThen_ok];simp
 cases h2:(x.action == y.action)
 ·simp only[Op.eqFields,Sem.run_bind,Sem.run_ite,p0,p1,p2,sEqInt,h0,h1,h2,Result.andThen_ok];simp
 cases h3:(x.til == y.til)
 ·simp only[Op.eqFields,Sem.run_bind,Sem.run_ite,p0,p1,p2,p3,sEqInt,h0,h1,h2,h3,Result.andThen_ok];simp
 ·simp only[Op.eqFields,Sem.run_bind,Sem.run_ite,p0,p1,p2,p3,sEqInt,h0,h1,h2,h3,Result.andThen_ok];simp
theorem sNeqClause (x y:Sx.Clause) (w:World):(binOp .neq 90 (clauseV x) (clauseV y)).run Tryz.prog w = .ok (.bool (!decide (x=y))) w:=by
 have h:=sEqClause x y w
 unfold clauseV at h ⊢
 simp only[binOp]
 simp[h]
end Go.Proofs.YtjonaidancomgaaGreatDoor

namespace Go.Proofs.YtjonaidancomgaaGreatDoor
open Go.RowKit

def BoolPost (b:Bool) (w:World) (e:Ending) (w':World):Prop:=e = .returned (.bool b)∧Below w.heap.size w w'
def Old (w:World) (b:Nat):Prop:=b < w.heap.size
theorem RuleAt.old {w w':World} {r:Sx.Rule} {cs:List Value} (h:RuleAt w (Old w) r cs) (hb:Below w.heap.size w w'):RuleAt w' (Old w') r cs:=
 RuleAt.keep (fun b hb1=>⟨Nat.lt_of_lt_of_le hb1 hb.size,fun i=>hb.cell (p:=⟨b,i,none⟩) hb1⟩) r cs h
set_option maxRecDepth 20000 in
set_option maxHeartbeats 8000000 in
theorem rSameRule:∀ (n:Nat) (a b:Sx.Rule),SizeOf.sizeOf a < n→∀ (w:World) (ca cb:List Value),RuleAt w (Old w) a ca→RuleAt w (Old w) b cb→
  Calls Tryz.prog 17 #[.agg ca.toArray,.agg cb.toArray] w (BoolPost (Sx.ruleEq a b) w)
 | 0,a,b,hn,w,ca,cb,ha,hb=>by omega
 | n+1,.mk op co nm x d ks,.mk op' co' nm' x' d' ks',hn,w,ca,cb,ha,hb=>by
  have Hih:=Lh (rSameRule n)
  have HA:=Lh ha;have HB:=Lh hb
  rw[RuleAt] at ha hb
  obtain ⟨A,c,rfl,ha2,ha3,ha4⟩:=ha
  obtain ⟨B,c',rfl,hb2,hb3,hb4⟩:=hb
  have Hka:=Lh ha4;have Hkb:=Lh hb4
  obtain ⟨R,hR⟩:∃ R,R=Sx.ruleEq (.mk op co nm x d ks) (.mk op' co' nm' x' d' ks'):=⟨_,rfl⟩
  rw[←hR]
  rw[Sx.ruleEq] at hR
  obtain ⟨m,hm⟩:∃ m,m=ks.length:=⟨_,rfl⟩
  obtain ⟨m',hm'⟩:∃ m',m'=ks'.length:=⟨_,rfl⟩
  rw[←hm] at ha3 ⊢
  rw[←hm'] at hb3 ⊢
  have Hm:=Lh hm;have Hm':=Lh hm'
  have Hsz:Hid (∀ (i:Nat) y,ks[i]?=some y→SizeOf.sizeOf y < n):=Lh (fun i y hy=>by have:=Sx.kid_size (op:=op) (co:=co) (nm:=nm) (n:=x) (d:=d) hy;omega)
  have hb0:Below w.heap.size w ((w.alloc (.cells #[.int .i64 op,.int .i64 co,.string (Lx.bs nm),.int .i64 x,.int .i64 d,.slice A m c] 38)).alloc (.cells #[.int .i64 op',.int .i64 co',.string (Lx.bs nm'),.int .i64 x',.int .i64 d',.slice B m' c'] 38)):=((Below.refl _ _).alloc (Nat.le_refl _) _).alloc (by simp) _
  have HB0:=Lh hb0
  unfold intV strV
  clear ha4 hb4 hm hm' hn hb0
  cases q0:op != op' with
  | true=>
   have HR:Hid (R=false):=Lh (by rw [hR];have:(op == op')=false:=(by simpa using q0);rw[this];rfl)
   clear hR
   go_enter Tryz.func17,Tryz.ntmps17
   go_wp2_with fail
   go_ret
   exact ⟨ret_bool HR.out.symm,HB0.out⟩
  | false=>
  have p0:(op == op')=true:=by simpa using q0
  rw[p0,Bool.true_and] at hR
  cases q1:co != co' with
  | true=>
   have HR:Hid (R=false):=Lh (by rw [hR];have:(co == co')=false:=(by simpa using q1);rw[this];rfl)
   clear hR
   go_enter Tryz.func17,Tryz.ntmps17
   go_wp2_with fail
   go_ret
   exact ⟨ret_bool HR.out.symm,HB0.out⟩
  | false=>
  have p1:(co == co')=true:=by simpa using q1
  rw[p1,Bool.true_and] at hR
  have hbs:((Lx.bs nm).toList == (Lx.bs nm').toList)=(nm == nm'):=by rw [ByteArray.toList_eq,ByteArray.toList_eq,Lx.bs_list,Lx.bs_list]
  cases q2:nm == nm' with
  | false=>
   have HR:Hid (R=false):=Lh (by rw [hR,q2];rfl)
   rw[q2] at hbs
   clear hR
   go_enter Tryz.func17,Tryz.ntmps17
   go_wp2_with fail
   go_ret
   exact ⟨ret_bool HR.out.symm,HB0.out⟩
  | true=>
  rw[q2] at hbs
  rw[q2,Bool.true_and] at hR
  cases q3:x != x' with
  | true=>
   have HR:Hid (R=false):=Lh (by rw [hR];have:(x == x')=false:=(by simpa using q3);rw[this];rfl)
   clear hR
   go_enter Tryz.func17,Tryz.ntmps17
   go_wp2_with fail
   go_ret
   exact ⟨ret_bool HR.out.symm,HB0.out⟩
  | false=>
  have p3:(x == x')=true:=by simpa using q3
  rw[p3,Bool.true_and] at hR
  cases q4:d != d' with
  | true=>
   have HR:Hid (R=false):=Lh (by rw [hR];have:(d == d')=false:=(by simpa using q4);rw[this];rfl)
   clear hR
   go_enter Tryz.func17,Tryz.ntmps17
   go_wp2_with fail
   go_ret
   exact ⟨ret_bool HR.out.symm,HB0.out⟩
  | false=>
  have p4:(d == d')=true:=by simpa using q4
  rw[p4,Bool.true_and] at hR
  cases q5:((m:Int) != (m':Int)) with
  | true=>
   have HR:Hid (R=false):=Lh (by rw [hR];exact Sx.rulesEq_len (fun e=>by rw [←Hm.out,←Hm'.out] at e;simp[e] at q5))
   clear hR
   go_enter Tryz.func17,Tryz.ntmps17
   go_wp2_with fail
   go_ret
   exact ⟨ret_bool HR.out.symm,HB0.out⟩
  | false=>
  obtain rfl:m=m':=by have:(m:Int)=m':=(by simpa using q5);omega
  clear q5
  obtain ⟨W,hW⟩:∃ W,W=(w.alloc (.cells #[.int .i64 op,.int .i64 co,.string (Lx.bs nm),.int .i64 x,.int .i64 d,.slice A m c] 38)).alloc (.cells #[.int .i64 op',.int .i64 co',.string (Lx.bs nm'),.int .i64 x',.int .i64 d',.slice B m c'] 38):=⟨_,rfl⟩
  have e0:Blk W w.heap.size 38 #[.int .i64 op,.int .i64 co,.string (Lx.bs nm),.int .i64 x,.int .i64 d,.slice A m c]:=by rw [hW];exact (Blk.new _ _ _).alloc _
  have e1:Blk W (w.heap.size+1) 38 #[.int .i64 op',.int .i64 co',.string (Lx.bs nm'),.int .i64 x',.int .i64 d',.slice B m c']:=by rw [hW];exact Blk.new_at _ _ (by simp)
  have HE0:=Lh e0;have HE1:=Lh e1
  have HR:=Lh hR
  rw[←hW] at HB0
  clear hR e0 e1
  go_enter Tryz.func17,Tryz.ntmps17
  go_wp2_with fail
  try rw [←hW]
  clear hW q0 q1 q2 q3 q4 p0 p1 p3 p4 hbs
  go_loopg [5] m (fun gk v5 wr=>∃ i:Nat,v5 = .int .i64 i∧i+gk=m∧Hid (Below W.heap.size W wr)∧Hid (∀ j y z,j < i→ks[j]?=some y→ks'[j]?=some z→Sx.ruleEq y z=true))
  case atStart=>exact ⟨0,rfl,by omega,Lh (Below.refl _ _),Lh (fun j y z hj=>absurd hj (Nat.not_lt_zero j))⟩
  case round=>
   obtain ⟨i,rfl,hi,Hb,Hag⟩:=hrel
   have Bl:=Lh (HB0.out.trans (Hb.out.mono HB0.out.size))
   have g0:=HE0.out.below Hb.out HE0.out.lt
   have g1:=HE1.out.below Hb.out HE1.out.lt
   have g5:=g0.cell 5;have h5:=g1.cell 5
   simp at g5 h5
   have hWs:=HB0.out.size
   clear g0 g1
   by_cases hlt:i < m
   ·obtain ⟨y,hy⟩:∃ y,ks[i]?=some y:=⟨_,List.getElem?_eq_getElem (by have:=Hm.out;omega)⟩
    obtain ⟨z,hz⟩:∃ z,ks'[i]?=some z:=⟨_,List.getElem?_eq_getElem (by have:=Hm'.out;omega)⟩
    have Hy:=Lh hy;have Hz:=Lh hz
    have hcall:=Hih.out y z (Hsz.out i y hy)
    obtain ⟨bk,ok,csk,rfl,hSk,hrk,hck⟩:=Hka.out.get i y hy
    have hrk':=hrk.old Bl.out
    obtain ⟨ko,kc,kn,kx,kd,kk⟩:=y
    rw[RuleAt] at hrk
    obtain ⟨kA,kq,rfl,-,-,-⟩:=hrk
    have k0:=(Bl.out.cell (p:=⟨bk,_,none⟩) hSk).trans (hck 0 _ rfl)
    have k1:=(Bl.out.cell (p:=⟨bk,_,none⟩) hSk).trans (hck 1 _ rfl)
    have k2:=(Bl.out.cell (p:=⟨bk,_,none⟩) hSk).trans (hck 2 _ rfl)
    have k3:=(Bl.out.cell (p:=⟨bk,_,none⟩) hSk).trans (hck 3 _ rfl)
    have k4:=(Bl.out.cell (p:=⟨bk,_,none⟩) hSk).trans (hck 4 _ rfl)
    have k5:=(Bl.out.cell (p:=⟨bk,_,none⟩) hSk).trans (hck 5 _ rfl)
    simp only[Nat.zero_add,Nat.add_zero] at k0 k1 k2 k3 k4 k5
    simp only[intV,strV] at k0 k1 k2 k3 k4 k5 hrk'
    obtain ⟨bl,ol,csl,rfl,hSl,hrl,hcl⟩:=Hkb.out.get i z hz
    have hrl':=hrl.old Bl.out
    obtain ⟨lo,lc,ln,lx,ld,lk⟩:=z
    rw[RuleAt] at hrl
    obtain ⟨lA,lq,rfl,-,-,-⟩:=hrl
    have l0:=(Bl.out.cell (p:=⟨bl,_,none⟩) hSl).trans (hcl 0 _ rfl)
    have l1:=(Bl.out.cell (p:=⟨bl,_,none⟩) hSl).trans (hcl 1 _ rfl)
    have l2:=(Bl.out.cell (p:=⟨bl,_,none⟩) hSl).trans (hcl 2 _ rfl)
    have l3:=(Bl.out.cell (p:=⟨bl,_,none⟩) hSl).trans (hcl 3 _ rfl)
    have l4:=(Bl.out.cell (p:=⟨bl,_,none⟩) hSl).trans (hcl 4 _ rfl)
    have l5:=(Bl.out.cell (p:=⟨bl,_,none⟩) hSl).trans (hcl 5 _ rfl)
    simp only[Nat.zero_add,Nat.add_zero] at l0 l1 l2 l3 l4 l5
    simp only[intV,strV] at l0 l1 l2 l3 l4 l5 hrl'
    have Hcall:=Lh (hcall wr.drew _ _ (hrk'.old ((Below.refl wr.heap.size wr).drew)) (hrl'.old ((Below.refl wr.heap.size wr).drew)))
    clear hcall hrk' hrl' hck hcl hy hz
    cases hq:Sx.ruleEq (.mk ko kc kn kx kd kk) (.mk lo lc ln lx ld lk) with
    | false=>
     rw[hq] at Hcall
     have HR2:Hid (R=false):=Lh (by rw [HR.out];exact Sx.rulesEq_no Hy.out Hz.out hq)
     clear hq
     go_wp2_with fail
     go_region_law (go_simp;go_at_call 17;refine Hcall.out.mono ?_;rintro e w5 ⟨rfl,hb5⟩;have Hb5:=Lh hb5;clear hb5)
     all_goals (try go_wp2_with fail)
     all_goals go_ret
     all_goals exact ⟨ret_bool HR2.out.symm,Bl.out.trans (Below.trans (Below.refl _ _).drew (Hb5.out.mono (by have:=Bl.out.size;exact this)))⟩
    | true=>
     rw[hq] at Hcall
     have Hq:=Lh hq
     clear hq
     go_wp2_with fail
     go_region_law (go_simp;go_at_call 17;refine Hcall.out.mono ?_;rintro e w5 ⟨rfl,hb5⟩;have Hb5:=Lh hb5;clear hb5)
     all_goals (try go_wp2_with fail)
     all_goals go_roundg (gk - 1)
     all_goals first
      | omega
      | exact ⟨i+1,by go_num,by omega,Lh (Hb.out.trans (Below.trans (Below.refl _ _).drew (Hb5.out.mono (by have:=Hb.out.size;exact this)))),Lh (fun j y z hj h1 h2=>by
        rcases Nat.lt_or_ge j i with h3 | h3
        ·exact Hag.out j y z h3 h1 h2
        ·obtain rfl:j=i:=by omega
         rw[Hy.out] at h1;rw[Hz.out] at h2
         injection h1 with h1;injection h2 with h2
         rw[←h1,←h2];exact Hq.out)⟩
   ·obtain rfl:i=m:=by omega
    have HR2:Hid (R=true):=Lh (by rw [HR.out];exact Sx.rulesEq_all (by rw [←Hm.out,←Hm'.out]) (fun j y z h1 h2=>Hag.out j y z (by have:=(List.getElem?_eq_some_iff.1 h1).1;have:=Hm.out;omega) h1 h2))
    go_wp2_with fail
    go_ret
    exact ⟨ret_bool HR2.out.symm,Bl.out⟩
end Go.Proofs.YtjonaidancomgaaGreatDoor

namespace Go.Proofs.YtjonaidancomgaaGreatDoor
open Go.RowKit

theorem sAgree_next {α:Type} {a b:List α} {k:Nat} (h:∀ j,j < k→a[j]?=b[j]?) (hk:a[k]?=b[k]?):∀ j,j < k+1→a[j]?=b[j]?:=fun j hj=>by
 rcases Nat.lt_or_ge j k with h1 | h1
 ·exact h j h1
 ·rw[show j=k by omega];exact hk
theorem sAgree_all {α:Type} {a b:List α} {k:Nat} (h:∀ j,j < k→a[j]?=b[j]?) (ha:k=a.length) (hb:k=b.length):a=b:=
 List.ext_getElem? fun j=>by
  rcases Nat.lt_or_ge j k with h1 | h1
  ·exact h j h1
  ·rw[List.getElem?_eq_none (by omega),List.getElem?_eq_none (by omega)]
theorem Row.old {α:Type} {w w':World} {A:Option Addr} {sz:Nat} {P:α→List Value→Prop} {l:List α} (h:Row w (Old w) A sz P l) (hb:Below w.heap.size w w'):Row w' (Old w') A sz P l:=
 h.keep (fun b hb1=>⟨Nat.lt_of_lt_of_le hb1 hb.size,fun i=>hb.cell (p:=⟨b,i,none⟩) hb1⟩) (fun _ _ _ h=>h)
set_option maxRecDepth 20000 in
set_option maxHeartbeats 4000000 in
theorem rSameClasses (A B:Option Addr) (c d:Nat) (l m:List Sx.Cls) (w:World) (ha:Row w (Old w) A 4 ClsAt l) (hb:Row w (Old w) B 4 ClsAt m) :
  Calls Tryz.prog 104 #[.slice A l.length c,.slice B m.length d] w (BoolPost (decide (l=m)) w):=by
 obtain ⟨n0,hn0⟩:∃ n0,n0=l.length:=⟨_,rfl⟩
 obtain ⟨m0,hm0⟩:∃ m0,m0=m.length:=⟨_,rfl⟩
 have z0:=ha.len;have y0:=hb.len
 rw[←hn0] at z0 ⊢
 rw[←hm0] at y0 ⊢
 have HA:=Lh ha;have HB:=Lh hb;have Hn0:=Lh hn0;have Hm0:=Lh hm0
 clear ha hb hn0 hm0
 cases q0:((n0:Int) != (m0:Int)) with
 | true=>
  have hne:decide (l=m)=false:=decide_eq_false fun e=>by
   have hh:n0=m0:=by rw [Hn0.out,Hm0.out,e]
   rw[hh] at q0;simp at q0
  have Hne:=Lh hne
  clear hne
  go_enter Tryz.func104,Tryz.ntmps104
  go_wp2_with fail
  go_ret
  exact ⟨ret_bool Hne.out.symm,Below.refl _ _⟩
 | false=>
 obtain rfl:n0=m0:=by have:(n0:Int)=m0:=(by simpa using q0);omega
 clear q0
 go_enter Tryz.func104,Tryz.ntmps104
 go_wp2_with fail
 go_loopg [5] n0 (fun gk v5 wr=>∃ i nn:Nat,v5 = .int .i64 i∧i+gk=n0∧wr=w.drewN nn∧Hid (∀ j,j < i→l[j]?=m[j]?))
 case atStart=>exact ⟨0,0,rfl,by omega,rfl,Lh (fun j hj=>absurd hj (Nat.not_lt_zero j))⟩
 case round=>
  obtain ⟨i,nn,rfl,hi,rfl,Hag⟩:=hrel
  by_cases hlt:i < n0
  ·obtain ⟨x,hx⟩:∃ x,l[i]?=some x:=⟨_,List.getElem?_eq_getElem (by have:=Hn0.out;omega)⟩
   obtain ⟨y,hy⟩:∃ y,m[i]?=some y:=⟨_,List.getElem?_eq_getElem (by have:=Hm0.out;omega)⟩
   obtain ⟨bx,ox,csx,rfl,_,⟨rfl,-⟩,hcx⟩:=HA.out.at_ i x hx
   obtain ⟨by_,oy,csy,rfl,_,⟨rfl,-⟩,hcy⟩:=HB.out.at_ i y hy
   have x0:=hcx 0 _ rfl;have y0':=hcy 0 _ rfl
   have x1:=hcx 1 _ rfl;have y1:=hcy 1 _ rfl
   have x2:=hcx 2 _ rfl;have y2:=hcy 2 _ rfl
   have x3:=hcx 3 _ rfl;have y3:=hcy 3 _ rfl
   simp only[Nat.add_zero,intV,strV] at x0 x1 x2 x3 y0' y1 y2 y3
   have Hx:=Lh hx;have Hy:=Lh hy
   clear hcx hcy hx hy
   have hneq:=sNeqCls x y
   unfold clsV at hneq
   cases hq:decide (x=y) with
   | false=>
    have hne:decide (l=m)=false:=decide_eq_false fun e0=>by
     have hxy:x≠y:=fun e=>by simp [e] at hq
     have h1:=Hx.out
     rw[e0,Hy.out] at h1
     injection h1 with h1
     exact hxy h1.symm
    have Hne:=Lh hne
    rw[hq] at hneq
    clear hne hq
    go_wp2_with fail
    go_quiet (fail)
    go_wp2_with fail
    go_ret
    exact ⟨ret_bool Hne.out.symm,bel_drewN (bel_drewN (Below.refl _ _) _) _⟩
   | true=>
    have hnx:=sAgree_next Hag.out (by have e:x=y:=(by simpa using hq);rw[Hx.out,Hy.out,e])
    have Hnx:=Lh hnx
    rw[hq] at hneq
    clear hnx hq
    go_wp2_with fail
    go_quiet (fail)
    go_wp2_with fail
    go_roundg (gk - 1)
    all_goals first
     | omega
     | exact ⟨i+1,_,by go_num,by omega,(by first | rfl | exact World.drewN_drewN _ _ _),Lh Hnx.out⟩
  ·obtain rfl:i=n0:=by omega
   have hall:decide (l=m)=true:=decide_eq_true (sAgree_all Hag.out Hn0.out Hm0.out)
   have Hall:=Lh hall
   clear hall
   go_wp2_with fail
   go_ret
   exact ⟨ret_bool Hall.out.symm,bel_drewN (Below.refl _ _) _⟩
end Go.Proofs.YtjonaidancomgaaGreatDoor

namespace Go.Proofs.YtjonaidancomgaaGreatDoor
open Go.RowKit

set_option maxRecDepth 20000 in
set_option maxHeartbeats 8000000 in
theorem rSameReq (a b:Sx.Req) (w:World) (ca cb:List Value) (ha:ReqAt w (Old w) a ca) (hb:ReqAt w (Old w) b cb) :
    Calls Tryz.prog 105 #[.agg ca.toArray,.agg cb.toArray] w (BoolPost (decide (a=b)) w):=by
  obtain ⟨am,ac,ag,ah,an,af⟩:=a
  obtain ⟨bm,bc,bg,bh,bn,bf⟩:=b
  obtain ⟨A1,c1,A2,c2,rfl,-,a1,a2⟩:=ha
  obtain ⟨B1,d1,B2,d2,rfl,-,b1,b2⟩:=hb
  obtain ⟨R,hR⟩:∃ R,R=decide ((⟨am,ac,ag,ah,an,af⟩:Sx.Req)=⟨bm,bc,bg,bh,bn,bf⟩):=⟨_,rfl⟩
  rw[←hR]
  simp only[Sx.Req.mk.injEq] at hR
  have z1:=a1.len;have z2:=a2.len;have y1:=b1.len;have y2:=b2.len
  simp only[intV,strV]
  simp only at z1 z2 y1 y2
  obtain ⟨n1,hn1⟩:∃ k,k=an.length:=⟨_,rfl⟩
  obtain ⟨p1,hp1⟩:∃ k,k=bn.length:=⟨_,rfl⟩
  obtain ⟨n2,hn2⟩:∃ k,k=af.length:=⟨_,rfl⟩
  obtain ⟨p2,hp2⟩:∃ k,k=bf.length:=⟨_,rfl⟩
  rw[←hn1] at z1
  rw[←hn2] at z2
  rw[←hp1] at y1
  rw[←hp2] at y2
  rw[←hn1,←hn2,←hp1,←hp2]
  obtain ⟨W,hW⟩:∃ W,W=(w.alloc (.cells #[.string (Lx.bs am),.int .i64 ac,.int .i64 ag,.bool ah,.slice A1 n1 c1,.slice A2 n2 c2] 108)).alloc (.cells #[.string (Lx.bs bm),.int .i64 bc,.int .i64 bg,.bool bh,.slice B1 p1 d1,.slice B2 p2 d2] 108):=⟨_,rfl⟩
  have hb0:Below w.heap.size w W:=by rw [hW];exact ((Below.refl _ _).alloc (Nat.le_refl _) _).alloc (by simp) _
  have e0:Blk W w.heap.size 108 #[.string (Lx.bs am),.int .i64 ac,.int .i64 ag,.bool ah,.slice A1 n1 c1,.slice A2 n2 c2]:=by rw [hW];exact (Blk.new _ _ _).alloc _
  have e1:Blk W (w.heap.size+1) 108 #[.string (Lx.bs bm),.int .i64 bc,.int .i64 bg,.bool bh,.slice B1 p1 d1,.slice B2 p2 d2]:=by rw [hW];exact Blk.new_at _ _ (by simp)
  have RA1:=Lh (a1.old hb0);have RA2:=Lh (a2.old hb0);have RB1:=Lh (b1.old hb0);have RB2:=Lh (b2.old hb0)
  have HB0:=Lh hb0
  have Hn1:=Lh hn1;have Hm1:=Lh hp1;have Hn2:=Lh hn2;have Hm2:=Lh hp2
  have E0:=Lh e0;have E1:=Lh e1
  have hWs:=hb0.size
  have hw1:=e1.lt
  clear e0 e1 hb0 a1 a2 b1 b2 hn1 hp1 hn2 hp2
  have hbs:((Lx.bs am).toList == (Lx.bs bm).toList)=(am == bm):=by rw [ByteArray.toList_eq,ByteArray.toList_eq,Lx.bs_list,Lx.bs_list]
  cases q0:am == bm with
  | false=>
    rw[q0] at hbs
    have HR2:Hid (R=false):=Lh (by rw [hR];exact decide_eq_false fun e=>by rw [e.1] at q0;simp at q0)
    clear hR
    go_enter Tryz.func105,Tryz.ntmps105
    go_wp2_with fail
    try rw [←hW]
    go_ret
    exact ⟨ret_bool HR2.out.symm,HB0.out⟩
  | true=>
  rw[q0] at hbs
  cases q1:ac != bc with
  | true=>
    have HR2:Hid (R=false):=Lh (by rw [hR];exact decide_eq_false fun e=>by simp [e.2.1] at q1)
    clear hR
    go_enter Tryz.func105,Tryz.ntmps105
    go_wp2_with fail
    try rw [←hW]
    go_ret
    exact ⟨ret_bool HR2.out.symm,HB0.out⟩
  | false=>
  cases q2:ag != bg with
  | true=>
    have HR2:Hid (R=false):=Lh (by rw [hR];exact decide_eq_false fun e=>by simp [e.2.2.1] at q2)
    clear hR
    go_enter Tryz.func105,Tryz.ntmps105
    go_wp2_with fail
    try rw [←hW]
    go_ret
    exact ⟨ret_bool HR2.out.symm,HB0.out⟩
  | false=>
  by_cases q3:ah=bh
  case neg=>
    have HR2:Hid (R=false):=Lh (by rw [hR];exact decide_eq_false fun e=>q3 e.2.2.2.1)
    clear hR
    cases ah <;> cases bh <;> first
      | exact absurd rfl q3
      | (go_enter Tryz.func105,Tryz.ntmps105
         go_wp2_with fail
         try rw [←hW]
         go_ret
         exact ⟨ret_bool HR2.out.symm,HB0.out⟩)
  subst q3
  cases q4:((n1:Int) != (p1:Int)) with
  | true=>
    have HR2:Hid (R=false):=Lh (by rw [hR];exact decide_eq_false fun e=>by have h1:=Hn1.out;have h2:=Hm1.out;rw[e.2.2.2.2.1] at h1;simp at q4;omega)
    clear hR
    go_enter Tryz.func105,Tryz.ntmps105
    go_wp2_with fail
    try rw [←hW]
    go_ret
    exact ⟨ret_bool HR2.out.symm,HB0.out⟩
  | false=>
  cases q5:((n2:Int) != (p2:Int)) with
  | true=>
    have HR2:Hid (R=false):=Lh (by rw [hR];exact decide_eq_false fun e=>by have h1:=Hn2.out;have h2:=Hm2.out;rw[e.2.2.2.2.2] at h1;simp at q5;omega)
    clear hR
    go_enter Tryz.func105,Tryz.ntmps105
    go_wp2_with fail
    try rw [←hW]
    go_ret
    exact ⟨ret_bool HR2.out.symm,HB0.out⟩
  | false=>
  have hR3:R=decide (an=bn∧af=bf):=by
    have e0:am=bm:=by simpa using q0
    have e1:ac=bc:=by simpa using q1
    have e2:ag=bg:=by simpa using q2
    rw[hR,e0,e1,e2]
    simp
  have HR:=Lh hR3
  obtain rfl:n1=p1:=by have:(n1:Int)=p1:=(by simpa using q4);omega
  obtain rfl:n2=p2:=by have:(n2:Int)=p2:=(by simpa using q5);omega
  clear hR hR3 q4 q5
  go_enter Tryz.func105,Tryz.ntmps105
  go_wp2_with fail
  try rw [←hW]
  clear hW q0 q1 q2 hbs
  have g4:=E0.out.cell 4;have g5:=E0.out.cell 5;have h4:=E1.out.cell 4;have h5:=E1.out.cell 5
  simp at g4 g5 h4 h5
  go_loopg [5] n1 (fun gk v5 wr=>∃ i nn:Nat,v5 = .int .i64 i∧i+gk=n1∧wr=W.drewN nn∧Hid (∀ j,j < i→an[j]?=bn[j]?))
  case atStart=>exact ⟨0,0,rfl,by omega,rfl,Lh (fun j hj=>absurd hj (Nat.not_lt_zero j))⟩
  case round=>
    obtain ⟨i,nn,rfl,hi,rfl,Hag⟩:=hrel
    by_cases hlt:i < n1
    · obtain ⟨x,hx⟩:∃ x,an[i]?=some x:=⟨_,List.getElem?_eq_getElem (by have:=Hn1.out;omega)⟩
      obtain ⟨y,hy⟩:∃ y,bn[i]?=some y:=⟨_,List.getElem?_eq_getElem (by have:=Hm1.out;omega)⟩
      obtain ⟨bx,ox,csx,rfl,_,hpx,hcx⟩:=RA1.out.at_ i x hx
      obtain ⟨by_,oy,csy,rfl,_,hpy,hcy⟩:=RB1.out.at_ i y hy
      obtain rfl:=hpx.1
      obtain rfl:=hpy.1
      have x0:=hcx 0 _ rfl;have y0:=hcy 0 _ rfl
      simp only[Nat.add_zero,Nat.mul_one,strV] at x0 y0
      have Hx:=Lh hx;have Hy:=Lh hy
      clear hcx hcy hx hy
      cases hq:(Lx.bs x).toList == (Lx.bs y).toList with
      | false=>
        have HR2:Hid (R=false):=Lh (by
          rw[HR.out]
          refine decide_eq_false fun e0=>?_
          have hxy:x≠y:=fun e=>by rw [e] at hq;simp at hq
          have h1:=Hx.out
          rw[e0.1,Hy.out] at h1
          injection h1 with h1
          exact hxy h1.symm)
        go_wp2_with fail
        go_quiet (fail)
        go_wp2_with fail
        go_ret
        exact ⟨ret_bool HR2.out.symm,bel_drewN (bel_drewN HB0.out _) _⟩
      | true=>
        have hnx:=sAgree_next Hag.out (by have e:x=y:=(by rw [ByteArray.toList_eq,ByteArray.toList_eq,Lx.bs_list,Lx.bs_list] at hq;simpa using hq);rw[Hx.out,Hy.out,e])
        have Hnx:=Lh hnx
        clear hnx
        go_wp2_with fail
        go_quiet (fail)
        go_wp2_with fail
        go_roundg (gk - 1)
        all_goals first
          | omega
          | exact ⟨i+1,_,by go_num,by omega,(by first | rfl | exact World.drewN_drewN _ _ _),Lh Hnx.out⟩
    · obtain rfl:i=n1:=by omega
      have hall:an=bn:=sAgree_all Hag.out Hn1.out Hm1.out
      have hR1:=HR.out
      rw[hall] at hR1
      simp only[true_and] at hR1
      clear HR
      have HR:=Lh hR1
      clear hR1 hall Hag hi hlt
      go_wp2_with fail
      go_loopg [6] n2 (fun gk v6 wr=>∃ i nn:Nat,v6 = .int .i64 i∧i+gk=n2∧wr=W.drewN nn∧Hid (∀ j,j < i→af[j]?=bf[j]?))
      case atStart=>exact ⟨0,nn,rfl,by omega,rfl,Lh (fun j hj=>absurd hj (Nat.not_lt_zero j))⟩
      case round=>
        obtain ⟨i,nn,rfl,hi,rfl,Hag⟩:=hrel
        by_cases hlt:i < n2
        · obtain ⟨x,hx⟩:∃ x,af[i]?=some x:=⟨_,List.getElem?_eq_getElem (by have:=Hn2.out;omega)⟩
          obtain ⟨y,hy⟩:∃ y,bf[i]?=some y:=⟨_,List.getElem?_eq_getElem (by have:=Hm2.out;omega)⟩
          obtain ⟨bx,ox,csx,rfl,_,hpx,hcx⟩:=RA2.out.at_ i x hx
          obtain ⟨by_,oy,csy,rfl,_,hpy,hcy⟩:=RB2.out.at_ i y hy
          obtain rfl:=hpx
          obtain rfl:=hpy
          have x0:=hcx 0 _ rfl;have y0:=hcy 0 _ rfl
          simp only[Nat.add_zero,Nat.mul_one,intV] at x0 y0
          have Hx:=Lh hx;have Hy:=Lh hy
          clear hcx hcy hx hy
          cases hq:x != y with
          | true=>
            have HR2:Hid (R=false):=Lh (by
              rw[HR.out]
              refine decide_eq_false fun e0=>?_
              have hxy:x≠y:=fun e=>by simp [e] at hq
              have h1:=Hx.out
              rw[e0,Hy.out] at h1
              injection h1 with h1
              exact hxy h1.symm)
            go_wp2_with fail
            go_quiet (fail)
            go_wp2_with fail
            go_ret
            exact ⟨ret_bool HR2.out.symm,bel_drewN (bel_drewN HB0.out _) _⟩
          | false=>
            have hnx:=sAgree_next Hag.out (by have e:x=y:=(by simpa using hq);rw[Hx.out,Hy.out,e])
            have Hnx:=Lh hnx
            clear hnx
            go_wp2_with fail
            go_quiet (fail)
            go_wp2_with fail
            go_roundg (gk - 1)
            all_goals first
              | omega
              | exact ⟨i+1,_,by go_num,by omega,(by first | rfl | exact World.drewN_drewN _ _ _),Lh Hnx.out⟩
        · obtain rfl:i=n2:=by omega
          have hall:af=bf:=sAgree_all Hag.out Hn2.out Hm2.out
          have HR2:Hid (R=true):=Lh (by rw [HR.out,hall];simp)
          go_wp2_with fail
          go_ret
          exact ⟨ret_bool HR2.out.symm,bel_drewN HB0.out _⟩
end Go.Proofs.YtjonaidancomgaaGreatDoor

namespace Go.Proofs.YtjonaidancomgaaGreatDoor
open Go.RowKit

theorem sNeqRat (x y:Sx.Ratio) (w:World):(binOp .neq 75 (.agg #[.int .i64 x.num,.int .i64 x.den]) (.agg #[.int .i64 y.num,.int .i64 y.den])).run Tryz.prog w = .ok (.bool (!(x.num == y.num && x.den == y.den))) w:=by
 have h:=sEqRat 9998 w x y
 have h2:(Op.equal 75 (.agg #[.int .i64 x.num,.int .i64 x.den]) (.agg #[.int .i64 y.num,.int .i64 y.den])).run Tryz.prog w = .ok (x.num == y.num && x.den == y.den) w:=h
 simp only[binOp]
 simp[h2]
set_option maxRecDepth 20000 in
set_option maxHeartbeats 8000000 in
theorem rSameProg (a b:Sx.Prog) (w:World) (ca cb:List Value) (ha:ProgAt w (Old w) a ca) (hb:ProgAt w (Old w) b cb) :
  Calls Tryz.prog 42 #[.agg ca.toArray,.agg cb.toArray] w (BoolPost (decide (a=b)) w):=by
 obtain ⟨am,ao,au,ae,⟨an,ad⟩,aq⟩:=a
 obtain ⟨bm,bo,bu,be,⟨bn,bd⟩,bq⟩:=b
 obtain ⟨A,c,rfl,-,a1⟩:=ha
 obtain ⟨B,c2,rfl,-,b1⟩:=hb
 obtain ⟨R,hR⟩:∃ R,R=decide ((⟨am,ao,au,ae,⟨an,ad⟩,aq⟩:Sx.Prog)=⟨bm,bo,bu,be,⟨bn,bd⟩,bq⟩):=⟨_,rfl⟩
 rw[←hR]
 simp only[Sx.Prog.mk.injEq,Sx.Ratio.mk.injEq] at hR
 have z1:=a1.len;have y1:=b1.len
 simp only[intV,strV]
 simp only at z1 y1
 obtain ⟨m,hm⟩:∃ k,k=aq.length:=⟨_,rfl⟩
 obtain ⟨m2,hm2⟩:∃ k,k=bq.length:=⟨_,rfl⟩
 rw[←hm] at z1
 rw[←hm2] at y1
 rw[←hm,←hm2]
 obtain ⟨W,hW⟩:∃ W,W=(w.alloc (.cells #[.string (Lx.bs am),.int .i64 ao,.int .i64 au,.int .i64 ae,.int .i64 an,.int .i64 ad,.slice A m c] 78)).alloc (.cells #[.string (Lx.bs bm),.int .i64 bo,.int .i64 bu,.int .i64 be,.int .i64 bn,.int .i64 bd,.slice B m2 c2] 78):=⟨_,rfl⟩
 have hb0:Below w.heap.size w W:=by rw [hW];exact ((Below.refl _ _).alloc (Nat.le_refl _) _).alloc (by simp) _
 have e0:Blk W w.heap.size 78 #[.string (Lx.bs am),.int .i64 ao,.int .i64 au,.int .i64 ae,.int .i64 an,.int .i64 ad,.slice A m c]:=by rw [hW];exact (Blk.new _ _ _).alloc _
 have e1:Blk W (w.heap.size+1) 78 #[.string (Lx.bs bm),.int .i64 bo,.int .i64 bu,.int .i64 be,.int .i64 bn,.int .i64 bd,.slice B m2 c2]:=by rw [hW];exact Blk.new_at _ _ (by simp)
 have RA:=Lh a1;have RB:=Lh b1
 have HB0:=Lh hb0
 have Hm:=Lh hm;have Hm2:=Lh hm2
 have HE0:=Lh e0;have HE1:=Lh e1
 have hWs:=hb0.size
 clear e0 e1 hb0 a1 b1 hm hm2
 have hbs:((Lx.bs am).toList == (Lx.bs bm).toList)=(am == bm):=by rw [ByteArray.toList_eq,ByteArray.toList_eq,Lx.bs_list,Lx.bs_list]
 have hrt:=sNeqRat ⟨an,ad⟩ ⟨bn,bd⟩
 simp only at hrt
 cases q0:am == bm with
 | false=>
  have HR2:Hid (R=false):=Lh (by rw [hR];exact decide_eq_false fun e=>by rw [e.1] at q0;simp at q0)
  rw[q0] at hbs
  clear hR
  go_enter Tryz.func42,Tryz.ntmps42
  go_wp2_with fail
  try rw [←hW]
  go_ret
  exact ⟨ret_bool HR2.out.symm,HB0.out⟩
 | true=>
 rw[q0] at hbs
 cases q1:ao != bo with
 | true=>
  have HR2:Hid (R=false):=Lh (by rw [hR];exact decide_eq_false fun e=>by simp [e.2.1] at q1)
  clear hR
  go_enter Tryz.func42,Tryz.ntmps42
  go_wp2_with fail
  try rw [←hW]
  go_ret
  exact ⟨ret_bool HR2.out.symm,HB0.out⟩
 | false=>
 cases q2:au != bu with
 | true=>
  have HR2:Hid (R=false):=Lh (by rw [hR];exact decide_eq_false fun e=>by simp [e.2.2.1] at q2)
  clear hR
  go_enter Tryz.func42,Tryz.ntmps42
  go_wp2_with fail
  try rw [←hW]
  go_ret
  exact ⟨ret_bool HR2.out.symm,HB0.out⟩
 | false=>
 cases q3:ae != be with
 | true=>
  have HR2:Hid (R=false):=Lh (by rw [hR];exact decide_eq_false fun e=>by simp [e.2.2.2.1] at q3)
  clear hR
  go_enter Tryz.func42,Tryz.ntmps42
  go_wp2_with fail
  try rw [←hW]
  go_ret
  exact ⟨ret_bool HR2.out.symm,HB0.out⟩
 | false=>
 cases q4:(an == bn && ad == bd) with
 | false=>
  have HR2:Hid (R=false):=Lh (by rw [hR];exact decide_eq_false fun e=>by simp [e.2.2.2.2.1.1,e.2.2.2.2.1.2] at q4)
  rw[q4] at hrt
  clear hR
  go_enter Tryz.func42,Tryz.ntmps42
  go_wp2_with fail
  try rw [←hW]
  go_ret
  exact ⟨ret_bool HR2.out.symm,HB0.out⟩
 | true=>
 rw[q4] at hrt
 cases q5:((m:Int) != (m2:Int)) with
 | true=>
  have HR2:Hid (R=false):=Lh (by rw [hR];exact decide_eq_false fun e=>by have h1:=Hm.out;have h2:=Hm2.out;rw[e.2.2.2.2.2] at h1;simp at q5;omega)
  clear hR
  go_enter Tryz.func42,Tryz.ntmps42
  go_wp2_with fail
  try rw [←hW]
  go_ret
  exact ⟨ret_bool HR2.out.symm,HB0.out⟩
 | false=>
 obtain rfl:m=m2:=by have:(m:Int)=m2:=(by simpa using q5);omega
 have hR3:R=decide (aq=bq):=by
  have e0:am=bm:=by simpa using q0
  have e1:ao=bo:=by simpa using q1
  have e2:au=bu:=by simpa using q2
  have e3:ae=be:=by simpa using q3
  have e4:an=bn∧ad=bd:=by simpa using q4
  rw[hR,e0,e1,e2,e3,e4.1,e4.2]
  simp
 have HR:=Lh hR3
 clear hR hR3 q5
 go_enter Tryz.func42,Tryz.ntmps42
 go_wp2_with fail
 try rw [←hW]
 clear hW q0 q1 q2 q3 q4 hbs hrt
 go_loopg [5] m (fun gk v5 wr=>∃ i:Nat,v5 = .int .i64 i∧i+gk=m∧Hid (Below W.heap.size W wr)∧Hid (∀ j,j < i→aq[j]?=bq[j]?))
 case atStart=>exact ⟨0,rfl,by omega,Lh (Below.refl _ _),Lh (fun j hj=>absurd hj (Nat.not_lt_zero j))⟩
 case round=>
  obtain ⟨i,rfl,hi,Hb,Hag⟩:=hrel
  have Bl:=Lh (HB0.out.trans (Hb.out.mono HB0.out.size))
  have g0:=HE0.out.below Hb.out HE0.out.lt
  have g1:=HE1.out.below Hb.out HE1.out.lt
  have g6:=g0.cell 6;have h6:=g1.cell 6
  simp at g6 h6
  clear g0 g1
  by_cases hlt:i < m
  ·obtain ⟨x,hx⟩:∃ x,aq[i]?=some x:=⟨_,List.getElem?_eq_getElem (by have:=Hm.out;omega)⟩
   obtain ⟨y,hy⟩:∃ y,bq[i]?=some y:=⟨_,List.getElem?_eq_getElem (by have:=Hm2.out;omega)⟩
   have Hx:=Lh hx;have Hy:=Lh hy
   obtain ⟨bk,ok,csk,rfl,hSk,hrk,hck⟩:=RA.out.at_ i x hx
   have hrk':=ReqAt.keep (fun b hb1=>(⟨Nat.lt_of_lt_of_le hb1 Bl.out.size,fun i=>Bl.out.cell (p:=⟨b,i,none⟩) hb1⟩:Old wr b∧∀ i,wr.cell? ⟨b,i,none⟩=w.cell? ⟨b,i,none⟩)) hrk
   obtain ⟨kA,ki,kB,kj,rfl,-,-,-⟩:=hrk
   have k0:=(Bl.out.cell (p:=⟨bk,_,none⟩) hSk).trans (hck 0 _ rfl)
   have k1:=(Bl.out.cell (p:=⟨bk,_,none⟩) hSk).trans (hck 1 _ rfl)
   have k2:=(Bl.out.cell (p:=⟨bk,_,none⟩) hSk).trans (hck 2 _ rfl)
   have k3:=(Bl.out.cell (p:=⟨bk,_,none⟩) hSk).trans (hck 3 _ rfl)
   have k4:=(Bl.out.cell (p:=⟨bk,_,none⟩) hSk).trans (hck 4 _ rfl)
   have k5:=(Bl.out.cell (p:=⟨bk,_,none⟩) hSk).trans (hck 5 _ rfl)
   simp only[Nat.add_zero,intV,strV] at k0 k1 k2 k3 k4 k5 hrk'
   obtain ⟨bl,ol,csl,rfl,hSl,hrl,hcl⟩:=RB.out.at_ i y hy
   have hrl':=ReqAt.keep (fun b hb1=>(⟨Nat.lt_of_lt_of_le hb1 Bl.out.size,fun i=>Bl.out.cell (p:=⟨b,i,none⟩) hb1⟩:Old wr b∧∀ i,wr.cell? ⟨b,i,none⟩=w.cell? ⟨b,i,none⟩)) hrl
   obtain ⟨lA,li,lB,lj,rfl,-,-,-⟩:=hrl
   have l0:=(Bl.out.cell (p:=⟨bl,_,none⟩) hSl).trans (hcl 0 _ rfl)
   have l1:=(Bl.out.cell (p:=⟨bl,_,none⟩) hSl).trans (hcl 1 _ rfl)
   have l2:=(Bl.out.cell (p:=⟨bl,_,none⟩) hSl).trans (hcl 2 _ rfl)
   have l3:=(Bl.out.cell (p:=⟨bl,_,none⟩) hSl).trans (hcl 3 _ rfl)
   have l4:=(Bl.out.cell (p:=⟨bl,_,none⟩) hSl).trans (hcl 4 _ rfl)
   have l5:=(Bl.out.cell (p:=⟨bl,_,none⟩) hSl).trans (hcl 5 _ rfl)
   simp only[Nat.add_zero,intV,strV] at l0 l1 l2 l3 l4 l5 hrl'
   have Hcall:=Lh (rSameReq x y wr.drew _ _ (ReqAt.keep (w:=wr) (w':=wr.drew) (S:=Old wr) (S':=Old wr.drew) (fun b hb1=>⟨hb1,fun _=>rfl⟩) hrk') (ReqAt.keep (w:=wr) (w':=wr.drew) (S:=Old wr) (S':=Old wr.drew) (fun b hb1=>⟨hb1,fun _=>rfl⟩) hrl'))
   clear hrk' hrl' hck hcl hx hy
   cases hq:decide (x=y) with
   | false=>
    rw[hq] at Hcall
    have HR2:Hid (R=false):=Lh (by
     rw[HR.out]
     refine decide_eq_false fun e0=>?_
     have hxy:x≠y:=fun e=>by simp [e] at hq
     have h1:=Hx.out
     rw[e0,Hy.out] at h1
     injection h1 with h1
     exact hxy h1.symm)
    clear hq
    go_wp2_with fail
    go_region_law (go_simp;go_at_call 105;refine Hcall.out.mono ?_;rintro e w5 ⟨rfl,hb5⟩;have Hb5:=Lh hb5;clear hb5)
    all_goals (try go_wp2_with fail)
    all_goals go_ret
    all_goals exact ⟨ret_bool HR2.out.symm,Bl.out.trans (Below.trans (Below.refl _ _).drew (Hb5.out.mono (by have:=Bl.out.size;exact this)))⟩
   | true=>
    rw[hq] at Hcall
    have Hnx:=Lh (sAgree_next Hag.out (by have e:x=y:=(by simpa using hq);rw[Hx.out,Hy.out,e]))
    clear hq
    go_wp2_with fail
    go_region_law (go_simp;go_at_call 105;refine Hcall.out.mono ?_;rintro e w5 ⟨rfl,hb5⟩;have Hb5:=Lh hb5;clear hb5)
    all_goals (try go_wp2_with fail)
    all_goals go_roundg (gk - 1)
    all_goals first
     | omega
     | exact ⟨i+1,by go_num,by omega,Lh (Hb.out.trans (Below.trans (Below.refl _ _).drew (Hb5.out.mono (by have:=Hb.out.size;exact this)))),Lh Hnx.out⟩
  ·obtain rfl:i=m:=by omega
   have hall:aq=bq:=sAgree_all Hag.out Hm.out Hm2.out
   have HR2:Hid (R=true):=Lh (by rw [HR.out,hall];simp)
   clear hall
   go_wp2_with fail
   go_ret
   exact ⟨ret_bool HR2.out.symm,Bl.out⟩
end Go.Proofs.YtjonaidancomgaaGreatDoor
