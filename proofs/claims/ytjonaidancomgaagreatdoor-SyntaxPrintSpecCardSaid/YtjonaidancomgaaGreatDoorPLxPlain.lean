/- Parts of the proof, joined into one text: WA, Yc, Yd, q1c, Ye. -/
import Derived.WalkKit
import Derived.Lib.Hide
import Derived.Lib.Bytealg
import Derived.Lib.IndexLaws
import Derived.Lib.ItoaNum
import Derived.Lib.AtoiAll
namespace Go.Proofs.YtjonaidancomgaaGreatDoor
theorem aj {a b:Bool} (h:a=b):Ending.returned (.bool a) = .returned (.bool b):=by rw [h]
theorem bU {k:IntKind} {a b:Int} (h:a=b):Ending.returned (.int k a) = .returned (.int k b):=by rw [h]
end Go.Proofs.YtjonaidancomgaaGreatDoor
namespace Go.Proofs.YtjonaidancomgaaGreatDoor.Lx
def letter (c:UInt8):Bool:=(97≤c && c≤122) || (65≤c && c≤90)
def figure (c:UInt8):Bool:=48≤c && c≤57
def space (c:UInt8):Bool:=c == 32 || c == 9 || c == 10 || c == 13
def signs:List UInt8:=[123,125,40,41,59,44,61,35,47,60,33,45,46]
def sign (c:UInt8):Bool:=signs.contains c
def part (c:UInt8):Bool:=letter c || figure c || c == 95
theorem Qc (c d:UInt8):(c == d)=decide ((c.toNat:Int)=d.toNat):=by
 rw[Bool.eq_iff_iff];simp[←UInt8.toNat_inj];omega
theorem nG (c:UInt8):letter c=(decide (97≤(c.toNat:Int)) && decide ((c.toNat:Int)≤122) || decide (65≤(c.toNat:Int)) && decide ((c.toNat:Int)≤90)):=by
 rw[Bool.eq_iff_iff];simp[letter,UInt8.le_iff_toNat_le];omega
theorem jv (c:UInt8):figure c=(decide (48≤(c.toNat:Int)) && decide ((c.toNat:Int)≤57)):=by
 rw[Bool.eq_iff_iff];simp[figure,UInt8.le_iff_toNat_le];omega
theorem p8 (c:UInt8):space c=(decide ((c.toNat:Int)=32) || decide ((c.toNat:Int)=9) || decide ((c.toNat:Int)=10) || decide ((c.toNat:Int)=13)):=by
 unfold space;rw[Qc,Qc,Qc,Qc];rfl
theorem JJ (c:UInt8):part c=(letter c || figure c || decide ((c.toNat:Int)=95)):=by
 unfold part;rw[Qc];rfl
def cls (c:UInt8):Int:=if letter c then 2 else if figure c then 3 else if c == 95 then 5 else if space c then 1 else if sign c then 4 else 0
theorem GR (l:List UInt8) (c:UInt8):l.contains c=decide (0≤Lib.indexByte l c):=by
 rw[Bool.eq_iff_iff];simp only[List.contains_iff_mem,decide_eq_true_eq];have hge:=Lib.indexByte_ge l c;constructor
 ·intro h
  rcases Int.lt_or_le (Lib.indexByte l c) 0 with h0 | h0
  ·obtain ⟨k,hk⟩:=List.mem_iff_getElem?.1 h;exact absurd hk (Lib.indexByte_none (by omega) k)
  ·exact h0
 ·intro h;obtain ⟨o,ho⟩:=Int.eq_ofNat_of_zero_le h;exact List.mem_of_getElem? (Lib.indexByte_some ho).1
theorem Qk (c:UInt8):cls c=if (97≤(c.toNat:Int)∧(c.toNat:Int)≤122)∨(65≤(c.toNat:Int)∧(c.toNat:Int)≤90) then 2 else if 48≤(c.toNat:Int)∧(c.toNat:Int)≤57 then 3 else if (c.toNat:Int)=95 then 5
  else if (c.toNat:Int)=32∨(c.toNat:Int)=9∨(c.toNat:Int)=10∨(c.toNat:Int)=13 then 1 else if 0≤Lib.indexByte [123,125,40,41,59,44,61,35,47,60,33,45,46] c then 4 else 0:=by
 unfold cls sign;rw[nG,jv,p8,GR,Qc];simp only[Bool.or_eq_true,Bool.and_eq_true,decide_eq_true_eq,or_assoc];rfl
def GU:ByteArray:=⟨#[123,125,40,41,59,44,61,35,47,60,33,45,46]⟩
theorem JK (k:Nat) (c:UInt8) (h:k < GU.size) (e:(((GU[k]'h).toNat:Int) == (c.toNat:Int))=true):sign c=true:=by
 have hk:k < signs.length:=h;have e1:GU[k]'h=signs[k]:=rfl;rw[e1] at e;have e2:signs[k]=c:=UInt8.toNat_inj.1 (by have:=eq_of_beq e;omega);unfold sign;rw[←e2];simp
theorem GV (k:Nat) (c:UInt8) (h:k < GU.size) (h0:(signs.take k).contains c=false) (e:(((GU[k]'h).toNat:Int) == (c.toNat:Int))=false):(signs.take (k+1)).contains c=false:=by
 have hk:k < signs.length:=h;have e1:GU[k]'h=signs[k]:=rfl;rw[e1] at e;have e2:¬ signs[k]=c:=fun h=>by rw [h] at e;simp at e
 rw[List.take_succ_eq_append_getElem hk];simp only[List.contains_eq_mem,decide_eq_false_iff_not,List.mem_append,List.mem_singleton] at h0 ⊢;rintro (h | h)
 ·exact h0 h
 ·exact e2 h.symm
def isName (s:List UInt8):Bool:=match s with | []=>false | c::_=>decide (s.length≤32) && letter c && s.all part
theorem wT (s:ByteArray) (k:Nat) (h:k < s.size):s.data.toList[k]'(by simpa using h)=s[k]:=rfl
theorem bX (s:ByteArray):s.data.toList.length=s.size:=by simp
theorem take_snoc (s:ByteArray) (k:Nat) (h:k < s.size):s.data.toList.take (k+1)=s.data.toList.take k++[s[k]]:=by
 rw[List.take_succ_eq_append_getElem (by simpa using h)];rfl
theorem qw (s:ByteArray) (h:0 < s.size):isName s.data.toList=(decide (s.size≤32) && letter s[0] && s.data.toList.all part):=by
 have hl:=bX s;have h0:=wT s 0 h;cases hs:s.data.toList with
 | nil=>rw [hs] at hl;simp at hl;omega
 | cons c r=>
  rw[hs] at hl;have:c=s[0]:=by rw [←h0];simp[hs]
  subst this;simp only[isName,hl]
theorem uK (s:ByteArray) (h:s.size < 1):isName s.data.toList=false:=by
 have hl:=bX s;have:s.data.toList = []:=List.eq_nil_of_length_eq_zero (by omega);rw[this];rfl
theorem uL (s:ByteArray) (h:32 < s.size):isName s.data.toList=false:=by
 rw[qw s (by omega),decide_eq_false (by omega)];rfl
theorem uM (s:ByteArray) (h:0 < s.size) (h1:letter s[0]=false):isName s.data.toList=false:=by
 rw[qw s h,h1];simp
theorem wW (s:ByteArray) (k:Nat) (h:k < s.size) (h1:part s[k]=false):isName s.data.toList=false:=by
 rw[qw s (by omega)];have:s.data.toList.all part=false:=by
  rw[List.all_eq_false];exact ⟨s[k],by rw [←wT s k h];exact List.getElem_mem _,by simp [h1]⟩
 rw[this,Bool.and_false]
theorem ze (s:ByteArray) (h:0 < s.size) (h1:s.size≤32) (h2:letter s[0]=true) (h3:s.data.toList.all part=true):isName s.data.toList=true:=by
 rw[qw s h,h2,h3,decide_eq_true h1];rfl
theorem sG (s:ByteArray) (k:Nat) (h:k < s.size) (h0:(s.data.toList.take k).all part=true) (h1:part s[k]=true):(s.data.toList.take (k+1)).all part=true:=by
 rw[take_snoc s k h,List.all_append,h0];simp[h1]
theorem Fx (s:ByteArray) (h0:(s.data.toList.take s.size).all part=true):s.data.toList.all part=true:=by
 rwa [List.take_of_length_le (by simp)] at h0
theorem wO (c:UInt8):part c=(decide (cls c=2) || decide (cls c=3) || decide (cls c=5)):=by
 unfold cls part;cases letter c <;> cases figure c <;> cases hu:c == 95 <;> cases space c <;> cases sign c <;> rfl
theorem wX (c:UInt8):letter c=decide (cls c=2):=by
 unfold cls;cases letter c <;> cases figure c <;> cases hu:c == 95 <;> cases space c <;> cases sign c <;> rfl
structure Tok where
 kind:Int
 text:List UInt8
 n:Int
 pos:Int
 deriving DecidableEq
def Tok.cells (t:Tok):List Value:=[.int .i64 t.kind,.string ⟨t.text.toArray⟩,.int .i64 t.n,.int .i64 t.pos]
def dD (acc:Nat) (l:List UInt8):Nat:=l.foldl (fun a c=>10*a+(c.toNat - 48)) acc
def big:Nat:=1099511627776
def number (t:List UInt8):Option Nat:=if dD 0 t≤big∧(t.length=1∨t.head?≠some 48) then some (dD 0 t) else none
inductive Step where
 | skip (k:Nat)
 | tok (t:Tok) (k:Nat)
 | err
def step (c:UInt8) (r:List UInt8):Step:=
 if space c then .skip 1
 else if c == 47 && r.head? == some 47 then .skip ((c::r).takeWhile (· != 10)).length
 else if letter c then
  let t:=(c::r).takeWhile part
  if isName t then .tok ⟨1,t,0,0⟩ t.length else .err
 else if figure c then
  let t:=(c::r).takeWhile figure
  match number t with
  | some n=>.tok ⟨2,[],n,0⟩ t.length
  | none=>.err
 else if sign c then .tok ⟨3,[c],0,0⟩ 1
 else .err
inductive yD where
 | ok (l:List Tok)
 | err (pos:Nat)
 deriving DecidableEq
def yD.cons (t:Tok):yD→yD
 | .ok l=>.ok (t::l)
 | .err p=>.err p
def yD.app (a:List Tok):yD→yD
 | .ok l=>.ok (a++l)
 | .err p=>.err p
def oM:Nat→List UInt8→Nat→yD
 | _,[],_=>.ok []
 | 0,_::_,_=>.ok []
 | f+1,c::r,p=>match step c r with
  | .skip k=>oM f ((c::r).drop k) (p+k)
  | .tok t k=>(oM f ((c::r).drop k) (p+k)).cons { t with pos:=p }
  | .err=>.err p
def gu (l:List UInt8) (p:Nat):yD:=oM l.length l p
def lex (l:List UInt8):yD:=gu l 0
theorem mM {p:UInt8→Bool} {c:UInt8} {r:List UInt8} (h:p c=true):1≤((c::r).takeWhile p).length:=by
 simp[h]
theorem oK {c:UInt8} (h:letter c=true):part c=true:=by simp [part,h]
theorem mJ {c:UInt8} {r:List UInt8} {k:Nat} (h:step c r = .skip k):1≤k:=by
 unfold step at h
 split at h
 ·injection h with h;omega
 ·split at h
  ·rename_i h2;injection h with h;subst h;refine mM ?_;simp only[Bool.and_eq_true,beq_iff_eq] at h2;rw[h2.1];rfl
  ·split at h
   ·simp only at h;split at h <;> cases h
   ·split at h
    ·simp only at h;split at h <;> cases h
    ·split at h <;> cases h
theorem nJ {c:UInt8} {r:List UInt8} {t:Tok} {k:Nat} (h:step c r = .tok t k):1≤k:=by
 unfold step at h
 split at h
 ·cases h
 ·split at h
  ·cases h
  ·split at h
   ·rename_i h3;simp only at h
    split at h
    ·injection h with _ h;subst h;exact mM (oK h3)
    ·cases h
   ·split at h
    ·rename_i h4;simp only at h
     split at h
     ·injection h with _ h;subst h;exact mM h4
     ·cases h
    ·split at h
     ·injection h with _ h;omega
     ·cases h
theorem zf:∀ (f g:Nat) (l:List UInt8) (p:Nat),l.length≤f→l.length≤g→oM f l p=oM g l p:=by
 intro f
 induction f with
 | zero=>
  intro g l p hf _;have:l = []:=List.eq_nil_of_length_eq_zero (by omega);subst this;cases g <;> rfl
 | succ f ih=>
  intro g l p hf hg
  match l,g with
  | [],0=>rfl
  | [],_+1=>rfl
  | c::r,0=>simp at hg
  | c::r,g+1=>
   simp only[oM];simp only[List.length_cons] at hf hg;cases hs:step c r with
   | skip k=>
    have:=mJ hs;exact ih g _ _ (by simp only [List.length_drop,List.length_cons];omega) (by simp only [List.length_drop,List.length_cons];omega)
   | tok t k=>
    have:=nJ hs;simp only;rw[ih g _ _ (by simp only [List.length_drop,List.length_cons];omega) (by simp only [List.length_drop,List.length_cons];omega)]
   | err=>rfl
theorem za (p:Nat):gu [] p = .ok []:=rfl
theorem nK (c:UInt8) (r:List UInt8) (p:Nat):gu (c::r) p=match step c r with
  | .skip k=>gu ((c::r).drop k) (p+k)
  | .tok t k=>(gu ((c::r).drop k) (p+k)).cons { t with pos:=p }
  | .err=>.err p:=by
 unfold gu;simp only[List.length_cons,oM];cases hs:step c r with
 | skip k=>
  have:=mJ hs;exact zf _ _ _ _ (by simp only [List.length_drop,List.length_cons];omega) (Nat.le_refl _)
 | tok t k=>
  have:=nJ hs;simp only;rw[zf _ _ _ _ (by simp only [List.length_drop,List.length_cons];omega) (Nat.le_refl _)]
 | err=>rfl
theorem yD.JL (a:List Tok) (t:Tok) (r:yD):(r.cons t).app a=r.app (a++[t]):=by cases r <;> simp [yD.cons,yD.app]
theorem yD.MI (r:yD):r.app []=r:=by cases r <;> simp [yD.app]
def valid (t:Tok):Bool:=
 if t.kind=1 then isName t.text && decide (t.n=0)
 else if t.kind=2 then t.text.isEmpty && decide (0≤t.n) && decide (t.n≤1099511627776)
 else if t.kind=3 then (match t.text with | [c]=>sign c | _=>false) && decide (t.n=0)
 else false
def Tok.out (t:Tok):List UInt8:=if t.kind=2 then Lib.decDigits t.n.toNat else t.text
def dB:List (List UInt8)→List UInt8
 | []=>[]
 | [x]=>x
 | x::y::r=>x++32::dB (y::r)
def text (l:List Tok):Option (List UInt8):=if l.all valid then some (dB (l.map Tok.out)) else none
def Fy (a b:Tok):Bool:=a.kind == b.kind && a.text == b.text && a.n == b.n
def same:List Tok→List Tok→Bool
 | [],[]=>true
 | a::r,b::s=>Fy a b && same r s
 | _,_=>false
end Go.Proofs.YtjonaidancomgaaGreatDoor.Lx
namespace Go.Proofs.YtjonaidancomgaaGreatDoor.Sx
open Lx (Tok)
inductive Rule where
  | mk (op course:Int) (name:List UInt8) (n d:Int) (kids:List Rule)
structure bL where
  num:Int
  den:Int
  deriving DecidableEq
structure Course where
  name:List UInt8
  number:Int
  aU:Int
  rep:Int
  need:Rule
  bar:Rule
structure Pair where
  a:List UInt8
  b:List UInt8
  x:Int
  y:Int
  deriving DecidableEq
structure iK where
  name:List UInt8
  aU:Int
  gX:Int
  home:Bool
  names:List (List UInt8)
  froms:List Int
  deriving DecidableEq
structure Prog where
  name:List UInt8
  number:Int
  uses:Int
  gD:Int
  mean:bL
  reqs:List iK
  deriving DecidableEq
structure Cls where
  name:List UInt8
  gD:Int
  mean:bL
  deriving DecidableEq
structure tL where
  name:List UInt8
  aU:Int
  deriving DecidableEq
structure Clause where
  kind:Int
  gH:Int
  action:Int
  BD:Int
  deriving DecidableEq
structure dh where
  courses:List Course
  same:List Pair
  aS:List Prog
  classes:List Cls
  bZ:List tL
  aJ:List Cls
  clauses:List Clause
def dh.none:dh:=⟨[],[],[],[],[],[],[]⟩
def Rule.zero:Rule:=.mk 0 0 [] 0 0 []
inductive R (α : Type) where
  | ok (a:α) (l:List Tok)
  | bad (pos:Int) (e:Int)
def R.bind {α β:Type} (r:R α) (f:α→List Tok→R β):R β:=match r with | .ok a l=>f a l | .bad p e=>.bad p e
def Ed:List UInt8:=[97,108,108]
def BZ:List UInt8:=[97,110,121]
def rz:List UInt8:=[108,101,97,115,116]
def JM:List UInt8:=[110,111,116]
def Ca:List UInt8:=[112,97,115,115]
def wY:List UInt8:=[116,114,105,101,115]
def gY:List UInt8:=[101,97,114,110]
def fD:List UInt8:=[109,101,97,110]
def Cb:List UInt8:=[119,105,116,104]
def je:List UInt8:=[110,101,101,100]
def lN:List UInt8:=[98,97,114]
def UG:List UInt8:=[98,101,115,116]
def Cc:List UInt8:=[108,97,115,116]
def Ce:List UInt8:=[101,97,99,104]
def ku:List UInt8:=[102,114,111,109]
def vX:List UInt8:=[97,116]
def dV:List UInt8:=[104,111,109,101]
def jL:List UInt8:=[117,115,101,115]
def iE:List UInt8:=[116,97,107,101]
def nL:List UInt8:=[117,110,116,105,108]
def fJ:List UInt8:=[99,111,117,114,115,101]
def oh:List UInt8:=[115,97,109,101]
def bR:List UInt8:=[112,114,111,103,114,97,109,109,101]
def dM:List UInt8:=[99,108,97,115,115]
def cK:List UInt8:=[104,111,110,111,117,114]
def vG:List UInt8:=[102,101,101]
def om:List UInt8:=[119,104,101,110]
def Ql:List UInt8:=[97,100,109,105,116]
def MQ:List UInt8:=[100,101,103,114,101,101]
def wUp:List UInt8:=[117,112]
def UH:List UInt8:=[100,111,119,110]
def UJ:List UInt8:=[107,101,101,112]
def MR:List UInt8:=[114,101,111,112,101,110]
def JN:List UInt8:=[114,101,118,101,114,115,101]
def ruleWords:List (List UInt8):=[Ed,BZ,rz,JM,Ca,wY,gY,fD,Cb]
def kindWords:List (List UInt8):=[Ql,dM,vG,cK,MQ]
def whenWords:List (List UInt8):=[BZ,wUp,UH]
def actionWords:List (List UInt8):=[UJ,MR,JN]
def repeatWords:List (List UInt8):=[UG,Cc,Ce]
section
variable (last : Int)
def front (l:List Tok):Int:=match l with | t::_=>t.pos | []=>last
def fail {α:Type} (l:List Tok) (e:Int):R α:=.bad (front last l) e
def hit (k:Int) (x:List UInt8) (l:List Tok):Bool:=match l with | t::_=>t.kind == k && t.text == x | []=>false
def need (k:Int) (x:List UInt8) (l:List Tok):R Unit:=if hit k x l then .ok () l.tail else fail last l 100
def word (x:List UInt8) (l:List Tok):R Unit:=need last 1 x l
def sign (c:UInt8) (l:List Tok):R Unit:=need last 3 [c] l
def name (l:List Tok):R (List UInt8):=match l with
  | t::r=>if t.kind=1 then .ok t.text r else fail last l 100
  | []=>fail last l 100
def number (lo hi:Int) (l:List Tok):R Int:=match l with
  | t::r=>if t.kind=2∧lo≤t.n∧t.n≤hi then .ok t.n r else fail last l 100
  | []=>fail last l 100
def lowest (n d:Int):bL:=⟨n / (Int.gcd n d:Nat),d / (Int.gcd n d:Nat)⟩
def ratio (l:List Tok):R bL:=
  (number last 0 12000 l).bind fun n l=>(sign last 47 l).bind fun _ l=>(number last (max 1 ((n+11) / 12)) 1000 l).bind fun d l=>.ok (lowest n d) l
def ref (l:List Tok):R (List UInt8 × Int):=
  if hit 3 [35] l then (number last 0 4095 l.tail).bind fun n l=>.ok ([],n) l
  else (name last l).bind fun s l=>.ok (s,0) l
def find (ws:List (List UInt8)) (l:List Tok):Option Nat:=ws.findIdx? fun w=>hit 1 w l
def oneOf (ws:List (List UInt8)) (l:List Tok):R Int:=match find ws l with
  | some i=>.ok i l.tail
  | none=>fail last l 100
def kids (f:Nat→List Tok→R Rule):Nat→List Rule→List Tok→R (List Rule)
  | 0,ks,l=>.ok ks l
  | fuel+1,ks,l=>if hit 3 [125] l then .ok ks l.tail
    else (f ks.length l).bind fun k l=>(sign last 59 l).bind fun _ l=>kids f fuel (ks++[k]) l
def cB (f:Nat→List Tok→R Rule) (op:Int) (l:List Tok):R Rule:=
  if op=4 then (f 0 l).bind fun k l=>.ok (.mk 4 0 [] 0 0 [k]) l
  else if op=5 then (ref last l).bind fun s l=>(number last 0 12 l).bind fun n l=>.ok (.mk 5 s.2 s.1 n 0 []) l
  else if op=6 then (ref last l).bind fun s l=>(number last 1 100 l).bind fun n l=>.ok (.mk 6 s.2 s.1 n 0 []) l
  else if op=7 then (number last 0 10000 l).bind fun n l=>.ok (.mk 7 0 [] n 0 []) l
  else if op=8 then (ratio last l).bind fun x l=>.ok (.mk 8 0 [] x.num x.den []) l
  else if op=9 then (ref last l).bind fun s l=>.ok (.mk 9 s.2 s.1 0 0 []) l
  else if op=3 then (number last 0 200 l).bind fun n l=>(sign last 123 l).bind fun _ l=>(kids last f l.length.succ [] l).bind fun ks l=>.ok (.mk 3 0 [] n 0 ks) l
  else (sign last 123 l).bind fun _ l=>(kids last f l.length.succ [] l).bind fun ks l=>.ok (.mk op 0 [] 0 0 ks) l
def rule:Nat→Nat→List Tok→R Rule
  | 0,_,l=>(oneOf last ruleWords l).bind fun _ _=>fail last l 2
  | k+1,beside,l=>(oneOf last ruleWords l).bind fun i r=>
    if beside=200∨(i+1=4∧k=0) then fail last l 2 else cB last (rule k) (i+1) r
def opt {α:Type} (w:List UInt8) (f:List Tok→R α) (dflt:α) (l:List Tok):R α:=
  if hit 1 w l then (f l.tail).bind fun a l=>(sign last 59 l).bind fun _ l=>.ok a l else .ok dflt l
def course (l:List Tok):R Course:=
  (number last 0 4095 l).bind fun no l=>(name last l).bind fun nm l=>(number last 1 60 l).bind fun cr l=>
  let rp:Int × List Tok:=match find repeatWords l with | some i=>((i:Int),l.tail) | none=>(0,l)
  (sign last 123 rp.2).bind fun _ l=>(opt last je (rule last 16 0) (.mk 1 0 [] 0 0 []) l).bind fun nd l=>
  (opt last lN (rule last 16 0) (.mk 2 0 [] 0 0 []) l).bind fun br l=>(sign last 125 l).bind fun _ l=>.ok ⟨nm,no,cr,rp.1,nd,br⟩ l
def same (l:List Tok):R Pair:=
  (ref last l).bind fun a l=>(sign last 61 l).bind fun _ l=>(ref last l).bind fun b l=>(sign last 59 l).bind fun _ l=>.ok ⟨a.1,b.1,a.2,b.2⟩ l
def refs:Nat→List (List UInt8 × Int)→List Tok→R (List (List UInt8 × Int))
  | 0,rs,l=>.ok rs l
  | f+1,rs,l=>(ref last l).bind fun r l=>if hit 3 [44] l then refs f (rs++[r]) l.tail else .ok (rs++[r]) l
def take (l:List Tok):R iK:=
  (name last l).bind fun nm l=>(number last 1 10000 l).bind fun cr l=>(word last ku l).bind fun _ l=>(refs last l.length.succ [] l).bind fun rs l=>
  (if hit 1 vX l then number last 0 12 l.tail else .ok 1 l).bind fun g l=>
  let hm:Bool × List Tok:=(hit 1 dV l,if hit 1 dV l then l.tail else l)
  (sign last 59 hm.2).bind fun _ l=>.ok ⟨nm,cr,g,hm.1,rs.map (·.1),rs.map (·.2)⟩ l
def takes:Nat→List iK→List Tok→R (List iK)
  | 0,qs,l=>.ok qs l
  | f+1,qs,l=>if hit 1 iE l then (if qs.length=64 then fail last l 2 else (take last l.tail).bind fun q l=>takes f (qs++[q]) l) else .ok qs l
def fE (l:List Tok):R Prog:=
  (number last 0 255 l).bind fun no l=>(name last l).bind fun nm l=>(sign last 123 l).bind fun _ l=>
  (opt last jL (number last 1 4) 1 l).bind fun us l=>(opt last gY (number last 0 10000) 0 l).bind fun ea l=>(opt last fD (ratio last) ⟨0,1⟩ l).bind fun me l=>
  (takes last l.length.succ [] l).bind fun qs l=>(sign last 125 l).bind fun _ l=>.ok ⟨nm,no,us,ea,me,qs⟩ l
def standing (l:List Tok):R Cls:=
  (name last l).bind fun nm l=>(number last 0 10000 l).bind fun ea l=>(word last fD l).bind fun _ l=>(ratio last l).bind fun me l=>(sign last 59 l).bind fun _ l=>.ok ⟨nm,ea,me⟩ l
def Ar (l:List Tok):R tL:=
  (name last l).bind fun nm l=>(number last 0 10000 l).bind fun cr l=>(sign last 59 l).bind fun _ l=>.ok ⟨nm,cr⟩ l
def clause (l:List Tok):R Clause:=
  (oneOf last kindWords l).bind fun k l=>(oneOf last whenWords l).bind fun w l=>(oneOf last actionWords l).bind fun a l=>(word last nL l).bind fun _ l=>
  (number last 0 12 l).bind fun u l=>(sign last 59 l).bind fun _ l=>.ok ⟨k+1,w,a+1,u⟩ l
def define (w:List UInt8) (c:dh) (l:List Tok):Option (R dh):=
  if w=fJ then some ((course last l).bind fun x l=>.ok { c with courses:=c.courses++[x] } l)
  else if w=oh then some ((same last l).bind fun x l=>.ok { c with same:=c.same++[x] } l)
  else if w=bR then some ((fE last l).bind fun x l=>.ok { c with aS:=c.aS++[x] } l)
  else if w=dM then some ((standing last l).bind fun x l=>.ok { c with classes:=c.classes++[x] } l)
  else if w=cK then some ((standing last l).bind fun x l=>.ok { c with aJ:=c.aJ++[x] } l)
  else if w=vG then some ((Ar last l).bind fun x l=>.ok { c with bZ:=c.bZ++[x] } l)
  else if w=om then some ((clause last l).bind fun x l=>.ok { c with clauses:=c.clauses++[x] } l)
  else none
def defs:Nat→dh→List Tok→R dh
  | 0,c,l=>.ok c l
  | f+1,c,l=>match l with
    | []=>.ok c []
    | t::r=>if t.kind=1 then (match define last t.text c r with | some x=>x.bind fun c l=>defs f c l | none=>fail last l 100) else fail last l 100
def cZ (l:List Tok):R dh:=defs last l.length dh.none l
def ended {α:Type} (a:α) (l:List Tok):R α:=match l with | []=>.ok a [] | _::_=>fail last l 100
end
inductive Out (α : Type) where
  | ok (a:α)
  | bad (pos:Int) (e:Int)
def dS {α:Type} (f:Int→List Tok→R α) (src:List UInt8):Out α:=if 65536 < src.length then .bad 0 2 else match Lx.lex src with
  | .err p=>.bad p 90
  | .ok l=>match (f src.length l).bind fun a l=>ended src.length a l with
    | .ok a _=>.ok a
    | .bad p e=>.bad p e
def parse (src:List UInt8):Out dh:=dS cZ src
def tY (src:List UInt8):Out Rule:=dS (fun last l=>rule last 16 0 l) src
def dX (n a b:Int):Bool:=decide (a≤n) && decide (n≤b)
def bL.fine (r:bL):Bool:=decide (1≤r.den) && decide (r.den≤1000) && decide (0≤r.num) && decide (r.num≤12*r.den) && decide (Int.gcd r.num r.den=1)
def bQ (s:List UInt8) (n:Int):Bool:=dX n 0 4095 && (s.isEmpty || Lx.isName s)
mutual
def aO:Nat→Rule→Bool
  | 0,_=>false
  | k+1,.mk op co nm n d ks=>decide (ks.length≤200) && dU k ks &&
    (if op=1∨op=2 then nm.isEmpty && co == 0 && n == 0 && d == 0
     else if op=3 then nm.isEmpty && co == 0 && dX n 0 200 && d == 0
     else if op=4 then nm.isEmpty && co == 0 && n == 0 && d == 0 && ks.length == 1
     else if op=5 then bQ nm co && dX n 0 12 && d == 0 && ks.isEmpty
     else if op=6 then bQ nm co && dX n 1 100 && d == 0 && ks.isEmpty
     else if op=7 then nm.isEmpty && co == 0 && dX n 0 10000 && d == 0 && ks.isEmpty
     else if op=8 then nm.isEmpty && co == 0 && bL.fine ⟨n,d⟩ && ks.isEmpty
     else if op=9 then bQ nm co && n == 0 && d == 0 && ks.isEmpty
     else false)
def dU:Nat→List Rule→Bool
  | _,[]=>true
  | k,r::rs=>aO k r && dU k rs
end
def dw (x:Course):Bool:=dX x.number 0 4095 && Lx.isName x.name && dX x.aU 1 60 && dX x.rep 0 2 && aO 16 x.need && aO 16 x.bar
def gW (x:Pair):Bool:=bQ x.a x.x && bQ x.b x.y
def fG (r:iK):Bool:=Lx.isName r.name && dX r.aU 1 10000 && dX r.gX 0 12 && !r.names.isEmpty && r.names.length == r.froms.length && (r.names.zip r.froms).all fun p=>bQ p.1 p.2
def dW (x:Prog):Bool:=dX x.number 0 255 && Lx.isName x.name && dX x.uses 1 4 && dX x.gD 0 10000 && x.mean.fine && decide (x.reqs.length≤64) && x.reqs.all fG
def fT (x:Cls):Bool:=Lx.isName x.name && dX x.gD 0 10000 && x.mean.fine
def jo (x:tL):Bool:=Lx.isName x.name && dX x.aU 0 10000
def dL (x:Clause):Bool:=dX x.kind 1 5 && dX x.gH 0 2 && dX x.action 1 3 && dX x.BD 0 12
def eX (c:dh):Bool:=c.courses.all dw && c.same.all gW && c.aS.all dW && c.classes.all fT && c.bZ.all jo && c.aJ.all fT && c.clauses.all dL
def av (t:List UInt8):Tok:=⟨1,t,0,0⟩
def aW (n:Int):Tok:=⟨2,[],n,0⟩
def bI (c:UInt8):Tok:=⟨3,[c],0,0⟩
def fO (s:List UInt8) (n:Int):List Tok:=if s.isEmpty then [bI 35,aW n] else [av s]
def bO (r:bL):List Tok:=[aW r.num,bI 47,aW r.den]
mutual
def aF:Rule→List Tok
  | .mk op co nm n d ks=>av (ruleWords.getD (op - 1).toNat []) ::
    (if op=4 then tZ ks
     else if op=5∨op=6 then fO nm co++[aW n]
     else if op=7 then [aW n]
     else if op=8 then bO ⟨n,d⟩
     else if op=9 then fO nm co
     else if op=3 then aW n::bI 123::(bC ks++[bI 125])
     else bI 123::(bC ks++[bI 125]))
def tZ:List Rule→List Tok
  | []=>[]
  | r::_=>aF r
def bC:List Rule→List Tok
  | []=>[]
  | r::rs=>aF r++bI 59::bC rs
end
def Rule.op:Rule→Int | .mk o _ _ _ _ _=>o
def Rule.kids:Rule→List Rule | .mk _ _ _ _ _ k=>k
def bP (x:Course):List Tok:=
  [av fJ,aW x.number,av x.name,aW x.aU]++(if x.rep≠0 then [av (repeatWords.getD x.rep.toNat [])] else [])++[bI 123] ++
  (if x.need.op≠1∨x.need.kids≠[] then av je::(aF x.need++[bI 59]) else []) ++
  (if x.bar.op≠2∨x.bar.kids≠[] then av lN::(aF x.bar++[bI 59]) else [])++[bI 125]
def pairT (x:Pair):List Tok:=av oh::(fO x.a x.x++bI 61::(fO x.b x.y++[bI 59]))
def dF:List (List UInt8 × Int)→List Tok
  | []=>[]
  | [p]=>fO p.1 p.2
  | p::q::r=>fO p.1 p.2++bI 44::dF (q::r)
def gL (r:iK):List Tok:=[av iE,av r.name,aW r.aU,av ku]++dF (r.names.zip r.froms)++(if r.gX≠1 then [av vX,aW r.gX] else [])++(if r.home then [av dV] else [])++[bI 59]
def eB (x:Prog):List Tok:=
  [av bR,aW x.number,av x.name,bI 123]++(if x.uses≠1 then [av jL,aW x.uses,bI 59] else [])++(if x.gD≠0 then [av gY,aW x.gD,bI 59] else []) ++
  (if x.mean.num≠0 then av fD::(bO x.mean++[bI 59]) else [])++x.reqs.flatMap gL++[bI 125]
def fu (w:List UInt8) (x:Cls):List Tok:=[av w,av x.name,aW x.gD,av fD]++bO x.mean++[bI 59]
def jy (x:tL):List Tok:=[av vG,av x.name,aW x.aU,bI 59]
def dI (x:Clause):List Tok:=[av om,av (kindWords.getD (x.kind - 1).toNat []),av (whenWords.getD x.gH.toNat []),av (actionWords.getD (x.action - 1).toNat []),av nL,aW x.BD,bI 59]
def gQ (c:dh):List Tok:=c.courses.flatMap bP++c.same.flatMap pairT++c.aS.flatMap eB++c.classes.flatMap (fu dM)++c.bZ.flatMap jy++c.aJ.flatMap (fu cK)++c.clauses.flatMap dI
def jM (s:List UInt8) (n:Int):Int:=if s.isEmpty then n else 0
mutual
def Rule.un:Rule→Rule
  | .mk op co nm n d ks=>.mk op (jM nm co) nm n d (dJ ks)
def dJ:List Rule→List Rule
  | []=>[]
  | r::rs=>r.un::dJ rs
end
end Go.Proofs.YtjonaidancomgaaGreatDoor.Sx
namespace Go.Proofs.YtjonaidancomgaaGreatDoor.Lx
theorem jA (acc:Nat):dD acc []=acc:=List.foldl_nil
theorem jO (acc:Nat) (c:UInt8) (r:List UInt8):dD acc (c::r)=dD (10*acc+(c.toNat - 48)) r:=List.foldl_cons
theorem uN (r:List UInt8) (acc:Nat) (c:UInt8):dD acc (r++[c])=10*dD acc r+(c.toNat - 48):=by
 unfold dD;rw[List.foldl_append];simp only[List.foldl_cons,List.foldl_nil]
theorem uf:∀ (l:List UInt8) (acc:Nat),acc≤dD acc l
 | [],acc=>by rw [jA];exact Nat.le_refl _
 | c::r,acc=>by
  rw[jO];have:=uf r (10*acc+(c.toNat - 48));omega
theorem iT {c:UInt8} (h:figure c=true):48≤c.toNat∧c.toNat≤57:=by
 rw[jv] at h;simp at h;omega
theorem zh:∀ (l:List UInt8) (acc:Nat),l.all figure=true→dD acc l < 18446744073709551616→Lib.parseUint10 acc l = .ok (dD acc l)
 | [],acc,_,_=>by rw [jA];rfl
 | c::r,acc,h,hv=>by
  simp only[List.all_cons,Bool.and_eq_true] at h;obtain ⟨h1,h2⟩:=iT h.1;rw[jO] at hv ⊢;have hge:=uf r (10*acc+(c.toNat - 48));have ih:=zh r (10*acc+(c.toNat - 48)) h.2 hv;rw[Lib.parseUint10,if_pos ⟨h1,h2⟩,if_neg (by omega),if_neg (by omega),Nat.mul_comm acc 10,ih]
theorem wZ:∀ (l:List UInt8) (acc:Nat),l.all figure=true→acc < 18446744073709551616→¬ dD acc l < 18446744073709551616→Lib.parseUint10 acc l = .range
 | [],acc,_,ha,hv=>absurd ha (by rwa [jA] at hv)
 | c::r,acc,h,ha,hv=>by
  simp only[List.all_cons,Bool.and_eq_true] at h;obtain ⟨h1,h2⟩:=iT h.1;rw[jO] at hv;rw[Lib.parseUint10,if_pos ⟨h1,h2⟩]
  by_cases hb:1844674407370955162≤acc
  ·rw[if_pos hb]
  ·rw[if_neg hb]
   by_cases hc:18446744073709551616≤acc*10+(c.toNat - 48)
   ·rw[if_pos hc]
   ·rw[if_neg hc,Nat.mul_comm acc 10];exact wZ r _ h.2 (by omega) hv
theorem Cg {l:List UInt8} (h:l.all figure=true) (hv:dD 0 l < 18446744073709551616):Lib.parseUint10 0 l = .ok (dD 0 l):=zh l 0 h hv
theorem GX {l:List UInt8} (h:l.all figure=true) (hv:¬ dD 0 l < 18446744073709551616):Lib.parseUint10 0 l = .range:=wZ l 0 h (by omega) hv
theorem Ch {r s:List UInt8} (h:r≠[]):(r++s).head?=r.head?:=by cases r <;> simp_all
theorem MB {l:List UInt8} (h:l.all figure=true) (hne:l≠[]) (hv:dD 0 l < 9223372036854775808):Lib.atoiAll l = .ok (dD 0 l:Int):=by
 match l,hne with
 | c::r,_=>
  have h0:=h;simp only[List.all_cons,Bool.and_eq_true] at h0;obtain ⟨h1,h2⟩:=iT h0.1;unfold Lib.atoiAll;simp only;rw[if_neg (by omega)];unfold Lib.parseMag;rw[if_neg (by simp),Cg h (by omega)];simp only;rw[if_neg (by omega),if_neg (by omega),if_neg (by omega)]
theorem JB {l:List UInt8} (h:l.all figure=true) (hne:l≠[]) (hv:¬ dD 0 l < 9223372036854775808):Lib.atoiAll l = .range:=by
 match l,hne with
 | c::r,_=>
  have h0:=h;simp only[List.all_cons,Bool.and_eq_true] at h0;obtain ⟨h1,h2⟩:=iT h0.1;unfold Lib.atoiAll;simp only;rw[if_neg (by omega)];unfold Lib.parseMag;rw[if_neg (by simp)]
  by_cases hb:dD 0 (c::r) < 18446744073709551616
  ·rw[Cg h hb];simp only;rw[if_pos (by omega)]
  ·rw[GX h hb]
def plain (l:List UInt8):Prop:=l.length=1∨l.head?≠some 48
instance (l : List UInt8) : Decidable (plain l) := by unfold plain; exact inferInstance
theorem sH {c:UInt8} (h:figure c=true):UInt8.ofNat (48+(c.toNat - 48))=c:=by
 obtain ⟨h1,h2⟩:=iT h;rw[show 48+(c.toNat - 48)=c.toNat by omega];simp
theorem Ee {l:List UInt8} (h:l.all figure=true) (hne:l≠[]) (hh:l.head?≠some 48):1≤dD 0 l:=by
 match l,hne with
 | c::r,_=>
  simp only[List.all_cons,Bool.and_eq_true] at h;obtain ⟨h1,h2⟩:=iT h.1;have:c.toNat≠48:=fun e=>hh (by
   rw[List.head?_cons];congr 1;exact UInt8.toNat_inj.1 (by rw [e];rfl))
  rw[jO];have:=uf r (10*0+(c.toNat - 48));omega
theorem GY:∀ (n:Nat) (l:List UInt8),l.length=n→l.all figure=true→l≠[]→plain l→Lib.decDigits (dD 0 l)=l:=by
 intro n
 induction n with
 | zero=>intro l h _ hne _;exact absurd (List.eq_nil_of_length_eq_zero h) hne
 | succ n ih=>
  intro l hl hf hne hp;have hsn:=List.dropLast_concat_getLast hne;obtain ⟨r,c,rfl⟩:∃ r c,l=r++[c]:=⟨_,_,hsn.symm⟩
  simp only[List.all_append,List.all_cons,List.all_nil,Bool.and_true,Bool.and_eq_true] at hf;obtain ⟨h1,h2⟩:=iT hf.2;rw[uN]
  by_cases hr:r = []
  ·subst hr;rw[Lib.decDigits,dif_pos (by rw [jA];omega)];simp only[jA,Nat.mul_zero,Nat.zero_add,List.nil_append,sH hf.2]
  ·have hlr:r.length=n:=by simpa using hl
   have hh:r.head?≠some 48:=by
    rcases hp with hp | hp
    ·exfalso
     have:0 < r.length:=List.length_pos_iff.2 hr;simp at hp;exact hr hp
    ·rwa [Ch hr] at hp
   have hpos:=Ee hf.1 hr hh;rw[Lib.decDigits,dif_neg (by omega)];rw[show (10*dD 0 r+(c.toNat - 48)) / 10=dD 0 r by omega,show (10*dD 0 r+(c.toNat - 48)) % 10=c.toNat - 48 by omega];rw[ih r hlr hf.1 hr (.inr hh),sH hf.2]
theorem lg {d:Nat} (h:d < 10):figure (UInt8.ofNat (48+d))=true∧(UInt8.ofNat (48+d)).toNat=48+d:=by
 have e:(UInt8.ofNat (48+d)).toNat=48+d:=by simp;omega
 refine ⟨?_,e⟩;rw[jv,e];simp;omega
theorem Ef (u:Nat):(Lib.decDigits u).all figure=true:=by
 induction u using Nat.strongRecOn with
 | _ u ih=>
  by_cases h:u < 10
  ·rw[Lib.decDigits,dif_pos h,List.all_cons,(lg h).1];rfl
  ·rw[Lib.decDigits,dif_neg h,List.all_append,ih (u / 10) (by omega)];rw[List.all_cons,(lg (show u % 10 < 10 by omega)).1];rfl
theorem zi (u:Nat):Lib.decDigits u≠[]:=by
 rw[Lib.decDigits];split <;> simp
theorem xg (u:Nat):dD 0 (Lib.decDigits u)=u:=by
 induction u using Nat.strongRecOn with
 | _ u ih=>
  by_cases h:u < 10
  ·rw[Lib.decDigits,dif_pos h];rw[jO,jA,(lg h).2];omega
  ·rw[Lib.decDigits,dif_neg h,uN,ih (u / 10) (by omega),(lg (show u % 10 < 10 by omega)).2];omega
theorem Ci (u:Nat) (h:(Lib.decDigits u).head?=some 48):u=0:=by
 induction u using Nat.strongRecOn with
 | _ u ih=>
  by_cases hu:u < 10
  ·rw[Lib.decDigits,dif_pos hu] at h;simp only[List.head?_cons,Option.some.injEq] at h;have:=congrArg UInt8.toNat h;rw[(lg hu).2] at this;simp at this;exact this
  ·rw[Lib.decDigits,dif_neg hu,Ch (zi _)] at h;have:=ih (u / 10) (by omega) h;omega
theorem sI (u:Nat):plain (Lib.decDigits u):=by
 by_cases h:(Lib.decDigits u).head?=some 48
 ·have:=Ci u h;subst this
  left
  rw[Lib.decDigits,dif_pos (by omega)];rfl
 ·exact .inr h
theorem qN {l:List UInt8} (hf:l.all figure=true) (hne:l≠[]):Lib.decDigits (dD 0 l)=l↔plain l:=
 ⟨fun h=>by rw [←h];exact sI _,fun h=>GY _ l rfl hf hne h⟩
theorem uI {l:List UInt8} (h1:dD 0 l≤1099511627776) (h2:plain l):number l=some (dD 0 l):=by
 unfold number;rw[if_pos ⟨h1,h2⟩]
theorem D6 {l:List UInt8} (h1:¬ dD 0 l≤1099511627776):number l=none:=by
 unfold number;rw[if_neg (fun h=>h1 h.1)]
theorem qY {l:List UInt8} {n:Nat} (h:number l=some n):n=dD 0 l∧n≤1099511627776∧plain l:=by
 unfold number at h
 split at h
 ·rename_i hh;injection h with h;subst h;exact ⟨rfl,hh.1,hh.2⟩
 ·cases h
theorem yE (u:Nat) (h:u≤1099511627776):number (Lib.decDigits u)=some u:=by
 rw[uI (by rw [xg];exact h) (sI u),xg]
theorem GZ (P:UInt8→Bool) (h:(List.range 256).all (fun n=>P (UInt8.ofNat n))=true) (c:UInt8):P c=true:=by
 have:=List.all_eq_true.1 h c.toNat (List.mem_range.2 c.toNat_lt);simpa using this
def ug (c:UInt8):Bool:=(cls c == 1) == space c && (cls c == 2) == letter c && (cls c == 3) == figure c && (cls c == 4) == sign c &&
  (!(letter c) || (!(space c) && !(figure c) && !(sign c) && c != 47)) && (!(figure c) || (!(space c) && !(letter c) && !(sign c) && c != 47)) && (!(sign c) || (!(space c) && !(letter c) && !(figure c) && !(part c))) && (!(space c) || (!(part c) && c != 47 && !(sign c))) &&
  (c != 47 || sign c) && (c != 32 || space c) && (c != 10 || space c)
theorem Eh (c:UInt8):ug c=true:=GZ ug (by decide +kernel) c
theorem GQ (c:UInt8):cls c=0∨cls c=1∨cls c=2∨cls c=3∨cls c=4∨cls c=5:=by
 unfold cls;repeat' split
 all_goals simp
structure Facts (c : UInt8) : Prop where
 c1:(cls c == 1)=space c
 c2:(cls c == 2)=letter c
 c3:(cls c == 3)=figure c
 c4:(cls c == 4)=sign c
 MS:letter c=true→space c=false∧figure c=false∧sign c=false∧c≠47
 MU:figure c=true→space c=false∧letter c=false∧sign c=false∧c≠47
 UK:sign c=true→space c=false∧letter c=false∧figure c=false∧part c=false
 JO:space c=true→part c=false∧c≠47∧sign c=false
 slash:c=47→sign c=true
theorem facts (c:UInt8):Facts c:=by
 have h:=Eh c;unfold ug at h;simp only[Bool.and_eq_true,beq_iff_eq] at h;obtain ⟨⟨⟨⟨⟨⟨⟨⟨⟨⟨h1,h2⟩,h3⟩,h4⟩,h5⟩,h6⟩,h7⟩,h8⟩,h9⟩,_⟩,_⟩:=h;refine ⟨h1,h2,h3,h4,fun h=>?_,fun h=>?_,fun h=>?_,fun h=>?_,fun h=>?_⟩
 ·rw[h] at h5;simp at h5;exact ⟨h5.1.1.1,h5.1.1.2,h5.1.2,h5.2⟩
 ·rw[h] at h6;simp at h6;exact ⟨h6.1.1.1,h6.1.1.2,h6.1.2,h6.2⟩
 ·rw[h] at h7;simp at h7;exact ⟨h7.1.1.1,h7.1.1.2,h7.1.2,h7.2⟩
 ·rw[h] at h8;simp at h8;exact ⟨h8.1.1,h8.1.2,h8.2⟩
 ·subst h;rfl
def comment (l:List UInt8):Bool:=match l with | c::r=>c == 47 && r.head? == some 47 | []=>false
theorem nM {c:UInt8} {r:List UInt8} (h:space c=true):step c r = .skip 1:=by unfold step;rw[h];rfl
theorem nI {c:UInt8} {r:List UInt8} (h:comment (c::r)=true):step c r = .skip ((c::r).takeWhile (· != 10)).length:=by
 have h':(c == 47 && r.head? == some 47)=true:=h;have hc:c=47:=by simp at h';exact h'.1
 have hs:space c=false:=by rw [hc];rfl
 unfold step;rw[hs,h'];rfl
theorem oO {c:UInt8} {r:List UInt8} (h:c≠47):(c == 47 && r.head? == some 47)=false:=by
 rw[show (c == 47)=false from beq_eq_false_iff_ne.2 h];rfl
theorem lU {c:UInt8} {r:List UInt8} (h:letter c=true) :
  step c r=if isName ((c::r).takeWhile part) then .tok ⟨1,(c::r).takeWhile part,0,0⟩ ((c::r).takeWhile part).length else .err:=by
 obtain ⟨h1,_,_,h4⟩:=(facts c).MS h;unfold step;rw[h1,oO h4,h];rfl
theorem lV {c:UInt8} {r:List UInt8} (h:figure c=true) :
  step c r=match number ((c::r).takeWhile figure) with
   | some n=>.tok ⟨2,[],n,0⟩ ((c::r).takeWhile figure).length
   | none=>.err:=by
 obtain ⟨h1,h2,_,h4⟩:=(facts c).MU h;unfold step;rw[h1,oO h4,h2,h];rfl
theorem ql {c:UInt8} {r:List UInt8} (h:sign c=true) (hc:comment (c::r)=false):step c r = .tok ⟨3,[c],0,0⟩ 1:=by
 obtain ⟨h1,h2,h3,_⟩:=(facts c).UK h;have h':(c == 47 && r.head? == some 47)=false:=hc;unfold step;rw[h1,h',h2,h3,h];rfl
theorem sD {c:UInt8} {r:List UInt8} (h1:space c=false) (h2:letter c=false) (h3:figure c=false) (h4:sign c=false):step c r = .err:=by
 have h5:c≠47:=fun e=>by have:=(facts c).slash e;rw[h4] at this;cases this
 unfold step;rw[h1,oO h5,h2,h3,h4];rfl
theorem sJ:∀ (l:List UInt8) (p:Nat),gu l p=gu (l.drop (l.takeWhile space).length) (p+(l.takeWhile space).length)
 | [],p=>rfl
 | c::r,p=>by
  cases h:space c
  ·simp[h]
  ·rw[nK,nM h];simp only[List.takeWhile_cons,h,if_true,List.length_cons,List.drop_succ_cons,List.drop_zero];rw[sJ r (p+1),Nat.add_assoc,Nat.add_comm 1]
theorem xk {c:UInt8} {r:List UInt8} {k:Nat} (h:step c r = .skip k) (p:Nat):gu (c::r) p=gu ((c::r).drop k) (p+k):=by
 rw[nK,h]
theorem zl {c:UInt8} {r:List UInt8} {t:Tok} {k:Nat} (h:step c r = .tok t k) (p:Nat):gu (c::r) p=(gu ((c::r).drop k) (p+k)).cons { t with pos:=p }:=by
 rw[nK,h]
theorem G7 {c:UInt8} {r:List UInt8} (h:step c r = .err) (p:Nat):gu (c::r) p = .err p:=by
 rw[nK,h]
theorem Ei {c:UInt8} {r:List UInt8} {t:Tok} {k:Nat} (h:step c r = .tok t k):valid t=true∧k≤(c::r).length∧t.text.length≤32:=by
 have hf:=facts c;cases h1:space c
 case true=>rw [nM h1] at h;cases h
 cases h2:comment (c::r)
 case true=>rw [nI h2] at h;cases h
 have twl:∀ p:UInt8→Bool,((c::r).takeWhile p).length≤(c::r).length:=fun p=>(List.takeWhile_prefix p).length_le;cases h3:letter c
 case true=>
  rw[lU h3] at h
  split at h
  ·rename_i hn;injection h with h h';subst h;subst h';refine ⟨(show (isName _ && decide ((0:Int)=0))=true by rw [hn];rfl),twl _,?_⟩;have hn2:=hn;unfold isName at hn2
   split at hn2
   ·cases hn2
   ·rename_i e;simp only[Bool.and_eq_true,decide_eq_true_eq] at hn2;simp only;exact hn2.1.1
  ·cases h
 cases h4:figure c
 case true=>
  rw[lV h4] at h
  split at h
  ·rename_i n hn;injection h with h h';subst h;subst h';obtain ⟨_,hb,_⟩:=qY hn;exact ⟨(show (([]:List UInt8).isEmpty && decide (0≤(n:Int)) && decide ((n:Int)≤1099511627776))=true by simp;omega),twl _,by simp⟩
  ·cases h
 cases h5:sign c
 case true=>
  rw[ql h5 h2] at h;injection h with h h';subst h;subst h';exact ⟨(show (sign c && decide ((0:Int)=0))=true by rw [h5];rfl),by simp,by simp⟩
 rw[sD h1 h3 h4 h5] at h;cases h
theorem rC:∀ (f:Nat) (l:List UInt8) (p:Nat) (ts:List Tok),oM f l p = .ok ts→∀ t∈ts,valid t=true∧t.text.length≤32
 | _,[],p,ts,h=>by
  have:ts = []:=by cases ‹Nat› <;> (simp only [oM] at h;injection h with h;exact h.symm)
  subst this;intro t ht;simp at ht
 | 0,_::_,p,ts,h=>by
  simp only[oM] at h;injection h with h;subst h;intro t ht;simp at ht
 | f+1,c::r,p,ts,h=>by
  simp only[oM] at h;cases hs:step c r with
  | skip k=>rw [hs] at h;exact rC f _ _ ts h
  | err=>rw [hs] at h;cases h
  | tok t k=>
   rw[hs] at h;simp only at h;cases hr:oM f ((c::r).drop k) (p+k) with
   | err q=>rw [hr] at h;cases h
   | ok ts'=>
    rw[hr] at h;simp only[yD.cons] at h;injection h with h;subst h;intro u hu
    rcases List.mem_cons.1 hu with rfl | hu
    ·obtain ⟨h1,_,h3⟩:=Ei hs;exact ⟨h1,h3⟩
    ·exact rC f _ _ ts' hr u hu
theorem qo {l:List UInt8} {ts:List Tok} (h:lex l = .ok ts):∀ t∈ts,valid t=true∧t.text.length≤32:=rC _ _ _ _ h
theorem Ao {D r:List UInt8} {c:UInt8} {a k:Nat} {t:Tok} (l:List Tok) (hd:D.drop a=c::r) (h:step c r = .tok t k):(gu (D.drop (a+k)) (a+k)).app (l++[{ t with pos:=a }])=(gu (D.drop a) a).app l:=by
 rw[hd,zl h,yD.JL,←hd,List.drop_drop]
theorem JH {D r:List UInt8} {c:UInt8} {a k:Nat} (l:List Tok) (hd:D.drop a=c::r) (h:step c r = .skip k):(gu (D.drop (a+k)) (a+k)).app l=(gu (D.drop a) a).app l:=by
 rw[hd,xk h,←hd,List.drop_drop]
theorem Ea {D:List UInt8} {a:Nat} (l:List Tok):(gu (D.drop (a+((D.drop a).takeWhile space).length)) (a+((D.drop a).takeWhile space).length)).app l=(gu (D.drop a) a).app l:=by
 rw[sJ (D.drop a) a,List.drop_drop]
theorem vW {D r:List UInt8} {c:UInt8} {a:Nat} (l:List Tok) (hd:D.drop a=c::r) (h:step c r = .err):(gu (D.drop a) a).app l = .err a:=by
 rw[hd,G7 h];rfl
end Go.Proofs.YtjonaidancomgaaGreatDoor.Lx
