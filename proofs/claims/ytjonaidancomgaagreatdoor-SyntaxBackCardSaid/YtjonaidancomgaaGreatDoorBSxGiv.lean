/- Parts of the proof, joined into one text: SxGiv, SxSz. -/
import Derived.Test.YtjonaidancomgaaGreatDoorBSxRdB
import Derived.Test.YtjonaidancomgaaGreatDoorBLxPlain

namespace Go.Proofs.YtjonaidancomgaaGreatDoor.Sx
open Lx (Tok)

def Vs (l:List Tok):Prop:=∀ t∈l,Lx.valid t=true
theorem Vs.tail {l:List Tok} (h:Vs l):Vs l.tail:=fun t ht=>h t (List.mem_of_mem_tail ht)
section
variable {last : Int} {l r : List Tok}
theorem gv_need {k:Int} {x:List UInt8} {y:Unit} (h:need last k x l = .ok y r) (hv:Vs l):Vs r:=by
 unfold need at h
 split at h
 ·injection h with _ h;subst h;exact hv.tail
 ·unfold fail at h;cases h
theorem gv_sign {c:UInt8} {y:Unit} (h:sign last c l = .ok y r) (hv:Vs l):Vs r:=gv_need h hv
theorem gv_word {x:List UInt8} {y:Unit} (h:word last x l = .ok y r) (hv:Vs l):Vs r:=gv_need h hv
theorem gv_name {x:List UInt8} (h:name last l = .ok x r) (hv:Vs l):Lx.isName x=true∧Vs r:=by
 unfold name at h
 split at h
 ·rename_i t s
  split at h
  ·rename_i hk
   injection h with h1 h2
   subst h1;subst h2
   have:=hv t (by simp)
   unfold Lx.valid at this
   rw[if_pos hk,Bool.and_eq_true] at this
   exact ⟨this.1,fun q hq=>hv q (by simp [hq])⟩
  ·unfold fail at h;cases h
 ·unfold fail at h;cases h
theorem gv_number {lo hi n:Int} (h:number last lo hi l = .ok n r) (hv:Vs l):(lo≤n∧n≤hi)∧Vs r:=by
 unfold number at h
 split at h
 ·split at h
  ·rename_i hk
   injection h with h1 h2
   subst h1;subst h2
   exact ⟨hk.2,fun q hq=>hv q (by simp [hq])⟩
  ·unfold fail at h;cases h
 ·unfold fail at h;cases h
theorem isName_ne {s:List UInt8} (h:Lx.isName s=true):s.isEmpty=false:=by
 cases s with
 | nil=>cases h
 | cons=>rfl
theorem gv_ref {p:List UInt8 × Int} (h:ref last l = .ok p r) (hv:Vs l):(refOk p.1 p.2=true∧unref p.1 p.2=p.2)∧Vs r:=by
 unfold ref at h
 split at h
 ·obtain ⟨n,l1,h1,h2⟩:=bind_ok h
  obtain ⟨hn,hv1⟩:=gv_number h1 hv.tail
  injection h2 with h2 h3
  subst h2;subst h3
  refine ⟨⟨?_,rfl⟩,hv1⟩
  unfold refOk
  rw[inB_iff.2 hn];rfl
 ·obtain ⟨s,l1,h1,h2⟩:=bind_ok h
  obtain ⟨hn,hv1⟩:=gv_name h1 hv
  injection h2 with h2 h3
  subst h2;subst h3
  refine ⟨⟨?_,?_⟩,hv1⟩
  ·unfold refOk
   simp only
   rw[hn,inB_iff.2 (by decide)];simp
  ·unfold unref
   simp only
   rw[isName_ne hn];rfl
theorem lowest_fine {n d:Int} (h0:0≤n) (h1:max 1 ((n+11) / 12)≤d) (h2:d≤1000):(lowest n d).fine=true:=by
 unfold lowest Ratio.fine
 simp only[Bool.and_eq_true,decide_eq_true_eq]
 have hd:1≤d:=by omega
 have hn:n≤12*d:=by omega
 have hg:0 < Int.gcd n d:=by
  rcases Nat.eq_zero_or_pos (Int.gcd n d) with h | h
  ·rw[Int.gcd_eq_zero_iff] at h;omega
  ·exact h
 obtain ⟨a,ha⟩:=Int.gcd_dvd_left n d
 obtain ⟨b,hb⟩:=Int.gcd_dvd_right n d
 have hgz:(0:Int) < (Int.gcd n d:Nat):=by omega
 have hq:Int.gcd a b=1:=by
  have h1:Int.gcd n d=(Int.gcd n d)*Int.gcd a b:=by
   have:=Int.gcd_mul_left (Int.gcd n d:Int) a b
   rw[←ha,←hb] at this
   simpa using this
  exact Nat.eq_of_mul_eq_mul_left hg (by rw [←h1,Nat.mul_one])
 obtain ⟨g,hgg⟩:∃ g:Int,g=(Int.gcd n d:Nat):=⟨_,rfl⟩
 rw[←hgg] at ha hb hgz ⊢
 have e1:n / g=a:=by rw [ha];exact Int.mul_ediv_cancel_left a (by omega)
 have e2:d / g=b:=by rw [hb];exact Int.mul_ediv_cancel_left b (by omega)
 rw[e1,e2]
 clear hgg e1 e2
 have b1:1≤b:=by
  rcases Int.lt_or_le b 1 with h | h
  ·have:g*b≤g*0:=Int.mul_le_mul_of_nonneg_left (by omega) (by omega)
   rw[Int.mul_zero] at this;omega
  ·exact h
 have b2:b≤1000:=by
  have:1*b≤g*b:=Int.mul_le_mul_of_nonneg_right (by omega) (by omega)
  omega
 have a0:0≤a:=by
  rcases Int.lt_or_le a 0 with h | h
  ·have:g*a≤g*(-1):=Int.mul_le_mul_of_nonneg_left (by omega) (by omega)
   rw[Int.mul_neg,Int.mul_one] at this;omega
  ·exact h
 have a1:a≤12*b:=by
  rcases Int.lt_or_le (12*b) a with h | h
  ·have:g*(12*b+1)≤g*a:=Int.mul_le_mul_of_nonneg_left (by omega) (by omega)
   have e:g*(12*b+1)=12*(g*b)+g:=by rw [Int.mul_add,Int.mul_one,Int.mul_left_comm]
   rw[e] at this;omega
  ·exact h
 exact ⟨⟨⟨⟨b1,b2⟩,a0⟩,a1⟩,hq⟩
theorem gv_ratio {x:Ratio} (h:ratio last l = .ok x r) (hv:Vs l):x.fine=true∧Vs r:=by
 unfold ratio at h
 obtain ⟨n,l1,h1,h⟩:=bind_ok h
 obtain ⟨u,l2,h2,h⟩:=bind_ok h
 obtain ⟨d,l3,h3,h⟩:=bind_ok h
 obtain ⟨k1,v1⟩:=gv_number h1 hv
 obtain ⟨k3,v3⟩:=gv_number h3 (gv_sign h2 v1)
 injection h with h4 h5
 subst h4;subst h5
 exact ⟨lowest_fine k1.1 k3.1 k3.2,v3⟩
theorem gv_oneOf {ws:List (List UInt8)} {i:Int} (h:oneOf last ws l = .ok i r) (hv:Vs l):(0≤i∧i < ws.length)∧Vs r:=by
 unfold oneOf at h
 split at h
 ·rename_i j hj
  injection h with h1 h2
  subst h1;subst h2
  unfold find at hj
  have:=(List.findIdx?_eq_some_iff_getElem.1 hj).1
  exact ⟨by omega,hv.tail⟩
 ·unfold fail at h;cases h
theorem gv_opt {α:Type} {w:List UInt8} {f:List Tok→R α} {d x:α} {P:α→Prop} (hf:∀ l x r,f l = .ok x r→Vs l→P x∧Vs r) (hd:P d) (h:opt last w f d l = .ok x r) (hv:Vs l):P x∧Vs r:=by
 unfold opt at h
 split at h
 ·obtain ⟨y,l1,h1,h⟩:=bind_ok h
  obtain ⟨u,l2,h2,h⟩:=bind_ok h
  obtain ⟨k1,v1⟩:=hf _ _ _ h1 hv.tail
  injection h with h3 h4
  subst h3;subst h4
  exact ⟨k1,gv_sign h2 v1⟩
 ·injection h with h3 h4
  subst h3;subst h4
  exact ⟨hd,hv⟩
end
def RuleGood (k:Nat) (x:Rule):Prop:=ruleOk k x=true∧x.un=x
theorem rulesOk_all {k:Nat} : ∀ {ks:List Rule},(∀ x∈ks,RuleGood k x)→rulesOk k ks=true∧unRules ks=ks
 | [],_=>⟨rfl,rfl⟩
 | x::ks,h=>by
  obtain ⟨h1,h2⟩:=rulesOk_all (ks:=ks) fun y hy=>h y (by simp [hy])
  rw[rulesOk,unRules,h1,h2,(h x (by simp)).1,(h x (by simp)).2]
  exact ⟨rfl,rfl⟩
theorem gv_kids {last:Int} {f:Nat→List Tok→R Rule} {P:Rule→Prop} (hf:∀ b l x r,f b l = .ok x r→Vs l→(P x∧b≠200)∧Vs r) :
  ∀ (n:Nat) (acc:List Rule) (l:List Tok) (ks:List Rule) (r:List Tok),kids last f n acc l = .ok ks r→Vs l→acc.length≤200→(∀ x∈acc,P x)→(ks.length≤200∧∀ x∈ks,P x)∧Vs r
 | 0,acc,l,ks,r,h,hv,ha,hp=>by
  rw[kids] at h
  injection h with h1 h2
  subst h1;subst h2
  exact ⟨⟨ha,hp⟩,hv⟩
 | n+1,acc,l,ks,r,h,hv,ha,hp=>by
  rw[kids] at h
  split at h
  ·injection h with h1 h2
   subst h1;subst h2
   exact ⟨⟨ha,hp⟩,hv.tail⟩
  ·obtain ⟨y,l1,h1,h⟩:=bind_ok h
   obtain ⟨u,l2,h2,h⟩:=bind_ok h
   obtain ⟨⟨k1,k2⟩,v1⟩:=hf _ _ _ _ h1 hv
   refine gv_kids hf n (acc++[y]) l2 ks r h (gv_sign h2 v1) (by simp;omega) fun x hx=>?_
   rcases List.mem_append.1 hx with hx | hx
   ·exact hp x hx
   ·rw[List.mem_singleton] at hx;subst hx;exact k1
theorem gv_rule {last:Int} : ∀ (k b:Nat) (l:List Tok) (x:Rule) (r:List Tok),rule last k b l = .ok x r→Vs l→(RuleGood k x∧b≠200)∧Vs r
 | 0,b,l,x,r,h,hv=>by
  rw[rule] at h
  obtain ⟨y,l1,h1,h⟩:=bind_ok h
  unfold fail at h;cases h
 | k+1,b,l,x,r,h,hv=>by
  rw[rule] at h
  obtain ⟨i,l1,h1,h⟩:=bind_ok h
  obtain ⟨hi,v1⟩:=gv_oneOf h1 hv
  have hi9:(ruleWords.length:Int)=9:=rfl
  rw[hi9] at hi
  split at h
  ·unfold fail at h;cases h
  rename_i hlim
  have hb:b≠200:=fun e=>hlim (.inl e)
  suffices RuleGood (k+1) x∧Vs r from ⟨⟨this.1,hb⟩,this.2⟩
  have ih:=fun b l x r=>gv_rule (last:=last) k b l x r
  obtain ⟨op,hop⟩:∃ op,op=i+1:=⟨_,rfl⟩
  rw[←hop] at h
  unfold ruleBody at h
  split at h
  ·rename_i h4
   subst h4
   obtain ⟨q,l2,h2,h⟩:=bind_ok h
   obtain ⟨⟨kg,_⟩,v2⟩:=ih _ _ _ _ h2 v1
   injection h with ha hb
   subst ha;subst hb
   refine ⟨⟨?_,?_⟩,v2⟩
   ·rw[ruleOk,rulesOk,rulesOk,kg.1];rfl
   ·rw[Rule.un,unRules,unRules,kg.2];rfl
  split at h
  ·rename_i h5
   obtain ⟨p,l2,h2,h⟩:=bind_ok h
   obtain ⟨n,l3,h3,h⟩:=bind_ok h
   obtain ⟨kp,v2⟩:=gv_ref h2 v1
   obtain ⟨kn,v3⟩:=gv_number h3 v2
   injection h with ha hb
   subst ha;subst hb
   refine ⟨⟨?_,?_⟩,v3⟩
   ·rw[ruleOk];simp[rulesOk,kp.1,inB_iff.2 kn]
   ·rw[Rule.un,unRules,kp.2]
  split at h
  ·rename_i h6
   obtain ⟨p,l2,h2,h⟩:=bind_ok h
   obtain ⟨n,l3,h3,h⟩:=bind_ok h
   obtain ⟨kp,v2⟩:=gv_ref h2 v1
   obtain ⟨kn,v3⟩:=gv_number h3 v2
   injection h with ha hb
   subst ha;subst hb
   refine ⟨⟨?_,?_⟩,v3⟩
   ·rw[ruleOk];simp[rulesOk,kp.1,inB_iff.2 kn]
   ·rw[Rule.un,unRules,kp.2]
  split at h
  ·obtain ⟨n,l3,h3,h⟩:=bind_ok h
   obtain ⟨kn,v3⟩:=gv_number h3 v1
   injection h with ha hb
   subst ha;subst hb
   refine ⟨⟨?_,?_⟩,v3⟩
   ·rw[ruleOk];simp[rulesOk,inB_iff.2 kn]
   ·rw[Rule.un,unRules];rfl
  split at h
  ·obtain ⟨q,l3,h3,h⟩:=bind_ok h
   obtain ⟨kq,v3⟩:=gv_ratio h3 v1
   injection h with ha hb
   subst ha;subst hb
   refine ⟨⟨?_,?_⟩,v3⟩
   ·have e:(⟨q.num,q.den⟩:Ratio)=q:=rfl
    rw[ruleOk];simp[rulesOk,e,kq]
   ·rw[Rule.un,unRules];rfl
  split at h
  ·obtain ⟨p,l2,h2,h⟩:=bind_ok h
   obtain ⟨kp,v2⟩:=gv_ref h2 v1
   injection h with ha hb
   subst ha;subst hb
   refine ⟨⟨?_,?_⟩,v2⟩
   ·rw[ruleOk];simp[rulesOk,kp.1]
   ·rw[Rule.un,unRules,kp.2]
  split at h
  ·obtain ⟨n,l2,h2,h⟩:=bind_ok h
   obtain ⟨u,l3,h3,h⟩:=bind_ok h
   obtain ⟨ks,l4,h4,h⟩:=bind_ok h
   obtain ⟨kn,v2⟩:=gv_number h2 v1
   obtain ⟨⟨kl,kk⟩,v4⟩:=gv_kids (P:=RuleGood k) ih _ _ _ _ _ h4 (gv_sign h3 v2) (by simp) (by simp)
   obtain ⟨k5,k6⟩:=rulesOk_all kk
   injection h with ha hb
   subst ha;subst hb
   refine ⟨⟨?_,?_⟩,v4⟩
   ·rw[ruleOk];simp[k5,inB_iff.2 kn,kl]
   ·rw[Rule.un,k6];rfl
  ·rename_i g4 g5 g6 g7 g8 g9 g3
   obtain ⟨u,l3,h3,h⟩:=bind_ok h
   obtain ⟨ks,l4,h4,h⟩:=bind_ok h
   obtain ⟨⟨kl,kk⟩,v4⟩:=gv_kids (P:=RuleGood k) ih _ _ _ _ _ h4 (gv_sign h3 v1) (by simp) (by simp)
   obtain ⟨k5,k6⟩:=rulesOk_all kk
   injection h with ha hb
   subst ha;subst hb
   have h12:op=1∨op=2:=by omega
   refine ⟨⟨?_,?_⟩,v4⟩
   ·rw[ruleOk,if_pos h12];simp[k5,kl]
   ·rw[Rule.un,k6];rfl
section
variable {last : Int} {l r : List Tok}
theorem find_lt {ws:List (List UInt8)} {i:Nat} (h:find ws l=some i):i < ws.length:=by
 unfold find at h
 exact (List.findIdx?_eq_some_iff_getElem.1 h).1
theorem gv_course {x:Course} (h:course last l = .ok x r) (hv:Vs l):(courseOk x=true∧x.un=x)∧Vs r:=by
 rw[course_eq] at h
 obtain ⟨no,l1,h1,h⟩:=bind_ok h
 obtain ⟨nm,l2,h2,h⟩:=bind_ok h
 obtain ⟨cr,l3,h3,h⟩:=bind_ok h
 obtain ⟨k1,v1⟩:=gv_number h1 hv
 obtain ⟨k2,v2⟩:=gv_name h2 v1
 obtain ⟨k3,v3⟩:=gv_number h3 v2
 have hrep:∃ i l4,rep l3=(i,l4)∧(0≤i∧i≤2)∧Vs l4:=by
  unfold rep
  cases hf:find repeatWords l3 with
  | none=>exact ⟨0,l3,rfl,by decide,v3⟩
  | some i=>
   have:=find_lt hf
   have h3:repeatWords.length=3:=rfl
   exact ⟨i,l3.tail,rfl,by omega,v3.tail⟩
 obtain ⟨i,l4,e4,k4,v4⟩:=hrep
 rw[e4] at h
 obtain ⟨u,l5,h5,h⟩:=bind_ok h
 obtain ⟨nd,l6,h6,h⟩:=bind_ok h
 obtain ⟨br,l7,h7,h⟩:=bind_ok h
 obtain ⟨u',l8,h8,h⟩:=bind_ok h
 obtain ⟨k6,v6⟩:=gv_opt (P:=RuleGood 16) (fun l x r h hv=>⟨(gv_rule 16 0 l x r h hv).1.1,(gv_rule 16 0 l x r h hv).2⟩) ⟨by decide,rfl⟩ h6 (gv_sign h5 v4)
 obtain ⟨k7,v7⟩:=gv_opt (P:=RuleGood 16) (fun l x r h hv=>⟨(gv_rule 16 0 l x r h hv).1.1,(gv_rule 16 0 l x r h hv).2⟩) ⟨by decide,rfl⟩ h7 v6
 injection h with ha hb
 subst ha;subst hb
 refine ⟨⟨?_,?_⟩,gv_sign h8 v7⟩
 ·unfold courseOk
  simp only
  rw[inB_iff.2 k1,k2,inB_iff.2 k3,inB_iff.2 k4,k6.1,k7.1];rfl
 ·unfold Course.un
  simp only
  rw[k6.2,k7.2]
theorem gv_same {x:Pair} (h:same last l = .ok x r) (hv:Vs l):(pairOk x=true∧x.un=x)∧Vs r:=by
 unfold same at h
 obtain ⟨a,l1,h1,h⟩:=bind_ok h
 obtain ⟨u,l2,h2,h⟩:=bind_ok h
 obtain ⟨b,l3,h3,h⟩:=bind_ok h
 obtain ⟨u',l4,h4,h⟩:=bind_ok h
 obtain ⟨k1,v1⟩:=gv_ref h1 hv
 obtain ⟨k3,v3⟩:=gv_ref h3 (gv_sign h2 v1)
 injection h with ha hb
 subst ha;subst hb
 refine ⟨⟨?_,?_⟩,gv_sign h4 v3⟩
 ·unfold pairOk;rw[k1.1,k3.1];rfl
 ·unfold Pair.un;simp only;rw[k1.2,k3.2]
def RefGood (p:List UInt8 × Int):Prop:=refOk p.1 p.2=true∧unref p.1 p.2=p.2
theorem gv_refs:∀ (n:Nat) (acc:List (List UInt8 × Int)) (l:List Tok) (x:List (List UInt8 × Int)) (r:List Tok),l.length+1≤n→refs last n acc l = .ok x r→Vs l→(∀ p∈acc,RefGood p)→((∀ p∈x,RefGood p)∧x≠[])∧Vs r
 | 0,acc,l,x,r,hn,_,_,_=>by omega
 | n+1,acc,l,x,r,hn,h,hv,ha=>by
  rw[refs] at h
  obtain ⟨p,l1,h1,h⟩:=bind_ok h
  obtain ⟨k1,v1⟩:=gv_ref h1 hv
  have hacc:∀ q∈acc++[p],RefGood q:=fun q hq=>by
   rcases List.mem_append.1 hq with hq | hq
   ·exact ha q hq
   ·rw[List.mem_singleton] at hq;subst hq;exact k1
  split at h
  ·rename_i hh
   have e1:=eats_ref last l p l1 h1
   have e2:=hit_tail hh
   exact gv_refs n (acc++[p]) l1.tail x r (by omega) h v1.tail hacc
  ·injection h with h2 h3
   subst h2;subst h3
   exact ⟨⟨hacc,by simp⟩,v1⟩
theorem zip_fst_snd:∀ (ps:List (List UInt8 × Int)),(ps.map (·.1)).zip (ps.map (·.2))=ps
 | []=>rfl
 | p::ps=>by simp [zip_fst_snd ps]
theorem gv_take {x:Req} (h:take last l = .ok x r) (hv:Vs l):(reqOk x=true∧x.un=x)∧Vs r:=by
 unfold take at h
 obtain ⟨nm,l1,h1,h⟩:=bind_ok h
 obtain ⟨cr,l2,h2,h⟩:=bind_ok h
 obtain ⟨u,l3,h3,h⟩:=bind_ok h
 obtain ⟨rs,l4,h4,h⟩:=bind_ok h
 obtain ⟨g,l5,h5,h⟩:=bind_ok h
 simp only at h
 obtain ⟨u',l6,h6,h⟩:=bind_ok h
 obtain ⟨k1,v1⟩:=gv_name h1 hv
 obtain ⟨k2,v2⟩:=gv_number h2 v1
 obtain ⟨⟨k4,k4n⟩,v4⟩:=gv_refs _ [] _ _ _ (Nat.le_refl _) h4 (gv_word h3 v2) (by simp)
 have hg:(0≤g∧g≤12)∧Vs l5:=by
  split at h5
  ·exact gv_number h5 v4.tail
  ·injection h5 with ha hb
   subst ha;subst hb
   exact ⟨by decide,v4⟩
 have v6:Vs (if hit 1 wHome l5 then l5.tail else l5):=by
  split
  ·exact hg.2.tail
  ·exact hg.2
 injection h with ha hb
 subst ha;subst hb
 refine ⟨⟨?_,?_⟩,gv_sign h6 v6⟩
 ·unfold reqOk
  simp only
  rw[k1,inB_iff.2 k2,inB_iff.2 hg.1,zip_fst_snd]
  have:(rs.map (·.1)).isEmpty=false:=by
   cases rs with
   | nil=>exact absurd rfl k4n
   | cons=>rfl
  rw[this]
  simp only[List.length_map,beq_self_eq_true,Bool.not_false,Bool.and_true,Bool.true_and,List.all_eq_true]
  exact fun p hp=>(k4 p hp).1
 ·unfold Req.un
  simp only
  rw[zip_fst_snd]
  have:(rs.map fun p=>unref p.1 p.2)=rs.map (·.2):=List.map_congr_left fun p hp=>(k4 p hp).2
  rw[this]
theorem gv_takes:∀ (n:Nat) (acc:List Req) (l:List Tok) (x:List Req) (r:List Tok),takes last n acc l = .ok x r→Vs l→acc.length≤64→(∀ q∈acc,reqOk q=true∧q.un=q)→(x.length≤64∧∀ q∈x,reqOk q=true∧q.un=q)∧Vs r
 | 0,acc,l,x,r,h,hv,ha,hq=>by
  rw[takes] at h
  injection h with h1 h2
  subst h1;subst h2
  exact ⟨⟨ha,hq⟩,hv⟩
 | n+1,acc,l,x,r,h,hv,ha,hq=>by
  rw[takes] at h
  split at h
  ·split at h
   ·unfold fail at h;cases h
   ·rename_i h64
    obtain ⟨q,l1,h1,h⟩:=bind_ok h
    obtain ⟨k1,v1⟩:=gv_take h1 hv.tail
    refine gv_takes n (acc++[q]) l1 x r h v1 (by simp;omega) fun y hy=>?_
    rcases List.mem_append.1 hy with hy | hy
    ·exact hq y hy
    ·rw[List.mem_singleton] at hy;subst hy;exact k1
  ·injection h with h1 h2
   subst h1;subst h2
   exact ⟨⟨ha,hq⟩,hv⟩
theorem map_fix {α:Type} {f:α→α} : ∀ {xs:List α},(∀ x∈xs,f x=x)→xs.map f=xs
 | [],_=>rfl
 | x::xs,h=>by rw [List.map_cons,h x (by simp),map_fix fun y hy=>h y (by simp [hy])]
theorem gv_programme {x:Prog} (h:programme last l = .ok x r) (hv:Vs l):(progOk x=true∧x.un=x)∧Vs r:=by
 unfold programme at h
 obtain ⟨no,l1,h1,h⟩:=bind_ok h
 obtain ⟨nm,l2,h2,h⟩:=bind_ok h
 obtain ⟨u,l3,h3,h⟩:=bind_ok h
 obtain ⟨us,l4,h4,h⟩:=bind_ok h
 obtain ⟨ea,l5,h5,h⟩:=bind_ok h
 obtain ⟨me,l6,h6,h⟩:=bind_ok h
 obtain ⟨qs,l7,h7,h⟩:=bind_ok h
 obtain ⟨u',l8,h8,h⟩:=bind_ok h
 obtain ⟨k1,v1⟩:=gv_number h1 hv
 obtain ⟨k2,v2⟩:=gv_name h2 v1
 obtain ⟨k4,v4⟩:=gv_opt (P:=fun n:Int=>1≤n∧n≤4) (fun l x r h hv=>gv_number h hv) (by decide) h4 (gv_sign h3 v2)
 obtain ⟨k5,v5⟩:=gv_opt (P:=fun n:Int=>0≤n∧n≤10000) (fun l x r h hv=>gv_number h hv) (by decide) h5 v4
 obtain ⟨k6,v6⟩:=gv_opt (P:=fun x:Ratio=>x.fine=true) (fun l x r h hv=>gv_ratio h hv) (by decide) h6 v5
 obtain ⟨⟨k7,k7q⟩,v7⟩:=gv_takes _ [] _ _ _ h7 v6 (by simp) (by simp)
 injection h with ha hb
 subst ha;subst hb
 refine ⟨⟨?_,?_⟩,gv_sign h8 v7⟩
 ·unfold progOk
  simp only
  rw[inB_iff.2 k1,k2,inB_iff.2 k4,inB_iff.2 k5,k6,decide_eq_true k7]
  simp only[Bool.true_and,List.all_eq_true]
  exact fun q hq=>(k7q q hq).1
 ·unfold Prog.un
  simp only
  rw[map_fix fun q hq=>(k7q q hq).2]
theorem gv_standing {x:Cls} (h:standing last l = .ok x r) (hv:Vs l):clsOk x=true∧Vs r:=by
 unfold standing at h
 obtain ⟨nm,l1,h1,h⟩:=bind_ok h
 obtain ⟨ea,l2,h2,h⟩:=bind_ok h
 obtain ⟨u,l3,h3,h⟩:=bind_ok h
 obtain ⟨me,l4,h4,h⟩:=bind_ok h
 obtain ⟨u',l5,h5,h⟩:=bind_ok h
 obtain ⟨k1,v1⟩:=gv_name h1 hv
 obtain ⟨k2,v2⟩:=gv_number h2 v1
 obtain ⟨k4,v4⟩:=gv_ratio h4 (gv_word h3 v2)
 injection h with ha hb
 subst ha;subst hb
 exact ⟨by unfold clsOk;simp only;rw[k1,inB_iff.2 k2,k4];rfl,gv_sign h5 v4⟩
theorem gv_fee {x:Fee} (h:fee last l = .ok x r) (hv:Vs l):feeOk x=true∧Vs r:=by
 unfold fee at h
 obtain ⟨nm,l1,h1,h⟩:=bind_ok h
 obtain ⟨cr,l2,h2,h⟩:=bind_ok h
 obtain ⟨u',l3,h3,h⟩:=bind_ok h
 obtain ⟨k1,v1⟩:=gv_name h1 hv
 obtain ⟨k2,v2⟩:=gv_number h2 v1
 injection h with ha hb
 subst ha;subst hb
 exact ⟨by unfold feeOk;simp only;rw[k1,inB_iff.2 k2];rfl,gv_sign h3 v2⟩
theorem gv_clause {x:Clause} (h:clause last l = .ok x r) (hv:Vs l):clauseOk x=true∧Vs r:=by
 unfold clause at h
 obtain ⟨k,l1,h1,h⟩:=bind_ok h
 obtain ⟨w,l2,h2,h⟩:=bind_ok h
 obtain ⟨a,l3,h3,h⟩:=bind_ok h
 obtain ⟨u,l4,h4,h⟩:=bind_ok h
 obtain ⟨n,l5,h5,h⟩:=bind_ok h
 obtain ⟨u',l6,h6,h⟩:=bind_ok h
 obtain ⟨k1,v1⟩:=gv_oneOf h1 hv
 obtain ⟨k2,v2⟩:=gv_oneOf h2 v1
 obtain ⟨k3,v3⟩:=gv_oneOf h3 v2
 obtain ⟨k5,v5⟩:=gv_number h5 (gv_word h4 v3)
 have e1:(kindWords.length:Int)=5:=rfl
 have e2:(whenWords.length:Int)=3:=rfl
 have e3:(actionWords.length:Int)=3:=rfl
 injection h with ha hb
 subst ha;subst hb
 exact ⟨by unfold clauseOk;simp only;rw[inB_iff.2 (by omega),inB_iff.2 (by omega),inB_iff.2 (by omega),inB_iff.2 k5];rfl,gv_sign h6 v5⟩
end
def CatGood (c:Cat):Prop:=catOk c=true∧c.un=c
theorem all_snoc {α:Type} {p:α→Bool} {xs:List α} {x:α} (h:xs.all p=true) (hx:p x=true):(xs++[x]).all p=true:=by rw [List.all_append,h];simp[hx]
theorem gv_define {last:Int} {w:List UInt8} {c x:Cat} {l r:List Tok} (h:defineR last w c l = .ok x r) (hv:Vs l) (hc:CatGood c):CatGood x∧Vs r:=by
 obtain ⟨hc1,hc2⟩:=hc
 unfold catOk at hc1
 simp only[Bool.and_eq_true] at hc1
 obtain ⟨⟨⟨⟨⟨⟨g1,g2⟩,g3⟩,g4⟩,g5⟩,g6⟩,g7⟩:=hc1
 have u1:c.courses.map Course.un=c.courses:=congrArg Cat.courses hc2
 have u2:c.same.map Pair.un=c.same:=congrArg Cat.same hc2
 have u3:c.progs.map Prog.un=c.progs:=congrArg Cat.progs hc2
 unfold defineR at h
 split at h
 ·obtain ⟨y,l1,h1,h⟩:=bind_ok h
  obtain ⟨⟨k1,k2⟩,v1⟩:=gv_course h1 hv
  injection h with ha hb
  subst ha;subst hb
  refine ⟨⟨?_,?_⟩,v1⟩
  ·unfold catOk;simp only;rw[all_snoc g1 k1,g2,g3,g4,g5,g6,g7];rfl
  ·unfold Cat.un;simp only;rw[List.map_append,u1,u2,u3,List.map_cons,List.map_nil,k2]
 split at h
 ·obtain ⟨y,l1,h1,h⟩:=bind_ok h
  obtain ⟨⟨k1,k2⟩,v1⟩:=gv_same h1 hv
  injection h with ha hb
  subst ha;subst hb
  refine ⟨⟨?_,?_⟩,v1⟩
  ·unfold catOk;simp only;rw[g1,all_snoc g2 k1,g3,g4,g5,g6,g7];rfl
  ·unfold Cat.un;simp only;rw[List.map_append,u1,u2,u3,List.map_cons,List.map_nil,k2]
 split at h
 ·obtain ⟨y,l1,h1,h⟩:=bind_ok h
  obtain ⟨⟨k1,k2⟩,v1⟩:=gv_programme h1 hv
  injection h with ha hb
  subst ha;subst hb
  refine ⟨⟨?_,?_⟩,v1⟩
  ·unfold catOk;simp only;rw[g1,g2,all_snoc g3 k1,g4,g5,g6,g7];rfl
  ·unfold Cat.un;simp only;rw[List.map_append,u1,u2,u3,List.map_cons,List.map_nil,k2]
 split at h
 ·obtain ⟨y,l1,h1,h⟩:=bind_ok h
  obtain ⟨k1,v1⟩:=gv_standing h1 hv
  injection h with ha hb
  subst ha;subst hb
  refine ⟨⟨?_,?_⟩,v1⟩
  ·unfold catOk;simp only;rw[g1,g2,g3,all_snoc g4 k1,g5,g6,g7];rfl
  ·unfold Cat.un;simp only;rw[u1,u2,u3]
 split at h
 ·obtain ⟨y,l1,h1,h⟩:=bind_ok h
  obtain ⟨k1,v1⟩:=gv_standing h1 hv
  injection h with ha hb
  subst ha;subst hb
  refine ⟨⟨?_,?_⟩,v1⟩
  ·unfold catOk;simp only;rw[g1,g2,g3,g4,g5,all_snoc g6 k1,g7];rfl
  ·unfold Cat.un;simp only;rw[u1,u2,u3]
 split at h
 ·obtain ⟨y,l1,h1,h⟩:=bind_ok h
  obtain ⟨k1,v1⟩:=gv_fee h1 hv
  injection h with ha hb
  subst ha;subst hb
  refine ⟨⟨?_,?_⟩,v1⟩
  ·unfold catOk;simp only;rw[g1,g2,g3,g4,all_snoc g5 k1,g6,g7];rfl
  ·unfold Cat.un;simp only;rw[u1,u2,u3]
 ·obtain ⟨y,l1,h1,h⟩:=bind_ok h
  obtain ⟨k1,v1⟩:=gv_clause h1 hv
  injection h with ha hb
  subst ha;subst hb
  refine ⟨⟨?_,?_⟩,v1⟩
  ·unfold catOk;simp only;rw[g1,g2,g3,g4,g5,g6,all_snoc g7 k1];rfl
  ·unfold Cat.un;simp only;rw[u1,u2,u3]
theorem gv_defs {last:Int} : ∀ (n:Nat) (c:Cat) (l:List Tok) (x:Cat) (r:List Tok),defs last n c l = .ok x r→Vs l→CatGood c→CatGood x
 | 0,c,l,x,r,h,_,hc=>by
  rw[defs] at h
  injection h with h1 _
  subst h1;exact hc
 | n+1,c,[],x,r,h,_,hc=>by
  simp only[defs,R.ok.injEq] at h
  rw[←h.1];exact hc
 | n+1,c,t::l,x,r,h,hv,hc=>by
  cases hf:defT t with
  | none=>rw [defs_none hf] at h;cases h
  | some w=>
   rw[defs_some hf] at h
   obtain ⟨c1,l1,h1,h⟩:=bind_ok h
   obtain ⟨k1,v1⟩:=gv_define h1 (fun q hq=>hv q (by simp [hq])) hc
   exact gv_defs n c1 l1 x r h v1 k1
theorem parse_good {src:List UInt8} {c:Cat} (h:parse src = .ok c):catOk c=true∧c.un=c:=by
 obtain ⟨l,_,k1,k2⟩:=parseBy_ok h
 unfold catalogue at k2
 exact gv_defs _ _ _ _ _ k2 (fun t ht=>(Lx.lex_texts k1 t ht).1) ⟨rfl,rfl⟩
theorem parseRule_good {src:List UInt8} {x:Rule} (h:parseRule src = .ok x):ruleOk 16 x=true∧x.un=x:=by
 obtain ⟨l,_,k1,k2⟩:=parseBy_ok h
 exact (gv_rule 16 0 l x [] k2 (fun t ht=>(Lx.lex_texts k1 t ht).1)).1.1
end Go.Proofs.YtjonaidancomgaaGreatDoor.Sx

namespace Go.Proofs.YtjonaidancomgaaGreatDoor.Sx
open Lx (Tok)

section
variable {last : Int} {l r : List Tok}
theorem sz_ref {p:List UInt8 × Int} (h:ref last l = .ok p r) (hv:Vs l):(refT p.1 p.2).length+r.length≤l.length:=by
 unfold ref at h
 split at h
 ·rename_i hh
  obtain ⟨n,l1,h1,h2⟩:=bind_ok h
  have e1:=eats_number last _ _ _ _ _ h1
  have e2:=hit_tail hh
  injection h2 with h2 h3
  subst h2;subst h3
  simp only[refT,List.isEmpty_nil,if_true,List.length_cons,List.length_nil]
  omega
 ·obtain ⟨s,l1,h1,h2⟩:=bind_ok h
  have e1:=eats_name last _ _ _ h1
  have e2:=isName_ne (gv_name h1 hv).1
  injection h2 with h2 h3
  subst h2;subst h3
  simp only[refT,e2,Bool.false_eq_true,if_false,List.length_cons,List.length_nil]
  omega
theorem sz_opt {α:Type} {w:List UInt8} {f:List Tok→R α} {d x:α} {ts:α→Nat} (hf:∀ l x r,f l = .ok x r→Vs l→ts x+r.length≤l.length) (hd:opt last w f d l = .ok x r) (hv:Vs l):(∃ l1,hit 1 w l=true∧f l.tail = .ok x l1∧ts x+2+r.length≤l.length)∨x=d∧r=l:=by
 unfold opt at hd
 split at hd
 ·rename_i hh
  obtain ⟨y,l1,h1,h⟩:=bind_ok hd
  obtain ⟨u,l2,h2,h⟩:=bind_ok h
  have e1:=hf _ _ _ h1 hv.tail
  have e2:=eats_need last _ _ _ _ _ h2
  have e3:=hit_tail hh
  injection h with h3 h4
  subst h3;subst h4
  exact .inl ⟨l1,hh,h1,by omega⟩
 ·injection hd with h3 h4
  exact .inr ⟨h3.symm,h4.symm⟩
end
theorem kidsT_app:∀ (a b:List Rule),(kidsT (a++b)).length=(kidsT a).length+(kidsT b).length
 | [],b=>by simp [kidsT]
 | x::a,b=>by rw [List.cons_append,kidsT,kidsT,List.length_append,List.length_append,List.length_cons,List.length_cons,kidsT_app a b];omega
theorem sz_kids {last:Int} {f:Nat→List Tok→R Rule} (hf:∀ b l x r,f b l = .ok x r→Vs l→(ruleT x).length+r.length≤l.length∧Vs r) (he:∀ b l,Eats 1 l (f b l)) :
  ∀ (n:Nat) (acc:List Rule) (l:List Tok) (ks:List Rule) (r:List Tok),l.length+1≤n→kids last f n acc l = .ok ks r→Vs l→(kidsT ks).length+1+r.length≤(kidsT acc).length+l.length
 | 0,acc,l,ks,r,hn,_,_=>by omega
 | n+1,acc,l,ks,r,hn,h,hv=>by
  rw[kids] at h
  split at h
  ·rename_i hh
   have e3:=hit_tail hh
   injection h with h1 h2
   subst h1;subst h2
   omega
  ·obtain ⟨y,l1,h1,h⟩:=bind_ok h
   obtain ⟨u,l2,h2,h⟩:=bind_ok h
   obtain ⟨e1,v1⟩:=hf _ _ _ _ h1 hv
   have e2:=eats_need last _ _ _ _ _ h2
   have e3:=he _ _ _ _ h1
   have:=sz_kids hf he n (acc++[y]) l2 ks r (by omega) h (gv_sign h2 v1)
   rw[kidsT_app,kidsT,kidsT,List.length_append,List.length_cons,List.length_nil] at this
   omega
theorem sz_rule {last:Int} : ∀ (k b:Nat) (l:List Tok) (x:Rule) (r:List Tok),rule last k b l = .ok x r→Vs l→(ruleT x).length+r.length≤l.length∧Vs r
 | 0,b,l,x,r,h,hv=>by
  rw[rule] at h
  obtain ⟨y,l1,h1,h⟩:=bind_ok h
  unfold fail at h;cases h
 | k+1,b,l,x,r,h,hv=>by
  refine ⟨?_,(gv_rule _ _ _ _ _ h hv).2⟩
  rw[rule] at h
  obtain ⟨i,l1,h1,h⟩:=bind_ok h
  have v1:=(gv_oneOf h1 hv).2
  have e0:=eats_oneOf last _ _ _ _ h1
  split at h
  ·unfold fail at h;cases h
  have ih:=fun b l x r=>sz_rule (last:=last) k b l x r
  obtain ⟨op,hop⟩:∃ op,op=i+1:=⟨_,rfl⟩
  rw[←hop] at h
  unfold ruleBody at h
  split at h
  ·rename_i h4
   obtain ⟨q,l2,h2,h⟩:=bind_ok h
   have e2:=(ih _ _ _ _ h2 v1).1
   injection h with ha hb
   subst ha;subst hb
   rw[ruleT];simp[notT];omega
  split at h
  ·rename_i h5
   obtain ⟨p,l2,h2,h⟩:=bind_ok h
   obtain ⟨n,l3,h3,h⟩:=bind_ok h
   have e2:=sz_ref h2 v1
   have e3:=eats_number last _ _ _ _ _ h3
   injection h with ha hb
   subst ha;subst hb
   rw[ruleT];simp;omega
  split at h
  ·obtain ⟨p,l2,h2,h⟩:=bind_ok h
   obtain ⟨n,l3,h3,h⟩:=bind_ok h
   have e2:=sz_ref h2 v1
   have e3:=eats_number last _ _ _ _ _ h3
   injection h with ha hb
   subst ha;subst hb
   rw[ruleT];simp;omega
  split at h
  ·obtain ⟨n,l3,h3,h⟩:=bind_ok h
   have e3:=eats_number last _ _ _ _ _ h3
   injection h with ha hb
   subst ha;subst hb
   rw[ruleT];simp;omega
  split at h
  ·obtain ⟨q,l3,h3,h⟩:=bind_ok h
   have e3:=eats_ratio last _ _ _ h3
   injection h with ha hb
   subst ha;subst hb
   rw[ruleT];simp[ratioT];omega
  split at h
  ·obtain ⟨p,l2,h2,h⟩:=bind_ok h
   have e2:=sz_ref h2 v1
   injection h with ha hb
   subst ha;subst hb
   rw[ruleT];simp;omega
  split at h
  ·obtain ⟨n,l2,h2,h⟩:=bind_ok h
   obtain ⟨u,l3,h3,h⟩:=bind_ok h
   obtain ⟨ks,l4,h4,h⟩:=bind_ok h
   have v2:=(gv_number h2 v1).2
   have e2:=eats_number last _ _ _ _ _ h2
   have e3:=eats_need last _ _ _ _ _ h3
   have e4:=sz_kids ih (fun b l=>eats_rule last k b l) _ _ _ _ _ (Nat.le_refl _) h4 (gv_sign h3 v2)
   injection h with ha hb
   subst ha;subst hb
   rw[ruleT];simp[kidsT] at e4 ⊢;omega
  ·rename_i g4 g5 g6 g7 g8 g9 g3
   obtain ⟨u,l3,h3,h⟩:=bind_ok h
   obtain ⟨ks,l4,h4,h⟩:=bind_ok h
   have e3:=eats_need last _ _ _ _ _ h3
   have e4:=sz_kids ih (fun b l=>eats_rule last k b l) _ _ _ _ _ (Nat.le_refl _) h4 (gv_sign h3 v1)
   injection h with ha hb
   subst ha;subst hb
   rw[ruleT]
   simp only[g4,g5,g6,g7,g8,g9,g3,or_self,if_false]
   simp[kidsT] at e4 ⊢;omega
section
variable {last : Int} {l r : List Tok}
theorem sz_course {x:Course} (h:course last l = .ok x r) (hv:Vs l):(courseT x).length+r.length≤l.length+1:=by
 rw[course_eq] at h
 obtain ⟨no,l1,h1,h⟩:=bind_ok h
 obtain ⟨nm,l2,h2,h⟩:=bind_ok h
 obtain ⟨cr,l3,h3,h⟩:=bind_ok h
 have v1:=(gv_number h1 hv).2
 have v2:=(gv_name h2 v1).2
 have v3:=(gv_number h3 v2).2
 have e1:=eats_number last _ _ _ _ _ h1
 have e2:=eats_name last _ _ _ h2
 have e3:=eats_number last _ _ _ _ _ h3
 have hrep:∃ i l4,rep l3=(i,l4)∧Vs l4∧(if i≠0 then 1 else 0)+l4.length≤l3.length:=by
  unfold rep
  cases hf:find repeatWords l3 with
  | none=>exact ⟨0,l3,rfl,v3,by simp⟩
  | some i=>
   have:=find_tail hf
   refine ⟨i,l3.tail,rfl,v3.tail,?_⟩
   split <;> omega
 obtain ⟨i,l4,e4,v4,z4⟩:=hrep
 rw[e4] at h
 obtain ⟨u,l5,h5,h⟩:=bind_ok h
 obtain ⟨nd,l6,h6,h⟩:=bind_ok h
 obtain ⟨br,l7,h7,h⟩:=bind_ok h
 obtain ⟨u',l8,h8,h⟩:=bind_ok h
 have e5:=eats_need last _ _ _ _ _ h5
 have v5:=gv_sign h5 v4
 have hr:=fun l x r (h:rule last 16 0 l = .ok x r) (hv:Vs l)=>(sz_rule 16 0 l x r h hv).1
 have v6:=(gv_opt (P:=RuleGood 16) (fun l x r h hv=>⟨(gv_rule 16 0 l x r h hv).1.1,(gv_rule 16 0 l x r h hv).2⟩) ⟨by decide,rfl⟩ h6 v5).2
 have e8:=eats_need last _ _ _ _ _ h8
 have z6:(if nd.op≠1∨nd.kids≠[] then nameT wNeed::(ruleT nd++[sgT 59]) else []).length+l6.length≤l5.length:=by
  rcases sz_opt (ts:=fun x=>(ruleT x).length) hr h6 v5 with ⟨_,_,_,hz⟩ | ⟨rfl,rfl⟩
  ·split <;> simp <;> omega
  ·simp[Rule.op,Rule.kids]
 have z7:(if br.op≠2∨br.kids≠[] then nameT wBar::(ruleT br++[sgT 59]) else []).length+l7.length≤l6.length:=by
  rcases sz_opt (ts:=fun x=>(ruleT x).length) hr h7 v6 with ⟨_,_,_,hz⟩ | ⟨rfl,rfl⟩
  ·split <;> simp <;> omega
  ·simp[Rule.op,Rule.kids]
 injection h with ha hb
 subst ha;subst hb
 unfold courseT
 simp only[List.length_append,List.length_cons,List.length_nil]
 have z4':(if i≠0 then [nameT (repeatWords.getD i.toNat [])] else []).length+l4.length≤l3.length:=by
  split <;> rename_i hh <;> simp [hh] at z4 ⊢ <;> omega
 dsimp only at e5
 omega
theorem sz_same {x:Pair} (h:same last l = .ok x r) (hv:Vs l):(pairT x).length+r.length≤l.length+1:=by
 unfold same at h
 obtain ⟨a,l1,h1,h⟩:=bind_ok h
 obtain ⟨u,l2,h2,h⟩:=bind_ok h
 obtain ⟨b,l3,h3,h⟩:=bind_ok h
 obtain ⟨u',l4,h4,h⟩:=bind_ok h
 have v1:=(gv_ref h1 hv).2
 have e1:=sz_ref h1 hv
 have e2:=eats_need last _ _ _ _ _ h2
 have e3:=sz_ref h3 (gv_sign h2 v1)
 have e4:=eats_need last _ _ _ _ _ h4
 injection h with ha hb
 subst ha;subst hb
 unfold pairT
 simp only[List.length_append,List.length_cons,List.length_nil]
 omega
theorem refsT_snoc:∀ (ps:List (List UInt8 × Int)) (p:List UInt8 × Int),refsT (ps++[p])=(if ps.isEmpty then [] else refsT ps++[sgT 44])++refT p.1 p.2
 | [],p=>by simp [refsT]
 | [q],p=>by simp [refsT]
 | q::s::ps,p=>by
  have:=refsT_snoc (s::ps) p
  rw[List.cons_append,List.cons_append,refsT,←List.cons_append,this,refsT]
  simp
theorem sz_refs:∀ (n:Nat) (acc:List (List UInt8 × Int)) (l:List Tok) (x:List (List UInt8 × Int)) (r:List Tok),l.length+1≤n→refs last n acc l = .ok x r→Vs l→(refsT x).length+r.length≤(if acc.isEmpty then 0 else (refsT acc).length+1)+l.length
 | 0,acc,l,x,r,hn,_,_=>by omega
 | n+1,acc,l,x,r,hn,h,hv=>by
  rw[refs] at h
  obtain ⟨p,l1,h1,h⟩:=bind_ok h
  have v1:=(gv_ref h1 hv).2
  have e1:=sz_ref h1 hv
  have hs:=congrArg List.length (refsT_snoc acc p)
  have hz:(refsT (acc++[p])).length=(if acc.isEmpty then 0 else (refsT acc).length+1)+(refT p.1 p.2).length:=by
   rw[hs];split <;> simp <;> omega
  split at h
  ·rename_i hh
   have e2:=hit_tail hh
   have e3:=eats_ref last l p l1 h1
   have:=sz_refs n (acc++[p]) l1.tail x r (by omega) h v1.tail
   rw[if_neg (by simp),hz] at this
   omega
  ·injection h with h2 h3
   subst h2;subst h3
   rw[hz];omega
theorem sz_take {x:Req} (h:take last l = .ok x r) (hv:Vs l):(reqT x).length+r.length≤l.length+1:=by
 unfold take at h
 obtain ⟨nm,l1,h1,h⟩:=bind_ok h
 obtain ⟨cr,l2,h2,h⟩:=bind_ok h
 obtain ⟨u,l3,h3,h⟩:=bind_ok h
 obtain ⟨rs,l4,h4,h⟩:=bind_ok h
 obtain ⟨g,l5,h5,h⟩:=bind_ok h
 simp only at h
 obtain ⟨u',l6,h6,h⟩:=bind_ok h
 have v1:=(gv_name h1 hv).2
 have v2:=(gv_number h2 v1).2
 have e1:=eats_name last _ _ _ h1
 have e2:=eats_number last _ _ _ _ _ h2
 have e3:=eats_need last _ _ _ _ _ h3
 have e4:=sz_refs _ [] _ _ _ (Nat.le_refl _) h4 (gv_word h3 v2)
 have e6:=eats_need last _ _ _ _ _ h6
 have hg:(if g≠1 then [nameT wAt,numT g] else []).length+l5.length≤l4.length:=by
  split at h5
  ·rename_i hh
   have e5:=eats_number last _ _ _ _ _ h5
   have e7:=hit_tail hh
   split <;> simp <;> omega
  ·injection h5 with ha hb
   subst ha;subst hb
   simp
 have hm:(if hit 1 wHome l5 then [nameT wHome] else []).length+(if hit 1 wHome l5 then l5.tail else l5).length≤l5.length:=by
  split
  ·rename_i hh
   have e7:=hit_tail hh
   simp;omega
  ·simp
 injection h with ha hb
 subst ha;subst hb
 unfold reqT
 simp only[List.length_append,List.length_cons,List.length_nil,zip_fst_snd]
 simp only[List.isEmpty_nil,if_true] at e4
 omega
theorem sz_takes:∀ (n:Nat) (acc:List Req) (l:List Tok) (x:List Req) (r:List Tok),takes last n acc l = .ok x r→Vs l→(x.flatMap reqT).length+r.length≤(acc.flatMap reqT).length+l.length
 | 0,acc,l,x,r,h,hv=>by
  rw[takes] at h
  injection h with h1 h2
  subst h1;subst h2
  omega
 | n+1,acc,l,x,r,h,hv=>by
  rw[takes] at h
  split at h
  ·rename_i hh
   split at h
   ·unfold fail at h;cases h
   ·obtain ⟨q,l1,h1,h⟩:=bind_ok h
    have e1:=sz_take h1 hv.tail
    have e2:=hit_tail hh
    have:=sz_takes n (acc++[q]) l1 x r h (gv_take h1 hv.tail).2
    rw[List.flatMap_append,List.length_append,List.flatMap_cons,List.flatMap_nil,List.append_nil] at this
    omega
  ·injection h with h1 h2
   subst h1;subst h2
   omega
theorem sz_programme {x:Prog} (h:programme last l = .ok x r) (hv:Vs l):(progT x).length+r.length≤l.length+1:=by
 unfold programme at h
 obtain ⟨no,l1,h1,h⟩:=bind_ok h
 obtain ⟨nm,l2,h2,h⟩:=bind_ok h
 obtain ⟨u,l3,h3,h⟩:=bind_ok h
 obtain ⟨us,l4,h4,h⟩:=bind_ok h
 obtain ⟨ea,l5,h5,h⟩:=bind_ok h
 obtain ⟨me,l6,h6,h⟩:=bind_ok h
 obtain ⟨qs,l7,h7,h⟩:=bind_ok h
 obtain ⟨u',l8,h8,h⟩:=bind_ok h
 have v1:=(gv_number h1 hv).2
 have v2:=(gv_name h2 v1).2
 have v3:=gv_sign h3 v2
 have v4:=(gv_opt (P:=fun n:Int=>1≤n∧n≤4) (fun l x r h hv=>gv_number h hv) (by decide) h4 v3).2
 have v5:=(gv_opt (P:=fun n:Int=>0≤n∧n≤10000) (fun l x r h hv=>gv_number h hv) (by decide) h5 v4).2
 have v6:=(gv_opt (P:=fun x:Ratio=>x.fine=true) (fun l x r h hv=>gv_ratio h hv) (by decide) h6 v5).2
 have e1:=eats_number last _ _ _ _ _ h1
 have e2:=eats_name last _ _ _ h2
 have e3:=eats_need last _ _ _ _ _ h3
 have z4:(if us≠1 then [nameT wUses,numT us,sgT 59] else []).length+l4.length≤l3.length:=by
  rcases sz_opt (ts:=fun _=>1) (fun l x r h hv=>by have:=eats_number last _ _ _ _ _ h;omega) h4 v3 with ⟨_,_,_,hz⟩ | ⟨rfl,rfl⟩
  ·split <;> simp <;> omega
  ·simp
 have z5:(if ea≠0 then [nameT wEarn,numT ea,sgT 59] else []).length+l5.length≤l4.length:=by
  rcases sz_opt (ts:=fun _=>1) (fun l x r h hv=>by have:=eats_number last _ _ _ _ _ h;omega) h5 v4 with ⟨_,_,_,hz⟩ | ⟨rfl,rfl⟩
  ·split <;> simp <;> omega
  ·simp
 have z6:(if me.num≠0 then nameT wMean::(ratioT me++[sgT 59]) else []).length+l6.length≤l5.length:=by
  rcases sz_opt (ts:=fun _=>3) (fun l x r h hv=>by have:=eats_ratio last _ _ _ h;omega) h6 v5 with ⟨_,_,_,hz⟩ | ⟨rfl,rfl⟩
  ·split <;> simp [ratioT] <;> omega
  ·simp
 have z7:=sz_takes _ [] _ _ _ h7 v6
 have e8:=eats_need last _ _ _ _ _ h8
 injection h with ha hb
 subst ha;subst hb
 unfold progT
 simp only[List.length_append,List.length_cons,List.length_nil]
 simp only[List.flatMap_nil,List.length_nil] at z7
 omega
theorem sz_standing {w:List UInt8} {x:Cls} (h:standing last l = .ok x r):(clsT w x).length+r.length≤l.length+1:=by
 unfold standing at h
 obtain ⟨nm,l1,h1,h⟩:=bind_ok h
 obtain ⟨ea,l2,h2,h⟩:=bind_ok h
 obtain ⟨u,l3,h3,h⟩:=bind_ok h
 obtain ⟨me,l4,h4,h⟩:=bind_ok h
 obtain ⟨u',l5,h5,h⟩:=bind_ok h
 have e1:=eats_name last _ _ _ h1
 have e2:=eats_number last _ _ _ _ _ h2
 have e3:=eats_need last _ _ _ _ _ h3
 have e4:=eats_ratio last _ _ _ h4
 have e5:=eats_need last _ _ _ _ _ h5
 injection h with ha hb
 subst ha;subst hb
 simp[clsT,ratioT];omega
theorem sz_fee {x:Fee} (h:fee last l = .ok x r):(feeT x).length+r.length≤l.length+1:=by
 unfold fee at h
 obtain ⟨nm,l1,h1,h⟩:=bind_ok h
 obtain ⟨cr,l2,h2,h⟩:=bind_ok h
 obtain ⟨u',l3,h3,h⟩:=bind_ok h
 have e1:=eats_name last _ _ _ h1
 have e2:=eats_number last _ _ _ _ _ h2
 have e3:=eats_need last _ _ _ _ _ h3
 injection h with ha hb
 subst ha;subst hb
 simp[feeT];omega
theorem sz_clause {x:Clause} (h:clause last l = .ok x r):(clauseT x).length+r.length≤l.length+1:=by
 unfold clause at h
 obtain ⟨k,l1,h1,h⟩:=bind_ok h
 obtain ⟨w,l2,h2,h⟩:=bind_ok h
 obtain ⟨a,l3,h3,h⟩:=bind_ok h
 obtain ⟨u,l4,h4,h⟩:=bind_ok h
 obtain ⟨n,l5,h5,h⟩:=bind_ok h
 obtain ⟨u',l6,h6,h⟩:=bind_ok h
 have e1:=eats_oneOf last _ _ _ _ h1
 have e2:=eats_oneOf last _ _ _ _ h2
 have e3:=eats_oneOf last _ _ _ _ h3
 have e4:=eats_need last _ _ _ _ _ h4
 have e5:=eats_number last _ _ _ _ _ h5
 have e6:=eats_need last _ _ _ _ _ h6
 injection h with ha hb
 subst ha;subst hb
 simp[clauseT];omega
theorem sz_define {w:List UInt8} {c x:Cat} (h:defineR last w c l = .ok x r) (hv:Vs l):(catT x).length+r.length≤(catT c).length+l.length+1:=by
 unfold defineR at h
 split at h
 ·obtain ⟨y,l1,h1,h⟩:=bind_ok h
  have e:=sz_course h1 hv
  injection h with ha hb
  subst ha;subst hb
  simp[catT,List.length_append] at e ⊢;omega
 split at h
 ·obtain ⟨y,l1,h1,h⟩:=bind_ok h
  have e:=sz_same h1 hv
  injection h with ha hb
  subst ha;subst hb
  simp[catT,List.length_append] at e ⊢;omega
 split at h
 ·obtain ⟨y,l1,h1,h⟩:=bind_ok h
  have e:=sz_programme h1 hv
  injection h with ha hb
  subst ha;subst hb
  simp[catT,List.length_append] at e ⊢;omega
 split at h
 ·obtain ⟨y,l1,h1,h⟩:=bind_ok h
  have e:=sz_standing (w:=wClass) h1
  injection h with ha hb
  subst ha;subst hb
  simp[catT,List.length_append] at e ⊢;omega
 split at h
 ·obtain ⟨y,l1,h1,h⟩:=bind_ok h
  have e:=sz_standing (w:=wHonour) h1
  injection h with ha hb
  subst ha;subst hb
  simp[catT,List.length_append] at e ⊢;omega
 split at h
 ·obtain ⟨y,l1,h1,h⟩:=bind_ok h
  have e:=sz_fee h1
  injection h with ha hb
  subst ha;subst hb
  simp[catT,List.length_append] at e ⊢;omega
 ·obtain ⟨y,l1,h1,h⟩:=bind_ok h
  have e:=sz_clause h1
  injection h with ha hb
  subst ha;subst hb
  simp[catT,List.length_append] at e ⊢;omega
end
theorem sz_defs {last:Int} : ∀ (n:Nat) (c:Cat) (l:List Tok) (x:Cat) (r:List Tok),defs last n c l = .ok x r→Vs l→CatGood c→(catT x).length≤(catT c).length+l.length
 | 0,c,l,x,r,h,_,_=>by
  rw[defs] at h
  injection h with h1 _
  subst h1;omega
 | n+1,c,[],x,r,h,_,_=>by
  simp only[defs,R.ok.injEq] at h
  rw[←h.1];omega
 | n+1,c,t::l,x,r,h,hv,hc=>by
  cases hf:defT t with
  | none=>rw [defs_none hf] at h;cases h
  | some w=>
   rw[defs_some hf] at h
   obtain ⟨c1,l1,h1,h⟩:=bind_ok h
   have hv':Vs l:=fun q hq=>hv q (by simp [hq])
   obtain ⟨k1,v1⟩:=gv_define h1 hv' hc
   have e1:=sz_define h1 hv'
   have:=sz_defs n c1 l1 x r h v1 k1
   simp only[List.length_cons]
   omega
theorem parse_size {src:List UInt8} {c:Cat} (h:parse src = .ok c):(catT c).length≤src.length:=by
 obtain ⟨l,_,k1,k2⟩:=parseBy_ok h
 unfold catalogue at k2
 have:=sz_defs _ _ _ _ _ k2 (fun t ht=>(Lx.lex_texts k1 t ht).1) ⟨rfl,rfl⟩
 have h0:(catT Cat.none).length=0:=rfl
 have:=(Lx.lex_len k1).2
 omega
end Go.Proofs.YtjonaidancomgaaGreatDoor.Sx
