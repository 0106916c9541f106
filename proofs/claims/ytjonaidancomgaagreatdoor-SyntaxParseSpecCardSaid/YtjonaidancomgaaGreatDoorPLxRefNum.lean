/- Parts of the proof, joined into one text: LxRefNum, LxRefLex, RpBeg. -/
import Derived.Test.YtjonaidancomgaaGreatDoorPSxCata
import Derived.Deep.QuietTactic
import Derived.Test.YtjonaidancomgaaGreatDoorPRpParC
import Derived.Test.YtjonaidancomgaaGreatDoorPLxPlain

namespace Go.Proofs.YtjonaidancomgaaGreatDoor
open Go.RowKit
open Lx (Tok)

theorem Lx.decVal_take {l:List UInt8} {k:Nat} {c:UInt8} (h:l[k]?=some c):Lx.decVal 0 (l.take (k+1))=10*Lx.decVal 0 (l.take k)+(c.toNat - 48):=by
 rw[List.take_add_one,h]
 exact Lx.decVal_snoc _ _ _
theorem Lx.decVal_le (l:List UInt8) (k:Nat):Lx.decVal 0 (l.take k)≤Lx.decVal 0 l:=by
 have e:Lx.decVal 0 l=Lx.decVal (Lx.decVal 0 (l.take k)) (l.drop k):=by
  unfold Lx.decVal
  rw[←List.foldl_append,List.take_append_drop]
 rw[e]
 exact Lx.decVal_ge _ _

def NumPost (s:List UInt8) (w:World) (e:Ending) (w':World):Prop:=
 ∃ (v:Int) (b:Bool),e = .returned (.tuple #[.int .i64 v,.bool b])∧(match Lx.number s with | some n=>v=n∧b=true | none=>b=false)∧∃ k,w'=w.drewN k

set_option maxHeartbeats 1000000 in
theorem rNumber (s:ByteArray) (w:World) (hs:s.size≤65536) (h0:0 < s.size) (hf:s.data.toList.all Lx.figure=true) :
  Calls Tryz.prog 168 #[.string s] w (NumPost s.data.toList w):=by
 go_enter Tryz.func168,Tryz.ntmps168
 go_wp2
 go_loop [4,5] (fun n i=>∃ k:Nat,k≤s.size∧i = .int .i64 k∧n = .int .i64 (Lx.decVal 0 (s.data.toList.take k))∧Lx.decVal 0 (s.data.toList.take k)≤1099511627776) (fun _ i=>s.size - (intOf i).toNat)
 case atStart=>exact ⟨0,by omega,rfl,rfl,by simp [Lx.decVal]⟩
 case round=>
  obtain ⟨k,hk,rfl,rfl,hb⟩:=hrel
  obtain ⟨V,hV⟩:∃ V,V=Lx.decVal 0 (s.data.toList.take k):=⟨_,rfl⟩
  rw[←hV] at hb ⊢
  have HV:=Lh hV;clear hV
  by_cases hlt:k < s.size
  ·have hget:s.data.toList[k]?=some s[k]:=by
    rw[List.getElem?_eq_getElem (by rw [Lx.ba_len];exact hlt)]
    rw[Lx.ba_get s k hlt]
   have hnext:=Lx.decVal_take hget
   have hfig:=Lx.figure_nat (List.all_eq_true.1 hf s[k] (List.mem_of_getElem? hget))
   have hle:=Lx.decVal_le s.data.toList (k+1)
   rw[←HV.out] at hnext
   have hgb:(s[k].toNat:Int)≤57:=by omega
   have hgc:48≤(s[k].toNat:Int):=by omega
   have Hf:=Lh hf;have Hget:=Lh hget
   clear hf hget
   by_cases hbig:1099511627776 < 10*V+(s[k].toNat - 48)
   ·have hnone:Lx.number s.data.toList=none:=Lx.number_big (by omega)
    have Hnone:=Lh hnone
    have Hn:=Lh hnext;have Hle:=Lh hle
    clear hnone hnext hle
    have hb2:(1099511627776:Int) < 10*(V:Int)+((s[k].toNat:Int) - 48):=by omega
    go_wp2
    go_ret2
    refine ⟨_,_,rfl,?_,0,rfl⟩
    rw[Hnone.out]
   ·have hb2:10*(V:Int)+((s[k].toNat:Int) - 48)≤1099511627776:=by omega
    have Hn:=Lh hnext;have Hle:=Lh hle
    clear hnext hle
    go_wp2
    go_round
    case rel=>exact ⟨k+1,by omega,by go_num,by rw [Hn.out];go_num,by rw [Hn.out];omega⟩
    case measure=>simp [intOf];omega
  ·obtain rfl:k=s.size:=by omega
   have hall:Lx.decVal 0 s.data.toList=V:=by
    have:=HV.out
    rw[List.take_of_length_le (by rw [Lx.ba_len];omega)] at this
    exact this.symm
   have hget:s.data.toList[0]?=some s[0]:=by
    rw[List.getElem?_eq_getElem (by rw [Lx.ba_len];exact h0)]
    rw[Lx.ba_get s 0 h0]
   have hhead:s.data.toList.head?=some s[0]:=by rw [List.head?_eq_getElem?];exact hget
   have hlen:=Lx.ba_len s
   have Hf:=Lh hf;clear hf hget
   by_cases h1:s.size=1
   ·have hnum:Lx.number s.data.toList=some V:=by
     rw[←hall]
     exact Lx.number_some (by omega) (Or.inl (by omega))
    have h1':((s.size:Int) == 1)=true:=beq_iff_eq.2 (by omega)
    have Hnum:=Lh hnum;have H1:=Lh h1;have Hh:=Lh hhead
    clear hnum hall hlen h1 hhead
    go_wp2
    go_quiet (fail)
    go_wp2
    go_ret2
    refine ⟨_,_,rfl,?_,?_⟩
    ·rw[Hnum.out];exact ⟨rfl,rfl⟩
    ·exact ⟨_,rfl⟩
   ·have h1':((s.size:Int) == 1)=false:=beq_eq_false_iff_ne.2 (by omega)
    by_cases h48:s[0]=48
    ·have hnum:Lx.number s.data.toList=none:=Lx.number_zero (by
      rintro (h | h)
      ·omega
      ·exact h (by rw [hhead,h48]))
     have h48':((s[0].toNat:Int) != 48)=false:=by rw [h48];rfl
     have Hnum:=Lh hnum;have H1:=Lh h1;have Hh:=Lh hhead;have H48:=Lh h48
     clear hnum hall hlen h1 hhead h48
     go_wp2
     go_quiet (fail)
     go_wp2
     go_ret2
     refine ⟨_,_,rfl,?_,?_⟩
     ·rw[Hnum.out]
     ·exact ⟨_,rfl⟩
    ·have hnum:Lx.number s.data.toList=some V:=by
      rw[←hall]
      exact Lx.number_some (by omega) (Or.inr (by rw [hhead];intro h;injection h with h;exact h48 h))
     have h48':((s[0].toNat:Int) != 48)=true:=by
      rw[bne_iff_ne]
      intro h
      exact h48 (UInt8.toNat_inj.1 (by have:(48:UInt8).toNat=48:=rfl;omega))
     have Hnum:=Lh hnum;have H1:=Lh h1;have Hh:=Lh hhead;have H48:=Lh h48
     clear hnum hall hlen h1 hhead h48
     go_wp2
     go_quiet (fail)
     go_wp2
     go_ret2
     refine ⟨_,_,rfl,?_,?_⟩
     ·rw[Hnum.out];exact ⟨rfl,rfl⟩
     ·exact ⟨_,rfl⟩
end Go.Proofs.YtjonaidancomgaaGreatDoor

namespace Go.Proofs.YtjonaidancomgaaGreatDoor
open Go.RowKit
open Lx (Tok)

theorem Lx.tw_end (p:UInt8→Bool) (s:ByteArray) (a n:Nat) (han:a≤n) (hn:n≤s.size) (h1:∀ j (h:j < s.size),a≤j→j < n→p s[j]=true) (h2:∀ h:n < s.size,p s[n]=false) :
  n=a+((s.data.toList.drop a).takeWhile p).length:=by
 have hl:=Lx.ba_len s
 rw[Lx.tw_len _ _ (n - a) (by rw [List.length_drop];omega)]
 ·omega
 ·intro j hj hjn
  rw[List.length_drop] at hj
  rw[List.getElem_drop]
  exact h1 (a+j) (by omega) (by omega) (by omega)
 ·intro hj
  rw[List.length_drop] at hj
  rw[List.getElem_drop]
  have:=h2 (by omega)
  simp only[show a+(n - a)=n by omega]
  exact this
theorem Lx.drop_cons (s:ByteArray) (a:Nat) (h:a < s.size):s.data.toList.drop a=s[a]::s.data.toList.drop (a+1):=by
 rw[List.drop_eq_getElem_cons (by rw [Lx.ba_len];exact h)]
 rfl
theorem Lx.drop_head (s:ByteArray) (a:Nat):(s.data.toList.drop a).head?=if h:a < s.size then some s[a] else none:=by
 split
 ·rename_i h;rw[Lx.drop_cons s a h];rfl
 ·rename_i h;rw[List.drop_of_length_le (by rw [Lx.ba_len];omega)];rfl
theorem own_empty (w:World):(w.alloc (.cells #[] 55)).ownsRow w.heap.size 55 4 (.slice (some ⟨w.heap.size,0,none⟩) 0 0) 0 []:=by
 refine ⟨rfl,Or.inr ⟨w.heap.size,0,#[],rfl,Nat.le_refl _,?_,Nat.le_refl _,by unfold maxLen;omega,rfl,rfl⟩⟩
 show (w.heap.push _)[w.heap.size]?=_
 simp
theorem rel_add {B:Nat} {w wr w1:World} {v v':Value} {o:Obj} {l:List Tok} {t:Tok} {cs:List Value} (hown:wr.ownsRow B 55 4 v l.length (l.flatMap Tok.cells)) (hown':w1.ownsRow B 55 4 v' (l.length+1) (l.flatMap Tok.cells++cs))
  (hg:(wr.alloc o).grownBy w1 v.ownBlock) (hbel:Below B w wr) (hB:B≤wr.heap.size) (hc:cs=t.cells):w1.ownsRow B 55 4 v' (l++[t]).length ((l++[t]).flatMap Tok.cells)∧Below B w w1:=by
 refine ⟨by rw [tok_flat,←hc,List.length_append];exact hown',Below.grown (hbel.trans ((Below.refl _ _).alloc hB o)) hg (by simp;omega) fun k hk=>own_ge hown hk⟩
theorem Lx.ne10 (c:UInt8):(c != 10)=((c.toNat:Int) != 10):=by
 rw[Bool.eq_iff_iff,bne_iff_ne,bne_iff_ne]
 constructor
 ·intro h e
  exact h (UInt8.toNat_inj.1 (by have:(10:UInt8).toNat=10:=rfl;omega))
 ·intro h e
  subst e
  exact h rfl
theorem Lx.eq47 (c:UInt8):(c == 47)=((c.toNat:Int) == 47):=by
 rw[Bool.eq_iff_iff,beq_iff_eq,beq_iff_eq]
 constructor
 ·intro e;subst e;rfl
 ·intro h
  exact UInt8.toNat_inj.1 (by have:(47:UInt8).toNat=47:=rfl;omega)

set_option maxRecDepth 20000 in
set_option maxHeartbeats 4000000 in
theorem rLex (s:ByteArray) (w:World) (hs:s.size≤maxLen):Calls Tryz.prog 91 #[.string s] w (LexPost s.data.toList w):=by
 unfold maxLen at hs
 by_cases hlong:65536 < s.size
 ·go_enter Tryz.func91,Tryz.ntmps91
  go_wp2
  refine bodyPost_ret (v:=.tuple #[.slice none 0 0,.int .i64 0,.int .i64 2]) (by simp [results,Tryz.results91,go_sem]) rfl ⟨Below.refl _ _,by rw [if_pos (by rw [Lx.ba_len];omega)]⟩
 have hshort:s.size≤65536:=by omega
 clear hlong
 obtain ⟨i0,hi0,hz0,hz1,hz2⟩:=info_parts Tryz.infoTok
 go_enter Tryz.func91,Tryz.ntmps91
 go_wp2
 go_loopw [5,6] (fun v i wr=>∃ (a:Nat) (l:List Tok),a≤s.size∧i = .int .i64 a∧l.length≤a∧wr.ownsRow w.heap.size 55 4 v l.length (l.flatMap Tok.cells)∧(Lx.lexAt (s.data.toList.drop a) a).app l=Lx.lex s.data.toList∧Below w.heap.size w wr)
  (fun _ i _=>s.size - (intOf i).toNat)
 case atStart=>exact ⟨0,[],by omega,rfl,by simp,own_empty w,by rw [List.drop_zero,Lx.Res.app_nil];rfl,(Below.refl _ _).alloc (Nat.le_refl _) _⟩
 case round=>
  obtain ⟨a,l,ha,rfl,hla,hown,hlex,hbel⟩:=hrel
  have hwr:=hbel.size
  have Hown:=Lh hown;have Hlex:=Lh hlex;have Hbel:=Lh hbel
  clear hown hlex hbel
  by_cases hlt:a < s.size
  ·have hdrop:=Lx.drop_cons s a hlt
   have Hdrop:=Lh hdrop;clear hdrop
   cases h1:Lx.space s[a]
   case true=>
    have hsp:=rSpace s[a] wr
    rw[h1] at hsp
    have Hsp:=Lh hsp
    clear hsp
    go_wp2_with fail
    refine (Hsp.out).mono ?_
    rintro e w1 ⟨rfl,rfl⟩
    go_wp2_with fail
    go_roundw
    case rel=>exact ⟨a+1,l,by omega,by go_num,by omega,Hown.out,by rw [Lx.skip_lex l Hdrop.out (Lx.step_space h1)];exact Hlex.out,Hbel.out⟩
    case measure=>simp [intOf];omega
   case false=>
    have hsp:=rSpace s[a] wr
    rw[h1] at hsp
    have Hsp:=Lh hsp
    clear hsp
    cases hc:Lx.comment (s.data.toList.drop a)
    case true=>
     have hc':=hc
     rw[Hdrop.out] at hc'
     unfold Lx.comment at hc'
     simp only[Bool.and_eq_true] at hc'
     obtain ⟨hc1,hc2⟩:=hc'
     rw[Lx.drop_head] at hc2
     have hlt2:a+1 < s.size:=by
      by_cases h:a+1 < s.size
      ·exact h
      ·rw[dif_neg h] at hc2;cases hc2
     rw[dif_pos hlt2] at hc2
     have hc2':((s[a+1].toNat:Int) == 47)=true:=by rw [←Lx.eq47];simpa using hc2
     rw[Lx.eq47] at hc1
     have hcl:=Lx.comment_len (c:=s[a]) (r:=s.data.toList.drop (a+1)) (by rw [←Hdrop.out];exact hc)
     rw[←Hdrop.out] at hcl
     have Hc:=Lh hc;have Hlen:=Lh hcl
     clear hc hc2 hcl
     go_wp2_with fail
     refine (Hsp.out).mono ?_
     rintro e w1 ⟨rfl,rfl⟩
     go_wp2_with fail
     go_loopw [6] (fun i w2=>∃ n:Nat,a≤n∧n≤s.size∧i = .int .i64 n∧(∀ j (h:j < s.size),a≤j→j < n→(s[j] != 10)=true)∧w2=wr) (fun i _=>s.size - (intOf i).toNat)
     case atStart=>exact ⟨a,Nat.le_refl _,ha,rfl,fun j _ h1 h2=>absurd h2 (by omega),rfl⟩
     case round=>
      obtain ⟨n,han,hn,rfl,hh,rfl⟩:=hrel
      have Hh:=Lh hh;clear hh
      by_cases hlt3:n < s.size
      ·cases h10:s[n] != 10
       ·have h10':=h10
        rw[Lx.ne10] at h10'
        have e:=Lx.tw_end (· != 10) s a n han hn Hh.out (fun _=>h10)
        have hgt:a < n:=by have:=Hlen.out;omega
        have E:=Lh e;clear e
        go_wp2_with fail
        go_roundw
        case rel=>
         refine ⟨n,l,by omega,rfl,by omega,Hown.out,?_,Hbel.out⟩
         rw[E.out,Lx.skip_lex l Hdrop.out (by rw [Hdrop.out];exact Lx.step_comment (by rw [←Hdrop.out];exact Hc.out))]
         exact Hlex.out
        case measure=>simp [intOf];omega
       ·have h10':=h10
        rw[Lx.ne10] at h10'
        go_wp2_with fail
        go_roundw
        case rel=>
         refine ⟨n+1,by omega,by omega,by go_num,fun j hj haj hjn=>?_,by first | rfl | trivial⟩
         rcases Nat.lt_or_ge j n with h | h
         ·exact Hh.out j hj haj h
         ·obtain rfl:j=n:=by omega
          exact h10
        case measure=>simp [intOf];omega
      ·have e:=Lx.tw_end (· != 10) s a n han hn Hh.out (fun h=>absurd h hlt3)
       have hgt:a < n:=by have:=Hlen.out;omega
       have E:=Lh e;clear e
       go_wp2_with fail
       go_roundw
       case rel=>
        refine ⟨n,l,by omega,rfl,by omega,Hown.out,?_,Hbel.out⟩
        rw[E.out,Lx.skip_lex l Hdrop.out (by rw [Hdrop.out];exact Lx.step_comment (by rw [←Hdrop.out];exact Hc.out))]
        exact Hlex.out
       case measure=>simp [intOf];omega
    case false=>
     have hcB:(((s[a].toNat:Int) == 47)=false)∨(((s[a].toNat:Int) == 47)=true∧¬ a+1 < s.size)∨(((s[a].toNat:Int) == 47)=true∧∃ h:a+1 < s.size,(((s[a+1]'h).toNat:Int) == 47)=false):=by
      have hc':=hc
      rw[Hdrop.out] at hc'
      change (s[a] == 47 && (s.data.toList.drop (a+1)).head? == some 47)=false at hc'
      rw[Lx.eq47,Lx.drop_head] at hc'
      cases h47:((s[a].toNat:Int) == 47)
      ·exact Or.inl rfl
      ·refine Or.inr ?_
       rw[h47,Bool.true_and] at hc'
       by_cases h:a+1 < s.size
       ·rw[dif_pos h] at hc'
        refine Or.inr ⟨rfl,h,?_⟩
        rw[←Lx.eq47]
        simpa using hc'
       ·exact Or.inl ⟨rfl,h⟩
     have Hc:=Lh hc;clear hc
     cases hlet:Lx.letter s[a]
     case true=>
      have h47:((s[a].toNat:Int) == 47)=false:=by
       rw[←Lx.eq47]
       exact beq_eq_false_iff_ne.2 ((Lx.facts s[a]).letter_ hlet).2.2.2
      clear hcB
      have hll:=rLetter s[a] wr
      rw[hlet] at hll
      have Hll:=Lh hll;clear hll
      go_wp2_with fail
      refine (Hsp.out).mono ?_
      rintro e w1 ⟨rfl,rfl⟩
      go_wp2_with fail
      refine (Hll.out).mono ?_
      rintro e w1 ⟨rfl,rfl⟩
      go_wp2_with fail
      go_loopw [6] (fun i w2=>∃ n:Nat,a≤n∧n≤s.size∧i = .int .i64 n∧(∀ j (h:j < s.size),a≤j→j < n→Lx.part s[j]=true)∧w2=wr) (fun i _=>s.size - (intOf i).toNat)
      case atStart=>exact ⟨a,Nat.le_refl _,ha,rfl,fun j _ h1 h2=>absurd h2 (by omega),rfl⟩
      case round=>
       obtain ⟨n,han,hn,rfl,hh,rfl⟩:=hrel
       have Hh:=Lh hh;clear hh
       by_cases hlt3:n < s.size
       ·have hpt:=rPart s[n] wr
        cases hp:Lx.part s[n]
        ·rw[hp] at hpt
         have Hpt:=Lh hpt;clear hpt
         have e:=Lx.tw_end Lx.part s a n han hn Hh.out (fun _=>hp)
         have htw:(s.extract a n).data.toList=(s.data.toList.drop a).takeWhile Lx.part:=by rw [e];exact Lx.ext_tw Lx.part s a
         have htl:=Lx.ba_len (s.extract a n)
         rw[htw] at htl
         have hgt:1≤((s.data.toList.drop a).takeWhile Lx.part).length:=by
          rw[Hdrop.out]
          exact Lx.takeWhile_pos (Lx.part_of_letter hlet)
         have hgn:a < n:=by omega
         obtain ⟨T,hT⟩:∃ T,T=s.extract a n:=⟨_,rfl⟩
         have htz:T.size=n - a:=by rw [hT,←htl];omega
         rw[←hT] at htw
         have hTe:s.extract a n=T:=hT.symm
         have E:=Lh e;have HW:=Lh htw;clear e hT htw htl hgt
         go_wp2_with fail
         refine (Hpt.out).mono ?_
         rintro e w1 ⟨rfl,rfl⟩
         have hnm:=rName T wr (by unfold maxLen;omega)
         cases hn2:Lx.isName T.data.toList
         ·rw[hn2] at hnm
          have Hnm:=Lh hnm;have Hn2:=Lh hn2;clear hnm hn2
          go_wp2_with fail
          refine (Hnm.out).mono ?_
          rintro e w1 ⟨rfl,rfl⟩
          go_wp2_with fail
          have hlx:=Lx.err_lex l Hdrop.out (by
           have hst:=Lx.step_letter (r:=s.data.toList.drop (a+1)) hlet
           rw[←Hdrop.out,←HW.out,Hn2.out] at hst
           exact hst)
          rw[Hlex.out] at hlx
          refine bodyPost_ret (v:=.tuple #[.slice none 0 0,.int .i64 a,.int .i64 90]) (by simp [results,Tryz.results91,go_sem]) rfl ⟨Hbel.out,?_⟩
          rw[if_neg (by rw [Lx.ba_len];omega),hlx]
         ·rw[hn2] at hnm
          have Hnm:=Lh hnm;have Hn2:=Lh hn2;clear hnm hn2
          go_wp2_with fail
          refine (Hnm.out).mono ?_
          rintro e w1 ⟨rfl,rfl⟩
          go_wp2_with (at_builtin;refine wpList_append_own _ rfl (.tmp 78) (.tmp 85) 51 rfl w.heap.size 55 i0 _ 4 40 Tryz.underlying51 hi0 hz0 hz1 hz2 rfl (by decide) _ _ _ rfl (Hown.out.alloc _) ⟨wr.heap.size,0,none⟩ 1 1 [.int .i64 1,.string T,.int .i64 0,.int .i64 a] rfl rfl (World.news_of_block (cs:=#[.int .i64 1,.string T,.int .i64 0,.int .i64 a]) (t:=55) (fr:=(0,0)) (heap_alloc_new wr _)) (by simp [Value.oneCell']) (by unfold maxLen;omega) (by omega) (by simp;omega) ?_;intro v' w5 hown5 hgrow5 _;have R5:=Lh (rel_add (t:=⟨1,T.data.toList,0,a⟩) Hown.out hown5 hgrow5 Hbel.out hwr (by simp [Tok.cells]));clear hown5 hgrow5)
          go_roundw
          case rel=>
           refine ⟨n,l++[⟨1,T.data.toList,0,a⟩],by omega,by go_num,by rw [List.length_append];simp;omega,?_,?_,R5.out.2⟩
           ·exact R5.out.1
           ·have hst:=Lx.step_letter (r:=s.data.toList.drop (a+1)) hlet
            rw[←Hdrop.out,←HW.out,Hn2.out,if_pos rfl] at hst
            have:=Lx.tok_lex l Hdrop.out hst
            rw[Lx.ba_len,htz,show a+(n - a)=n by omega] at this
            exact this.trans Hlex.out
          case measure=>simp [intOf];omega
        ·rw[hp] at hpt
         have Hpt:=Lh hpt;clear hpt
         go_wp2_with fail
         refine (Hpt.out).mono ?_
         rintro e w1 ⟨rfl,rfl⟩
         go_wp2_with fail
         go_roundw
         case rel=>
          refine ⟨n+1,by omega,by omega,by go_num,fun j hj haj hjn=>?_,by first | rfl | trivial⟩
          rcases Nat.lt_or_ge j n with h | h
          ·exact Hh.out j hj haj h
          ·obtain rfl:j=n:=by omega
           exact hp
         case measure=>simp [intOf];omega
       ·have e:=Lx.tw_end Lx.part s a n han hn Hh.out (fun h=>absurd h hlt3)
        have htw:(s.extract a n).data.toList=(s.data.toList.drop a).takeWhile Lx.part:=by rw [e];exact Lx.ext_tw Lx.part s a
        have htl:=Lx.ba_len (s.extract a n)
        rw[htw] at htl
        have hgt:1≤((s.data.toList.drop a).takeWhile Lx.part).length:=by
         rw[Hdrop.out]
         exact Lx.takeWhile_pos (Lx.part_of_letter hlet)
        have hgn:a < n:=by omega
        obtain ⟨T,hT⟩:∃ T,T=s.extract a n:=⟨_,rfl⟩
        have htz:T.size=n - a:=by rw [hT,←htl];omega
        rw[←hT] at htw
        have hTe:s.extract a n=T:=hT.symm
        have E:=Lh e;have HW:=Lh htw;clear e hT htw htl hgt
        have hnm:=rName T wr (by unfold maxLen;omega)
        cases hn2:Lx.isName T.data.toList
        ·rw[hn2] at hnm
         have Hnm:=Lh hnm;have Hn2:=Lh hn2;clear hnm hn2
         go_wp2_with fail
         refine (Hnm.out).mono ?_
         rintro e w1 ⟨rfl,rfl⟩
         go_wp2_with fail
         have hlx:=Lx.err_lex l Hdrop.out (by
          have hst:=Lx.step_letter (r:=s.data.toList.drop (a+1)) hlet
          rw[←Hdrop.out,←HW.out,Hn2.out] at hst
          exact hst)
         rw[Hlex.out] at hlx
         refine bodyPost_ret (v:=.tuple #[.slice none 0 0,.int .i64 a,.int .i64 90]) (by simp [results,Tryz.results91,go_sem]) rfl ⟨Hbel.out,?_⟩
         rw[if_neg (by rw [Lx.ba_len];omega),hlx]
        ·rw[hn2] at hnm
         have Hnm:=Lh hnm;have Hn2:=Lh hn2;clear hnm hn2
         go_wp2_with fail
         refine (Hnm.out).mono ?_
         rintro e w1 ⟨rfl,rfl⟩
         go_wp2_with (at_builtin;refine wpList_append_own _ rfl (.tmp 78) (.tmp 85) 51 rfl w.heap.size 55 i0 _ 4 40 Tryz.underlying51 hi0 hz0 hz1 hz2 rfl (by decide) _ _ _ rfl (Hown.out.alloc _) ⟨wr.heap.size,0,none⟩ 1 1 [.int .i64 1,.string T,.int .i64 0,.int .i64 a] rfl rfl (World.news_of_block (cs:=#[.int .i64 1,.string T,.int .i64 0,.int .i64 a]) (t:=55) (fr:=(0,0)) (heap_alloc_new wr _)) (by simp [Value.oneCell']) (by unfold maxLen;omega) (by omega) (by simp;omega) ?_;intro v' w5 hown5 hgrow5 _;have R5:=Lh (rel_add (t:=⟨1,T.data.toList,0,a⟩) Hown.out hown5 hgrow5 Hbel.out hwr (by simp [Tok.cells]));clear hown5 hgrow5)
         go_roundw
         case rel=>
          refine ⟨n,l++[⟨1,T.data.toList,0,a⟩],by omega,by go_num,by rw [List.length_append];simp;omega,?_,?_,R5.out.2⟩
          ·exact R5.out.1
          ·have hst:=Lx.step_letter (r:=s.data.toList.drop (a+1)) hlet
           rw[←Hdrop.out,←HW.out,Hn2.out,if_pos rfl] at hst
           have:=Lx.tok_lex l Hdrop.out hst
           rw[Lx.ba_len,htz,show a+(n - a)=n by omega] at this
           exact this.trans Hlex.out
         case measure=>simp [intOf];omega
     case false=>
      have hll:=rLetter s[a] wr
      rw[hlet] at hll
      have Hll:=Lh hll;clear hll
      cases hfig:Lx.figure s[a]
      case true=>
       have h47:((s[a].toNat:Int) == 47)=false:=by
        rw[←Lx.eq47]
        exact beq_eq_false_iff_ne.2 ((Lx.facts s[a]).figure_ hfig).2.2.2
       clear hcB
       have hff:=rFigure s[a] wr
       rw[hfig] at hff
       have Hff:=Lh hff;clear hff
       go_wp2_with fail
       refine (Hsp.out).mono ?_
       rintro e w1 ⟨rfl,rfl⟩
       go_wp2_with fail
       refine (Hll.out).mono ?_
       rintro e w1 ⟨rfl,rfl⟩
       go_wp2_with fail
       refine (Hff.out).mono ?_
       rintro e w1 ⟨rfl,rfl⟩
       go_wp2_with fail
       go_loopw [6] (fun i w2=>∃ n:Nat,a≤n∧n≤s.size∧i = .int .i64 n∧(∀ j (h:j < s.size),a≤j→j < n→Lx.figure s[j]=true)∧w2=wr) (fun i _=>s.size - (intOf i).toNat)
       case atStart=>exact ⟨a,Nat.le_refl _,ha,rfl,fun j _ h1 h2=>absurd h2 (by omega),rfl⟩
       case round=>
        obtain ⟨n,han,hn,rfl,hh,rfl⟩:=hrel
        have Hh:=Lh hh;clear hh
        by_cases hlt3:n < s.size
        ·have hpt:=rFigure s[n] wr
         cases hp:Lx.figure s[n]
         ·rw[hp] at hpt
          have Hpt:=Lh hpt;clear hpt
          have e:=Lx.tw_end Lx.figure s a n han hn Hh.out (fun _=>hp)
          have htw:(s.extract a n).data.toList=(s.data.toList.drop a).takeWhile Lx.figure:=by rw [e];exact Lx.ext_tw Lx.figure s a
          have htl:=Lx.ba_len (s.extract a n)
          rw[htw] at htl
          have hgt:1≤((s.data.toList.drop a).takeWhile Lx.figure).length:=by
           rw[Hdrop.out]
           exact Lx.takeWhile_pos hfig
          have hgn:a < n:=by omega
          obtain ⟨T,hT⟩:∃ T,T=s.extract a n:=⟨_,rfl⟩
          have htz:T.size=n - a:=by rw [hT,←htl];omega
          rw[←hT] at htw
          have hTe:s.extract a n=T:=hT.symm
          have E:=Lh e;have HW:=Lh htw;clear e hT htw htl hgt
          go_wp2_with fail
          refine (Hpt.out).mono ?_
          rintro e w1 ⟨rfl,rfl⟩
          have hall:T.data.toList.all Lx.figure=true:=by rw [HW.out];exact Lx.tw_all _ _
          have hnm:=rNumber T wr (by omega) (by omega) hall
          clear hall
          have Hnm:=Lh hnm;clear hnm
          cases hn2:Lx.number T.data.toList with
          | none=>
           have Hn2:=Lh hn2;clear hn2
           go_wp2_with fail
           refine (Hnm.out).mono ?_
           rintro e w1 ⟨v1,b1,rfl,hv1,k1,hk1⟩
           rw[Hn2.out] at hv1
           simp only at hv1
           subst hv1
           have Hb1:=Lh (show Below w.heap.size w w1 by rw [hk1];exact bel_drewN Hbel.out k1)
           clear hk1
           go_wp2_with fail
           have hlx:=Lx.err_lex l Hdrop.out (by
            have hst:=Lx.step_figure (r:=s.data.toList.drop (a+1)) hfig
            rw[←Hdrop.out,←HW.out,Hn2.out] at hst
            exact hst)
           rw[Hlex.out] at hlx
           refine bodyPost_ret (v:=.tuple #[.slice none 0 0,.int .i64 a,.int .i64 90]) (by simp [results,Tryz.results91,go_sem]) rfl ⟨Hb1.out,?_⟩
           rw[if_neg (by rw [Lx.ba_len];omega),hlx]
          | some u=>
           have Hn2:=Lh hn2;clear hn2
           go_wp2_with fail
           refine (Hnm.out).mono ?_
           rintro e w1 ⟨v1,b1,rfl,hv1,k1,hk1⟩
           rw[Hn2.out] at hv1
           obtain ⟨hv2,hv3⟩:=hv1
           subst hv2;subst hv3
           have Hb1:=Lh (show Below w.heap.size w w1 by rw [hk1];exact bel_drewN Hbel.out k1)
           have Ho1:=Lh (show w1.ownsRow w.heap.size 55 4 u5 l.length (l.flatMap Tok.cells) by rw [hk1];exact own_drewN Hown.out k1)
           have hwr1:=Hb1.out.size
           clear hk1
           go_wp2_with (at_builtin;refine wpList_append_own _ rfl (.tmp 114) (.tmp 118) 51 rfl w.heap.size 55 i0 _ 4 40 Tryz.underlying51 hi0 hz0 hz1 hz2 rfl (by decide) _ _ _ rfl (Ho1.out.alloc _) ⟨w1.heap.size,0,none⟩ 1 1 [.int .i64 2,.string ⟨#[]⟩,.int .i64 u,.int .i64 a] rfl rfl (World.news_of_block (cs:=#[.int .i64 2,.string ⟨#[]⟩,.int .i64 u,.int .i64 a]) (t:=55) (fr:=(0,0)) (heap_alloc_new w1 _)) (by simp [Value.oneCell']) (by unfold maxLen;omega) (by omega) (by simp;omega) ?_;intro v' w5 hown5 hgrow5 _;have R5:=Lh (rel_add (t:=⟨2,[],u,a⟩) Ho1.out hown5 hgrow5 Hb1.out hwr1 (by simp [Tok.cells]));clear hown5 hgrow5)
           go_roundw
           case rel=>
            refine ⟨n,l++[⟨2,[],u,a⟩],by omega,by go_num,by rw [List.length_append];simp;omega,?_,?_,R5.out.2⟩
            ·exact R5.out.1
            ·have hst:=Lx.step_figure (r:=s.data.toList.drop (a+1)) hfig
             rw[←Hdrop.out,←HW.out,Hn2.out] at hst
             have:=Lx.tok_lex l Hdrop.out hst
             rw[Lx.ba_len,htz,show a+(n - a)=n by omega] at this
             exact this.trans Hlex.out
           case measure=>simp [intOf];omega
         ·rw[hp] at hpt
          have Hpt:=Lh hpt;clear hpt
          go_wp2_with fail
          refine (Hpt.out).mono ?_
          rintro e w1 ⟨rfl,rfl⟩
          go_wp2_with fail
          go_roundw
          case rel=>
           refine ⟨n+1,by omega,by omega,by go_num,fun j hj haj hjn=>?_,by first | rfl | trivial⟩
           rcases Nat.lt_or_ge j n with h | h
           ·exact Hh.out j hj haj h
           ·obtain rfl:j=n:=by omega
            exact hp
          case measure=>simp [intOf];omega
        ·have e:=Lx.tw_end Lx.figure s a n han hn Hh.out (fun h=>absurd h hlt3)
         have htw:(s.extract a n).data.toList=(s.data.toList.drop a).takeWhile Lx.figure:=by rw [e];exact Lx.ext_tw Lx.figure s a
         have htl:=Lx.ba_len (s.extract a n)
         rw[htw] at htl
         have hgt:1≤((s.data.toList.drop a).takeWhile Lx.figure).length:=by
          rw[Hdrop.out]
          exact Lx.takeWhile_pos hfig
         have hgn:a < n:=by omega
         obtain ⟨T,hT⟩:∃ T,T=s.extract a n:=⟨_,rfl⟩
         have htz:T.size=n - a:=by rw [hT,←htl];omega
         rw[←hT] at htw
         have hTe:s.extract a n=T:=hT.symm
         have E:=Lh e;have HW:=Lh htw;clear e hT htw htl hgt
         have hall:T.data.toList.all Lx.figure=true:=by rw [HW.out];exact Lx.tw_all _ _
         have hnm:=rNumber T wr (by omega) (by omega) hall
         clear hall
         have Hnm:=Lh hnm;clear hnm
         cases hn2:Lx.number T.data.toList with
         | none=>
          have Hn2:=Lh hn2;clear hn2
          go_wp2_with fail
          refine (Hnm.out).mono ?_
          rintro e w1 ⟨v1,b1,rfl,hv1,k1,hk1⟩
          rw[Hn2.out] at hv1
          simp only at hv1
          subst hv1
          have Hb1:=Lh (show Below w.heap.size w w1 by rw [hk1];exact bel_drewN Hbel.out k1)
          clear hk1
          go_wp2_with fail
          have hlx:=Lx.err_lex l Hdrop.out (by
           have hst:=Lx.step_figure (r:=s.data.toList.drop (a+1)) hfig
           rw[←Hdrop.out,←HW.out,Hn2.out] at hst
           exact hst)
          rw[Hlex.out] at hlx
          refine bodyPost_ret (v:=.tuple #[.slice none 0 0,.int .i64 a,.int .i64 90]) (by simp [results,Tryz.results91,go_sem]) rfl ⟨Hb1.out,?_⟩
          rw[if_neg (by rw [Lx.ba_len];omega),hlx]
         | some u=>
          have Hn2:=Lh hn2;clear hn2
          go_wp2_with fail
          refine (Hnm.out).mono ?_
          rintro e w1 ⟨v1,b1,rfl,hv1,k1,hk1⟩
          rw[Hn2.out] at hv1
          obtain ⟨hv2,hv3⟩:=hv1
          subst hv2;subst hv3
          have Hb1:=Lh (show Below w.heap.size w w1 by rw [hk1];exact bel_drewN Hbel.out k1)
          have Ho1:=Lh (show w1.ownsRow w.heap.size 55 4 u5 l.length (l.flatMap Tok.cells) by rw [hk1];exact own_drewN Hown.out k1)
          have hwr1:=Hb1.out.size
          clear hk1
          go_wp2_with (at_builtin;refine wpList_append_own _ rfl (.tmp 114) (.tmp 118) 51 rfl w.heap.size 55 i0 _ 4 40 Tryz.underlying51 hi0 hz0 hz1 hz2 rfl (by decide) _ _ _ rfl (Ho1.out.alloc _) ⟨w1.heap.size,0,none⟩ 1 1 [.int .i64 2,.string ⟨#[]⟩,.int .i64 u,.int .i64 a] rfl rfl (World.news_of_block (cs:=#[.int .i64 2,.string ⟨#[]⟩,.int .i64 u,.int .i64 a]) (t:=55) (fr:=(0,0)) (heap_alloc_new w1 _)) (by simp [Value.oneCell']) (by unfold maxLen;omega) (by omega) (by simp;omega) ?_;intro v' w5 hown5 hgrow5 _;have R5:=Lh (rel_add (t:=⟨2,[],u,a⟩) Ho1.out hown5 hgrow5 Hb1.out hwr1 (by simp [Tok.cells]));clear hown5 hgrow5)
          go_roundw
          case rel=>
           refine ⟨n,l++[⟨2,[],u,a⟩],by omega,by go_num,by rw [List.length_append];simp;omega,?_,?_,R5.out.2⟩
           ·exact R5.out.1
           ·have hst:=Lx.step_figure (r:=s.data.toList.drop (a+1)) hfig
            rw[←Hdrop.out,←HW.out,Hn2.out] at hst
            have:=Lx.tok_lex l Hdrop.out hst
            rw[Lx.ba_len,htz,show a+(n - a)=n by omega] at this
            exact this.trans Hlex.out
          case measure=>simp [intOf];omega
      case false=>
       have hff:=rFigure s[a] wr
       rw[hfig] at hff
       have Hff:=Lh hff;clear hff
       cases hsign:Lx.sign s[a]
       case true=>
        have hsg:=rSign s[a] wr
        rw[hsign] at hsg
        have Hsg:=Lh hsg;clear hsg
        have htw:(s.extract a (a+1)).data.toList = [s[a]]:=by rw [Lx.ext_list,Hdrop.out];rfl
        obtain ⟨T,hT⟩:∃ T,T=s.extract a (a+1):=⟨_,rfl⟩
        have hTe:s.extract a (a+1)=T:=hT.symm
        rw[←hT] at htw
        have HW:=Lh htw;clear hT htw
        rcases hcB with h47 | ⟨h47,hno⟩ | ⟨h47,hlt2,h47b⟩
        ·
         go_wp2_with fail
         refine (Hsp.out).mono ?_
         rintro e w1 ⟨rfl,rfl⟩
         go_wp2_with fail
         refine (Hll.out).mono ?_
         rintro e w1 ⟨rfl,rfl⟩
         go_wp2_with fail
         refine (Hff.out).mono ?_
         rintro e w1 ⟨rfl,rfl⟩
         go_wp2_with fail
         refine (Hsg.out).mono ?_
         rintro e w1 ⟨rfl,rfl⟩
         go_wp2_with (at_builtin;refine wpList_append_own _ rfl (.tmp 128) (.tmp 135) 51 rfl w.heap.size 55 i0 _ 4 40 Tryz.underlying51 hi0 hz0 hz1 hz2 rfl (by decide) _ _ _ rfl (Hown.out.alloc _) ⟨wr.heap.size,0,none⟩ 1 1 [.int .i64 3,.string T,.int .i64 0,.int .i64 a] rfl rfl (World.news_of_block (cs:=#[.int .i64 3,.string T,.int .i64 0,.int .i64 a]) (t:=55) (fr:=(0,0)) (heap_alloc_new wr _)) (by simp [Value.oneCell']) (by unfold maxLen;omega) (by omega) (by simp;omega) ?_;intro v' w5 hown5 hgrow5 _;have R5:=Lh (rel_add (t:=⟨3,T.data.toList,0,a⟩) Hown.out hown5 hgrow5 Hbel.out hwr (by simp [Tok.cells]));clear hown5 hgrow5)
         go_roundw
         case rel=>
          refine ⟨a+1,l++[⟨3,T.data.toList,0,a⟩],by omega,by go_num,by rw [List.length_append];simp;omega,?_,?_,R5.out.2⟩
          ·exact R5.out.1
          ·have hst:=Lx.step_sign (r:=s.data.toList.drop (a+1)) hsign (by rw [←Hdrop.out];exact Hc.out)
           rw[←HW.out] at hst
           have:=Lx.tok_lex l Hdrop.out hst
           exact this.trans Hlex.out
         case measure=>simp [intOf];omega
        ·
         go_wp2_with fail
         refine (Hsp.out).mono ?_
         rintro e w1 ⟨rfl,rfl⟩
         go_wp2_with fail
         refine (Hll.out).mono ?_
         rintro e w1 ⟨rfl,rfl⟩
         go_wp2_with fail
         refine (Hff.out).mono ?_
         rintro e w1 ⟨rfl,rfl⟩
         go_wp2_with fail
         refine (Hsg.out).mono ?_
         rintro e w1 ⟨rfl,rfl⟩
         go_wp2_with (at_builtin;refine wpList_append_own _ rfl (.tmp 128) (.tmp 135) 51 rfl w.heap.size 55 i0 _ 4 40 Tryz.underlying51 hi0 hz0 hz1 hz2 rfl (by decide) _ _ _ rfl (Hown.out.alloc _) ⟨wr.heap.size,0,none⟩ 1 1 [.int .i64 3,.string T,.int .i64 0,.int .i64 a] rfl rfl (World.news_of_block (cs:=#[.int .i64 3,.string T,.int .i64 0,.int .i64 a]) (t:=55) (fr:=(0,0)) (heap_alloc_new wr _)) (by simp [Value.oneCell']) (by unfold maxLen;omega) (by omega) (by simp;omega) ?_;intro v' w5 hown5 hgrow5 _;have R5:=Lh (rel_add (t:=⟨3,T.data.toList,0,a⟩) Hown.out hown5 hgrow5 Hbel.out hwr (by simp [Tok.cells]));clear hown5 hgrow5)
         go_roundw
         case rel=>
          refine ⟨a+1,l++[⟨3,T.data.toList,0,a⟩],by omega,by go_num,by rw [List.length_append];simp;omega,?_,?_,R5.out.2⟩
          ·exact R5.out.1
          ·have hst:=Lx.step_sign (r:=s.data.toList.drop (a+1)) hsign (by rw [←Hdrop.out];exact Hc.out)
           rw[←HW.out] at hst
           have:=Lx.tok_lex l Hdrop.out hst
           exact this.trans Hlex.out
         case measure=>simp [intOf];omega
        ·
         go_wp2_with fail
         refine (Hsp.out).mono ?_
         rintro e w1 ⟨rfl,rfl⟩
         go_wp2_with fail
         refine (Hll.out).mono ?_
         rintro e w1 ⟨rfl,rfl⟩
         go_wp2_with fail
         refine (Hff.out).mono ?_
         rintro e w1 ⟨rfl,rfl⟩
         go_wp2_with fail
         refine (Hsg.out).mono ?_
         rintro e w1 ⟨rfl,rfl⟩
         go_wp2_with (at_builtin;refine wpList_append_own _ rfl (.tmp 128) (.tmp 135) 51 rfl w.heap.size 55 i0 _ 4 40 Tryz.underlying51 hi0 hz0 hz1 hz2 rfl (by decide) _ _ _ rfl (Hown.out.alloc _) ⟨wr.heap.size,0,none⟩ 1 1 [.int .i64 3,.string T,.int .i64 0,.int .i64 a] rfl rfl (World.news_of_block (cs:=#[.int .i64 3,.string T,.int .i64 0,.int .i64 a]) (t:=55) (fr:=(0,0)) (heap_alloc_new wr _)) (by simp [Value.oneCell']) (by unfold maxLen;omega) (by omega) (by simp;omega) ?_;intro v' w5 hown5 hgrow5 _;have R5:=Lh (rel_add (t:=⟨3,T.data.toList,0,a⟩) Hown.out hown5 hgrow5 Hbel.out hwr (by simp [Tok.cells]));clear hown5 hgrow5)
         go_roundw
         case rel=>
          refine ⟨a+1,l++[⟨3,T.data.toList,0,a⟩],by omega,by go_num,by rw [List.length_append];simp;omega,?_,?_,R5.out.2⟩
          ·exact R5.out.1
          ·have hst:=Lx.step_sign (r:=s.data.toList.drop (a+1)) hsign (by rw [←Hdrop.out];exact Hc.out)
           rw[←HW.out] at hst
           have:=Lx.tok_lex l Hdrop.out hst
           exact this.trans Hlex.out
         case measure=>simp [intOf];omega
       case false=>
        have hsg:=rSign s[a] wr
        rw[hsign] at hsg
        have Hsg:=Lh hsg;clear hsg
        have h47:((s[a].toNat:Int) == 47)=false:=by
         rw[←Lx.eq47]
         refine beq_eq_false_iff_ne.2 fun h=>?_
         have:=(Lx.facts s[a]).slash h
         rw[hsign] at this
         cases this
        clear hcB
        go_wp2_with fail
        refine (Hsp.out).mono ?_
        rintro e w1 ⟨rfl,rfl⟩
        go_wp2_with fail
        refine (Hll.out).mono ?_
        rintro e w1 ⟨rfl,rfl⟩
        go_wp2_with fail
        refine (Hff.out).mono ?_
        rintro e w1 ⟨rfl,rfl⟩
        go_wp2_with fail
        refine (Hsg.out).mono ?_
        rintro e w1 ⟨rfl,rfl⟩
        go_wp2_with fail
        have hlx:=Lx.err_lex l Hdrop.out (by
         exact Lx.step_err h1 hlet hfig hsign)
        rw[Hlex.out] at hlx
        refine bodyPost_ret (v:=.tuple #[.slice none 0 0,.int .i64 a,.int .i64 90]) (by simp [results,Tryz.results91,go_sem]) rfl ⟨Hbel.out,?_⟩
        rw[if_neg (by rw [Lx.ba_len];omega),hlx]
  ·obtain rfl:a=s.size:=by omega
   have hlx:=Hlex.out
   rw[List.drop_of_length_le (by rw [Lx.ba_len];omega),Lx.lexAt_nil] at hlx
   have hlx2:Lx.lex s.data.toList = .ok l:=by rw [←hlx];simp[Lx.Res.app]
   obtain ⟨A,cp,rfl⟩:=own_form Hown.out
   have Hx:=Lh hlx2;clear hlx hlx2
   go_wp2_with fail
   refine bodyPost_ret (v:=.tuple #[.slice A l.length cp,.int .i64 0,.int .i64 0]) (by simp [results,Tryz.results91,go_sem]) rfl ⟨Hbel.out,?_⟩
   rw[if_neg (by rw [Lx.ba_len];omega),Hx.out]
   exact ⟨A,cp,rfl,toks_own Hown.out (by omega) fun t ht=>by have:=(Lx.lex_texts Hx.out t ht).2;omega⟩
end Go.Proofs.YtjonaidancomgaaGreatDoor

namespace Go.Proofs.YtjonaidancomgaaGreatDoor
open Go.RowKit

def BegPost (s:List UInt8) (w:World) (e:Ending) (w':World):Prop:=Below w.heap.size w w'∧
 if 65536 < s.length then e = .returned (.tuple #[pv none 0 0 0 0 0 0,.int .i64 0,.int .i64 2]) else
 match Lx.lex s with
 | .ok l=>∃ A c,e = .returned (.tuple #[pv A l.length c 0 s.length 0 0,.int .i64 0,.int .i64 0])∧PCtx l A w'
 | .err p=>e = .returned (.tuple #[pv none 0 0 0 0 0 0,.int .i64 p,.int .i64 90])
theorem small_of_valid {t:Lx.Tok} (h:Lx.valid t=true):0≤t.n∧t.n≤1099511627776:=by
 unfold Lx.valid at h
 split at h
 ·simp only[Bool.and_eq_true,decide_eq_true_eq] at h;omega
 ·split at h
  ·simp only[Bool.and_eq_true,decide_eq_true_eq] at h;omega
  ·split at h
   ·simp only[Bool.and_eq_true,decide_eq_true_eq] at h;omega
   ·cases h
theorem Lx.lex_few {s:List UInt8} {l:List Lx.Tok} (h:Lx.lex s = .ok l):l.length≤s.length:=(Lx.lex_len h).2
theorem pbox_str {w:World} {b:Nat} {A:Option Addr} {n c:Nat} {k l e p:Int} (h:Blk w b 64 #[.slice A n c,.int .i64 k,.int .i64 l,.int .i64 e,.int .i64 p]) (i:Nat) (x:ByteArray):w.cell? ⟨b,i,none⟩≠some (.string x):=by
 rw[h.cell i]
 match i with
 | 0=>simp
 | 1=>simp
 | 2=>simp
 | 3=>simp
 | 4=>simp
 | i+5=>simp
set_option maxRecDepth 20000 in
set_option maxHeartbeats 2000000 in
theorem pBegin (s:ByteArray) (w:World) (hs:s.size≤100000):Calls Tryz.prog 30 #[.string s] w (BegPost s.data.toList w):=by
 have HL:=Lh (fun W=>rLex s W (by unfold maxLen;omega))
 have hlen:s.data.toList.length=s.size:=Lx.ba_len s
 obtain ⟨W1,hW1⟩:∃ W1,W1=w.alloc (.cells #[.slice none 0 0,.int .i64 0,.int .i64 0,.int .i64 0,.int .i64 0] 64):=⟨_,rfl⟩
 have HB:=Lh (show Below w.heap.size w W1 by rw [hW1];exact (Below.refl _ _).alloc (Nat.le_refl _) _)
 have HQ:=Lh (show Blk W1 w.heap.size 64 #[.slice none 0 0,.int .i64 0,.int .i64 0,.int .i64 0,.int .i64 0] by rw [hW1];exact Blk.new _ _ _)
 have Hlen:=Lh hlen
 clear hlen
 go_enter Tryz.func30,Tryz.ntmps30
 go_upto_region 1 with fail
 rw[←hW1]
 clear hW1
 go_wp2_with fail
 refine (HL.out _).mono ?_
 rintro e' w1 ⟨hb,hpost⟩
 have HB1:=Lh (HB.out.trans (hb.mono HB.out.size))
 have HQ1:=Lh (HQ.out.below hb HQ.out.lt)
 obtain ⟨f0,f1,f2,f3,f4⟩:=frees5 HQ1.out
 obtain ⟨y0,y1,y2,y3,y4,yz⟩:=cells5 HQ1.out
 have hz0:=HQ.out.lt
 clear hb HB HQ
 by_cases hlong:65536 < s.data.toList.length
 ·rw[if_pos hlong] at hpost
  subst hpost
  have HLong:=Lh hlong
  clear hlong
  obtain ⟨W9,hW9,hxn,hfar,hbn⟩:=pstoreB HQ1.out (.slice none 0 0) (.int .i64 0) (.int .i64 0) (.int .i64 0) (.int .i64 0)
  have HW9:=Lh hW9;have HXN:=Lh hxn;have HBN:=Lh (hbn w.heap.size w HB1.out (Nat.le_refl _))
  clear hW9 hxn hfar hbn
  go_wp2_with fail
  rw[←HW9.out]
  obtain ⟨t0,t1,t2,t3,t4,tz⟩:=cells5 HXN.out
  exact bodyPost_ret (v:=.tuple #[pv none 0 0 0 0 0 0,.int .i64 0,.int .i64 2]) (by simp [results,Tryz.results30,go_sem,pv,t0,t1,t2,t3,t4]) rfl ⟨HBN.out,by rw [if_pos HLong.out]⟩
 rw[if_neg hlong] at hpost
 have HLong:=Lh hlong
 clear hlong
 cases hl:Lx.lex s.data.toList with
 | err p=>
  rw[hl] at hpost
  simp only at hpost
  subst hpost
  have Hl:=Lh hl
  clear hl
  obtain ⟨W9,hW9,hxn,hfar,hbn⟩:=pstoreB HQ1.out (.slice none 0 0) (.int .i64 0) (.int .i64 0) (.int .i64 0) (.int .i64 0)
  have HW9:=Lh hW9;have HXN:=Lh hxn;have HBN:=Lh (hbn w.heap.size w HB1.out (Nat.le_refl _))
  clear hW9 hxn hfar hbn
  go_wp2_with fail
  rw[←HW9.out]
  obtain ⟨t0,t1,t2,t3,t4,tz⟩:=cells5 HXN.out
  exact bodyPost_ret (v:=.tuple #[pv none 0 0 0 0 0 0,.int .i64 p,.int .i64 90]) (by simp [results,Tryz.results30,go_sem,pv,t0,t1,t2,t3,t4]) rfl ⟨HBN.out,by rw [if_neg HLong.out,Hl.out]⟩
 | ok l=>
  rw[hl] at hpost
  obtain ⟨A,c,rfl,hT⟩:=hpost
  have hv:=Lx.lex_texts hl
  have hfew:=Lx.lex_few hl
  have hctx:PCtx l A w1:=⟨hT,fun t ht=>small_of_valid (hv t ht).1,by rw [Hlen.out] at hfew;omega⟩
  have HC:=Lh hctx;have Hl:=Lh hl
  obtain ⟨n,hn⟩:∃ n,n=l.length:=⟨_,rfl⟩
  rw[←hn]
  have Hn:=Lh hn
  obtain ⟨W9,hW9,hxn,hfar,hbn⟩:=pstoreB HQ1.out (.slice A n c) (.int .i64 0) (.int .i64 s.size) (.int .i64 0) (.int .i64 0)
  have HC9:Hid (PCtx l A W9):=Lh ⟨⟨fun k t ht=>by
   obtain ⟨b,o,e,hlt,h4⟩:=hctx.toks.at_ k t ht
   have hne:b≠w.heap.size:=fun eb=>by
    subst eb
    exact pbox_str HQ1.out _ _ h4.text
   exact ⟨b,o,e,by rw [hfar.2];exact hlt,h4.cells fun i=>World.cell?_of_block (a:=⟨b,i,none⟩) (hfar.1 b hne)⟩,hctx.toks.len,hctx.toks.texts⟩,hctx.small,hctx.few⟩
  have HW9:=Lh hW9;have HXN:=Lh hxn;have HBN:=Lh (hbn w.heap.size w HB1.out (Nat.le_refl _))
  clear hW9 hxn hfar hbn hctx hl hv hfew hT hn
  go_wp2_with fail
  rw[←HW9.out]
  obtain ⟨t0,t1,t2,t3,t4,tz⟩:=cells5 HXN.out
  exact bodyPost_ret (v:=.tuple #[pv A n c 0 s.size 0 0,.int .i64 0,.int .i64 0]) (by simp [results,Tryz.results30,go_sem,pv,t0,t1,t2,t3,t4]) rfl ⟨HBN.out,by rw [if_neg HLong.out,Hl.out];exact ⟨A,c,by rw [Hn.out,Hlen.out],HC9.out⟩⟩
end Go.Proofs.YtjonaidancomgaaGreatDoor
