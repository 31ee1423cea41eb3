/- loggiaref07: cut, Tokens, Words, IsWord: the walks. -/
import Derived.BigQuiet
import Derived.Deep.QuietTactic
import Derived.Test.YtmomjpolkkbhnaaGreatQModelPagesRow8
import Derived.Test.YtmomjpolkkbhnaaGreatQModelPagesRow10
import Derived.Test.YtmomjpolkkbhnaaGreatQModelPagesRow3
import Derived.Test.YtmomjpolkkbhnaaGreatQModelPagesRow9
import Derived.Test.YtmomjpolkkbhnaaGreatQModelPagesRow7
import Derived.Test.YtmomjpolkkbhnaaGreatQModelPagesRow2
import Derived.Test.YtmomjpolkkbhnaaGreatQModelPagesRow0
set_option linter.unusedSimpArgs false
set_option linter.unusedVariables false
set_option maxRecDepth 20000
section
namespace Go.Proofs.YtmomjpolkkbhnaaGreat.Tk
open Go.RowKit Ut
theorem str_app (a b:List UInt8):str a ++ str b=str (a ++ b):=by
 have h:(str a ++ str b).data.toList=a ++ b:=by simp [str]
 rw [← of_str (str a ++ str b),h]
set_option maxHeartbeats 800000 in
theorem cut_ref (A:Option Addr) (n c:Nat) (l:List Nat) (w:World) (hR:Reads w w.heap.size 1 A n (rv l)) (hn:n≤4398046511104) :
  Calls Tryz.prog 190 #[.slice A n c] w fun e w'=>e=.returned (.string (str (word l)))∧Below w.heap.size w w':=by
 have hlen:l.length=n:=by have:=hR.1; simpa [rv] using this
 have HR:=zh hR
 have Hl:=zh hlen
 clear hR hlen
 go_enter Tryz.func190,Tryz.ntmps190
 go_wp2
 go_loopw [3,4] (fun s i wr=>∃ (k:Nat) (a:List UInt8),k≤n∧i=.int .i64 k∧s=.string (str a)∧a.length≤32∧word l=wordGo a (l.drop k)∧Below w.heap.size w wr) (fun _ i _=>n - (intOf i).toNat)
 case atStart=>exact ⟨0,[],Nat.zero_le _,rfl,rfl,by simp,rfl,Below.refl _ _⟩
 case round =>
  obtain ⟨k,a,hk,rfl,rfl,ha,hwd,hW⟩:=hrel
  have hsa:=str_size a
  by_cases hlt:k<n
  ·obtain ⟨ab,ao,hkl,rfl,hab,hcw⟩:=Reads.at_map (f:=fun r:Nat=>Value.int .i64 (r:Int)) HR.out hlt
   have hcx:=(hW.cell (p:=⟨ab,ao+k,none⟩) hab).trans hcw
   rw [List.drop_eq_getElem_cons hkl,wordGo_cons] at hwd
   have c1:=lower_ref (l[k]:Int) wr
   have HW:=zh hW
   have Hwd:=zh hwd
   have hel:=enc_len (lower (l[k]:Int))
   clear hwd hcw hW
   generalize lower (l[k]:Int)=z at *
   generalize (l[k]:Int)=r at *
   go_wp2_with fail
   refine c1.mono ?_
   rintro e w' ⟨rfl,rfl⟩
   have c2:=encode_ref _ 1 1 [z] _ (reads_int1 wr 3 z) (by omega)
   rw [encode_one] at c2
   clear c1
   go_wp2_with fail
   refine c2.mono ?_
   rintro e w3 ⟨rfl,hb3⟩
   have hbw:=(HW.out.alloc HW.out.size (.cells #[.int .i64 z] 3)).trans (hb3.mono (by have:=HW.out.size; simp; omega))
   have hsz:=str_size (enc z)
   have happ:=str_app a (enc z)
   have Hbw:=zh hbw
   generalize enc z=s at *
   clear hb3 c2 hbw
   by_cases h32 : 32<a.length+s.length
   ·have h32':(32:Int)<(a.length:Int)+(s.length:Int):=by omega
    have Fin:Hid (word l=a):=zh (by rw [Hwd.out,if_pos h32])
    clear h32 happ
    go_wp2
    go_ret
    exact ⟨by rw [Fin.out]; rfl,Hbw.out⟩
   ·have h32':(a.length:Int)+(s.length:Int)≤32:=by omega
    have Fin:Hid (word l=wordGo (a ++ s) (l.drop (k+1))):=zh (by rw [Hwd.out,if_neg h32])
    clear h32
    go_wp2
    go_roundw
    case rel=>exact ⟨k+1,a ++ s,by omega,by go_num,by first | rfl | rw [happ],by rw [List.length_append]; omega,Fin.out,Hbw.out⟩
    case measure=>simp [intOf]; omega
  ·have hd:l.drop k=[]:=List.drop_eq_nil_of_le (by rw [Hl.out]; omega)
   rw [hd] at hwd
   have Fin:Hid (word l=a):=zh hwd
   have Hb:=zh hW
   clear hwd hd hW
   go_wp2
   go_ret
   exact ⟨by rw [Fin.out]; rfl,Hb.out⟩
structure FarR (l:List Nat) (k:Nat) (ws:List (List UInt8)):Prop where
 le:k≤l.length
 eq:(runs [] l).map word=ws ++ (runs [] (l.drop k)).map word
theorem FarR.gap {l:List Nat} {k:Nat} {ws:List (List UInt8)} (h:FarR l k ws) (hk:k<l.length) (hw:isWord (l[k]:Int)=false):FarR l (k+1) ws :=
 ⟨hk,by rw [h.eq,List.drop_eq_getElem_cons hk,runs_cons,hw,if_neg (by decide)]; rfl⟩
theorem FarR.run {l:List Nat} {k m:Nat} {ws:List (List UInt8)} (h:FarR l k ws) (hm:k<m) (hml:m≤l.length) (hall:∀ r∈(l.take m).drop k,isWord (r:Int)=true)
  (hend:∀ hm:m<l.length,isWord (l[m]:Int)=false):FarR l m (ws ++ [word ((l.take m).drop k)]):=by
 refine ⟨hml,?_⟩
 have e:l.drop k=(l.take m).drop k ++ l.drop m:=by
  conv=>lhs; rw [← List.take_append_drop m l]
  rw [List.drop_append_of_le_length (by rw [List.length_take]; omega)]
 have hne:(l.take m).drop k≠[]:=by
  intro e
  have:=congrArg List.length e
  rw [List.length_drop,List.length_take,List.length_nil] at this
  omega
 rw [h.eq,e,runs_all _ [] _ hall,List.nil_append]
 generalize (l.take m).drop k=c at *
 rcases Nat.lt_or_ge m l.length with hlt | hge
 ·rw [List.drop_eq_getElem_cons hlt,runs_cons,runs_cons,hend hlt,if_neg (by decide),if_neg (by decide)]
  simp [last,hne]
 ·rw [List.drop_eq_nil_of_le hge,runs_nil,runs_nil]
  simp [last,hne]
theorem FarR.done {l:List Nat} {ws:List (List UInt8)} (h:FarR l l.length ws):(runs [] l).map word=ws:=by
 rw [h.eq,List.drop_length,runs_nil]
 simp [last]
set_option maxHeartbeats 1600000 in
theorem tokens_refB (s:ByteArray) (w:World) (hs:s.size≤1048576):Calls Tryz.prog 171 #[.string s] w (TokPost w (words s.data.toList)):=by
 obtain ⟨i0,hi0,hz0,hz1,hz2⟩:=info_parts tok_info
 have c0:=runes_ref s w (by omega)
 have hrl:=runes_len s.data.toList
 rw [bsize] at hrl
 have Fin:Hid (words s.data.toList=(runs [] (runes s.data.toList)).map word):=rfl
 generalize words s.data.toList=wds at *
 generalize runes s.data.toList=l at *
 go_enter Tryz.func171,Tryz.ntmps171
 go_wp2_with fail
 refine c0.mono ?_
 rintro e w1 ⟨v,rfl,hown,hb1⟩
 obtain ⟨A,c,rfl,hR⟩:=own_shape hown
 have hlc:l.length≤c:=by
  rcases hown.2 with ⟨hv,_⟩ | ⟨g',cap',cur,hv,_,_,hnc,_⟩
  ·injection hv with _ hv _; omega
  ·injection hv with _ _ hv; omega
 have S0:Toks w1 w1 (.slice none 0 0) []:=Toks.start w1 w1 (Below.refl _ _)
 have F0:FarR l 0 []:=⟨Nat.zero_le _,rfl⟩
 have HR:=zh hR
 have HS0:=zh S0
 have HF0:=zh F0
 have Hb1:=zh hb1
 clear hown hR S0 F0 hb1 c0
 go_wp2_with fail
 go_loopw [3,5] (fun v i wr=>∃ (k:Nat) (ws:List (List UInt8)),i=.int .i64 k∧FarR l k ws∧ws.length≤k∧Toks w1 wr v ws) (fun _ i _=>l.length - (intOf i).toNat)
 case atStart=>exact ⟨0,[],rfl,HF0.out,by simp,HS0.out⟩
 case round =>
  obtain ⟨k,ws,rfl,hF,hwl,hT⟩:=hrel
  have hkl:=hF.le
  by_cases hlt:k<l.length
  ·obtain ⟨wo,rfl⟩:∃ wo:World,wo=wr:=⟨_,rfl⟩
   obtain ⟨ab,ao,_,rfl,hab,_⟩:=Reads.at_map (f:=fun r:Nat=>Value.int .i64 (r:Int)) HR.out hlt
   have HT:=zh hT
   have HF:=zh hF
   clear hT hF
   go_wp2
   go_loop [6] (fun e=>∃ m:Nat,k≤m∧m≤l.length∧e=.int .i64 m∧∀ r∈(l.take m).drop k,isWord (r:Int)=true) (fun e=>l.length - (intOf e).toNat)
   case atStart=>exact ⟨k,zG _,hkl,rfl,by
    rw [List.drop_eq_nil_of_le (by rw [List.length_take]; omega)]; intro r hr; cases hr⟩
   case round =>
    obtain ⟨m,hkm,hml,rfl,hall⟩:=hrel
    have Hall:=zh hall
    clear hall
    by_cases hend:m<l.length
    ·obtain ⟨ab',ao',_,e,_,hcw⟩:=Reads.at_map (f:=fun r:Nat=>Value.int .i64 (r:Int)) HR.out hend
     injection e with e
     injection e with e1 e2
     subst e1 e2
     have hcx:=(HT.out.bel.cell (p:=⟨ab,ao+m,none⟩) hab).trans hcw
     have c1:=word_ref (l[m]:Int) wo
     clear hcw
     by_cases hw:isWord (l[m]:Int)=true
     ·have Hall2:Hid (∀ r∈(l.take (m+1)).drop k,isWord (r:Int)=true):=zh (by
       have e:(l.take (m+1)).drop k=(l.take m).drop k ++ [l[m]]:=by
        rw [List.take_succ_eq_append_getElem hend,List.drop_append_of_le_length (by rw [List.length_take]; omega)]
       rw [e]
       intro r hr
       rcases List.mem_append.1 hr with hr | hr
       ·exact Hall.out r hr
       ·simp only [List.mem_singleton] at hr
        subst hr; exact hw)
      rw [hw] at c1
      clear hw
      generalize (l[m]:Int)=r at *
      go_wp2_with (go_at_call 189; refine c1.mono ?_; rintro e w' ⟨rfl,rfl⟩)
      go_round
      case rel=>exact ⟨m+1,by omega,by omega,by go_num,Hall2.out⟩
      case measure=>simp [intOf]; omega
     ·have hw':isWord (l[m]:Int)=false:=by simpa using hw
      have Hstop:Hid (∀ hm:m<l.length,isWord (l[m]:Int)=false):=zh (fun _=>hw')
      rw [hw'] at c1
      clear hw hw'
      generalize (l[m]:Int)=r at *
      obtain ⟨A3,d3,rfl,_⟩:=own_shape HT.out.own
      by_cases hmk:m=k
      ·subst hmk
       have HF2:=zh (HF.out.gap hlt (Hstop.out hlt))
       go_wp2_with (go_at_call 189; refine c1.mono ?_; rintro e w' ⟨rfl,rfl⟩)
       go_roundw
       case rel=>exact ⟨m+1,ws,by go_num,HF2.out,by omega,HT.out⟩
       case measure=>simp [intOf]; omega
      ·have hkm':k<m:=by omega
       have hmk':((m:Int) == (k:Int))=false:=beq_eq_false_iff_ne.2 (by omega)
       have HF2:=zh (HF.out.run (m:=m) (by omega) hml Hall.out Hstop.out)
       have hRs:=(HR.out.below HT.out.bel).sub (m:=k) (k:=m) (by omega) (by omega)
       have hmp:((rv l).take m).drop k=rv ((l.take m).drop k):=by unfold rv; rw [← List.map_take,← List.map_drop]
       rw [hmp] at hRs
       have c2:=cut_ref (some ⟨ab,ao+k,none⟩) (m - k) (c - k) _ wo (hRs.more HT.out.bel.size) (by omega)
       clear hRs hmp hmk
       generalize word ((l.take m).drop k)=wd at *
       go_wp2_with fail
       refine c1.mono ?_
       rintro e w' ⟨rfl,rfl⟩
       go_wp2_with fail
       refine c2.mono ?_
       rintro e w4 ⟨rfl,hb4⟩
       have hT4:=HT.out.below hb4
       have hown4:=hT4.own
       have hbs4:=hT4.bel.size
       have HT4:=zh hT4
       clear c2 hb4 hT4
       go_wp2_with (at_builtin; refine wpList_append_own _ rfl _ _ 189 rfl w1.heap.size 206 i0 _ 2 24 Tryz.underlying189 hi0 hz0 hz1 hz2 rfl (by decide) _ _ _ rfl (hown4.alloc _) ⟨w4.heap.size,0,none⟩ 1 1 [.string (str wd),.int .i64 (ws.length:Int)] rfl rfl ?d1 ?d2 ?d3 ?d4 ?d5 ?_)
       case d1=>exact World.news_of_block (cs:=#[.string (str wd),.int .i64 (ws.length:Int)]) (t:=206) (fr:=(0,0)) (heap_alloc_new w4 _)
       case d2=>intro u hu; simp at hu; rcases hu with rfl | rfl <;> rfl
       case d3=>unfold maxLen; omega
       case d4=>omega
       case d5=>simp; omega
       intro v' w5 hown5 hg5 _
       have HT5:=zh ((HT4.out.below ((Below.refl _ _).alloc (zG _) _)).put hown5 hg5)
       clear hown5 hg5 hown4
       go_wp2
       go_roundw
       case rel=>exact ⟨m,_,rfl,HF2.out,by rw [List.length_append]; simp; omega,HT5.out⟩
       case measure=>simp [intOf]; omega
    ·have Hstop:Hid (∀ hm:m<l.length,isWord (l[m]:Int)=false):=zh (fun hm=>absurd hm hend)
     obtain rfl:m=l.length:=by omega
     obtain ⟨A3,d3,rfl,_⟩:=own_shape HT.out.own
     by_cases hmk:l.length=k
     ·exfalso; omega
     ·have hmk':((l.length:Int) == (k:Int))=false:=beq_eq_false_iff_ne.2 (by omega)
      have HF2:=zh (HF.out.run (m:=l.length) (by omega) hml Hall.out Hstop.out)
      have hRs:=(HR.out.below HT.out.bel).sub (m:=k) (k:=l.length) (by omega) (by omega)
      have hmp:((rv l).take l.length).drop k=rv ((l.take l.length).drop k):=by unfold rv; rw [← List.map_take,← List.map_drop]
      rw [hmp] at hRs
      have c2:=cut_ref (some ⟨ab,ao+k,none⟩) (l.length - k) (c - k) _ wo (hRs.more HT.out.bel.size) (by omega)
      clear hRs hmp hmk
      generalize word ((l.take l.length).drop k)=wd at *
      go_wp2_with fail
      refine c2.mono ?_
      rintro e w4 ⟨rfl,hb4⟩
      have hT4:=HT.out.below hb4
      have hown4:=hT4.own
      have hbs4:=hT4.bel.size
      have HT4:=zh hT4
      clear c2 hb4 hT4
      go_wp2_with (at_builtin; refine wpList_append_own _ rfl _ _ 189 rfl w1.heap.size 206 i0 _ 2 24 Tryz.underlying189 hi0 hz0 hz1 hz2 rfl (by decide) _ _ _ rfl (hown4.alloc _) ⟨w4.heap.size,0,none⟩ 1 1 [.string (str wd),.int .i64 (ws.length:Int)] rfl rfl ?d1 ?d2 ?d3 ?d4 ?d5 ?_)
      case d1=>exact World.news_of_block (cs:=#[.string (str wd),.int .i64 (ws.length:Int)]) (t:=206) (fr:=(0,0)) (heap_alloc_new w4 _)
      case d2=>intro u hu; simp at hu; rcases hu with rfl | rfl <;> rfl
      case d3=>unfold maxLen; omega
      case d4=>omega
      case d5=>simp; omega
      intro v' w5 hown5 hg5 _
      have HT5:=zh ((HT4.out.below ((Below.refl _ _).alloc (zG _) _)).put hown5 hg5)
      clear hown5 hg5 hown4
      go_wp2
      go_roundw
      case rel=>exact ⟨l.length,_,rfl,HF2.out,by rw [List.length_append]; simp; omega,HT5.out⟩
      case measure=>simp [intOf]; omega
  ·obtain rfl:k=l.length:=by omega
   have Fin2:=zh hF.done
   have HT:=zh hT
   clear hF hT
   go_wp2
   go_ret
   have e:wds=ws:=by rw [Fin.out,Fin2.out]
   have hz:=Hb1.out.size
   exact ⟨_,rfl,by rw [e]; exact HT.out.own.mono hz,Hb1.out.trans (HT.out.bel.mono hz)⟩
theorem tokens_ref (s:ByteArray) (w:World) (hs:s.size≤1048576):Calls Tryz.prog 171 #[.string s] w (TokPost w (words s.data.toList)) :=
 tokens_refB s w (by omega)
end Go.Proofs.YtmomjpolkkbhnaaGreat.Tk
end

section
namespace Go.Proofs.YtmomjpolkkbhnaaGreat.Tk
open Go.RowKit Ut
set_option maxHeartbeats 800000 in
theorem words_ref (s:ByteArray) (w:World) (hs:s.size≤1048576):Calls Tryz.prog 170 #[.string s] w (StrPost w (words s.data.toList)):=by
 obtain ⟨i0,hi0,hz0,hz1,hz2⟩:=info_parts str_info
 have c0:=tokens_ref s w hs
 have hwl:=words_len s
 generalize words s.data.toList=ws at *
 go_enter Tryz.func170,Tryz.ntmps170
 go_wp2_with fail
 refine c0.mono ?_
 rintro e w1 ⟨v,rfl,hown,hb1⟩
 obtain ⟨A,c,rfl,hR⟩:=own_shape hown
 have S0:Strs w1 w1 (.slice none 0 0) []:=⟨World.ownsRow_nil _ _ _ _,Below.refl _ _⟩
 have HR:=zh hR
 have HS0:=zh S0
 have Hb1:=zh hb1
 clear hown hR S0 c0 hb1
 go_wp2_with fail
 go_loopw [4,5] (fun v i wr=>∃ k:Nat,k≤ws.length∧i=.int .i64 k∧Strs w1 wr v (ws.take k)) (fun _ i _=>ws.length - (intOf i).toNat)
 case atStart=>exact ⟨0,Nat.zero_le _,rfl,HS0.out⟩
 case round =>
  obtain ⟨k,hk,rfl,hT⟩:=hrel
  by_cases hlt:k<ws.length
  ·obtain ⟨b,o,rfl,hb,hc1,hc2⟩:=toks_at HR.out rfl hlt
   have hd1:=(hT.bel.cell (p:=⟨b,o+k * 2,none⟩) hb).trans hc1
   have hts:ws.take (k+1)=ws.take k ++ [ws[k]]:=by rw [List.take_succ_eq_append_getElem hlt]
   have Hts:=zh hts
   have htl:(ws.take k).length≤ws.length:=by rw [List.length_take]; omega
   have hown:=hT.own
   have hbs:=hT.bel.size
   have HT:=zh hT
   clear hts hc1 hc2 hT
   generalize ws[k]=x at *
   generalize ws.take k=y at *
   go_wp2_with (at_builtin; refine wpList_append_own _ rfl _ _ 57 rfl w1.heap.size 9 i0 _ 1 16 Tryz.underlying57 hi0 hz0 hz1 hz2 rfl (by decide) _ _ _ rfl (hown.alloc _) ⟨wr.heap.size,0,none⟩ 1 1 [.string (str x)] rfl rfl ?d1 ?d2 ?d3 ?d4 ?d5 ?_)
   case d1=>exact World.news_of_block (cs:=#[.string (str x)]) (t:=9) (fr:=(0,0)) (heap_alloc_new wr _)
   case d2=>intro u hu; simp at hu; subst hu; rfl
   case d3=>unfold maxLen; omega
   case d4=>omega
   case d5=>simp; omega
   intro v' w5 hown5 hg5 _
   have HT5:=zh ((HT.out.below ((Below.refl _ _).alloc (zG _) _)).put hown5 hg5)
   clear hown5 hg5 hown
   go_wp2
   go_roundw
   case rel=>exact ⟨k+1,by omega,by go_num,by rw [Hts.out]; exact HT5.out⟩
   case measure=>simp [intOf]; omega
  ·have hall:ws.take k=ws:=List.take_of_length_le (by omega)
   rw [hall] at hT
   have HT:=zh hT
   clear hT hall
   go_wp2
   go_ret
   exact ⟨_,rfl,HT.out.own.mono Hb1.out.size,Hb1.out.trans (HT.out.bel.mono Hb1.out.size)⟩
set_option maxHeartbeats 800000 in
theorem isName_refB (s:ByteArray) (w:World) (hs:s.size≤140737488351232):Calls Tryz.prog 168 #[.string s] w fun e w'=>e=.returned (.bool (isN s.data.toList))∧w=w':=by
  have Fin:Hid (isN s.data.toList=(decide (1≤s.data.toList.length) && decide (s.data.toList.length≤32) && s.data.toList.all nameB)):=rfl
  rw [bsize] at Fin
  by_cases hl : 1≤s.size∧s.size≤32
  · have h1:(1:Int)≤(s.size:Int):=by omega
    have h2:(s.size:Int)≤32:=by omega
    have Fin2:Hid (isN s.data.toList=s.data.toList.all nameB):=zh (by rw [Fin.out,decide_eq_true hl.1,decide_eq_true hl.2]; rfl)
    clear hl
    go_enter Tryz.func168,Tryz.ntmps168
    go_wp2
    go_loop [3] (fun i=>∃ k:Nat,k≤s.size∧i=.int .i64 k∧(s.data.toList.take k).all nameB=true) (fun i=>s.size - (intOf i).toNat)
    case atStart=>exact ⟨0,Nat.zero_le _,rfl,rfl⟩
    case round =>
      obtain ⟨k,hk,rfl,hal⟩:=hrel
      by_cases hlt:k<s.size
      · have hu:=(s[k]).toNat_lt
        have hts:=take_snoc s k hlt
        have hmem:s[k]∈s.data.toList:=by
          have:s.data.toList[k]'(by rw [bsize]; exact hlt)=s[k]:=rfl
          rw [← this]; exact List.getElem_mem _
        have Hal:=zh hal
        rcases nameB_cases s[k] with ⟨hn,h⟩ | ⟨hn,h9,h⟩
        · have Hnx:Hid ((s.data.toList.take (k+1)).all nameB=true):=zh (by rw [hts,List.all_append,Hal.out]; simp [hn])
          clear hal hts hmem hn
          rcases h with h | h | h
          all_goals
            go_wp2
            all_goals first
              | (go_round
                 case rel=>exact ⟨k+1,by omega,by go_num,Hnx.out⟩
                 case measure=>simp [intOf]; omega)
              | (exfalso; simp only [bne_iff_ne,ne_eq,bne_eq_false_iff_eq,beq_eq_false_iff_ne,decide_eq_true_eq] at *; omega)
        · have Fin3:Hid (isN s.data.toList=false):=zh (by
            rw [Fin2.out]
            exact List.all_eq_false.2 ⟨_,hmem,by rw [hn]; decide⟩)
          clear hal hts hmem hn
          have h9':(((s[k]).toNat:Int) == 95)=false:=by rw [beq_eq_false_iff_ne]; omega
          rcases h with h | h | h
          all_goals
            go_wp2
            all_goals first
              | (go_ret; exact ⟨by rw [Fin3.out]; rfl,rfl⟩)
              | (exfalso; simp only [Bool.not_eq_false',decide_eq_true_eq] at *; omega)
      · obtain rfl:k=s.size:=by omega
        have htk:s.data.toList.take s.size=s.data.toList:=List.take_of_length_le (Nat.le_of_eq (bsize s))
        rw [htk] at hal
        have Fin3:Hid (isN s.data.toList=true):=zh (by rw [Fin2.out,hal])
        clear hal htk
        go_wp2
        go_ret
        exact ⟨by rw [Fin3.out]; rfl,rfl⟩
  · have Fin2:Hid (isN s.data.toList=false):=zh (by
      rw [Fin.out]
      by_cases h1 : 1≤s.size
      · rw [decide_eq_false (show ¬ s.size≤32 by omega)]; simp
      · rw [decide_eq_false h1]; rfl)
    by_cases h1:s.size<1
    · have h1':(s.size:Int)<1:=by omega
      clear hl h1
      go_enter Tryz.func168,Tryz.ntmps168
      go_wp2
      go_ret
      exact ⟨by rw [Fin2.out]; rfl,rfl⟩
    · have h1':(1:Int)≤(s.size:Int):=by omega
      have h2':(32:Int)<(s.size:Int):=by omega
      clear hl h1
      go_enter Tryz.func168,Tryz.ntmps168
      go_wp2
      go_ret
      exact ⟨by rw [Fin2.out]; rfl,rfl⟩
theorem isName_ref (s:ByteArray) (w:World) (hs:s.size≤1048576):Calls Tryz.prog 168 #[.string s] w fun e w'=>e=.returned (.bool (isN s.data.toList))∧w=w' :=
 isName_refB s w (by omega)
end Go.Proofs.YtmomjpolkkbhnaaGreat.Tk
end

section
namespace Go.Proofs.YtmomjpolkkbhnaaGreat.Ev
open Go.RowKit Ut Tk Qy
structure FlAt (w:World) (B:Nat) (F:Option Addr) (fn fc:Nat) (fs:List Fl):Prop where
 rd:Reads w B 2 F fn (fldC fs)
 len:fs.length=fn
 few:fn≤8796093021952
 cap:fn≤fc
 sz:∀ f∈fs,f.1.size≤140737488351232∧f.2.size≤140737488351232
 nl:F=none→fc=0
theorem FlAt.keep {w w':World} {B:Nat} {F:Option Addr} {fn fc:Nat} {fs:List Fl} (h:FlAt w B F fn fc fs) (hk:∀ b o,b<B→w'.cell? ⟨b,o,none⟩=w.cell? ⟨b,o,none⟩):FlAt w' B F fn fc fs:=⟨h.rd.keep hk,h.len,h.few,h.cap,h.sz,h.nl⟩
theorem FlAt.more {w:World} {B B':Nat} {F:Option Addr} {fn fc:Nat} {fs:List Fl} (h:FlAt w B F fn fc fs) (hB:B≤B'):FlAt w B' F fn fc fs:=⟨h.rd.more hB,h.len,h.few,h.cap,h.sz,h.nl⟩
theorem FlAt.grow {w w':World} {F:Option Addr} {fn fc:Nat} {fs:List Fl} (h:FlAt w w.heap.size F fn fc fs) (hb:Below w.heap.size w w'):FlAt w' w'.heap.size F fn fc fs:=(h.keep fun _ _ hp=>hb.cell hp).more hb.size
theorem FlAt.at_ {w:World} {B:Nat} {F:Option Addr} {fn fc:Nat} {fs:List Fl} (h:FlAt w B F fn fc fs) {k:Nat} (hk:k<fs.length) :
  ∃ b o,F=some ⟨b,o,none⟩∧b<B∧w.cell? ⟨b,o+k * 2,none⟩=some (.string fs[k].1)∧w.cell? ⟨b,o+k * 2+1,none⟩=some (.string fs[k].2):=Qy.fields_at h.rd hk
theorem drop_at {α:Type} (l:List α) (k:Nat) (h:k<l.length):l.drop k=l[k] :: l.drop (k+1):=List.drop_eq_getElem_cons h
theorem name_any (s:ByteArray) (w:World) (hs:s.size≤140737488351232):Calls Tryz.prog 123 #[.string s] w fun e w'=>e=.returned (.bool (isN s.data.toList))∧Below w.heap.size w w':=by
 have c:=isName_anyB s w hs
 go_enter Tryz.func123,Tryz.ntmps123
 go_wp2_with fail
 refine c.mono ?_
 rintro e w' ⟨rfl,hb⟩
 go_wp2
 go_ret
 exact ⟨rfl,hb⟩
set_option maxHeartbeats 1600000 in
theorem check_any (t:Int) (F:Option Addr) (fn fc:Nat) (fs:List Fl) (w:World) (h:FlAt w w.heap.size F fn fc fs) :
  Calls Tryz.prog 93 #[.agg #[.int .i64 t,.slice F fn fc]] w fun e w'=>e=.returned (.int .i64 (chkE fs))∧Below w.heap.size w w':=by
 have hl:=h.len
 have hl1:fs.length≤fn:=by omega
 have hl2:fn≤fs.length:=by omega
 have hcap:=h.cap
 have hfew:=h.few
 have Fin:Hid (chkE fs=if 16<fs.length then 3 else chkF fs):=rfl
 have H:=zh h
 have hB1:Hid (Below w.heap.size w (w.alloc (.cells #[.int .i64 t,.slice F fn fc] 46))):=zh ((Below.refl _ _).alloc (zG _) _)
 clear hl h
 generalize chkE fs=r at *
 by_cases hbig : 16<fs.length
 ·have hb16:(16:Int)<(fn:Int):=by omega
  go_enter Tryz.func93,Tryz.ntmps93
  go_wp2
  go_ret
  exact ⟨by rw [Fin.out,if_pos hbig]; rfl,hB1.out⟩
 ·have hb16:¬ (16:Int)<(fn:Int):=by omega
  have Fin2:Hid (r=chkF (fs.drop 0)):=zh (by rw [Fin.out,if_neg hbig,List.drop_zero])
  clear Fin hbig
  go_enter Tryz.func93,Tryz.ntmps93
  go_wp2
  go_loopw [12] (fun i wr=>∃ k:Nat,k≤fs.length∧i=.int .i64 (k:Nat)∧Hid (r=chkF (fs.drop k))∧Hid (Below w.heap.size w wr)) (fun i _=>fs.length - (intOf i).toNat)
  case atStart=>exact ⟨0,Nat.zero_le _,rfl,Fin2,hB1⟩
  case round =>
   clear Fin2 hB1
   obtain ⟨k,hk,rfl,hR,hB⟩:=hrel
   by_cases hlt:k<fs.length
   ·have hkz:(k:Int)<(fn:Int):=by omega
    obtain ⟨b,o,rfl,hbb,cn,ct⟩:=(H.out.keep (w':=wr) (fun b o hp=>hB.out.cell (p:=⟨b,o,none⟩) hp)).at_ hlt
    have hsz:=H.out.sz _ (List.getElem_mem hlt)
    have hR2:Hid (r=if isN fs[k].1.data.toList=false then 100 else if 4096<fs[k].2.size then 2 else chkF (fs.drop (k+1))):=zh (by rw [hR.out,drop_at _ _ hlt]; rfl)
    clear hR
    generalize hfk:fs[k]=f at *
    clear hfk
    obtain ⟨nm,tx⟩:=f
    simp only at cn ct hsz hR2
    obtain ⟨hs1,hs2⟩:=hsz
    go_wp2_with fail
    have hbW:Hid (Below w.heap.size w (wr.alloc (.cells #[.string nm,.string tx] 85))):=zh (hB.out.alloc hB.out.size _)
    have c:=name_any nm (wr.alloc (.cells #[.string nm,.string tx] 85)) hs1
    have d1:=(Blk.new wr 85 #[.string nm,.string tx]).cell 1
    have hlt1:wr.heap.size<(wr.alloc (.cells #[.string nm,.string tx] 85)).heap.size:=by simp
    simp only [zA,zB,zC] at d1
    generalize wr.alloc (.cells #[.string nm,.string tx] 85)=w1 at *
    clear hB cn ct
    refine c.mono ?_
    rintro e w2 ⟨rfl,hb2⟩
    have d2:=(hb2.cell (p:=⟨wr.heap.size,1,none⟩) hlt1).trans d1
    have hB2:Hid (Below w.heap.size w w2):=zh (hbW.out.trans (hb2.mono hbW.out.size))
    clear c d1 hb2 hbW
    by_cases hn:isN nm.data.toList=false
    ·rw [hn]
     go_wp2
     go_ret
     exact ⟨by rw [hR2.out,if_pos hn]; rfl,hB2.out⟩
    ·have hn2:isN nm.data.toList=true:=by simpa using hn
     rw [hn2]
     by_cases ht : 4096<tx.size
     ·have htz:(4096:Int)<(tx.size:Int):=by omega
      go_wp2
      go_ret
      exact ⟨by rw [hR2.out,if_neg hn,if_pos ht]; rfl,hB2.out⟩
     ·have htz:¬ (4096:Int)<(tx.size:Int):=by omega
      have hR3:Hid (r=chkF (fs.drop (k+1))):=zh (by rw [hR2.out,if_neg hn,if_neg ht])
      clear hR2 hn hn2
      go_wp2
      go_roundw
      case rel=>exact ⟨k+1,by omega,by go_num,hR3,hB2⟩
      case measure=>simp [intOf]; omega
   ·have hkz:¬ (k:Int)<(fn:Int):=by omega
    go_wp2
    go_ret
    exact ⟨by rw [hR.out,List.drop_eq_nil_of_le (by omega)]; rfl,hB.out⟩
end Go.Proofs.YtmomjpolkkbhnaaGreat.Ev
end
