/- token.word, loggiaref07.cut: the walks. -/
import Derived.Outline
import Derived.Deep.AppendLies
import Derived.Deep.Onto
import Derived.Deep.DeepCutAuto
import Derived.Lib.IndexLaws
import Derived.Laws.BitsAllLaws
import Derived.Test.YtmomjpolkkbhnaaGreatQModelPagesRow6
import Derived.Test.YtmomjpolkkbhnaaGreatQModelPagesRow2
import Derived.Test.YtmomjpolkkbhnaaGreatQModelPagesRow0
set_option maxRecDepth 20000
section
namespace Go.Proofs.YtmomjpolkkbhnaaGreat.Tk
open Go.RowKit Ut
theorem builder_below {T e:TypeId} {B b:Nat} {bs:List Value} {w w':World} (h:Lib.IsBuilder T e B b bs w) (hb:Below w.heap.size w w'):Lib.IsBuilder T e B b bs w':=by
 have go:∀ p,Lib.BuilderAt T e B b p bs w→Lib.BuilderAt T e B b p bs w':=fun p h=>by
  have hlt:=h.lt
  obtain ⟨hB,v,hbk,hown,hne⟩:=h
  exact ⟨hB,v,(hb.block b hlt).trans hbk,hown.kept (grow_of_below hb none) (by cases hv:v.ownBlock <;> simp),hne⟩
 exact h.imp (go _) (go _)
structure Wr (w wr:World) (a:List UInt8):Prop where
 bu:Lib.IsBuilder 228 5 w.heap.size w.heap.size (Lib.byteCells a) wr
 bel:Below w.heap.size w wr
theorem Wr.below {w wr w2:World} {a:List UInt8} (h:Wr w wr a) (hb:Below wr.heap.size wr w2):Wr w w2 a:=⟨builder_below h.bu hb,h.bel.trans (hb.mono h.bel.size)⟩
theorem Wr.start (w:World):Wr w (w.alloc (.cells #[.pointer none,.slice none 0 0] 228)) []:=⟨Lib.fresh_isBuilder _ _ w,(Below.refl _ _).alloc (zG _) _⟩
theorem len_any {w wr:World} {a:List UInt8} (h:Wr w wr a):Calls Tryz.prog 185 #[.pointer (some ⟨w.heap.size,0,none⟩)] wr fun e w'=>e=.returned (.int .i64 (a.length:Nat))∧wr=w' :=
 (Tryz.Builder_Len _ _ _ wr h.bu).mono fun _ _ ⟨he,hw⟩=>⟨by rw [he]; simp [Lib.byteCells],hw.symm⟩
theorem write_any {w wr:World} {a:List UInt8} (h:Wr w wr a) (s:List UInt8) (hl:a.length+s.length≤100000):Calls Tryz.prog 186 #[.pointer (some ⟨w.heap.size,0,none⟩),.string (str s)] wr fun e w' =>
  e=.returned (.tuple #[.int .i64 (s.length:Nat),.nilIface])∧Wr w w' (a ++ s):=by
 have c:=writeString w.heap.size w.heap.size (Lib.byteCells a) (str s) wr h.bu (by rw [str_size]; simp [Lib.byteCells]; omega) h.bel.size
 refine c.mono fun e w' ⟨he,hb,hw⟩=>⟨by rw [he,str_size],?_,h.bel.trans hw⟩
 have e2:Lib.byteCells a ++ Lib.strCells (str s)=Lib.byteCells (a ++ s):=by
  simp [Lib.byteCells,Lib.strCells,str]
 rw [← e2]
 exact .inr hb
theorem string_any {w wr:World} {a:List UInt8} (h:Wr w wr a):Calls Tryz.prog 187 #[.pointer (some ⟨w.heap.size,0,none⟩)] wr fun e w'=>e=.returned (.string (str a))∧Below w.heap.size w w' :=
 (Tryz.Builder_String_any _ _ a wr h.bu h.bel.size).mono fun _ _ ⟨he,hw⟩=>⟨he,h.bel.trans hw⟩
theorem reads_int1 (w:World) (t:TypeId) (z:Int):Reads (w.alloc (.cells #[.int .i64 z] t)) (w.alloc (.cells #[.int .i64 z] t)).heap.size 1 (some ⟨w.heap.size,0,none⟩) 1 ([z].map (Value.int .i64)):=by
 refine ⟨by simp,fun _=>⟨_,_,rfl,by simp,fun j u hu=>?_⟩⟩
 match j,hu with
 | 0,hu =>
  simp only [List.map_cons,List.map_nil,zB,Option.some.injEq] at hu
  subst hu
  exact (Blk.new w t #[.int .i64 z]).cell 0
theorem encode_one (z:Int):encode [z]=enc z:=by simp [encode]
set_option maxHeartbeats 800000 in
theorem wordp_any (A:Option Addr) (n c:Nat) (l:List Nat) (w:World) (hR:Reads w w.heap.size 1 A n (rv l)) (hn:n≤4398046511104) :
  Calls Tryz.prog 166 #[.slice A n c] w fun e w'=>e=.returned (.string (str (word l)))∧Below w.heap.size w w':=by
 have hlen:l.length=n:=by have:=hR.1; simpa [rv] using this
 have HR:=zh hR
 have Hl:=zh hlen
 have St:=zh (Wr.start w)
 clear hR hlen
 go_enter Tryz.func166,Tryz.ntmps166
 go_wp2
 go_loopw [9] (fun i wr=>∃ (k:Nat) (a:List UInt8),k≤n∧i=.int .i64 k∧a.length≤32∧word l=wordGo a (l.drop k)∧Wr w wr a) (fun i _=>n - (intOf i).toNat)
 case atStart=>exact ⟨0,[],Nat.zero_le _,rfl,by simp,rfl,St.out⟩
 case round =>
  obtain ⟨k,a,hk,rfl,ha,hwd,hW⟩:=hrel
  by_cases hlt:k<n
  ·obtain ⟨ab,ao,hkl,rfl,hab,hcw⟩:=Reads.at_map (f:=fun r:Nat=>Value.int .i64 (r:Int)) HR.out hlt
   have hcx:=(hW.bel.cell (p:=⟨ab,ao+k,none⟩) hab).trans hcw
   rw [List.drop_eq_getElem_cons hkl,wordGo_cons] at hwd
   have c1:=lower_any (l[k]:Int) wr
   have HW:=zh hW
   have Hwd:=zh hwd
   have hel:=enc_len (lower (l[k]:Int))
   clear hwd hcw hW
   generalize lower (l[k]:Int)=z at *
   generalize (l[k]:Int)=r at *
   go_wp2_with fail
   refine c1.mono ?_
   rintro e w2 ⟨rfl,hb2⟩
   have hW2:=(HW.out.below hb2).below ((Below.refl _ _).alloc (zG w2.heap.size) (.cells #[.int .i64 z] 3))
   have c2:=encode_any _ 1 1 [z] _ (reads_int1 w2 3 z) (by omega)
   rw [encode_one] at c2
   have HW2:=zh hW2
   clear hW2 hb2 c1
   go_wp2_with fail
   refine c2.mono ?_
   rintro e w3 ⟨rfl,hb3⟩
   have hW3:=HW2.out.below hb3
   have c3:=len_any hW3
   have c4:=write_any hW3 (enc z) (by omega)
   have c5:=string_any hW3
   have C5:=zh c5
   have hsz:=str_size (enc z)
   generalize enc z=s at *
   clear hb3 c2 hW3 c5
   by_cases h32 : 32<a.length+s.length
   ·have h32':(32:Int)<(a.length:Int)+(s.length:Int):=by omega
    have Fin:Hid (word l=a):=zh (by rw [Hwd.out,if_pos h32])
    clear h32 c4
    go_wp2_with fail
    refine c3.mono ?_
    rintro e w' ⟨rfl,rfl⟩
    go_wp2_with (go_at_call 187; refine C5.out.mono ?_; rintro e w4 ⟨rfl,hb4⟩)
    go_ret
    exact ⟨by rw [Fin.out]; rfl,hb4⟩
   ·have h32':(a.length:Int)+(s.length:Int)≤32:=by omega
    have Fin:Hid (word l=wordGo (a ++ s) (l.drop (k+1))):=zh (by rw [Hwd.out,if_neg h32])
    clear h32
    go_wp2_with fail
    refine c3.mono ?_
    rintro e w' ⟨rfl,rfl⟩
    go_wp2_with fail
    refine c4.mono ?_
    rintro e w4 ⟨rfl,hW4⟩
    have HW4:=zh hW4
    clear hW4 c3 c4
    go_wp2
    go_roundw
    case rel=>exact ⟨k+1,a ++ s,by omega,by go_num,by rw [List.length_append]; omega,Fin.out,HW4.out⟩
    case measure=>simp [intOf]; omega
  ·have hd:l.drop k=[]:=List.drop_eq_nil_of_le (by rw [Hl.out]; omega)
   rw [hd] at hwd
   have Fin:Hid (word l=a):=zh hwd
   have c5:=string_any hW
   clear hwd hd hW
   go_wp2_with (go_at_call 187; refine c5.mono ?_; rintro e w4 ⟨rfl,hb4⟩)
   go_ret
   exact ⟨by rw [Fin.out]; rfl,hb4⟩
def tokV (x:List UInt8 × Int):List Value:=[.string (str x.1),.int .i64 x.2]
def tokC (ws:List (List UInt8 × Int)):List Value:=ws.flatMap tokV
theorem tokC_snoc (ws:List (List UInt8 × Int)) (x:List UInt8 × Int):tokC (ws ++ [x])=tokC ws ++ tokV x:=by simp [tokC]
def placed (ws:List (List UInt8)):List (List UInt8 × Int):=ws.zipIdx.map fun p=>(p.1,(p.2:Int))
theorem placed_len (ws:List (List UInt8)):(placed ws).length=ws.length:=by simp [placed]
theorem placed_snoc (ws:List (List UInt8)) (x:List UInt8):placed (ws ++ [x])=placed ws ++ [(x,(ws.length:Int))]:=by
 simp [placed,List.zipIdx_append]
theorem tok_info:(Tryz.prog.info? 206).map (fun i=>(i.zero,i.size,i.bytes))=some (some (.agg #[.string ByteArray.empty,.int .i64 0]),2,24):=by kernel_rfl
theorem int_info2:(Tryz.prog.info? 3).map (fun i=>(i.zero,i.size,i.bytes))=some (some (.int .i64 0),1,8):=by kernel_rfl
def TokPost (w:World) (ws:List (List UInt8)) (e:Ending) (w':World):Prop :=
 ∃ v,e=.returned v∧w'.ownsRow w.heap.size 206 2 v ws.length (tokC (placed ws))∧Below w.heap.size w w'
structure Toks (w wr:World) (v:Value) (ws:List (List UInt8)):Prop where
 own:wr.ownsRow w.heap.size 206 2 v ws.length (tokC (placed ws))
 bel:Below w.heap.size w wr
theorem Toks.below {w wr w2:World} {v:Value} {ws:List (List UInt8)} (h:Toks w wr v ws) (hb:Below wr.heap.size wr w2):Toks w w2 v ws :=
 ⟨h.own.kept (grow_of_below hb none) (by cases hv:v.ownBlock <;> simp),h.bel.trans (hb.mono h.bel.size)⟩
theorem Toks.start (w wr:World) (hb:Below w.heap.size w wr):Toks w wr (.slice none 0 0) []:=⟨World.ownsRow_nil _ _ _ _,hb⟩
theorem Toks.put {w wr w2:World} {v v':Value} {ws:List (List UInt8)} {x:List UInt8} (h:Toks w wr v ws)
  (hp:w2.ownsRow w.heap.size 206 2 v' (ws.length+1) (tokC (placed ws) ++ [.string (str x),.int .i64 (ws.length:Int)])) (hg:wr.grownBy w2 v.ownBlock):Toks w w2 v' (ws ++ [x]):=by
 refine ⟨?_,h.bel.grown hg h.bel.size (fun k hk=>(h.own.lt k hk).1)⟩
 rw [placed_snoc,tokC_snoc,List.length_append]
 exact hp
end Go.Proofs.YtmomjpolkkbhnaaGreat.Tk
end

section
namespace Go.Proofs.YtmomjpolkkbhnaaGreat.Tk
open Go.RowKit Ut
structure Far (l L:List Nat) (k f:Nat) (ws:List (List UInt8)):Prop where
 le:f≤k
 eq:(runs [] l).map word=ws ++ (runs ((L.take k).drop f) (L.drop k)).map word
 all:∀ r∈(L.take k).drop f,isWord (r:Int)=true
theorem Far.start (l:List Nat):Far l (l ++ [32]) 0 0 []:=⟨zG _,by
 rw [List.drop_zero,List.nil_append,List.drop_zero,List.take_zero,runs_end l [] 32 blank_no],by simp⟩
theorem Far.word_ {l L:List Nat} {k f:Nat} {ws:List (List UInt8)} (h:Far l L k f ws) (hk:k<L.length) (hw:isWord (L[k]:Int)=true):Far l L (k+1) f ws:=by
 have e:(L.take (k+1)).drop f=(L.take k).drop f ++ [L[k]]:=by
  rw [List.take_succ_eq_append_getElem hk,List.drop_append_of_le_length (by rw [List.length_take]; have:=h.le; omega)]
 refine ⟨by have:=h.le; omega,?_,?_⟩
 ·rw [h.eq,List.drop_eq_getElem_cons hk,runs_cons,hw,if_pos rfl,e]
 ·intro r hr
  rw [e] at hr
  rcases List.mem_append.1 hr with hr | hr
  ·exact h.all r hr
  ·simp only [List.mem_singleton] at hr
   subst hr; exact hw
theorem Far.gap {l L:List Nat} {k f:Nat} {ws:List (List UInt8)} (h:Far l L k f ws) (hk:k<L.length) (hw:isWord (L[k]:Int)=false) (hf:¬ f<k):Far l L (k+1) (k+1) ws:=by
 have hl:=h.le
 obtain rfl:f=k:=by omega
 have e:(L.take f).drop f=[]:=List.drop_eq_nil_of_le (by rw [List.length_take]; omega)
 have e2:(L.take (f+1)).drop (f+1)=[]:=List.drop_eq_nil_of_le (by rw [List.length_take]; omega)
 refine ⟨zG _,?_,by rw [e2]; intro r hr; cases hr⟩
 rw [h.eq,List.drop_eq_getElem_cons hk,runs_cons,hw,if_neg (by decide),e,e2]
 rfl
theorem Far.end_ {l L:List Nat} {k f:Nat} {ws:List (List UInt8)} (h:Far l L k f ws) (hk:k<L.length) (hw:isWord (L[k]:Int)=false) (hf:f<k):Far l L (k+1) (k+1) (ws ++ [word ((L.take k).drop f)]):=by
 have e2:(L.take (k+1)).drop (k+1)=[]:=List.drop_eq_nil_of_le (by rw [List.length_take]; omega)
 have hn:(L.take k).drop f≠[]:=by
  intro e
  have:=congrArg List.length e
  rw [List.length_drop,List.length_take,List.length_nil] at this
  omega
 refine ⟨zG _,?_,by rw [e2]; intro r hr; cases hr⟩
 rw [h.eq,List.drop_eq_getElem_cons hk,runs_cons,hw,if_neg (by decide),e2]
 simp [last,hn]
theorem Far.done {l:List Nat} {f:Nat} {ws:List (List UInt8)} (h:Far l (l ++ [32]) (l ++ [32]).length f ws):(runs [] l).map word=ws:=by
 have ha:=h.all
 rw [h.eq,List.drop_length,runs_nil]
 rw [List.take_length] at ha ⊢
 have hn:(l ++ [32]).drop f=[]:=by
  rcases Nat.lt_or_ge f (l ++ [32]).length with hf | hf
  ·exfalso
   have h32:(32:Nat)∈(l ++ [32]).drop f:=by
    rw [List.drop_append_of_le_length (by simp at hf; omega)]
    simp
   have:=ha 32 h32
   revert this
   decide
  ·exact List.drop_eq_nil_of_le hf
 rw [hn]
 simp [last]
theorem _root_.Go.Proofs.YtmomjpolkkbhnaaGreat.Reads.sub {w:World} {B g o n m k:Nat} {xs:List Value} (h:Reads w B 1 (some ⟨g,o,none⟩) n xs) (hm:m≤k) (hk:k≤n):Reads w B 1 (some ⟨g,o+m,none⟩) (k - m) ((xs.take k).drop m):=by
 have hl:=h.1
 refine ⟨by rw [List.length_drop,List.length_take]; omega,fun hn=>?_⟩
 obtain ⟨b,o',e,hb,hc⟩:=h.2 (by omega)
 injection e with e
 injection e with e1 e2
 subst e1 e2
 refine ⟨g,o+m,rfl,hb,fun j u hu=>?_⟩
 rw [List.getElem?_drop,List.getElem?_take] at hu
 split at hu
 ·have:=hc (m+j) u hu
  rw [← Nat.add_assoc] at this
  exact this
 ·cases hu
set_option maxHeartbeats 1600000 in
theorem tokens_anyB (s:ByteArray) (w:World) (hs:s.size≤1048576):Calls Tryz.prog 142 #[.string s] w (TokPost w (words s.data.toList)):=by
 obtain ⟨i0,hi0,hz0,hz1,hz2⟩:=info_parts tok_info
 obtain ⟨j0,hj0,hy0,hy1,hy2⟩:=info_parts int_info2
 have c0:=runes_any s w (by omega)
 have hrl:=runes_len s.data.toList
 rw [bsize] at hrl
 have Fin:Hid (words s.data.toList=(runs [] (runes s.data.toList)).map word):=rfl
 generalize words s.data.toList=wds at *
 generalize runes s.data.toList=l at *
 go_enter Tryz.func142,Tryz.ntmps142
 go_wp2
 go_step3
 go_wp2_with fail
 refine c0.mono ?_
 rintro e w1 ⟨v,rfl,hown,hb1⟩
 have hsz1:=hb1.size
 go_wp2_with (at_builtin; refine wpList_append_lies _ rfl _ _ 27 rfl w.heap.size 3 j0 (.int .i64 0) 1 8 Tryz.underlying27 hj0 hy0 hy1 hy2 rfl (by decide) _ _ _ rfl (hown.alloc _) ⟨w1.heap.size,0,none⟩ 1 1 [.int .i64 32] rfl rfl ?c1 ?c2 ?c0 ?c3 ?c4 ?c5 (w1.heap.size+1) ?c6 ?_)
 case c1=>exact World.news_of_block (cs:=#[.int .i64 32]) (t:=3) (fr:=(0,0)) (heap_alloc_new w1 _)
 case c2=>intro u hu; simp at hu; subst hu; rfl
 case c0=>omega
 case c3=>unfold maxLen; omega
 case c4=>omega
 case c5=>simp; omega
 case c6=>simp
 intro g cap w2 hown2 hg2 _ hlt2
 have hlcap:l.length+1≤cap:=by
  rcases hown2.2 with ⟨hv,_⟩ | ⟨g',cap',cur,hv,_,_,hnc,_⟩
  ·cases hv
  ·injection hv with _ _ hv; omega
 have hL:rv l ++ [Value.int .i64 32]=rv (l ++ [32]):=by simp [rv]
 rw [hL] at hown2
 have hb2:Below w.heap.size w w2:=(hb1.alloc hsz1 _).grown hg2 (by simp; omega) (fun j hj=>(hown.lt _ hj).1)
 have hLl:(l ++ [32]).length=l.length+1:=by simp
 have hR:=Reads.of_own hown2
 have S0:Toks w2 w2 (.slice none 0 0) []:=Toks.start w2 w2 (Below.refl _ _)
 have F0:=Far.start l
 have HR:=zh hR
 have HS0:=zh S0
 have HF0:=zh F0
 have Hb2:=zh hb2
 have HLl:=zh hLl
 have hfd:=fun f ws=>Far.done (l:=l) (f:=f) (ws:=ws)
 have Hfd:=zh hfd
 clear hL hown2 hown hg2 hR S0 F0 hb2 hLl hb1 c0 hfd
 generalize l ++ [32]=L at *
 go_wp2_with fail
 go_step3
 go_wp2_with fail
 go_loopw [3,5,14] (fun v f i wr=>∃ (k m:Nat) (ws:List (List UInt8)),k≤l.length+1∧i=.int .i64 k∧f=.int .i64 m∧Far l L k m ws∧ws.length≤k∧Toks w2 wr v ws) (fun _ _ i _=>l.length+1 - (intOf i).toNat)
 case atStart=>exact ⟨0,0,[],Nat.zero_le _,rfl,rfl,HF0.out,by simp,HS0.out⟩
 case round =>
  obtain ⟨k,m,ws,hk,rfl,rfl,hF,hwl,hT⟩:=hrel
  by_cases hlt:k<l.length+1
  ·obtain ⟨ab,ao,hkl,e,hab,hcw⟩:=Reads.at_map (f:=fun r:Nat=>Value.int .i64 (r:Int)) HR.out hlt
   injection e with e
   injection e with e1 e2
   subst e1 e2
   have hcx:=(hT.bel.cell (p:=⟨g,0+k,none⟩) hab).trans hcw
   rw [Nat.zero_add] at hcx
   have c1:=word_any (L[k]:Int) wr
   have HT:=zh hT
   have HF:=zh hF
   have hml:=hF.le
   clear hcw hT hF
   by_cases hw:isWord (L[k]:Int)=true
   ·have HF2:=zh (HF.out.word_ hkl hw)
    rw [hw] at c1
    clear hw
    generalize (L[k]:Int)=r at *
    go_wp2_with fail
    refine c1.mono ?_
    rintro e w3 ⟨rfl,hb3⟩
    have HT3:=zh (HT.out.below hb3)
    clear c1 hb3
    go_wp2
    go_roundw
    case rel=>exact ⟨k+1,m,ws,by omega,by go_num,rfl,HF2.out,by omega,HT3.out⟩
    case measure=>simp [intOf]; omega
   ·have hw':isWord (L[k]:Int)=false:=by simpa using hw
    rw [hw'] at c1
    clear hw
    by_cases hf:m<k
    ·have HF2:=zh (HF.out.end_ hkl hw' hf)
     clear hw'
     generalize (L[k]:Int)=r at *
     go_wp2_with fail
     refine c1.mono ?_
     rintro e w3 ⟨rfl,hb3⟩
     have HT3:=zh (HT.out.below hb3)
     clear c1 hb3
     have hRs:=(HR.out.below HT3.out.bel).sub (m:=m) (k:=k) (by omega) (by omega)
     have hmp:((rv L).take k).drop m=rv ((L.take k).drop m):=by unfold rv; rw [← List.map_take,← List.map_drop]
     rw [hmp,Nat.zero_add] at hRs
     have c2:=wordp_any (some ⟨g,m,none⟩) (k - m) (cap - m) _ w3 (hRs.more HT3.out.bel.size) (by omega)
     obtain ⟨A3,d3,rfl,_⟩:=own_shape HT3.out.own
     clear hRs hmp
     generalize word ((L.take k).drop m)=wd at *
     go_wp2_with fail
     refine c2.mono ?_
     rintro e w4 ⟨rfl,hb4⟩
     have hT4:=HT3.out.below hb4
     have hown4:=hT4.own
     have hbs4:=hT4.bel.size
     have HT4:=zh hT4
     clear c2 hb4 hT4
     go_wp2_with (at_builtin; refine wpList_append_own _ rfl _ _ 189 rfl w2.heap.size 206 i0 _ 2 24 Tryz.underlying189 hi0 hz0 hz1 hz2 rfl (by decide) _ _ _ rfl (hown4.alloc _) ⟨w4.heap.size,0,none⟩ 1 1 [.string (str wd),.int .i64 (ws.length:Int)] rfl rfl ?d1 ?d2 ?d3 ?d4 ?d5 ?_)
     case d1=>exact World.news_of_block (cs:=#[.string (str wd),.int .i64 (ws.length:Int)]) (t:=206) (fr:=(0,0)) (heap_alloc_new w4 _)
     case d2=>intro u hu; simp at hu; rcases hu with rfl | rfl <;> rfl
     case d3=>unfold maxLen; omega
     case d4=>omega
     case d5=>simp; omega
     intro v' w5 hown5 hg5 _
     have HT5:=zh ((HT4.out.below ((Below.refl _ _).alloc (zG _) _)).put hown5 hg5)
     clear hown5 hg5 hown4
     go_wp2
     go_roundw
     case rel=>exact ⟨k+1,k+1,_,by omega,by go_num,by go_num,HF2.out,by rw [List.length_append]; simp; omega,HT5.out⟩
     case measure=>simp [intOf]; omega
    ·have HF2:=zh (HF.out.gap hkl hw' hf)
     clear hw'
     generalize (L[k]:Int)=r at *
     go_wp2_with fail
     refine c1.mono ?_
     rintro e w3 ⟨rfl,hb3⟩
     have HT3:=zh (HT.out.below hb3)
     clear c1 hb3
     go_wp2
     go_roundw
     case rel=>exact ⟨k+1,k+1,ws,by omega,by go_num,by go_num,HF2.out,by omega,HT3.out⟩
     case measure=>simp [intOf]; omega
  ·obtain rfl:k=l.length+1:=by omega
   rw [← HLl.out] at hF
   have Fin2:=zh (Hfd.out _ _ hF)
   have HT:=zh hT
   clear hF hT
   go_wp2
   rw [Exit.noGoto_ret]
   go_ret
   have e:wds=ws:=by rw [Fin.out,Fin2.out]
   have hz:=Hb2.out.size
   exact ⟨_,rfl,by rw [e]; exact HT.out.own.mono hz,Hb2.out.trans (HT.out.bel.mono hz)⟩
theorem tokens_any (s:ByteArray) (w:World) (hs:s.size≤1048576):Calls Tryz.prog 142 #[.string s] w (TokPost w (words s.data.toList)) :=
 tokens_anyB s w (by omega)
end Go.Proofs.YtmomjpolkkbhnaaGreat.Tk
end

section
namespace Go.Proofs.YtmomjpolkkbhnaaGreat.Tk
open Go.RowKit Ut
theorem tl (s:ByteArray):s.toList=s.data.toList:=ByteArray.toList_eq s
theorem tokC_get:∀ (l:List (List UInt8 × Int)) (k:Nat) (h:k<l.length),(tokC l)[k * 2]?=some (.string (str l[k].1))∧(tokC l)[k * 2+1]?=some (.int .i64 l[k].2)
 | x :: l,0,_=>⟨rfl,rfl⟩
 | x :: l,k+1,h=>by
  have ih:=tokC_get l k (by simpa using h)
  have e1:(k+1) * 2=k * 2+2:=by omega
  have e2:(k+1) * 2+1=(k * 2+1)+2:=by omega
  rw [e2,e1]
  exact ih
theorem placed_get (ws:List (List UInt8)) (k:Nat) (h:k<ws.length):(placed ws)[k]'(by rw [placed_len]; exact h)=(ws[k],(k:Int)):=by
 simp [placed]
theorem toks_at {w:World} {B n:Nat} {A:Option Addr} {ws:List (List UInt8)} (h:Reads w B 2 A n (tokC (placed ws))) (hn:ws.length=n) {k:Nat} (hk:k<ws.length) :
  ∃ b o,A=some ⟨b,o,none⟩∧b<B∧w.cell? ⟨b,o+k * 2,none⟩=some (.string (str ws[k]))∧w.cell? ⟨b,o+k * 2+1,none⟩=some (.int .i64 (k:Int)):=by
 obtain ⟨b,o,e,hb,hc⟩:=h.2 (by omega)
 have g:=tokC_get (placed ws) k (by rw [placed_len]; exact hk)
 rw [placed_get ws k hk] at g
 refine ⟨b,o,e,hb,hc _ _ g.1,?_⟩
 have:=hc _ _ g.2
 rw [← Nat.add_assoc] at this
 exact this
def sv (ws:List (List UInt8)):List Value:=(ws.map str).map Value.string
theorem sv_snoc (ws:List (List UInt8)) (x:List UInt8):sv (ws ++ [x])=sv ws ++ [.string (str x)]:=by simp [sv]
theorem sv_len (ws:List (List UInt8)):(sv ws).length=ws.length:=by simp [sv]
def StrPost (w:World) (ws:List (List UInt8)) (e:Ending) (w':World):Prop :=
 ∃ v,e=.returned v∧w'.ownsRow w.heap.size 9 1 v ws.length (sv ws)∧Below w.heap.size w w'
structure Strs (w wr:World) (v:Value) (ws:List (List UInt8)):Prop where
 own:wr.ownsRow w.heap.size 9 1 v ws.length (sv ws)
 bel:Below w.heap.size w wr
theorem Strs.below {w wr w2:World} {v:Value} {ws:List (List UInt8)} (h:Strs w wr v ws) (hb:Below wr.heap.size wr w2):Strs w w2 v ws :=
 ⟨h.own.kept (grow_of_below hb none) (by cases hv:v.ownBlock <;> simp),h.bel.trans (hb.mono h.bel.size)⟩
theorem Strs.put {w wr w2:World} {v v':Value} {ws:List (List UInt8)} {x:List UInt8} (h:Strs w wr v ws)
  (hp:w2.ownsRow w.heap.size 9 1 v' (ws.length+1) (sv ws ++ [.string (str x)])) (hg:wr.grownBy w2 v.ownBlock):Strs w w2 v' (ws ++ [x]):=by
 refine ⟨?_,h.bel.grown hg h.bel.size (fun k hk=>(h.own.lt k hk).1)⟩
 rw [sv_snoc,List.length_append]
 exact hp
theorem str_info:(Tryz.prog.info? 9).map (fun i=>(i.zero,i.size,i.bytes))=some (some (.string ByteArray.empty),1,16):=by kernel_rfl
theorem words_len (s:ByteArray):(words s.data.toList).length≤s.size:=by
 have h1:∀ (l c:List Nat),(runs c l).length≤l.length+1∧(c=[]→(runs c l).length≤l.length):=by
  intro l
  induction l with
  | nil =>
   intro c
   rw [runs_nil]
   unfold last
   split <;> simp_all
  | cons r t ih =>
   intro c
   rw [runs_cons]
   have h1:=ih (c ++ [r])
   have h2:=(ih []).2 rfl
   split
   ·refine ⟨by simp; omega,fun _=>by simp; omega⟩
   ·have h3:(last c).length≤1:=by unfold last; split <;> simp
    have h4:c=[]→(last c).length=0:=by rintro rfl; rfl
    rw [List.length_append,List.length_cons]
    exact ⟨by omega,fun e=>by have:=h4 e; omega⟩
 unfold words
 rw [List.length_map]
 have:=(h1 (runes s.data.toList) []).2 rfl
 have h2:=runes_len s.data.toList
 rw [bsize] at h2
 omega
theorem new2 (w:World) (o o':Obj):((w.alloc o).alloc o').heap[w.heap.size+1]?=some o':=by
 have:=heap_alloc_new (w.alloc o) o'
 simpa using this
set_option maxHeartbeats 800000 in
theorem words_any (s:ByteArray) (w:World) (hs:s.size≤1048576):Calls Tryz.prog 198 #[.string s] w (StrPost w (words s.data.toList)):=by
 obtain ⟨i0,hi0,hz0,hz1,hz2⟩:=info_parts str_info
 have c0:=tokens_anyB s w (by omega)
 have hwl:=words_len s
 generalize words s.data.toList=ws at *
 go_enter Tryz.func198,Tryz.ntmps198
 go_wp2_with fail
 refine c0.mono ?_
 rintro e w1 ⟨v,rfl,hown,hb1⟩
 obtain ⟨A,c,rfl,hR⟩:=own_shape hown
 have S0:Strs w1 w1 (.slice none 0 0) []:=⟨World.ownsRow_nil _ _ _ _,Below.refl _ _⟩
 have HR:=zh hR
 have HS0:=zh S0
 have Hb1:=zh hb1
 clear hown hR S0 c0 hb1
 go_wp2_with fail
 go_loopw [3,9] (fun v i wr=>∃ k:Nat,k≤ws.length∧i=.int .i64 k∧Strs w1 wr v (ws.take k)) (fun _ i _=>ws.length - (intOf i).toNat)
 case atStart=>exact ⟨0,Nat.zero_le _,rfl,HS0.out⟩
 case round =>
  obtain ⟨k,hk,rfl,hT⟩:=hrel
  by_cases hlt:k<ws.length
  ·obtain ⟨b,o,rfl,hb,hc1,hc2⟩:=toks_at HR.out rfl hlt
   have hd1:=(hT.bel.cell (p:=⟨b,o+k * 2,none⟩) hb).trans hc1
   have hd2:=(hT.bel.cell (p:=⟨b,o+k * 2+1,none⟩) hb).trans hc2
   have hts:ws.take (k+1)=ws.take k ++ [ws[k]]:=by rw [List.take_succ_eq_append_getElem hlt]
   have Hts:=zh hts
   have htl:(ws.take k).length≤ws.length:=by rw [List.length_take]; omega
   have hown:=hT.own
   have hbs:=hT.bel.size
   have HT:=zh hT
   clear hts hc1 hc2 hT
   generalize ws[k]=x at *
   generalize ws.take k=y at *
   go_wp2_with (at_builtin; refine wpList_append_own _ rfl _ _ 57 rfl w1.heap.size 9 i0 _ 1 16 Tryz.underlying57 hi0 hz0 hz1 hz2 rfl (by decide) _ _ _ rfl ((hown.alloc _).alloc _) ⟨wr.heap.size+1,0,none⟩ 1 1 [.string (str x)] rfl rfl ?d1 ?d2 ?d3 ?d4 ?d5 ?_)
   case d1=>exact World.news_of_block (cs:=#[.string (str x)]) (t:=9) (fr:=(0,0)) (new2 wr _ _)
   case d2=>intro u hu; simp at hu; subst hu; rfl
   case d3=>unfold maxLen; omega
   case d4=>omega
   case d5=>simp; omega
   intro v' w5 hown5 hg5 _
   have HT5:=zh (((HT.out.below ((Below.refl _ _).alloc (zG _) _)).below ((Below.refl _ _).alloc (zG _) _)).put hown5 hg5)
   clear hown5 hg5 hown
   go_wp2
   go_roundw
   case rel=>exact ⟨k+1,by omega,by go_num,by rw [Hts.out]; exact HT5.out⟩
   case measure=>simp [intOf]; omega
  ·have hall:ws.take k=ws:=List.take_of_length_le (by omega)
   rw [hall] at hT
   have HT:=zh hT
   clear hT hall
   go_wp2
   go_ret
   exact ⟨_,rfl,HT.out.own.mono Hb1.out.size,Hb1.out.trans (HT.out.bel.mono Hb1.out.size)⟩
theorem str_beq (x:List UInt8) (s:ByteArray):((str x).toList == s.toList)=(x == s.data.toList):=by rw [tl,tl,str_data]
theorem nameB_cases (c:UInt8):(nameB c=true∧((c.toNat=95)∨(48≤c.toNat∧c.toNat≤57)∨(97≤c.toNat∧c.toNat≤122))) ∨
  (nameB c=false∧c.toNat≠95∧(c.toNat<48∨(57<c.toNat∧c.toNat<97)∨122<c.toNat)):=by
 by_cases h:nameB c=true
 ·refine .inl ⟨h,?_⟩
  unfold nameB at h
  simp at h
  omega
 ·refine .inr ⟨by simpa using h,?_⟩
  unfold nameB at h
  simp at h
  omega
set_option maxHeartbeats 800000 in
theorem isName_anyB (s:ByteArray) (w:World) (hs:s.size≤140737488351232):Calls Tryz.prog 149 #[.string s] w fun e w'=>e=.returned (.bool (isN s.data.toList))∧Below w.heap.size w w':=by
  obtain ⟨cap,C,fr,hconv,hC⟩:=bytes_conv (P:=Tryz.prog) 9 30 5 s Tryz.underlying9 Tryz.underlying30 Tryz.underlying5
  have Fin:Hid (isN s.data.toList=(decide (1≤s.data.toList.length) && decide (s.data.toList.length≤32) && s.data.toList.all nameB)):=rfl
  rw [bsize] at Fin
  go_enter Tryz.func149,Tryz.ntmps149
  go_wp2
  go_loopw [8] (fun i wr=>∃ k:Nat,k≤s.size∧i=.int .i64 k∧(s.data.toList.take k).all nameB=true∧Below w.heap.size w wr∧(∀ j (h:j<s.size),wr.cell? ⟨w.heap.size,j,none⟩=some (.int .u8 ((s[j]).toNat:Int)))) (fun i _=>s.size - (intOf i).toNat)
  case atStart =>
    refine ⟨0,Nat.zero_le _,rfl,rfl,((Below.refl _ _).alloc (zG _) _).drew,fun j hj=>?_⟩
    exact (World.cell?_alloc_mark w _ _ _ j).trans (hC w j hj)
  case round =>
    obtain ⟨k,hk,rfl,hal,hb,hcl⟩:=hrel
    by_cases hlt:k<s.size
    · have hcx:=hcl k hlt
      have hu:=(s[k]).toNat_lt
      have hts:=take_snoc s k hlt
      have hmem:s[k]∈s.data.toList:=by
        have:s.data.toList[k]'(by rw [bsize]; exact hlt)=s[k]:=rfl
        rw [← this]; exact List.getElem_mem _
      have Hcl:=zh hcl
      have Hb:=zh hb
      have Hal:=zh hal
      rcases nameB_cases s[k] with ⟨hn,h⟩ | ⟨hn,h9,h⟩
      · have Hnx:Hid ((s.data.toList.take (k+1)).all nameB=true):=zh (by rw [hts,List.all_append,Hal.out]; simp [hn])
        clear hcl hC hb hal hts hmem hn
        generalize (s[k]).toNat=z at *
        rcases h with rfl | h | h
        all_goals
          have h9:True∨True:=.inl trivial
          go_wp2
          all_goals first
            | (go_roundw
               case rel=>exact ⟨k+1,by omega,by go_num,Hnx.out,Hb.out,Hcl.out⟩
               case measure=>simp [intOf]; omega)
            | (exfalso; simp only [bne_iff_ne,ne_eq,bne_eq_false_iff_eq,decide_eq_true_eq] at *; omega)
      · have Fin2:Hid (isN s.data.toList=false):=zh (by
          rw [Fin.out]
          have:s.data.toList.all nameB=false:=List.all_eq_false.2 ⟨_,hmem,by rw [hn]; decide⟩
          rw [this,Bool.and_false])
        clear hcl hC hb hal hts hmem hn
        generalize (s[k]).toNat=z at *
        have h9':((z:Int) != 95)=true:=by rw [bne_iff_ne]; omega
        rcases h with h | h | h
        all_goals
          go_wp2
          go_ret
          exact ⟨by rw [Fin2.out]; rfl,Hb.out⟩
    · obtain rfl:k=s.size:=by omega
      have htk:s.data.toList.take s.size=s.data.toList:=List.take_of_length_le (Nat.le_of_eq (bsize s))
      rw [htk] at hal
      have Fin2:Hid (isN s.data.toList=(decide (1≤s.size) && decide (s.size≤32))):=zh (by rw [Fin.out,hal,Bool.and_true])
      have Hb:=zh hb
      clear hcl hC hb hal htk
      by_cases h1 : 1≤s.size
      · have h1':(1:Int)≤(s.size:Int):=by omega
        rw [decide_eq_true h1,Bool.true_and] at Fin2
        go_wp2
        go_ret
        exact ⟨by rw [Fin2.out]; simp; omega,Hb.out⟩
      · have h1':(s.size:Int)<1:=by omega
        rw [decide_eq_false h1,Bool.false_and] at Fin2
        go_wp2
        go_ret
        exact ⟨by rw [Fin2.out]; rfl,Hb.out⟩
theorem isName_any (s:ByteArray) (w:World) (hs:s.size≤1048576):Calls Tryz.prog 149 #[.string s] w fun e w'=>e=.returned (.bool (isN s.data.toList))∧Below w.heap.size w w' :=
 isName_anyB s w (by omega)
end Go.Proofs.YtmomjpolkkbhnaaGreat.Tk
end

section
namespace Go.Proofs.YtmomjpolkkbhnaaGreat.Tk
open Go.RowKit Ut
def atC (c:UInt8) (l:List UInt8):Nat:=l.findIdx (· == c)
theorem index_c (c:UInt8) (l:List UInt8):Lib.indexByte l c=if atC c l<l.length then ((atC c l:Nat):Int) else -1:=by
 unfold atC
 induction l with
 | nil=>rfl
 | cons x l ih =>
  rw [Lib.indexByte,List.findIdx_cons]
  by_cases hx:(x == c)=true
  ·rw [hx]; simp
  ·have hx':(x == c)=false:=by simpa using hx
   rw [hx',ih]
   simp only [Bool.false_eq_true,if_false,cond_false,List.length_cons]
   generalize l.findIdx (fun x=>x == c)=n
   by_cases h:n<l.length
   ·have h':n+1<l.length+1:=by omega
    rw [if_pos h,if_pos h',if_neg (by simp)]
    simp
   ·have h':¬ n+1<l.length+1:=by omega
    rw [if_neg h,if_neg h']
    simp
def oneS (c:UInt8):ByteArray:=⟨#[c]⟩
theorem index_one (c:UInt8) (s:ByteArray) (w:World):Calls Tryz.prog 215 #[.string s,.string (oneS c)] w fun e w'=>e=.returned (.int .i64 (if atC c s.data.toList<s.size then ((atC c s.data.toList:Nat):Int) else -1))∧w=w' :=
 (Tryz.stringslite_Index_one s c w).mono fun _ _ ⟨he,hw⟩=>⟨by rw [he,index_c,bsize],hw.symm⟩
def befC (c:UInt8) (s:ByteArray):ByteArray:=s.extract 0 (atC c s.data.toList)
def behC (c:UInt8) (s:ByteArray):ByteArray:=s.extract (atC c s.data.toList+1) s.size
theorem befC_data (c:UInt8) (s:ByteArray):(befC c s).data.toList=s.data.toList.take (atC c s.data.toList):=by unfold befC; rw [Lib.extract_data]; simp
theorem behC_data (c:UInt8) (s:ByteArray):(behC c s).data.toList=s.data.toList.drop (atC c s.data.toList+1):=by
 unfold behC; rw [Lib.extract_data,List.take_of_length_le (by rw [List.length_drop,bsize]; omega)]
theorem befC_size (c:UInt8) (s:ByteArray):(befC c s).size≤s.size:=by unfold befC; rw [ByteArray.size_extract]; omega
theorem behC_size (c:UInt8) (s:ByteArray):(behC c s).size≤s.size:=by unfold behC; rw [ByteArray.size_extract]; omega
set_option maxHeartbeats 400000 in
theorem lcutC_yes (c:UInt8) (s:ByteArray) (w:World) (hs:s.size≤1048576) (h:atC c s.data.toList<s.size):Calls Tryz.prog 209 #[.string s,.string (oneS c)] w fun e w'=>e=.returned (.tuple #[.string (befC c s),.string (behC c s),.bool true])∧Below w.heap.size w w':=by
 have cc:=index_one c s w
 rw [if_pos h] at cc
 have F1:Hid (befC c s=s.extract 0 (atC c s.data.toList)):=rfl
 have F2:Hid (behC c s=s.extract (atC c s.data.toList+1) s.size):=rfl
 have hcs:(oneS c).size=1:=rfl
 generalize atC c s.data.toList=k at *
 generalize befC c s=x at *
 generalize behC c s=y at *
 generalize oneS c=sep at *
 have h0:(0:Int)≤(k:Int):=by omega
 have h1:(k:Int)≤(s.size:Int):=by omega
 have h2:IntKind.i64.wrap ((k:Int)+1)=(k:Int)+1:=IntWalk.i64_in _ (by omega)
 have h3:(0:Int)≤(k:Int)+1:=by omega
 have h4:(k:Int)+1≤(s.size:Int):=by omega
 go_enter Tryz.func209,Tryz.ntmps209
 go_wp2_with (go_at_call 215; refine cc.mono ?_; rintro e w' ⟨rfl,rfl⟩)
 go_region
 go_wp2
 go_ret3
 rw [F1.out,F2.out]
 exact ⟨rfl,(Below.refl _ _).drew⟩
theorem lcutC_no (c:UInt8) (s:ByteArray) (w:World) (h:¬ atC c s.data.toList<s.size):Calls Tryz.prog 209 #[.string s,.string (oneS c)] w fun e w'=>e=.returned (.tuple #[.string s,.string ByteArray.empty,.bool false])∧Below w.heap.size w w':=by
 have cc:=index_one c s w
 rw [if_neg h] at cc
 clear h
 generalize oneS c=sep at *
 go_enter Tryz.func209,Tryz.ntmps209
 go_wp2_with (go_at_call 215; refine cc.mono ?_; rintro e w' ⟨rfl,rfl⟩)
 go_ret3
 exact ⟨rfl,Below.refl _ _⟩
theorem cutC_yes (c:UInt8) (s:ByteArray) (w:World) (hs:s.size≤1048576) (h:atC c s.data.toList<s.size):Calls Tryz.prog 194 #[.string s,.string (oneS c)] w fun e w'=>e=.returned (.tuple #[.string (befC c s),.string (behC c s),.bool true])∧Below w.heap.size w w':=by
 have cc:=lcutC_yes c s w hs h
 generalize oneS c=sep at *
 go_enter Tryz.func194,Tryz.ntmps194
 go_wp2_with (go_at_call 209; refine cc.mono ?_; rintro e w2 ⟨rfl,hb2⟩)
 go_ret3
 exact ⟨rfl,hb2⟩
theorem cutC_no (c:UInt8) (s:ByteArray) (w:World) (h:¬ atC c s.data.toList<s.size):Calls Tryz.prog 194 #[.string s,.string (oneS c)] w fun e w'=>e=.returned (.tuple #[.string s,.string ByteArray.empty,.bool false])∧Below w.heap.size w w':=by
 have cc:=lcutC_no c s w h
 generalize oneS c=sep at *
 go_enter Tryz.func194,Tryz.ntmps194
 go_wp2_with (go_at_call 209; refine cc.mono ?_; rintro e w2 ⟨rfl,hb2⟩)
 go_ret3
 exact ⟨rfl,hb2⟩
def headC (c:UInt8) (s:ByteArray):ByteArray:=if atC c s.data.toList<s.size then befC c s else s
theorem headC_data (c:UInt8) (s:ByteArray):(headC c s).data.toList=s.data.toList.take (atC c s.data.toList):=by
 unfold headC
 split
 ·exact befC_data c s
 ·rw [List.take_of_length_le (by rw [bsize]; omega)]
def CutHead (c:UInt8) (s:ByteArray) (w:World) (e:Ending) (w':World):Prop:=∃ (y:ByteArray) (b:Bool),e=.returned (.tuple #[.string (headC c s),.string y,.bool b])∧Below w.heap.size w w'
theorem cutC_head (c:UInt8) (s:ByteArray) (w:World) (hs:s.size≤1048576):Calls Tryz.prog 194 #[.string s,.string (oneS c)] w (CutHead c s w):=by
 by_cases h:atC c s.data.toList<s.size
 ·refine (cutC_yes c s w hs h).mono fun e w' ⟨he,hb⟩=>⟨behC c s,true,?_,hb⟩
  rw [he]; unfold headC; rw [if_pos h]
 ·refine (cutC_no c s w h).mono fun e w' ⟨he,hb⟩=>⟨ByteArray.empty,false,?_,hb⟩
  rw [he]; unfold headC; rw [if_neg h]
def hasC (c:UInt8) (s:ByteArray):Bool:=decide (atC c s.data.toList<s.size)
theorem containsC (c:UInt8) (s:ByteArray) (w:World):Calls Tryz.prog 195 #[.string s,.string (oneS c)] w fun e w'=>e=.returned (.bool (hasC c s))∧w=w' :=
 (Tryz.strings_Contains_one s c w).mono fun _ _ ⟨he,hw⟩=>⟨by
  rw [he,index_c,bsize]
  unfold hasC
  congr 2
  split
  ·rename_i h
   rw [decide_eq_true h]; simp
  ·rename_i h
   rw [decide_eq_false h]; rfl,hw.symm⟩
end Go.Proofs.YtmomjpolkkbhnaaGreat.Tk
end

section

end
