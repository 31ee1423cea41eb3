/- Maps in memory, their values as they stand. (No walk.) -/
import Derived.Maps.OwnSet
import Derived.Maps.RangeWalk
import Derived.Laws.StructEq
import Derived.RegionTactic
import Derived.ChangeAlike
import Derived.BigRegion
import Derived.Maps.AppendAt
import Derived.Test.YtlfpfkallgkjdaaGreatQAlertBatchesRow0
import Derived.Test.YtlfpfkallgkjdaaGreatQAlertBatchesRow23
import Derived.Test.YtlfpfkallgkjdaaGreatQAlertBatchesRow13
import Derived.Test.YtlfpfkallgkjdaaGreatQAlertBatchesRow11
import Derived.Test.YtlfpfkallgkjdaaGreatQAlertBatchesRow26
import Derived.Test.YtlfpfkallgkjdaaGreatQAlertBatchesRow1
set_option linter.unusedSectionVars false
set_option linter.unusedSimpArgs false
set_option linter.unusedVariables false
set_option maxRecDepth 20000
section
namespace Go.Proofs.YtlfpfkallgkjdaaGreat.Mv
open Go.RowKit Go.Maps
def rawR (v:Value):Option (DataW Value × List MemPlace):=some (.held v,[])
theorem rawR_mk (v:Value):rawR v=some (.held v,[]):=rfl
theorem rawR_inv {v:Value} {d:DataW Value} {ps:List MemPlace} (h:rawR v=some (d,ps)):d=.held v:=by
 unfold rawR at h
 injection h with h
 injection h with h _
 exact h.symm
structure KeyLit (κ:Type) where
 lit : κ→Lit
 val : κ→Value
 inj:∀ a b,lit a=lit b→a=b
 key:∀ a,WideAt.IsKeyLit (lit a)
def litS:KeyLit ByteArray where
 lit s:=.string s.data.toList
 val s:=.string s
 inj a b h:=by
  injection h with h
  have h3:a.data=b.data:=Array.toList_inj.1 h
  cases a; cases b; simp at h3; rw [h3]
 key a:=by simp [WideAt.IsKeyLit]
def litI:KeyLit Int where
 lit i:=.int .i64 i
 val i:=.int .i64 i
 inj a b h:=by injection h
 key a:=by simp [WideAt.IsKeyLit]
section
variable {κ:Type} (L:KeyLit κ)
theorem same_dec [DecidableEq κ] (a b : κ):(L.lit a).sameKey (L.lit b)=decide (a=b):=by
 by_cases h:a=b
 ·subst h
  rw [WideAt.sameKey_self (L.key a)]
  simp
 ·rw [Maps.sameKey_ne (fun e=>h (L.inj _ _ e)),decide_eq_false h]
structure TabV (D:DataW Value) (f : κ→Option Value):Prop where
 has:∀ s,Maps.has D (L.lit s)=(f s).isSome
 val:∀ s v,f s=some v→∀ z,D.atKey (L.lit s) z=.held v
 key:∀ kl,Maps.has D kl=true→∃ s,kl=L.lit s
variable {L}
def noV : κ→Option Value:=fun _=>none
def putV [DecidableEq κ] (f : κ→Option Value) (s : κ) (v:Value) : κ→Option Value:=fun t=>if t=s then some v else f t
def delV [DecidableEq κ] (f : κ→Option Value) (s : κ) : κ→Option Value:=fun t=>if t=s then none else f t
theorem TabV.none:TabV L (.map []) noV:=⟨fun s=>rfl,fun s n h=>(nomatch h),fun kl h=>(nomatch h)⟩
theorem TabV.put [DecidableEq κ] {D:DataW Value} {f : κ→Option Value} (h:TabV L D f) (hm:IsMap D) (s : κ) (n:Value):TabV L (D.put (L.lit s) (.held n)) (putV f s n):=by
 refine ⟨fun t=>?_,fun t m ht z=>?_,fun kl hk=>?_⟩
 ·unfold putV
  by_cases e:t=s
  ·subst e
   rw [has_put_same hm (L.key t),if_pos rfl]; rfl
  ·rw [has_put_other (fun e'=>e (L.inj _ _ e')),if_neg e]; exact h.has t
 ·unfold putV at ht
  by_cases e:t=s
  ·subst e
   rw [if_pos rfl] at ht
   injection ht with ht
   rw [atKey_put_same hm (L.key t),ht]
  ·rw [if_neg e] at ht
   rw [atKey_put_other (fun e'=>e (L.inj _ _ e'))]
   exact h.val t m ht z
 ·by_cases e:kl=L.lit s
  ·exact ⟨s,e⟩
  ·rw [has_put_other e] at hk
   exact h.key kl hk
theorem TabV.del [DecidableEq κ] {D:DataW Value} {f : κ→Option Value} (h:TabV L D f) (s : κ):TabV L (D.del (L.lit s)) (delV f s):=by
 refine ⟨fun t=>?_,fun t m ht z=>?_,fun kl hk=>?_⟩
 ·unfold delV
  by_cases e:t=s
  ·subst e
   rw [has_del_same,if_pos rfl]; rfl
  ·rw [has_del_other (fun e'=>e (L.inj _ _ e')),if_neg e]; exact h.has t
 ·unfold delV at ht
  by_cases e:t=s
  ·subst e
   rw [if_pos rfl] at ht
   cases ht
  ·rw [if_neg e] at ht
   rw [atKey_del_other (fun e'=>e (L.inj _ _ e'))]
   exact h.val t m ht z
 ·by_cases e:kl=L.lit s
  ·subst e
   rw [has_del_same] at hk
   cases hk
  ·rw [has_del_other e] at hk
   exact h.key kl hk
theorem TabV.at_ {D:DataW Value} {f : κ→Option Value} (h:TabV L D f) {s : κ} {z v:Value} (hv:D.atKey (L.lit s) (.held z)=.held v):v=(f s).getD z:=by
 cases e:f s with
 | none =>
  have:Maps.has D (L.lit s)=false:=by rw [h.has,e]; rfl
  rw [atKey_of_not_has this] at hv
  injection hv with hv
  exact hv.symm
 | some n =>
  rw [h.val s n e] at hv
  injection hv with hv
  exact hv.symm
theorem TabV.congr {D:DataW Value} {f g : κ→Option Value} (h:TabV L D f) (e:∀ s,f s=g s):TabV L D g:=⟨fun s=>by rw [h.has,e],fun s v hv=>h.val s v (by rw [e]; exact hv),h.key⟩
end
structure MapV {κ:Type} (P:Program) (k:TypeId) (L:KeyLit κ) (w:World) (b n:Nat) (f : κ→Option Value):Prop where
 ex:∃ D,w.ownsMap P k rawR b n D∧TabV L D f
section
variable {κ:Type} {P:Program} {k:TypeId} {L:KeyLit κ} {w w':World} {b n:Nat} {f g : κ→Option Value}
theorem MapV.made (P:Program) (k:TypeId) (L:KeyLit κ) (w:World):MapV P k L (w.alloc (.map #[] 0)) w.heap.size 0 noV:=⟨⟨_,World.ownsMap_made w P k rawR,TabV.none⟩⟩
theorem MapV.kept {row:Option Nat} (h:MapV P k L w b n f) (hg:w.grownBy w' row) (hne:some b≠row):MapV P k L w' b n f:=by
 obtain ⟨D,h1,h2⟩:=h.ex
 exact ⟨⟨D,h1.kept hg hne,h2⟩⟩
theorem MapV.below (h:MapV P k L w b n f) (hb:Below w.heap.size w w'):MapV P k L w' b n f:=h.kept (grow_of_below hb none) (by simp)
theorem MapV.lt (h:MapV P k L w b n f):b<w.heap.size:=by
 obtain ⟨D,h1,_⟩:=h.ex
 exact h1.lt
theorem MapV.same (h:MapV P k L w b n f) (e:w'.heap[b]?=w.heap[b]?):MapV P k L w' b n f:=by
 obtain ⟨D,⟨es,clock,hb,r⟩,h2⟩:=h.ex
 exact ⟨⟨D,⟨es,clock,e.trans hb,r⟩,h2⟩⟩
theorem MapV.congr (h:MapV P k L w b n f) (e:∀ s,f s=g s):MapV P k L w b n g:=by
 obtain ⟨D,h1,h2⟩:=h.ex
 exact ⟨⟨D,h1,h2.congr e⟩⟩
theorem MapV.more (h:MapV P k L w b n f) {n':Nat} (hn:n≤n'):MapV P k L w b n' f:=by
 obtain ⟨D,h1,h2⟩:=h.ex
 exact ⟨⟨D,h1.mono hn,h2⟩⟩
theorem MapV.obj (h:MapV P k L w b n f):∃ es clock,w.heap[b]?=some (.map es clock):=by
 obtain ⟨D,⟨es,clock,hb,_⟩,_⟩:=h.ex
 exact ⟨es,clock,hb⟩
theorem MapV.look {t e:TypeId} (h:MapV P k L w b n f) (K:Keyed P k) (ht:P.underlying t=some (.map k e)) {z:Value} (hz:(zeroValue e).run P w=.ok z w) (s : κ) (hkey:keyOf P k (L.val s)=some (L.lit s)) :
  (Instr.lookup t (.map (some b)) (L.val s) false).run P w=.ok ((f s).getD z) w:=by
 obtain ⟨D,h1,h2⟩:=h.ex
 obtain ⟨v,ps,hrun,hv⟩:=h1.lookup K ht hz (rawR_mk z) hkey
 rw [hrun,h2.at_ (rawR_inv hv)]
theorem MapV.look2 {t e:TypeId} (h:MapV P k L w b n f) (K:Keyed P k) (ht:P.underlying t=some (.map k e)) {z:Value} (hz:(zeroValue e).run P w=.ok z w) (s : κ) (hkey:keyOf P k (L.val s)=some (L.lit s)) :
  (Instr.lookup t (.map (some b)) (L.val s) true).run P w=.ok (.tuple #[(f s).getD z,.bool (f s).isSome]) w:=by
 obtain ⟨D,h1,h2⟩:=h.ex
 obtain ⟨v,ps,hrun,hv⟩:=h1.look_ok K ht hz (rawR_mk z) hkey
 rw [hrun,h2.at_ (rawR_inv hv),h2.has]
theorem MapV.set [DecidableEq κ] {t e:TypeId} (h:MapV P k L w b n f) (K:Keyed P k) (ht:P.underlying t=some (.map k e)) (hn:n<maxLen) (s : κ) (hkey:keyOf P k (L.val s)=some (L.lit s)) (v:Value) :
  ∃ w',(Instr.mapUpdate t (.map (some b)) (L.val s) v).run P w=.ok () w'∧MapV P k L w' b (n+1) (putV f s v)∧w.grownBy w' (some b):=by
 obtain ⟨D,h1,h2⟩:=h.ex
 obtain ⟨w',r1,r2,r3⟩:=h1.update K ht hn hkey (rawR_mk v)
 exact ⟨w',r1,⟨_,r2,h2.put h1.isMap s v⟩,r3⟩
end
theorem wpList_set_v {κ:Type} [DecidableEq κ] {P:Program} {k:TypeId} {L:KeyLit κ} {w:World} {ops:Array Oper} {rest:List Oper} {o:Oper} {a:Act} {Q:Exit→Act→World→Prop}
  (hg:o.guard=none) (m x v:Operand) (t e:TypeId) (hop:o.op=Op.mapUpdate t m x v) (K:Keyed P k) (ht:P.underlying t=some (.map k e)) (b n:Nat) (f : κ→Option Value)
  (hm:a.eval m=.map (some b)) (h:MapV P k L w b n f) (hn:n<maxLen) (s : κ) (val:Value) (hx:a.eval x=L.val s) (hv:a.eval v=val) (hkey:keyOf P k (L.val s)=some (L.lit s))
  (hK:∀ w',MapV P k L w' b (n+1) (putV f s val)→w.grownBy w' (some b)→wpList P ops Q rest (a.put o.dst undef) w'):wpList P ops Q (o :: rest) a w:=by
 refine wpList_plain hg fun K' hK'=>?_
 obtain ⟨w',hrun,r1,r2⟩:=h.set K ht hn s hkey val
 unfold Oper.wp
 simp [execOp,hop,hm,hx,hv,hrun,Result.andThen]
 exact hK' _ _ (hK w' r1 r2)
theorem wpList_look_v {κ:Type} {P:Program} {k:TypeId} {L:KeyLit κ} {w:World} {ops:Array Oper} {rest:List Oper} {o:Oper} {a:Act} {Q:Exit→Act→World→Prop}
  (hg:o.guard=none) (m x:Operand) (t e:TypeId) (hop:o.op=Op.lookup t m x false) (K:Keyed P k) (ht:P.underlying t=some (.map k e)) {z:Value} (hz:(zeroValue e).run P w=.ok z w) (b n:Nat) (f : κ→Option Value)
  (hm:a.eval m=.map (some b)) (h:MapV P k L w b n f) (s : κ) (hx:a.eval x=L.val s) (hkey:keyOf P k (L.val s)=some (L.lit s)) (v:Value) (hfv:(f s).getD z=v)
  (hK:wpList P ops Q rest (a.put o.dst v) w):wpList P ops Q (o :: rest) a w:=by
 refine wpList_plain hg fun K' hK'=>?_
 have hrun:=h.look K ht hz s hkey
 unfold Oper.wp
 simp [execOp,hop,hm,hx,hrun,Result.andThen]
 rw [hfv]
 exact hK' _ _ hK
theorem wpList_look2_v {κ:Type} {P:Program} {k:TypeId} {L:KeyLit κ} {w:World} {ops:Array Oper} {rest:List Oper} {o:Oper} {a:Act} {Q:Exit→Act→World→Prop}
  (hg:o.guard=none) (m x:Operand) (t e:TypeId) (hop:o.op=Op.lookup t m x true) (K:Keyed P k) (ht:P.underlying t=some (.map k e)) {z:Value} (hz:(zeroValue e).run P w=.ok z w) (b n:Nat) (f : κ→Option Value)
  (hm:a.eval m=.map (some b)) (h:MapV P k L w b n f) (s : κ) (hx:a.eval x=L.val s) (hkey:keyOf P k (L.val s)=some (L.lit s)) (v:Value) (ok:Bool) (hfv:(f s).getD z=v) (hfo:(f s).isSome=ok)
  (hK:wpList P ops Q rest (a.put o.dst (.tuple #[v,.bool ok])) w):wpList P ops Q (o :: rest) a w:=by
 refine wpList_plain hg fun K' hK'=>?_
 have hrun:=h.look2 K ht hz s hkey
 unfold Oper.wp
 simp [execOp,hop,hm,hx,hrun,Result.andThen]
 rw [hfv,hfo]
 exact hK' _ _ hK
end Go.Proofs.YtlfpfkallgkjdaaGreat.Mv
end

section
namespace Go.Proofs.YtlfpfkallgkjdaaGreat.Ut
open Go.RowKit
set_option maxHeartbeats 800000 in
theorem encode_ref (A:Option Addr) (n c:Nat) (rs:List Int) (w:World) (hR:Reads w w.heap.size 1 A n (rs.map (Value.int .i64))) (hn:n≤35000000000000) :
  Calls Tryz.prog 169 #[.slice A n c] w fun e w'=>e=.returned (.string (str (encode rs)))∧Below w.heap.size w w':=by
 have hlen:rs.length=n:=by have:=hR.1; simpa using this
 have HR:=zh hR
 have Hl:=zh hlen
 have St:=zh (Putting.start w)
 clear hR hlen
 go_enter Tryz.func169,Tryz.ntmps169
 go_wp2
 go_loopw [3,4] (fun v i wr=>∃ k:Nat,k≤n∧i=.int .i64 k∧Putting w wr v (rs.take k)) (fun _ i _=>n - (intOf i).toNat)
 case atStart=>exact ⟨0,Nat.zero_le _,rfl,St.out⟩
 case round =>
  obtain ⟨k,hk,rfl,hp⟩:=hrel
  have hel:=encode_len (rs.take k)
  have htl:(rs.take k).length≤n:=by rw [List.length_take]; omega
  by_cases hlt:k<n
  ·obtain ⟨ab,ao,hkl,rfl,hab,hcw⟩:=HR.out.at_map hlt
   have hcx:=(hp.bel.cell (p:=⟨ab,ao+k,none⟩) hab).trans hcw
   have hts:rs.take (k+1)=rs.take k ++ [rs[k]]:=by rw [List.take_succ_eq_append_getElem hkl]
   have Hts:=zh hts
   have c1:=rput_any w.heap.size _ u3 _ rs[k] wr hp.own hp.bel.size (by omega)
   have Hp:=zh hp
   clear hts hcw hp
   generalize rs[k]=r at *
   go_wp2_with fail
   refine c1.mono ?_
   rintro e w2 ⟨v',rfl,hown2,hg2⟩
   have Hp2:=zh (Hp.out.put hown2 hg2)
   clear hown2 hg2
   go_wp2
   go_roundw
   case rel=>exact ⟨k+1,by omega,by go_num,by rw [Hts.out]; exact Hp2.out⟩
   case measure=>simp [intOf]; omega
  ·have hall:rs.take k=rs:=List.take_of_length_le (by rw [Hl.out]; omega)
   have hcv:=conv_own (P:=Tryz.prog) (tb:=205) (ts:=9) hp.own Tryz.underlying205 Tryz.underlying5 Tryz.underlying9
   have Hall:=zh hall
   have Hb:=zh hp.bel
   clear hall hp hel htl
   go_wp2
   go_ret
   exact ⟨by rw [Hall.out]; rfl,Hb.out⟩
end Go.Proofs.YtlfpfkallgkjdaaGreat.Ut
end

section
namespace Go.Proofs.YtlfpfkallgkjdaaGreat.Tk
open Go.RowKit Ut
theorem str_app (a b:List UInt8):str a ++ str b=str (a ++ b):=by
 have h:(str a ++ str b).data.toList=a ++ b:=by simp [str]
 rw [← of_str (str a ++ str b),h]
set_option maxHeartbeats 800000 in
theorem cut_ref (A:Option Addr) (n c:Nat) (l:List Nat) (w:World) (hR:Reads w w.heap.size 1 A n (rv l)) (hn:n≤4398046511104) :
  Calls Tryz.prog 137 #[.slice A n c] w fun e w'=>e=.returned (.string (str (word l)))∧Below w.heap.size w w':=by
 have hlen:l.length=n:=by have:=hR.1; simpa [rv] using this
 have HR:=zh hR
 have Hl:=zh hlen
 clear hR hlen
 go_enter Tryz.func137,Tryz.ntmps137
 go_wp2
 go_loopw [3,4] (fun s i wr=>∃ (k:Nat) (a:List UInt8),k≤n∧i=.int .i64 k∧s=.string (str a)∧a.length≤32∧word l=wordGo a (l.drop k)∧Below w.heap.size w wr) (fun _ i _=>n - (intOf i).toNat)
 case atStart=>exact ⟨0,[],Nat.zero_le _,rfl,rfl,by simp,rfl,Below.refl _ _⟩
 case round =>
  obtain ⟨k,a,hk,rfl,rfl,ha,hwd,hW⟩:=hrel
  have hsa:=str_size a
  by_cases hlt:k<n
  ·obtain ⟨ab,ao,hkl,rfl,hab,hcw⟩:=Reads.at_map (f:=fun r:Nat=>Value.int .i64 (r:Int)) HR.out hlt
   have hcx:=(hW.cell (p:=⟨ab,ao+k,none⟩) hab).trans hcw
   rw [List.drop_eq_getElem_cons hkl,wordGo_cons] at hwd
   have c1:=lower_ref (l[k]:Int) wr
   have HW:=zh hW
   have Hwd:=zh hwd
   have hel:=enc_len (lower (l[k]:Int))
   clear hwd hcw hW
   generalize lower (l[k]:Int)=z at *
   generalize (l[k]:Int)=r at *
   go_wp2_with fail
   refine c1.mono ?_
   rintro e w' ⟨rfl,rfl⟩
   have c2:=encode_ref _ 1 1 [z] _ (reads_int1 wr 3 z) (by omega)
   rw [encode_one] at c2
   clear c1
   go_wp2_with fail
   refine c2.mono ?_
   rintro e w3 ⟨rfl,hb3⟩
   have hbw:=(HW.out.alloc HW.out.size (.cells #[.int .i64 z] 3)).trans (hb3.mono (by have:=HW.out.size; simp; omega))
   have hsz:=str_size (enc z)
   have happ:=str_app a (enc z)
   have Hbw:=zh hbw
   generalize enc z=s at *
   clear hb3 c2 hbw
   by_cases h32 : 32<a.length+s.length
   ·have h32':(32:Int)<(a.length:Int)+(s.length:Int):=by omega
    have Fin:Hid (word l=a):=zh (by rw [Hwd.out,if_pos h32])
    clear h32 happ
    go_wp2
    go_ret
    exact ⟨by rw [Fin.out]; rfl,Hbw.out⟩
   ·have h32':(a.length:Int)+(s.length:Int)≤32:=by omega
    have Fin:Hid (word l=wordGo (a ++ s) (l.drop (k+1))):=zh (by rw [Hwd.out,if_neg h32])
    clear h32
    go_wp2
    go_roundw
    case rel=>exact ⟨k+1,a ++ s,by omega,by go_num,by first | rfl | rw [happ],by rw [List.length_append]; omega,Fin.out,Hbw.out⟩
    case measure=>simp [intOf]; omega
  ·have hd:l.drop k=[]:=List.drop_eq_nil_of_le (by rw [Hl.out]; omega)
   rw [hd] at hwd
   have Fin:Hid (word l=a):=zh hwd
   have Hb:=zh hW
   clear hwd hd hW
   go_wp2
   go_ret
   exact ⟨by rw [Fin.out]; rfl,Hb.out⟩
structure FarR (l:List Nat) (k:Nat) (ws:List (List UInt8)):Prop where
 le:k≤l.length
 eq:(runs [] l).map word=ws ++ (runs [] (l.drop k)).map word
theorem FarR.gap {l:List Nat} {k:Nat} {ws:List (List UInt8)} (h:FarR l k ws) (hk:k<l.length) (hw:isWord (l[k]:Int)=false):FarR l (k+1) ws :=
 ⟨hk,by rw [h.eq,List.drop_eq_getElem_cons hk,runs_cons,hw,if_neg (by decide)]; rfl⟩
theorem FarR.run {l:List Nat} {k m:Nat} {ws:List (List UInt8)} (h:FarR l k ws) (hm:k<m) (hml:m≤l.length) (hall:∀ r∈(l.take m).drop k,isWord (r:Int)=true)
  (hend:∀ hm:m<l.length,isWord (l[m]:Int)=false):FarR l m (ws ++ [word ((l.take m).drop k)]):=by
 refine ⟨hml,?_⟩
 have e:l.drop k=(l.take m).drop k ++ l.drop m:=by
  conv=>lhs; rw [← List.take_append_drop m l]
  rw [List.drop_append_of_le_length (by rw [List.length_take]; omega)]
 have hne:(l.take m).drop k≠[]:=by
  intro e
  have:=congrArg List.length e
  rw [List.length_drop,List.length_take,List.length_nil] at this
  omega
 rw [h.eq,e,runs_all _ [] _ hall,List.nil_append]
 generalize (l.take m).drop k=c at *
 rcases Nat.lt_or_ge m l.length with hlt | hge
 ·rw [List.drop_eq_getElem_cons hlt,runs_cons,runs_cons,hend hlt,if_neg (by decide),if_neg (by decide)]
  simp [last,hne]
 ·rw [List.drop_eq_nil_of_le hge,runs_nil,runs_nil]
  simp [last,hne]
theorem FarR.done {l:List Nat} {ws:List (List UInt8)} (h:FarR l l.length ws):(runs [] l).map word=ws:=by
 rw [h.eq,List.drop_length,runs_nil]
 simp [last]
set_option maxHeartbeats 1600000 in
theorem tokens_refB (s:ByteArray) (w:World) (hs:s.size≤1048576):Calls Tryz.prog 92 #[.string s] w (TokPost w (words s.data.toList)):=by
 obtain ⟨i0,hi0,hz0,hz1,hz2⟩:=info_parts tok_info
 have c0:=runes_ref s w (by omega)
 have hrl:=runes_len s.data.toList
 rw [bsize] at hrl
 have Fin:Hid (words s.data.toList=(runs [] (runes s.data.toList)).map word):=rfl
 generalize words s.data.toList=wds at *
 generalize runes s.data.toList=l at *
 go_enter Tryz.func92,Tryz.ntmps92
 go_wp2_with fail
 refine c0.mono ?_
 rintro e w1 ⟨v,rfl,hown,hb1⟩
 obtain ⟨A,c,rfl,hR⟩:=own_shape hown
 have hlc:l.length≤c:=by
  rcases hown.2 with ⟨hv,_⟩ | ⟨g',cap',cur,hv,_,_,hnc,_⟩
  ·injection hv with _ hv _; omega
  ·injection hv with _ _ hv; omega
 have S0:Toks w1 w1 (.slice none 0 0) []:=Toks.start w1 w1 (Below.refl _ _)
 have F0:FarR l 0 []:=⟨Nat.zero_le _,rfl⟩
 have HR:=zh hR
 have HS0:=zh S0
 have HF0:=zh F0
 have Hb1:=zh hb1
 clear hown hR S0 F0 hb1 c0
 go_wp2_with fail
 go_loopw [3,5] (fun v i wr=>∃ (k:Nat) (ws:List (List UInt8)),i=.int .i64 k∧FarR l k ws∧ws.length≤k∧Toks w1 wr v ws) (fun _ i _=>l.length - (intOf i).toNat)
 case atStart=>exact ⟨0,[],rfl,HF0.out,by simp,HS0.out⟩
 case round =>
  obtain ⟨k,ws,rfl,hF,hwl,hT⟩:=hrel
  have hkl:=hF.le
  by_cases hlt:k<l.length
  ·obtain ⟨wo,rfl⟩:∃ wo:World,wo=wr:=⟨_,rfl⟩
   obtain ⟨ab,ao,_,rfl,hab,_⟩:=Reads.at_map (f:=fun r:Nat=>Value.int .i64 (r:Int)) HR.out hlt
   have HT:=zh hT
   have HF:=zh hF
   clear hT hF
   go_wp2
   go_loop [6] (fun e=>∃ m:Nat,k≤m∧m≤l.length∧e=.int .i64 m∧∀ r∈(l.take m).drop k,isWord (r:Int)=true) (fun e=>l.length - (intOf e).toNat)
   case atStart=>exact ⟨k,zG _,hkl,rfl,by
    rw [List.drop_eq_nil_of_le (by rw [List.length_take]; omega)]; intro r hr; cases hr⟩
   case round =>
    obtain ⟨m,hkm,hml,rfl,hall⟩:=hrel
    have Hall:=zh hall
    clear hall
    by_cases hend:m<l.length
    ·obtain ⟨ab',ao',_,e,_,hcw⟩:=Reads.at_map (f:=fun r:Nat=>Value.int .i64 (r:Int)) HR.out hend
     injection e with e
     injection e with e1 e2
     subst e1 e2
     have hcx:=(HT.out.bel.cell (p:=⟨ab,ao+m,none⟩) hab).trans hcw
     have c1:=word_ref (l[m]:Int) wo
     clear hcw
     by_cases hw:isWord (l[m]:Int)=true
     ·have Hall2:Hid (∀ r∈(l.take (m+1)).drop k,isWord (r:Int)=true):=zh (by
       have e:(l.take (m+1)).drop k=(l.take m).drop k ++ [l[m]]:=by
        rw [List.take_succ_eq_append_getElem hend,List.drop_append_of_le_length (by rw [List.length_take]; omega)]
       rw [e]
       intro r hr
       rcases List.mem_append.1 hr with hr | hr
       ·exact Hall.out r hr
       ·simp only [List.mem_singleton] at hr
        subst hr; exact hw)
      rw [hw] at c1
      clear hw
      generalize (l[m]:Int)=r at *
      go_wp2_with (go_at_call 136; refine c1.mono ?_; rintro e w' ⟨rfl,rfl⟩)
      go_round
      case rel=>exact ⟨m+1,by omega,by omega,by go_num,Hall2.out⟩
      case measure=>simp [intOf]; omega
     ·have hw':isWord (l[m]:Int)=false:=by simpa using hw
      have Hstop:Hid (∀ hm:m<l.length,isWord (l[m]:Int)=false):=zh (fun _=>hw')
      rw [hw'] at c1
      clear hw hw'
      generalize (l[m]:Int)=r at *
      obtain ⟨A3,d3,rfl,_⟩:=own_shape HT.out.own
      by_cases hmk:m=k
      ·subst hmk
       have HF2:=zh (HF.out.gap hlt (Hstop.out hlt))
       go_wp2_with (go_at_call 136; refine c1.mono ?_; rintro e w' ⟨rfl,rfl⟩)
       go_roundw
       case rel=>exact ⟨m+1,ws,by go_num,HF2.out,by omega,HT.out⟩
       case measure=>simp [intOf]; omega
      ·have hkm':k<m:=by omega
       have hmk':((m:Int) == (k:Int))=false:=beq_eq_false_iff_ne.2 (by omega)
       have HF2:=zh (HF.out.run (m:=m) (by omega) hml Hall.out Hstop.out)
       have hRs:=(HR.out.below HT.out.bel).sub (m:=k) (k:=m) (by omega) (by omega)
       have hmp:((rv l).take m).drop k=rv ((l.take m).drop k):=by unfold rv; rw [← List.map_take,← List.map_drop]
       rw [hmp] at hRs
       have c2:=cut_ref (some ⟨ab,ao+k,none⟩) (m - k) (c - k) _ wo (hRs.more HT.out.bel.size) (by omega)
       clear hRs hmp hmk
       generalize word ((l.take m).drop k)=wd at *
       go_wp2_with fail
       refine c1.mono ?_
       rintro e w' ⟨rfl,rfl⟩
       go_wp2_with fail
       refine c2.mono ?_
       rintro e w4 ⟨rfl,hb4⟩
       have hT4:=HT.out.below hb4
       have hown4:=hT4.own
       have hbs4:=hT4.bel.size
       have HT4:=zh hT4
       clear c2 hb4 hT4
       go_wp2_with (at_builtin; refine wpList_append_own _ rfl _ _ 151 rfl w1.heap.size 154 i0 _ 2 24 Tryz.underlying151 hi0 hz0 hz1 hz2 rfl (by decide) _ _ _ rfl (hown4.alloc _) ⟨w4.heap.size,0,none⟩ 1 1 [.string (str wd),.int .i64 (ws.length:Int)] rfl rfl ?d1 ?d2 ?d3 ?d4 ?d5 ?_)
       case d1=>exact World.news_of_block (cs:=#[.string (str wd),.int .i64 (ws.length:Int)]) (t:=154) (fr:=(0,0)) (heap_alloc_new w4 _)
       case d2=>intro u hu; simp at hu; rcases hu with rfl | rfl <;> rfl
       case d3=>unfold maxLen; omega
       case d4=>omega
       case d5=>simp; omega
       intro v' w5 hown5 hg5 _
       have HT5:=zh ((HT4.out.below ((Below.refl _ _).alloc (zG _) _)).put hown5 hg5)
       clear hown5 hg5 hown4
       go_wp2
       go_roundw
       case rel=>exact ⟨m,_,rfl,HF2.out,by rw [List.length_append]; simp; omega,HT5.out⟩
       case measure=>simp [intOf]; omega
    ·have Hstop:Hid (∀ hm:m<l.length,isWord (l[m]:Int)=false):=zh (fun hm=>absurd hm hend)
     obtain rfl:m=l.length:=by omega
     obtain ⟨A3,d3,rfl,_⟩:=own_shape HT.out.own
     by_cases hmk:l.length=k
     ·exfalso; omega
     ·have hmk':((l.length:Int) == (k:Int))=false:=beq_eq_false_iff_ne.2 (by omega)
      have HF2:=zh (HF.out.run (m:=l.length) (by omega) hml Hall.out Hstop.out)
      have hRs:=(HR.out.below HT.out.bel).sub (m:=k) (k:=l.length) (by omega) (by omega)
      have hmp:((rv l).take l.length).drop k=rv ((l.take l.length).drop k):=by unfold rv; rw [← List.map_take,← List.map_drop]
      rw [hmp] at hRs
      have c2:=cut_ref (some ⟨ab,ao+k,none⟩) (l.length - k) (c - k) _ wo (hRs.more HT.out.bel.size) (by omega)
      clear hRs hmp hmk
      generalize word ((l.take l.length).drop k)=wd at *
      go_wp2_with fail
      refine c2.mono ?_
      rintro e w4 ⟨rfl,hb4⟩
      have hT4:=HT.out.below hb4
      have hown4:=hT4.own
      have hbs4:=hT4.bel.size
      have HT4:=zh hT4
      clear c2 hb4 hT4
      go_wp2_with (at_builtin; refine wpList_append_own _ rfl _ _ 151 rfl w1.heap.size 154 i0 _ 2 24 Tryz.underlying151 hi0 hz0 hz1 hz2 rfl (by decide) _ _ _ rfl (hown4.alloc _) ⟨w4.heap.size,0,none⟩ 1 1 [.string (str wd),.int .i64 (ws.length:Int)] rfl rfl ?d1 ?d2 ?d3 ?d4 ?d5 ?_)
      case d1=>exact World.news_of_block (cs:=#[.string (str wd),.int .i64 (ws.length:Int)]) (t:=154) (fr:=(0,0)) (heap_alloc_new w4 _)
      case d2=>intro u hu; simp at hu; rcases hu with rfl | rfl <;> rfl
      case d3=>unfold maxLen; omega
      case d4=>omega
      case d5=>simp; omega
      intro v' w5 hown5 hg5 _
      have HT5:=zh ((HT4.out.below ((Below.refl _ _).alloc (zG _) _)).put hown5 hg5)
      clear hown5 hg5 hown4
      go_wp2
      go_roundw
      case rel=>exact ⟨l.length,_,rfl,HF2.out,by rw [List.length_append]; simp; omega,HT5.out⟩
      case measure=>simp [intOf]; omega
  ·obtain rfl:k=l.length:=by omega
   have Fin2:=zh hF.done
   have HT:=zh hT
   clear hF hT
   go_wp2
   go_ret
   have e:wds=ws:=by rw [Fin.out,Fin2.out]
   have hz:=Hb1.out.size
   exact ⟨_,rfl,by rw [e]; exact HT.out.own.mono hz,Hb1.out.trans (HT.out.bel.mono hz)⟩
theorem tokens_ref (s:ByteArray) (w:World) (hs:s.size≤1048576):Calls Tryz.prog 92 #[.string s] w (TokPost w (words s.data.toList)) :=
 tokens_refB s w (by omega)
end Go.Proofs.YtlfpfkallgkjdaaGreat.Tk
end

section
namespace Go.Proofs.YtlfpfkallgkjdaaGreat.Tk
open Go.RowKit Ut
set_option maxHeartbeats 800000 in
theorem words_ref (s:ByteArray) (w:World) (hs:s.size≤1048576):Calls Tryz.prog 183 #[.string s] w (StrPost w (words s.data.toList)):=by
 obtain ⟨i0,hi0,hz0,hz1,hz2⟩:=info_parts str_info
 have c0:=tokens_ref s w hs
 have hwl:=words_len s
 generalize words s.data.toList=ws at *
 go_enter Tryz.func183,Tryz.ntmps183
 go_wp2_with fail
 refine c0.mono ?_
 rintro e w1 ⟨v,rfl,hown,hb1⟩
 obtain ⟨A,c,rfl,hR⟩:=own_shape hown
 have S0:Strs w1 w1 (.slice none 0 0) []:=⟨World.ownsRow_nil _ _ _ _,Below.refl _ _⟩
 have HR:=zh hR
 have HS0:=zh S0
 have Hb1:=zh hb1
 clear hown hR S0 c0 hb1
 go_wp2_with fail
 go_loopw [4,5] (fun v i wr=>∃ k:Nat,k≤ws.length∧i=.int .i64 k∧Strs w1 wr v (ws.take k)) (fun _ i _=>ws.length - (intOf i).toNat)
 case atStart=>exact ⟨0,Nat.zero_le _,rfl,HS0.out⟩
 case round =>
  obtain ⟨k,hk,rfl,hT⟩:=hrel
  by_cases hlt:k<ws.length
  ·obtain ⟨b,o,rfl,hb,hc1,hc2⟩:=toks_at HR.out rfl hlt
   have hd1:=(hT.bel.cell (p:=⟨b,o+k * 2,none⟩) hb).trans hc1
   have hts:ws.take (k+1)=ws.take k ++ [ws[k]]:=by rw [List.take_succ_eq_append_getElem hlt]
   have Hts:=zh hts
   have htl:(ws.take k).length≤ws.length:=by rw [List.length_take]; omega
   have hown:=hT.own
   have hbs:=hT.bel.size
   have HT:=zh hT
   clear hts hc1 hc2 hT
   generalize ws[k]=x at *
   generalize ws.take k=y at *
   go_wp2_with (at_builtin; refine wpList_append_own _ rfl _ _ 49 rfl w1.heap.size 9 i0 _ 1 16 Tryz.underlying49 hi0 hz0 hz1 hz2 rfl (by decide) _ _ _ rfl (hown.alloc _) ⟨wr.heap.size,0,none⟩ 1 1 [.string (str x)] rfl rfl ?d1 ?d2 ?d3 ?d4 ?d5 ?_)
   case d1=>exact World.news_of_block (cs:=#[.string (str x)]) (t:=9) (fr:=(0,0)) (heap_alloc_new wr _)
   case d2=>intro u hu; simp at hu; subst hu; rfl
   case d3=>unfold maxLen; omega
   case d4=>omega
   case d5=>simp; omega
   intro v' w5 hown5 hg5 _
   have HT5:=zh ((HT.out.below ((Below.refl _ _).alloc (zG _) _)).put hown5 hg5)
   clear hown5 hg5 hown
   go_wp2
   go_roundw
   case rel=>exact ⟨k+1,by omega,by go_num,by rw [Hts.out]; exact HT5.out⟩
   case measure=>simp [intOf]; omega
  ·have hall:ws.take k=ws:=List.take_of_length_le (by omega)
   rw [hall] at hT
   have HT:=zh hT
   clear hT hall
   go_wp2
   go_ret
   exact ⟨_,rfl,HT.out.own.mono Hb1.out.size,Hb1.out.trans (HT.out.bel.mono Hb1.out.size)⟩
set_option maxHeartbeats 800000 in
theorem isName_refB (s:ByteArray) (w:World) (hs:s.size≤140737488351232):Calls Tryz.prog 52 #[.string s] w fun e w'=>e=.returned (.bool (isN s.data.toList))∧w=w':=by
  have Fin:Hid (isN s.data.toList=(decide (1≤s.data.toList.length) && decide (s.data.toList.length≤32) && s.data.toList.all nameB)):=rfl
  rw [bsize] at Fin
  by_cases hl : 1≤s.size∧s.size≤32
  · have h1:(1:Int)≤(s.size:Int):=by omega
    have h2:(s.size:Int)≤32:=by omega
    have Fin2:Hid (isN s.data.toList=s.data.toList.all nameB):=zh (by rw [Fin.out,decide_eq_true hl.1,decide_eq_true hl.2]; rfl)
    clear hl
    go_enter Tryz.func52,Tryz.ntmps52
    go_wp2
    go_loop [3] (fun i=>∃ k:Nat,k≤s.size∧i=.int .i64 k∧(s.data.toList.take k).all nameB=true) (fun i=>s.size - (intOf i).toNat)
    case atStart=>exact ⟨0,Nat.zero_le _,rfl,rfl⟩
    case round =>
      obtain ⟨k,hk,rfl,hal⟩:=hrel
      by_cases hlt:k<s.size
      · have hu:=(s[k]).toNat_lt
        have hts:=take_snoc s k hlt
        have hmem:s[k]∈s.data.toList:=by
          have:s.data.toList[k]'(by rw [bsize]; exact hlt)=s[k]:=rfl
          rw [← this]; exact List.getElem_mem _
        have Hal:=zh hal
        rcases nameB_cases s[k] with ⟨hn,h⟩ | ⟨hn,h9,h⟩
        · have Hnx:Hid ((s.data.toList.take (k+1)).all nameB=true):=zh (by rw [hts,List.all_append,Hal.out]; simp [hn])
          clear hal hts hmem hn
          rcases h with h | h | h
          all_goals
            go_wp2
            all_goals first
              | (go_round
                 case rel=>exact ⟨k+1,by omega,by go_num,Hnx.out⟩
                 case measure=>simp [intOf]; omega)
              | (exfalso; simp only [bne_iff_ne,ne_eq,bne_eq_false_iff_eq,beq_eq_false_iff_ne,decide_eq_true_eq] at *; omega)
        · have Fin3:Hid (isN s.data.toList=false):=zh (by
            rw [Fin2.out]
            exact List.all_eq_false.2 ⟨_,hmem,by rw [hn]; decide⟩)
          clear hal hts hmem hn
          have h9':(((s[k]).toNat:Int) == 95)=false:=by rw [beq_eq_false_iff_ne]; omega
          rcases h with h | h | h
          all_goals
            go_wp2
            all_goals first
              | (go_ret; exact ⟨by rw [Fin3.out]; rfl,rfl⟩)
              | (exfalso; simp only [Bool.not_eq_false',decide_eq_true_eq] at *; omega)
      · obtain rfl:k=s.size:=by omega
        have htk:s.data.toList.take s.size=s.data.toList:=List.take_of_length_le (Nat.le_of_eq (bsize s))
        rw [htk] at hal
        have Fin3:Hid (isN s.data.toList=true):=zh (by rw [Fin2.out,hal])
        clear hal htk
        go_wp2
        go_ret
        exact ⟨by rw [Fin3.out]; rfl,rfl⟩
  · have Fin2:Hid (isN s.data.toList=false):=zh (by
      rw [Fin.out]
      by_cases h1 : 1≤s.size
      · rw [decide_eq_false (show ¬ s.size≤32 by omega)]; simp
      · rw [decide_eq_false h1]; rfl)
    by_cases h1:s.size<1
    · have h1':(s.size:Int)<1:=by omega
      clear hl h1
      go_enter Tryz.func52,Tryz.ntmps52
      go_wp2
      go_ret
      exact ⟨by rw [Fin2.out]; rfl,rfl⟩
    · have h1':(1:Int)≤(s.size:Int):=by omega
      have h2':(32:Int)<(s.size:Int):=by omega
      clear hl h1
      go_enter Tryz.func52,Tryz.ntmps52
      go_wp2
      go_ret
      exact ⟨by rw [Fin2.out]; rfl,rfl⟩
theorem isName_ref (s:ByteArray) (w:World) (hs:s.size≤1048576):Calls Tryz.prog 52 #[.string s] w fun e w'=>e=.returned (.bool (isN s.data.toList))∧w=w' :=
 isName_refB s w (by omega)
end Go.Proofs.YtlfpfkallgkjdaaGreat.Tk
end

section
namespace Go.Proofs.YtlfpfkallgkjdaaGreat.Tk
open Go.RowKit Ut
theorem sv_get (ws:List (List UInt8)) (k:Nat) (h:k<ws.length):(sv ws)[k]?=some (.string (str ws[k])):=by simp [sv,List.getElem?_eq_getElem h]
def ct (n:Nat) (s:ByteArray):ByteArray:=s.extract 0 (min s.size n)
end Go.Proofs.YtlfpfkallgkjdaaGreat.Tk
end

section
namespace Go.Proofs.YtlfpfkallgkjdaaGreat.Ss
open Go.Shelf Go.RowKit Go.Lib Go.Sort
variable {α:Type} [Inhabited α] {enc : α→List Value} {cf : α→α→Int} {tag : α→Nat}
set_option maxHeartbeats 4000000 in
set_option maxRecDepth 1000000 in
theorem stable_any (hW:SWO (ltOf cf)) (k:Nat) (hk2:k=2) (g:Nat) (cb:Array Value) (blk off cap:Nat) (d:Array α) (w0 w:World) (eg:∀ args w,(callFunc g args).run Tryz.prog w=.ok (.enter g args) w) (hC:CmpLays Tryz.prog g cb enc k cf blk off d.size w0)
  (R:RowK enc k w0 blk off d) (S:SWK enc k w0 blk off d w) (hsz:d.size<1099511627776) (hT:∀ x y,x<y→y<d.size→tag d[x]!<tag d[y]!) :
  Calls Tryz.prog 111 #[.slice (some ⟨blk,off,none⟩) d.size cap,.int .i64 d.size,.func (.func g) #[] cb] w (MPost enc cf tag k w0 blk off d 0 d.size):=by
 have S0:Aside (SWK enc k w0 blk off d w):=S
 have HC:Aside _:=hC
 have HK:=zh hk2
 have HPI:Hid (Pi cf tag d d 20 d.size 0):=zh (Pi.start (zG _) hT)
 obtain ⟨n,hn⟩:∃ n,d.size=n:=⟨_,rfl⟩
 have N1:n≤d.size:=by omega
 have N2:d.size≤n:=by omega
 have HN:=zh hn
 rw [hn]
 rw [hn] at HPI
 have ins:=fun (a b:Nat) (dk:Array α) (w:World) (hs:dk.size=d.size) (S:SWK enc k w0 blk off dk w) (hab:a≤b) (hb:b≤dk.size) (hT:∀ x y,a≤x→x<y→y<b→tag dk[x]!<tag dk[y]!)=>insertion_any hW k hk2 g cb blk off cap a b d dk w0 w eg hC R hs S hab hb (by omega) hT
 have sym:=fun (a m b:Nat) (dk:Array α) (w:World) (h1:a<m) (h2:m<b) (I:MIn enc cf tag k w0 blk off d dk a m b w)=>sym_any hW k hk2 g cb blk off cap d w0 eg hC R hsz (b - a) a m b dk w (zG _) h1 h2 I
 have INS:=zh ins
 have SYM:=zh sym
 clear S hk2 hC hT ins sym hn
 go_enter Tryz.func111,Tryz.ntmps111
 go_wp2
 go_loopw [7,8] (fun v7 v8 wr=>∃ (c a b:Nat) (dk:Array α),a≤n∧b≤a+20∧a+20≤b∧v7=.int .i64 (a:Nat)∧v8=.int .i64 (b:Nat)∧Hid (a=c * 20)∧Aside (SWK enc k w0 blk off dk wr)∧Hid (Pi cf tag d dk 20 n c)) (fun _ v8 _=>n+20 - (intOf v8).toNat)
 case atStart=>exact ⟨0,0,20,d,by omega,by omega,by omega,rfl,rfl,zh (by omega),S0,HPI⟩
 case round =>
  clear S0 HPI
  obtain ⟨c,a,b,dk,ha,hb1,hb2,rfl,rfl,HA,S1,HP⟩:=hrel
  have hdk:Hid (dk.size=d.size):=zh HP.out.hs
  by_cases hlt:b≤n
  ·have c1:=INS.out a b dk wr hdk.out S1.out (by omega) (by have:=hdk.out; omega) (fun x y h1 h2 h3=>HP.out.tags HA.out h1 h2 (by omega))
   rw [hdk.out,HN.out] at c1
   have C1:=zh c1
   clear c1 S1
   go_wp2_with fail
   refine C1.out.mono ?_
   rintro ev w2 ⟨rfl,d',S2,h1,h2,h3⟩
   have S3:Aside (SWK enc k w0 blk off d' w2):=S2
   have P3:Hid (Pi cf tag d d' 20 n (c+1)):=zh (by
    obtain rfl:b=a+20:=by omega
    exact HP.out.next HA.out hlt h2 h3)
   clear C1 S2 h1 h2 h3 HP hdk
   go_wp2
   go_roundw
   case rel=>exact ⟨c+1,b,b+20,d',by omega,by omega,by omega,rfl,by go_num,zh (by have:=HA.out; omega),S3,P3⟩
   case measure=>simp [intOf]; omega
  ·have hbn:¬ (b:Int)≤(n:Int):=by omega
   have c1:=INS.out a n dk wr hdk.out S1.out (by omega) (by have:=hdk.out; omega) (fun x y h1 h2 h3=>HP.out.tags HA.out h1 h2 (by omega))
   rw [hdk.out,HN.out] at c1
   have C1:=zh c1
   clear c1 S1
   go_wp2_with fail
   refine C1.out.mono ?_
   rintro ev w2 ⟨rfl,d',S2,h1,h2,h3⟩
   have S3:Aside (SWK enc k w0 blk off d' w2):=S2
   have P3:Hid (d'.size=d.size∧PermIn 0 n d d'∧Tgb tag d' 20 n∧Sb cf tag d' 20 n):=zh (HP.out.last HA.out (by omega) ha h2 h3)
   clear C1 S2 h1 h2 h3 HP hdk HA
   go_wp2
   go_loopw [6] (fun v6 wr=>∃ (B:Nat) (dB:Array α),0<B∧B≤2 * n+20∧v6=.int .i64 (B:Nat)∧Aside (SWK enc k w0 blk off dB wr)∧Hid (dB.size=d.size∧PermIn 0 n d dB∧Tgb tag dB B n∧Sb cf tag dB B n)) (fun v6 _=>n - (intOf v6).toNat)
   case atStart=>exact ⟨20,d',by omega,by omega,rfl,S3,P3⟩
   case round =>
    clear S3 P3
    obtain ⟨B,dB,hB0,hB,rfl,S1,HB⟩:=hrel
    by_cases hBn:B<n
    ·have HP0:Hid (Ph cf tag d dB dB B n 0):=zh (Ph.start HB.out.1 (by omega) HB.out.2.1 HB.out.2.2.1 HB.out.2.2.2)
     clear HB
     go_wp2
     go_loopw [7,8] (fun v7 v8 wr=>∃ (c a b:Nat) (dk:Array α),a≤n∧b≤a+2 * B∧a+2 * B≤b∧v7=.int .i64 (a:Nat)∧v8=.int .i64 (b:Nat)∧Hid (a=c * (2 * B))∧Aside (SWK enc k w0 blk off dk wr)∧Hid (Ph cf tag d dB dk B n c)) (fun _ v8 _=>n+2 * B - (intOf v8).toNat)
     case atStart=>exact ⟨0,0,2 * B,dB,by omega,by omega,by omega,rfl,by go_num,zh (by omega),S1,HP0⟩
     case round =>
      clear S1 HP0
      obtain ⟨c,a,b,dk,ha,hb1,hb2,rfl,rfl,HA,S1,HP⟩:=hrel
      have hdk:Hid (dk.size=d.size):=zh HP.out.hs
      obtain ⟨m,hm⟩:∃ m,m=a+B:=⟨_,rfl⟩
      have m1:m≤a+B:=by omega
      have m2:a+B≤m:=by omega
      have hmz:(a:Int)+(B:Int)=(m:Int):=by omega
      by_cases hlt:b≤n
      ·have W:=HP.out.wants (a:=a) (b:=b) HA.out (by omega) (by omega)
       rw [← hm] at W
       have c1:=SYM.out a m b dk wr (by omega) (by omega) ⟨hdk.out,S1.out,by have:=hdk.out; omega,W.1,W.2.1,W.2.2⟩
       rw [hdk.out,HN.out] at c1
       have C1:=zh c1
       clear c1 S1 W
       have HM:=zh hm
       clear hm
       go_wp2_with fail
       refine C1.out.mono ?_
       rintro ev w2 ⟨rfl,d',S2,h1,h2,h3⟩
       have S3:Aside (SWK enc k w0 blk off d' w2):=S2
       have P3:Hid (Ph cf tag d dB d' B n (c+1)):=zh (by
        obtain rfl:b=a+2 * B:=by omega
        exact HP.out.next HA.out hlt h2 h3)
       clear C1 S2 h1 h2 h3 HP hdk hmz
       go_wp2
       go_roundw
       case rel=>exact ⟨c+1,b,b+2 * B,d',by omega,by omega,by omega,rfl,by go_num,zh (by rw [blk_b,← HA.out]; omega),S3,P3⟩
       case measure=>simp [intOf]; omega
      ·have hbn:¬ (b:Int)≤(n:Int):=by omega
       by_cases hmn:m<n
       ·have W:=HP.out.wants (a:=a) (b:=n) HA.out (by omega) (by omega)
        rw [← hm] at W
        have c1:=SYM.out a m n dk wr (by omega) (by omega) ⟨hdk.out,S1.out,by have:=hdk.out; omega,W.1,W.2.1,W.2.2⟩
        rw [hdk.out,HN.out] at c1
        have C1:=zh c1
        clear c1 S1 W
        have HM:=zh hm
        clear hm
        go_wp2_with fail
        refine C1.out.mono ?_
        rintro ev w2 ⟨rfl,d',S2,h1,h2,h3⟩
        have S3:Aside (SWK enc k w0 blk off d' w2):=S2
        have P3:Hid (d'.size=d.size∧PermIn 0 n d d'∧Tgb tag d' (2 * B) n∧Sb cf tag d' (2 * B) n):=zh (HP.out.last HA.out (by omega) (by omega) h2 h3)
        clear C1 S2 h1 h2 h3 HP hdk hmz
        go_wp2
        go_roundw
        case rel=>exact ⟨2 * B,d',by omega,by omega,by go_num,S3,P3⟩
        case measure=>simp [intOf]; omega
       ·have hmn':¬ (m:Int)<(n:Int):=by omega
        have P3:Hid (dk.size=d.size∧PermIn 0 n d dk∧Tgb tag dk (2 * B) n∧Sb cf tag dk (2 * B) n):=zh (HP.out.done HA.out (by omega))
        have HM:=zh hm
        clear HP hdk hm
        go_wp2
        go_roundw
        case rel=>exact ⟨2 * B,dk,by omega,by omega,by go_num,S1,P3⟩
        case measure=>simp [intOf]; omega
    ·have hBn':¬ (B:Int)<(n:Int):=by omega
     have Fin:Hid (dB.size=d.size∧PermIn 0 n d dB∧Srt cf tag dB 0 n):=zh ⟨HB.out.1,HB.out.2.1,HB.out.2.2.2.whole (by omega)⟩
     clear HB
     go_wp2
     go_end0
     exact ⟨rfl,dB,S1.out,Fin.out⟩
set_option maxHeartbeats 4000000 in
set_option maxRecDepth 1000000 in
theorem sortStable_any (hW:SWO (ltOf cf)) (k:Nat) (hk2:k=2) (g:Nat) (cb:Array Value) (blk off cap:Nat) (d:Array α) (w:World) (eg:∀ args w,(callFunc g args).run Tryz.prog w=.ok (.enter g args) w) (hC:CmpLays Tryz.prog g cb enc k cf blk off d.size w)
  (R:RowK enc k w blk off d) (S:SWK enc k w blk off d w) (hsz:d.size<1099511627776) (hT:∀ x y,x<y→y<d.size→tag d[x]!<tag d[y]!) :
  Calls Tryz.prog 74 #[.slice (some ⟨blk,off,none⟩) d.size cap,.func (.func g) #[] cb] w (MPost enc cf tag k w blk off d 0 d.size):=by
 have C:=zh (stable_any hW k hk2 g cb blk off cap d w w eg hC R S hsz hT)
 clear hW hk2 hC S hT R eg
 go_enter Tryz.func74,Tryz.ntmps74
 go_wp2_with fail
 refine C.out.mono ?_
 rintro ev w2 ⟨rfl,H⟩
 have F:=zh H
 clear H C
 go_wp2
 go_end0
 exact ⟨rfl,F.out⟩
end Go.Proofs.YtlfpfkallgkjdaaGreat.Ss
end

section
namespace Go.Proofs.YtlfpfkallgkjdaaGreat.Ph
open Go Go.RowKit
def Tr (_ _:World):Prop:=True
section
variable {P:Program} {ops:Array Oper} {md:Region.Mode} {C:World→Prop} {Q:Act→World→Prop} {S:Nat→Option RSpec} {n g:Nat} {K:Array Bool→Act→(World→Prop)→Prop}
def updI (I:World→Prop):Option (World→Prop)→World→Prop
 | none=>I
 | some p=>p
def Fixed (P:Program) (C:World→Prop) (o:Oper) (a:Act) (c:Value):Prop :=
 ∀ w,C w→(execOp a.eval o).run P w=.ok (.value c) w∨((execOp a.eval o).run P w=.ok .skip w∧c=undef)
def Gives (P:Program) (C:World→Prop) (I:World→Prop) (o:Oper) (a:Act) (s:RSpec):Prop :=
 ∀ w,C w→I w→growUpon P Tr w (fun v w'=>C w'∧∃ x,v=s.f x∧s.Φ x w') ((execOp a.eval o).run P w)
def stepI (P:Program) (ops:Array Oper) (C:World→Prop) (S:Nat→Option RSpec) (i:Nat) (o:Oper) (K:Act→(World→Prop)→Prop) (a:Act) (I:World→Prop):Prop :=
 if Region.wanted o (yielded ops a.tmps)=true then
  match S i with
  | none=>∃ c,Fixed P C o a c∧K (a.put o.dst c) I
  | some s=>Gives P C I o a s∧∀ x,K (a.put o.dst (s.f x)) (s.Φ x)
 else K (a.put o.dst undef) I
def SatI (C:World→Prop) (I:World→Prop):Prop:=∃ w,C w∧I w
def FinI (C:World→Prop) (Q:Act→World→Prop) (a:Act) (I:World→Prop):Prop:=∀ w,C w→I w→Q a w
def TAnyI (P:Program) (md:Region.Mode) (ops:Array Oper) (C:World→Prop) (S:Nat→Option RSpec) (n:Nat) (K:Array Bool→Act→(World→Prop)→Prop):Nat→Array Bool→Act→(World→Prop)→Prop
 | 0,listed,a,I=>SatI C I→K listed a I
 | fuel+1,listed,a,I=>SatI C I→(Region.ready md ops listed≠[] ∧
  ∀ i∈Region.ready md ops listed,i<n∧∀ o,ops[i]?=some o→stepI P ops C S i o (TAnyI P md ops C S n K fuel (listed.setIfInBounds i true)) a I)
def wpPh (P:Program) (ops:Array Oper) (C:World→Prop) (S:Nat→Option RSpec) (Q:Act→World→Prop):List Oper→Nat→Act→(World→Prop)→Prop
 | [],_,a,I=>FinI C Q a I
 | o :: rest,k,a,I=>stepI P ops C S k o (wpPh P ops C S Q rest (k+1)) a I
theorem wpAny_of_I {Q':Exit→Act→World→Prop} (hK:∀ listed a I w,K listed a I→C w→I w→wpAny P md ops Q' g listed a w) :
  ∀ (fuel:Nat) (listed:Array Bool) (a:Act) (I:World→Prop) (w:World),C w→I w→TAnyI P md ops C S n K fuel listed a I→wpAny P md ops Q' (fuel+g) listed a w
 | 0,_,a,I,w,hC,hI,h=>by rw [Nat.zero_add]; exact hK _ _ _ _ (h ⟨w,hC,hI⟩) hC hI
 | fuel+1,listed,a,I,w,hC,hI,h=>by
  rw [show fuel+1+g=(fuel+g)+1 by omega]
  have h:=h ⟨w,hC,hI⟩
  refine ⟨fun h0=>absurd h0 h.1,fun i hi=>?_⟩
  unfold wpOp
  obtain ⟨_,o,ho,_⟩:=mem_ready.1 hi
  simp only [ho]
  have hs:=(h.2 i hi).2 o ho
  unfold stepI at hs
  split
  ·rename_i hw
   rw [if_pos hw] at hs
   left
   split at hs
   ·rename_i hSi
    obtain ⟨c,h1,h2⟩:=hs
    rcases h1 w hC with hr | ⟨hr,rfl⟩
    ·unfold Oper.wp; rw [hr]
     exact wpAny_of_I hK fuel _ _ I w hC hI h2
    ·unfold Oper.wp; rw [hr]
     exact wpAny_of_I hK fuel _ _ I w hC hI h2
   ·rename_i s hSi
    refine wp_of_gives ?_ (hs.1 w hC hI)
    rintro v w' _ ⟨hC',x,rfl,hx⟩
    exact wpAny_of_I hK fuel _ _ _ w' hC' hx (hs.2 x)
  ·rename_i hw
   rw [if_neg hw] at hs
   exact wpAny_of_I hK fuel _ _ I w hC hI hs
inductive Head (P:Program) (ops:Array Oper) (C:World→Prop) (S:Nat→Option RSpec) (i:Nat) (o:Oper) (a:Act) (I:World→Prop):(V:Type)→(V→Value)→(V→Option (World→Prop))→Prop
 | skip (h:Region.wanted o (yielded ops a.tmps)=false):Head P ops C S i o a I Unit (fun _=>undef) (fun _=>none)
 | fixed (h:Region.wanted o (yielded ops a.tmps)=true) (hs:S i=none) (c:Value) (hf:Fixed P C o a c):Head P ops C S i o a I Unit (fun _=>c) (fun _=>none)
 | gives (h:Region.wanted o (yielded ops a.tmps)=true) (s:RSpec) (hs:S i=some s) (hg:Gives P C I o a s):Head P ops C S i o a I s.α s.f (fun x=>some (s.Φ x))
section
variable {i:Nat} {o:Oper} {a a':Act} {I I':World→Prop} {V V':Type} {f:V→Value} {p:V→Option (World→Prop)} {f':V'→Value} {p':V'→Option (World→Prop)}
theorem Head.step (h:Head P ops C S i o a I V f p) {K:Act→(World→Prop)→Prop} (hk:∀ x,K (a.put o.dst (f x)) (updI I (p x))):stepI P ops C S i o K a I:=by
 cases h with
 | skip h=>unfold stepI; rw [if_neg (by rw [h]; decide)]; exact hk ()
 | fixed h hs c hf=>unfold stepI; rw [if_pos h]; simp only [hs]; exact ⟨c,hf,hk ()⟩
 | gives h s hs hg=>unfold stepI; rw [if_pos h]; simp only [hs]; exact ⟨hg,hk⟩
theorem head_of_step {K:Act→(World→Prop)→Prop} (h:stepI P ops C S i o K a I) :
  ∃ (V:Type) (f:V→Value) (p:V→Option (World→Prop)),Head P ops C S i o a I V f p∧∀ x,K (a.put o.dst (f x)) (updI I (p x)):=by
 unfold stepI at h
 by_cases hw:Region.wanted o (yielded ops a.tmps)=true
 ·rw [if_pos hw] at h
  split at h
  ·rename_i hs
   obtain ⟨c,h1,h2⟩:=h
   exact ⟨_,_,_,.fixed hw hs c h1,fun _=>h2⟩
  ·rename_i s hs
   exact ⟨_,_,_,.gives hw s hs h.1,h.2⟩
 ·rw [if_neg hw] at h
  exact ⟨_,_,_,.skip (by simpa using hw),fun _=>h⟩
theorem Head.same (h:Head P ops C S i o a I V f p) (he:execOp a'.eval o=execOp a.eval o) (hw:Region.wanted o (yielded ops a'.tmps)=Region.wanted o (yielded ops a.tmps)) (hI:S i=none∨I'=I):Head P ops C S i o a' I' V f p:=by
 cases h with
 | skip h=>exact .skip (by rw [hw]; exact h)
 | fixed h hs c hf=>exact .fixed (by rw [hw]; exact h) hs c (fun w hC=>by rw [he]; exact hf w hC)
 | gives h s hs hg =>
  rcases hI with hI | rfl
  ·rw [hI] at hs; cases hs
  ·exact .gives (by rw [hw]; exact h) s hs (fun w hC hI=>by rw [he]; exact hg w hC hI)
theorem Head.quiet (h:Head P ops C S i o a I V f p) (hs:S i=none) (x:V):p x=none:=by
 cases h with
 | skip h=>rfl
 | fixed h hs c hf=>rfl
 | gives h s hs' hg=>rw [hs] at hs'; cases hs'
theorem Head.one (h:Head P ops C S i o a I V f p) (h':Head P ops C S i o a I V' f' p') (hs:SatI C I) (x:V):∃ x',f' x'=f x∧p' x'=p x:=by
 obtain ⟨w,hC,hI⟩:=hs
 cases h with
 | skip h =>
  cases h' with
  | skip h'=>exact ⟨(),rfl,rfl⟩
  | fixed h' _ _ _=>rw [h] at h'; cases h'
  | gives h' _ _ _=>rw [h] at h'; cases h'
 | fixed h hs c hf =>
  cases h' with
  | skip h'=>rw [h] at h'; cases h'
  | fixed h' hs' c' hf' =>
   refine ⟨(),?_,rfl⟩
   show c'=c
   rcases hf w hC with h1 | ⟨h1,rfl⟩ <;> rcases hf' w hC with h2 | ⟨h2,rfl⟩
   ·rw [h1] at h2; injection h2 with h2; injection h2 with h2; exact h2.symm
   ·rw [h1] at h2; injection h2 with h2; cases h2
   ·rw [h1] at h2; injection h2 with h2; cases h2
   ·rfl
  | gives h' s hs' hg'=>rw [hs] at hs'; cases hs'
 | gives h s hs hg =>
  cases h' with
  | skip h'=>rw [h] at h'; cases h'
  | fixed h' hs' c' hf'=>rw [hs] at hs'; cases hs'
  | gives h' s' hs' hg' =>
   rw [hs] at hs'
   injection hs' with hs'
   subst hs'
   exact ⟨x,rfl,rfl⟩
theorem Head.sat (h:Head P ops C S i o a I V f p) (hs:SatI C I):∃ x,SatI C (updI I (p x)):=by
 cases h with
 | skip h=>exact ⟨(),hs⟩
 | fixed h _ c hf=>exact ⟨(),hs⟩
 | gives h s hsi hg =>
  obtain ⟨w,hC,hI⟩:=hs
  have h1:=hg w hC hI
  have key:∀ (v:Value) (w':World),(C w'∧∃ x,v=s.f x∧s.Φ x w')→∃ x,SatI C (updI I (some (s.Φ x))):=by
   rintro v w' ⟨hC',x,_,hx⟩
   exact ⟨x,w',hC',hx⟩
  generalize (execOp a.eval o).run P w=r at h1
  cases r with
  | ok n w' =>
   cases n <;> simp only [growUpon] at h1
   case value u=>exact key _ _ h1.2
   case skip=>exact key _ _ h1.2
   case enter f args =>
    obtain ⟨e,w'',_,⟨v,_,_,hr⟩,_⟩:=h1 []
    exact key v w'' hr
  | halt x w'=>simp only [growUpon] at h1
theorem updI_comm {p q:Option (World→Prop)} (h:p=none∨q=none):updI (updI I p) q=updI (updI I q) p:=by
 rcases h with rfl | rfl
 ·cases q <;> rfl
 ·cases p <;> rfl
end
inductive Waits (md:Region.Mode) (ops:Array Oper):Nat→Nat→Prop
 | one {j:Nat} {oj:Oper} (hj:ops[j]?=some oj) (e:Edge) (he:e∈oj.after) (hb:Region.binds md e=true):Waits md ops j e.on
 | more {j i:Nat} {oj:Oper} (hj:ops[j]?=some oj) (e:Edge) (he:e∈oj.after) (hb:Region.binds md e=true) (h:Waits md ops e.on i):Waits md ops j i
theorem Waits.listed {j i:Nat} {listed:Array Bool} (h:Waits md ops j i) (inv:HeadInv md ops n listed):listed.getD j false=true→listed.getD i false=true:=by
 induction h with
 | one hj e he hb=>exact fun hl=>inv.closed _ _ hj hl e he hb
 | more hj e he hb _ ih=>exact fun hl=>ih (inv.closed _ _ hj hl e he hb)
theorem Waits.ready {j i:Nat} {listed:Array Bool} (h:Waits md ops j i) (inv:HeadInv md ops n listed) (hr:j∈Region.ready md ops listed):listed.getD i false=true:=by
 obtain ⟨_,o,ho,hall⟩:=mem_ready.1 hr
 cases h with
 | one hj e he hb =>
  rw [ho] at hj
  injection hj with hj
  subst hj
  exact hall e he hb
 | more hj e he hb h =>
  rw [ho] at hj
  injection hj with hj
  subst hj
  exact h.listed inv (hall e he hb)
theorem Waits.not {j i:Nat} {listed:Array Bool} (h:Waits md ops j i) (inv:HeadInv md ops n listed) (hr:j∈Region.ready md ops listed) (hi:i∈Region.ready md ops listed):False:=by
 have h1:=h.ready inv hr
 have h0:=(mem_ready.1 hi).1
 rcases Nat.lt_or_ge i listed.size with h' | h'
 ·simp [h'] at h0 h1; rw [h0] at h1; cases h1
 ·simp [Array.getElem?_eq_none h'] at h1
def Turns (md:Region.Mode) (ops:Array Oper) (S:Nat→Option RSpec):Prop:=∀ (i j:Nat) (oi oj:Oper),ops[i]?=some oi→ops[j]?=some oj→i≠j→S i=none∨S j=none∨Waits md ops j i∨Waits md ops i j
theorem TAnyI_first {i:Nat} {oi:Oper} (hi:ops[i]?=some oi) (hsel:∀ (j:Nat) (o:Oper) cs b,ops[j]?=some o→o.op≠.select cs b) (hT:Turns md ops S)
  (hs:Region.sinkB md ops n=true) (hc:Region.chainB md ops n=true) (hn:n<ops.size) (hin:i<n) (hdone:∀ listed a I,K listed a I→∀ j∈Region.ready md ops listed,n≤j)
  {V:Type} {f:V→Value} {p:V→Option (World→Prop)} :
  ∀ (fuel:Nat) (listed:Array Bool) (a:Act) (I:World→Prop),HeadInv md ops n listed →
   (∀ j oj,ops[j]?=some oj→j≠i→listed.getD j true=false→(∀ e∈oj.after,Region.binds md e=true→e.on≠i)→oi.apart ops oj=true) →
   i∈Region.ready md ops listed→Head P ops C S i oi a I V f p →
   (∀ x,TAnyI P md ops C S n K fuel (listed.setIfInBounds i true) (a.put oi.dst (f x)) (updI I (p x)))→TAnyI P md ops C S n K (fuel+1) listed a I:=by
 intro fuel
 induction fuel with
 | zero =>
  intro listed a I inv _ hr hy H hsat
  have hun:=(mem_ready.1 hr).1
  refine ⟨fun h=>(by rw [h] at hr; cases hr),fun j hj=>?_⟩
  have hjn:j<n:=by
   rcases Nat.lt_or_ge j n with h | h
   ·exact h
   ·exact absurd hj (tail_waits hs hc hn inv _ i rfl hin hun j h)
  refine ⟨hjn,fun oj hoj=>?_⟩
  by_cases hji:j=i
  ·subst hji
   rw [hi] at hoj
   injection hoj with hoj
   subst hoj
   exact hy.step H
  ·obtain ⟨x,hx⟩:=hy.sat hsat
   have:=hdone _ _ _ (H x hx) j (ready_mono hj hji)
   omega
 | succ fuel ih =>
  intro listed a I inv hfree hr hy H hsat
  have hun0:=(mem_ready.1 hr).1
  refine ⟨fun h=>(by rw [h] at hr; cases hr),fun j hj=>?_⟩
  have hjn:j<n:=by
   rcases Nat.lt_or_ge j n with h | h
   ·exact h
   ·exact absurd hj (tail_waits hs hc hn inv _ i rfl hin hun0 j h)
  refine ⟨hjn,fun oj hoj=>?_⟩
  by_cases hji:j=i
  ·subst hji
   rw [hi] at hoj
   injection hoj with hoj
   subst hoj
   exact hy.step H
  ·obtain ⟨hjun,oj',hoj',hall⟩:=mem_ready.1 hj
   rw [hoj] at hoj'
   injection hoj' with hoj'
   subst hoj'
   have hnot:∀ e∈oj.after,Region.binds md e=true→e.on≠i:=fun e he hb heq=>by
    have h1:=hall e he hb
    have h0:=(mem_ready.1 hr).1
    rw [heq] at h1
    rcases Nat.lt_or_ge i listed.size with h' | h'
    ·simp [h'] at h0 h1; rw [h0] at h1; cases h1
    ·simp [Array.getElem?_eq_none h'] at h1
   have hnot2:∀ e∈oi.after,Region.binds md e=true→e.on≠j:=fun e he hb heq=>by
    obtain ⟨h0,o2,ho2,hall2⟩:=mem_ready.1 hr
    rw [hi] at ho2
    injection ho2 with ho2
    subst ho2
    have h1:=hall2 e he hb
    rw [heq] at h1
    rcases Nat.lt_or_ge j listed.size with h' | h'
    ·simp [h'] at hjun h1; rw [hjun] at h1; cases h1
    ·simp [Array.getElem?_eq_none h'] at h1
   have hturn:S i=none∨S j=none:=by
    rcases hT i j oi oj hi hoj (Ne.symm hji) with h | h | h | h
    ·exact .inl h
    ·exact .inr h
    ·exact (h.not inv hj hr).elim
    ·exact (h.not inv hr hj).elim
   have hap:=hfree j oj hoj hji hjun hnot
   obtain ⟨a1,a2,a3⟩:=Oper.apart_spec hap
   have hsi:∀ cs b,oi.op≠.select cs b:=fun cs b=>hsel i oi cs b hi
   have hsj:∀ cs b,oj.op≠.select cs b:=fun cs b=>hsel j oj cs b hoj
   obtain ⟨x0,hx0⟩:=hy.sat hsat
   have hix:∀ x,S j=none∨updI I (p x)=I:=fun x=>by
    rcases hturn with h | h
    ·rw [hy.quiet h x]; exact .inr rfl
    ·exact .inl h
   obtain ⟨Vj,fj,pj,hj0,_⟩:=head_of_step (((H x0 hx0).2 j (ready_mono hj hji)).2 oj hoj)
   have hja:Head P ops C S j oj a I Vj fj pj:=hj0.same (execOp_put oj hsj a oi.dst _ a1).symm (wanted_put oj a oi.dst _ a1).symm ((hix x0).imp id Eq.symm)
   have hjH:∀ x,Head P ops C S j oj (a.put oi.dst (f x)) (updI I (p x)) Vj fj pj:=fun x =>
    hja.same (execOp_put oj hsj a oi.dst _ a1) (wanted_put oj a oi.dst _ a1) (hix x)
   have hjy:∀ y,S i=none∨updI I (pj y)=I:=fun y=>by
    rcases hturn with h | h
    ·exact .inl h
    ·rw [hja.quiet h y]; exact .inr rfl
   have hcomm:∀ x y,updI (updI I (p x)) (pj y)=updI (updI I (pj y)) (p x):=fun x y=>by
    refine updI_comm ?_
    rcases hturn with h | h
    ·exact .inl (hy.quiet h x)
    ·exact .inr (hja.quiet h y)
   refine hja.step fun y=>?_
   refine ih (listed.setIfInBounds j true) (a.put oj.dst (fj y)) (updI I (pj y)) (inv.set hj hjn) ?_ (ready_mono hr (Ne.symm hji)) ?_ ?_
   ·intro k ok hk hki hun hno
    refine hfree k ok hk hki ?_ hno
    by_cases hjk:j=k
    ·subst hjk; exact hjun
    ·rw [getD_set_ne true hjk] at hun; exact hun
   ·exact hy.same (execOp_put oi hsi a oj.dst _ a3) (wanted_put oi a oj.dst _ a3) (hjy y)
   ·intro x
    rw [← hcomm x y,← Act.put_comm a (f x) (fj y) a2,Array.setIfInBounds_comm _ _ hji]
    have hb:SatI C (updI I (p x))→TAnyI P md ops C S n K fuel ((listed.setIfInBounds i true).setIfInBounds j true) ((a.put oi.dst (f x)).put oj.dst (fj y)) (updI (updI I (p x)) (pj y)):=by
     intro hsx
     obtain ⟨V',f',p',h',hk'⟩:=head_of_step (((H x hsx).2 j (ready_mono hj hji)).2 oj hoj)
     obtain ⟨y',e1,e2⟩:=(hjH x).one h' hsx y
     rw [← e1,← e2]
     exact hk' y'
    have hback:SatI C (updI (updI I (p x)) (pj y))→SatI C (updI I (p x)):=fun hs=>by
     rcases hturn with h | h
     ·rw [hy.quiet h x]; exact hsat
     ·rw [hja.quiet h y] at hs; exact hs
    cases fuel with
    | zero=>exact fun hs=>hb (hback hs) hs
    | succ fuel=>exact fun hs=>hb (hback hs) hs
theorem TAnyI_lex (hsel:Region.noSelect ops=true) (hT:Turns md ops S) (hs:Region.sinkB md ops n=true) (hc:Region.chainB md ops n=true) (hn:n<ops.size) :
  ∀ (l:List Oper) (k:Nat) (listed:Array Bool) (a:Act) (I:World→Prop),HeadInv md ops n listed→(∀ j,j<l.length→l[j]?=ops[k+j]?)→k+l.length=n →
  Region.lexHead md ops g l.length k listed=true→wpPh P ops C S Q l k a I →
  TAnyI P md ops C S n (fun listed' a' I'=>Region.seqB md ops g n listed'=true∧FinI C Q a' I') l.length listed a I
 | [],k,listed,a,I,_,_,hk,hB,h=>fun _=>by
  have:k=n:=by simpa using hk
  subst this
  exact ⟨by simpa [Region.lexHead] using hB,h⟩
 | o :: l,k,listed,a,I,inv,hl,hk,hB,h=>by
  have h0:ops[k]?=some o:=by simpa using (hl 0 (by simp)).symm
  simp only [List.length_cons,Region.lexHead,Bool.and_eq_true] at hB
  obtain ⟨⟨hr,hf⟩,hB'⟩:=hB
  have hkn:k<n:=by simp only [List.length_cons] at hk; omega
  have hr':k∈Region.ready md ops listed:=by simpa using hr
  obtain ⟨V,f,p,hh,hk'⟩:=head_of_step (show stepI P ops C S k o (wpPh P ops C S Q l (k+1)) a I from h)
  exact TAnyI_first h0 (Region.noSelect_spec hsel) hT hs hc hn hkn (fun listed' a' I' hL=>seqB_ready hL.1) l.length listed a I inv (Region.free_spec h0 hf) hr' hh
   (fun x=>TAnyI_lex hsel hT hs hc hn l (k+1) _ _ _ (inv.set hr' hkn) (fun j hj=>by have:=hl (j+1) (by simp; omega); simpa [Nat.add_assoc,Nat.add_comm 1 j] using this) (by simp only [List.length_cons] at hk; omega) hB' (hk' x))
structure PhAt (P:Program) (ops:Array Oper) (C:World→Prop) (S:Nat→Option RSpec) (Q:Act→World→Prop) (l:List Oper) (k:Nat) (a:Act) (I:World→Prop):Prop where
 out:wpPh P ops C S Q l k a I
theorem wp_region_ph_tail {id:Nat} {Q':Exit→Act→World→Prop} {a:Act} {w:World} {l:List Oper} (n:Nat) (S:Nat→Option RSpec) (C:World→Prop) (I:World→Prop)
  (hm:P.follows .mixedOrders=true) (hB:Region.lexTailB .any l.toArray n=true) (hT:Turns .any l.toArray S) (hC:C { w with drawn:=w.drawn+1 }) (hI:I { w with drawn:=w.drawn+1 })
  (h:PhAt P l.toArray C S (fun a w=>wpList P l.toArray Q' (l.drop n) a w) (l.take n) 0 a I):(Code.region id l.toArray true).wp P Q' a w:=by
 simp only [Region.lexTailB,Bool.and_eq_true,decide_eq_true_eq] at hB
 obtain ⟨⟨⟨⟨hsel,hn⟩,hs⟩,hc⟩,hlex⟩:=hB
 have hn':n<l.length:=by simpa using hn
 have htl:(l.take n).length=n:=by simp; omega
 have hdl:(l.drop n).length=l.toArray.size - n:=by simp
 have inv0:HeadInv .any l.toArray n (Array.replicate l.toArray.size false) :=
  ⟨by simp,fun j oj _ hl=>(by rw [getD_replicate_false] at hl; cases hl),fun t _ ht=>getD_in (by simpa using ht) (getD_replicate_false _ _)⟩
 have H:=TAnyI_lex (C:=C) (md:=.any) (g:=l.toArray.size - n) hsel hT hs hc hn (l.take n) 0 _ a I inv0 (fun j hj=>by
  have hj':j<n:=by rw [htl] at hj; exact hj
  simp [hj']) (by simpa using htl) (by rw [htl]; exact hlex) h.out
 refine wp_region_any hm ?_
 have:=wpAny_of_I (Q':=Q') (g:=l.toArray.size - n) (fun listed a' I' w' hL hC' hI'=>by
  have:=wpAny_of_seq (md:=.any) (Q':=Q') (l.drop n) n listed a' w' (fun j=>by simp [List.getElem?_drop]) (by rw [hdl]; exact hL.1) (hL.2 w' hC' hI')
  rwa [hdl] at this) _ _ _ _ _ hC hI H
 rw [htl,show n+(l.toArray.size - n)=l.toArray.size by omega] at this
 exact this
section
variable {o:Oper} {rest:List Oper} {k j:Nat} {a:Act} {I:World→Prop}
theorem ph_fix (k':Nat) (c:Value) (hk:k+1=k') (hs:S k=none) (hw:Region.wanted o (yielded ops a.tmps)=true)
  (hf:∀ w,C w→(execOp a.eval o).run P w=.ok (.value c) w) (h:PhAt P ops C S Q rest k' (a.put o.dst c) I):PhAt P ops C S Q (o :: rest) k a I:=by
 subst hk
 refine ⟨?_⟩
 show stepI P ops C S k o _ a I
 unfold stepI
 rw [if_pos hw]
 simp only [hs]
 exact ⟨c,fun w hC=>.inl (hf w hC),h.out⟩
theorem ph_give (k':Nat) (s:RSpec) (hk:k+1=k') (hs:S k=some s) (hw:Region.wanted o (yielded ops a.tmps)=true)
  (hg:∀ w,C w→I w→growUpon P Tr w (fun v w'=>C w'∧∃ x,v=s.f x∧s.Φ x w') ((execOp a.eval o).run P w)) (h:∀ x,PhAt P ops C S Q rest k' (a.put o.dst (s.f x)) (s.Φ x)):PhAt P ops C S Q (o :: rest) k a I:=by
 subst hk
 refine ⟨?_⟩
 show stepI P ops C S k o _ a I
 unfold stepI
 rw [if_pos hw]
 simp only [hs]
 exact ⟨hg,fun x=>(h x).out⟩
theorem ph_nil (h:∀ w,C w→I w→Q a w):PhAt P ops C S Q [] k a I:=⟨h⟩
end
def waitsB (md:Region.Mode) (ops:Array Oper):Nat→Nat→Nat→Bool
 | 0,_,_=>false
 | fuel+1,j,i=>match ops[j]? with
  | some oj=>oj.after.any fun e=>Region.binds md e && (e.on == i || waitsB md ops fuel e.on i)
  | none=>false
theorem waits_of {fuel j i:Nat} (h:waitsB md ops fuel j i=true):Waits md ops j i:=by
 induction fuel generalizing j with
 | zero=>cases h
 | succ fuel ih =>
  unfold waitsB at h
  split at h
  ·rename_i oj hj
   obtain ⟨e,he,hb⟩:=Array.any_eq_true'.1 h
   simp only [Bool.and_eq_true,Bool.or_eq_true,beq_iff_eq] at hb
   obtain ⟨h1,h2 | h2⟩:=hb
   ·subst h2; exact .one hj e he h1
   ·exact .more hj e he h1 (ih h2)
  ·cases h
def turnsB (md:Region.Mode) (ops:Array Oper) (l:List Nat):Bool :=
 l.all fun i=>l.all fun j=>i == j || waitsB md ops 8 j i || waitsB md ops 8 i j
theorem turns_of {l:List (Nat × RSpec)} (h:turnsB md ops (l.map (·.1))=true):Turns md ops (specOf l):=by
 have hin:∀ i,specOf l i≠none→i∈l.map (·.1):=by
  intro i
  clear h
  induction l with
  | nil=>intro h; exact absurd rfl h
  | cons x l ih =>
   intro h
   obtain ⟨k,s⟩:=x
   unfold specOf at h
   split at h
   ·rename_i e; subst e; simp
   ·exact List.mem_cons_of_mem _ (ih h)
 intro i j oi oj hi hj hij
 by_cases h1:specOf l i=none
 ·exact .inl h1
 by_cases h2:specOf l j=none
 ·exact .inr (.inl h2)
 have h3:=List.all_eq_true.1 (List.all_eq_true.1 h i (hin i h1)) j (hin j h2)
 simp only [Bool.or_eq_true,beq_iff_eq] at h3
 rcases h3 with (h3 | h3) | h3
 ·exact absurd h3 hij
 ·exact .inr (.inr (.inl (waits_of h3)))
 ·exact .inr (.inr (.inr (waits_of h3)))
end
end Go.Proofs.YtlfpfkallgkjdaaGreat.Ph
end

section
namespace Go.Proofs.YtlfpfkallgkjdaaGreat.Ph
open Go.RowKit
section
variable {P:Program} {o:Oper} {a:Act} {w:World} {R:Value→World→Prop}
theorem give_append_at (s x:Operand) (t:TypeId) (ho:o.op=.call { callee:=.builtin .append,args:=#[s,x],argTypes:=#[t,t] })
  (base:Nat) (e:TypeId) (i:TypeInfo) (z:Value) (size bytes:Nat) (ht:P.underlying t=some (.slice e)) (hi:P.info? e=some i) (hz:i.zero=some z)
  (hsize:i.size=size) (hby:i.bytes=bytes) (hzs:z.cells.size=size) (hsz : 0<size)
  (v:Value) (n:Nat) (xs:List Value) (hs:a.eval s=v) (hown:w.ownsRow base e size v n xs)
  (ad:Addr) (m c:Nat) (news:List Value) (hx:a.eval x=.slice (some ad) m c) (hl:news.length=m * size) (hnews:∀ j u,news[j]?=some u→w.cell? (ad.add j)=some u) (h1:∀ u∈news,u.oneCell'=true)
  (h63:n+m≤maxLen) (hbytes:(n+m) * bytes≤140737488355328) (hbase:base≤w.heap.size)
  (h:∀ v' w',w'.ownsRow base e size v' (n+m) (xs ++ news)→w.grownBy w' v.ownBlock→(v'.ownBlock=v.ownBlock∨v'.ownBlock=some w.heap.size)→R v' w'):growUpon P Tr w R ((execOp a.eval o).run P w):=by
 obtain ⟨v',w',hr,h2,h3,_,h5⟩:=run_append_own_at (P:=P) w base t o.type e i z size bytes ht hi hz hsize hby hzs hsz v n xs hown ad m c news hl hnews h1 h63 hbytes hbase
 unfold execOp
 simp only [ho,resolve,invoke,builtin,Sem.run_bind,Sem.run_pure,Result.andThen_ok,List.map_toArray,List.map_cons,List.map_nil,hs,hx,hr]
 exact ⟨trivial,h v' w' h2 h3 h5⟩
end
end Go.Proofs.YtlfpfkallgkjdaaGreat.Ph
end
