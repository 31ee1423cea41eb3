/- slices.IndexFunc, slices.ContainsFunc at tokens, fields, queries, over whatever function value. -/
import Derived.Test.YtmomjpolkkbhnaaGreatQModelPagesRow17
import Derived.Test.YtmomjpolkkbhnaaGreatQModelPagesRow0
set_option linter.unusedSimpArgs false
set_option maxRecDepth 20000
section
namespace Go.Proofs.YtmomjpolkkbhnaaGreat.Qy
open Go.RowKit Ut Tk
theorem callFunc_enter {P : Program} {f : FuncId} {fn : Func} {c : Code} (hf : P.funcs[f]? = some fn) (hname : (fn.name == "runtime.NumGoroutine") = false) (hb : fn.body = some c) (args : Array Value) (w : World) :
  (callFunc f args).run P w=.ok (.enter f args) w:=by
 have h1 : fn.name ≠ "runtime.NumGoroutine" := by simpa using hname
 simp [callFunc,hf,h1,hb]
set_option maxHeartbeats 400000 in
theorem containsTok (TA:Option Addr) (n tc:Nat) (T:List (List UInt8)) (f:Nat) (lb:Array Value) (p:Nat→Bool) (w:World) (hcf:∀ args wx,(callFunc f args).run Tryz.prog wx=.ok (.enter f args) wx) (hT:Reads w w.heap.size 2 TA n (tokC (placed T))) (hn:T.length=n) (hn2:n≤1048576)
  (hf:∀ i (h:i<T.length) wx,Below w.heap.size w wx→Calls Tryz.prog f (#[.agg #[.string (str T[i]),.int .i64 (i:Int)]] ++ lb) wx fun e w'=>e=.returned (.bool (p i))∧Below wx.heap.size wx w') :
  Calls Tryz.prog 160 #[.slice TA n tc,.func (.func f) #[] lb] w fun e w'=>e=.returned (.bool ((List.range n).any p))∧Below w.heap.size w w':=by
 have c1:=indexTok TA n tc T f lb p w hcf hT hn hn2 hf
 have Fin:=zh (idxF_any p n)
 clear hT hn hn2 hf hcf
 generalize idxF p n=z at *
 go_enter Tryz.func160,Tryz.ntmps160
 go_wp2_with fail
 refine c1.mono ?_
 rintro e w1 ⟨rfl,hb1⟩
 have Hb1:=zh hb1
 clear hb1 c1
 go_wp2
 go_ret
 exact ⟨by rw [← Fin.out]; simp,Hb1.out⟩
set_option maxHeartbeats 800000 in
theorem indexFld (TA:Option Addr) (n tc:Nat) (T:List (ByteArray × ByteArray)) (f:Nat) (lb:Array Value) (p:Nat→Bool) (w:World) (hcf:∀ args wx,(callFunc f args).run Tryz.prog wx=.ok (.enter f args) wx) (hT:Reads w w.heap.size 2 TA n (fldC T)) (hn:T.length=n) (hn2:n≤8796093021952)
  (hf:∀ i (h:i<T.length) wx,Below w.heap.size w wx→Calls Tryz.prog f (#[.agg #[.string T[i].1,.string T[i].2]] ++ lb) wx fun e w'=>e=.returned (.bool (p i))∧Below wx.heap.size wx w') :
  Calls Tryz.prog 163 #[.slice TA n tc,.func (.func f) #[] lb] w fun e w'=>e=.returned (.int .i64 (idxF p n))∧Below w.heap.size w w':=by
 have HT:=zh hT
 have Hn:=zh hn
 have Hf:=zh hf
 clear hT hn hf
 go_enter Tryz.func163,Tryz.ntmps163
 go_wp2
 go_loopw [8] (fun i wr=>∃ k:Nat,k≤n∧i=.int .i64 k∧(∀ j,j<k→p j=false)∧Below w.heap.size w wr) (fun i _=>n - (intOf i).toNat)
 case atStart=>exact ⟨0,Nat.zero_le _,rfl,fun j hj=>by omega,Below.refl _ _⟩
 case round =>
  obtain ⟨k,hk,rfl,hal,hb⟩:=hrel
  have Hal:=zh hal
  have Hb:=zh hb
  clear hal hb
  by_cases hlt:k<n
  ·obtain ⟨tb,tq,rfl,htb,hc1,hc2⟩:=fields_at HT.out (k:=k) (by rw [Hn.out]; exact hlt)
   have hd1:=(Hb.out.cell (p:=⟨tb,tq+k * 2,none⟩) htb).trans hc1
   have hd2:=(Hb.out.cell (p:=⟨tb,tq+k * 2+1,none⟩) htb).trans hc2
   have c1:=Hf.out k (by rw [Hn.out]; exact hlt) wr Hb.out
   clear hc1 hc2
   have Hs:Hid (∀ b,p k=b→(b=true→idxF p n=(k:Int))∧(b=false→∀ j,j<k+1→p j=false)):=zh (fun b hb=>⟨fun e=>idxF_hit p n k hlt Hal.out (by rw [hb,e]),fun e j hj=>by
    by_cases hjk:j=k
    ·rw [hjk,hb,e]
    ·exact Hal.out j (by omega)⟩)
   generalize (T[k]'(by rw [Hn.out]; exact hlt))=x at *
   cases hp:p k with
   | true =>
    have Fin:=zh ((Hs.out _ hp).1 rfl)
    rw [hp] at c1
    clear hp Hs
    go_wp2_with fail
    refine c1.mono ?_
    rintro e w2 ⟨rfl,hb2⟩
    have Hb2:=zh (Hb.out.trans (hb2.mono Hb.out.size))
    clear hb2 c1
    go_wp2
    go_ret
    exact ⟨by rw [Fin.out]; rfl,Hb2.out⟩
   | false =>
    have Hn2:=zh ((Hs.out _ hp).2 rfl)
    rw [hp] at c1
    clear hp Hs
    go_wp2_with fail
    refine c1.mono ?_
    rintro e w2 ⟨rfl,hb2⟩
    have Hb2:=zh (Hb.out.trans (hb2.mono Hb.out.size))
    clear hb2 c1
    go_wp2
    go_roundw
    case rel=>exact ⟨k+1,by omega,by go_num,Hn2.out,Hb2.out⟩
    case measure=>simp [intOf]; omega
  ·obtain rfl:k=n:=by omega
   have Fin:=zh (idxF_no p k Hal.out)
   go_wp2
   go_ret
   exact ⟨by rw [Fin.out]; rfl,Hb.out⟩
set_option maxHeartbeats 400000 in
theorem containsFld (TA:Option Addr) (n tc:Nat) (T:List (ByteArray × ByteArray)) (f:Nat) (lb:Array Value) (p:Nat→Bool) (w:World) (hcf:∀ args wx,(callFunc f args).run Tryz.prog wx=.ok (.enter f args) wx) (hT:Reads w w.heap.size 2 TA n (fldC T)) (hn:T.length=n) (hn2:n≤8796093021952)
  (hf:∀ i (h:i<T.length) wx,Below w.heap.size w wx→Calls Tryz.prog f (#[.agg #[.string T[i].1,.string T[i].2]] ++ lb) wx fun e w'=>e=.returned (.bool (p i))∧Below wx.heap.size wx w') :
  Calls Tryz.prog 140 #[.slice TA n tc,.func (.func f) #[] lb] w fun e w'=>e=.returned (.bool ((List.range n).any p))∧Below w.heap.size w w':=by
 have c1:=indexFld TA n tc T f lb p w hcf hT hn hn2 hf
 have Fin:=zh (idxF_any p n)
 clear hT hn hn2 hf hcf
 generalize idxF p n=z at *
 go_enter Tryz.func140,Tryz.ntmps140
 go_wp2_with fail
 refine c1.mono ?_
 rintro e w1 ⟨rfl,hb1⟩
 have Hb1:=zh hb1
 clear hb1 c1
 go_wp2
 go_ret
 exact ⟨by rw [← Fin.out]; simp,Hb1.out⟩
set_option maxHeartbeats 800000 in
theorem indexQry (TA:Option Addr) (n tc:Nat) (k0:Int) (nm0:ByteArray) (ws0:List ByteArray) (A0:Option Addr) (n0:Nat) (T:List Q) (f:Nat) (lb:Array Value) (p:Nat→Bool) (w:World) (hcf:∀ args wx,(callFunc f args).run Tryz.prog wx=.ok (.enter f args) wx) (hT:QIs w w.heap.size k0 nm0 ws0 T A0 n0 TA n) (hn:T.length=n) (hn2:n≤8796093021952)
  (hf:∀ i (h:i<T.length) a0 a1 a2 a3 wx,QAt w w.heap.size T[i] [a0,a1,a2,a3]→Below w.heap.size w wx→Calls Tryz.prog f (#[.agg #[a0,a1,a2,a3]] ++ lb) wx fun e w'=>e=.returned (.bool (p i))∧Below wx.heap.size wx w') :
  Calls Tryz.prog 143 #[.slice TA n tc,.func (.func f) #[] lb] w fun e w'=>e=.returned (.int .i64 (idxF p n))∧Below w.heap.size w w':=by
 have HT:=zh hT
 have Hn:=zh hn
 have Hf:=zh hf
 clear hT hn hf
 go_enter Tryz.func143,Tryz.ntmps143
 go_wp2
 go_loopw [8] (fun i wr=>∃ k:Nat,k≤n∧i=.int .i64 k∧(∀ j,j<k→p j=false)∧Below w.heap.size w wr) (fun i _=>n - (intOf i).toNat)
 case atStart=>exact ⟨0,Nat.zero_le _,rfl,fun j hj=>by omega,Below.refl _ _⟩
 case round =>
  obtain ⟨k,hk,rfl,hal,hb⟩:=hrel
  have Hal:=zh hal
  have Hb:=zh hb
  clear hal hb
  by_cases hlt:k<n
  ·obtain ⟨tb,tq,A',n',c',C',m',d',rfl,htb,hq,hc0,hc1,hc2,hc3⟩:=HT.out.at_ (i:=k) (by rw [Hn.out]; exact hlt)
   have hd0:=(Hb.out.cell (p:=⟨tb,tq+k * 4,none⟩) htb).trans hc0
   have hd1:=(Hb.out.cell (p:=⟨tb,tq+k * 4+1,none⟩) htb).trans hc1
   have hd2:=(Hb.out.cell (p:=⟨tb,tq+k * 4+2,none⟩) htb).trans hc2
   have hd3:=(Hb.out.cell (p:=⟨tb,tq+k * 4+3,none⟩) htb).trans hc3
   have c1:=Hf.out k (by rw [Hn.out]; exact hlt) _ _ _ _ wr hq Hb.out
   clear hc0 hc1 hc2 hc3 hq
   have Hs:Hid (∀ b,p k=b→(b=true→idxF p n=(k:Int))∧(b=false→∀ j,j<k+1→p j=false)):=zh (fun b hb=>⟨fun e=>idxF_hit p n k hlt Hal.out (by rw [hb,e]),fun e j hj=>by
    by_cases hjk:j=k
    ·rw [hjk,hb,e]
    ·exact Hal.out j (by omega)⟩)
   generalize (T[k]'(by rw [Hn.out]; exact hlt)).kind=x0 at *
   generalize (T[k]'(by rw [Hn.out]; exact hlt)).name=x1 at *
   cases hp:p k with
   | true =>
    have Fin:=zh ((Hs.out _ hp).1 rfl)
    rw [hp] at c1
    clear hp Hs
    go_wp2_with fail
    refine c1.mono ?_
    rintro e w2 ⟨rfl,hb2⟩
    have Hb2:=zh (Hb.out.trans (hb2.mono Hb.out.size))
    clear hb2 c1
    go_wp2
    go_ret
    exact ⟨by rw [Fin.out]; rfl,Hb2.out⟩
   | false =>
    have Hn2:=zh ((Hs.out _ hp).2 rfl)
    rw [hp] at c1
    clear hp Hs
    go_wp2_with fail
    refine c1.mono ?_
    rintro e w2 ⟨rfl,hb2⟩
    have Hb2:=zh (Hb.out.trans (hb2.mono Hb.out.size))
    clear hb2 c1
    go_wp2
    go_roundw
    case rel=>exact ⟨k+1,by omega,by go_num,Hn2.out,Hb2.out⟩
    case measure=>simp [intOf]; omega
  ·obtain rfl:k=n:=by omega
   have Fin:=zh (idxF_no p k Hal.out)
   go_wp2
   go_ret
   exact ⟨by rw [Fin.out]; rfl,Hb.out⟩
set_option maxHeartbeats 400000 in
theorem containsQry (TA:Option Addr) (n tc:Nat) (k0:Int) (nm0:ByteArray) (ws0:List ByteArray) (A0:Option Addr) (n0:Nat) (T:List Q) (f:Nat) (lb:Array Value) (p:Nat→Bool) (w:World) (hcf:∀ args wx,(callFunc f args).run Tryz.prog wx=.ok (.enter f args) wx) (hT:QIs w w.heap.size k0 nm0 ws0 T A0 n0 TA n) (hn:T.length=n) (hn2:n≤8796093021952)
  (hf:∀ i (h:i<T.length) a0 a1 a2 a3 wx,QAt w w.heap.size T[i] [a0,a1,a2,a3]→Below w.heap.size w wx→Calls Tryz.prog f (#[.agg #[a0,a1,a2,a3]] ++ lb) wx fun e w'=>e=.returned (.bool (p i))∧Below wx.heap.size wx w') :
  Calls Tryz.prog 114 #[.slice TA n tc,.func (.func f) #[] lb] w fun e w'=>e=.returned (.bool ((List.range n).any p))∧Below w.heap.size w w':=by
 have c1:=indexQry TA n tc k0 nm0 ws0 A0 n0 T f lb p w hcf hT hn hn2 hf
 have Fin:=zh (idxF_any p n)
 clear hT hn hn2 hf hcf
 generalize idxF p n=z at *
 go_enter Tryz.func114,Tryz.ntmps114
 go_wp2_with fail
 refine c1.mono ?_
 rintro e w1 ⟨rfl,hb1⟩
 have Hb1:=zh hb1
 clear hb1 c1
 go_wp2
 go_ret
 exact ⟨by rw [← Fin.out]; simp,Hb1.out⟩
end Go.Proofs.YtmomjpolkkbhnaaGreat.Qy
end

section
namespace Go.Proofs.YtmomjpolkkbhnaaGreat.Qy
open Go.RowKit Ut Tk
theorem reads_grow {w1 w2:World} {A:Option Addr} {k n:Nat} {xs:List Value} (hb:Below w1.heap.size w1 w2) (h:Reads w1 w1.heap.size k A n xs):Reads w2 w2.heap.size k A n xs:=(h.below hb).more hb.size
theorem hasPrefix_begins (x:List UInt8) (p:ByteArray):Lib.hasPrefix (str x).data.toList p.data.toList=begins x p:=by
 rw [str_data]
 unfold begins
 rw [isPrefix_take]
 unfold Lib.hasPrefix
 first
  | rfl
  | (rw [Bool.eq_iff_iff]; simp [List.isPrefixOf_iff_prefix,List.prefix_iff_eq_take]; done)
  | (rw [← isPrefix_take])
theorem any_idx {α:Type} (l:List α) (g : α→Bool):(List.range l.length).any (fun i=>(l[i]?).any g)=l.any g:=by
 rw [Bool.eq_iff_iff]
 simp only [List.any_eq_true,List.mem_range]
 constructor
 ·rintro ⟨i,hi,h⟩
  rw [List.getElem?_eq_getElem hi] at h
  exact ⟨l[i],List.getElem_mem hi,by simpa using h⟩
 ·rintro ⟨x,hx,h⟩
  obtain ⟨i,hi,rfl⟩:=List.mem_iff_getElem.1 hx
  exact ⟨i,hi,by rw [List.getElem?_eq_getElem hi]; simpa using h⟩
set_option maxHeartbeats 400000 in
theorem prefixed1_any (x:List UInt8) (i:Int) (pb:Nat) (p:ByteArray) (w:World) (hp:w.cell? ⟨pb,0,none⟩=some (.string p)) :
  Calls Tryz.prog 161 #[.agg #[.string (str x),.int .i64 i],.pointer (some ⟨pb,0,none⟩)] w fun e w'=>e=.returned (.bool (begins x p))∧Below w.heap.size w w':=by
 have c1:=fun wx=>Tryz.strings_HasPrefix (str x) p wx
 simp only [hasPrefix_begins] at c1
 have C1:=zh c1
 have hb:Below w.heap.size w (w.alloc (.cells #[.string (str x),.int .i64 i] 206)):=(Below.refl _ _).alloc (zG _) _
 have Hb:=zh hb
 have hlt:=World.block_lt_of_cell? w _ hp
 clear c1 hb
 generalize str x=s at *
 generalize begins x p=r at *
 go_enter Tryz.func161,Tryz.ntmps161
 go_wp2_with (go_at_call 162; refine (C1.out _).mono ?_; rintro e w' ⟨rfl,rfl⟩)
 go_ret
 exact ⟨rfl,Hb.out⟩
set_option maxHeartbeats 400000 in
theorem prefixed_any (TA:Option Addr) (n tc:Nat) (T:List (List UInt8)) (p:ByteArray) (w:World) (hT:Reads w w.heap.size 2 TA n (tokC (placed T))) (hn:T.length=n) (hn2:n≤1048576) :
  Calls Tryz.prog 139 #[.slice TA n tc,.string p] w fun e w'=>e=.returned (.bool (T.any (begins · p)))∧Below w.heap.size w w':=by
 have hb:Below w.heap.size w (w.alloc (.cells #[.string p] 9)):=(Below.refl _ _).alloc (zG _) _
 have hB:=Blk.new w 9 #[.string p]
 have c1:=containsTok TA n tc T 161 #[.pointer (some ⟨w.heap.size,0,none⟩)] (fun i=>(T[i]?).any (begins · p)) (w.alloc (.cells #[.string p] 9))
  (fun args wx=>callFunc_enter Tryz.func161 (by kernel_rfl) rfl args wx) (reads_grow hb hT) hn hn2 (fun i h wx hbx=>by
   have c:=prefixed1_any T[i] (i:Int) w.heap.size p wx ((hbx.cell (p:=⟨w.heap.size,0,none⟩) (by simp)).trans (hB.cell 0))
   rw [List.getElem?_eq_getElem h]
   simpa using c)
 have e:=any_idx T (begins · p)
 rw [hn] at e
 rw [e] at c1
 have Hb:=zh hb
 clear e hb hB hT
 generalize T.any (begins · p)=r at *
 go_enter Tryz.func139,Tryz.ntmps139
 go_wp2_with (go_at_call 160; refine c1.mono ?_; rintro e w1 ⟨rfl,hb1⟩)
 go_ret
 exact ⟨rfl,Hb.out.trans (hb1.mono Hb.out.size)⟩
structure QBox (w:World) (qb:Nat) (nm:ByteArray) (ws:List ByteArray):Prop where
 nm_:w.cell? ⟨qb,1,none⟩=some (.string nm)
 ws_:∃ WA m wc,w.cell? ⟨qb,2,none⟩=some (.slice WA m wc)∧Reads w w.heap.size 1 WA m (ws.map Value.string)∧ws.length=m∧m≤8796093021952
theorem QBox.grow {w w':World} {qb:Nat} {nm:ByteArray} {ws:List ByteArray} (h:QBox w qb nm ws) (hb:Below w.heap.size w w'):QBox w' qb nm ws:=by
 obtain ⟨WA,m,wc,h1,h2,h3,h4⟩:=h.ws_
 have hl:=World.block_lt_of_cell? w _ h.nm_
 exact ⟨(hb.cell (p:=⟨qb,1,none⟩) hl).trans h.nm_,WA,m,wc,(hb.cell (p:=⟨qb,2,none⟩) hl).trans h1,reads_grow hb h2,h3,h4⟩
set_option maxHeartbeats 400000 in
theorem leaf1_any (TA:Option Addr) (n tc:Nat) (T:List (List UInt8)) (qb:Nat) (nm:ByteArray) (ws:List ByteArray) (w:World) (hT:Reads w w.heap.size 2 TA n (tokC (placed T))) (hn:T.length=n) (hn2:n≤1048576) (hq:QBox w qb nm ws) :
  Calls Tryz.prog 136 #[.slice TA n tc,.pointer (some ⟨qb,0,none⟩)] w fun e w'=>e=.returned (.bool (decide (0<(phr T ws).length)))∧Below w.heap.size w w':=by
 obtain ⟨WA,m,wc,h1,h2,h3,h4⟩:=hq.ws_
 have c1:=phrase_any TA n tc T WA m wc ws w hT hn hn2 h2 h3 h4
 clear hq h2 hT hn h3
 generalize phr T ws=P at *
 go_enter Tryz.func136,Tryz.ntmps136
 go_wp2_with fail
 refine c1.mono ?_
 rintro e w1 ⟨v,rfl,hI⟩
 obtain ⟨A,c,rfl,_⟩:=own_shape hI.own
 have Hb:=zh hI.bel
 clear hI c1
 go_wp2
 go_ret
 exact ⟨by simp,Hb.out⟩
set_option maxHeartbeats 400000 in
theorem leaf2_any (TA:Option Addr) (n tc:Nat) (T:List (List UInt8)) (qb:Nat) (nm:ByteArray) (p:ByteArray) (w:World) (hT:Reads w w.heap.size 2 TA n (tokC (placed T))) (hn:T.length=n) (hn2:n≤1048576) (hq:QBox w qb nm [p]) :
  Calls Tryz.prog 138 #[.slice TA n tc,.pointer (some ⟨qb,0,none⟩)] w fun e w'=>e=.returned (.bool (T.any (begins · p)))∧Below w.heap.size w w':=by
 obtain ⟨WA,m,wc,h1,h2,h3,h4⟩:=hq.ws_
 obtain ⟨b,o,hl,rfl,hb,hc⟩:=h2.at_map (k:=0) (by simp at h3; omega)
 simp at hc
 obtain rfl:m=1:=by simpa using h3.symm
 have c1:=prefixed_any TA n tc T p w hT hn hn2
 clear hq h2 hT hn h3
 generalize T.any (begins · p)=r at *
 go_enter Tryz.func138,Tryz.ntmps138
 go_wp2_with fail
 refine c1.mono ?_
 rintro e w1 ⟨rfl,hb1⟩
 have Hb:=zh hb1
 clear hb1 c1
 go_wp2
 go_ret
 exact ⟨rfl,Hb.out⟩
set_option maxHeartbeats 1600000 in
theorem leaf3_any (x y:ByteArray) (qb ab:Nat) (g:Nat) (nm:ByteArray) (ws:List ByteArray) (r:Bool) (w:World) (hy:y.size≤1048576) (hq:QBox w qb nm ws) (hab:w.cell? ⟨ab,0,none⟩=some (.func (.func g) #[] #[.pointer (some ⟨qb,0,none⟩)]))
  (hcf:∀ args wx,(callFunc g args).run Tryz.prog wx=.ok (.enter g args) wx)
  (hg:∀ TA tc wx,Reads wx wx.heap.size 2 TA (words y.data.toList).length (tokC (placed (words y.data.toList)))→Below w.heap.size w wx→Calls Tryz.prog g #[.slice TA (words y.data.toList).length tc,.pointer (some ⟨qb,0,none⟩)] wx fun e w'=>e=.returned (.bool r)∧Below wx.heap.size wx w') :
  Calls Tryz.prog 141 #[.agg #[.string x,.string y],.pointer (some ⟨qb,0,none⟩),.pointer (some ⟨ab,0,none⟩)] w fun e w'=>e=.returned (.bool (x.toList == nm.toList && r))∧Below w.heap.size w w':=by
 have c1:=fun wx=>tokens_any y wx hy
 generalize words y.data.toList=T at *
 have hbx:Below w.heap.size w (w.alloc (.cells #[.string x,.string y] 85)):=(Below.refl _ _).alloc (zG _) _
 have h1:∀ wx,Below (w.alloc (.cells #[.string x,.string y] 85)).heap.size (w.alloc (.cells #[.string x,.string y] 85)) wx→Below w.heap.size w wx:=fun wx hb=>hbx.trans (hb.mono (by simp))
 have hB:=Blk.new w 85 #[.string x,.string y]
 have hqn:=hq.nm_
 have hlq:=World.block_lt_of_cell? w _ hqn
 have hla:=World.block_lt_of_cell? w _ hab
 have hcells:∀ wx,Below (w.alloc (.cells #[.string x,.string y] 85)).heap.size (w.alloc (.cells #[.string x,.string y] 85)) wx→wx.cell? ⟨w.heap.size,0,none⟩=some (.string x)∧wx.cell? ⟨w.heap.size,1,none⟩=some (.string y)∧wx.cell? ⟨qb,1,none⟩=some (.string nm)∧wx.cell? ⟨ab,0,none⟩=some (.func (.func g) #[] #[.pointer (some ⟨qb,0,none⟩)]):=fun wx hC =>
  ⟨(hC.cell (p:=⟨w.heap.size,0,none⟩) (by simp)).trans (hB.cell 0),(hC.cell (p:=⟨w.heap.size,1,none⟩) (by simp)).trans (hB.cell 1),((h1 wx hC).cell (p:=⟨qb,1,none⟩) hlq).trans hqn,((h1 wx hC).cell (p:=⟨ab,0,none⟩) hla).trans hab⟩
 have hcells':=zh hcells
 have H1:=zh h1
 have Hg:=zh hg
 have C1:=zh c1
 clear hcells h1 hg c1 hbx hB hq hqn hab
 by_cases hxy:(x.toList == nm.toList)=true
 ·have Fin:Hid ((x.toList == nm.toList && r)=r):=zh (by rw [hxy,Bool.true_and])
  rw [Fin.out]
  go_enter Tryz.func141,Tryz.ntmps141
  go_wp2_with fail
  refine wp_region_grow (specOf [(9,⟨Option Addr × Nat,fun x=>.slice x.1 T.length x.2,fun x w'=>Reads w' w'.heap.size 2 x.1 T.length (tokC (placed T))⟩),(10,⟨Unit,fun _=>(.bool r),fun _ _=>True⟩)]) (fun wx=>Below (World.heap (w.alloc (.cells #[.string x,.string y] 85))).size (w.alloc (.cells #[.string x,.string y] 85)) wx) (fun w1 w2=>Below w1.heap.size w1 w2) (by kernel_rfl) (by kernel_rfl) (stab_cons (fun x w1 w2 hg h=>reads_grow hg h) (stab_cons (fun _ _ _ _ h=>h) (stab_nil))) (Below.refl _ _).drew ?_
  iterate 9
   refine grow_fix _ ?_ rfl (by rfl) (by rfl) (fun wx hC hD=>?_) ?_
   rotate_left
   ·have hSw:=hcells'.out wx hC
    go_simp
    all_goals with_reducible rfl
   try simp only [Act.put,zD,zE,zF]
  refine grow_give 10 _ rfl (by rfl) (by rfl) (fun wx hC hD=>?_) (fun x=>?_)
  ·refine give_enter (f:=?_) (args:=?_) ?_ ?_
   rotate_left 2
   ·have hSw:=hcells'.out wx hC
    go_simp
    all_goals first | with_reducible rfl | (refine ⟨?_,?_⟩ <;> with_reducible rfl)
   refine (C1.out wx).mono ?_
   rintro e w1 ⟨v1,rfl,hown1,hb1⟩
   obtain ⟨B1,d1,rfl,hQ1⟩:=own_shape hown1
   exact ⟨_,rfl,hb1,hC.trans (hb1.mono hC.size),(B1,d1),rfl,hQ1⟩
  obtain ⟨B1,d1⟩:=x
  try simp only [Act.put,zD,zE,zF]
  refine grow_give 11 _ rfl (by rfl) (by rfl) (fun wx hC hD=>?_) (fun x=>?_)
  ·refine give_enter (f:=?_) (args:=?_) ?_ ?_
   rotate_left 2
   ·have hSw:=hcells'.out wx hC
    go_simp
    all_goals first | with_reducible rfl | (refine ⟨?_,?_⟩ <;> with_reducible rfl)
   exact calls_cst hC (Hg.out _ _ wx (upd_hit (deps_get hD 9 (by kernel_rfl)) (by decide)) (H1.out wx hC))
  obtain ⟨⟩:=x
  try simp only [Act.put,zD,zE,zF]
  iterate 2
   refine grow_fix _ ?_ rfl (by rfl) (by rfl) (fun wx hC hD=>?_) ?_
   rotate_left
   ·have hSw:=hcells'.out wx hC
    go_simp
    all_goals with_reducible rfl
   try simp only [Act.put,zD,zE,zF]
  refine grow_nil (fun w2 hC hF=>?_)
  have Hb:=zh (H1.out _ hC)
  clear hF hC
  go_wp2
  go_ret
  exact ⟨rfl,Hb.out⟩
 ·have hxy':(x.toList == nm.toList)=false:=Bool.eq_false_iff.2 hxy
  have Fin:Hid ((x.toList == nm.toList && r)=false):=zh (by rw [hxy',Bool.false_and])
  rw [Fin.out]
  clear hxy
  go_enter Tryz.func141,Tryz.ntmps141
  go_wp2_with fail
  refine wp_region_grow (specOf []) (fun wx=>Below (World.heap (w.alloc (.cells #[.string x,.string y] 85))).size (w.alloc (.cells #[.string x,.string y] 85)) wx) (fun w1 w2=>Below w1.heap.size w1 w2) (by kernel_rfl) (by kernel_rfl) (stab_nil) (Below.refl _ _).drew ?_
  iterate 6
   refine grow_fix _ ?_ rfl (by rfl) (by rfl) (fun wx hC hD=>?_) ?_
   rotate_left
   ·have hSw:=hcells'.out wx hC
    go_simp
    all_goals with_reducible rfl
   try simp only [Act.put,zD,zE,zF]
  refine grow_skip 7 (some false) true rfl (by rfl) (by rfl) (by rfl) ?_
  try simp only [Act.put,zD,zE,zF]
  refine grow_skip 8 (some false) true rfl (by rfl) (by rfl) (by rfl) ?_
  try simp only [Act.put,zD,zE,zF]
  refine grow_skip 9 (some false) true rfl (by rfl) (by rfl) (by rfl) ?_
  try simp only [Act.put,zD,zE,zF]
  refine grow_skip 10 (some false) true rfl (by rfl) (by rfl) (by rfl) ?_
  try simp only [Act.put,zD,zE,zF]
  refine grow_skip 11 (some false) true rfl (by rfl) (by rfl) (by rfl) ?_
  try simp only [Act.put,zD,zE,zF]
  iterate 2
   refine grow_fix _ ?_ rfl (by rfl) (by rfl) (fun wx hC hD=>?_) ?_
   rotate_left
   ·have hSw:=hcells'.out wx hC
    go_simp
    all_goals with_reducible rfl
   try simp only [Act.put,zD,zE,zF]
  refine grow_nil (fun w2 hC hF=>?_)
  have Hb:=zh (H1.out _ hC)
  clear hF hC
  go_wp2
  go_ret
  exact ⟨rfl,Hb.out⟩
end Go.Proofs.YtmomjpolkkbhnaaGreat.Qy
end
