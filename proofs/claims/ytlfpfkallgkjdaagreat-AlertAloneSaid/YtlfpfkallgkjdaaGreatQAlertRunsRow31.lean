/- slices.IndexFunc, slices.ContainsFunc at texts, slices.IndexFunc at numbers, over whatever function value (printed by gen_alx.py). -/
import Derived.Test.YtlfpfkallgkjdaaGreatQAlertRunsRow28
import Derived.Test.YtlfpfkallgkjdaaGreatQAlertRunsRow26
import Derived.Test.YtlfpfkallgkjdaaGreatQAlertRunsRow0
set_option linter.unusedSimpArgs false
set_option linter.unusedVariables false
set_option maxRecDepth 20000
namespace Go.Proofs.YtlfpfkallgkjdaaGreat.Al
open Go.RowKit Ut Tk Qy
def itv (l:List Int):List Value:=l.map (Value.int .i64)
theorem itv_len (l:List Int):(itv l).length=l.length:=by simp [itv]
theorem itv_get (l:List Int) (k:Nat) (h:k<l.length):(itv l)[k]?=some (.int .i64 l[k]):=by unfold itv; rw [List.getElem?_map,List.getElem?_eq_getElem h]; rfl
theorem bsv_get (l:List ByteArray) (k:Nat) (h:k<l.length):(bsv l)[k]?=some (.string l[k]):=by unfold bsv; rw [List.getElem?_map,List.getElem?_eq_getElem h]; rfl
set_option maxHeartbeats 800000 in
theorem indexStr (TA:Option Addr) (n tc:Nat) (T:List ByteArray) (f:Nat) (lb:Array Value) (p:Nat→Bool) (w:World) (hcf:∀ args wx,(callFunc f args).run Tryz.prog wx=.ok (.enter f args) wx) (hT:Reads w w.heap.size 1 TA n (bsv T)) (hn:T.length=n) (hn2:n≤8796093021952)
  (hf:∀ i (h:i<T.length) wx,Below w.heap.size w wx→Calls Tryz.prog f (#[.string T[i]] ++ lb) wx fun e w'=>e=.returned (.bool (p i))∧Below wx.heap.size wx w') :
  Calls Tryz.prog 77 #[.slice TA n tc,.func (.func f) #[] lb] w fun e w'=>e=.returned (.int .i64 (idxF p n))∧Below w.heap.size w w':=by
 have HT:=zh hT
 have Hn:=zh hn
 have Hf:=zh hf
 clear hT hn hf
 go_enter Tryz.func77,Tryz.ntmps77
 go_wp2
 go_loopw [8] (fun i wr=>∃ k:Nat,k≤n∧i=.int .i64 k∧(∀ j,j<k→p j=false)∧Below w.heap.size w wr) (fun i _=>n - (intOf i).toNat)
 case atStart=>exact ⟨0,Nat.zero_le _,rfl,fun j hj=>by omega,Below.refl _ _⟩
 case round =>
  obtain ⟨k,hk,rfl,hal,hb⟩:=hrel
  have Hal:=zh hal
  have Hb:=zh hb
  clear hal hb
  by_cases hlt:k<n
  ·obtain ⟨tb,tq,rfl,htb,hcl⟩:=HT.out.2 (by omega)
   have hc1:=hcl k _ (bsv_get T k (by rw [Hn.out]; exact hlt))
   have hd1:=(Hb.out.cell (p:=⟨tb,tq+k,none⟩) htb).trans hc1
   have c1:=Hf.out k (by rw [Hn.out]; exact hlt) wr Hb.out
   clear hc1 hcl
   have Hs:Hid (∀ b,p k=b→(b=true→idxF p n=(k:Int))∧(b=false→∀ j,j<k+1→p j=false)):=zh (fun b hb=>⟨fun e=>idxF_hit p n k hlt Hal.out (by rw [hb,e]),fun e j hj=>by
    by_cases hjk:j=k
    ·rw [hjk,hb,e]
    ·exact Hal.out j (by omega)⟩)
   generalize (T[k]'(by rw [Hn.out]; exact hlt))=x at *
   cases hp:p k with
   | true =>
    have Fin:=zh ((Hs.out _ hp).1 rfl)
    rw [hp] at c1
    clear hp Hs
    go_wp2_with fail
    refine c1.mono ?_
    rintro e w2 ⟨rfl,hb2⟩
    have Hb2:=zh (Hb.out.trans (hb2.mono Hb.out.size))
    clear hb2 c1
    go_wp2
    go_ret
    exact ⟨by rw [Fin.out]; rfl,Hb2.out⟩
   | false =>
    have Hn2:=zh ((Hs.out _ hp).2 rfl)
    rw [hp] at c1
    clear hp Hs
    go_wp2_with fail
    refine c1.mono ?_
    rintro e w2 ⟨rfl,hb2⟩
    have Hb2:=zh (Hb.out.trans (hb2.mono Hb.out.size))
    clear hb2 c1
    go_wp2
    go_roundw
    case rel=>exact ⟨k+1,by omega,by go_num,Hn2.out,Hb2.out⟩
    case measure=>simp [intOf]; omega
  ·obtain rfl:k=n:=by omega
   have Fin:=zh (idxF_no p k Hal.out)
   go_wp2
   go_ret
   exact ⟨by rw [Fin.out]; rfl,Hb.out⟩
set_option maxHeartbeats 400000 in
theorem containsStr (TA:Option Addr) (n tc:Nat) (T:List ByteArray) (f:Nat) (lb:Array Value) (p:Nat→Bool) (w:World) (hcf:∀ args wx,(callFunc f args).run Tryz.prog wx=.ok (.enter f args) wx) (hT:Reads w w.heap.size 1 TA n (bsv T)) (hn:T.length=n) (hn2:n≤8796093021952)
  (hf:∀ i (h:i<T.length) wx,Below w.heap.size w wx→Calls Tryz.prog f (#[.string T[i]] ++ lb) wx fun e w'=>e=.returned (.bool (p i))∧Below wx.heap.size wx w') :
  Calls Tryz.prog 41 #[.slice TA n tc,.func (.func f) #[] lb] w fun e w'=>e=.returned (.bool ((List.range n).any p))∧Below w.heap.size w w':=by
 have c1:=indexStr TA n tc T f lb p w hcf hT hn hn2 hf
 have Fin:=zh (idxF_any p n)
 clear hT hn hn2 hf hcf
 generalize idxF p n=z at *
 go_enter Tryz.func41,Tryz.ntmps41
 go_wp2_with fail
 refine c1.mono ?_
 rintro e w1 ⟨rfl,hb1⟩
 have Hb1:=zh hb1
 clear hb1 c1
 go_wp2
 go_ret
 exact ⟨by rw [← Fin.out]; simp,Hb1.out⟩
set_option maxHeartbeats 800000 in
theorem indexInt (TA:Option Addr) (n tc:Nat) (T:List Int) (f:Nat) (lb:Array Value) (p:Nat→Bool) (w:World) (hcf:∀ args wx,(callFunc f args).run Tryz.prog wx=.ok (.enter f args) wx) (hT:Reads w w.heap.size 1 TA n (itv T)) (hn:T.length=n) (hn2:n≤8796093021952)
  (hf:∀ i (h:i<T.length) wx,Below w.heap.size w wx→Calls Tryz.prog f (#[.int .i64 T[i]] ++ lb) wx fun e w'=>e=.returned (.bool (p i))∧Below wx.heap.size wx w') :
  Calls Tryz.prog 80 #[.slice TA n tc,.func (.func f) #[] lb] w fun e w'=>e=.returned (.int .i64 (idxF p n))∧Below w.heap.size w w':=by
 have HT:=zh hT
 have Hn:=zh hn
 have Hf:=zh hf
 clear hT hn hf
 go_enter Tryz.func80,Tryz.ntmps80
 go_wp2
 go_loopw [8] (fun i wr=>∃ k:Nat,k≤n∧i=.int .i64 k∧(∀ j,j<k→p j=false)∧Below w.heap.size w wr) (fun i _=>n - (intOf i).toNat)
 case atStart=>exact ⟨0,Nat.zero_le _,rfl,fun j hj=>by omega,Below.refl _ _⟩
 case round =>
  obtain ⟨k,hk,rfl,hal,hb⟩:=hrel
  have Hal:=zh hal
  have Hb:=zh hb
  clear hal hb
  by_cases hlt:k<n
  ·obtain ⟨tb,tq,rfl,htb,hcl⟩:=HT.out.2 (by omega)
   have hc1:=hcl k _ (itv_get T k (by rw [Hn.out]; exact hlt))
   have hd1:=(Hb.out.cell (p:=⟨tb,tq+k,none⟩) htb).trans hc1
   have c1:=Hf.out k (by rw [Hn.out]; exact hlt) wr Hb.out
   clear hc1 hcl
   have Hs:Hid (∀ b,p k=b→(b=true→idxF p n=(k:Int))∧(b=false→∀ j,j<k+1→p j=false)):=zh (fun b hb=>⟨fun e=>idxF_hit p n k hlt Hal.out (by rw [hb,e]),fun e j hj=>by
    by_cases hjk:j=k
    ·rw [hjk,hb,e]
    ·exact Hal.out j (by omega)⟩)
   generalize (T[k]'(by rw [Hn.out]; exact hlt))=x at *
   cases hp:p k with
   | true =>
    have Fin:=zh ((Hs.out _ hp).1 rfl)
    rw [hp] at c1
    clear hp Hs
    go_wp2_with fail
    refine c1.mono ?_
    rintro e w2 ⟨rfl,hb2⟩
    have Hb2:=zh (Hb.out.trans (hb2.mono Hb.out.size))
    clear hb2 c1
    go_wp2
    go_ret
    exact ⟨by rw [Fin.out]; rfl,Hb2.out⟩
   | false =>
    have Hn2:=zh ((Hs.out _ hp).2 rfl)
    rw [hp] at c1
    clear hp Hs
    go_wp2_with fail
    refine c1.mono ?_
    rintro e w2 ⟨rfl,hb2⟩
    have Hb2:=zh (Hb.out.trans (hb2.mono Hb.out.size))
    clear hb2 c1
    go_wp2
    go_roundw
    case rel=>exact ⟨k+1,by omega,by go_num,Hn2.out,Hb2.out⟩
    case measure=>simp [intOf]; omega
  ·obtain rfl:k=n:=by omega
   have Fin:=zh (idxF_no p k Hal.out)
   go_wp2
   go_ret
   exact ⟨by rw [Fin.out]; rfl,Hb.out⟩
end Go.Proofs.YtlfpfkallgkjdaaGreat.Al


