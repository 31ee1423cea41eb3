/- The model: open (printed by gen_mdi.py). -/
import Derived.Laws.Bits64b
import Derived.Test.YtmomjpolkkbhnaaGreatQModelPagesRow27
import Derived.Test.YtmomjpolkkbhnaaGreatQModelPagesRow12
import Derived.Test.YtmomjpolkkbhnaaGreatQModelPagesRow33
import Derived.Test.YtmomjpolkkbhnaaGreatQModelPagesRow14
import Derived.Test.YtmomjpolkkbhnaaGreatQModelPagesRow7
import Derived.Test.YtmomjpolkkbhnaaGreatQModelPagesRow35
import Derived.Test.YtmomjpolkkbhnaaGreatQModelPagesRow0
set_option linter.unusedSimpArgs false
set_option linter.unusedVariables false
set_option maxRecDepth 20000
section
namespace Go.Proofs.YtmomjpolkkbhnaaGreat.Md
open Go.RowKit Ut Tk Qy Qp Ev Cu
open Classical in
noncomputable def encL (a:Int) (q:ByteArray):List UInt8:=if IsC a q then enc a.toNat q.data.toList else []
open Classical in
noncomputable def encN (a:Int) (q:ByteArray):Int:=if IsC a q then 0 else 250
theorem encode_any (a:Int) (q:ByteArray) (w:World):Calls Tryz.prog 69 #[.agg #[.int .i64 a,.string q]] w (BytesTo w (encL a q) (encN a q)):=by
 unfold encL encN
 by_cases h:IsC a q
 ·rw [if_pos h,if_pos h]
  obtain ⟨n,rfl⟩:∃ n:Nat,a=(n:Int):=⟨a.toNat,by have:=h.1; omega⟩
  rw [Int.toNat_natCast]
  exact encode_yes n q w h
 ·rw [if_neg h,if_neg h]
  exact encode_no a q w h
def OpR (base:Nat) (w':World) (r:Rq) (cs:Array Value):Prop:=∃ E o,PrsR r.q.data.toList E o∧((E≠0∧cs=rsC E 0 0 nil nil nil 0 0 0 0)∨(E=0∧encN r.after r.q≠0∧cs=rsC (encN r.after r.q) 0 0 nil nil nil 0 0 0 0) ∨
 (∃ v,E=0∧encN r.after r.q=0∧w'.ownsRow base 5 1 v (encL r.after r.q).length (bv (encL r.after r.q))∧cs=rsC 0 0 0 nil nil v 0 0 0 0))
section
variable {w:World} {n0 X K:Nat} {v:Value} {m:M}
set_option maxHeartbeats 6400000 in
theorem open_any (h:At w n0 X K v m) (r:Rq) (z:Rw):Calls Tryz.prog 35 #[.pointer (some ⟨X,0,none⟩),.agg (rqC r z)] w (ReP (fun w w' cs=>OpR w.heap.size w' r cs) w):=by
 have hb:Below w.heap.size w ((w.alloc (.cells (rqC r z) 37)).alloc (.cells rs0 42)):=((Below.refl _ _).alloc (zG _) _).alloc (by simp) _
 have hq:=(Blk.new w 37 (rqC r z)).alloc (.cells rs0 42)
 have hr:=Blk.new (w.alloc (.cells (rqC r z) 37)) 42 rs0
 have z1:(w.alloc (.cells (rqC r z) 37)).heap.size=w.heap.size+1:=by simp
 rw [z1] at hr
 have H1:=zh (h.below hb)
 have HQ:=zh hq
 have HR:=zh hr
 have HB:=zh hb
 have hsw:w.heap.size+2≤(World.heap ((w.alloc (.cells (rqC r z) 37)).alloc (.cells rs0 42))).size:=by simp
 have hxl:=h.blk.lt
 clear h hb hq hr z1
 go_enter Tryz.func35,Tryz.ntmps35
 go_upto_region 1 with (fail)
 generalize ((w.alloc (.cells (rqC r z) 37)).alloc (.cells rs0 42))=w1 at *
 have q4:=HQ.out.cell 4
 simp only [rqC,zA,zB,zC] at q4
 go_wp2_with fail
 refine (parse_any r.q w1).mono ?_
 rintro e w2 ⟨E,o,a0,a1,a2,a3,hp,rfl,hF,hb2⟩
 obtain ⟨A1,n1,c1,A2,n2,c2,e4⟩:=hF.four
 simp only [List.cons.injEq,and_true] at e4
 obtain ⟨rfl,rfl,rfl,rfl⟩:=e4
 have H2:=zh (H1.out.below hb2)
 have HR2:=zh (HR.out.below hb2 HR.out.lt)
 have HQ2:=zh (HQ.out.below hb2 HQ.out.lt)
 have HB2:=zh (HB.out.trans (hb2.mono HB.out.size))
 have HP:=zh hp
 have hqt:QAt w2 w2.heap.size (o.getD noQ) [.int .i64 (o.getD noQ).kind,.string (o.getD noQ).name,.slice A1 n1 c1,.slice A2 n2 c2]:=hF.at_ (fun b hb=>hb.2)
 have HQT:=zh hqt
 have hb3:Below w2.heap.size w2 (w2.alloc (.cells #[.int .i64 (o.getD noQ).kind,.string (o.getD noQ).name,.slice A1 n1 c1,.slice A2 n2 c2] 60)):=(Below.refl _ _).alloc (zG _) _
 have HBQ:=zh (Blk.new w2 60 #[.int .i64 (o.getD noQ).kind,.string (o.getD noQ).name,.slice A1 n1 c1,.slice A2 n2 c2])
 have HB32:=zh hb3
 clear hF hb2 hp hqt hb3 q4
 clear HQT HBQ
 have HB3:=zh (HB2.out.trans (HB32.out.mono HB2.out.size))
 have HR3:=zh (HR2.out.below HB32.out HR2.out.lt)
 have HQ3:=zh (HQ2.out.below HB32.out HQ2.out.lt)
 clear HB32
 generalize (o.getD noQ).kind=z5 at *
 generalize (o.getD noQ).name=z6 at *
 have hEE:E=0∨E≠0:=by omega
 go_upto_region 2 with (fail)
 generalize w2.alloc (.cells #[.int .i64 z5,.string z6,.slice A1 n1 c1,.slice A2 n2 c2] 60)=w3 at *
 rcases hEE with rfl | hE
 ·have CE:=zh (encode_any r.after r.q w3)
  have q9:=HQ3.out.cell 9
  have q4:=HQ3.out.cell 4
  simp only [rqC,zA,zB,zC] at q4 q9
  obtain ⟨en,hen⟩:∃ en,encN r.after r.q=en:=⟨_,rfl⟩
  rw [hen] at CE
  have HEN:=zh hen
  clear hen
  go_wp2_with fail
  refine CE.out.mono ?_
  rintro e w4 hBT
  obtain ⟨v4,rfl,ho4⟩:=hBT.ex
  obtain ⟨A4,c4,rfl,_⟩:=Ev.own_shape2 ho4
  have HO4:=zh ho4
  have HB4:=zh (HB3.out.trans (hBT.bel.mono HB3.out.size))
  have HR4:=zh (HR3.out.below hBT.bel HR3.out.lt)
  have hs3:=HB3.out.size
  clear hBT ho4 CE q4 q9
  by_cases hn:en=0
  ·subst hn
   have HX9:=zh (setRow_heap _ (w.heap.size+1) _ (rsC 0 0 0 nil nil (.slice A4 (encL r.after r.q).length c4) 0 0 0 0) _ _ HR4.out)
   go_wp2_with (refine wpList_store_row (o:=⟨none,.store 42 _ _,_,_,_,_⟩) rfl 42 _ _ rfl (w.heap.size+1) (rsC 0 0 0 nil nil (.slice A4 (encL r.after r.q).length c4) 0 0 0 0) rfl rfl 42 rs0 HR4.out (by kernel_rfl) rfl (by simp [rsC,Value.oneCell']) ?_)
   refine bodyPost_ret (results_cell rfl rfl (run_loadVar_row _ (w.heap.size+1) 42 42 _ (0,0) _ HX9.out Tryz.underlying42 rfl (by kernel_rfl))) rfl ?_
   exact ⟨_,rfl,below_setRow HB4.out (Nat.le_succ _) _,0,_,HP.out,.inr (.inr ⟨_,rfl,HEN.out,own_same (own_mono HO4.out hs3) (fun b hb=>setRow_other w4 _ b _ (fun e=>by
    subst e
    exact absurd ((tg_own HO4.out hb).one ⟨_,_,HR4.out⟩) (by decide))),rfl⟩)⟩
  ·have hn2:(en != 0)=true:=by simpa using hn
   have HN:=zh hn
   have HB3:=HB4
   have HR3:=HR4
   clear hn HB4 HR4
   go_wp2_with fail
   refine (fails_any en _).mono ?_
   rintro e w5 ⟨rfl,hb4⟩
   have HB4:=zh (HB3.out.trans (hb4.mono HB3.out.size))
   have HR4:=zh (HR3.out.below hb4 HR3.out.lt)
   clear hb4
   have HX9:=zh (setRow_heap _ (w.heap.size+1) _ (rsC en 0 0 nil nil nil 0 0 0 0) _ _ HR4.out)
   go_wp2_with (refine wpList_store_row (o:=⟨none,.store 42 _ _,_,_,_,_⟩) rfl 42 _ _ rfl (w.heap.size+1) (rsC en 0 0 nil nil nil 0 0 0 0) rfl rfl 42 rs0 HR4.out (by kernel_rfl) rfl (by simp [rsC,Value.oneCell']) ?_)
   refine bodyPost_ret (results_cell rfl rfl (run_loadVar_row _ (w.heap.size+1) 42 42 _ (0,0) _ HX9.out Tryz.underlying42 rfl (by kernel_rfl))) rfl ?_
   exact ⟨_,rfl,below_setRow HB4.out (Nat.le_succ _) _,0,_,HP.out,.inr (.inl ⟨rfl,by rw [HEN.out]; exact HN.out,by rw [HEN.out]⟩)⟩
 ·have hE2:(E != 0)=true:=by simpa using hE
  have HE:=zh hE
  clear hE
  go_wp2_with fail
  refine (fails_any E _).mono ?_
  rintro e w4 ⟨rfl,hb4⟩
  have HB4:=zh (HB3.out.trans (hb4.mono HB3.out.size))
  have HR4:=zh (HR3.out.below hb4 HR3.out.lt)
  clear hb4
  have HX9:=zh (setRow_heap _ (w.heap.size+1) _ (rsC E 0 0 nil nil nil 0 0 0 0) _ _ HR4.out)
  go_wp2_with (refine wpList_store_row (o:=⟨none,.store 42 _ _,_,_,_,_⟩) rfl 42 _ _ rfl (w.heap.size+1) (rsC E 0 0 nil nil nil 0 0 0 0) rfl rfl 42 rs0 HR4.out (by kernel_rfl) rfl (by simp [rsC,Value.oneCell']) ?_)
  refine bodyPost_ret (results_cell rfl rfl (run_loadVar_row _ (w.heap.size+1) 42 42 _ (0,0) _ HX9.out Tryz.underlying42 rfl (by kernel_rfl))) rfl ?_
  exact ⟨_,rfl,below_setRow HB4.out (Nat.le_succ _) _,E,_,HP.out,.inl ⟨HE.out,rfl⟩⟩
end
end Go.Proofs.YtmomjpolkkbhnaaGreat.Md
end

section
namespace Go.Proofs.YtmomjpolkkbhnaaGreat.Cu
open Go.RowKit Cr
structure Lf (w:World) (g:Nat) (A:Option Addr) (m c:Nat) (L:List UInt8):Prop where
 cell:w.cell? ⟨g,0,none⟩=some (.slice A m c)
 fz:w.frozen? ⟨g,0,none⟩=false
 le:m≤c
 ln:L.length=m
 rd : 0<m→∃ b o,A=some ⟨b,o,none⟩∧b<w.heap.size∧b≠g∧∀ j u,(bv L)[j]?=some u→w.cell? ⟨b,o+j,none⟩=some u
 nil:A=none→c=0
theorem Lf.reads {w:World} {g:Nat} {A:Option Addr} {m c:Nat} {L:List UInt8} (h:Lf w g A m c L):Reads w w.heap.size 1 A m (bv L) :=
 ⟨by rw [bv_len,h.ln]; omega,fun hm=>by obtain ⟨b,o,e,hb,_,hc⟩:=h.rd hm; exact ⟨b,o,e,hb,hc⟩⟩
theorem bv_get (L:List UInt8) (j:Nat):(bv L)[j]?=L[j]?.map fun c=>Value.int .u8 (c.toNat:Int):=by unfold bv; rw [List.getElem?_map]
theorem setc (w:World) (g:Nat) (u:Value) {b:Nat} (o:Nat) (h:b≠g):(w.setCell ⟨g,0,none⟩ u).cell? ⟨b,o,none⟩=w.cell? ⟨b,o,none⟩ :=
 World.cell?_of_block (w:=w) (Below.heap_setCell w ⟨g,0,none⟩ u b h)
theorem Lf.go {w:World} {g:Nat} {A:Option Addr} {m c k:Nat} {L:List UInt8} (h:Lf w g A m c L) (hk:k≤m) (A':Option Addr) (c':Nat) (hc:m - k≤c') (hn:A'=none→c'=0) (hA:∀ b o,A=some ⟨b,o,none⟩→k<m→A'=some ⟨b,o+k,none⟩) :
  Lf (w.setCell ⟨g,0,none⟩ (.slice A' (m - k) c')) g A' (m - k) c' (L.drop k):=by
 refine ⟨World.cell?_setCell_same _ _ _ h.cell,by rw [World.frozen?_setCell]; exact h.fz,hc,by rw [List.length_drop,h.ln],fun hp=>?_,hn⟩
 obtain ⟨b,o,e,hb,hne,hcl⟩:=h.rd (by omega)
 refine ⟨b,o+k,hA b o e (by omega),by simpa [World.setCell] using hb,hne,fun j u hu=>?_⟩
 rw [setc w g _ _ hne]
 have:=hcl (k+j) u (by rw [bv_get] at hu ⊢; rw [List.getElem?_drop] at hu; exact hu)
 rw [← this,Nat.add_assoc]
structure NextTo (w:World) (g:Nat) (L:List UInt8) (k:Nat) (e:Ending) (w':World):Prop where
 ex:∃ A m c A' c',e=.returned (.slice A (min k m) c)∧L.length=m∧w'=w.setCell ⟨g,0,none⟩ (.slice A' (m - min k m) c')∧min k m≤c∧(A=none→c=0) ∧
  Reads w' w'.heap.size 1 A (min k m) (bv (L.take k))∧Lf w' g A' (m - min k m) c' (L.drop k)
theorem Lf.next {w:World} {g:Nat} {A:Option Addr} {m c:Nat} {L:List UInt8} (h:Lf w g A m c L) (k:Nat) (A':Option Addr) (c':Nat) (hc:m - min k m≤c') (hn:A'=none→c'=0) (hA:∀ b o,A=some ⟨b,o,none⟩→min k m<m→A'=some ⟨b,o+min k m,none⟩) :
  NextTo w g L k (.returned (.slice A (min k m) c)) (w.setCell ⟨g,0,none⟩ (.slice A' (m - min k m) c')):=by
 have hd:L.drop (min k m)=L.drop k:=by
  rw [← h.ln]
  by_cases hk:k≤L.length
  ·rw [Nat.min_eq_left hk]
  ·rw [Nat.min_eq_right (by omega),List.drop_length,List.drop_of_length_le (by omega)]
 have hg:=h.go (k:=min k m) (by omega) A' c' hc hn hA
 rw [hd] at hg
 refine ⟨A,m,c,A',c',rfl,h.ln,rfl,by have:=h.le; omega,h.nil,⟨by rw [bv_len,List.length_take,h.ln]; omega,fun hp=>?_⟩,hg⟩
 obtain ⟨b,o,e,hb,hne,hcl⟩:=h.rd (by omega)
 refine ⟨b,o,e,by simpa [World.setCell] using hb,fun j u hu=>?_⟩
 rw [setc w g _ _ hne]
 refine hcl j u ?_
 rw [bv_get,List.getElem?_take] at hu
 rw [bv_get]
 split at hu
 ·exact hu
 ·cases hu
set_option maxHeartbeats 1600000 in
theorem next_any (w:World) (g:Nat) (A:Option Addr) (m c k:Nat) (L:List UInt8) (h:Lf w g A m c L) (hm:m≤140737488351232) (hk:k≤140737488351232) :
  Calls Tryz.prog 110 #[.pointer (some ⟨g,0,none⟩),.int .i64 (k:Int)] w (NextTo w g L k):=by
 have hcell:=h.cell
 have hfz:=h.fz
 have hle:=h.le
 have hnil:=h.nil
 have HN:=zh (h.next k)
 have hrd:=h.rd
 clear h
 by_cases hkm:k<m
 ·rw [Nat.min_eq_left (by omega)] at HN
  obtain ⟨b,o,rfl,hb,hne,_⟩:=hrd (by omega)
  have h1:(k:Int)<(m:Int):=by omega
  have h2:(k:Int)≤(c:Int):=by omega
  have h3:¬ (c=k):=by omega
  have h4:¬ (k=c):=by omega
  have hmn:min (k:Int) (m:Int)=(k:Int):=by omega
  go_enter Tryz.func110,Tryz.ntmps110
  go_wp2
  go_ret
  exact HN.out _ _ (by omega) (fun h=>by cases h) (fun b' o' e _=>by injection e with e; injection e with e1 e2; subst e1 e2; rfl)
 ·rw [Nat.min_eq_right (by omega)] at HN
  rw [Nat.sub_self] at HN
  have h1:¬ (k:Int)<(m:Int):=by omega
  by_cases hkm':k=m
  ·subst hkm'
   have hmn:min (k:Int) (k:Int)=(k:Int):=by omega
   by_cases hm0:k=0
   ·subst hm0
    clear hrd
    cases A with
    | none =>
     obtain rfl:=hnil rfl
     go_enter Tryz.func110,Tryz.ntmps110
     go_wp2
     go_ret
     exact HN.out _ _ (by omega) (fun h=>rfl) (fun b' o' e _=>by omega)
    | some a =>
     clear hnil
     by_cases hc:c=0
     ·subst hc
      go_enter Tryz.func110,Tryz.ntmps110
      go_wp2
      go_ret
      exact HN.out _ _ (by omega) (fun h=>rfl) (fun b' o' e _=>by omega)
     ·go_enter Tryz.func110,Tryz.ntmps110
      go_wp2
      go_ret
      exact HN.out _ _ (by omega) (fun h=>by cases h) (fun b' o' e _=>by omega)
   ·obtain ⟨b,o,rfl,hb,hne,_⟩:=hrd (by omega)
    by_cases hc:c=k
    ·subst hc
     go_enter Tryz.func110,Tryz.ntmps110
     go_wp2
     go_ret
     exact HN.out _ _ (by omega) (fun h=>by cases h) (fun b' o' e _=>by omega)
    ·have h2:(k:Int)≤(c:Int):=by omega
     go_enter Tryz.func110,Tryz.ntmps110
     go_wp2
     go_ret
     exact HN.out _ _ (by omega) (fun h=>by cases h) (fun b' o' e _=>by omega)
  ·have h0:(m:Int)<(k:Int):=by omega
   have hmn:min (k:Int) (m:Int)=(m:Int):=by omega
   by_cases hm0:m=0
   ·subst hm0
    have hmn0:min (k:Int) 0=0:=by omega
    clear hrd
    cases A with
    | none =>
     obtain rfl:=hnil rfl
     go_enter Tryz.func110,Tryz.ntmps110
     go_wp2
     go_ret
     exact HN.out _ _ (by omega) (fun h=>rfl) (fun b' o' e _=>by omega)
    | some a =>
     clear hnil
     by_cases hc:c=0
     ·subst hc
      go_enter Tryz.func110,Tryz.ntmps110
      go_wp2
      go_ret
      exact HN.out _ _ (by omega) (fun h=>rfl) (fun b' o' e _=>by omega)
     ·go_enter Tryz.func110,Tryz.ntmps110
      go_wp2
      go_ret
      exact HN.out _ _ (by omega) (fun h=>by cases h) (fun b' o' e _=>by omega)
   ·obtain ⟨b,o,rfl,hb,hne,_⟩:=hrd (by omega)
    by_cases hc:c=m
    ·subst hc
     go_enter Tryz.func110,Tryz.ntmps110
     go_wp2
     go_ret
     exact HN.out _ _ (by omega) (fun h=>by cases h) (fun b' o' e _=>by omega)
    ·have h2:(m:Int)≤(c:Int):=by omega
     go_enter Tryz.func110,Tryz.ntmps110
     go_wp2
     go_ret
     exact HN.out _ _ (by omega) (fun h=>by cases h) (fun b' o' e _=>by omega)
structure NumTo (w:World) (g:Nat) (L:List UInt8) (k:Nat) (e:Ending) (w':World):Prop where
 ret:e=.returned (.int .i64 (wrap64 (num (L.take k):Nat)))
 ex:∃ A m c,w'=w.setCell ⟨g,0,none⟩ (.slice A m c)∧Lf w' g A m c (L.drop k)
theorem or_byte (u:Nat) (c:UInt8) (h:u<72057594037927936):bits .or .u64 ((u:Int) * 256) (c.toNat:Int)=((u * 256+c.toNat:Nat):Int):=by
 have hc:=c.toNat_lt
 have h1:=bits_or_u64_nat (u * 256) c.toNat (by omega) (by omega)
 have h2:u * 256 ||| c.toNat=u * 256+c.toNat:=by
  have:=Nat.two_pow_add_eq_or_of_lt (i:=8) hc u
  rw [show u * 256=2 ^ 8 * u by omega]
  exact this.symm
 rw [show (u:Int) * 256=((u * 256:Nat):Int) by omega,h1,h2]
set_option maxHeartbeats 1600000 in
theorem number_any (w:World) (g:Nat) (A:Option Addr) (m c k:Nat) (L:List UInt8) (h:Lf w g A m c L) (hm:m≤140737488351232) (hk:k≤8) :
  Calls Tryz.prog 111 #[.pointer (some ⟨g,0,none⟩),.int .i64 (k:Int)] w (NumTo w g L k):=by
 have c1:=next_any w g A m c k L h hm (by omega)
 clear h
 go_enter Tryz.func111,Tryz.ntmps111
 go_wp2_with fail
 refine c1.mono ?_
 rintro e w1 ⟨A,m',cc,A',c',rfl,hln,hw,hle,hnil,hR,hL⟩
 have HR:=zh hR
 have Fin:Hid (∃ A m c,w1=w.setCell ⟨g,0,none⟩ (.slice A m c)∧Lf w1 g A m c (L.drop k)):=zh ⟨_,_,_,hw,hL⟩
 have hl2:(L.take k).length=min k m':=by rw [List.length_take,hln]
 have hl8:min k m'≤8:=by omega
 generalize min k m'=n at *
 generalize hM:L.take k=M at *
 have HM:=zh hM
 clear hM
 have Hl:=zh hl2
 clear c1 hw hR hL hln hl2 hm hnil
 go_wp2_with fail
 go_loop [5,12] (fun u i=>∃ j:Nat,j≤n∧i=.int .i64 j∧u=.int .u64 (num (M.take j):Nat)) (fun _ i=>n - (intOf i).toNat)
 case atStart=>exact ⟨0,Nat.zero_le _,rfl,rfl⟩
 case round =>
  obtain ⟨j,hj,rfl,rfl⟩:=hrel
  by_cases hlt:j<n
  ·have hjl:j<M.length:=by rw [Hl.out]; exact hlt
   obtain ⟨b,o,hl,rfl,hbl,hcell⟩:=HR.out.at_map hlt
   have hts:num (M.take (j+1))=num (M.take j) * 256+M[j].toNat:=by
    rw [List.take_succ_eq_append_getElem hjl,num_snoc]
   have hu:=num_lt (M.take j)
   have hu2:num (M.take j)<72057594037927936:=by
    rw [List.length_take,Nat.min_eq_left (by omega)] at hu
    exact Nat.lt_of_lt_of_le hu (Nat.le_trans (Nat.pow_le_pow_right (by omega) (show j≤7 by omega)) (by decide))
   have Hts:=zh hts
   clear hts hu
   generalize num (M.take j)=u at *
   generalize M[j]=q at *
   have hq:=q.toNat_lt
   have hor:=or_byte u q hu2
   have hu0:(0:Int)≤(u:Int):=by omega
   have hu1:(u:Int)<72057594037927936:=by omega
   go_wp2
   go_round
   case rel=>exact ⟨j+1,by omega,by go_num,by rw [Hts.out]; go_num⟩
   case measure=>simp [intOf]; omega
  ·obtain rfl:j=n:=by omega
   have ht:Hid (M.take j=M):=zh (List.take_of_length_le (by rw [Hl.out]; exact zG _))
   rw [ht.out]
   have hu:=num_lt M
   have hu2:num M<18446744073709551616:=by
    rw [Hl.out] at hu
    exact Nat.lt_of_lt_of_le hu (Nat.le_trans (Nat.pow_le_pow_right (by omega) hl8) (by decide))
   clear hu
   generalize hxx:num M=u at *
   have Hx:=zh hxx
   clear hxx
   have hu0:(0:Int)≤(u:Int):=by omega
   have hu1:(u:Int)<18446744073709551616:=by omega
   go_wp2
   go_ret
   exact ⟨by rw [HM.out,Hx.out]; rfl,Fin.out⟩
end Go.Proofs.YtmomjpolkkbhnaaGreat.Cu
end

section
namespace Go.Proofs.YtmomjpolkkbhnaaGreat.Hi
open Go.RowKit
structure Fine (l:List Bk):Prop where
 up:Up l
 one:∀ b∈l,1≤b.2
theorem Fine.nil:Fine []:=⟨Up.nil,fun b h=>by simp at h⟩
theorem up_iff (l:List Bk):Up l↔l.Pairwise (fun a b=>a.1<b.1):=by
 constructor
 ·intro h
  rw [List.pairwise_iff_getElem]
  intro i j hi hj hij
  exact h.lt i j hij hj
 ·intro h i hi
  rw [List.pairwise_iff_getElem] at h
  exact h i (i+1) (by omega) hi (by omega)
theorem putF_len (l:List Bk) (k n:Int):(putF l k n).1.length≤l.length+1:=by
 unfold putF
 split
 ·split
  ·simp
  ·simp
 ·have:=pos_le l k
  simp
  omega
theorem putF_fine {l:List Bk} (h:Fine l) (k n:Int) (hn : 1≤n):Fine (putF l k n).1:=by
 have hp:=pos_le l k
 unfold putF
 split
 ·rename_i hf
  obtain ⟨hlt,hk⟩:=hf
  have hgd:l.getD (pos l k) (0,0)=l[pos l k]:=by rw [List.getD_eq_getElem?_getD,List.getElem?_eq_getElem hlt]; rfl
  rw [hgd] at hk ⊢
  split
  ·exact Fine.nil
  ·refine ⟨?_,?_⟩
   ·intro i hi
    simp only [List.length_set] at hi
    have hu:=h.up i hi
    rw [List.getElem_set,List.getElem_set]
    split
    ·split
     ·omega
     ·rename_i h1 _; subst h1; rw [hk] at hu; exact hu
    ·split
     ·rename_i h1; show l[i].1<k; have e:l[pos l k].1=l[i+1].1:=(by simp only [h1]); omega
     ·exact hu
   ·intro b hb
    rcases List.mem_or_eq_of_mem_set hb with hb | rfl
    ·exact h.one b hb
    ·have:=h.one _ (List.getElem_mem hlt)
     show 1≤l[pos l k].2+n
     omega
 ·rename_i hf
  refine ⟨?_,?_⟩
  ·rw [up_iff,List.pairwise_append,List.pairwise_cons]
   have hpw:=(up_iff l).1 h.up
   have hlo:∀ a∈l.take (pos l k),a.1<k:=fun a ha=>by
    obtain ⟨i,hi,rfl⟩:=List.getElem_of_mem ha
    rw [List.length_take] at hi
    rw [List.getElem_take]
    exact (pos_lt l k i (by omega)).2
   have hhi:∀ a∈l.drop (pos l k),k<a.1:=fun a ha=>by
    obtain ⟨i,hi,rfl⟩:=List.getElem_of_mem ha
    rw [List.length_drop] at hi
    rw [List.getElem_drop]
    have hlt:pos l k<l.length:=by omega
    have h0:=pos_at l k hlt
    have hgd:l.getD (pos l k) (0,0)=l[pos l k]:=by rw [List.getD_eq_getElem?_getD,List.getElem?_eq_getElem hlt]; rfl
    have hne:¬ l[pos l k].1=k:=fun e=>hf ⟨hlt,by rw [hgd]; exact e⟩
    rcases Nat.eq_zero_or_pos i with rfl | hip
    ·simp only [Nat.add_zero]; omega
    ·have:=h.up.lt (pos l k) (pos l k+i) (by omega) (by omega)
     omega
   refine ⟨hpw.sublist (List.take_sublist _ _),⟨hhi,hpw.sublist (List.drop_sublist _ _)⟩,fun a ha b hb=>?_⟩
   have h1:=hlo a ha
   rcases List.mem_cons.1 hb with rfl | hb
   ·exact h1
   ·have:=hhi b hb; omega
  ·intro b hb
   rcases List.mem_append.1 hb with hb | hb
   ·exact h.one b (List.mem_of_mem_take hb)
   ·rcases List.mem_cons.1 hb with rfl | hb
    ·exact hn
    ·exact h.one b (List.mem_of_mem_drop hb)
def ofF (d:Int) (ts:List Int):List Bk:=ts.foldl (fun l t=>(putF l (t / d) 1).1) []
theorem ofF_take (d:Int) (ts:List Int) (k:Nat) (h:k<ts.length):ofF d (ts.take (k+1))=(putF (ofF d (ts.take k)) (ts[k] / d) 1).1:=by
 rw [List.take_succ_eq_append_getElem h]
 unfold ofF
 rw [List.foldl_append]
 rfl
theorem ofF_good (d:Int) (ts:List Int):∀ k,k≤ts.length→Fine (ofF d (ts.take k))∧(ofF d (ts.take k)).length≤k
 | 0,_=>⟨Fine.nil,zG _⟩
 | k+1,h=>by
  have ih:=ofF_good d ts k (by omega)
  rw [ofF_take d ts k h]
  exact ⟨putF_fine ih.1 _ _ (by omega),Nat.le_trans (putF_len _ _ _) (by omega)⟩
def OfPost (B:Nat) (d:Int) (ts:List Int) (w:World) (e:Ending) (w':World):Prop :=
 ∃ v,e=.returned (.tuple #[v,.int .i64 (if d<1 then 240 else 0)])∧Row B w w' v (if d<1 then [] else ofF d ts)
set_option maxHeartbeats 1600000 in
theorem of_any (A:Option Addr) (c B:Nat) (d:Int) (ts:List Int) (w:World) (hR:Reads w B 1 A ts.length (ts.map (Value.int .i64))) (hB:B≤w.heap.size) (hl:ts.length≤900000) (hd2:d≤9223372036854775807) (hin:∀ t∈ts,In64 t) :
  Calls Tryz.prog 68 #[.int .i64 d,.slice A ts.length c] w (OfPost w.heap.size d ts w):=by
 unfold OfPost
 by_cases hd:d<1
 ·simp only [if_pos hd]
  go_enter Tryz.func68,Tryz.ntmps68
  go_wp2
  go_ret2
  exact ⟨.slice none 0 0,rfl,Row.start _ _ _ (Below.refl _ _)⟩
 ·simp only [if_neg hd]
  have HR:=zh hR
  have Hin:=zh hin
  clear hR hin
  go_enter Tryz.func68,Tryz.ntmps68
  go_wp2
  go_loopw [6,13] (fun v i wr=>∃ k:Nat,k≤ts.length∧i=.int .i64 k∧Row w.heap.size w wr v (ofF d (ts.take k))) (fun _ i _=>ts.length - (intOf i).toNat)
  case atStart=>exact ⟨0,Nat.zero_le _,rfl,Row.start _ _ _ (Below.refl _ _)⟩
  case round =>
   obtain ⟨k,hk,rfl,hT⟩:=hrel
   by_cases hlt:k<ts.length
   ·obtain ⟨bb,o,hl',rfl,hbb,hc1⟩:=HR.out.at_map hlt
    have d1:=(hT.bel.cell (p:=⟨bb,o+k,none⟩) (Nat.lt_of_lt_of_le hbb hB)).trans hc1
    have T:=zh (ofF_take d ts k hlt)
    have G:=ofF_good d ts k hk
    have ht:=Hin.out _ (List.getElem_mem hlt)
    have c1:=floor_any ts[k] d wr (by omega) ht hd2
    have c2:=put_any w.heap.size _ _ (ts[k] / d) 1 wr hT.own hT.bel.size (by omega) G.1.up G.1.one (by omega) (by omega)
    have HT:=zh hT
    clear hT hc1 ht
    generalize ts[k]=x at *
    generalize ofF d (ts.take k)=l at *
    go_wp2_with fail
    refine c1.mono ?_
    rintro e w1 ⟨rfl,rfl⟩
    go_wp2_with fail
    refine c2.mono ?_
    rintro e w2 ⟨v',rfl,hv⟩
    have HV:=zh hv
    clear hv c1 c2
    go_wp2
    go_roundw
    case rel=>exact ⟨k+1,by omega,by go_num,by rw [T.out]; exact ⟨HV.out.own,HT.out.bel.trans HV.out.bel⟩⟩
    case measure=>simp [intOf]; omega
   ·have hall:ts.take k=ts:=List.take_of_length_le (by omega)
    rw [hall] at hT
    have HT:=zh hT
    clear hT
    go_wp2
    go_ret2
    exact ⟨_,rfl,HT.out⟩
end Go.Proofs.YtmomjpolkkbhnaaGreat.Hi
end
