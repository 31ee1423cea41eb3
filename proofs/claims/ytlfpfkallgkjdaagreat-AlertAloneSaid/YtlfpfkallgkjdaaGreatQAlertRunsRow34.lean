/- SLICED by slice.py -/
import Derived.Deep.QuietTactic
import Derived.BigQuiet
import Derived.Test.YtlfpfkallgkjdaaGreatQAlertRunsRow1
import Derived.Test.YtlfpfkallgkjdaaGreatQAlertRunsRow32
import Derived.Test.YtlfpfkallgkjdaaGreatQAlertRunsRow0
import Derived.Test.YtlfpfkallgkjdaaGreatQAlertRunsRow4
import Derived.Test.YtlfpfkallgkjdaaGreatQAlertRunsRow15
import Derived.Test.YtlfpfkallgkjdaaGreatQAlertRunsRow29
import Derived.Test.YtlfpfkallgkjdaaGreatQAlertRunsRow22
import Derived.Test.YtlfpfkallgkjdaaGreatQAlertRunsRow28
set_option linter.unusedSimpArgs false
set_option linter.unusedVariables false
set_option maxRecDepth 20000
section
namespace Go.Proofs.YtlfpfkallgkjdaaGreat.Mx
open Go.RowKit Go.Maps Ut Tk Qy Ev Qp Mv Ph
end Go.Proofs.YtlfpfkallgkjdaaGreat.Mx
end

section
namespace Go.Proofs.YtlfpfkallgkjdaaGreat.Mx
open Go.RowKit Ut Tk Qy Ev Qp Mv
theorem reads_gr {w1 w2:World} {A:Option Addr} {k n:Nat} {xs:List Value} (hb:Below w1.heap.size w1 w2) (h:Reads w1 w1.heap.size k A n xs):Reads w2 w2.heap.size k A n xs:=(h.below hb).more hb.size
theorem below_dN {B:Nat} {a w:World} (h:Below B a w) (n:Nat):Below B a (w.drewN n):=⟨h.os,h.tape,h.output,h.size,h.block⟩
structure DocRd (w:World) (A:Option Addr) (n:Nat) (ds:List Dc):Prop where
 ln:ds.length=n
 at_:∀ {i:Nat} (h:i<ds.length),∃ b o F fn f,A=some ⟨b,o,none⟩∧b<w.heap.size∧w.cell? ⟨b,o+i * 3,none⟩=some (.int .i64 ds[i].seq)∧w.cell? ⟨b,o+i * 3+1,none⟩=some (.int .i64 ds[i].at_)∧w.cell? ⟨b,o+i * 3+2,none⟩=some (.slice F fn f)∧Reads w w.heap.size 2 F fn (fldC ds[i].fs)∧ds[i].fs.length=fn∧fn≤8796093021952
theorem DocRd.grow {w w':World} {A:Option Addr} {n:Nat} {ds:List Dc} (h:DocRd w A n ds) (hb:Below w.heap.size w w'):DocRd w' A n ds :=
 ⟨h.ln,fun {i} hi=>by
  obtain ⟨b,o,F,fn,f,e,hlt,c0,c1,c2,r,q⟩:=h.at_ hi
  exact ⟨b,o,F,fn,f,e,Nat.lt_of_lt_of_le hlt hb.size,(hb.cell hlt).trans c0,(hb.cell hlt).trans c1,(hb.cell hlt).trans c2,reads_gr hb r,q⟩⟩
theorem DocRd.of {w:World} {R S:Nat→Prop} {A:Option Addr} {n:Nat} {ds:List Dc} (h:DocsS w R S A n ds) (hR:∀ b,R b→b<w.heap.size) (hS:∀ b,S b→b<w.heap.size):DocRd w A n ds :=
 ⟨h.1,fun {i} hi=>by
  obtain ⟨b,o,F,fn,f,e,hb,c0,c1,c2,r,q1,q2,_⟩:=h.at_ hi
  exact ⟨b,o,F,fn,f,e,hR _ hb,c0,c1,c2,r.reads hS,q1,q2⟩⟩
structure PostRd (w:World) (A:Option Addr) (n:Nat) (l:List Po):Prop where
 ln:l.length=n
 at_:∀ {i:Nat} (h:i<l.length),∃ b o F fn f,A=some ⟨b,o,none⟩∧b<w.heap.size∧w.cell? ⟨b,o+i * 2,none⟩=some (.int .i64 (l[i].1:Nat))∧w.cell? ⟨b,o+i * 2+1,none⟩=some (.slice F fn f)∧Reads w w.heap.size 1 F fn (nC l[i].2)∧l[i].2.length=fn∧fn≤8796093021952
theorem PostRd.grow {w w':World} {A:Option Addr} {n:Nat} {l:List Po} (h:PostRd w A n l) (hb:Below w.heap.size w w'):PostRd w' A n l :=
 ⟨h.ln,fun {i} hi=>by
  obtain ⟨b,o,F,fn,f,e,hlt,c0,c1,r,q⟩:=h.at_ hi
  exact ⟨b,o,F,fn,f,e,Nat.lt_of_lt_of_le hlt hb.size,(hb.cell hlt).trans c0,(hb.cell hlt).trans c1,reads_gr hb r,q⟩⟩
end Go.Proofs.YtlfpfkallgkjdaaGreat.Mx
end

section
namespace Go.Proofs.YtlfpfkallgkjdaaGreat.Al
open Go.RowKit Go.Maps Ut Tk Qy Qp Ev Mv Rg
abbrev Sl:=Option Addr × Nat × Nat
abbrev Rk:=(Int × Kp) × Sl × Sl
instance:Inhabited Rk:=⟨((0,⟨ByteArray.empty,.mk 0 ByteArray.empty [] [],[]⟩),(none,0,0),(none,0,0))⟩
def qC (x:Rk):List Value:=[.int .i64 x.1.2.q.kind,.string x.1.2.q.name,.slice x.2.1.1 x.2.1.2.1 x.2.1.2.2,.slice x.2.2.1 x.2.2.2.1 x.2.2.2.2]
def encR (x:Rk):List Value:=.int .i64 x.1.1 :: .string x.1.2.text :: qC x
theorem encR_take (l:List Rk) (p:Nat):(l.take p).flatMap encR=(l.flatMap encR).take (p * 6):=by
 induction l generalizing p with
 | nil=>simp
 | cons x l ih =>
  cases p with
  | zero=>simp
  | succ p =>
   have e:(p+1) * 6=(encR x).length+p * 6:=by simp [encR,qC]; omega
   rw [List.take_succ_cons,List.flatMap_cons,List.flatMap_cons,e,List.take_length_add_append,ih]
theorem encR_drop (l:List Rk) (p:Nat):(l.drop p).flatMap encR=(l.flatMap encR).drop (p * 6):=by
 induction l generalizing p with
 | nil=>simp
 | cons x l ih =>
  cases p with
  | zero=>simp
  | succ p =>
   have e:(p+1) * 6=(encR x).length+p * 6:=by simp [encR,qC]; omega
   rw [List.drop_succ_cons,List.flatMap_cons,e,List.drop_length_add_append,ih]
theorem encR_one (l:List Rk):∀ u∈l.flatMap encR,u.oneCell'=true:=fun u hu=>by
 obtain ⟨x,_,hx⟩:=List.mem_flatMap.1 hu
 simp only [encR,qC,List.mem_cons,List.not_mem_nil,or_false] at hx
 rcases hx with rfl | rfl | rfl | rfl | rfl | rfl <;> rfl
structure RAt (w:World) (A:Option Addr) (n c:Nat) (O:List Rk):Prop where
 rd:ReadsS w (Sc w) 6 A n (O.flatMap encR)
 ln:O.length=n
 cap:n≤c
 nl:A=none→c=0
 qs:∀ x∈O,QF w (Sc w) x.1.2.q (qC x)
theorem RAt.chg {w w':World} {A:Option Addr} {n c:Nat} {O:List Rk} {B:Nat→Prop} (h:RAt w A n c O) (hc:Chg B w w') (hB:∀ b,B b→¬ Sc w b):RAt w' A n c O:=⟨reads_chg h.rd hc hB,h.ln,h.cap,h.nl,fun x hx=>qf_chg (h.qs x hx) hc hB⟩
theorem RAt.below {w w':World} {A:Option Addr} {n c:Nat} {O:List Rk} (h:RAt w A n c O) (hb:Below w.heap.size w w'):RAt w' A n c O:=h.chg (B:=fun _=>False) (Chg.of_new hb) (fun _ h=>h.elim)
theorem RAt.nil (w:World):RAt w none 0 0 []:=⟨ReadsS.none_,rfl,zG _,fun _=>rfl,fun x hx=>(nomatch hx)⟩
theorem RAt.at_ {w:World} {A:Option Addr} {n c:Nat} {O:List Rk} (h:RAt w A n c O) {i:Nat} (hi:i<O.length):∃ b o,A=some ⟨b,o,none⟩∧b<w.heap.size∧w.cell? ⟨b,o+i * 6,none⟩=some (.int .i64 O[i].1.1)∧w.cell? ⟨b,o+i * 6+1,none⟩=some (.string O[i].1.2.text) ∧
  w.cell? ⟨b,o+i * 6+2,none⟩=some (.int .i64 O[i].1.2.q.kind)∧w.cell? ⟨b,o+i * 6+3,none⟩=some (.string O[i].1.2.q.name)∧w.cell? ⟨b,o+i * 6+4,none⟩=some (.slice O[i].2.1.1 O[i].2.1.2.1 O[i].2.1.2.2)∧w.cell? ⟨b,o+i * 6+5,none⟩=some (.slice O[i].2.2.1 O[i].2.2.2.1 O[i].2.2.2.2):=by
 obtain ⟨b,o,e,hb,hc⟩:=h.rd.2 (by have:=h.ln; omega)
 have g:=fun j (hj:j<6)=>hc (i * 6+j) _ ((Ss.encs_get (enc:=encR) (k:=6) (fun _=>rfl) O i j hi hj).trans (List.getElem?_eq_getElem (l:=encR O[i]) (by simpa [encR,qC] using hj)))
 have g0:=g 0 (by decide)
 have g1:=g 1 (by decide)
 have g2:=g 2 (by decide)
 have g3:=g 3 (by decide)
 have g4:=g 4 (by decide)
 have g5:=g 5 (by decide)
 simp only [← Nat.add_assoc,Nat.add_zero] at g0 g1 g2 g3 g4 g5
 exact ⟨b,o,e,hb.lt,g0,g1,g2,g3,g4,g5⟩
def RIs (O:List Rk) (l:List (Int × Kp)):Prop:=O.map (·.1)=l
theorem RIs.len {O:List Rk} {l:List (Int × Kp)} (h:RIs O l):O.length=l.length:=by rw [← h,List.length_map]
theorem RIs.get_ {O:List Rk} {l:List (Int × Kp)} (h:RIs O l) {i:Nat} (hi:i<O.length):l[i]?=some O[i].1:=by rw [← h,List.getElem?_map,List.getElem?_eq_getElem hi]; rfl
set_option maxHeartbeats 3200000 in
theorem place_any (A:Option Addr) (n c:Nat) (O:List Rk) (l:List (Int × Kp)) (i:Int) (w:World) (h:RAt w A n c O) (hl:RIs O l) (hu:UpI l) (hn:n≤4294967296) :
  Calls Tryz.prog 56 #[.agg #[.slice A n c],.int .i64 i] w fun e w'=>e=.returned (.tuple #[.int .i64 (pos l i:Nat),.bool (get l i).isSome])∧Below w.heap.size w w':=by
 have hb1:Below w.heap.size w (w.alloc (.cells #[.slice A n c] 41)):=(Below.refl _ _).alloc (zG _) _
 have hln:=h.ln
 have hll:=hl.len
 have hple:=pos_le l i
 have Hlt:Hid (∀ j (hj:j<pos l i) (h2:j<O.length),O[j].1.1<i):=zh (fun j hj h2=>by
  have:=pos_lt hj (by omega)
  have e:=hl.get_ h2
  rw [List.getElem?_eq_getElem (by omega)] at e
  injection e with e
  rw [← e]; exact this)
 have Hat:Hid (∀ h2:pos l i<O.length,¬ O[pos l i].1.1<i):=zh (fun h2=>by
  have:=pos_at (l:=l) (i:=i) (by omega)
  have e:=hl.get_ h2
  rw [List.getElem?_eq_getElem (by omega)] at e
  injection e with e
  rw [← e]; exact this)
 have Hg:Hid ((get l i).isSome=true↔∃ h2:pos l i<O.length,O[pos l i].1.1=i):=zh (by
  have:=(parts hu i).2.2
  rw [this]
  constructor
  ·rintro ⟨h2,e⟩
   have h3:pos l i<O.length:=by omega
   refine ⟨h3,?_⟩
   have e2:=hl.get_ h3
   rw [List.getElem?_eq_getElem h2] at e2
   injection e2 with e2
   rw [← e2]; exact e
  ·rintro ⟨h2,e⟩
   have h3:pos l i<l.length:=by omega
   refine ⟨h3,?_⟩
   have e2:=hl.get_ h2
   rw [List.getElem?_eq_getElem h3] at e2
   injection e2 with e2
   rw [e2]; exact e)
 have H1:=zh (h.below hb1)
 have HB1:=zh hb1
 have HBX:=zh (Blk.new w 41 #[.slice A n c])
 obtain ⟨g,hg⟩:∃ g,(get l i).isSome=g:=⟨_,rfl⟩
 rw [hg] at Hg ⊢
 have hpn:pos l i≤n:=by omega
 have hzz:w.heap.size<(w.alloc (.cells #[.slice A n c] 41)).heap.size:=by simp
 clear h hl hb1 hg hll hu
 generalize hpp:pos l i=p at *
 clear hpp hple
 go_enter Tryz.func56,Tryz.ntmps56
 go_wp2_with fail
 generalize w.alloc (.cells #[.slice A n c] 41)=w1 at *
 have q0:=HBX.out.cell 0
 simp only [zA,zB] at q0
 go_loopw [6] (fun v wr=>∃ j:Nat,j≤p∧v=.int .i64 (j:Nat)∧wr=w1) (fun v _=>n - (intOf v).toNat)
 case atStart=>exact ⟨0,Nat.zero_le _,rfl,rfl⟩
 case round =>
  obtain ⟨j,hj,rfl,rfl⟩:=hrel
  by_cases hlt:j<p
  ·have hjl:j<O.length:=by omega
   have hjn:(j:Int)<(n:Int):=by omega
   have hle:=Hlt.out j hlt hjl
   obtain ⟨tb,tq,rfl,htb,hd0,_⟩:=H1.out.at_ hjl
   generalize O[j].1.1=y at *
   go_wp2
   go_roundw
   case rel=>exact ⟨j+1,by omega,by go_num,by first | rfl | trivial⟩
   case measure=>simp [intOf]; omega
  ·obtain rfl:j=p:=by omega
   by_cases hpl:j<O.length
   ·have hjn:(j:Int)<(n:Int):=by omega
    have hge:=Hat.out hpl
    obtain ⟨tb,tq,rfl,htb,hd0,_⟩:=H1.out.at_ hpl
    have hgg:(g=true↔O[j].1.1=i):=by
     rw [Hg.out]
     exact ⟨fun ⟨_,e⟩=>e,fun e=>⟨hpl,e⟩⟩
    have HGG:=zh hgg
    clear hgg Hg Hlt Hat
    generalize O[j].1.1=y at *
    have hd1:decide ((j:Int)<(n:Int))=true:=by simpa using hjn
    by_cases he:y=i
    ·have hgt:=HGG.out.2 he
     subst hgt
     subst he
     have hd2:(y == y)=true:=by simp
     go_wp2_with fail
     go_quiet (fail)
     go_wp2
     go_ret2
     exact ⟨rfl,Mx.below_dN HB1.out _⟩
    ·have hgf:g=false:=by
      cases g with
      | false=>rfl
      | true=>exact absurd (HGG.out.1 rfl) he
     subst hgf
     have hd2:(y == i)=false:=beq_eq_false_iff_ne.2 he
     go_wp2_with fail
     go_quiet (fail)
     go_wp2
     go_ret2
     exact ⟨rfl,Mx.below_dN HB1.out _⟩
   ·obtain rfl:j=n:=by omega
    have hgf:g=false:=by
     cases g with
     | false=>rfl
     | true=>obtain ⟨h2,_⟩:=Hg.out.1 rfl; exact absurd h2 hpl
    subst hgf
    have hd1:decide ((j:Int)<(j:Int))=false:=by simp
    go_wp2_with fail
    go_quiet (fail)
    go_wp2
    go_ret2
    exact ⟨rfl,Mx.below_dN HB1.out _⟩
end Go.Proofs.YtlfpfkallgkjdaaGreat.Al
end

section
namespace Go.Proofs.YtlfpfkallgkjdaaGreat.Qp
open Go.RowKit Ut Tk Qy
def exT1:P:=[97,32,79,82,32,98,32,99]
def exT2:P:=[97,32,79,82]
def tq (c:UInt8):Q:=.mk 2 (str msg) [str [c]] []
def exQ1:Q:=.mk 6 ByteArray.empty [] [tq 97,.mk 5 ByteArray.empty [] [tq 98,tq 99]]
theorem p1:pieces exT1=some [[97],OR,[98],[99]]:=by decide
theorem p2:pieces exT2=some [[97],OR]:=by decide
theorem w97:words [97]=[[97]]:=by decide +kernel
theorem w98:words [98]=[[98]]:=by decide +kernel
theorem w99:words [99]=[[99]]:=by decide +kernel
theorem leaf_one (c:UInt8) (h1:c≠42) (h2:c≠34) (h3:c≠58) (hw:words [c]=[[c]]):leafQ [c]=some (tq c):=by
 have hn:named [c]=false:=by
  have e:sepAt [c]=1:=by
   have a1:(c == 58)=false:=beq_eq_false_iff_ne.2 h3
   have a2:(c == 34)=false:=beq_eq_false_iff_ne.2 h2
   unfold sepAt
   simp [List.findIdx_cons,a1,a2]
  unfold named
  rw [e]; rfl
 have e1:nameOf [c]=msg:=by unfold nameOf; rw [hn]; rfl
 have e2:restOf [c]=[c]:=by unfold restOf; rw [hn]; rfl
 unfold leafQ
 rw [e1,e2,if_neg (by simpa using h1),if_neg (by
  rintro (h | h)
  ·exact absurd h (by decide)
  ·cases h),if_neg (by simpa using h2),if_neg (by simpa using h1),hw]
 rfl
theorem lf97:leafQ [97]=some (tq 97):=leaf_one 97 (by decide) (by decide) (by decide) w97
theorem lf98:leafQ [98]=some (tq 98):=leaf_one 98 (by decide) (by decide) (by decide) w98
theorem lf99:leafQ [99]=some (tq 99):=leaf_one 99 (by decide) (by decide) (by decide) w99
theorem part_a (c:UInt8) (q:Q) (t:List P) (hw:word1 [c]=true) (h:leafQ [c]=some q):R .part ([c] :: t) (some (q,t)):=by
 have:=R.pleaf (t:=t) hw
 rw [h] at this
 exact this
theorem r1:R (.or []) [[97],OR,[98],[99]] (some (exQ1,[])):=by
 refine .or1 (q:=tq 97) (r:=[OR,[98],[99]]) (.and1 (part_a 97 _ _ (by decide) lf97) (.andE (by decide))) ?_
 refine .orO rfl ?_
 refine .or1 (q:=.mk 5 ByteArray.empty [] [tq 98,tq 99]) (r:=[]) (.and1 (part_a 98 _ _ (by decide) lf98) (.andN (by decide) (by decide) (.and1 (part_a 99 _ _ (by decide) lf99) (.andE rfl)))) ?_
 exact .orE (by simp)
theorem r2:R (.or []) [[97],OR] none:=by
 refine .or1 (q:=tq 97) (r:=[OR]) (.and1 (part_a 97 _ _ (by decide) lf97) (.andE (by decide))) ?_
 exact .orO rfl (.or0 (.and0 .pnil))
end Go.Proofs.YtlfpfkallgkjdaaGreat.Qp
end

section
namespace Go.Proofs.YtlfpfkallgkjdaaGreat.Al
open Go.RowKit Ut Tk Qy Qp
def tDisk:P:=[100,105,115,107]
def tFull:P:=[102,117,108,108]
def tA:P:=[100,105,115,107,32,102,117,108,108]
def tB:P:=[78,79,84,32,100,105,115,107]
def sA:ByteArray:=⟨#[100,105,115,107,32,102,117,108,108]⟩
def sB:ByteArray:=⟨#[78,79,84,32,100,105,115,107]⟩
def oneW (s:P):Q:=.mk 2 (str msg) [str s] []
def qA:Q:=.mk 5 ByteArray.empty [] [oneW tDisk,oneW tFull]
def qB:Q:=notQ (oneW tDisk)
theorem leaf_w (s:P) (h1:s≠[42]) (h2:s≠[]) (hn:named s=false) (h3:s.head?≠some 34) (h4:s.getLast?≠some 42) (hw:words s=[s]):leafQ s=some (oneW s):=by
 have e1:nameOf s=msg:=by unfold nameOf; rw [hn]; rfl
 have e2:restOf s=s:=by unfold restOf; rw [hn]; rfl
 unfold leafQ
 rw [e1,e2,if_neg h1,if_neg (by
  rintro (h | h)
  ·exact absurd h (by decide)
  ·exact h2 h),if_neg h3,if_neg h4,hw]
 rfl
theorem lfDisk:leafQ tDisk=some (oneW tDisk):=leaf_w _ (by decide) (by decide) (by decide) (by decide) (by decide) (by decide +kernel)
theorem lfFull:leafQ tFull=some (oneW tFull):=leaf_w _ (by decide) (by decide) (by decide) (by decide) (by decide) (by decide +kernel)
theorem part_w (s:P) (q:Q) (t:List P) (hw:word1 s=true) (h:leafQ s=some q):R .part (s :: t) (some (q,t)):=by
 have:=R.pleaf (t:=t) hw
 rw [h] at this
 exact this
theorem rA:R (.or []) [tDisk,tFull] (some (qA,[])):=by
 refine .or1 (q:=qA) (r:=[]) (.and1 (part_w tDisk _ _ (by decide) lfDisk) (.andN (by decide) (by decide) (.and1 (part_w tFull _ _ (by decide) lfFull) (.andE rfl)))) ?_
 exact .orE (by simp)
theorem rB:R (.or []) [NOT,tDisk] (some (qB,[])):=by
 have hp:R .part [NOT,tDisk] (some (qB,[])):=R.pnot (o:=some (oneW tDisk,[])) rfl (part_w tDisk _ _ (by decide) lfDisk)
 refine .or1 (q:=qB) (r:=[]) (.and1 hp (.andE rfl)) ?_
 exact .orE (by simp)
theorem pA:pieces tA=some [tDisk,tFull]:=by decide
theorem pB:pieces tB=some [NOT,tDisk]:=by decide
theorem prsA:PrsR sA.data.toList 0 (some qA):=.ok (by decide) pA rA (by simp [qA,oneW,manyB_eq,manyL]) (by simp [qA,oneW,depthN_eq,depthL])
theorem prsB:PrsR sB.data.toList 0 (some qB):=.ok (by decide) pB rB (by simp [qB,notQ,oneW,manyB_eq,manyL]) (by simp [qB,notQ,oneW,depthN_eq,depthL])
def exM:ByteArray:=⟨#[109,115,103]⟩
def sE1:ByteArray:=⟨#[100,105,115,107,32,105,115,32,102,117,108,108]⟩
def sE2:ByteArray:=⟨#[108,111,103,105,110]⟩
theorem lb (s:P) (fs:List (ByteArray × ByteArray)):matchB fs (oneW s)=leafB 2 (str msg) [str s] fs:=by
 unfold oneW
 rw [matchB_eq]
 simp
theorem mA1:matchB [(exM,sE1)] qA=true:=by
 unfold qA
 rw [matchB_eq]
 have h1:leafB 2 (str msg) [str tDisk] [(exM,sE1)]=true:=by decide +kernel
 have h2:leafB 2 (str msg) [str tFull] [(exM,sE1)]=true:=by decide +kernel
 simp [lb,h1,h2]
theorem mA2:matchB [(exM,sE2)] qA=false:=by
 unfold qA
 rw [matchB_eq]
 have h1:leafB 2 (str msg) [str tDisk] [(exM,sE2)]=false:=by decide +kernel
 simp [lb,h1]
theorem mB1:matchB [(exM,sE1)] qB=false:=by
 unfold qB notQ
 rw [matchB_eq]
 have h1:leafB 2 (str msg) [str tDisk] [(exM,sE1)]=true:=by decide +kernel
 simp [lb,h1,matchNone]
theorem mB2:matchB [(exM,sE2)] qB=true:=by
 unfold qB notQ
 rw [matchB_eq]
 have h1:leafB 2 (str msg) [str tDisk] [(exM,sE2)]=false:=by decide +kernel
 simp [lb,h1,matchNone]
def kA:Kp:=⟨sA,qA,needs qA⟩
def kB:Kp:=⟨sB,qB,needs qB⟩
theorem l1:put [] 3 kA=[(3,kA)]:=by simp [put,pos,get]
theorem l2:put [(3,kA)] 5 kB=[(3,kA),(5,kB)]:=by simp [put,pos,get]
theorem a1:(([(3,kA),(5,kB)]:List (Int × Kp)).filter (fun x=>matchB [(exM,sE1)] x.2.q)).map (·.1)=[3]:=by simp [kA,kB,mA1,mB1]
theorem a2:(([(3,kA),(5,kB)]:List (Int × Kp)).filter (fun x=>matchB [(exM,sE2)] x.2.q)).map (·.1)=[5]:=by simp [kA,kB,mA2,mB2]
end Go.Proofs.YtlfpfkallgkjdaaGreat.Al
end
