/- Short names for facts that are named often. -/
import Derived.Lib.Hide
import Derived.WalkKit
import Derived.WalkSpells
import Derived.WalkLawsBesides
import Derived.Handy
import Derived.Deep.AppendLies
import Derived.Laws.CopyOwn
import Derived.Lib.Strings
import Derived.Test.YtmomjpolkkbhnaaGreatProg
import Derived.Shelf.Strings.Builder1
import Derived.Shelf.Small.Strs
import Derived.Shelf.Small.Wraps
import Derived.Shelf.Strings.BuilderF
import Derived.Shelf.Strings.BuilderK
import Derived.Shelf.Strings.Search1
import Derived.Shelf.Strings.Search2
import Derived.Shelf.Strings.Search3
import Derived.Shelf.Strings.Cut
import Derived.Shelf.LaysM
import Derived.Shelf.Strings.Shaped
import Derived.Shelf.Strings.Prefix
import Derived.Shelf.Strings.BuilderCap
import Derived.Ground.Names2Prog
import Derived.Shelf.Slices.SearchI
import Derived.Still
import Derived.Below
import Derived.Deep.Draws
set_option maxRecDepth 20000
section
namespace Go.Proofs.YtmomjpolkkbhnaaGreat
open Go.RowKit
theorem zh {p : Prop} (h : p) : RowKit.Hid p := h
theorem zA.{u} {α : Type u} {xs : List α} {i : Nat} : xs.toArray[i]? = xs[i]? := List.getElem?_toArray
theorem zB.{u} {α : Type u} {a : α} {l : List α} : (a :: l)[0]? = some a := rfl
theorem zC.{u} {α : Type u} {a : α} {i : Nat} {l : List α} : (a :: l)[i + 1]? = l[i]? := rfl
theorem zD.{u} {α : Type u} (l : List α) (i : Nat) (a : α) : l.toArray.setIfInBounds i a = (l.set i a).toArray := List.setIfInBounds_toArray l i a
theorem zE.{u} {α : Type u} {x : α} {xs : List α} {a : α} : (x :: xs).set 0 a = a :: xs := rfl
theorem zF.{u} {α : Type u} {x : α} {xs : List α} {i : Nat} {a : α} : (x :: xs).set (i + 1) a = x :: xs.set i a := rfl
theorem zG (n : Nat) : n ≤ n := Nat.le_refl n
end Go.Proofs.YtmomjpolkkbhnaaGreat
end

section
namespace Go.Proofs.YtmomjpolkkbhnaaGreat
open Go.RowKit
theorem bytes_conv {P:Program} (ts tb tu:TypeId) (s:ByteArray) (h1:P.underlying ts=some .string) (h2:P.underlying tb=some (.slice tu)) (h3:P.underlying tu=some (.int .u8)) :
  ∃ (cap:World→Nat) (C:World→Array Value) (fr:World→Nat × Nat),(∀ w,(convert ts tb (.string s)).run P w=.ok (.slice (some ⟨w.heap.size,0,none⟩) s.size (cap w)) (w.drew.alloc (.cells (C w) tu (fr w)))) ∧
   ∀ w (j:Nat) (h:j<s.size),(C w)[j]?=some (.int .u8 ((s[j]).toNat:Int)):=by
 refine ⟨_,_,_,fun w=>run_bytes_of_string w ts tb tu s h1 h2 h3,fun w j h=>?_⟩
 have hj:j<s.data.size:=h
 simp only [bytesRow,Array.getElem?_append,Array.size_map,hj,if_true,Array.getElem?_map,Array.getElem?_eq_getElem hj,Option.map_some]
 rfl
theorem take_snoc (s:ByteArray) (k:Nat) (h:k<s.size):s.data.toList.take (k+1)=s.data.toList.take k ++ [s[k]]:=by
 rw [List.take_succ_eq_append_getElem (by simpa using h)]; rfl
theorem cell_new2 (w:World) (o:Obj) (C:Array Value) (t:TypeId) (fr:Nat × Nat) (j:Nat):((w.alloc o).alloc (.cells C t fr)).drew.cell? ⟨w.heap.size+1,j,none⟩=C[j]?:=by
 have h:=World.cell?_alloc_mark (w.alloc o) C t fr j
 simpa using h
theorem bsize (s:ByteArray):s.data.toList.length=s.size:=by rw [Array.length_toList]; rfl
theorem block_of_add (a:Addr) (n:Nat):(a.add n).block=a.block:=by unfold Addr.add; split <;> rfl
theorem results_cell {fn:Func} {p:Tmp} {ty:TypeId} (h:fn.results=#[.cell p ty]) {tmps:Array Value} {P:Program} {w:World} {a:Addr} {v:Value} (ha:tmps.getD p undef=.pointer (some a)) (hl:(loadVar ty a).run P w=.ok v w) :
  (results fn tmps).run P w=.ok v w:=by
 have ha':tmps[p]?.getD undef=.pointer (some a):=by simpa using ha
 simp only [results,h]
 simp [ha',asAddr,hl]
theorem wpList_lss {P:Program} {ops:Array Oper} {rest:List Oper} {o:Oper} {a:Act} {Q:Exit→Act→World→Prop} {w:World} (hgd:o.guard=none) (x y:Operand) (t u:TypeId) (ho:o.op=.binOp .lss t x y u) (k:IntKind) (m n:Int)
  (hx:a.eval x=.int k m) (hy:a.eval y=.int k n) (b:Bool) (hb:decide (m<n)=b) (hk:wpList P ops Q rest (a.put o.dst (.bool b)) w):wpList P ops Q (o :: rest) a w :=
 wpList_plain hgd fun _ hK=>by
  have h:(execOp a.eval o).run P w=.ok (.value (.bool b)) w:=by
   subst hb
   simp only [execOp,ho,hx,hy]
   simp [go_sem]
  unfold Oper.wp
  rw [h]
  exact hK _ _ hk
theorem calls_from {P:Program} {f:FuncId} {args:Array Value} {w0 wc:World} {v:Ending} (hb:Below w0.heap.size w0 wc) (c:Calls P f args wc fun e w'=>e=v∧Below wc.heap.size wc w') :
  Calls P f args wc fun e w'=>e=v∧Below w0.heap.size w0 w':=c.mono fun _ _ ⟨he,h⟩=>⟨he,hb.trans (h.mono hb.size)⟩
theorem grow_of_below {w w':World} (h:Below w.heap.size w w') (row:Option Nat):w.grownBy w' row:=⟨h.os,h.tape,h.output,h.size,fun i hi _=>h.block i hi⟩
def Blk (w:World) (g:Nat) (t:TypeId) (cs:Array Value):Prop:=w.heap[g]?=some (.cells cs t (0,0))
section
variable {w w':World} {g:Nat} {t:TypeId} {cs:Array Value}
theorem Blk.lt (h:Blk w g t cs):g<w.heap.size:=by
 rcases Nat.lt_or_ge g w.heap.size with hlt | hge
 ·exact hlt
 ·unfold Blk at h; rw [Array.getElem?_eq_none hge] at h; cases h
theorem Blk.cell (h:Blk w g t cs) (i:Nat):w.cell? ⟨g,i,none⟩=cs[i]?:=cell_of_row w g i cs t (0,0) h
theorem Blk.frozen (h:Blk w g t cs) (i:Nat):w.frozen? ⟨g,i,none⟩=false:=by
 unfold Blk at h
 simp [World.frozen?,h]
theorem Blk.new (w:World) (t:TypeId) (cs:Array Value):Blk (w.alloc (.cells cs t)) w.heap.size t cs:=heap_alloc_new w _
theorem Blk.drew (h:Blk w g t cs):Blk w.drew g t cs:=h
theorem Blk.drewN (h:Blk w g t cs) (n:Nat):Blk (w.drewN n) g t cs:=h
theorem Blk.alloc (h:Blk w g t cs) (o:Obj):Blk (w.alloc o) g t cs:=(Below.heap_alloc w o g h.lt).trans h
theorem Blk.set_ (h:Blk w g t cs) (i:Nat) (u:Value):Blk (w.setCell ⟨g,i,none⟩ u) g t (cs.setIfInBounds i u):=by
 unfold Blk at h ⊢
 simp [World.setCell,Array.getElem?_modify,h]
theorem Blk.far (h:Blk w g t cs) {p:Addr} (hp:g≠p.block) (u:Value):Blk (w.setCell p u) g t cs:=(Below.heap_setCell w p u g hp).trans h
theorem Blk.below {B:Nat} (h:Blk w g t cs) (hb:Below B w w') (hg:g<B):Blk w' g t cs:=(hb.block g hg).trans h
theorem Blk.grown {row:Option Nat} (h:Blk w g t cs) (hb:w.grownBy w' row) (hg:some g≠row):Blk w' g t cs:=(hb.block g h.lt hg).trans h
theorem Blk.ne_ {g':Nat} {t':TypeId} {cs':Array Value} (h:Blk w g t cs) (h':Blk w g' t' cs') (hne:t≠t'):g≠g':=by
 rintro rfl
 unfold Blk at h h'
 rw [h] at h'
 injection h' with h'
 injection h' with _ ht
 exact hne ht
end
def Reads (w:World) (B size:Nat) (A:Option Addr) (n:Nat) (xs:List Value):Prop :=
 xs.length=n * size∧(0<n→∃ b o,A=some ⟨b,o,none⟩∧b<B∧∀ j u,xs[j]?=some u→w.cell? ⟨b,o+j,none⟩=some u)
section
variable {w w':World} {B B' size n:Nat} {A:Option Addr} {xs:List Value}
theorem Reads.none_:Reads w B size A 0 []:=⟨by simp,fun h=>absurd h (by omega)⟩
theorem Reads.at_ {k:Nat} (h:Reads w B 1 A n xs) (hk:k<n):∃ b o u,A=some ⟨b,o,none⟩∧b<B∧xs[k]?=some u∧w.cell? ⟨b,o+k,none⟩=some u:=by
 obtain ⟨b,o,e,hb,hc⟩:=h.2 (by omega)
 have hl:k<xs.length:=by have:=h.1; omega
 exact ⟨b,o,xs[k],e,hb,List.getElem?_eq_getElem hl,hc k _ (List.getElem?_eq_getElem hl)⟩
theorem Reads.at_map {α:Type} {f : α→Value} {l:List α} {k:Nat} (h:Reads w B 1 A n (l.map f)) (hk:k<n):∃ b o,∃ hl:k<l.length,A=some ⟨b,o,none⟩∧b<B∧w.cell? ⟨b,o+k,none⟩=some (f l[k]):=by
 obtain ⟨b,o,u,e,hb,hu,hc⟩:=h.at_ hk
 have hl:k<l.length:=by have:=h.1; rw [List.length_map] at this; omega
 rw [List.getElem?_map,List.getElem?_eq_getElem hl] at hu
 simp only [Option.map_some,Option.some.injEq] at hu
 exact ⟨b,o,hl,e,hb,by rw [hu]; exact hc⟩
theorem Reads.keep (h:Reads w B size A n xs) (hk:∀ b o,b<B→w'.cell? ⟨b,o,none⟩=w.cell? ⟨b,o,none⟩):Reads w' B size A n xs :=
 ⟨h.1,fun hn=>by
  obtain ⟨b,o,e,hb,hc⟩:=h.2 hn
  exact ⟨b,o,e,hb,fun j u hu=>(hk b _ hb).trans (hc j u hu)⟩⟩
theorem Reads.more (h:Reads w B size A n xs) (hB:B≤B'):Reads w B' size A n xs :=
 ⟨h.1,fun hn=>by
  obtain ⟨b,o,e,hb,hc⟩:=h.2 hn
  exact ⟨b,o,e,by omega,hc⟩⟩
theorem Reads.below (h:Reads w B size A n xs) (hb:Below B w w'):Reads w' B size A n xs:=h.keep fun _ _ hp=>hb.cell hp
theorem Reads.grown {row:Option Nat} (h:Reads w B size A n xs) (hg:w.grownBy w' row) (hB:B≤w.heap.size) (hr:∀ b o,A=some ⟨b,o,none⟩→0<n→some b≠row):Reads w' B size A n xs :=
 ⟨h.1,fun hn=>by
  obtain ⟨b,o,e,hb,hc⟩:=h.2 hn
  exact ⟨b,o,e,hb,fun j u hu=>(World.cell?_of_block (hg.block b (by omega) (hr b o e hn))).trans (hc j u hu)⟩⟩
theorem Reads.drew (h:Reads w B size A n xs):Reads w.drew B size A n xs:=h
theorem Reads.drewN (h:Reads w B size A n xs) (k:Nat):Reads (w.drewN k) B size A n xs:=h
theorem Reads.alloc (h:Reads w B size A n xs) (hB:B≤w.heap.size) (o:Obj):Reads (w.alloc o) B size A n xs:=h.keep fun b o hp=>World.cell?_alloc_lt w _ ⟨b,o,none⟩ (by show b < _; omega)
theorem Reads.of_own {base:Nat} {e:TypeId} {c:Nat} (h:w.ownsRow base e size (.slice A n c) n xs):Reads w w.heap.size size A n xs:=by
 refine ⟨h.1,fun hn=>?_⟩
 rcases h.2 with ⟨hv,h0⟩ | ⟨g,cap,cur,hv,_,hg,_⟩
 ·omega
 ·have hA:A=some ⟨g,0,none⟩:=by injection hv
  subst hA
  refine ⟨_,_,rfl,(Array.getElem?_eq_some_iff.1 hg).1,fun j u hu=>?_⟩
  have:=h.cells (g:=g) rfl j u hu
  have hadd:(⟨g,0,none⟩:Addr).add j=⟨g,j,none⟩:=by unfold Addr.add; split <;> simp_all
  rw [hadd] at this
  rw [Nat.zero_add]; exact this
theorem Reads.of_in {A:Option Addr} {a:Addr} {len:Nat} {f:Nat→Value} (hA:A=some a) (hb:a.block<B) (hc:∀ i,i<len→w.cell? (a.add i)=some (f i)):Reads w B 1 A len ((List.range len).map f):=by
 refine ⟨by simp,fun hn=>?_⟩
 obtain ⟨b,o,sp⟩:=a
 have h0:=hc 0 hn
 have hsp:sp=none:=by simpa [Addr.add] using World.cell?_spot h0
 subst hsp
 refine ⟨b,o,hA,hb,fun j u hu=>?_⟩
 have hj:j<len:=by
  have:=(List.getElem?_eq_some_iff.1 hu).1
  simpa using this
 simp only [List.getElem?_map,List.getElem?_range hj,Option.map_some,Option.some.injEq] at hu
 subst hu
 have:=hc j hj
 have hadd:(⟨b,o,none⟩:Addr).add j=⟨b,o+j,none⟩:=by unfold Addr.add; split <;> simp_all
 rw [hadd] at this
 exact this
end
theorem own_shape {w:World} {base:Nat} {e:TypeId} {size n:Nat} {v:Value} {xs:List Value} (h:w.ownsRow base e size v n xs):∃ A c,v=.slice A n c∧Reads w w.heap.size size A n xs:=by
 obtain ⟨A,c,rfl⟩:∃ A c,v=.slice A n c:=by
  rcases h.2 with ⟨rfl,rfl⟩ | ⟨g,cap,cur,rfl,_⟩
  ·exact ⟨_,_,rfl⟩
  ·exact ⟨_,_,rfl⟩
 exact ⟨A,c,rfl,Reads.of_own h⟩
end Go.Proofs.YtmomjpolkkbhnaaGreat
end

section
namespace Go.Proofs.YtmomjpolkkbhnaaGreat.Ut
open Go.RowKit
def cont (b:UInt8):Bool:=b.toNat / 64 == 2
def acc (n:Nat) (l:List UInt8):Nat:=l.foldl (fun n x=>n * 64+x.toNat % 64) n
theorem acc_nil (n:Nat):acc n []=n:=rfl
theorem acc_snoc (n:Nat) (l:List UInt8) (x:UInt8):acc n (l ++ [x])=acc n l * 64+x.toNat % 64:=by
 unfold acc; rw [List.foldl_append]; rfl
def fits (m:Nat) (t:List UInt8) (k lo hi:Nat):Bool :=
 decide (k - 1≤t.length) && ((t.take (k - 1)).all cont && (decide (lo≤acc m (t.take (k - 1))) && (decide (acc m (t.take (k - 1))≤hi) && !(decide (55296≤acc m (t.take (k - 1))) && decide (acc m (t.take (k - 1))≤57343)))))
def form (m:Nat) (t:List UInt8) (k lo hi:Nat):Nat × Nat:=if fits m t k lo hi then (acc m (t.take (k - 1)),k) else (65533,1)
def dec:List UInt8→Nat × Nat
 | []=>(0,0)
 | b :: t =>
  if b.toNat<128 then (b.toNat,1)
  else if b.toNat / 32=6 then form (b.toNat % 32) t 2 128 2047
  else if b.toNat / 16=14 then form (b.toNat % 16) t 3 2048 65535
  else if b.toNat / 8=30 then form (b.toNat % 8) t 4 65536 1114111
  else (65533,1)
theorem dec_cons (b:UInt8) (t:List UInt8):dec (b :: t) =
  if b.toNat<128 then (b.toNat,1)
  else if b.toNat / 32=6 then form (b.toNat % 32) t 2 128 2047
  else if b.toNat / 16=14 then form (b.toNat % 16) t 3 2048 65535
  else if b.toNat / 8=30 then form (b.toNat % 8) t 4 65536 1114111
  else (65533,1):=rfl
theorem form_size (m:Nat) (t:List UInt8) (k lo hi:Nat) (hk : 1≤k) (hk4:k≤4) : 1≤(form m t k lo hi).2∧(form m t k lo hi).2≤t.length+1∧(form m t k lo hi).2≤4:=by
 unfold form
 by_cases h:fits m t k lo hi=true
 ·rw [if_pos h]
  simp only [fits,Bool.and_eq_true,decide_eq_true_eq] at h
  have h1:=h.1
  exact ⟨hk,by show k≤_; omega,hk4⟩
 ·rw [if_neg h]
  exact ⟨zG _,by show 1≤_; omega,by decide⟩
theorem dec_size (l:List UInt8) (h:l≠[]) : 1≤(dec l).2∧(dec l).2≤l.length∧(dec l).2≤4:=by
 match l,h with
 | b :: t,_ =>
  rw [dec_cons]
  by_cases h1:b.toNat<128
  ·rw [if_pos h1]; simp
  ·rw [if_neg h1]
   by_cases h2:b.toNat / 32=6
   ·rw [if_pos h2]; exact form_size _ _ _ _ _ (by omega) (by omega)
   ·rw [if_neg h2]
    by_cases h3:b.toNat / 16=14
    ·rw [if_pos h3]; exact form_size _ _ _ _ _ (by omega) (by omega)
    ·rw [if_neg h3]
     by_cases h4:b.toNat / 8=30
     ·rw [if_pos h4]; exact form_size _ _ _ _ _ (by omega) (by omega)
     ·rw [if_neg h4]; simp
def runesF:Nat→List UInt8→List Nat
 | 0,_=>[]
 | n+1,l=>if l=[] then [] else (dec l).1 :: runesF n (l.drop (dec l).2)
def runes (l:List UInt8):List Nat:=runesF l.length l
theorem runesF_eq:∀ (n m:Nat) (l:List UInt8),l.length≤n→l.length≤m→runesF n l=runesF m l
 | 0,0,_,_,_=>rfl
 | 0,m+1,l,h,_=>by
  have:l=[]:=List.eq_nil_of_length_eq_zero (by omega)
  subst this; simp [runesF]
 | n+1,0,l,_,h=>by
  have:l=[]:=List.eq_nil_of_length_eq_zero (by omega)
  subst this; simp [runesF]
 | n+1,m+1,l,h1,h2=>by
  unfold runesF
  by_cases h:l=[]
  ·rw [if_pos h,if_pos h]
  ·rw [if_neg h,if_neg h]
   have:=dec_size l h
   rw [runesF_eq n m (l.drop (dec l).2) (by rw [List.length_drop]; omega) (by rw [List.length_drop]; omega)]
theorem runes_nil:runes []=[]:=rfl
theorem runes_cons (l:List UInt8) (h:l≠[]):runes l=(dec l).1 :: runes (l.drop (dec l).2):=by
 have hs:=dec_size l h
 have hl : 0<l.length:=by
  rcases l with _ | ⟨a,t⟩
  ·exact absurd rfl h
  ·simp
 obtain ⟨n,hn⟩:∃ n,l.length=n+1:=⟨l.length - 1,by omega⟩
 unfold runes
 rw [hn]
 show (if l=[] then [] else (dec l).1 :: runesF n (l.drop (dec l).2))=_
 rw [if_neg h,runesF_eq n (l.drop (dec l).2).length _ (by rw [List.length_drop]; omega) (zG _)]
theorem runes_len (l:List UInt8):(runes l).length≤l.length:=by
 have key:∀ (n:Nat) (l:List UInt8),l.length≤n→(runesF n l).length≤l.length:=by
  intro n
  induction n with
  | zero=>intro l _; simp [runesF]
  | succ n ih =>
   intro l hl
   unfold runesF
   by_cases h:l=[]
   ·rw [if_pos h]; simp
   ·rw [if_neg h]
    have hs:=dec_size l h
    have:=ih (l.drop (dec l).2) (by rw [List.length_drop]; omega)
    rw [List.length_drop] at this
    simp only [List.length_cons]
    omega
 exact key _ l (zG _)
def fix (r:Int):Nat:=if r<0∨1114111<r∨(55296≤r∧r≤57343) then 65533 else r.toNat
def B (n:Nat):UInt8:=UInt8.ofNat n
theorem B_toNat (n:Nat) (h:n<256):(B n).toNat=n:=by
 unfold B; rw [UInt8.toNat_ofNat']; exact Nat.mod_eq_of_lt (by simpa using h)
def encN (r:Nat):List UInt8 :=
 if r<128 then [B r]
 else if r<2048 then [B (192+r / 64),B (128+r % 64)]
 else if r<65536 then [B (224+r / 4096),B (128+r / 64 % 64),B (128+r % 64)]
 else [B (240+r / 262144),B (128+r / 4096 % 64),B (128+r / 64 % 64),B (128+r % 64)]
def enc (r:Int):List UInt8:=encN (fix r)
def encode (rs:List Int):List UInt8:=rs.flatMap enc
theorem encode_snoc (rs:List Int) (r:Int):encode (rs ++ [r])=encode rs ++ enc r:=by simp [encode]
theorem enc_len (r:Int) : 1≤(enc r).length∧(enc r).length≤4:=by
 unfold enc encN
 by_cases h1:fix r<128
 ·rw [if_pos h1]; simp
 ·rw [if_neg h1]
  by_cases h2:fix r<2048
  ·rw [if_pos h2]; simp
  ·rw [if_neg h2]
   by_cases h3:fix r<65536
   ·rw [if_pos h3]; simp
   ·rw [if_neg h3]; simp
theorem encode_len (rs:List Int):(encode rs).length≤4 * rs.length:=by
 induction rs with
 | nil=>simp [encode]
 | cons r rs ih =>
  have:=enc_len r
  have e:encode (r :: rs)=enc r ++ encode rs:=by simp [encode]
  rw [e,List.length_append,List.length_cons]
  omega
def lower (r:Int):Int :=
 if (65≤r∧r≤90)∨(192≤r∧r≤222∧r≠215)∨(913≤r∧r≤939∧r≠930)∨(1040≤r∧r≤1071) then r+32
 else if 1024≤r∧r≤1039 then r+80 else r
def isWord (r:Int):Bool :=
 decide ((48≤r∧r≤57)∨(65≤r∧r≤90)∨(97≤r∧r≤122)∨(192≤r∧r≤255∧r≠215∧r≠247)∨(913≤r∧r≤974∧r≠930)∨(1024≤r∧r≤1119))
end Go.Proofs.YtmomjpolkkbhnaaGreat.Ut
end

section
namespace Go.Proofs.YtmomjpolkkbhnaaGreat.Ut
open Go.RowKit
def inB (f t b r:Int):Bool:=decide (f≤r) && (decide (r≤t) && decide (r≠b))
theorem inB_yes {f t b r:Int} (h:f≤r∧r≤t∧r≠b):inB f t b r=true:=by
 unfold inB; simp [h.1,h.2.1,h.2.2]
theorem inB_no {f t b r:Int} (h:r<f∨t<r∨r=b):inB f t b r=false:=by
 unfold inB
 simp only [Bool.and_eq_false_iff,decide_eq_false_iff_not]
 omega
theorem in_any (f t b r:Int) (w:World) :
  Calls Tryz.prog 182 #[.agg #[.int .i64 f,.int .i64 t,.int .i64 b],.int .i64 r] w fun e w'=>e=.returned (.bool (inB f t b r))∧Below w.heap.size w w':=by
 have hb:Below w.heap.size w (w.alloc (.cells #[.int .i64 f,.int .i64 t,.int .i64 b] 224)):=(Below.refl _ _).alloc (zG _) _
 have Hb:=zh hb
 clear hb
 by_cases h1:f≤r
 ·by_cases h2:r≤t
  ·by_cases h3:r=b
   ·have e:inB f t b r=false:=inB_no (by omega)
    rw [e]
    have h4:(r == b)=true:=by simp [h3]
    have h5:(r != b)=false:=by simp [h3]
    clear h3 e
    go_enter Tryz.func182,Tryz.ntmps182
    go_wp2
    go_ret
    exact ⟨rfl,Hb.out⟩
   ·have e:inB f t b r=true:=inB_yes ⟨h1,h2,h3⟩
    rw [e]
    have h4:(r == b)=false:=by simp [h3]
    have h5:(r != b)=true:=by simp [h3]
    clear h3 e
    go_enter Tryz.func182,Tryz.ntmps182
    go_wp2
    go_ret
    exact ⟨rfl,Hb.out⟩
  ·have e:inB f t b r=false:=inB_no (by omega)
   rw [e]
   clear e
   go_enter Tryz.func182,Tryz.ntmps182
   go_wp2
   go_ret
   exact ⟨rfl,Hb.out⟩
 ·have e:inB f t b r=false:=inB_no (by omega)
  rw [e]
  clear e
  go_enter Tryz.func182,Tryz.ntmps182
  go_wp2
  go_ret
  exact ⟨rfl,Hb.out⟩
def halfB (r:Int):Bool:=decide (55296≤r) && decide (r≤57343)
theorem half_any (r:Int) (w:World):Calls Tryz.prog 202 #[.int .i64 r] w fun e w'=>e=.returned (.bool (halfB r))∧w=w':=by
 by_cases h1 : 55296≤r
 ·by_cases h2:r≤57343
  ·have e:halfB r=true:=by simp [halfB,h1,h2]
   rw [e]; clear e
   go_enter Tryz.func202,Tryz.ntmps202
   go_wp2
   go_ret
   exact ⟨rfl,rfl⟩
  ·have e:halfB r=false:=by simp [halfB,h2]
   rw [e]; clear e
   go_enter Tryz.func202,Tryz.ntmps202
   go_wp2
   go_ret
   exact ⟨rfl,rfl⟩
 ·have e:halfB r=false:=by simp [halfB,h1]
  rw [e]; clear e
  go_enter Tryz.func202,Tryz.ntmps202
  go_wp2
  go_ret
  exact ⟨rfl,rfl⟩
def upA:Array Value:=#[.int .i64 65,.int .i64 90,.int .i64 (-1),.int .i64 192,.int .i64 222,.int .i64 215,.int .i64 913,.int .i64 939,.int .i64 930,.int .i64 1040,.int .i64 1071,.int .i64 (-1)]
def upZ:Array Value:=#[.int .i64 0,.int .i64 0,.int .i64 0,.int .i64 0,.int .i64 0,.int .i64 0,.int .i64 0,.int .i64 0,.int .i64 0,.int .i64 0,.int .i64 0,.int .i64 0]
theorem upA_one:upA.all (·.oneCell')=true:=by simp [upA,Value.oneCell']
def upf:Nat→Int
 | 0=>65
 | 1=>192
 | 2=>913
 | _=>1040
def upt:Nat→Int
 | 0=>90
 | 1=>222
 | 2=>939
 | _=>1071
def upb:Nat→Int
 | 0=>(-1)
 | 1=>215
 | 2=>930
 | _=>(-1)
theorem idx_up0 (w:World):(Instr.index 247 (.agg upA) (.int .i64 0)).run Tryz.prog w=.ok (.agg #[.int .i64 65,.int .i64 90,.int .i64 (-1)]) w:=by kernel_rfl
theorem idx_up1 (w:World):(Instr.index 247 (.agg upA) (.int .i64 1)).run Tryz.prog w=.ok (.agg #[.int .i64 192,.int .i64 222,.int .i64 215]) w:=by kernel_rfl
theorem idx_up2 (w:World):(Instr.index 247 (.agg upA) (.int .i64 2)).run Tryz.prog w=.ok (.agg #[.int .i64 913,.int .i64 939,.int .i64 930]) w:=by kernel_rfl
theorem idx_up3 (w:World):(Instr.index 247 (.agg upA) (.int .i64 3)).run Tryz.prog w=.ok (.agg #[.int .i64 1040,.int .i64 1071,.int .i64 (-1)]) w:=by kernel_rfl
theorem idx_up (j:Nat) (hj:j<4) (w:World):(Instr.index 247 (.agg upA) (.int .i64 (j:Int))).run Tryz.prog w=.ok (.agg #[.int .i64 (upf j),.int .i64 (upt j),.int .i64 (upb j)]) w:=by
 match j,hj with
 | 0,_=>exact idx_up0 w
 | 1,_=>exact idx_up1 w
 | 2,_=>exact idx_up2 w
 | 3,_=>exact idx_up3 w
def wdA:Array Value:=#[.int .i64 48,.int .i64 57,.int .i64 (-1),.int .i64 65,.int .i64 90,.int .i64 (-1),.int .i64 97,.int .i64 122,.int .i64 (-1),.int .i64 192,.int .i64 255,.int .i64 215,.int .i64 913,.int .i64 974,.int .i64 930,.int .i64 1024,.int .i64 1119,.int .i64 (-1)]
def wdZ:Array Value:=#[.int .i64 0,.int .i64 0,.int .i64 0,.int .i64 0,.int .i64 0,.int .i64 0,.int .i64 0,.int .i64 0,.int .i64 0,.int .i64 0,.int .i64 0,.int .i64 0,.int .i64 0,.int .i64 0,.int .i64 0,.int .i64 0,.int .i64 0,.int .i64 0]
theorem wdA_one:wdA.all (·.oneCell')=true:=by simp [wdA,Value.oneCell']
def wdf:Nat→Int
 | 0=>48
 | 1=>65
 | 2=>97
 | 3=>192
 | 4=>913
 | _=>1024
def wdt:Nat→Int
 | 0=>57
 | 1=>90
 | 2=>122
 | 3=>255
 | 4=>974
 | _=>1119
def wdb:Nat→Int
 | 0=>(-1)
 | 1=>(-1)
 | 2=>(-1)
 | 3=>215
 | 4=>930
 | _=>(-1)
theorem idx_wd0 (w:World):(Instr.index 225 (.agg wdA) (.int .i64 0)).run Tryz.prog w=.ok (.agg #[.int .i64 48,.int .i64 57,.int .i64 (-1)]) w:=by kernel_rfl
theorem idx_wd1 (w:World):(Instr.index 225 (.agg wdA) (.int .i64 1)).run Tryz.prog w=.ok (.agg #[.int .i64 65,.int .i64 90,.int .i64 (-1)]) w:=by kernel_rfl
theorem idx_wd2 (w:World):(Instr.index 225 (.agg wdA) (.int .i64 2)).run Tryz.prog w=.ok (.agg #[.int .i64 97,.int .i64 122,.int .i64 (-1)]) w:=by kernel_rfl
theorem idx_wd3 (w:World):(Instr.index 225 (.agg wdA) (.int .i64 3)).run Tryz.prog w=.ok (.agg #[.int .i64 192,.int .i64 255,.int .i64 215]) w:=by kernel_rfl
theorem idx_wd4 (w:World):(Instr.index 225 (.agg wdA) (.int .i64 4)).run Tryz.prog w=.ok (.agg #[.int .i64 913,.int .i64 974,.int .i64 930]) w:=by kernel_rfl
theorem idx_wd5 (w:World):(Instr.index 225 (.agg wdA) (.int .i64 5)).run Tryz.prog w=.ok (.agg #[.int .i64 1024,.int .i64 1119,.int .i64 (-1)]) w:=by kernel_rfl
theorem idx_wd (j:Nat) (hj:j<6) (w:World):(Instr.index 225 (.agg wdA) (.int .i64 (j:Int))).run Tryz.prog w=.ok (.agg #[.int .i64 (wdf j),.int .i64 (wdt j),.int .i64 (wdb j)]) w:=by
 match j,hj with
 | 0,_=>exact idx_wd0 w
 | 1,_=>exact idx_wd1 w
 | 2,_=>exact idx_wd2 w
 | 3,_=>exact idx_wd3 w
 | 4,_=>exact idx_wd4 w
 | 5,_=>exact idx_wd5 w
theorem up_in (r:Int) (j:Nat) (hj:j<4) (h:inB (upf j) (upt j) (upb j) r=true):lower r=r+32∧r≤1071∧0≤r:=by
 unfold inB at h
 simp only [Bool.and_eq_true,decide_eq_true_eq] at h
 unfold lower
 match j,hj with
 | 0,_=>simp only [upf,upt,upb] at h; exact ⟨by rw [if_pos (by omega)],by omega,by omega⟩
 | 1,_=>simp only [upf,upt,upb] at h; exact ⟨by rw [if_pos (by omega)],by omega,by omega⟩
 | 2,_=>simp only [upf,upt,upb] at h; exact ⟨by rw [if_pos (by omega)],by omega,by omega⟩
 | 3,_=>simp only [upf,upt,upb] at h; exact ⟨by rw [if_pos (by omega)],by omega,by omega⟩
theorem inB_false {f t b r:Int} (h:inB f t b r=false):¬ (f≤r∧r≤t∧r≠b):=by
 intro c
 rw [inB_yes c] at h
 cases h
theorem up_out (r:Int) (h:∀ j,j<4→inB (upf j) (upt j) (upb j) r=false):lower r=if 1024≤r∧r≤1039 then r+80 else r:=by
 have h0:=inB_false (h 0 (by omega))
 have h1:=inB_false (h 1 (by omega))
 have h2:=inB_false (h 2 (by omega))
 have h3:=inB_false (h 3 (by omega))
 simp only [upf,upt,upb] at h0 h1 h2 h3
 unfold lower
 rw [if_neg (by omega)]
theorem wd_in (r:Int) (j:Nat) (hj:j<6) (h:inB (wdf j) (wdt j) (wdb j) r=true):isWord r=(r != 247):=by
 unfold inB at h
 simp only [Bool.and_eq_true,decide_eq_true_eq] at h
 unfold isWord
 rw [Bool.eq_iff_iff,decide_eq_true_eq,bne_iff_ne]
 match j,hj with
 | 0,_=>simp only [wdf,wdt,wdb] at h; omega
 | 1,_=>simp only [wdf,wdt,wdb] at h; omega
 | 2,_=>simp only [wdf,wdt,wdb] at h; omega
 | 3,_=>simp only [wdf,wdt,wdb] at h; omega
 | 4,_=>simp only [wdf,wdt,wdb] at h; omega
 | 5,_=>simp only [wdf,wdt,wdb] at h; omega
theorem wd_out (r:Int) (h:∀ j,j<6→inB (wdf j) (wdt j) (wdb j) r=false):isWord r=false:=by
 have h0:=inB_false (h 0 (by omega))
 have h1:=inB_false (h 1 (by omega))
 have h2:=inB_false (h 2 (by omega))
 have h3:=inB_false (h 3 (by omega))
 have h4:=inB_false (h 4 (by omega))
 have h5:=inB_false (h 5 (by omega))
 simp only [wdf,wdt,wdb] at h0 h1 h2 h3 h4 h5
 unfold isWord
 rw [decide_eq_false_iff_not]
 omega
set_option maxRecDepth 20000 in
set_option maxHeartbeats 800000 in
theorem lower_any (r:Int) (w:World):Calls Tryz.prog 184 #[.int .i64 r] w fun e w'=>e=.returned (.int .i64 (lower r))∧Below w.heap.size w w':=by
 have hb:Below w.heap.size w ((w.alloc (.cells upZ 247)).setRow w.heap.size upA):=below_setRow ((Below.refl _ _).alloc (zG _) _) (zG _) _
 have hh:=setRow_heap (w.alloc (.cells upZ 247)) w.heap.size upZ upA 247 (0,0) (heap_alloc_new w _)
 have Hb:=zh hb
 clear hb
 go_enter Tryz.func184,Tryz.ntmps184
 go_wp2_with (first
  | (refine wpList_store_row (o:=⟨none,.store 247 _ _,_,_,_,_⟩) rfl 247 _ _ rfl w.heap.size upA rfl rfl 247 upZ (heap_alloc_new w _) (by kernel_rfl) rfl upA_one ?_)
  | (refine wpList_load_row (o:=⟨some 11,.load 247 _,_,_,_,_⟩) rfl 247 _ rfl w.heap.size rfl 247 upA (0,0) _ hh Tryz.underlying247 rfl (by kernel_rfl) ?_))
 clear hh
 go_loopw [12] (fun i wr=>∃ j:Nat,j≤4∧i=.int .i64 j∧(∀ i,i<j→inB (upf i) (upt i) (upb i) r=false)∧Below w.heap.size w wr) (fun i _=>4 - (intOf i).toNat)
 case atStart=>exact ⟨0,by omega,rfl,fun i h=>by omega,Hb.out⟩
 case round =>
  obtain ⟨j,hj,rfl,hno,hb⟩:=hrel
  have Hno:=zh hno
  clear hno
  by_cases hj4:j<4
  ·have hix:=idx_up j hj4
   by_cases hin:inB (upf j) (upt j) (upb j) r=true
   ·have hl:=up_in r j hj4 hin
    have hr1:=hl.2.1
    have hr0:=hl.2.2
    have Hl:=zh hl.1
    clear hl
    go_wp2_with (go_at_call 182; refine (calls_from (hb.alloc hb.size _) (in_any _ _ _ _ _)).mono ?_; rintro e w' ⟨rfl,hb⟩)
    go_ret
    exact ⟨by rw [Hl.out]; rfl,hb⟩
   ·have hinf:inB (upf j) (upt j) (upb j) r=false:=by simpa using hin
    have Hin:=zh hinf
    clear hin
    go_wp2_with (go_at_call 182; refine (calls_from (hb.alloc hb.size _) (in_any _ _ _ _ _)).mono ?_; rintro e w' ⟨rfl,hb⟩)
    go_roundw
    case rel=>exact ⟨j+1,by omega,by go_num,fun i h=>by
     by_cases e:i=j
     ·subst e; exact Hin.out
     ·exact Hno.out i (by omega),hb⟩
    case measure=>simp [intOf]; omega
  ·obtain rfl:j=4:=by omega
   have hl:=up_out r Hno.out
   by_cases h5 : 1024≤r∧r≤1039
   ·rw [if_pos h5] at hl
    have e5:inB 1024 1039 (-1) r=true:=inB_yes (by omega)
    have h51:=h5.1
    have h52:=h5.2
    have Hl:=zh hl
    clear hl h5
    go_wp2_with (go_at_call 182; refine (calls_from hb (in_any _ _ _ _ _)).mono ?_; rintro e w' ⟨rfl,hb⟩)
    go_ret
    exact ⟨by rw [Hl.out]; rfl,hb⟩
   ·rw [if_neg h5] at hl
    have e5:inB 1024 1039 (-1) r=false:=inB_no (by omega)
    have Hl:=zh hl
    clear hl h5
    go_wp2_with (go_at_call 182; refine (calls_from hb (in_any _ _ _ _ _)).mono ?_; rintro e w' ⟨rfl,hb⟩)
    go_ret
    exact ⟨by rw [Hl.out]; rfl,hb⟩
set_option maxRecDepth 20000 in
set_option maxHeartbeats 800000 in
theorem word_any (r:Int) (w:World):Calls Tryz.prog 165 #[.int .i64 r] w fun e w'=>e=.returned (.bool (isWord r))∧Below w.heap.size w w':=by
 have hb:Below w.heap.size w ((w.alloc (.cells wdZ 225)).setRow w.heap.size wdA):=below_setRow ((Below.refl _ _).alloc (zG _) _) (zG _) _
 have hh:=setRow_heap (w.alloc (.cells wdZ 225)) w.heap.size wdZ wdA 225 (0,0) (heap_alloc_new w _)
 have Hb:=zh hb
 clear hb
 go_enter Tryz.func165,Tryz.ntmps165
 go_wp2_with (first
  | (refine wpList_store_row (o:=⟨none,.store 225 _ _,_,_,_,_⟩) rfl 225 _ _ rfl w.heap.size wdA rfl rfl 225 wdZ (heap_alloc_new w _) (by kernel_rfl) rfl wdA_one ?_)
  | (refine wpList_load_row (o:=⟨some 13,.load 225 _,_,_,_,_⟩) rfl 225 _ rfl w.heap.size rfl 225 wdA (0,0) _ hh Tryz.underlying225 rfl (by kernel_rfl) ?_))
 clear hh
 go_loopw [14] (fun i wr=>∃ j:Nat,j≤6∧i=.int .i64 j∧(∀ i,i<j→inB (wdf i) (wdt i) (wdb i) r=false)∧Below w.heap.size w wr) (fun i _=>6 - (intOf i).toNat)
 case atStart=>exact ⟨0,by omega,rfl,fun i h=>by omega,Hb.out⟩
 case round =>
  obtain ⟨j,hj,rfl,hno,hb⟩:=hrel
  have Hno:=zh hno
  clear hno
  by_cases hj6:j<6
  ·have hix:=idx_wd j hj6
   by_cases hin:inB (wdf j) (wdt j) (wdb j) r=true
   ·have Hl:=zh (wd_in r j hj6 hin)
    go_wp2_with (go_at_call 182; refine (calls_from (hb.alloc hb.size _) (in_any _ _ _ _ _)).mono ?_; rintro e w' ⟨rfl,hb⟩)
    go_ret
    exact ⟨by rw [Hl.out]; rfl,hb⟩
   ·have hinf:inB (wdf j) (wdt j) (wdb j) r=false:=by simpa using hin
    have Hin:=zh hinf
    clear hin
    go_wp2_with (go_at_call 182; refine (calls_from (hb.alloc hb.size _) (in_any _ _ _ _ _)).mono ?_; rintro e w' ⟨rfl,hb⟩)
    go_roundw
    case rel=>exact ⟨j+1,by omega,by go_num,fun i h=>by
     by_cases e:i=j
     ·subst e; exact Hin.out
     ·exact Hno.out i (by omega),hb⟩
    case measure=>simp [intOf]; omega
  ·obtain rfl:j=6:=by omega
   have Hl:=zh (wd_out r Hno.out)
   go_wp2
   go_ret
   exact ⟨by rw [Hl.out]; rfl,hb⟩
end Go.Proofs.YtmomjpolkkbhnaaGreat.Ut
end

section
namespace Go.Proofs.YtmomjpolkkbhnaaGreat.Ut
open Go.RowKit
def f3:Array Value:=#[.int .i64 2,.int .u8 224,.int .u8 192,.int .i64 128,.int .i64 2047,.int .i64 (-1),.int .i64 3,.int .u8 240,.int .u8 224,.int .i64 2048,.int .i64 65535,.int .i64 (-1),.int .i64 4,.int .u8 248,.int .u8 240,.int .i64 65536,.int .i64 1114111,.int .i64 (-1)]
def z3:Array Value:=#[.int .i64 0,.int .u8 0,.int .u8 0,.int .i64 0,.int .i64 0,.int .i64 0,.int .i64 0,.int .u8 0,.int .u8 0,.int .i64 0,.int .i64 0,.int .i64 0,.int .i64 0,.int .u8 0,.int .u8 0,.int .i64 0,.int .i64 0,.int .i64 0]
theorem f3_one:f3.all (·.oneCell')=true:=by simp [f3,Value.oneCell']
set_option maxHeartbeats 400000 in
theorem forms_any (w:World):Calls Tryz.prog 201 #[] w fun e w'=>e=.returned (.agg f3)∧Below w.heap.size w w':=by
 go_enter Tryz.func201,Tryz.ntmps201
 go_wp2_with (refine wpList_store_row (o:=⟨none,.store 244 _ _,_,_,_,_⟩) rfl 244 _ _ rfl w.heap.size f3 rfl rfl 244 z3 (heap_alloc_new w _) (by kernel_rfl) rfl f3_one ?_)
 have hh:=setRow_heap (w.alloc (.cells z3 244)) w.heap.size z3 f3 244 (0,0) (heap_alloc_new w _)
 exact bodyPost_ret (results_cell rfl rfl (run_loadVar_row _ w.heap.size 244 244 f3 (0,0) _ hh Tryz.underlying244 rfl (by kernel_rfl))) rfl ⟨rfl,below_setRow ((Below.refl _ _).alloc (zG _) _) (zG _) _⟩
theorem idx_f0 (w:World):(Instr.index 244 (.agg f3) (.int .i64 0)).run Tryz.prog w=.ok (.agg #[.int .i64 2,.int .u8 224,.int .u8 192,.int .i64 128,.int .i64 2047,.int .i64 (-1)]) w:=by kernel_rfl
theorem idx_f1 (w:World):(Instr.index 244 (.agg f3) (.int .i64 1)).run Tryz.prog w=.ok (.agg #[.int .i64 3,.int .u8 240,.int .u8 224,.int .i64 2048,.int .i64 65535,.int .i64 (-1)]) w:=by kernel_rfl
theorem idx_f2 (w:World):(Instr.index 244 (.agg f3) (.int .i64 2)).run Tryz.prog w=.ok (.agg #[.int .i64 4,.int .u8 248,.int .u8 240,.int .i64 65536,.int .i64 1114111,.int .i64 (-1)]) w:=by kernel_rfl
def decAt (s:ByteArray) (a:Int):Nat × Nat:=if a<0 then (0,0) else dec (s.data.toList.drop a.toNat)
theorem drop_cons (s:ByteArray) (k:Nat) (h:k<s.size):s.data.toList.drop k=s[k] :: s.data.toList.drop (k+1):=by
 rw [List.drop_eq_getElem_cons (by rw [bsize]; exact h)]; rfl
theorem drop_out (s:ByteArray) (k:Nat) (h:s.size≤k):s.data.toList.drop k=[]:=List.drop_of_length_le (by rw [bsize]; exact h)
theorem dec_out (s:ByteArray) (a:Int) (w:World) (h:a<0∨(s.size:Int)≤a) :
  Calls Tryz.prog 181 #[.string s,.int .i64 a] w fun e w'=>e=.returned (.tuple #[.int .i64 0,.int .i64 0])∧w=w':=by
 by_cases h0:a<0
 ·go_enter Tryz.func181,Tryz.ntmps181
  go_wp2
  go_ret2
  exact ⟨rfl,rfl⟩
 ·have h1:(s.size:Int)≤a:=by omega
  go_enter Tryz.func181,Tryz.ntmps181
  go_wp2
  go_ret2
  exact ⟨rfl,rfl⟩
theorem dec_low (s:ByteArray) (k m:Nat) (w:World) (hk:k<s.size) (hm:(s[k]).toNat=m) (h:m<128) :
  Calls Tryz.prog 181 #[.string s,.int .i64 (k:Int)] w fun e w'=>e=.returned (.tuple #[.int .i64 (m:Int),.int .i64 1])∧w=w':=by
 have h0:¬ (k:Int)<0:=by omega
 have h1:¬ (s.size:Int)≤(k:Int):=by omega
 have h2:(m:Int)<128:=by omega
 go_enter Tryz.func181,Tryz.ntmps181
 go_wp2
 go_ret2
 exact ⟨rfl,rfl⟩
theorem mask_all:∀ m:Fin 256,((bits BinOp.and IntKind.u8 ((m.val:Nat):Int) 224 != 192)=!decide (m.val / 32=6))∧((bits BinOp.and IntKind.u8 ((m.val:Nat):Int) 240 != 224)=!decide (m.val / 16=14))∧((bits BinOp.and IntKind.u8 ((m.val:Nat):Int) 248 != 240)=!decide (m.val / 8=30)) ∧
  bits BinOp.andNot IntKind.u8 ((m.val:Nat):Int) 224=((m.val % 32:Nat):Int)∧bits BinOp.andNot IntKind.u8 ((m.val:Nat):Int) 240=((m.val % 16:Nat):Int)∧bits BinOp.andNot IntKind.u8 ((m.val:Nat):Int) 248=((m.val % 8:Nat):Int) ∧
  bits BinOp.and IntKind.u8 ((m.val:Nat):Int) 63=((m.val % 64:Nat):Int)∧(bits BinOp.and IntKind.u8 ((m.val:Nat):Int) 192 == 128)=(m.val / 64 == 2):=by decide +kernel
theorem mask0 (m:Nat) (h:m<256):(bits BinOp.and IntKind.u8 (m:Int) 224 != 192)=!decide (m / 32=6):=(mask_all ⟨m,h⟩).1
theorem mask1 (m:Nat) (h:m<256):(bits BinOp.and IntKind.u8 (m:Int) 240 != 224)=!decide (m / 16=14):=(mask_all ⟨m,h⟩).2.1
theorem mask2 (m:Nat) (h:m<256):(bits BinOp.and IntKind.u8 (m:Int) 248 != 240)=!decide (m / 8=30):=(mask_all ⟨m,h⟩).2.2.1
theorem andn0 (m:Nat) (h:m<256):bits BinOp.andNot IntKind.u8 (m:Int) 224=((m % 32:Nat):Int):=(mask_all ⟨m,h⟩).2.2.2.1
theorem andn1 (m:Nat) (h:m<256):bits BinOp.andNot IntKind.u8 (m:Int) 240=((m % 16:Nat):Int):=(mask_all ⟨m,h⟩).2.2.2.2.1
theorem andn2 (m:Nat) (h:m<256):bits BinOp.andNot IntKind.u8 (m:Int) 248=((m % 8:Nat):Int):=(mask_all ⟨m,h⟩).2.2.2.2.2.1
theorem low6 (m:Nat) (h:m<256):bits BinOp.and IntKind.u8 (m:Int) 63=((m % 64:Nat):Int):=(mask_all ⟨m,h⟩).2.2.2.2.2.2.1
theorem high2 (m:Nat) (h:m<256):(bits BinOp.and IntKind.u8 (m:Int) 192 == 128)=(m / 64 == 2):=(mask_all ⟨m,h⟩).2.2.2.2.2.2.2
theorem acc_lt (m:Nat) (l:List UInt8) (hm:m<32) (hl:l.length≤3):acc m l<16777216:=by
 match l,hl with
 | [],_=>simp only [acc,List.foldl_nil]; omega
 | [a],_=>simp only [acc,List.foldl_cons,List.foldl_nil]; omega
 | [a,b],_=>simp only [acc,List.foldl_cons,List.foldl_nil]; omega
 | [a,b,c],_=>simp only [acc,List.foldl_cons,List.foldl_nil]; omega
theorem or_shift (a y:Nat) (ha:a<16777216) (hy:y<64):bits BinOp.or IntKind.i64 ((a:Int) * 64) ((y:Nat):Int)=((a * 64+y:Nat):Int):=by
 have e:(a:Int) * 64=((a * 64:Nat):Int):=by omega
 rw [e]
 have h1:(BitVec.ofInt 64 ((a * 64:Nat):Int)).toNat=a * 64:=by
  rw [BitVec.ofInt_natCast,BitVec.toNat_ofNat]; exact Nat.mod_eq_of_lt (by omega)
 have h2:(BitVec.ofInt 64 ((y:Nat):Int)).toNat=y:=by
  rw [BitVec.ofInt_natCast,BitVec.toNat_ofNat]; exact Nat.mod_eq_of_lt (by omega)
 show IntKind.i64.wrap ((BitVec.ofInt 64 ((a * 64:Nat):Int) ||| BitVec.ofInt 64 ((y:Nat):Int)).toNat:Int)=_
 rw [BitVec.toNat_or,h1,h2,IntKind.wrap_i64]
 have h3:a * 64 ||| y=a * 64+y:=by
  have:=Nat.shiftLeft_add_eq_or_of_lt (i:=6) (b:=y) (by omega) a
  rw [Nat.shiftLeft_eq] at this
  exact this.symm
 rw [h3]
 omega
theorem sub_at (s:ByteArray) (k n:Nat) (hn : 1≤n) (h:k+n≤s.size):∃ u:ByteArray,u.size=n - 1∧u.data.toList=(s.data.toList.drop (k+1)).take (n - 1) ∧
  ∀ W:World,(Instr.slice 9 (.string s) (some (.int .i64 ((k:Int)+1))) (some (.int .i64 ((k:Int)+(n:Int)))) none).run Tryz.prog W=.ok (.string u) W:=by
 refine ⟨s.extract (k+1) (k+n),by rw [ByteArray.size_extract]; omega,?_,fun W=>?_⟩
 ·have:=Go.Lib.extract_data s (k+1) (k+n)
  rw [this]
  congr 1
  omega
 ·rw [run_slice_string W 9 s .i64 .i64 _ _ Tryz.underlying9 (by omega) (by omega) (by omega)]
  congr 3
theorem form_eq (m:Nat) (t:List UInt8) (k lo hi:Nat) (h:k - 1≤t.length) (e:Bool) (he:(((t.take (k - 1)).all cont && inB lo hi (-1) (acc m (t.take (k - 1)):Nat)) && !halfB (acc m (t.take (k - 1)):Nat))=e) :
  form m t k lo hi=if e then (acc m (t.take (k - 1)),k) else (65533,1):=by
 unfold form fits
 subst he
 have e2:inB lo hi (-1) (acc m (t.take (k - 1)):Nat)=(decide (lo≤acc m (t.take (k - 1))) && decide (acc m (t.take (k - 1))≤hi)):=by
  unfold inB
  rw [show decide ((acc m (t.take (k - 1)):Nat)≠(-1:Int))=true from by rw [decide_eq_true_eq]; omega,Bool.and_true]
  congr 1 <;> rw [decide_eq_decide] <;> omega
 have e3:halfB (acc m (t.take (k - 1)):Nat)=(decide (55296≤acc m (t.take (k - 1))) && decide (acc m (t.take (k - 1))≤57343)):=by
  unfold halfB
  congr 1 <;> rw [decide_eq_decide] <;> omega
 rw [e2,e3,show decide (k - 1≤t.length)=true from by simpa using h,Bool.true_and,Bool.and_assoc,Bool.and_assoc]
theorem form_short (m:Nat) (t:List UInt8) (k lo hi:Nat) (h:t.length<k - 1):form m t k lo hi=(65533,1):=by
 unfold form fits
 rw [show decide (k - 1≤t.length)=false from by simp; omega,Bool.false_and,if_neg (by simp)]
end Go.Proofs.YtmomjpolkkbhnaaGreat.Ut
end

section
namespace Go.Proofs
open Go.Shelf
def Tryz.lays170_ren:Go.Shelf.Ren:=⟨fun | 170=>185 | n=>n,fun | 70=>226 | 3=>3 | 0=>0 | 72=>228 | 37=>30 | 5=>5 | n=>n,fun | n=>n⟩
theorem Tryz.lays170:Go.Proofs.Lays.n170 Tryz.prog Tryz.lays170_ren:={
 mixed:=by kernel_rfl
 f170:=Tryz.func185.trans (congrArg some (by kernel_rfl))
 t0:=Tryz.underlying0
 a0:=Tryz.isAgg0
 z0:=Tryz.sizeOf0
 v0:=Tryz.zeroValue0
 t3:=Tryz.underlying3
 a3:=Tryz.isAgg3
 z3:=Tryz.sizeOf3
 v3:=Tryz.zeroValue3
 t37:=Tryz.underlying30
 a37:=Tryz.isAgg30
 z37:=Tryz.sizeOf30
 v37:=Tryz.zeroValue30
 t70:=Tryz.underlying226
 a70:=Tryz.isAgg226
 z70:=Tryz.sizeOf226
 v70:=Tryz.zeroValue226
 t72:=Tryz.underlying228
 a72:=Tryz.isAgg228
 z72:=Tryz.sizeOf228
 v72:=Tryz.zeroValue228 }
open Go.RowKit in
theorem Tryz.Builder_Len (B b:Nat) (bs:List Value) (w:World) (h:Lib.IsBuilder 228 5 B b bs w) :
  Calls Tryz.prog 185 #[.pointer (some ⟨b,0,none⟩)] w fun e w'=>e=.returned (.int .i64 bs.length)∧w'=w:=Any.Builder_Len Tryz.lays170 B b bs w h
def Tryz.lays169_ren:Go.Shelf.Ren:=⟨fun | 169=>187 | n=>n,fun | 70=>226 | 9=>9 | 0=>0 | 72=>228 | 37=>30 | 127=>248 | 3=>3 | 5=>5 | n=>n,fun | n=>n⟩
theorem Tryz.lays169:Go.Proofs.Lays.n169 Tryz.prog Tryz.lays169_ren:={
 mixed:=by kernel_rfl
 f169:=Tryz.func187.trans (congrArg some (by kernel_rfl))
 t0:=Tryz.underlying0
 a0:=Tryz.isAgg0
 z0:=Tryz.sizeOf0
 v0:=Tryz.zeroValue0
 t3:=Tryz.underlying3
 a3:=Tryz.isAgg3
 z3:=Tryz.sizeOf3
 v3:=Tryz.zeroValue3
 t9:=Tryz.underlying9
 a9:=Tryz.isAgg9
 z9:=Tryz.sizeOf9
 v9:=Tryz.zeroValue9
 t37:=Tryz.underlying30
 a37:=Tryz.isAgg30
 z37:=Tryz.sizeOf30
 v37:=Tryz.zeroValue30
 t70:=Tryz.underlying226
 a70:=Tryz.isAgg226
 z70:=Tryz.sizeOf226
 v70:=Tryz.zeroValue226
 t72:=Tryz.underlying228
 a72:=Tryz.isAgg228
 z72:=Tryz.sizeOf228
 v72:=Tryz.zeroValue228
 t127:=Tryz.underlying248
 a127:=Tryz.isAgg248
 z127:=Tryz.sizeOf248
 v127:=Tryz.zeroValue248 }
theorem Tryz.Builder_Extra_169:Builder.Extra Tryz.prog Tryz.lays169_ren:={
 sizeBuilder:=by kernel_rfl
 liesBuilder:=by kernel_rfl
 t5:=Tryz.underlying5
 a5:=Tryz.isAgg5
 z5:=Tryz.sizeOf5
 v5:=Tryz.zeroValue5
 infoByte:=by kernel_rfl
 cellsByte:=by kernel_rfl
 sizeByte:=by kernel_rfl
 neB5:=by decide }
open Go.RowKit in
theorem Tryz.Builder_String_any (B b:Nat) (l:List UInt8) (w:World) (h:Lib.IsBuilder 228 5 B b (Lib.byteCells l) w) (hBw:B≤w.heap.size) :
  Calls Tryz.prog 187 #[.pointer (some ⟨b,0,none⟩)] w fun e w'=>e=.returned (.string ⟨l.toArray⟩)∧Below B w w':=Any.Builder_String_any Tryz.lays169 Tryz.Builder_Extra_169 B b l w h hBw
def Tryz.lays137_ren:Go.Shelf.Ren:=⟨fun | 137=>175 | 217=>193 | 266=>208 | n=>n,fun | 9=>9 | 5=>5 | 3=>3 | n=>n,fun | n=>n⟩
theorem Tryz.lays137:Go.Proofs.Lays.n137 Tryz.prog Tryz.lays137_ren:={
 mixed:=by kernel_rfl
 f137:=Tryz.func175.trans (congrArg some (by kernel_rfl))
 f217:=Tryz.func193.trans (congrArg some (by kernel_rfl))
 f266:=Tryz.func208.trans (congrArg some (by kernel_rfl))
 t3:=Tryz.underlying3
 a3:=Tryz.isAgg3
 z3:=Tryz.sizeOf3
 v3:=Tryz.zeroValue3
 t5:=Tryz.underlying5
 a5:=Tryz.isAgg5
 z5:=Tryz.sizeOf5
 v5:=Tryz.zeroValue5
 t9:=Tryz.underlying9
 a9:=Tryz.isAgg9
 z9:=Tryz.sizeOf9
 v9:=Tryz.zeroValue9 }
open Go.RowKit in
theorem Tryz.strings_IndexByte (s:ByteArray) (c:Int) (w:World) :
  Calls Tryz.prog 175 #[.string s,.int .u8 c] w fun e w'=>e=.returned (.int .i64 (Lib.indexByte s.data.toList c.toNat.toUInt8))∧w'=w:=Any.strings_IndexByte Tryz.lays137 s c w
def Tryz.lays104_ren:Go.Shelf.Ren:=⟨fun | 104=>197 | 211=>211 | 207=>216 | n=>n,fun | 9=>9 | 4=>4 | 24=>239 | 3=>3 | n=>n,fun | n=>n⟩
theorem Tryz.lays104:Go.Proofs.Lays.n104 Tryz.prog Tryz.lays104_ren:={
 mixed:=by kernel_rfl
 f104:=Tryz.func197.trans (congrArg some (by kernel_rfl))
 f207:=Tryz.func216.trans (congrArg some (by kernel_rfl))
 f211:=Tryz.func211.trans (congrArg some (by kernel_rfl))
 t3:=Tryz.underlying3
 a3:=Tryz.isAgg3
 z3:=Tryz.sizeOf3
 v3:=Tryz.zeroValue3
 t4:=Tryz.underlying4
 a4:=Tryz.isAgg4
 z4:=Tryz.sizeOf4
 v4:=Tryz.zeroValue4
 t9:=Tryz.underlying9
 a9:=Tryz.isAgg9
 z9:=Tryz.sizeOf9
 v9:=Tryz.zeroValue9
 t24:=Tryz.underlying239
 a24:=Tryz.isAgg239
 z24:=Tryz.sizeOf239
 v24:=Tryz.zeroValue239 }
open Go.RowKit in
theorem Tryz.strings_CutSuffix (s p:ByteArray) (w:World) (hs:s.size≤9223372036854775807) :
  Calls Tryz.prog 197 #[.string s,.string p] w fun e w'=>e=.returned (.tuple #[.string ⟨(Lib.trimSuffix s.data.toList p.data.toList).toArray⟩,.bool (Lib.hasSuffix s.data.toList p.data.toList)])∧w'=w:=Any.strings_CutSuffix Tryz.lays104 s p w hs
def Tryz.lays122_ren:Go.Shelf.Ren:=⟨fun | 122=>105 | 215=>130 | n=>n,fun | 3=>3 | 4=>4 | n=>n,fun | n=>n⟩
theorem Tryz.lays122:Go.Proofs.Lays.n122 Tryz.prog Tryz.lays122_ren:={
 mixed:=by kernel_rfl
 f122:=Tryz.func105.trans (congrArg some (by kernel_rfl))
 f215:=Tryz.func130.trans (congrArg some (by kernel_rfl))
 t3:=Tryz.underlying3
 a3:=Tryz.isAgg3
 z3:=Tryz.sizeOf3
 v3:=Tryz.zeroValue3
 t4:=Tryz.underlying4
 a4:=Tryz.isAgg4
 z4:=Tryz.sizeOf4
 v4:=Tryz.zeroValue4 }
open Go.RowKit in
theorem Tryz.cmp_Compare_int (x y:Int) (w:World) :
  Calls Tryz.prog 105 #[.int .i64 x,.int .i64 y] w fun e w'=>e=.returned (.int .i64 (Lib.compareInt x y))∧w'=w:=Any.cmp_Compare_int Tryz.lays122 x y w
def Tryz.lays219_ren:Go.Shelf.Ren:=⟨fun | 219=>215 | 217=>193 | 225=>218 | 224=>219 | 267=>220 | 266=>208 | 314=>221 | n=>n,fun | 9=>9 | 3=>3 | 4=>4 | 5=>5 | 46=>161 | 146=>254 | 51=>162 | n=>n,fun | 1=>0 | n=>n⟩
theorem Tryz.lays219:Go.Proofs.Lays.n219 Tryz.prog Tryz.lays219_ren:={
 mixed:=by kernel_rfl
 f217:=Tryz.func193.trans (congrArg some (by kernel_rfl))
 f219:=Tryz.func215.trans (congrArg some (by kernel_rfl))
 f224:=Tryz.func219.trans (congrArg some (by kernel_rfl))
 f225:=Tryz.func218.trans (congrArg some (by kernel_rfl))
 f266:=Tryz.func208.trans (congrArg some (by kernel_rfl))
 f267:=Tryz.func220.trans (congrArg some (by kernel_rfl))
 f314:=Tryz.func221.trans (congrArg some (by kernel_rfl))
 t3:=Tryz.underlying3
 a3:=Tryz.isAgg3
 z3:=Tryz.sizeOf3
 v3:=Tryz.zeroValue3
 t4:=Tryz.underlying4
 a4:=Tryz.isAgg4
 z4:=Tryz.sizeOf4
 v4:=Tryz.zeroValue4
 t5:=Tryz.underlying5
 a5:=Tryz.isAgg5
 z5:=Tryz.sizeOf5
 v5:=Tryz.zeroValue5
 t9:=Tryz.underlying9
 a9:=Tryz.isAgg9
 z9:=Tryz.sizeOf9
 v9:=Tryz.zeroValue9
 t46:=Tryz.underlying161
 a46:=Tryz.isAgg161
 z46:=Tryz.sizeOf161
 v46:=Tryz.zeroValue161
 t51:=Tryz.underlying162
 a51:=Tryz.isAgg162
 z51:=Tryz.sizeOf162
 v51:=Tryz.zeroValue162
 t146:=Tryz.underlying254
 a146:=Tryz.isAgg254
 z146:=Tryz.sizeOf254
 v146:=Tryz.zeroValue254
 g1:=by kernel_rfl }
open Go.RowKit Go.Lib in
theorem Tryz.stringslite_Index_one (s:ByteArray) (c:UInt8) (w:World) :
  Calls Tryz.prog 215 #[.string s,.string ⟨#[c]⟩] w fun e w'=>e=.returned (.int .i64 (Lib.indexByte s.data.toList c))∧w'=w:=Any.stringslite_Index_one Tryz.lays219 s c w
def Tryz.lays144_ren:Go.Shelf.Ren:=⟨fun | 144=>195 | 143=>210 | 219=>215 | 217=>193 | 225=>218 | 224=>219 | 267=>220 | 266=>208 | 314=>221 | n=>n,fun | 9=>9 | 4=>4 | 3=>3 | 5=>5 | 46=>161 | 146=>254 | 51=>162 | n=>n,fun | 1=>0 | n=>n⟩
theorem Tryz.lays144:Go.Proofs.Lays.n144 Tryz.prog Tryz.lays144_ren:={
 mixed:=by kernel_rfl
 f143:=Tryz.func210.trans (congrArg some (by kernel_rfl))
 f144:=Tryz.func195.trans (congrArg some (by kernel_rfl))
 f217:=Tryz.func193.trans (congrArg some (by kernel_rfl))
 f219:=Tryz.func215.trans (congrArg some (by kernel_rfl))
 f224:=Tryz.func219.trans (congrArg some (by kernel_rfl))
 f225:=Tryz.func218.trans (congrArg some (by kernel_rfl))
 f266:=Tryz.func208.trans (congrArg some (by kernel_rfl))
 f267:=Tryz.func220.trans (congrArg some (by kernel_rfl))
 f314:=Tryz.func221.trans (congrArg some (by kernel_rfl))
 t3:=Tryz.underlying3
 a3:=Tryz.isAgg3
 z3:=Tryz.sizeOf3
 v3:=Tryz.zeroValue3
 t4:=Tryz.underlying4
 a4:=Tryz.isAgg4
 z4:=Tryz.sizeOf4
 v4:=Tryz.zeroValue4
 t5:=Tryz.underlying5
 a5:=Tryz.isAgg5
 z5:=Tryz.sizeOf5
 v5:=Tryz.zeroValue5
 t9:=Tryz.underlying9
 a9:=Tryz.isAgg9
 z9:=Tryz.sizeOf9
 v9:=Tryz.zeroValue9
 t46:=Tryz.underlying161
 a46:=Tryz.isAgg161
 z46:=Tryz.sizeOf161
 v46:=Tryz.zeroValue161
 t51:=Tryz.underlying162
 a51:=Tryz.isAgg162
 z51:=Tryz.sizeOf162
 v51:=Tryz.zeroValue162
 t146:=Tryz.underlying254
 a146:=Tryz.isAgg254
 z146:=Tryz.sizeOf254
 v146:=Tryz.zeroValue254
 g1:=by kernel_rfl }
open Go.RowKit Go.Lib in
theorem Tryz.strings_Contains_one (s:ByteArray) (c:UInt8) (w:World) :
  Calls Tryz.prog 195 #[.string s,.string ⟨#[c]⟩] w fun e w'=>e=.returned (.bool (decide (0≤Lib.indexByte s.data.toList c)))∧w'=w:=Any.strings_Contains_one Tryz.lays144 s c w
def Tryz.lays99_ren:Go.Shelf.Ren:=⟨fun | 99=>162 | 206=>180 | n=>n,fun | 9=>9 | 4=>4 | 3=>3 | n=>n,fun | n=>n⟩
theorem Tryz.lays99:Go.Proofs.Lays.n99 Tryz.prog Tryz.lays99_ren:={
 mixed:=by kernel_rfl
 f99:=Tryz.func162.trans (congrArg some (by kernel_rfl))
 f206:=Tryz.func180.trans (congrArg some (by kernel_rfl))
 t3:=Tryz.underlying3
 a3:=Tryz.isAgg3
 z3:=Tryz.sizeOf3
 v3:=Tryz.zeroValue3
 t4:=Tryz.underlying4
 a4:=Tryz.isAgg4
 z4:=Tryz.sizeOf4
 v4:=Tryz.zeroValue4
 t9:=Tryz.underlying9
 a9:=Tryz.isAgg9
 z9:=Tryz.sizeOf9
 v9:=Tryz.zeroValue9 }
open Go.RowKit Go.Lib in
theorem Tryz.strings_HasPrefix (s p:ByteArray) (w:World) :
  Calls Tryz.prog 162 #[.string s,.string p] w fun e w'=>e=.returned (.bool (Lib.hasPrefix s.data.toList p.data.toList))∧w'=w:=Any.strings_HasPrefix Tryz.lays99 s p w
end Go.Proofs
end

section
namespace Go.Proofs.YtmomjpolkkbhnaaGreat
open Go Go.RowKit
structure RSpec where
 α:Type
 f : α→Value
 Φ : α→World→Prop
section
variable {P:Program} {ops:Array Oper} {md:Region.Mode} {C:World→Prop} {G:World→World→Prop} {Q:Act→World→Prop} {S:Nat→Option RSpec}
def growUpon (P:Program) (G:World→World→Prop) (w:World) (R:Value→World→Prop):Result Next→Prop
 | .ok (.value u) w'=>G w w'∧R u w'
 | .ok .skip w'=>G w w'∧R undef w'
 | .ok (.enter f args) w'=>Calls P f args w' (fun e w''=>∃ v,e=.returned v∧G w w''∧R v w'')
 | _=>False
def Deps (md:Region.Mode) (o:Oper) (F:Nat→World→Prop) (w:World):Prop:=∀ e∈o.after,Region.binds md e=true→F e.on w
def upd (F:Nat→World→Prop) (i:Nat) (p:World→Prop):Nat→World→Prop:=fun j w=>if j=i then F j w∧p w else F j w
def Fixed (P:Program) (C:World→Prop) (md:Region.Mode) (F:Nat→World→Prop) (o:Oper) (a:Act) (c:Value):Prop :=
 ∀ w,C w→Deps md o F w→(execOp a.eval o).run P w=.ok (.value c) w∨((execOp a.eval o).run P w=.ok .skip w∧c=undef)
def Gives (P:Program) (C:World→Prop) (G:World→World→Prop) (md:Region.Mode) (F:Nat→World→Prop) (o:Oper) (a:Act) (s:RSpec):Prop :=
 ∀ w,C w→Deps md o F w→growUpon P G w (fun v w'=>C w'∧∃ x,v=s.f x∧s.Φ x w') ((execOp a.eval o).run P w)
def stepT (P:Program) (ops:Array Oper) (C:World→Prop) (G:World→World→Prop) (md:Region.Mode) (S:Nat→Option RSpec) (i:Nat) (o:Oper) (K:Act→(Nat→World→Prop)→Prop) (a:Act) (F:Nat→World→Prop):Prop :=
 if Region.wanted o (yielded ops a.tmps)=true then
  match S i with
  | none=>∃ c,Fixed P C md F o a c∧K (a.put o.dst c) F
  | some s=>Gives P C G md F o a s∧∀ x,K (a.put o.dst (s.f x)) (upd F i (s.Φ x))
 else K (a.put o.dst undef) F
def FinT (C:World→Prop) (Q:Act→World→Prop) (a:Act) (F:Nat→World→Prop):Prop:=∀ w,C w→(∀ j,F j w)→Q a w
def SatT (C:World→Prop) (F:Nat→World→Prop):Prop:=∃ w,C w∧∀ j,F j w
def TAny (P:Program) (md:Region.Mode) (ops:Array Oper) (C:World→Prop) (G:World→World→Prop) (S:Nat→Option RSpec) (Q:Act→World→Prop):Nat→Array Bool→Act→(Nat→World→Prop)→Prop
 | 0,listed,a,F=>SatT C F→(Region.ready md ops listed=[]∧FinT C Q a F)
 | fuel+1,listed,a,F=>SatT C F→((Region.ready md ops listed=[]→FinT C Q a F) ∧
  ∀ i∈Region.ready md ops listed,∀ o,ops[i]?=some o→stepT P ops C G md S i o (TAny P md ops C G S Q fuel (listed.setIfInBounds i true)) a F)
def wpGrow (P:Program) (ops:Array Oper) (C:World→Prop) (G:World→World→Prop) (md:Region.Mode) (S:Nat→Option RSpec) (Q:Act→World→Prop):List Oper→Nat→Act→(Nat→World→Prop)→Prop
 | [],_,a,F=>FinT C Q a F
 | o :: rest,k,a,F=>stepT P ops C G md S k o (wpGrow P ops C G md S Q rest (k+1)) a F
def Lasts (G:World→World→Prop) (F:Nat→World→Prop):Prop:=∀ j w w',G w w'→F j w→F j w'
theorem Lasts.upd {F:Nat→World→Prop} (h:Lasts G F) (i:Nat) {p:World→Prop} (hp:∀ w w',G w w'→p w→p w'):Lasts G (upd F i p):=by
 intro j w w' hg hf
 unfold Proofs.YtmomjpolkkbhnaaGreat.upd at *
 split
 ·rename_i e; rw [if_pos e] at hf; exact ⟨h j _ _ hg hf.1,hp _ _ hg hf.2⟩
 ·rename_i e; rw [if_neg e] at hf; exact h j _ _ hg hf
theorem wp_of_gives {o:Oper} {a:Act} {K':Act→World→Prop} {Q':Exit→Act→World→Prop} {w:World} {R:Value→World→Prop} (h:∀ v w',G w w'→R v w'→K' (a.put o.dst v) w')
  (hh:growUpon P G w R ((execOp a.eval o).run P w)):o.wp P a w K' Q':=by
 unfold Oper.wp
 generalize (execOp a.eval o).run P w=r at *
 cases r with
 | ok n w' =>
  cases n <;> simp only [growUpon] at hh <;> simp only [Oper.upon]
  case value u=>exact h _ _ hh.1 hh.2
  case skip=>exact h _ _ hh.1 hh.2
  case enter f args=>exact hh.mono fun e w'' ⟨v,he,hg,hr⟩=>by subst he; exact h _ _ hg hr
 | halt x w'=>simp only [growUpon] at hh
theorem wpAny_of_T (hS:∀ i s,S i=some s→∀ x w w',G w w'→s.Φ x w→s.Φ x w') {Q':Exit→Act→World→Prop} (hQ:∀ a w,Q a w→Q' .normal a w) :
  ∀ (fuel:Nat) (listed:Array Bool) (a:Act) (F:Nat→World→Prop) (w:World),C w→(∀ j,F j w)→Lasts G F→TAny P md ops C G S Q fuel listed a F→wpAny P md ops Q' fuel listed a w
 | 0,_,a,F,w,hC,hF,_,h=>⟨(h ⟨w,hC,hF⟩).1,hQ _ _ ((h ⟨w,hC,hF⟩).2 w hC hF)⟩
 | fuel+1,listed,a,F,w,hC,hF,hL,h=>by
  have h:=h ⟨w,hC,hF⟩
  refine ⟨fun h0=>hQ _ _ (h.1 h0 w hC hF),fun i hi=>?_⟩
  unfold wpOp
  obtain ⟨_,o,ho,_⟩:=mem_ready.1 hi
  simp only [ho]
  have hs:=h.2 i hi o ho
  unfold stepT at hs
  split
  ·rename_i hw
   rw [if_pos hw] at hs
   left
   split at hs
   ·rename_i hSi
    obtain ⟨c,h1,h2⟩:=hs
    rcases h1 w hC (fun e _ _=>hF e.on) with hr | ⟨hr,rfl⟩
    ·unfold Oper.wp; rw [hr]
     exact wpAny_of_T hS hQ fuel _ _ F w hC hF hL h2
    ·unfold Oper.wp; rw [hr]
     exact wpAny_of_T hS hQ fuel _ _ F w hC hF hL h2
   ·rename_i s hSi
    refine wp_of_gives ?_ (hs.1 w hC (fun e _ _=>hF e.on))
    rintro v w' hg ⟨hC',x,rfl,hx⟩
    refine wpAny_of_T hS hQ fuel _ _ _ w' hC' ?_ (hL.upd i (hS i s hSi x)) (hs.2 x)
    intro j
    unfold upd
    split
    ·exact ⟨hL j _ _ hg (hF j),hx⟩
    ·exact hL j _ _ hg (hF j)
  ·rename_i hw
   rw [if_neg hw] at hs
   exact wpAny_of_T hS hQ fuel _ _ F w hC hF hL hs
def updO (F:Nat→World→Prop) (i:Nat):Option (World→Prop)→Nat→World→Prop
 | none=>F
 | some p=>upd F i p
theorem upd_comm {F:Nat→World→Prop} {i j:Nat} (h:i≠j) (p q:World→Prop):upd (upd F i p) j q=upd (upd F j q) i p:=by
 funext k w
 unfold upd
 by_cases h1:k=j <;> by_cases h2:k=i
 ·omega
 ·subst h1; simp [h2]
 ·subst h2; simp [h1]
 ·simp [h1,h2]
theorem updO_comm {F:Nat→World→Prop} {i j:Nat} (h:i≠j) (p q:Option (World→Prop)):updO (updO F i p) j q=updO (updO F j q) i p:=by
 cases p <;> cases q <;> simp only [updO]
 exact upd_comm h _ _
theorem updO_imp {F:Nat→World→Prop} {i:Nat} {p:Option (World→Prop)} {j:Nat} {w:World} (h:updO F i p j w):F j w:=by
 cases p with
 | none=>exact h
 | some p =>
  simp only [updO,upd] at h
  split at h
  ·exact h.1
  ·exact h
theorem sat_updO {F:Nat→World→Prop} {i:Nat} {p:Option (World→Prop)} (h:SatT C (updO F i p)):SatT C F:=by
 obtain ⟨w,hC,hw⟩:=h
 exact ⟨w,hC,fun j=>updO_imp (hw j)⟩
theorem deps_updO {o:Oper} {F:Nat→World→Prop} {i:Nat} {p:Option (World→Prop)} (hn:∀ e∈o.after,Region.binds md e=true→e.on≠i) (w:World):Deps md o (updO F i p) w↔Deps md o F w:=by
 refine ⟨fun h e he hb=>updO_imp (h e he hb),fun h e he hb=>?_⟩
 cases p with
 | none=>exact h e he hb
 | some p =>
  simp only [updO,upd]
  rw [if_neg (hn e he hb)]
  exact h e he hb
inductive Head (P:Program) (ops:Array Oper) (C:World→Prop) (G:World→World→Prop) (md:Region.Mode) (S:Nat→Option RSpec) (i:Nat) (o:Oper) (a:Act) (F:Nat→World→Prop):(V:Type)→(V→Value)→(V→Option (World→Prop))→Prop
 | skip (h:Region.wanted o (yielded ops a.tmps)=false):Head P ops C G md S i o a F Unit (fun _=>undef) (fun _=>none)
 | fixed (h:Region.wanted o (yielded ops a.tmps)=true) (hs:S i=none) (c:Value) (hf:Fixed P C md F o a c):Head P ops C G md S i o a F Unit (fun _=>c) (fun _=>none)
 | gives (h:Region.wanted o (yielded ops a.tmps)=true) (s:RSpec) (hs:S i=some s) (hg:Gives P C G md F o a s):Head P ops C G md S i o a F s.α s.f (fun x=>some (s.Φ x))
theorem Head.step {i:Nat} {o:Oper} {a:Act} {F:Nat→World→Prop} {V:Type} {f:V→Value} {p:V→Option (World→Prop)} (h:Head P ops C G md S i o a F V f p) {K:Act→(Nat→World→Prop)→Prop}
  (hk:∀ x,K (a.put o.dst (f x)) (updO F i (p x))):stepT P ops C G md S i o K a F:=by
 cases h with
 | skip h=>unfold stepT; rw [if_neg (by rw [h]; decide)]; exact hk ()
 | fixed h hs c hf=>unfold stepT; rw [if_pos h]; simp only [hs]; exact ⟨c,hf,hk ()⟩
 | gives h s hs hg=>unfold stepT; rw [if_pos h]; simp only [hs]; exact ⟨hg,hk⟩
theorem head_of_step {i:Nat} {o:Oper} {a:Act} {F:Nat→World→Prop} {K:Act→(Nat→World→Prop)→Prop} (h:stepT P ops C G md S i o K a F) :
  ∃ (V:Type) (f:V→Value) (p:V→Option (World→Prop)),Head P ops C G md S i o a F V f p∧∀ x,K (a.put o.dst (f x)) (updO F i (p x)):=by
 unfold stepT at h
 by_cases hw:Region.wanted o (yielded ops a.tmps)=true
 ·rw [if_pos hw] at h
  split at h
  ·rename_i hs
   obtain ⟨c,h1,h2⟩:=h
   exact ⟨_,_,_,.fixed hw hs c h1,fun _=>h2⟩
  ·rename_i s hs
   exact ⟨_,_,_,.gives hw s hs h.1,h.2⟩
 ·rw [if_neg hw] at h
  exact ⟨_,_,_,.skip (by simpa using hw),fun _=>h⟩
theorem Head.same {i:Nat} {o:Oper} {a a':Act} {F F':Nat→World→Prop} {V:Type} {f:V→Value} {p:V→Option (World→Prop)} (h:Head P ops C G md S i o a F V f p)
  (he:execOp a'.eval o=execOp a.eval o) (hw:Region.wanted o (yielded ops a'.tmps)=Region.wanted o (yielded ops a.tmps)) (hd:∀ w,Deps md o F' w↔Deps md o F w):Head P ops C G md S i o a' F' V f p:=by
 cases h with
 | skip h=>exact .skip (by rw [hw]; exact h)
 | fixed h hs c hf=>exact .fixed (by rw [hw]; exact h) hs c (fun w hC hD=>by rw [he]; exact hf w hC ((hd w).1 hD))
 | gives h s hs hg=>exact .gives (by rw [hw]; exact h) s hs (fun w hC hD=>by rw [he]; exact hg w hC ((hd w).1 hD))
theorem Head.one {i:Nat} {o:Oper} {a:Act} {F:Nat→World→Prop} {V V':Type} {f:V→Value} {p:V→Option (World→Prop)} {f':V'→Value} {p':V'→Option (World→Prop)}
  (h:Head P ops C G md S i o a F V f p) (h':Head P ops C G md S i o a F V' f' p') (hs:SatT C F) (x:V):∃ x',f' x'=f x∧p' x'=p x:=by
 obtain ⟨w,hC,hF⟩:=hs
 have hD:Deps md o F w:=fun e _ _=>hF e.on
 cases h with
 | skip h =>
  cases h' with
  | skip h'=>exact ⟨(),rfl,rfl⟩
  | fixed h' _ _ _=>rw [h] at h'; cases h'
  | gives h' _ _ _=>rw [h] at h'; cases h'
 | fixed h hs c hf =>
  cases h' with
  | skip h'=>rw [h] at h'; cases h'
  | fixed h' hs' c' hf' =>
   refine ⟨(),?_,rfl⟩
   show c'=c
   rcases hf w hC hD with h1 | ⟨h1,rfl⟩ <;> rcases hf' w hC hD with h2 | ⟨h2,rfl⟩
   ·rw [h1] at h2; injection h2 with h2; injection h2 with h2; exact h2.symm
   ·rw [h1] at h2; injection h2 with h2; cases h2
   ·rw [h1] at h2; injection h2 with h2; cases h2
   ·rfl
  | gives h' s hs' hg'=>rw [hs] at hs'; cases hs'
 | gives h s hs hg =>
  cases h' with
  | skip h'=>rw [h] at h'; cases h'
  | fixed h' hs' c' hf'=>rw [hs] at hs'; cases hs'
  | gives h' s' hs' hg' =>
   rw [hs] at hs'
   injection hs' with hs'
   subst hs'
   exact ⟨x,rfl,rfl⟩
theorem Head.sat {i:Nat} {o:Oper} {a:Act} {F:Nat→World→Prop} {V:Type} {f:V→Value} {p:V→Option (World→Prop)} (h:Head P ops C G md S i o a F V f p) (hL:Lasts G F) (hs:SatT C F):∃ x,SatT C (updO F i (p x)):=by
 cases h with
 | skip h=>exact ⟨(),hs⟩
 | fixed h _ c hf=>exact ⟨(),hs⟩
 | gives h s hsi hg =>
  obtain ⟨w,hC,hF⟩:=hs
  have h1:=hg w hC (fun e _ _=>hF e.on)
  have key:∀ v w',G w w'→(C w'∧∃ x,v=s.f x∧s.Φ x w')→∃ x,SatT C (updO F i (some (s.Φ x))):=by
   rintro v w' hg ⟨hC',x,_,hx⟩
   refine ⟨x,w',hC',fun j=>?_⟩
   simp only [updO,upd]
   split
   ·exact ⟨hL j _ _ hg (hF j),hx⟩
   ·exact hL j _ _ hg (hF j)
  generalize (execOp a.eval o).run P w=r at h1
  cases r with
  | ok n w' =>
   cases n <;> simp only [growUpon] at h1
   case value u=>exact key _ _ h1.1 h1.2
   case skip=>exact key _ _ h1.1 h1.2
   case enter f args =>
    obtain ⟨e,w'',_,⟨v,_,hg',hr⟩,_⟩:=h1 []
    exact key v w'' hg' hr
  | halt x w'=>simp only [growUpon] at h1
theorem Head.lasts {i:Nat} {o:Oper} {a:Act} {F:Nat→World→Prop} {V:Type} {f:V→Value} {p:V→Option (World→Prop)} (hS:∀ i s,S i=some s→∀ x w w',G w w'→s.Φ x w→s.Φ x w') (h:Head P ops C G md S i o a F V f p) (hL:Lasts G F) (x:V):Lasts G (updO F i (p x)):=by
 cases h with
 | skip h=>exact hL
 | fixed h _ c hf=>exact hL
 | gives h s hs hg=>exact hL.upd i (hS i s hs x)
theorem TAny_first (hS:∀ i s,S i=some s→∀ x w w',G w w'→s.Φ x w→s.Φ x w') {i:Nat} {oi:Oper} (hi:ops[i]?=some oi) (hsel:∀ (j:Nat) (o:Oper) cs b,ops[j]?=some o→o.op≠.select cs b)
  {V:Type} {f:V→Value} {p:V→Option (World→Prop)} :
  ∀ (fuel:Nat) (listed:Array Bool) (a:Act) (F:Nat→World→Prop),Lasts G F →
   (∀ j oj,ops[j]?=some oj→j≠i→listed.getD j true=false→(∀ e∈oj.after,Region.binds md e=true→e.on≠i)→oi.apart ops oj=true) →
   i∈Region.ready md ops listed→Head P ops C G md S i oi a F V f p →
   (∀ x,TAny P md ops C G S Q fuel (listed.setIfInBounds i true) (a.put oi.dst (f x)) (updO F i (p x)))→TAny P md ops C G S Q (fuel+1) listed a F:=by
 intro fuel
 induction fuel with
 | zero =>
  intro listed a F hL _ hr hy H hsat
  refine ⟨fun h=>(by rw [h] at hr; cases hr),fun j hj oj hoj=>?_⟩
  by_cases hji:j=i
  ·subst hji
   rw [hi] at hoj
   injection hoj with hoj
   subst hoj
   exact hy.step H
  ·obtain ⟨x,hx⟩:=hy.sat hL hsat
   have:=ready_mono hj hji
   rw [(H x hx).1] at this
   cases this
 | succ fuel ih =>
  intro listed a F hL hfree hr hy H hsat
  refine ⟨fun h=>(by rw [h] at hr; cases hr),fun j hj oj hoj=>?_⟩
  by_cases hji:j=i
  ·subst hji
   rw [hi] at hoj
   injection hoj with hoj
   subst hoj
   exact hy.step H
  ·obtain ⟨hjun,oj',hoj',hall⟩:=mem_ready.1 hj
   rw [hoj] at hoj'
   injection hoj' with hoj'
   subst hoj'
   have hnot:∀ e∈oj.after,Region.binds md e=true→e.on≠i:=fun e he hb heq=>by
    have h1:=hall e he hb
    have h0:=(mem_ready.1 hr).1
    rw [heq] at h1
    rcases Nat.lt_or_ge i listed.size with h' | h'
    ·simp [h'] at h0 h1; rw [h0] at h1; cases h1
    ·simp [Array.getElem?_eq_none h'] at h1
   have hnot2:∀ e∈oi.after,Region.binds md e=true→e.on≠j:=fun e he hb heq=>by
    obtain ⟨h0,o2,ho2,hall2⟩:=mem_ready.1 hr
    rw [hi] at ho2
    injection ho2 with ho2
    subst ho2
    have h1:=hall2 e he hb
    rw [heq] at h1
    rcases Nat.lt_or_ge j listed.size with h' | h'
    ·simp [h'] at hjun h1; rw [hjun] at h1; cases h1
    ·simp [Array.getElem?_eq_none h'] at h1
   have hap:=hfree j oj hoj hji hjun hnot
   obtain ⟨a1,a2,a3⟩:=Oper.apart_spec hap
   have hsi:∀ cs b,oi.op≠.select cs b:=fun cs b=>hsel i oi cs b hi
   have hsj:∀ cs b,oj.op≠.select cs b:=fun cs b=>hsel j oj cs b hoj
   obtain ⟨x0,hx0⟩:=hy.sat hL hsat
   obtain ⟨Vj,fj,pj,hj0,_⟩:=head_of_step ((H x0 hx0).2 j (ready_mono hj hji) oj hoj)
   have hjH:∀ x,Head P ops C G md S j oj (a.put oi.dst (f x)) (updO F i (p x)) Vj fj pj:=fun x =>
    hj0.same ((execOp_put oj hsj a oi.dst _ a1).trans (execOp_put oj hsj a oi.dst _ a1).symm) ((wanted_put oj a oi.dst _ a1).trans (wanted_put oj a oi.dst _ a1).symm) (fun w=>(deps_updO hnot w).trans (deps_updO hnot w).symm)
   have hja:Head P ops C G md S j oj a F Vj fj pj:=hj0.same (execOp_put oj hsj a oi.dst _ a1).symm (wanted_put oj a oi.dst _ a1).symm (fun w=>(deps_updO hnot w).symm)
   refine hja.step fun y=>?_
   refine ih (listed.setIfInBounds j true) (a.put oj.dst (fj y)) (updO F j (pj y)) (hja.lasts hS hL y) ?_ (ready_mono hr (Ne.symm hji)) ?_ ?_
   ·intro k ok hk hki hun hno
    refine hfree k ok hk hki ?_ hno
    by_cases hjk:j=k
    ·subst hjk; exact hjun
    ·rw [getD_set_ne true hjk] at hun; exact hun
   ·exact hy.same (execOp_put oi hsi a oj.dst _ a3) (wanted_put oi a oj.dst _ a3) (fun w=>deps_updO hnot2 w)
   ·intro x
    rw [← updO_comm (Ne.symm hji),← Act.put_comm a (f x) (fj y) a2,Array.setIfInBounds_comm _ _ hji]
    have hb:SatT C (updO F i (p x))→TAny P md ops C G S Q fuel ((listed.setIfInBounds i true).setIfInBounds j true) ((a.put oi.dst (f x)).put oj.dst (fj y)) (updO (updO F i (p x)) j (pj y)):=by
     intro hsx
     obtain ⟨V',f',p',h',hk'⟩:=head_of_step ((H x hsx).2 j (ready_mono hj hji) oj hoj)
     obtain ⟨y',e1,e2⟩:=(hjH x).one h' hsx y
     rw [← e1,← e2]
     exact hk' y'
    cases fuel with
    | zero=>exact fun hs=>hb (sat_updO hs) hs
    | succ fuel=>exact fun hs=>hb (sat_updO hs) hs
theorem TAny_lex (hS:∀ i s,S i=some s→∀ x w w',G w w'→s.Φ x w→s.Φ x w') (hs:Region.noSelect ops=true):∀ (l:List Oper) (k:Nat) (listed:Array Bool) (a:Act) (F:Nat→World→Prop),Lasts G F→(∀ j,l[j]?=ops[k+j]?) →
  Region.lexFrom md ops l.length k listed=true→wpGrow P ops C G md S Q l k a F→TAny P md ops C G S Q l.length listed a F
 | [],_,_,_,_,_,_,hB,h=>fun _=>⟨by simpa [Region.lexFrom] using hB,h⟩
 | o :: l,k,listed,a,F,hL,hl,hB,h=>by
  have h0:ops[k]?=some o:=by simpa using (hl 0).symm
  simp only [List.length_cons,Region.lexFrom,Bool.and_eq_true] at hB
  obtain ⟨⟨hr,hf⟩,hB'⟩:=hB
  obtain ⟨V,f,p,hh,hk⟩:=head_of_step (show stepT P ops C G md S k o (wpGrow P ops C G md S Q l (k+1)) a F from h)
  exact TAny_first hS h0 (Region.noSelect_spec hs) l.length listed a F hL (Region.free_spec h0 hf) (by simpa using hr) hh
   (fun x=>TAny_lex hS hs l (k+1) _ _ _ (hh.lasts hS hL x) (fun j=>by have:=hl (j+1); simpa [Nat.add_assoc,Nat.add_comm 1 j] using this) hB' (hk x))
structure GrowAt (P:Program) (ops:Array Oper) (C:World→Prop) (G:World→World→Prop) (md:Region.Mode) (S:Nat→Option RSpec) (Q:Act→World→Prop) (l:List Oper) (k:Nat) (a:Act) (F:Nat→World→Prop):Prop where
 out:wpGrow P ops C G md S Q l k a F
theorem wp_region_grow {id:Nat} {Q':Exit→Act→World→Prop} {a:Act} {w:World} {l:List Oper} (S:Nat→Option RSpec) (C:World→Prop) (G:World→World→Prop)
  (hm:P.follows .mixedOrders=true) (hB:Region.lexB .any l.toArray=true) (hS:∀ i s,S i=some s→∀ x w w',G w w'→s.Φ x w→s.Φ x w') (hC:C { w with drawn:=w.drawn+1 })
  (h:GrowAt P l.toArray C G .any S (fun a w=>Q' .normal a w) l 0 a (fun _ _=>True)):(Code.region id l.toArray true).wp P Q' a w:=by
 simp only [Region.lexB,Bool.and_eq_true] at hB
 refine wp_region_any hm (wpAny_of_T hS (fun _ _ h=>h) _ _ _ _ _ hC (fun _=>trivial) (fun _ _ _ _ _=>trivial) ?_)
 have:=TAny_lex (C:=C) (G:=G) (md:=.any) hS hB.1 l 0 (Array.replicate l.toArray.size false) a (fun _ _=>True) (fun _ _ _ _ _=>trivial) (by simp) (by simpa using hB.2) h.out
 simpa using this
theorem grow_skip (k':Nat) (r:Option Bool) (b:Bool) {j:Nat} {o:Oper} {rest:List Oper} {k:Nat} {a:Act} {F:Nat→World→Prop} (hk:k+1=k') (hg:o.guard=some (j,b)) (hy:yielded ops a.tmps j=r) (hr:(r == some b)=false)
  (h:GrowAt P ops C G md S Q rest k' (a.put o.dst undef) F):GrowAt P ops C G md S Q (o :: rest) k a F:=by
 have hw:Region.wanted o (yielded ops a.tmps)=false:=by
  unfold Region.wanted
  rw [hg]
  simp only [hy]
  exact hr
 subst hk
 refine ⟨?_⟩
 show stepT P ops C G md S k o _ a F
 unfold stepT
 rw [if_neg (by rw [hw]; decide)]
 exact h.out
theorem grow_fix (k':Nat) (c:Value) {o:Oper} {rest:List Oper} {k:Nat} {a:Act} {F:Nat→World→Prop} (hk:k+1=k') (hs:S k=none) (hw:Region.wanted o (yielded ops a.tmps)=true)
  (hf:∀ w,C w→Deps md o F w→(execOp a.eval o).run P w=.ok (.value c) w) (h:GrowAt P ops C G md S Q rest k' (a.put o.dst c) F):GrowAt P ops C G md S Q (o :: rest) k a F:=by
 subst hk
 refine ⟨?_⟩
 show stepT P ops C G md S k o _ a F
 unfold stepT
 rw [if_pos hw]
 simp only [hs]
 exact ⟨c,fun w hC hD=>.inl (hf w hC hD),h.out⟩
theorem grow_give (k':Nat) (s:RSpec) {o:Oper} {rest:List Oper} {k:Nat} {a:Act} {F:Nat→World→Prop} (hk:k+1=k') (hs:S k=some s) (hw:Region.wanted o (yielded ops a.tmps)=true)
  (hg:∀ w,C w→Deps md o F w→growUpon P G w (fun v w'=>C w'∧∃ x,v=s.f x∧s.Φ x w') ((execOp a.eval o).run P w)) (h:∀ x,GrowAt P ops C G md S Q rest k' (a.put o.dst (s.f x)) (upd F k (s.Φ x))):GrowAt P ops C G md S Q (o :: rest) k a F:=by
 subst hk
 refine ⟨?_⟩
 show stepT P ops C G md S k o _ a F
 unfold stepT
 rw [if_pos hw]
 simp only [hs]
 exact ⟨hg,fun x=>(h x).out⟩
theorem grow_nil {k:Nat} {a:Act} {F:Nat→World→Prop} (h:∀ w,C w→(∀ j,F j w)→Q a w):GrowAt P ops C G md S Q [] k a F:=⟨h⟩
theorem deps_get {o:Oper} {F:Nat→World→Prop} {w:World} (h:Deps md o F w) (j:Nat) (hj:(o.after.any fun e=>Region.binds md e && e.on == j)=true):F j w:=by
 obtain ⟨e,he,hb⟩:=Array.any_eq_true'.1 hj
 simp only [Bool.and_eq_true,beq_iff_eq] at hb
 have:=h e he hb.1
 rwa [hb.2] at this
theorem upd_hit {F:Nat→World→Prop} {i j:Nat} {p:World→Prop} {w:World} (h:upd F i p j w) (e:j=i):p w:=by
 unfold upd at h
 rw [if_pos e] at h
 exact h.2
theorem upd_miss {F:Nat→World→Prop} {i j:Nat} {p:World→Prop} {w:World} (h:upd F i p j w) (e:j≠i):F j w:=by
 unfold upd at h
 rwa [if_neg e] at h
theorem give_enter {o:Oper} {a:Act} {w:World} {R:Value→World→Prop} {f:FuncId} {args:Array Value} (hr:(execOp a.eval o).run P w=.ok (.enter f args) w)
  (hc:Calls P f args w (fun e w''=>∃ v,e=.returned v∧G w w''∧R v w'')):growUpon P G w R ((execOp a.eval o).run P w):=by
 rw [hr]; exact hc
def specOf:List (Nat × RSpec)→Nat→Option RSpec
 | [],_=>none
 | (i,s) :: l,k=>if k=i then some s else specOf l k
def Stab (G:World→World→Prop) (l:List (Nat × RSpec)):Prop:=∀ i s,specOf l i=some s→∀ x w w',G w w'→s.Φ x w→s.Φ x w'
theorem stab_nil:Stab G []:=fun _ _ h=>by cases h
theorem stab_cons {i:Nat} {s:RSpec} {l:List (Nat × RSpec)} (h:∀ x w w',G w w'→s.Φ x w→s.Φ x w') (hl:Stab G l):Stab G ((i,s) :: l):=by
 intro k t ht
 unfold specOf at ht
 split at ht
 ·injection ht with ht
  subst ht
  exact h
 ·exact hl k t ht
theorem calls_cst {W w:World} {f:FuncId} {args:Array Value} {c:Value} (hC:Below W.heap.size W w) (h:Calls P f args w fun e w'=>e=.returned c∧Below w.heap.size w w') :
  Calls P f args w (fun e w''=>∃ v,e=.returned v∧Below w.heap.size w w''∧(Below W.heap.size W w''∧∃ _x:Unit,v=c∧True)) :=
 h.mono fun _ _ ⟨he,hb⟩=>⟨c,he,hb,hC.trans (hb.mono hC.size),(),rfl,trivial⟩
end
end Go.Proofs.YtmomjpolkkbhnaaGreat
end
