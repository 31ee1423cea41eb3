/- Short names for facts that are named often. -/
import Derived.Lib.Hide
import Derived.WalkKit
import Derived.WalkSpells
import Derived.WalkLawsBesides
import Derived.Handy
import Derived.Deep.AppendLies
import Derived.Laws.CopyOwn
import Derived.Lib.Strings
import Derived.Test.YtmomjpolkkbhnaaGreatProg
set_option maxRecDepth 20000
set_option maxHeartbeats 100000000
set_option linter.unusedSimpArgs false
open Go.Proofs.Tryz
namespace Go.Proofs.YtmomjpolkkbhnaaGreat
section
open Go.RowKit
theorem zh {p : Prop} (h : p) : RowKit.Hid p := h
theorem zA.{u} {α : Type u} {xs : List α} {i : Nat} : xs.toArray[i]? = xs[i]? := List.getElem?_toArray
theorem zB.{u} {α : Type u} {a : α} {l : List α} : (a :: l)[0]? = some a := rfl
theorem zC.{u} {α : Type u} {a : α} {i : Nat} {l : List α} : (a :: l)[i + 1]? = l[i]? := rfl
theorem zD.{u} {α : Type u} (l : List α) (i : Nat) (a : α) : l.toArray.setIfInBounds i a = (l.set i a).toArray := List.setIfInBounds_toArray l i a
theorem zE.{u} {α : Type u} {x : α} {xs : List α} {a : α} : (x :: xs).set 0 a = a :: xs := rfl
theorem zF.{u} {α : Type u} {x : α} {xs : List α} {i : Nat} {a : α} : (x :: xs).set (i + 1) a = x :: xs.set i a := rfl
theorem zG (n : Nat) : n ≤ n := Nat.le_refl n
theorem jo {p : Prop} (h : p := by omega) : p := h
theorem jr {p : Prop} (h : p := by rfl) : p := h
theorem jd {p : Prop} (h : p := by decide) : p := h
theorem jz {p : Prop} (h : p := by simp) : p := h
theorem jm {p : Prop} (h : p := by simp; omega) : p := h
theorem jq {p : Prop} (h : p := by decide +kernel) : p := h
end

section
open Go.RowKit
theorem qY{P:Program}(ts tb tu:TypeId)(s:ByteArray)(h1:P.underlying ts=some .string)(h2:P.underlying tb=some (.slice tu))(h3:P.underlying tu=some (.int .u8)) :
  ∃(cap:World→Nat) (C:World→Array Value) (fr:World→Nat × Nat),(∀w,(convert ts tb (.string s)).run P w=.ok (.slice (some ⟨w.heap.size,0,none⟩) s.size (cap w)) (w.drew.alloc (.cells (C w) tu (fr w)))) ∧
   ∀w (j:Nat) (h:j<s.size),(C w)[j]?=some (.int .u8 ((s[j]).toNat:Int)):=by
 refine⟨_,_,_,fun w=>run_bytes_of_string w ts tb tu s h1 h2 h3,fun w j h=>?_⟩;have a:j<s.data.size:=h;simp only[bytesRow,Array.getElem?_append,Array.size_map,a,if_true,Array.getElem?_map,Array.getElem?_eq_getElem a,Option.map_some];rfl
theorem nW(s:ByteArray)(k:Nat)(h:k<s.size):s.data.toList.take (k+1)=s.data.toList.take k ++ [s[k]]:=by
 rw[List.take_succ_eq_append_getElem (by simpa using h)];rfl
theorem tZ(w:World)(o:Obj)(C:Array Value)(t:TypeId)(fr:Nat × Nat)(j:Nat):((w.alloc o).alloc (.cells C t fr)).drew.cell? ⟨w.heap.size+1,j,none⟩=C[j]?:=by
 have h:=World.cell?_alloc_mark (w.alloc o) C t fr j
 simpa using h
theorem fB(s:ByteArray):s.data.toList.length=s.size:=by rw[Array.length_toList];rfl
theorem EJ(a:Addr)(n:Nat):(a.add n).block=a.block:=by unfold Addr.add;split<;>rfl
theorem fA{fn:Func}{p:Tmp}{ty:TypeId}(h:fn.results=#[.cell p ty]){tmps:Array Value}{P:Program}{w:World}{a:Addr}{v:Value}(ha:tmps.getD p undef=.pointer (some a))(hl:(loadVar ty a).run P w=.ok v w) :
  (results fn tmps).run P w=.ok v w:=by
 have b:tmps[p]?.getD undef=.pointer (some a):=by simpa using ha
 simp only[results,h];simp[b,asAddr,hl]
theorem yE{P:Program}{ops:Array Oper}{rest:List Oper}{o:Oper}{a:Act}{Q:Exit→Act→World→Prop}{w:World}(hgd:o.guard=none)(x y:Operand)(t u:TypeId)(ho:o.op=.binOp .lss t x y u)(k:IntKind)(m n:Int)
  (hx:a.eval x=.int k m) (hy:a.eval y=.int k n) (b:Bool) (hb:decide (m<n)=b) (hk:wpList P ops Q rest (a.put o.dst (.bool b)) w):wpList P ops Q (o::rest) a w:=
 wpList_plain hgd fun _ hK=>by
  have h:(execOp a.eval o).run P w=.ok (.value (.bool b)) w:=by
   subst hb;simp only[execOp,ho,hx,hy];simp[go_sem]
  unfold Oper.wp;rw[h];exact hK _ _ hk
theorem jG{P:Program}{f:FuncId}{args:Array Value}{w0 wc:World}{v:Ending}(hb:Below w0.heap.size w0 wc)(c:Calls P f args wc fun e w'=>e=v∧Below wc.heap.size wc w') :
  Calls P f args wc fun e w'=>e=v∧Below w0.heap.size w0 w':=c.mono fun _ _ ⟨he,h⟩=>⟨he,hb.trans (h.mono hb.size)⟩
theorem fH{w w':World}(h:Below w.heap.size w w')(row:Option Nat):w.grownBy w' row:=⟨h.os,h.tape,h.output,h.size,fun i a _=>h.block i a⟩
def Blk(w:World)(g:Nat)(t:TypeId)(cs:Array Value):Prop:=w.heap[g]?=some (.cells cs t (0,0))
section
variable {w w':World} {g:Nat} {t:TypeId} {cs:Array Value}
theorem Blk.lt(h:Blk w g t cs):g<w.heap.size:=by
 rcases Nat.lt_or_ge g w.heap.size with a|hge
 ·exact a
 unfold Blk at h;rw[Array.getElem?_eq_none hge]at h;cases h
theorem Blk.cell(h:Blk w g t cs)(i:Nat):w.cell? ⟨g,i,none⟩=cs[i]?:=cell_of_row w g i cs t (0,0) h
theorem Blk.frozen(h:Blk w g t cs)(i:Nat):w.frozen? ⟨g,i,none⟩=false:=by
 unfold Blk at h;simp[World.frozen?,h]
theorem Blk.new(w:World)(t:TypeId)(cs:Array Value):Blk (w.alloc (.cells cs t)) w.heap.size t cs:=heap_alloc_new w _
theorem Blk.drew(h:Blk w g t cs):Blk w.drew g t cs:=h
theorem Blk.drewN(h:Blk w g t cs)(n:Nat):Blk (w.drewN n) g t cs:=h
theorem Blk.alloc(h:Blk w g t cs)(o:Obj):Blk (w.alloc o) g t cs:=(Below.heap_alloc w o g h.lt).trans h
theorem Blk.set_(h:Blk w g t cs)(i:Nat)(u:Value):Blk (w.setCell ⟨g,i,none⟩ u) g t (cs.setIfInBounds i u):=by
 unfold Blk at h ⊢;simp[World.setCell,Array.getElem?_modify,h]
theorem Blk.far(h:Blk w g t cs){p:Addr}(hp:g≠p.block)(u:Value):Blk (w.setCell p u) g t cs:=(Below.heap_setCell w p u g hp).trans h
theorem Blk.below{B:Nat}(h:Blk w g t cs)(hb:Below B w w')(hg:g<B):Blk w' g t cs:=(hb.block g hg).trans h
theorem Blk.grown{row:Option Nat}(h:Blk w g t cs)(hb:w.grownBy w' row)(hg:some g≠row):Blk w' g t cs:=(hb.block g h.lt hg).trans h
theorem Blk.ne_{g':Nat}{t':TypeId}{cs':Array Value}(h:Blk w g t cs)(h':Blk w g' t' cs')(hne:t≠t'):g≠g':=by
 rintro rfl;unfold Blk at h h';rw[h]at h';injection h' with h';injection h' with _ ht;exact hne ht
end
def Reads(w:World)(B size:Nat)(A:Option Addr)(n:Nat)(xs:List Value):Prop:=
 xs.length=n*size∧(0<n→∃b o,A=some ⟨b,o,none⟩∧b<B∧∀j u,xs[j]?=some u→w.cell? ⟨b,o+j,none⟩=some u)
section
variable {w w':World} {B B' size n:Nat} {A:Option Addr} {xs:List Value}
theorem Reads.none_:Reads w B size A 0 []:=⟨by simp,fun h=>absurd h (by omega)⟩
theorem Reads.at_{k:Nat}(h:Reads w B 1 A n xs)(hk:k<n):∃b o u,A=some ⟨b,o,none⟩∧b<B∧xs[k]?=some u∧w.cell? ⟨b,o+k,none⟩=some u:=by
 obtain⟨b,o,e,c,d⟩:=h.2 jo;have a:k<xs.length:=by have:=h.1;omega
 exact⟨b,o,xs[k],e,c,List.getElem?_eq_getElem a,d k _ (List.getElem?_eq_getElem a)⟩
theorem Reads.at_map{α:Type}{f:α→Value}{l:List α}{k:Nat}(h:Reads w B 1 A n (l.map f))(hk:k<n):∃b o,∃hl:k<l.length,A=some ⟨b,o,none⟩∧b<B∧w.cell? ⟨b,o+k,none⟩=some (f l[k]):=by
 obtain⟨b,o,u,e,d,a,c⟩:=h.at_ hk;have hl:k<l.length:=by have:=h.1;rw[List.length_map]at this;omega
 rw[List.getElem?_map,List.getElem?_eq_getElem hl]at a;simp only[Option.map_some,Option.some.injEq]at a;exact⟨b,o,hl,e,d,by rw[a];exact c⟩
theorem Reads.keep(h:Reads w B size A n xs)(hk:∀b o,b<B→w'.cell? ⟨b,o,none⟩=w.cell? ⟨b,o,none⟩):Reads w' B size A n xs:=
 ⟨h.1,fun c=>by
  obtain⟨b,o,e,a,d⟩:=h.2 c
  exact⟨b,o,e,a,fun j u f=>(hk b _ a).trans (d j u f)⟩⟩
theorem Reads.more(h:Reads w B size A n xs)(hB:B≤B'):Reads w B' size A n xs:=
 ⟨h.1,fun a=>by
  obtain⟨b,o,e,d,c⟩:=h.2 a
  exact⟨b,o,e,jo,c⟩⟩
theorem Reads.below(h:Reads w B size A n xs)(hb:Below B w w'):Reads w' B size A n xs:=h.keep fun _ _ a=>hb.cell a
theorem Reads.grown{row:Option Nat}(h:Reads w B size A n xs)(hg:w.grownBy w' row)(hB:B≤w.heap.size)(hr:∀b o,A=some ⟨b,o,none⟩→0<n→some b≠row):Reads w' B size A n xs:=
 ⟨h.1,fun a=>by
  obtain⟨b,o,e,d,c⟩:=h.2 a
  exact⟨b,o,e,d,fun j u f=>(World.cell?_of_block (hg.block b jo (hr b o e a))).trans (c j u f)⟩⟩
theorem Reads.drew(h:Reads w B size A n xs):Reads w.drew B size A n xs:=h
theorem Reads.drewN(h:Reads w B size A n xs)(k:Nat):Reads (w.drewN k) B size A n xs:=h
theorem Reads.alloc(h:Reads w B size A n xs)(hB:B≤w.heap.size)(o:Obj):Reads (w.alloc o) B size A n xs:=h.keep fun b o a=>World.cell?_alloc_lt w _ ⟨b,o,none⟩ (by show b < _;omega)
theorem Reads.of_own{base:Nat}{e:TypeId}{c:Nat}(h:w.ownsRow base e size (.slice A n c) n xs):Reads w w.heap.size size A n xs:=by
 refine⟨h.1,fun m=>?_⟩;rcases h.2 with⟨b,o⟩|⟨g,f,d,b,_,i,_⟩
 ·omega
 have k:A=some ⟨g,0,none⟩:=by injection b
 subst k;refine⟨_,_,rfl,(Array.getElem?_eq_some_iff.1 i).1,fun j u l=>?_⟩;have:=h.cells (g:=g) rfl j u l;have a:(⟨g,0,none⟩:Addr).add j=⟨g,j,none⟩:=by unfold Addr.add;split<;>simp_all
 rw[a]at this;rw[Nat.zero_add];exact this
theorem Reads.of_in{A:Option Addr}{a:Addr}{len:Nat}{f:Nat→Value}(hA:A=some a)(hb:a.block<B)(hc:∀i,i<len→w.cell? (a.add i)=some (f i)):Reads w B 1 A len ((List.range len).map f):=by
 refine⟨jz,fun l=>?_⟩;obtain⟨b,o,k⟩:=a;have m:=hc 0 l;have d:k=none:=by simpa[Addr.add]using World.cell?_spot m
 subst d;refine⟨b,o,hA,hb,fun j u e=>?_⟩
 have h:j<len:=by
  have:=(List.getElem?_eq_some_iff.1 e).1
  simpa using this
 simp only[List.getElem?_map,List.getElem?_range h,Option.map_some,Option.some.injEq]at e;subst e;have:=hc j h;have c:(⟨b,o,none⟩:Addr).add j=⟨b,o+j,none⟩:=by unfold Addr.add;split<;>simp_all
 rw[c]at this;exact this
end
theorem fT{w:World}{base:Nat}{e:TypeId}{size n:Nat}{v:Value}{xs:List Value}(h:w.ownsRow base e size v n xs):∃A c,v=.slice A n c∧Reads w w.heap.size size A n xs:=by
 obtain⟨A,c,rfl⟩:∃A c,v=.slice A n c:=by
  rcases h.2 with⟨rfl,rfl⟩|⟨g,a,b,rfl,_⟩
  ·exact⟨_,_,rfl⟩
  exact⟨_,_,rfl⟩
 exact⟨A,c,rfl,Reads.of_own h⟩
theorem zt {a b c:World} (h:RowKit.Hid (Below a.heap.size a b)) (k:Below b.heap.size b c):RowKit.Hid (Below a.heap.size a c):=zh (h.out.trans (k.mono h.out.size))
theorem zb {w w':World} {g:Nat} {t:TypeId} {cs:Array Value} (h:RowKit.Hid (Blk w g t cs)) (k:Below w.heap.size w w'):RowKit.Hid (Blk w' g t cs):=zh (h.out.below k h.out.lt)
abbrev zWW (w w':World):=Below w.heap.size w w'
theorem zRR {w:World}(o:Obj):Below w.heap.size w (w.alloc o):=(Below.refl _ _).alloc (zG _) o
abbrev zH:=@if_neg
abbrev zI:=@if_pos
abbrev zJ:=@List.length_append
abbrev zK:=@List.length_take
abbrev zL:=@List.take_succ_eq_append_getElem
abbrev zM:=@beq_eq_false_iff_ne
abbrev zN:=@decide_eq_false
abbrev zO:=@decide_eq_true
abbrev zP:=@List.length_drop
abbrev zQ:=@List.cons.injEq
abbrev zR:=@List.take_of_length_le
abbrev zS:=@Nat.zero_le
abbrev zT:=@Nat.lt_of_lt_of_le
abbrev zU:=@List.getElem?_eq_getElem
abbrev zV:=@List.length_cons
abbrev zX:=@List.take_succ_cons
abbrev zY:=@Nat.le_trans
abbrev zZ:=@Nat.le_succ
abbrev za:=@List.getElem_mem
abbrev zf:=@List.drop_eq_getElem_cons
abbrev zg:=@decide_eq_true_eq
abbrev zi:=@Nat.zero_add
abbrev zj:=@Nat.lt_or_ge
abbrev zl:=@List.getElem_append_left
abbrev zm:=@List.length_singleton
abbrev zn:=@List.getElem_append_right
abbrev zo:=@List.drop_succ_cons
abbrev zp:=@Array.getElem?_eq_none
abbrev zr:=@Bool.and_eq_true
abbrev zu:=@List.mem_iff_getElem
abbrev zv:=@run_loadVar_row
abbrev zw:=@bodyPost_ret
abbrev zx:=@wpList_store_row
abbrev zy:=@Below.refl
abbrev zz:=@setRow_heap
abbrev vH:=@World.news_of_block
abbrev vI:=@below_setRow
abbrev vJ:=@wpList_append_own
abbrev vK:=@heap_alloc_new
abbrev vL:=@setRow_other
abbrev vM:=@World.size_alloc
abbrev vN:=@Below.heap_setCell
abbrev vO:=@World.ownsRow_nil
abbrev vP:=@World.cell?_of_block
theorem jk {p:Prop}(h:p:=by kernel_rfl):p:=h
theorem ju {p:Prop}(h:p:=by go_num):p:=h
theorem jx {p:Prop}(h:p:=by unfold maxLen; omega):p:=h
theorem jt {p:Prop}(h:p:=by simp [Value.oneCell']):p:=h
theorem jw {p:Prop}(h:p:=by rw [List.length_take]; omega):p:=h
end

namespace Ut
open Go.RowKit
def gF(b:UInt8):Bool:=b.toNat/64==2
def acc(n:Nat)(l:List UInt8):Nat:=l.foldl (fun n x=>n*64+x.toNat%64) n
theorem uq(n:Nat):acc n []=n:=rfl
theorem qo(n:Nat)(l:List UInt8)(x:UInt8):acc n (l ++ [x])=acc n l*64+x.toNat%64:=by
 unfold acc;rw[List.foldl_append];rfl
def iw(m:Nat)(t:List UInt8)(k lo hi:Nat):Bool:=
 decide (k-1≤t.length)&&((t.take (k-1)).all gF&&(decide (lo≤acc m (t.take (k-1)))&&(decide (acc m (t.take (k-1))≤hi) && !(decide (55296≤acc m (t.take (k-1)))&&decide (acc m (t.take (k-1))≤57343)))))
def fR(m:Nat)(t:List UInt8)(k lo hi:Nat):Nat × Nat:=if iw m t k lo hi then(acc m (t.take (k-1)),k)else(65533,1)
def dec:List UInt8→Nat × Nat
 | []=>(0,0)
 | b::t=>
  if b.toNat<128 then(b.toNat,1)
  else if b.toNat/32=6 then fR (b.toNat%32) t 2 128 2047
  else if b.toNat/16=14 then fR (b.toNat%16) t 3 2048 65535
  else if b.toNat/8=30 then fR (b.toNat%8) t 4 65536 1114111
  else(65533,1)
theorem qp(b:UInt8)(t:List UInt8):dec (b::t) =
  if b.toNat<128 then(b.toNat,1)
  else if b.toNat/32=6 then fR (b.toNat%32) t 2 128 2047
  else if b.toNat/16=14 then fR (b.toNat%16) t 3 2048 65535
  else if b.toNat/8=30 then fR (b.toNat%8) t 4 65536 1114111
  else(65533,1):=rfl
theorem tj(m:Nat)(t:List UInt8)(k lo hi:Nat)(hk:1≤k)(hk4:k≤4):1≤(fR m t k lo hi).2∧(fR m t k lo hi).2≤t.length+1∧(fR m t k lo hi).2≤4:=by
 unfold fR;by_cases h:iw m t k lo hi=true
 ·rw[zI h];simp only[iw,zr,zg]at h;have a:=h.1;exact⟨hk,by show k≤_;omega,hk4⟩
 rw[zH h];exact⟨zG _,by show 1≤_;omega,jd⟩
theorem pu(l:List UInt8)(h:l≠[]):1≤(dec l).2∧(dec l).2≤l.length∧(dec l).2≤4:=by
 match l,h with
 | b::t,_=>
  rw[qp];by_cases c:b.toNat<128
  ·rw[zI c];simp
  rw[zH c];by_cases d:b.toNat/32=6
  ·rw[zI d];exact tj _ _ _ _ _ jo jo
  rw[zH d];by_cases a:b.toNat/16=14
  ·rw[zI a];exact tj _ _ _ _ _ jo jo
  rw[zH a];by_cases e:b.toNat/8=30
  ·rw[zI e];exact tj _ _ _ _ _ jo jo
  rw[zH e];simp
theorem tv(m:Nat)(t:List UInt8)(k lo hi:Nat)(hhi:hi≤1114111):(fR m t k lo hi).1≤1114111∧¬(55296≤(fR m t k lo hi).1∧(fR m t k lo hi).1≤57343):=by
 unfold fR;by_cases h:iw m t k lo hi=true
 ·rw[zI h];simp only[iw,zr,zg,Bool.not_eq_true',Bool.and_eq_false_iff,decide_eq_false_iff_not]at h;obtain⟨_,_,_,a,b⟩:=h;refine⟨by show acc _ _≤_;omega,?_⟩;show ¬(55296≤acc _ _∧acc _ _≤57343);omega
 rw[zH h];simp
theorem Ic(l:List UInt8):(dec l).1≤1114111∧¬(55296≤(dec l).1∧(dec l).1≤57343):=by
 match l with
 | []=>simp[dec]
 | b::t=>
  rw[qp];by_cases c:b.toNat<128
  ·rw[zI c];simp;omega
  rw[zH c];by_cases d:b.toNat/32=6
  ·rw[zI d];exact tv _ _ _ _ _ jo
  rw[zH d];by_cases a:b.toNat/16=14
  ·rw[zI a];exact tv _ _ _ _ _ jo
  rw[zH a];by_cases e:b.toNat/8=30
  ·rw[zI e];exact tv _ _ _ _ _ jo
  rw[zH e];simp
def kP:Nat→List UInt8→List Nat
 | 0,_=>[]
 | n+1,l=>if l=[]then[]else(dec l).1::kP n (l.drop (dec l).2)
def gq(l:List UInt8):List Nat:=kP l.length l
theorem yw:∀(n m:Nat) (l:List UInt8),l.length≤n→l.length≤m→kP n l=kP m l
 | 0,0,_,_,_=>rfl
 | 0,m+1,l,h,_=>by
  have:l=[]:=List.eq_nil_of_length_eq_zero jo;subst this;simp[kP]
 | n+1,0,l,_,h=>by
  have:l=[]:=List.eq_nil_of_length_eq_zero jo;subst this;simp[kP]
 | n+1,m+1,l,h1,h2=>by
  unfold kP;by_cases h:l=[]
  ·rw[zI h,zI h]
  rw[zH h,zH h];have:=pu l h;rw[yw n m (l.drop (dec l).2) (by rw[zP];omega) (by rw[zP];omega)]
theorem tz:gq []=[]:=rfl
theorem tJ(l:List UInt8)(h:l≠[]):gq l=(dec l).1::gq (l.drop (dec l).2):=by
 have d:=pu l h
 have c:0<l.length:=by
  rcases l with _|⟨a,t⟩
  ·exact absurd rfl h
  simp
 obtain⟨n,b⟩:∃n,l.length=n+1:=⟨l.length-1,jo⟩;unfold gq;rw[b];show (if l=[]then[]else(dec l).1::kP n (l.drop (dec l).2))=_;rw[zH h,yw n (l.drop (dec l).2).length _ (by rw[zP];omega) (zG _)]
theorem uA(l:List UInt8):(gq l).length≤l.length:=by
 have a:∀(n:Nat) (l:List UInt8),l.length≤n→(kP n l).length≤l.length:=by
  intro n
  induction n with
  | zero=>intro l _;simp[kP]
  | succ n ih=>
   intro l b;unfold kP;by_cases h:l=[]
   ·rw[zI h];simp
   rw[zH h];have c:=pu l h;have:=ih (l.drop (dec l).2) (by rw[zP];omega);rw[zP]at this;simp only[zV];omega
 exact a _ l (zG _)
def iB(r:Nat):Prop:=r≤1114111∧¬(55296≤r∧r≤57343)
theorem FC(l:List UInt8):∀r∈gq l,iB r:=by
 have a:∀(n:Nat) (l:List UInt8),∀r∈kP n l,iB r:=by
  intro n
  induction n with
  | zero=>intro l r h;simp[kP]at h
  | succ n ih=>
   intro l r h;unfold kP at h;by_cases b:l=[]
   ·rw[zI b]at h;simp at h
   rw[zH b]at h;rcases List.mem_cons.1 h with rfl|h
   ·exact Ic l
   exact ih _ r h
 exact a _ l
def fix(r:Int):Nat:=if r<0∨1114111<r∨(55296≤r∧r≤57343)then 65533 else r.toNat
theorem Ie(r:Int):iB (fix r):=by
 unfold fix iB;by_cases h:r<0∨1114111<r∨(55296≤r∧r≤57343)
 ·rw[zI h];omega
 rw[zH h];omega
theorem EZ(r:Nat)(h:iB r):fix r=r:=by
 unfold fix iB at *;rw[zH jo];omega
def B(n:Nat):UInt8:=UInt8.ofNat n
theorem lX(n:Nat)(h:n<256):(B n).toNat=n:=by
 unfold B;rw[UInt8.toNat_ofNat'];exact Nat.mod_eq_of_lt (by simpa using h)
def fE(r:Nat):List UInt8:=
 if r<128 then[B r]
 else if r<2048 then[B (192+r/64),B (128+r%64)]
 else if r<65536 then[B (224+r/4096),B (128+r/64%64),B (128+r%64)]
 else[B (240+r/262144),B (128+r/4096%64),B (128+r/64%64),B (128+r%64)]
def enc(r:Int):List UInt8:=fE (fix r)
def gh(rs:List Int):List UInt8:=rs.flatMap enc
theorem Ea(rs:List Int)(r:Int):gh (rs ++ [r])=gh rs++enc r:=by simp[gh]
theorem nI(r:Int):1≤(enc r).length∧(enc r).length≤4:=by
 unfold enc fE;by_cases b:fix r<128
 ·rw[zI b];simp
 rw[zH b];by_cases c:fix r<2048
 ·rw[zI c];simp
 rw[zH c];by_cases a:fix r<65536
 ·rw[zI a];simp
 rw[zH a];simp
theorem yF(rs:List Int):(gh rs).length≤4*rs.length:=by
 induction rs with
 | nil=>simp[gh]
 | cons r rs ih=>
  have:=nI r;have e:gh (r::rs)=enc r++gh rs:=by simp[gh]
  rw[e,zJ,zV];omega
theorem KP(r:Nat)(h:iB r)(t:List UInt8):dec (fE r++t)=(r,(fE r).length):=by
 unfold iB at h;unfold fE;by_cases e:r<128
 ·rw[zI e];simp only[List.cons_append,List.nil_append,dec,lX r jo,zI e,zm]
 rw[zH e];by_cases g:r<2048
 ·rw[zI g];simp only[List.cons_append,List.nil_append,dec,lX (192+r/64) jo];rw[zH jo,zI jo];have a:=lX (128+r%64) jo
  have b:acc ((192+r/64)%32) ((B (128+r%64)::t).take 1)=r:=by
   simp only[zX,List.take_zero,acc,List.foldl_cons,List.foldl_nil,a];omega
  have c:iw ((192+r/64)%32) (B (128+r%64)::t) 2 128 2047=true:=by
   simp only[iw,show 2-1=1 from rfl,b,zr,zg,Bool.not_eq_true',Bool.and_eq_false_iff,decide_eq_false_iff_not];refine⟨jz,?_,jo,jo,jo⟩;simp only[zX,List.take_zero,List.all_cons,List.all_nil,Bool.and_true,gF,a,beq_iff_eq];omega
  unfold fR;rw[zI c,show 2-1=1 from rfl,b];rfl
 rw[zH g];by_cases f:r<65536
 ·rw[zI f];simp only[List.cons_append,List.nil_append,dec,lX (224+r/4096) jo];rw[zH jo,zH jo,zI jo];have a:=lX (128+r/64%64) jo;have d:=lX (128+r%64) jo
  have b:acc ((224+r/4096)%16) ((B (128+r/64%64)::B (128+r%64)::t).take 2)=r:=by
   simp only[zX,List.take_zero,acc,List.foldl_cons,List.foldl_nil,a,d];omega
  have c:iw ((224+r/4096)%16) (B (128+r/64%64)::B (128+r%64)::t) 3 2048 65535=true:=by
   simp only[iw,show 3-1=2 from rfl,b,zr,zg,Bool.not_eq_true',Bool.and_eq_false_iff,decide_eq_false_iff_not];refine⟨jz,?_,jo,jo,jo⟩;simp only[zX,List.take_zero,List.all_cons,List.all_nil,Bool.and_true,gF,a,d,beq_iff_eq,zr];omega
  unfold fR;rw[zI c,show 3-1=2 from rfl,b];rfl
 rw[zH f];simp only[List.cons_append,List.nil_append,dec,lX (240+r/262144) jo];rw[zH jo,zH jo,zH jo,zI jo];have a:=lX (128+r/4096%64) jo;have d:=lX (128+r/64%64) jo;have i:=lX (128+r%64) jo
 have b:acc ((240+r/262144)%8) ((B (128+r/4096%64)::B (128+r/64%64)::B (128+r%64)::t).take 3)=r:=by
  simp only[zX,List.take_zero,acc,List.foldl_cons,List.foldl_nil,a,d,i];omega
 have c:iw ((240+r/262144)%8) (B (128+r/4096%64)::B (128+r/64%64)::B (128+r%64)::t) 4 65536 1114111=true:=by
  simp only[iw,show 4-1=3 from rfl,b,zr,zg,Bool.not_eq_true',Bool.and_eq_false_iff,decide_eq_false_iff_not];refine⟨jz,?_,jo,jo,jo⟩;simp only[zX,List.take_zero,List.all_cons,List.all_nil,Bool.and_true,gF,a,d,i,beq_iff_eq,zr];omega
 unfold fR;rw[zI c,show 4-1=3 from rfl,b];rfl
theorem KQ(r:Nat):fE r≠[]:=by
 unfold fE;by_cases b:r<128
 ·rw[zI b];simp
 rw[zH b];by_cases c:r<2048
 ·rw[zI c];simp
 rw[zH c];by_cases a:r<65536
 ·rw[zI a];simp
 rw[zH a];simp
theorem EK(rs:List Int)(t:List UInt8):gq (gh rs++t)=rs.map fix++gq t:=by
 induction rs with
 | nil=>rfl
 | cons r rs ih=>
  have e:gh (r::rs)++t=fE (fix r)++(gh rs++t):=by simp[gh,enc]
  rw[e,tJ _ (by simp[KQ]),KP _ (Ie r),List.drop_left,ih];rfl
def lower(r:Int):Int:=
 if(65≤r∧r≤90)∨(192≤r∧r≤222∧r≠215)∨(913≤r∧r≤939∧r≠930)∨(1040≤r∧r≤1071)then r+32
 else if 1024≤r∧r≤1039 then r+80 else r
def gA(r:Int):Bool:=
 decide ((48≤r∧r≤57)∨(65≤r∧r≤90)∨(97≤r∧r≤122)∨(192≤r∧r≤255∧r≠215∧r≠247)∨(913≤r∧r≤974∧r≠930)∨(1024≤r∧r≤1119))
theorem Eb(r:Int):lower (lower r)=lower r:=by
 unfold lower
 repeat' split
 all_goals omega
theorem tK(r:Nat)(h:iB r):0≤lower r∧iB (lower r).toNat:=by
 unfold lower iB at *
 repeat' split
 all_goals omega
theorem FD(r:Int):gA (lower r)=gA r:=by
 unfold lower gA;rw[Bool.eq_iff_iff];simp only[zg]
 repeat' split
 all_goals omega
def oM(l:List Nat):List Int:=l.map Int.ofNat
theorem F9(l:List Nat)(h:∀r∈l,iB r):((oM l).map lower).map fix=l.map (fun r:Nat=>(lower (r:Int)).toNat):=by
 unfold oM;rw[List.map_map,List.map_map];refine List.map_congr_left fun r b=>?_
 have a:=tK r (h r b);show fix (lower (r:Int))=_;have:=EZ _ a.2
 rwa[Int.toNat_of_nonneg a.1]at this
end Ut

namespace Ut
open Go.RowKit
def inB(f t b r:Int):Bool:=decide (f≤r)&&(decide (r≤t)&&decide (r≠b))
theorem ut{f t b r:Int}(h:f≤r∧r≤t∧r≠b):inB f t b r=true:=by
 unfold inB;simp[h.1,h.2.1,h.2.2]
theorem rP{f t b r:Int}(h:r<f∨t<r∨r=b):inB f t b r=false:=by
 unfold inB;simp only[Bool.and_eq_false_iff,decide_eq_false_iff_not];omega
theorem ig(f t b r:Int)(w:World) :
  Calls prog 182 #[.agg #[.int .i64 f,.int .i64 t,.int .i64 b],.int .i64 r] w fun e w'=>e=.returned (.bool (inB f t b r))∧zWW w w':=by
 have d:zWW w (w.alloc (.cells #[.int .i64 f,.int .i64 t,.int .i64 b] 224)):=zRR _;have c:=zh d;clear d;by_cases i:f≤r
 ·by_cases h:r≤t
  ·by_cases a:r=b
   ·have e:inB f t b r=false:=rP jo;rw[e];have g:(r==b)=true:=by simp[a]
    have j:(r != b)=false:=by simp[a]
    clear a e;go_enter func182,ntmps182;go_wp2;go_ret;exact⟨rfl,c.out⟩
   have e:inB f t b r=true:=ut ⟨i,h,a⟩;rw[e];have g:(r==b)=false:=by simp[a]
   have j:(r != b)=true:=by simp[a]
   clear a e;go_enter func182,ntmps182;go_wp2;go_ret;exact⟨rfl,c.out⟩
  have e:inB f t b r=false:=rP jo;rw[e];clear e;go_enter func182,ntmps182;go_wp2;go_ret;exact⟨rfl,c.out⟩
 have e:inB f t b r=false:=rP jo;rw[e];clear e;go_enter func182,ntmps182;go_wp2;go_ret;exact⟨rfl,c.out⟩
def gX(r:Int):Bool:=decide (55296≤r)&&decide (r≤57343)
theorem iz(r:Int)(w:World):Calls prog 202 #[.int .i64 r] w fun e w'=>e=.returned (.bool (gX r))∧w=w':=by
 by_cases a:55296≤r
 ·by_cases b:r≤57343
  ·have e:gX r=true:=by simp[gX,a,b]
   rw[e];clear e;go_enter func202,ntmps202;go_wp2;go_ret;exact⟨rfl,rfl⟩
  have e:gX r=false:=by simp[gX,b]
  rw[e];clear e;go_enter func202,ntmps202;go_wp2;go_ret;exact⟨rfl,rfl⟩
 have e:gX r=false:=by simp[gX,a]
 rw[e];clear e;go_enter func202,ntmps202;go_wp2;go_ret;exact⟨rfl,rfl⟩
def upA:Array Value:=#[.int .i64 65,.int .i64 90,.int .i64 (-1),.int .i64 192,.int .i64 222,.int .i64 215,.int .i64 913,.int .i64 939,.int .i64 930,.int .i64 1040,.int .i64 1071,.int .i64 (-1)]
def upZ:Array Value:=#[.int .i64 0,.int .i64 0,.int .i64 0,.int .i64 0,.int .i64 0,.int .i64 0,.int .i64 0,.int .i64 0,.int .i64 0,.int .i64 0,.int .i64 0,.int .i64 0]
theorem KT:upA.all (·.oneCell')=true:=by simp[upA,Value.oneCell']
def upf:Nat→Int
 | 0=>65
 | 1=>192
 | 2=>913
 | _=>1040
def upt:Nat→Int
 | 0=>90
 | 1=>222
 | 2=>939
 | _=>1071
def upb:Nat→Int
 | 0=>(-1)
 | 1=>215
 | 2=>930
 | _=>(-1)
theorem KU(w:World):(Instr.index 247 (.agg upA) (.int .i64 0)).run prog w=.ok (.agg #[.int .i64 65,.int .i64 90,.int .i64 (-1)]) w:=by kernel_rfl
theorem KV(w:World):(Instr.index 247 (.agg upA) (.int .i64 1)).run prog w=.ok (.agg #[.int .i64 192,.int .i64 222,.int .i64 215]) w:=by kernel_rfl
theorem KW(w:World):(Instr.index 247 (.agg upA) (.int .i64 2)).run prog w=.ok (.agg #[.int .i64 913,.int .i64 939,.int .i64 930]) w:=by kernel_rfl
theorem KX(w:World):(Instr.index 247 (.agg upA) (.int .i64 3)).run prog w=.ok (.agg #[.int .i64 1040,.int .i64 1071,.int .i64 (-1)]) w:=by kernel_rfl
theorem ML(j:Nat)(hj:j<4)(w:World):(Instr.index 247 (.agg upA) (.int .i64 (j:Int))).run prog w=.ok (.agg #[.int .i64 (upf j),.int .i64 (upt j),.int .i64 (upb j)]) w:=by
 match j,hj with
 | 0,_=>exact KU w
 | 1,_=>exact KV w
 | 2,_=>exact KW w
 | 3,_=>exact KX w
def wdA:Array Value:=#[.int .i64 48,.int .i64 57,.int .i64 (-1),.int .i64 65,.int .i64 90,.int .i64 (-1),.int .i64 97,.int .i64 122,.int .i64 (-1),.int .i64 192,.int .i64 255,.int .i64 215,.int .i64 913,.int .i64 974,.int .i64 930,.int .i64 1024,.int .i64 1119,.int .i64 (-1)]
def wdZ:Array Value:=#[.int .i64 0,.int .i64 0,.int .i64 0,.int .i64 0,.int .i64 0,.int .i64 0,.int .i64 0,.int .i64 0,.int .i64 0,.int .i64 0,.int .i64 0,.int .i64 0,.int .i64 0,.int .i64 0,.int .i64 0,.int .i64 0,.int .i64 0,.int .i64 0]
theorem KY:wdA.all (·.oneCell')=true:=by simp[wdA,Value.oneCell']
def wdf:Nat→Int
 | 0=>48
 | 1=>65
 | 2=>97
 | 3=>192
 | 4=>913
 | _=>1024
def wdt:Nat→Int
 | 0=>57
 | 1=>90
 | 2=>122
 | 3=>255
 | 4=>974
 | _=>1119
def wdb:Nat→Int
 | 0=>(-1)
 | 1=>(-1)
 | 2=>(-1)
 | 3=>215
 | 4=>930
 | _=>(-1)
theorem KZ(w:World):(Instr.index 225 (.agg wdA) (.int .i64 0)).run prog w=.ok (.agg #[.int .i64 48,.int .i64 57,.int .i64 (-1)]) w:=by kernel_rfl
theorem Ka(w:World):(Instr.index 225 (.agg wdA) (.int .i64 1)).run prog w=.ok (.agg #[.int .i64 65,.int .i64 90,.int .i64 (-1)]) w:=by kernel_rfl
theorem Kb(w:World):(Instr.index 225 (.agg wdA) (.int .i64 2)).run prog w=.ok (.agg #[.int .i64 97,.int .i64 122,.int .i64 (-1)]) w:=by kernel_rfl
theorem Kc(w:World):(Instr.index 225 (.agg wdA) (.int .i64 3)).run prog w=.ok (.agg #[.int .i64 192,.int .i64 255,.int .i64 215]) w:=by kernel_rfl
theorem Ke(w:World):(Instr.index 225 (.agg wdA) (.int .i64 4)).run prog w=.ok (.agg #[.int .i64 913,.int .i64 974,.int .i64 930]) w:=by kernel_rfl
theorem Kg(w:World):(Instr.index 225 (.agg wdA) (.int .i64 5)).run prog w=.ok (.agg #[.int .i64 1024,.int .i64 1119,.int .i64 (-1)]) w:=by kernel_rfl
theorem MM(j:Nat)(hj:j<6)(w:World):(Instr.index 225 (.agg wdA) (.int .i64 (j:Int))).run prog w=.ok (.agg #[.int .i64 (wdf j),.int .i64 (wdt j),.int .i64 (wdb j)]) w:=by
 match j,hj with
 | 0,_=>exact KZ w
 | 1,_=>exact Ka w
 | 2,_=>exact Kb w
 | 3,_=>exact Kc w
 | 4,_=>exact Ke w
 | 5,_=>exact Kg w
theorem NW(r:Int)(j:Nat)(hj:j<4)(h:inB (upf j) (upt j) (upb j) r=true):lower r=r+32∧r≤1071∧0≤r:=by
 unfold inB at h;simp only[zr,zg]at h;unfold lower
 match j,hj with
 | 0,_=>simp only[upf,upt,upb]at h;exact⟨by rw[zI jo],jo,jo⟩
 | 1,_=>simp only[upf,upt,upb]at h;exact⟨by rw[zI jo],jo,jo⟩
 | 2,_=>simp only[upf,upt,upb]at h;exact⟨by rw[zI jo],jo,jo⟩
 | 3,_=>simp only[upf,upt,upb]at h;exact⟨by rw[zI jo],jo,jo⟩
theorem lu{f t b r:Int}(h:inB f t b r=false):¬(f≤r∧r≤t∧r≠b):=by
 intro c;rw[ut c]at h
 cases h
theorem MN(r:Int)(h:∀j,j<4→inB (upf j) (upt j) (upb j) r=false):lower r=if 1024≤r∧r≤1039 then r+80 else r:=by
 have d:=lu (h 0 jo);have b:=lu (h 1 jo);have c:=lu (h 2 jo);have a:=lu (h 3 jo);simp only[upf,upt,upb]at d b c a;unfold lower;rw[zH jo]
theorem NY(r:Int)(j:Nat)(hj:j<6)(h:inB (wdf j) (wdt j) (wdb j) r=true):gA r=(r != 247):=by
 unfold inB at h;simp only[zr,zg]at h;unfold gA;rw[Bool.eq_iff_iff,zg,bne_iff_ne]
 match j,hj with
 | 0,_=>simp only[wdf,wdt,wdb]at h;omega
 | 1,_=>simp only[wdf,wdt,wdb]at h;omega
 | 2,_=>simp only[wdf,wdt,wdb]at h;omega
 | 3,_=>simp only[wdf,wdt,wdb]at h;omega
 | 4,_=>simp only[wdf,wdt,wdb]at h;omega
 | 5,_=>simp only[wdf,wdt,wdb]at h;omega
theorem MO(r:Int)(h:∀j,j<6→inB (wdf j) (wdt j) (wdb j) r=false):gA r=false:=by
 have e:=lu (h 0 jo);have d:=lu (h 1 jo);have c:=lu (h 2 jo);have a:=lu (h 3 jo);have b:=lu (h 4 jo);have f:=lu (h 5 jo);simp only[wdf,wdt,wdb]at e d c a b f;unfold gA;rw[decide_eq_false_iff_not];omega
set_option maxRecDepth 20000 in
theorem GG(r:Int)(w:World):Calls prog 184 #[.int .i64 r] w fun e w'=>e=.returned (.int .i64 (lower r))∧zWW w w':=by
 have a:zWW w ((w.alloc (.cells upZ 247)).setRow w.heap.size upA):=vI (zRR _) (zG _) _;have m:=zz (w.alloc (.cells upZ 247)) w.heap.size upZ upA 247 (0,0) (vK w _);have q:=zh a;clear a;go_enter func184,ntmps184
 go_wp2_with (first
  | (refine zx (o:=⟨none,.store 247 _ _,_,_,_,_⟩) rfl 247 _ _ rfl w.heap.size upA rfl rfl 247 upZ (vK w _) jk rfl KT ?_)
  | (refine wpList_load_row (o:=⟨some 11,.load 247 _,_,_,_,_⟩) rfl 247 _ rfl w.heap.size rfl 247 upA (0,0) _ m underlying247 rfl jk ?_))
 clear m;go_loopw [12] (fun i wr=>∃j:Nat,j≤4∧i=.int .i64 j∧(∀i,i<j→inB (upf i) (upt i) (upb i) r=false)∧zWW w wr) (fun i _=>4-(intOf i).toNat)
 case atStart=>exact⟨0,jo,rfl,fun i h=>jo,q.out⟩
 obtain⟨j,x,rfl,k,a⟩:=hrel;have Hno:=zh k;clear k;by_cases g:j<4
 ·have t:=ML j g;by_cases c:inB (upf j) (upt j) (upb j) r=true
  ·have b:=NW r j g c;have p:=b.2.1;have n:=b.2.2;have f:=zh b.1;clear b;go_wp2_with (go_at_call 182;refine(jG (a.alloc a.size _) (ig _ _ _ _ _)).mono ?_;rintro e w' ⟨rfl,a⟩);go_ret;exact⟨by rw[f.out];rfl,a⟩
  have l:inB (upf j) (upt j) (upb j) r=false:=by simpa using c
  have Hin:=zh l;clear c;go_wp2_with (go_at_call 182;refine(jG (a.alloc a.size _) (ig _ _ _ _ _)).mono ?_;rintro e w' ⟨rfl,a⟩);go_roundw
  case rel=>exact⟨j+1,jo,ju,fun i h=>by
   by_cases e:i=j
   ·subst e;exact Hin.out
   exact Hno.out i jo,a⟩
  simp[intOf];omega
 obtain rfl:j=4:=jo;have b:=MN r Hno.out;by_cases d:1024≤r∧r≤1039
 ·rw[zI d]at b;have s:inB 1024 1039 (-1) r=true:=ut jo;have u:=d.1;have v:=d.2;have f:=zh b;clear b d;go_wp2_with (go_at_call 182;refine(jG a (ig _ _ _ _ _)).mono ?_;rintro e w' ⟨rfl,a⟩);go_ret;exact⟨by rw[f.out];rfl,a⟩
 rw[zH d]at b;have s:inB 1024 1039 (-1) r=false:=rP jo;have f:=zh b;clear b d;go_wp2_with (go_at_call 182;refine(jG a (ig _ _ _ _ _)).mono ?_;rintro e w' ⟨rfl,a⟩);go_ret;exact⟨by rw[f.out];rfl,a⟩
set_option maxRecDepth 20000 in
theorem Ip(r:Int)(w:World):Calls prog 165 #[.int .i64 r] w fun e w'=>e=.returned (.bool (gA r))∧zWW w w':=by
 have a:zWW w ((w.alloc (.cells wdZ 225)).setRow w.heap.size wdA):=vI (zRR _) (zG _) _;have k:=zz (w.alloc (.cells wdZ 225)) w.heap.size wdZ wdA 225 (0,0) (vK w _);have m:=zh a;clear a;go_enter func165,ntmps165
 go_wp2_with (first
  | (refine zx (o:=⟨none,.store 225 _ _,_,_,_,_⟩) rfl 225 _ _ rfl w.heap.size wdA rfl rfl 225 wdZ (vK w _) jk rfl KY ?_)
  | (refine wpList_load_row (o:=⟨some 13,.load 225 _,_,_,_,_⟩) rfl 225 _ rfl w.heap.size rfl 225 wdA (0,0) _ k underlying225 rfl jk ?_))
 clear k;go_loopw [14] (fun i wr=>∃j:Nat,j≤6∧i=.int .i64 j∧(∀i,i<j→inB (wdf i) (wdt i) (wdb i) r=false)∧zWW w wr) (fun i _=>6-(intOf i).toNat)
 case atStart=>exact⟨0,jo,rfl,fun i h=>jo,m.out⟩
 obtain⟨j,n,rfl,d,a⟩:=hrel;have Hno:=zh d;clear d;by_cases c:j<6
 ·have l:=MM j c;by_cases b:inB (wdf j) (wdt j) (wdb j) r=true
  ·have g:=zh (NY r j c b);go_wp2_with (go_at_call 182;refine(jG (a.alloc a.size _) (ig _ _ _ _ _)).mono ?_;rintro e w' ⟨rfl,a⟩);go_ret;exact⟨by rw[g.out];rfl,a⟩
  have f:inB (wdf j) (wdt j) (wdb j) r=false:=by simpa using b
  have Hin:=zh f;clear b;go_wp2_with (go_at_call 182;refine(jG (a.alloc a.size _) (ig _ _ _ _ _)).mono ?_;rintro e w' ⟨rfl,a⟩);go_roundw
  case rel=>exact⟨j+1,jo,ju,fun i h=>by
   by_cases e:i=j
   ·subst e;exact Hin.out
   exact Hno.out i jo,a⟩
  simp[intOf];omega
 obtain rfl:j=6:=jo;have g:=zh (MO r Hno.out);go_wp2;go_ret;exact⟨by rw[g.out];rfl,a⟩
end Ut

namespace Ut
open Go.RowKit
def f3:Array Value:=#[.int .i64 2,.int .u8 224,.int .u8 192,.int .i64 128,.int .i64 2047,.int .i64 (-1),.int .i64 3,.int .u8 240,.int .u8 224,.int .i64 2048,.int .i64 65535,.int .i64 (-1),.int .i64 4,.int .u8 248,.int .u8 240,.int .i64 65536,.int .i64 1114111,.int .i64 (-1)]
def z3:Array Value:=#[.int .i64 0,.int .u8 0,.int .u8 0,.int .i64 0,.int .i64 0,.int .i64 0,.int .i64 0,.int .u8 0,.int .u8 0,.int .i64 0,.int .i64 0,.int .i64 0,.int .i64 0,.int .u8 0,.int .u8 0,.int .i64 0,.int .i64 0,.int .i64 0]
theorem MP:f3.all (·.oneCell')=true:=by simp[f3,Value.oneCell']
theorem nX(w:World):Calls prog 201 #[] w fun e w'=>e=.returned (.agg f3)∧zWW w w':=by
 go_enter func201,ntmps201;go_wp2_with (refine zx (o:=⟨none,.store 244 _ _,_,_,_,_⟩) rfl 244 _ _ rfl w.heap.size f3 rfl rfl 244 z3 (vK w _) jk rfl MP ?_);have a:=zz (w.alloc (.cells z3 244)) w.heap.size z3 f3 244 (0,0) (vK w _);exact zw (fA rfl rfl (zv _ w.heap.size 244 244 f3 (0,0) _ a underlying244 rfl jk)) rfl ⟨rfl,vI (zRR _) (zG _) _⟩
theorem rQ(w:World):(Instr.index 244 (.agg f3) (.int .i64 0)).run prog w=.ok (.agg #[.int .i64 2,.int .u8 224,.int .u8 192,.int .i64 128,.int .i64 2047,.int .i64 (-1)]) w:=by kernel_rfl
theorem rR(w:World):(Instr.index 244 (.agg f3) (.int .i64 1)).run prog w=.ok (.agg #[.int .i64 3,.int .u8 240,.int .u8 224,.int .i64 2048,.int .i64 65535,.int .i64 (-1)]) w:=by kernel_rfl
theorem rS(w:World):(Instr.index 244 (.agg f3) (.int .i64 2)).run prog w=.ok (.agg #[.int .i64 4,.int .u8 248,.int .u8 240,.int .i64 65536,.int .i64 1114111,.int .i64 (-1)]) w:=by kernel_rfl
def kV(s:ByteArray)(a:Int):Nat × Nat:=if a<0 then(0,0)else dec (s.data.toList.drop a.toNat)
theorem qi(s:ByteArray)(k:Nat)(h:k<s.size):s.data.toList.drop k=s[k]::s.data.toList.drop (k+1):=by
 rw[zf (by rw[fB];exact h)];rfl
theorem qw(s:ByteArray)(k:Nat)(h:s.size≤k):s.data.toList.drop k=[]:=List.drop_of_length_le (by rw[fB];exact h)
theorem Kh(s:ByteArray)(a:Int)(w:World)(h:a<0∨(s.size:Int)≤a) :
  Calls prog 181 #[.string s,.int .i64 a] w fun e w'=>e=.returned (.tuple #[.int .i64 0,.int .i64 0])∧w=w':=by
 by_cases c:a<0
 ·go_enter func181,ntmps181;go_wp2;go_ret2;exact⟨rfl,rfl⟩
 have b:(s.size:Int)≤a:=jo;go_enter func181,ntmps181;go_wp2;go_ret2;exact⟨rfl,rfl⟩
theorem Ki(s:ByteArray)(k m:Nat)(w:World)(hk:k<s.size)(hm:(s[k]).toNat=m)(h:m<128) :
  Calls prog 181 #[.string s,.int .i64 (k:Int)] w fun e w'=>e=.returned (.tuple #[.int .i64 (m:Int),.int .i64 1])∧w=w':=by
 have c:¬(k:Int)<0:=jo;have a:¬(s.size:Int)≤(k:Int):=jo;have b:(m:Int)<128:=jo;go_enter func181,ntmps181;go_wp2;go_ret2;exact⟨rfl,rfl⟩
theorem nE:∀m:Fin 256,((bits BinOp.and IntKind.u8 ((m.val:Nat):Int) 224 != 192)=!decide (m.val/32=6))∧((bits BinOp.and IntKind.u8 ((m.val:Nat):Int) 240 != 224)=!decide (m.val/16=14))∧((bits BinOp.and IntKind.u8 ((m.val:Nat):Int) 248 != 240)=!decide (m.val/8=30)) ∧
  bits BinOp.andNot IntKind.u8 ((m.val:Nat):Int) 224=((m.val%32:Nat):Int)∧bits BinOp.andNot IntKind.u8 ((m.val:Nat):Int) 240=((m.val%16:Nat):Int)∧bits BinOp.andNot IntKind.u8 ((m.val:Nat):Int) 248=((m.val%8:Nat):Int) ∧
  bits BinOp.and IntKind.u8 ((m.val:Nat):Int) 63=((m.val%64:Nat):Int)∧(bits BinOp.and IntKind.u8 ((m.val:Nat):Int) 192==128)=(m.val/64==2):=jq
theorem rz(m:Nat)(h:m<256):(bits BinOp.and IntKind.u8 (m:Int) 224 != 192)=!decide (m/32=6):=(nE ⟨m,h⟩).1
theorem sD(m:Nat)(h:m<256):(bits BinOp.and IntKind.u8 (m:Int) 240 != 224)=!decide (m/16=14):=(nE ⟨m,h⟩).2.1
theorem sF(m:Nat)(h:m<256):(bits BinOp.and IntKind.u8 (m:Int) 248 != 240)=!decide (m/8=30):=(nE ⟨m,h⟩).2.2.1
theorem NZ(m:Nat)(h:m<256):bits BinOp.andNot IntKind.u8 (m:Int) 224=((m%32:Nat):Int):=(nE ⟨m,h⟩).2.2.2.1
theorem Na(m:Nat)(h:m<256):bits BinOp.andNot IntKind.u8 (m:Int) 240=((m%16:Nat):Int):=(nE ⟨m,h⟩).2.2.2.2.1
theorem Nb(m:Nat)(h:m<256):bits BinOp.andNot IntKind.u8 (m:Int) 248=((m%8:Nat):Int):=(nE ⟨m,h⟩).2.2.2.2.2.1
theorem xB(m:Nat)(h:m<256):bits BinOp.and IntKind.u8 (m:Int) 63=((m%64:Nat):Int):=(nE ⟨m,h⟩).2.2.2.2.2.2.1
theorem wZ(m:Nat)(h:m<256):(bits BinOp.and IntKind.u8 (m:Int) 192==128)=(m/64==2):=(nE ⟨m,h⟩).2.2.2.2.2.2.2
theorem oD(m:Nat)(l:List UInt8)(hm:m<32)(hl:l.length≤3):acc m l<16777216:=by
 match l,hl with
 | [],_=>simp only[acc,List.foldl_nil];omega
 | [a],_=>simp only[acc,List.foldl_cons,List.foldl_nil];omega
 | [a,b],_=>simp only[acc,List.foldl_cons,List.foldl_nil];omega
 | [a,b,c],_=>simp only[acc,List.foldl_cons,List.foldl_nil];omega
theorem uQ(a y:Nat)(ha:a<16777216)(hy:y<64):bits BinOp.or IntKind.i64 ((a:Int)*64) ((y:Nat):Int)=((a*64+y:Nat):Int):=by
 have e:(a:Int)*64=((a*64:Nat):Int):=jo;rw[e]
 have d:(BitVec.ofInt 64 ((a*64:Nat):Int)).toNat=a*64:=by
  rw[BitVec.ofInt_natCast,BitVec.toNat_ofNat];exact Nat.mod_eq_of_lt jo
 have f:(BitVec.ofInt 64 ((y:Nat):Int)).toNat=y:=by
  rw[BitVec.ofInt_natCast,BitVec.toNat_ofNat];exact Nat.mod_eq_of_lt jo
 show IntKind.i64.wrap ((BitVec.ofInt 64 ((a*64:Nat):Int) ||| BitVec.ofInt 64 ((y:Nat):Int)).toNat:Int)=_;rw[BitVec.toNat_or,d,f,IntKind.wrap_i64]
 have c:a*64 ||| y=a*64+y:=by
  have:=Nat.shiftLeft_add_eq_or_of_lt (i:=6) (b:=y) jo a;rw[Nat.shiftLeft_eq]at this;exact this.symm
 rw[c];omega
theorem wJ(s:ByteArray)(k n:Nat)(hn:1≤n)(h:k+n≤s.size):∃u:ByteArray,u.size=n-1∧u.data.toList=(s.data.toList.drop (k+1)).take (n-1) ∧
  ∀W:World,(Instr.slice 9 (.string s) (some (.int .i64 ((k:Int)+1))) (some (.int .i64 ((k:Int)+(n:Int)))) none).run prog W=.ok (.string u) W:=by
 refine⟨s.extract (k+1) (k+n),by rw[ByteArray.size_extract];omega,?_,fun W=>?_⟩
 ·have:=Go.Lib.extract_data s (k+1) (k+n);rw[this];congr 1;omega
 rw[run_slice_string W 9 s .i64 .i64 _ _ underlying9 jo jo jo];congr 3
theorem uu(m:Nat)(t:List UInt8)(k lo hi:Nat)(h:k-1≤t.length)(e:Bool)(he:(((t.take (k-1)).all gF&&inB lo hi (-1) (acc m (t.take (k-1)):Nat)) && !gX (acc m (t.take (k-1)):Nat))=e) :
  fR m t k lo hi=if e then(acc m (t.take (k-1)),k)else(65533,1):=by
 unfold fR iw;subst he
 have a:inB lo hi (-1) (acc m (t.take (k-1)):Nat)=(decide (lo≤acc m (t.take (k-1)))&&decide (acc m (t.take (k-1))≤hi)):=by
  unfold inB;rw[show decide ((acc m (t.take (k-1)):Nat)≠(-1:Int))=true from by rw[zg];omega,Bool.and_true];congr 1<;>rw[decide_eq_decide]<;>omega
 have b:gX (acc m (t.take (k-1)):Nat)=(decide (55296≤acc m (t.take (k-1)))&&decide (acc m (t.take (k-1))≤57343)):=by
  unfold gX;congr 1<;>rw[decide_eq_decide]<;>omega
 rw[a,b,show decide (k-1≤t.length)=true from by simpa using h,Bool.true_and,Bool.and_assoc,Bool.and_assoc]
theorem tN(m:Nat)(t:List UInt8)(k lo hi:Nat)(h:t.length<k-1):fR m t k lo hi=(65533,1):=by
 unfold fR iw;rw[show decide (k-1≤t.length)=false from by simp;omega,Bool.false_and,zH jz]
end Ut
end Go.Proofs.YtmomjpolkkbhnaaGreat
