/- Queries, as they lie in memory. No program. -/
import Derived.Deep.QuietTactic
import Derived.BigQuiet
import Derived.Shelf.Strings.Builder1
import Derived.Test.YtmomjpolkkbhnaaGreatQModelPagesRow0
set_option maxRecDepth 20000
section
namespace Go.Proofs.YtmomjpolkkbhnaaGreat.Qy
open Go.RowKit
inductive Q where
 | mk (kind:Int) (name:ByteArray) (words:List ByteArray) (l:List Q)
def Q.kind:Q→Int | .mk k _ _ _=>k
def Q.name:Q→ByteArray | .mk _ n _ _=>n
def Q.words:Q→List ByteArray | .mk _ _ w _=>w
def Q.l:Q→List Q | .mk _ _ _ l=>l
theorem Q.ind {p:Q→Prop} (h:∀ k n ws l,(∀ x∈l,p x)→p (.mk k n ws l)):∀ q,p q:=by
 intro q
 refine Q.rec (motive_1:=p) (motive_2:=fun l=>∀ x∈l,p x) (fun k n ws l hl=>h k n ws l hl) (by simp) (fun x l hx hl=>?_) q
 intro y hy
 rcases List.mem_cons.1 hy with rfl | hy
 ·exact hx
 ·exact hl y hy
theorem flat_get {k:Nat}:∀ {vss:List (List Value)} (_:∀ v∈vss,v.length=k) (i j:Nat) (hi:i<vss.length) (_:j<k),vss.flatten[i * k+j]?=(vss[i])[j]?
 | v :: vss,h,0,j,_,_=>by
  have hv:=h v (by simp)
  rw [List.flatten_cons,Nat.zero_mul,Nat.zero_add,List.getElem?_append_left (by omega)]
  rfl
 | v :: vss,h,i+1,j,hi,hj=>by
  have hv:=h v (by simp)
  have ih:=flat_get (fun x hx=>h x (List.mem_cons_of_mem _ hx)) i j (by simpa using hi) hj
  have e:(i+1) * k+j=v.length+(i * k+j):=by rw [hv,Nat.add_mul,Nat.one_mul]; omega
  rw [List.flatten_cons,e,List.getElem?_append_right (by omega),Nat.add_sub_cancel_left,ih]
  rfl
inductive QAt (w:World) (B:Nat):Q→List Value→Prop
 | mk {k:Int} {nm:ByteArray} {ws:List ByteArray} {l:List Q} {A C:Option Addr} {n c m d:Nat} (vss:List (List Value)) (hn:ws.length=n) (hw:Reads w B 1 A n (ws.map Value.string)) (hm:l.length=m) (hv:vss.length=m)
   (h4:∀ v∈vss,v.length=4) (hl:Reads w B 4 C m vss.flatten) (kids:∀ i (h:i<l.length) (h':i<vss.length),QAt w B l[i] vss[i]):QAt w B (.mk k nm ws l) [.int .i64 k,.string nm,.slice A n c,.slice C m d]
theorem QAt.keep {w w':World} {B:Nat} (hk:∀ b o,b<B→w'.cell? ⟨b,o,none⟩=w.cell? ⟨b,o,none⟩) {q:Q} {vs:List Value} (h:QAt w B q vs):QAt w' B q vs:=by
 induction h with
 | mk vss hn hw hm hv h4 hl _ ih=>exact .mk vss hn (hw.keep hk) hm hv h4 (hl.keep hk) ih
theorem QAt.lower {w w':World} {B:Nat} {q:Q} {vs:List Value} (h:QAt w B q vs) (hb:Below B w w'):QAt w' B q vs:=h.keep fun _ _ hp=>hb.cell hp
theorem QAt.more {w:World} {B B':Nat} {q:Q} {vs:List Value} (h:QAt w B q vs) (hB:B≤B'):QAt w B' q vs:=by
 induction h with
 | mk vss hn hw hm hv h4 hl _ ih=>exact .mk vss hn (hw.more hB) hm hv h4 (hl.more hB) ih
theorem QAt.grow {w w':World} {q:Q} {vs:List Value} (h:QAt w w.heap.size q vs) (hb:Below w.heap.size w w'):QAt w' w'.heap.size q vs:=(h.lower hb).more hb.size
structure QIs (w:World) (B:Nat) (k:Int) (nm:ByteArray) (ws:List ByteArray) (l:List Q) (A:Option Addr) (n:Nat) (C:Option Addr) (m:Nat):Prop where
 wn:ws.length=n
 wds:Reads w B 1 A n (ws.map Value.string)
 lm:l.length=m
 kid:∀ i (h:i<l.length),∃ b o v,C=some ⟨b,o,none⟩∧b<B∧QAt w B l[i] v∧∀ j u,v[j]?=some u→w.cell? ⟨b,o+(i * 4+j),none⟩=some u
theorem QAt.is {w:World} {B:Nat} {k:Int} {nm:ByteArray} {ws:List ByteArray} {l:List Q} {vs:List Value} (h:QAt w B (.mk k nm ws l) vs) :
  ∃ A n c C m d,vs=[.int .i64 k,.string nm,.slice A n c,.slice C m d]∧QIs w B k nm ws l A n C m:=by
 cases h with
 | @mk _ _ _ _ A C n c m d vss hn hw hm hv h4 hl kids =>
  refine ⟨A,n,c,C,m,d,rfl,hn,hw,hm,fun i hi=>?_⟩
  obtain ⟨b,o,e,hb,hc⟩:=hl.2 (by omega)
  have hi':i<vss.length:=by omega
  refine ⟨b,o,vss[i],e,hb,kids i hi hi',fun j u hu=>?_⟩
  have hj:j<4:=by
   have h1:=(List.getElem?_eq_some_iff.1 hu).1
   rw [h4 _ (List.getElem_mem hi')] at h1
   exact h1
  exact hc _ _ ((flat_get h4 i j hi' hj).trans hu)
theorem QAt.len {w:World} {B:Nat} {q:Q} {vs:List Value} (h:QAt w B q vs):vs.length=4:=by cases h; rfl
theorem QIs.at_ {w:World} {B:Nat} {k:Int} {nm:ByteArray} {ws:List ByteArray} {l:List Q} {A C:Option Addr} {n m:Nat} (h:QIs w B k nm ws l A n C m) {i:Nat} (hi:i<l.length) :
  ∃ b o A' n' c' C' m' d',C=some ⟨b,o,none⟩∧b<B∧QAt w B l[i] [.int .i64 l[i].kind,.string l[i].name,.slice A' n' c',.slice C' m' d'] ∧
   w.cell? ⟨b,o+i * 4,none⟩=some (.int .i64 l[i].kind)∧w.cell? ⟨b,o+i * 4+1,none⟩=some (.string l[i].name)∧w.cell? ⟨b,o+i * 4+2,none⟩=some (.slice A' n' c')∧w.cell? ⟨b,o+i * 4+3,none⟩=some (.slice C' m' d'):=by
 obtain ⟨b,o,v,e,hb,hq,hc⟩:=h.kid i hi
 generalize l[i]=q at *
 obtain ⟨k',nm',ws',l'⟩:=q
 obtain ⟨A',n',c',C',m',d',rfl,_⟩:=hq.is
 exact ⟨b,o,A',n',c',C',m',d',e,hb,hq,by simpa [Q.kind] using hc 0 _ rfl,by simpa [Nat.add_assoc,Q.name] using hc 1 _ rfl,by simpa [Nat.add_assoc] using hc 2 _ rfl,by simpa [Nat.add_assoc] using hc 3 _ rfl⟩
def fldC (fs:List (ByteArray × ByteArray)):List Value:=fs.flatMap fun f=>[.string f.1,.string f.2]
theorem fldC_len (fs:List (ByteArray × ByteArray)):(fldC fs).length=fs.length * 2:=by
 induction fs with
 | nil=>rfl
 | cons f fs ih=>simp [fldC] at *; omega
theorem fldC_get:∀ (fs:List (ByteArray × ByteArray)) (k:Nat) (h:k<fs.length),(fldC fs)[k * 2]?=some (.string fs[k].1)∧(fldC fs)[k * 2+1]?=some (.string fs[k].2)
 | f :: fs,0,_=>⟨rfl,rfl⟩
 | f :: fs,k+1,h=>by
  have ih:=fldC_get fs k (by simpa using h)
  have e1:(k+1) * 2=k * 2+2:=by omega
  have e2:(k+1) * 2+1=(k * 2+1)+2:=by omega
  rw [e2,e1]
  exact ih
theorem fields_at {w:World} {B n:Nat} {A:Option Addr} {fs:List (ByteArray × ByteArray)} (h:Reads w B 2 A n (fldC fs)) {k:Nat} (hk:k<fs.length) :
  ∃ b o,A=some ⟨b,o,none⟩∧b<B∧w.cell? ⟨b,o+k * 2,none⟩=some (.string fs[k].1)∧w.cell? ⟨b,o+k * 2+1,none⟩=some (.string fs[k].2):=by
 have hl:=h.1
 rw [fldC_len] at hl
 obtain ⟨b,o,e,hb,hc⟩:=h.2 (by omega)
 have g:=fldC_get fs k hk
 refine ⟨b,o,e,hb,hc _ _ g.1,?_⟩
 have:=hc _ _ g.2
 rwa [← Nat.add_assoc] at this
end Go.Proofs.YtmomjpolkkbhnaaGreat.Qy
end

section
namespace Go.Proofs.YtmomjpolkkbhnaaGreat.Tk
open Go.RowKit Ut
def wordGo (a:List UInt8):List Nat→List UInt8
 | []=>a
 | r :: t=>if 32<a.length+(enc (lower (r:Int))).length then a else wordGo (a ++ enc (lower (r:Int))) t
def word (l:List Nat):List UInt8:=wordGo [] l
theorem wordGo_cons (a:List UInt8) (r:Nat) (t:List Nat):wordGo a (r :: t)=if 32<a.length+(enc (lower (r:Int))).length then a else wordGo (a ++ enc (lower (r:Int))) t:=rfl
def last (c:List Nat):List (List Nat):=if c=[] then [] else [c]
def runs (c:List Nat):List Nat→List (List Nat)
 | []=>last c
 | r :: t=>if isWord (r:Int) then runs (c ++ [r]) t else last c ++ runs [] t
theorem runs_nil (c:List Nat):runs c []=last c:=rfl
theorem runs_cons (c:List Nat) (r:Nat) (t:List Nat):runs c (r :: t)=if isWord (r:Int) then runs (c ++ [r]) t else last c ++ runs [] t:=rfl
theorem runs_end:∀ (l c:List Nat) (b:Nat),isWord (b:Int)=false→runs c (l ++ [b])=runs c l
 | [],c,b,h=>by
  rw [List.nil_append,runs_cons,h,if_neg (by decide),runs_nil,runs_nil]
  simp [last]
 | r :: t,c,b,h=>by
  rw [List.cons_append,runs_cons,runs_cons,runs_end t _ b h,runs_end t _ b h]
def words (s:List UInt8):List (List UInt8):=(runs [] (runes s)).map word
end Go.Proofs.YtmomjpolkkbhnaaGreat.Tk
end

section
namespace Go.Proofs.YtmomjpolkkbhnaaGreat.Tk
open Go.RowKit Ut
def low (r:Nat):Nat:=(lower (r:Int)).toNat
def wordN (a:List UInt8):List Nat→Nat
 | []=>0
 | r :: t=>if 32<a.length+(enc (lower (r:Int))).length then 0 else wordN (a ++ enc (lower (r:Int))) t+1
def told (l:List Nat):List Nat:=(l.take (wordN [] l)).map low
theorem runs_all:∀ (m c x:List Nat),(∀ r∈m,isWord (r:Int)=true)→runs c (m ++ x)=runs (c ++ m) x
 | [],c,x,_=>by simp
 | r :: m,c,x,h=>by
  rw [List.cons_append,runs_cons,h r (by simp),if_pos rfl,runs_all m (c ++ [r]) x (fun y hy=>h y (by simp [hy]))]
  simp
theorem blank_no:isWord ((32:Nat):Int)=false:=by decide
def nameB (c:UInt8):Bool:=c.toNat == 95 || (decide (48≤c.toNat) && decide (c.toNat≤57)) || (decide (97≤c.toNat) && decide (c.toNat≤122))
def isN (s:List UInt8):Bool:=decide (1≤s.length) && decide (s.length≤32) && s.all nameB
end Go.Proofs.YtmomjpolkkbhnaaGreat.Tk
end

section
namespace Go.Proofs.YtmomjpolkkbhnaaGreat.Ut
open Go.RowKit
set_option maxRecDepth 100000 in
set_option maxHeartbeats 3200000 in
theorem dec_form2 (s:ByteArray) (k m:Nat) (w:World) (hk:k<s.size) (hm:(s[k]).toNat=m) (h128 : 128≤m) (h256:m<256) (hq:m / 8=30) (hs:s.size≤140737488351232) :
  Calls Tryz.prog 181 #[.string s,.int .i64 (k:Int)] w fun e w' =>
   e=.returned (.tuple #[.int .i64 ((form (m % 8) (s.data.toList.drop (k+1)) 4 65536 1114111).1:Nat),.int .i64 ((form (m % 8) (s.data.toList.drop (k+1)) 4 65536 1114111).2:Nat)])∧Below w.heap.size w w':=by
 have h0:¬ (k:Int)<0:=by omega
 have h1:¬ (s.size:Int)≤(k:Int):=by omega
 have h2:¬ (m:Int)<128:=by omega
 have hm0:=mask0 m h256
 have hm1:=mask1 m h256
 have hm2:=mask2 m h256
 rw [show decide (m / 32=6)=false from by simp; omega] at hm0
 rw [show decide (m / 16=14)=false from by simp; omega] at hm1
 rw [show decide (m / 8=30)=true from by simp; omega] at hm2
 simp only [Bool.not_true,Bool.not_false] at hm0 hm1 hm2
 have i0:=idx_f0
 have i1:=idx_f1
 have i2:=idx_f2
 by_cases hlen:k+4≤s.size
 ·obtain ⟨u,hus,hul,hsl⟩:∃ u:ByteArray,u.size=3∧u.data.toList=(s.data.toList.drop (k+1)).take 3∧∀ W:World,(Instr.slice 9 (.string s) (some (.int .i64 ((k:Int)+1))) (some (.int .i64 ((k:Int)+4))) none).run Tryz.prog W=.ok (.string u) W:=sub_at s k 4 (by omega) hlen
  obtain ⟨cap,C,fr,hconv,hC⟩:=bytes_conv (P:=Tryz.prog) 9 30 5 u Tryz.underlying9 Tryz.underlying30 Tryz.underlying5
  have han:=andn2 m h256
  rw [hus] at hconv
  have Hul:=zh hul
  have Hus:=zh hus
  have HC:=zh hC
  have Fin:=zh (form_eq (m % 8) (s.data.toList.drop (k+1)) 4 65536 1114111 (by rw [List.length_drop,bsize]; omega))
  rw [show 4 - 1=3 from rfl,← hul] at Fin
  clear hul hus hC
  go_enter Tryz.func181,Tryz.ntmps181
  go_wp2_with (go_at_call 201; refine (forms_any _).mono ?_; rintro e w1 ⟨rfl,hb1⟩)
  refine wp_loop_rounds 4 ?_
  rw [rounds_succ]
  go_wp2_with fail
  rw [rounds_succ]
  go_wp2_with fail
  rw [rounds_succ]
  go_wp2_with fail
  have hb0:Below w.heap.size w (((((w1.alloc (.cells #[.int .i64 2,.int .u8 224,.int .u8 192,.int .i64 128,.int .i64 2047,.int .i64 (-1)] 243)).alloc (.cells #[.int .i64 3,.int .u8 240,.int .u8 224,.int .i64 2048,.int .i64 65535,.int .i64 (-1)] 243)).alloc (.cells #[.int .i64 4,.int .u8 248,.int .u8 240,.int .i64 65536,.int .i64 1114111,.int .i64 (-1)] 243)).alloc (.cells (C (((w1.alloc (.cells #[.int .i64 2,.int .u8 224,.int .u8 192,.int .i64 128,.int .i64 2047,.int .i64 (-1)] 243)).alloc (.cells #[.int .i64 3,.int .u8 240,.int .u8 224,.int .i64 2048,.int .i64 65535,.int .i64 (-1)] 243)).alloc (.cells #[.int .i64 4,.int .u8 248,.int .u8 240,.int .i64 65536,.int .i64 1114111,.int .i64 (-1)] 243))) 5 (fr (((w1.alloc (.cells #[.int .i64 2,.int .u8 224,.int .u8 192,.int .i64 128,.int .i64 2047,.int .i64 (-1)] 243)).alloc (.cells #[.int .i64 3,.int .u8 240,.int .u8 224,.int .i64 2048,.int .i64 65535,.int .i64 (-1)] 243)).alloc (.cells #[.int .i64 4,.int .u8 248,.int .u8 240,.int .i64 65536,.int .i64 1114111,.int .i64 (-1)] 243))))).drew) :=
   (((((hb1.alloc (hb1.size) _).alloc (by have:=hb1.size; simp; omega) _)).alloc (by have:=hb1.size; simp; omega) _).alloc (by have:=hb1.size; simp; omega) _).drew
  have hk0:Blk (((((w1.alloc (.cells #[.int .i64 2,.int .u8 224,.int .u8 192,.int .i64 128,.int .i64 2047,.int .i64 (-1)] 243)).alloc (.cells #[.int .i64 3,.int .u8 240,.int .u8 224,.int .i64 2048,.int .i64 65535,.int .i64 (-1)] 243)).alloc (.cells #[.int .i64 4,.int .u8 248,.int .u8 240,.int .i64 65536,.int .i64 1114111,.int .i64 (-1)] 243)).alloc (.cells (C (((w1.alloc (.cells #[.int .i64 2,.int .u8 224,.int .u8 192,.int .i64 128,.int .i64 2047,.int .i64 (-1)] 243)).alloc (.cells #[.int .i64 3,.int .u8 240,.int .u8 224,.int .i64 2048,.int .i64 65535,.int .i64 (-1)] 243)).alloc (.cells #[.int .i64 4,.int .u8 248,.int .u8 240,.int .i64 65536,.int .i64 1114111,.int .i64 (-1)] 243))) 5 (fr (((w1.alloc (.cells #[.int .i64 2,.int .u8 224,.int .u8 192,.int .i64 128,.int .i64 2047,.int .i64 (-1)] 243)).alloc (.cells #[.int .i64 3,.int .u8 240,.int .u8 224,.int .i64 2048,.int .i64 65535,.int .i64 (-1)] 243)).alloc (.cells #[.int .i64 4,.int .u8 248,.int .u8 240,.int .i64 65536,.int .i64 1114111,.int .i64 (-1)] 243))))).drew) (w1.heap.size+1+1) 243 #[.int .i64 4,.int .u8 248,.int .u8 240,.int .i64 65536,.int .i64 1114111,.int .i64 (-1)]:=by
   have:=((Blk.new ((w1.alloc (.cells #[.int .i64 2,.int .u8 224,.int .u8 192,.int .i64 128,.int .i64 2047,.int .i64 (-1)] 243)).alloc (.cells #[.int .i64 3,.int .u8 240,.int .u8 224,.int .i64 2048,.int .i64 65535,.int .i64 (-1)] 243)) 243 #[.int .i64 4,.int .u8 248,.int .u8 240,.int .i64 65536,.int .i64 1114111,.int .i64 (-1)]).alloc (.cells (C (((w1.alloc (.cells #[.int .i64 2,.int .u8 224,.int .u8 192,.int .i64 128,.int .i64 2047,.int .i64 (-1)] 243)).alloc (.cells #[.int .i64 3,.int .u8 240,.int .u8 224,.int .i64 2048,.int .i64 65535,.int .i64 (-1)] 243)).alloc (.cells #[.int .i64 4,.int .u8 248,.int .u8 240,.int .i64 65536,.int .i64 1114111,.int .i64 (-1)] 243))) 5 (fr (((w1.alloc (.cells #[.int .i64 2,.int .u8 224,.int .u8 192,.int .i64 128,.int .i64 2047,.int .i64 (-1)] 243)).alloc (.cells #[.int .i64 3,.int .u8 240,.int .u8 224,.int .i64 2048,.int .i64 65535,.int .i64 (-1)] 243)).alloc (.cells #[.int .i64 4,.int .u8 248,.int .u8 240,.int .i64 65536,.int .i64 1114111,.int .i64 (-1)] 243))))).drew
   simpa using this
  have hc0:∀ (i:Nat) (h:i<u.size),(((((w1.alloc (.cells #[.int .i64 2,.int .u8 224,.int .u8 192,.int .i64 128,.int .i64 2047,.int .i64 (-1)] 243)).alloc (.cells #[.int .i64 3,.int .u8 240,.int .u8 224,.int .i64 2048,.int .i64 65535,.int .i64 (-1)] 243)).alloc (.cells #[.int .i64 4,.int .u8 248,.int .u8 240,.int .i64 65536,.int .i64 1114111,.int .i64 (-1)] 243)).alloc (.cells (C (((w1.alloc (.cells #[.int .i64 2,.int .u8 224,.int .u8 192,.int .i64 128,.int .i64 2047,.int .i64 (-1)] 243)).alloc (.cells #[.int .i64 3,.int .u8 240,.int .u8 224,.int .i64 2048,.int .i64 65535,.int .i64 (-1)] 243)).alloc (.cells #[.int .i64 4,.int .u8 248,.int .u8 240,.int .i64 65536,.int .i64 1114111,.int .i64 (-1)] 243))) 5 (fr (((w1.alloc (.cells #[.int .i64 2,.int .u8 224,.int .u8 192,.int .i64 128,.int .i64 2047,.int .i64 (-1)] 243)).alloc (.cells #[.int .i64 3,.int .u8 240,.int .u8 224,.int .i64 2048,.int .i64 65535,.int .i64 (-1)] 243)).alloc (.cells #[.int .i64 4,.int .u8 248,.int .u8 240,.int .i64 65536,.int .i64 1114111,.int .i64 (-1)] 243))))).drew).cell? ⟨w1.heap.size+1+1+1,i,none⟩=some (.int .u8 ((u[i]).toNat:Int)):=fun i h=>by
   have:=cell_new2 ((w1.alloc (.cells #[.int .i64 2,.int .u8 224,.int .u8 192,.int .i64 128,.int .i64 2047,.int .i64 (-1)] 243)).alloc (.cells #[.int .i64 3,.int .u8 240,.int .u8 224,.int .i64 2048,.int .i64 65535,.int .i64 (-1)] 243)) (.cells #[.int .i64 4,.int .u8 248,.int .u8 240,.int .i64 65536,.int .i64 1114111,.int .i64 (-1)] 243) (C (((w1.alloc (.cells #[.int .i64 2,.int .u8 224,.int .u8 192,.int .i64 128,.int .i64 2047,.int .i64 (-1)] 243)).alloc (.cells #[.int .i64 3,.int .u8 240,.int .u8 224,.int .i64 2048,.int .i64 65535,.int .i64 (-1)] 243)).alloc (.cells #[.int .i64 4,.int .u8 248,.int .u8 240,.int .i64 65536,.int .i64 1114111,.int .i64 (-1)] 243))) 5 (fr (((w1.alloc (.cells #[.int .i64 2,.int .u8 224,.int .u8 192,.int .i64 128,.int .i64 2047,.int .i64 (-1)] 243)).alloc (.cells #[.int .i64 3,.int .u8 240,.int .u8 224,.int .i64 2048,.int .i64 65535,.int .i64 (-1)] 243)).alloc (.cells #[.int .i64 4,.int .u8 248,.int .u8 240,.int .i64 65536,.int .i64 1114111,.int .i64 (-1)] 243))) i
   have h2:=HC.out (((w1.alloc (.cells #[.int .i64 2,.int .u8 224,.int .u8 192,.int .i64 128,.int .i64 2047,.int .i64 (-1)] 243)).alloc (.cells #[.int .i64 3,.int .u8 240,.int .u8 224,.int .i64 2048,.int .i64 65535,.int .i64 (-1)] 243)).alloc (.cells #[.int .i64 4,.int .u8 248,.int .u8 240,.int .i64 65536,.int .i64 1114111,.int .i64 (-1)] 243)) i h
   try simp only [World.size_alloc] at this
   exact this.trans h2
  have Hb0:=zh hb0
  have Hk0:=zh hk0
  have Hc0:=zh hc0
  clear hb0 hk0 hc0
  go_loopw [9,10,63] (fun r o i wr=>∃ j:Nat,j≤3∧i=.int .i64 j∧r=.int .i64 (acc (m % 8) (u.data.toList.take j):Nat)∧o=.bool ((u.data.toList.take j).all cont)∧Below w.heap.size w wr∧Blk wr (w1.heap.size+1+1) 243 #[.int .i64 4,.int .u8 248,.int .u8 240,.int .i64 65536,.int .i64 1114111,.int .i64 (-1)] ∧
    ∀ (i:Nat) (h:i<u.size),wr.cell? ⟨w1.heap.size+1+1+1,i,none⟩=some (.int .u8 ((u[i]).toNat:Int))) (fun _ _ i _=>3 - (intOf i).toNat)
  case atStart=>exact ⟨0,by omega,rfl,by simp [acc_nil],rfl,Hb0.out,Hk0.out,Hc0.out⟩
  case round =>
   obtain ⟨j,hj,rfl,hr,ho,hb,hkb,hcl⟩:=hrel
   by_cases hjn:j<3
   ·have hju:j<u.size:=by rw [Hus.out]; exact hjn
    have hcx:=hcl j hju
    have hx:=(u[j]).toNat_lt
    have e63:=low6 _ hx
    have e192:=high2 _ hx
    have hts:=take_snoc u j hju
    have ha:=acc_snoc (m % 8) (u.data.toList.take j) u[j]
    have hal:((u.data.toList.take j) ++ [u[j]]).all cont=((u.data.toList.take j).all cont && (u[j].toNat / 64 == 2)):=by rw [List.all_append]; simp [cont]
    rw [← hts] at ha hal
    have hlt:=acc_lt (m % 8) (u.data.toList.take j) (by omega) (by rw [List.length_take]; omega)
    have hor:bits BinOp.or IntKind.i64 ((acc (m % 8) (u.data.toList.take j):Int) * 64) ((u[j].toNat:Int) % 64)=((acc (m % 8) (u.data.toList.take j) * 64+u[j].toNat % 64:Nat):Int):=by
     rw [show ((u[j].toNat:Int) % 64)=((u[j].toNat % 64:Nat):Int) from by omega]
     exact or_shift (acc (m % 8) (u.data.toList.take j)) (u[j].toNat % 64) hlt (by omega)
    have Ha:=zh ha
    have Hal:=zh hal
    have Hcl:=zh hcl
    have Hkb:=zh hkb
    have Hb:=zh hb
    clear ha hal hcl hkb hb hts
    generalize acc (m % 8) (u.data.toList.take j)=a at *
    generalize (u.data.toList.take j).all cont=ob at *
    generalize hxe:u[j].toNat=x at *
    have Hxe:=zh hxe
    clear hxe
    generalize hcb:(x / 64 == 2)=cb at *
    have Hcb:=zh hcb
    clear hcb
    subst hr ho
    cases ob
    ·go_wp2
     go_roundw
     case rel=>exact ⟨j+1,by omega,by go_num,by rw [Ha.out]; first | rfl | go_num,by rw [Hal.out]; rfl,Hb.out,Hkb.out,Hcl.out⟩
     case measure=>simp [intOf]; omega
    ·go_wp2
     go_roundw
     case rel=>exact ⟨j+1,by omega,by go_num,by rw [Ha.out]; first | rfl | go_num,by rw [Hal.out]; rfl,Hb.out,Hkb.out,Hcl.out⟩
     case measure=>simp [intOf]; omega
   ·obtain rfl:j=3:=by omega
    have htk:u.data.toList.take 3=u.data.toList:=List.take_of_length_le (by rw [bsize,Hus.out]; exact zG _)
    rw [htk] at hr ho
    have c3:=hkb.cell 3
    have c4:=hkb.cell 4
    have c5:=hkb.cell 5
    have c0:=hkb.cell 0
    have hwz:w.heap.size≤wr.heap.size:=hb.size
    have hlt:=acc_lt (m % 8) u.data.toList (by omega) (by rw [bsize,Hus.out]; omega)
    have hkl:=hkb.lt
    clear hcl htk hkb
    generalize acc (m % 8) u.data.toList=a at *
    generalize u.data.toList.all cont=ob at *
    subst hr ho
    cases ob
    ·have fin:=zh (Fin.out false rfl)
     clear Fin
     go_wp2_with (first | (go_at_call 182; refine (calls_from hb (in_any _ _ _ _ _)).mono ?_; rintro e w' ⟨rfl,hb⟩) | (go_at_call 202; refine (half_any _ _).mono ?_; rintro e w' ⟨rfl,rfl⟩))
     rw [rounds_succ]
     go_wp2_with fail
     go_ret2
     exact ⟨by rw [fin.out]; rfl,hb⟩
    ·by_cases hin:inB 65536 1114111 (-1) (a:Int)=true
     ·by_cases hh:halfB (a:Int)=true
      ·have fin:=zh (Fin.out false (by rw [show inB ((65536:Nat):Int) ((1114111:Nat):Int) (-1) (a:Int)=true from hin,hh]; rfl))
       clear Fin
       go_wp2_with (first | (go_at_call 182; refine (calls_from hb (in_any _ _ _ _ _)).mono ?_; rintro e w' ⟨rfl,hb⟩) | (go_at_call 202; refine (half_any _ _).mono ?_; rintro e w' ⟨rfl,rfl⟩))
       rw [rounds_succ]
       go_wp2_with fail
       go_ret2
       exact ⟨by rw [fin.out]; rfl,hb⟩
      ·have hhf:halfB (a:Int)=false:=by simpa using hh
       have fin:=zh (Fin.out true (by rw [show inB ((65536:Nat):Int) ((1114111:Nat):Int) (-1) (a:Int)=true from hin,hhf]; rfl))
       clear Fin hh
       go_wp2_with (first | (go_at_call 182; refine (in_any _ _ _ _ _).mono ?_; rintro e w3 ⟨rfl,hb3⟩; have c03:=(hb3.cell (p:=⟨w1.heap.size+1+1,0,none⟩) hkl).trans c0) | (go_at_call 202; refine (half_any _ _).mono ?_; rintro e w' ⟨rfl,rfl⟩))
       go_quiet (fail)
       go_wp2
       go_ret2
       exact ⟨by rw [fin.out]; rfl,below_drewN (hb.trans (hb3.mono hb.size)) _⟩
     ·have hinf:inB 65536 1114111 (-1) (a:Int)=false:=by simpa using hin
      have fin:=zh (Fin.out false (by rw [show inB ((65536:Nat):Int) ((1114111:Nat):Int) (-1) (a:Int)=false from hinf]; rfl))
      clear Fin hin
      go_wp2_with (first | (go_at_call 182; refine (calls_from hb (in_any _ _ _ _ _)).mono ?_; rintro e w' ⟨rfl,hb⟩) | (go_at_call 202; refine (half_any _ _).mono ?_; rintro e w' ⟨rfl,rfl⟩))
      rw [rounds_succ]
      go_wp2_with fail
      go_ret2
      exact ⟨by rw [fin.out]; rfl,hb⟩
 ·have fin:=zh (form_short (m % 8) (s.data.toList.drop (k+1)) 4 65536 1114111 (by rw [List.length_drop,bsize]; omega))
  have hsh:(s.size:Int) - (k:Int)<4:=by omega
  go_enter Tryz.func181,Tryz.ntmps181
  go_wp2_with (go_at_call 201; refine (forms_any _).mono ?_; rintro e w1 ⟨rfl,hb1⟩)
  refine wp_loop_rounds 4 ?_
  rw [rounds_succ]
  go_wp2_with fail
  rw [rounds_succ]
  go_wp2_with fail
  rw [rounds_succ]
  go_wp2_with fail
  rw [rounds_succ]
  go_wp2_with fail
  go_ret2
  exact ⟨by rw [fin.out]; rfl,((hb1.alloc hb1.size _).alloc (by have:=hb1.size; simp; omega) _).alloc (by have:=hb1.size; simp; omega) _⟩
end Go.Proofs.YtmomjpolkkbhnaaGreat.Ut
end

section
namespace Go.Proofs.YtmomjpolkkbhnaaGreat.Tk
open Go.RowKit
theorem b_size:(Tryz.prog.info? 228).map (fun i=>i.size)=some 2:=by kernel_rfl
theorem b_lies:liesAt Tryz.prog Tryz.prog.depth 228 (2 / Tryz.prog.cellsOf 228) 0 228 1=true:=by kernel_rfl
theorem byte_info:(Tryz.prog.info? 5).map (fun i=>(i.zero,i.size,i.bytes))=some (some (.int .u8 0),1,1):=by kernel_rfl
set_option maxHeartbeats 1048576 in
set_option maxRecDepth 100000 in
theorem copyCheck_used (b:Nat) (w:World) (h0:w.cell? ⟨b,0,none⟩=some (.pointer (some ⟨b,0,none⟩))) :
  Calls Tryz.prog 204 #[.pointer (some ⟨b,0,none⟩)] w fun e w'=>e=.returned (.tuple #[])∧w'=w:=by
 obtain ⟨j,hj,_⟩:=Option.map_eq_some_iff.1 b_size
 go_enter Tryz.func204,Tryz.ntmps204
 go_wp2
 rw [Lib.run_neq_ptr_same w _ Tryz.underlying226 hj]
 go_wp2
 go_end0
 exact ⟨rfl,rfl⟩
set_option maxHeartbeats 1048576 in
set_option maxRecDepth 100000 in
theorem copyCheck_fresh (b:Nat) (w:World) (h0:w.cell? ⟨b,0,none⟩=some (.pointer none)) (hsh:w.shape? b=some (228,2)) (hfz:w.frozen? ⟨b,0,none⟩=false) :
  Calls Tryz.prog 204 #[.pointer (some ⟨b,0,none⟩)] w fun e w'=>e=.returned (.tuple #[])∧w'=w.setCell ⟨b,0,none⟩ (.pointer (some ⟨b,0,none⟩)):=by
 obtain ⟨j,hj,hjs⟩:=Option.map_eq_some_iff.1 b_size
 go_enter Tryz.func204,Tryz.ntmps204
 go_wp2
 rw [Lib.run_to_unsafe w ⟨b,0,none⟩ Tryz.underlying226 Tryz.underlying250 hj (by rw [hjs]; decide) hsh (Nat.zero_lt_succ 1)]
 simp only [Result.andThen]
 rw [Oper.upon_value]
 go_wp2
 rw [run_callFunc_extern Tryz.func212 (by kernel_rfl) (by kernel_rfl) (by kernel_rfl) (e:=Extern.AbiNoEscape.same) (by kernel_rfl)]
 rw [Lib.run_noEscape]
 simp only [Result.andThen]
 rw [Oper.upon_value]
 go_wp2
 rw [Lib.run_from_unsafe w ⟨b,0,none⟩ Tryz.underlying250 Tryz.underlying226 hj hsh b_lies]
 simp only [Result.andThen]
 rw [Oper.upon_value]
 go_wp2
 go_end0
 exact ⟨rfl,rfl⟩
theorem copyCheck (B b:Nat) (bs:List Value) (w:World) (h:Lib.IsBuilder 228 5 B b bs w) :
  Calls Tryz.prog 204 #[.pointer (some ⟨b,0,none⟩)] w fun e w'=>e=.returned (.tuple #[])∧(Lib.BuilderAt 228 5 B b (.pointer (some ⟨b,0,none⟩)) bs w'∧Below B w w'):=by
 rcases h with h | h
 ·refine (copyCheck_fresh b w h.cell0 h.shape h.frozen0).mono ?_
  rintro e w' ⟨rfl,rfl⟩
  exact ⟨rfl,h.used _,(Below.refl B w).setCell (p:=⟨b,0,none⟩) h.1 _⟩
 ·refine (copyCheck_used b w h.cell0).mono ?_
  rintro e w' ⟨rfl,rfl⟩
  exact ⟨rfl,h,Below.refl B _⟩
set_option maxHeartbeats 2000000 in
set_option maxRecDepth 100000 in
theorem writeString (B b:Nat) (bs:List Value) (s:ByteArray) (w:World) (h:Lib.IsBuilder 228 5 B b bs w) (hlen:bs.length+s.size≤140737488355328) (hBw:B≤w.heap.size) :
  Calls Tryz.prog 186 #[.pointer (some ⟨b,0,none⟩),.string s] w fun e w'=>e=.returned (.tuple #[.int .i64 s.size,.nilIface])∧(Lib.BuilderAt 228 5 B b (.pointer (some ⟨b,0,none⟩)) (bs ++ Lib.strCells s) w'∧Below B w w'):=by
 obtain ⟨i0,hi,hz0,hz1,hz2⟩:=info_parts byte_info
 go_enter Tryz.func186,Tryz.ntmps186
 go_wp2_with (go_at_call 204; refine (copyCheck B b bs _ h).mono ?_)
 rintro e w1 ⟨rfl,h1,hb1⟩
 obtain ⟨hB,v,hbk,hown,hne⟩:=h1
 have c0:w1.cell? ⟨b,0,none⟩=some (.pointer (some ⟨b,0,none⟩)):=by rw [Lib.cell_of_heap hbk]; rfl
 have c1:w1.cell? ⟨b,1,none⟩=some v:=by rw [Lib.cell_of_heap hbk]; rfl
 go_wp2_with (at_builtin; refine Lib.wpList_append_own_string _ rfl _ _ 30 9 rfl B 5 i0 Tryz.underlying30 Tryz.underlying9 hi hz0 hz1 hz2 _ _ _ rfl hown s rfl ?c3 ?c4 ?c5 ?_)
 case c3=>unfold maxLen; omega
 case c4=>omega
 case c5=>have:=hb1.size; omega
 intro v' w2 hown' hgrow _
 have hlt:b<w1.heap.size:=by
  rcases Nat.lt_or_ge b w1.heap.size with h' | h'
  ·exact h'
  ·simp [Array.getElem?_eq_none h'] at hbk
 have hb2:w2.heap[b]?=some (.cells #[.pointer (some ⟨b,0,none⟩),v] 228 (0,0)):=by
  rw [hgrow.block b hlt (fun e=>hne e.symm)]
  exact hbk
 have d0:w2.cell? ⟨b,0,none⟩=some (.pointer (some ⟨b,0,none⟩)):=by rw [Lib.cell_of_heap hb2]; rfl
 have d1:w2.cell? ⟨b,1,none⟩=some v:=by rw [Lib.cell_of_heap hb2]; rfl
 have f1:w2.frozen? ⟨b,1,none⟩=false:=Lib.frozen_of_heap hb2 1
 obtain ⟨ao,n',cap,rfl⟩:∃ ao n' cap,v'=.slice ao n' cap:=by
  rcases hown'.2 with ⟨hv,_⟩ | ⟨g,cap,cur,hv,_⟩
  ·exact ⟨_,_,_,hv⟩
  ·exact ⟨_,_,_,hv⟩
 go_wp2
 go_ret2
 refine ⟨rfl,?_,?_⟩
 ·exact Lib.BuilderAt.put (T:=228) (e:=5) hB hb2 (bs':=bs ++ Lib.strCells s) (by simpa [Lib.strCells_length] using hown') (by decide)
 ·exact (hb1.grown hgrow (by have:=hb1.size; omega) (fun k hk=>(hown.lt k hk).1)).setCell (p:=⟨b,1,none⟩) hB _
end Go.Proofs.YtmomjpolkkbhnaaGreat.Tk
end
