/- Arguments that came in, opened to what the walks ask. -/
import Derived.ProofKit
import Derived.OpenShut
import Derived.ShutString
import Derived.ChangeOld
import Derived.SliceStrings
import Derived.SizedLaws
import Derived.Laws.AppendOwn
import Derived.Below
import Derived.Shelf.Strings.Builder1
import Derived.Shelf.Small.Strs
import Derived.Shelf.Small.Wraps
import Derived.Shelf.Strings.BuilderF
import Derived.Shelf.Strings.BuilderK
import Derived.Shelf.Strings.Search1
import Derived.Shelf.Strings.Search2
import Derived.Shelf.Strings.Search3
import Derived.Shelf.Strings.Cut
import Derived.Shelf.LaysM
import Derived.Shelf.Strings.Shaped
import Derived.Shelf.Strings.Prefix
import Derived.Shelf.Strings.BuilderCap
import Derived.Ground.Names2Prog
import Derived.Shelf.Slices.SearchI
import Derived.Still
import Derived.Deep.Draws
import Derived.StillTail
import Derived.BigRegion
import Derived.RegionTactic
import Derived.ChangeAlike
import Derived.Deep.QuietTactic
import Derived.BigQuiet
import Derived.Deep.Slices
import Derived.Deep.Strs
import Derived.Lib.SmallJoins
import Derived.Test.YtmomjpolkkbhnaaGreatQModelRunsRow0
import Derived.Test.YtmomjpolkkbhnaaGreatQModelRunsRow31
set_option maxRecDepth 20000
set_option maxHeartbeats 100000000
set_option linter.unusedSimpArgs false
open Go.Proofs.Tryz
section
namespace Go.Proofs.YtmomjpolkkbhnaaGreat
open Go.RowKit Go.ChangeShapes Go.WideShapes Go.ChangeAt
section
variable {H:Type} {enc:TypeId × Value→H} {P:Program} {W:World} {base:Nat} {t e:TypeId} {v:Value} {d:DataW H} {p:List MemPlace}
theorem qZ{ts:List TypeId}{ds:List (DataW H)}(h:(DataW.weightsEach P ts ds).all (·≤reachBytes)=true){j:Nat}(ht:ts[j]?=some t)(hd:ds[j]?=some d):∀n∈d.weights P t,n≤140737488351232:=by
 intro n a;have:=List.all_eq_true.1 h _ (DataW.weights_mem_each ht hd n a);have e:reachBytes=140737488351232:=jd;rw[←e]
 simpa using this
theorem xM{e:TypeId}{y:DataW H}:∀ {l:List (DataW H)},y∈l→∀n∈y.weights P e,n∈DataW.weightsAll P e l
 | [],h,_,_=>by cases h
 | x::l,h,n,hn=>by
  simp only[DataW.weightsAll,List.mem_append];rcases List.mem_cons.1 h with rfl|h
  ·exact Or.inl hn
  exact Or.inr (xM h n hn)
theorem D7{α:Type}(l:List α)(x:α)(n:Nat)(h:n≤l.length):(List.range n).map (fun i=>l.getD i x)=l.take n:=by
 apply List.ext_getElem
 ·simp;omega
 intro i a b;simp at a;simp[List.getD_eq_getElem?_getD,zU (show i<l.length by omega)]
end
end Go.Proofs.YtmomjpolkkbhnaaGreat
end

section
namespace Go.Proofs.YtmomjpolkkbhnaaGreat.Qy
open Go.RowKit
inductive Q where
 | mk (kind:Int) (name:ByteArray) (words:List ByteArray) (l:List Q)
def Q.kind:Q→Int | .mk k _ _ _=>k
def Q.name:Q→ByteArray | .mk _ n _ _=>n
def Q.words:Q→List ByteArray | .mk _ _ w _=>w
def Q.l:Q→List Q | .mk _ _ _ l=>l
theorem Q.ind{p:Q→Prop}(h:∀k n ws l,(∀x∈l,p x)→p (.mk k n ws l)):∀q,p q:=by
 intro q;refine Q.rec (motive_1:=p) (motive_2:=fun l=>∀x∈l,p x) (fun k n ws l a=>h k n ws l a) jz (fun x l b a=>?_) q;intro y hy;rcases List.mem_cons.1 hy with rfl|hy
 ·exact b
 exact a y hy
theorem iM{k:Nat}:∀ {vss:List (List Value)} (_:∀v∈vss,v.length=k) (i j:Nat) (hi:i<vss.length) (_:j<k),vss.flatten[i*k+j]?=(vss[i])[j]?
 | v::vss,h,0,j,_,_=>by
  have a:=h v jz;rw[List.flatten_cons,Nat.zero_mul,zi,List.getElem?_append_left jo];rfl
 | v::vss,h,i+1,j,hi,hj=>by
  have a:=h v jz;have ih:=iM (fun x b=>h x (List.mem_cons_of_mem _ b)) i j (by simpa using hi) hj;have e:(i+1)*k+j=v.length+(i*k+j):=by rw[a,Nat.add_mul,Nat.one_mul];omega
  rw[List.flatten_cons,e,List.getElem?_append_right jo,Nat.add_sub_cancel_left,ih];rfl
inductive QAt (w:World) (B:Nat):Q→List Value→Prop
 | mk {k:Int} {nm:ByteArray} {ws:List ByteArray} {l:List Q} {A C:Option Addr} {n c m d:Nat} (vss:List (List Value)) (hn:ws.length=n) (hw:Reads w B 1 A n (ws.map Value.string)) (hm:l.length=m) (hv:vss.length=m)
   (h4:∀v∈vss,v.length=4) (hl:Reads w B 4 C m vss.flatten) (kids:∀i (h:i<l.length) (h':i<vss.length),QAt w B l[i] vss[i]):QAt w B (.mk k nm ws l) [.int .i64 k,.string nm,.slice A n c,.slice C m d]
theorem QAt.keep{w w':World}{B:Nat}(hk:∀b o,b<B→w'.cell? ⟨b,o,none⟩=w.cell? ⟨b,o,none⟩){q:Q}{vs:List Value}(h:QAt w B q vs):QAt w' B q vs:=by
 induction h with
 | mk vss hn hw hm hv h4 hl _ ih=>exact .mk vss hn (hw.keep hk) hm hv h4 (hl.keep hk) ih
theorem QAt.lower{w w':World}{B:Nat}{q:Q}{vs:List Value}(h:QAt w B q vs)(hb:Below B w w'):QAt w' B q vs:=h.keep fun _ _ a=>hb.cell a
theorem QAt.more{w:World}{B B':Nat}{q:Q}{vs:List Value}(h:QAt w B q vs)(hB:B≤B'):QAt w B' q vs:=by
 induction h with
 | mk vss hn hw hm hv h4 hl _ ih=>exact .mk vss hn (hw.more hB) hm hv h4 (hl.more hB) ih
theorem QAt.grow{w w':World}{q:Q}{vs:List Value}(h:QAt w w.heap.size q vs)(hb:zWW w w'):QAt w' w'.heap.size q vs:=(h.lower hb).more hb.size
structure QIs (w:World) (B:Nat) (k:Int) (nm:ByteArray) (ws:List ByteArray) (l:List Q) (A:Option Addr) (n:Nat) (C:Option Addr) (m:Nat):Prop where
 wn:ws.length=n
 wds:Reads w B 1 A n (ws.map Value.string)
 lm:l.length=m
 kid:∀i (h:i<l.length),∃b o v,C=some ⟨b,o,none⟩∧b<B∧QAt w B l[i] v∧∀j u,v[j]?=some u→w.cell? ⟨b,o+(i*4+j),none⟩=some u
theorem QAt.is{w:World}{B:Nat}{k:Int}{nm:ByteArray}{ws:List ByteArray}{l:List Q}{vs:List Value}(h:QAt w B (.mk k nm ws l) vs) :
  ∃A n c C m d,vs=[.int .i64 k,.string nm,.slice A n c,.slice C m d]∧QIs w B k nm ws l A n C m:=by
 cases h with
 | @mk _ _ _ _ A C n c m d vss hn hw hm hv h4 hl kids=>
  refine⟨A,n,c,C,m,d,rfl,hn,hw,hm,fun i q=>?_⟩;obtain⟨b,o,e,r,p⟩:=hl.2 jo;have a:i<vss.length:=jo;refine⟨b,o,vss[i],e,r,kids i q a,fun j u g=>?_⟩
  have s:j<4:=by
   have f:=(List.getElem?_eq_some_iff.1 g).1;rw[h4 _ (za a)]at f;exact f
  exact p _ _ ((iM h4 i j a s).trans g)
theorem QAt.len{w:World}{B:Nat}{q:Q}{vs:List Value}(h:QAt w B q vs):vs.length=4:=by cases h;rfl
theorem QIs.at_{w:World}{B:Nat}{k:Int}{nm:ByteArray}{ws:List ByteArray}{l:List Q}{A C:Option Addr}{n m:Nat}(h:QIs w B k nm ws l A n C m){i:Nat}(hi:i<l.length) :
  ∃b o A' n' c' C' m' d',C=some ⟨b,o,none⟩∧b<B∧QAt w B l[i] [.int .i64 l[i].kind,.string l[i].name,.slice A' n' c',.slice C' m' d'] ∧
   w.cell? ⟨b,o+i*4,none⟩=some (.int .i64 l[i].kind)∧w.cell? ⟨b,o+i*4+1,none⟩=some (.string l[i].name)∧w.cell? ⟨b,o+i*4+2,none⟩=some (.slice A' n' c')∧w.cell? ⟨b,o+i*4+3,none⟩=some (.slice C' m' d'):=by
 obtain⟨b,o,v,e,d,c,a⟩:=h.kid i hi;generalize l[i]=q at *;obtain⟨j,g,f,p⟩:=q;obtain⟨A',n',c',C',m',d',rfl,_⟩:=c.is;exact⟨b,o,A',n',c',C',m',d',e,d,c,by simpa[Q.kind]using a 0 _ rfl,by simpa[Nat.add_assoc,Q.name]using a 1 _ rfl,by simpa[Nat.add_assoc]using a 2 _ rfl,by simpa[Nat.add_assoc]using a 3 _ rfl⟩
def fJ(fs:List (ByteArray × ByteArray)):List Value:=fs.flatMap fun f=>[.string f.1,.string f.2]
theorem qm(fs:List (ByteArray × ByteArray)):(fJ fs).length=fs.length*2:=by
 induction fs with
 | nil=>rfl
 | cons f fs ih=>simp[fJ]at *;omega
theorem uM:∀(fs:List (ByteArray × ByteArray)) (k:Nat) (h:k<fs.length),(fJ fs)[k*2]?=some (.string fs[k].1)∧(fJ fs)[k*2+1]?=some (.string fs[k].2)
 | f::fs,0,_=>⟨rfl,rfl⟩
 | f::fs,k+1,h=>by
  have ih:=uM fs k (by simpa using h);have b:(k+1)*2=k*2+2:=jo;have a:(k+1)*2+1=(k*2+1)+2:=jo;rw[a,b];exact ih
theorem lq{w:World}{B n:Nat}{A:Option Addr}{fs:List (ByteArray × ByteArray)}(h:Reads w B 2 A n (fJ fs)){k:Nat}(hk:k<fs.length) :
  ∃b o,A=some ⟨b,o,none⟩∧b<B∧w.cell? ⟨b,o+k*2,none⟩=some (.string fs[k].1)∧w.cell? ⟨b,o+k*2+1,none⟩=some (.string fs[k].2):=by
 have d:=h.1;rw[qm]at d;obtain⟨b,o,e,c,a⟩:=h.2 jo;have g:=uM fs k hk;refine⟨b,o,e,c,a _ _ g.1,?_⟩;have:=a _ _ g.2
 rwa[←Nat.add_assoc]at this
end Go.Proofs.YtmomjpolkkbhnaaGreat.Qy
end

section
namespace Go.Proofs.YtmomjpolkkbhnaaGreat.Qp
open Go.RowKit Qy
def ReadsS(w:World)(S:Nat→Prop)(size:Nat)(A:Option Addr)(n:Nat)(xs:List Value):Prop:=
 xs.length=n*size∧(0<n→∃b o,A=some ⟨b,o,none⟩∧S b∧∀j u,xs[j]?=some u→w.cell? ⟨b,o+j,none⟩=some u)
section
variable {w w':World} {S S':Nat→Prop} {size n:Nat} {A:Option Addr} {xs:List Value}
theorem ReadsS.keep(h:ReadsS w S size A n xs)(hk:∀b o,S b→w'.cell? ⟨b,o,none⟩=w.cell? ⟨b,o,none⟩):ReadsS w' S size A n xs:=
 ⟨h.1,fun c=>by
  obtain⟨b,o,e,a,d⟩:=h.2 c
  exact⟨b,o,e,a,fun j u f=>(hk b _ a).trans (d j u f)⟩⟩
theorem ReadsS.mono(h:ReadsS w S size A n xs)(hS:∀b,S b→S' b):ReadsS w S' size A n xs:=
 ⟨h.1,fun a=>by
  obtain⟨b,o,e,d,c⟩:=h.2 a
  exact⟨b,o,e,hS b d,c⟩⟩
theorem ReadsS.reads{B:Nat}(h:ReadsS w S size A n xs)(hS:∀b,S b→b<B):Reads w B size A n xs:=
 ⟨h.1,fun a=>by
  obtain⟨b,o,e,d,c⟩:=h.2 a
  exact⟨b,o,e,hS b d,c⟩⟩
theorem ReadsS.none_:ReadsS w S size A 0 []:=⟨by simp,fun h=>absurd h (by omega)⟩
theorem ReadsS.of_own{base:Nat}{e:TypeId}{c:Nat}(h:w.ownsRow base e size (.slice A n c) n xs):ReadsS w (fun b=>base≤b∧b<w.heap.size∧(Value.slice A n c).ownBlock=some b) size A n xs:=by
 refine⟨h.1,fun p=>?_⟩;have a:=h.lt;rcases h.2 with⟨f,q⟩|⟨g,k,i,f,_,o,_⟩
 ·omega
 have l:A=some ⟨g,0,none⟩:=by injection f
 subst l;refine⟨_,_,rfl,⟨(a g rfl).1,(a g rfl).2,rfl⟩,fun j u m=>?_⟩;have:=h.cells (g:=g) rfl j u m;have d:(⟨g,0,none⟩:Addr).add j=⟨g,j,none⟩:=by unfold Addr.add;split<;>simp_all
 rw[d]at this;rw[zi];exact this
end
end Go.Proofs.YtmomjpolkkbhnaaGreat.Qp
end

section
namespace Go.Proofs
open Go.Shelf
def Tryz.lays170_ren:Go.Shelf.Ren:=⟨fun|170=>185|n=>n,fun|70=>226|3=>3|0=>0|72=>228|37=>30|5=>5|n=>n,fun|n=>n⟩
theorem Tryz.lays170:Go.Proofs.Lays.n170 prog Tryz.lays170_ren:={
 mixed:=by kernel_rfl
 f170:=func185.trans (congrArg some (by kernel_rfl))
 t0:=underlying0
 a0:=Tryz.isAgg0
 z0:=Tryz.sizeOf0
 v0:=Tryz.zeroValue0
 t3:=underlying3
 a3:=Tryz.isAgg3
 z3:=Tryz.sizeOf3
 v3:=Tryz.zeroValue3
 t37:=underlying30
 a37:=Tryz.isAgg30
 z37:=Tryz.sizeOf30
 v37:=Tryz.zeroValue30
 t70:=underlying226
 a70:=Tryz.isAgg226
 z70:=Tryz.sizeOf226
 v70:=Tryz.zeroValue226
 t72:=underlying228
 a72:=Tryz.isAgg228
 z72:=Tryz.sizeOf228
 v72:=Tryz.zeroValue228 }
open Go.RowKit in
theorem Tryz.Builder_Len(B b:Nat)(bs:List Value)(w:World)(h:Lib.IsBuilder 228 5 B b bs w) :
  Calls prog 185 #[.pointer (some ⟨b,0,none⟩)] w fun e w'=>e=.returned (.int .i64 bs.length)∧w'=w:=Any.Builder_Len Tryz.lays170 B b bs w h
def Tryz.lays169_ren:Go.Shelf.Ren:=⟨fun|169=>187|n=>n,fun|70=>226|9=>9|0=>0|72=>228|37=>30|127=>248|3=>3|5=>5|n=>n,fun|n=>n⟩
theorem Tryz.lays169:Go.Proofs.Lays.n169 prog Tryz.lays169_ren:={
 mixed:=by kernel_rfl
 f169:=func187.trans (congrArg some (by kernel_rfl))
 t0:=underlying0
 a0:=Tryz.isAgg0
 z0:=Tryz.sizeOf0
 v0:=Tryz.zeroValue0
 t3:=underlying3
 a3:=Tryz.isAgg3
 z3:=Tryz.sizeOf3
 v3:=Tryz.zeroValue3
 t9:=underlying9
 a9:=Tryz.isAgg9
 z9:=Tryz.sizeOf9
 v9:=Tryz.zeroValue9
 t37:=underlying30
 a37:=Tryz.isAgg30
 z37:=Tryz.sizeOf30
 v37:=Tryz.zeroValue30
 t70:=underlying226
 a70:=Tryz.isAgg226
 z70:=Tryz.sizeOf226
 v70:=Tryz.zeroValue226
 t72:=underlying228
 a72:=Tryz.isAgg228
 z72:=Tryz.sizeOf228
 v72:=Tryz.zeroValue228
 t127:=underlying248
 a127:=Tryz.isAgg248
 z127:=Tryz.sizeOf248
 v127:=Tryz.zeroValue248 }
theorem Tryz.Builder_Extra_169:Builder.Extra prog Tryz.lays169_ren:={
 sizeBuilder:=by kernel_rfl
 liesBuilder:=by kernel_rfl
 t5:=underlying5
 a5:=Tryz.isAgg5
 z5:=Tryz.sizeOf5
 v5:=Tryz.zeroValue5
 infoByte:=by kernel_rfl
 cellsByte:=by kernel_rfl
 sizeByte:=by kernel_rfl
 neB5:=by decide }
open Go.RowKit in
theorem Tryz.Builder_String_any(B b:Nat)(l:List UInt8)(w:World)(h:Lib.IsBuilder 228 5 B b (Lib.byteCells l) w)(hBw:B≤w.heap.size) :
  Calls prog 187 #[.pointer (some ⟨b,0,none⟩)] w fun e w'=>e=.returned (.string ⟨l.toArray⟩)∧Below B w w':=Any.Builder_String_any Tryz.lays169 Tryz.Builder_Extra_169 B b l w h hBw
def Tryz.lays137_ren:Go.Shelf.Ren:=⟨fun|137=>175|217=>193|266=>208|n=>n,fun|9=>9|5=>5|3=>3|n=>n,fun|n=>n⟩
theorem Tryz.lays137:Go.Proofs.Lays.n137 prog Tryz.lays137_ren:={
 mixed:=by kernel_rfl
 f137:=func175.trans (congrArg some (by kernel_rfl))
 f217:=func193.trans (congrArg some (by kernel_rfl))
 f266:=func208.trans (congrArg some (by kernel_rfl))
 t3:=underlying3
 a3:=Tryz.isAgg3
 z3:=Tryz.sizeOf3
 v3:=Tryz.zeroValue3
 t5:=underlying5
 a5:=Tryz.isAgg5
 z5:=Tryz.sizeOf5
 v5:=Tryz.zeroValue5
 t9:=underlying9
 a9:=Tryz.isAgg9
 z9:=Tryz.sizeOf9
 v9:=Tryz.zeroValue9 }
open Go.RowKit in
theorem Tryz.strings_IndexByte(s:ByteArray)(c:Int)(w:World) :
  Calls prog 175 #[.string s,.int .u8 c] w fun e w'=>e=.returned (.int .i64 (Lib.indexByte s.data.toList c.toNat.toUInt8))∧w'=w:=Any.strings_IndexByte Tryz.lays137 s c w
def Tryz.lays104_ren:Go.Shelf.Ren:=⟨fun|104=>197|211=>211|207=>216|n=>n,fun|9=>9|4=>4|24=>239|3=>3|n=>n,fun|n=>n⟩
theorem Tryz.lays104:Go.Proofs.Lays.n104 prog Tryz.lays104_ren:={
 mixed:=by kernel_rfl
 f104:=func197.trans (congrArg some (by kernel_rfl))
 f207:=func216.trans (congrArg some (by kernel_rfl))
 f211:=func211.trans (congrArg some (by kernel_rfl))
 t3:=underlying3
 a3:=Tryz.isAgg3
 z3:=Tryz.sizeOf3
 v3:=Tryz.zeroValue3
 t4:=underlying4
 a4:=Tryz.isAgg4
 z4:=Tryz.sizeOf4
 v4:=Tryz.zeroValue4
 t9:=underlying9
 a9:=Tryz.isAgg9
 z9:=Tryz.sizeOf9
 v9:=Tryz.zeroValue9
 t24:=underlying239
 a24:=Tryz.isAgg239
 z24:=Tryz.sizeOf239
 v24:=Tryz.zeroValue239 }
open Go.RowKit in
theorem Tryz.strings_CutSuffix(s p:ByteArray)(w:World)(hs:s.size≤9223372036854775807) :
  Calls prog 197 #[.string s,.string p] w fun e w'=>e=.returned (.tuple #[.string ⟨(Lib.trimSuffix s.data.toList p.data.toList).toArray⟩,.bool (Lib.hasSuffix s.data.toList p.data.toList)])∧w'=w:=Any.strings_CutSuffix Tryz.lays104 s p w hs
def Tryz.lays122_ren:Go.Shelf.Ren:=⟨fun|122=>105|215=>130|n=>n,fun|3=>3|4=>4|n=>n,fun|n=>n⟩
theorem Tryz.lays122:Go.Proofs.Lays.n122 prog Tryz.lays122_ren:={
 mixed:=by kernel_rfl
 f122:=func105.trans (congrArg some (by kernel_rfl))
 f215:=func130.trans (congrArg some (by kernel_rfl))
 t3:=underlying3
 a3:=Tryz.isAgg3
 z3:=Tryz.sizeOf3
 v3:=Tryz.zeroValue3
 t4:=underlying4
 a4:=Tryz.isAgg4
 z4:=Tryz.sizeOf4
 v4:=Tryz.zeroValue4 }
open Go.RowKit in
theorem Tryz.cmp_Compare_int(x y:Int)(w:World) :
  Calls prog 105 #[.int .i64 x,.int .i64 y] w fun e w'=>e=.returned (.int .i64 (Lib.compareInt x y))∧w'=w:=Any.cmp_Compare_int Tryz.lays122 x y w
def Tryz.lays219_ren:Go.Shelf.Ren:=⟨fun|219=>215|217=>193|225=>218|224=>219|267=>220|266=>208|314=>221|n=>n,fun|9=>9|3=>3|4=>4|5=>5|46=>161|146=>254|51=>162|n=>n,fun|1=>0|n=>n⟩
theorem Tryz.lays219:Go.Proofs.Lays.n219 prog Tryz.lays219_ren:={
 mixed:=by kernel_rfl
 f217:=func193.trans (congrArg some (by kernel_rfl))
 f219:=func215.trans (congrArg some (by kernel_rfl))
 f224:=func219.trans (congrArg some (by kernel_rfl))
 f225:=func218.trans (congrArg some (by kernel_rfl))
 f266:=func208.trans (congrArg some (by kernel_rfl))
 f267:=func220.trans (congrArg some (by kernel_rfl))
 f314:=func221.trans (congrArg some (by kernel_rfl))
 t3:=underlying3
 a3:=Tryz.isAgg3
 z3:=Tryz.sizeOf3
 v3:=Tryz.zeroValue3
 t4:=underlying4
 a4:=Tryz.isAgg4
 z4:=Tryz.sizeOf4
 v4:=Tryz.zeroValue4
 t5:=underlying5
 a5:=Tryz.isAgg5
 z5:=Tryz.sizeOf5
 v5:=Tryz.zeroValue5
 t9:=underlying9
 a9:=Tryz.isAgg9
 z9:=Tryz.sizeOf9
 v9:=Tryz.zeroValue9
 t46:=underlying161
 a46:=Tryz.isAgg161
 z46:=Tryz.sizeOf161
 v46:=Tryz.zeroValue161
 t51:=underlying162
 a51:=Tryz.isAgg162
 z51:=Tryz.sizeOf162
 v51:=Tryz.zeroValue162
 t146:=underlying254
 a146:=Tryz.isAgg254
 z146:=Tryz.sizeOf254
 v146:=Tryz.zeroValue254
 g1:=by kernel_rfl }
open Go.RowKit Go.Lib in
theorem Tryz.stringslite_Index_one(s:ByteArray)(c:UInt8)(w:World) :
  Calls prog 215 #[.string s,.string ⟨#[c]⟩] w fun e w'=>e=.returned (.int .i64 (Lib.indexByte s.data.toList c))∧w'=w:=Any.stringslite_Index_one Tryz.lays219 s c w
def Tryz.lays144_ren:Go.Shelf.Ren:=⟨fun|144=>195|143=>210|219=>215|217=>193|225=>218|224=>219|267=>220|266=>208|314=>221|n=>n,fun|9=>9|4=>4|3=>3|5=>5|46=>161|146=>254|51=>162|n=>n,fun|1=>0|n=>n⟩
theorem Tryz.lays144:Go.Proofs.Lays.n144 prog Tryz.lays144_ren:={
 mixed:=by kernel_rfl
 f143:=func210.trans (congrArg some (by kernel_rfl))
 f144:=func195.trans (congrArg some (by kernel_rfl))
 f217:=func193.trans (congrArg some (by kernel_rfl))
 f219:=func215.trans (congrArg some (by kernel_rfl))
 f224:=func219.trans (congrArg some (by kernel_rfl))
 f225:=func218.trans (congrArg some (by kernel_rfl))
 f266:=func208.trans (congrArg some (by kernel_rfl))
 f267:=func220.trans (congrArg some (by kernel_rfl))
 f314:=func221.trans (congrArg some (by kernel_rfl))
 t3:=underlying3
 a3:=Tryz.isAgg3
 z3:=Tryz.sizeOf3
 v3:=Tryz.zeroValue3
 t4:=underlying4
 a4:=Tryz.isAgg4
 z4:=Tryz.sizeOf4
 v4:=Tryz.zeroValue4
 t5:=underlying5
 a5:=Tryz.isAgg5
 z5:=Tryz.sizeOf5
 v5:=Tryz.zeroValue5
 t9:=underlying9
 a9:=Tryz.isAgg9
 z9:=Tryz.sizeOf9
 v9:=Tryz.zeroValue9
 t46:=underlying161
 a46:=Tryz.isAgg161
 z46:=Tryz.sizeOf161
 v46:=Tryz.zeroValue161
 t51:=underlying162
 a51:=Tryz.isAgg162
 z51:=Tryz.sizeOf162
 v51:=Tryz.zeroValue162
 t146:=underlying254
 a146:=Tryz.isAgg254
 z146:=Tryz.sizeOf254
 v146:=Tryz.zeroValue254
 g1:=by kernel_rfl }
open Go.RowKit Go.Lib in
theorem Tryz.strings_Contains_one(s:ByteArray)(c:UInt8)(w:World) :
  Calls prog 195 #[.string s,.string ⟨#[c]⟩] w fun e w'=>e=.returned (.bool (decide (0≤Lib.indexByte s.data.toList c)))∧w'=w:=Any.strings_Contains_one Tryz.lays144 s c w
def Tryz.lays99_ren:Go.Shelf.Ren:=⟨fun|99=>162|206=>180|n=>n,fun|9=>9|4=>4|3=>3|n=>n,fun|n=>n⟩
theorem Tryz.lays99:Go.Proofs.Lays.n99 prog Tryz.lays99_ren:={
 mixed:=by kernel_rfl
 f99:=func162.trans (congrArg some (by kernel_rfl))
 f206:=func180.trans (congrArg some (by kernel_rfl))
 t3:=underlying3
 a3:=Tryz.isAgg3
 z3:=Tryz.sizeOf3
 v3:=Tryz.zeroValue3
 t4:=underlying4
 a4:=Tryz.isAgg4
 z4:=Tryz.sizeOf4
 v4:=Tryz.zeroValue4
 t9:=underlying9
 a9:=Tryz.isAgg9
 z9:=Tryz.sizeOf9
 v9:=Tryz.zeroValue9 }
open Go.RowKit Go.Lib in
theorem Tryz.strings_HasPrefix(s p:ByteArray)(w:World) :
  Calls prog 162 #[.string s,.string p] w fun e w'=>e=.returned (.bool (Lib.hasPrefix s.data.toList p.data.toList))∧w'=w:=Any.strings_HasPrefix Tryz.lays99 s p w
end Go.Proofs
end

section
namespace Go.Proofs.YtmomjpolkkbhnaaGreat.Tk
open Go.RowKit
theorem Cj:(prog.info? 228).map (fun i=>i.size)=some 2:=by kernel_rfl
theorem MR:liesAt prog prog.depth 228 (2/prog.cellsOf 228) 0 228 1=true:=by kernel_rfl
theorem GN:(prog.info? 5).map (fun i=>(i.zero,i.size,i.bytes))=some (some (.int .u8 0),1,1):=by kernel_rfl
set_option maxRecDepth 100000 in
theorem D8(b:Nat)(w:World)(h0:w.cell? ⟨b,0,none⟩=some (.pointer (some ⟨b,0,none⟩))) :
  Calls prog 204 #[.pointer (some ⟨b,0,none⟩)] w fun e w'=>e=.returned (.tuple #[])∧w'=w:=by
 obtain⟨j,a,_⟩:=Option.map_eq_some_iff.1 Cj;go_enter func204,ntmps204;go_wp2;rw[Lib.run_neq_ptr_same w _ underlying226 a];go_wp2
 go_end0
 exact⟨rfl,rfl⟩
set_option maxRecDepth 100000 in
theorem Dz(b:Nat)(w:World)(h0:w.cell? ⟨b,0,none⟩=some (.pointer none))(hsh:w.shape? b=some (228,2))(hfz:w.frozen? ⟨b,0,none⟩=false) :
  Calls prog 204 #[.pointer (some ⟨b,0,none⟩)] w fun e w'=>e=.returned (.tuple #[])∧w'=w.setCell ⟨b,0,none⟩ (.pointer (some ⟨b,0,none⟩)):=by
 obtain⟨j,c,a⟩:=Option.map_eq_some_iff.1 Cj;go_enter func204,ntmps204;go_wp2;rw[Lib.run_to_unsafe w ⟨b,0,none⟩ underlying226 underlying250 c (by rw[a];decide) hsh (Nat.zero_lt_succ 1)];simp only[Result.andThen];rw[Oper.upon_value];go_wp2;rw[run_callFunc_extern func212 jk jk jk (e:=Extern.AbiNoEscape.same) jk];rw[Lib.run_noEscape];simp only[Result.andThen];rw[Oper.upon_value];go_wp2;rw[Lib.run_from_unsafe w ⟨b,0,none⟩ underlying250 underlying226 c hsh MR];simp only[Result.andThen];rw[Oper.upon_value];go_wp2
 go_end0
 exact⟨rfl,rfl⟩
theorem GQ(B b:Nat)(bs:List Value)(w:World)(h:Lib.IsBuilder 228 5 B b bs w) :
  Calls prog 204 #[.pointer (some ⟨b,0,none⟩)] w fun e w'=>e=.returned (.tuple #[])∧(Lib.BuilderAt 228 5 B b (.pointer (some ⟨b,0,none⟩)) bs w'∧Below B w w'):=by
 rcases h with h|h
 ·refine(Dz b w h.cell0 h.shape h.frozen0).mono ?_;rintro e w' ⟨rfl,rfl⟩;exact⟨rfl,h.used _,(zy B w).setCell (p:=⟨b,0,none⟩) h.1 _⟩
 refine(D8 b w h.cell0).mono ?_;rintro e w' ⟨rfl,rfl⟩;exact⟨rfl,h,zy B _⟩
set_option maxRecDepth 100000 in
theorem Ec(B b:Nat)(bs:List Value)(s:ByteArray)(w:World)(h:Lib.IsBuilder 228 5 B b bs w)(hlen:bs.length+s.size≤140737488355328)(hBw:B≤w.heap.size) :
  Calls prog 186 #[.pointer (some ⟨b,0,none⟩),.string s] w fun e w'=>e=.returned (.tuple #[.int .i64 s.size,.nilIface])∧(Lib.BuilderAt 228 5 B b (.pointer (some ⟨b,0,none⟩)) (bs++Lib.strCells s) w'∧Below B w w'):=by
 obtain⟨D,H,q,x,o⟩:=info_parts GN;go_enter func186,ntmps186;go_wp2_with (go_at_call 204;refine(GQ B b bs _ h).mono ?_);rintro e m ⟨rfl,G,l⟩;obtain⟨A,v,d,i,r⟩:=G;have N:m.cell? ⟨b,0,none⟩=some (.pointer (some ⟨b,0,none⟩)):=by rw[Lib.cell_of_heap d];rfl
 have L:m.cell? ⟨b,1,none⟩=some v:=by rw[Lib.cell_of_heap d];rfl
 go_wp2_with (at_builtin;refine Lib.wpList_append_own_string _ rfl _ _ 30 9 rfl B 5 D underlying30 underlying9 H q x o _ _ _ rfl i s rfl ?c3 ?c4 ?c5 ?_)
 case c3=>unfold maxLen;omega
 case c4=>omega
 case c5=>have:=l.size;omega
 intro E n a c _
 have t:b<m.heap.size:=by
  rcases zj b m.heap.size with h'|h'
  ·exact h'
  simp[zp h']at d
 have f:n.heap[b]?=some (.cells #[.pointer (some ⟨b,0,none⟩),v] 228 (0,0)):=by
  rw[c.block b t (fun e=>r e.symm)];exact d
 have I:n.cell? ⟨b,0,none⟩=some (.pointer (some ⟨b,0,none⟩)):=by rw[Lib.cell_of_heap f];rfl
 have M:n.cell? ⟨b,1,none⟩=some v:=by rw[Lib.cell_of_heap f];rfl
 have J:n.frozen? ⟨b,1,none⟩=false:=Lib.frozen_of_heap f 1
 obtain⟨z,y,j,rfl⟩:∃z y j,E=.slice z y j:=by
  rcases a.2 with⟨u,_⟩|⟨g,j,C,u,_⟩
  ·exact⟨_,_,_,u⟩
  exact⟨_,_,_,u⟩
 go_wp2;go_ret2;refine⟨rfl,?_,?_⟩
 ·exact Lib.BuilderAt.put (T:=228) (e:=5) A f (bs':=bs++Lib.strCells s) (by simpa[Lib.strCells_length]using a) jd
 exact(l.grown c (by have:=l.size;omega) (fun k F=>(i.lt k F).1)).setCell (p:=⟨b,1,none⟩) A _
end Go.Proofs.YtmomjpolkkbhnaaGreat.Tk
end

section
namespace Go.Proofs.YtmomjpolkkbhnaaGreat
open Go Go.RowKit
structure RSpec where
 α:Type
 f:α→Value
 Φ:α→World→Prop
section
variable {P:Program} {ops:Array Oper} {md:Region.Mode} {C:World→Prop} {G:World→World→Prop} {Q:Act→World→Prop} {S:Nat→Option RSpec}
def gT(P:Program)(G:World→World→Prop)(w:World)(R:Value→World→Prop):Result Next→Prop
 | .ok (.value u) w'=>G w w'∧R u w'
 | .ok .skip w'=>G w w'∧R undef w'
 | .ok (.enter f args) w'=>Calls P f args w' (fun e w''=>∃v,e=.returned v∧G w w''∧R v w'')
 | _=>False
def iD(md:Region.Mode)(o:Oper)(F:Nat→World→Prop)(w:World):Prop:=∀e∈o.after,Region.binds md e=true→F e.on w
def upd(F:Nat→World→Prop)(i:Nat)(p:World→Prop):Nat→World→Prop:=fun j w=>if j=i then F j w∧p w else F j w
def oG(P:Program)(C:World→Prop)(md:Region.Mode)(F:Nat→World→Prop)(o:Oper)(a:Act)(c:Value):Prop:=
 ∀w,C w→iD md o F w→(execOp a.eval o).run P w=.ok (.value c) w∨((execOp a.eval o).run P w=.ok .skip w∧c=undef)
def oH(P:Program)(C:World→Prop)(G:World→World→Prop)(md:Region.Mode)(F:Nat→World→Prop)(o:Oper)(a:Act)(s:RSpec):Prop:=
 ∀w,C w→iD md o F w→gT P G w (fun v w'=>C w'∧∃x,v=s.f x∧s.Φ x w') ((execOp a.eval o).run P w)
def iX(P:Program)(ops:Array Oper)(C:World→Prop)(G:World→World→Prop)(md:Region.Mode)(S:Nat→Option RSpec)(i:Nat)(o:Oper)(K:Act→(Nat→World→Prop)→Prop)(a:Act)(F:Nat→World→Prop):Prop:=
 if Region.wanted o (yielded ops a.tmps)=true then
  match S i with
  | none=>∃c,oG P C md F o a c∧K (a.put o.dst c) F
  | some s=>oH P C G md F o a s∧∀x,K (a.put o.dst (s.f x)) (upd F i (s.Φ x))
 else K (a.put o.dst undef) F
def sP(C:World→Prop)(Q:Act→World→Prop)(a:Act)(F:Nat→World→Prop):Prop:=∀w,C w→(∀j,F j w)→Q a w
def lS(C:World→Prop)(F:Nat→World→Prop):Prop:=∃w,C w∧∀j,F j w
def pK(P:Program)(md:Region.Mode)(ops:Array Oper)(C:World→Prop)(G:World→World→Prop)(S:Nat→Option RSpec)(Q:Act→World→Prop):Nat→Array Bool→Act→(Nat→World→Prop)→Prop
 | 0,listed,a,F=>lS C F→(Region.ready md ops listed=[]∧sP C Q a F)
 | fuel+1,listed,a,F=>lS C F→((Region.ready md ops listed=[]→sP C Q a F) ∧
  ∀i∈Region.ready md ops listed,∀o,ops[i]?=some o→iX P ops C G md S i o (pK P md ops C G S Q fuel (listed.setIfInBounds i true)) a F)
def oz(P:Program)(ops:Array Oper)(C:World→Prop)(G:World→World→Prop)(md:Region.Mode)(S:Nat→Option RSpec)(Q:Act→World→Prop):List Oper→Nat→Act→(Nat→World→Prop)→Prop
 | [],_,a,F=>sP C Q a F
 | o::rest,k,a,F=>iX P ops C G md S k o (oz P ops C G md S Q rest (k+1)) a F
def Lasts(G:World→World→Prop)(F:Nat→World→Prop):Prop:=∀j w w',G w w'→F j w→F j w'
theorem Lasts.upd{F:Nat→World→Prop}(h:Lasts G F)(i:Nat){p:World→Prop}(hp:∀w w',G w w'→p w→p w'):Lasts G (upd F i p):=by
 intro j w w' b a;unfold Proofs.YtmomjpolkkbhnaaGreat.upd at *
 split
 ·rename_i e;rw[if_pos e]at a;exact⟨h j _ _ b a.1,hp _ _ b a.2⟩
 rename_i e;rw[if_neg e]at a;exact h j _ _ b a
theorem pO{o:Oper}{a:Act}{K':Act→World→Prop}{Q':Exit→Act→World→Prop}{w:World}{R:Value→World→Prop}(h:∀v w',G w w'→R v w'→K' (a.put o.dst v) w')
  (hh:gT P G w R ((execOp a.eval o).run P w)):o.wp P a w K' Q':=by
 unfold Oper.wp;generalize (execOp a.eval o).run P w=r at *
 cases r with
 | ok n w'=>
  cases n<;>simp only[gT]at hh<;>simp only[Oper.upon]
  case value u=>exact h _ _ hh.1 hh.2
  case skip=>exact h _ _ hh.1 hh.2
  case enter f args=>exact hh.mono fun e w'' ⟨v,he,hg,hr⟩=>by subst he;exact h _ _ hg hr
 | halt x w'=>simp only[gT]at hh
theorem pU(hS:∀i s,S i=some s→∀x w w',G w w'→s.Φ x w→s.Φ x w'){Q':Exit→Act→World→Prop}(hQ:∀a w,Q a w→Q' .normal a w) :
  ∀(fuel:Nat) (listed:Array Bool) (a:Act) (F:Nat→World→Prop) (w:World),C w→(∀j,F j w)→Lasts G F→pK P md ops C G S Q fuel listed a F→wpAny P md ops Q' fuel listed a w
 | 0,_,a,F,w,hC,hF,_,h=>⟨(h ⟨w,hC,hF⟩).1,hQ _ _ ((h ⟨w,hC,hF⟩).2 w hC hF)⟩
 | fuel+1,listed,a,F,w,hC,hF,hL,h=>by
  have h:=h ⟨w,hC,hF⟩;refine⟨fun q=>hQ _ _ (h.1 q w hC hF),fun i m=>?_⟩;unfold wpOp;obtain⟨_,o,k,_⟩:=mem_ready.1 m;simp only[k];have b:=h.2 i m o k;unfold iX at b
  split
  ·rename_i hw;rw[if_pos hw]at b;left
   split at b
   ·rename_i hSi;obtain⟨c,p,g⟩:=b;rcases p w hC (fun e _ _=>hF e.on)with f|⟨f,rfl⟩
    ·unfold Oper.wp;rw[f];exact pU hS hQ fuel _ _ F w hC hF hL g
    unfold Oper.wp;rw[f];exact pU hS hQ fuel _ _ F w hC hF hL g
   rename_i s hSi;refine pO ?_ (b.1 w hC (fun e _ _=>hF e.on));rintro v w' l ⟨d,x,rfl,n⟩;refine pU hS hQ fuel _ _ _ w' d ?_ (hL.upd i (hS i s hSi x)) (b.2 x);intro j;unfold upd
   split
   ·exact⟨hL j _ _ l (hF j),n⟩
   exact hL j _ _ l (hF j)
  rename_i hw;rw[if_neg hw]at b;exact pU hS hQ fuel _ _ F w hC hF hL b
def gS(F:Nat→World→Prop)(i:Nat):Option (World→Prop)→Nat→World→Prop
 | none=>F
 | some p=>upd F i p
theorem BC{F:Nat→World→Prop}{i j:Nat}(h:i≠j)(p q:World→Prop):upd (upd F i p) j q=upd (upd F j q) i p:=by
 funext k w
 unfold upd;by_cases a:k=j<;>by_cases b:k=i
 ·omega
 ·subst a;simp[b]
 ·subst b;simp[a]
 simp[a,b]
theorem AK{F:Nat→World→Prop}{i j:Nat}(h:i≠j)(p q:Option (World→Prop)):gS (gS F i p) j q=gS (gS F j q) i p:=by
 cases p<;>cases q<;>simp only[gS]
 exact BC h _ _
theorem uT{F:Nat→World→Prop}{i:Nat}{p:Option (World→Prop)}{j:Nat}{w:World}(h:gS F i p j w):F j w:=by
 cases p with
 | none=>exact h
 | some p=>
  simp only[gS,upd]at h
  split at h
  ·exact h.1
  exact h
theorem rA{F:Nat→World→Prop}{i:Nat}{p:Option (World→Prop)}(h:lS C (gS F i p)):lS C F:=by
 obtain⟨w,a,b⟩:=h;exact⟨w,a,fun j=>uT (b j)⟩
theorem mL{o:Oper}{F:Nat→World→Prop}{i:Nat}{p:Option (World→Prop)}(hn:∀e∈o.after,Region.binds md e=true→e.on≠i)(w:World):iD md o (gS F i p) w↔iD md o F w:=by
 refine⟨fun h e a b=>uT (h e a b),fun h e a b=>?_⟩
 cases p with
 | none=>exact h e a b
 | some p=>
  simp only[gS,upd];rw[if_neg (hn e a b)];exact h e a b
inductive Head (P:Program) (ops:Array Oper) (C:World→Prop) (G:World→World→Prop) (md:Region.Mode) (S:Nat→Option RSpec) (i:Nat) (o:Oper) (a:Act) (F:Nat→World→Prop):(V:Type)→(V→Value)→(V→Option (World→Prop))→Prop
 | skip (h:Region.wanted o (yielded ops a.tmps)=false):Head P ops C G md S i o a F Unit (fun _=>undef) (fun _=>none)
 | fixed (h:Region.wanted o (yielded ops a.tmps)=true) (hs:S i=none) (c:Value) (hf:oG P C md F o a c):Head P ops C G md S i o a F Unit (fun _=>c) (fun _=>none)
 | gives (h:Region.wanted o (yielded ops a.tmps)=true) (s:RSpec) (hs:S i=some s) (hg:oH P C G md F o a s):Head P ops C G md S i o a F s.α s.f (fun x=>some (s.Φ x))
theorem Head.step{i:Nat}{o:Oper}{a:Act}{F:Nat→World→Prop}{V:Type}{f:V→Value}{p:V→Option (World→Prop)}(h:Head P ops C G md S i o a F V f p){K:Act→(Nat→World→Prop)→Prop}
  (hk:∀x,K (a.put o.dst (f x)) (gS F i (p x))):iX P ops C G md S i o K a F:=by
 cases h with
 | skip h=>unfold iX;rw[if_neg (by rw[h];decide)];exact hk ()
 | fixed h hs c hf=>unfold iX;rw[if_pos h];simp only[hs];exact⟨c,hf,hk ()⟩
 | gives h s hs hg=>unfold iX;rw[if_pos h];simp only[hs];exact⟨hg,hk⟩
theorem li{i:Nat}{o:Oper}{a:Act}{F:Nat→World→Prop}{K:Act→(Nat→World→Prop)→Prop}(h:iX P ops C G md S i o K a F) :
  ∃(V:Type) (f:V→Value) (p:V→Option (World→Prop)),Head P ops C G md S i o a F V f p∧∀x,K (a.put o.dst (f x)) (gS F i (p x)):=by
 unfold iX at h;by_cases b:Region.wanted o (yielded ops a.tmps)=true
 ·rw[if_pos b]at h
  split at h
  ·rename_i hs;obtain⟨c,d,e⟩:=h;exact⟨_,_,_,.fixed b hs c d,fun _=>e⟩
  rename_i s hs;exact⟨_,_,_,.gives b s hs h.1,h.2⟩
 rw[if_neg b]at h;exact⟨_,_,_,.skip (by simpa using b),fun _=>h⟩
theorem Head.same{i:Nat}{o:Oper}{a a':Act}{F F':Nat→World→Prop}{V:Type}{f:V→Value}{p:V→Option (World→Prop)}(h:Head P ops C G md S i o a F V f p)
  (he:execOp a'.eval o=execOp a.eval o) (hw:Region.wanted o (yielded ops a'.tmps)=Region.wanted o (yielded ops a.tmps)) (hd:∀w,iD md o F' w↔iD md o F w):Head P ops C G md S i o a' F' V f p:=by
 cases h with
 | skip h=>exact .skip (by rw[hw];exact h)
 | fixed h hs c hf=>exact .fixed (by rw[hw];exact h) hs c (fun w d b=>by rw[he];exact hf w d ((hd w).1 b))
 | gives h s hs hg=>exact .gives (by rw[hw];exact h) s hs (fun w d b=>by rw[he];exact hg w d ((hd w).1 b))
theorem Head.one{i:Nat}{o:Oper}{a:Act}{F:Nat→World→Prop}{V V':Type}{f:V→Value}{p:V→Option (World→Prop)}{f':V'→Value}{p':V'→Option (World→Prop)}
  (h:Head P ops C G md S i o a F V f p) (h':Head P ops C G md S i o a F V' f' p') (hs:lS C F) (x:V):∃x',f' x'=f x∧p' x'=p x:=by
 obtain⟨w,j,k⟩:=hs;have g:iD md o F w:=fun e _ _=>k e.on
 cases h with
 | skip h=>
  cases h' with
  | skip h'=>exact⟨(),rfl,rfl⟩
  | fixed h' _ _ _=>rw[h]at h';cases h'
  | gives h' _ _ _=>rw[h]at h';cases h'
 | fixed h hs c hf=>
  cases h' with
  | skip h'=>rw[h]at h';cases h'
  | fixed h' hs' c' hf'=>
   refine⟨(),?_,rfl⟩;show c'=c;rcases hf w j g with d|⟨d,rfl⟩<;>rcases hf' w j g with b|⟨b,rfl⟩
   ·rw[d]at b;injection b with b;injection b with b;exact b.symm
   ·rw[d]at b;injection b with b;cases b
   ·rw[d]at b;injection b with b;cases b
   rfl
  | gives h' s hs' hg'=>rw[hs]at hs';cases hs'
 | gives h s hs hg=>
  cases h' with
  | skip h'=>rw[h]at h';cases h'
  | fixed h' hs' c' hf'=>rw[hs]at hs';cases hs'
  | gives h' s' hs' hg'=>
   rw[hs]at hs';injection hs' with hs';subst hs';exact⟨x,rfl,rfl⟩
theorem Head.sat{i:Nat}{o:Oper}{a:Act}{F:Nat→World→Prop}{V:Type}{f:V→Value}{p:V→Option (World→Prop)}(h:Head P ops C G md S i o a F V f p)(hL:Lasts G F)(hs:lS C F):∃x,lS C (gS F i (p x)):=by
 cases h with
 | skip h=>exact⟨(),hs⟩
 | fixed h _ c hf=>exact⟨(),hs⟩
 | gives h s hsi k=>
  obtain⟨w,z,l⟩:=hs;have b:=k w z (fun e _ _=>l e.on)
  have d:∀v g,G w g→(C g∧∃x,v=s.f x∧s.Φ x g)→∃x,lS C (gS F i (some (s.Φ x))):=by
   rintro v g k ⟨t,x,_,y⟩;refine⟨x,g,t,fun j=>?_⟩;simp only[gS,upd]
   split
   ·exact⟨hL j _ _ k (l j),y⟩
   exact hL j _ _ k (l j)
  generalize (execOp a.eval o).run P w=r at b
  cases r with
  | ok n g=>
   cases n<;>simp only[gT]at b
   case value u=>exact d _ _ b.1 b.2
   case skip=>exact d _ _ b.1 b.2
   case enter f args=>
    obtain⟨e,q,_,⟨v,_,m,A⟩,_⟩:=b [];exact d v q m A
  | halt x g=>simp only[gT]at b
theorem Head.lasts{i:Nat}{o:Oper}{a:Act}{F:Nat→World→Prop}{V:Type}{f:V→Value}{p:V→Option (World→Prop)}(hS:∀i s,S i=some s→∀x w w',G w w'→s.Φ x w→s.Φ x w')(h:Head P ops C G md S i o a F V f p)(hL:Lasts G F)(x:V):Lasts G (gS F i (p x)):=by
 cases h with
 | skip h=>exact hL
 | fixed h _ c hf=>exact hL
 | gives h s hs hg=>exact hL.upd i (hS i s hs x)
theorem FP(hS:∀i s,S i=some s→∀x w w',G w w'→s.Φ x w→s.Φ x w'){i:Nat}{oi:Oper}(hi:ops[i]?=some oi)(hsel:∀(j:Nat) (o:Oper) cs b,ops[j]?=some o→o.op≠.select cs b)
  {V:Type} {f:V→Value} {p:V→Option (World→Prop)} :
  ∀(fuel:Nat) (listed:Array Bool) (a:Act) (F:Nat→World→Prop),Lasts G F →
   (∀j oj,ops[j]?=some oj→j≠i→listed.getD j true=false→(∀e∈oj.after,Region.binds md e=true→e.on≠i)→oi.apart ops oj=true) →
   i∈Region.ready md ops listed→Head P ops C G md S i oi a F V f p →
   (∀x,pK P md ops C G S Q fuel (listed.setIfInBounds i true) (a.put oi.dst (f x)) (gS F i (p x)))→pK P md ops C G S Q (fuel+1) listed a F:=by
 intro fuel
 induction fuel with
 | zero=>
  intro listed a F Y _ u D H n;refine⟨fun h=>(by rw[h]at u;cases u),fun j M oj c=>?_⟩;by_cases d:j=i
  ·subst d;rw[hi]at c;injection c with c;subst c;exact D.step H
  obtain⟨x,hx⟩:=D.sat Y n;have:=ready_mono M d;rw[(H x hx).1]at this
  cases this
 | succ fuel ih=>
  intro listed a F Y q u D H n;refine⟨fun h=>(by rw[h]at u;cases u),fun j M oj c=>?_⟩;by_cases d:j=i
  ·subst d;rw[hi]at c;injection c with c;subst c;exact D.step H
  obtain⟨m,ag,g,O⟩:=mem_ready.1 M;rw[c]at g;injection g with g;subst g
  have l:∀e∈oj.after,Region.binds md e=true→e.on≠i:=fun e he I v=>by
   have r:=O e he I;have h0:=(mem_ready.1 u).1;rw[v]at r;rcases Nat.lt_or_ge i listed.size with h'|h'
   ·simp[h']at h0 r;rw[h0]at r;cases r
   simp[Array.getElem?_eq_none h']at r
  have z:∀e∈oi.after,Region.binds md e=true→e.on≠j:=fun e he I v=>by
   obtain⟨h0,o2,t,B⟩:=mem_ready.1 u;rw[hi]at t;injection t with t;subst t;have r:=B e he I;rw[v]at r;rcases Nat.lt_or_ge j listed.size with h'|h'
   ·simp[h']at m r;rw[m]at r;cases r
   simp[Array.getElem?_eq_none h']at r
  have ac:=q j oj c d m l;obtain⟨E,a2,a3⟩:=Oper.apart_spec ac;have af:∀cs b,oi.op≠.select cs b:=fun cs b=>hsel i oi cs b hi
  have A:∀cs b,oj.op≠.select cs b:=fun cs b=>hsel j oj cs b c
  obtain⟨x0,aa⟩:=D.sat Y n;obtain⟨Vj,N,X,J,_⟩:=li ((H x0 aa).2 j (ready_mono M d) oj c)
  have ad:∀x,Head P ops C G md S j oj (a.put oi.dst (f x)) (gS F i (p x)) Vj N X:=fun x=>
   J.same ((execOp_put oj A a oi.dst _ E).trans (execOp_put oj A a oi.dst _ E).symm) ((wanted_put oj a oi.dst _ E).trans (wanted_put oj a oi.dst _ E).symm) (fun w=>(mL l w).trans (mL l w).symm)
  have U:Head P ops C G md S j oj a F Vj N X:=J.same (execOp_put oj A a oi.dst _ E).symm (wanted_put oj a oi.dst _ E).symm (fun w=>(mL l w).symm);refine U.step fun y=>?_
  refine ih (listed.setIfInBounds j true) (a.put oj.dst (N y)) (gS F j (X y)) (U.lasts hS Y y) ?_ (ready_mono u (Ne.symm d)) ?_ ?_
  ·intro k ok hk ab W ae;refine q k ok hk ab ?_ ae;by_cases L:j=k
   ·subst L;exact m
   rw[getD_set_ne true L]at W;exact W
  ·exact D.same (execOp_put oi af a oj.dst _ a3) (wanted_put oi a oj.dst _ a3) (fun w=>mL z w)
  intro x;rw[←AK (Ne.symm d),←Act.put_comm a (f x) (N y) a2,Array.setIfInBounds_comm _ _ d]
  have I:lS C (gS F i (p x))→pK P md ops C G S Q fuel ((listed.setIfInBounds i true).setIfInBounds j true) ((a.put oi.dst (f x)).put oj.dst (N y)) (gS (gS F i (p x)) j (X y)):=by
   intro R;obtain⟨V',f',p',h',Z⟩:=li ((H x R).2 j (ready_mono M d) oj c);obtain⟨y',e1,e2⟩:=(ad x).one h' R y;rw[←e1,←e2];exact Z y'
  cases fuel with
  | zero=>exact fun T=>I (rA T) T
  | succ fuel=>exact fun T=>I (rA T) T
theorem BD(hS:∀i s,S i=some s→∀x w w',G w w'→s.Φ x w→s.Φ x w')(hs:Region.noSelect ops=true):∀(l:List Oper) (k:Nat) (listed:Array Bool) (a:Act) (F:Nat→World→Prop),Lasts G F→(∀j,l[j]?=ops[k+j]?) →
  Region.lexFrom md ops l.length k listed=true→oz P ops C G md S Q l k a F→pK P md ops C G S Q l.length listed a F
 | [],_,_,_,_,_,_,hB,h=>fun _=>⟨by simpa[Region.lexFrom]using hB,h⟩
 | o::l,k,listed,a,F,hL,hl,hB,h=>by
  have d:ops[k]?=some o:=by simpa using(hl 0).symm
  simp only[List.length_cons,Region.lexFrom,Bool.and_eq_true]at hB;obtain⟨⟨m,e⟩,b⟩:=hB;obtain⟨V,f,p,c,g⟩:=li (show iX P ops C G md S k o (oz P ops C G md S Q l (k+1)) a F from h)
  exact FP hS d (Region.noSelect_spec hs) l.length listed a F hL (Region.free_spec d e) (by simpa using m) c
   (fun x=>BD hS hs l (k+1) _ _ _ (c.lasts hS hL x) (fun j=>by have:=hl (j+1);simpa[Nat.add_assoc,Nat.add_comm 1 j]using this) b (g x))
structure GrowAt (P:Program) (ops:Array Oper) (C:World→Prop) (G:World→World→Prop) (md:Region.Mode) (S:Nat→Option RSpec) (Q:Act→World→Prop) (l:List Oper) (k:Nat) (a:Act) (F:Nat→World→Prop):Prop where
 out:oz P ops C G md S Q l k a F
theorem iF{id:Nat}{Q':Exit→Act→World→Prop}{a:Act}{w:World}{l:List Oper}(S:Nat→Option RSpec)(C:World→Prop)(G:World→World→Prop)
  (hm:P.follows .mixedOrders=true) (hB:Region.lexB .any l.toArray=true) (hS:∀i s,S i=some s→∀x w w',G w w'→s.Φ x w→s.Φ x w') (hC:C { w with drawn:=w.drawn+1 })
  (h:GrowAt P l.toArray C G .any S (fun a w=>Q' .normal a w) l 0 a (fun _ _=>True)):(Code.region id l.toArray true).wp P Q' a w:=by
 simp only[Region.lexB,Bool.and_eq_true]at hB;refine wp_region_any hm (pU hS (fun _ _ h=>h) _ _ _ _ _ hC (fun _=>trivial) (fun _ _ _ _ _=>trivial) ?_);have:=BD (C:=C) (G:=G) (md:=.any) hS hB.1 l 0 (Array.replicate l.toArray.size false) a (fun _ _=>True) (fun _ _ _ _ _=>trivial) jz (by simpa using hB.2) h.out
 simpa using this
theorem fK(k':Nat)(r:Option Bool)(b:Bool){j:Nat}{o:Oper}{rest:List Oper}{k:Nat}{a:Act}{F:Nat→World→Prop}(hk:k+1=k')(hg:o.guard=some (j,b))(hy:yielded ops a.tmps j=r)(hr:(r==some b)=false)
  (h:GrowAt P ops C G md S Q rest k' (a.put o.dst undef) F):GrowAt P ops C G md S Q (o::rest) k a F:=by
 have c:Region.wanted o (yielded ops a.tmps)=false:=by
  unfold Region.wanted;rw[hg];simp only[hy];exact hr
 subst hk;refine⟨?_⟩;show iX P ops C G md S k o _ a F;unfold iX;rw[if_neg (by rw[c];decide)];exact h.out
theorem fG(k':Nat)(c:Value){o:Oper}{rest:List Oper}{k:Nat}{a:Act}{F:Nat→World→Prop}(hk:k+1=k')(hs:S k=none)(hw:Region.wanted o (yielded ops a.tmps)=true)
  (hf:∀w,C w→iD md o F w→(execOp a.eval o).run P w=.ok (.value c) w) (h:GrowAt P ops C G md S Q rest k' (a.put o.dst c) F):GrowAt P ops C G md S Q (o::rest) k a F:=by
 subst hk;refine⟨?_⟩;show iX P ops C G md S k o _ a F;unfold iX;rw[if_pos hw];simp only[hs];exact⟨c,fun w d b=>.inl (hf w d b),h.out⟩
theorem fo(k':Nat)(s:RSpec){o:Oper}{rest:List Oper}{k:Nat}{a:Act}{F:Nat→World→Prop}(hk:k+1=k')(hs:S k=some s)(hw:Region.wanted o (yielded ops a.tmps)=true)
  (hg:∀w,C w→iD md o F w→gT P G w (fun v w'=>C w'∧∃x,v=s.f x∧s.Φ x w') ((execOp a.eval o).run P w)) (h:∀x,GrowAt P ops C G md S Q rest k' (a.put o.dst (s.f x)) (upd F k (s.Φ x))):GrowAt P ops C G md S Q (o::rest) k a F:=by
 subst hk;refine⟨?_⟩;show iX P ops C G md S k o _ a F;unfold iX;rw[if_pos hw];simp only[hs];exact⟨hg,fun x=>(h x).out⟩
theorem fW{k:Nat}{a:Act}{F:Nat→World→Prop}(h:∀w,C w→(∀j,F j w)→Q a w):GrowAt P ops C G md S Q [] k a F:=⟨h⟩
theorem kM{o:Oper}{F:Nat→World→Prop}{w:World}(h:iD md o F w)(j:Nat)(hj:(o.after.any fun e=>Region.binds md e&&e.on==j)=true):F j w:=by
 obtain⟨e,b,a⟩:=Array.any_eq_true'.1 hj;simp only[Bool.and_eq_true,beq_iff_eq]at a;have:=h e b a.1
 rwa[a.2]at this
theorem gZ{F:Nat→World→Prop}{i j:Nat}{p:World→Prop}{w:World}(h:upd F i p j w)(e:j=i):p w:=by
 unfold upd at h;rw[if_pos e]at h;exact h.2
theorem nk{F:Nat→World→Prop}{i j:Nat}{p:World→Prop}{w:World}(h:upd F i p j w)(e:j≠i):F j w:=by
 unfold upd at h
 rwa[if_neg e]at h
theorem fZ{o:Oper}{a:Act}{w:World}{R:Value→World→Prop}{f:FuncId}{args:Array Value}(hr:(execOp a.eval o).run P w=.ok (.enter f args) w)
  (hc:Calls P f args w (fun e w''=>∃v,e=.returned v∧G w w''∧R v w'')):gT P G w R ((execOp a.eval o).run P w):=by
 rw[hr];exact hc
def fF:List (Nat × RSpec)→Nat→Option RSpec
 | [],_=>none
 | (i,s)::l,k=>if k=i then some s else fF l k
def xC(G:World→World→Prop)(l:List (Nat × RSpec)):Prop:=∀i s,fF l i=some s→∀x w w',G w w'→s.Φ x w→s.Φ x w'
theorem fQ:xC G []:=fun _ _ h=>by cases h
theorem fN{i:Nat}{s:RSpec}{l:List (Nat × RSpec)}(h:∀x w w',G w w'→s.Φ x w→s.Φ x w')(hl:xC G l):xC G ((i,s)::l):=by
 intro k t a;unfold fF at a
 split at a
 ·injection a with a;subst a;exact h
 exact hl k t a
theorem ia{W w:World}{f:FuncId}{args:Array Value}{c:Value}(hC:Below W.heap.size W w)(h:Calls P f args w fun e w'=>e=.returned c∧Below w.heap.size w w') :
  Calls P f args w (fun e w''=>∃v,e=.returned v∧Below w.heap.size w w''∧(Below W.heap.size W w''∧∃_x:Unit,v=c∧True)):=
 h.mono fun _ _ ⟨he,hb⟩=>⟨c,he,hb,hC.trans (hb.mono hC.size),(),rfl,trivial⟩
end
end Go.Proofs.YtmomjpolkkbhnaaGreat
end

section
namespace Go.Proofs.YtmomjpolkkbhnaaGreat
open Go Go.RowKit
section
variable {P:Program} {ops:Array Oper} {md:Region.Mode} {C:World→Prop} {G:World→World→Prop} {Q:Act→World→Prop} {S:Nat→Option RSpec} {n g:Nat} {K:Array Bool→Act→(Nat→World→Prop)→Prop}
def o8(P:Program)(md:Region.Mode)(ops:Array Oper)(C:World→Prop)(G:World→World→Prop)(S:Nat→Option RSpec)(n:Nat)(K:Array Bool→Act→(Nat→World→Prop)→Prop):Nat→Array Bool→Act→(Nat→World→Prop)→Prop
 | 0,listed,a,F=>lS C F→K listed a F
 | fuel+1,listed,a,F=>lS C F→(Region.ready md ops listed≠[] ∧
  ∀i∈Region.ready md ops listed,i<n∧∀o,ops[i]?=some o→iX P ops C G md S i o (o8 P md ops C G S n K fuel (listed.setIfInBounds i true)) a F)
theorem pQ(hS:∀i s,S i=some s→∀x w w',G w w'→s.Φ x w→s.Φ x w'){Q':Exit→Act→World→Prop}(hK:∀listed a F w,K listed a F→C w→(∀j,F j w)→wpAny P md ops Q' g listed a w) :
  ∀(fuel:Nat) (listed:Array Bool) (a:Act) (F:Nat→World→Prop) (w:World),C w→(∀j,F j w)→Lasts G F→o8 P md ops C G S n K fuel listed a F→wpAny P md ops Q' (fuel+g) listed a w
 | 0,_,a,F,w,hC,hF,_,h=>by rw[Nat.zero_add];exact hK _ _ _ _ (h ⟨w,hC,hF⟩) hC hF
 | fuel+1,listed,a,F,w,hC,hF,hL,h=>by
  rw[show fuel+1+g=(fuel+g)+1 by omega];have h:=h ⟨w,hC,hF⟩;refine⟨fun t=>absurd t h.1,fun i p=>?_⟩;unfold wpOp;obtain⟨_,o,l,_⟩:=mem_ready.1 p;simp only[l];have b:=(h.2 i p).2 o l;unfold iX at b
  split
  ·rename_i hw;rw[if_pos hw]at b;left
   split at b
   ·rename_i hSi;obtain⟨c,r,k⟩:=b;rcases r w hC (fun e _ _=>hF e.on)with f|⟨f,rfl⟩
    ·unfold Oper.wp;rw[f];exact pQ hS hK fuel _ _ F w hC hF hL k
    unfold Oper.wp;rw[f];exact pQ hS hK fuel _ _ F w hC hF hL k
   rename_i s hSi;refine pO ?_ (b.1 w hC (fun e _ _=>hF e.on));rintro v w' m ⟨d,x,rfl,q⟩;refine pQ hS hK fuel _ _ _ w' d ?_ (hL.upd i (hS i s hSi x)) (b.2 x);intro j;unfold upd
   split
   ·exact⟨hL j _ _ m (hF j),q⟩
   exact hL j _ _ m (hF j)
  rename_i hw;rw[if_neg hw]at b;exact pQ hS hK fuel _ _ F w hC hF hL b
theorem Ef(hS:∀i s,S i=some s→∀x w w',G w w'→s.Φ x w→s.Φ x w'){i:Nat}{oi:Oper}(hi:ops[i]?=some oi)(hsel:∀(j:Nat) (o:Oper) cs b,ops[j]?=some o→o.op≠.select cs b)
  (hs:Region.sinkB md ops n=true) (hc:Region.chainB md ops n=true) (hn:n<ops.size) (hin:i<n) (hdone:∀listed a F,K listed a F→∀j∈Region.ready md ops listed,n≤j)
  {V:Type} {f:V→Value} {p:V→Option (World→Prop)} :
  ∀(fuel:Nat) (listed:Array Bool) (a:Act) (F:Nat→World→Prop),HeadInv md ops n listed→Lasts G F →
   (∀j oj,ops[j]?=some oj→j≠i→listed.getD j true=false→(∀e∈oj.after,Region.binds md e=true→e.on≠i)→oi.apart ops oj=true) →
   i∈Region.ready md ops listed→Head P ops C G md S i oi a F V f p →
   (∀x,o8 P md ops C G S n K fuel (listed.setIfInBounds i true) (a.put oi.dst (f x)) (gS F i (p x)))→o8 P md ops C G S n K (fuel+1) listed a F:=by
 intro fuel
 induction fuel with
 | zero=>
  intro listed a F A hL _ v N H r;have B:=(mem_ready.1 v).1;refine⟨fun h=>(by rw[h]at v;cases v),fun j E=>?_⟩
  have z:j<n:=by
   rcases Nat.lt_or_ge j n with h|h
   ·exact h
   exact absurd E (tail_waits hs hc hn A _ i rfl hin B j h)
  refine⟨z,fun oj c=>?_⟩;by_cases d:j=i
  ·subst d;rw[hi]at c;injection c with c;subst c;exact N.step H
  obtain⟨x,hx⟩:=N.sat hL r;have:=hdone _ _ _ (H x hx) j (ready_mono E d);omega
 | succ fuel ih=>
  intro listed a F A hL t v N H r;have Y:=(mem_ready.1 v).1;refine⟨fun h=>(by rw[h]at v;cases v),fun j E=>?_⟩
  have z:j<n:=by
   rcases Nat.lt_or_ge j n with h|h
   ·exact h
   exact absurd E (tail_waits hs hc hn A _ i rfl hin Y j h)
  refine⟨z,fun oj c=>?_⟩;by_cases d:j=i
  ·subst d;rw[hi]at c;injection c with c;subst c;exact N.step H
  obtain⟨q,ai,l,X⟩:=mem_ready.1 E;rw[c]at l;injection l with l;subst l
  have m:∀e∈oj.after,Region.binds md e=true→e.on≠i:=fun e he R I=>by
   have u:=X e he R;have h0:=(mem_ready.1 v).1;rw[I]at u;rcases Nat.lt_or_ge i listed.size with h'|h'
   ·simp[h']at h0 u;rw[h0]at u;cases u
   simp[Array.getElem?_eq_none h']at u
  have J:∀e∈oi.after,Region.binds md e=true→e.on≠j:=fun e he R I=>by
   obtain⟨h0,o2,D,M⟩:=mem_ready.1 v;rw[hi]at D;injection D with D;subst D;have u:=M e he R;rw[I]at u;rcases Nat.lt_or_ge j listed.size with h'|h'
   ·simp[h']at q u;rw[q]at u;cases u
   simp[Array.getElem?_eq_none h']at u
  have ae:=t j oj c d q m;obtain⟨O,a2,a3⟩:=Oper.apart_spec ae;have ah:∀cs b,oi.op≠.select cs b:=fun cs b=>hsel i oi cs b hi
  have L:∀cs b,oj.op≠.select cs b:=fun cs b=>hsel j oj cs b c
  obtain⟨x0,ac⟩:=N.sat hL r;obtain⟨Vj,W,pj,T,_⟩:=li (((H x0 ac).2 j (ready_mono E d)).2 oj c)
  have af:∀x,Head P ops C G md S j oj (a.put oi.dst (f x)) (gS F i (p x)) Vj W pj:=fun x=>
   T.same ((execOp_put oj L a oi.dst _ O).trans (execOp_put oj L a oi.dst _ O).symm) ((wanted_put oj a oi.dst _ O).trans (wanted_put oj a oi.dst _ O).symm) (fun w=>(mL m w).trans (mL m w).symm)
  have aa:Head P ops C G md S j oj a F Vj W pj:=T.same (execOp_put oj L a oi.dst _ O).symm (wanted_put oj a oi.dst _ O).symm (fun w=>(mL m w).symm);refine aa.step fun y=>?_
  refine ih (listed.setIfInBounds j true) (a.put oj.dst (W y)) (gS F j (pj y)) (A.set E z) (aa.lasts hS hL y) ?_ (ready_mono v (Ne.symm d)) ?_ ?_
  ·intro k ok hk ad B ag;refine t k ok hk ad ?_ ag;by_cases U:j=k
   ·subst U;exact q
   rw[getD_set_ne true U]at B;exact B
  ·exact N.same (execOp_put oi ah a oj.dst _ a3) (wanted_put oi a oj.dst _ a3) (fun w=>mL J w)
  intro x;rw[←AK (Ne.symm d),←Act.put_comm a (f x) (W y) a2,Array.setIfInBounds_comm _ _ d]
  have R:lS C (gS F i (p x))→o8 P md ops C G S n K fuel ((listed.setIfInBounds i true).setIfInBounds j true) ((a.put oi.dst (f x)).put oj.dst (W y)) (gS (gS F i (p x)) j (pj y)):=by
   intro Z;obtain⟨V',f',p',h',ab⟩:=li (((H x Z).2 j (ready_mono E d)).2 oj c);obtain⟨y',e1,e2⟩:=(af x).one h' Z y;rw[←e1,←e2];exact ab y'
  cases fuel with
  | zero=>exact fun hs=>R (rA hs) hs
  | succ fuel=>exact fun hs=>R (rA hs) hs
theorem AL(hS:∀i s,S i=some s→∀x w w',G w w'→s.Φ x w→s.Φ x w')(hsel:Region.noSelect ops=true)(hs:Region.sinkB md ops n=true)(hc:Region.chainB md ops n=true)(hn:n<ops.size) :
  ∀(l:List Oper) (k:Nat) (listed:Array Bool) (a:Act) (F:Nat→World→Prop),HeadInv md ops n listed→Lasts G F→(∀j,j<l.length→l[j]?=ops[k+j]?)→k+l.length=n →
  Region.lexHead md ops g l.length k listed=true→oz P ops C G md S Q l k a F →
  o8 P md ops C G S n (fun listed' a' F'=>Region.seqB md ops g n listed'=true∧sP C Q a' F') l.length listed a F
 | [],k,listed,a,F,_,_,_,hk,hB,h=>fun _=>by
  have:k=n:=by simpa using hk
  subst this;exact⟨by simpa[Region.lexHead]using hB,h⟩
 | o::l,k,listed,a,F,inv,d,hl,hk,hB,h=>by
  have r:ops[k]?=some o:=by simpa using(hl 0 jz).symm
  simp only[List.length_cons,Region.lexHead,Bool.and_eq_true]at hB;obtain⟨⟨u,t⟩,m⟩:=hB;have b:k<n:=by simp only[List.length_cons]at hk;omega
  have c:k∈Region.ready md ops listed:=by simpa using u
  obtain⟨V,f,p,q,e⟩:=li (show iX P ops C G md S k o (oz P ops C G md S Q l (k+1)) a F from h)
  exact Ef hS r (Region.noSelect_spec hsel) hs hc hn b (fun listed' a' F' d=>seqB_ready d.1) l.length listed a F inv d (Region.free_spec r t) c q
   (fun x=>AL hS hsel hs hc hn l (k+1) _ _ _ (inv.set c b) (q.lasts hS d x) (fun j v=>by have:=hl (j+1) jm;simpa[Nat.add_assoc,Nat.add_comm 1 j]using this) (by simp only[List.length_cons]at hk;omega) m (e x))
theorem kJ{id:Nat}{Q':Exit→Act→World→Prop}{a:Act}{w:World}{l:List Oper}(n:Nat)(S:Nat→Option RSpec)(C:World→Prop)(G:World→World→Prop)
  (hm:P.follows .mixedOrders=true) (hB:Region.lexTailB .any l.toArray n=true) (hS:∀i s,S i=some s→∀x w w',G w w'→s.Φ x w→s.Φ x w') (hC:C { w with drawn:=w.drawn+1 })
  (h:GrowAt P l.toArray C G .any S (fun a w=>wpList P l.toArray Q' (l.drop n) a w) (l.take n) 0 a (fun _ _=>True)):(Code.region id l.toArray true).wp P Q' a w:=by
 simp only[Region.lexTailB,Bool.and_eq_true,decide_eq_true_eq]at hB;obtain⟨⟨⟨⟨d,v⟩,B⟩,A⟩,f⟩:=hB;have z:n<l.length:=by simpa using v
 have b:(l.take n).length=n:=jm;have k:(l.drop n).length=l.toArray.size-n:=jz
 have e:HeadInv .any l.toArray n (Array.replicate l.toArray.size false):=
  ⟨jz,fun j F _ r=>(by rw[getD_replicate_false]at r;cases r),fun t _ D=>getD_in (by simpa using D) (getD_replicate_false _ _)⟩
 have H:=AL (C:=C) (G:=G) (md:=.any) (g:=l.toArray.size-n) hS d B A v (l.take n) 0 _ a (fun _ _=>True) e (fun _ _ _ _ _=>trivial) (fun j q=>by
  have o:j<n:=by rw[b]at q;exact q
  simp[o]) (by simpa using b) (by rw[b];exact f) h.out
 refine wp_region_any hm ?_
 have:=pQ (Q':=Q') (g:=l.toArray.size-n) hS (fun c y E w' u p m=>by
  have:=wpAny_of_seq (md:=.any) (Q':=Q') (l.drop n) n c y w' (fun j=>by simp[List.getElem?_drop]) (by rw[k];exact u.1) (u.2 w' p m)
  rwa[k]at this) _ _ _ _ _ hC (fun _=>trivial) (fun _ _ _ _ _=>trivial) H
 rw[b,show n+(l.toArray.size-n)=l.toArray.size by omega]at this;exact this
theorem kr{o:Oper}{a:Act}{w:World}{R:Value→World→Prop}{u:Value}{w':World}(hr:(execOp a.eval o).run P w=.ok (.value u) w')(hg:G w w')(h:R u w'):gT P G w R ((execOp a.eval o).run P w):=by
 rw[hr];exact⟨hg,h⟩
end
end Go.Proofs.YtmomjpolkkbhnaaGreat
end

section
namespace Go.Proofs.YtmomjpolkkbhnaaGreat.Hi
open Go.RowKit
structure Fine (l:List Bk):Prop where
 up:Up l
 one:∀b∈l,1≤b.2
theorem Fine.nil:Fine []:=⟨Up.nil,fun b h=>by simp at h⟩
theorem DL(l:List Bk):Up l↔l.Pairwise (fun a b=>a.1<b.1):=by
 constructor
 ·intro h;rw[List.pairwise_iff_getElem];intro i j d e c;exact h.lt i j c e
 intro h i d;rw[List.pairwise_iff_getElem]at h;exact h i (i+1) jo d jo
theorem Jp(l:List Bk)(k n:Int):(gN l k n).1.length≤l.length+1:=by
 unfold gN
 split
 ·split
  ·simp
  simp
 have:=mD l k;simp;omega
theorem IC{l:List Bk}(h:Fine l)(k n:Int)(hn:1≤n):Fine (gN l k n).1:=by
 have t:=mD l k;unfold gN
 split
 ·rename_i hf;obtain⟨c,r⟩:=hf;have d:l.getD (pos l k) (0,0)=l[pos l k]:=by rw[List.getD_eq_getElem?_getD,zU c];rfl
  rw[d]at r ⊢
  split
  ·exact Fine.nil
  refine⟨?_,?_⟩
  ·intro i f;simp only[List.length_set]at f;have p:=h.up i f;rw[List.getElem_set,List.getElem_set]
   split
   ·split
    ·omega
    rename_i j _;subst j;rw[r]at p;exact p
   split
   ·rename_i j;show l[i].1<k;have e:l[pos l k].1=l[i+1].1:=(by simp only[j]);omega
   exact p
  intro b hb;rcases List.mem_or_eq_of_mem_set hb with hb|rfl
  ·exact h.one b hb
  have:=h.one _ (za c);show 1≤l[pos l k].2+n;omega
 rename_i hf;refine⟨?_,?_⟩
 ·rw[DL,List.pairwise_append,List.pairwise_cons];have m:=(DL l).1 h.up
  have q:∀a∈l.take (pos l k),a.1<k:=fun a g=>by
   obtain⟨i,f,rfl⟩:=List.getElem_of_mem g;rw[zK]at f;rw[List.getElem_take];exact(nM l k i jo).2
  have o:∀a∈l.drop (pos l k),k<a.1:=fun a g=>by
   obtain⟨i,f,rfl⟩:=List.getElem_of_mem g;rw[zP]at f;rw[List.getElem_drop];have c:pos l k<l.length:=jo;have u:=wT l k c;have d:l.getD (pos l k) (0,0)=l[pos l k]:=by rw[List.getD_eq_getElem?_getD,zU c];rfl
   have s:¬l[pos l k].1=k:=fun e=>hf ⟨c,by rw[d];exact e⟩
   rcases Nat.eq_zero_or_pos i with rfl|hip
   ·simp only[Nat.add_zero];omega
   have:=h.up.lt (pos l k) (pos l k+i) jo jo;omega
  refine⟨m.sublist (List.take_sublist _ _),⟨o,m.sublist (List.drop_sublist _ _)⟩,fun a g b hb=>?_⟩;have j:=q a g;rcases List.mem_cons.1 hb with rfl|hb
  ·exact j
  have:=o b hb;omega
 intro b hb;rcases List.mem_append.1 hb with hb|hb
 ·exact h.one b (List.mem_of_mem_take hb)
 rcases List.mem_cons.1 hb with rfl|hb
 ·exact hn
 exact h.one b (List.mem_of_mem_drop hb)
def ofF(d:Int)(ts:List Int):List Bk:=ts.foldl (fun l t=>(gN l (t/d) 1).1) []
theorem ug(d:Int)(ts:List Int)(k:Nat)(h:k<ts.length):ofF d (ts.take (k+1))=(gN (ofF d (ts.take k)) (ts[k]/d) 1).1:=by
 rw[zL h];unfold ofF;rw[List.foldl_append];rfl
theorem uh(d:Int)(ts:List Int):∀k,k≤ts.length→Fine (ofF d (ts.take k))∧(ofF d (ts.take k)).length≤k
 | 0,_=>⟨Fine.nil,zG _⟩
 | k+1,h=>by
  have ih:=uh d ts k jo;rw[ug d ts k h];exact⟨IC ih.1 _ _ jo,zY (Jp _ _ _) jo⟩
def qN(B:Nat)(d:Int)(ts:List Int)(w:World)(e:Ending)(w':World):Prop:=
 ∃v,e=.returned (.tuple #[v,.int .i64 (if d<1 then 240 else 0)])∧Row B w w' v (if d<1 then[]else ofF d ts)
theorem o7(A:Option Addr)(c B:Nat)(d:Int)(ts:List Int)(w:World)(hR:Reads w B 1 A ts.length (ts.map (Value.int .i64)))(hB:B≤w.heap.size)(hl:ts.length≤900000)(hd2:d≤9223372036854775807)(hin:∀t∈ts,sW t) :
  Calls prog 68 #[.int .i64 d,.slice A ts.length c] w (qN w.heap.size d ts w):=by
 unfold qN;by_cases n:d<1
 ·simp only[zI n];go_enter func68,ntmps68;go_wp2;go_ret2;exact⟨.slice none 0 0,rfl,Row.start _ _ _ (zy _ _)⟩
 simp only[zH n];have D:=zh hR;have Hin:=zh hin;clear hR hin;go_enter func68,ntmps68;go_wp2;go_loopw [6,13] (fun v i wr=>∃k:Nat,k≤ts.length∧i=.int .i64 k∧Row w.heap.size w wr v (ofF d (ts.take k))) (fun _ i _=>ts.length-(intOf i).toNat)
 case atStart=>exact⟨0,zS _,rfl,Row.start _ _ _ (zy _ _)⟩
 obtain⟨k,C,rfl,a⟩:=hrel;by_cases b:k<ts.length
 ·obtain⟨y,o,z,rfl,j,f⟩:=D.out.at_map b;have H:=(a.bel.cell (p:=⟨y,o+k,none⟩) (zT j hB)).trans f;have T:=zh (ug d ts k b);have G:=uh d ts k C;have s:=Hin.out _ (za b);have q:=IA ts[k] d wr jo s hd2;have m:=uw w.heap.size _ _ (ts[k]/d) 1 wr a.own a.bel.size jo G.1.up G.1.one jo jo;have h:=zh a;clear a f s;generalize ts[k]=x at *;generalize ofF d (ts.take k)=l at *;go_wp2_with fail;refine q.mono ?_;rintro e F ⟨rfl,rfl⟩;go_wp2_with fail;refine m.mono ?_;rintro e I ⟨E,rfl,r⟩;have u:=zh r;clear r q m;go_wp2;go_roundw
  case rel=>exact⟨k+1,jo,ju,by rw[T.out];exact⟨u.out.own,h.out.bel.trans u.out.bel⟩⟩
  simp[intOf];omega
 have g:ts.take k=ts:=zR jo;rw[g]at a;have h:=zh a;clear a;go_wp2;go_ret2;exact⟨_,rfl,h.out⟩
end Go.Proofs.YtmomjpolkkbhnaaGreat.Hi
end

section
namespace Go.Proofs.YtmomjpolkkbhnaaGreat.Hi
open Go.RowKit
end Go.Proofs.YtmomjpolkkbhnaaGreat.Hi
end

section
namespace Go.Proofs.YtmomjpolkkbhnaaGreat.Hi
open Go.RowKit
end Go.Proofs.YtmomjpolkkbhnaaGreat.Hi
end

section
namespace Go.Proofs.YtmomjpolkkbhnaaGreat.Hi
open Go.RowKit
theorem IE(A A':Option Addr)(c c' B B':Nat)(l m:List Bk)(w:World)(hR:Reads w B 2 A l.length (bkC l))(hR':Reads w B' 2 A' m.length (bkC m))(hl:l.length≤140737488351232)(hm:m.length≤140737488351232) :
  Calls prog 61 #[.slice A l.length c,.slice A' m.length c'] w fun e w'=>e=.returned (.bool (decide (l=m)))∧zWW w w':=by
 have O:=zh hR;have t:=zh hR';clear hR hR';by_cases j:l.length=m.length
 ·go_enter func61,ntmps61;go_wp2;go_loopw [13] (fun i wr=>∃k:Nat,k≤l.length∧i=.int .i64 k∧Hid (l.take k=m.take k)∧zWW w wr∧(∀p,wr.cell? p=w.cell? p)) (fun i _=>l.length-(intOf i).toNat)
  case atStart=>exact⟨0,zS _,rfl,zh rfl,zy _ _,fun _=>rfl⟩
  obtain⟨k,S,rfl,u,q,a⟩:=hrel;by_cases g:k<l.length
  ·have d:k<m.length:=jo;obtain⟨R,o,rfl,F,J,H⟩:=jE O.out rfl g;obtain⟨E,P,rfl,D,s,r⟩:=jE t.out rfl d;rw[←a]at J H s r;have T:=zh (ng u.out g d);have b:=zh q;have G:=zh a;have n:(l[k]=m[k])↔(l[k].1=m[k].1∧l[k].2=m[k].2):=Prod.ext_iff;have v:Hid (¬(l[k]=m[k])→¬l=m):=zh (fun h e=>h (by subst e;rfl));rw[n]at T v;clear q a n;generalize l[k].1=x at *;generalize l[k].2=y at *;generalize m[k].1=I at *;generalize m[k].2=M at *;by_cases C:x=I
   ·by_cases z:y=M
    ·go_wp2;go_region;go_wp2;go_roundw
     case rel=>exact⟨k+1,jo,ju,zh (T.out ⟨C,z⟩),b.out.drew,G.out⟩
     simp[intOf];omega
    go_wp2;go_region;go_wp2;go_ret;exact⟨by rw[zN (v.out fun h=>z h.2)];rfl,b.out.drew⟩
   go_wp2;go_region;go_wp2;go_ret;exact⟨by rw[zN (v.out fun h=>C h.1)];rfl,b.out.drew⟩
  have f:l=m:=by
   have N:l.take k=l:=zR jo;have L:m.take k=m:=zR jo;rw[←N,←L,u.out]
  have b:=zh q;clear q a u;go_wp2;go_ret;exact⟨by rw[zO f];rfl,b.out⟩
 have:¬l=m:=fun e=>j (by rw[e])
 rw[zN this];go_enter func61,ntmps61;go_wp2;go_ret;exact⟨rfl,zy _ _⟩
end Go.Proofs.YtmomjpolkkbhnaaGreat.Hi
end

section
namespace Go.Proofs.YtmomjpolkkbhnaaGreat.Hi
open Go.RowKit
theorem below_drewN{B:Nat}{a w:World}(h:Below B a w)(n:Nat):Below B a (w.drewN n):=⟨h.os,h.tape,h.output,h.size,h.block⟩
end Go.Proofs.YtmomjpolkkbhnaaGreat.Hi
end

section
namespace Go.Proofs.YtmomjpolkkbhnaaGreat.Qy
open Go.RowKit Go.ChangeShapes Go.WideShapes Go.ChangeAt Go.Deep Go.Joins
section
variable {H:Type} {enc:TypeId × Value→H} {P:Program} {W:World} {t e:TypeId}
theorem uo{k:Nat}:∀ {vss:List (List Value)} (_:∀v∈vss,v.length=k),vss.flatten.length=vss.length*k
 | [],_=>by simp
 | v::vss,h=>by
  rw[List.flatten_cons,zJ,h v jz,uo (fun x a=>h x (List.mem_cons_of_mem _ a)),zV,Nat.add_mul,Nat.one_mul,Nat.add_comm]
theorem qG{k fuel:Nat}{v:Value}{x:DataW H × List MemPlace}(ht:P.underlying t=some (.slice e))(hc:P.cellsOf e=k)(hk:0<k)(h:DataW.trod enc P W 0 (fun _=>true) true fuel t [v]=some x) :
  ∃(A:Option Addr) (len cap:Nat) (vss:List (List Value)) (ds spare:List (DataW H)),v=.slice A len cap∧len≤cap∧vss.length=len∧(∀u∈vss,u.length=k)∧Reads W W.heap.size k A len vss.flatten∧ds.length=len ∧
   (x.1=.slice ds spare∨(len=0∧ds=[]))∧∀i (h1:i<vss.length) (h2:i<ds.length),∃n y,DataW.trod enc P W 0 (fun _=>true) true n e vss[i]=some y∧y.1=ds[i]:=by
 rcases open_slice ht h with⟨d,_⟩|⟨a,len,cap,m,n,D,I,d,_,T,X,F,rfl,S⟩
 ·simp only[zQ,and_true]at d;exact⟨none,0,0,[],[],[],d,zG _,rfl,jz,Reads.none_,rfl,.inr ⟨rfl,rfl⟩,fun i h1=>absurd h1 jz⟩
 simp only[zQ,and_true]at d;have R:len≤m:=by rw[F];split<;>omega
 have w:∀i:Nat,∃g:List Value,i<len→W.cells? 0 (a.add (i*P.cellsOf e)) (P.cellsOf e)=some g∧DataW.trod enc P W 0 (fun _=>true) true n e g=some (D i,I i):=fun i=>by
  by_cases p:i<len
  ·obtain⟨g,h1,h2⟩:=S i jo;exact⟨g,fun _=>⟨h1,h2⟩⟩
  exact⟨[],fun h=>absurd h p⟩
 obtain⟨f,r⟩:=Classical.skolem.1 w;rw[hc]at r;have c:((List.range len).map f).length=len:=jz
 have C:∀u∈(List.range len).map f,u.length=k:=fun u z=>by
  obtain⟨i,p,rfl⟩:=List.mem_map.1 z;exact(World.cells?_some (r i (by simpa using p)).1).2.1
 refine⟨some a,len,cap,(List.range len).map f,(List.range len).map D,_,d,T,c,C,?_,jz,.inl rfl,fun i h1 h2=>?_⟩
 ·have s:((List.range len).map f).flatten.length=len*k:=by rw[uo C,c]
  refine⟨s,fun L=>?_⟩;obtain⟨b,o,V⟩:=a;have q:=(World.cells?_some (r 0 L).1).2.2 0 hk;have U:=(World.cells?_some (r 0 L).1).2.1;rw[zU jo]at q;have E:V=none:=by simpa[Addr.add]using World.cell?_spot q
  subst E;have l:∀B j,(⟨b,B,none⟩:Addr).add j=⟨b,B+j,none⟩:=fun B j=>by unfold Addr.add;split<;>simp_all
  have G:b<W.heap.size:=by
   have:=World.block_lt_of_cell? W _ q
   simpa[EJ]using this
  refine⟨b,o,rfl,G,fun j u z=>?_⟩
  have O:j<len*k:=by
   have:=(List.getElem?_eq_some_iff.1 z).1;rw[s]at this;exact this
  have p:j/k<len:=(Nat.div_lt_iff_lt_mul hk).2 O;have M:j%k<k:=Nat.mod_lt _ hk;have N:j=j/k*k+j%k:=by rw[Nat.mul_comm];exact(Nat.div_add_mod j k).symm
  have J:=iM C (j/k) (j%k) (by rw[c];exact p) M;rw[←N]at J;rw[J]at z;have hc:=(World.cells?_some (r (j/k) p).1).2.2 (j%k) M;rw[l,l,Nat.add_assoc,←N]at hc;rw[hc,←z];simp
 have p:i<len:=by rw[c]at h1;exact h1
 refine⟨n,(D i,I i),?_,jz⟩;have:=(r i p).2
 simpa using this
theorem lj{fs:Array Field}{parts:List (DataW H)}{j:Nat}{u:TypeId}{d:DataW H}(ht:P.underlying t=some (.struct fs))(hw:∀n∈(DataW.agg parts).weights P t,n≤140737488351232)
  (h1:(fs.toList.map (·.type))[j]?=some u) (h2:parts[j]?=some d):∀n∈d.weights P u,n≤140737488351232:=by
 intro n a;apply hw;simp only[DataW.weights,ht];exact DataW.weights_mem_each h1 h2 n a
theorem qW{ds spare:List (DataW H)}{d:DataW H}(ht:P.underlying t=some (.slice e))(hw:∀n∈(DataW.slice ds spare).weights P t,n≤140737488351232)(hd:d∈ds):∀n∈d.weights P e,n≤140737488351232:=by
 intro n a;apply hw;simp only[DataW.weights,ht];exact List.mem_cons_of_mem _ (List.mem_append_left _ (xM hd n a))
theorem pR{ds spare:List (DataW H)}(ht:P.underlying t=some (.slice e))(hw:∀n∈(DataW.slice ds spare).weights P t,n≤140737488351232):ds.length*P.bytesOf e≤140737488351232:=by
 have:=hw ((ds.length+spare.length)*P.bytesOf e) (by
  simp only[DataW.weights,ht]
  exact List.mem_cons_self)
 rw[Nat.add_mul]at this;omega
end
end Go.Proofs.YtmomjpolkkbhnaaGreat.Qy
end
