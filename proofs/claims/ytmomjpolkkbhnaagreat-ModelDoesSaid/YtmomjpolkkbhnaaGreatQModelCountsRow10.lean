/- SLICED by slice.py -/
import Derived.Lib.IndexLaws
import Derived.Laws.BitsAllLaws
import Derived.Test.YtmomjpolkkbhnaaGreatQModelCountsRow9
set_option linter.unusedSimpArgs false
set_option maxRecDepth 20000
set_option maxHeartbeats 100000000
open Go.Proofs.Tryz
namespace Go.Proofs.YtmomjpolkkbhnaaGreat
namespace Tk
open Go.RowKit Ut
theorem tl(s:ByteArray):s.toList=s.data.toList:=ByteArray.toList_eq s
theorem vA:∀(l:List (List UInt8 × Int)) (k:Nat) (h:k<l.length),(cG l)[k*2]?=some (.string (str l[k].1))∧(cG l)[k*2+1]?=some (.int .i64 l[k].2)
 | x::l,0,_=>⟨rfl,rfl⟩
 | x::l,k+1,h=>by
  have ih:=vA l k (by simpa using h);have e1:(k+1)*2=k*2+2:=jo;have e2:(k+1)*2+1=(k*2+1)+2:=jo;rw[e2,e1];exact ih
theorem Bc(ws:List (List UInt8))(k:Nat)(h:k<ws.length):(bR ws)[k]'(by rw[tE];exact h)=(ws[k],(k:Int)):=by
 simp[bR]
theorem gQ{w:World}{B n:Nat}{A:Option Addr}{ws:List (List UInt8)}(h:Reads w B 2 A n (cG (bR ws)))(hn:ws.length=n){k:Nat}(hk:k<ws.length) :
  ∃b o,A=some ⟨b,o,none⟩∧b<B∧w.cell? ⟨b,o+k*2,none⟩=some (.string (str ws[k]))∧w.cell? ⟨b,o+k*2+1,none⟩=some (.int .i64 (k:Int)):=by
 obtain⟨b,o,e,hb,hc⟩:=h.2 jo;have g:=vA (bR ws) k (by rw[tE];exact hk);rw[Bc ws k hk]at g;refine⟨b,o,e,hb,hc _ _ g.1,?_⟩;have:=hc _ _ g.2;rw[←Nat.add_assoc]at this;exact this
def sv(ws:List (List UInt8)):List Value:=(ws.map str).map Value.string
theorem G5(ws:List (List UInt8))(x:List UInt8):sv (ws ++ [x])=sv ws ++ [.string (str x)]:=by simp[sv]
theorem JO(ws:List (List UInt8)):(sv ws).length=ws.length:=by simp[sv]
def wZ(w:World)(ws:List (List UInt8))(e:Ending)(w':World):Prop:=
 ∃v,e=.returned v∧w'.ownsRow w.heap.size 9 1 v ws.length (sv ws)∧zWW w w'
structure Strs (w wr:World) (v:Value) (ws:List (List UInt8)):Prop where
 own:wr.ownsRow w.heap.size 9 1 v ws.length (sv ws)
 bel:zWW w wr
theorem Strs.below{w wr w2:World}{v:Value}{ws:List (List UInt8)}(h:Strs w wr v ws)(hb:zWW wr w2):Strs w w2 v ws:=
 ⟨h.own.kept (aJ hb none) (by cases hv:v.ownBlock<;>simp),h.bel.trans (hb.mono h.bel.size)⟩
theorem Strs.put{w wr w2:World}{v v':Value}{ws:List (List UInt8)}{x:List UInt8}(h:Strs w wr v ws)
  (hp:w2.ownsRow w.heap.size 9 1 v' (ws.length+1) (sv ws ++ [.string (str x)])) (hg:wr.grownBy w2 v.ownBlock):Strs w w2 v' (ws ++ [x]):=by
 refine⟨?_,h.bel.grown hg h.bel.size (fun k hk=>(h.own.lt k hk).1)⟩;rw[G5,zJ];exact hp
theorem mH:(prog.info? 9).map (fun i=>(i.zero,i.size,i.bytes))=some (some (.string ByteArray.empty),1,16):=by kernel_rfl
theorem iW(s:ByteArray):(words s.data.toList).length≤s.size:=by
 have h1:∀(l c:List Nat),(bY c l).length≤l.length+1∧(c=[]→(bY c l).length≤l.length):=by
  intro l
  induction l with
  | nil=>
   intro c;rw[gL];unfold last
   split<;>simp_all
  | cons r t ih=>
   intro c;rw[ez];have h1:=ih (c ++ [r]);have h2:=(ih []).2 rfl
   split
   ·refine⟨jm,fun _=>jm⟩
   have h3:(last c).length≤1:=by unfold last;split<;>simp
   have h4:c=[]→(last c).length=0:=by rintro rfl;rfl
   rw[zJ,zV];exact⟨jo,fun e=>by have:=h4 e;omega⟩
 unfold words;rw[List.length_map];have:=(h1 (bT s.data.toList) []).2 rfl;have h2:=om s.data.toList;rw[aB]at h2;omega
theorem KY(w:World)(o o':Obj):((w.alloc o).alloc o').heap[w.heap.size+1]?=some o':=by
 have:=vI (w.alloc o) o'
 simpa using this
theorem uG(s:ByteArray)(w:World)(hs:s.size≤1048576):Calls prog 198 #[.string s] w (wZ w (words s.data.toList)):=by
 obtain⟨i0,hi0,hz0,hz1,hz2⟩:=info_parts mH;have c0:=ru s w jo;have hwl:=iW s;generalize words s.data.toList=ws at *;go_enter func198,ntmps198;go_wp2_with fail;refine c0.mono ?_;rintro e w1 ⟨v,rfl,hown,hb1⟩;obtain⟨A,c,rfl,hR⟩:=aU hown;have S0:Strs w1 w1 (.slice none 0 0) []:=⟨vM _ _ _ _,zw _ _⟩;have HR:=zh hR;have HS0:=zh S0;have Hb1:=zh hb1;clear hown hR S0 c0 hb1;go_wp2_with fail;go_loopw [3,9] (fun v i wr=>∃k:Nat,k≤ws.length∧i=.int .i64 k∧Strs w1 wr v (ws.take k)) (fun _ i _=>ws.length-(intOf i).toNat)
 case atStart=>exact⟨0,zS _,rfl,HS0.out⟩
 obtain⟨k,hk,rfl,hT⟩:=hrel;by_cases hlt:k<ws.length
 ·obtain⟨b,o,rfl,hb,hc1,hc2⟩:=gQ HR.out rfl hlt;have hd1:=(hT.bel.cell (p:=⟨b,o+k*2,none⟩) hb).trans hc1;have hd2:=(hT.bel.cell (p:=⟨b,o+k*2+1,none⟩) hb).trans hc2;have hts:ws.take (k+1)=ws.take k ++ [ws[k]]:=by rw[zL hlt]
  have Hts:=zh hts;have htl:(ws.take k).length≤ws.length:=jw;have hown:=hT.own;have hbs:=hT.bel.size;have HT:=zh hT;clear hts hc1 hc2 hT;generalize ws[k]=x at *;generalize ws.take k=y at *;go_wp2_with (at_builtin;refine vH _ rfl _ _ 57 rfl w1.heap.size 9 i0 _ 1 16 underlying57 hi0 hz0 hz1 hz2 rfl jd _ _ _ rfl ((hown.alloc _).alloc _) ⟨wr.heap.size+1,0,none⟩ 1 1 [.string (str x)] rfl rfl ?d1 ?d2 ?d3 ?d4 ?d5 ?_)
  case d1=>exact zy (cs:=#[.string (str x)]) (t:=9) (fr:=(0,0)) (KY wr _ _)
  case d2=>intro u hu;simp at hu;subst hu;rfl
  case d3=>unfold maxLen;omega
  case d4=>omega
  case d5=>simp;omega
  intro v' w5 hown5 hg5 _;have HT5:=zh (((HT.out.below (zRR _)).below (zRR _)).put hown5 hg5);clear hown5 hg5 hown;go_wp2;go_roundw
  case rel=>exact⟨k+1,jo,ju,by rw[Hts.out];exact HT5.out⟩
  simp[intOf];omega
 have hall:ws.take k=ws:=zR jo;rw[hall]at hT;have HT:=zh hT;clear hT hall;go_wp2;go_ret;exact⟨_,rfl,HT.out.own.mono Hb1.out.size,Hb1.out.trans (HT.out.bel.mono Hb1.out.size)⟩
theorem wh(x:List UInt8)(s:ByteArray):((str x).toList==s.toList)=(x==s.data.toList):=by rw[tl,tl,bE]
theorem ry(c:UInt8):(eH c=true∧((c.toNat=95)∨(48≤c.toNat∧c.toNat≤57)∨(97≤c.toNat∧c.toNat≤122))) ∨
  (eH c=false∧c.toNat≠95∧(c.toNat<48∨(57<c.toNat∧c.toNat<97)∨122<c.toNat)):=by
 by_cases h:eH c=true
 ·refine .inl ⟨h,?_⟩;unfold eH at h;simp at h;omega
 refine .inr ⟨by simpa using h,?_⟩;unfold eH at h;simp at h;omega
theorem rz(s:ByteArray)(w:World)(hs:s.size≤140737488351232):Calls prog 149 #[.string s] w fun e w'=>e=.returned (.bool (isN s.data.toList))∧zWW w w':=by
  obtain⟨cap,C,fr,hconv,hC⟩:=lh (P:=prog) 9 30 5 s underlying9 underlying30 underlying5;have Fin:Hid (isN s.data.toList=(decide (1≤s.data.toList.length)&&decide (s.data.toList.length≤32)&&s.data.toList.all eH)):=rfl;rw[aB]at Fin;go_enter func149,ntmps149;go_wp2;go_loopw [8] (fun i wr=>∃k:Nat,k≤s.size∧i=.int .i64 k∧(s.data.toList.take k).all eH=true∧zWW w wr∧(∀j (h:j<s.size),wr.cell? ⟨w.heap.size,j,none⟩=some (.int .u8 ((s[j]).toNat:Int)))) (fun i _=>s.size-(intOf i).toNat)
  case atStart=>
    refine⟨0,zS _,rfl,rfl,(zRR _).drew,fun j hj=>?_⟩;exact(World.cell?_alloc_mark w _ _ _ j).trans (hC w j hj)
  obtain⟨k,hk,rfl,hal,hb,hcl⟩:=hrel;by_cases hlt:k<s.size
  · have hcx:=hcl k hlt;have hu:=(s[k]).toNat_lt;have hts:=iU s k hlt
    have hmem:s[k]∈s.data.toList:=by
      have:s.data.toList[k]'(by rw[aB];exact hlt)=s[k]:=rfl;rw[←this];exact za _
    have Hcl:=zh hcl;have Hb:=zh hb;have Hal:=zh hal;rcases ry s[k]with⟨hn,h⟩|⟨hn,h9,h⟩
    · have Hnx:Hid ((s.data.toList.take (k+1)).all eH=true):=zh (by rw[hts,List.all_append,Hal.out];simp[hn]);clear hcl hC hb hal hts hmem hn;generalize (s[k]).toNat=z at *;rcases h with rfl|h|h
      all_goals
        have h9:True∨True:=.inl trivial;go_wp2
        all_goals first
          | (go_roundw
             case rel=>exact⟨k+1,jo,ju,Hnx.out,Hb.out,Hcl.out⟩
             simp[intOf];omega)
          | (exfalso;simp only[bne_iff_ne,ne_eq,bne_eq_false_iff_eq,zd]at *;omega)
    have Fin2:Hid (isN s.data.toList=false):=zh (by
      rw[Fin.out];have:s.data.toList.all eH=false:=List.all_eq_false.2 ⟨_,hmem,by rw[hn];decide⟩
      rw[this,Bool.and_false])
    clear hcl hC hb hal hts hmem hn;generalize (s[k]).toNat=z at *;have h9':((z:Int) != 95)=true:=by rw[bne_iff_ne];omega
    rcases h with h|h|h
    all_goals
      go_wp2;go_ret;exact⟨by rw[Fin2.out];rfl,Hb.out⟩
  obtain rfl:k=s.size:=jo;have htk:s.data.toList.take s.size=s.data.toList:=zR (Nat.le_of_eq (aB s));rw[htk]at hal;have Fin2:Hid (isN s.data.toList=(decide (1≤s.size)&&decide (s.size≤32))):=zh (by rw[Fin.out,hal,Bool.and_true]);have Hb:=zh hb;clear hcl hC hb hal htk;by_cases h1:1≤s.size
  · have h1':(1:Int)≤(s.size:Int):=jo;rw[zO h1,Bool.true_and]at Fin2;go_wp2;go_ret;exact⟨by rw[Fin2.out];simp;omega,Hb.out⟩
  have h1':(s.size:Int)<1:=jo;rw[zN h1,Bool.false_and]at Fin2;go_wp2;go_ret;exact⟨by rw[Fin2.out];rfl,Hb.out⟩
theorem Be(s:ByteArray)(w:World)(hs:s.size≤1048576):Calls prog 149 #[.string s] w fun e w'=>e=.returned (.bool (isN s.data.toList))∧zWW w w':=
 rz s w jo
end Tk

namespace Tk
open Go.RowKit Ut
def atC(c:UInt8)(l:List UInt8):Nat:=l.findIdx (· == c)
theorem mU(c:UInt8)(l:List UInt8):Lib.indexByte l c=if atC c l<l.length then((atC c l:Nat):Int)else -1:=by
 unfold atC
 induction l with
 | nil=>rfl
 | cons x l ih=>
  rw[Lib.indexByte,List.findIdx_cons];by_cases hx:(x==c)=true
  ·rw[hx];simp
  have hx':(x==c)=false:=by simpa using hx
  rw[hx',ih];simp only[Bool.false_eq_true,if_false,cond_false,zV];generalize l.findIdx (fun x=>x==c)=n;by_cases h:n<l.length
  ·have h':n+1<l.length+1:=jo;rw[zI h,zI h',zH jz];simp
  have h':¬n+1<l.length+1:=jo;rw[zH h,zH h'];simp
def fJ(c:UInt8):ByteArray:=⟨#[c]⟩
theorem uH(c:UInt8)(s:ByteArray)(w:World):Calls prog 215 #[.string s,.string (fJ c)] w fun e w'=>e=.returned (.int .i64 (if atC c s.data.toList<s.size then((atC c s.data.toList:Nat):Int)else -1))∧w=w':=
 (Tryz.stringslite_Index_one s c w).mono fun _ _ ⟨he,hw⟩=>⟨by rw[he,mU,aB],hw.symm⟩
def fK(c:UInt8)(s:ByteArray):ByteArray:=s.extract 0 (atC c s.data.toList)
def fL(c:UInt8)(s:ByteArray):ByteArray:=s.extract (atC c s.data.toList+1) s.size
theorem uI(c:UInt8)(s:ByteArray):(fK c s).data.toList=s.data.toList.take (atC c s.data.toList):=by unfold fK;rw[Lib.extract_data];simp
theorem DI(c:UInt8)(s:ByteArray):(fL c s).data.toList=s.data.toList.drop (atC c s.data.toList+1):=by
 unfold fL;rw[Lib.extract_data,zR (by rw[zP,aB];omega)]
theorem DJ(c:UInt8)(s:ByteArray):(fK c s).size≤s.size:=by unfold fK;rw[ByteArray.size_extract];omega
theorem DK(c:UInt8)(s:ByteArray):(fL c s).size≤s.size:=by unfold fL;rw[ByteArray.size_extract];omega
theorem DL(c:UInt8)(s:ByteArray)(w:World)(hs:s.size≤1048576)(h:atC c s.data.toList<s.size):Calls prog 209 #[.string s,.string (fJ c)] w fun e w'=>e=.returned (.tuple #[.string (fK c s),.string (fL c s),.bool true])∧zWW w w':=by
 have cc:=uH c s w;rw[zI h]at cc;have F1:Hid (fK c s=s.extract 0 (atC c s.data.toList)):=rfl;have F2:Hid (fL c s=s.extract (atC c s.data.toList+1) s.size):=rfl;have hcs:(fJ c).size=1:=rfl;generalize atC c s.data.toList=k at *;generalize fK c s=x at *;generalize fL c s=y at *;generalize fJ c=sep at *;have h0:(0:Int)≤(k:Int):=jo;have h1:(k:Int)≤(s.size:Int):=jo;have h2:IntKind.i64.wrap ((k:Int)+1)=(k:Int)+1:=IntWalk.i64_in _ jo;have h3:(0:Int)≤(k:Int)+1:=jo;have h4:(k:Int)+1≤(s.size:Int):=jo;go_enter func209,ntmps209;go_wp2_with (go_at_call 215;refine cc.mono ?_;rintro e w' ⟨rfl,rfl⟩);go_region;go_wp2
 go_ret3
 rw[F1.out,F2.out];exact⟨rfl,(zw _ _).drew⟩
theorem En(c:UInt8)(s:ByteArray)(w:World)(h:¬atC c s.data.toList<s.size):Calls prog 209 #[.string s,.string (fJ c)] w fun e w'=>e=.returned (.tuple #[.string s,.string ByteArray.empty,.bool false])∧zWW w w':=by
 have cc:=uH c s w;rw[zH h]at cc;clear h;generalize fJ c=sep at *;go_enter func209,ntmps209;go_wp2_with (go_at_call 215;refine cc.mono ?_;rintro e w' ⟨rfl,rfl⟩)
 go_ret3
 exact⟨rfl,zw _ _⟩
theorem vB(c:UInt8)(s:ByteArray)(w:World)(hs:s.size≤1048576)(h:atC c s.data.toList<s.size):Calls prog 194 #[.string s,.string (fJ c)] w fun e w'=>e=.returned (.tuple #[.string (fK c s),.string (fL c s),.bool true])∧zWW w w':=by
 have cc:=DL c s w hs h;generalize fJ c=sep at *;go_enter func194,ntmps194;go_wp2_with (go_at_call 209;refine cc.mono ?_;rintro e w2 ⟨rfl,hb2⟩)
 go_ret3
 exact⟨rfl,hb2⟩
theorem G6(c:UInt8)(s:ByteArray)(w:World)(h:¬atC c s.data.toList<s.size):Calls prog 194 #[.string s,.string (fJ c)] w fun e w'=>e=.returned (.tuple #[.string s,.string ByteArray.empty,.bool false])∧zWW w w':=by
 have cc:=En c s w h;generalize fJ c=sep at *;go_enter func194,ntmps194;go_wp2_with (go_at_call 209;refine cc.mono ?_;rintro e w2 ⟨rfl,hb2⟩)
 go_ret3
 exact⟨rfl,hb2⟩
def gZ(c:UInt8)(s:ByteArray):ByteArray:=if atC c s.data.toList<s.size then fK c s else s
theorem Bf(c:UInt8)(s:ByteArray):(gZ c s).data.toList=s.data.toList.take (atC c s.data.toList):=by
 unfold gZ
 split
 ·exact uI c s
 rw[zR (by rw[aB];omega)]
def G7(c:UInt8)(s:ByteArray)(w:World)(e:Ending)(w':World):Prop:=∃(y:ByteArray) (b:Bool),e=.returned (.tuple #[.string (gZ c s),.string y,.bool b])∧zWW w w'
theorem DN(c:UInt8)(s:ByteArray)(w:World)(hs:s.size≤1048576):Calls prog 194 #[.string s,.string (fJ c)] w (G7 c s w):=by
 by_cases h:atC c s.data.toList<s.size
 ·refine(vB c s w hs h).mono fun e w' ⟨he,hb⟩=>⟨fL c s,true,?_,hb⟩
  rw[he];unfold gZ;rw[zI h]
 refine(G6 c s w h).mono fun e w' ⟨he,hb⟩=>⟨ByteArray.empty,false,?_,hb⟩
 rw[he];unfold gZ;rw[zH h]
def nU(c:UInt8)(s:ByteArray):Bool:=decide (atC c s.data.toList<s.size)
theorem DR(c:UInt8)(s:ByteArray)(w:World):Calls prog 195 #[.string s,.string (fJ c)] w fun e w'=>e=.returned (.bool (nU c s))∧w=w':=
 (Tryz.strings_Contains_one s c w).mono fun _ _ ⟨he,hw⟩=>⟨by
  rw[he,mU,aB];unfold nU;congr 2
  split
  ·rename_i h;rw[zO h];simp
  rename_i h
  rw[zN h];rfl,hw.symm⟩
end Tk

section

end

namespace Qp
open Go.RowKit Ut Tk Qy
theorem Jg(l:List UInt8)(c:UInt8):(0≤Lib.indexByte l c)↔c∈l:=by
 rw[mU];unfold atC;by_cases h:c∈l
 ·have:l.findIdx (· == c)<l.length:=List.findIdx_lt_length.2 ⟨c,h,jz⟩;rw[zI this];simp[h]
 have:¬l.findIdx (· == c)<l.length:=fun e=>by
  obtain⟨x,hx,he⟩:=List.findIdx_lt_length.1 e;rw[beq_iff_eq.1 he]at hx;exact h hx
 rw[zH this];simp[h]
theorem ia{k:IntKind}{a b:Int}(h:b=a):Ending.returned (.int k a)=.returned (.int k b):=by rw[h]
def endsS:ByteArray:=⟨#[32,9,40,41,34]⟩
theorem IC(c:UInt8):decide (0≤Lib.indexByte endsS.data.toList c)=cE c:=by
 rw[Bool.eq_iff_iff,decide_eq_true_iff,Jg];unfold cE endsS;simp[or_assoc]
theorem ky(c:UInt8)(w:World):Calls prog 151 #[.int .u8 (c.toNat:Int)] w fun e w'=>e=.returned (.bool (cE c))∧w=w':=by
 have c0:=(Tryz.strings_IndexByte endsS (c.toNat:Int) w);have e0:(c.toNat:Int).toNat.toUInt8=c:=jz;rw[e0]at c0;have hx:=IC c;generalize Lib.indexByte endsS.data.toList c=r at *;rw[←hx];clear hx e0;go_enter func151,ntmps151;go_wp2_with (go_at_call 175;refine c0.mono ?_;rintro e w' ⟨rfl,rfl⟩);go_ret;exact⟨rfl,rfl⟩
def nO(s:ByteArray):ByteArray:=s.extract 1 s.size
theorem Bx(s:ByteArray):(nO s).data.toList=s.data.toList.tail:=by
 unfold nO;rw[Lib.extract_data,zR (by rw[zP,aB];omega),List.drop_one]
theorem tK(s:ByteArray)(w:World)(h1:1≤s.size)(hs:s.size≤1048576):Calls prog 150 #[.string s] w fun e w'=>e=.returned (.int .i64 (aj s.data.toList:Nat))∧w=w':=by
 have c0:=(Tryz.strings_IndexByte (nO s) 34 w);have e0:(34:Int).toNat.toUInt8=34:=jd;rw[e0,Bx,mU]at c0;have F1:Hid (nO s=s.extract 1 s.size):=rfl;have hq:Hid (aj s.data.toList=if atC 34 s.data.toList.tail<s.data.toList.tail.length then atC 34 s.data.toList.tail+2 else 0):=rfl;have hl:s.data.toList.tail.length≤1048576:=by rw[List.length_tail,aB];omega
 generalize atC 34 s.data.toList.tail=k at *;generalize s.data.toList.tail.length=n at *;by_cases hk:k<n
 ·rw[zI hk]at c0;have F2:Hid (aj s.data.toList=k+2):=zh (by rw[hq.out,zI hk]);rw[F2.out];have hk2:(k:Int)≤1048576:=jo;clear hq hk;go_enter func150,ntmps150;go_wp2_with (go_at_call 175;(try rw[←F1.out]);refine c0.mono ?_;rintro e w' ⟨rfl,rfl⟩);go_ret;exact⟨ju,rfl⟩
 rw[zH hk]at c0;have F2:Hid (aj s.data.toList=0):=zh (by rw[hq.out,zH hk]);rw[F2.out];clear hq hk;go_enter func150,ntmps150;go_wp2_with (go_at_call 175;(try rw[←F1.out]);refine c0.mono ?_;rintro e w' ⟨rfl,rfl⟩);go_ret;exact⟨rfl,rfl⟩
def fW(n:Nat)(s:ByteArray):ByteArray:=s.extract n s.size
theorem oP(n:Nat)(s:ByteArray):(fW n s).data.toList=s.data.toList.drop n:=by
 unfold fW;rw[Lib.extract_data,zR (by rw[zP,aB];omega)]
theorem lu(n:Nat)(s:ByteArray):(fW n s).size=s.size-n:=by unfold fW;rw[ByteArray.size_extract];omega
theorem BA(s:ByteArray)(k:Nat)(w:World)(h1:k<s.size)(hs:s.size≤1048576):Calls prog 150 #[.string (s.extract k s.size)] w fun e w'=>e=.returned (.int .i64 (aj (s.data.toList.drop k):Nat))∧w=w':=by
 have:=tK (fW k s) w (by rw[lu];omega) (by rw[lu];omega);rw[oP]at this;exact this
theorem fV(s:ByteArray)(k:Nat)(h:k<s.size):s.data.toList[k]?=some s[k]:=by
 rw[zU (by rw[aB];exact h)];rfl
theorem bU(c d:UInt8):((c.toNat:Int)==(d.toNat:Int))=(c==d):=by
 rw[Bool.eq_iff_iff,beq_iff_eq,beq_iff_eq];constructor
 ·intro h;exact UInt8.toNat_inj.1 jo
 rintro rfl;rfl
theorem Dp(s:ByteArray)(w:World)(h1:0<s.size)(hs:s.size≤1048576):Calls prog 124 #[.string s] w fun e w'=>e=.returned (.int .i64 (aL s.data.toList:Nat))∧w=w':=by
 have hh:s.data.toList.head?=some s[0]:=by rw[←fV s 0 h1];cases s.data.toList<;>rfl
 have u0:=bU s[0] 40;have u1:=bU s[0] 41;have u2:=bU s[0] 34;simp only[show (UInt8.toNat 40:Int)=40 from rfl,show (UInt8.toNat 41:Int)=41 from rfl,show (UInt8.toNat 34:Int)=34 from rfl]at u0 u1 u2;by_cases e0:s[0]=40
 ·have e1:aL s.data.toList=1:=by unfold aL;rw[hh,zI (.inl (by rw[e0]))]
  have t0:((s[0].toNat:Int)==40)=true:=by rw[u0];exact beq_iff_eq.2 e0
  rw[e1];clear e1 hh u0 u1 u2 e0;go_enter func124,ntmps124;go_wp2;go_ret;exact⟨rfl,rfl⟩
 have t0:((s[0].toNat:Int)==40)=false:=by rw[u0];exact zM.2 e0
 by_cases e1:s[0]=41
 ·have e2:aL s.data.toList=1:=by unfold aL;rw[hh,zI (.inr (by rw[e1]))]
  have t1:((s[0].toNat:Int)==41)=true:=by rw[u1];exact beq_iff_eq.2 e1
  rw[e2];clear e2 hh u0 u1 u2 e0 e1;go_enter func124,ntmps124;go_wp2;go_ret;exact⟨rfl,rfl⟩
 have t1:((s[0].toNat:Int)==41)=false:=by rw[u1];exact zM.2 e1
 have hno:¬(s.data.toList.head?=some 40∨s.data.toList.head?=some 41):=by rw[hh];simp[e0,e1]
 by_cases e2:s[0]=34
 ·have e3:aL s.data.toList=aj s.data.toList:=by unfold aL;rw[zH hno,hh,e2,zI rfl]
  have t2:((s[0].toNat:Int)==34)=true:=by rw[u2];exact beq_iff_eq.2 e2
  have c0:=tK s w jo hs;rw[e3];clear e3 hno hh u0 u1 u2 e0 e1 e2;generalize aj s.data.toList=r at *;go_enter func124,ntmps124;go_wp2_with (go_at_call 150;refine c0.mono ?_;rintro e w' ⟨rfl,rfl⟩);go_ret;exact⟨rfl,rfl⟩
 have t2:((s[0].toNat:Int)==34)=false:=by rw[u2];exact zM.2 e2
 have e3:aL s.data.toList=if s.data.toList[av s.data.toList]?=some 34∧s.data.toList[av s.data.toList-1]?=some 58 then(if aj (s.data.toList.drop (av s.data.toList))=0 then 0 else av s.data.toList+aj (s.data.toList.drop (av s.data.toList)))else av s.data.toList:=by
  unfold aL;rw[zH hno,hh,zH (by simpa using e2)]
 have E3:=zh e3;have E2:=zh e2;have Hend:=zh (kY cE s.data.toList);clear e3 hno hh u0 u1 u2 e0 e1 e2;go_enter func124,ntmps124;go_wp2_with fail;go_loopw [3] (fun i wr=>∃k:Nat,k≤s.size∧i=.int .i64 k∧w=wr∧Hid (∀x∈s.data.toList.take k,cE x=false)) (fun i _=>s.size-(intOf i).toNat)
 case atStart=>exact⟨0,zS _,rfl,rfl,zh (fun x hx=>by simp at hx)⟩
 obtain⟨k,hk,rfl,rfl,hal⟩:=hrel;have hk0:(0:Int)≤(k:Int):=jo;by_cases hlt:k<s.size
 ·have hts:=iU s k hlt;by_cases he:cE s[k]=true
  ·have Hk:Hid (av s.data.toList=k):=zh (Hend.out k hal.out (by rw[aB];omega) (fun _=>he));have u3:=bU s[k] 34;rw[show (UInt8.toNat 34:Int)=34 from rfl]at u3;by_cases q:s[k]=34
   ·have t3:((s[k].toNat:Int)==34)=true:=by rw[u3];exact beq_iff_eq.2 q
    obtain⟨j,rfl⟩:∃j,k=j+1:=by
     match k with
     | 0=>exact absurd q E2.out
     | j+1=>exact⟨j,rfl⟩
    have hj:j<s.size:=jo;have u4:=bU s[j] 58;rw[show (UInt8.toNat 58:Int)=58 from rfl]at u4;have g1:=fV s (j+1) hlt;have g2:=fV s j hj;have c2:=BA s (j+1) w hlt hs;have hj0:(0:Int)≤(j:Int):=jo;have e8:((j+1:Nat):Int)=(j:Int)+1:=jo;by_cases q2:s[j]=58
    ·have t4:((s[j].toNat:Int)==58)=true:=by rw[u4];exact beq_iff_eq.2 q2
     have E4:Hid (aL s.data.toList=if aj (s.data.toList.drop (j+1))=0 then 0 else j+1+aj (s.data.toList.drop (j+1))):=zh (by
      rw[E3.out,Hk.out,Nat.add_sub_cancel,g1,g2,q,q2,zI ⟨rfl,rfl⟩])
     have hq:=lq (s.data.toList.drop (j+1));rw[zP,aB]at hq;clear u3 u4 g1 g2 q q2 hts hal Hk E3 Hend;generalize aj (s.data.toList.drop (j+1))=r at *;by_cases hr:r=0
     ·subst hr;have E5:Hid (aL s.data.toList=0):=zh (by rw[E4.out];rfl);clear E4 hq;go_wp2_with (first|(go_at_call 151;refine(ky s[j+1] _).mono ?_;rintro e w' ⟨rfl,rfl⟩)|(go_at_call 150;refine c2.mono ?_;rintro e w' ⟨rfl,rfl⟩));go_ret;exact⟨ia (by rw[E5.out];first|rfl|omega),rfl⟩
     have E5:Hid (aL s.data.toList=j+1+r):=zh (by rw[E4.out,zH hr]);have hr':((r:Int)==0)=false:=by rw[zM];omega
     clear E4 hr;go_wp2_with (first|(go_at_call 151;refine(ky s[j+1] _).mono ?_;rintro e w' ⟨rfl,rfl⟩)|(go_at_call 150;refine c2.mono ?_;rintro e w' ⟨rfl,rfl⟩));go_ret;exact⟨ia (by rw[E5.out];first|rfl|omega),rfl⟩
    have t4:((s[j].toNat:Int)==58)=false:=by rw[u4];exact zM.2 q2
    have E5:Hid (aL s.data.toList=j+1):=zh (by
     rw[E3.out,Hk.out,Nat.add_sub_cancel,g1,g2,zH (by simp[q2])])
    clear u3 u4 g1 g2 q q2 hts hal Hk E3 Hend c2;go_wp2_with (go_at_call 151;refine(ky s[j+1] _).mono ?_;rintro e w' ⟨rfl,rfl⟩);go_ret;exact⟨ia (by rw[E5.out];omega),rfl⟩
   have t3:((s[k].toNat:Int)==34)=false:=by rw[u3];exact zM.2 q
   have g1:=fV s k hlt
   have E5:Hid (aL s.data.toList=k):=zh (by
    rw[E3.out,Hk.out,g1,zH (by simp[q])])
   clear u3 g1 q hts hal Hk E3 Hend;go_wp2_with (go_at_call 151;refine(ky s[k] _).mono ?_;rintro e w' ⟨rfl,rfl⟩);go_ret;exact⟨ia (by rw[E5.out]),rfl⟩
  have he':cE s[k]=false:=by simpa using he
  have Hnx:Hid (∀x∈s.data.toList.take (k+1),cE x=false):=zh (fun x hx=>by
   rw[hts,List.mem_append]at hx;rcases hx with hx|hx
   ·exact hal.out x hx
   rw[List.mem_singleton]at hx;rw[hx];exact he')
  clear hts hal he E3 Hend;go_wp2_with (go_at_call 151;refine(ky s[k] _).mono ?_;rintro e w' ⟨rfl,rfl⟩);go_roundw
  case rel=>exact⟨k+1,jo,ju,by first|rfl|trivial,Hnx⟩
  simp[intOf];omega
 obtain rfl:k=s.size:=jo;have hn:s.data.toList[s.size]?=none:=List.getElem?_eq_none (by rw[aB];omega);have Hk:Hid (av s.data.toList=s.size):=zh (Hend.out s.size hal.out (by rw[aB];omega) (fun h=>absurd h (by rw[aB];omega)))
 have E5:Hid (aL s.data.toList=s.size):=zh (by
  rw[E3.out,Hk.out,hn,zH jz])
 clear hal hn Hk E3 Hend;go_wp2;go_ret;exact⟨ia (by rw[E5.out]),rfl⟩
end Qp
end Go.Proofs.YtmomjpolkkbhnaaGreat
