/- event.Check, Size, CheckBatch, and the document's: the walks. -/
import Derived.Test.YtmomjpolkkbhnaaGreatQModelCountsRow7
import Derived.Test.YtmomjpolkkbhnaaGreatQModelCountsRow11
import Derived.Test.YtmomjpolkkbhnaaGreatQModelCountsRow5
set_option linter.unusedSectionVars false
set_option linter.unusedSimpArgs false
set_option linter.unusedVariables false
set_option maxRecDepth 20000
set_option maxHeartbeats 100000000
open Go.Proofs.Tryz
namespace Go.Proofs.YtmomjpolkkbhnaaGreat
namespace Ev
open Go.RowKit Ut Tk Qy
structure FlAt (w:World) (B:Nat) (F:Option Addr) (fn fc:Nat) (fs:List Fl):Prop where
 rd:Reads w B 2 F fn (aO fs)
 len:fs.length=fn
 few:fn≤8796093021952
 cap:fn≤fc
 sz:∀f∈fs,f.1.size≤140737488351232∧f.2.size≤140737488351232
 nl:F=none→fc=0
theorem FlAt.keep{w w':World}{B:Nat}{F:Option Addr}{fn fc:Nat}{fs:List Fl}(h:FlAt w B F fn fc fs)(hk:∀b o,b<B→w'.cell? ⟨b,o,none⟩=w.cell? ⟨b,o,none⟩):FlAt w' B F fn fc fs:=⟨h.rd.keep hk,h.len,h.few,h.cap,h.sz,h.nl⟩
theorem FlAt.more{w:World}{B B':Nat}{F:Option Addr}{fn fc:Nat}{fs:List Fl}(h:FlAt w B F fn fc fs)(hB:B≤B'):FlAt w B' F fn fc fs:=⟨h.rd.more hB,h.len,h.few,h.cap,h.sz,h.nl⟩
theorem FlAt.grow{w w':World}{F:Option Addr}{fn fc:Nat}{fs:List Fl}(h:FlAt w w.heap.size F fn fc fs)(hb:zWW w w'):FlAt w' w'.heap.size F fn fc fs:=(h.keep fun _ _ hp=>hb.cell hp).more hb.size
theorem FlAt.at_{w:World}{B:Nat}{F:Option Addr}{fn fc:Nat}{fs:List Fl}(h:FlAt w B F fn fc fs){k:Nat}(hk:k<fs.length) :
  ∃b o,F=some ⟨b,o,none⟩∧b<B∧w.cell? ⟨b,o+k*2,none⟩=some (.string fs[k].1)∧w.cell? ⟨b,o+k*2+1,none⟩=some (.string fs[k].2):=Qy.iB h.rd hk
theorem ww{α:Type}(l:List α)(k:Nat)(h:k<l.length):l.drop k=l[k]::l.drop (k+1):=zc h
theorem E9(s:ByteArray)(w:World)(hs:s.size≤140737488351232):Calls prog 123 #[.string s] w fun e w'=>e=.returned (.bool (isN s.data.toList))∧zWW w w':=by
 have c:=rz s w hs;go_enter func123,ntmps123;go_wp2_with fail;refine c.mono ?_;rintro e w' ⟨rfl,hb⟩;go_wp2;go_ret;exact⟨rfl,hb⟩
theorem DX(t:Int)(F:Option Addr)(fn fc:Nat)(fs:List Fl)(w:World)(h:FlAt w w.heap.size F fn fc fs) :
  Calls prog 93 #[.agg #[.int .i64 t,.slice F fn fc]] w fun e w'=>e=.returned (.int .i64 (aM fs))∧zWW w w':=by
 have hl:=h.len;have hl1:fs.length≤fn:=jo;have hl2:fn≤fs.length:=jo;have hcap:=h.cap;have hfew:=h.few;have Fin:Hid (aM fs=if 16<fs.length then 3 else eQ fs):=rfl;have H:=zh h;have hB1:Hid (zWW w (w.alloc (.cells #[.int .i64 t,.slice F fn fc] 46))):=zh (zRR _);clear hl h;generalize aM fs=r at *;by_cases hbig:16<fs.length
 ·have hb16:(16:Int)<(fn:Int):=jo;go_enter func93,ntmps93;go_wp2;go_ret;exact⟨by rw[Fin.out,zI hbig];rfl,hB1.out⟩
 have hb16:¬(16:Int)<(fn:Int):=jo;have Fin2:Hid (r=eQ (fs.drop 0)):=zh (by rw[Fin.out,zH hbig,List.drop_zero]);clear Fin hbig;go_enter func93,ntmps93;go_wp2;go_loopw [12] (fun i wr=>∃k:Nat,k≤fs.length∧i=.int .i64 (k:Nat)∧Hid (r=eQ (fs.drop k))∧Hid (zWW w wr)) (fun i _=>fs.length-(intOf i).toNat)
 case atStart=>exact⟨0,zS _,rfl,Fin2,hB1⟩
 clear Fin2 hB1;obtain⟨k,hk,rfl,hR,hB⟩:=hrel;by_cases hlt:k<fs.length
 ·have hkz:(k:Int)<(fn:Int):=jo;obtain⟨b,o,rfl,hbb,cn,ct⟩:=(H.out.keep (w':=wr) (fun b o hp=>hB.out.cell (p:=⟨b,o,none⟩) hp)).at_ hlt;have hsz:=H.out.sz _ (za hlt);have hR2:Hid (r=if isN fs[k].1.data.toList=false then 100 else if 4096<fs[k].2.size then 2 else eQ (fs.drop (k+1))):=zh (by rw[hR.out,ww _ _ hlt];rfl);clear hR;generalize hfk:fs[k]=f at *;clear hfk;obtain⟨nm,tx⟩:=f;simp only at cn ct hsz hR2;obtain⟨hs1,hs2⟩:=hsz;go_wp2_with fail;have hbW:Hid (zWW w (wr.alloc (.cells #[.string nm,.string tx] 85))):=zh (hB.out.alloc hB.out.size _);have c:=E9 nm (wr.alloc (.cells #[.string nm,.string tx] 85)) hs1;have d1:=(Blk.new wr 85 #[.string nm,.string tx]).cell 1;have hlt1:wr.heap.size<(wr.alloc (.cells #[.string nm,.string tx] 85)).heap.size:=jz;simp only[zA,zB,zC]at d1;generalize wr.alloc (.cells #[.string nm,.string tx] 85)=w1 at *;clear hB cn ct;refine c.mono ?_;rintro e w2 ⟨rfl,hb2⟩;have d2:=(hb2.cell (p:=⟨wr.heap.size,1,none⟩) hlt1).trans d1;have hB2:Hid (zWW w w2):=zt hbW hb2;clear c d1 hb2 hbW;by_cases hn:isN nm.data.toList=false
  ·rw[hn];go_wp2;go_ret;exact⟨by rw[hR2.out,zI hn];rfl,hB2.out⟩
  have hn2:isN nm.data.toList=true:=by simpa using hn
  rw[hn2];by_cases ht:4096<tx.size
  ·have htz:(4096:Int)<(tx.size:Int):=jo;go_wp2;go_ret;exact⟨by rw[hR2.out,zH hn,zI ht];rfl,hB2.out⟩
  have htz:¬(4096:Int)<(tx.size:Int):=jo;have hR3:Hid (r=eQ (fs.drop (k+1))):=zh (by rw[hR2.out,zH hn,zH ht]);clear hR2 hn hn2;go_wp2;go_roundw
  case rel=>exact⟨k+1,jo,ju,hR3,hB2⟩
  simp[intOf];omega
 have hkz:¬(k:Int)<(fn:Int):=jo;go_wp2;go_ret;exact⟨by rw[hR.out,List.drop_eq_nil_of_le jo];rfl,hB.out⟩
end Ev

namespace Ss
open Go.Sort Go.Proofs
variable {α:Type} [Inhabited α] {cf:α→α→Int} {tag:α→Nat}
def Tgb(tag:α→Nat)(d:Array α)(B n:Nat):Prop:=∀c x y,x<c*B→c*B≤y→y<n→tag d[x]!<tag d[y]!
def Sb(cf:α→α→Int)(tag:α→Nat)(d:Array α)(B n:Nat):Prop:=∀c,Srt cf tag d (c*B) (min ((c+1)*B) n)
theorem Tgb.perm{d d':Array α}{B n a b:Nat}(hT:Tgb tag d B n)(hb:b≤d.size)(hin:∀c,c*B≤a∨b≤c*B)(P:PermIn a b d d')(hbn:b≤n):Tgb tag d' B n:=by
 intro c x y hx hy hn;have hc:=hin c;have hT:=hT c;generalize c*B=q at *
 have h1:∀x0,x0<q→tag d[x0]!<tag d'[y]!:=fun x0 hx0=>by
  by_cases hyi:a≤y∧y<b
  ·exact permIn_all d d' a b (fun z=>tag d[x0]!<tag z) hb P (fun i hi hi2=>hT x0 i hx0 jo jo) y hyi.1 hyi.2
  rw[P.2.1 y jo];exact hT x0 y hx0 hy hn
 by_cases hxi:a≤x∧x<b
 ·exact permIn_all d d' a b (fun z=>tag z<tag d'[y]!) hb P (fun i hi hi2=>h1 i jo) x hxi.1 hxi.2
 rw[P.2.1 x jo];exact h1 x hx
theorem Tgb.twice{d:Array α}{B n:Nat}(h:Tgb tag d B n):Tgb tag d (2*B) n:=fun c x y hx hy hn=>by
 have e:c*(2*B)=(c*2)*B:=(Nat.mul_assoc c 2 B).symm;rw[e]at hx hy;exact h (c*2) x y hx hy hn
structure Ph (cf:α→α→Int) (tag:α→Nat) (d0 dB dk:Array α) (B n c:Nat):Prop where
 hs:dk.size=d0.size
 hBs:dB.size=d0.size
 hn:n≤d0.size
 P:PermIn 0 n d0 dk
 T:Tgb tag dk (2*B) n
 S:∀c'<c,Srt cf tag dk (c'*(2*B)) ((c'+1)*(2*B))
 K:∀x,c*(2*B)≤x→dk[x]! = dB[x]!
 TB:Tgb tag dB B n
 SB:Sb cf tag dB B n
theorem Ph.start{d0 dB:Array α}{B n:Nat}(hBs:dB.size=d0.size)(hn:n≤d0.size)(P:PermIn 0 n d0 dB)(T:Tgb tag dB B n)(S:Sb cf tag dB B n):Ph cf tag d0 dB dB B n 0:=
 ⟨hBs,hBs,hn,P,T.twice,fun c' h=>jo,fun _ _=>rfl,T,S⟩
theorem yV(c B:Nat):(c*2)*B=c*(2*B):=Nat.mul_assoc c 2 B
theorem lW(c B:Nat):(c*2+1)*B=c*(2*B)+B:=by rw[Nat.add_mul,Nat.mul_assoc,Nat.one_mul]
theorem gh(c B:Nat):(c+1)*(2*B)=c*(2*B)+2*B:=by rw[Nat.add_mul,Nat.one_mul]
theorem Ph.wants{d0 dB dk:Array α}{B n c a b:Nat}(h:Ph cf tag d0 dB dk B n c)(ha:a=c*(2*B))(hb:b=min (a+2*B) n)(hm:a+B<n):Srt cf tag dk a (a+B)∧Srt cf tag dk (a+B) b∧Tg tag dk a (a+B) b:=by
 have s1:=h.SB (c*2);have s2:=h.SB (c*2+1);have t1:=h.TB (c*2+1);have e3:(c*2+1+1)*B=c*(2*B)+2*B:=by rw[Nat.add_mul,lW];omega
 rw[lW,yV,←ha]at s1;rw[e3,lW,←ha]at s2;rw[lW,←ha]at t1;have K:=h.K;rw[←ha]at K;have hb1:b≤n:=jo;refine⟨(s1.sub (zG _) jo).keep (fun x h1 h2=>K x h1),(s2.sub (zG _) jo).keep (fun x h1 h2=>K x jo),fun x y h1 h2 h3 h4=>?_⟩;rw[K x h1,K y jo];exact t1 x y h2 h3 jo
theorem Ph.next{d0 dB dk d':Array α}{B n c a:Nat}(h:Ph cf tag d0 dB dk B n c)(ha:a=c*(2*B))(hb:a+2*B≤n)(P:PermIn a (a+2*B) dk d')(S:Srt cf tag d' a (a+2*B)):Ph cf tag d0 dB d' B n (c+1):=by
 have hs:=h.hs;have hn:=h.hn;refine⟨P.1.trans hs,h.hBs,hn,permIn_trans _ _ _ _ _ h.P (permIn_mono _ _ _ _ _ _ jo jo jo P),h.T.perm jo (fun c'=>?_) P jo,fun c' hc'=>?_,fun x hx=>?_,h.TB,h.SB⟩
 ·rcases Nat.lt_or_ge c c' with g|g
  ·refine .inr ?_;have:=Nat.mul_le_mul_right (2*B) (show c+1≤c' from g);rw[gh,←ha]at this;exact this
  exact .inl (by rw[ha];exact Nat.mul_le_mul_right _ g)
 ·rcases Nat.lt_or_ge c' c with g|g
  ·have e:=Nat.mul_le_mul_right (2*B) (show c'+1≤c from g);rw[←ha]at e;exact(h.S c' g).keep (fun x h1 h2=>P.2.1 x (.inl jo))
  obtain rfl:c'=c:=jo;rw[gh,←ha];exact S
 rw[gh,←ha]at hx;rw[P.2.1 x (.inr hx)];exact h.K x (by rw[←ha];omega)
theorem Ph.last{d0 dB dk d':Array α}{B n c a:Nat}(h:Ph cf tag d0 dB dk B n c)(ha:a=c*(2*B))(hb:n<a+2*B)(hm:a+B<n)(P:PermIn a n dk d')(S:Srt cf tag d' a n):d'.size=d0.size∧PermIn 0 n d0 d'∧Tgb tag d' (2*B) n∧Sb cf tag d' (2*B) n:=by
 have hs:=h.hs;have hn:=h.hn;refine⟨P.1.trans hs,permIn_trans _ _ _ _ _ h.P (permIn_mono _ _ _ _ _ _ jo jo jo P),h.T.perm jo (fun c'=>?_) P jo,fun c'=>?_⟩
 ·rcases Nat.lt_or_ge c c' with g|g
  ·refine .inr ?_;have:=Nat.mul_le_mul_right (2*B) (show c+1≤c' from g);rw[gh,←ha]at this;omega
  exact .inl (by rw[ha];exact Nat.mul_le_mul_right _ g)
 rcases Nat.lt_trichotomy c' c with g|g|g
 ·have e:=Nat.mul_le_mul_right (2*B) (show c'+1≤c from g);rw[←ha]at e;exact((h.S c' g).keep (fun x h1 h2=>P.2.1 x (.inl jo))).sub (zG _) jo
 ·subst g;rw[gh,←ha];exact S.sub (zG _) jo
 have:=Nat.mul_le_mul_right (2*B) (show c+1≤c' from g);rw[gh,←ha]at this;exact Srt.one _ jo
theorem Ph.done{d0 dB dk:Array α}{B n c a:Nat}(h:Ph cf tag d0 dB dk B n c)(ha:a=c*(2*B))(hm:n≤a+B):dk.size=d0.size∧PermIn 0 n d0 dk∧Tgb tag dk (2*B) n∧Sb cf tag dk (2*B) n:=by
 refine⟨h.hs,h.P,h.T,fun c'=>?_⟩;rcases Nat.lt_trichotomy c' c with g|g|g
 ·exact(h.S c' g).sub (zG _) jo
 ·subst g;have s1:=h.SB (c'*2);rw[lW,yV,←ha]at s1;rw[gh,←ha];have K:=h.K;rw[←ha]at K;exact(s1.sub (zG _) jo).keep (fun x h1 h2=>K x h1)
 have:=Nat.mul_le_mul_right (2*B) (show c+1≤c' from g);rw[gh,←ha]at this;exact Srt.one _ jo
theorem Sb.whole{d:Array α}{B n:Nat}(h:Sb cf tag d B n)(hB:n≤B):Srt cf tag d 0 n:=by
 have:=h 0;rw[Nat.zero_mul,Nat.zero_add,Nat.one_mul]at this;exact this.sub (zG _) jo
structure Pi (cf:α→α→Int) (tag:α→Nat) (d0 dk:Array α) (B n c:Nat):Prop where
 hs:dk.size=d0.size
 hn:n≤d0.size
 P:PermIn 0 n d0 dk
 T:Tgb tag dk B n
 S:∀c'<c,Srt cf tag dk (c'*B) ((c'+1)*B)
 K:∀x,c*B≤x→dk[x]! = d0[x]!
 O:∀x y,x<y→y<n→tag d0[x]!<tag d0[y]!
theorem Pi.start{d0:Array α}{B n:Nat}(hn:n≤d0.size)(O:∀x y,x<y→y<n→tag d0[x]!<tag d0[y]!):Pi cf tag d0 d0 B n 0:=
 ⟨rfl,hn,permIn_refl _ _ _,fun c x y hx hy hn=>O x y jo hn,fun c' h=>jo,fun _ _=>rfl,O⟩
theorem Pi.next{d0 dk d':Array α}{B n c a:Nat}(h:Pi cf tag d0 dk B n c)(ha:a=c*B)(hb:a+B≤n)(P:PermIn a (a+B) dk d')(S:Srt cf tag d' a (a+B)):Pi cf tag d0 d' B n (c+1):=by
 have hs:=h.hs;have hn:=h.hn;have e1:(c+1)*B=a+B:=by rw[Nat.add_mul,Nat.one_mul,ha]
 refine⟨P.1.trans hs,hn,permIn_trans _ _ _ _ _ h.P (permIn_mono _ _ _ _ _ _ jo jo jo P),h.T.perm jo (fun c'=>?_) P jo,fun c' hc'=>?_,fun x hx=>?_,h.O⟩
 ·rcases Nat.lt_or_ge c c' with g|g
  ·refine .inr ?_;have:=Nat.mul_le_mul_right B (show c+1≤c' from g);rw[e1]at this;exact this
  exact .inl (by rw[ha];exact Nat.mul_le_mul_right _ g)
 ·rcases Nat.lt_or_ge c' c with g|g
  ·have e:=Nat.mul_le_mul_right B (show c'+1≤c from g);rw[←ha]at e;exact(h.S c' g).keep (fun x h1 h2=>P.2.1 x (.inl jo))
  obtain rfl:c'=c:=jo;rw[e1,←ha];exact S
 rw[e1]at hx;rw[P.2.1 x (.inr hx)];exact h.K x (by rw[←ha];omega)
theorem Pi.last{d0 dk d':Array α}{B n c a:Nat}(h:Pi cf tag d0 dk B n c)(ha:a=c*B)(hb:n<a+B)(han:a≤n)(P:PermIn a n dk d')(S:Srt cf tag d' a n):d'.size=d0.size∧PermIn 0 n d0 d'∧Tgb tag d' B n∧Sb cf tag d' B n:=by
 have hs:=h.hs;have hn:=h.hn;have e1:(c+1)*B=a+B:=by rw[Nat.add_mul,Nat.one_mul,ha]
 refine⟨P.1.trans hs,permIn_trans _ _ _ _ _ h.P (permIn_mono _ _ _ _ _ _ jo jo jo P),h.T.perm jo (fun c'=>?_) P jo,fun c'=>?_⟩
 ·rcases Nat.lt_or_ge c c' with g|g
  ·refine .inr ?_;have:=Nat.mul_le_mul_right B (show c+1≤c' from g);rw[e1]at this;omega
  exact .inl (by rw[ha];exact Nat.mul_le_mul_right _ g)
 rcases Nat.lt_trichotomy c' c with g|g|g
 ·have e:=Nat.mul_le_mul_right B (show c'+1≤c from g);rw[←ha]at e;exact((h.S c' g).keep (fun x h1 h2=>P.2.1 x (.inl jo))).sub (zG _) jo
 ·subst g;rw[e1,←ha];exact S.sub (zG _) jo
 have:=Nat.mul_le_mul_right B (show c+1≤c' from g);rw[e1]at this;exact Srt.one _ jo
theorem Pi.tags{d0 dk:Array α}{B n c a:Nat}(h:Pi cf tag d0 dk B n c)(ha:a=c*B){x y:Nat}(hx:a≤x)(hxy:x<y)(hy:y<n):tag dk[x]!<tag dk[y]!:=by
 have K:=h.K;rw[←ha]at K;rw[K x hx,K y jo];exact h.O x y hxy hy
theorem Au{d d':Array α}{a b i:Nat}(P:PermIn a b d d')(hai:a≤i)(K:∀x,i≤x→d'[x]! = d[x]!)(hib:i≤b)(hb:b≤d.size):PermIn a i d d':=by
 refine⟨P.1,fun x hx=>?_,?_⟩
 ·rcases hx with hx|hx
  ·exact P.2.1 x (.inl hx)
  exact K x hx
 have hs:=P.1
 have e:∀(c:Array α),b≤c.size→(c.extract a b).toList=(c.extract a i).toList++(c.extract i b).toList:=fun c hc=>by
  rw[←Array.toList_append,Array.extract_append_extract];congr 2<;>omega
 have h2:(d'.extract i b).toList=(d.extract i b).toList:=by
  refine List.ext_getElem (by simp[hs]) (fun x h1 h3=>?_);have hx:i+x<d.size:=by simp at h3;omega
  have:=K (i+x) jo;rw[getElem!_pos d' (i+x) jo,getElem!_pos d (i+x) hx]at this
  simpa using this
 have P2:=P.2.2;rw[e d' jo,e d hb,h2]at P2;exact(List.perm_append_right_iff _).1 P2
theorem Hw(hW:SWO (ltOf cf)){di dj:Array α}{a i j:Nat}(haj:a≤j)(hji:j≤i)(S:Srt cf tag di a i)(hT:∀h,a≤h→h<i→tag di[h]!<tag di[i]!)(hX:∀x,dj[x]! = shR di i j x)(hG:∀h,j≤h→h<i→bef cf tag di[i]! di[h]!)(hstop:j≤a∨¬cf di[i]! di[j-1]!<0):Srt cf tag dj a (i+1):=by
 refine xA hW haj hji S (fun h h1 h2=>?_) hG hX;rcases hstop with g|g
 ·omega
 exact S.step_l hW (y:=j-1) h1 jo jo (nA (hT (j-1) jo jo) g)
end Ss

namespace Qy
open Go.RowKit Ut Tk
theorem Dh(TA:Option Addr)(n tc:Nat)(T:List (List UInt8))(WA:Option Addr)(m wc:Nat)(ws:List ByteArray)(k:Nat)(w:World)(hT:Reads w w.heap.size 2 TA n (cG (bR T)))(hn:T.length=n)(hn2:n≤1048576)
  (hW:Reads w w.heap.size 1 WA m (ws.map Value.string)) (hm:ws.length=m) (hm2:m≤8796093021952) (hk:k<n) :
  Calls prog 191 #[.slice TA n tc,.int .i64 (k:Int),.slice WA m wc] w fun e w'=>e=.returned (.bool (eC T ws k))∧zWW w w':=by
 have HT:=zh hT;have HW:=zh hW;have Hn:=zh hn;have Hm:=zh hm;by_cases hs:n-k<m
 ·have Fin:=zh (rX T ws k (by rw[hn,hm];exact hs));have hs':(n:Int)-(k:Int)<(m:Int):=jo;clear hT hW hn hm hs;go_enter func191,ntmps191;go_wp2;go_ret;exact⟨by rw[Fin.out];rfl,zw _ _⟩
 have hs':¬(n:Int)-(k:Int)<(m:Int):=jo;have hmn:m≤n-k:=jo;clear hT hW hn hm hs;go_enter func191,ntmps191;go_wp2;go_loopw [7] (fun i wr=>∃j:Nat,j≤m∧i=.int .i64 j∧dR T ws k j=true∧zWW w wr) (fun i _=>m-(intOf i).toNat)
 case atStart=>exact⟨0,zS _,rfl,rR _ _ _,zw _ _⟩
 obtain⟨j,hj,rfl,hst,hb⟩:=hrel;have Hb:=zh hb;have Hst:=zh hst;clear hst hb;by_cases hjm:j<m
 ·obtain⟨tb,tq,rfl,htb,hx1,hx2⟩:=gQ HT.out Hn.out (k:=k+j) (by rw[Hn.out];omega);obtain⟨ab,ao,hkl,rfl,hab,hcw⟩:=HW.out.at_map hjm;have hy1:=(Hb.out.cell (p:=⟨tb,tq+(k+j)*2,none⟩) htb).trans hx1;have hy2:=(Hb.out.cell (p:=⟨tb,tq+(k+j)*2+1,none⟩) htb).trans hx2;have hyw:=(Hb.out.cell (p:=⟨ab,ao+j,none⟩) hab).trans hcw;have hss:=rS T ws k j (by rw[Hn.out];omega) (by rw[Hm.out];omega);have hbe:=wh (T[k+j]'(by rw[Hn.out];omega)) ws[j];rw[Hst.out,Bool.true_and,←hbe]at hss;have Hss:=zh hss;have hi0:(0:Int)≤(k:Int)+(j:Int):=jo;have hi1:(k:Int)+(j:Int)<(n:Int):=jo;have hi2:((k:Int)+(j:Int)).toNat=k+j:=jo;have hi3:IntKind.i64.wrap ((k:Int)+(j:Int))=(k:Int)+(j:Int):=IntWalk.i64_in _ jo;have hj0:(0:Int)≤(j:Int):=jo;have hj1:(j:Int)<(m:Int):=jo;have Hno:Hid (dR T ws k (j+1)=false→eC T ws k=false):=zh (fun e=>sG T ws k (j+1) (by rw[Hm.out];omega) e);clear hx1 hx2 hcw hss hbe
  have hprev:0<j→wr.cell? ⟨tb,tq+(k+j-1)*2+1,none⟩=some (.int .i64 ((k+j-1:Nat):Int)):=fun h0=>by
   obtain⟨tb',tq',e1,htb',_,hx2⟩:=gQ HT.out Hn.out (k:=k+j-1) (by rw[Hn.out];omega);injection e1 with e1;injection e1 with e1 e2;subst e1 e2;exact(Hb.out.cell (p:=⟨tb,tq+(k+j-1)*2+1,none⟩) htb).trans hx2
  generalize (str (T[k+j]'(by rw[Hn.out];omega)))=x at *;generalize ws[j]=y at *;by_cases hxy:(x.toList==y.toList)=true
  ·have hxy':(x.toList != y.toList)=false:=by rw[bne,hxy];rfl
   have Hs2:Hid (dR T ws k (j+1)=true):=zh (by rw[Hss.out,hxy]);by_cases h0:0<j
   ·have hp:=hprev h0;have e1:((k+j-1:Nat):Int)=(k:Int)+(j:Int)-1:=jo;have e2:((k:Int)+(j:Int)-1).toNat=k+j-1:=jo;have e3:IntKind.i64.wrap ((k:Int)+(j:Int)-1)=(k:Int)+(j:Int)-1:=IntWalk.i64_in _ jo;have e4:(0:Int)≤(k:Int)+(j:Int)-1:=jo;have e5:(k:Int)+(j:Int)-1<(n:Int):=jo;have e6:(((k:Int)+(j:Int)-1)==9223372036854775807)=false:=by rw[zM];omega
    have e7:IntKind.i64.wrap ((k:Int)+(j:Int)-1+1)=(k:Int)+(j:Int):=by rw[show (k:Int)+(j:Int)-1+1=(k:Int)+(j:Int)from by omega];exact hi3
    have h0':decide (0<j)=true:=by simpa using h0
    rw[e1]at hp;clear hprev e1;go_wp2_with fail;go_quiet (fail);have Hbx:=zh (below_drewN Hb.out nq);go_wp2;go_roundw
    case rel=>exact⟨j+1,jo,ju,Hs2.out,Hbx.out⟩
    simp[intOf];omega
   have h0':decide ((0:Int)<(j:Int))=false:=by simpa using h0
   clear hprev;go_wp2_with fail;go_quiet (fail);have Hbx:=zh (below_drewN Hb.out nq);go_wp2;go_roundw
   case rel=>exact⟨j+1,jo,ju,Hs2.out,Hbx.out⟩
   simp[intOf];omega
  have hxf:(x.toList==y.toList)=false:=Bool.eq_false_iff.2 hxy;have hxy':(x.toList != y.toList)=true:=by rw[bne,hxf];rfl
  have Hs2:=zh (Hno.out (by rw[Hss.out];exact hxf));clear hxy hprev;go_wp2_with fail;go_quiet (fail);have Hbx:=zh (below_drewN Hb.out nq);go_wp2;go_ret;exact⟨by rw[Hs2.out];rfl,Hbx.out⟩
 obtain rfl:j=m:=jo;have hst2:=Hst.out;have hmm:=Hm.out;subst hmm;rw[rY]at hst2;have Fin:=zh hst2;clear hst2 hjm;go_wp2;go_ret;exact⟨by rw[Fin.out];rfl,Hb.out⟩
end Qy

namespace Qy
open Go.RowKit Ut Tk
theorem tJ(TA:Option Addr)(n tc:Nat)(T:List (List UInt8))(WA:Option Addr)(m wc:Nat)(ws:List ByteArray)(w:World)(hT:Reads w w.heap.size 2 TA n (cG (bR T)))(hn:T.length=n)(hn2:n≤1048576)
  (hW:Reads w w.heap.size 1 WA m (ws.map Value.string)) (hm:ws.length=m) (hm2:m≤8796093021952) :
  Calls prog 172 #[.slice TA n tc,.slice WA m wc] w (xB w (phr T ws)):=by
 obtain⟨i0,hi0,hz0,hz1,hz2⟩:=info_parts ou;have HT:=zh hT;have HW:=zh hW;clear hT hW;by_cases h0:m=0
 ·have hws:ws=[]:=List.length_eq_zero_iff.1 jo;have Fin:Hid (phr T ws=[]):=zh (by unfold phr;rw[zI hws]);have h0':¬(0:Int)<(m:Int):=jo;have h0'':¬0<m:=jo;clear h0 hws hm;go_enter func172,ntmps172;go_wp2;go_loopw [5,6] (fun v i wr=>v=.slice none 0 0∧i=.int .i64 0∧wr=w) (fun _ i _=>n-(intOf i).toNat)
  case atStart=>exact⟨rfl,rfl,rfl⟩
  obtain⟨rfl,rfl,rfl⟩:=hrel;by_cases hn0:(0:Int)<(n:Int)
  all_goals
   go_wp2;go_ret;exact⟨_,rfl,by rw[Fin.out];exact Ints.start _⟩
 have hws:ws≠[]:=fun e=>h0 (by rw[←hm,e];rfl)
 have Fin:Hid (phr T ws=bn T ws n):=zh (by unfold phr;rw[zH hws,hn]);have h0':(0:Int)<(m:Int):=jo;have h0'':0<m:=jo;have Hn:=zh hn;have Hm:=zh hm;clear h0 hws hm hn;go_enter func172,ntmps172;go_wp2;go_loopw [5,6] (fun v i wr=>∃k:Nat,k≤n∧i=.int .i64 k∧Ints w wr v (bn T ws k)) (fun _ i _=>n-(intOf i).toNat)
 case atStart=>exact⟨0,zS _,rfl,Ints.start w⟩
 obtain⟨k,hk,rfl,hI⟩:=hrel;by_cases hlt:k<n
 ·obtain⟨tb,tq,rfl,htb,hc1,hc2⟩:=gQ HT.out Hn.out (k:=k) (by rw[Hn.out];exact hlt);have c1:=Dh (some ⟨tb,tq,none⟩) n tc T WA m wc ws k wr ((HT.out.below hI.bel).more hI.bel.size) Hn.out hn2 ((HW.out.below hI.bel).more hI.bel.size) Hm.out hm2 hlt;have hd2:=(hI.bel.cell (p:=⟨tb,tq+k*2+1,none⟩) htb).trans hc2;have htb2:tb<wr.heap.size:=by have:=hI.bel.size;omega
  have HI:=zh hI;have hpl:=uO T ws k;have Hph:=zh (lj T ws k);clear hI hc1 hc2;by_cases hs:eC T ws k=true
  ·rw[hs]at c1;have Hph2:Hid (bn T ws (k+1)=bn T ws k ++ [k]):=zh (by rw[Hph.out,hs];rfl);clear hs;generalize bn T ws k=P at *;go_wp2_with fail;refine c1.mono ?_;rintro e w2 ⟨rfl,hb2⟩;have hI2:=HI.out.below hb2;have hown:=hI2.own;have hbsz:=hI2.bel.size;have hd3:=(hb2.cell (p:=⟨tb,tq+k*2+1,none⟩) htb2).trans hd2;have HI2:=zh hI2;clear hI2 c1 hb2;go_wp2_with (at_builtin;refine vH _ rfl _ _ 27 rfl w.heap.size 3 i0 _ 1 8 underlying27 hi0 hz0 hz1 hz2 rfl jd _ _ _ rfl (hown.alloc _) ⟨w2.heap.size,0,none⟩ 1 1 [.int .i64 (k:Int)] rfl rfl ?d1 ?d2 ?d3 ?d4 ?d5 ?_)
   case d1=>exact zy (cs:=#[.int .i64 (k:Int)]) (t:=3) (fr:=(0,0)) (vI w2 _)
   case d2=>first|rfl|(intro u hu;simp at hu;subst hu;rfl)
   case d3=>unfold maxLen;omega
   case d4=>omega
   case d5=>first|omega|(simp;omega)
   intro v' w5 hown5 hg5 _;have HI5:=zh ((HI2.out.below (zRR _)).put hown5 hg5);clear hown5 hg5 hown;go_wp2;go_roundw
   case rel=>exact⟨k+1,jo,ju,by rw[Hph2.out];exact HI5.out⟩
   simp[intOf];omega
  have hs':eC T ws k=false:=Bool.eq_false_iff.2 hs;rw[hs']at c1;have Hph2:Hid (bn T ws (k+1)=bn T ws k):=zh (by rw[Hph.out,hs'];simp);clear hs hs';go_wp2_with fail;refine c1.mono ?_;rintro e w2 ⟨rfl,hb2⟩;have HI2:=zh (HI.out.below hb2);clear c1 hb2;go_wp2;go_roundw
  case rel=>exact⟨k+1,jo,ju,by rw[Hph2.out];exact HI2.out⟩
  simp[intOf];omega
 obtain rfl:k=n:=jo;have HI:=zh hI;clear hI;go_wp2;go_ret;exact⟨_,rfl,by rw[Fin.out];exact HI.out⟩
theorem ny(p t:List UInt8):p.isPrefixOf t=(decide (p.length≤t.length)&&(t.take p.length==p)):=by
 rw[Bool.eq_iff_iff];simp only[List.isPrefixOf_iff_prefix,zo,zd,beq_iff_eq];constructor
 ·rintro⟨r,rfl⟩;simp
 rintro⟨_,h⟩;exact⟨t.drop p.length,by have:=List.take_append_drop p.length t;rw[h]at this;exact this⟩
theorem Bs(x:List UInt8)(p:ByteArray)(w:World)(hx:x.length≤1048576) :
  Calls prog 192 #[.string (str x),.string p] w fun e w'=>e=.returned (.bool (bS x p))∧w=w':=by
 have hb:bS x p=(decide (p.size≤(str x).size)&&((str x).extract 0 p.size).toList==p.toList):=by
  unfold bS;rw[ny,tl,tl,Lib.extract_data,aB,iZ,bE];simp
 have HB:=zh hb;have hsz:(str x).size≤1048576:=by rw[iZ];exact hx
 clear hb;generalize str x=s at *;generalize bS x p=r at *;by_cases hl:p.size≤s.size
 ·have hl':(p.size:Int)≤(s.size:Int):=jo;have HB2:Hid (r=((s.extract 0 p.size).toList==p.toList)):=zh (by rw[HB.out,zO hl,Bool.true_and]);go_enter func192,ntmps192;go_wp2;go_ret;exact⟨by rw[HB2.out];rfl,rfl⟩
 have hl':¬(p.size:Int)≤(s.size:Int):=jo;have HB2:Hid (r=false):=zh (by rw[HB.out,zN hl,Bool.false_and]);go_enter func192,ntmps192;go_wp2;go_ret;exact⟨by rw[HB2.out];rfl,rfl⟩
theorem AX(TA:Option Addr)(n tc:Nat)(T:List (List UInt8))(p:ByteArray)(w:World)(hT:Reads w w.heap.size 2 TA n (cG (bR T)))(hn:T.length=n)(hn2:n≤1048576)(h32:∀x∈T,x.length≤1048576) :
  Calls prog 173 #[.slice TA n tc,.string p] w fun e w'=>e=.returned (.bool (T.any (bS · p)))∧w=w':=by
 have HT:=zh hT;have Hn:=zh hn;clear hT hn;go_enter func173,ntmps173;go_wp2
 go_loop [5] (fun i=>∃k:Nat,k≤n∧i=.int .i64 k∧(T.take k).any (bS · p)=false) (fun i=>n-(intOf i).toNat)
 case atStart=>exact⟨0,zS _,rfl,rfl⟩
 obtain⟨k,hk,rfl,hal⟩:=hrel;have Hal:=zh hal;clear hal;by_cases hlt:k<n
 ·obtain⟨tb,tq,rfl,htb,hc1,hc2⟩:=gQ HT.out Hn.out (k:=k) (by rw[Hn.out];exact hlt);have hkl:k<T.length:=by rw[Hn.out];exact hlt
  have hts:T.take (k+1)=T.take k ++ [T[k]]:=by rw[zL hkl]
  have c1:=Bs T[k] p w (h32 _ (za hkl));have hmem:T[k]∈T:=za hkl;clear hc2;by_cases hb:bS T[k] p=true
  ·have Fin:Hid (T.any (bS · p)=true):=zh (List.any_eq_true.2 ⟨_,hmem,hb⟩);rw[hb]at c1;clear hb hts hmem;generalize str T[k]=x at *;go_wp2_with fail;refine c1.mono ?_;rintro e w2 ⟨rfl,rfl⟩;go_wp2;go_ret;exact⟨by rw[Fin.out];rfl,rfl⟩
  have hb':bS T[k] p=false:=Bool.eq_false_iff.2 hb;have Hnx:Hid ((T.take (k+1)).any (bS · p)=false):=zh (by rw[hts,List.any_append,Hal.out];simp[hb']);rw[hb']at c1;clear hb hb' hts hmem;generalize str T[k]=x at *;go_wp2_with fail;refine c1.mono ?_;rintro e w2 ⟨rfl,rfl⟩;go_wp2
  go_round
  case rel=>exact⟨k+1,jo,ju,Hnx.out⟩
  simp[intOf];omega
 obtain rfl:k=n:=jo;have Fin:Hid (T.any (bS · p)=false):=zh (by have:=Hal.out;rwa[zR (by rw[Hn.out];exact zG _)]at this);go_wp2;go_ret;exact⟨by rw[Fin.out];rfl,rfl⟩
def dh(p:Nat→Bool)(n:Nat):Int:=match (List.range n).find? p with|some i=>(i:Int)|none=>-1
theorem pV(p:Nat→Bool)(n k:Nat)(hk:k<n)(h:∀j,j<k→p j=false)(hp:p k=true):dh p n=(k:Int):=by
 unfold dh
 have:(List.range n).find? p=some k:=by
  rw[List.find?_range_eq_some];exact⟨hp,by simpa using hk,fun j hj=>by simp[h j hj]⟩
 rw[this]
theorem qJ(p:Nat→Bool)(n:Nat)(h:∀j,j<n→p j=false):dh p n=-1:=by
 unfold dh
 have:(List.range n).find? p=none:=by
  rw[List.find?_eq_none];intro j hj;rw[h j (by simpa using hj)];decide
 rw[this]
theorem pW(p:Nat→Bool)(n:Nat):decide (0≤dh p n)=(List.range n).any p:=by
 unfold dh
 cases h:(List.range n).find? p with
 | none=>
  rw[List.find?_eq_none]at h;symm;simp only[Int.reduceNeg,Int.reduceLE,decide_false];rw[List.any_eq_false];exact h
 | some i=>
  have h1:=List.find?_some h;have h2:=List.mem_of_find?_eq_some h;have e:(List.range n).any p=true:=List.any_eq_true.2 ⟨i,h2,h1⟩;rw[e];simp
theorem FM(TA:Option Addr)(n tc:Nat)(T:List (List UInt8))(f:Nat)(lb:Array Value)(p:Nat→Bool)(w:World)(hcf:∀args wx,(callFunc f args).run prog wx=.ok (.enter f args) wx)(hT:Reads w w.heap.size 2 TA n (cG (bR T)))(hn:T.length=n)(hn2:n≤1048576)
  (hf:∀i (h:i<T.length) wx,zWW w wx→Calls prog f (#[.agg #[.string (str T[i]),.int .i64 (i:Int)]]++lb) wx fun e w'=>e=.returned (.bool (p i))∧zWW wx w') :
  Calls prog 179 #[.slice TA n tc,.func (.func f) #[] lb] w fun e w'=>e=.returned (.int .i64 (dh p n))∧zWW w w':=by
 have HT:=zh hT;have Hn:=zh hn;have Hf:=zh hf;clear hT hn hf;go_enter func179,ntmps179;go_wp2;go_loopw [8] (fun i wr=>∃k:Nat,k≤n∧i=.int .i64 k∧(∀j,j<k→p j=false)∧zWW w wr) (fun i _=>n-(intOf i).toNat)
 case atStart=>exact⟨0,zS _,rfl,fun j hj=>jo,zw _ _⟩
 obtain⟨k,hk,rfl,hal,hb⟩:=hrel;have Hal:=zh hal;have Hb:=zh hb;clear hal hb;by_cases hlt:k<n
 ·obtain⟨tb,tq,rfl,htb,hc1,hc2⟩:=gQ HT.out Hn.out (k:=k) (by rw[Hn.out];exact hlt);have hd1:=(Hb.out.cell (p:=⟨tb,tq+k*2,none⟩) htb).trans hc1;have hd2:=(Hb.out.cell (p:=⟨tb,tq+k*2+1,none⟩) htb).trans hc2;have c1:=Hf.out k (by rw[Hn.out];exact hlt) wr Hb.out
  have Hs:Hid (∀b,p k=b→(b=true→dh p n=(k:Int))∧(b=false→∀j,j<k+1→p j=false)):=zh (fun b hb=>⟨fun e=>pV p n k hlt Hal.out (by rw[hb,e]),fun e j hj=>by
   by_cases hjk:j=k
   ·rw[hjk,hb,e]
   exact Hal.out j jo⟩)
  clear hc1 hc2;generalize (str (T[k]'(by rw[Hn.out];exact hlt)))=x at *
  cases hp:p k with
  | true=>
   have Fin:=zh ((Hs.out _ hp).1 rfl);rw[hp]at c1;clear hp Hs;go_wp2_with fail;refine c1.mono ?_;rintro e w2 ⟨rfl,hb2⟩;have Hb2:=zt Hb hb2;clear hb2 c1;go_wp2;go_ret;exact⟨by rw[Fin.out];rfl,Hb2.out⟩
  | false=>
   have Hn2:=zh ((Hs.out _ hp).2 rfl);rw[hp]at c1;clear hp Hs;go_wp2_with fail;refine c1.mono ?_;rintro e w2 ⟨rfl,hb2⟩;have Hb2:=zt Hb hb2;clear hb2 c1;go_wp2;go_roundw
   case rel=>exact⟨k+1,jo,ju,Hn2.out,Hb2.out⟩
   simp[intOf];omega
 obtain rfl:k=n:=jo;have Fin:=zh (qJ p k Hal.out);go_wp2;go_ret;exact⟨by rw[Fin.out];rfl,Hb.out⟩
end Qy

namespace Qy
open Go.RowKit Ut Tk
theorem iQ {P : Program} {f : FuncId} {fn : Func} {c : Code} (hf : P.funcs[f]? = some fn) (hname : (fn.name == "runtime.NumGoroutine") = false) (hb : fn.body = some c) (args : Array Value) (w : World) :
  (callFunc f args).run P w=.ok (.enter f args) w:=by
 have h1 : fn.name ≠ "runtime.NumGoroutine" := by simpa using hname
 simp[callFunc,hf,h1,hb]
theorem Aw(TA:Option Addr)(n tc:Nat)(T:List (List UInt8))(f:Nat)(lb:Array Value)(p:Nat→Bool)(w:World)(hcf:∀args wx,(callFunc f args).run prog wx=.ok (.enter f args) wx)(hT:Reads w w.heap.size 2 TA n (cG (bR T)))(hn:T.length=n)(hn2:n≤1048576)
  (hf:∀i (h:i<T.length) wx,zWW w wx→Calls prog f (#[.agg #[.string (str T[i]),.int .i64 (i:Int)]]++lb) wx fun e w'=>e=.returned (.bool (p i))∧zWW wx w') :
  Calls prog 160 #[.slice TA n tc,.func (.func f) #[] lb] w fun e w'=>e=.returned (.bool ((List.range n).any p))∧zWW w w':=by
 have c1:=FM TA n tc T f lb p w hcf hT hn hn2 hf;have Fin:=zh (pW p n);clear hT hn hn2 hf hcf;generalize dh p n=z at *;go_enter func160,ntmps160;go_wp2_with fail;refine c1.mono ?_;rintro e w1 ⟨rfl,hb1⟩;have Hb1:=zh hb1;clear hb1 c1;go_wp2;go_ret;exact⟨by rw[←Fin.out];simp,Hb1.out⟩
theorem FN(TA:Option Addr)(n tc:Nat)(T:List (ByteArray × ByteArray))(f:Nat)(lb:Array Value)(p:Nat→Bool)(w:World)(hcf:∀args wx,(callFunc f args).run prog wx=.ok (.enter f args) wx)(hT:Reads w w.heap.size 2 TA n (aO T))(hn:T.length=n)(hn2:n≤8796093021952)
  (hf:∀i (h:i<T.length) wx,zWW w wx→Calls prog f (#[.agg #[.string T[i].1,.string T[i].2]]++lb) wx fun e w'=>e=.returned (.bool (p i))∧zWW wx w') :
  Calls prog 163 #[.slice TA n tc,.func (.func f) #[] lb] w fun e w'=>e=.returned (.int .i64 (dh p n))∧zWW w w':=by
 have HT:=zh hT;have Hn:=zh hn;have Hf:=zh hf;clear hT hn hf;go_enter func163,ntmps163;go_wp2;go_loopw [8] (fun i wr=>∃k:Nat,k≤n∧i=.int .i64 k∧(∀j,j<k→p j=false)∧zWW w wr) (fun i _=>n-(intOf i).toNat)
 case atStart=>exact⟨0,zS _,rfl,fun j hj=>jo,zw _ _⟩
 obtain⟨k,hk,rfl,hal,hb⟩:=hrel;have Hal:=zh hal;have Hb:=zh hb;clear hal hb;by_cases hlt:k<n
 ·obtain⟨tb,tq,rfl,htb,hc1,hc2⟩:=iB HT.out (k:=k) (by rw[Hn.out];exact hlt);have hd1:=(Hb.out.cell (p:=⟨tb,tq+k*2,none⟩) htb).trans hc1;have hd2:=(Hb.out.cell (p:=⟨tb,tq+k*2+1,none⟩) htb).trans hc2;have c1:=Hf.out k (by rw[Hn.out];exact hlt) wr Hb.out;clear hc1 hc2
  have Hs:Hid (∀b,p k=b→(b=true→dh p n=(k:Int))∧(b=false→∀j,j<k+1→p j=false)):=zh (fun b hb=>⟨fun e=>pV p n k hlt Hal.out (by rw[hb,e]),fun e j hj=>by
   by_cases hjk:j=k
   ·rw[hjk,hb,e]
   exact Hal.out j jo⟩)
  generalize (T[k]'(by rw[Hn.out];exact hlt))=x at *
  cases hp:p k with
  | true=>
   have Fin:=zh ((Hs.out _ hp).1 rfl);rw[hp]at c1;clear hp Hs;go_wp2_with fail;refine c1.mono ?_;rintro e w2 ⟨rfl,hb2⟩;have Hb2:=zt Hb hb2;clear hb2 c1;go_wp2;go_ret;exact⟨by rw[Fin.out];rfl,Hb2.out⟩
  | false=>
   have Hn2:=zh ((Hs.out _ hp).2 rfl);rw[hp]at c1;clear hp Hs;go_wp2_with fail;refine c1.mono ?_;rintro e w2 ⟨rfl,hb2⟩;have Hb2:=zt Hb hb2;clear hb2 c1;go_wp2;go_roundw
   case rel=>exact⟨k+1,jo,ju,Hn2.out,Hb2.out⟩
   simp[intOf];omega
 obtain rfl:k=n:=jo;have Fin:=zh (qJ p k Hal.out);go_wp2;go_ret;exact⟨by rw[Fin.out];rfl,Hb.out⟩
theorem Ay(TA:Option Addr)(n tc:Nat)(T:List (ByteArray × ByteArray))(f:Nat)(lb:Array Value)(p:Nat→Bool)(w:World)(hcf:∀args wx,(callFunc f args).run prog wx=.ok (.enter f args) wx)(hT:Reads w w.heap.size 2 TA n (aO T))(hn:T.length=n)(hn2:n≤8796093021952)
  (hf:∀i (h:i<T.length) wx,zWW w wx→Calls prog f (#[.agg #[.string T[i].1,.string T[i].2]]++lb) wx fun e w'=>e=.returned (.bool (p i))∧zWW wx w') :
  Calls prog 140 #[.slice TA n tc,.func (.func f) #[] lb] w fun e w'=>e=.returned (.bool ((List.range n).any p))∧zWW w w':=by
 have c1:=FN TA n tc T f lb p w hcf hT hn hn2 hf;have Fin:=zh (pW p n);clear hT hn hn2 hf hcf;generalize dh p n=z at *;go_enter func140,ntmps140;go_wp2_with fail;refine c1.mono ?_;rintro e w1 ⟨rfl,hb1⟩;have Hb1:=zh hb1;clear hb1 c1;go_wp2;go_ret;exact⟨by rw[←Fin.out];simp,Hb1.out⟩
theorem FO(TA:Option Addr)(n tc:Nat)(k0:Int)(nm0:ByteArray)(ws0:List ByteArray)(A0:Option Addr)(n0:Nat)(T:List Q)(f:Nat)(lb:Array Value)(p:Nat→Bool)(w:World)(hcf:∀args wx,(callFunc f args).run prog wx=.ok (.enter f args) wx)(hT:QIs w w.heap.size k0 nm0 ws0 T A0 n0 TA n)(hn:T.length=n)(hn2:n≤8796093021952)
  (hf:∀i (h:i<T.length) a0 a1 a2 a3 wx,QAt w w.heap.size T[i] [a0,a1,a2,a3]→zWW w wx→Calls prog f (#[.agg #[a0,a1,a2,a3]]++lb) wx fun e w'=>e=.returned (.bool (p i))∧zWW wx w') :
  Calls prog 143 #[.slice TA n tc,.func (.func f) #[] lb] w fun e w'=>e=.returned (.int .i64 (dh p n))∧zWW w w':=by
 have HT:=zh hT;have Hn:=zh hn;have Hf:=zh hf;clear hT hn hf;go_enter func143,ntmps143;go_wp2;go_loopw [8] (fun i wr=>∃k:Nat,k≤n∧i=.int .i64 k∧(∀j,j<k→p j=false)∧zWW w wr) (fun i _=>n-(intOf i).toNat)
 case atStart=>exact⟨0,zS _,rfl,fun j hj=>jo,zw _ _⟩
 obtain⟨k,hk,rfl,hal,hb⟩:=hrel;have Hal:=zh hal;have Hb:=zh hb;clear hal hb;by_cases hlt:k<n
 ·obtain⟨tb,tq,A',n',c',C',m',d',rfl,htb,hq,hc0,hc1,hc2,hc3⟩:=HT.out.at_ (i:=k) (by rw[Hn.out];exact hlt);have hd0:=(Hb.out.cell (p:=⟨tb,tq+k*4,none⟩) htb).trans hc0;have hd1:=(Hb.out.cell (p:=⟨tb,tq+k*4+1,none⟩) htb).trans hc1;have hd2:=(Hb.out.cell (p:=⟨tb,tq+k*4+2,none⟩) htb).trans hc2;have hd3:=(Hb.out.cell (p:=⟨tb,tq+k*4+3,none⟩) htb).trans hc3;have c1:=Hf.out k (by rw[Hn.out];exact hlt) _ _ _ _ wr hq Hb.out;clear hc0 hc1 hc2 hc3 hq
  have Hs:Hid (∀b,p k=b→(b=true→dh p n=(k:Int))∧(b=false→∀j,j<k+1→p j=false)):=zh (fun b hb=>⟨fun e=>pV p n k hlt Hal.out (by rw[hb,e]),fun e j hj=>by
   by_cases hjk:j=k
   ·rw[hjk,hb,e]
   exact Hal.out j jo⟩)
  generalize (T[k]'(by rw[Hn.out];exact hlt)).kind=x0 at *;generalize (T[k]'(by rw[Hn.out];exact hlt)).name=x1 at *
  cases hp:p k with
  | true=>
   have Fin:=zh ((Hs.out _ hp).1 rfl);rw[hp]at c1;clear hp Hs;go_wp2_with fail;refine c1.mono ?_;rintro e w2 ⟨rfl,hb2⟩;have Hb2:=zt Hb hb2;clear hb2 c1;go_wp2;go_ret;exact⟨by rw[Fin.out];rfl,Hb2.out⟩
  | false=>
   have Hn2:=zh ((Hs.out _ hp).2 rfl);rw[hp]at c1;clear hp Hs;go_wp2_with fail;refine c1.mono ?_;rintro e w2 ⟨rfl,hb2⟩;have Hb2:=zt Hb hb2;clear hb2 c1;go_wp2;go_roundw
   case rel=>exact⟨k+1,jo,ju,Hn2.out,Hb2.out⟩
   simp[intOf];omega
 obtain rfl:k=n:=jo;have Fin:=zh (qJ p k Hal.out);go_wp2;go_ret;exact⟨by rw[Fin.out];rfl,Hb.out⟩
theorem sI(TA:Option Addr)(n tc:Nat)(k0:Int)(nm0:ByteArray)(ws0:List ByteArray)(A0:Option Addr)(n0:Nat)(T:List Q)(f:Nat)(lb:Array Value)(p:Nat→Bool)(w:World)(hcf:∀args wx,(callFunc f args).run prog wx=.ok (.enter f args) wx)(hT:QIs w w.heap.size k0 nm0 ws0 T A0 n0 TA n)(hn:T.length=n)(hn2:n≤8796093021952)
  (hf:∀i (h:i<T.length) a0 a1 a2 a3 wx,QAt w w.heap.size T[i] [a0,a1,a2,a3]→zWW w wx→Calls prog f (#[.agg #[a0,a1,a2,a3]]++lb) wx fun e w'=>e=.returned (.bool (p i))∧zWW wx w') :
  Calls prog 114 #[.slice TA n tc,.func (.func f) #[] lb] w fun e w'=>e=.returned (.bool ((List.range n).any p))∧zWW w w':=by
 have c1:=FO TA n tc k0 nm0 ws0 A0 n0 T f lb p w hcf hT hn hn2 hf;have Fin:=zh (pW p n);clear hT hn hn2 hf hcf;generalize dh p n=z at *;go_enter func114,ntmps114;go_wp2_with fail;refine c1.mono ?_;rintro e w1 ⟨rfl,hb1⟩;have Hb1:=zh hb1;clear hb1 c1;go_wp2;go_ret;exact⟨by rw[←Fin.out];simp,Hb1.out⟩
end Qy
end Go.Proofs.YtmomjpolkkbhnaaGreat
