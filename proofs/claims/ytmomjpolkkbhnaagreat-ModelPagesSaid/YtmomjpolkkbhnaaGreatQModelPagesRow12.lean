/- event.Docs, loggiaref10.Docs: the walks. -/
import Derived.Deep.RegionHeld3
import Derived.Deep.RegionLaw
import Derived.Laws.ResultCell
import Derived.BigQuiet
import Derived.Lib.AppendStr
import Derived.Lib.SlBytesConst
import Derived.ArgAppend
import Derived.Laws.OwnMore
import Derived.Lib.SmallJoins
import Derived.Test.YtmomjpolkkbhnaaGreatQModelPagesRow1
import Derived.Test.YtmomjpolkkbhnaaGreatQModelPagesRow14
import Derived.Test.YtmomjpolkkbhnaaGreatQModelPagesRow0
set_option linter.unusedSimpArgs false
set_option linter.unusedVariables false
set_option maxRecDepth 100000
section
namespace Go.Proofs.YtmomjpolkkbhnaaGreat.Ev
open Go.RowKit Ut Tk Qy Qp
def DocsPost (w:World) (ds:List Dc) (e:Ending) (w':World):Prop:=∃ v,e=.returned v∧DOwn w' w.heap.size v ds∧Below w.heap.size w w'
set_option maxHeartbeats 6400000 in
theorem docs_any (seq:Int) (A:Option Addr) (n c:Nat) (l:List Evn) (w:World) (h:EvsAt w w.heap.size A n c l) (hok:chkB seq l=0) :
  Calls Tryz.prog 64 #[.agg #[.int .i64 seq,.slice A n c]] w (DocsPost w (mkD seq l)):=by
 obtain ⟨i0,hi0,hz0,hz1,hz2⟩:=info_parts doc_info
 have hl:=h.ln
 have hl1:l.length≤n:=by omega
 have hl2:n≤l.length:=by omega
 have hcap:=h.cap
 have hok':=chkB_ok hok
 have hn64:n≤64:=by have:=hok'.2.1; omega
 have hs1 : 1≤seq:=hok'.2.2.2.2.1
 have hs2:seq≤1099511627777:=by have:=hok'.2.2.2.2.2; omega
 have hB1:Below w.heap.size w (w.alloc (.cells #[.int .i64 seq,.slice A n c] 111)):=(Below.refl _ _).alloc (zG _) _
 have hF1:=h.grow hB1
 have hX:=(Blk.new w 111 #[.int .i64 seq,.slice A n c])
 have c1:=checkBatch_any seq A n c l _ hF1
 rw [hok] at c1
 have C1:=zh c1
 have OK:=zh hok'.2.2.1
 have H:=zh (And.intro hF1 (And.intro hX hB1))
 clear hl h hF1 hX hB1 c1 hok hok'
 go_enter Tryz.func64,Tryz.ntmps64
 go_wp2_with fail
 refine C1.out.mono ?_
 rintro e W0 ⟨rfl,hb0⟩
 have H0:Hid (EvsAt W0 W0.heap.size A n c l∧Blk W0 w.heap.size 111 #[.int .i64 seq,.slice A n c]∧Below w.heap.size w W0):=zh ⟨H.out.1.grow hb0,H.out.2.1.below hb0 H.out.2.1.lt,H.out.2.2.trans (hb0.mono H.out.2.2.size)⟩
 have e1:=H0.out.2.1.cell 1
 simp only [zA,zB,zC] at e1
 clear hb0 H C1
 go_wp2_with fail
 clear e1
 go_loopw [3,12] (fun v i wr=>∃ k:Nat,k≤l.length∧i=.int .i64 (k:Nat)∧Hid (DOwn wr W0.heap.size v (mkD seq (l.take k)))∧Hid (Below W0.heap.size W0 wr)) (fun _ i _=>l.length - (intOf i).toNat)
 case atStart=>exact ⟨0,Nat.zero_le _,rfl,zh (DOwn.start _ _),zh (Below.refl _ _)⟩
 case round =>
  obtain ⟨k,hk,rfl,hO,hB⟩:=hrel
  have hBlk:=H0.out.2.1.below hB.out H0.out.2.1.lt
  have d0:=hBlk.cell 0
  have d1:=hBlk.cell 1
  simp only [zA,zB,zC] at d0 d1
  have HBK:=zh hBlk
  clear hBlk
  have hBw:Hid (Below w.heap.size w wr):=zh (H0.out.2.2.trans (hB.out.mono H0.out.2.2.size))
  by_cases hlt:k<l.length
  ·have hkz:(k:Int)<(n:Int):=by omega
   have hk0:(0:Int)≤(k:Int):=by omega
   have hG:=H0.out.1.grow hB.out
   obtain ⟨b,o,F,fn,fc,rfl,hbb,ca,cf,hFl⟩:=hG.at_ hlt
   have hmk:=mkD_take seq l k hlt
   have hfew:=(chkE_ok (OK.out _ (List.getElem_mem hlt))).1
   have hlnk:(mkD seq (l.take k)).length=k:=by rw [mkD_len,List.length_take]; omega
   have hBx:Below wr.heap.size wr (wr.alloc (.cells #[.int .i64 l[k].1,.slice F fn fc] 46)):=(Below.refl _ wr).alloc (zG _) _
   have hx:=Blk.new wr 46 #[.int .i64 l[k].1,.slice F fn fc]
   have c2:=cloneF_any F fn fc l[k].2 _ (hFl.grow hBx).rd hFl.len (by have:=hFl.len; omega) hFl.nl
   have hfl:Hid (l[k].2.length=fn):=zh hFl.len
   have hf16:fn≤16:=by have:=hFl.len; omega
   generalize hev:l[k]=ev at *
   clear hev hG hFl
   obtain ⟨ta,fs⟩:=ev
   simp only at ca c2 hmk hfl hx hBx
   have HX:=zh (And.intro hx hBx)
   have HMK:=zh hmk
   have HLK:=zh hlnk
   have C2:=zh c2
   clear hx hBx hmk c2 hfew hlnk
   go_wp2_with fail
   generalize hw1:wr.alloc (.cells #[.int .i64 ta,.slice F fn fc] 46)=w1 at *
   clear hw1 ca cf
   refine C2.out.mono ?_
   rintro e w3 ⟨v3,rfl,hown3,hb3⟩
   obtain ⟨A3,q3,rfl,hR3,hnq3,hnl3,hg3⟩:=own_shape2 hown3
   have h7:=HX.out.1.below hb3 HX.out.1.lt
   have h7s:=h7.set_ 1 (.slice A3 fs.length q3)
   have h7c:=h7.cell 1
   have h7f:=h7.frozen 1
   have h7s0:=h7s.cell 0
   have h7s1:=h7s.cell 1
   simp at h7c h7s0 h7s1
   have hbt:=HBK.out.below (HX.out.2) HBK.out.lt |>.below hb3 (by have:=HBK.out.lt; have:=HX.out.2.size; omega)
   have t0:(w3.setCell ⟨wr.heap.size,1,none⟩ (.slice A3 fs.length q3)).cell? ⟨w.heap.size,0,none⟩=some (.int .i64 seq):=by
    have e:=hbt.cell 0
    simp only [zA,zB] at e
    have hlt:=HBK.out.lt
    exact (World.cell?_of_block (Below.heap_setCell _ _ _ _ (by show w.heap.size≠wr.heap.size; omega))).trans e
   have hlw:wr.heap.size<w3.heap.size:=by have:=h7.lt; exact this
   have hown6:(((w3.setCell ⟨wr.heap.size,1,none⟩ (.slice A3 fs.length q3)).alloc (.cells #[.int .i64 (seq+(k:Int)),.int .i64 ta,.slice A3 fs.length q3] 48))).ownsRow w1.heap.size 85 2 (.slice A3 fs.length q3) fs.length (fldC fs) :=
    (hown3.kept (grownBy_setC w3 wr.heap.size 1 _) (.inr (fun e=>by have:=(hown3.lt _ e).1; have:=HX.out.1.lt; omega))).alloc _
   have hbS:Below wr.heap.size wr ((w3.setCell ⟨wr.heap.size,1,none⟩ (.slice A3 fs.length q3)).alloc (.cells #[.int .i64 (seq+(k:Int)),.int .i64 ta,.slice A3 fs.length q3] 48)):=((HX.out.2.trans (hb3.mono HX.out.2.size)).setCell (p:=⟨wr.heap.size,1,none⟩) (zG _) _).alloc (by have:=HX.out.2.size; have:=hb3.size; simp; omega) _
   have hO6:=hO.out.below hbS
   obtain ⟨vss,g1,g2,g3⟩:=hO6.ex
   have hd6:DcS ((w3.setCell ⟨wr.heap.size,1,none⟩ (.slice A3 fs.length q3)).alloc (.cells #[.int .i64 (seq+(k:Int)),.int .i64 ta,.slice A3 fs.length q3] 48)) (Fd _ W0.heap.size) ⟨seq+(k:Int),ta,fs⟩ [.int .i64 (seq+(k:Int)),.int .i64 ta,.slice A3 fs.length q3] :=
    ⟨A3,_,q3,rfl,(ReadsS.of_own hown6).mono (fun b hb=>⟨by have:=hb.1; have:=hB.out.size; have:=HX.out.2.size; omega,tg_own hown6 hb.2.2⟩),rfl,by have:=hfl.out; omega,hnq3,hnl3⟩
   have Put:Hid (∀ v' w5,w5.ownsRow W0.heap.size 48 3 v' (k+1) (vss.flatten ++ [.int .i64 (seq+(k:Int)),.int .i64 ta,.slice A3 fs.length q3])→_→DOwn w5 W0.heap.size v' (mkD seq (l.take (k+1)))):=zh (fun v' w5 p1 p2=>by
    rw [HMK.out]
    exact DOwn.put ⟨vss,g1,g2,g3,rfl⟩ (by rw [HLK.out]; exact p1) p2 hd6)
   rw [HLK.out] at g2
   have G2:=zh g2
   have hzs:=hbS.size
   have hBS:=zh hbS
   have hw5:W0.heap.size≤wr.heap.size:=hB.out.size
   have hsq : 0≤seq+(k:Int):=by omega
   clear hown6 hbS hO6 g1 g2 g3 hd6 hown3 hR3 hnq3 hnl3 hg3 h7 h7s hbt C2 d0 d1
   go_wp2_with (at_builtin; refine wpList_append_own _ rfl _ _ 26 rfl W0.heap.size 48 i0 _ 3 40 Tryz.underlying26 hi0 hz0 hz1 hz2 rfl (by decide) _ _ _ rfl G2.out ⟨w3.heap.size,0,none⟩ 1 1 [.int .i64 (seq+(k:Int)),.int .i64 ta,.slice A3 fs.length q3] rfl rfl ?d1 ?d2 ?d3 ?d4 ?d5 ?_)
   case d1=>exact World.news_of_block (cs:=#[.int .i64 (seq+(k:Int)),.int .i64 ta,.slice A3 fs.length q3]) (t:=48) (fr:=(0,0)) (by have:=heap_alloc_new (w3.setCell ⟨wr.heap.size,1,none⟩ (.slice A3 fs.length q3)) (.cells #[.int .i64 (seq+(k:Int)),.int .i64 ta,.slice A3 fs.length q3] 48); simpa using this)
   case d2=>simp [Value.oneCell']
   case d3=>unfold maxLen; omega
   case d4=>omega
   case d5=>first | omega | (simp; omega)
   intro v' w5 hown5 hg5 _
   have Fin:=zh (Put.out v' w5 hown5 hg5)
   have hbF:Hid (Below W0.heap.size W0 w5):=zh ((hB.out.trans (hBS.out.mono hB.out.size)).grown hg5 (by omega) (fun j hj=>(G2.out.lt j hj).1))
   clear hown5 hg5
   go_wp2
   go_roundw
   case rel=>exact ⟨k+1,by omega,by go_num,Fin,hbF⟩
   case measure=>simp [intOf]; omega
  ·obtain rfl:k=l.length:=by omega
   have hkz:¬ (l.length:Int)<(n:Int):=by omega
   rw [List.take_length] at hO
   go_wp2
   go_ret
   exact ⟨_,rfl,hO.out.mono H0.out.2.2.size,hBw.out⟩
end Go.Proofs.YtmomjpolkkbhnaaGreat.Ev
end

section
namespace Go.Proofs.YtmomjpolkkbhnaaGreat.Md
open Go.RowKit Ut Tk Qy Qp Ev
structure Cf where
 size:Int
 age:Int
 retain:Int
 batch:Int
 buckets:Int
 bt:Bool
 bb:Bool
def Cf.v (c:Cf):Value:=.agg #[.int .i64 c.size,.int .i64 c.age,.int .i64 c.retain,.int .i64 c.batch,.int .i64 c.buckets,.bool c.bt,.bool c.bb]
def okC (c:Cf):Prop:=1≤c.size∧c.size≤262144∧1≤c.age∧0≤c.retain∧1≤c.batch∧c.batch≤64∧1≤c.buckets∧c.buckets≤10000
instance (c:Cf):Decidable (okC c):=by unfold okC; infer_instance
def I64 (n:Int):Prop:=-9223372036854775808≤n∧n≤9223372036854775807
structure M where
 c:Cf
 ds:List Dc
 floor:Int
 now:Int
 acked:Int
def mdC (m:M) (v:Value):Array Value:=#[.int .i64 m.c.size,.int .i64 m.c.age,.int .i64 m.c.retain,.int .i64 m.c.batch,.int .i64 m.c.buckets,.bool m.c.bt,.bool m.c.bb,v,.int .i64 m.floor,.int .i64 m.now,.int .i64 m.acked,.bool true]
structure Ok (m:M):Prop where
 c:okC m.c
 ret:m.c.retain≤9223372036854775807
 doc:∀ i (h:i<m.ds.length),chkE m.ds[i].fs=0∧m.ds[i].seq=(i:Int)+1∧I64 m.ds[i].at_
 fl:I64 m.floor
 nw:I64 m.now
 ak : 0≤m.acked∧m.acked≤(m.ds.length:Nat)
structure At (w:World) (n0 X K:Nat) (v:Value) (m:M):Prop where
 blk:Blk w X 81 (mdC m v)
 own:DOwn w n0 v m.ds
 n0:n0≤w.heap.size
 ok:Ok m
 few:m.ds.length≤K
theorem At.below {w w':World} {n0 X K:Nat} {v:Value} {m:M} (h:At w n0 X K v m) (hb:Below w.heap.size w w'):At w' n0 X K v m:=⟨h.blk.below hb h.blk.lt,h.own.below hb,Nat.le_trans h.n0 hb.size,h.ok,h.few⟩
theorem At.more {w:World} {n0 X K K':Nat} {v:Value} {m:M} (h:At w n0 X K v m) (hK:K≤K'):At w n0 X K' v m:=⟨h.blk,h.own,h.n0,h.ok,Nat.le_trans h.few hK⟩
abbrev rsC (e seq fl:Int) (d b c:Value) (ev nx nw ak:Int):Array Value:=#[.int .i64 e,.int .i64 seq,.int .i64 fl,d,b,c,.int .i64 ev,.int .i64 nx,.int .i64 nw,.int .i64 ak]
abbrev nil:Value:=.slice none 0 0
abbrev bad (e:Int):Value:=.agg (rsC e 0 0 nil nil nil 0 0 0 0)
set_option maxHeartbeats 800000 in
theorem fails_any (e:Int) (w:World):Calls Tryz.prog 27 #[.int .i64 e] w fun r w'=>r=.returned (bad e)∧Below w.heap.size w w':=by
 have hb:Below w.heap.size w (w.alloc (.cells (rsC e 0 0 nil nil nil 0 0 0 0) 42)):=(Below.refl _ _).alloc (zG _) _
 have hh:=Blk.new w 42 (rsC e 0 0 nil nil nil 0 0 0 0)
 have H:=zh (And.intro hh hb)
 clear hh hb
 go_enter Tryz.func27,Tryz.ntmps27
 go_wp2_with fail
 refine bodyPost_ret (results_cell rfl rfl (run_loadVar_row _ w.heap.size 42 42 (rsC e 0 0 nil nil nil 0 0 0 0) (0,0) _ H.out.1 Tryz.underlying42 rfl (by kernel_rfl))) rfl ⟨rfl,H.out.2⟩
def limB (n:Int):Bool:=decide (1≤n) && decide (n≤10000)
theorem limited_any (n:Int) (w:World):Calls Tryz.prog 66 #[.int .i64 n] w fun r w'=>r=.returned (.bool (limB n))∧w=w':=by
 have e:limB n=(decide (1≤n) && decide (n≤10000)):=rfl
 rw [e]
 clear e
 by_cases h1 : 1≤n
 ·by_cases h2:n≤10000
  ·rw [decide_eq_true h1,decide_eq_true h2]
   go_enter Tryz.func66,Tryz.ntmps66
   go_wp2
   go_ret
   exact ⟨rfl,rfl⟩
  ·rw [decide_eq_true h1,decide_eq_false h2]
   go_enter Tryz.func66,Tryz.ntmps66
   go_wp2
   go_ret
   exact ⟨rfl,rfl⟩
 ·rw [decide_eq_false h1]
  go_enter Tryz.func66,Tryz.ntmps66
  go_wp2
  go_ret
  exact ⟨rfl,rfl⟩
theorem none_any {w:World} {X:Nat} {m:M} {v:Value} (h:Blk w X 81 (mdC m v)):Calls Tryz.prog 26 #[.pointer (some ⟨X,0,none⟩)] w fun e w'=>e=.returned (.bool false)∧w=w':=by
 have h11:=h.cell 11
 simp only [mdC,zA,zB,zC] at h11
 clear h
 go_enter Tryz.func26,Tryz.ntmps26
 go_wp2
 go_ret
 exact ⟨rfl,rfl⟩
theorem own_same {w w':World} {base k n:Nat} {T:TypeId} {v:Value} {xs:List Value} (h:w.ownsRow base T k v n xs) (hk:∀ b,v.ownBlock=some b→w'.heap[b]?=w.heap[b]?):w'.ownsRow base T k v n xs :=
 ⟨h.1,h.2.elim .inl (fun ⟨g,cap,cur,hv,hg,hh,r⟩=>.inr ⟨g,cap,cur,hv,hg,(hk g (by rw [hv]; rfl)).trans hh,r⟩)⟩
theorem tg_blk {w:World} {T:TypeId} {b:Nat} {cs:Array Value} (h:Blk w b T cs):Tg w T b:=⟨_,_,h⟩
def CopPost (w:World) (d:Dc) (e:Ending) (w':World):Prop:=∃ A c,e=.returned (.agg #[.int .i64 d.seq,.int .i64 d.at_,.slice A d.fs.length c])∧d.fs.length≤c∧(A=none→c=0)∧w'.ownsRow w.heap.size 85 2 (.slice A d.fs.length c) d.fs.length (fldC d.fs)∧Below w.heap.size w w'
set_option maxHeartbeats 800000 in
theorem copied_any (d:Dc) (Fa:Option Addr) (fn fc:Nat) (w:World) (hF:Reads w w.heap.size 2 Fa fn (fldC d.fs)) (hl:d.fs.length=fn) (hn:fn≤1048576) (hnil:Fa=none→fc=0) :
  Calls Tryz.prog 57 #[.agg #[.int .i64 d.seq,.int .i64 d.at_,.slice Fa fn fc]] w (CopPost w d):=by
 subst hl
 obtain ⟨i0,hi0,hz0,hz1,hz2⟩:=info_parts Ev.doc_info
 have hB1:Below w.heap.size w ((w.alloc (.cells #[.int .i64 d.seq,.int .i64 d.at_,.slice Fa d.fs.length fc] 48)).alloc (.cells #[.int .i64 0,.int .i64 0,.slice none 0 0] 48)):=((Below.refl _ _).alloc (zG _) _).alloc (by simp) _
 have hX:=(Blk.new w 48 #[.int .i64 d.seq,.int .i64 d.at_,.slice Fa d.fs.length fc]).alloc (.cells #[.int .i64 0,.int .i64 0,.slice none 0 0] 48)
 have hR:=Blk.new (w.alloc (.cells #[.int .i64 d.seq,.int .i64 d.at_,.slice Fa d.fs.length fc] 48)) 48 #[.int .i64 0,.int .i64 0,.slice none 0 0]
 rw [World.size_alloc] at hR
 have c1:=cloneF_any Fa d.fs.length fc d.fs _ ((hF.below hB1).more hB1.size) rfl hn hnil
 have C1:=zh c1
 have H:=zh (And.intro hX (And.intro hR hB1))
 have x2:=hX.cell 2
 simp only [zA,zB,zC] at x2
 clear c1 hX hR hB1
 go_enter Tryz.func57,Tryz.ntmps57
 go_wp2_with fail
 refine C1.out.mono ?_
 rintro e w3 ⟨v3,rfl,hown,hb⟩
 obtain ⟨A3,q3,rfl,hR3,hnq3,hnl3,hg3⟩:=Ev.own_shape2 hown
 have hX3:=H.out.1.below hb H.out.1.lt
 have hR3':=H.out.2.1.below hb H.out.2.1.lt
 have y0:=hX3.cell 0
 have y1:=hX3.cell 1
 have y2:=hX3.cell 2
 have y2f:=hX3.frozen 2
 have z0:=hR3'.cell 0
 simp only [zA,zB,zC] at y0 y1 y2 z0
 clear x2
 go_upto_region 2 with fail
 have hX4:=hX3.set_ 2 (.slice A3 d.fs.length q3)
 have hR4:Blk (w3.setCell ⟨w.heap.size,2,none⟩ (.slice A3 d.fs.length q3)) (w.heap.size+1) 48 #[.int .i64 0,.int .i64 0,.slice none 0 0]:=hR3'.far (by show w.heap.size+1≠w.heap.size; omega) _
 have hown4:(w3.setCell ⟨w.heap.size,2,none⟩ (.slice A3 d.fs.length q3)).ownsRow w.heap.size 85 2 (.slice A3 d.fs.length q3) d.fs.length (fldC d.fs):=own_mono (hown.kept (Ev.grownBy_setC w3 w.heap.size 2 _) (.inr (fun e=>by have:=(hown.lt _ e).1; have:=H.out.1.lt; omega))) H.out.2.2.size
 have hb4:Below w.heap.size w (w3.setCell ⟨w.heap.size,2,none⟩ (.slice A3 d.fs.length q3)):=(H.out.2.2.trans (hb.mono H.out.2.2.size)).setCell (p:=⟨w.heap.size,2,none⟩) (zG _) _
 generalize (w3.setCell ⟨w.heap.size,2,none⟩ (.slice A3 d.fs.length q3))=w4 at *
 clear y0 y1 y2 y2f z0
 have y0:=hX4.cell 0
 have y1:=hX4.cell 1
 have y2:=hX4.cell 2
 have z0:=hR4.cell 0
 have z1:=hR4.cell 1
 have z2:=hR4.cell 2
 have z0f:=hR4.frozen 0
 have z1f:=hR4.frozen 1
 have z2f:=hR4.frozen 2
 simp at y0 y1 y2 z0 z1 z2
 have HR4:=zh hR4
 have HO4:=zh hown4
 have HB4:=zh hb4
 clear hX4 hR4 hown4 hb4 hX3 hR3' hown hb hR3 hg3 C1 H hF
 go_wp2_with fail
 have hh:Blk (((w4.setCell ⟨w.heap.size+1,0,none⟩ (.int .i64 d.seq)).setCell ⟨w.heap.size+1,1,none⟩ (.int .i64 d.at_)).setCell ⟨w.heap.size+1,2,none⟩ (.slice A3 d.fs.length q3)) (w.heap.size+1) 48 #[.int .i64 d.seq,.int .i64 d.at_,.slice A3 d.fs.length q3]:=by
  have:=((HR4.out.set_ 0 (.int .i64 d.seq)).set_ 1 (.int .i64 d.at_)).set_ 2 (.slice A3 d.fs.length q3)
  simpa using this
 refine bodyPost_ret (results_cell rfl rfl (run_loadVar_row _ (w.heap.size+1) 48 48 #[.int .i64 d.seq,.int .i64 d.at_,.slice A3 d.fs.length q3] (0,0) _ hh Tryz.underlying48 rfl (by kernel_rfl))) rfl ⟨A3,q3,rfl,hnq3,hnl3,own_same HO4.out (fun b hb=>?_),((HB4.out.setCell (p:=⟨w.heap.size+1,0,none⟩) (Nat.le_succ _) _).setCell (p:=⟨w.heap.size+1,1,none⟩) (Nat.le_succ _) _).setCell (p:=⟨w.heap.size+1,2,none⟩) (Nat.le_succ _) _⟩
 have hne:b≠w.heap.size+1:=fun e=>by
  subst e
  exact absurd ((tg_own HO4.out hb).one (tg_blk HR4.out)) (by decide)
 exact ((Below.heap_setCell _ ⟨w.heap.size+1,2,none⟩ _ b hne).trans (Below.heap_setCell _ ⟨w.heap.size+1,1,none⟩ _ b hne)).trans (Below.heap_setCell _ ⟨w.heap.size+1,0,none⟩ _ b hne)
end Go.Proofs.YtmomjpolkkbhnaaGreat.Md
end

section
namespace Go.Proofs.YtmomjpolkkbhnaaGreat.Cu
open Go.RowKit Cr Qp Qy
structure BytesTo (w:World) (L:List UInt8) (E:Int) (e:Ending) (w':World):Prop where
 ex:∃ v,e=.returned (.tuple #[v,.int .i64 E])∧w'.ownsRow w.heap.size 5 1 v L.length (bv L)
 bel:Below w.heap.size w w'
structure Enc (w wr:World) (a:Int) (q:ByteArray) (v:Value) (M:List UInt8):Prop where
 box:Blk wr w.heap.size 122 #[.int .i64 a,.string q]
 own:wr.ownsRow (w.heap.size+1) 5 1 v M.length (bv M)
 bel:Below w.heap.size w wr
theorem Enc.alloc {w wr:World} {a:Int} {q:ByteArray} {v:Value} {M:List UInt8} (h:Enc w wr a q v M) (o:Obj):Enc w (wr.alloc o) a q v M :=
 ⟨h.box.alloc o,h.own.alloc o,h.bel.alloc h.bel.size o⟩
theorem Enc.below {w wr w2:World} {a:Int} {q:ByteArray} {v:Value} {M:List UInt8} (h:Enc w wr a q v M) (hb:Below wr.heap.size wr w2):Enc w w2 a q v M :=
 ⟨h.box.below hb h.box.lt,h.own.kept (grow_of_below hb none) (by cases v.ownBlock <;> simp),h.bel.trans (hb.mono h.bel.size)⟩
theorem Enc.put {w wr w2:World} {a:Int} {q:ByteArray} {v v':Value} {M N:List UInt8} {n:Nat} (h:Enc w wr a q v M) (hn:N.length=n) (hown:w2.ownsRow (w.heap.size+1) 5 1 v' (M.length+n) (bv M ++ bv N)) (hg:wr.grownBy w2 v.ownBlock):Enc w w2 a q v' (M ++ N):=by
 subst hn
 refine ⟨h.box.grown hg (fun e=>?_),?_,h.bel.grown hg h.bel.size (fun b e=>?_)⟩
 ·have:=(h.own.lt _ e.symm).1; omega
 ·rw [List.length_append,bv_app]; exact hown
 ·have:=(h.own.lt _ e).1; omega
structure Lit3 (w wr:World) (a:Int) (q:ByteArray) (v:Value):Prop where
 box:Blk wr w.heap.size 122 #[.int .i64 a,.string q]
 ex:∃ g,v=.slice (some ⟨g,0,none⟩) 3 3∧∀ j u,(bv [76,67,1])[j]?=some u→wr.cell? ⟨g,j,none⟩=some u
 bel:Below w.heap.size w wr
theorem Lit3.alloc {w wr:World} {a:Int} {q:ByteArray} {v:Value} (h:Lit3 w wr a q v) (o:Obj):Lit3 w (wr.alloc o) a q v:=by
 obtain ⟨hb,⟨g,e,hc⟩,hl⟩:=h
 exact ⟨hb.alloc o,⟨g,e,fun j u hu=>Lib.cell?_alloc_marked o (hc j u hu)⟩,hl.alloc hl.size o⟩
theorem Lit3.put {w wr w2:World} {a:Int} {q:ByteArray} {v v':Value} {N:List UInt8} {n base:Nat} (h:Lit3 w wr a q v) (hn:N.length=n) (hb:w.heap.size+1≤base) (hown:w2.ownsRow base 5 1 v' (3+n) (bv [76,67,1] ++ bv N)) (hg:wr.grownBy w2 none):Enc w w2 a q v' ([76,67,1] ++ N):=by
 subst hn
 refine ⟨h.box.grown hg (by simp),?_,h.bel.grown hg h.bel.size (fun b e=>by cases e)⟩
 rw [List.length_append,bv_app]
 exact Joins.ownsRow_le hown hb
theorem u8_info:(Tryz.prog.info? 5).map (fun i=>(i.zero,i.size,i.bytes))=some (some (.int .u8 0),1,1):=by kernel_rfl
theorem be2 (n:Nat):be 2 n=[UInt8.ofNat (n / 256),UInt8.ofNat n]:=by simp [be,List.range,List.range.loop]
theorem le4_snoc (n k:Nat) (h:k<4):(le4 n).take (k+1)=(le4 n).take k ++ [UInt8.ofNat (n / 2 ^ (8 * k))]:=by
 match k,h with
 | 0,_=>simp [le4]
 | 1,_=>rfl
 | 2,_=>rfl
 | 3,_=>rfl
theorem byte_of (n m:Nat):(n:Int) / 2 ^ m % 256=((UInt8.ofNat (n / 2 ^ m)).toNat:Int):=by
 rw [u8n,Int.natCast_emod,Int.natCast_ediv,Int.natCast_pow]; rfl
theorem byte_256 (n:Nat):(n:Int) / 256 % 256=((UInt8.ofNat (n / 256)).toNat:Int):=by
 rw [u8n]; omega
theorem byte_1 (n:Nat):(n:Int) % 256=((UInt8.ofNat n).toNat:Int):=by
 rw [u8n]; omega
set_option maxHeartbeats 6400000 in
theorem encode_yes (a:Nat) (q:ByteArray) (w:World) (h:IsC (a:Int) q):Calls Tryz.prog 69 #[.agg #[.int .i64 (a:Int),.string q]] w (BytesTo w (enc a q.data.toList) 0):=by
 obtain ⟨i0,hi0,hz0,hz1,hz2⟩:=info_parts u8_info
 have hb0:=(Below.refl w.heap.size w).alloc (zG _) (.cells #[.int .i64 (a:Int),.string q] 122)
 have hB0:=Blk.new w 122 #[.int .i64 (a:Int),.string q]
 have hz0':(w.alloc (.cells #[.int .i64 (a:Int),.string q] 122)).heap.size=w.heap.size+1:=by simp
 have c1:=may_any (a:Int) q (w.alloc (.cells #[.int .i64 (a:Int),.string q] 122))
 rw [mayB_yes h] at c1
 have hq:=h.short
 have ha:(a:Int)≤1099511627776:=h.2.1
 have Hb0:=zh hb0
 have HB0:=zh hB0
 have Hz0:=zh hz0'
 clear hb0 hB0 hz0' h
 go_enter Tryz.func69,Tryz.ntmps69
 go_wp2_with fail
 refine c1.mono ?_
 rintro e w1 ⟨rfl,hb1⟩
 have hsz1:w.heap.size+1≤w1.heap.size:=by have:=hb1.size; have:=Hz0.out; omega
 have hL1:Lit3 w (w1.alloc (.cells #[.int .u8 76,.int .u8 67,.int .u8 1] 5 (3,4))) (a:Int) q (.slice (some ⟨w1.heap.size,0,none⟩) 3 3):=by
  refine ⟨(HB0.out.below hb1 (by rw [Hz0.out]; omega)).alloc _,⟨_,rfl,fun j u hu=>?_⟩,(Hb0.out.trans (hb1.mono (by rw [Hz0.out]; omega))).alloc (by omega) _⟩
  rw [World.cell?_alloc_mark]
  rw [← hu]
  simp [bv]
 have kc:=fun (w:World) (C:Array Value) (n c:Nat)=>Lib.run_convert_bytes_const (P:=Tryz.prog) w 30 5 C n c Tryz.underlying30 Tryz.underlying5
 have HL1:=zh hL1
 clear c1 hb1 HB0 Hb0 Hz0 hL1
 go_wp2_with fail
 clear kc
 generalize hw2:w1.alloc (.cells #[.int .u8 76,.int .u8 67,.int .u8 1] 5 (3,4))=w2 at *
 clear hw2
 go_loopw [4,5] (fun v i wr=>∃ k:Nat,k≤8∧i=.int .i64 (7 - (k:Int))∧((k=0∧Lit3 w wr (a:Int) q v)∨(0<k∧Enc w wr (a:Int) q v ([76,67,1] ++ (be 8 a).take k)))) (fun _ i _=>(intOf i+1).toNat)
 case atStart=>exact ⟨0,by omega,rfl,.inl ⟨rfl,HL1.out⟩⟩
 case round =>
  obtain ⟨k,hk,rfl,hE⟩:=hrel
  by_cases hlt:k<8
  ·have hi0':(0:Int)≤7 - (k:Int):=by omega
   have hby:=byte_of a (8 * (7 - k))
   have Hs:Hid ((be 8 a).take (k+1)=(be 8 a).take k ++ [UInt8.ofNat (a / 2 ^ (8 * (7 - k)))]):=zh (be_snoc 8 a k hlt)
   generalize UInt8.ofNat (a / 2 ^ (8 * (7 - k)))=x at *
   rcases hE with ⟨rfl,hE⟩ | ⟨hk0,hE⟩
   ·have hc0:=hE.box.cell 0
    have hc1:=hE.box.cell 1
    have hbl:=hE.box.lt
    have HE:=zh hE
    obtain ⟨g,rfl,_⟩:=hE.ex
    simp at hc0 hc1
    simp at hby
    have hby':(a:Int) / 72057594037927936=(x.toNat:Int):=by omega
    clear hby
    clear hE
    go_wp2_with (at_builtin; refine wpList_append_grows _ rfl _ _ 30 rfl 5 i0 _ 1 1 Tryz.underlying30 hi0 hz0 hz1 hz2 rfl (by decide) _ 3 3 (bv [76,67,1]) rfl (fun h=>by cases h) rfl ?h1 ⟨wr.heap.size,0,none⟩ 1 1 [.int .u8 (x.toNat:Int)] rfl rfl ?d1 ?d2 ?d6 ?d3 ?d4 ?_)
    case h1 =>
     intro b hb j u hu
     obtain ⟨g',e',hc'⟩:=(HE.out.alloc (.cells #[.int .u8 (x.toNat:Int)] 5)).ex
     injection hb with hb
     injection e' with e' _ _
     injection e' with e'
     injection e' with e'
     subst hb
     rw [Addr.add_lit,Nat.zero_add,e']
     exact hc' j u hu
    case d1=>exact World.news_of_block (cs:=#[.int .u8 (x.toNat:Int)]) (t:=5) (fr:=(0,0)) (heap_alloc_new wr _)
    case d2=>intro u hu; simp at hu; subst hu; rfl
    case d6=>omega
    case d3=>unfold maxLen; omega
    case d4=>omega
    intro v' w5 hown5 hg5
    have Fin:=zh ((HE.out.alloc (.cells #[.int .u8 (x.toNat:Int)] 5)).put (N:=[x]) rfl (by omega) hown5 hg5)
    clear hown5 hg5
    go_wp2
    go_roundw
    case rel=>exact ⟨1,by omega,by rfl,.inr ⟨by omega,by have:=Hs.out; simp at this; rw [this]; exact Fin.out⟩⟩
    case measure=>simp [intOf]
   ·have hc0:=hE.box.cell 0
    have hc1:=hE.box.cell 1
    have hbl:=hE.box.lt
    have HE:=zh hE
    simp at hc0 hc1
    have hln:([76,67,1] ++ (be 8 a).take k:List UInt8).length≤11:=by
     rw [List.length_append,List.length_take,be_len]; simp; omega
    have Happ:Hid ([76,67,1] ++ (be 8 a).take (k+1)=([76,67,1] ++ (be 8 a).take k) ++ [x]):=zh (by rw [Hs.out,List.append_assoc])
    obtain ⟨A4,c4,rfl,_⟩:=own_shape hE.own
    clear hE
    generalize ([76,67,1] ++ (be 8 a).take k:List UInt8)=M at *
    have Hln:=zh hln
    clear hln
    go_wp2_with (at_builtin; refine wpList_append_own _ rfl _ _ 30 rfl (w.heap.size+1) 5 i0 _ 1 1 Tryz.underlying30 hi0 hz0 hz1 hz2 rfl (by decide) _ _ _ rfl (HE.out.alloc (.cells #[.int .u8 (x.toNat:Int)] 5)).own ⟨wr.heap.size,0,none⟩ 1 1 [.int .u8 (x.toNat:Int)] rfl rfl ?d1 ?d2 ?d3 ?d4 ?d5 ?_)
    case d1=>exact World.news_of_block (cs:=#[.int .u8 (x.toNat:Int)]) (t:=5) (fr:=(0,0)) (heap_alloc_new wr _)
    case d2=>intro u hu; simp at hu; subst hu; rfl
    case d3=>unfold maxLen; have:=Hln.out; omega
    case d4=>have:=Hln.out; omega
    case d5=>have:=HE.out.box.lt; simp; omega
    intro v' w5 hown5 hg5 _
    have Fin:=zh ((HE.out.alloc (.cells #[.int .u8 (x.toNat:Int)] 5)).put (N:=[x]) rfl hown5 hg5)
    clear hown5 hg5
    go_wp2
    go_roundw
    case rel=>exact ⟨k+1,by omega,by congr 1; omega,.inr ⟨by omega,by rw [Happ.out]; exact Fin.out⟩⟩
    case measure=>simp [intOf]; omega
  ·have hneg : 7 - (k:Int)<0:=by omega
   have hE2:Enc w wr (a:Int) q u4 ([76,67,1] ++ be 8 a):=by
    rcases hE with ⟨rfl,hE⟩ | ⟨hk0,hE⟩
    ·omega
    ·rw [List.take_of_length_le (by rw [be_len]; omega)] at hE
     exact hE
   have HE:=zh hE2
   have hc0:=hE2.box.cell 0
   have hc1:=hE2.box.cell 1
   have hbl:=hE2.box.lt
   simp at hc0 hc1
   have hln:([76,67,1] ++ be 8 a:List UInt8).length=11:=by rw [List.length_append,be_len]; rfl
   obtain ⟨A4,c4,rfl,_⟩:=own_shape hE2.own
   have hy1:(q.size:Int) / 256=((UInt8.ofNat (q.size / 256)).toNat:Int):=by have:=byte_256 q.size; omega
   have hy2:=byte_1 q.size
   have hpre:pre a q.data.toList=([76,67,1] ++ be 8 a) ++ [UInt8.ofNat (q.size / 256),UInt8.ofNat q.size] ++ q.data.toList:=by
    unfold pre; rw [bsize,be2]
   have Hpre:=zh hpre
   have Henc:Hid (enc a q.data.toList=pre a q.data.toList ++ le4 (crc (pre a q.data.toList))):=zh rfl
   clear hE hE2 hpre
   generalize UInt8.ofNat (q.size / 256)=x1 at *
   generalize UInt8.ofNat q.size=x2 at *
   generalize ([76,67,1] ++ be 8 a:List UInt8)=M at *
   have Hln:=zh hln
   clear hln
   go_wp2_with (at_builtin; refine wpList_append_own _ rfl _ _ 30 rfl (w.heap.size+1) 5 i0 _ 1 1 Tryz.underlying30 hi0 hz0 hz1 hz2 rfl (by decide) _ _ _ rfl (HE.out.alloc (.cells #[.int .u8 (x1.toNat:Int),.int .u8 (x2.toNat:Int)] 5)).own ⟨wr.heap.size,0,none⟩ 2 2 [.int .u8 (x1.toNat:Int),.int .u8 (x2.toNat:Int)] rfl rfl ?d1 ?d2 ?d3 ?d4 ?d5 ?_)
   case d1=>exact World.news_of_block (cs:=#[.int .u8 (x1.toNat:Int),.int .u8 (x2.toNat:Int)]) (t:=5) (fr:=(0,0)) (heap_alloc_new wr _)
   case d2=>intro u hu; simp at hu; rcases hu with rfl | rfl <;> rfl
   case d3=>unfold maxLen; have:=Hln.out; omega
   case d4=>have:=Hln.out; omega
   case d5=>have:=HE.out.box.lt; simp; omega
   intro v' w5 hown5 hg5 _
   have H6:=zh ((HE.out.alloc (.cells #[.int .u8 (x1.toNat:Int),.int .u8 (x2.toNat:Int)] 5)).put (N:=[x1,x2]) rfl hown5 hg5)
   clear hown5 hg5
   have hd0:=H6.out.box.cell 0
   have hd1:=H6.out.box.cell 1
   have hbl5:=H6.out.box.lt
   simp at hd0 hd1
   have hln6:(M ++ [x1,x2]).length=13:=by rw [List.length_append,Hln.out]; rfl
   obtain ⟨A6,c6,rfl,_⟩:=own_shape H6.out.own
   generalize (M ++ [x1,x2])=M6 at *
   have Hln6:=zh hln6
   clear hc0 hc1 HE hln6 hy1 hy2
   go_wp2_with (at_builtin; refine Lib.wpList_append_own_string _ rfl _ _ 30 9 rfl (w.heap.size+1) 5 i0 Tryz.underlying30 Tryz.underlying9 hi0 hz0 hz1 hz2 _ _ _ rfl H6.out.own q rfl ?d3 ?d4 ?d5 ?_)
   case d3=>unfold maxLen; have:=Hln6.out; omega
   case d4=>have:=Hln6.out; omega
   case d5=>omega
   intro v7 w7 hown7 hg7 _
   have H7:=zh (H6.out.put (N:=q.data.toList) (bsize q) hown7 hg7)
   clear hown7 hg7
   rw [← Hpre.out] at H7
   have hlp:(pre a q.data.toList).length≤1037:=by rw [pre_len,bsize]; omega
   generalize pre a q.data.toList=L at *
   have Hlp:=zh hlp
   obtain ⟨A7,c7,rfl,hR7⟩:=own_shape H7.out.own
   have hbl7:=H7.out.box.lt
   have H8:=zh (H7.out.alloc (.cells #[.slice A7 L.length c7] 30))
   have Hp:=zh (Blk.new w7 30 #[.slice A7 L.length c7])
   have Hz7:Hid ((w7.alloc (.cells #[.slice A7 L.length c7] 30)).heap.size=w7.heap.size+1):=zh (by simp)
   have hb8:=(Below.refl w7.heap.size w7).alloc (zG _) (.cells #[.slice A7 L.length c7] 30)
   have HR8:=zh ((hR7.below hb8).more hb8.size)
   clear hR7 H7 H6 hd0 hd1 hlp hb8
   go_wp2_with fail
   generalize hw8:w7.alloc (.cells #[.slice A7 L.length c7] 30)=w8 at *
   clear hw8
   have c9:=sum_any w7.heap.size A7 L.length c7 1 L w8 (Hp.out.cell 0) (by rw [Hz7.out]; omega) HR8.out (by have:=Hlp.out; omega)
   refine c9.mono ?_
   rintro e w9 ⟨rfl,hb9⟩
   have H9:=zh (H8.out.below hb9)
   have hs32:=crc_lt L
   clear c9 hb9 H8 HR8 Hp Hz7
   generalize hcs:crc L=s at *
   have Hcs:=zh hcs
   clear hcs
   have hs0:(0:Int)≤(s:Int):=by omega
   have Hs32:=zh hs32
   clear hs32
   go_wp2_with fail
   go_loopw [4,45] (fun v i wr=>∃ k:Nat,k≤4∧i=.int .i64 (k:Int)∧Enc w wr (a:Int) q v (L ++ (le4 s).take k)) (fun _ i _=>4 - (intOf i).toNat)
   case atStart=>exact ⟨0,by omega,rfl,by simpa using H9.out⟩
   case round =>
    obtain ⟨j,hj,rfl,hE⟩:=hrel
    have HE:=zh hE
    have hbl9:=hE.box.lt
    obtain ⟨A4,c4,rfl,_⟩:=own_shape hE.own
    clear hE
    by_cases hlt:j<4
    ·have hby:=byte_of s (8 * j)
     have hln:(L ++ (le4 s).take j).length≤1041:=by
      rw [List.length_append,List.length_take,le4_len]; have:=Hlp.out; omega
     have Happ:Hid (L ++ (le4 s).take (j+1)=(L ++ (le4 s).take j) ++ [UInt8.ofNat (s / 2 ^ (8 * j))]):=zh (by rw [le4_snoc s j hlt,List.append_assoc])
     generalize UInt8.ofNat (s / 2 ^ (8 * j))=x at *
     generalize (L ++ (le4 s).take j)=M4 at *
     have Hln4:=zh hln
     clear hln
     go_wp2_with (at_builtin; refine wpList_append_own _ rfl _ _ 30 rfl (w.heap.size+1) 5 i0 _ 1 1 Tryz.underlying30 hi0 hz0 hz1 hz2 rfl (by decide) _ _ _ rfl (HE.out.alloc (.cells #[.int .u8 (x.toNat:Int)] 5)).own ⟨wr.heap.size,0,none⟩ 1 1 [.int .u8 (x.toNat:Int)] rfl rfl ?d1 ?d2 ?d3 ?d4 ?d5 ?_)
     case d1=>exact World.news_of_block (cs:=#[.int .u8 (x.toNat:Int)]) (t:=5) (fr:=(0,0)) (heap_alloc_new wr _)
     case d2=>intro u hu; simp at hu; subst hu; rfl
     case d3=>unfold maxLen; have:=Hln4.out; omega
     case d4=>have:=Hln4.out; omega
     case d5=>have:=HE.out.box.lt; simp; omega
     intro v' w5 hown5 hg5 _
     have Fin:=zh ((HE.out.alloc (.cells #[.int .u8 (x.toNat:Int)] 5)).put (N:=[x]) rfl hown5 hg5)
     clear hown5 hg5
     go_wp2
     go_roundw
     case rel=>exact ⟨j+1,by omega,by go_num,by rw [Happ.out]; exact Fin.out⟩
     case measure=>simp [intOf]; omega
    ·have HE3:Hid (Enc w wr (a:Int) q (.slice A4 (L ++ (le4 s).take j).length c4) (enc a q.data.toList)):=zh (by
      have:=HE.out
      rw [List.take_of_length_le (l:=le4 s) (by rw [le4_len]; omega)] at this ⊢
      rw [Henc.out]
      exact this)
     clear HE
     go_wp2
     go_ret2
     exact ⟨⟨_,rfl,Joins.ownsRow_le HE3.out.own (by omega)⟩,HE3.out.bel⟩
end Go.Proofs.YtmomjpolkkbhnaaGreat.Cu
end
