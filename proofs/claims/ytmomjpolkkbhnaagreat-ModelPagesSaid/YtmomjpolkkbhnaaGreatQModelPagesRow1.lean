/- Arguments that came in, opened to what the walks ask. -/
import Derived.ProofKit
import Derived.OpenShut
import Derived.ShutString
import Derived.ChangeOld
import Derived.SliceStrings
import Derived.SizedLaws
import Derived.Outline
import Derived.Test.YtmomjpolkkbhnaaGreatProg
import Derived.Laws.BitsAllLaws
import Derived.Deep.QuietTactic
import Derived.BigQuiet
import Derived.Test.YtmomjpolkkbhnaaGreatQModelPagesRow0
import Derived.Test.YtmomjpolkkbhnaaGreatQModelPagesRow11
import Derived.Test.YtmomjpolkkbhnaaGreatQModelPagesRow3
import Derived.Test.YtmomjpolkkbhnaaGreatQModelPagesRow7
set_option linter.unusedSimpArgs false
set_option linter.unusedVariables false
set_option maxRecDepth 20000
section
namespace Go.Proofs.YtmomjpolkkbhnaaGreat
open Go.RowKit Go.ChangeShapes Go.WideShapes Go.ChangeAt
section
variable {H:Type} {enc:TypeId × Value→H} {P:Program} {W:World} {base:Nat} {t e:TypeId} {v:Value} {d:DataW H} {p:List MemPlace}
theorem weights_le {ts:List TypeId} {ds:List (DataW H)} (h:(DataW.weightsEach P ts ds).all (·≤reachBytes)=true) {j:Nat} (ht:ts[j]?=some t) (hd:ds[j]?=some d):∀ n∈d.weights P t,n≤140737488351232:=by
 intro n hn
 have:=List.all_eq_true.1 h _ (DataW.weights_mem_each ht hd n hn)
 have e:reachBytes=140737488351232:=by decide
 rw [← e]
 simpa using this
theorem weightsAll_mem {e:TypeId} {y:DataW H}:∀ {l:List (DataW H)},y∈l→∀ n∈y.weights P e,n∈DataW.weightsAll P e l
 | [],h,_,_=>by cases h
 | x :: l,h,n,hn=>by
  simp only [DataW.weightsAll,List.mem_append]
  rcases List.mem_cons.1 h with rfl | h
  ·exact Or.inl hn
  ·exact Or.inr (weightsAll_mem h n hn)
theorem range_map_getD {α:Type} (l:List α) (x : α) (n:Nat) (h:n≤l.length):(List.range n).map (fun i=>l.getD i x)=l.take n:=by
 apply List.ext_getElem
 ·simp; omega
 ·intro i h1 h2
  simp at h1
  simp [List.getD_eq_getElem?_getD,List.getElem?_eq_getElem (show i<l.length by omega)]
theorem str_in (ht:P.underlying t=some .string) (hv:Value.okWide P W .any base t v) (h:DataW.Trod enc P W 0 (fun _=>true) true t v d p) (hw:∀ n∈d.weights P t,n≤140737488351232) :
  ∃ s,v=.string s∧s.size≤140737488351232:=by
 obtain ⟨s,rfl,rfl,rfl,hs⟩:=Go.ChangeMaps.open_string ht hv h
 refine ⟨s,rfl,?_⟩
 have:=hw s.data.toList.length (by simp [DataW.weights])
 rwa [bsize] at this
theorem ints_in {k:IntKind} {by_:Nat} (ht:P.underlying t=some (.slice e)) (he:P.underlying e=some (.int k)) (hc:P.cellsOf e=1) (hb:P.bytesOf e=by_) (hv:Value.okWide P W .any base t v)
  (h:DataW.Trod enc P W 0 (fun _=>true) true t v d p) (hw:∀ n∈d.weights P t,n≤140737488351232) :
  ∃ (A:Option Addr) (len cap:Nat) (zs:List Int),v=.slice A len cap∧Reads W W.heap.size 1 A len (zs.map (Value.int k))∧(∀ n∈zs,(Lit.int k n).wf=true)∧len * by_≤140737488351232∧zs.length=len∧len≤cap:=by
 obtain ⟨A,len,cap,rfl⟩:=okWide_slice ht hv
 obtain ⟨fuel,hf⟩:=h
 rcases open_ints ht he hc hf with ⟨hcs,_⟩ | ⟨a,l,c,zs,hcs,_,hl,hm,hz,hx,hcell,hwz⟩
 ·simp [Value.cells] at hcs
  obtain ⟨rfl,rfl,rfl⟩:=hcs
  exact ⟨_,_,_,[],rfl,Reads.none_,by simp,by omega,rfl,by omega⟩
 ·simp [Value.cells] at hcs
  obtain ⟨rfl,rfl,rfl⟩:=hcs
  simp only [Prod.mk.injEq] at hx
  have hd:d=.slice (lits k (zs.take len)) (lits k (zs.drop len)):=hx.1
  subst hd
  have hlen:zs.length=cap:=by simpa using hz
  have h1:=hw ((zs.take len).length * by_+(zs.drop len).length * by_) (by
   simp only [DataW.weights,ht,lits,List.length_map,hb,← Nat.add_mul]
   exact List.mem_cons_self)
  have hle:len * by_≤140737488351232:=by
   rw [List.length_take,Nat.min_eq_left (by omega)] at h1; omega
  refine ⟨_,_,_,zs.take len,rfl,?_,fun n hn=>hwz n (List.mem_of_mem_take hn),hle,by rw [List.length_take]; omega,by omega⟩
  rw [← range_map_getD zs 0 len (by omega),List.map_map]
  by_cases h0 : 0<len
  ·exact Reads.of_in rfl (World.block_lt_of_cell? W _ (by simpa [Addr.add] using hcell 0 (by omega))) (fun i hi=>hcell i (by omega))
  ·obtain rfl:len=0:=by omega
   exact Reads.none_
end
end Go.Proofs.YtmomjpolkkbhnaaGreat
end

section
namespace Go.Proofs.YtmomjpolkkbhnaaGreat.Ev
open Go.RowKit Ut Tk Qy
theorem szF_at (fs:List Fl) (k:Nat) (h:k<fs.length):szF (fs.take (k+1))=szF (fs.take k)+(fs[k].1.size+fs[k].2.size):=by
 rw [List.take_succ_eq_append_getElem h,szF_snoc]
set_option maxHeartbeats 1600000 in
theorem size_any (t:Int) (F:Option Addr) (fn fc:Nat) (fs:List Fl) (w:World) (h:FlAt w w.heap.size F fn fc fs) (hok:chkE fs=0) :
  Calls Tryz.prog 94 #[.agg #[.int .i64 t,.slice F fn fc]] w fun e w'=>e=.returned (.int .i64 (szE fs))∧Below w.heap.size w w':=by
 have hl:=h.len
 have hl1:fs.length≤fn:=by omega
 have hl2:fn≤fs.length:=by omega
 have hcap:=h.cap
 have hsz:=szE_le hok
 have Fin:Hid ((szE fs:Int)=((16+szF (fs.take fs.length):Nat):Int)):=zh (by rw [List.take_length]; rfl)
 unfold szE at hsz
 have HZ:=fun k=>szF_take fs k
 have hfew:fn≤16:=by have:=(chkE_ok hok).1; omega
 have H:=zh h
 have HZ:=zh HZ
 have hB1:Hid (Below w.heap.size w (w.alloc (.cells #[.int .i64 t,.slice F fn fc] 46))):=zh ((Below.refl _ _).alloc (zG _) _)
 clear hl h hok
 generalize szE fs=r at *
 go_enter Tryz.func94,Tryz.ntmps94
 go_wp2
 go_loopw [3,9] (fun n i wr=>∃ k:Nat,k≤fs.length∧i=.int .i64 (k:Nat)∧n=.int .i64 ((16+szF (fs.take k):Nat):Int)∧Hid (Below w.heap.size w wr)) (fun _ i _=>fs.length - (intOf i).toNat)
 case atStart=>exact ⟨0,Nat.zero_le _,rfl,rfl,hB1⟩
 case round =>
  clear hB1
  obtain ⟨k,hk,rfl,rfl,hB⟩:=hrel
  by_cases hlt:k<fs.length
  ·have hkz:(k:Int)<(fn:Int):=by omega
   obtain ⟨b,o,rfl,hbb,cn,ct⟩:=(H.out.keep (w':=wr) (fun b o hp=>hB.out.cell (p:=⟨b,o,none⟩) hp)).at_ hlt
   have hat:=szF_at fs k hlt
   have hz1:=HZ.out (k+1)
   rw [hat] at hz1
   have HAT:Hid (szF (fs.take (k+1))=szF (fs.take k)+(fs[k].1.size+fs[k].2.size)):=zh hat
   clear hat
   generalize hfk:fs[k]=f at *
   clear hfk
   obtain ⟨nm,tx⟩:=f
   simp only at cn ct hz1 HAT
   generalize hzk:szF (fs.take k)=zk at *
   have hB2:Hid (Below w.heap.size w (wr.alloc (.cells #[.string nm,.string tx] 85))):=zh (hB.out.alloc hB.out.size _)
   clear hzk
   go_wp2
   go_roundw
   case rel=>exact ⟨k+1,by omega,by go_num,by rw [HAT.out]; go_num,hB2⟩
   case measure=>simp [intOf]; omega
  ·have hkz:¬ (k:Int)<(fn:Int):=by omega
   have e:k=fs.length:=by omega
   have Fin2:Hid ((r:Int)=((16+szF (fs.take k):Nat):Int)):=zh (by rw [e]; exact Fin.out)
   clear Fin e
   go_wp2
   go_ret
   exact ⟨by rw [Fin2.out]; rfl,hB.out⟩
end Go.Proofs.YtmomjpolkkbhnaaGreat.Ev
end

section
namespace Go.Proofs.YtmomjpolkkbhnaaGreat.Ev
open Go.RowKit Ut Tk Qy
def EvV (w:World) (B:Nat) (e:Evn) (v:List Value):Prop:=∃ F fn fc,v=[.int .i64 e.1,.slice F fn fc]∧FlAt w B F fn fc e.2
theorem EvV.len {w:World} {B:Nat} {e:Evn} {v:List Value} (h:EvV w B e v):v.length=2:=by obtain ⟨F,fn,fc,rfl,_⟩:=h; rfl
structure EvsAt (w:World) (B:Nat) (A:Option Addr) (n c:Nat) (l:List Evn):Prop where
 ln:l.length=n
 few:n≤4398046511104
 cap:n≤c
 ex:∃ vss:List (List Value),vss.length=n∧Reads w B 2 A n vss.flatten∧∀ i (h:i<l.length) (h':i<vss.length),EvV w B l[i] vss[i]
theorem EvsAt.keep {w w':World} {B n c:Nat} {A:Option Addr} {l:List Evn} (h:EvsAt w B A n c l) (hk:∀ b o,b<B→w'.cell? ⟨b,o,none⟩=w.cell? ⟨b,o,none⟩):EvsAt w' B A n c l:=by
 obtain ⟨vss,h1,h2,h3⟩:=h.ex
 exact ⟨h.ln,h.few,h.cap,vss,h1,h2.keep hk,fun i a b=>by obtain ⟨F,fn,fc,e,g⟩:=h3 i a b; exact ⟨F,fn,fc,e,g.keep hk⟩⟩
theorem EvsAt.more {w:World} {B B' n c:Nat} {A:Option Addr} {l:List Evn} (h:EvsAt w B A n c l) (hB:B≤B'):EvsAt w B' A n c l:=by
 obtain ⟨vss,h1,h2,h3⟩:=h.ex
 exact ⟨h.ln,h.few,h.cap,vss,h1,h2.more hB,fun i a b=>by obtain ⟨F,fn,fc,e,g⟩:=h3 i a b; exact ⟨F,fn,fc,e,g.more hB⟩⟩
theorem EvsAt.grow {w w':World} {n c:Nat} {A:Option Addr} {l:List Evn} (h:EvsAt w w.heap.size A n c l) (hb:Below w.heap.size w w'):EvsAt w' w'.heap.size A n c l:=(h.keep fun _ _ hp=>hb.cell hp).more hb.size
theorem EvsAt.at_ {w:World} {B n c:Nat} {A:Option Addr} {l:List Evn} (h:EvsAt w B A n c l) {i:Nat} (hi:i<l.length) :
  ∃ b o F fn fc,A=some ⟨b,o,none⟩∧b<B∧w.cell? ⟨b,o+i * 2,none⟩=some (.int .i64 l[i].1)∧w.cell? ⟨b,o+i * 2+1,none⟩=some (.slice F fn fc)∧FlAt w B F fn fc l[i].2:=by
 obtain ⟨vss,h1,h2,h3⟩:=h.ex
 have hl:=h.ln
 have hi':i<vss.length:=by omega
 have h4:∀ v∈vss,v.length=2:=fun v hv=>by
  obtain ⟨j,hj,rfl⟩:=List.mem_iff_getElem.1 hv
  exact (h3 j (by omega) hj).len
 obtain ⟨F,fn,fc,e,g⟩:=h3 i hi hi'
 obtain ⟨b,o,eA,hb,hc⟩:=h2.2 (by omega)
 have f0:=flat_get h4 i 0 hi' (by omega)
 have f1:=flat_get h4 i 1 hi' (by omega)
 rw [e] at f0 f1
 have c0:=hc _ _ f0
 have c1:=hc _ _ f1
 rw [← Nat.add_assoc] at c1
 exact ⟨b,o,F,fn,fc,eA,hb,c0,c1,g⟩
theorem szL_at (l:List Evn) (k:Nat) (h:k<l.length):szL (l.take (k+1))=szL (l.take k)+szE l[k].2:=by
 rw [List.take_succ_eq_append_getElem h,szL_snoc]
theorem ok_at {l:List Evn} {k:Nat} (h:∀ e∈l.take k,chkE e.2=0) (hk:k<l.length) (h2:chkE l[k].2=0):∀ e∈l.take (k+1),chkE e.2=0:=fun e he=>by
 rw [List.take_succ_eq_append_getElem hk,List.mem_append,List.mem_singleton] at he
 rcases he with he | rfl
 ·exact h e he
 ·exact h2
theorem chkB_end {seq:Int} {l:List Evn} (h0:l≠[]) (h1:¬ 64<l.length) (h:∀ e∈l.take l.length,chkE e.2=0):chkB seq l=if 65536<szL l then 2 else if seq<1∨1099511627776 - (l.length:Int)+1<seq then 5 else 0:=by
 rw [List.take_length] at h
 unfold chkB
 rw [if_neg h0,if_neg h1,if_pos (fstE_ok h)]
theorem chkB_bad {seq:Int} {l:List Evn} {k:Nat} (h0:l≠[]) (h1:¬ 64<l.length) (hk:k<l.length) (h:∀ e∈l.take k,chkE e.2=0) (hne:chkE l[k].2≠0):chkB seq l=chkE l[k].2:=by
 have e:=fstE_at hk h hne
 unfold chkB
 rw [if_neg h0,if_neg h1,if_neg (by rw [e]; exact hne),e]
set_option maxHeartbeats 1600000 in
theorem checkBatch_any (seq:Int) (A:Option Addr) (n c:Nat) (l:List Evn) (w:World) (h:EvsAt w w.heap.size A n c l) :
  Calls Tryz.prog 63 #[.agg #[.int .i64 seq,.slice A n c]] w fun e w'=>e=.returned (.int .i64 (chkB seq l))∧Below w.heap.size w w':=by
 have hl:=h.ln
 have hl1:l.length≤n:=by omega
 have hl2:n≤l.length:=by omega
 have hcap:=h.cap
 have hfew:=h.few
 have hB1:Below w.heap.size w (w.alloc (.cells #[.int .i64 seq,.slice A n c] 111)):=(Below.refl _ _).alloc (zG _) _
 have hF1:=h.grow hB1
 have hX:=(Blk.new w 111 #[.int .i64 seq,.slice A n c])
 have H:=zh (And.intro hF1 (And.intro hX hB1))
 clear hl h hF1 hX hB1
 obtain ⟨r,hr⟩:∃ r,r=chkB seq l:=⟨_,rfl⟩
 rw [← hr]
 have Fin:=zh hr
 clear hr
 by_cases hz:n=0
 ·subst hz
  have e0:l=[]:=List.length_eq_zero_iff.1 (by omega)
  have F2:Hid (r=1):=zh (by rw [Fin.out,e0]; rfl)
  clear e0 Fin
  go_enter Tryz.func63,Tryz.ntmps63
  go_wp2
  go_ret
  exact ⟨by rw [F2.out]; rfl,H.out.2.2⟩
 ·have hz1:((n:Int)=0)=False:=eq_false (by omega)
  have hz2:((n:Int) == 0)=false:=by simp; omega
  have N0:Hid (l≠[]):=zh (fun e=>by rw [e] at hl2; simp at hl2; omega)
  by_cases hbig : 64<n
  ·have hbz:(64:Int)<(n:Int):=by omega
   have F2:Hid (r=3):=zh (by rw [Fin.out]; unfold chkB; rw [if_neg N0.out,if_pos (by omega)])
   clear Fin hz
   go_enter Tryz.func63,Tryz.ntmps63
   go_wp2
   go_ret
   exact ⟨by rw [F2.out]; rfl,H.out.2.2⟩
  ·have hbz:¬ (64:Int)<(n:Int):=by omega
   have N1:Hid (¬ 64<l.length):=zh (by omega)
   clear hz
   go_enter Tryz.func63,Tryz.ntmps63
   go_wp2
   generalize w.alloc (.cells #[.int .i64 seq,.slice A n c] 111)=W0 at *
   go_loopw [4,20] (fun s i wr=>∃ k:Nat,k≤l.length∧i=.int .i64 (k:Nat)∧s=.int .i64 (szL (l.take k):Nat)∧Hid (∀ e∈l.take k,chkE e.2=0)∧Hid (Below W0.heap.size W0 wr)) (fun _ i _=>l.length - (intOf i).toNat)
   case atStart=>exact ⟨0,Nat.zero_le _,rfl,rfl,zh (by simp),zh (Below.refl _ _)⟩
   case round =>
    obtain ⟨k,hk,rfl,rfl,hO,hB⟩:=hrel
    have d0:=(H.out.2.1.below hB.out H.out.2.1.lt).cell 0
    have d1:=(H.out.2.1.below hB.out H.out.2.1.lt).cell 1
    simp only [zA,zB,zC] at d0 d1
    have hBw:Hid (Below w.heap.size w wr):=zh (H.out.2.2.trans (hB.out.mono H.out.2.2.size))
    have hzt:=szL_le hO.out
    have hlt2:(l.take k).length≤k:=List.length_take_le _ _
    have hzb:szL (l.take k)≤4480000:=by omega
    clear hzt hlt2
    by_cases hlt:k<l.length
    ·have hkz:(k:Int)<(n:Int):=by omega
     have hk0:(0:Int)≤(k:Int):=by omega
     have hG:=H.out.1.grow hB.out
     obtain ⟨b,o,F,fn,fc,rfl,hbb,ca,cf,hFl⟩:=hG.at_ hlt
     have dbx:=Blk.new wr 46 #[.int .i64 l[k].1,.slice F fn fc]
     have hB2:Below W0.heap.size W0 (wr.alloc (.cells #[.int .i64 l[k].1,.slice F fn fc] 46)):=hB.out.alloc hB.out.size _
     have hFl2:=hFl.grow ((Below.refl _ wr).alloc (zG _) (.cells #[.int .i64 l[k].1,.slice F fn fc] 46))
     have HB2:=zh (And.intro hB2 dbx)
     clear hB2 dbx
     have CC:=zh (fun (wx:World) (hx:FlAt wx wx.heap.size F fn fc l[k].2)=>check_any l[k].1 F fn fc l[k].2 wx hx)
     have SS:=zh (fun (wx:World) (hx:FlAt wx wx.heap.size F fn fc l[k].2)=>size_any l[k].1 F fn fc l[k].2 wx hx)
     have HSZ:=zh (szL_at l k hlt)
     have BAD:Hid (chkE l[k].2≠0→r=chkE l[k].2):=zh (fun hne=>by rw [Fin.out]; exact chkB_bad N0.out N1.out hlt hO.out hne)
     have OKN:Hid (chkE l[k].2=0→∀ e∈l.take (k+1),chkE e.2=0):=zh (fun h=>ok_at hO.out hlt h)
     have HSB:Hid (chkE l[k].2=0→szE l[k].2≤70000):=zh szE_le
     have HFL:=zh hFl2
     clear hG hFl hO
     generalize hev:l[k]=ev at *
     clear hev
     obtain ⟨ta,fs⟩:=ev
     simp only at ca CC SS HSZ BAD OKN HSB
     clear hFl2
     simp only at HB2 HFL
     go_wp2_with fail
     generalize wr.alloc (.cells #[.int .i64 ta,.slice F fn fc] 46)=w1 at *
     have e0:=HB2.out.2.cell 0
     have e1:=HB2.out.2.cell 1
     simp only [zA,zB,zC] at e0 e1
     clear ca cf d0 d1
     go_wp2_with fail
     refine (CC.out _ HFL.out).mono ?_
     rintro e w2 ⟨rfl,hb2⟩
     have hB3:Hid (Below W0.heap.size W0 w2):=zh (HB2.out.1.trans (hb2.mono HB2.out.1.size))
     have HFL2:=zh (HFL.out.grow hb2)
     have dbx2:=HB2.out.2.below hb2 HB2.out.2.lt
     have e0:=dbx2.cell 0
     have e1:=dbx2.cell 1
     simp only [zA,zB,zC] at e0 e1
     clear dbx2 HB2
     have hBw3:Hid (Below w.heap.size w w2):=zh (H.out.2.2.trans (hB3.out.mono H.out.2.2.size))
     clear hb2 hB hBw CC HFL
     by_cases hc:chkE fs=0
     ·have OKN2:=zh (OKN.out hc)
      have hse:=HSB.out hc
      have HC:=zh hc
      rw [hc]
      clear hc BAD OKN HSB
      have hcz:((0:Int) != 0)=false:=rfl
      go_wp2_with fail
      refine (SS.out _ HFL2.out HC.out).mono ?_
      rintro e w3 ⟨rfl,hb3⟩
      have hB4:Hid (Below W0.heap.size W0 w3):=zh (hB3.out.trans (hb3.mono hB3.out.size))
      generalize hzk:szL (l.take k)=zk at *
      generalize hze:szE fs=ze at *
      clear hzk hze hb3 hB3 hBw3 SS HFL2
      go_wp2
      go_roundw
      case rel=>exact ⟨k+1,by omega,by go_num,by rw [HSZ.out]; go_num,OKN2,hB4⟩
      case measure=>simp [intOf]; omega
     ·have BAD2:=zh (BAD.out hc)
      generalize hcc:chkE fs=cc at *
      have hcz:(cc != 0)=true:=by simpa using hc
      have hcz2:(cc=0)=False:=eq_false hc
      clear hcc hc BAD OKN HSB SS HFL2
      go_wp2
      go_ret
      exact ⟨by rw [BAD2.out]; rfl,hBw3.out⟩
    ·have hkz:¬ (k:Int)<(n:Int):=by omega
     obtain rfl:k=l.length:=by omega
     have F2:Hid (r=if 65536<szL l then 2 else if seq<1∨1099511627776 - (l.length:Int)+1<seq then 5 else 0):=zh (by rw [Fin.out]; exact chkB_end N0.out N1.out hO.out)
     rw [List.take_length] at hzb ⊢
     clear Fin hO hlt hk
     by_cases hz : 65536<szL l
     ·have hzz:(65536:Int)<(szL l:Int):=by omega
      go_wp2
      go_ret
      exact ⟨by rw [F2.out,if_pos hz]; rfl,hBw.out⟩
     ·have hzz:¬ (65536:Int)<(szL l:Int):=by omega
      have hrng:(n:Int)≤64:=by omega
      by_cases hq1:seq<1
      ·have F3:Hid (r=5):=zh (by rw [F2.out,if_neg hz,if_pos (.inl hq1)])
       clear F2 hz
       go_wp2
       go_ret
       exact ⟨by rw [F3.out]; rfl,hBw.out⟩
      ·by_cases hq2 : 1099511627776 - (n:Int)+1<seq
       ·have F3:Hid (r=5):=zh (by rw [F2.out,if_neg hz,if_pos (.inr (by omega))])
        have hq3 : 1099511627776 - ((n:Int) - 1)<seq:=by omega
        clear F2 hz
        go_wp2
        go_ret
        exact ⟨by rw [F3.out]; rfl,hBw.out⟩
       ·have F3:Hid (r=0):=zh (by rw [F2.out,if_neg hz,if_neg (by omega)])
        have hq3:¬ 1099511627776 - ((n:Int) - 1)<seq:=by omega
        clear F2 hz
        go_wp2
        go_ret
        exact ⟨by rw [F3.out]; rfl,hBw.out⟩
end Go.Proofs.YtmomjpolkkbhnaaGreat.Ev
end

section
namespace Go.Proofs.YtmomjpolkkbhnaaGreat.Ev
open Go.RowKit Ut Tk Qy Qp
structure Chg (O:Nat→Prop) (w w':World):Prop where
 os:w'.os=w.os
 tape:w'.tape=w.tape
 output:w'.output=w.output
 size:w.heap.size≤w'.heap.size
 block:∀ k,k<w.heap.size→¬ O k→w'.heap[k]?=w.heap[k]?
theorem Chg.refl (O:Nat→Prop) (w:World):Chg O w w:=⟨rfl,rfl,rfl,zG _,fun _ _ _=>rfl⟩
theorem Chg.trans {O O':Nat→Prop} {a b c:World} (h:Chg O a b) (k:Chg O' b c) (hO:∀ x,O' x→O x∨a.heap.size≤x):Chg O a c :=
 ⟨k.os.trans h.os,k.tape.trans h.tape,k.output.trans h.output,Nat.le_trans h.size k.size,fun i hi hn=>(k.block i (Nat.lt_of_lt_of_le hi h.size) (fun hk=>by
  rcases hO i hk with g | g
  ·exact hn g
  ·omega)).trans (h.block i hi hn)⟩
theorem Chg.mono {O O':Nat→Prop} {a b:World} (h:Chg O a b) (hO:∀ x,x<a.heap.size→O x→O' x):Chg O' a b:=⟨h.os,h.tape,h.output,h.size,fun k hk hn=>h.block k hk (fun ho=>hn (hO k hk ho))⟩
theorem Chg.of_below {O:Nat→Prop} {B:Nat} {a b:World} (h:Below B a b) (hO:∀ k,B≤k→k<a.heap.size→O k):Chg O a b:=⟨h.os,h.tape,h.output,h.size,fun k hk hn=>h.block k (Nat.lt_of_not_le (fun hB=>hn (hO k hB hk)))⟩
theorem Chg.of_new {O:Nat→Prop} {a b:World} (h:Below a.heap.size a b):Chg O a b:=Chg.of_below h (fun k h1 h2=>by omega)
theorem Chg.of_grown {O:Nat→Prop} {a b:World} {row:Option Nat} (h:a.grownBy b row) (hO:∀ k,row=some k→O k):Chg O a b:=⟨h.os,h.tape,h.output,h.size,fun k hk hn=>h.block k hk (fun e=>hn (hO k e.symm))⟩
theorem Chg.below {O:Nat→Prop} {B:Nat} {a b:World} (h:Chg O a b) (hB:B≤a.heap.size) (hO:∀ k,O k→B≤k):Below B a b:=⟨h.os,h.tape,h.output,h.size,fun k hk=>h.block k (Nat.lt_of_lt_of_le hk hB) (fun ho=>by have:=hO k ho; omega)⟩
theorem Chg.then_new {O:Nat→Prop} {a b c:World} (h:Chg O a b) (k:Below b.heap.size b c):Chg O a c:=h.trans (O':=fun _=>False) (Chg.of_new k) (fun x hx=>hx.elim)
theorem Chg.alloc {O:Nat→Prop} {a b:World} (h:Chg O a b) (o:Obj):Chg O a (b.alloc o):=h.then_new ((Below.refl _ _).alloc (zG _) _)
theorem Chg.cell {O:Nat→Prop} {a b:World} (h:Chg O a b) {p:Addr} (hp:p.block<a.heap.size) (hn:¬ O p.block):b.cell? p=a.cell? p:=World.cell?_of_block (h.block _ hp hn)
def Tg (w:World) (T:TypeId) (b:Nat):Prop:=∃ cs fr,w.heap[b]?=some (.cells cs T fr)
theorem Tg.lt {w:World} {T:TypeId} {b:Nat} (h:Tg w T b):b<w.heap.size:=by
 obtain ⟨cs,fr,h⟩:=h
 exact (Array.getElem?_eq_some_iff.1 h).1
theorem Tg.one {w:World} {T T':TypeId} {b:Nat} (h:Tg w T b) (h':Tg w T' b):T=T':=by
 obtain ⟨cs,fr,h⟩:=h
 obtain ⟨cs',fr',h'⟩:=h'
 rw [h] at h'
 injection h' with h'
 injection h'
theorem Tg.same {w w':World} {T:TypeId} {b:Nat} (h:Tg w T b) (e:w'.heap[b]?=w.heap[b]?):Tg w' T b:=by
 obtain ⟨cs,fr,h⟩:=h
 exact ⟨cs,fr,e.trans h⟩
theorem Tg.new {w w':World} {T:TypeId} {b:Nat} (h:Tg w T b) (hb:Below w.heap.size w w'):Tg w' T b:=h.same (hb.block b h.lt)
theorem tg_own {w:World} {base k n g:Nat} {T:TypeId} {v:Value} {xs:List Value} (h:w.ownsRow base T k v n xs) (hv:v.ownBlock=some g):Tg w T g:=by
 rcases h.2 with ⟨rfl,_⟩ | ⟨g',cap,cur,rfl,_,h2,_⟩
 ·cases hv
 ·injection hv with hv
  subst hv
  exact ⟨cur,_,h2⟩
theorem cell_same {w w':World} {b:Nat} (e:w'.heap[b]?=w.heap[b]?) (o:Nat):w'.cell? ⟨b,o,none⟩=w.cell? ⟨b,o,none⟩:=World.cell?_of_block e
theorem _root_.Go.Proofs.YtmomjpolkkbhnaaGreat.Qp.ReadsS.same {w w':World} {S S':Nat→Prop} {k n:Nat} {A:Option Addr} {xs:List Value} (h:ReadsS w S k A n xs) (hS:∀ b,S b→S' b∧w'.heap[b]?=w.heap[b]?):ReadsS w' S' k A n xs :=
 (h.keep (fun b o hb=>cell_same (hS b hb).2 o)).mono (fun b hb=>(hS b hb).1)
structure DcS (w:World) (S:Nat→Prop) (d:Dc) (v:List Value):Prop where
 ex:∃ F fn fc,v=[.int .i64 d.seq,.int .i64 d.at_,.slice F fn fc]∧ReadsS w S 2 F fn (fldC d.fs)∧d.fs.length=fn∧fn≤8796093021952∧fn≤fc∧(F=none→fc=0)
theorem DcS.len {w:World} {S:Nat→Prop} {d:Dc} {v:List Value} (h:DcS w S d v):v.length=3:=by obtain ⟨F,fn,fc,rfl,_⟩:=h.ex; rfl
theorem DcS.same {w w':World} {S S':Nat→Prop} {d:Dc} {v:List Value} (h:DcS w S d v) (hS:∀ b,S b→S' b∧w'.heap[b]?=w.heap[b]?):DcS w' S' d v:=by
 obtain ⟨F,fn,fc,e,h1,h2⟩:=h.ex
 exact ⟨F,fn,fc,e,h1.same hS,h2⟩
structure DocsS (w:World) (R S:Nat→Prop) (A:Option Addr) (n:Nat) (ds:List Dc):Prop where
 ln:ds.length=n
 ex:∃ vss:List (List Value),vss.length=n∧ReadsS w R 3 A n vss.flatten∧∀ i (h:i<ds.length) (h':i<vss.length),DcS w S ds[i] vss[i]
theorem DocsS.same {w w':World} {R R' S S':Nat→Prop} {A:Option Addr} {n:Nat} {ds:List Dc} (h:DocsS w R S A n ds) (hR:∀ b,R b→R' b∧w'.heap[b]?=w.heap[b]?) (hS:∀ b,S b→S' b∧w'.heap[b]?=w.heap[b]?):DocsS w' R' S' A n ds:=by
 obtain ⟨vss,h1,h2,h3⟩:=h.ex
 exact ⟨h.ln,vss,h1,h2.same hR,fun i a b=>(h3 i a b).same hS⟩
theorem DocsS.nil {w:World} {R S:Nat→Prop} {A:Option Addr}:DocsS w R S A 0 []:=⟨rfl,[],rfl,ReadsS.none_,fun i h=>absurd h (by simp)⟩
theorem DocsS.at_ {w:World} {R S:Nat→Prop} {A:Option Addr} {n:Nat} {ds:List Dc} (h:DocsS w R S A n ds) {i:Nat} (hi:i<ds.length) :
  ∃ b o F fn fc,A=some ⟨b,o,none⟩∧R b∧w.cell? ⟨b,o+i * 3,none⟩=some (.int .i64 ds[i].seq)∧w.cell? ⟨b,o+i * 3+1,none⟩=some (.int .i64 ds[i].at_)∧w.cell? ⟨b,o+i * 3+2,none⟩=some (.slice F fn fc) ∧
   ReadsS w S 2 F fn (fldC ds[i].fs)∧ds[i].fs.length=fn∧fn≤8796093021952∧fn≤fc∧(F=none→fc=0):=by
 obtain ⟨vss,h1,h2,h3⟩:=h.ex
 have hl:=h.ln
 have hi':i<vss.length:=by omega
 have h4:∀ v∈vss,v.length=3:=fun v hv=>by
  obtain ⟨j,hj,rfl⟩:=List.mem_iff_getElem.1 hv
  exact (h3 j (by omega) hj).len
 obtain ⟨F,fn,fc,e,g1,g2,g3,g4⟩:=(h3 i hi hi').ex
 obtain ⟨b,o,eA,hb,hc⟩:=h2.2 (by omega)
 have f0:=flat_get h4 i 0 hi' (by omega)
 have f1:=flat_get h4 i 1 hi' (by omega)
 have f2:=flat_get h4 i 2 hi' (by omega)
 rw [e] at f0 f1 f2
 have c0:=hc _ _ f0
 have c1:=hc _ _ f1
 have c2:=hc _ _ f2
 rw [← Nat.add_assoc] at c1 c2
 exact ⟨b,o,F,fn,fc,eA,hb,c0,c1,c2,g1,g2,g3,g4⟩
theorem doc_info:(Tryz.prog.info? 48).map (fun i=>(i.zero,i.size,i.bytes))=some (some (.agg #[.int .i64 0,.int .i64 0,.slice none 0 0]),3,40):=by kernel_rfl
theorem fld_info:(Tryz.prog.info? 85).map (fun i=>(i.zero,i.size,i.bytes))=some (some (.agg #[.string ByteArray.empty,.string ByteArray.empty]),2,32):=by kernel_rfl
theorem grownBy_setC (w:World) (h o:Nat) (u:Value):w.grownBy (w.setCell ⟨h,o,none⟩ u) (some h) :=
 ⟨rfl,rfl,rfl,by simp [World.setCell],fun k _ hne=>Below.heap_setCell _ _ _ _ (fun e=>hne (by rw [e]))⟩
theorem own_shape2 {w:World} {base:Nat} {e:TypeId} {size n:Nat} {v:Value} {xs:List Value} (h:w.ownsRow base e size v n xs) :
  ∃ A c,v=.slice A n c∧Reads w w.heap.size size A n xs∧n≤c∧(A=none→c=0)∧(0<n→∃ g,A=some ⟨g,0,none⟩∧∃ cur,w.heap[g]?=some (.cells cur e (0,0))):=by
 obtain ⟨A,c,rfl,hR⟩:=own_shape h
 refine ⟨A,c,rfl,hR,?_⟩
 rcases h.2 with ⟨hv,h0⟩ | ⟨g,cap,cur,hv,_,hg,hnc,_⟩
 ·injection hv with _ _ hc
  exact ⟨by omega,fun _=>hc,fun h=>by omega⟩
 ·injection hv with hA _ hc
  exact ⟨by omega,fun e=>(by rw [hA] at e; cases e),fun _=>⟨g,hA,cur,hg⟩⟩
theorem fldC_one (fs:List (ByteArray × ByteArray)):∀ u∈fldC fs,u.oneCell'=true:=by
 intro u hu
 unfold fldC at hu
 obtain ⟨f,_,hf⟩:=List.mem_flatMap.1 hu
 simp at hf
 rcases hf with rfl | rfl <;> rfl
def FldPost (w:World) (fs:List (ByteArray × ByteArray)) (e:Ending) (w':World):Prop:=∃ v,e=.returned v∧w'.ownsRow w.heap.size 85 2 v fs.length (fldC fs)∧Below w.heap.size w w'
set_option maxHeartbeats 800000 in
theorem cloneF_any (F:Option Addr) (fn fc:Nat) (fs:List (ByteArray × ByteArray)) (w:World) (hF:Reads w w.heap.size 2 F fn (fldC fs)) (hl:fs.length=fn) (hn:fn≤1048576) (hnil:F=none→fc=0) :
  Calls Tryz.prog 91 #[.slice F fn fc] w (FldPost w fs):=by
 obtain ⟨i0,hi0,hz0,hz1,hz2⟩:=info_parts fld_info
 by_cases h0:F=none
 ·subst h0
  obtain rfl:fc=0:=hnil rfl
  have hfn:fn=0:=by
   by_cases h : 0<fn
   ·obtain ⟨b,o,e,_⟩:=hF.2 h
    cases e
   ·omega
  subst hfn
  have hfs:fs=[]:=List.length_eq_zero_iff.1 hl
  subst hfs
  have hnl:=fun W:World=>Lib.run_eql_slice_nil (P:=Tryz.prog) W _ _ none 0 0 0 0 Tryz.underlying44
  clear hF hl hn hnil
  go_enter Tryz.func91,Tryz.ntmps91
  go_wp2
  go_ret
  exact ⟨_,rfl,World.ownsRow_nil _ _ _ _,Below.refl _ _⟩
 ·obtain ⟨a,rfl⟩:=Option.ne_none_iff_exists'.1 h0
  have hnl:=fun W:World=>Lib.run_eql_slice_nil (P:=Tryz.prog) W _ _ (some a) fn fc 0 0 Tryz.underlying44
  have HF:=zh hF
  have Hl:=zh hl
  clear hF hl h0 hnil
  go_enter Tryz.func91,Tryz.ntmps91
  go_wp2_with (at_builtin; refine wpList_append_own _ rfl _ _ 44 rfl w.heap.size 85 i0 _ 2 32 Tryz.underlying44 hi0 hz0 hz1 hz2 rfl (by decide) (.slice (some ⟨w.heap.size,0,none⟩) 0 0) 0 [] rfl ?hown a fn fc (fldC fs) rfl ?hl ?c1 ?c2 ?c3 ?c4 ?c5 ?_)
  case hown =>
   have h:=World.ownsRow_made (base:=w.heap.size) (e:=85) (size:=2) w #[] 0 (by simp) (by unfold maxLen; omega) rfl
   simpa using h
  case hl=>rw [fldC_len,Hl.out]
  case c1 =>
   intro j u hj
   have hjl:j<fn * 2:=by
    have:=(List.getElem?_eq_some_iff.1 hj).1
    rw [fldC_len,Hl.out] at this
    exact this
   obtain ⟨b,o,e,hb,hc⟩:=HF.out.2 (by omega)
   injection e with e
   subst e
   have hadd:(⟨b,o,none⟩:Addr).add j=⟨b,o+j,none⟩:=by unfold Addr.add; split <;> simp_all
   rw [hadd]
   have hp:=hc j u hj
   first
    | exact hp
    | exact (((Below.refl _ _).alloc (zG _) _:Below w.heap.size w _).cell (p:=⟨b,o+j,none⟩) hb).trans hp
  case c2=>exact fldC_one fs
  case c3=>unfold maxLen; omega
  case c4=>omega
  case c5=>simp
  intro v' w2 hown hgrow _
  have hbx:Below w.heap.size w w2:=((Below.refl _ _).alloc (zG _) _:Below w.heap.size w _).grown hgrow (by simp) (fun j hj=>by
   injection hj with hj
   have hj':w.heap.size=j:=hj
   omega)
  obtain ⟨A',c',rfl,_⟩:=own_shape hown
  have Hown:=zh hown
  have Hbx:=zh hbx
  clear hown hgrow hbx
  go_wp2
  go_ret
  exact ⟨_,rfl,by rw [Hl.out]; simpa using Hown.out,Hbx.out⟩
abbrev Fd (w:World) (base:Nat) (b:Nat):Prop:=base≤b∧Tg w 85 b
structure DOwn (w:World) (base:Nat) (v:Value) (ds:List Dc):Prop where
 ex:∃ vss:List (List Value),vss.length=ds.length∧w.ownsRow base 48 3 v ds.length vss.flatten∧∀ i (h:i<ds.length) (h':i<vss.length),DcS w (Fd w base) ds[i] vss[i]
theorem DOwn.start (w:World) (base:Nat):DOwn w base (.slice none 0 0) []:=⟨[],rfl,World.ownsRow_nil _ _ _ _,fun i h=>absurd h (by simp)⟩
theorem DOwn.below {w w':World} {base:Nat} {v:Value} {ds:List Dc} (h:DOwn w base v ds) (hb:Below w.heap.size w w'):DOwn w' base v ds:=by
 obtain ⟨vss,h1,h2,h3⟩:=h.ex
 refine ⟨vss,h1,h2.kept (grow_of_below hb none) (by cases hv:v.ownBlock <;> simp),fun i a b=>(h3 i a b).same (fun b hS=>⟨⟨hS.1,hS.2.new hb⟩,hb.block b hS.2.lt⟩)⟩
theorem DOwn.put {w w5:World} {base:Nat} {v v':Value} {ds:List Dc} {d:Dc} {u:List Value} {xs:List Value} (hx:∃ vss:List (List Value),vss.length=ds.length∧w.ownsRow base 48 3 v ds.length vss.flatten∧(∀ i (h:i<ds.length) (h':i<vss.length),DcS w (Fd w base) ds[i] vss[i])∧xs=vss.flatten)
  (hp:w5.ownsRow base 48 3 v' (ds.length+1) (xs ++ u)) (hg:w.grownBy w5 v.ownBlock) (hd:DcS w (Fd w base) d u):DOwn w5 base v' (ds ++ [d]):=by
 obtain ⟨vss,h1,h2,h3,rfl⟩:=hx
 have keep:∀ b,Fd w base b→Fd w5 base b∧w5.heap[b]?=w.heap[b]?:=fun b hS=>by
  have e:w5.heap[b]?=w.heap[b]?:=hg.block b hS.2.lt (fun e=>by
   have:=(tg_own h2 e.symm).one hS.2
   exact absurd this (by decide))
  exact ⟨⟨hS.1,hS.2.same e⟩,e⟩
 refine ⟨vss ++ [u],by simp [h1],?_,fun i a b=>?_⟩
 ·rw [List.flatten_append,List.length_append]
  simpa using hp
 ·by_cases hi:i<ds.length
  ·rw [List.getElem_append_left hi,List.getElem_append_left (by omega)]
   exact (h3 i hi (by omega)).same keep
  ·have hi':i=ds.length:=by simp at a; omega
   subst hi'
   rw [List.getElem_append_right (by omega),List.getElem_append_right (by omega)]
   simp only [Nat.sub_self,h1,List.getElem_cons_zero]
   exact hd.same keep
theorem own_mono {w:World} {base base' k n:Nat} {T:TypeId} {v:Value} {xs:List Value} (h:w.ownsRow base T k v n xs) (hb:base'≤base):w.ownsRow base' T k v n xs :=
 ⟨h.1,h.2.elim .inl (fun ⟨g,cap,cur,hv,hg,r⟩=>.inr ⟨g,cap,cur,hv,Nat.le_trans hb hg,r⟩)⟩
theorem DcS.mono {w:World} {S S':Nat→Prop} {d:Dc} {v:List Value} (h:DcS w S d v) (hS:∀ b,S b→S' b):DcS w S' d v:=h.same (fun b hb=>⟨hS b hb,rfl⟩)
theorem DOwn.mono {w:World} {base base':Nat} {v:Value} {ds:List Dc} (h:DOwn w base v ds) (hb:base'≤base):DOwn w base' v ds:=by
 obtain ⟨vss,h1,h2,h3⟩:=h.ex
 exact ⟨vss,h1,own_mono h2 hb,fun i a b=>(h3 i a b).mono (fun b hS=>⟨Nat.le_trans hb hS.1,hS.2⟩)⟩
theorem DOwn.read {w:World} {base:Nat} {v:Value} {ds:List Dc} (h:DOwn w base v ds):∃ A c,v=.slice A ds.length c∧DocsS w (fun b=>base≤b∧b<w.heap.size) (Fd w base) A ds.length ds∧ds.length≤c∧(A=none→c=0):=by
 obtain ⟨vss,h1,h2,h3⟩:=h.ex
 obtain ⟨A,c,rfl,_,hc,hn,_⟩:=own_shape2 h2
 exact ⟨A,c,rfl,⟨rfl,vss,h1,(ReadsS.of_own h2).mono (fun b hb=>⟨hb.1,hb.2.1⟩),fun i a b=>h3 i a b⟩,hc,hn⟩
def mkD (seq:Int) (l:List Evn):List Dc:=l.mapIdx fun i e=>⟨seq+i,e.1,e.2⟩
theorem mkD_len (seq:Int) (l:List Evn):(mkD seq l).length=l.length:=by simp [mkD]
theorem mkD_snoc (seq:Int) (l:List Evn) (e:Evn):mkD seq (l ++ [e])=mkD seq l ++ [⟨seq+l.length,e.1,e.2⟩]:=by simp [mkD,List.mapIdx_append]
theorem mkD_take (seq:Int) (l:List Evn) (k:Nat) (h:k<l.length):mkD seq (l.take (k+1))=mkD seq (l.take k) ++ [⟨seq+(k:Nat),l[k].1,l[k].2⟩]:=by
 rw [List.take_succ_eq_append_getElem h,mkD_snoc]
 congr 4
 rw [List.length_take]; omega
end Go.Proofs.YtmomjpolkkbhnaaGreat.Ev
end

section
namespace Go.Proofs.YtmomjpolkkbhnaaGreat.Cr
open Go.RowKit
structure TabAt (w wr:World) (g k:Nat):Prop where
 bel:Below w.heap.size w wr
 ge:g=w.heap.size
 ex:∃ cs,Blk wr g 219 cs∧cs.size=256∧∀ j,j<k→cs[j]?=some (.int .u32 (tab j:Nat))
theorem zero_size:(Tryz.zeroCells219).size=256:=by kernel_rfl
theorem TabAt.start (w:World):TabAt w (w.alloc (.cells Tryz.zeroCells219 219)) w.heap.size 0 :=
 ⟨(Below.refl _ _).alloc (zG _) _,rfl,_,Blk.new _ _ _,zero_size,fun j h=>absurd h (by omega)⟩
theorem TabAt.put {w wr:World} {g k:Nat} (h:TabAt w wr g k) (hk:k<256):TabAt w (wr.setCell ⟨g,k,none⟩ (.int .u32 (tab k:Nat))) g (k+1):=by
 obtain ⟨hb,rfl,cs,hB,hz,hc⟩:=h
 refine ⟨hb.setCell (p:=⟨w.heap.size,k,none⟩) (zG _) _,rfl,_,hB.set_ k _,by simpa using hz,fun j hj=>?_⟩
 rw [Array.getElem?_setIfInBounds]
 by_cases e:k=j
 ·subst e; rw [if_pos rfl,if_pos (by omega)]
 ·rw [if_neg e]; exact hc j (by omega)
theorem TabAt.old {w wr:World} {g k:Nat} (h:TabAt w wr g k) (i:Nat) (hk:i<256):∃ u,wr.cell? ⟨g,i,none⟩=some u∧wr.frozen? ⟨g,i,none⟩=false:=by
 obtain ⟨hb,rfl,cs,hB,hz,hc⟩:=h
 exact ⟨cs[i]'(by omega),by rw [hB.cell,Array.getElem?_eq_getElem],hB.frozen i⟩
theorem odd_bits (x:Nat) (h:x<2 ^ 32):bits .and .u32 (x:Int) 1=((x % 2:Nat):Int):=by
 have:=u32_and_nat x 1 (by omega) (by omega)
 rw [show (1:Int)=((1:Nat):Int) from rfl,this]
 congr 1
 exact Nat.and_two_pow_sub_one_eq_mod x 1
theorem xor_bits (x y:Nat) (h:x<2 ^ 32) (hy:y<2 ^ 32):bits .xor .u32 (x:Int) (y:Int)=((x ^^^ y:Nat):Int):=u32_xor_nat x y (by omega) (by omega)
theorem half (x:Nat):((x / 2:Nat):Int)=(x:Int) / 2:=by omega
set_option maxHeartbeats 1600000 in
theorem table_any (w:World):Calls Tryz.prog 158 #[] w fun e w'=>∃ g,e=.returned (.pointer (some ⟨g,0,none⟩))∧TabAt w w' g 256:=by
 have H0:=zh (TabAt.start w)
 go_enter Tryz.func158,Tryz.ntmps158
 go_wp2_with fail
 generalize hw0:w.alloc (.cells Tryz.zeroCells219 219)=w0 at *
 clear hw0
 go_loopw [5] (fun i wr=>∃ k:Nat,k≤256∧i=.int .i64 k∧TabAt w wr w.heap.size k) (fun i _=>256 - (intOf i).toNat)
 case atStart=>exact ⟨0,by omega,rfl,H0.out⟩
 case round =>
  obtain ⟨k,hk,rfl,hT⟩:=hrel
  have HT:=zh hT
  clear hT
  by_cases hlt:k<256
  ·have hki:(k:Int)<256:=by omega
   have hkm:(k:Int) % 4294967296=k:=by omega
   go_wp2_with fail
   go_loop [3,10] (fun x n=>∃ m:Nat,m≤8∧n=.int .i64 m∧x=.int .u32 (ons m k:Nat)) (fun _ n=>8 - (intOf n).toNat)
   case atStart=>exact ⟨0,by omega,rfl,rfl⟩
   case round =>
    obtain ⟨m,hm,rfl,rfl⟩:=hrel
    have hx:=ons_lt m (x:=k) (by omega)
    have hs:ons (m+1) k=on1 (ons m k):=rfl
    have h8:m=8→ons m k=tab k:=fun e=>by rw [e,ons_tab]
    have Hs:=zh hs
    have H8:=zh h8
    clear hs h8
    generalize ons m k=x at *
    by_cases hm8:m<8
    ·have hmi:(m:Int)<8:=by omega
     have hx0:(0:Int)≤(x:Int):=by omega
     have hx1:(x:Int)<4294967296:=by omega
     rcases Nat.mod_two_eq_zero_or_one x with h2 | h2
     ·have hb:bits .and .u32 (x:Int) 1=0:=by rw [odd_bits x hx,h2]; rfl
      have Fin:Hid (on1 x=x / 2):=zh (by unfold on1; rw [if_neg (by omega)])
      clear h2
      go_wp2
      go_round
      case rel=>exact ⟨m+1,by omega,by go_num,by rw [Hs.out,Fin.out,half]⟩
      case measure=>simp [intOf]; omega
     ·have hb:bits .and .u32 (x:Int) 1=1:=by rw [odd_bits x hx,h2]; rfl
      have hxb:bits .xor .u32 ((x:Int) / 2) 3988292384=((on1 x:Nat):Int):=by
       rw [← half,show (3988292384:Int)=((3988292384:Nat):Int) from rfl,xor_bits _ _ (by omega) (by omega)]
       unfold on1; rw [if_pos h2]
      clear h2
      go_wp2
      go_round
      case rel=>exact ⟨m+1,by omega,by go_num,by rw [Hs.out]⟩
      case measure=>simp [intOf]; omega
    ·obtain rfl:m=8:=by omega
     obtain ⟨u,hu,huf⟩:=HT.out.old k hlt
     have HP:=zh (HT.out.put hlt)
     have e8:=H8.out rfl
     subst e8
     go_wp2
     go_roundw
     case rel=>exact ⟨k+1,by omega,by go_num,HP.out⟩
     case measure=>simp [intOf]; omega
  ·obtain rfl:k=256:=by omega
   go_wp2
   go_ret
   exact ⟨_,rfl,HT.out⟩
end Go.Proofs.YtmomjpolkkbhnaaGreat.Cr
end
