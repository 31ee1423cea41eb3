/- The document's kept queries in memory; place, Query, IDs: the walks (printed by gen_alm.py). -/
import Derived.BigQuiet
import Derived.Deep.QuietTactic
import Derived.Lib.SliceRun
import Derived.Test.YtlfpfkallgkjdaaGreatQAlertBatchesRow29
import Derived.Test.YtlfpfkallgkjdaaGreatQAlertBatchesRow4
import Derived.Test.YtlfpfkallgkjdaaGreatQAlertBatchesRow28
import Derived.Test.YtlfpfkallgkjdaaGreatQAlertBatchesRow3
import Derived.Test.YtlfpfkallgkjdaaGreatQAlertBatchesRow0
set_option linter.unusedSimpArgs false
set_option linter.unusedVariables false
set_option maxRecDepth 20000
section
namespace Go.Proofs.YtlfpfkallgkjdaaGreat.Al
open Go.RowKit Go.Maps Ut Tk Qy Qp Ev Mv Rg
abbrev Sl:=Option Addr × Nat × Nat
abbrev Rk:=(Int × Kp) × Sl × Sl
instance:Inhabited Rk:=⟨((0,⟨ByteArray.empty,.mk 0 ByteArray.empty [] [],[]⟩),(none,0,0),(none,0,0))⟩
def qC (x:Rk):List Value:=[.int .i64 x.1.2.q.kind,.string x.1.2.q.name,.slice x.2.1.1 x.2.1.2.1 x.2.1.2.2,.slice x.2.2.1 x.2.2.2.1 x.2.2.2.2]
def encR (x:Rk):List Value:=.int .i64 x.1.1 :: .string x.1.2.text :: qC x
theorem encR_take (l:List Rk) (p:Nat):(l.take p).flatMap encR=(l.flatMap encR).take (p * 6):=by
 induction l generalizing p with
 | nil=>simp
 | cons x l ih =>
  cases p with
  | zero=>simp
  | succ p =>
   have e:(p+1) * 6=(encR x).length+p * 6:=by simp [encR,qC]; omega
   rw [List.take_succ_cons,List.flatMap_cons,List.flatMap_cons,e,List.take_length_add_append,ih]
theorem encR_drop (l:List Rk) (p:Nat):(l.drop p).flatMap encR=(l.flatMap encR).drop (p * 6):=by
 induction l generalizing p with
 | nil=>simp
 | cons x l ih =>
  cases p with
  | zero=>simp
  | succ p =>
   have e:(p+1) * 6=(encR x).length+p * 6:=by simp [encR,qC]; omega
   rw [List.drop_succ_cons,List.flatMap_cons,e,List.drop_length_add_append,ih]
theorem encR_one (l:List Rk):∀ u∈l.flatMap encR,u.oneCell'=true:=fun u hu=>by
 obtain ⟨x,_,hx⟩:=List.mem_flatMap.1 hu
 simp only [encR,qC,List.mem_cons,List.not_mem_nil,or_false] at hx
 rcases hx with rfl | rfl | rfl | rfl | rfl | rfl <;> rfl
structure RAt (w:World) (A:Option Addr) (n c:Nat) (O:List Rk):Prop where
 rd:ReadsS w (Sc w) 6 A n (O.flatMap encR)
 ln:O.length=n
 cap:n≤c
 nl:A=none→c=0
 qs:∀ x∈O,QF w (Sc w) x.1.2.q (qC x)
theorem RAt.chg {w w':World} {A:Option Addr} {n c:Nat} {O:List Rk} {B:Nat→Prop} (h:RAt w A n c O) (hc:Chg B w w') (hB:∀ b,B b→¬ Sc w b):RAt w' A n c O:=⟨reads_chg h.rd hc hB,h.ln,h.cap,h.nl,fun x hx=>qf_chg (h.qs x hx) hc hB⟩
theorem RAt.below {w w':World} {A:Option Addr} {n c:Nat} {O:List Rk} (h:RAt w A n c O) (hb:Below w.heap.size w w'):RAt w' A n c O:=h.chg (B:=fun _=>False) (Chg.of_new hb) (fun _ h=>h.elim)
theorem RAt.nil (w:World):RAt w none 0 0 []:=⟨ReadsS.none_,rfl,zG _,fun _=>rfl,fun x hx=>(nomatch hx)⟩
theorem RAt.at_ {w:World} {A:Option Addr} {n c:Nat} {O:List Rk} (h:RAt w A n c O) {i:Nat} (hi:i<O.length):∃ b o,A=some ⟨b,o,none⟩∧b<w.heap.size∧w.cell? ⟨b,o+i * 6,none⟩=some (.int .i64 O[i].1.1)∧w.cell? ⟨b,o+i * 6+1,none⟩=some (.string O[i].1.2.text) ∧
  w.cell? ⟨b,o+i * 6+2,none⟩=some (.int .i64 O[i].1.2.q.kind)∧w.cell? ⟨b,o+i * 6+3,none⟩=some (.string O[i].1.2.q.name)∧w.cell? ⟨b,o+i * 6+4,none⟩=some (.slice O[i].2.1.1 O[i].2.1.2.1 O[i].2.1.2.2)∧w.cell? ⟨b,o+i * 6+5,none⟩=some (.slice O[i].2.2.1 O[i].2.2.2.1 O[i].2.2.2.2):=by
 obtain ⟨b,o,e,hb,hc⟩:=h.rd.2 (by have:=h.ln; omega)
 have g:=fun j (hj:j<6)=>hc (i * 6+j) _ ((Ss.encs_get (enc:=encR) (k:=6) (fun _=>rfl) O i j hi hj).trans (List.getElem?_eq_getElem (l:=encR O[i]) (by simpa [encR,qC] using hj)))
 have g0:=g 0 (by decide)
 have g1:=g 1 (by decide)
 have g2:=g 2 (by decide)
 have g3:=g 3 (by decide)
 have g4:=g 4 (by decide)
 have g5:=g 5 (by decide)
 simp only [← Nat.add_assoc,Nat.add_zero] at g0 g1 g2 g3 g4 g5
 exact ⟨b,o,e,hb.lt,g0,g1,g2,g3,g4,g5⟩
def RIs (O:List Rk) (l:List (Int × Kp)):Prop:=O.map (·.1)=l
theorem RIs.len {O:List Rk} {l:List (Int × Kp)} (h:RIs O l):O.length=l.length:=by rw [← h,List.length_map]
theorem RIs.get_ {O:List Rk} {l:List (Int × Kp)} (h:RIs O l) {i:Nat} (hi:i<O.length):l[i]?=some O[i].1:=by rw [← h,List.getElem?_map,List.getElem?_eq_getElem hi]; rfl
set_option maxHeartbeats 3200000 in
theorem place_any (A:Option Addr) (n c:Nat) (O:List Rk) (l:List (Int × Kp)) (i:Int) (w:World) (h:RAt w A n c O) (hl:RIs O l) (hu:UpI l) (hn:n≤4294967296) :
  Calls Tryz.prog 56 #[.agg #[.slice A n c],.int .i64 i] w fun e w'=>e=.returned (.tuple #[.int .i64 (pos l i:Nat),.bool (get l i).isSome])∧Below w.heap.size w w':=by
 have hb1:Below w.heap.size w (w.alloc (.cells #[.slice A n c] 41)):=(Below.refl _ _).alloc (zG _) _
 have hln:=h.ln
 have hll:=hl.len
 have hple:=pos_le l i
 have Hlt:Hid (∀ j (hj:j<pos l i) (h2:j<O.length),O[j].1.1<i):=zh (fun j hj h2=>by
  have:=pos_lt hj (by omega)
  have e:=hl.get_ h2
  rw [List.getElem?_eq_getElem (by omega)] at e
  injection e with e
  rw [← e]; exact this)
 have Hat:Hid (∀ h2:pos l i<O.length,¬ O[pos l i].1.1<i):=zh (fun h2=>by
  have:=pos_at (l:=l) (i:=i) (by omega)
  have e:=hl.get_ h2
  rw [List.getElem?_eq_getElem (by omega)] at e
  injection e with e
  rw [← e]; exact this)
 have Hg:Hid ((get l i).isSome=true↔∃ h2:pos l i<O.length,O[pos l i].1.1=i):=zh (by
  have:=(parts hu i).2.2
  rw [this]
  constructor
  ·rintro ⟨h2,e⟩
   have h3:pos l i<O.length:=by omega
   refine ⟨h3,?_⟩
   have e2:=hl.get_ h3
   rw [List.getElem?_eq_getElem h2] at e2
   injection e2 with e2
   rw [← e2]; exact e
  ·rintro ⟨h2,e⟩
   have h3:pos l i<l.length:=by omega
   refine ⟨h3,?_⟩
   have e2:=hl.get_ h2
   rw [List.getElem?_eq_getElem h3] at e2
   injection e2 with e2
   rw [e2]; exact e)
 have H1:=zh (h.below hb1)
 have HB1:=zh hb1
 have HBX:=zh (Blk.new w 41 #[.slice A n c])
 obtain ⟨g,hg⟩:∃ g,(get l i).isSome=g:=⟨_,rfl⟩
 rw [hg] at Hg ⊢
 have hpn:pos l i≤n:=by omega
 have hzz:w.heap.size<(w.alloc (.cells #[.slice A n c] 41)).heap.size:=by simp
 clear h hl hb1 hg hll hu
 generalize hpp:pos l i=p at *
 clear hpp hple
 go_enter Tryz.func56,Tryz.ntmps56
 go_wp2_with fail
 generalize w.alloc (.cells #[.slice A n c] 41)=w1 at *
 have q0:=HBX.out.cell 0
 simp only [zA,zB] at q0
 go_loopw [6] (fun v wr=>∃ j:Nat,j≤p∧v=.int .i64 (j:Nat)∧wr=w1) (fun v _=>n - (intOf v).toNat)
 case atStart=>exact ⟨0,Nat.zero_le _,rfl,rfl⟩
 case round =>
  obtain ⟨j,hj,rfl,rfl⟩:=hrel
  by_cases hlt:j<p
  ·have hjl:j<O.length:=by omega
   have hjn:(j:Int)<(n:Int):=by omega
   have hle:=Hlt.out j hlt hjl
   obtain ⟨tb,tq,rfl,htb,hd0,_⟩:=H1.out.at_ hjl
   generalize O[j].1.1=y at *
   go_wp2
   go_roundw
   case rel=>exact ⟨j+1,by omega,by go_num,by first | rfl | trivial⟩
   case measure=>simp [intOf]; omega
  ·obtain rfl:j=p:=by omega
   by_cases hpl:j<O.length
   ·have hjn:(j:Int)<(n:Int):=by omega
    have hge:=Hat.out hpl
    obtain ⟨tb,tq,rfl,htb,hd0,_⟩:=H1.out.at_ hpl
    have hgg:(g=true↔O[j].1.1=i):=by
     rw [Hg.out]
     exact ⟨fun ⟨_,e⟩=>e,fun e=>⟨hpl,e⟩⟩
    have HGG:=zh hgg
    clear hgg Hg Hlt Hat
    generalize O[j].1.1=y at *
    have hd1:decide ((j:Int)<(n:Int))=true:=by simpa using hjn
    by_cases he:y=i
    ·have hgt:=HGG.out.2 he
     subst hgt
     subst he
     have hd2:(y == y)=true:=by simp
     go_wp2_with fail
     go_quiet (fail)
     go_wp2
     go_ret2
     exact ⟨rfl,Mx.below_dN HB1.out _⟩
    ·have hgf:g=false:=by
      cases g with
      | false=>rfl
      | true=>exact absurd (HGG.out.1 rfl) he
     subst hgf
     have hd2:(y == i)=false:=beq_eq_false_iff_ne.2 he
     go_wp2_with fail
     go_quiet (fail)
     go_wp2
     go_ret2
     exact ⟨rfl,Mx.below_dN HB1.out _⟩
   ·obtain rfl:j=n:=by omega
    have hgf:g=false:=by
     cases g with
     | false=>rfl
     | true=>obtain ⟨h2,_⟩:=Hg.out.1 rfl; exact absurd h2 hpl
    subst hgf
    have hd1:decide ((j:Int)<(j:Int))=false:=by simp
    go_wp2_with fail
    go_quiet (fail)
    go_wp2
    go_ret2
    exact ⟨rfl,Mx.below_dN HB1.out _⟩
end Go.Proofs.YtlfpfkallgkjdaaGreat.Al
end

section
namespace Go.Proofs.YtlfpfkallgkjdaaGreat.Al
open Go.RowKit Go.Maps Ut Tk Qy Qp Ev Mv
theorem blk_setCells {T:TypeId} {g:Nat}:∀ (vs:List Value) (o:Nat) (w:World) (cs:Array Value),Blk w g T cs→∃ cs',Blk (w.setCells g o vs) g T cs'∧cs'.size=cs.size∧(∀ k,k<o→cs'[k]?=cs[k]?)∧w.grownBy (w.setCells g o vs) (some g)
 | [],o,w,cs,h=>⟨cs,h,rfl,fun _ _=>rfl,grownBy_refl _ _⟩
 | v :: vs,o,w,cs,h=>by
  obtain ⟨cs',h1,h2,h3,h4⟩:=blk_setCells vs (o+1) (w.setCell ⟨g,o,none⟩ v) _ (h.set_ o v)
  refine ⟨cs',h1,by rw [h2]; simp,fun k hk=>?_,grownBy_trans (grownBy_set w g o v) h4⟩
  rw [h3 k (by omega),Array.getElem?_setIfInBounds]
  rw [if_neg (by omega)]
structure Stg (w wr:World) (g cap:Nat) (L K:List Int) (j:Nat):Prop where
 ex:∃ cs,Blk wr g 3 cs∧cs.size=cap∧(∀ k (h:k<K.length),cs[k]?=some (.int .i64 K[k]))∧∀ k (h:k<L.length),j≤k→cs[k]?=some (.int .i64 L[k])
 gr:w.grownBy wr (some g)
theorem Stg.below {w wr w2:World} {g cap j:Nat} {L K:List Int} (h:Stg w wr g cap L K j) (hb:Below wr.heap.size wr w2):Stg w w2 g cap L K j:=by
 obtain ⟨cs,h1,h2⟩:=h.ex
 exact ⟨⟨cs,h1.below hb h1.lt,h2⟩,grownBy_below h.gr hb⟩
theorem Stg.next {w wr:World} {g cap j:Nat} {L K:List Int} (h:Stg w wr g cap L K j):Stg w wr g cap L K (j+1):=by
 obtain ⟨cs,h1,h2,h3,h4⟩:=h.ex
 exact ⟨⟨cs,h1,h2,h3,fun k hk hj=>h4 k hk (by omega)⟩,h.gr⟩
theorem Stg.put {w wr:World} {g cap j:Nat} {L K:List Int} (h:Stg w wr g cap L K j) (hK:K.length≤j) (hj:j<L.length) (hcap:L.length≤cap) (x:Int):Stg w (wr.setCell ⟨g,K.length,none⟩ (.int .i64 x)) g cap L (K ++ [x]) (j+1):=by
 obtain ⟨cs,h1,h2,h3,h4⟩:=h.ex
 refine ⟨⟨_,h1.set_ K.length _,by simpa using h2,fun k hk=>?_,fun k hk hj2=>?_⟩,grownBy_trans h.gr (grownBy_set wr g _ _)⟩
 ·rw [Array.getElem?_setIfInBounds]
  by_cases e:K.length=k
  ·subst e
   rw [if_pos rfl,if_pos (by omega)]
   simp
  ·rw [if_neg e]
   have hk2:k<K.length:=by simp at hk; omega
   rw [h3 k hk2,List.getElem_append_left hk2]
 ·rw [Array.getElem?_setIfInBounds,if_neg (by omega)]
  exact h4 k hk (by omega)
theorem Stg.own {w wr:World} {base g cap j:Nat} {L K:List Int} (h:Stg w wr g cap L K j) (hbase:base≤g) (hK:K.length≤cap) (hm:cap≤maxLen):wr.ownsRow base 3 1 (.slice (some ⟨g,0,none⟩) K.length cap) K.length (itv K):=by
 obtain ⟨cs,h1,h2,h3,h4⟩:=h.ex
 refine ⟨by rw [itv_len,Nat.mul_one],.inr ⟨g,cap,cs,rfl,hbase,h1,hK,hm,by rw [h2,Nat.mul_one],?_⟩⟩
 apply List.ext_getElem?
 intro k
 rw [Nat.mul_one]
 by_cases hk:k<K.length
 ·rw [List.getElem?_take_of_lt hk,Array.getElem?_toList,h3 k hk,itv_get K k hk]
 ·rw [List.getElem?_take_eq_none (by omega),List.getElem?_eq_none (by rw [itv_len]; omega)]
def keepL (d:Int→Bool) (L:List Int):List Int:=L.filter (fun x=>!d x)
theorem keepL_snoc (d:Int→Bool) (L:List Int) (x:Int):keepL d (L ++ [x])=keepL d L ++ (if d x then [] else [x]):=by
 unfold keepL
 rw [List.filter_append]
 cases h:d x <;> simp [h]
theorem keepL_le (d:Int→Bool) (L:List Int):(keepL d L).length≤L.length:=List.length_filter_le _ _
theorem keepL_all {d:Int→Bool} {L:List Int} (h:∀ x∈L,d x=false):keepL d L=L:=List.filter_eq_self.2 (fun x hx=>by rw [h x hx]; rfl)
def DelP (w:World) (base:Nat) (v:Value) (K:List Int) (e:Ending) (w':World):Prop:=∃ v',e=.returned v'∧w'.ownsRow base 3 1 v' K.length (itv K)∧w.grownBy w' v.ownBlock∧v'.ownBlock=v.ownBlock
theorem idxF_is (p:Nat→Bool) (n:Nat):(idxF p n=-1∧∀ j,j<n→p j=false)∨∃ k,k<n∧idxF p n=(k:Int)∧p k=true∧∀ j,j<k→p j=false:=by
 by_cases h:∃ k,k<n∧p k=true
 ·right
  have h2:∃ k,k<n∧p k=true∧∀ j,j<k→p j=false:=by
   obtain ⟨k,hk⟩:=h
   induction k using Nat.strongRecOn with
   | ind k ih =>
    by_cases c:∃ j,j<k∧p j=true
    ·obtain ⟨j,hj,hp⟩:=c
     exact ih j hj ⟨by omega,hp⟩
    ·refine ⟨k,hk.1,hk.2,fun j hj=>?_⟩
     cases e:p j with
     | false=>rfl
     | true=>exact absurd ⟨j,hj,e⟩ c
  obtain ⟨k,h1,h2,h3⟩:=h2
  exact ⟨k,h1,idxF_hit p n k h1 h3 h2,h2,h3⟩
 ·left
  have h2:∀ j,j<n→p j=false:=fun j hj=>by
   cases e:p j with
   | false=>rfl
   | true=>exact absurd ⟨j,hj,e⟩ h
  exact ⟨idxF_no p n h2,h2⟩
set_option maxHeartbeats 3200000 in
theorem del_any {w:World} {base:Nat} {v:Value} {L:List Int} (hown:w.ownsRow base 3 1 v L.length (itv L)) (hll:L.length≤4294967296) (f:Nat) (lb:Array Value) (d:Int→Bool) (hcf:∀ args wx,(callFunc f args).run Tryz.prog wx=.ok (.enter f args) wx)
  (hf:∀ x∈L,∀ wx,w.grownBy wx v.ownBlock→Calls Tryz.prog f (#[.int .i64 x] ++ lb) wx fun e w'=>e=.returned (.bool (d x))∧Below wx.heap.size wx w') :
  Calls Tryz.prog 44 #[v,.func (.func f) #[] lb] w (DelP w base v (keepL d L)):=by
 obtain ⟨A0,c0,rfl,hrd,_⟩:=Ev.own_shape2 hown
 have c1:=indexInt A0 L.length c0 L f lb (fun i=>d (L.getD i 0)) w hcf hrd rfl (by omega) (fun i hi wx hb=>by
  rw [List.getD_eq_getElem?_getD,List.getElem?_eq_getElem hi]
  exact hf _ (List.getElem_mem hi) wx (grow_of_below hb _))
 rcases idxF_is (fun i=>d (L.getD i 0)) L.length with ⟨hz,hno⟩ | ⟨k,hk,hz,hyes,hno⟩
 ·rw [hz] at c1
  have hkp:keepL d L=L:=keepL_all (fun x hx=>by
   obtain ⟨i,hi,rfl⟩:=List.mem_iff_getElem.1 hx
   have:=hno i hi
   rw [List.getD_eq_getElem?_getD,List.getElem?_eq_getElem hi] at this
   exact this)
  rw [hkp]
  have FIN:Hid (∀ w2,Below w.heap.size w w2→DelP w base (.slice A0 L.length c0) L (.returned (.slice A0 L.length c0)) w2):=zh (fun w2 hb=>⟨_,rfl,hown.kept (grow_of_below hb none) (by cases Value.ownBlock _ <;> simp),grow_of_below hb _,rfl⟩)
  clear hown hrd hno hkp hf hz
  go_enter Tryz.func44,Tryz.ntmps44
  go_wp2_with fail
  refine c1.mono ?_
  rintro e w2 ⟨rfl,hb2⟩
  go_wp2
  go_ret
  exact FIN.out _ hb2
 ·rw [hz] at c1
  obtain ⟨m0,hm0⟩:∃ m0,L.length=m0+1:=⟨L.length - 1,by omega⟩
  rcases hown.2 with ⟨hnil,h0⟩ | ⟨g,cap,cur,hv,hbase,hb,h1,h2,h3,h4⟩
  ·omega
  injection hv with hA hn hc
  subst hA hc
  have hstart:Stg w w g c0 L (L.take k) k:=by
   refine ⟨⟨cur,hb,by rw [h3,Nat.mul_one],fun q hq=>?_,fun q hq hj=>?_⟩,grownBy_refl _ _⟩
   ·have hq2:q<L.length:=by rw [List.length_take] at hq; omega
    have e:=congrArg (fun (l:List Value)=>l[q]?) h4
    simp only [Nat.mul_one] at e
    rw [List.getElem?_take_of_lt hq2,Array.getElem?_toList,itv_get L q hq2] at e
    rw [e,List.getElem_take]
   ·have e:=congrArg (fun (l:List Value)=>l[q]?) h4
    simp only [Nat.mul_one] at e
    rw [List.getElem?_take_of_lt hq,Array.getElem?_toList,itv_get L q hq] at e
    exact e
  have hkk:keepL d (L.take (k+1))=L.take k:=by
   rw [List.take_succ_eq_append_getElem hk,keepL_snoc]
   have h5:d L[k]=true:=by
    rw [List.getD_eq_getElem?_getD,List.getElem?_eq_getElem hk] at hyes
    exact hyes
   rw [h5,if_pos rfl,List.append_nil]
   exact keepL_all (fun x hx=>by
    obtain ⟨i,hi,rfl⟩:=List.mem_iff_getElem.1 hx
    rw [List.length_take] at hi
    rw [List.getElem_take]
    have:=hno i (by omega)
    rw [List.getD_eq_getElem?_getD,List.getElem?_eq_getElem (by omega)] at this
    exact this)
  have HST:=zh hstart.next
  have HKK:=zh hkk
  have HF:=zh hf
  have hob:(Value.slice (some ⟨g,0,none⟩) L.length c0).ownBlock=some g:=rfl
  have HOB:=zh hob
  have h2':=h2
  clear hown hrd hno hyes hz hf hstart hkk h4 hb h3 hn hob hm0 h2
  go_enter Tryz.func44,Tryz.ntmps44
  go_wp2_with fail
  refine c1.mono ?_
  rintro e w2 ⟨rfl,hb2⟩
  have HST2:=zh (HST.out.below hb2)
  clear c1 hb2 HST
  go_wp2_with fail
  go_loopw [5,6] (fun a b wr=>∃ j:Nat,k+1≤j∧j≤L.length∧a=.int .i64 ((keepL d (L.take j)).length:Nat)∧b=.int .i64 j∧Hid (Stg w wr g c0 L (keepL d (L.take j)) j)) (fun _ b _=>L.length - (intOf b).toNat)
  case atStart =>
   refine ⟨k+1,zG _,by omega,?_,by go_num,?_⟩
   ·rw [HKK.out,List.length_take,Nat.min_eq_left (by omega)]
   ·rw [HKK.out]; exact HST2
  case round =>
   obtain ⟨j,hkj,hjl,rfl,rfl,hS⟩:=hrel
   have hkle:(keepL d (L.take j)).length≤j:=Nat.le_trans (keepL_le d _) (by rw [List.length_take]; omega)
   by_cases hlt:j<L.length
   ·obtain ⟨cs,q1,q2,q3,q4⟩:=hS.out.ex
    have hcj:=q1.cell j
    rw [q4 j hlt (zG _)] at hcj
    have hts:L.take (j+1)=L.take j ++ [L[j]]:=List.take_succ_eq_append_getElem hlt
    have hsn:=keepL_snoc d (L.take j) L[j]
    rw [← hts] at hsn
    have HSN:=zh hsn
    have CF:=zh (HF.out L[j] (List.getElem_mem hlt) _ (by rw [HOB.out]; exact hS.out.gr))
    have HSP:=zh (hS.out.next)
    have HPUT:Hid (∀ wz,Below wr.heap.size wr wz→Stg w (wz.setCell ⟨g,(keepL d (L.take j)).length,none⟩ (.int .i64 L[j])) g c0 L (keepL d (L.take j) ++ [L[j]]) (j+1)):=zh (fun wz hb=>(hS.out.below hb).put hkle hlt h1 L[j])
    have HBK:Hid (∀ wz,Below wr.heap.size wr wz→(wz.cell? ⟨g,(keepL d (L.take j)).length,none⟩).isSome=true∧wz.frozen? ⟨g,(keepL d (L.take j)).length,none⟩=false):=zh (fun wz hb=>by
     have r:=q1.below hb q1.lt
     refine ⟨?_,r.frozen _⟩
     rw [r.cell,Array.getElem?_eq_getElem (by omega)]; rfl)
    have hlt':(j:Int)<(L.length:Int):=by omega
    clear q1 q2 q3 q4 hts hsn
    generalize hkl:keepL d (L.take j)=K at *
    clear hkl
    generalize L[j]=x at *
    cases hd:d x with
    | true =>
     rw [hd] at CF
     have e1:keepL d (L.take (j+1))=K:=by rw [HSN.out,hd]; simp
     have HE:=zh e1
     clear hd e1 HSN
     go_wp2_with fail
     refine CF.out.mono ?_
     rintro e w5 ⟨rfl,hb5⟩
     have HS5:=zh (HSP.out.below hb5)
     clear hb5 CF HPUT HBK hcj
     go_wp2
     refine ⟨?_,?measure⟩
     (repeat apply Exists.intro)
     refine ⟨?rel,rfl⟩
     case rel=>exact ⟨j+1,by omega,by omega,by rw [HE.out],by go_num,by rw [HE.out]; exact HS5⟩
     case measure=>simp [intOf]; omega
    | false =>
     rw [hd] at CF
     have e1:keepL d (L.take (j+1))=K ++ [x]:=by rw [HSN.out,hd]; simp
     have HE:=zh e1
     clear hd e1 HSN
     go_wp2_with fail
     refine CF.out.mono ?_
     rintro e w5 ⟨rfl,hb5⟩
     have HS5:=zh (HPUT.out w5 hb5)
     obtain ⟨hk1,hk2⟩:=HBK.out w5 hb5
     obtain ⟨u9,hk1⟩:=Option.isSome_iff_exists.1 hk1
     have hKlt:(K.length:Int)<(L.length:Int):=by omega
     clear hb5 CF HPUT HBK hcj
     go_wp2
     refine ⟨?_,?measure⟩
     (repeat apply Exists.intro)
     refine ⟨?rel,rfl⟩
     case rel=>exact ⟨j+1,by omega,by omega,by rw [HE.out,List.length_append]; go_num,by go_num,by rw [HE.out]; exact HS5⟩
     case measure=>simp [intOf]; omega
   ·obtain rfl:j=L.length:=by omega
    rw [List.take_length] at hS hkle
    simp only [List.take_length]
    obtain ⟨cs,q1,q2,q3,q4⟩:=hS.out.ex
    have hKle:(keepL d L).length≤c0:=by omega
    have hlast:(keepL d L).length<L.length:=by
     have e1:keepL d L=keepL d (L.take (k+1)) ++ keepL d (L.drop (k+1)):=by
      unfold keepL
      rw [← List.filter_append,List.take_append_drop]
     have e2:=keepL_le d (L.drop (k+1))
     rw [e1,HKK.out,List.length_append,List.length_take]
     rw [List.length_drop] at e2
     omega
    ·have hcl:=fun ty=>Lib.run_clear_slice (P:=Tryz.prog) wr 38 3 ty (.int .i64 0) Tryz.underlying38 Tryz.zeroValue3 rfl rfl g (keepL d L).length (L.length - (keepL d L).length) (c0 - (keepL d L).length) (by omega)
      (fun t ht=>by rw [q1.cell,Array.getElem?_eq_getElem (by omega)]; rfl) (fun t ht=>q1.frozen _)
     obtain ⟨cs',r1,r2,r3,r4⟩:=blk_setCells (List.replicate (L.length - (keepL d L).length) (.int .i64 0)) (keepL d L).length wr cs q1
     have hSF:Stg w (wr.setCells g (keepL d L).length (List.replicate (L.length - (keepL d L).length) (.int .i64 0))) g c0 L (keepL d L) L.length:=⟨⟨cs',r1,by omega,fun q hq=>by rw [r3 q hq]; exact q3 q hq,fun q hq hj=>by omega⟩,grownBy_trans hS.out.gr r4⟩
     have FIN:Hid (DelP w base (.slice (some ⟨g,0,none⟩) L.length c0) (keepL d L) (.returned (.slice (some ⟨g,0,none⟩) (keepL d L).length c0)) (wr.setCells g (keepL d L).length (List.replicate (L.length - (keepL d L).length) (.int .i64 0)))):=zh ⟨_,rfl,hSF.own hbase hKle h2',hSF.gr,rfl⟩
     have hlast':((keepL d L).length:Int)<(L.length:Int):=by omega
     clear q1 q2 q3 q4 r1 r2 r3 r4 hSF hS
     generalize (keepL d L).length=kn at *
     go_wp2
     go_ret
     exact FIN.out
end Go.Proofs.YtlfpfkallgkjdaaGreat.Al
end
