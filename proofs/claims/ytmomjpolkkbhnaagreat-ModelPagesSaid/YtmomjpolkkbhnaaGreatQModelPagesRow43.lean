/- What follows a cursor rises. (No walk.) -/
import Derived.Deep.CutRange
import Derived.Test.YtmomjpolkkbhnaaGreatQModelPagesRow41
import Derived.Test.YtmomjpolkkbhnaaGreatQModelPagesRow42
import Derived.Test.YtmomjpolkkbhnaaGreatQModelPagesRow32
import Derived.Test.YtmomjpolkkbhnaaGreatQModelPagesRow35
import Derived.Test.YtmomjpolkkbhnaaGreatQModelPagesRow0
set_option linter.unusedSimpArgs false
set_option linter.unusedVariables false
set_option maxRecDepth 20000
section
namespace Go.Proofs.YtmomjpolkkbhnaaGreat.Md
open Go.RowKit Ut Tk Qy Qp Ev Cu
theorem last_ok:∀ (out:List Dc) (a:Int),a≤lastP a out∧(∀ d∈out,d.seq≤lastP a out)∧∀ b,a≤b→(∀ d∈out,d.seq≤b)→lastP a out≤b
 | [],a=>⟨Int.le_refl _,fun d hd=>(nomatch hd),fun b hb _=>hb⟩
 | x :: out,a=>by
  obtain ⟨h1,h2,h3⟩:=last_ok out (max a x.seq)
  have e:lastP a (x :: out)=lastP (max a x.seq) out:=rfl
  rw [e]
  refine ⟨by omega,fun d hd=>?_,fun b hb hs=>h3 b (by have:=hs x (by simp); omega) (fun d hd=>hs d (by simp [hd]))⟩
  rcases List.mem_cons.1 hd with rfl | hd
  ·omega
  ·exact h2 d hd
structure FolOk (a k l:Int) (p:List Dc × Int):Prop where
 len:(p.1.length:Int)≤l
 low:∀ d∈p.1,a<d.seq∧d.seq≤p.2
 up:p.1.Pairwise (fun x y=>x.seq<y.seq)
 ge:a≤p.2
 le:p.2≤max a k
theorem fol_ok {a k l:Int} {U:List Dc} (hl : 1≤l) (hU:U.Pairwise (fun x y=>x.seq<y.seq)):FolOk a k l (folP a k l U):=by
 unfold folP
 rw [if_neg (by omega)]
 have hm:∀ d∈outP a k l U,a<d.seq∧d.seq≤k:=fun d hd=>by
  have h1:=(List.mem_filter.1 (List.mem_of_mem_take hd)).2
  simpa using h1
 obtain ⟨g1,g2,g3⟩:=last_ok (outP a k l U) a
 refine ⟨?_,fun d hd=>⟨(hm d hd).1,?_⟩,?_,?_,?_⟩
 ·show ((outP a k l U).length:Int)≤l
  unfold outP
  rw [List.length_take]
  omega
 ·show d.seq≤if ((outP a k l U).length:Int)<l then max a k else lastP a (outP a k l U)
  split
  ·have:=(hm d hd).2; omega
  ·exact g2 d hd
 ·exact ((hU.filter _).sublist (List.take_sublist _ _))
 ·show a≤if ((outP a k l U).length:Int)<l then max a k else lastP a (outP a k l U)
  split
  ·omega
  ·exact g1
 ·show (if ((outP a k l U).length:Int)<l then max a k else lastP a (outP a k l U))≤max a k
  split
  ·exact Int.le_refl _
  ·exact g3 _ (by omega) (fun d hd=>by have:=(hm d hd).2; omega)
theorem up_up {m:M} (h:Ok m) (p:Dc→Bool):(upL m p).Pairwise (fun x y=>x.seq<y.seq):=(ok_up h).filter _
theorem enc_pos (a:Nat) (q:List UInt8) : 0<(Cu.enc a q).length:=by
 rw [Cu.enc_len]
 omega
theorem encN_ok {a:Int} {q:ByteArray} (h:IsC a q):encN a q=0:=by unfold encN; rw [if_pos h]
theorem encL_ok {a:Int} {q:ByteArray} (h:IsC a q):DecR (encL a q) a q 0∧0<(encL a q).length∧(encL a q).length≤2000:=by
 obtain ⟨n,rfl⟩:∃ n:Nat,a=(n:Int):=⟨a.toNat,by have:=h.1; omega⟩
 have e:encL (n:Int) q=Cu.enc n q.data.toList:=by unfold encL; rw [if_pos h]; rfl
 rw [e]
 refine ⟨.inl ⟨n,rfl,h,rfl,rfl⟩,enc_pos _ _,?_⟩
 rw [Cu.enc_len,bsize]
 have:=h.short
 omega
theorem tl_use {w':World} {m:M} {r:Rq} {base:Nat} {cs:Array Value} {a:Int} {q:ByteArray} (h:TlR w' m r base cs) (hI:IsC a q) (hc:r.cur=encL a q) (h1 : 1≤r.lim) (h2:r.lim≤5) (ho:Ok m) (hk:m.ds.length≤1048576) :
  ∃ p,FolOk a m.acked r.lim p∧IsC p.2 q∧∃ A c v,DW w' (.slice A p.1.length c) p.1∧w'.ownsRow base 5 1 v (encL p.2 q).length (bv (encL p.2 q))∧cs=rsC 0 0 0 (.slice A p.1.length c) nil v 0 0 0 0:=by
 obtain ⟨a',q',E,hd,hh⟩:=h
 rw [hc] at hd
 obtain ⟨rfl,rfl,rfl⟩:=(encL_ok hI).1.det hd
 have hl:limB r.lim=true:=by unfold limB; simp; omega
 rcases hh with ⟨h,_⟩ | ⟨_,h,_⟩ | ⟨qq,p,_,_,_,hp,hx⟩
 ·exact absurd rfl h
 ·rw [hl] at h; cases h
 ·have hf:FolOk a m.acked r.lim p:=hp ▸ fol_ok h1 (up_up ho _)
  have hI2:IsC p.2 q:=⟨by have:=hf.ge; have:=hI.1; omega,by have:=hf.le; have:=hI.2.1; have:=ho.ak.2; omega,hI.2.2⟩
  rcases hx with ⟨h,_⟩ | ⟨_,A,c,v,h3,h4,h5⟩
  ·exact absurd (encN_ok hI2) h
  ·exact ⟨p,hf,hI2,A,c,v,h3,h4,h5⟩
theorem rq_cur {w:World} (r:Rq) {A:Option Addr} {n c:Nat} (h1:r.evs=[]) (h2:Reads w w.heap.size 1 A n (bv r.cur)) (h5:n≤140737488351232∧n≤c∧(A=none→c=0)) (h3:I64 r.now) (h4:r.width≤9223372036854775807):RqAt w r ⟨none,0,0,A,n,c⟩ :=
 ⟨⟨by rw [h1]; rfl,by show (0:Nat)≤4398046511104; decide,zG _,[],rfl,Reads.none_,fun i h=>absurd h (by rw [h1]; simp)⟩,h2,h5,fun e he=>absurd (h1 ▸ he) (by simp),h3,h4⟩
theorem own_cap {w:World} {base:Nat} {e:TypeId} {size n c:Nat} {A:Option Addr} {xs:List Value} (h:w.ownsRow base e size (.slice A n c) n xs):n≤c∧(A=none→c=0):=by
 obtain ⟨A',c',e,_,h1,h2,_⟩:=Ev.own_shape2 h
 cases e
 exact ⟨h1,h2⟩
theorem pw_drop {ds:List Dc} (h:ds.Pairwise (fun x y=>x.seq<y.seq)) {j:Nat} (hj:j<ds.length):∀ d∈ds.drop (j+1),ds[j].seq<d.seq:=by
 rw [← List.take_append_drop j ds,List.drop_eq_getElem_cons hj] at h
 exact fun d hd=>(List.pairwise_cons.1 (List.pairwise_append.1 h).2.1).1 d hd
structure StepsAt (w:World) (A:Option Addr) (n c:Nat) (L:List Rq):Prop where
 ln:L.length=n
 few:n≤4398046511104
 ex:∀ i (h:i<L.length),∃ b o z,A=some ⟨b,o,none⟩∧b<w.heap.size∧(∀ j u,(rqC L[i] z)[j]?=some u→w.cell? ⟨b,o+i * 12+j,none⟩=some u)∧RqAt w L[i] z
structure StepsT (w:World) (A:Option Addr) (n:Nat) (T:List Bool):Prop where
 ln:T.length=n
 ex:∀ i (h:i<T.length),∃ b o,A=some ⟨b,o,none⟩∧b<w.heap.size∧w.cell? ⟨b,o+i * 12+11,none⟩=some (.bool T[i])
theorem StepsAt.below {w w':World} {A:Option Addr} {n c:Nat} {L:List Rq} (h:StepsAt w A n c L) (hb:Below w.heap.size w w'):StepsAt w' A n c L:=⟨h.ln,h.few,fun i hi=>by
 obtain ⟨b,o,z,e,hlt,hc,hr⟩:=h.ex i hi
 exact ⟨b,o,z,e,Nat.lt_of_lt_of_le hlt hb.size,fun j u hj=>(hb.cell (p:=⟨b,o+i * 12+j,none⟩) hlt).trans (hc j u hj),hr.below hb⟩⟩
theorem chg_own {n0 X K base k n:Nat} {v u:Value} {m:M} {w w':World} {T:TypeId} {xs:List Value} (h:Chg (fun b=>b=X∨v.ownBlock=some b) w w') (hA:At w n0 X K v m) (ho:w.ownsRow base T k u n xs) (h1:T≠81) (h2:T≠48):w'.ownsRow base T k u n xs :=
 own_same ho (fun b hb=>h.block b (tg_own ho hb).lt (fun hk=>by
  rcases hk with rfl | hk
  ·exact h1 ((tg_own ho hb).one ⟨_,_,hA.blk⟩)
  ·obtain ⟨vss,_,g2,_⟩:=hA.own.ex
   exact h2 ((tg_own ho hb).one (tg_own g2 hk))))
end Go.Proofs.YtmomjpolkkbhnaaGreat.Md
end

section
namespace Go.Proofs.YtmomjpolkkbhnaaGreat.Md
open Go.RowKit Ut Tk Qy Qp Ev Cu
set_option maxHeartbeats 25600000 in
theorem pages_any (q0:ByteArray) (st:Int) (hst : 0≤st∧st≤255) (A:Option Addr) (n c:Nat) (L:List Rq) (LA:Option Addr) (ln lc:Nat) (zs:List Int) (w:World) (hL:StepsAt w A n c L) (hZ:Reads w w.heap.size 1 LA ln (zs.map (Value.int .u8))) (hzl:zs.length=ln) (hz8:∀ x∈zs,0≤x∧x≤255) :
  Calls Tryz.prog 4 #[.string q0,.int .u8 st,.slice A n c,.slice LA ln lc] w fun e w'=>e=.returned (.bool true)∧Below w.heap.size w w':=by
 have HL:=zh hL
 have HZ:=zh hZ
 have HZL:=zh hzl
 have HZ8:=zh hz8
 have hLn:=hL.ln
 have hLf:=hL.few
 clear hL hZ hzl hz8
 go_enter Tryz.func4,Tryz.ntmps4
 go_wp2_with fail
 refine (conf_any w).mono ?_
 rintro e w1 ⟨rfl,hb1⟩
 have HB1:=zh hb1
 clear hb1
 go_wp2_with fail
 refine (new_any conf (by decide) w1).mono ?_
 rintro e w2 hN
 rcases hN with ⟨_,X,rfl,hX,hA,hb2⟩ | ⟨h,_⟩
 case inr=>exact absurd conf_ok h
 have HB2:=zh (HB1.out.trans (hb2.mono HB1.out.size))
 have HA2:=zh hA
 have hs1:=HB1.out.size
 clear hA hb2
 go_wp2_with fail
 refine (awake_any w2).mono ?_
 rintro e w3 ⟨rfl,hb3⟩
 have HB3:=zh (HB2.out.trans (hb3.mono HB2.out.size))
 have HA3:=zh (HA2.out.below hb3)
 clear hb3 HA2
 go_upto_if 37 with (fail)
 go_cut [0] from 35 to 39 (fun v wx=>∃ q:ByteArray,v=.string q∧w3=wx)
 case first =>
  by_cases hs : 1024<q0.size
  ·have hs':(1024:Int)<(q0.size:Int):=by omega
   go_wp2_with fail
   go_meet
   exact ⟨_,rfl,rfl⟩
  ·have hs':¬ (1024:Int)<(q0.size:Int):=by omega
   go_wp2_with fail
   go_meet
   exact ⟨_,rfl,rfl⟩
 case rest =>
 obtain ⟨q,rfl,rfl⟩:=hcut
 have hwst:IntKind.i64.wrap st=st:=by rw [IntKind.wrap_i64]; omega
 have CD:=zh (do_any HA3.out (by decide : 0≤59000) hX { rq0 with op:=9,q:=q,after:=st } _ (rq_nil { rq0 with op:=9,q:=q,after:=st } rfl rfl ⟨by show (-9223372036854775808:Int)≤0; decide,by show (0:Int)≤9223372036854775807; decide⟩ (by show (0:Int)≤9223372036854775807; decide)))
 go_wp2_with fail
 refine CD.out.mono ?_
 rintro e w5 ⟨v5,m5,cs,rfl,hR,hA5,hc5,hbl,_⟩
 obtain ⟨rfl,E,o,hp,hcase⟩:=hR.k9 rfl
 obtain ⟨hb5,_⟩:=hbl (by show (7:Int)≤9; decide)
 have HB5:=zh (HB3.out.trans (hb5.mono HB3.out.size))
 have HA5:=zh hA5
 have HP:=zh hp
 clear hR hc5 hbl hb5 CD hA5
 have hIs:E=0→IsC st q:=fun hE=>⟨hst.1,by omega,o,hE ▸ hp⟩
 have hen:E=0→encN st q=0:=fun hE=>by unfold encN; rw [if_pos (hIs hE)]
 rcases hcase with ⟨hE,rfl⟩ | ⟨hE,hne,_⟩ | ⟨v9,hE,he0,ho9,rfl⟩
 ·have hb6:Below w5.heap.size w5 (w5.alloc (.cells (rsC E 0 0 nil nil nil 0 0 0 0) 42)):=(Below.refl _ _).alloc (zG _) _
  have HBa:=zh (Blk.new w5 42 (rsC E 0 0 nil nil nil 0 0 0 0))
  have HB6:=zh (HB5.out.trans (hb6.mono HB5.out.size))
  have HE:=zh hE
  clear hb6 hIs hen hp hE
  go_upto_region 7 with (fail)
  generalize w5.alloc (.cells (rsC E 0 0 nil nil nil 0 0 0 0) 42)=w6 at *
  go_wp2_with fail
  refine (parse_rf q w6).mono ?_
  rintro e w7 ⟨E',o',a0,a1,a2,a3,hp,rfl,hF,hb7⟩
  obtain ⟨rfl,rfl⟩:=HP.out.det hp
  obtain ⟨A1,n1,c1,A2,n2,c2,e4⟩:=hF.four
  simp only [List.cons.injEq,and_true] at e4
  obtain ⟨rfl,rfl,rfl,rfl⟩:=e4
  have HB7:=zh ((HB6.out.trans (hb7.mono HB6.out.size)).alloc (by have:=HB6.out.size; have:=hb7.size; omega) (.cells #[.int .i64 (o.getD noQ).kind,.string (o.getD noQ).name,.slice A1 n1 c1,.slice A2 n2 c2] 60))
  have hba7:=(HBa.out.below hb7 HBa.out.lt).alloc (.cells #[.int .i64 (o.getD noQ).kind,.string (o.getD noQ).name,.slice A1 n1 c1,.slice A2 n2 c2] 60)
  have a0:=hba7.cell 0
  simp only [rsC,zA,zB,zC] at a0
  have hE2:(E != 0)=true:=by have:=HE.out; simpa using this
  have hEE:(E == E)=true:=by simp
  clear hF hb7 hp hba7 HP HE
  generalize (o.getD noQ).kind=z5 at *
  generalize (o.getD noQ).name=z6 at *
  go_wp2
  go_ret
  exact ⟨rfl,HB7.out⟩
 ·exact absurd (hen hE) hne
 ·subst hE
  have hIS:=hIs rfl
  obtain ⟨A9,c9,rfl,_⟩:=Ev.own_shape2 ho9
  have HIS:=zh hIS
  have HO9:=zh ho9
  clear hIs hen hp he0 ho9 hIS
  obtain ⟨bs,hbs⟩:∃ bs,encL st q=bs:=⟨_,rfl⟩
  rw [hbs] at HO9 ⊢
  have HBS:=zh hbs
  clear hbs
  have hb6:Below w5.heap.size w5 (w5.alloc (.cells (rsC 0 0 0 nil nil (.slice A9 bs.length c9) 0 0 0 0) 42)):=(Below.refl _ _).alloc (zG _) _
  have HBa:=zh (Blk.new w5 42 (rsC 0 0 0 nil nil (.slice A9 bs.length c9) 0 0 0 0))
  have HB6:=zh (HB5.out.trans (hb6.mono HB5.out.size))
  have HA6:=zh (HA5.out.below hb6)
  have HO6:=zh (HO9.out.kept (grow_of_below hb6 none) (by cases hv:(Value.slice A9 bs.length c9).ownBlock <;> simp))
  clear hb6 HA5 HO9
  go_upto_region 7 with (fail)
  generalize hba:w5.heap.size=ba at *
  generalize w5.alloc (.cells (rsC 0 0 0 nil nil (.slice A9 bs.length c9) 0 0 0 0) 42)=w6 at *
  clear hba
  go_wp2_with fail
  refine (parse_rf q w6).mono ?_
  rintro e w7 ⟨E',o',a0,a1,a2,a3,hp,rfl,hF,hb7⟩
  obtain ⟨rfl,rfl⟩:=hp.det HP.out
  obtain ⟨A1,n1,c1,A2,n2,c2,e4⟩:=hF.four
  simp only [List.cons.injEq,and_true] at e4
  obtain ⟨rfl,rfl,rfl,rfl⟩:=e4
  have hb8:=hb7.trans ((((Below.refl w7.heap.size w7).alloc (zG _) (.cells #[.int .i64 (o'.getD noQ).kind,.string (o'.getD noQ).name,.slice A1 n1 c1,.slice A2 n2 c2] 60))).mono hb7.size)
  have HB8:=zh (HB6.out.trans (hb8.mono HB6.out.size))
  have HA8:=zh (HA6.out.below hb8)
  have HO8:=zh (HO6.out.kept (grow_of_below hb8 none) (by cases hv:(Value.slice A9 bs.length c9).ownBlock <;> simp))
  have HBa8:=zh (HBa.out.below hb8 HBa.out.lt)
  clear hF hb7 hp hb8 HA6 HO6 HBa HB6
  generalize (o'.getD noQ).kind=z5 at *
  generalize (o'.getD noQ).name=z6 at *
  go_upto_region 8 with (fail)
  generalize w7.alloc (.cells #[.int .i64 z5,.string z6,.slice A1 n1 c1,.slice A2 n2 c2] 60)=w8 at *
  have a5:=HBa8.out.cell 5
  simp only [rsC,zA,zB,zC] at a5
  go_wp2_with fail
  obtain ⟨v0,hv0⟩:∃ v0,v0=Value.slice A9 bs.length c9:=⟨_,rfl⟩
  have HBk:Hid (Blk w8 ba 42 (rsC 0 0 0 nil nil v0 0 0 0 0)):=zh (by rw [hv0]; exact HBa8.out)
  have HOb:=zh (own_mono HO8.out HB3.out.size)
  clear hv0 HBa8 HO8 a5
  have hs8:=HB8.out.size
  go_loopw [14,15,16] (fun av lv iv wr=>∃ (k:Nat) (v:Value) (m:M) (a lst:Int) (bs:List UInt8) (A9:Option Addr) (c9:Nat),av=.slice A9 bs.length c9∧lv=.int .i64 lst∧iv=.int .i64 k∧k≤n∧k≤25∧lst≤a∧Hid (IsC a q)∧Hid (encL a q=bs)∧Hid (wr.ownsRow w.heap.size 5 1 (.slice A9 bs.length c9) bs.length (bv bs))∧Hid (At wr w1.heap.size X (64+128 * k) v m)∧Hid (Blk wr ba 42 (rsC 0 0 0 nil nil v0 0 0 0 0))∧Hid (Below w.heap.size w wr)) (fun _ _ iv _=>25 - (intOf iv).toNat)
  case atStart=>exact ⟨0,_,_,_,_,_,_,_,rfl,rfl,rfl,Nat.zero_le _,Nat.zero_le _,Int.le_refl _,HIS,HBS,HOb,HA8,HBk,HB8⟩
  case round =>
   clear HOb HA8 HBk HB8 HIS HBS
   obtain ⟨k,v,m,a,lst,bs,A9,c9,rfl,rfl,rfl,hkn,hk5,hla,HI,HBs,HO,HA,HBk,HB⟩:=hrel
   have hbs:=HB.out.size
   by_cases hlt:k<n∧k<25
   ·obtain ⟨hlt,hlt5⟩:=hlt
    have hki:(k:Int)<(n:Int):=by omega
    have hki2:(k:Int)<25:=by omega
    have hki0:(0:Int)≤(k:Int):=by omega
    have hkl:k<L.length:=by omega
    obtain ⟨b,o,z,hAe,hbb,hc,hr⟩:=HL.out.ex k hkl
    subst hAe
    have hs:∀ j u,(rqC L[k] z)[j]?=some u→wr.cell? ⟨b,o+k * 12+j,none⟩=some u:=fun j u hj=>(HB.out.cell (p:=⟨b,o+k * 12+j,none⟩) hbb).trans (hc j u hj)
    have HR:=zh (hr.below HB.out)
    clear hc hr
    generalize L[k]=r at *
    have s0:wr.cell? ⟨b,o+k * 12,none⟩=some (.int .i64 r.op):=hs 0 _ rfl
    have s1:wr.cell? ⟨b,o+k * 12+1,none⟩=some (.slice z.E z.en z.ec):=hs 1 _ rfl
    have s2:wr.cell? ⟨b,o+k * 12+2,none⟩=some (.bool r.dur):=hs 2 _ rfl
    have s3:wr.cell? ⟨b,o+k * 12+3,none⟩=some (.int .i64 r.now):=hs 3 _ rfl
    have s4:wr.cell? ⟨b,o+k * 12+4,none⟩=some (.string r.q):=hs 4 _ rfl
    have s5:wr.cell? ⟨b,o+k * 12+5,none⟩=some (.int .i64 r.frm):=hs 5 _ rfl
    have s6:wr.cell? ⟨b,o+k * 12+6,none⟩=some (.int .i64 r.til):=hs 6 _ rfl
    have s7:wr.cell? ⟨b,o+k * 12+7,none⟩=some (.int .i64 r.lim):=hs 7 _ rfl
    have s8:wr.cell? ⟨b,o+k * 12+8,none⟩=some (.int .i64 r.width):=hs 8 _ rfl
    have s9:wr.cell? ⟨b,o+k * 12+9,none⟩=some (.int .i64 r.after):=hs 9 _ rfl
    have s10:wr.cell? ⟨b,o+k * 12+10,none⟩=some (.slice z.C z.cn z.cc):=hs 10 _ rfl
    clear hs
    go_wp2_with fail
    refine (few_any r z wr HR.out).mono ?_
    rintro e wa ⟨z1,rfl,hr1,hb1,_⟩
    have CD:=zh (do_any (HA.out.below hb1) (by omega) hX (fewR r) z1 hr1)
    have HAa:=zh (HA.out.below hb1)
    have HBa:=zh (HB.out.trans (hb1.mono hbs))
    have HOa:=zh (HO.out.kept (grow_of_below hb1 none) (by cases hv:(Value.slice A9 bs.length c9).ownBlock <;> simp))
    have HKa:=zh (HBk.out.below hb1 HBk.out.lt)
    clear hb1 hr1 HA HB HO HBk s0 s1 s2 s3 s4 s5 s6 s7 s8 s9 s10 HR
    go_wp2_with fail
    refine CD.out.mono ?_
    rintro e wb ⟨v2,m2,cs,rfl,_,hA2,hc2,_⟩
    have hs1b:=chg_base hc2 HAa.out.own hX HAa.out.n0
    have HBb:=zh (HBa.out.trans (hs1b.mono hs1))
    have HOb:=zh (chg_own hc2 HAa.out HOa.out (by decide) (by decide))
    have HKb:=zh (chg_keep hc2 HAa.out HKa.out (by decide) (by decide))
    have HAb:=zh hA2
    clear hA2 hc2 hs1b HAa HBa HOa HKa CD
    go_upto_if 82 with (fail)
    go_cut [17] from 79 to 89 (fun v wx=>∃ l5:Int,v=.int .i64 l5∧1≤l5∧l5≤5∧wb=wx)
    case first =>
     by_cases hl:k<ln
     ·have hl':(k:Int)<(ln:Int):=by omega
      obtain ⟨zb,zo,hzl,hze,hzb,hzc⟩:=(HZ.out.below HBb.out).at_map (l:=zs) hl
      subst hze
      obtain ⟨x0,x8⟩:=HZ8.out zs[k] (List.getElem_mem hzl)
      generalize zs[k]=x at *
      have hw1:IntKind.i64.wrap x=x:=by rw [IntKind.wrap_i64]; omega
      have hw2:x.tmod 5=x % 5:=Int.tmod_eq_emod_of_nonneg x0
      go_wp2_with fail
      go_meet
      exact ⟨_,rfl,by omega,by omega,rfl⟩
     ·have hl':¬ (k:Int)<(ln:Int):=by omega
      go_wp2_with fail
      go_meet
      exact ⟨_,rfl,by decide,by decide,rfl⟩
    case rest =>
    obtain ⟨l5,rfl,hl1,hl5,rfl⟩:=hcut
    obtain ⟨hc1,hc2⟩:=own_cap HOb.out
    obtain ⟨_,_,hbl⟩:=encL_ok HI.out
    rw [HBs.out] at hbl
    have CD:=zh (do_any HAb.out (by omega) hX { rq0 with op:=10,cur:=bs,lim:=l5 } ⟨none,0,0,A9,bs.length,c9⟩ (rq_cur _ rfl (Reads.of_own HOb.out) ⟨by omega,hc1,hc2⟩ ⟨by show (-9223372036854775808:Int)≤0; decide,by show (0:Int)≤9223372036854775807; decide⟩ (by show (0:Int)≤9223372036854775807; decide)))
    clear hc1 hc2
    go_wp2_with fail
    refine CD.out.mono ?_
    rintro e wd ⟨v3,m3,cs3,rfl,hR,hA3,_,hbw,_⟩
    obtain ⟨rfl,hT⟩:=hR.k10 rfl
    obtain ⟨p,hF,hI2,A3,c3,vv,hD,hO,rfl⟩:=tl_use hT HI.out HBs.out.symm hl1 hl5 HAb.out.ok (by have:=HAb.out.few; omega)
    obtain ⟨hbd,rfl⟩:=hbw (by show (7:Int)≤10; decide)
    obtain ⟨_,hpos,_⟩:=encL_ok hI2
    obtain ⟨A9',c9',rfl,_⟩:=Ev.own_shape2 hO
    obtain ⟨bs',hbs'⟩:∃ bs',encL p.2 q=bs':=⟨_,rfl⟩
    rw [hbs'] at hO hpos ⊢
    have HBs':=zh hbs'
    have HI2:=zh hI2
    have HF:=zh hF
    have hFl:(p.1.length:Int)≤l5:=hF.len
    have hp0:¬ ((bs'.length:Int)=0):=by omega
    have hp0b:(((bs'.length:Nat):Int) == 0)=false:=by simp; intro h; exact hp0 (by rw [h]; rfl)
    have hp1:¬ ((l5:Int)<(p.1.length:Int)):=by omega
    have hb6:Below wd.heap.size wd (wd.alloc (.cells (rsC 0 0 0 (.slice A3 p.1.length c3) nil (.slice A9' bs'.length c9') 0 0 0 0) 42)):=(Below.refl _ _).alloc (zG _) _
    have HBr:=zh (Blk.new wd 42 (rsC 0 0 0 (.slice A3 p.1.length c3) nil (.slice A9' bs'.length c9') 0 0 0 0))
    have hsb:=HBb.out.size
    have HBe:=zh (HBb.out.trans ((hbd.trans (hb6.mono hbd.size)).mono hsb))
    have HAe:=zh ((hA3.below hb6).more (show 64+128 * k+64+64≤64+128 * (k+1) by omega))
    have HOe:=zh (own_mono (hO.kept (grow_of_below hb6 none) (by cases hv:(Value.slice A9' bs'.length c9').ownBlock <;> simp)) hsb)
    have HKe:=zh (HKb.out.below (hbd.trans (hb6.mono hbd.size)) HKb.out.lt)
    have HDe:=zh (hD.below hb6)
    clear hR hT hbw hA3 hF hI2 hD hO hbs' hb6 hbd CD HAb HBb HOb HKb HI HBs
    go_upto_region 20 with (fail)
    generalize wd.heap.size=bb at *
    generalize wd.alloc (.cells (rsC 0 0 0 (.slice A3 p.1.length c3) nil (.slice A9' bs'.length c9') 0 0 0 0) 42)=we at *
    obtain ⟨_,_,e5,hDA⟩:=HDe.out.at_
    cases e5
    have HDA:=zh hDA
    clear hDA HDe
    have a0:=HBr.out.cell 0
    have a3:=HBr.out.cell 3
    have a5:=HBr.out.cell 5
    simp only [rsC,zA,zB,zC] at a0 a3 a5
    go_wp2_with fail
    have hag:=HF.out.ge
    go_loopw [15,19] (fun lv jv wx=>we=wx∧∃ (j:Nat) (l':Int),lv=.int .i64 l'∧jv=.int .i64 j∧j≤p.1.length∧l'≤p.2∧Hid (∀ d∈p.1.drop j,l'<d.seq)) (fun _ jv _=>p.1.length - (intOf jv).toNat)
    case atStart=>exact ⟨rfl,0,lst,rfl,rfl,Nat.zero_le _,by omega,zh (fun d hd=>by have:=(HF.out.low d (by simpa using hd)).1; omega)⟩
    case round =>
     obtain ⟨rfl,j,l',rfl,rfl,hj,hl',hlow⟩:=hrel
     by_cases hjl:j<p.1.length
     ·have hji:(j:Int)<(p.1.length:Int):=by omega
      have hji0:(0:Int)≤(j:Int):=by omega
      obtain ⟨db,dq,F,fn,fc,hA3e,hdb,d0,_,_,_⟩:=HDA.out.at_ hjl
      subst hA3e
      have hdl:l'<p.1[j].seq:=hlow.out p.1[j] ((List.drop_eq_getElem_cons hjl) ▸ List.mem_cons_self)
      have hup:=zh (pw_drop HF.out.up hjl)
      have hp2:=(HF.out.low _ (List.getElem_mem hjl)).2
      generalize p.1[j].seq=ds at *
      have hdn:¬ ds≤l':=by omega
      go_wp2
      exact ⟨⟨trivial,j+1,ds,rfl,by push_cast; rfl,by omega,hp2,hup⟩,by show _ - ((j:Int)+1).toNat < _ - ((j:Int)).toNat; omega⟩
     ·have hji:¬ (j:Int)<(p.1.length:Int):=by omega
      go_wp2
      exact ⟨⟨k+1,v3,m3,p.2,l',bs',A9',c9',rfl,rfl,by push_cast; rfl,by omega,by omega,hl',HI2,HBs',HOe,HAe,HKe,HBe⟩,by show _ - ((k:Int)+1).toNat < _ - ((k:Int)).toNat; omega⟩
   ·by_cases hkk:k<n
    ·have hki:(k:Int)<(n:Int):=by omega
     have hki2:¬ (k:Int)<25:=by omega
     have b0:=HBk.out.cell 0
     simp only [rsC,zA,zB,zC] at b0
     go_wp2
     go_ret
     exact ⟨rfl,HB.out⟩
    ·have hki:¬ (k:Int)<(n:Int):=by omega
     have b0:=HBk.out.cell 0
     simp only [rsC,zA,zB,zC] at b0
     go_wp2
     go_ret
     exact ⟨rfl,HB.out⟩
end Go.Proofs.YtmomjpolkkbhnaaGreat.Md
end

section
namespace Go.Proofs.YtmomjpolkkbhnaaGreat.Md
open Go.RowKit Go.ChangeShapes Go.WideShapes Go.ChangeAt Go.Deep Go.Joins Ut Tk Qy Ev Qp Cu Mx
section
variable {H:Type} {enc:TypeId × Value→H} {W:World} {base:Nat}
theorem req_cells:Tryz.prog.cellsOf 37=11:=by kernel_rfl
theorem step_cells:Tryz.prog.cellsOf 64=12:=by kernel_rfl
theorem step_bytes:Tryz.prog.bytesOf 64=136:=by kernel_rfl
theorem op_cells:Tryz.prog.cellsOf 34=1:=by kernel_rfl
theorem u8_cells:Tryz.prog.cellsOf 5=1:=by kernel_rfl
theorem u8_bytes:Tryz.prog.bytesOf 5=1:=by kernel_rfl
theorem bool_cells:Tryz.prog.cellsOf 4=1:=by kernel_rfl
theorem bytes_cells:Tryz.prog.cellsOf 30=1:=by kernel_rfl
theorem i64_of {m:Int} (hm:(Lit.int .i64 m).wf=true):I64 m:=by
 have h:IntKind.i64.min≤m∧m≤IntKind.i64.max:=by simpa [Lit.wf] using hm
 exact h
theorem u8_at {z:Int} (h:(Lit.int .u8 z).wf=true) : 0≤z∧z≤255:=by
 have:IntKind.u8.min≤z∧z≤IntKind.u8.max:=by simpa [Lit.wf] using h
 exact this
theorem bv_of {zs:List Int} (h:∀ z∈zs,(Lit.int .u8 z).wf=true):∃ L:List UInt8,zs.map (Value.int .u8)=bv L:=by
 refine ⟨zs.map (fun z=>UInt8.ofNat z.toNat),?_⟩
 unfold bv
 rw [List.map_map]
 refine List.map_congr_left fun z hz=>?_
 have:=u8_at (h z hz)
 show Value.int .u8 z=Value.int .u8 ((UInt8.ofNat z.toNat).toNat:Int)
 rw [UInt8.toNat_ofNat']
 congr 1
 omega
theorem bytes_at {fuel:Nat} {v:Value} {x:DataW H × List MemPlace} (h:DataW.trod enc Tryz.prog W 0 (fun _=>true) true fuel 30 [v]=some x) (hw:∀ n∈x.1.weights Tryz.prog 30,n≤140737488351232) :
  ∃ (A:Option Addr) (n c:Nat) (L:List UInt8),v=.slice A n c∧Reads W W.heap.size 1 A n (bv L)∧n≤140737488351232∧n≤c∧(A=none→c=0):=by
 rcases open_ints Tryz.underlying30 Tryz.underlying5 u8_cells h with ⟨hcs,_⟩ | ⟨a,len,cap,zs,hcs,_,hl,hm,hz,hx,hcell,hwz⟩
 ·simp only [List.cons.injEq,and_true] at hcs
  subst hcs
  exact ⟨none,0,0,[],rfl,Reads.none_,by omega,zG _,fun _=>rfl⟩
 ·simp only [List.cons.injEq,and_true] at hcs
  subst hcs
  have hlen:zs.length=cap:=by simpa using hz
  have hd:x.1=.slice (lits .u8 (zs.take len)) (lits .u8 (zs.drop len)):=by rw [hx]
  rw [hd] at hw
  have h1:=hw ((zs.take len).length * 1+(zs.drop len).length * 1) (by
   simp only [DataW.weights,Tryz.underlying30,lits,List.length_map,u8_bytes,← Nat.add_mul]
   exact List.mem_cons_self)
  have hle:len≤140737488351232:=by
   rw [List.length_take,Nat.min_eq_left (by omega)] at h1; omega
  obtain ⟨L,hL⟩:=bv_of (zs:=zs.take len) (fun z hz=>hwz z (List.mem_of_mem_take hz))
  refine ⟨some a,len,cap,L,rfl,?_,hle,hl,fun h=>nomatch h⟩
  rw [← hL,← range_map_getD zs 0 len (by omega),List.map_map]
  by_cases h0 : 0<len
  ·exact Reads.of_in rfl (World.block_lt_of_cell? W _ (by simpa [Addr.add] using hcell 0 (by omega))) (fun i hi=>hcell i (by omega))
  ·obtain rfl:len=0:=by omega
   exact Reads.none_
theorem event64_at {fuel:Nat} {cs:List Value} {x:DataW H × List MemPlace} (h:DataW.trod enc Tryz.prog W 0 (fun _=>true) true fuel 46 cs=some x) (hw:∀ n∈x.1.weights Tryz.prog 46,n≤140737488351232) :
  ∃ e:Evn,EvV W W.heap.size e cs∧I64 e.1:=by
 obtain ⟨y0,y1,n',rfl,hlen,t0,t1⟩:=trod_struct2 Tryz.underlying46 h
 rw [event_cells] at hlen
 match cs,hlen with
 | [u0,u1],_ =>
  simp only [int_cells,fields_cells,List.drop_zero,List.drop_succ_cons,List.take_succ_cons,List.take_zero] at t0 t1
  obtain ⟨k,e0,rfl,wk⟩:=DataW.trod_int Tryz.underlying3 t0
  simp only [List.cons.injEq,and_true] at e0
  subst e0
  obtain ⟨F,n,c,fs,rfl,hf⟩:=fields_in t1 (weights_part (j:=1) Tryz.underlying46 hw rfl rfl)
  exact ⟨(k,fs),⟨F,n,c,rfl,hf⟩,i64_of wk⟩
theorem events64_in {fuel:Nat} {v:Value} {x:DataW H × List MemPlace} (h:DataW.trod enc Tryz.prog W 0 (fun _=>true) true fuel 35 [v]=some x) (hw:∀ n∈x.1.weights Tryz.prog 35,n≤140737488351232) :
  ∃ (A:Option Addr) (n c:Nat) (l:List Evn),v=.slice A n c∧EvsAt W W.heap.size A n c l∧∀ e∈l,I64 e.1:=by
 obtain ⟨A,len,cap,vss,ds,spare,rfl,hl,hvl,h3,hR,hd,hx,hall⟩:=slice_at Tryz.underlying35 event_cells (by omega) h
 have each:∀ i:Nat,∃ e:Evn,∀ (h1:i<vss.length),EvV W W.heap.size e vss[i]∧I64 e.1:=fun i=>by
  by_cases hi:i<vss.length
  ·obtain ⟨n',y,g1,g2⟩:=hall i hi (by omega)
   have hm:ds[i]'(by omega)∈ds:=List.getElem_mem _
   rcases hx with hx | ⟨z0,_⟩
   ·rw [hx] at hw
    obtain ⟨q,hq⟩:=event64_at g1 (by rw [g2]; exact weights_elem Tryz.underlying35 hw hm)
    exact ⟨q,fun _=>hq⟩
   ·omega
  ·exact ⟨(0,[]),fun h=>absurd h hi⟩
 obtain ⟨f,hf⟩:=Classical.skolem.1 each
 have hbd:len≤4398046511104:=by
  rcases hx with hx | ⟨z0,_⟩
  ·rw [hx] at hw
   have:=weights_len Tryz.underlying35 hw
   rw [event_bytes] at this
   omega
  ·omega
 refine ⟨A,len,cap,(List.range len).map f,rfl,⟨by simp,hbd,hl,vss,hvl,hR,fun i h1 h2=>?_⟩,fun e he=>?_⟩
 ·have:=(hf i h2).1
  simpa using this
 ·obtain ⟨i,hi,rfl⟩:=List.mem_map.1 he
  exact (hf i (by have:=List.mem_range.1 hi; omega)).2
theorem trod_struct11 {P:Program} {t:TypeId} {f0 f1 f2 f3 f4 f5 f6 f7 f8 f9 f10:Field} {fuel:Nat} {cs:List Value} {x:DataW H × List MemPlace} (ht:P.underlying t=some (.struct #[f0,f1,f2,f3,f4,f5,f6,f7,f8,f9,f10])) (h:DataW.trod enc P W 0 (fun _=>true) true fuel t cs=some x) :
  ∃ y0 y1 y2 y3 y4 y5 y6 y7 y8 y9 y10 n,x.1=.agg [y0.1,y1.1,y2.1,y3.1,y4.1,y5.1,y6.1,y7.1,y8.1,y9.1,y10.1]∧cs.length=P.cellsOf t∧DataW.trod enc P W 0 (fun _=>true) true n f0.type ((cs.drop f0.offset).take (P.cellsOf f0.type))=some y0∧DataW.trod enc P W 0 (fun _=>true) true n f1.type ((cs.drop f1.offset).take (P.cellsOf f1.type))=some y1∧DataW.trod enc P W 0 (fun _=>true) true n f2.type ((cs.drop f2.offset).take (P.cellsOf f2.type))=some y2∧DataW.trod enc P W 0 (fun _=>true) true n f3.type ((cs.drop f3.offset).take (P.cellsOf f3.type))=some y3∧DataW.trod enc P W 0 (fun _=>true) true n f4.type ((cs.drop f4.offset).take (P.cellsOf f4.type))=some y4∧DataW.trod enc P W 0 (fun _=>true) true n f5.type ((cs.drop f5.offset).take (P.cellsOf f5.type))=some y5∧DataW.trod enc P W 0 (fun _=>true) true n f6.type ((cs.drop f6.offset).take (P.cellsOf f6.type))=some y6∧DataW.trod enc P W 0 (fun _=>true) true n f7.type ((cs.drop f7.offset).take (P.cellsOf f7.type))=some y7∧DataW.trod enc P W 0 (fun _=>true) true n f8.type ((cs.drop f8.offset).take (P.cellsOf f8.type))=some y8∧DataW.trod enc P W 0 (fun _=>true) true n f9.type ((cs.drop f9.offset).take (P.cellsOf f9.type))=some y9∧DataW.trod enc P W 0 (fun _=>true) true n f10.type ((cs.drop f10.offset).take (P.cellsOf f10.type))=some y10:=by
 obtain ⟨xs,n,_,rfl,hl,hlen,hf⟩:=DataW.trod_struct ht h
 match xs,hlen with
 | [y0,y1,y2,y3,y4,y5,y6,y7,y8,y9,y10],_=>exact ⟨y0,y1,y2,y3,y4,y5,y6,y7,y8,y9,y10,n,by simp,hl,by simpa using hf 0 f0 rfl,by simpa using hf 1 f1 rfl,by simpa using hf 2 f2 rfl,by simpa using hf 3 f3 rfl,by simpa using hf 4 f4 rfl,by simpa using hf 5 f5 rfl,by simpa using hf 6 f6 rfl,by simpa using hf 7 f7 rfl,by simpa using hf 8 f8 rfl,by simpa using hf 9 f9 rfl,by simpa using hf 10 f10 rfl⟩
theorem req_at {fuel:Nat} {cs:List Value} {x:DataW H × List MemPlace} (h:DataW.trod enc Tryz.prog W 0 (fun _=>true) true fuel 37 cs=some x) (hw:∀ n∈x.1.weights Tryz.prog 37,n≤140737488351232) :
  ∃ r z,cs=(rqC r z).toList∧RqAt W r z:=by
 obtain ⟨y0,y1,y2,y3,y4,y5,y6,y7,y8,y9,y10,n,hx,hl,t0,t1,t2,t3,t4,t5,t6,t7,t8,t9,t10⟩:=trod_struct11 Tryz.underlying37 h
 rw [req_cells] at hl
 rw [hx] at hw
 match cs,hl with
 | [u0,u1,u2,u3,u4,u5,u6,u7,u8,u9,u10],_ =>
  simp only [op_cells,int_cells,bool_cells,string_cells2,events_cells,bytes_cells,List.drop_zero,List.drop_succ_cons,List.take_succ_cons,List.take_zero,zB,zC] at t0 t1 t2 t3 t4 t5 t6 t7 t8 t9 t10
  obtain ⟨k0,e0,_,w0⟩:=DataW.trod_int Tryz.underlying34 t0
  obtain ⟨k2,e2,_⟩:=DataW.trod_bool Tryz.underlying4 t2
  obtain ⟨k3,e3,_,w3⟩:=DataW.trod_int Tryz.underlying3 t3
  obtain ⟨k4,e4,_,_⟩:=DataW.trod_string Tryz.underlying9 t4
  obtain ⟨k5,e5,_,w5⟩:=DataW.trod_int Tryz.underlying3 t5
  obtain ⟨k6,e6,_,w6⟩:=DataW.trod_int Tryz.underlying3 t6
  obtain ⟨k7,e7,_,w7⟩:=DataW.trod_int Tryz.underlying3 t7
  obtain ⟨k8,e8,_,w8⟩:=DataW.trod_int Tryz.underlying3 t8
  obtain ⟨k9,e9,_,w9⟩:=DataW.trod_int Tryz.underlying3 t9
  simp only [List.cons.injEq,and_true] at e0 e2 e3 e4 e5 e6 e7 e8 e9
  subst e0 e2 e3 e4 e5 e6 e7 e8 e9
  obtain ⟨E,en,ec,l,rfl,hE,hl⟩:=events64_in t1 (weights_part (j:=1) Tryz.underlying37 hw rfl rfl)
  obtain ⟨C,cn,cc,L,rfl,hC,hc⟩:=bytes_at t10 (weights_part (j:=10) Tryz.underlying37 hw rfl rfl)
  exact ⟨⟨k0,l,k2,k3,k4,k5,k6,k7,k8,k9,L⟩,⟨E,en,ec,C,cn,cc⟩,rfl,hE,hC,hc,hl,i64_of w3,(i64_of w8).2⟩
theorem step_at {fuel:Nat} {cs:List Value} {x:DataW H × List MemPlace} (h:DataW.trod enc Tryz.prog W 0 (fun _=>true) true fuel 64 cs=some x) (hw:∀ n∈x.1.weights Tryz.prog 64,n≤140737488351232) :
  ∃ r z t,cs=(rqC r z).toList ++ [.bool t]∧RqAt W r z:=by
 obtain ⟨y0,y1,n',rfl,hl,t0,t1⟩:=trod_struct2 Tryz.underlying64 h
 rw [step_cells] at hl
 match cs,hl with
 | [u0,u1,u2,u3,u4,u5,u6,u7,u8,u9,u10,u11],_ =>
  simp only [req_cells,bool_cells,List.drop_zero,List.drop_succ_cons,List.take_succ_cons,List.take_zero] at t0 t1
  obtain ⟨k,e1,_⟩:=DataW.trod_bool Tryz.underlying4 t1
  simp only [List.cons.injEq,and_true] at e1
  subst e1
  obtain ⟨r,z,e,hr⟩:=req_at t0 (weights_part (j:=0) Tryz.underlying64 hw rfl rfl)
  refine ⟨r,z,k,?_,hr⟩
  rw [← e]
  rfl
theorem steps_in {v:Value} {d:DataW H} {p:List MemPlace} (hv:Value.okWide Tryz.prog W .any base 22 v) (h:DataW.Trod enc Tryz.prog W 0 (fun _=>true) true 22 v d p) (hw:∀ n∈d.weights Tryz.prog 22,n≤140737488351232) :
  ∃ (A:Option Addr) (n c:Nat) (L:List Rq) (T:List Bool),v=.slice A n c∧StepsAt W A n c L∧StepsT W A n T:=by
 obtain ⟨A0,n0,c0,rfl⟩:=okWide_slice Tryz.underlying22 hv
 obtain ⟨fuel,hf⟩:=h
 have hf:DataW.trod enc Tryz.prog W 0 (fun _=>true) true fuel 22 [.slice A0 n0 c0]=some (d,p):=by simpa [Value.cells] using hf
 obtain ⟨A,len,cap,vss,ds,spare,e,hl,hvl,h3,hR,hd,hx,hall⟩:=slice_at Tryz.underlying22 step_cells (by omega) hf
 injection e with ea el ec
 subst ea el ec
 have each:∀ i:Nat,∃ b:Rq × Rw × Bool,∀ (h1:i<vss.length),vss[i]=(rqC b.1 b.2.1).toList ++ [.bool b.2.2]∧RqAt W b.1 b.2.1:=fun i=>by
  by_cases hi:i<vss.length
  ·obtain ⟨n',y,g1,g2⟩:=hall i hi (by omega)
   have hm:ds[i]'(by omega)∈ds:=List.getElem_mem _
   rcases hx with hx | ⟨z0,_⟩
   ·have hx:d=.slice ds spare:=hx
    rw [hx] at hw
    obtain ⟨r,z,t,hq⟩:=step_at g1 (by rw [g2]; exact weights_elem Tryz.underlying22 hw hm)
    exact ⟨(r,z,t),fun _=>hq⟩
   ·omega
  ·exact ⟨(rq0,⟨none,0,0,none,0,0⟩,false),fun h=>absurd h hi⟩
 obtain ⟨f,hf'⟩:=Classical.skolem.1 each
 have hbd:n0≤4398046511104:=by
  rcases hx with hx | ⟨z0,_⟩
  ·have hx:d=.slice ds spare:=hx
   rw [hx] at hw
   have:=weights_len Tryz.underlying22 hw
   rw [step_bytes] at this
   omega
  ·omega
 refine ⟨A0,n0,c0,(List.range n0).map (fun i=>(f i).1),(List.range n0).map (fun i=>(f i).2.2),rfl,⟨by simp,hbd,fun i hi=>?_⟩,⟨by simp,fun i hi=>?_⟩⟩
 ·have hi':i<n0:=by simpa using hi
  obtain ⟨b,o,eA,hb,hc⟩:=hR.2 (by omega)
  obtain ⟨e1,e2⟩:=hf' i (by omega)
  refine ⟨b,o,(f i).2.1,eA,hb,fun j u hj=>?_,by simpa using e2⟩
  obtain ⟨hq,_⟩:=Array.getElem?_eq_some_iff.1 hj
  have hj':j<11:=by simpa using hq
  have g:=flat_get h3 i j (by omega) (by omega)
  rw [Nat.add_assoc]
  refine hc _ _ (g.trans ?_)
  rw [e1,List.getElem?_append_left (by simpa using hj')]
  simpa using hj
 ·have hi':i<n0:=by simpa using hi
  obtain ⟨b,o,eA,hb,hc⟩:=hR.2 (by omega)
  obtain ⟨e1,e2⟩:=hf' i (by omega)
  refine ⟨b,o,eA,hb,?_⟩
  have g:=flat_get h3 i 11 (by omega) (by omega)
  rw [Nat.add_assoc]
  refine hc _ _ (g.trans ?_)
  rw [e1]
  simp
end
end Go.Proofs.YtmomjpolkkbhnaaGreat.Md
end

section
namespace Go.Proofs.YtmomjpolkkbhnaaGreat.Md
open Go.RowKit
theorem pages_row (q0:ByteArray) (st:Int) (hst:(Lit.int .u8 st).wf=true) (A:Option Addr) (n c:Nat) (L:List Rq) (LA:Option Addr) (ln lc:Nat) (zs:List Int) (w:World) (hL:StepsAt w A n c L) (hZ:Reads w w.heap.size 1 LA ln (zs.map (Value.int .u8))) (hzl:zs.length=ln) (hz8:∀ x∈zs,(Lit.int .u8 x).wf=true) :
  Calls Tryz.prog 4 #[.string q0,.int .u8 st,.slice A n c,.slice LA ln lc] w fun e w'=>e=.returned (.bool true)∧Below w.heap.size w w' :=
 pages_any q0 st (u8_at hst) A n c L LA ln lc zs w hL hZ hzl (fun x hx=>u8_at (hz8 x hx))
end Go.Proofs.YtmomjpolkkbhnaaGreat.Md
end
