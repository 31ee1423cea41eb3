/- (*Model).up, over whatever function value; (*Model).Docs (printed by gen_mdb.py). -/
import Derived.Sort.Grow
import Derived.Shelf.SlSortCmp.HeapSortK
import Derived.Laws.EntriesVeiled
import Derived.Test.YtmomjpolkkbhnaaGreatQModelPagesRow12
import Derived.Test.YtmomjpolkkbhnaaGreatQModelPagesRow0
import Derived.Test.YtmomjpolkkbhnaaGreatQModelPagesRow18
import Derived.Test.YtmomjpolkkbhnaaGreatQModelPagesRow9
import Derived.Test.YtmomjpolkkbhnaaGreatQModelPagesRow17
import Derived.Test.YtmomjpolkkbhnaaGreatQModelPagesRow20
set_option linter.unusedSectionVars false
set_option linter.unusedSimpArgs false
set_option linter.unusedVariables false
set_option maxRecDepth 20000
section
namespace Go.Proofs.YtmomjpolkkbhnaaGreat.Md
open Go.RowKit Ut Tk Qy Qp Ev
theorem At.docs {w:World} {n0 X K:Nat} {v:Value} {m:M} (h:At w n0 X K v m):∃ A c,v=.slice A m.ds.length c∧m.ds.length≤c∧(A=none→c=0)∧∀ i (hi:i<m.ds.length),∃ g o Fa fc,A=some ⟨g,o,none⟩∧g<w.heap.size ∧
  w.cell? ⟨g,o+i * 3,none⟩=some (.int .i64 m.ds[i].seq)∧w.cell? ⟨g,o+i * 3+1,none⟩=some (.int .i64 m.ds[i].at_)∧w.cell? ⟨g,o+i * 3+2,none⟩=some (.slice Fa m.ds[i].fs.length fc)∧FlAt w w.heap.size Fa m.ds[i].fs.length fc m.ds[i].fs:=by
 obtain ⟨A,c,rfl,hD,hc,hn⟩:=h.own.read
 refine ⟨A,c,rfl,hc,hn,fun i hi=>?_⟩
 obtain ⟨b,o,F,fn,fc,e,hb,c0,c1,c2,hr,hl,h1,h2,h3⟩:=hD.at_ hi
 subst hl
 exact ⟨b,o,F,fc,e,hb.2,c0,c1,c2,⟨hr.mono (fun b hb=>hb.2.lt),rfl,h1,h2,fun f hf=>by have:=((chkE_ok (h.ok.doc i hi).1).2 f hf); have:=this.1; omega,h3⟩⟩
theorem flg {w w':World} {F:Option Addr} {fn fc:Nat} {fs:List Fl} (h:FlAt w w.heap.size F fn fc fs) (hb:Below w.heap.size w w'):FlAt w' w'.heap.size F fn fc fs:=(h.keep (fun b o hl=>hb.cell (p:=⟨b,o,none⟩) hl)).more hb.size
def upL (m:M) (p:Dc→Bool):List Dc:=m.ds.filter (fun d=>decide (m.floor≤d.at_) && p d)
set_option maxHeartbeats 6400000 in
theorem up_any {w:World} {n0 X K:Nat} {v:Value} {m:M} (h:At w n0 X K v m) (hK:K≤60000) (g:Nat) (cb:Array Value) (p:Dc→Bool) (hcf:∀ args wx,(callFunc g args).run Tryz.prog wx=.ok (.enter g args) wx)
  (hG:∀ d∈m.ds,∀ wx,Below w.heap.size w wx→∀ Fa fc,FlAt wx wx.heap.size Fa d.fs.length fc d.fs→Calls Tryz.prog g (#[.agg #[.int .i64 d.seq,.int .i64 d.at_,.slice Fa d.fs.length fc]] ++ cb) wx fun e w'=>e=.returned (.bool (p d))∧Below wx.heap.size wx w') :
  Calls Tryz.prog 72 #[.pointer (some ⟨X,0,none⟩),.func (.func g) #[] cb] w (DocsPost w (upL m p)):=by
 obtain ⟨i0,hi0,hz0,hz1,hz2⟩:=info_parts Ev.doc_info
 obtain ⟨A8,c8,rfl,hc8,hn8,hfl⟩:=h.docs
 have hB:=h.blk
 have k7:=hB.cell 7
 simp only [mdC,zA,zB,zC] at k7
 have hfew:=h.few
 have HG:Hid (∀ wx,Below w.heap.size w wx→∀ i (hi:i<m.ds.length),∃ g o Fa fc,A8=some ⟨g,o,none⟩∧g<wx.heap.size∧wx.cell? ⟨g,o+i * 3,none⟩=some (.int .i64 m.ds[i].seq)∧wx.cell? ⟨g,o+i * 3+1,none⟩=some (.int .i64 m.ds[i].at_)∧wx.cell? ⟨g,o+i * 3+2,none⟩=some (.slice Fa m.ds[i].fs.length fc)∧FlAt wx wx.heap.size Fa m.ds[i].fs.length fc m.ds[i].fs):=zh (fun wx hb i hi=>by
  obtain ⟨g,o,Fa,fc,e,hg,q0,q1,q2,hr⟩:=hfl i hi
  exact ⟨g,o,Fa,fc,e,Nat.lt_of_lt_of_le hg hb.size,(hb.cell hg).trans q0,(hb.cell hg).trans q1,(hb.cell hg).trans q2,flg hr hb⟩)
 have H8:Hid (∀ wx,Below w.heap.size w wx→wx.cell? ⟨X,8,none⟩=some (.int .i64 m.floor)):=zh (fun wx hb=>by
  have:=(hB.below hb hB.lt).cell 8
  simpa only [mdC,zA,zB,zC] using this)
 have HC:=zh hG
 have HDOC:=zh h.ok.doc
 have HUP:Hid (upL m p=m.ds.filter (fun d=>decide (m.floor≤d.at_) && p d)):=zh rfl
 generalize hu:upL m p=UU at *
 obtain ⟨c,ds,fl,nw,ak⟩:=m
 simp only at *
 clear h hfl hG hu hB
 go_enter Tryz.func72,Tryz.ntmps72
 go_wp2_with fail
 go_loopw [5,13] (fun v i wr=>∃ k:Nat,k≤ds.length∧i=.int .i64 (k:Nat)∧Hid (DOwn wr w.heap.size v ((ds.take k).filter (fun d=>decide (fl≤d.at_) && p d)))∧Hid (Below w.heap.size w wr)) (fun _ i _=>ds.length - (intOf i).toNat)
 case atStart=>exact ⟨0,Nat.zero_le _,rfl,zh (DOwn.start _ _),zh (Below.refl _ _)⟩
 case round =>
  obtain ⟨k,hk,rfl,hO,hB⟩:=hrel
  by_cases hlt:k<ds.length
  ·have hkz:(k:Int)<(ds.length:Int):=by omega
   have hk0:(0:Int)≤(k:Int):=by omega
   obtain ⟨gb,go,Fa,fc,rfl,hg,q0,q1,q2,hr⟩:=HG.out wr hB.out k hlt
   have hlnk:((ds.take k).filter (fun d=>decide (fl≤d.at_) && p d)).length≤k:=by
    refine Nat.le_trans (List.length_filter_le _ _) ?_
    rw [List.length_take]; omega
   have hf16:=(chkE_ok (HDOC.out k hlt).1).1
   have HTK:Hid ((ds.take (k+1)).filter (fun d=>decide (fl≤d.at_) && p d)=(ds.take k).filter (fun d=>decide (fl≤d.at_) && p d) ++ if (decide (fl≤ds[k].at_) && p ds[k])=true then [ds[k]] else []):=zh (by
    rw [List.take_succ_eq_append_getElem hlt,List.filter_append]
    congr 1
    by_cases hp:(decide (fl≤ds[k].at_) && p ds[k])=true <;> simp [List.filter_cons,hp])
   have CD:Hid (∀ wx,Below wr.heap.size wr wx→Calls Tryz.prog g (#[.agg #[.int .i64 ds[k].seq,.int .i64 ds[k].at_,.slice Fa ds[k].fs.length fc]] ++ cb) wx fun e w'=>e=.returned (.bool (p ds[k]))∧Below wx.heap.size wx w'):=zh (fun wx hb=>HC.out _ (List.getElem_mem hlt) wx (hB.out.trans (hb.mono hB.out.size)) Fa fc (flg hr hb))
   have HLN:=zh hlnk
   clear hlnk
   generalize hpd:p ds[k]=pd at *
   generalize ds[k]=d at *
   generalize (ds.take k).filter (fun d=>decide (fl≤d.at_) && p d)=D0 at *
   have hBx:Below wr.heap.size wr (wr.alloc (.cells #[.int .i64 d.seq,.int .i64 d.at_,.slice Fa d.fs.length fc] 48)):=(Below.refl _ _).alloc (zG _) _
   have hbx:=Blk.new wr 48 #[.int .i64 d.seq,.int .i64 d.at_,.slice Fa d.fs.length fc]
   have HBX:=zh hBx
   have HXX:=zh hbx
   have HFL:=zh (flg hr hBx)
   have hw:=hB.out.size
   clear hpd hr hbx hBx
   go_upto_region 5 with (fail)
   generalize hw1:wr.alloc (.cells #[.int .i64 d.seq,.int .i64 d.at_,.slice Fa d.fs.length fc] 48)=w1 at *
   clear hw1 q0 q1 q2
   have Hc5:Hid (∀ wx,Below w1.heap.size w1 wx→wx.cell? ⟨wr.heap.size,0,none⟩=some (.int .i64 d.seq)∧wx.cell? ⟨wr.heap.size,1,none⟩=some (.int .i64 d.at_)∧wx.cell? ⟨wr.heap.size,2,none⟩=some (.slice Fa d.fs.length fc)∧wx.cell? ⟨X,8,none⟩=some (.int .i64 fl)):=zh (fun wx hb=>by
    have r0:=(HXX.out.below hb HXX.out.lt).cell 0
    have r1:=(HXX.out.below hb HXX.out.lt).cell 1
    have r2:=(HXX.out.below hb HXX.out.lt).cell 2
    simp only [zA,zB,zC] at r0 r1 r2
    exact ⟨r0,r1,r2,H8.out wx (hB.out.trans ((HBX.out.trans (hb.mono HBX.out.size)).mono hB.out.size))⟩)
   by_cases hfa:fl≤d.at_
   ·have hfd:decide (fl≤d.at_)=true:=decide_eq_true hfa
    rw [hfd,Bool.true_and] at HTK
    have CD1:Hid (∀ wx,Below w1.heap.size w1 wx→Calls Tryz.prog g (#[.agg #[.int .i64 d.seq,.int .i64 d.at_,.slice Fa d.fs.length fc]] ++ cb) wx fun e w'=>e=.returned (.bool pd)∧Below wx.heap.size wx w'):=zh (fun wx hb=>CD.out wx (HBX.out.trans (hb.mono HBX.out.size)))
    clear hfd
    refine wp_region_grow (specOf [(11,⟨Unit,fun _=>(.bool pd),fun _ _=>True⟩)]) (fun wx=>Below (World.heap w1).size w1 wx) (fun w1 w2=>Below w1.heap.size w1 w2) (by kernel_rfl) (by kernel_rfl) (stab_cons (fun _ _ _ _ h=>h) (stab_nil)) (Below.refl _ _).drew ?_
    iterate 11
     refine grow_fix _ ?_ rfl (by rfl) (by rfl) (fun wx hC hD=>?_) ?_
     rotate_left
     ·have hSw:=Hc5.out wx hC
      go_simp
      all_goals with_reducible rfl
     try simp only [Act.put,zD,zE,zF]
    refine grow_give 12 _ rfl (by rfl) (by rfl) (fun wx hC hD=>?_) (fun x=>?_)
    ·refine give_enter (f:=?_) (args:=?_) ?_ ?_
     rotate_left 2
     ·have hSw:=Hc5.out wx hC
      go_simp
      all_goals first | with_reducible rfl | (refine ⟨?_,?_⟩ <;> with_reducible rfl)
     refine (CD1.out wx hC).mono ?_
     rintro e w9 ⟨rfl,hb9⟩
     exact ⟨_,rfl,hb9,hC.trans (hb9.mono hC.size),(),rfl,trivial⟩
    obtain ⟨⟩:=x
    try simp only [Act.put,zD,zE,zF]
    refine grow_fix 13 ?_ rfl (by rfl) (by rfl) (fun wx hC hD=>?_) ?_
    rotate_left
    ·have hSw:=Hc5.out wx hC
     go_simp
     all_goals with_reducible rfl
    try simp only [Act.put,zD,zE,zF]
    refine grow_nil (fun w2 hC hF=>?_)
    have HB2:=zh (HBX.out.trans (hC.mono HBX.out.size))
    have hcl:=Hc5.out w2 hC
    have HFL2:=zh (flg HFL.out hC)
    clear hF hC CD CD1 Hc5
    obtain ⟨b0,b1,b2,_⟩:=hcl
    cases pd with
    | true =>
     rw [if_pos rfl] at HTK
     have C2:=zh (copied_any d Fa d.fs.length fc w2 HFL2.out.rd rfl (by omega) HFL2.out.nl)
     go_wp2_with fail
     refine C2.out.mono ?_
     rintro e w3 ⟨A3,q3,rfl,hnq3,hnl3,hown3,hb3⟩
     have hbW:Below wr.heap.size wr w3:=HB2.out.trans (hb3.mono HB2.out.size)
     have hbS:Below wr.heap.size wr (w3.alloc (.cells #[.int .i64 d.seq,.int .i64 d.at_,.slice A3 d.fs.length q3] 48)):=hbW.alloc hbW.size _
     have hO6:=hO.out.below hbS
     obtain ⟨vss,g1,g2,g3⟩:=hO6.ex
     have hown6:=hown3.alloc (.cells #[.int .i64 d.seq,.int .i64 d.at_,.slice A3 d.fs.length q3] 48)
     have hd6:DcS (w3.alloc (.cells #[.int .i64 d.seq,.int .i64 d.at_,.slice A3 d.fs.length q3] 48)) (Go.Proofs.YtmomjpolkkbhnaaGreat.Ev.Fd _ w.heap.size) d [.int .i64 d.seq,.int .i64 d.at_,.slice A3 d.fs.length q3] :=
      ⟨A3,_,q3,rfl,(ReadsS.of_own hown6).mono (fun b hb=>⟨by have:=hb.1; have:=HB2.out.size; omega,tg_own hown6 hb.2.2⟩),rfl,by omega,hnq3,hnl3⟩
     have Put:Hid (∀ v' w5,w5.ownsRow w.heap.size 48 3 v' (D0.length+1) (vss.flatten ++ [.int .i64 d.seq,.int .i64 d.at_,.slice A3 d.fs.length q3])→_→DOwn w5 w.heap.size v' ((ds.take (k+1)).filter (fun d=>decide (fl≤d.at_) && p d))):=zh (fun v' w5 p1 p2=>by
      rw [HTK.out]
      exact DOwn.put ⟨vss,g1,g2,g3,rfl⟩ p1 p2 hd6)
     have G2:=zh g2
     have hzs:=hbS.size
     have HBS:=zh hbS
     have hD0:D0.length≤k:=HLN.out
     clear hown6 hbS hO6 g1 g2 g3 hd6 hown3 hnq3 hnl3 hbW b0 b1 b2
     generalize D0.length=dn at *
     go_wp2_with (at_builtin; refine wpList_append_own _ rfl _ _ 26 rfl w.heap.size 48 i0 _ 3 40 Tryz.underlying26 hi0 hz0 hz1 hz2 rfl (by decide) _ _ _ rfl G2.out ⟨w3.heap.size,0,none⟩ 1 1 [.int .i64 d.seq,.int .i64 d.at_,.slice A3 d.fs.length q3] rfl rfl ?d1 ?d2 ?d3 ?d4 ?d5 ?_)
     case d1=>exact World.news_of_block (cs:=#[.int .i64 d.seq,.int .i64 d.at_,.slice A3 d.fs.length q3]) (t:=48) (fr:=(0,0)) (heap_alloc_new w3 (.cells #[.int .i64 d.seq,.int .i64 d.at_,.slice A3 d.fs.length q3] 48))
     case d2=>simp [Value.oneCell']
     case d3=>unfold maxLen; omega
     case d4=>omega
     case d5=>first | omega | (simp; omega)
     intro v' w5 hown5 hg5 _
     have Fin:=zh (Put.out v' w5 hown5 hg5)
     have hbF:Hid (Below w.heap.size w w5):=zh ((hB.out.trans (HBS.out.mono hB.out.size)).grown hg5 (by omega) (fun j hj=>(G2.out.lt j hj).1))
     clear hown5 hg5
     go_wp2
     go_roundw
     case rel=>exact ⟨k+1,by omega,by go_num,Fin,hbF⟩
     case measure=>simp [intOf]; omega
    | false =>
     rw [if_neg (by decide),List.append_nil] at HTK
     have Fin:Hid (DOwn w2 w.heap.size _ ((ds.take (k+1)).filter (fun d=>decide (fl≤d.at_) && p d))):=zh (by rw [HTK.out]; exact hO.out.below HB2.out)
     have hbF:Hid (Below w.heap.size w w2):=zh (hB.out.trans (HB2.out.mono hB.out.size))
     go_wp2
     go_roundw
     case rel=>exact ⟨k+1,by omega,by go_num,Fin,hbF⟩
     case measure=>simp [intOf]; omega
   ·have hfd:decide (fl≤d.at_)=false:=decide_eq_false hfa
    rw [hfd,Bool.false_and,if_neg (by decide),List.append_nil] at HTK
    clear hfd CD
    refine wp_region_grow (specOf []) (fun wx=>Below (World.heap w1).size w1 wx) (fun w1 w2=>Below w1.heap.size w1 w2) (by kernel_rfl) (by kernel_rfl) (stab_nil) (Below.refl _ _).drew ?_
    iterate 9
     refine grow_fix _ ?_ rfl (by rfl) (by rfl) (fun wx hC hD=>?_) ?_
     rotate_left
     ·have hSw:=Hc5.out wx hC
      go_simp
      all_goals with_reducible rfl
     try simp only [Act.put,zD,zE,zF]
    refine grow_skip 10 (some false) true rfl (by rfl) (by rfl) (by rfl) ?_
    try simp only [Act.put,zD,zE,zF]
    refine grow_skip 11 (some false) true rfl (by rfl) (by rfl) (by rfl) ?_
    try simp only [Act.put,zD,zE,zF]
    refine grow_skip 12 (some false) true rfl (by rfl) (by rfl) (by rfl) ?_
    try simp only [Act.put,zD,zE,zF]
    refine grow_fix 13 ?_ rfl (by rfl) (by rfl) (fun wx hC hD=>?_) ?_
    rotate_left
    ·have hSw:=Hc5.out wx hC
     go_simp
     all_goals with_reducible rfl
    try simp only [Act.put,zD,zE,zF]
    refine grow_nil (fun w2 hC hF=>?_)
    have HB2:=zh (HBX.out.trans (hC.mono HBX.out.size))
    have Fin:Hid (DOwn w2 w.heap.size _ ((ds.take (k+1)).filter (fun d=>decide (fl≤d.at_) && p d))):=zh (by rw [HTK.out]; exact hO.out.below HB2.out)
    have hbF:Hid (Below w.heap.size w w2):=zh (hB.out.trans (HB2.out.mono hB.out.size))
    clear hF hC Hc5
    go_wp2
    go_roundw
    case rel=>exact ⟨k+1,by omega,by go_num,Fin,hbF⟩
    case measure=>simp [intOf]; omega
  ·obtain rfl:k=ds.length:=by omega
   have hkz:¬ (ds.length:Int)<(ds.length:Int):=by omega
   rw [List.take_length,← HUP.out] at hO
   go_wp2
   go_ret
   exact ⟨_,rfl,hO.out,hB.out⟩
end Go.Proofs.YtmomjpolkkbhnaaGreat.Md
end

section
namespace Go.Proofs.YtmomjpolkkbhnaaGreat.Ss
open Go.Shelf Go.RowKit Go.Lib Go.Sort
variable {α:Type} [Inhabited α] {enc : α→List Value} {cf : α→α→Int} {tag : α→Nat}
set_option maxHeartbeats 4000000 in
set_option maxRecDepth 1000000 in
theorem stable_any (hW:SWO (ltOf cf)) (k:Nat) (hk2:k=3) (g:Nat) (cb:Array Value) (blk off cap:Nat) (d:Array α) (w0 w:World) (eg:∀ args w,(callFunc g args).run Tryz.prog w=.ok (.enter g args) w) (hC:CmpLays Tryz.prog g cb enc k cf blk off d.size w0)
  (R:RowK enc k w0 blk off d) (S:SWK enc k w0 blk off d w) (hsz:d.size<1099511627776) (hT:∀ x y,x<y→y<d.size→tag d[x]!<tag d[y]!) :
  Calls Tryz.prog 129 #[.slice (some ⟨blk,off,none⟩) d.size cap,.int .i64 d.size,.func (.func g) #[] cb] w (MPost enc cf tag k w0 blk off d 0 d.size):=by
 have S0:Aside (SWK enc k w0 blk off d w):=S
 have HC:Aside _:=hC
 have HK:=zh hk2
 have HPI:Hid (Pi cf tag d d 20 d.size 0):=zh (Pi.start (zG _) hT)
 obtain ⟨n,hn⟩:∃ n,d.size=n:=⟨_,rfl⟩
 have N1:n≤d.size:=by omega
 have N2:d.size≤n:=by omega
 have HN:=zh hn
 rw [hn]
 rw [hn] at HPI
 have ins:=fun (a b:Nat) (dk:Array α) (w:World) (hs:dk.size=d.size) (S:SWK enc k w0 blk off dk w) (hab:a≤b) (hb:b≤dk.size) (hT:∀ x y,a≤x→x<y→y<b→tag dk[x]!<tag dk[y]!)=>insertion_any hW k hk2 g cb blk off cap a b d dk w0 w eg hC R hs S hab hb (by omega) hT
 have sym:=fun (a m b:Nat) (dk:Array α) (w:World) (h1:a<m) (h2:m<b) (I:MIn enc cf tag k w0 blk off d dk a m b w)=>sym_any hW k hk2 g cb blk off cap d w0 eg hC R hsz (b - a) a m b dk w (zG _) h1 h2 I
 have INS:=zh ins
 have SYM:=zh sym
 clear S hk2 hC hT ins sym hn
 go_enter Tryz.func129,Tryz.ntmps129
 go_wp2
 go_loopw [7,8] (fun v7 v8 wr=>∃ (c a b:Nat) (dk:Array α),a≤n∧b≤a+20∧a+20≤b∧v7=.int .i64 (a:Nat)∧v8=.int .i64 (b:Nat)∧Hid (a=c * 20)∧Aside (SWK enc k w0 blk off dk wr)∧Hid (Pi cf tag d dk 20 n c)) (fun _ v8 _=>n+20 - (intOf v8).toNat)
 case atStart=>exact ⟨0,0,20,d,by omega,by omega,by omega,rfl,rfl,zh (by omega),S0,HPI⟩
 case round =>
  clear S0 HPI
  obtain ⟨c,a,b,dk,ha,hb1,hb2,rfl,rfl,HA,S1,HP⟩:=hrel
  have hdk:Hid (dk.size=d.size):=zh HP.out.hs
  by_cases hlt:b≤n
  ·have c1:=INS.out a b dk wr hdk.out S1.out (by omega) (by have:=hdk.out; omega) (fun x y h1 h2 h3=>HP.out.tags HA.out h1 h2 (by omega))
   rw [hdk.out,HN.out] at c1
   have C1:=zh c1
   clear c1 S1
   go_wp2_with fail
   refine C1.out.mono ?_
   rintro ev w2 ⟨rfl,d',S2,h1,h2,h3⟩
   have S3:Aside (SWK enc k w0 blk off d' w2):=S2
   have P3:Hid (Pi cf tag d d' 20 n (c+1)):=zh (by
    obtain rfl:b=a+20:=by omega
    exact HP.out.next HA.out hlt h2 h3)
   clear C1 S2 h1 h2 h3 HP hdk
   go_wp2
   go_roundw
   case rel=>exact ⟨c+1,b,b+20,d',by omega,by omega,by omega,rfl,by go_num,zh (by have:=HA.out; omega),S3,P3⟩
   case measure=>simp [intOf]; omega
  ·have hbn:¬ (b:Int)≤(n:Int):=by omega
   have c1:=INS.out a n dk wr hdk.out S1.out (by omega) (by have:=hdk.out; omega) (fun x y h1 h2 h3=>HP.out.tags HA.out h1 h2 (by omega))
   rw [hdk.out,HN.out] at c1
   have C1:=zh c1
   clear c1 S1
   go_wp2_with fail
   refine C1.out.mono ?_
   rintro ev w2 ⟨rfl,d',S2,h1,h2,h3⟩
   have S3:Aside (SWK enc k w0 blk off d' w2):=S2
   have P3:Hid (d'.size=d.size∧PermIn 0 n d d'∧Tgb tag d' 20 n∧Sb cf tag d' 20 n):=zh (HP.out.last HA.out (by omega) ha h2 h3)
   clear C1 S2 h1 h2 h3 HP hdk HA
   go_wp2
   go_loopw [6] (fun v6 wr=>∃ (B:Nat) (dB:Array α),0<B∧B≤2 * n+20∧v6=.int .i64 (B:Nat)∧Aside (SWK enc k w0 blk off dB wr)∧Hid (dB.size=d.size∧PermIn 0 n d dB∧Tgb tag dB B n∧Sb cf tag dB B n)) (fun v6 _=>n - (intOf v6).toNat)
   case atStart=>exact ⟨20,d',by omega,by omega,rfl,S3,P3⟩
   case round =>
    clear S3 P3
    obtain ⟨B,dB,hB0,hB,rfl,S1,HB⟩:=hrel
    by_cases hBn:B<n
    ·have HP0:Hid (Ph cf tag d dB dB B n 0):=zh (Ph.start HB.out.1 (by omega) HB.out.2.1 HB.out.2.2.1 HB.out.2.2.2)
     clear HB
     go_wp2
     go_loopw [7,8] (fun v7 v8 wr=>∃ (c a b:Nat) (dk:Array α),a≤n∧b≤a+2 * B∧a+2 * B≤b∧v7=.int .i64 (a:Nat)∧v8=.int .i64 (b:Nat)∧Hid (a=c * (2 * B))∧Aside (SWK enc k w0 blk off dk wr)∧Hid (Ph cf tag d dB dk B n c)) (fun _ v8 _=>n+2 * B - (intOf v8).toNat)
     case atStart=>exact ⟨0,0,2 * B,dB,by omega,by omega,by omega,rfl,by go_num,zh (by omega),S1,HP0⟩
     case round =>
      clear S1 HP0
      obtain ⟨c,a,b,dk,ha,hb1,hb2,rfl,rfl,HA,S1,HP⟩:=hrel
      have hdk:Hid (dk.size=d.size):=zh HP.out.hs
      obtain ⟨m,hm⟩:∃ m,m=a+B:=⟨_,rfl⟩
      have m1:m≤a+B:=by omega
      have m2:a+B≤m:=by omega
      have hmz:(a:Int)+(B:Int)=(m:Int):=by omega
      by_cases hlt:b≤n
      ·have W:=HP.out.wants (a:=a) (b:=b) HA.out (by omega) (by omega)
       rw [← hm] at W
       have c1:=SYM.out a m b dk wr (by omega) (by omega) ⟨hdk.out,S1.out,by have:=hdk.out; omega,W.1,W.2.1,W.2.2⟩
       rw [hdk.out,HN.out] at c1
       have C1:=zh c1
       clear c1 S1 W
       have HM:=zh hm
       clear hm
       go_wp2_with fail
       refine C1.out.mono ?_
       rintro ev w2 ⟨rfl,d',S2,h1,h2,h3⟩
       have S3:Aside (SWK enc k w0 blk off d' w2):=S2
       have P3:Hid (Ph cf tag d dB d' B n (c+1)):=zh (by
        obtain rfl:b=a+2 * B:=by omega
        exact HP.out.next HA.out hlt h2 h3)
       clear C1 S2 h1 h2 h3 HP hdk hmz
       go_wp2
       go_roundw
       case rel=>exact ⟨c+1,b,b+2 * B,d',by omega,by omega,by omega,rfl,by go_num,zh (by rw [blk_b,← HA.out]; omega),S3,P3⟩
       case measure=>simp [intOf]; omega
      ·have hbn:¬ (b:Int)≤(n:Int):=by omega
       by_cases hmn:m<n
       ·have W:=HP.out.wants (a:=a) (b:=n) HA.out (by omega) (by omega)
        rw [← hm] at W
        have c1:=SYM.out a m n dk wr (by omega) (by omega) ⟨hdk.out,S1.out,by have:=hdk.out; omega,W.1,W.2.1,W.2.2⟩
        rw [hdk.out,HN.out] at c1
        have C1:=zh c1
        clear c1 S1 W
        have HM:=zh hm
        clear hm
        go_wp2_with fail
        refine C1.out.mono ?_
        rintro ev w2 ⟨rfl,d',S2,h1,h2,h3⟩
        have S3:Aside (SWK enc k w0 blk off d' w2):=S2
        have P3:Hid (d'.size=d.size∧PermIn 0 n d d'∧Tgb tag d' (2 * B) n∧Sb cf tag d' (2 * B) n):=zh (HP.out.last HA.out (by omega) (by omega) h2 h3)
        clear C1 S2 h1 h2 h3 HP hdk hmz
        go_wp2
        go_roundw
        case rel=>exact ⟨2 * B,d',by omega,by omega,by go_num,S3,P3⟩
        case measure=>simp [intOf]; omega
       ·have hmn':¬ (m:Int)<(n:Int):=by omega
        have P3:Hid (dk.size=d.size∧PermIn 0 n d dk∧Tgb tag dk (2 * B) n∧Sb cf tag dk (2 * B) n):=zh (HP.out.done HA.out (by omega))
        have HM:=zh hm
        clear HP hdk hm
        go_wp2
        go_roundw
        case rel=>exact ⟨2 * B,dk,by omega,by omega,by go_num,S1,P3⟩
        case measure=>simp [intOf]; omega
    ·have hBn':¬ (B:Int)<(n:Int):=by omega
     have Fin:Hid (dB.size=d.size∧PermIn 0 n d dB∧Srt cf tag dB 0 n):=zh ⟨HB.out.1,HB.out.2.1,HB.out.2.2.2.whole (by omega)⟩
     clear HB
     go_wp2
     go_end0
     exact ⟨rfl,dB,S1.out,Fin.out⟩
set_option maxHeartbeats 4000000 in
set_option maxRecDepth 1000000 in
theorem sortStable_any (hW:SWO (ltOf cf)) (k:Nat) (hk2:k=3) (g:Nat) (cb:Array Value) (blk off cap:Nat) (d:Array α) (w:World) (eg:∀ args w,(callFunc g args).run Tryz.prog w=.ok (.enter g args) w) (hC:CmpLays Tryz.prog g cb enc k cf blk off d.size w)
  (R:RowK enc k w blk off d) (S:SWK enc k w blk off d w) (hsz:d.size<1099511627776) (hT:∀ x y,x<y→y<d.size→tag d[x]!<tag d[y]!) :
  Calls Tryz.prog 102 #[.slice (some ⟨blk,off,none⟩) d.size cap,.func (.func g) #[] cb] w (MPost enc cf tag k w blk off d 0 d.size):=by
 have C:=zh (stable_any hW k hk2 g cb blk off cap d w w eg hC R S hsz hT)
 clear hW hk2 hC S hT R eg
 go_enter Tryz.func102,Tryz.ntmps102
 go_wp2_with fail
 refine C.out.mono ?_
 rintro ev w2 ⟨rfl,H⟩
 have F:=zh H
 clear H C
 go_wp2
 go_end0
 exact ⟨rfl,F.out⟩
end Go.Proofs.YtmomjpolkkbhnaaGreat.Ss
end

section
namespace Go.Proofs.YtmomjpolkkbhnaaGreat.Md
open Go.RowKit Ut Tk Qy Qp Ev Ss Go.Sort Go.Shelf Go.Lib
def Grw (w w':World):Prop:=∃ q os,w'=grow (w.drewN q) os
theorem Grw.refl (w:World):Grw w w:=⟨0,#[],by rw [grow_empty]; rfl⟩
theorem Grw.trans {a b c:World} (h1:Grw a b) (h2:Grw b c):Grw a c:=by
 obtain ⟨q,os,rfl⟩:=h1
 obtain ⟨q',os',rfl⟩:=h2
 refine ⟨q+q',os ++ os',?_⟩
 rw [show ((grow (a.drewN q) os).drewN q')=grow ((a.drewN q).drewN q') os from rfl,grow_grow,World.drewN_drewN]
theorem Grw.alloc {a b:World} (h:Grw a b) (o:Obj):Grw a (b.alloc o):=h.trans ⟨0,#[o],by rw [alloc_eq_grow]; rfl⟩
theorem Grw.drew {a b:World} (h:Grw a b):Grw a b.drew:=h.trans ⟨1,#[],by rw [grow_empty]; rfl⟩
def cOr (a b:Int):Int:=if a=0 then b else a
theorem compareI_any (x y:Int) (w:World):Calls Tryz.prog 105 #[.int .i64 x,.int .i64 y] w fun e w'=>e=.returned (.int .i64 (Lib.compareInt x y))∧w'=w:=Tryz.cmp_Compare_int x y w
set_option maxHeartbeats 800000 in
theorem or_any (A:Option Addr) (c:Nat) (a b:Int) (w:World) (hR:Reads w w.heap.size 1 A 2 [.int .i64 a,.int .i64 b]) :
  Calls Tryz.prog 104 #[.slice A 2 c] w fun e w'=>e=.returned (.int .i64 (cOr a b))∧Grw w w':=by
 obtain ⟨bb,o,rfl,hbb,hc⟩:=hR.2 (by decide)
 have h0:=hc 0 _ rfl
 have h1:=hc 1 _ rfl
 simp at h0 h1
 have Fin:Hid (cOr a b=if a=0 then b else a):=rfl
 clear hR hc
 generalize cOr a b=r at *
 go_enter Tryz.func104,Tryz.ntmps104
 go_wp2_with fail
 go_loopw [8] (fun i wr=>∃ k:Nat,k≤2∧i=.int .i64 (k:Nat)∧wr=w∧Hid (1≤k→a=0)∧Hid (2≤k→b=0)) (fun i _=>2 - (intOf i).toNat)
 case atStart=>exact ⟨0,by omega,rfl,rfl,zh (fun h=>absurd h (by omega)),zh (fun h=>absurd h (by omega))⟩
 case round =>
  obtain ⟨k,hk,rfl,rfl,ha,hb⟩:=hrel
  have hk3:k=0∨k=1∨k=2:=by omega
  rcases hk3 with rfl | rfl | rfl
  ·by_cases e:a=0
   ·have He:=zh e
    subst e
    clear ha hb
    go_wp2
    go_roundw
    case rel=>exact ⟨1,by omega,by go_num,by trivial,zh (fun _=>by trivial),zh (fun h=>absurd h (by omega))⟩
    case measure=>simp [intOf]
   ·have e':(a != 0)=true:=by simpa using e
    have Fin2:Hid (r=a):=zh (by rw [Fin.out,if_neg e])
    clear ha hb Fin e
    go_wp2
    go_ret
    exact ⟨by rw [Fin2.out]; rfl,Grw.refl _⟩
  ·have ha0:=ha.out (by omega)
   by_cases e:b=0
   ·subst e
    have Ha0:=zh ha0
    clear ha hb ha0
    go_wp2
    go_roundw
    case rel=>exact ⟨2,by omega,by go_num,by trivial,zh (fun _=>Ha0.out),zh (fun _=>by trivial)⟩
    case measure=>simp [intOf]
   ·have e':(b != 0)=true:=by simpa using e
    have Fin2:Hid (r=b):=zh (by rw [Fin.out,if_pos ha0])
    clear ha hb Fin e ha0
    go_wp2
    go_ret
    exact ⟨by rw [Fin2.out]; rfl,Grw.refl _⟩
  ·have Fin2:Hid (r=0):=zh (by rw [Fin.out,if_pos (ha.out (by omega)),hb.out (by omega)])
   clear ha hb Fin
   go_wp2
   go_ret
   exact ⟨by rw [Fin2.out]; rfl,Grw.refl _⟩
theorem Grw.size {W w:World} (h:Grw W w):W.heap.size≤w.heap.size:=by obtain ⟨q,os,rfl⟩:=h; simp [grow]
theorem Grw.heap {W w:World} (h:Grw W w) {b:Nat} (hb:b<W.heap.size):w.heap[b]?=W.heap[b]?:=by
 obtain ⟨q,os,rfl⟩:=h
 show (W.heap ++ os)[b]?=W.heap[b]?
 rw [Array.getElem?_append_left hb]
theorem Grw.cell {W w:World} (h:Grw W w) {p:Addr} (hb:p.block<W.heap.size):w.cell? p=W.cell? p:=by
 unfold World.cell?
 rw [h.heap hb]
theorem Grw.blk {W w:World} (h:Grw W w) {g:Nat} {t:TypeId} {cs:Array Value} (hB:Blk W g t cs):Blk w g t cs:=by
 have:=h.heap hB.lt
 unfold Blk at *
 rw [this]; exact hB
theorem calls_grw {P:Program} {W w:World} {f:FuncId} {args:Array Value} {c:Value} (hC:Grw W w) (h:Calls P f args w fun e w'=>e=.returned c∧Grw w w') :
  Calls P f args w fun e w'=>∃ v,e=.returned v∧Grw w w'∧Grw W w'∧∃ x:Unit,v=(fun _=>c) x∧True :=
 h.mono fun e w' h=>⟨c,h.1,h.2,hC.trans h.2,(),rfl,trivial⟩
structure El where
 d:Dc
 F:Option Addr
 n:Nat
 c:Nat
instance:Inhabited El:=⟨⟨⟨0,0,[]⟩,none,0,0⟩⟩
def encE (x:El):List Value:=[.int .i64 x.d.seq,.int .i64 x.d.at_,.slice x.F x.n x.c]
def cfD (x y:Dc):Int:=cOr (Lib.compareInt x.at_ y.at_) (Lib.compareInt x.seq y.seq)
def cfE (x y:El):Int:=cfD x.d y.d
def ltD (x y:Dc):Prop:=x.at_<y.at_∨(x.at_=y.at_∧x.seq<y.seq)
instance (x y:Dc):Decidable (ltD x y):=by unfold ltD; infer_instance
theorem cfD_lt (x y:Dc):cfD x y<0↔ltD x y:=by
 unfold cfD cOr ltD Lib.compareInt
 by_cases h1:x.at_<y.at_
 ·simp [h1]
 ·by_cases h2:y.at_<x.at_
  ·have:x.at_≠y.at_:=by omega
   simp [h1,h2,this]
  ·have e:x.at_=y.at_:=by omega
   by_cases h3:x.seq<y.seq
   ·simp [e,h3]
   ·by_cases h4:y.seq<x.seq
    ·simp [e,h3,h4]
    ·simp [e,h3,h4]
theorem ltOf_D (x y:El):ltOf cfE x y=decide (ltD x.d y.d):=by
 unfold ltOf cfE
 by_cases h:ltD x.d y.d
 ·rw [decide_eq_true h]; exact decide_eq_true ((cfD_lt _ _).2 h)
 ·rw [decide_eq_false h]; exact decide_eq_false (fun hh=>h ((cfD_lt _ _).1 hh))
theorem swoD:SWO (ltOf cfE) where
 irrefl x:=by rw [ltOf_D]; exact decide_eq_false (by unfold ltD; omega)
 trans x y z h1 h2:=by
  rw [ltOf_D] at *
  have h1:=of_decide_eq_true h1
  have h2:=of_decide_eq_true h2
  exact decide_eq_true (by unfold ltD at *; omega)
 ntrans x y z h1 h2:=by
  rw [ltOf_D] at *
  have h1:=of_decide_eq_false h1
  have h2:=of_decide_eq_false h2
  exact decide_eq_false (by unfold ltD at *; omega)
set_option maxHeartbeats 6400000 in
theorem docs2_any (x y:El) (w:World) :
  Calls Tryz.prog 103 #[.agg (encE x).toArray,.agg (encE y).toArray] w fun e w'=>e=.returned (.int .i64 (cfE x y))∧Grw w w':=by
 obtain ⟨⟨s,ta,fs⟩,F,n,c⟩:=x
 obtain ⟨⟨t,tb,gs⟩,G,m,d⟩:=y
 simp only [encE,cfE,cfD]
 have hg:Grw w ((w.alloc (.cells #[.int .i64 s,.int .i64 ta,.slice F n c] 48)).alloc (.cells #[.int .i64 t,.int .i64 tb,.slice G m d] 48)):=((Grw.refl w).alloc _).alloc _
 have hB1:=(Blk.new w 48 #[.int .i64 s,.int .i64 ta,.slice F n c]).alloc (.cells #[.int .i64 t,.int .i64 tb,.slice G m d] 48)
 have hB2:=Blk.new (w.alloc (.cells #[.int .i64 s,.int .i64 ta,.slice F n c] 48)) 48 #[.int .i64 t,.int .i64 tb,.slice G m d]
 have z1:(w.alloc (.cells #[.int .i64 s,.int .i64 ta,.slice F n c] 48)).heap.size=w.heap.size+1:=by simp
 rw [z1] at hB2
 have hcells:∀ wx,Grw ((w.alloc (.cells #[.int .i64 s,.int .i64 ta,.slice F n c] 48)).alloc (.cells #[.int .i64 t,.int .i64 tb,.slice G m d] 48)) wx→wx.cell? ⟨w.heap.size,0,none⟩=some (.int .i64 s)∧wx.cell? ⟨w.heap.size,1,none⟩=some (.int .i64 ta)∧wx.cell? ⟨w.heap.size+1,0,none⟩=some (.int .i64 t)∧wx.cell? ⟨w.heap.size+1,1,none⟩=some (.int .i64 tb):=fun wx hC =>
  ⟨(hC.blk hB1).cell 0,(hC.blk hB1).cell 1,(hC.blk hB2).cell 0,(hC.blk hB2).cell 1⟩
 have Hcells:=zh hcells
 have Hg:=zh hg
 clear hg hB1 hB2 z1 hcells
 go_enter Tryz.func103,Tryz.ntmps103
 go_upto_region 1 with (fail)
 generalize hw2:((w.alloc (.cells #[.int .i64 s,.int .i64 ta,.slice F n c] 48)).alloc (.cells #[.int .i64 t,.int .i64 tb,.slice G m d] 48))=w2 at *
 clear hw2
 refine wp_region_grow (specOf [(6,⟨Unit,fun _=>(.int .i64 (Lib.compareInt ta tb)),fun _ _=>True⟩),(11,⟨Unit,fun _=>(.int .i64 (Lib.compareInt s t)),fun _ _=>True⟩),(12,⟨Nat,fun x=>.slice (some ⟨x,0,none⟩) 2 2,fun g wx=>Blk wx g 3 #[.int .i64 (Lib.compareInt ta tb),.int .i64 (Lib.compareInt s t)]⟩),(13,⟨Unit,fun _=>(.int .i64 (cOr (Lib.compareInt ta tb) (Lib.compareInt s t))),fun _ _=>True⟩)]) (fun wx=>Grw w2 wx) Grw (by kernel_rfl) (by kernel_rfl) (stab_cons (fun _ _ _ _ h=>h) (stab_cons (fun _ _ _ _ h=>h) (stab_cons (fun x w1 w2 hg h=>hg.blk h) (stab_cons (fun _ _ _ _ h=>h) (stab_nil))))) (Grw.refl _).drew ?_
 iterate 6
  refine grow_fix _ ?_ rfl (by rfl) (by rfl) (fun wx hC hD=>?_) ?_
  rotate_left
  ·have hSw:=Hcells.out wx hC
   go_simp
   all_goals with_reducible rfl
  try simp only [Act.put,zD,zE,zF]
 refine grow_give 7 _ rfl (by rfl) (by rfl) (fun wx hC hD=>?_) (fun x=>?_)
 ·refine give_enter (f:=?_) (args:=?_) ?_ ?_
  rotate_left 2
  ·have hSw:=Hcells.out wx hC
   go_simp
   all_goals first | with_reducible rfl | (refine ⟨?_,?_⟩ <;> with_reducible rfl)
  exact calls_grw hC ((compareI_any _ _ wx).mono (fun e w' h=>⟨h.1,h.2 ▸ Grw.refl _⟩))
 obtain ⟨⟩:=x
 try simp only [Act.put,zD,zE,zF]
 iterate 4
  refine grow_fix _ ?_ rfl (by rfl) (by rfl) (fun wx hC hD=>?_) ?_
  rotate_left
  ·have hSw:=Hcells.out wx hC
   go_simp
   all_goals with_reducible rfl
  try simp only [Act.put,zD,zE,zF]
 refine grow_give 12 _ rfl (by rfl) (by rfl) (fun wx hC hD=>?_) (fun x=>?_)
 ·refine give_enter (f:=?_) (args:=?_) ?_ ?_
  rotate_left 2
  ·have hSw:=Hcells.out wx hC
   go_simp
   all_goals first | with_reducible rfl | (refine ⟨?_,?_⟩ <;> with_reducible rfl)
  exact calls_grw hC ((compareI_any _ _ wx).mono (fun e w' h=>⟨h.1,h.2 ▸ Grw.refl _⟩))
 obtain ⟨⟩:=x
 try simp only [Act.put,zD,zE,zF]
 refine grow_give 13 _ rfl (by rfl) (by rfl) (fun wx hC hD=>?_) (fun x=>?_)
 ·refine give_value (u:=?_) (w':=?_) ?_ ?_ ?_
  rotate_left 2
  ·have hSw:=Hcells.out wx hC
   go_simp
   all_goals first | with_reducible rfl | (refine ⟨?_,?_⟩ <;> with_reducible rfl)
  ·exact (Grw.refl _).alloc _
  ·exact ⟨hC.alloc _,wx.heap.size,rfl,Blk.new _ _ _⟩
 rename Nat=>x9
 try simp only [Act.put,zD,zE,zF]
 refine grow_give 14 _ rfl (by rfl) (by rfl) (fun wx hC hD=>?_) (fun x=>?_)
 ·refine give_enter (f:=?_) (args:=?_) ?_ ?_
  rotate_left 2
  ·have hSw:=Hcells.out wx hC
   go_simp
   all_goals first | with_reducible rfl | (refine ⟨?_,?_⟩ <;> with_reducible rfl)
  have hbk:=upd_hit (deps_get hD 12 (by kernel_rfl)) (by decide)
  exact calls_grw hC (or_any _ _ _ _ wx ⟨by simp,fun _=>⟨_,_,rfl,hbk.lt,fun j u hj=>by rw [Nat.zero_add,hbk.cell j]; simpa using hj⟩⟩)
 obtain ⟨⟩:=x
 try simp only [Act.put,zD,zE,zF]
 refine grow_fix 15 ?_ rfl (by rfl) (by rfl) (fun wx hC hD=>?_) ?_
 rotate_left
 ·have hSw:=Hcells.out wx hC
  go_simp
  all_goals with_reducible rfl
 try simp only [Act.put,zD,zE,zF]
 refine grow_nil (fun w9 hC hF=>?_)
 have hgf:=Hg.out.trans hC
 clear hF hC
 go_wp2
 go_ret
 exact ⟨rfl,hgf⟩
theorem cmpLaysD (blk off size:Nat) (w:World):CmpLays Tryz.prog 103 #[] encE 3 cfE blk off size w:=fun m os dk hs x y=>docs2_any x y _
theorem perm_whole {l:List El} {d':Array El} (h:PermIn 0 l.length l.toArray d'):d'.toList.Perm l:=by
 obtain ⟨h1,_,h3⟩:=h
 have hs:d'.size=l.length:=by simpa using h1
 have e1:d'.extract 0 l.length=d':=by rw [← hs]; simp
 have e2:l.toArray.extract 0 l.length=l.toArray:=by
  have:l.length=l.toArray.size:=by simp
  rw [this,Array.extract_size]
 rw [e1,e2] at h3
 exact h3
theorem sorted_els {l:List El} {d':Array El} (hP:PermIn 0 l.length l.toArray d') (hs:Srt cfE (fun x=>x.d.seq.toNat) d' 0 l.length) (h0:∀ x∈l,0≤x.d.seq) (hn:l.Pairwise (fun x y=>x.d.seq<y.d.seq)) :
  d'.toList.Perm l∧d'.toList.Pairwise (fun x y=>ltD x.d y.d):=by
 have hp:=perm_whole hP
 refine ⟨hp,?_⟩
 have hz:d'.size=l.length:=by have:=hP.1; simpa using this
 have hne:d'.toList.Pairwise (fun x y=>x.d.seq≠y.d.seq):=(hp.pairwise_iff (fun h=>Ne.symm h)).2 (hn.imp (fun h=>by omega))
 rw [List.pairwise_iff_getElem] at hne ⊢
 intro i j hi hj hij
 have h1:i<d'.size:=by simpa using hi
 have h2:j<d'.size:=by simpa using hj
 have h3:=hs i j (Nat.zero_le _) hij (by omega)
 rw [getElem!_pos d' i h1,getElem!_pos d' j h2] at h3
 have h4:=hne i j hi hj hij
 simp only [Array.getElem_toList] at h4 ⊢
 have h5:=h0 d'[i] (hp.mem_iff.1 (by simp))
 have h6:=h0 d'[j] (hp.mem_iff.1 (by simp))
 rcases h3 with h | ⟨h,h'⟩
 ·exact (cfD_lt _ _).1 h
 ·have hh:¬ ltD d'[j].d d'[i].d:=fun hl=>h ((cfD_lt _ _).2 hl)
  unfold ltD at hh ⊢
  omega
theorem sortD_any (base g cap:Nat) (l:List El) (cur:Array Value) (w:World) (hb:w.heap[g]?=some (.cells cur 48 (0,0))) (ht:cur.toList.take (l.length * 3)=l.flatMap encE) (hl:l.length≤1048576)
  (hg:base≤g) (h1:l.length≤cap) (h2:cap≤maxLen) (h3:cur.size=cap * 3) (h0:∀ x∈l,0≤x.d.seq) (hp:l.Pairwise (fun x y=>x.d.seq<y.d.seq)) :
  Calls Tryz.prog 102 #[.slice (some ⟨g,0,none⟩) l.length cap,.func (.func 103) #[] #[]] w fun e w' =>
   e=.returned (.tuple #[])∧∃ m:List El,m.Perm l∧m.Pairwise (fun x y=>ltD x.d y.d)∧w'.ownsRow base 48 3 (.slice (some ⟨g,0,none⟩) l.length cap) l.length (m.flatMap encE)∧w.grownBy w' (some g):=by
 have hH:=holdsE (enc:=encE) (k:=3) (fun _=>rfl) (by decide) hb ht
 have hsz:l.toArray.size=l.length:=by simp
 have hgl:g<w.heap.size:=(Array.getElem?_eq_some_iff.1 hb).1
 have c:=sortStable_any (enc:=encE) (cf:=cfE) (tag:=fun x=>x.d.seq.toNat) swoD 3 rfl 103 #[] g 0 cap l.toArray w (enters_of Tryz.func103 (by kernel_rfl) rfl) (cmpLaysD g 0 _ w)
  ⟨fun _=>rfl,fun x v hv=>by simp [encE] at hv; rcases hv with rfl | rfl | rfl <;> rfl,hH,hgl⟩ (SWK.start hH) (by rw [hsz]; omega) (fun x y hxy hy=>by
   rw [hsz] at hy
   rw [getElem!_pos _ x (by simp; omega),getElem!_pos _ y (by simp; omega)]
   have q1:=List.pairwise_iff_getElem.1 hp x y (by omega) hy hxy
   have q2:=h0 _ (List.getElem_mem (by omega:x<l.length))
   simp only [List.getElem_toArray]
   omega)
 rw [hsz] at c
 refine c.mono ?_
 rintro e w' ⟨rfl,d',⟨n,os,rfl⟩,hd,hP,hS⟩
 obtain ⟨q1,q2⟩:=sorted_els hP hS h0 hp
 have hm:d'.toList.length=l.length:=q1.length_eq
 have ho:=ownE (enc:=encE) (k:=3) (fun _=>rfl) (by decide) (base:=base) (n:=n) (os:=os) (l:=l) (m:=d'.toList) hm hg hb h1 h2 h3
 rw [hm] at ho
 exact ⟨rfl,d'.toList,q1,q2,by simpa using ho,grownE _⟩
set_option maxHeartbeats 400000 in
theorem insertion_nil (w:World) (fv:Value):Calls Tryz.prog 153 #[.slice none 0 0,.int .i64 0,.int .i64 0,fv] w fun e w'=>e=.returned (.tuple #[])∧w=w':=by
 go_enter Tryz.func153,Tryz.ntmps153
 go_wp2
 go_loop [8] (fun i=>i=.int .i64 1) (fun _=>0)
 case atStart=>rfl
 case round =>
  subst hrel
  go_wp2
  go_end0
  exact ⟨rfl,rfl⟩
set_option maxHeartbeats 400000 in
theorem stable_nil (w:World) (fv:Value):Calls Tryz.prog 129 #[.slice none 0 0,.int .i64 0,fv] w fun e w'=>e=.returned (.tuple #[])∧w=w':=by
 go_enter Tryz.func129,Tryz.ntmps129
 go_wp2
 go_loop [7,8] (fun a b=>a=.int .i64 0∧b=.int .i64 20) (fun _ _=>0)
 case atStart=>exact ⟨rfl,rfl⟩
 case round =>
  obtain ⟨rfl,rfl⟩:=hrel
  go_wp2_with fail
  refine (insertion_nil _ _).mono ?_
  rintro e w' ⟨rfl,rfl⟩
  go_wp2
  go_loop [6] (fun b=>b=.int .i64 20) (fun _=>0)
  case atStart=>rfl
  case round =>
   subst hrel
   go_wp2
   go_end0
   exact ⟨rfl,rfl⟩
set_option maxHeartbeats 400000 in
theorem sortE_nil (w:World) (fv:Value):Calls Tryz.prog 102 #[.slice none 0 0,fv] w fun e w'=>e=.returned (.tuple #[])∧w=w':=by
 go_enter Tryz.func102,Tryz.ntmps102
 go_wp2_with fail
 refine (stable_nil _ _).mono ?_
 rintro e w' ⟨rfl,rfl⟩
 go_wp2
 go_end0
 exact ⟨rfl,rfl⟩
end Go.Proofs.YtmomjpolkkbhnaaGreat.Md
end

section
namespace Go.Proofs.YtmomjpolkkbhnaaGreat.Qy
open Go.RowKit Ut Tk
theorem leafC (F:Option Addr) (fn fc:Nat) (fs:List (ByteArray × ByteArray)) (qb ab g:Nat) (k:Int) (nm:ByteArray) (ws:List ByteArray) (W:World) (hF:Reads W W.heap.size 2 F fn (fldC fs)) (hn:fs.length=fn) (hn2:fn≤8796093021952) (hs:∀ f∈fs,f.2.size≤1048576)
  (hq:QBox W qb nm ws) (hab:W.cell? ⟨ab,0,none⟩=some (.func (.func g) #[] #[.pointer (some ⟨qb,0,none⟩)])) (hcf:∀ args wx,(callFunc g args).run Tryz.prog wx=.ok (.enter g args) wx)
  (hg:∀ T TA tc wx,T.length≤1048576→Reads wx wx.heap.size 2 TA T.length (tokC (placed T))→Below W.heap.size W wx→Calls Tryz.prog g #[.slice TA T.length tc,.pointer (some ⟨qb,0,none⟩)] wx fun e w'=>e=.returned (.bool (leafT k ws T))∧Below wx.heap.size wx w') :
  Calls Tryz.prog 140 #[.slice F fn fc,.func (.func 141) #[] #[.pointer (some ⟨qb,0,none⟩),.pointer (some ⟨ab,0,none⟩)]] W fun e w'=>e=.returned (.bool (leafB k nm ws fs))∧Below W.heap.size W w':=by
 have c1:=containsFld F fn fc fs 141 #[.pointer (some ⟨qb,0,none⟩),.pointer (some ⟨ab,0,none⟩)] (fun i=>(fs[i]?).any (fun f=>f.1.data.toList == nm.data.toList && leafT k ws (words f.2.data.toList))) W
  (fun args wx=>callFunc_enter Tryz.func141 (by kernel_rfl) rfl args wx) hF hn hn2 (fun i h wx hbx=>by
   have hsz:=hs _ (List.getElem_mem h)
   have hwl:=words_len fs[i].2
   have hla:=World.block_lt_of_cell? W _ hab
   have c:=leaf3_any fs[i].1 fs[i].2 qb ab g nm ws (leafT k ws (words fs[i].2.data.toList)) wx hsz (hq.grow hbx) ((hbx.cell (p:=⟨ab,0,none⟩) hla).trans hab) hcf
    (fun TA tc wy hR hby=>hg _ TA tc wy (by omega) hR (hbx.trans (hby.mono hbx.size)))
   rw [tl,tl] at c
   rw [List.getElem?_eq_getElem h]
   simpa using c)
 have e:=any_idx fs (fun f=>f.1.data.toList == nm.data.toList && leafT k ws (words f.2.data.toList))
 rw [hn] at e
 rw [e] at c1
 exact c1
theorem qbox_new {w:World} {k:Int} {nm:ByteArray} {ws:List ByteArray} {WA C:Option Addr} {m wc c1 c2:Nat} (hW:Reads w w.heap.size 1 WA m (ws.map Value.string)) (hm:ws.length=m) (hm2:m≤8796093021952) :
  QBox (w.alloc (.cells #[.int .i64 k,.string nm,.slice WA m wc,.slice C c1 c2] 60)) w.heap.size nm ws:=by
 have hB:=Blk.new w 60 #[.int .i64 k,.string nm,.slice WA m wc,.slice C c1 c2]
 exact ⟨hB.cell 1,WA,m,wc,hB.cell 2,reads_grow ((Below.refl _ _).alloc (zG _) _) hW,hm,hm2⟩
set_option maxHeartbeats 1600000 in
theorem leaf_any (k:Int) (nm:ByteArray) (ws:List ByteArray) (WA CA:Option Addr) (m wc c1 c2:Nat) (t:Int) (F:Option Addr) (fn fc:Nat) (fs:List (ByteArray × ByteArray)) (w:World) (hk:k=2∨k=3∨k=4)
  (hW:Reads w w.heap.size 1 WA m (ws.map Value.string)) (hm:ws.length=m) (hm2:m≤8796093021952) (hF:Reads w w.heap.size 2 F fn (fldC fs)) (hn:fs.length=fn) (hn2:fn≤8796093021952) (hs:∀ f∈fs,f.2.size≤1048576) :
  Calls Tryz.prog 113 #[.agg #[.int .i64 k,.string nm,.slice WA m wc,.slice CA c1 c2],.agg #[.int .i64 t,.slice F fn fc]] w fun e w'=>e=.returned (.bool (leafB k nm ws fs))∧Below w.heap.size w w':=by
 have hb2:Below w.heap.size w (w.alloc (.cells #[.int .i64 k,.string nm,.slice WA m wc,.slice CA c1 c2] 60)):=(Below.refl _ _).alloc (zG _) _
 have q2:=qbox_new (k:=k) (nm:=nm) (wc:=wc) (C:=CA) (c1:=c1) (c2:=c2) hW hm hm2
 have hb23:Below (w.alloc (.cells #[.int .i64 k,.string nm,.slice WA m wc,.slice CA c1 c2] 60)).heap.size (w.alloc (.cells #[.int .i64 k,.string nm,.slice WA m wc,.slice CA c1 c2] 60)) ((w.alloc (.cells #[.int .i64 k,.string nm,.slice WA m wc,.slice CA c1 c2] 60)).alloc (.cells #[.int .i64 t,.slice F fn fc] 46)):=(Below.refl _ _).alloc (zG _) _
 have q3:=q2.grow hb23
 have hb3:=hb2.trans (hb23.mono hb2.size)
 have hF3:=reads_grow hb3 hF
 have hz:((w.alloc (.cells #[.int .i64 k,.string nm,.slice WA m wc,.slice CA c1 c2] 60)).alloc (.cells #[.int .i64 t,.slice F fn fc] 46)).heap.size=w.heap.size+1+1:=by simp
 have hC:∀ g,(∀ args wx,(callFunc g args).run Tryz.prog wx=.ok (.enter g args) wx)→(∀ W T TA tc wx,QBox W w.heap.size nm ws→T.length≤1048576→Reads wx wx.heap.size 2 TA T.length (tokC (placed T))→Below W.heap.size W wx→Calls Tryz.prog g #[.slice TA T.length tc,.pointer (some ⟨w.heap.size,0,none⟩)] wx fun e w'=>e=.returned (.bool (leafT k ws T))∧Below wx.heap.size wx w') →
   Calls Tryz.prog 140 #[.slice F fn fc,.func (.func 141) #[] #[.pointer (some ⟨w.heap.size,0,none⟩),.pointer (some ⟨w.heap.size+1+1,0,none⟩)]]
    (((w.alloc (.cells #[.int .i64 k,.string nm,.slice WA m wc,.slice CA c1 c2] 60)).alloc (.cells #[.int .i64 t,.slice F fn fc] 46)).alloc (.cells #[.func (.func g) #[] #[.pointer (some ⟨w.heap.size,0,none⟩)]] 191))
    fun e w'=>e=.returned (.bool (leafB k nm ws fs))∧Below w.heap.size w w':=fun g hcf hg=>by
  have hb35:Below ((w.alloc (.cells #[.int .i64 k,.string nm,.slice WA m wc,.slice CA c1 c2] 60)).alloc (.cells #[.int .i64 t,.slice F fn fc] 46)).heap.size ((w.alloc (.cells #[.int .i64 k,.string nm,.slice WA m wc,.slice CA c1 c2] 60)).alloc (.cells #[.int .i64 t,.slice F fn fc] 46))
   (((w.alloc (.cells #[.int .i64 k,.string nm,.slice WA m wc,.slice CA c1 c2] 60)).alloc (.cells #[.int .i64 t,.slice F fn fc] 46)).alloc (.cells #[.func (.func g) #[] #[.pointer (some ⟨w.heap.size,0,none⟩)]] 191)):=(Below.refl _ _).alloc (zG _) _
  have q5:=q3.grow hb35
  have hB5:=Blk.new ((w.alloc (.cells #[.int .i64 k,.string nm,.slice WA m wc,.slice CA c1 c2] 60)).alloc (.cells #[.int .i64 t,.slice F fn fc] 46)) 191 #[.func (.func g) #[] #[.pointer (some ⟨w.heap.size,0,none⟩)]]
  rw [hz] at hB5
  have hb5:=hb3.trans (hb35.mono hb3.size)
  refine (leafC F fn fc fs w.heap.size (w.heap.size+1+1) g k nm ws _ (reads_grow hb35 hF3) hn hn2 hs q5 (hB5.cell 0) hcf (fun T TA tc wx h1 h2 h3=>hg _ T TA tc wx q5 h1 h2 h3)).mono ?_
  rintro e w' ⟨rfl,hb⟩
  exact ⟨rfl,hb5.trans (hb.mono hb5.size)⟩
 have hb5':∀ g,Below w.heap.size w (((w.alloc (.cells #[.int .i64 k,.string nm,.slice WA m wc,.slice CA c1 c2] 60)).alloc (.cells #[.int .i64 t,.slice F fn fc] 46)).alloc (.cells #[.func (.func g) #[] #[.pointer (some ⟨w.heap.size,0,none⟩)]] 191)):=fun g=>hb3.alloc hb3.size _
 have HC:=zh hC
 have Hb5:=zh hb5'
 have Hm:=zh hm
 clear hW hF hn hs hb2 q2 hb23 q3 hb3 hF3 hz hC hb5' hm
 rcases hk with rfl | rfl | rfl
 ·by_cases h1:m=1
  ·have h1':((m:Int) != 1)=false:=by rw [bne_eq_false_iff_eq]; omega
   have C:=zh (HC.out 136 (fun args wx=>callFunc_enter Tryz.func136 (by kernel_rfl) rfl args wx) (fun W T TA tc wx hq h1' h2 h3=>by
    have c:=leaf1_any TA T.length tc T w.heap.size nm ws wx h2 rfl h1' (hq.grow h3)
    have e:leafT 2 ws T=decide (0<(phr T ws).length):=by unfold leafT; simp [Hm.out,h1]
    rw [e]; exact c))
   clear h1
   go_enter Tryz.func113,Tryz.ntmps113
   go_wp2_with (go_at_call 140; refine C.out.mono ?_; rintro e w1 ⟨rfl,hb1⟩)
   go_ret
   exact ⟨rfl,hb1⟩
  ·have h1':((m:Int) != 1)=true:=by rw [bne_iff_ne]; omega
   have e:leafB 2 nm ws fs=false:=by
    have:∀ T,leafT 2 ws T=false:=fun T=>by unfold leafT; simp [Hm.out,h1]
    unfold leafB; simp [this]
   have Fin:=zh e
   clear e h1
   go_enter Tryz.func113,Tryz.ntmps113
   go_wp2
   go_ret
   exact ⟨by rw [Fin.out]; rfl,Hb5.out _⟩
 ·by_cases h1:m=1
  ·have h1':((m:Int) != 1)=false:=by rw [bne_eq_false_iff_eq]; omega
   obtain ⟨p,rfl⟩:∃ p,ws=[p]:=List.length_eq_one_iff.1 (by rw [Hm.out,h1])
   have C:=zh (HC.out 138 (fun args wx=>callFunc_enter Tryz.func138 (by kernel_rfl) rfl args wx) (fun W T TA tc wx hq h1' h2 h3=>by
    have c:=leaf2_any TA T.length tc T w.heap.size nm p wx h2 rfl h1' (hq.grow h3)
    have e:leafT 3 [p] T=T.any (begins · p):=by unfold leafT; simp
    rw [e]; exact c))
   clear h1
   go_enter Tryz.func113,Tryz.ntmps113
   go_wp2_with (go_at_call 140; refine C.out.mono ?_; rintro e w1 ⟨rfl,hb1⟩)
   go_ret
   exact ⟨rfl,hb1⟩
  ·have h1':((m:Int) != 1)=true:=by rw [bne_iff_ne]; omega
   have e:leafB 3 nm ws fs=false:=by
    have:∀ T,leafT 3 ws T=false:=fun T=>by
     unfold leafT
     simp only [if_true]
     split
     ·rename_i p; exact absurd Hm.out (by simp; omega)
     ·rfl
    unfold leafB; simp [this]
   have Fin:=zh e
   clear e h1
   go_enter Tryz.func113,Tryz.ntmps113
   go_wp2
   go_ret
   exact ⟨by rw [Fin.out]; rfl,Hb5.out _⟩
 ·have C:=zh (HC.out 136 (fun args wx=>callFunc_enter Tryz.func136 (by kernel_rfl) rfl args wx) (fun W T TA tc wx hq h1' h2 h3=>by
   have c:=leaf1_any TA T.length tc T w.heap.size nm ws wx h2 rfl h1' (hq.grow h3)
   have e:leafT 4 ws T=decide (0<(phr T ws).length):=by unfold leafT; simp
   rw [e]; exact c))
  go_enter Tryz.func113,Tryz.ntmps113
  go_wp2_with (go_at_call 140; refine C.out.mono ?_; rintro e w1 ⟨rfl,hb1⟩)
  go_ret
  exact ⟨rfl,hb1⟩
end Go.Proofs.YtmomjpolkkbhnaaGreat.Qy
end
