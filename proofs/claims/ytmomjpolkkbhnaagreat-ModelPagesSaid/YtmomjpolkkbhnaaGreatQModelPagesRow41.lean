/- store.Check, model.New (printed by gen_mdi.py). -/
import Derived.Test.YtmomjpolkkbhnaaGreatQModelPagesRow21
import Derived.Test.YtmomjpolkkbhnaaGreatQModelPagesRow40
import Derived.Test.YtmomjpolkkbhnaaGreatQModelPagesRow3
import Derived.Test.YtmomjpolkkbhnaaGreatQModelPagesRow0
set_option linter.unusedSimpArgs false
set_option linter.unusedVariables false
set_option maxRecDepth 20000
section
namespace Go.Proofs.YtmomjpolkkbhnaaGreat.Md
open Go.RowKit Ut Tk Qy Qp Ev
theorem least64:I64 (-9223372036854775808):=⟨by decide,by decide⟩
theorem within_any (n a b:Int) (w:World):Calls Tryz.prog 76 #[.int .i64 n,.int .i64 a,.int .i64 b] w fun e w'=>e=.returned (.bool (decide (a≤n) && decide (n≤b)))∧w=w':=by
 by_cases h1:a≤n
 ·by_cases h2:n≤b
  ·rw [decide_eq_true h1,decide_eq_true h2]
   go_enter Tryz.func76,Tryz.ntmps76
   go_wp2
   go_ret
   exact ⟨rfl,rfl⟩
  ·rw [decide_eq_true h1,decide_eq_false h2]
   go_enter Tryz.func76,Tryz.ntmps76
   go_wp2
   go_ret
   exact ⟨rfl,rfl⟩
 ·rw [decide_eq_false h1]
  go_enter Tryz.func76,Tryz.ntmps76
  go_wp2
  go_ret
  exact ⟨rfl,rfl⟩
theorem okC_eq (c:Cf):decide (okC c)=((decide (1≤c.size) && decide (c.size≤262144)) && decide (1≤c.age) && decide (0≤c.retain) && (decide (1≤c.batch) && decide (c.batch≤64)) && (decide (1≤c.buckets) && decide (c.buckets≤10000))):=by
 by_cases h:okC c
 ·have h':=h
  unfold okC at h'
  obtain ⟨h1,h2,h3,h4,h5,h6,h7,h8⟩:=h'
  rw [decide_eq_true h,decide_eq_true h1,decide_eq_true h2,decide_eq_true h3,decide_eq_true h4,decide_eq_true h5,decide_eq_true h6,decide_eq_true h7,decide_eq_true h8]
  rfl
 ·rw [decide_eq_false h]
  refine (Bool.eq_false_iff.2 (fun hh=>h ?_)).symm
  simp only [Bool.and_eq_true,decide_eq_true_eq] at hh
  unfold okC
  omega
set_option maxHeartbeats 3200000 in
theorem scheck_any (c:Cf) (w:World):Calls Tryz.prog 40 #[c.v] w fun e w'=>e=.returned (.int .i64 (if okC c then 0 else 270))∧Below w.heap.size w w':=by
 have hb:Below w.heap.size w (w.alloc (.cells #[.int .i64 c.size,.int .i64 c.age,.int .i64 c.retain,.int .i64 c.batch,.int .i64 c.buckets,.bool c.bt,.bool c.bb] 25)):=(Below.refl _ _).alloc (zG _) _
 have hx:=Blk.new w 25 #[.int .i64 c.size,.int .i64 c.age,.int .i64 c.retain,.int .i64 c.batch,.int .i64 c.buckets,.bool c.bt,.bool c.bb]
 have k0:=hx.cell 0
 have k1:=hx.cell 1
 have k2:=hx.cell 2
 have k3:=hx.cell 3
 have k4:=hx.cell 4
 simp only [zA,zB,zC] at k0 k1 k2 k3 k4
 have hif:(if okC c then (0:Int) else 270)=(if decide (okC c)=true then 0 else 270):=by simp
 rw [hif,okC_eq]
 obtain ⟨sz,ag,rt,bt,bu,b1,b2⟩:=c
 simp only [Cf.v] at *
 have HB:=zh hb
 have C1:=zh (fun wx=>within_any sz 1 262144 wx)
 have C2:=zh (fun wx=>within_any bt 1 64 wx)
 have C3:=zh (fun wx=>within_any bu 1 10000 wx)
 generalize (decide (1≤sz) && decide (sz≤262144))=d1 at *
 generalize (decide (1≤bt) && decide (bt≤64))=d4 at *
 generalize (decide (1≤bu) && decide (bu≤10000))=d5 at *
 have fin:∀ d2 d3:Bool,decide (1≤ag)=d2→decide (0≤rt)=d3→Calls Tryz.prog 40 #[.agg #[.int .i64 sz,.int .i64 ag,.int .i64 rt,.int .i64 bt,.int .i64 bu,.bool b1,.bool b2]] w fun e w'=>e=.returned (.int .i64 (if (d1 && d2 && d3 && d4 && d5)=true then 0 else 270))∧Below w.heap.size w w':=by
  intro d2 d3 h2 h3
  clear hb hx hif
  cases d1 with
  | false =>
   clear h2 h3
   go_enter Tryz.func40,Tryz.ntmps40
   go_wp2_with fail
   refine (C1.out _).mono ?_
   rintro e w2 ⟨rfl,rfl⟩
   clear C1 C2 C3
   go_wp2
   go_ret
   exact ⟨rfl,HB.out⟩
  | true =>
   cases d2 with
   | false =>
    have h2':¬ 1≤ag:=of_decide_eq_false h2
    clear h2 h3
    go_enter Tryz.func40,Tryz.ntmps40
    go_wp2_with fail
    refine (C1.out _).mono ?_
    rintro e w2 ⟨rfl,rfl⟩
    clear C1 C2 C3
    go_wp2
    go_ret
    exact ⟨rfl,HB.out⟩
   | true =>
    have h2' : 1≤ag:=of_decide_eq_true h2
    clear h2
    cases d3 with
    | false =>
     have h3':¬ 0≤rt:=of_decide_eq_false h3
     clear h3
     go_enter Tryz.func40,Tryz.ntmps40
     go_wp2_with fail
     refine (C1.out _).mono ?_
     rintro e w2 ⟨rfl,rfl⟩
     clear C1 C2 C3
     go_wp2
     go_ret
     exact ⟨rfl,HB.out⟩
    | true =>
     have h3' : 0≤rt:=of_decide_eq_true h3
     clear h3
     go_enter Tryz.func40,Tryz.ntmps40
     go_wp2_with fail
     refine (C1.out _).mono ?_
     rintro e w2 ⟨rfl,rfl⟩
     go_wp2_with fail
     refine (C2.out _).mono ?_
     rintro e w2 ⟨rfl,rfl⟩
     cases d4 with
     | false =>
      clear C1 C2 C3
      go_wp2
      go_ret
      exact ⟨rfl,HB.out⟩
     | true =>
      go_wp2_with fail
      refine (C3.out _).mono ?_
      rintro e w2 ⟨rfl,rfl⟩
      clear C1 C2 C3
      cases d5 with
      | false =>
       go_wp2
       go_ret
       exact ⟨rfl,HB.out⟩
      | true =>
       go_wp2
       go_ret
       exact ⟨rfl,HB.out⟩
 exact fin _ _ rfl rfl
def NewP (c:Cf) (w:World) (e:Ending) (w':World):Prop:=(okC c∧∃ X,e=.returned (.tuple #[.pointer (some ⟨X,0,none⟩),.int .i64 0])∧w.heap.size≤X∧At w' w.heap.size X 0 nil ⟨c,[],-9223372036854775808,-9223372036854775808,0⟩∧Below w.heap.size w w') ∨
 (¬ okC c∧e=.returned (.tuple #[.pointer none,.int .i64 270])∧Below w.heap.size w w')
set_option maxHeartbeats 3200000 in
theorem new_any (c:Cf) (hr:c.retain≤9223372036854775807) (w:World):Calls Tryz.prog 15 #[c.v] w (NewP c w):=by
 have hb:Below w.heap.size w (w.alloc (.cells #[.int .i64 c.size,.int .i64 c.age,.int .i64 c.retain,.int .i64 c.batch,.int .i64 c.buckets,.bool c.bt,.bool c.bb] 25)):=(Below.refl _ _).alloc (zG _) _
 have HX:=zh (Blk.new w 25 #[.int .i64 c.size,.int .i64 c.age,.int .i64 c.retain,.int .i64 c.batch,.int .i64 c.buckets,.bool c.bt,.bool c.bb])
 have HB:=zh hb
 have CS:Hid (∀ wx,Calls Tryz.prog 40 #[.agg #[.int .i64 c.size,.int .i64 c.age,.int .i64 c.retain,.int .i64 c.batch,.int .i64 c.buckets,.bool c.bt,.bool c.bb]] wx fun e w'=>e=.returned (.int .i64 (if okC c then 0 else 270))∧Below wx.heap.size wx w'):=zh (fun wx=>scheck_any c wx)
 show Calls Tryz.prog 15 #[.agg #[.int .i64 c.size,.int .i64 c.age,.int .i64 c.retain,.int .i64 c.batch,.int .i64 c.buckets,.bool c.bt,.bool c.bb]] w (NewP c w)
 clear hb
 go_enter Tryz.func15,Tryz.ntmps15
 go_upto_region 1 with (fail)
 generalize w.alloc (.cells #[.int .i64 c.size,.int .i64 c.age,.int .i64 c.retain,.int .i64 c.batch,.int .i64 c.buckets,.bool c.bt,.bool c.bb] 25)=w1 at *
 have k0:=HX.out.cell 0
 have k1:=HX.out.cell 1
 have k2:=HX.out.cell 2
 have k3:=HX.out.cell 3
 have k4:=HX.out.cell 4
 have k5:=HX.out.cell 5
 have k6:=HX.out.cell 6
 simp only [zA,zB,zC] at k0 k1 k2 k3 k4 k5 k6
 go_wp2_with fail
 refine (CS.out w1).mono ?_
 rintro e w2 ⟨rfl,hb2⟩
 have HB2:=zh (HB.out.trans (hb2.mono HB.out.size))
 have hx2:=HX.out.below hb2 HX.out.lt
 clear hb2 CS k0 k1 k2 k3 k4 k5 k6
 have k0:=hx2.cell 0
 have k1:=hx2.cell 1
 have k2:=hx2.cell 2
 have k3:=hx2.cell 3
 have k4:=hx2.cell 4
 have k5:=hx2.cell 5
 have k6:=hx2.cell 6
 simp only [zA,zB,zC] at k0 k1 k2 k3 k4 k5 k6
 clear hx2
 by_cases hok:okC c
 ·rw [if_pos hok]
  have hm:=Blk.new w2 81 (mdC ⟨c,[],-9223372036854775808,-9223372036854775808,0⟩ nil)
  have hb3:Below w2.heap.size w2 (w2.alloc (.cells (mdC ⟨c,[],-9223372036854775808,-9223372036854775808,0⟩ nil) 81)):=(Below.refl _ _).alloc (zG _) _
  have hs:=HB2.out.size
  have FIN:Hid (NewP c w (.returned (.tuple #[.pointer (some ⟨w2.heap.size,0,none⟩),.int .i64 0])) (w2.alloc (.cells (mdC ⟨c,[],-9223372036854775808,-9223372036854775808,0⟩ nil) 81))):=zh (.inl ⟨hok,_,rfl,hs,⟨hm,DOwn.start _ _,Nat.le_trans hs hb3.size,⟨hok,hr,fun i h=>absurd h (by simp),least64,least64,⟨Int.le_refl _,Int.natCast_nonneg _⟩⟩,zG _⟩,HB2.out.trans (hb3.mono hs)⟩)
  clear hm hb3 hok
  go_wp2
  go_ret2
  exact FIN.out
 ·rw [if_neg hok]
  go_wp2
  go_ret2
  exact .inr ⟨hok,rfl,HB2.out⟩
end Go.Proofs.YtmomjpolkkbhnaaGreat.Md
end

section
namespace Go.Proofs.YtmomjpolkkbhnaaGreat.Md
open Go.RowKit Ut Tk Qy Qp Ev Cu
section
variable {base:Nat} {w':World} {m m':M} {r:Rq} {cs:Array Value}
theorem DoR.k1 (h:DoR base w' m r m' cs) (e:r.op=1):m'=(ing m r).1∧cs=(ing m r).2:=by
 rcases h with ⟨_,h⟩ | ⟨h,_⟩ | ⟨h,_⟩ | ⟨h,_⟩ | ⟨h,_⟩ | ⟨h,_⟩ | ⟨h,_⟩ | ⟨h,_⟩ | ⟨h,_⟩ | ⟨h,_⟩ | ⟨h,_⟩ <;> first | exact h | omega
theorem DoR.k9 (h:DoR base w' m r m' cs) (e:r.op=9):m'=m∧OpR base w' r cs:=by
 rcases h with ⟨h,_⟩ | ⟨h,_⟩ | ⟨h,_⟩ | ⟨h,_⟩ | ⟨h,_⟩ | ⟨h,_⟩ | ⟨h,_⟩ | ⟨_,h⟩ | ⟨h,_⟩ | ⟨h,_⟩ | ⟨h,_⟩ <;> first | exact h | omega
theorem DoR.k10 (h:DoR base w' m r m' cs) (e:r.op=10):m'=m∧TlR w' m r base cs:=by
 rcases h with ⟨h,_⟩ | ⟨h,_⟩ | ⟨h,_⟩ | ⟨h,_⟩ | ⟨h,_⟩ | ⟨h,_⟩ | ⟨h,_⟩ | ⟨h,_⟩ | ⟨_,h⟩ | ⟨h,_⟩ | ⟨h,_⟩ <;> first | exact h | omega
theorem DoR.k11 (h:DoR base w' m r m' cs) (e:r.op=11):m'=m∧cs=statC m:=by
 rcases h with ⟨h,_⟩ | ⟨h,_⟩ | ⟨h,_⟩ | ⟨h,_⟩ | ⟨h,_⟩ | ⟨h,_⟩ | ⟨h,_⟩ | ⟨h,_⟩ | ⟨h,_⟩ | ⟨_,h⟩ | ⟨h,_⟩ <;> first | exact h | omega
theorem DoR.k0 (h:DoR base w' m r m' cs) (e:r.op=0):m'=m∧cs=rsC 272 0 0 nil nil nil 0 0 0 0:=by
 rcases h with ⟨h,_⟩ | ⟨h,_⟩ | ⟨h,_⟩ | ⟨h,_⟩ | ⟨h,_⟩ | ⟨h,_⟩ | ⟨h,_⟩ | ⟨h,_⟩ | ⟨h,_⟩ | ⟨h,_⟩ | ⟨_,h⟩ <;> first | exact h | omega
end
def conf:Cf:=⟨1000,100,50,8,20,false,false⟩
theorem conf_ok:okC conf:=by unfold okC conf; decide
theorem conf_any (w:World):Calls Tryz.prog 13 #[] w fun e w'=>e=.returned conf.v∧Below w.heap.size w w':=by
 have H:=zh (And.intro (Blk.new w 25 #[.int .i64 1000,.int .i64 100,.int .i64 50,.int .i64 8,.int .i64 20,.bool false,.bool false]) ((Below.refl w.heap.size w).alloc (zG _) (.cells #[.int .i64 1000,.int .i64 100,.int .i64 50,.int .i64 8,.int .i64 20,.bool false,.bool false] 25)))
 go_enter Tryz.func13,Tryz.ntmps13
 go_wp2_with fail
 refine bodyPost_ret (results_cell rfl rfl (run_loadVar_row _ w.heap.size 25 25 _ (0,0) _ H.out.1 Tryz.underlying25 rfl (by kernel_rfl))) rfl ⟨rfl,H.out.2⟩
theorem chg_base {n0 X:Nat} {v:Value} {w w':World} {ds:List Dc} (h:Chg (fun b=>b=X∨v.ownBlock=some b) w w') (ho:DOwn w n0 v ds) (hX:n0≤X) (hn:n0≤w.heap.size):Below n0 w w':=h.below hn (fun k hk=>by
 rcases hk with rfl | hk
 ·exact hX
 ·obtain ⟨vss,_,g2,_⟩:=ho.ex
  exact (g2.lt k hk).1)
theorem chg_keep {n0 X K g:Nat} {v:Value} {m:M} {w w':World} {T:TypeId} {cs:Array Value} (h:Chg (fun b=>b=X∨v.ownBlock=some b) w w') (hA:At w n0 X K v m) (hb:Blk w g T cs) (h1:T≠81) (h2:T≠48):Blk w' g T cs:=chg_blk h hb (fun hk=>by
 rcases hk with rfl | hk
 ·exact h1 ((tg_blk hb).one ⟨_,_,hA.blk⟩)
 ·obtain ⟨vss,_,g2,_⟩:=hA.own.ex
  exact h2 ((tg_blk hb).one (tg_own g2 hk)))
def rq0:Rq:=⟨0,[],false,0,⟨#[]⟩,0,0,0,0,0,[]⟩
theorem rq_nil {w:World} (r:Rq) (h1:r.evs=[]) (h2:r.cur=[]) (h3:I64 r.now) (h4:r.width≤9223372036854775807):RqAt w r ⟨none,0,0,none,0,0⟩ :=
 ⟨⟨by rw [h1]; rfl,by decide,zG _,[],rfl,Reads.none_,fun i h=>absurd h (by rw [h1]; simp)⟩,by rw [h2]; exact Reads.none_,⟨by decide,zG _,fun _=>rfl⟩,fun e he=>absurd (h1 ▸ he) (by simp),h3,h4⟩
def exE:List Evn:=[(1,[]),(2,[])]
def rq1:Rq:={ rq0 with op:=1,evs:=exE }
def rq11:Rq:={ rq0 with op:=11 }
abbrev exM:M:=⟨conf,[],-9223372036854775808,-9223372036854775808,0⟩
def exM2:M:=⟨conf,[⟨1,1,[]⟩,⟨2,2,[]⟩],-9223372036854775808,-9223372036854775808,0⟩
theorem ex_chk:chkB 1 exE=0:=by decide +kernel
theorem ex_ing:ing exM rq1=(exM2,rsC 0 1 0 nil nil nil 0 0 0 0):=by
 have h:chkB ((exM.ds.length:Nat)+1) exE=0:=ex_chk
 unfold ing
 rw [if_neg (by decide),if_neg (by decide)]
 show (if chkB ((exM.ds.length:Nat)+1) exE≠0 then _ else _)=_
 rw [if_neg (by rw [h]; decide)]
 rfl
theorem ex_stat:statC exM2=rsC 0 0 (-9223372036854775808) nil nil nil 2 3 (-9223372036854775808) 0:=by
 have h:(upL exM2 (fun _=>true)).length=2:=by decide +kernel
 unfold statC
 rw [h]
 rfl
theorem field_e (w:World):(Instr.field 42 (.agg #[.int .i64 272,.int .i64 0,.int .i64 0,.slice none 0 0,.slice none 0 0,.slice none 0 0,.int .i64 0,.int .i64 0,.int .i64 0,.int .i64 0]) 0).run Tryz.prog w=.ok (.int .i64 272) w:=by kernel_rfl
set_option maxHeartbeats 6400000 in
theorem awake_any (w:World):Calls Tryz.prog 9 #[] w fun e w'=>e=.returned (.bool true)∧Below w.heap.size w w':=by
 go_enter Tryz.func9,Tryz.ntmps9
 go_wp2_with fail
 refine (conf_any w).mono ?_
 rintro e w1 ⟨rfl,hb1⟩
 have HB1:=zh hb1
 clear hb1
 go_wp2_with fail
 refine (new_any conf (by decide) w1).mono ?_
 rintro e w2 hN
 rcases hN with ⟨_,X,rfl,hX,hA,hb2⟩ | ⟨h,_⟩
 case inr=>exact absurd conf_ok h
 have HB2:=zh (HB1.out.trans (hb2.mono HB1.out.size))
 have HA2:=zh hA
 have hs1:=HB1.out.size
 clear hA hb2
 have hb3:Below w2.heap.size w2 (w2.alloc (.cells #[.int .i64 1,.slice none 0 0,.int .i64 2,.slice none 0 0] 46)):=(Below.refl _ _).alloc (zG _) _
 have hE3:=Rg.new_row (k:=2) w2 46 [.int .i64 1,.slice none 0 0,.int .i64 2,.slice none 0 0] 2 rfl (by omega)
 have hR3:RqAt (w2.alloc (.cells #[.int .i64 1,.slice none 0 0,.int .i64 2,.slice none 0 0] 46)) rq1 ⟨some ⟨w2.heap.size,0,none⟩,2,2,none,0,0⟩ :=
  ⟨⟨rfl,by show (2:Nat)≤4398046511104; decide,zG _,[[.int .i64 1,.slice none 0 0],[.int .i64 2,.slice none 0 0]],rfl,hE3,fun i h1 h2=>by
   have hi:i=0∨i=1:=by have:i<2:=h1; omega
   rcases hi with rfl | rfl
   ·exact ⟨none,0,0,rfl,⟨Reads.none_,rfl,by decide,zG _,fun f hf=>(nomatch hf),fun _=>rfl⟩⟩
   ·exact ⟨none,0,0,rfl,⟨Reads.none_,rfl,by decide,zG _,fun f hf=>(nomatch hf),fun _=>rfl⟩⟩⟩,Reads.none_,⟨by show (0:Nat)≤140737488351232; decide,zG _,fun _=>rfl⟩,fun e he=>by
   have:e=(1,[])∨e=(2,[]):=by simpa [rq1,exE] using he
   rcases this with rfl | rfl <;> exact ⟨by decide,by decide⟩,⟨by decide,by decide⟩,by decide⟩
 have CD1:=zh (do_any (HA2.out.below hb3) (by decide : 0≤59000) hX _ _ hR3)
 have HA3:=zh (HA2.out.below hb3)
 have HB3:=zh (HB2.out.trans (hb3.mono HB2.out.size))
 clear hb3 hE3 hR3
 go_wp2_with fail
 refine CD1.out.mono ?_
 rintro e w4 ⟨v4,m4,cs,rfl,hR,hA4,hc4,_⟩
 obtain ⟨rfl,rfl⟩:=hR.k1 rfl
 rw [show ing (⟨conf,[],-9223372036854775808,-9223372036854775808,0⟩:M) rq1=_ from ex_ing] at hA4 ⊢
 have HB4:=zh (HB3.out.trans ((chg_base hc4 HA3.out.own hX HA3.out.n0).mono hs1))
 have HA4:=zh hA4
 have hb5:Below w4.heap.size w4 (w4.alloc (.cells (rsC 0 1 0 nil nil nil 0 0 0 0) 42)):=(Below.refl _ _).alloc (zG _) _
 have HBa:=zh (Blk.new w4 42 (rsC 0 1 0 nil nil nil 0 0 0 0))
 have HA5:=zh (hA4.below hb5)
 have HB5:=zh (HB4.out.trans (hb5.mono HB4.out.size))
 have CD2:=zh (do_any HA5.out (by decide : 0+64≤59000) hX rq11 _ (rq_nil rq11 rfl rfl ⟨by decide,by decide⟩ (by decide)))
 clear hR hA4 hc4 CD1 hb5
 go_upto_region 5 with (fail)
 generalize w4.alloc (.cells (rsC 0 1 0 nil nil nil 0 0 0 0) 42)=w5 at *
 go_wp2_with fail
 refine CD2.out.mono ?_
 rintro e w6 ⟨v6,m6,cs,rfl,hR,hA6,hc6,hbl⟩
 obtain ⟨rfl,rfl⟩:=hR.k11 rfl
 obtain ⟨hb6,_⟩:=hbl.1 (by decide)
 rw [ex_stat]
 have hb7:Below w6.heap.size w6 (w6.alloc (.cells (rsC 0 0 (-9223372036854775808) nil nil nil 2 3 (-9223372036854775808) 0) 42)):=(Below.refl _ _).alloc (zG _) _
 have hb57:=hb6.trans (hb7.mono hb6.size)
 have HBb:=zh (Blk.new w6 42 (rsC 0 0 (-9223372036854775808) nil nil nil 2 3 (-9223372036854775808) 0))
 have HBa7:=zh (HBa.out.below hb57 HBa.out.lt)
 have HB7:=zh (HB5.out.trans (hb57.mono HB5.out.size))
 have HA7:=zh (hA6.below hb7)
 have CD3:=zh (do_any HA7.out (by decide : 0+64+64≤59000) hX rq0 _ (rq_nil rq0 rfl rfl ⟨by decide,by decide⟩ (by decide)))
 clear hR hA6 hc6 hbl hb6 hb7 hb57 CD2 HBa
 go_upto_region 6 with (fail)
 generalize w6.alloc (.cells (rsC 0 0 (-9223372036854775808) nil nil nil 2 3 (-9223372036854775808) 0) 42)=w7 at *
 have a0:=HBa7.out.cell 0
 have a1:=HBa7.out.cell 1
 have b6:=HBb.out.cell 6
 have b7:=HBb.out.cell 7
 have b9:=HBb.out.cell 9
 simp only [rsC,zA,zB,zC] at a0 a1 b6 b7 b9
 go_wp2_with fail
 refine CD3.out.mono ?_
 rintro e w8 ⟨v8,m8,cs,rfl,hR,hA8,hc8,_⟩
 obtain ⟨_,hcs⟩:=hR.k0 rfl
 have hcs2:cs=#[.int .i64 272,.int .i64 0,.int .i64 0,.slice none 0 0,.slice none 0 0,.slice none 0 0,.int .i64 0,.int .i64 0,.int .i64 0,.int .i64 0]:=hcs
 subst hcs2
 have HB8:=zh (HB7.out.trans ((chg_base hc8 HA7.out.own hX HA7.out.n0).mono hs1))
 have hfe:=field_e w8
 clear hcs hR hA8 hc8 CD3 a0 a1 b6 b7 b9
 go_wp2
 go_ret
 exact ⟨rfl,HB8.out⟩
end Go.Proofs.YtmomjpolkkbhnaaGreat.Md
end
