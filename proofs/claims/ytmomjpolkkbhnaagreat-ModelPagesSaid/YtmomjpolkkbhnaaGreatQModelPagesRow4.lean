/- The walk of utf.Decode at runes of 2 bytes. -/
import Derived.Deep.QuietTactic
import Derived.BigQuiet
import Derived.Test.YtmomjpolkkbhnaaGreatQModelPagesRow0
set_option maxRecDepth 20000
section
namespace Go.Proofs.YtmomjpolkkbhnaaGreat.Ut
open Go.RowKit
set_option maxRecDepth 100000 in
set_option maxHeartbeats 3200000 in
theorem dec_form0 (s:ByteArray) (k m:Nat) (w:World) (hk:k<s.size) (hm:(s[k]).toNat=m) (h128 : 128≤m) (h256:m<256) (hq:m / 32=6) (hs:s.size≤140737488351232) :
  Calls Tryz.prog 181 #[.string s,.int .i64 (k:Int)] w fun e w' =>
   e=.returned (.tuple #[.int .i64 ((form (m % 32) (s.data.toList.drop (k+1)) 2 128 2047).1:Nat),.int .i64 ((form (m % 32) (s.data.toList.drop (k+1)) 2 128 2047).2:Nat)])∧Below w.heap.size w w':=by
 have h0:¬ (k:Int)<0:=by omega
 have h1:¬ (s.size:Int)≤(k:Int):=by omega
 have h2:¬ (m:Int)<128:=by omega
 have hm0:=mask0 m h256
 have hm1:=mask1 m h256
 have hm2:=mask2 m h256
 rw [show decide (m / 32=6)=true from by simp; omega] at hm0
 rw [show decide (m / 16=14)=false from by simp; omega] at hm1
 rw [show decide (m / 8=30)=false from by simp; omega] at hm2
 simp only [Bool.not_true,Bool.not_false] at hm0 hm1 hm2
 have i0:=idx_f0
 have i1:=idx_f1
 have i2:=idx_f2
 by_cases hlen:k+2≤s.size
 ·obtain ⟨u,hus,hul,hsl⟩:∃ u:ByteArray,u.size=1∧u.data.toList=(s.data.toList.drop (k+1)).take 1∧∀ W:World,(Instr.slice 9 (.string s) (some (.int .i64 ((k:Int)+1))) (some (.int .i64 ((k:Int)+2))) none).run Tryz.prog W=.ok (.string u) W:=sub_at s k 2 (by omega) hlen
  obtain ⟨cap,C,fr,hconv,hC⟩:=bytes_conv (P:=Tryz.prog) 9 30 5 u Tryz.underlying9 Tryz.underlying30 Tryz.underlying5
  have han:=andn0 m h256
  rw [hus] at hconv
  have Hul:=zh hul
  have Hus:=zh hus
  have HC:=zh hC
  have Fin:=zh (form_eq (m % 32) (s.data.toList.drop (k+1)) 2 128 2047 (by rw [List.length_drop,bsize]; omega))
  rw [show 2 - 1=1 from rfl,← hul] at Fin
  clear hul hus hC
  go_enter Tryz.func181,Tryz.ntmps181
  go_wp2_with (go_at_call 201; refine (forms_any _).mono ?_; rintro e w1 ⟨rfl,hb1⟩)
  refine wp_loop_rounds 4 ?_
  rw [rounds_succ]
  go_wp2_with fail
  have hb0:Below w.heap.size w (((w1.alloc (.cells #[.int .i64 2,.int .u8 224,.int .u8 192,.int .i64 128,.int .i64 2047,.int .i64 (-1)] 243)).alloc (.cells (C (w1.alloc (.cells #[.int .i64 2,.int .u8 224,.int .u8 192,.int .i64 128,.int .i64 2047,.int .i64 (-1)] 243))) 5 (fr (w1.alloc (.cells #[.int .i64 2,.int .u8 224,.int .u8 192,.int .i64 128,.int .i64 2047,.int .i64 (-1)] 243))))).drew) :=
   (((hb1).alloc (by have:=hb1.size; simp; omega) _).alloc (by have:=hb1.size; simp; omega) _).drew
  have hk0:Blk (((w1.alloc (.cells #[.int .i64 2,.int .u8 224,.int .u8 192,.int .i64 128,.int .i64 2047,.int .i64 (-1)] 243)).alloc (.cells (C (w1.alloc (.cells #[.int .i64 2,.int .u8 224,.int .u8 192,.int .i64 128,.int .i64 2047,.int .i64 (-1)] 243))) 5 (fr (w1.alloc (.cells #[.int .i64 2,.int .u8 224,.int .u8 192,.int .i64 128,.int .i64 2047,.int .i64 (-1)] 243))))).drew) (w1.heap.size) 243 #[.int .i64 2,.int .u8 224,.int .u8 192,.int .i64 128,.int .i64 2047,.int .i64 (-1)]:=by
   have:=((Blk.new w1 243 #[.int .i64 2,.int .u8 224,.int .u8 192,.int .i64 128,.int .i64 2047,.int .i64 (-1)]).alloc (.cells (C (w1.alloc (.cells #[.int .i64 2,.int .u8 224,.int .u8 192,.int .i64 128,.int .i64 2047,.int .i64 (-1)] 243))) 5 (fr (w1.alloc (.cells #[.int .i64 2,.int .u8 224,.int .u8 192,.int .i64 128,.int .i64 2047,.int .i64 (-1)] 243))))).drew
   simpa using this
  have hc0:∀ (i:Nat) (h:i<u.size),(((w1.alloc (.cells #[.int .i64 2,.int .u8 224,.int .u8 192,.int .i64 128,.int .i64 2047,.int .i64 (-1)] 243)).alloc (.cells (C (w1.alloc (.cells #[.int .i64 2,.int .u8 224,.int .u8 192,.int .i64 128,.int .i64 2047,.int .i64 (-1)] 243))) 5 (fr (w1.alloc (.cells #[.int .i64 2,.int .u8 224,.int .u8 192,.int .i64 128,.int .i64 2047,.int .i64 (-1)] 243))))).drew).cell? ⟨w1.heap.size+1,i,none⟩=some (.int .u8 ((u[i]).toNat:Int)):=fun i h=>by
   have:=cell_new2 w1 (.cells #[.int .i64 2,.int .u8 224,.int .u8 192,.int .i64 128,.int .i64 2047,.int .i64 (-1)] 243) (C (w1.alloc (.cells #[.int .i64 2,.int .u8 224,.int .u8 192,.int .i64 128,.int .i64 2047,.int .i64 (-1)] 243))) 5 (fr (w1.alloc (.cells #[.int .i64 2,.int .u8 224,.int .u8 192,.int .i64 128,.int .i64 2047,.int .i64 (-1)] 243))) i
   have h2:=HC.out (w1.alloc (.cells #[.int .i64 2,.int .u8 224,.int .u8 192,.int .i64 128,.int .i64 2047,.int .i64 (-1)] 243)) i h
   try simp only [World.size_alloc] at this
   exact this.trans h2
  have Hb0:=zh hb0
  have Hk0:=zh hk0
  have Hc0:=zh hc0
  clear hb0 hk0 hc0
  go_loopw [9,10,63] (fun r o i wr=>∃ j:Nat,j≤1∧i=.int .i64 j∧r=.int .i64 (acc (m % 32) (u.data.toList.take j):Nat)∧o=.bool ((u.data.toList.take j).all cont)∧Below w.heap.size w wr∧Blk wr (w1.heap.size) 243 #[.int .i64 2,.int .u8 224,.int .u8 192,.int .i64 128,.int .i64 2047,.int .i64 (-1)] ∧
    ∀ (i:Nat) (h:i<u.size),wr.cell? ⟨w1.heap.size+1,i,none⟩=some (.int .u8 ((u[i]).toNat:Int))) (fun _ _ i _=>1 - (intOf i).toNat)
  case atStart=>exact ⟨0,by omega,rfl,by simp [acc_nil],rfl,Hb0.out,Hk0.out,Hc0.out⟩
  case round =>
   obtain ⟨j,hj,rfl,hr,ho,hb,hkb,hcl⟩:=hrel
   by_cases hjn:j<1
   ·have hju:j<u.size:=by rw [Hus.out]; exact hjn
    have hcx:=hcl j hju
    have hx:=(u[j]).toNat_lt
    have e63:=low6 _ hx
    have e192:=high2 _ hx
    have hts:=take_snoc u j hju
    have ha:=acc_snoc (m % 32) (u.data.toList.take j) u[j]
    have hal:((u.data.toList.take j) ++ [u[j]]).all cont=((u.data.toList.take j).all cont && (u[j].toNat / 64 == 2)):=by rw [List.all_append]; simp [cont]
    rw [← hts] at ha hal
    have hlt:=acc_lt (m % 32) (u.data.toList.take j) (by omega) (by rw [List.length_take]; omega)
    have hor:bits BinOp.or IntKind.i64 ((acc (m % 32) (u.data.toList.take j):Int) * 64) ((u[j].toNat:Int) % 64)=((acc (m % 32) (u.data.toList.take j) * 64+u[j].toNat % 64:Nat):Int):=by
     rw [show ((u[j].toNat:Int) % 64)=((u[j].toNat % 64:Nat):Int) from by omega]
     exact or_shift (acc (m % 32) (u.data.toList.take j)) (u[j].toNat % 64) hlt (by omega)
    have Ha:=zh ha
    have Hal:=zh hal
    have Hcl:=zh hcl
    have Hkb:=zh hkb
    have Hb:=zh hb
    clear ha hal hcl hkb hb hts
    generalize acc (m % 32) (u.data.toList.take j)=a at *
    generalize (u.data.toList.take j).all cont=ob at *
    generalize hxe:u[j].toNat=x at *
    have Hxe:=zh hxe
    clear hxe
    generalize hcb:(x / 64 == 2)=cb at *
    have Hcb:=zh hcb
    clear hcb
    subst hr ho
    cases ob
    ·go_wp2
     go_roundw
     case rel=>exact ⟨j+1,by omega,by go_num,by rw [Ha.out]; first | rfl | go_num,by rw [Hal.out]; rfl,Hb.out,Hkb.out,Hcl.out⟩
     case measure=>simp [intOf]; omega
    ·go_wp2
     go_roundw
     case rel=>exact ⟨j+1,by omega,by go_num,by rw [Ha.out]; first | rfl | go_num,by rw [Hal.out]; rfl,Hb.out,Hkb.out,Hcl.out⟩
     case measure=>simp [intOf]; omega
   ·obtain rfl:j=1:=by omega
    have htk:u.data.toList.take 1=u.data.toList:=List.take_of_length_le (by rw [bsize,Hus.out]; exact zG _)
    rw [htk] at hr ho
    have c3:=hkb.cell 3
    have c4:=hkb.cell 4
    have c5:=hkb.cell 5
    have c0:=hkb.cell 0
    have hwz:w.heap.size≤wr.heap.size:=hb.size
    have hlt:=acc_lt (m % 32) u.data.toList (by omega) (by rw [bsize,Hus.out]; omega)
    have hkl:=hkb.lt
    clear hcl htk hkb
    generalize acc (m % 32) u.data.toList=a at *
    generalize u.data.toList.all cont=ob at *
    subst hr ho
    cases ob
    ·have fin:=zh (Fin.out false rfl)
     clear Fin
     go_wp2_with (first | (go_at_call 182; refine (calls_from hb (in_any _ _ _ _ _)).mono ?_; rintro e w' ⟨rfl,hb⟩) | (go_at_call 202; refine (half_any _ _).mono ?_; rintro e w' ⟨rfl,rfl⟩))
     rw [rounds_succ]
     go_wp2_with fail
     have hb:=hb.alloc hb.size (.cells #[.int .i64 3,.int .u8 240,.int .u8 224,.int .i64 2048,.int .i64 65535,.int .i64 (-1)] 243)
     rw [rounds_succ]
     go_wp2_with fail
     have hb:=hb.alloc hb.size (.cells #[.int .i64 4,.int .u8 248,.int .u8 240,.int .i64 65536,.int .i64 1114111,.int .i64 (-1)] 243)
     rw [rounds_succ]
     go_wp2_with fail
     go_ret2
     exact ⟨by rw [fin.out]; rfl,hb⟩
    ·by_cases hin:inB 128 2047 (-1) (a:Int)=true
     ·by_cases hh:halfB (a:Int)=true
      ·have fin:=zh (Fin.out false (by rw [show inB ((128:Nat):Int) ((2047:Nat):Int) (-1) (a:Int)=true from hin,hh]; rfl))
       clear Fin
       go_wp2_with (first | (go_at_call 182; refine (calls_from hb (in_any _ _ _ _ _)).mono ?_; rintro e w' ⟨rfl,hb⟩) | (go_at_call 202; refine (half_any _ _).mono ?_; rintro e w' ⟨rfl,rfl⟩))
       rw [rounds_succ]
       go_wp2_with fail
       have hb:=hb.alloc hb.size (.cells #[.int .i64 3,.int .u8 240,.int .u8 224,.int .i64 2048,.int .i64 65535,.int .i64 (-1)] 243)
       rw [rounds_succ]
       go_wp2_with fail
       have hb:=hb.alloc hb.size (.cells #[.int .i64 4,.int .u8 248,.int .u8 240,.int .i64 65536,.int .i64 1114111,.int .i64 (-1)] 243)
       rw [rounds_succ]
       go_wp2_with fail
       go_ret2
       exact ⟨by rw [fin.out]; rfl,hb⟩
      ·have hhf:halfB (a:Int)=false:=by simpa using hh
       have fin:=zh (Fin.out true (by rw [show inB ((128:Nat):Int) ((2047:Nat):Int) (-1) (a:Int)=true from hin,hhf]; rfl))
       clear Fin hh
       go_wp2_with (first | (go_at_call 182; refine (in_any _ _ _ _ _).mono ?_; rintro e w3 ⟨rfl,hb3⟩; have c03:=(hb3.cell (p:=⟨w1.heap.size,0,none⟩) hkl).trans c0) | (go_at_call 202; refine (half_any _ _).mono ?_; rintro e w' ⟨rfl,rfl⟩))
       go_quiet (fail)
       go_wp2
       go_ret2
       exact ⟨by rw [fin.out]; rfl,below_drewN (hb.trans (hb3.mono hb.size)) _⟩
     ·have hinf:inB 128 2047 (-1) (a:Int)=false:=by simpa using hin
      have fin:=zh (Fin.out false (by rw [show inB ((128:Nat):Int) ((2047:Nat):Int) (-1) (a:Int)=false from hinf]; rfl))
      clear Fin hin
      go_wp2_with (first | (go_at_call 182; refine (calls_from hb (in_any _ _ _ _ _)).mono ?_; rintro e w' ⟨rfl,hb⟩) | (go_at_call 202; refine (half_any _ _).mono ?_; rintro e w' ⟨rfl,rfl⟩))
      rw [rounds_succ]
      go_wp2_with fail
      have hb:=hb.alloc hb.size (.cells #[.int .i64 3,.int .u8 240,.int .u8 224,.int .i64 2048,.int .i64 65535,.int .i64 (-1)] 243)
      rw [rounds_succ]
      go_wp2_with fail
      have hb:=hb.alloc hb.size (.cells #[.int .i64 4,.int .u8 248,.int .u8 240,.int .i64 65536,.int .i64 1114111,.int .i64 (-1)] 243)
      rw [rounds_succ]
      go_wp2_with fail
      go_ret2
      exact ⟨by rw [fin.out]; rfl,hb⟩
 ·have fin:=zh (form_short (m % 32) (s.data.toList.drop (k+1)) 2 128 2047 (by rw [List.length_drop,bsize]; omega))
  have hsh:(s.size:Int) - (k:Int)<2:=by omega
  go_enter Tryz.func181,Tryz.ntmps181
  go_wp2_with (go_at_call 201; refine (forms_any _).mono ?_; rintro e w1 ⟨rfl,hb1⟩)
  refine wp_loop_rounds 4 ?_
  rw [rounds_succ]
  go_wp2_with fail
  rw [rounds_succ]
  go_wp2_with fail
  rw [rounds_succ]
  go_wp2_with fail
  rw [rounds_succ]
  go_wp2_with fail
  go_ret2
  exact ⟨by rw [fin.out]; rfl,((hb1.alloc hb1.size _).alloc (by have:=hb1.size; simp; omega) _).alloc (by have:=hb1.size; simp; omega) _⟩
end Go.Proofs.YtmomjpolkkbhnaaGreat.Ut
end

section
namespace Go.Proofs.YtmomjpolkkbhnaaGreat.Ut
open Go.RowKit
set_option maxRecDepth 100000 in
set_option maxHeartbeats 3200000 in
theorem dec_form1 (s:ByteArray) (k m:Nat) (w:World) (hk:k<s.size) (hm:(s[k]).toNat=m) (h128 : 128≤m) (h256:m<256) (hq:m / 16=14) (hs:s.size≤140737488351232) :
  Calls Tryz.prog 181 #[.string s,.int .i64 (k:Int)] w fun e w' =>
   e=.returned (.tuple #[.int .i64 ((form (m % 16) (s.data.toList.drop (k+1)) 3 2048 65535).1:Nat),.int .i64 ((form (m % 16) (s.data.toList.drop (k+1)) 3 2048 65535).2:Nat)])∧Below w.heap.size w w':=by
 have h0:¬ (k:Int)<0:=by omega
 have h1:¬ (s.size:Int)≤(k:Int):=by omega
 have h2:¬ (m:Int)<128:=by omega
 have hm0:=mask0 m h256
 have hm1:=mask1 m h256
 have hm2:=mask2 m h256
 rw [show decide (m / 32=6)=false from by simp; omega] at hm0
 rw [show decide (m / 16=14)=true from by simp; omega] at hm1
 rw [show decide (m / 8=30)=false from by simp; omega] at hm2
 simp only [Bool.not_true,Bool.not_false] at hm0 hm1 hm2
 have i0:=idx_f0
 have i1:=idx_f1
 have i2:=idx_f2
 by_cases hlen:k+3≤s.size
 ·obtain ⟨u,hus,hul,hsl⟩:∃ u:ByteArray,u.size=2∧u.data.toList=(s.data.toList.drop (k+1)).take 2∧∀ W:World,(Instr.slice 9 (.string s) (some (.int .i64 ((k:Int)+1))) (some (.int .i64 ((k:Int)+3))) none).run Tryz.prog W=.ok (.string u) W:=sub_at s k 3 (by omega) hlen
  obtain ⟨cap,C,fr,hconv,hC⟩:=bytes_conv (P:=Tryz.prog) 9 30 5 u Tryz.underlying9 Tryz.underlying30 Tryz.underlying5
  have han:=andn1 m h256
  rw [hus] at hconv
  have Hul:=zh hul
  have Hus:=zh hus
  have HC:=zh hC
  have Fin:=zh (form_eq (m % 16) (s.data.toList.drop (k+1)) 3 2048 65535 (by rw [List.length_drop,bsize]; omega))
  rw [show 3 - 1=2 from rfl,← hul] at Fin
  clear hul hus hC
  go_enter Tryz.func181,Tryz.ntmps181
  go_wp2_with (go_at_call 201; refine (forms_any _).mono ?_; rintro e w1 ⟨rfl,hb1⟩)
  refine wp_loop_rounds 4 ?_
  rw [rounds_succ]
  go_wp2_with fail
  rw [rounds_succ]
  go_wp2_with fail
  have hb0:Below w.heap.size w ((((w1.alloc (.cells #[.int .i64 2,.int .u8 224,.int .u8 192,.int .i64 128,.int .i64 2047,.int .i64 (-1)] 243)).alloc (.cells #[.int .i64 3,.int .u8 240,.int .u8 224,.int .i64 2048,.int .i64 65535,.int .i64 (-1)] 243)).alloc (.cells (C ((w1.alloc (.cells #[.int .i64 2,.int .u8 224,.int .u8 192,.int .i64 128,.int .i64 2047,.int .i64 (-1)] 243)).alloc (.cells #[.int .i64 3,.int .u8 240,.int .u8 224,.int .i64 2048,.int .i64 65535,.int .i64 (-1)] 243))) 5 (fr ((w1.alloc (.cells #[.int .i64 2,.int .u8 224,.int .u8 192,.int .i64 128,.int .i64 2047,.int .i64 (-1)] 243)).alloc (.cells #[.int .i64 3,.int .u8 240,.int .u8 224,.int .i64 2048,.int .i64 65535,.int .i64 (-1)] 243))))).drew) :=
   ((((hb1.alloc (hb1.size) _)).alloc (by have:=hb1.size; simp; omega) _).alloc (by have:=hb1.size; simp; omega) _).drew
  have hk0:Blk ((((w1.alloc (.cells #[.int .i64 2,.int .u8 224,.int .u8 192,.int .i64 128,.int .i64 2047,.int .i64 (-1)] 243)).alloc (.cells #[.int .i64 3,.int .u8 240,.int .u8 224,.int .i64 2048,.int .i64 65535,.int .i64 (-1)] 243)).alloc (.cells (C ((w1.alloc (.cells #[.int .i64 2,.int .u8 224,.int .u8 192,.int .i64 128,.int .i64 2047,.int .i64 (-1)] 243)).alloc (.cells #[.int .i64 3,.int .u8 240,.int .u8 224,.int .i64 2048,.int .i64 65535,.int .i64 (-1)] 243))) 5 (fr ((w1.alloc (.cells #[.int .i64 2,.int .u8 224,.int .u8 192,.int .i64 128,.int .i64 2047,.int .i64 (-1)] 243)).alloc (.cells #[.int .i64 3,.int .u8 240,.int .u8 224,.int .i64 2048,.int .i64 65535,.int .i64 (-1)] 243))))).drew) (w1.heap.size+1) 243 #[.int .i64 3,.int .u8 240,.int .u8 224,.int .i64 2048,.int .i64 65535,.int .i64 (-1)]:=by
   have:=((Blk.new (w1.alloc (.cells #[.int .i64 2,.int .u8 224,.int .u8 192,.int .i64 128,.int .i64 2047,.int .i64 (-1)] 243)) 243 #[.int .i64 3,.int .u8 240,.int .u8 224,.int .i64 2048,.int .i64 65535,.int .i64 (-1)]).alloc (.cells (C ((w1.alloc (.cells #[.int .i64 2,.int .u8 224,.int .u8 192,.int .i64 128,.int .i64 2047,.int .i64 (-1)] 243)).alloc (.cells #[.int .i64 3,.int .u8 240,.int .u8 224,.int .i64 2048,.int .i64 65535,.int .i64 (-1)] 243))) 5 (fr ((w1.alloc (.cells #[.int .i64 2,.int .u8 224,.int .u8 192,.int .i64 128,.int .i64 2047,.int .i64 (-1)] 243)).alloc (.cells #[.int .i64 3,.int .u8 240,.int .u8 224,.int .i64 2048,.int .i64 65535,.int .i64 (-1)] 243))))).drew
   simpa using this
  have hc0:∀ (i:Nat) (h:i<u.size),((((w1.alloc (.cells #[.int .i64 2,.int .u8 224,.int .u8 192,.int .i64 128,.int .i64 2047,.int .i64 (-1)] 243)).alloc (.cells #[.int .i64 3,.int .u8 240,.int .u8 224,.int .i64 2048,.int .i64 65535,.int .i64 (-1)] 243)).alloc (.cells (C ((w1.alloc (.cells #[.int .i64 2,.int .u8 224,.int .u8 192,.int .i64 128,.int .i64 2047,.int .i64 (-1)] 243)).alloc (.cells #[.int .i64 3,.int .u8 240,.int .u8 224,.int .i64 2048,.int .i64 65535,.int .i64 (-1)] 243))) 5 (fr ((w1.alloc (.cells #[.int .i64 2,.int .u8 224,.int .u8 192,.int .i64 128,.int .i64 2047,.int .i64 (-1)] 243)).alloc (.cells #[.int .i64 3,.int .u8 240,.int .u8 224,.int .i64 2048,.int .i64 65535,.int .i64 (-1)] 243))))).drew).cell? ⟨w1.heap.size+1+1,i,none⟩=some (.int .u8 ((u[i]).toNat:Int)):=fun i h=>by
   have:=cell_new2 (w1.alloc (.cells #[.int .i64 2,.int .u8 224,.int .u8 192,.int .i64 128,.int .i64 2047,.int .i64 (-1)] 243)) (.cells #[.int .i64 3,.int .u8 240,.int .u8 224,.int .i64 2048,.int .i64 65535,.int .i64 (-1)] 243) (C ((w1.alloc (.cells #[.int .i64 2,.int .u8 224,.int .u8 192,.int .i64 128,.int .i64 2047,.int .i64 (-1)] 243)).alloc (.cells #[.int .i64 3,.int .u8 240,.int .u8 224,.int .i64 2048,.int .i64 65535,.int .i64 (-1)] 243))) 5 (fr ((w1.alloc (.cells #[.int .i64 2,.int .u8 224,.int .u8 192,.int .i64 128,.int .i64 2047,.int .i64 (-1)] 243)).alloc (.cells #[.int .i64 3,.int .u8 240,.int .u8 224,.int .i64 2048,.int .i64 65535,.int .i64 (-1)] 243))) i
   have h2:=HC.out ((w1.alloc (.cells #[.int .i64 2,.int .u8 224,.int .u8 192,.int .i64 128,.int .i64 2047,.int .i64 (-1)] 243)).alloc (.cells #[.int .i64 3,.int .u8 240,.int .u8 224,.int .i64 2048,.int .i64 65535,.int .i64 (-1)] 243)) i h
   try simp only [World.size_alloc] at this
   exact this.trans h2
  have Hb0:=zh hb0
  have Hk0:=zh hk0
  have Hc0:=zh hc0
  clear hb0 hk0 hc0
  go_loopw [9,10,63] (fun r o i wr=>∃ j:Nat,j≤2∧i=.int .i64 j∧r=.int .i64 (acc (m % 16) (u.data.toList.take j):Nat)∧o=.bool ((u.data.toList.take j).all cont)∧Below w.heap.size w wr∧Blk wr (w1.heap.size+1) 243 #[.int .i64 3,.int .u8 240,.int .u8 224,.int .i64 2048,.int .i64 65535,.int .i64 (-1)] ∧
    ∀ (i:Nat) (h:i<u.size),wr.cell? ⟨w1.heap.size+1+1,i,none⟩=some (.int .u8 ((u[i]).toNat:Int))) (fun _ _ i _=>2 - (intOf i).toNat)
  case atStart=>exact ⟨0,by omega,rfl,by simp [acc_nil],rfl,Hb0.out,Hk0.out,Hc0.out⟩
  case round =>
   obtain ⟨j,hj,rfl,hr,ho,hb,hkb,hcl⟩:=hrel
   by_cases hjn:j<2
   ·have hju:j<u.size:=by rw [Hus.out]; exact hjn
    have hcx:=hcl j hju
    have hx:=(u[j]).toNat_lt
    have e63:=low6 _ hx
    have e192:=high2 _ hx
    have hts:=take_snoc u j hju
    have ha:=acc_snoc (m % 16) (u.data.toList.take j) u[j]
    have hal:((u.data.toList.take j) ++ [u[j]]).all cont=((u.data.toList.take j).all cont && (u[j].toNat / 64 == 2)):=by rw [List.all_append]; simp [cont]
    rw [← hts] at ha hal
    have hlt:=acc_lt (m % 16) (u.data.toList.take j) (by omega) (by rw [List.length_take]; omega)
    have hor:bits BinOp.or IntKind.i64 ((acc (m % 16) (u.data.toList.take j):Int) * 64) ((u[j].toNat:Int) % 64)=((acc (m % 16) (u.data.toList.take j) * 64+u[j].toNat % 64:Nat):Int):=by
     rw [show ((u[j].toNat:Int) % 64)=((u[j].toNat % 64:Nat):Int) from by omega]
     exact or_shift (acc (m % 16) (u.data.toList.take j)) (u[j].toNat % 64) hlt (by omega)
    have Ha:=zh ha
    have Hal:=zh hal
    have Hcl:=zh hcl
    have Hkb:=zh hkb
    have Hb:=zh hb
    clear ha hal hcl hkb hb hts
    generalize acc (m % 16) (u.data.toList.take j)=a at *
    generalize (u.data.toList.take j).all cont=ob at *
    generalize hxe:u[j].toNat=x at *
    have Hxe:=zh hxe
    clear hxe
    generalize hcb:(x / 64 == 2)=cb at *
    have Hcb:=zh hcb
    clear hcb
    subst hr ho
    cases ob
    ·go_wp2
     go_roundw
     case rel=>exact ⟨j+1,by omega,by go_num,by rw [Ha.out]; first | rfl | go_num,by rw [Hal.out]; rfl,Hb.out,Hkb.out,Hcl.out⟩
     case measure=>simp [intOf]; omega
    ·go_wp2
     go_roundw
     case rel=>exact ⟨j+1,by omega,by go_num,by rw [Ha.out]; first | rfl | go_num,by rw [Hal.out]; rfl,Hb.out,Hkb.out,Hcl.out⟩
     case measure=>simp [intOf]; omega
   ·obtain rfl:j=2:=by omega
    have htk:u.data.toList.take 2=u.data.toList:=List.take_of_length_le (by rw [bsize,Hus.out]; exact zG _)
    rw [htk] at hr ho
    have c3:=hkb.cell 3
    have c4:=hkb.cell 4
    have c5:=hkb.cell 5
    have c0:=hkb.cell 0
    have hwz:w.heap.size≤wr.heap.size:=hb.size
    have hlt:=acc_lt (m % 16) u.data.toList (by omega) (by rw [bsize,Hus.out]; omega)
    have hkl:=hkb.lt
    clear hcl htk hkb
    generalize acc (m % 16) u.data.toList=a at *
    generalize u.data.toList.all cont=ob at *
    subst hr ho
    cases ob
    ·have fin:=zh (Fin.out false rfl)
     clear Fin
     go_wp2_with (first | (go_at_call 182; refine (calls_from hb (in_any _ _ _ _ _)).mono ?_; rintro e w' ⟨rfl,hb⟩) | (go_at_call 202; refine (half_any _ _).mono ?_; rintro e w' ⟨rfl,rfl⟩))
     rw [rounds_succ]
     go_wp2_with fail
     have hb:=hb.alloc hb.size (.cells #[.int .i64 4,.int .u8 248,.int .u8 240,.int .i64 65536,.int .i64 1114111,.int .i64 (-1)] 243)
     rw [rounds_succ]
     go_wp2_with fail
     go_ret2
     exact ⟨by rw [fin.out]; rfl,hb⟩
    ·by_cases hin:inB 2048 65535 (-1) (a:Int)=true
     ·by_cases hh:halfB (a:Int)=true
      ·have fin:=zh (Fin.out false (by rw [show inB ((2048:Nat):Int) ((65535:Nat):Int) (-1) (a:Int)=true from hin,hh]; rfl))
       clear Fin
       go_wp2_with (first | (go_at_call 182; refine (calls_from hb (in_any _ _ _ _ _)).mono ?_; rintro e w' ⟨rfl,hb⟩) | (go_at_call 202; refine (half_any _ _).mono ?_; rintro e w' ⟨rfl,rfl⟩))
       rw [rounds_succ]
       go_wp2_with fail
       have hb:=hb.alloc hb.size (.cells #[.int .i64 4,.int .u8 248,.int .u8 240,.int .i64 65536,.int .i64 1114111,.int .i64 (-1)] 243)
       rw [rounds_succ]
       go_wp2_with fail
       go_ret2
       exact ⟨by rw [fin.out]; rfl,hb⟩
      ·have hhf:halfB (a:Int)=false:=by simpa using hh
       have fin:=zh (Fin.out true (by rw [show inB ((2048:Nat):Int) ((65535:Nat):Int) (-1) (a:Int)=true from hin,hhf]; rfl))
       clear Fin hh
       go_wp2_with (first | (go_at_call 182; refine (in_any _ _ _ _ _).mono ?_; rintro e w3 ⟨rfl,hb3⟩; have c03:=(hb3.cell (p:=⟨w1.heap.size+1,0,none⟩) hkl).trans c0) | (go_at_call 202; refine (half_any _ _).mono ?_; rintro e w' ⟨rfl,rfl⟩))
       go_quiet (fail)
       go_wp2
       go_ret2
       exact ⟨by rw [fin.out]; rfl,below_drewN (hb.trans (hb3.mono hb.size)) _⟩
     ·have hinf:inB 2048 65535 (-1) (a:Int)=false:=by simpa using hin
      have fin:=zh (Fin.out false (by rw [show inB ((2048:Nat):Int) ((65535:Nat):Int) (-1) (a:Int)=false from hinf]; rfl))
      clear Fin hin
      go_wp2_with (first | (go_at_call 182; refine (calls_from hb (in_any _ _ _ _ _)).mono ?_; rintro e w' ⟨rfl,hb⟩) | (go_at_call 202; refine (half_any _ _).mono ?_; rintro e w' ⟨rfl,rfl⟩))
      rw [rounds_succ]
      go_wp2_with fail
      have hb:=hb.alloc hb.size (.cells #[.int .i64 4,.int .u8 248,.int .u8 240,.int .i64 65536,.int .i64 1114111,.int .i64 (-1)] 243)
      rw [rounds_succ]
      go_wp2_with fail
      go_ret2
      exact ⟨by rw [fin.out]; rfl,hb⟩
 ·have fin:=zh (form_short (m % 16) (s.data.toList.drop (k+1)) 3 2048 65535 (by rw [List.length_drop,bsize]; omega))
  have hsh:(s.size:Int) - (k:Int)<3:=by omega
  go_enter Tryz.func181,Tryz.ntmps181
  go_wp2_with (go_at_call 201; refine (forms_any _).mono ?_; rintro e w1 ⟨rfl,hb1⟩)
  refine wp_loop_rounds 4 ?_
  rw [rounds_succ]
  go_wp2_with fail
  rw [rounds_succ]
  go_wp2_with fail
  rw [rounds_succ]
  go_wp2_with fail
  rw [rounds_succ]
  go_wp2_with fail
  go_ret2
  exact ⟨by rw [fin.out]; rfl,((hb1.alloc hb1.size _).alloc (by have:=hb1.size; simp; omega) _).alloc (by have:=hb1.size; simp; omega) _⟩
end Go.Proofs.YtmomjpolkkbhnaaGreat.Ut
end
