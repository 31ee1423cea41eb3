/- loggiaref10.Light, with what 'yes' tells: the walk (printed by gen_gil.py). -/
import Derived.Test.YtlfpfkallgkjdaaGreatQGiL0
import Derived.Test.YtlfpfkallgkjdaaGreatQAlertRunsRow3
import Derived.Test.YtlfpfkallgkjdaaGreatQAlertRunsRow0
set_option linter.unusedSimpArgs false
set_option linter.unusedVariables false
set_option maxRecDepth 20000
namespace Go.Proofs.YtlfpfkallgkjdaaGreat.Gi
open Go.RowKit Ut Tk Qy Ev Ph
structure EvtAt (w:World) (F:Option Addr) (fn:Nat) (fs:List (ByteArray × ByteArray)):Prop where
 rd:Reads w w.heap.size 2 F fn (fldC fs)
 len:fs.length=fn
 few:fn≤8796093021952
def LightP (fs:List Fl):Prop:=fs.length≤20→szF fs<1000
def LightE (fs:List Fl) (e:Ending):Prop:=∃ b:Bool,e=.returned (.bool b)∧(b=true→LightP fs)
set_option maxHeartbeats 6400000 in
theorem lightP_any (t:Int) (F:Option Addr) (fn fc:Nat) (fs:List (ByteArray × ByteArray)) (w:World) (hF:EvtAt w F fn fs) :
  Calls Tryz.prog 14 #[.agg #[.int .i64 t,.slice F fn fc]] w fun e w'=>LightE fs e∧Below w.heap.size w w':=by
 have hb1:Below w.heap.size w (w.alloc (.cells #[.int .i64 t,.slice F fn fc] 33)):=(Below.refl _ _).alloc (zG _) _
 have hB1:=Blk.new w 33 #[.int .i64 t,.slice F fn fc]
 have hz1:w.heap.size<(w.alloc (.cells #[.int .i64 t,.slice F fn fc] 33)).heap.size:=by simp
 have hfew:=hF.few
 have hlen:=hF.len
 have HF:=zh hF
 have Hb1:=zh hb1
 have HB1:=zh hB1
 have Hlen:=zh hlen
 clear hF hb1 hB1 hlen
 go_enter Tryz.func14,Tryz.ntmps14
 go_wp2_with fail
 generalize hw1:(w.alloc (.cells #[.int .i64 t,.slice F fn fc] 33))=w1 at *
 clear hw1
 go_loopw [3,4] (fun v i wr=>∃ (j:Nat) (z:Int),j≤fn∧i=.int .i64 (j:Nat)∧v=.int .i64 z∧0≤z∧z≤3000∧Hid (z<1000→((szF (fs.take j):Nat):Int)=z)∧Below w1.heap.size w1 wr) (fun _ i _=>fn - (intOf i).toNat)
 case atStart=>exact ⟨0,0,Nat.zero_le _,rfl,rfl,by omega,by omega,zh (fun _=>rfl),Below.refl _ _⟩
 case round =>
  obtain ⟨j,z,hj,rfl,rfl,hz0,hz3,HZ,hb⟩:=hrel
  have Hb:=zh hb
  have hls:=(hb.cell (p:=⟨w.heap.size,1,none⟩) (by show w.heap.size < _; exact hz1)).trans (HB1.out.cell 1)
  simp at hls
  by_cases hlt:j<fn
  ·have hji:(j:Int)<(fn:Int):=by omega
   have hji0:(0:Int)≤(j:Int):=by omega
   by_cases h20:(j:Int)<20
   ·by_cases hzz:z<1000
    ·have hjl:j<fs.length:=by rw [Hlen.out]; exact hlt
     obtain ⟨tb,tq,rfl,htb,hd1,hd2⟩:=fields_at HF.out.rd (k:=j) hjl
     have hc1:=((Hb1.out.trans (hb.mono Hb1.out.size)).cell (p:=⟨tb,tq+j * 2,none⟩) htb).trans hd1
     have hc2:=((Hb1.out.trans (hb.mono Hb1.out.size)).cell (p:=⟨tb,tq+j * 2+1,none⟩) htb).trans hd2
     have HS:Hid (szF (fs.take (j+1))=szF (fs.take j)+(fs[j].1.size+fs[j].2.size)):=zh (by rw [List.take_succ_eq_append_getElem hjl,szF_snoc])
     clear hb hlt hd1 hd2
     generalize fs[j].1=s1 at *
     generalize fs[j].2=s2 at *
     go_upto_region 5 with (fail)
     refine wp_region_ph_tail 19 (specOf []) (fun wx=>wx=wr.drew) (fun _=>True) (by kernel_rfl) (by kernel_rfl) (turns_of (by kernel_rfl)) rfl trivial ?_
     refine ph_fix 1 ?_ rfl (by rfl) (by rfl) (fun wx hC=>?_) ?_
     rotate_left
     ·subst hC
      go_simp
      all_goals with_reducible rfl
     try simp only [Act.put,zD,zE,zF]
     refine ph_fix 2 ?_ rfl (by rfl) (by rfl) (fun wx hC=>?_) ?_
     rotate_left
     ·subst hC
      go_simp
      all_goals with_reducible rfl
     try simp only [Act.put,zD,zE,zF]
     refine ph_fix 3 ?_ rfl (by rfl) (by rfl) (fun wx hC=>?_) ?_
     rotate_left
     ·subst hC
      go_simp
      all_goals with_reducible rfl
     try simp only [Act.put,zD,zE,zF]
     refine ph_fix 4 ?_ rfl (by rfl) (by rfl) (fun wx hC=>?_) ?_
     rotate_left
     ·subst hC
      go_simp
      all_goals with_reducible rfl
     try simp only [Act.put,zD,zE,zF]
     refine ph_fix 5 ?_ rfl (by rfl) (by rfl) (fun wx hC=>?_) ?_
     rotate_left
     ·subst hC
      go_simp
      all_goals with_reducible rfl
     try simp only [Act.put,zD,zE,zF]
     refine ph_fix 6 ?_ rfl (by rfl) (by rfl) (fun wx hC=>?_) ?_
     rotate_left
     ·subst hC
      go_simp
      all_goals with_reducible rfl
     try simp only [Act.put,zD,zE,zF]
     refine ph_fix 7 ?_ rfl (by rfl) (by rfl) (fun wx hC=>?_) ?_
     rotate_left
     ·subst hC
      go_simp
      all_goals with_reducible rfl
     try simp only [Act.put,zD,zE,zF]
     refine ph_fix 8 ?_ rfl (by rfl) (by rfl) (fun wx hC=>?_) ?_
     rotate_left
     ·subst hC
      go_simp
      all_goals with_reducible rfl
     try simp only [Act.put,zD,zE,zF]
     refine ph_fix 9 ?_ rfl (by rfl) (by rfl) (fun wx hC=>?_) ?_
     rotate_left
     ·subst hC
      go_simp
      all_goals with_reducible rfl
     try simp only [Act.put,zD,zE,zF]
     refine ph_fix 10 ?_ rfl (by rfl) (by rfl) (fun wx hC=>?_) ?_
     rotate_left
     ·subst hC
      go_simp
      all_goals with_reducible rfl
     try simp only [Act.put,zD,zE,zF]
     refine ph_fix 11 ?_ rfl (by rfl) (by rfl) (fun wx hC=>?_) ?_
     rotate_left
     ·subst hC
      go_simp
      all_goals with_reducible rfl
     try simp only [Act.put,zD,zE,zF]
     refine ph_fix 12 ?_ rfl (by rfl) (by rfl) (fun wx hC=>?_) ?_
     rotate_left
     ·subst hC
      go_simp
      all_goals with_reducible rfl
     try simp only [Act.put,zD,zE,zF]
     refine ph_fix 13 ?_ rfl (by rfl) (by rfl) (fun wx hC=>?_) ?_
     rotate_left
     ·subst hC
      go_simp
      all_goals with_reducible rfl
     try simp only [Act.put,zD,zE,zF]
     refine ph_fix 14 ?_ rfl (by rfl) (by rfl) (fun wx hC=>?_) ?_
     rotate_left
     ·subst hC
      go_simp
      all_goals with_reducible rfl
     try simp only [Act.put,zD,zE,zF]
     refine ph_fix 15 ?_ rfl (by rfl) (by rfl) (fun wx hC=>?_) ?_
     rotate_left
     ·subst hC
      go_simp
      all_goals with_reducible rfl
     try simp only [Act.put,zD,zE,zF]
     refine ph_fix 16 ?_ rfl (by rfl) (by rfl) (fun wx hC=>?_) ?_
     rotate_left
     ·subst hC
      go_simp
      all_goals with_reducible rfl
     try simp only [Act.put,zD,zE,zF]
     refine ph_fix 17 ?_ rfl (by rfl) (by rfl) (fun wx hC=>?_) ?_
     rotate_left
     ·subst hC
      go_simp
      all_goals with_reducible rfl
     try simp only [Act.put,zD,zE,zF]
     refine ph_fix 18 ?_ rfl (by rfl) (by rfl) (fun wx hC=>?_) ?_
     rotate_left
     ·subst hC
      go_simp
      all_goals with_reducible rfl
     try simp only [Act.put,zD,zE,zF]
     refine ph_fix 19 ?_ rfl (by rfl) (by rfl) (fun wx hC=>?_) ?_
     rotate_left
     ·subst hC
      go_simp
      all_goals with_reducible rfl
     try simp only [Act.put,zD,zE,zF]
     refine ph_nil (fun w9 hC hI=>?_)
     subst hC
     clear hI
     go_wp2
     go_roundw
     case rel=>exact ⟨j+1,_,by omega,by go_num,rfl,by omega,by omega,zh (fun hz=>by have h1:=HZ.out (by omega); have h2:=HS.out; omega),Hb.out.drew⟩
     case measure=>simp [intOf]; omega
    ·have hzz':(1000:Int)≤z:=by omega
     clear hb hlt
     go_wp2
     go_ret
     exact ⟨⟨_,rfl,fun hb h20=>by first | (exact absurd hb (by decide)) | exact absurd (show z<1000 by simpa using hb) (by omega)⟩,Hb1.out.trans (Hb.out.mono Hb1.out.size)⟩
   ·have h20':(20:Int)≤(j:Int):=by omega
    clear hb hlt
    go_wp2
    go_ret
    exact ⟨⟨_,rfl,fun hb h20=>by
     have hz:z<1000:=by simpa using hb
     have h1:=HZ.out hz
     rw [List.take_of_length_le (by have:=Hlen.out; omega)] at h1
     omega⟩,Hb1.out.trans (Hb.out.mono Hb1.out.size)⟩
  ·have hji:(fn:Int)≤(j:Int):=by omega
   clear hb hlt
   go_wp2
   go_ret
   exact ⟨⟨_,rfl,fun hb h20=>by
    have hz:z<1000:=by simpa using hb
    have h1:=HZ.out hz
    rw [List.take_of_length_le (by have:=Hlen.out; omega)] at h1
    omega⟩,Hb1.out.trans (Hb.out.mono Hb1.out.size)⟩
end Go.Proofs.YtlfpfkallgkjdaaGreat.Gi


