/- MarkRuns: the law's walk. -/
import Derived.Test.YtjfconddkfihcaaMkJPk
import Derived.Test.YtjfconddkfihcaaPkMatchTellsRow30
namespace Go.Proofs.Ytjfconddkfihcaa.Mk
open Go.RowKit Go.Proofs.Ytjfconddkfihcaa Go.Proofs.Ytjfconddkfihcaa.Ut Go.Proofs.Ytjfconddkfihcaa.Tk Go.Proofs.Ytjfconddkfihcaa.Qy
set_option maxRecDepth 20000
set_option linter.unusedSimpArgs false

theorem mcut_any (s : ByteArray) (w : World) (hs : s.size ≤ 140737488351232) : Calls Try.prog 14 #[.string s] w fun e w' => e = .returned (.string (ct 400 s)) ∧ w = w' := by
  by_cases h : s.size ≤ 400
  · have F : Hid (ct 400 s = s) := Lib.hid (by unfold ct; rw [Nat.min_eq_left h, ByteArray.extract_zero_size])
    have h' : (s.size : Int) ≤ 400 := by omega
    clear h
    go_enter Try.func14, Try.ntmps14
    go_wp2
    go_ret
    rw [F.out]
    exact ⟨rfl, rfl⟩
  · have F : Hid (ct 400 s = s.extract 0 400) := Lib.hid (by unfold ct; rw [Nat.min_eq_right (by omega)])
    have h' : (400 : Int) < (s.size : Int) := by omega
    clear h
    go_enter Try.func14, Try.ntmps14
    go_wp2
    go_ret
    rw [F.out]
    exact ⟨rfl, rfl⟩

set_option maxHeartbeats 3200000 in
theorem markRuns_walk (s0 : ByteArray) (w : World) (hs : s0.size ≤ 140737488351232) : Calls Try.prog 3 #[.string s0] w fun e w' => e = .returned (.bool true) ∧ Below w.heap.size w w' := by
  have k1 := mcut_any s0 w hs
  have zs0 := ct_size 400 s0
  generalize ct 400 s0 = s at *
  have c1 := fun wx => runsM_any s wx (by omega)
  have c2 := fun wx => runs_ref s wx (by omega)
  have c3 := fun wx => words_ref s wx (by omega)
  have hwl := sp_words s.data.toList
  have hcnt := sp_count s.data.toList
  rw [bsize] at hcnt
  have hok := spans_ok s.data.toList
  rw [bsize] at hok
  have hck : chk 0 s.size (zs (sp s.data.toList 0 none)) = true := by have := chk_zs (e := 0) hok; simpa using this
  have hzl : (zs (sp s.data.toList 0 none)).length = (sp s.data.toList 0 none).length := by simp [zs]
  have c4 := fun (A : Option Addr) (c : Nat) wx (hR : Reads wx wx.heap.size 2 A (sp s.data.toList 0 none).length (spC (sp s.data.toList 0 none))) => check_any s A c (zs (sp s.data.toList 0 none)) (by omega) wx (by rw [hzl, ← spC_zs]; exact hR)
  simp only [hck, hzl] at c4
  generalize Tk.words s.data.toList = T at *
  generalize sp s.data.toList 0 none = sps at *
  have C1 := Lib.hid c1
  have C2 := Lib.hid c2
  have C3 := Lib.hid c3
  have C4 := Lib.hid c4
  have Hwl := Lib.hid hwl
  clear c1 c2 c3 c4 hok hck hzl hwl
  go_enter Try.func3, Try.ntmps3
  go_wp2_with fail
  refine k1.mono ?_
  rintro e w1 ⟨rfl, hw1⟩
  subst hw1
  clear k1
  go_wp2_with fail
  refine (C1.out _).mono ?_
  rintro e w1 ⟨v1, rfl, hown1, hb1⟩
  obtain ⟨A1, d1, rfl, hR1⟩ := own_shape hown1
  have HR1 := Lib.hid hR1
  have Hb1 := Lib.hid hb1
  clear hown1 hR1 hb1 C1
  go_wp2_with fail
  refine (C2.out _).mono ?_
  rintro e w2 ⟨v2, rfl, hown2, hb2⟩
  obtain ⟨A2, d2, rfl, hR2⟩ := own_shape hown2
  have HR2 := Lib.hid hR2
  have Hb2 := Lib.hid (Hb1.out.trans (hb2.mono Hb1.out.size))
  have c5 := same_spans A1 A2 d1 d2 sps w2 (reads_grow hb2 HR1.out) hR2 (by omega)
  have HR12 := Lib.hid (reads_grow hb2 HR1.out)
  clear hown2 hR2 hb2 C2 HR1 Hb1
  go_wp2_with fail
  refine c5.mono ?_
  rintro e w3 ⟨rfl, hb3⟩
  have HR13 := Lib.hid (reads_grow hb3 HR12.out)
  have Hb3 := Lib.hid (Hb2.out.trans (hb3.mono Hb2.out.size))
  clear c5 hb3 HR12 Hb2 HR2
  go_wp2_with fail
  refine (C3.out _).mono ?_
  rintro e w4 ⟨v4, rfl, hown4, hb4⟩
  obtain ⟨A4, d4, rfl, _⟩ := own_shape hown4
  have c6 := C4.out A1 d1 w4 (reads_grow hb4 HR13.out)
  have Hb4 := Lib.hid (Hb3.out.trans (hb4.mono Hb3.out.size))
  have hlen : ((sps.length : Int) == (T.length : Int)) = true := by rw [Hwl.out]; simp
  clear hown4 hb4 HR13 Hb3 C3 C4
  go_wp2_with fail
  refine c6.mono ?_
  rintro e w5 ⟨rfl, hb5⟩
  have Hb5 := Lib.hid (Hb4.out.trans (hb5.mono Hb4.out.size))
  clear c6 hb5 Hb4
  go_wp2_with fail
  refine (awake_any _).mono ?_
  rintro e w6 ⟨rfl, hb6⟩
  have Hb6 := Lib.hid (Hb5.out.trans (hb6.mono Hb5.out.size))
  clear hb6
  go_wp2
  go_ret
  exact ⟨rfl, Hb6.out⟩
end Go.Proofs.Ytjfconddkfihcaa.Mk
