/- loggialaw19.Few: the walk. -/
import Derived.Deep.AppendLies
import Derived.Laws.AppendOwn
import Derived.Outline
import Derived.Test.YtceekocfmbcobaaPkCursorFollowsRow1
import Derived.Test.YtceekocfmbcobaaPkCursorFollowsRow13
section
namespace Go.Proofs.Ytceekocfmbcobaa.Qy
open Go.RowKit Go.Proofs.Ytceekocfmbcobaa Go.Proofs.Ytceekocfmbcobaa.Ut Go.Proofs.Ytceekocfmbcobaa.Tk
set_option maxRecDepth 20000
set_option linter.unusedSimpArgs false

/-- A text's first bytes. -/
def ct (n : Nat) (s : ByteArray) : ByteArray := s.extract 0 (min s.size n)
def cutF (f : ByteArray × ByteArray) : ByteArray × ByteArray := (f.1, ct 300 f.2)
def fewF (d : Dc) : Dc := ⟨d.seq, d.at_, (d.fs.take 8).map cutF⟩
def fewD (ds : List Dc) : List Dc := (ds.take 40).map fewF
/-- Docs of the call's own, handed back. -/
def DocPost (w : World) (ds : List Dc) (e : Ending) (w' : World) : Prop := ∃ v, e = .returned v ∧ DocsOwn w w' v ds
theorem doc_info : (Try.prog.info? 71).map (fun i => (i.zero, i.size, i.bytes)) = some (some (.agg #[.int .i64 0, .int .i64 0, .slice none 0 0]), 3, 40) := by kernel_rfl
theorem fld_info : (Try.prog.info? 107).map (fun i => (i.zero, i.size, i.bytes)) = some (some (.agg #[.string ByteArray.empty, .string ByteArray.empty]), 2, 32) := by kernel_rfl
theorem fldC_snoc (fs : List (ByteArray × ByteArray)) (f : ByteArray × ByteArray) : fldC (fs ++ [f]) = fldC fs ++ [.string f.1, .string f.2] := by simp [fldC]

theorem own_succ {w : World} {base : Nat} {e : TypeId} {size n : Nat} {v : Value} {xs : List Value} (h : w.ownsRow base e size v (n + 1) xs) : ∃ g q, v = .slice (some ⟨g, 0, none⟩) (n + 1) q := by
  rcases h.2 with ⟨_, h0⟩ | ⟨g, cap, cur, hv, _⟩
  · omega
  · exact ⟨g, cap, hv⟩
theorem grownBy_setC (w : World) (h o : Nat) (u : Value) : w.grownBy (w.setCell ⟨h, o, none⟩ u) (some h) :=
  ⟨rfl, rfl, rfl, by simp [World.setCell], fun k _ hne => Below.heap_setCell _ _ _ _ (fun e => hne (by rw [e]))⟩
/-- A row of the call's own, as it stands. -/
theorem own_shape2 {w : World} {base : Nat} {e : TypeId} {size n : Nat} {v : Value} {xs : List Value} (h : w.ownsRow base e size v n xs) :
    ∃ A c, v = .slice A n c ∧ Reads w w.heap.size size A n xs ∧ n ≤ c ∧ (A = none → c = 0) ∧ (0 < n → ∃ g, A = some ⟨g, 0, none⟩ ∧ ∃ cur, w.heap[g]? = some (.cells cur e (0, 0))) := by
  obtain ⟨A, c, rfl, hR⟩ := own_shape h
  refine ⟨A, c, rfl, hR, ?_⟩
  rcases h.2 with ⟨hv, h0⟩ | ⟨g, cap, cur, hv, _, hg, hnc, _⟩
  · injection hv with _ _ hc
    exact ⟨by omega, fun _ => hc, fun h => by omega⟩
  · injection hv with hA _ hc
    exact ⟨by omega, fun e => (by rw [hA] at e; cases e), fun _ => ⟨g, hA, cur, hg⟩⟩
/-- What is being collected of a doc's fields. -/
structure Flds (wo wq : World) (pd : Nat) (s a : Int) (fs : List (ByteArray × ByteArray)) : Prop where
  ex : ∃ v, Blk wq pd 71 #[.int .i64 s, .int .i64 a, v] ∧ wq.ownsRow (wo.heap.size + 1) 107 2 v fs.length (fldC fs)
  bel : Below wo.heap.size wo wq
  ge : pd = wo.heap.size

set_option maxHeartbeats 6400000 in
theorem fewD_any (A : Option Addr) (n c : Nat) (ds : List Dc) (w : World) (hD : DocsAt w w.heap.size A n ds) (hn : n ≤ 8796093021952) (hs : ∀ d ∈ ds, ∀ f ∈ d.fs, f.2.size ≤ 140737488351232) :
    Calls Try.prog 26 #[.slice A n c] w (DocPost w (fewD ds)) := by
  obtain ⟨i0, hi0, hz0, hz1, hz2⟩ := info_parts doc_info
  obtain ⟨j0, hj0, hy0, hy1', hy2'⟩ := info_parts fld_info
  have HD := Lib.hid hD
  have Hs := Lib.hid hs
  have Hl := Lib.hid hD.ln
  clear hD hs
  go_enter Try.func26, Try.ntmps26
  go_wp2
  go_loopw [3, 4] (fun v i wr => ∃ k : Nat, k ≤ n ∧ k ≤ 40 ∧ i = .int .i64 k ∧ DocsOwn w wr v ((ds.take k).map fewF)) (fun _ i _ => 40 - (intOf i).toNat)
  case atStart => exact ⟨0, Nat.zero_le _, by omega, rfl, DocsOwn.start w⟩
  case round =>
    obtain ⟨k, hk, hk40, rfl, hO⟩ := hrel
    have HO := Lib.hid hO
    clear hO
    by_cases hlt : k < n ∧ k < 40
    · obtain ⟨hlt, hl40⟩ := hlt
      have hl40' : (k : Int) < 40 := by omega
      have hkl : k < ds.length := by rw [Hl.out]; exact hlt
      obtain ⟨b, o, F, fn, fc, rfl, hb, hc0, hc1, hc2, hR, hfl, hfn, _, _⟩ := (HD.out.keep fun _ _ hp => HO.out.bel.cell hp).at_ hkl
      have hts : (ds.take (k + 1)).map fewF = (ds.take k).map fewF ++ [fewF ds[k]] := by rw [List.take_succ_eq_append_getElem hkl, List.map_append]; rfl
      have Hts := Lib.hid hts
      have hsz : ∀ f ∈ (ds[k]'hkl).fs, f.2.size ≤ 140737488351232 := fun f hf => Hs.out _ (List.getElem_mem hkl) f hf
      have hfd : fewF ds[k] = ⟨ds[k].seq, ds[k].at_, (ds[k].fs.take 8).map cutF⟩ := rfl
      have Hfd := Lib.hid hfd
      have HR := Lib.hid hR
      have Hfl := Lib.hid hfl
      have Hsz := Lib.hid hsz
      have hbw : w.heap.size ≤ wr.heap.size := HO.out.bel.size
      have hO2 : ((ds.take k).map fewF).length ≤ 40 := by rw [List.length_map, List.length_take]; omega
      clear hts hfd hR hfl hsz
      generalize hdd : fewF ds[k] = dd at *
      generalize ds[k].seq = s at *
      generalize ds[k].at_ = a at *
      generalize ds[k].fs = fs at *
      generalize (ds.take k).map fewF = out at *
      have Hdd := Lib.hid hdd
      clear hdd
      obtain ⟨wo, rfl⟩ : ∃ wo : World, wo = wr := ⟨_, rfl⟩
      have S0 : Flds wo (wo.alloc (.cells #[.int .i64 s, .int .i64 a, .slice none 0 0] 71)) wo.heap.size s a [] :=
        ⟨⟨_, Blk.new wo _ _, World.ownsRow_nil _ _ _ _⟩, (Below.refl _ _).alloc (Nat.le_refl _) _, rfl⟩
      have HS0 := Lib.hid S0
      clear S0
      go_wp2_with fail
      go_loopw [6] (fun i wq => ∃ j : Nat, j ≤ fn ∧ j ≤ 8 ∧ i = .int .i64 j ∧ Flds wo wq wo.heap.size s a ((fs.take j).map cutF)) (fun i _ => 8 - (intOf i).toNat)
      case atStart => exact ⟨0, Nat.zero_le _, by omega, rfl, HS0.out⟩
      case round =>
        obtain ⟨j, hj, hj8, rfl, hW⟩ := hrel
        have HW := Lib.hid hW
        have hbo : b < wo.heap.size := by omega
        have hbq := hW.bel
        have hd0 := (hbq.cell (p := ⟨b, o + k * 3, none⟩) hbo).trans hc0
        have hd1 := (hbq.cell (p := ⟨b, o + k * 3 + 1, none⟩) hbo).trans hc1
        have hd2 := (hbq.cell (p := ⟨b, o + k * 3 + 2, none⟩) hbo).trans hc2
        obtain ⟨v2, hB, hown⟩ := hW.ex
        have hzq := hbq.size
        have HO2 := Lib.hid (HO.out.below hbq)
        clear hW hbq
        by_cases hjl : j < fn ∧ j < 8
        · obtain ⟨hjl, hj8l⟩ := hjl
          have hj8' : (j : Int) < 8 := by omega
          have hji : (j : Int) < (fn : Int) := by omega
          have hjx0 : (0 : Int) ≤ (j : Int) := by omega
          have hjf : j < fs.length := by rw [Hfl.out]; exact hjl
          obtain ⟨fb, fo, rfl, hfb, hx1, hx2⟩ := fields_at HR.out hjf
          have hbq := HW.out.bel
          have hfo : fb < wo.heap.size := by omega
          have hy1 := (hbq.cell (p := ⟨fb, fo + j * 2, none⟩) hfo).trans hx1
          have hy2 := (hbq.cell (p := ⟨fb, fo + j * 2 + 1, none⟩) hfo).trans hx2
          have hts : (fs.take (j + 1)).map cutF = (fs.take j).map cutF ++ [cutF fs[j]] := by rw [List.take_succ_eq_append_getElem hjf, List.map_append]; rfl
          have hcf : cutF fs[j] = (fs[j].1, ct 300 fs[j].2) := rfl
          rw [hcf] at hts
          have Hts2 := Lib.hid hts
          have hsx := Hsz.out _ (List.getElem_mem hjf)
          have hlen : ((fs.take j).map cutF).length ≤ 8 := by rw [List.length_map, List.length_take]; omega
          have hcr : ∀ m : Nat, (m : Int) = min (fs[j].2.size : Int) 300 → fs[j].2.extract 0 m = ct 300 fs[j].2 := fun m hm => by unfold ct; congr 1; omega
          clear hbq hts hcf hx1 hx2
          generalize fs[j].1 = x at *
          generalize ct 300 fs[j].2 = r at *
          generalize fs[j].2 = y at *
          generalize (fs.take j).map cutF = P at *
          have hb0 := hB.cell 0
          have hb1 := hB.cell 1
          have hb2 := hB.cell 2
          have hbf := hB.frozen 2
          simp at hb0 hb1 hb2
          have hlt2 := hB.lt
          have HBq := Lib.hid hB
          have hb2a := fun o => (World.cell?_alloc_lt wr o ⟨wo.heap.size, 2, none⟩ hlt2).trans hb2
          have hb2b := fun o o' => (World.cell?_alloc_lt (wr.alloc o) o' ⟨wo.heap.size, 2, none⟩ (by simp; omega)).trans (hb2a o)
          obtain ⟨A2, q2, rfl, _⟩ := own_shape hown
          have hz0s : (0 : Int) ≤ (y.size : Int) := Int.natCast_nonneg _
          have hcut : y.extract 0 (min (y.size : Int) 300).toNat = r := hcr _ (by omega)
          clear hcr hB
          go_wp2_with (at_builtin; refine wpList_append_own _ rfl _ _ 67 rfl (wo.heap.size + 1) 107 j0 _ 2 32 Try.underlying67 hj0 hy0 hy1' hy2' rfl (by decide) _ _ _ rfl ((hown.alloc _).alloc _) ⟨wr.heap.size + 1, 0, none⟩ 1 1 [.string x, .string r] rfl rfl ?d1 ?d2 ?d3 ?d4 ?d5 ?_)
          case d1 => exact World.news_of_block (cs := #[.string x, .string r]) (t := 107) (fr := (0, 0)) (new2 wr _ _)
          case d2 => intro u hu; simp at hu; rcases hu with rfl | rfl <;> rfl
          case d3 => unfold maxLen; omega
          case d4 => omega
          case d5 => simp; omega
          intro v' w5 hown5 hg5 _
          obtain ⟨g5, q5, rfl⟩ := own_succ hown5
          have hB5 := ((HBq.out.alloc (.cells #[.string x, .string r] 107)).alloc (.cells #[.string x, .string r] 107)).grown hg5 (fun e => by have := hown.lt _ e.symm; omega)
          have hb52 := hB5.cell 2
          have hbf5 := hB5.frozen 2
          simp at hb52
          have hb5bel : Below wo.heap.size wo w5 := ((HW.out.bel.alloc hzq (.cells #[.string x, .string r] 107)).alloc (by simp; omega) (.cells #[.string x, .string r] 107)).grown hg5 (by simp; omega) (fun e he => by have := (hown.lt _ he).1; omega)
          have g5lt := (hown5.lt g5 rfl).1
          have Fin : Hid (Flds wo (w5.setCell ⟨wo.heap.size, 2, none⟩ (.slice (some ⟨g5, 0, none⟩) (P.length + 1) q5)) wo.heap.size s a (P ++ [(x, r)])) := Lib.hid
            ⟨⟨_, hB5.set_ 2 _, by
              rw [List.length_append, fldC_snoc]
              exact hown5.kept (grownBy_setC w5 wo.heap.size 2 _) (.inr (by simp [Value.ownBlock]; omega))⟩, hb5bel.setCell (p := ⟨wo.heap.size, 2, none⟩) (Nat.le_refl _) _, rfl⟩
          clear hB5 hb5bel hown5 hg5 hown hb2a hb2b
          go_wp2
          go_roundw
          case rel => exact ⟨j + 1, by omega, by omega, by go_num, by rw [Hts2.out]; exact Fin.out⟩
          case measure => simp [intOf]; omega
        · have hjn : j = fn ∨ j = 8 := by omega
          have hP : (fs.take j).map cutF = (fs.take 8).map cutF := by
            rcases hjn with rfl | rfl
            · rw [List.take_of_length_le (by rw [Hfl.out]; exact Nat.le_refl _), List.take_of_length_le (by rw [Hfl.out]; omega)]
            · rfl
          have hPl : ((fs.take 8).map cutF).length ≤ 8 := by rw [List.length_map, List.length_take]; omega
          rw [hP] at hown
          have Hfd2 := Lib.hid (Hfd.out)
          generalize (fs.take 8).map cutF = P at *
          obtain ⟨A2, q2, rfl, hR2, hnq, hnl2, hg2⟩ := own_shape2 hown
          have hb0 := hB.cell 0
          have hb1 := hB.cell 1
          have hb2 := hB.cell 2
          simp at hb0 hb1 hb2
          have hal : Below wr.heap.size wr (wr.alloc (.cells #[.int .i64 s, .int .i64 a, .slice A2 P.length q2] 71)) := (Below.refl _ _).alloc (Nat.le_refl _) _
          have hO3 := HO2.out.below hal
          obtain ⟨vss, g1, g2, g3⟩ := hO3.ex
          have hDc : DcV (wr.alloc (.cells #[.int .i64 s, .int .i64 a, .slice A2 P.length q2] 71)) (wr.alloc (.cells #[.int .i64 s, .int .i64 a, .slice A2 P.length q2] 71)).heap.size dd [.int .i64 s, .int .i64 a, .slice A2 P.length q2] := by
            rw [Hfd2.out]
            exact ⟨A2, P.length, q2, rfl, (hR2.below hal).more hal.size, rfl, by omega, hnq, hnl2⟩
          have hFar : Far (wr.alloc (.cells #[.int .i64 s, .int .i64 a, .slice A2 P.length q2] 71)) w.heap.size [.int .i64 s, .int .i64 a, .slice A2 P.length q2] := by
            intro F' fn' fc' hv hn'
            simp only [List.getElem?_cons_succ, List.getElem?_cons_zero, Option.some.injEq, Value.slice.injEq] at hv
            obtain ⟨rfl, rfl, rfl⟩ := hv
            obtain ⟨g, rfl, cur, hg⟩ := hg2 hn'
            have hlt : g < wr.heap.size := (Array.getElem?_eq_some_iff.1 hg).1
            exact ⟨g, 0, rfl, .inr ⟨cur, (0, 0), (hal.block g hlt).trans hg⟩⟩
          have HDc := Lib.hid hDc
          have HFar := Lib.hid hFar
          have HX : Hid (∃ vs : List (List Value), vs.length = out.length ∧ (wr.alloc (.cells #[.int .i64 s, .int .i64 a, .slice A2 P.length q2] 71)).ownsRow w.heap.size 71 3 u3 out.length vs.flatten ∧
            (∀ i (h : i < out.length) (h' : i < vs.length), DcV (wr.alloc (.cells #[.int .i64 s, .int .i64 a, .slice A2 P.length q2] 71)) (wr.alloc (.cells #[.int .i64 s, .int .i64 a, .slice A2 P.length q2] 71)).heap.size out[i] vs[i] ∧ Far (wr.alloc (.cells #[.int .i64 s, .int .i64 a, .slice A2 P.length q2] 71)) w.heap.size vs[i]) ∧ vss.flatten = vs.flatten) := Lib.hid ⟨vss, g1, g2, g3, rfl⟩
          have HO3 := Lib.hid hO3
          have hwr : w.heap.size ≤ wr.heap.size := by omega
          clear hDc hFar hO3 g1 g3 hR2 hnq hnl2 hg2 hown hB hal hP
          have close : ∀ v' w5, w5.ownsRow w.heap.size 71 3 v' (out.length + 1) (vss.flatten ++ [.int .i64 s, .int .i64 a, .slice A2 P.length q2]) → (wr.alloc (.cells #[.int .i64 s, .int .i64 a, .slice A2 P.length q2] 71)).grownBy w5 u3.ownBlock → DocsOwn w w5 v' (out ++ [dd]) :=
            fun v' w5 h1 h2 => HO3.out.put HX.out h1 h2 HDc.out HFar.out
          have Close := Lib.hid close
          clear close
          by_cases hjf : j < fn
          · obtain rfl : j = 8 := by omega
            have hjf' : (8 : Int) < (fn : Int) := by omega
            have hjf'' : ¬ ((8 : Nat) : Int) < 8 := by omega
            go_wp2_with (at_builtin; refine wpList_append_own _ rfl _ _ 59 rfl w.heap.size 71 i0 _ 3 40 Try.underlying59 hi0 hz0 hz1 hz2 rfl (by decide) _ _ _ rfl g2 ⟨wr.heap.size, 0, none⟩ 1 1 [.int .i64 s, .int .i64 a, .slice A2 P.length q2] rfl rfl ?d1 ?d2 ?d3 ?d4 ?d5 ?_)
            try (case d1 => exact World.news_of_block (cs := #[.int .i64 s, .int .i64 a, .slice A2 P.length q2]) (t := 71) (fr := (0, 0)) (heap_alloc_new wr _))
            case d2 => first | (intro u hu; simp at hu; rcases hu with rfl | rfl | rfl <;> rfl) | rfl | simp [Value.oneCell']
            case d3 => unfold maxLen; omega
            case d4 => omega
            case d5 => first | omega | (simp; omega)
            intro v' w5 hown5 hg5 _
            have Fin := Lib.hid (Close.out v' w5 hown5 hg5)
            clear hown5 hg5
            go_wp2
            go_roundw
            case rel => exact ⟨k + 1, by omega, by omega, by go_num, by rw [Hts.out]; exact Fin.out⟩
            case measure => simp [intOf]; omega
          · have hjf' : ¬ (j : Int) < (fn : Int) := by omega
            go_wp2_with (at_builtin; refine wpList_append_own _ rfl _ _ 59 rfl w.heap.size 71 i0 _ 3 40 Try.underlying59 hi0 hz0 hz1 hz2 rfl (by decide) _ _ _ rfl g2 ⟨wr.heap.size, 0, none⟩ 1 1 [.int .i64 s, .int .i64 a, .slice A2 P.length q2] rfl rfl ?d1 ?d2 ?d3 ?d4 ?d5 ?_)
            try (case d1 => exact World.news_of_block (cs := #[.int .i64 s, .int .i64 a, .slice A2 P.length q2]) (t := 71) (fr := (0, 0)) (heap_alloc_new wr _))
            case d2 => first | (intro u hu; simp at hu; rcases hu with rfl | rfl | rfl <;> rfl) | rfl | simp [Value.oneCell']
            case d3 => unfold maxLen; omega
            case d4 => omega
            case d5 => first | omega | (simp; omega)
            intro v' w5 hown5 hg5 _
            have Fin := Lib.hid (Close.out v' w5 hown5 hg5)
            clear hown5 hg5
            go_wp2
            go_roundw
            case rel => exact ⟨k + 1, by omega, by omega, by go_num, by rw [Hts.out]; exact Fin.out⟩
            case measure => simp [intOf]; omega
    · have Fin : Hid ((ds.take k).map fewF = fewD ds) := Lib.hid (by
        unfold fewD
        by_cases h : k = 40
        · rw [h]
        · rw [List.take_of_length_le (by rw [Hl.out]; omega), List.take_of_length_le (by rw [Hl.out]; omega)])
      rw [Fin.out] at HO
      by_cases hkn : k < n
      · have hk4 : ¬ (k : Int) < 40 := by omega
        have hkn' : (k : Int) < (n : Int) := by omega
        go_wp2
        go_ret
        exact ⟨_, rfl, HO.out⟩
      · have hkn' : ¬ (k : Int) < (n : Int) := by omega
        go_wp2
        go_ret
        exact ⟨_, rfl, HO.out⟩
end Go.Proofs.Ytceekocfmbcobaa.Qy
end

section
/- What follows a cursor: plain words, and memory. -/
namespace Go.Proofs.Ytceekocfmbcobaa.Cu
open Go.RowKit Go.Proofs.Ytceekocfmbcobaa Go.Proofs.Ytceekocfmbcobaa.Qy
set_option linter.unusedSimpArgs false

/-- The docs behind a number, acked. -/
def sel (a k : Int) (ds : List Dc) : List Dc := ds.filter fun d => decide (a < d.seq) && decide (d.seq ≤ k)
def outP (a k l : Int) (ds : List Dc) : List Dc := (sel a k ds).take l.toNat
def lastP (a : Int) (out : List Dc) : Int := out.foldl (fun m d => max m d.seq) a
/-- What follows, and the cursor behind. -/
def folP (a k l : Int) (ds : List Dc) : List Dc × Int :=
  if l < 1 then ([], a) else (outP a k l ds, if ((outP a k l ds).length : Int) < l then max a k else lastP a (outP a k l ds))
theorem lastP_snoc (a : Int) (out : List Dc) (d : Dc) : lastP a (out ++ [d]) = max (lastP a out) d.seq := by unfold lastP; rw [List.foldl_append]; rfl
theorem sel_app (a k : Int) (xs ys : List Dc) : sel a k (xs ++ ys) = sel a k xs ++ sel a k ys := List.filter_append ..
theorem sel_yes (a k : Int) (ds : List Dc) (i : Nat) (h : i < ds.length) (h1 : a < ds[i].seq) (h2 : ds[i].seq ≤ k) : sel a k (ds.take (i + 1)) = sel a k (ds.take i) ++ [ds[i]] := by
  rw [List.take_succ_eq_append_getElem h, sel_app]
  congr 1
  simp [sel, h1, h2]
theorem sel_no (a k : Int) (ds : List Dc) (i : Nat) (h : i < ds.length) (h1 : ¬ (a < ds[i].seq ∧ ds[i].seq ≤ k)) : sel a k (ds.take (i + 1)) = sel a k (ds.take i) := by
  rw [List.take_succ_eq_append_getElem h, sel_app]
  have : sel a k [ds[i]] = [] := by
    unfold sel
    rw [List.filter_cons_of_neg (by simpa using h1)]
    rfl
  rw [this, List.append_nil]
theorem sel_len (a k : Int) (ds : List Dc) : (sel a k ds).length ≤ ds.length := List.length_filter_le ..
theorem fol_none {a k l : Int} (ds : List Dc) (h : l < 1) : folP a k l ds = ([], a) := by unfold folP; rw [if_pos h]
theorem fol_stop {a k l : Int} {ds : List Dc} (i : Nat) (h1 : ¬ l < 1) (h : ((sel a k (ds.take i)).length : Int) = l) : folP a k l ds = (sel a k (ds.take i), lastP a (sel a k (ds.take i))) := by
  have e : outP a k l ds = sel a k (ds.take i) := by
    unfold outP
    conv => lhs; rw [← List.take_append_drop i ds]
    rw [sel_app, List.take_left' (by omega)]
  unfold folP
  rw [if_neg h1, e, if_neg (by omega)]
theorem fol_end {a k l : Int} {ds : List Dc} (i : Nat) (h1 : ¬ l < 1) (hi : ds.length ≤ i) (h : ((sel a k (ds.take i)).length : Int) < l) : folP a k l ds = (sel a k (ds.take i), max a k) := by
  rw [List.take_of_length_le hi] at h ⊢
  have e : outP a k l ds = sel a k ds := by
    unfold outP
    rw [List.take_of_length_le (by omega)]
  unfold folP
  rw [if_neg h1, e, if_pos h]

section
variable {w wr w2 : World} {v v' : Value} {ds : List Dc}
theorem docs_row (h : DocsOwn w wr v ds) {g : Nat} {t : TypeId} {cs : Array Value} (hB : Blk wr g t cs) (ht : t ≠ 71) : some g ≠ v.ownBlock := by
  intro e
  obtain ⟨vss, h1, h2, h3⟩ := h.ex
  obtain ⟨_, cur, hc⟩ := own_block h2 g e.symm
  exact (Blk.ne_ (g := g) hB (show Blk wr g 71 cur from hc) ht) rfl
/-- A cursor's block is no docs'. -/
theorem docs_box (h : DocsOwn w wr v ds) {g : Nat} {cs : Array Value} (hB : Blk wr g 45 cs) (hg : w.heap.size ≤ g) (o : Nat) (u : Value) : DocsOwn w (wr.setCell ⟨g, o, none⟩ u) v ds := by
  have hrow := docs_row h hB (by decide)
  obtain ⟨vss, h1, h2, h3⟩ := h.ex
  have hgb : ∀ b, b ≠ g → (wr.setCell ⟨g, o, none⟩ u).heap[b]? = wr.heap[b]? := fun b hb => Below.heap_setCell wr ⟨g, o, none⟩ u b hb
  refine ⟨⟨vss, h1, h2.kept (grownBy_setC wr g o u) ?_, fun i a b => ?_⟩, h.bel.setCell (p := ⟨g, o, none⟩) hg _⟩
  · cases hv : v.ownBlock with
    | none => exact .inl rfl
    | some k => exact .inr (fun e => hrow (by rw [hv]; exact e.symm))
  · obtain ⟨hd, hf⟩ := h3 i a b
    obtain ⟨F, fn, fc, e, hR, h4⟩ := hd
    have hne : ∀ b' o', F = some ⟨b', o', none⟩ → 0 < fn → b' ≠ g := fun b' o' eF hp e' => by
      obtain ⟨b2, o2, e2, hc⟩ := hf F fn fc (by rw [e]; rfl) hp
      rw [eF] at e2
      injection e2 with e2
      injection e2 with e2 _
      subst e2 e'
      rcases hc with hc | ⟨cs2, fr, hc⟩
      · omega
      · unfold Blk at hB
        rw [hB] at hc
        injection hc with hc
        injection hc with _ hc
        exact absurd hc (by decide)
    refine ⟨⟨F, fn, fc, e, ⟨hR.1, fun hp => ?_⟩, h4⟩, ?_⟩
    · obtain ⟨b', o', eF, hlt, hc⟩ := hR.2 hp
      refine ⟨b', o', eF, by simpa [World.setCell] using hlt, fun j u' hu => ?_⟩
      rw [World.cell?_of_block (w := wr) (hgb b' (hne b' o' eF hp))]
      exact hc j u' hu
    · intro F' fn' fc' hv hp
      obtain ⟨b2, o2, e2, hc⟩ := hf F' fn' fc' hv hp
      refine ⟨b2, o2, e2, ?_⟩
      rcases hc with hc | ⟨cs2, fr, hc⟩
      · exact .inl hc
      · refine .inr ⟨cs2, fr, ?_⟩
        rw [hgb b2 (fun e' => ?_)]
        · exact hc
        · subst e'
          unfold Blk at hB
          rw [hB] at hc
          injection hc with hc
          injection hc with _ hc
          exact absurd hc (by decide)
end
/-- Docs on the way, beside the cursor and the result's place. -/
structure Fol (w wr : World) (a : Int) (q : ByteArray) (v : Value) (out : List Dc) : Prop where
  box : Blk wr w.heap.size 45 #[.int .i64 a, .string q]
  res : Blk wr (w.heap.size + 1) 45 #[.int .i64 0, .string ⟨#[]⟩]
  own : DocsOwn w wr v out
section
variable {w wr w2 : World} {a b : Int} {q : ByteArray} {v v' : Value} {out : List Dc}
theorem Fol.alloc (h : Fol w wr a q v out) (o : Obj) : Fol w (wr.alloc o) a q v out := ⟨h.box.alloc o, h.res.alloc o, h.own.below ((Below.refl _ _).alloc (Nat.le_refl _) _)⟩
theorem Fol.below (h : Fol w wr a q v out) (hb : Below wr.heap.size wr w2) : Fol w w2 a q v out := ⟨h.box.below hb h.box.lt, h.res.below hb h.res.lt, h.own.below hb⟩
theorem Fol.drew (h : Fol w wr a q v out) : Fol w wr.drew a q v out := h.below (Below.refl _ _).drew
theorem Fol.after (h : Fol w wr a q v out) (b : Int) : Fol w (wr.setCell ⟨w.heap.size, 0, none⟩ (.int .i64 b)) b q v out :=
  ⟨by have := h.box.set_ 0 (.int .i64 b); simpa using this, h.res.far (by simp) _, docs_box h.own h.box (Nat.le_refl _) 0 _⟩
theorem Fol.put {d : Dc} {u : List Value} {xs : List Value} (h : Fol w wr a q v out) (hx : ∃ vss : List (List Value), vss.length = out.length ∧ wr.ownsRow w.heap.size 71 3 v out.length vss.flatten ∧ (∀ i (h : i < out.length) (h' : i < vss.length), DcV wr wr.heap.size out[i] vss[i] ∧ Far wr w.heap.size vss[i]) ∧ xs = vss.flatten)
    (hp : w2.ownsRow w.heap.size 71 3 v' (out.length + 1) (xs ++ u)) (hg : wr.grownBy w2 v.ownBlock) (hd : DcV wr wr.heap.size d u) (hf : Far wr w.heap.size u) : Fol w w2 a q v' (out ++ [d]) :=
  ⟨h.box.grown hg (docs_row h.own h.box (by decide)), h.res.grown hg (docs_row h.own h.res (by decide)), h.own.put hx hp hg hd hf⟩
/-- The result, put in its place. -/
theorem Fol.done (h : Fol w wr a q v out) : Blk ((wr.drew.setCell ⟨w.heap.size + 1, 0, none⟩ (.int .i64 a)).setCell ⟨w.heap.size + 1, 1, none⟩ (.string q)) (w.heap.size + 1) 45 #[.int .i64 a, .string q] ∧
    DocsOwn w ((wr.drew.setCell ⟨w.heap.size + 1, 0, none⟩ (.int .i64 a)).setCell ⟨w.heap.size + 1, 1, none⟩ (.string q)) v out := by
  have h1 := h.drew.res.set_ 0 (.int .i64 a)
  have h2 := h1.set_ 1 (.string q)
  refine ⟨by simpa using h2, docs_box (docs_box h.drew.own h.drew.res (Nat.le_succ _) 0 _) h1 (Nat.le_succ _) 1 _⟩
end
/-- What Follow hands back. -/
def FolTo (w : World) (p : List Dc × Int) (q : ByteArray) (e : Ending) (w' : World) : Prop := ∃ v, e = .returned (.tuple #[v, .agg #[.int .i64 p.2, .string q]]) ∧ DocsOwn w w' v p.1
theorem fol_results {fn : Func} {p1 p2 : Tmp} (hf : fn.results = #[.tmp p1, .cell p2 45]) {tmps : Array Value} {W : World} {b1 : Nat} {a0 a1 v : Value} (h1 : tmps.getD p1 undef = v) (h2 : tmps.getD p2 undef = .pointer (some ⟨b1, 0, none⟩)) (B1 : Blk W b1 45 #[a0, a1]) :
    (results fn tmps).run Try.prog W = .ok (.tuple #[v, .agg #[a0, a1]]) W := by
  have l1 := run_loadVar_row (P := Try.prog) W b1 45 45 #[a0, a1] (0, 0) _ B1 Try.underlying45 rfl (by kernel_rfl)
  have h1' : tmps[p1]?.getD undef = v := by simpa using h1
  have h2' : tmps[p2]?.getD undef = .pointer (some ⟨b1, 0, none⟩) := by simpa using h2
  simp [results, hf, h1', h2', asAddr, l1]
end Go.Proofs.Ytceekocfmbcobaa.Cu
end
