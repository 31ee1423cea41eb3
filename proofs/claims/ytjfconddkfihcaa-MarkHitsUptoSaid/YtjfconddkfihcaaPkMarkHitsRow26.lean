/- loggiaref10.Light: the walk (printed by gen_hitf.py). -/
import Derived.Test.YtjfconddkfihcaaMatchBPk
import Derived.Test.YtjfconddkfihcaaGrowSPk
import Derived.Test.YtjfconddkfihcaaPkMarkHitsRow21
import Derived.Test.YtjfconddkfihcaaPkMarkHitsRow24
import Derived.Test.YtjfconddkfihcaaPkMarkHitsRow12
section
namespace Go.Proofs.Ytjfconddkfihcaa.Mk
open Go.RowKit Go.Proofs.Ytjfconddkfihcaa Go.Proofs.Ytjfconddkfihcaa.Ut Go.Proofs.Ytjfconddkfihcaa.Tk Go.Proofs.Ytjfconddkfihcaa.Qy Go.Proofs.Ytjfconddkfihcaa.Ph
set_option maxRecDepth 20000
set_option linter.unusedSimpArgs false

/-- It tells yes or no. -/
def BoolE (e : Ending) : Prop := ∃ b : Bool, e = .returned (.bool b)
set_option maxHeartbeats 6400000 in
theorem light_any (t : Int) (F : Option Addr) (fn fc : Nat) (fs : List (ByteArray × ByteArray)) (w : World) (hF : EvAt w F fn fs) :
    Calls Try.prog 25 #[.agg #[.int .i64 t, .slice F fn fc]] w fun e w' => BoolE e ∧ Below w.heap.size w w' := by
  have hb1 : Below w.heap.size w (w.alloc (.cells #[.int .i64 t, .slice F fn fc] 49)) := (Below.refl _ _).alloc (Nat.le_refl _) _
  have hB1 := Blk.new w 49 #[.int .i64 t, .slice F fn fc]
  have hz1 : w.heap.size < (w.alloc (.cells #[.int .i64 t, .slice F fn fc] 49)).heap.size := by simp
  have hfew := hF.few
  have hlen := hF.len
  have HF := Lib.hid hF
  have Hb1 := Lib.hid hb1
  have HB1 := Lib.hid hB1
  have Hlen := Lib.hid hlen
  clear hF hb1 hB1 hlen
  go_enter Try.func25, Try.ntmps25
  go_wp2_with fail
  generalize hw1 : (w.alloc (.cells #[.int .i64 t, .slice F fn fc] 49)) = w1 at *
  clear hw1
  go_loopw [3, 4] (fun v i wr => ∃ (j : Nat) (z : Int), j ≤ fn ∧ i = .int .i64 (j : Nat) ∧ v = .int .i64 z ∧ 0 ≤ z ∧ z ≤ 3000 ∧ Below w1.heap.size w1 wr) (fun _ i _ => fn - (intOf i).toNat)
  case atStart => exact ⟨0, 0, Nat.zero_le _, rfl, rfl, by omega, by omega, Below.refl _ _⟩
  case round =>
    obtain ⟨j, z, hj, rfl, rfl, hz0, hz3, hb⟩ := hrel
    have Hb := Lib.hid hb
    have hls := (hb.cell (p := ⟨w.heap.size, 1, none⟩) (by show w.heap.size < _; exact hz1)).trans (HB1.out.cell 1)
    simp at hls
    by_cases hlt : j < fn
    · have hji : (j : Int) < (fn : Int) := by omega
      have hji0 : (0 : Int) ≤ (j : Int) := by omega
      by_cases h20 : (j : Int) < 20
      · by_cases hzz : z < 1000
        · have hjl : j < fs.length := by rw [Hlen.out]; exact hlt
          obtain ⟨tb, tq, rfl, htb, hd1, hd2⟩ := fields_at HF.out.rd (k := j) hjl
          have hc1 := ((Hb1.out.trans (hb.mono Hb1.out.size)).cell (p := ⟨tb, tq + j * 2, none⟩) htb).trans hd1
          have hc2 := ((Hb1.out.trans (hb.mono Hb1.out.size)).cell (p := ⟨tb, tq + j * 2 + 1, none⟩) htb).trans hd2
          clear hb hlt hd1 hd2
          generalize fs[j].1 = s1 at *
          generalize fs[j].2 = s2 at *
          go_upto_region 5 with (fail)
          refine wp_region_ph_tail 19 (specOf []) (fun wx => wx = wr.drew) (fun _ => True) (by kernel_rfl) (by kernel_rfl) (turns_of (by kernel_rfl)) rfl trivial ?_
          refine ph_fix 1 ?_ rfl (by rfl) (by rfl) (fun wx hC => ?_) ?_
          rotate_left
          · subst hC
            go_simp
            all_goals with_reducible rfl
          try simp only [Act.put, List.setIfInBounds_toArray, List.set_cons_zero, List.set_cons_succ]
          refine ph_fix 2 ?_ rfl (by rfl) (by rfl) (fun wx hC => ?_) ?_
          rotate_left
          · subst hC
            go_simp
            all_goals with_reducible rfl
          try simp only [Act.put, List.setIfInBounds_toArray, List.set_cons_zero, List.set_cons_succ]
          refine ph_fix 3 ?_ rfl (by rfl) (by rfl) (fun wx hC => ?_) ?_
          rotate_left
          · subst hC
            go_simp
            all_goals with_reducible rfl
          try simp only [Act.put, List.setIfInBounds_toArray, List.set_cons_zero, List.set_cons_succ]
          refine ph_fix 4 ?_ rfl (by rfl) (by rfl) (fun wx hC => ?_) ?_
          rotate_left
          · subst hC
            go_simp
            all_goals with_reducible rfl
          try simp only [Act.put, List.setIfInBounds_toArray, List.set_cons_zero, List.set_cons_succ]
          refine ph_fix 5 ?_ rfl (by rfl) (by rfl) (fun wx hC => ?_) ?_
          rotate_left
          · subst hC
            go_simp
            all_goals with_reducible rfl
          try simp only [Act.put, List.setIfInBounds_toArray, List.set_cons_zero, List.set_cons_succ]
          refine ph_fix 6 ?_ rfl (by rfl) (by rfl) (fun wx hC => ?_) ?_
          rotate_left
          · subst hC
            go_simp
            all_goals with_reducible rfl
          try simp only [Act.put, List.setIfInBounds_toArray, List.set_cons_zero, List.set_cons_succ]
          refine ph_fix 7 ?_ rfl (by rfl) (by rfl) (fun wx hC => ?_) ?_
          rotate_left
          · subst hC
            go_simp
            all_goals with_reducible rfl
          try simp only [Act.put, List.setIfInBounds_toArray, List.set_cons_zero, List.set_cons_succ]
          refine ph_fix 8 ?_ rfl (by rfl) (by rfl) (fun wx hC => ?_) ?_
          rotate_left
          · subst hC
            go_simp
            all_goals with_reducible rfl
          try simp only [Act.put, List.setIfInBounds_toArray, List.set_cons_zero, List.set_cons_succ]
          refine ph_fix 9 ?_ rfl (by rfl) (by rfl) (fun wx hC => ?_) ?_
          rotate_left
          · subst hC
            go_simp
            all_goals with_reducible rfl
          try simp only [Act.put, List.setIfInBounds_toArray, List.set_cons_zero, List.set_cons_succ]
          refine ph_fix 10 ?_ rfl (by rfl) (by rfl) (fun wx hC => ?_) ?_
          rotate_left
          · subst hC
            go_simp
            all_goals with_reducible rfl
          try simp only [Act.put, List.setIfInBounds_toArray, List.set_cons_zero, List.set_cons_succ]
          refine ph_fix 11 ?_ rfl (by rfl) (by rfl) (fun wx hC => ?_) ?_
          rotate_left
          · subst hC
            go_simp
            all_goals with_reducible rfl
          try simp only [Act.put, List.setIfInBounds_toArray, List.set_cons_zero, List.set_cons_succ]
          refine ph_fix 12 ?_ rfl (by rfl) (by rfl) (fun wx hC => ?_) ?_
          rotate_left
          · subst hC
            go_simp
            all_goals with_reducible rfl
          try simp only [Act.put, List.setIfInBounds_toArray, List.set_cons_zero, List.set_cons_succ]
          refine ph_fix 13 ?_ rfl (by rfl) (by rfl) (fun wx hC => ?_) ?_
          rotate_left
          · subst hC
            go_simp
            all_goals with_reducible rfl
          try simp only [Act.put, List.setIfInBounds_toArray, List.set_cons_zero, List.set_cons_succ]
          refine ph_fix 14 ?_ rfl (by rfl) (by rfl) (fun wx hC => ?_) ?_
          rotate_left
          · subst hC
            go_simp
            all_goals with_reducible rfl
          try simp only [Act.put, List.setIfInBounds_toArray, List.set_cons_zero, List.set_cons_succ]
          refine ph_fix 15 ?_ rfl (by rfl) (by rfl) (fun wx hC => ?_) ?_
          rotate_left
          · subst hC
            go_simp
            all_goals with_reducible rfl
          try simp only [Act.put, List.setIfInBounds_toArray, List.set_cons_zero, List.set_cons_succ]
          refine ph_fix 16 ?_ rfl (by rfl) (by rfl) (fun wx hC => ?_) ?_
          rotate_left
          · subst hC
            go_simp
            all_goals with_reducible rfl
          try simp only [Act.put, List.setIfInBounds_toArray, List.set_cons_zero, List.set_cons_succ]
          refine ph_fix 17 ?_ rfl (by rfl) (by rfl) (fun wx hC => ?_) ?_
          rotate_left
          · subst hC
            go_simp
            all_goals with_reducible rfl
          try simp only [Act.put, List.setIfInBounds_toArray, List.set_cons_zero, List.set_cons_succ]
          refine ph_fix 18 ?_ rfl (by rfl) (by rfl) (fun wx hC => ?_) ?_
          rotate_left
          · subst hC
            go_simp
            all_goals with_reducible rfl
          try simp only [Act.put, List.setIfInBounds_toArray, List.set_cons_zero, List.set_cons_succ]
          refine ph_fix 19 ?_ rfl (by rfl) (by rfl) (fun wx hC => ?_) ?_
          rotate_left
          · subst hC
            go_simp
            all_goals with_reducible rfl
          try simp only [Act.put, List.setIfInBounds_toArray, List.set_cons_zero, List.set_cons_succ]
          refine ph_nil (fun w9 hC hI => ?_)
          subst hC
          clear hI
          go_wp2
          go_roundw
          case rel => exact ⟨j + 1, _, by omega, by go_num, rfl, by omega, by omega, Hb.out.drew⟩
          case measure => simp [intOf]; omega
        · have hzz' : (1000 : Int) ≤ z := by omega
          clear hb hlt
          go_wp2
          go_ret
          exact ⟨⟨_, rfl⟩, Hb1.out.trans (Hb.out.mono Hb1.out.size)⟩
      · have h20' : (20 : Int) ≤ (j : Int) := by omega
        clear hb hlt
        go_wp2
        go_ret
        exact ⟨⟨_, rfl⟩, Hb1.out.trans (Hb.out.mono Hb1.out.size)⟩
    · have hji : (fn : Int) ≤ (j : Int) := by omega
      clear hb hlt
      go_wp2
      go_ret
      exact ⟨⟨_, rfl⟩, Hb1.out.trans (Hb.out.mono Hb1.out.size)⟩
end Go.Proofs.Ytjfconddkfihcaa.Mk
end

section
/- mark.Check, mark.Text: the walks (printed by gen_mkh.py). -/
namespace Go.Proofs.Ytjfconddkfihcaa.Mk
open Go.RowKit Go.Proofs.Ytjfconddkfihcaa Go.Proofs.Ytjfconddkfihcaa.Ut Go.Proofs.Ytjfconddkfihcaa.Tk Go.Proofs.Ytjfconddkfihcaa.Qy
set_option maxRecDepth 20000
set_option linter.unusedSimpArgs false

/-- Are spans in a text of n bytes, from place e on? -/
def chk (e n : Int) : List (Int × Int) → Bool
  | [] => true
  | x :: t => decide (e ≤ x.1) && decide (x.1 < x.2) && decide (x.2 ≤ n) && chk x.2 n t
def spZ (l : List (Int × Int)) : List Value := l.flatMap fun x => [.int .i64 x.1, .int .i64 x.2]
theorem spZ_len (l : List (Int × Int)) : (spZ l).length = l.length * 2 := by
  induction l with
  | nil => rfl
  | cons f fs ih => simp [spZ] at *; omega
theorem spZ_get : ∀ (l : List (Int × Int)) (k : Nat) (h : k < l.length), (spZ l)[k * 2]? = some (.int .i64 l[k].1) ∧ (spZ l)[k * 2 + 1]? = some (.int .i64 l[k].2)
  | f :: fs, 0, _ => ⟨rfl, rfl⟩
  | f :: fs, k + 1, h => by
    have ih := spZ_get fs k (by simpa using h)
    have e1 : (k + 1) * 2 = k * 2 + 2 := by omega
    have e2 : (k + 1) * 2 + 1 = (k * 2 + 1) + 2 := by omega
    rw [e2, e1]
    exact ih
theorem spz_at {w : World} {B n : Nat} {A : Option Addr} {l : List (Int × Int)} (h : Reads w B 2 A n (spZ l)) {k : Nat} (hk : k < l.length) :
    ∃ b o, A = some ⟨b, o, none⟩ ∧ b < B ∧ w.cell? ⟨b, o + k * 2, none⟩ = some (.int .i64 l[k].1) ∧ w.cell? ⟨b, o + k * 2 + 1, none⟩ = some (.int .i64 l[k].2) := by
  have hl := h.1
  rw [spZ_len] at hl
  obtain ⟨b, o, e, hb, hc⟩ := h.2 (by omega)
  have g := spZ_get l k hk
  refine ⟨b, o, e, hb, hc _ _ g.1, ?_⟩
  have := hc _ _ g.2
  rwa [← Nat.add_assoc] at this
/-- Spans of natural numbers, as integers. -/
def zs (l : List (Nat × Nat)) : List (Int × Int) := l.map fun x => ((x.1 : Int), (x.2 : Int))
theorem spC_zs (l : List (Nat × Nat)) : spC l = spZ (zs l) := by
  unfold spC spZ zs
  rw [List.flatMap_map]
theorem chk_zs {n : Nat} : ∀ {e : Nat} {l : List (Nat × Nat)}, okS e n l → chk e n (zs l) = true
  | _, [], _ => rfl
  | e, x :: t, ⟨h1, h2, h3, h4⟩ => by
    have ih := chk_zs h4
    unfold zs at ih ⊢
    rw [List.map_cons, chk, ih]
    simp
    omega

set_option maxHeartbeats 3200000 in
theorem check_any (s : ByteArray) (A : Option Addr) (c : Nat) (l : List (Int × Int)) (hl : l.length ≤ 8796093021952) (w : World) (hR : Reads w w.heap.size 2 A l.length (spZ l)) :
    Calls Try.prog 19 #[.string s, .slice A l.length c] w fun e w' => e = .returned (.int .i64 (if chk 0 s.size l then 0 else 5)) ∧ Below w.heap.size w w' := by
  have HR := Lib.hid hR
  have Fin : Hid (∀ b, chk 0 s.size l = b → ∀ v : Int, (if b then 0 else 5) = v → (if chk 0 s.size l then 0 else 5) = v) := Lib.hid (fun b h v e => by rw [h]; exact e)
  generalize hres : (if chk 0 s.size l then (0 : Int) else 5) = res at *
  clear hR hres
  go_enter Try.func19, Try.ntmps19
  go_wp2
  go_loopw [5, 10] (fun e i wr => ∃ (k : Nat) (z : Int), k ≤ l.length ∧ i = .int .i64 k ∧ e = .int .i64 z ∧ Hid (chk 0 s.size l = chk z s.size (l.drop k)) ∧ Below w.heap.size w wr) (fun _ i _ => l.length - (intOf i).toNat)
  case atStart => exact ⟨0, 0, Nat.zero_le _, rfl, rfl, Lib.hid rfl, Below.refl _ _⟩
  case round =>
    obtain ⟨k, z, hk, rfl, rfl, hch, hb⟩ := hrel
    by_cases hlt : k < l.length
    · obtain ⟨b, o, rfl, hbb, y0, y1⟩ := spz_at (reads_grow hb HR.out) hlt
      have hk1 : (k : Int) < (l.length : Int) := by omega
      have hdr : chk z s.size (l.drop k) = (decide (z ≤ l[k].1) && decide (l[k].1 < l[k].2) && decide (l[k].2 ≤ (s.size : Int)) && chk l[k].2 s.size (l.drop (k + 1))) := by
        rw [List.drop_eq_getElem_cons hlt, chk]
      have Hdr := Lib.hid (hch.out.trans hdr)
      clear hdr hch
      generalize l[k] = x at *
      obtain ⟨x1, x2⟩ := x
      simp only at y0 y1
      have Hb := Lib.hid (hb.alloc hb.size (.cells #[.int .i64 x1, .int .i64 x2] 45))
      clear hb
      by_cases h1 : x1 < z
      · have hf : chk 0 s.size l = false := by
          rw [Hdr.out]
          have : decide (z ≤ x1) = false := decide_eq_false (by omega)
          simp [this]
        have Fv := Lib.hid (Fin.out _ hf 5 rfl)
        clear hf
        go_wp2
        go_ret
        exact ⟨by rw [Fv.out]; rfl, Hb.out⟩
      · by_cases h2 : x2 ≤ x1
        · have hf : chk 0 s.size l = false := by
            rw [Hdr.out]
            have : decide (x1 < x2) = false := decide_eq_false (by omega)
            simp [this]
          have Fv := Lib.hid (Fin.out _ hf 5 rfl)
          clear hf
          go_wp2
          go_ret
          exact ⟨by rw [Fv.out]; rfl, Hb.out⟩
        · by_cases h3 : (s.size : Int) < x2
          · have hf : chk 0 s.size l = false := by
              rw [Hdr.out]
              have : decide (x2 ≤ (s.size : Int)) = false := decide_eq_false (by omega)
              simp [this]
            have Fv := Lib.hid (Fin.out _ hf 5 rfl)
            clear hf
            go_wp2
            go_ret
            exact ⟨by rw [Fv.out]; rfl, Hb.out⟩
          · have hnx : chk 0 s.size l = chk x2 s.size (l.drop (k + 1)) := by
              rw [Hdr.out, decide_eq_true (show z ≤ x1 by omega), decide_eq_true (show x1 < x2 by omega), decide_eq_true (show x2 ≤ (s.size : Int) by omega)]
              simp
            have Hnx := Lib.hid hnx
            clear hnx
            go_wp2
            go_roundw
            case rel => exact ⟨k + 1, x2, by omega, by go_num, rfl, Hnx, Hb.out⟩
            case measure => simp [intOf]; omega
    · have hd : l.drop k = [] := List.drop_eq_nil_of_le (by omega)
      have hf : chk 0 s.size l = true := by rw [hch.out, hd]; rfl
      have Fv := Lib.hid (Fin.out _ hf 0 rfl)
      have Hb := Lib.hid hb
      clear hf hd hch hb
      go_wp2
      go_ret
      exact ⟨by rw [Fv.out]; rfl, Hb.out⟩

/-- A text with something around spans, from place k on. -/
def textN (s b e : List UInt8) (k : Nat) : List (Nat × Nat) → List UInt8
  | [] => s.drop k
  | x :: t => (s.take x.1).drop k ++ b ++ (s.take x.2).drop x.1 ++ e ++ textN s b e x.2 t
theorem extract_list (s : ByteArray) (i j : Nat) : (s.extract i j).data.toList = (s.data.toList.take j).drop i := by
  rw [ByteArray.data_extract, Array.toList_extract]
  rw [List.extract_eq_take_drop, List.drop_take]
theorem app_list (a b : ByteArray) : (a ++ b).data.toList = a.data.toList ++ b.data.toList := by simp
theorem textN_len (s b e : List UInt8) : ∀ (l : List (Nat × Nat)) (k : Nat), okS k s.length l → (textN s b e k l).length + k = s.length + l.length * (b.length + e.length) ∨ s.length < k
  | [], k, _ => by
    simp only [textN, List.length_drop, List.length_nil, Nat.zero_mul]
    omega
  | x :: t, k, ⟨h1, h2, h3, h4⟩ => by
    have ih := textN_len s b e t x.2 h4
    simp only [textN, List.length_append, List.length_drop, List.length_take, List.length_cons, Nat.add_mul, Nat.one_mul]
    rw [Nat.min_eq_left (by omega), Nat.min_eq_left (by omega)]
    omega

theorem copyCheckK (B b : Nat) (bs : List Value) (w : World) (h : Lib.IsBuilder 104 5 B b bs w) :
    Calls Try.prog 98 #[.pointer (some ⟨b, 0, none⟩)] w fun e w' => e = .returned (.tuple #[]) ∧ (Lib.BuilderAt 104 5 B b (.pointer (some ⟨b, 0, none⟩)) bs w' ∧ Below B w w' ∧ ∀ g t cs, t ≠ 104 → Blk w g t cs → Blk w' g t cs) := by
  rcases h with h | h
  · refine (copyCheck_fresh b w h.cell0 h.shape h.frozen0).mono ?_
    rintro e w' ⟨rfl, rfl⟩
    refine ⟨rfl, h.used _, (Below.refl B w).setCell (p := ⟨b, 0, none⟩) h.1 _, fun g t cs ht hg => ?_⟩
    obtain ⟨_, v, hbk, _⟩ := h
    exact hg.far (p := ⟨b, 0, none⟩) (hg.ne_ (t' := 104) hbk ht) _
  · refine (copyCheck_used b w h.cell0).mono ?_
    rintro e w' ⟨rfl, rfl⟩
    exact ⟨rfl, h, Below.refl B _, fun _ _ _ _ hg => hg⟩

set_option maxHeartbeats 2000000 in
set_option maxRecDepth 100000 in
theorem writeStringK (B b : Nat) (bs : List Value) (s : ByteArray) (w : World) (h : Lib.IsBuilder 104 5 B b bs w) (hlen : bs.length + s.size ≤ 140737488355328) (hBw : B ≤ w.heap.size) :
    Calls Try.prog 69 #[.pointer (some ⟨b, 0, none⟩), .string s] w fun e w' => e = .returned (.tuple #[.int .i64 s.size, .nilIface]) ∧ (Lib.BuilderAt 104 5 B b (.pointer (some ⟨b, 0, none⟩)) (bs ++ Lib.strCells s) w' ∧ Below B w w' ∧ ∀ g t cs, t ≠ 104 → t ≠ 5 → Blk w g t cs → Blk w' g t cs) := by
  obtain ⟨i0, hi, hz0, hz1, hz2⟩ := info_parts byte_info
  go_enter Try.func69, Try.ntmps69
  go_wp2_with (go_at_call 98; refine (copyCheckK B b bs _ h).mono ?_)
  rintro e w1 ⟨rfl, h1, hb1, hk1⟩
  have Hk1 := Lib.hid hk1
  clear hk1
  obtain ⟨hB, v, hbk, hown, hne⟩ := h1
  have c0 : w1.cell? ⟨b, 0, none⟩ = some (.pointer (some ⟨b, 0, none⟩)) := by rw [Lib.cell_of_heap hbk]; rfl
  have c1 : w1.cell? ⟨b, 1, none⟩ = some v := by rw [Lib.cell_of_heap hbk]; rfl
  go_wp2_with (at_builtin; refine Lib.wpList_append_own_string _ rfl _ _ 102 9 rfl B 5 i0 Try.underlying102 Try.underlying9 hi hz0 hz1 hz2 _ _ _ rfl hown s rfl ?c3 ?c4 ?c5 ?_)
  case c3 => unfold maxLen; omega
  case c4 => omega
  case c5 => have := hb1.size; omega
  intro v' w2 hown' hgrow _
  have hlt : b < w1.heap.size := by
    rcases Nat.lt_or_ge b w1.heap.size with h' | h'
    · exact h'
    · simp [Array.getElem?_eq_none h'] at hbk
  have hb2 : w2.heap[b]? = some (.cells #[.pointer (some ⟨b, 0, none⟩), v] 104 (0, 0)) := by
    rw [hgrow.block b hlt (fun e => hne e.symm)]
    exact hbk
  have d0 : w2.cell? ⟨b, 0, none⟩ = some (.pointer (some ⟨b, 0, none⟩)) := by rw [Lib.cell_of_heap hb2]; rfl
  have d1 : w2.cell? ⟨b, 1, none⟩ = some v := by rw [Lib.cell_of_heap hb2]; rfl
  have f1 : w2.frozen? ⟨b, 1, none⟩ = false := Lib.frozen_of_heap hb2 1
  obtain ⟨ao, n', cap, rfl⟩ : ∃ ao n' cap, v' = .slice ao n' cap := by
    rcases hown'.2 with ⟨hv, _⟩ | ⟨g, cap, cur, hv, _⟩
    · exact ⟨_, _, _, hv⟩
    · exact ⟨_, _, _, hv⟩
  go_wp2
  go_ret2
  refine ⟨rfl, ?_, ?_, ?_⟩
  · exact Lib.BuilderAt.put (T := 104) (e := 5) hB hb2 (bs' := bs ++ Lib.strCells s) (by simpa [Lib.strCells_length] using hown') (by decide)
  · exact (hb1.grown hgrow (by have := hb1.size; omega) (fun k hk => (hown.lt k hk).1)).setCell (p := ⟨b, 1, none⟩) hB _
  · intro g t cs ht1 ht2 hg
    have h1 := Hk1.out g t cs ht1 hg
    have h2 : Blk w2 g t cs := h1.grown hgrow (fun e => by
      obtain ⟨_, cur, hc⟩ := own_block hown g e.symm
      exact Blk.ne_ (t' := 5) h1 hc ht2 rfl)
    exact h2.far (p := ⟨b, 1, none⟩) (h2.ne_ (t' := 104) hb2 ht1) _
theorem write_anyK {w wr : World} {a : List UInt8} (h : Wr w wr a) (s : List UInt8) (hl : a.length + s.length ≤ 100000) : Calls Try.prog 69 #[.pointer (some ⟨w.heap.size, 0, none⟩), .string (str s)] wr fun e w' =>
    e = .returned (.tuple #[.int .i64 (s.length : Nat), .nilIface]) ∧ Wr w w' (a ++ s) ∧ wr.heap.size ≤ w'.heap.size ∧ ∀ g t cs, t ≠ 104 → t ≠ 5 → Blk wr g t cs → Blk w' g t cs := by
  have c := writeStringK w.heap.size w.heap.size (Lib.byteCells a) (str s) wr h.bu (by rw [str_size]; simp [Lib.byteCells]; omega) h.bel.size
  refine c.mono fun e w' ⟨he, hb, hw, hk⟩ => ⟨by rw [he, str_size], ⟨?_, h.bel.trans hw⟩, hw.size, hk⟩
  have e2 : Lib.byteCells a ++ Lib.strCells (str s) = Lib.byteCells (a ++ s) := by
    simp [Lib.byteCells, Lib.strCells, str]
  rw [← e2]
  exact .inr hb

set_option maxHeartbeats 6400000 in
theorem text_ok (s b e : ByteArray) (A : Option Addr) (c : Nat) (l : List (Nat × Nat)) (hok : okS 0 s.size l) (hl : l.length ≤ 100000) (hbd : s.size + l.length * (b.size + e.size) ≤ 100000) (w : World) (hR : Reads w w.heap.size 2 A l.length (spC l)) :
    Calls Try.prog 24 #[.string s, .string b, .string e, .slice A l.length c] w fun r w' => r = .returned (.tuple #[.string (str (textN s.data.toList b.data.toList e.data.toList 0 l)), .int .i64 0]) ∧ Below w.heap.size w w' := by
  have hzl : (zs l).length = l.length := by simp [zs]
  have cc := check_any s A c (zs l) (by omega) w (by rw [hzl, ← spC_zs]; exact hR)
  have hck : chk 0 s.size (zs l) = true := by have := chk_zs (n := s.size) (e := 0) hok; simpa using this
  rw [hck, hzl] at cc
  have HR := Lib.hid hR
  have Hok := Lib.hid hok
  have hmul : ∀ k, k ≤ l.length → k * (b.size + e.size) ≤ l.length * (b.size + e.size) := fun k h => Nat.mul_le_mul_right _ h
  have Hmul := Lib.hid hmul
  clear hR hok hzl hmul
  go_enter Try.func24, Try.ntmps24
  go_wp2_with fail
  refine cc.mono ?_
  rintro r w2 ⟨rfl, hb2⟩
  have Hb2 := Lib.hid hb2
  have hW0 := Wr.start w2
  have HW0 := Lib.hid hW0
  have HR2 := Lib.hid (reads_grow hb2 HR.out)
  clear cc hb2 hW0
  go_wp2_with fail
  go_loopw [12, 23] (fun v i wr => ∃ (k at_ : Nat) (acc : List UInt8), k ≤ l.length ∧ i = .int .i64 k ∧ v = .int .i64 (at_ : Nat) ∧ Hid (acc ++ textN s.data.toList b.data.toList e.data.toList at_ (l.drop k) = textN s.data.toList b.data.toList e.data.toList 0 l) ∧ Hid (okS at_ s.size (l.drop k)) ∧ at_ ≤ s.size ∧ acc.length = at_ + k * (b.size + e.size) ∧ Wr w2 wr acc) (fun _ i _ => l.length - (intOf i).toNat)
  case atStart => exact ⟨0, 0, [], Nat.zero_le _, rfl, rfl, Lib.hid rfl, Hok, Nat.zero_le _, by simp, HW0.out⟩
  case round =>
    obtain ⟨k, at_, acc, hk, rfl, rfl, hT, hO, hat, hal, hW⟩ := hrel
    by_cases hlt : k < l.length
    · obtain ⟨bb, o, rfl, hbb, y0, y1⟩ := spans_at (reads_grow hW.bel HR2.out) hlt
      have hk1 : (k : Int) < (l.length : Int) := by omega
      have hdr : l.drop k = l[k] :: l.drop (k + 1) := List.drop_eq_getElem_cons hlt
      have hT1 := hT.out
      have hO1 := hO.out
      rw [hdr] at hT1 hO1
      have hm1 := Hmul.out (k + 1) hlt
      rw [Nat.add_mul, Nat.one_mul] at hm1
      clear hdr
      generalize l[k] = x at *
      obtain ⟨x1, x2⟩ := x
      obtain ⟨q1, q2, q3, q4⟩ := hO1
      simp only [textN] at hT1
      simp only at y0 y1 q1 q2 q3 q4
      have hba : Below wr.heap.size wr (wr.alloc (.cells #[.int .i64 (x1 : Nat), .int .i64 (x2 : Nat)] 45)) := (Below.refl _ _).alloc (Nat.le_refl _) _
      have hWa := hW.below hba
      have hBx := Blk.new wr 45 #[.int .i64 (x1 : Nat), .int .i64 (x2 : Nat)]
      have hza : wr.heap.size < (wr.alloc (.cells #[.int .i64 (x1 : Nat), .int .i64 (x2 : Nat)] 45)).heap.size := by simp
      have hsl1 : ∀ W : World, (Instr.slice 9 (.string s) (some (.int .i64 (at_ : Nat))) (some (.int .i64 (x1 : Nat))) none).run Try.prog W = .ok (.string (s.extract at_ x1)) W := fun W => by
        rw [run_slice_string W 9 s .i64 .i64 _ _ Try.underlying9 (by omega) (by omega) (by omega)]
        simp
      have hsl2 : ∀ W : World, (Instr.slice 9 (.string s) (some (.int .i64 (x1 : Nat))) (some (.int .i64 (x2 : Nat))) none).run Try.prog W = .ok (.string (s.extract x1 x2)) W := fun W => by
        rw [run_slice_string W 9 s .i64 .i64 _ _ Try.underlying9 (by omega) (by omega) (by omega)]
        simp
      have hnew : (((s.extract at_ x1 ++ b) ++ s.extract x1 x2) ++ e).data.toList = (s.data.toList.take x1).drop at_ ++ b.data.toList ++ (s.data.toList.take x2).drop x1 ++ e.data.toList := by
        rw [app_list, app_list, app_list, extract_list, extract_list]
      have hnl : (((s.extract at_ x1 ++ b) ++ s.extract x1 x2) ++ e).data.toList.length = (x2 - at_) + (b.size + e.size) := by
        rw [bsize]
        simp only [ByteArray.size_append, ByteArray.size_extract]
        omega
      have HWa := Lib.hid hWa
      have HBx := Lib.hid hBx
      have HT1 := Lib.hid hT1
      have HO1 := Lib.hid q4
      have Hnew := Lib.hid hnew
      have Hnl := Lib.hid hnl
      clear hW hT hO hba hWa hBx hT1 q4 hnew hnl
      have hcells : ∀ wx, Below (wr.alloc (.cells #[.int .i64 (x1 : Nat), .int .i64 (x2 : Nat)] 45)).heap.size (wr.alloc (.cells #[.int .i64 (x1 : Nat), .int .i64 (x2 : Nat)] 45)) wx → wx.cell? ⟨wr.heap.size, 0, none⟩ = some (.int .i64 (x1 : Nat)) ∧ wx.cell? ⟨wr.heap.size, 1, none⟩ = some (.int .i64 (x2 : Nat)) := fun wx hC =>
        ⟨(HBx.out.below hC hza).cell 0, (HBx.out.below hC hza).cell 1⟩
      have Hcells := Lib.hid hcells
      clear hcells
      go_wp2_with fail
      generalize hwa : (wr.alloc (.cells #[.int .i64 (x1 : Nat), .int .i64 (x2 : Nat)] 45)) = wa at *
      clear hwa y0 y1
      have hcA : ¬ 9223372036854775807 < min x1 s.size - at_ + b.size := by omega
      have hcB : ¬ 9223372036854775807 < min x1 s.size - at_ + b.size + (x2 - x1) := by omega
      have hcC : ¬ 9223372036854775807 < min x1 s.size - at_ + b.size + (x2 - x1) + e.size := by omega

      refine wp_region_grow_tail 16 (specOf []) (fun wx => Below wa.heap.size wa wx) (fun w1 w2 => Below w1.heap.size w1 w2) (by kernel_rfl) (by kernel_rfl) (stab_nil) ((Below.refl _ _).drew) ?_
      simp only [List.take_succ_cons, List.take_zero, List.drop_succ_cons, List.drop_zero]
      refine grow_fix 1 ?_ rfl (by rfl) (by rfl) (fun wx hC hD => ?_) ?_
      rotate_left
      · have hSw := Hcells.out wx hC
        go_simp
        all_goals with_reducible rfl
      try simp only [Act.put, List.setIfInBounds_toArray, List.set_cons_zero, List.set_cons_succ]
      refine grow_fix 2 ?_ rfl (by rfl) (by rfl) (fun wx hC hD => ?_) ?_
      rotate_left
      · have hSw := Hcells.out wx hC
        go_simp
        all_goals with_reducible rfl
      try simp only [Act.put, List.setIfInBounds_toArray, List.set_cons_zero, List.set_cons_succ]
      refine grow_fix 3 ?_ rfl (by rfl) (by rfl) (fun wx hC hD => ?_) ?_
      rotate_left
      · have hSw := Hcells.out wx hC
        go_simp
        all_goals with_reducible rfl
      try simp only [Act.put, List.setIfInBounds_toArray, List.set_cons_zero, List.set_cons_succ]
      refine grow_fix 4 ?_ rfl (by rfl) (by rfl) (fun wx hC hD => ?_) ?_
      rotate_left
      · have hSw := Hcells.out wx hC
        go_simp
        all_goals with_reducible rfl
      try simp only [Act.put, List.setIfInBounds_toArray, List.set_cons_zero, List.set_cons_succ]
      refine grow_fix 5 ?_ rfl (by rfl) (by rfl) (fun wx hC hD => ?_) ?_
      rotate_left
      · have hSw := Hcells.out wx hC
        go_simp
        all_goals with_reducible rfl
      try simp only [Act.put, List.setIfInBounds_toArray, List.set_cons_zero, List.set_cons_succ]
      refine grow_fix 6 ?_ rfl (by rfl) (by rfl) (fun wx hC hD => ?_) ?_
      rotate_left
      · have hSw := Hcells.out wx hC
        go_simp
        all_goals with_reducible rfl
      try simp only [Act.put, List.setIfInBounds_toArray, List.set_cons_zero, List.set_cons_succ]
      refine grow_fix 7 ?_ rfl (by rfl) (by rfl) (fun wx hC hD => ?_) ?_
      rotate_left
      · have hSw := Hcells.out wx hC
        go_simp
        all_goals with_reducible rfl
      try simp only [Act.put, List.setIfInBounds_toArray, List.set_cons_zero, List.set_cons_succ]
      refine grow_fix 8 ?_ rfl (by rfl) (by rfl) (fun wx hC hD => ?_) ?_
      rotate_left
      · have hSw := Hcells.out wx hC
        go_simp
        all_goals with_reducible rfl
      try simp only [Act.put, List.setIfInBounds_toArray, List.set_cons_zero, List.set_cons_succ]
      refine grow_fix 9 ?_ rfl (by rfl) (by rfl) (fun wx hC hD => ?_) ?_
      rotate_left
      · have hSw := Hcells.out wx hC
        go_simp
        all_goals with_reducible rfl
      try simp only [Act.put, List.setIfInBounds_toArray, List.set_cons_zero, List.set_cons_succ]
      refine grow_fix 10 ?_ rfl (by rfl) (by rfl) (fun wx hC hD => ?_) ?_
      rotate_left
      · have hSw := Hcells.out wx hC
        go_simp
        all_goals with_reducible rfl
      try simp only [Act.put, List.setIfInBounds_toArray, List.set_cons_zero, List.set_cons_succ]
      refine grow_fix 11 ?_ rfl (by rfl) (by rfl) (fun wx hC hD => ?_) ?_
      rotate_left
      · have hSw := Hcells.out wx hC
        go_simp
        all_goals with_reducible rfl
      try simp only [Act.put, List.setIfInBounds_toArray, List.set_cons_zero, List.set_cons_succ]
      refine grow_fix 12 ?_ rfl (by rfl) (by rfl) (fun wx hC hD => ?_) ?_
      rotate_left
      · have hSw := Hcells.out wx hC
        go_simp
        all_goals with_reducible rfl
      try simp only [Act.put, List.setIfInBounds_toArray, List.set_cons_zero, List.set_cons_succ]
      refine grow_fix 13 ?_ rfl (by rfl) (by rfl) (fun wx hC hD => ?_) ?_
      rotate_left
      · have hSw := Hcells.out wx hC
        go_simp
        all_goals with_reducible rfl
      try simp only [Act.put, List.setIfInBounds_toArray, List.set_cons_zero, List.set_cons_succ]
      refine grow_fix 14 ?_ rfl (by rfl) (by rfl) (fun wx hC hD => ?_) ?_
      rotate_left
      · have hSw := Hcells.out wx hC
        go_simp
        all_goals with_reducible rfl
      try simp only [Act.put, List.setIfInBounds_toArray, List.set_cons_zero, List.set_cons_succ]
      refine grow_fix 15 ?_ rfl (by rfl) (by rfl) (fun wx hC hD => ?_) ?_
      rotate_left
      · have hSw := Hcells.out wx hC
        go_simp
        all_goals with_reducible rfl
      try simp only [Act.put, List.setIfInBounds_toArray, List.set_cons_zero, List.set_cons_succ]
      refine grow_fix 16 ?_ rfl (by rfl) (by rfl) (fun wx hC hD => ?_) ?_
      rotate_left
      · have hSw := Hcells.out wx hC
        go_simp
        all_goals with_reducible rfl
      try simp only [Act.put, List.setIfInBounds_toArray, List.set_cons_zero, List.set_cons_succ]
      refine grow_nil (fun w3 hC hF => ?_)
      have hW3 := HWa.out.below hC
      have cw := write_anyK hW3 (((s.extract at_ x1 ++ b) ++ s.extract x1 x2) ++ e).data.toList (by rw [Hnl.out, hal]; omega)
      rw [of_str] at cw
      have hB3 := HBx.out.below hC hza
      have HB3 := Lib.hid hB3
      clear hF hC hW3 Hcells hcA hcB hcC hB3
      show wpList _ _ _ _ _ _
      go_wp2_with fail
      refine cw.mono ?_
      rintro r4 w4 ⟨rfl, hW4, hz4, hk4⟩
      have hx4 := (hk4 _ _ _ (by decide) (by decide) HB3.out).cell 1
      simp only [List.getElem?_toArray, List.getElem?_cons_succ, List.getElem?_cons_zero] at hx4
      have Fin : Hid ((acc ++ (((s.extract at_ x1 ++ b) ++ s.extract x1 x2) ++ e).data.toList) ++ textN s.data.toList b.data.toList e.data.toList x2 (l.drop (k + 1)) = textN s.data.toList b.data.toList e.data.toList 0 l) := Lib.hid (by
        rw [Hnew.out, ← HT1.out]
        simp only [List.append_assoc])
      have HW4 := Lib.hid hW4
      have hlen : (acc ++ (((s.extract at_ x1 ++ b) ++ s.extract x1 x2) ++ e).data.toList).length = x2 + (k + 1) * (b.size + e.size) := by
        rw [List.length_append, Hnl.out, hal, Nat.add_mul, Nat.one_mul]
        omega
      have Hlen := Lib.hid hlen
      clear cw hW4 hk4 HB3 hlen
      go_wp2
      go_roundw
      case rel => exact ⟨k + 1, x2, _, by omega, by go_num, rfl, Fin, HO1, q3, Hlen.out, HW4.out⟩
      case measure => simp [intOf]; omega
    · obtain rfl : k = l.length := by omega
      have hd : l.drop l.length = [] := List.drop_eq_nil_of_le (by omega)
      have hT1 := hT.out
      rw [hd, textN] at hT1
      have hsl : ∀ W : World, (Instr.slice 9 (.string s) (some (.int .i64 (at_ : Nat))) none none).run Try.prog W = .ok (.string (s.extract at_ s.size)) W := fun W => by
        rw [run_slice_string_l W 9 s Try.underlying9 .i64 _ (by omega) (by omega)]
        simp
      have hnew : (s.extract at_ s.size).data.toList = s.data.toList.drop at_ := by
        rw [extract_list, ← bsize, List.take_length]
      have hnl : (s.extract at_ s.size).data.toList.length = s.size - at_ := by rw [hnew, List.length_drop, bsize]
      have cw := write_any hW (s.extract at_ s.size).data.toList (by rw [hnl, hal]; omega)
      rw [of_str, hnew, hT1] at cw
      have Hb3 := Lib.hid Hb2.out
      clear hW hT hO hT1 hd hnew hnl
      go_wp2_with fail
      refine cw.mono ?_
      rintro r4 w4 ⟨rfl, hW4⟩
      have cs := string_any hW4
      have hbs := hW4.bel
      clear cw hW4
      go_wp2_with (go_at_call 70; refine cs.mono ?_; rintro r5 w5 ⟨rfl, hb5⟩)
      go_ret2
      exact ⟨rfl, Hb3.out.trans (hb5.mono Hb3.out.size)⟩

end Go.Proofs.Ytjfconddkfihcaa.Mk
end
