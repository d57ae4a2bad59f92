/- Whole numbers. -/
import Derived.Test.YtolfcmfilfjgfaaDoorLexC
import Derived.Test.YtolfcmfilfjgfaaDoorOrd
import Derived.Deep.RegionHeld3
set_option linter.unusedVariables false
set_option linter.unusedSimpArgs false
namespace Go.Proofs.YtolfcmfilfjgfaaDoor
open Go.RowKit

def numL : Nat → List UInt8 → Option (Nat × Nat)
  | acc, [] => some (acc, 0)
  | acc, b :: r => if digitB b then (if 9007199254740991 < acc * 10 + (b.toNat - 48) then none else (numL (acc * 10 + (b.toNat - 48)) r).map fun p => (p.1, p.2 + 1)) else some (acc, 0)
theorem digit_range {b : UInt8} (h : digitB b = true) : ∃ d : Nat, d ≤ 9 ∧ b.toNat = d + 48 := by
  unfold digitB at h
  simp only [Bool.and_eq_true, decide_eq_true_eq, UInt8.le_iff_toNat_le] at h
  have h1 : (48 : UInt8).toNat = 48 := rfl
  have h2 : (57 : UInt8).toNat = 57 := rfl
  exact ⟨b.toNat - 48, by omega, by omega⟩
/-- May the number of n digits stand there? -/
def numOk (R : List UInt8) (n : Nat) : Bool := !(decide (1 < n) && R.head? == some 48) && !((R.drop n).head?.any letterB)
def NumR (s : ByteArray) (a : Nat) (res : Option (Nat × Nat)) (txt : ByteArray) (N : Int) (F : Nat) (ok : Bool) : Prop :=
  match res with
  | none => ok = false
  | some (N', n) => txt = s.extract a (a + n) ∧ N = N' ∧ F = a + n ∧ ok = numOk (s.data.toList.drop a) n

theorem num_end (s : ByteArray) (a k acc : Nat) (res : Option (Nat × Nat)) (hak : a ≤ k) (h : s.data.toList.drop k = [] ∨ ∃ b r, s.data.toList.drop k = b :: r ∧ digitB b = false) (h1 : (numL acc (s.data.toList.drop k)).map (fun p => (p.1, p.2 + (k - a))) = res) : res = some (acc, k - a) := by
  rw [← h1]
  rcases h with h | ⟨b, r, h, hb⟩
  · rw [h, numL]; simp
  · rw [h, numL, if_neg (by simp [hb])]; simp
theorem num_fin (s : ByteArray) (a k acc : Nat) (res : Option (Nat × Nat)) (tx : ByteArray) (ok : Bool) (hak : a ≤ k) (h : res = some (acc, k - a)) (htx : s.extract a k = tx) (hok : numOk (s.data.toList.drop a) (k - a) = ok) : NumR s a res tx (acc : Int) k ok := by
  rw [h]
  exact ⟨by rw [show a + (k - a) = k by omega, htx], rfl, by omega, hok.symm⟩
theorem num_head (s : ByteArray) (a k : Nat) (tx : ByteArray) (htx : s.extract a k = tx) (h0 : 0 < tx.size) : (s.data.toList.drop a).head? = some tx[0] := by
  subst htx
  have h := ext_piece s a k
  have h2 : (s.extract a k).data.toList[0]? = some (s.extract a k)[0] := by
    rw [List.getElem?_eq_getElem (by rw [len_of]; exact h0)]; rfl
  rw [h] at h2
  rw [List.getElem?_take] at h2
  split at h2
  · rw [List.head?_eq_getElem?]; exact h2
  · cases h2

set_option maxHeartbeats 8000000 in
set_option maxRecDepth 100000 in
theorem number_any (s : ByteArray) (a : Nat) (res : Option (Nat × Nat)) (w : World) (ha : a ≤ s.size) (hs : s.size ≤ 16384) (HR : Hid (numL 0 (s.data.toList.drop a) = res)) :
    Calls Tryd.prog 18 #[.string s, .int .i64 a] w fun e w' => ∃ txt N F ok, e = .returned (.tuple #[TokV 3 txt 0 N, .int .i64 (F : Nat), .bool ok]) ∧ NumR s a res txt N F ok ∧ Below w.heap.size w w' := by
  have hlen := len_of s
  go_enter Tryd.func18, Tryd.ntmps18
  go_wp2_with fail
  go_loopw [8] (fun v wr => ∃ k acc : Nat, k ≤ s.size ∧ v = .int .i64 k ∧ a ≤ k ∧ acc ≤ 9007199254740991 ∧ (numL acc (s.data.toList.drop k)).map (fun p => (p.1, p.2 + (k - a))) = res ∧ Below w.heap.size w wr ∧
    Blk wr w.heap.size 31 #[.int .i64 0, .string ⟨#[]⟩, .int .i64 0, .int .i64 0] ∧ Blk wr (w.heap.size + 1) 31 #[.int .i64 3, .string ⟨#[]⟩, .int .i64 0, .int .i64 acc]) (fun v _ => s.size - (intOf v).toNat)
  case atStart =>
    refine ⟨a, 0, ha, rfl, Nat.le_refl _, by omega, ?_, ((Below.refl _ w).alloc (Nat.le_refl _) _).alloc (by simp) _, (Blk.new w _ _).alloc _, ?_⟩
    · rw [HR.out]; cases res <;> simp
    · have := Blk.new (w.alloc (.cells #[.int .i64 0, .string ⟨#[]⟩, .int .i64 0, .int .i64 0] 31)) 31 #[.int .i64 3, .string ⟨#[]⟩, .int .i64 0, .int .i64 0]
      rw [World.size_alloc] at this
      exact this
  case round =>
    obtain ⟨k, acc, hk, rfl, hak, hacc, h1, bb, kb, kt⟩ := hrel
    have H1 := Lib.hid h1
    clear h1
    have x0 : wr.cell? ⟨w.heap.size + 1, 0, none⟩ = some (.int .i64 3) := by rw [kt.cell]; rfl
    have x1 : wr.cell? ⟨w.heap.size + 1, 1, none⟩ = some (.string ⟨#[]⟩) := by rw [kt.cell]; rfl
    have x2 : wr.cell? ⟨w.heap.size + 1, 2, none⟩ = some (.int .i64 0) := by rw [kt.cell]; rfl
    have x3 : wr.cell? ⟨w.heap.size + 1, 3, none⟩ = some (.int .i64 acc) := by rw [kt.cell]; rfl
    have z0 := kt.frozen 0
    have z1 := kt.frozen 1
    have z2 := kt.frozen 2
    have z3 := kt.frozen 3
    have v0 : wr.cell? ⟨w.heap.size, 0, none⟩ = some (.int .i64 0) := by rw [kb.cell]; rfl
    have v1 : wr.cell? ⟨w.heap.size, 1, none⟩ = some (.string ⟨#[]⟩) := by rw [kb.cell]; rfl
    have v2 : wr.cell? ⟨w.heap.size, 2, none⟩ = some (.int .i64 0) := by rw [kb.cell]; rfl
    have v3 : wr.cell? ⟨w.heap.size, 3, none⟩ = some (.int .i64 0) := by rw [kb.cell]; rfl
    have u0 := kb.frozen 0
    have u1 := kb.frozen 1
    have u2 := kb.frozen 2
    have u3 := kb.frozen 3
    have hlt := kt.lt
    have hlb := kb.lt
    by_cases hl : k < s.size
    · have L1 : decide ((k : Int) < (s.size : Int)) = true := by simpa using hl
      have hd := drop_at s k hl
      have y0 : (0 : Int) ≤ k := by omega
      have y1 : (k : Int) < s.size := by omega
      have y2 : (k : Int).toNat = k := by omega
      obtain ⟨g2, q2⟩ : ∃ g, digitB s[k] = g := ⟨_, rfl⟩
      have Q2 := Lib.hid q2
      have HD := Lib.hid hd
      clear hd
      cases g2
      · clear q2
        go_wp2_with fail
        refine (digit_any _ _).mono ?_
        rintro e w' ⟨rfl, rfl⟩
        rw [Q2.out]
        obtain ⟨tx, htx⟩ : ∃ tx, s.extract a k = tx := ⟨_, rfl⟩
        have hts : tx.size = k - a := by rw [← htx, ByteArray.size_extract]; omega
        have ya0 : (0 : Int) ≤ a := by omega
        have ya1 : (a : Int) ≤ k := by omega
        have ya2 : (k : Int) ≤ s.size := by omega
        have ya3 : (a : Int).toNat = a := by omega
        have ya4 : (k : Int).toNat = k := by omega
        have hdk : s.data.toList.drop k = [] ∨ ∃ b r, s.data.toList.drop k = b :: r ∧ digitB b = false := Or.inr ⟨_, _, HD.out, Q2.out⟩
        have HE := Lib.hid (num_end s a k acc res hak hdk H1.out)
        clear hdk
        have E1 : ((k : Int) == (s.size : Int)) = false := by simp; omega
        have E2 : (k == s.size) = false := by simp; omega
        have E3 : decide (k = s.size) = false := by simp; omega
        obtain ⟨lt, hlt9⟩ : ∃ lt, letterB s[k] = lt := ⟨_, rfl⟩
        have LT := Lib.hid hlt9
        clear hlt9
        by_cases hz1 : 1 < k - a
        · have T1 : decide ((1 : Int) < ((k - a : Nat) : Int)) = true := by rw [decide_eq_true_eq]; omega
          have T2 : decide (1 < k - a) = true := by simpa using hz1
          have ht0 : 0 < tx.size := by omega
          have ht1 : (0 : Int) < tx.size := by omega
          have hhd := num_head s a k tx htx ht0
          obtain ⟨g0, e0⟩ : ∃ g, ((tx[0].toNat : Int) == 48) = g := ⟨_, rfl⟩
          have he0 : (tx[0] == 48) = g0 := by rw [← e0, u8_eq]; rfl
          have HH := Lib.hid hhd
          have HE0 := Lib.hid he0
          cases g0
          · clear hhd he0
            have hhd := HH.out
            have he0 := HE0.out
            have hok : numOk (s.data.toList.drop a) (k - a) = (!lt) := by simp [numOk, hhd, hz1, he0, show a + (k - a) = k by omega, HD.out, LT.out]
            have HNR := Lib.hid (num_fin s a k acc res tx _ hak HE.out htx hok)
            clear hok
            go_upto_region 10 with fail
            clear x0 x1 x2 x3 z0 z1 z2 z3 v0 v1 v2 v3 u0 u1 u2 u3 hlt hlb
            have bb := (bb.setCell (p := ⟨w.heap.size + 1, 1, none⟩) (by show _ ≤ w.heap.size + 1; omega) (.string tx)).drew
            have kb := (kb.far (p := ⟨w.heap.size + 1, 1, none⟩) (by show w.heap.size ≠ w.heap.size + 1; omega) (.string tx)).drew
            have kt : Blk _ (w.heap.size + 1) 31 #[.int .i64 3, .string tx, .int .i64 0, .int .i64 acc] := (kt.set_ 1 (.string tx)).drew
            refine wp_region_held_drew (S := (fun W => W.cell? ⟨w.heap.size + 1, 0, none⟩ = some (.int .i64 3) ∧ W.cell? ⟨w.heap.size + 1, 1, none⟩ = some (.string tx) ∧ W.cell? ⟨w.heap.size + 1, 2, none⟩ = some (.int .i64 0) ∧ W.cell? ⟨w.heap.size + 1, 3, none⟩ = some (.int .i64 acc))) (by kernel_rfl) ⟨by rw [kt.cell]; rfl, by rw [kt.cell]; rfl, by rw [kt.cell]; rfl, by rw [kt.cell]; rfl⟩ (fun _ => ?_)
            generalize (wr.setCell ⟨w.heap.size + 1, 1, none⟩ (.string tx)).drew = D at *
            change wpAnyH _ _ _ _ _ 20 #[false, false, false, false, false, false, false, false, false, false, false, false, false, false, false, false, false, false, false, false] _ _
            refine wpAnyH_take (i := 0) (oi := ?oo1) (v := ?vv1) ?hi1 (by kernel_rfl) (by kernel_rfl) (by kernel_rfl) ?hq1 ?hy1 ⟨by rw [kt.cell]; rfl, by rw [kt.cell]; rfl, by rw [kt.cell]; rfl, by rw [kt.cell]; rfl⟩ ?hh1
            case hi1 => (simp only [List.getElem?_toArray, List.getElem?_cons_succ, List.getElem?_cons_zero]; rfl)
            case hq1 => exact fun _ _ _ h => h
            case hy1 => exact Or.inl ⟨by rfl, by (intro W hSw; (try obtain ⟨s0, s1, s2, s3⟩ := hSw); go_simp; (try with_reducible rfl))⟩
            (try simp only [Act.put, List.setIfInBounds_toArray, List.set_cons_zero, List.set_cons_succ])
            refine wpAnyH_take (i := 1) (oi := ?oo2) (v := ?vv2) ?hi2 (by kernel_rfl) (by kernel_rfl) (by kernel_rfl) ?hq2 ?hy2 ⟨by rw [kt.cell]; rfl, by rw [kt.cell]; rfl, by rw [kt.cell]; rfl, by rw [kt.cell]; rfl⟩ ?hh2
            case hi2 => (simp only [List.getElem?_toArray, List.getElem?_cons_succ, List.getElem?_cons_zero]; rfl)
            case hq2 => exact fun _ _ _ h => h
            case hy2 => exact Or.inl ⟨by rfl, by (intro W hSw; (try obtain ⟨s0, s1, s2, s3⟩ := hSw); go_simp; (try with_reducible rfl))⟩
            (try simp only [Act.put, List.setIfInBounds_toArray, List.set_cons_zero, List.set_cons_succ])
            refine wpAnyH_take (i := 2) (oi := ?oo3) (v := ?vv3) ?hi3 (by kernel_rfl) (by kernel_rfl) (by kernel_rfl) ?hq3 ?hy3 ⟨by rw [kt.cell]; rfl, by rw [kt.cell]; rfl, by rw [kt.cell]; rfl, by rw [kt.cell]; rfl⟩ ?hh3
            case hi3 => (simp only [List.getElem?_toArray, List.getElem?_cons_succ, List.getElem?_cons_zero]; rfl)
            case hq3 => exact fun _ _ _ h => h
            case hy3 => exact Or.inl ⟨by rfl, by (intro W hSw; (try obtain ⟨s0, s1, s2, s3⟩ := hSw); go_simp; (try with_reducible rfl))⟩
            (try simp only [Act.put, List.setIfInBounds_toArray, List.set_cons_zero, List.set_cons_succ])
            refine wpAnyH_take (i := 3) (oi := ?oo4) (v := ?vv4) ?hi4 (by kernel_rfl) (by kernel_rfl) (by kernel_rfl) ?hq4 ?hy4 ⟨by rw [kt.cell]; rfl, by rw [kt.cell]; rfl, by rw [kt.cell]; rfl, by rw [kt.cell]; rfl⟩ ?hh4
            case hi4 => (simp only [List.getElem?_toArray, List.getElem?_cons_succ, List.getElem?_cons_zero]; rfl)
            case hq4 => exact fun _ _ _ h => h
            case hy4 => exact Or.inl ⟨by rfl, by (intro W hSw; (try obtain ⟨s0, s1, s2, s3⟩ := hSw); go_simp; (try with_reducible rfl))⟩
            (try simp only [Act.put, List.setIfInBounds_toArray, List.set_cons_zero, List.set_cons_succ])
            refine wpAnyH_take (i := 4) (oi := ?oo5) (v := ?vv5) ?hi5 (by kernel_rfl) (by kernel_rfl) (by kernel_rfl) ?hq5 ?hy5 ⟨by rw [kt.cell]; rfl, by rw [kt.cell]; rfl, by rw [kt.cell]; rfl, by rw [kt.cell]; rfl⟩ ?hh5
            case hi5 => (simp only [List.getElem?_toArray, List.getElem?_cons_succ, List.getElem?_cons_zero]; rfl)
            case hq5 => exact fun _ _ _ h => h
            case hy5 => exact Or.inl ⟨by rfl, by (intro W hSw; (try obtain ⟨s0, s1, s2, s3⟩ := hSw); go_simp; (try with_reducible rfl))⟩
            (try simp only [Act.put, List.setIfInBounds_toArray, List.set_cons_zero, List.set_cons_succ])
            refine wpAnyH_take (i := 5) (oi := ?oo6) (v := ?vv6) ?hi6 (by kernel_rfl) (by kernel_rfl) (by kernel_rfl) ?hq6 ?hy6 ⟨by rw [kt.cell]; rfl, by rw [kt.cell]; rfl, by rw [kt.cell]; rfl, by rw [kt.cell]; rfl⟩ ?hh6
            case hi6 => (simp only [List.getElem?_toArray, List.getElem?_cons_succ, List.getElem?_cons_zero]; rfl)
            case hq6 => exact fun _ _ _ h => h
            case hy6 => exact Or.inl ⟨by rfl, by (intro W hSw; (try obtain ⟨s0, s1, s2, s3⟩ := hSw); go_simp; (try with_reducible rfl))⟩
            (try simp only [Act.put, List.setIfInBounds_toArray, List.set_cons_zero, List.set_cons_succ])
            refine wpAnyH_take (i := 6) (oi := ?oo7) (v := ?vv7) ?hi7 (by kernel_rfl) (by kernel_rfl) (by kernel_rfl) ?hq7 ?hy7 ⟨by rw [kt.cell]; rfl, by rw [kt.cell]; rfl, by rw [kt.cell]; rfl, by rw [kt.cell]; rfl⟩ ?hh7
            case hi7 => (simp only [List.getElem?_toArray, List.getElem?_cons_succ, List.getElem?_cons_zero]; rfl)
            case hq7 => exact fun _ _ _ h => h
            case hy7 => exact Or.inl ⟨by rfl, by (intro W hSw; (try obtain ⟨s0, s1, s2, s3⟩ := hSw); go_simp; (try with_reducible rfl))⟩
            (try simp only [Act.put, List.setIfInBounds_toArray, List.set_cons_zero, List.set_cons_succ])
            refine wpAnyH_take (i := 7) (oi := ?oo8) (v := ?vv8) ?hi8 (by kernel_rfl) (by kernel_rfl) (by kernel_rfl) ?hq8 ?hy8 ⟨by rw [kt.cell]; rfl, by rw [kt.cell]; rfl, by rw [kt.cell]; rfl, by rw [kt.cell]; rfl⟩ ?hh8
            case hi8 => (simp only [List.getElem?_toArray, List.getElem?_cons_succ, List.getElem?_cons_zero]; rfl)
            case hq8 => exact fun _ _ _ h => h
            case hy8 => exact Or.inl ⟨by rfl, by (intro W hSw; (try obtain ⟨s0, s1, s2, s3⟩ := hSw); go_simp; (try with_reducible rfl))⟩
            (try simp only [Act.put, List.setIfInBounds_toArray, List.set_cons_zero, List.set_cons_succ])
            refine wpAnyH_take (i := 8) (oi := ?oo9) (v := ?vv9) ?hi9 (by kernel_rfl) (by kernel_rfl) (by kernel_rfl) ?hq9 ?hy9 ⟨by rw [kt.cell]; rfl, by rw [kt.cell]; rfl, by rw [kt.cell]; rfl, by rw [kt.cell]; rfl⟩ ?hh9
            case hi9 => (simp only [List.getElem?_toArray, List.getElem?_cons_succ, List.getElem?_cons_zero]; rfl)
            case hq9 => exact fun _ _ _ h => h
            case hy9 => exact Or.inl ⟨by rfl, by (intro W hSw; (try obtain ⟨s0, s1, s2, s3⟩ := hSw); go_simp; (try with_reducible rfl))⟩
            (try simp only [Act.put, List.setIfInBounds_toArray, List.set_cons_zero, List.set_cons_succ])
            refine wpAnyH_take (i := 9) (oi := ?oo10) (v := ?vv10) ?hi10 (by kernel_rfl) (by kernel_rfl) (by kernel_rfl) ?hq10 ?hy10 ⟨by rw [kt.cell]; rfl, by rw [kt.cell]; rfl, by rw [kt.cell]; rfl, by rw [kt.cell]; rfl⟩ ?hh10
            case hi10 => (simp only [List.getElem?_toArray, List.getElem?_cons_succ, List.getElem?_cons_zero]; rfl)
            case hq10 => exact fun _ _ _ h => h
            case hy10 => exact Or.inl ⟨by rfl, by (intro W hSw; (try obtain ⟨s0, s1, s2, s3⟩ := hSw); go_simp; (try with_reducible rfl))⟩
            (try simp only [Act.put, List.setIfInBounds_toArray, List.set_cons_zero, List.set_cons_succ])
            refine wpAnyH_take (i := 10) (oi := ?oo11) (v := ?vv11) ?hi11 (by kernel_rfl) (by kernel_rfl) (by kernel_rfl) ?hq11 ?hy11 ⟨by rw [kt.cell]; rfl, by rw [kt.cell]; rfl, by rw [kt.cell]; rfl, by rw [kt.cell]; rfl⟩ ?hh11
            case hi11 => (simp only [List.getElem?_toArray, List.getElem?_cons_succ, List.getElem?_cons_zero]; rfl)
            case hq11 => exact fun _ _ _ h => h
            case hy11 => exact Or.inl ⟨by rfl, by (intro W hSw; (try obtain ⟨s0, s1, s2, s3⟩ := hSw); go_simp; (try with_reducible rfl))⟩
            (try simp only [Act.put, List.setIfInBounds_toArray, List.set_cons_zero, List.set_cons_succ])
            refine wpAnyH_take (i := 11) (oi := ?oo12) (v := ?vv12) ?hi12 (by kernel_rfl) (by kernel_rfl) (by kernel_rfl) ?hq12 ?hy12 ⟨by rw [kt.cell]; rfl, by rw [kt.cell]; rfl, by rw [kt.cell]; rfl, by rw [kt.cell]; rfl⟩ ?hh12
            case hi12 => (simp only [List.getElem?_toArray, List.getElem?_cons_succ, List.getElem?_cons_zero]; rfl)
            case hq12 => exact fun _ _ _ h => h
            case hy12 => exact Or.inl ⟨by rfl, by (intro W hSw; (try obtain ⟨s0, s1, s2, s3⟩ := hSw); go_simp; (try with_reducible rfl))⟩
            (try simp only [Act.put, List.setIfInBounds_toArray, List.set_cons_zero, List.set_cons_succ])
            refine wpAnyH_take (i := 12) (oi := ?oo13) (v := ?vv13) ?hi13 (by kernel_rfl) (by kernel_rfl) (by kernel_rfl) ?hq13 ?hy13 ⟨by rw [kt.cell]; rfl, by rw [kt.cell]; rfl, by rw [kt.cell]; rfl, by rw [kt.cell]; rfl⟩ ?hh13
            case hi13 => (simp only [List.getElem?_toArray, List.getElem?_cons_succ, List.getElem?_cons_zero]; rfl)
            case hq13 => exact fun _ _ _ h => h
            case hy13 => exact Or.inl ⟨by rfl, by (intro W hSw; (try obtain ⟨s0, s1, s2, s3⟩ := hSw); go_simp; (try with_reducible rfl))⟩
            (try simp only [Act.put, List.setIfInBounds_toArray, List.set_cons_zero, List.set_cons_succ])
            refine wpAnyH_ready (rs := [13]) (by kernel_rfl) (by simp) ?_
            refine AllReadyH.cons rfl (fun K hK => ?_) AllReadyH.nil
            go_simp
            go_at_call 15
            refine (letter_any _ _).mono ?_
            rintro e w' ⟨rfl, rfl⟩
            rw [LT.out]
            refine hK.out _ _ ⟨by rw [kt.cell]; rfl, by rw [kt.cell]; rfl, by rw [kt.cell]; rfl, by rw [kt.cell]; rfl⟩ (fun _ => ?_)
            clear hK K
            (try simp only [Act.put, List.setIfInBounds_toArray, List.set_cons_zero, List.set_cons_succ])
            refine wpAnyH_take (i := 14) (oi := ?oo14) (v := ?vv14) ?hi14 (by kernel_rfl) (by kernel_rfl) (by kernel_rfl) ?hq14 ?hy14 ⟨by rw [kt.cell]; rfl, by rw [kt.cell]; rfl, by rw [kt.cell]; rfl, by rw [kt.cell]; rfl⟩ ?hh14
            case hi14 => (simp only [List.getElem?_toArray, List.getElem?_cons_succ, List.getElem?_cons_zero]; rfl)
            case hq14 => exact fun _ _ _ h => h
            case hy14 => exact Or.inl ⟨by rfl, by (intro W hSw; (try obtain ⟨s0, s1, s2, s3⟩ := hSw); go_simp; (try with_reducible rfl))⟩
            (try simp only [Act.put, List.setIfInBounds_toArray, List.set_cons_zero, List.set_cons_succ])
            refine wpAnyH_take (i := 15) (oi := ?oo15) (v := ?vv15) ?hi15 (by kernel_rfl) (by kernel_rfl) (by kernel_rfl) ?hq15 ?hy15 ⟨by rw [kt.cell]; rfl, by rw [kt.cell]; rfl, by rw [kt.cell]; rfl, by rw [kt.cell]; rfl⟩ ?hh15
            case hi15 => (simp only [List.getElem?_toArray, List.getElem?_cons_succ, List.getElem?_cons_zero]; rfl)
            case hq15 => exact fun _ _ _ h => h
            case hy15 => exact Or.inl ⟨by rfl, by (intro W hSw; (try obtain ⟨s0, s1, s2, s3⟩ := hSw); go_simp; (try with_reducible rfl))⟩
            (try simp only [Act.put, List.setIfInBounds_toArray, List.set_cons_zero, List.set_cons_succ])
            refine wpAnyH_take (i := 16) (oi := ?oo16) (v := ?vv16) ?hi16 (by kernel_rfl) (by kernel_rfl) (by kernel_rfl) ?hq16 ?hy16 ⟨by rw [kt.cell]; rfl, by rw [kt.cell]; rfl, by rw [kt.cell]; rfl, by rw [kt.cell]; rfl⟩ ?hh16
            case hi16 => (simp only [List.getElem?_toArray, List.getElem?_cons_succ, List.getElem?_cons_zero]; rfl)
            case hq16 => exact fun _ _ _ h => h
            case hy16 => exact Or.inl ⟨by rfl, by (intro W hSw; (try obtain ⟨s0, s1, s2, s3⟩ := hSw); go_simp; (try with_reducible rfl))⟩
            (try simp only [Act.put, List.setIfInBounds_toArray, List.set_cons_zero, List.set_cons_succ])
            refine wpAnyH_ready (rs := [17]) (by kernel_rfl) (by simp) ?_
            refine AllReadyH.cons rfl (fun K hK => ?_) AllReadyH.nil
            have b0 : D.cell? ⟨w.heap.size, 0, none⟩ = some (.int .i64 0) := by rw [kb.cell]; rfl
            have f0 := kb.frozen 0
            have b1 : D.cell? ⟨w.heap.size, 1, none⟩ = some (.string ⟨#[]⟩) := by rw [kb.cell]; rfl
            have f1 := kb.frozen 1
            have b2 : D.cell? ⟨w.heap.size, 2, none⟩ = some (.int .i64 0) := by rw [kb.cell]; rfl
            have f2 := kb.frozen 2
            have b3 : D.cell? ⟨w.heap.size, 3, none⟩ = some (.int .i64 0) := by rw [kb.cell]; rfl
            have f3 := kb.frozen 3
            have hlb := kb.lt
            go_simp
            clear b0 b1 b2 b3 f0 f1 f2 f3 hlb
            have kb : Blk ((((D.setCell ⟨w.heap.size, 0, none⟩ (.int .i64 3)).setCell ⟨w.heap.size, 1, none⟩ (.string tx)).setCell ⟨w.heap.size, 2, none⟩ (.int .i64 0)).setCell ⟨w.heap.size, 3, none⟩ (.int .i64 acc)) w.heap.size 31 #[.int .i64 3, .string tx, .int .i64 0, .int .i64 acc] := ((((kb.set_ 0 _).set_ 1 _).set_ 2 _).set_ 3 _)
            have kt : Blk ((((D.setCell ⟨w.heap.size, 0, none⟩ (.int .i64 3)).setCell ⟨w.heap.size, 1, none⟩ (.string tx)).setCell ⟨w.heap.size, 2, none⟩ (.int .i64 0)).setCell ⟨w.heap.size, 3, none⟩ (.int .i64 acc)) _ _ _ := ((((kt.far (p := ⟨w.heap.size, 0, none⟩) (by show w.heap.size + 1 ≠ w.heap.size; omega) _).far (p := ⟨w.heap.size, 1, none⟩) (by show w.heap.size + 1 ≠ w.heap.size; omega) _).far (p := ⟨w.heap.size, 2, none⟩) (by show w.heap.size + 1 ≠ w.heap.size; omega) _).far (p := ⟨w.heap.size, 3, none⟩) (by show w.heap.size + 1 ≠ w.heap.size; omega) _)
            have bb : Below w.heap.size w ((((D.setCell ⟨w.heap.size, 0, none⟩ (.int .i64 3)).setCell ⟨w.heap.size, 1, none⟩ (.string tx)).setCell ⟨w.heap.size, 2, none⟩ (.int .i64 0)).setCell ⟨w.heap.size, 3, none⟩ (.int .i64 acc)) := ((((bb.setCell (p := ⟨w.heap.size, 0, none⟩) (by show _ ≤ w.heap.size; omega) _).setCell (p := ⟨w.heap.size, 1, none⟩) (by show _ ≤ w.heap.size; omega) _).setCell (p := ⟨w.heap.size, 2, none⟩) (by show _ ≤ w.heap.size; omega) _).setCell (p := ⟨w.heap.size, 3, none⟩) (by show _ ≤ w.heap.size; omega) _)
            refine hK.out _ _ ⟨by rw [kt.cell]; rfl, by rw [kt.cell]; rfl, by rw [kt.cell]; rfl, by rw [kt.cell]; rfl⟩ (fun _ => ?_)
            clear hK K
            generalize ((((D.setCell ⟨w.heap.size, 0, none⟩ (.int .i64 3)).setCell ⟨w.heap.size, 1, none⟩ (.string tx)).setCell ⟨w.heap.size, 2, none⟩ (.int .i64 0)).setCell ⟨w.heap.size, 3, none⟩ (.int .i64 acc)) = D at *
            (try simp only [Act.put, List.setIfInBounds_toArray, List.set_cons_zero, List.set_cons_succ])
            refine wpAnyH_take (i := 18) (oi := ?oo17) (v := ?vv17) ?hi17 (by kernel_rfl) (by kernel_rfl) (by kernel_rfl) ?hq17 ?hy17 ⟨by rw [kt.cell]; rfl, by rw [kt.cell]; rfl, by rw [kt.cell]; rfl, by rw [kt.cell]; rfl⟩ ?hh17
            case hi17 => (simp only [List.getElem?_toArray, List.getElem?_cons_succ, List.getElem?_cons_zero]; rfl)
            case hq17 => exact fun _ _ _ h => h
            case hy17 => exact Or.inl ⟨by rfl, by (intro W hSw; (try obtain ⟨s0, s1, s2, s3⟩ := hSw); go_simp; (try with_reducible rfl))⟩
            (try simp only [Act.put, List.setIfInBounds_toArray, List.set_cons_zero, List.set_cons_succ])
            refine wpAnyH_take (i := 19) (oi := ?oo18) (v := ?vv18) ?hi18 (by kernel_rfl) (by kernel_rfl) (by kernel_rfl) ?hq18 ?hy18 ⟨by rw [kt.cell]; rfl, by rw [kt.cell]; rfl, by rw [kt.cell]; rfl, by rw [kt.cell]; rfl⟩ ?hh18
            case hi18 => (simp only [List.getElem?_toArray, List.getElem?_cons_succ, List.getElem?_cons_zero]; rfl)
            case hq18 => exact fun _ _ _ h => h
            case hy18 => exact Or.inl ⟨by rfl, by (intro W hSw; (try obtain ⟨s0, s1, s2, s3⟩ := hSw); go_simp; (try with_reducible rfl))⟩
            (try simp only [Act.put, List.setIfInBounds_toArray, List.set_cons_zero, List.set_cons_succ])
            refine wpAnyH_done (by kernel_rfl) ?_ _
            go_wp2_with fail
            have b0 : D.cell? ⟨w.heap.size, 0, none⟩ = some (.int .i64 3) := by rw [kb.cell]; rfl
            have b1 : D.cell? ⟨w.heap.size, 1, none⟩ = some (.string tx) := by rw [kb.cell]; rfl
            have b2 : D.cell? ⟨w.heap.size, 2, none⟩ = some (.int .i64 0) := by rw [kb.cell]; rfl
            have b3 : D.cell? ⟨w.heap.size, 3, none⟩ = some (.int .i64 acc) := by rw [kb.cell]; rfl
            have hlb := kb.lt
            exact bodyPost_ret (v := .tuple #[TokV 3 tx 0 acc, .int .i64 k, .bool (!lt)]) (by simp [results, Tryd.results18, go_sem, b0, b1, b2, b3, hlb]) rfl ⟨tx, acc, k, (!lt), rfl, HNR.out, bb⟩
          · clear hhd he0
            have hhd := HH.out
            have he0 := HE0.out
            have hok : numOk (s.data.toList.drop a) (k - a) = false := by simp [numOk, hhd, hz1, he0]
            have HNR := Lib.hid (num_fin s a k acc res tx _ hak HE.out htx hok)
            clear hok
            go_upto_region 10 with fail
            clear x0 x1 x2 x3 z0 z1 z2 z3 v0 v1 v2 v3 u0 u1 u2 u3 hlt hlb
            have bb := (bb.setCell (p := ⟨w.heap.size + 1, 1, none⟩) (by show _ ≤ w.heap.size + 1; omega) (.string tx)).drew
            have kb := (kb.far (p := ⟨w.heap.size + 1, 1, none⟩) (by show w.heap.size ≠ w.heap.size + 1; omega) (.string tx)).drew
            have kt : Blk _ (w.heap.size + 1) 31 #[.int .i64 3, .string tx, .int .i64 0, .int .i64 acc] := (kt.set_ 1 (.string tx)).drew
            refine wp_region_held_drew (S := (fun W => W.cell? ⟨w.heap.size + 1, 0, none⟩ = some (.int .i64 3) ∧ W.cell? ⟨w.heap.size + 1, 1, none⟩ = some (.string tx) ∧ W.cell? ⟨w.heap.size + 1, 2, none⟩ = some (.int .i64 0) ∧ W.cell? ⟨w.heap.size + 1, 3, none⟩ = some (.int .i64 acc))) (by kernel_rfl) ⟨by rw [kt.cell]; rfl, by rw [kt.cell]; rfl, by rw [kt.cell]; rfl, by rw [kt.cell]; rfl⟩ (fun _ => ?_)
            generalize (wr.setCell ⟨w.heap.size + 1, 1, none⟩ (.string tx)).drew = D at *
            change wpAnyH _ _ _ _ _ 20 #[false, false, false, false, false, false, false, false, false, false, false, false, false, false, false, false, false, false, false, false] _ _
            refine wpAnyH_take (i := 0) (oi := ?oo19) (v := ?vv19) ?hi19 (by kernel_rfl) (by kernel_rfl) (by kernel_rfl) ?hq19 ?hy19 ⟨by rw [kt.cell]; rfl, by rw [kt.cell]; rfl, by rw [kt.cell]; rfl, by rw [kt.cell]; rfl⟩ ?hh19
            case hi19 => (simp only [List.getElem?_toArray, List.getElem?_cons_succ, List.getElem?_cons_zero]; rfl)
            case hq19 => exact fun _ _ _ h => h
            case hy19 => exact Or.inl ⟨by rfl, by (intro W hSw; (try obtain ⟨s0, s1, s2, s3⟩ := hSw); go_simp; (try with_reducible rfl))⟩
            (try simp only [Act.put, List.setIfInBounds_toArray, List.set_cons_zero, List.set_cons_succ])
            refine wpAnyH_take (i := 1) (oi := ?oo20) (v := ?vv20) ?hi20 (by kernel_rfl) (by kernel_rfl) (by kernel_rfl) ?hq20 ?hy20 ⟨by rw [kt.cell]; rfl, by rw [kt.cell]; rfl, by rw [kt.cell]; rfl, by rw [kt.cell]; rfl⟩ ?hh20
            case hi20 => (simp only [List.getElem?_toArray, List.getElem?_cons_succ, List.getElem?_cons_zero]; rfl)
            case hq20 => exact fun _ _ _ h => h
            case hy20 => exact Or.inl ⟨by rfl, by (intro W hSw; (try obtain ⟨s0, s1, s2, s3⟩ := hSw); go_simp; (try with_reducible rfl))⟩
            (try simp only [Act.put, List.setIfInBounds_toArray, List.set_cons_zero, List.set_cons_succ])
            refine wpAnyH_take (i := 2) (oi := ?oo21) (v := ?vv21) ?hi21 (by kernel_rfl) (by kernel_rfl) (by kernel_rfl) ?hq21 ?hy21 ⟨by rw [kt.cell]; rfl, by rw [kt.cell]; rfl, by rw [kt.cell]; rfl, by rw [kt.cell]; rfl⟩ ?hh21
            case hi21 => (simp only [List.getElem?_toArray, List.getElem?_cons_succ, List.getElem?_cons_zero]; rfl)
            case hq21 => exact fun _ _ _ h => h
            case hy21 => exact Or.inl ⟨by rfl, by (intro W hSw; (try obtain ⟨s0, s1, s2, s3⟩ := hSw); go_simp; (try with_reducible rfl))⟩
            (try simp only [Act.put, List.setIfInBounds_toArray, List.set_cons_zero, List.set_cons_succ])
            refine wpAnyH_take (i := 3) (oi := ?oo22) (v := ?vv22) ?hi22 (by kernel_rfl) (by kernel_rfl) (by kernel_rfl) ?hq22 ?hy22 ⟨by rw [kt.cell]; rfl, by rw [kt.cell]; rfl, by rw [kt.cell]; rfl, by rw [kt.cell]; rfl⟩ ?hh22
            case hi22 => (simp only [List.getElem?_toArray, List.getElem?_cons_succ, List.getElem?_cons_zero]; rfl)
            case hq22 => exact fun _ _ _ h => h
            case hy22 => exact Or.inl ⟨by rfl, by (intro W hSw; (try obtain ⟨s0, s1, s2, s3⟩ := hSw); go_simp; (try with_reducible rfl))⟩
            (try simp only [Act.put, List.setIfInBounds_toArray, List.set_cons_zero, List.set_cons_succ])
            refine wpAnyH_take (i := 4) (oi := ?oo23) (v := ?vv23) ?hi23 (by kernel_rfl) (by kernel_rfl) (by kernel_rfl) ?hq23 ?hy23 ⟨by rw [kt.cell]; rfl, by rw [kt.cell]; rfl, by rw [kt.cell]; rfl, by rw [kt.cell]; rfl⟩ ?hh23
            case hi23 => (simp only [List.getElem?_toArray, List.getElem?_cons_succ, List.getElem?_cons_zero]; rfl)
            case hq23 => exact fun _ _ _ h => h
            case hy23 => exact Or.inl ⟨by rfl, by (intro W hSw; (try obtain ⟨s0, s1, s2, s3⟩ := hSw); go_simp; (try with_reducible rfl))⟩
            (try simp only [Act.put, List.setIfInBounds_toArray, List.set_cons_zero, List.set_cons_succ])
            refine wpAnyH_take (i := 5) (oi := ?oo24) (v := undef) ?hi24 (by kernel_rfl) (by kernel_rfl) (by kernel_rfl) ?hq24 ?hy24 ⟨by rw [kt.cell]; rfl, by rw [kt.cell]; rfl, by rw [kt.cell]; rfl, by rw [kt.cell]; rfl⟩ ?hh24
            case hi24 => (simp only [List.getElem?_toArray, List.getElem?_cons_succ, List.getElem?_cons_zero]; rfl)
            case hq24 => exact fun _ _ _ h => h
            case hy24 => exact Or.inr ⟨by rfl, rfl⟩
            (try simp only [Act.put, List.setIfInBounds_toArray, List.set_cons_zero, List.set_cons_succ])
            refine wpAnyH_take (i := 6) (oi := ?oo25) (v := undef) ?hi25 (by kernel_rfl) (by kernel_rfl) (by kernel_rfl) ?hq25 ?hy25 ⟨by rw [kt.cell]; rfl, by rw [kt.cell]; rfl, by rw [kt.cell]; rfl, by rw [kt.cell]; rfl⟩ ?hh25
            case hi25 => (simp only [List.getElem?_toArray, List.getElem?_cons_succ, List.getElem?_cons_zero]; rfl)
            case hq25 => exact fun _ _ _ h => h
            case hy25 => exact Or.inr ⟨by rfl, rfl⟩
            (try simp only [Act.put, List.setIfInBounds_toArray, List.set_cons_zero, List.set_cons_succ])
            refine wpAnyH_take (i := 7) (oi := ?oo26) (v := undef) ?hi26 (by kernel_rfl) (by kernel_rfl) (by kernel_rfl) ?hq26 ?hy26 ⟨by rw [kt.cell]; rfl, by rw [kt.cell]; rfl, by rw [kt.cell]; rfl, by rw [kt.cell]; rfl⟩ ?hh26
            case hi26 => (simp only [List.getElem?_toArray, List.getElem?_cons_succ, List.getElem?_cons_zero]; rfl)
            case hq26 => exact fun _ _ _ h => h
            case hy26 => exact Or.inr ⟨by rfl, rfl⟩
            (try simp only [Act.put, List.setIfInBounds_toArray, List.set_cons_zero, List.set_cons_succ])
            refine wpAnyH_take (i := 8) (oi := ?oo27) (v := undef) ?hi27 (by kernel_rfl) (by kernel_rfl) (by kernel_rfl) ?hq27 ?hy27 ⟨by rw [kt.cell]; rfl, by rw [kt.cell]; rfl, by rw [kt.cell]; rfl, by rw [kt.cell]; rfl⟩ ?hh27
            case hi27 => (simp only [List.getElem?_toArray, List.getElem?_cons_succ, List.getElem?_cons_zero]; rfl)
            case hq27 => exact fun _ _ _ h => h
            case hy27 => exact Or.inr ⟨by rfl, rfl⟩
            (try simp only [Act.put, List.setIfInBounds_toArray, List.set_cons_zero, List.set_cons_succ])
            refine wpAnyH_take (i := 9) (oi := ?oo28) (v := undef) ?hi28 (by kernel_rfl) (by kernel_rfl) (by kernel_rfl) ?hq28 ?hy28 ⟨by rw [kt.cell]; rfl, by rw [kt.cell]; rfl, by rw [kt.cell]; rfl, by rw [kt.cell]; rfl⟩ ?hh28
            case hi28 => (simp only [List.getElem?_toArray, List.getElem?_cons_succ, List.getElem?_cons_zero]; rfl)
            case hq28 => exact fun _ _ _ h => h
            case hy28 => exact Or.inr ⟨by rfl, rfl⟩
            (try simp only [Act.put, List.setIfInBounds_toArray, List.set_cons_zero, List.set_cons_succ])
            refine wpAnyH_take (i := 10) (oi := ?oo29) (v := undef) ?hi29 (by kernel_rfl) (by kernel_rfl) (by kernel_rfl) ?hq29 ?hy29 ⟨by rw [kt.cell]; rfl, by rw [kt.cell]; rfl, by rw [kt.cell]; rfl, by rw [kt.cell]; rfl⟩ ?hh29
            case hi29 => (simp only [List.getElem?_toArray, List.getElem?_cons_succ, List.getElem?_cons_zero]; rfl)
            case hq29 => exact fun _ _ _ h => h
            case hy29 => exact Or.inr ⟨by rfl, rfl⟩
            (try simp only [Act.put, List.setIfInBounds_toArray, List.set_cons_zero, List.set_cons_succ])
            refine wpAnyH_take (i := 11) (oi := ?oo30) (v := undef) ?hi30 (by kernel_rfl) (by kernel_rfl) (by kernel_rfl) ?hq30 ?hy30 ⟨by rw [kt.cell]; rfl, by rw [kt.cell]; rfl, by rw [kt.cell]; rfl, by rw [kt.cell]; rfl⟩ ?hh30
            case hi30 => (simp only [List.getElem?_toArray, List.getElem?_cons_succ, List.getElem?_cons_zero]; rfl)
            case hq30 => exact fun _ _ _ h => h
            case hy30 => exact Or.inr ⟨by rfl, rfl⟩
            (try simp only [Act.put, List.setIfInBounds_toArray, List.set_cons_zero, List.set_cons_succ])
            refine wpAnyH_take (i := 12) (oi := ?oo31) (v := undef) ?hi31 (by kernel_rfl) (by kernel_rfl) (by kernel_rfl) ?hq31 ?hy31 ⟨by rw [kt.cell]; rfl, by rw [kt.cell]; rfl, by rw [kt.cell]; rfl, by rw [kt.cell]; rfl⟩ ?hh31
            case hi31 => (simp only [List.getElem?_toArray, List.getElem?_cons_succ, List.getElem?_cons_zero]; rfl)
            case hq31 => exact fun _ _ _ h => h
            case hy31 => exact Or.inr ⟨by rfl, rfl⟩
            (try simp only [Act.put, List.setIfInBounds_toArray, List.set_cons_zero, List.set_cons_succ])
            refine wpAnyH_take (i := 13) (oi := ?oo32) (v := undef) ?hi32 (by kernel_rfl) (by kernel_rfl) (by kernel_rfl) ?hq32 ?hy32 ⟨by rw [kt.cell]; rfl, by rw [kt.cell]; rfl, by rw [kt.cell]; rfl, by rw [kt.cell]; rfl⟩ ?hh32
            case hi32 => (simp only [List.getElem?_toArray, List.getElem?_cons_succ, List.getElem?_cons_zero]; rfl)
            case hq32 => exact fun _ _ _ h => h
            case hy32 => exact Or.inr ⟨by rfl, rfl⟩
            (try simp only [Act.put, List.setIfInBounds_toArray, List.set_cons_zero, List.set_cons_succ])
            refine wpAnyH_take (i := 14) (oi := ?oo33) (v := undef) ?hi33 (by kernel_rfl) (by kernel_rfl) (by kernel_rfl) ?hq33 ?hy33 ⟨by rw [kt.cell]; rfl, by rw [kt.cell]; rfl, by rw [kt.cell]; rfl, by rw [kt.cell]; rfl⟩ ?hh33
            case hi33 => (simp only [List.getElem?_toArray, List.getElem?_cons_succ, List.getElem?_cons_zero]; rfl)
            case hq33 => exact fun _ _ _ h => h
            case hy33 => exact Or.inr ⟨by rfl, rfl⟩
            (try simp only [Act.put, List.setIfInBounds_toArray, List.set_cons_zero, List.set_cons_succ])
            refine wpAnyH_take (i := 15) (oi := ?oo34) (v := undef) ?hi34 (by kernel_rfl) (by kernel_rfl) (by kernel_rfl) ?hq34 ?hy34 ⟨by rw [kt.cell]; rfl, by rw [kt.cell]; rfl, by rw [kt.cell]; rfl, by rw [kt.cell]; rfl⟩ ?hh34
            case hi34 => (simp only [List.getElem?_toArray, List.getElem?_cons_succ, List.getElem?_cons_zero]; rfl)
            case hq34 => exact fun _ _ _ h => h
            case hy34 => exact Or.inr ⟨by rfl, rfl⟩
            (try simp only [Act.put, List.setIfInBounds_toArray, List.set_cons_zero, List.set_cons_succ])
            refine wpAnyH_take (i := 16) (oi := ?oo35) (v := ?vv35) ?hi35 (by kernel_rfl) (by kernel_rfl) (by kernel_rfl) ?hq35 ?hy35 ⟨by rw [kt.cell]; rfl, by rw [kt.cell]; rfl, by rw [kt.cell]; rfl, by rw [kt.cell]; rfl⟩ ?hh35
            case hi35 => (simp only [List.getElem?_toArray, List.getElem?_cons_succ, List.getElem?_cons_zero]; rfl)
            case hq35 => exact fun _ _ _ h => h
            case hy35 => exact Or.inl ⟨by rfl, by (intro W hSw; (try obtain ⟨s0, s1, s2, s3⟩ := hSw); go_simp; (try with_reducible rfl))⟩
            (try simp only [Act.put, List.setIfInBounds_toArray, List.set_cons_zero, List.set_cons_succ])
            refine wpAnyH_ready (rs := [17]) (by kernel_rfl) (by simp) ?_
            refine AllReadyH.cons rfl (fun K hK => ?_) AllReadyH.nil
            have b0 : D.cell? ⟨w.heap.size, 0, none⟩ = some (.int .i64 0) := by rw [kb.cell]; rfl
            have f0 := kb.frozen 0
            have b1 : D.cell? ⟨w.heap.size, 1, none⟩ = some (.string ⟨#[]⟩) := by rw [kb.cell]; rfl
            have f1 := kb.frozen 1
            have b2 : D.cell? ⟨w.heap.size, 2, none⟩ = some (.int .i64 0) := by rw [kb.cell]; rfl
            have f2 := kb.frozen 2
            have b3 : D.cell? ⟨w.heap.size, 3, none⟩ = some (.int .i64 0) := by rw [kb.cell]; rfl
            have f3 := kb.frozen 3
            have hlb := kb.lt
            go_simp
            clear b0 b1 b2 b3 f0 f1 f2 f3 hlb
            have kb : Blk ((((D.setCell ⟨w.heap.size, 0, none⟩ (.int .i64 3)).setCell ⟨w.heap.size, 1, none⟩ (.string tx)).setCell ⟨w.heap.size, 2, none⟩ (.int .i64 0)).setCell ⟨w.heap.size, 3, none⟩ (.int .i64 acc)) w.heap.size 31 #[.int .i64 3, .string tx, .int .i64 0, .int .i64 acc] := ((((kb.set_ 0 _).set_ 1 _).set_ 2 _).set_ 3 _)
            have kt : Blk ((((D.setCell ⟨w.heap.size, 0, none⟩ (.int .i64 3)).setCell ⟨w.heap.size, 1, none⟩ (.string tx)).setCell ⟨w.heap.size, 2, none⟩ (.int .i64 0)).setCell ⟨w.heap.size, 3, none⟩ (.int .i64 acc)) _ _ _ := ((((kt.far (p := ⟨w.heap.size, 0, none⟩) (by show w.heap.size + 1 ≠ w.heap.size; omega) _).far (p := ⟨w.heap.size, 1, none⟩) (by show w.heap.size + 1 ≠ w.heap.size; omega) _).far (p := ⟨w.heap.size, 2, none⟩) (by show w.heap.size + 1 ≠ w.heap.size; omega) _).far (p := ⟨w.heap.size, 3, none⟩) (by show w.heap.size + 1 ≠ w.heap.size; omega) _)
            have bb : Below w.heap.size w ((((D.setCell ⟨w.heap.size, 0, none⟩ (.int .i64 3)).setCell ⟨w.heap.size, 1, none⟩ (.string tx)).setCell ⟨w.heap.size, 2, none⟩ (.int .i64 0)).setCell ⟨w.heap.size, 3, none⟩ (.int .i64 acc)) := ((((bb.setCell (p := ⟨w.heap.size, 0, none⟩) (by show _ ≤ w.heap.size; omega) _).setCell (p := ⟨w.heap.size, 1, none⟩) (by show _ ≤ w.heap.size; omega) _).setCell (p := ⟨w.heap.size, 2, none⟩) (by show _ ≤ w.heap.size; omega) _).setCell (p := ⟨w.heap.size, 3, none⟩) (by show _ ≤ w.heap.size; omega) _)
            refine hK.out _ _ ⟨by rw [kt.cell]; rfl, by rw [kt.cell]; rfl, by rw [kt.cell]; rfl, by rw [kt.cell]; rfl⟩ (fun _ => ?_)
            clear hK K
            generalize ((((D.setCell ⟨w.heap.size, 0, none⟩ (.int .i64 3)).setCell ⟨w.heap.size, 1, none⟩ (.string tx)).setCell ⟨w.heap.size, 2, none⟩ (.int .i64 0)).setCell ⟨w.heap.size, 3, none⟩ (.int .i64 acc)) = D at *
            (try simp only [Act.put, List.setIfInBounds_toArray, List.set_cons_zero, List.set_cons_succ])
            refine wpAnyH_take (i := 18) (oi := ?oo36) (v := ?vv36) ?hi36 (by kernel_rfl) (by kernel_rfl) (by kernel_rfl) ?hq36 ?hy36 ⟨by rw [kt.cell]; rfl, by rw [kt.cell]; rfl, by rw [kt.cell]; rfl, by rw [kt.cell]; rfl⟩ ?hh36
            case hi36 => (simp only [List.getElem?_toArray, List.getElem?_cons_succ, List.getElem?_cons_zero]; rfl)
            case hq36 => exact fun _ _ _ h => h
            case hy36 => exact Or.inl ⟨by rfl, by (intro W hSw; (try obtain ⟨s0, s1, s2, s3⟩ := hSw); go_simp; (try with_reducible rfl))⟩
            (try simp only [Act.put, List.setIfInBounds_toArray, List.set_cons_zero, List.set_cons_succ])
            refine wpAnyH_take (i := 19) (oi := ?oo37) (v := ?vv37) ?hi37 (by kernel_rfl) (by kernel_rfl) (by kernel_rfl) ?hq37 ?hy37 ⟨by rw [kt.cell]; rfl, by rw [kt.cell]; rfl, by rw [kt.cell]; rfl, by rw [kt.cell]; rfl⟩ ?hh37
            case hi37 => (simp only [List.getElem?_toArray, List.getElem?_cons_succ, List.getElem?_cons_zero]; rfl)
            case hq37 => exact fun _ _ _ h => h
            case hy37 => exact Or.inl ⟨by rfl, by (intro W hSw; (try obtain ⟨s0, s1, s2, s3⟩ := hSw); go_simp; (try with_reducible rfl))⟩
            (try simp only [Act.put, List.setIfInBounds_toArray, List.set_cons_zero, List.set_cons_succ])
            refine wpAnyH_done (by kernel_rfl) ?_ _
            go_wp2_with fail
            have b0 : D.cell? ⟨w.heap.size, 0, none⟩ = some (.int .i64 3) := by rw [kb.cell]; rfl
            have b1 : D.cell? ⟨w.heap.size, 1, none⟩ = some (.string tx) := by rw [kb.cell]; rfl
            have b2 : D.cell? ⟨w.heap.size, 2, none⟩ = some (.int .i64 0) := by rw [kb.cell]; rfl
            have b3 : D.cell? ⟨w.heap.size, 3, none⟩ = some (.int .i64 acc) := by rw [kb.cell]; rfl
            have hlb := kb.lt
            exact bodyPost_ret (v := .tuple #[TokV 3 tx 0 acc, .int .i64 k, .bool false]) (by simp [results, Tryd.results18, go_sem, b0, b1, b2, b3, hlb]) rfl ⟨tx, acc, k, false, rfl, HNR.out, bb⟩
        · have T1 : decide ((1 : Int) < ((k - a : Nat) : Int)) = false := by rw [decide_eq_false_iff_not]; omega
          have T2 : decide (1 < k - a) = false := by simpa using hz1
          have hok : numOk (s.data.toList.drop a) (k - a) = (!lt) := by simp [numOk, hz1, show a + (k - a) = k by omega, HD.out, LT.out]
          have HNR := Lib.hid (num_fin s a k acc res tx _ hak HE.out htx hok)
          clear hok
          go_upto_region 10 with fail
          clear x0 x1 x2 x3 z0 z1 z2 z3 v0 v1 v2 v3 u0 u1 u2 u3 hlt hlb
          have bb := (bb.setCell (p := ⟨w.heap.size + 1, 1, none⟩) (by show _ ≤ w.heap.size + 1; omega) (.string tx)).drew
          have kb := (kb.far (p := ⟨w.heap.size + 1, 1, none⟩) (by show w.heap.size ≠ w.heap.size + 1; omega) (.string tx)).drew
          have kt : Blk _ (w.heap.size + 1) 31 #[.int .i64 3, .string tx, .int .i64 0, .int .i64 acc] := (kt.set_ 1 (.string tx)).drew
          refine wp_region_held_drew (S := (fun W => W.cell? ⟨w.heap.size + 1, 0, none⟩ = some (.int .i64 3) ∧ W.cell? ⟨w.heap.size + 1, 1, none⟩ = some (.string tx) ∧ W.cell? ⟨w.heap.size + 1, 2, none⟩ = some (.int .i64 0) ∧ W.cell? ⟨w.heap.size + 1, 3, none⟩ = some (.int .i64 acc))) (by kernel_rfl) ⟨by rw [kt.cell]; rfl, by rw [kt.cell]; rfl, by rw [kt.cell]; rfl, by rw [kt.cell]; rfl⟩ (fun _ => ?_)
          generalize (wr.setCell ⟨w.heap.size + 1, 1, none⟩ (.string tx)).drew = D at *
          change wpAnyH _ _ _ _ _ 20 #[false, false, false, false, false, false, false, false, false, false, false, false, false, false, false, false, false, false, false, false] _ _
          refine wpAnyH_take (i := 0) (oi := ?oo38) (v := ?vv38) ?hi38 (by kernel_rfl) (by kernel_rfl) (by kernel_rfl) ?hq38 ?hy38 ⟨by rw [kt.cell]; rfl, by rw [kt.cell]; rfl, by rw [kt.cell]; rfl, by rw [kt.cell]; rfl⟩ ?hh38
          case hi38 => (simp only [List.getElem?_toArray, List.getElem?_cons_succ, List.getElem?_cons_zero]; rfl)
          case hq38 => exact fun _ _ _ h => h
          case hy38 => exact Or.inl ⟨by rfl, by (intro W hSw; (try obtain ⟨s0, s1, s2, s3⟩ := hSw); go_simp; (try with_reducible rfl))⟩
          (try simp only [Act.put, List.setIfInBounds_toArray, List.set_cons_zero, List.set_cons_succ])
          refine wpAnyH_take (i := 1) (oi := ?oo39) (v := ?vv39) ?hi39 (by kernel_rfl) (by kernel_rfl) (by kernel_rfl) ?hq39 ?hy39 ⟨by rw [kt.cell]; rfl, by rw [kt.cell]; rfl, by rw [kt.cell]; rfl, by rw [kt.cell]; rfl⟩ ?hh39
          case hi39 => (simp only [List.getElem?_toArray, List.getElem?_cons_succ, List.getElem?_cons_zero]; rfl)
          case hq39 => exact fun _ _ _ h => h
          case hy39 => exact Or.inl ⟨by rfl, by (intro W hSw; (try obtain ⟨s0, s1, s2, s3⟩ := hSw); go_simp; (try with_reducible rfl))⟩
          (try simp only [Act.put, List.setIfInBounds_toArray, List.set_cons_zero, List.set_cons_succ])
          refine wpAnyH_take (i := 2) (oi := ?oo40) (v := ?vv40) ?hi40 (by kernel_rfl) (by kernel_rfl) (by kernel_rfl) ?hq40 ?hy40 ⟨by rw [kt.cell]; rfl, by rw [kt.cell]; rfl, by rw [kt.cell]; rfl, by rw [kt.cell]; rfl⟩ ?hh40
          case hi40 => (simp only [List.getElem?_toArray, List.getElem?_cons_succ, List.getElem?_cons_zero]; rfl)
          case hq40 => exact fun _ _ _ h => h
          case hy40 => exact Or.inl ⟨by rfl, by (intro W hSw; (try obtain ⟨s0, s1, s2, s3⟩ := hSw); go_simp; (try with_reducible rfl))⟩
          (try simp only [Act.put, List.setIfInBounds_toArray, List.set_cons_zero, List.set_cons_succ])
          refine wpAnyH_take (i := 3) (oi := ?oo41) (v := ?vv41) ?hi41 (by kernel_rfl) (by kernel_rfl) (by kernel_rfl) ?hq41 ?hy41 ⟨by rw [kt.cell]; rfl, by rw [kt.cell]; rfl, by rw [kt.cell]; rfl, by rw [kt.cell]; rfl⟩ ?hh41
          case hi41 => (simp only [List.getElem?_toArray, List.getElem?_cons_succ, List.getElem?_cons_zero]; rfl)
          case hq41 => exact fun _ _ _ h => h
          case hy41 => exact Or.inl ⟨by rfl, by (intro W hSw; (try obtain ⟨s0, s1, s2, s3⟩ := hSw); go_simp; (try with_reducible rfl))⟩
          (try simp only [Act.put, List.setIfInBounds_toArray, List.set_cons_zero, List.set_cons_succ])
          refine wpAnyH_take (i := 4) (oi := ?oo42) (v := ?vv42) ?hi42 (by kernel_rfl) (by kernel_rfl) (by kernel_rfl) ?hq42 ?hy42 ⟨by rw [kt.cell]; rfl, by rw [kt.cell]; rfl, by rw [kt.cell]; rfl, by rw [kt.cell]; rfl⟩ ?hh42
          case hi42 => (simp only [List.getElem?_toArray, List.getElem?_cons_succ, List.getElem?_cons_zero]; rfl)
          case hq42 => exact fun _ _ _ h => h
          case hy42 => exact Or.inl ⟨by rfl, by (intro W hSw; (try obtain ⟨s0, s1, s2, s3⟩ := hSw); go_simp; (try with_reducible rfl))⟩
          (try simp only [Act.put, List.setIfInBounds_toArray, List.set_cons_zero, List.set_cons_succ])
          refine wpAnyH_take (i := 5) (oi := ?oo43) (v := ?vv43) ?hi43 (by kernel_rfl) (by kernel_rfl) (by kernel_rfl) ?hq43 ?hy43 ⟨by rw [kt.cell]; rfl, by rw [kt.cell]; rfl, by rw [kt.cell]; rfl, by rw [kt.cell]; rfl⟩ ?hh43
          case hi43 => (simp only [List.getElem?_toArray, List.getElem?_cons_succ, List.getElem?_cons_zero]; rfl)
          case hq43 => exact fun _ _ _ h => h
          case hy43 => exact Or.inl ⟨by rfl, by (intro W hSw; (try obtain ⟨s0, s1, s2, s3⟩ := hSw); go_simp; (try with_reducible rfl))⟩
          (try simp only [Act.put, List.setIfInBounds_toArray, List.set_cons_zero, List.set_cons_succ])
          refine wpAnyH_take (i := 6) (oi := ?oo44) (v := ?vv44) ?hi44 (by kernel_rfl) (by kernel_rfl) (by kernel_rfl) ?hq44 ?hy44 ⟨by rw [kt.cell]; rfl, by rw [kt.cell]; rfl, by rw [kt.cell]; rfl, by rw [kt.cell]; rfl⟩ ?hh44
          case hi44 => (simp only [List.getElem?_toArray, List.getElem?_cons_succ, List.getElem?_cons_zero]; rfl)
          case hq44 => exact fun _ _ _ h => h
          case hy44 => exact Or.inl ⟨by rfl, by (intro W hSw; (try obtain ⟨s0, s1, s2, s3⟩ := hSw); go_simp; (try with_reducible rfl))⟩
          (try simp only [Act.put, List.setIfInBounds_toArray, List.set_cons_zero, List.set_cons_succ])
          refine wpAnyH_take (i := 7) (oi := ?oo45) (v := ?vv45) ?hi45 (by kernel_rfl) (by kernel_rfl) (by kernel_rfl) ?hq45 ?hy45 ⟨by rw [kt.cell]; rfl, by rw [kt.cell]; rfl, by rw [kt.cell]; rfl, by rw [kt.cell]; rfl⟩ ?hh45
          case hi45 => (simp only [List.getElem?_toArray, List.getElem?_cons_succ, List.getElem?_cons_zero]; rfl)
          case hq45 => exact fun _ _ _ h => h
          case hy45 => exact Or.inl ⟨by rfl, by (intro W hSw; (try obtain ⟨s0, s1, s2, s3⟩ := hSw); go_simp; (try with_reducible rfl))⟩
          (try simp only [Act.put, List.setIfInBounds_toArray, List.set_cons_zero, List.set_cons_succ])
          refine wpAnyH_take (i := 8) (oi := ?oo46) (v := ?vv46) ?hi46 (by kernel_rfl) (by kernel_rfl) (by kernel_rfl) ?hq46 ?hy46 ⟨by rw [kt.cell]; rfl, by rw [kt.cell]; rfl, by rw [kt.cell]; rfl, by rw [kt.cell]; rfl⟩ ?hh46
          case hi46 => (simp only [List.getElem?_toArray, List.getElem?_cons_succ, List.getElem?_cons_zero]; rfl)
          case hq46 => exact fun _ _ _ h => h
          case hy46 => exact Or.inl ⟨by rfl, by (intro W hSw; (try obtain ⟨s0, s1, s2, s3⟩ := hSw); go_simp; (try with_reducible rfl))⟩
          (try simp only [Act.put, List.setIfInBounds_toArray, List.set_cons_zero, List.set_cons_succ])
          refine wpAnyH_take (i := 9) (oi := ?oo47) (v := ?vv47) ?hi47 (by kernel_rfl) (by kernel_rfl) (by kernel_rfl) ?hq47 ?hy47 ⟨by rw [kt.cell]; rfl, by rw [kt.cell]; rfl, by rw [kt.cell]; rfl, by rw [kt.cell]; rfl⟩ ?hh47
          case hi47 => (simp only [List.getElem?_toArray, List.getElem?_cons_succ, List.getElem?_cons_zero]; rfl)
          case hq47 => exact fun _ _ _ h => h
          case hy47 => exact Or.inl ⟨by rfl, by (intro W hSw; (try obtain ⟨s0, s1, s2, s3⟩ := hSw); go_simp; (try with_reducible rfl))⟩
          (try simp only [Act.put, List.setIfInBounds_toArray, List.set_cons_zero, List.set_cons_succ])
          refine wpAnyH_take (i := 10) (oi := ?oo48) (v := ?vv48) ?hi48 (by kernel_rfl) (by kernel_rfl) (by kernel_rfl) ?hq48 ?hy48 ⟨by rw [kt.cell]; rfl, by rw [kt.cell]; rfl, by rw [kt.cell]; rfl, by rw [kt.cell]; rfl⟩ ?hh48
          case hi48 => (simp only [List.getElem?_toArray, List.getElem?_cons_succ, List.getElem?_cons_zero]; rfl)
          case hq48 => exact fun _ _ _ h => h
          case hy48 => exact Or.inl ⟨by rfl, by (intro W hSw; (try obtain ⟨s0, s1, s2, s3⟩ := hSw); go_simp; (try with_reducible rfl))⟩
          (try simp only [Act.put, List.setIfInBounds_toArray, List.set_cons_zero, List.set_cons_succ])
          refine wpAnyH_take (i := 11) (oi := ?oo49) (v := ?vv49) ?hi49 (by kernel_rfl) (by kernel_rfl) (by kernel_rfl) ?hq49 ?hy49 ⟨by rw [kt.cell]; rfl, by rw [kt.cell]; rfl, by rw [kt.cell]; rfl, by rw [kt.cell]; rfl⟩ ?hh49
          case hi49 => (simp only [List.getElem?_toArray, List.getElem?_cons_succ, List.getElem?_cons_zero]; rfl)
          case hq49 => exact fun _ _ _ h => h
          case hy49 => exact Or.inl ⟨by rfl, by (intro W hSw; (try obtain ⟨s0, s1, s2, s3⟩ := hSw); go_simp; (try with_reducible rfl))⟩
          (try simp only [Act.put, List.setIfInBounds_toArray, List.set_cons_zero, List.set_cons_succ])
          refine wpAnyH_take (i := 12) (oi := ?oo50) (v := ?vv50) ?hi50 (by kernel_rfl) (by kernel_rfl) (by kernel_rfl) ?hq50 ?hy50 ⟨by rw [kt.cell]; rfl, by rw [kt.cell]; rfl, by rw [kt.cell]; rfl, by rw [kt.cell]; rfl⟩ ?hh50
          case hi50 => (simp only [List.getElem?_toArray, List.getElem?_cons_succ, List.getElem?_cons_zero]; rfl)
          case hq50 => exact fun _ _ _ h => h
          case hy50 => exact Or.inl ⟨by rfl, by (intro W hSw; (try obtain ⟨s0, s1, s2, s3⟩ := hSw); go_simp; (try with_reducible rfl))⟩
          (try simp only [Act.put, List.setIfInBounds_toArray, List.set_cons_zero, List.set_cons_succ])
          refine wpAnyH_ready (rs := [13]) (by kernel_rfl) (by simp) ?_
          refine AllReadyH.cons rfl (fun K hK => ?_) AllReadyH.nil
          go_simp
          go_at_call 15
          refine (letter_any _ _).mono ?_
          rintro e w' ⟨rfl, rfl⟩
          rw [LT.out]
          refine hK.out _ _ ⟨by rw [kt.cell]; rfl, by rw [kt.cell]; rfl, by rw [kt.cell]; rfl, by rw [kt.cell]; rfl⟩ (fun _ => ?_)
          clear hK K
          (try simp only [Act.put, List.setIfInBounds_toArray, List.set_cons_zero, List.set_cons_succ])
          refine wpAnyH_take (i := 14) (oi := ?oo51) (v := ?vv51) ?hi51 (by kernel_rfl) (by kernel_rfl) (by kernel_rfl) ?hq51 ?hy51 ⟨by rw [kt.cell]; rfl, by rw [kt.cell]; rfl, by rw [kt.cell]; rfl, by rw [kt.cell]; rfl⟩ ?hh51
          case hi51 => (simp only [List.getElem?_toArray, List.getElem?_cons_succ, List.getElem?_cons_zero]; rfl)
          case hq51 => exact fun _ _ _ h => h
          case hy51 => exact Or.inl ⟨by rfl, by (intro W hSw; (try obtain ⟨s0, s1, s2, s3⟩ := hSw); go_simp; (try with_reducible rfl))⟩
          (try simp only [Act.put, List.setIfInBounds_toArray, List.set_cons_zero, List.set_cons_succ])
          refine wpAnyH_take (i := 15) (oi := ?oo52) (v := ?vv52) ?hi52 (by kernel_rfl) (by kernel_rfl) (by kernel_rfl) ?hq52 ?hy52 ⟨by rw [kt.cell]; rfl, by rw [kt.cell]; rfl, by rw [kt.cell]; rfl, by rw [kt.cell]; rfl⟩ ?hh52
          case hi52 => (simp only [List.getElem?_toArray, List.getElem?_cons_succ, List.getElem?_cons_zero]; rfl)
          case hq52 => exact fun _ _ _ h => h
          case hy52 => exact Or.inl ⟨by rfl, by (intro W hSw; (try obtain ⟨s0, s1, s2, s3⟩ := hSw); go_simp; (try with_reducible rfl))⟩
          (try simp only [Act.put, List.setIfInBounds_toArray, List.set_cons_zero, List.set_cons_succ])
          refine wpAnyH_take (i := 16) (oi := ?oo53) (v := ?vv53) ?hi53 (by kernel_rfl) (by kernel_rfl) (by kernel_rfl) ?hq53 ?hy53 ⟨by rw [kt.cell]; rfl, by rw [kt.cell]; rfl, by rw [kt.cell]; rfl, by rw [kt.cell]; rfl⟩ ?hh53
          case hi53 => (simp only [List.getElem?_toArray, List.getElem?_cons_succ, List.getElem?_cons_zero]; rfl)
          case hq53 => exact fun _ _ _ h => h
          case hy53 => exact Or.inl ⟨by rfl, by (intro W hSw; (try obtain ⟨s0, s1, s2, s3⟩ := hSw); go_simp; (try with_reducible rfl))⟩
          (try simp only [Act.put, List.setIfInBounds_toArray, List.set_cons_zero, List.set_cons_succ])
          refine wpAnyH_ready (rs := [17]) (by kernel_rfl) (by simp) ?_
          refine AllReadyH.cons rfl (fun K hK => ?_) AllReadyH.nil
          have b0 : D.cell? ⟨w.heap.size, 0, none⟩ = some (.int .i64 0) := by rw [kb.cell]; rfl
          have f0 := kb.frozen 0
          have b1 : D.cell? ⟨w.heap.size, 1, none⟩ = some (.string ⟨#[]⟩) := by rw [kb.cell]; rfl
          have f1 := kb.frozen 1
          have b2 : D.cell? ⟨w.heap.size, 2, none⟩ = some (.int .i64 0) := by rw [kb.cell]; rfl
          have f2 := kb.frozen 2
          have b3 : D.cell? ⟨w.heap.size, 3, none⟩ = some (.int .i64 0) := by rw [kb.cell]; rfl
          have f3 := kb.frozen 3
          have hlb := kb.lt
          go_simp
          clear b0 b1 b2 b3 f0 f1 f2 f3 hlb
          have kb : Blk ((((D.setCell ⟨w.heap.size, 0, none⟩ (.int .i64 3)).setCell ⟨w.heap.size, 1, none⟩ (.string tx)).setCell ⟨w.heap.size, 2, none⟩ (.int .i64 0)).setCell ⟨w.heap.size, 3, none⟩ (.int .i64 acc)) w.heap.size 31 #[.int .i64 3, .string tx, .int .i64 0, .int .i64 acc] := ((((kb.set_ 0 _).set_ 1 _).set_ 2 _).set_ 3 _)
          have kt : Blk ((((D.setCell ⟨w.heap.size, 0, none⟩ (.int .i64 3)).setCell ⟨w.heap.size, 1, none⟩ (.string tx)).setCell ⟨w.heap.size, 2, none⟩ (.int .i64 0)).setCell ⟨w.heap.size, 3, none⟩ (.int .i64 acc)) _ _ _ := ((((kt.far (p := ⟨w.heap.size, 0, none⟩) (by show w.heap.size + 1 ≠ w.heap.size; omega) _).far (p := ⟨w.heap.size, 1, none⟩) (by show w.heap.size + 1 ≠ w.heap.size; omega) _).far (p := ⟨w.heap.size, 2, none⟩) (by show w.heap.size + 1 ≠ w.heap.size; omega) _).far (p := ⟨w.heap.size, 3, none⟩) (by show w.heap.size + 1 ≠ w.heap.size; omega) _)
          have bb : Below w.heap.size w ((((D.setCell ⟨w.heap.size, 0, none⟩ (.int .i64 3)).setCell ⟨w.heap.size, 1, none⟩ (.string tx)).setCell ⟨w.heap.size, 2, none⟩ (.int .i64 0)).setCell ⟨w.heap.size, 3, none⟩ (.int .i64 acc)) := ((((bb.setCell (p := ⟨w.heap.size, 0, none⟩) (by show _ ≤ w.heap.size; omega) _).setCell (p := ⟨w.heap.size, 1, none⟩) (by show _ ≤ w.heap.size; omega) _).setCell (p := ⟨w.heap.size, 2, none⟩) (by show _ ≤ w.heap.size; omega) _).setCell (p := ⟨w.heap.size, 3, none⟩) (by show _ ≤ w.heap.size; omega) _)
          refine hK.out _ _ ⟨by rw [kt.cell]; rfl, by rw [kt.cell]; rfl, by rw [kt.cell]; rfl, by rw [kt.cell]; rfl⟩ (fun _ => ?_)
          clear hK K
          generalize ((((D.setCell ⟨w.heap.size, 0, none⟩ (.int .i64 3)).setCell ⟨w.heap.size, 1, none⟩ (.string tx)).setCell ⟨w.heap.size, 2, none⟩ (.int .i64 0)).setCell ⟨w.heap.size, 3, none⟩ (.int .i64 acc)) = D at *
          (try simp only [Act.put, List.setIfInBounds_toArray, List.set_cons_zero, List.set_cons_succ])
          refine wpAnyH_take (i := 18) (oi := ?oo54) (v := ?vv54) ?hi54 (by kernel_rfl) (by kernel_rfl) (by kernel_rfl) ?hq54 ?hy54 ⟨by rw [kt.cell]; rfl, by rw [kt.cell]; rfl, by rw [kt.cell]; rfl, by rw [kt.cell]; rfl⟩ ?hh54
          case hi54 => (simp only [List.getElem?_toArray, List.getElem?_cons_succ, List.getElem?_cons_zero]; rfl)
          case hq54 => exact fun _ _ _ h => h
          case hy54 => exact Or.inl ⟨by rfl, by (intro W hSw; (try obtain ⟨s0, s1, s2, s3⟩ := hSw); go_simp; (try with_reducible rfl))⟩
          (try simp only [Act.put, List.setIfInBounds_toArray, List.set_cons_zero, List.set_cons_succ])
          refine wpAnyH_take (i := 19) (oi := ?oo55) (v := ?vv55) ?hi55 (by kernel_rfl) (by kernel_rfl) (by kernel_rfl) ?hq55 ?hy55 ⟨by rw [kt.cell]; rfl, by rw [kt.cell]; rfl, by rw [kt.cell]; rfl, by rw [kt.cell]; rfl⟩ ?hh55
          case hi55 => (simp only [List.getElem?_toArray, List.getElem?_cons_succ, List.getElem?_cons_zero]; rfl)
          case hq55 => exact fun _ _ _ h => h
          case hy55 => exact Or.inl ⟨by rfl, by (intro W hSw; (try obtain ⟨s0, s1, s2, s3⟩ := hSw); go_simp; (try with_reducible rfl))⟩
          (try simp only [Act.put, List.setIfInBounds_toArray, List.set_cons_zero, List.set_cons_succ])
          refine wpAnyH_done (by kernel_rfl) ?_ _
          go_wp2_with fail
          have b0 : D.cell? ⟨w.heap.size, 0, none⟩ = some (.int .i64 3) := by rw [kb.cell]; rfl
          have b1 : D.cell? ⟨w.heap.size, 1, none⟩ = some (.string tx) := by rw [kb.cell]; rfl
          have b2 : D.cell? ⟨w.heap.size, 2, none⟩ = some (.int .i64 0) := by rw [kb.cell]; rfl
          have b3 : D.cell? ⟨w.heap.size, 3, none⟩ = some (.int .i64 acc) := by rw [kb.cell]; rfl
          have hlb := kb.lt
          exact bodyPost_ret (v := .tuple #[TokV 3 tx 0 acc, .int .i64 k, .bool (!lt)]) (by simp [results, Tryd.results18, go_sem, b0, b1, b2, b3, hlb]) rfl ⟨tx, acc, k, (!lt), rfl, HNR.out, bb⟩
      · obtain ⟨d, hd9, hdb⟩ := digit_range q2
        obtain ⟨p, hp⟩ : ∃ p : Nat, acc * 10 + d = p := ⟨_, rfl⟩
        have D1 : IntKind.u8.wrap ((s[k].toNat : Int) - 48) = (d : Int) := by rw [IntWalk.u8_in _ (by omega)]; omega
        have D2 : IntKind.i64.wrap (d : Int) = (d : Int) := IntWalk.i64_in _ (by omega)
        have D3 : IntKind.i64.wrap (IntKind.i64.wrap ((acc : Int) * 10) + (d : Int)) = (p : Int) := by rw [IntWalk.i64_in ((acc : Int) * 10) (by omega), IntWalk.i64_in _ (by omega)]; omega
        have a1 : IntKind.i64.wrap ((k : Int) + 1) = ((k + 1 : Nat) : Int) := by rw [IntWalk.i64_in _ (by omega)]; rfl
        have hstep : numL acc (s.data.toList.drop k) = if 9007199254740991 < p then none else (numL p (s.data.toList.drop (k + 1))).map fun q => (q.1, q.2 + 1) := by
          rw [HD.out, numL, if_pos q2, show s[k].toNat - 48 = d by omega, hp]
        have HS := Lib.hid hstep
        clear q2 hdb hstep
        go_wp2_with fail
        refine (digit_any _ _).mono ?_
        rintro e w' ⟨rfl, rfl⟩
        rw [Q2.out]
        clear x0 x1 x2 x3 z0 z1 z2 z3
        go_upto_region 4 with fail
        have bb := bb.drew
        have kb := kb.drew
        have kt := kt.drew
        refine wp_region_till (m := 10) (S := (fun W => W.cell? ⟨w.heap.size + 1, 0, none⟩ = some (.int .i64 3) ∧ W.cell? ⟨w.heap.size + 1, 1, none⟩ = some (.string ⟨#[]⟩) ∧ W.cell? ⟨w.heap.size + 1, 2, none⟩ = some (.int .i64 0) ∧ W.cell? ⟨w.heap.size + 1, 3, none⟩ = some (.int .i64 acc))) (by kernel_rfl) ?_
        clear v0 v1 v2 v3 u0 u1 u2 u3 hlt hlb
        generalize wr.drew = D at *
        change tillH _ _ _ _ _ _ 11 #[false, false, false, false, false, false, false, false, false, false, false] _ _
        refine tillH_takeAny (i := 0) (oi := ?oo56) (v := ?vv56) ?hi56 (by kernel_rfl) (by kernel_rfl) (by kernel_rfl) ?hq56 (by kernel_rfl) ?hy56 (fun _ => ⟨by rw [kt.cell]; rfl, by rw [kt.cell]; rfl, by rw [kt.cell]; rfl, by rw [kt.cell]; rfl⟩) ?hh56
        case hi56 => (simp only [List.getElem?_toArray, List.getElem?_cons_succ, List.getElem?_cons_zero]; rfl)
        case hq56 => exact fun _ _ _ h => h
        case hy56 => exact Or.inl ⟨by rfl, by (intro W; go_simp; (try with_reducible rfl))⟩
        (try simp only [Act.put, List.setIfInBounds_toArray, List.set_cons_zero, List.set_cons_succ])
        refine tillH_take (i := 1) (oi := ?oo57) (v := ?vv57) ?hi57 (by kernel_rfl) (by kernel_rfl) (by kernel_rfl) ?hq57 (by kernel_rfl) (by kernel_rfl) (by kernel_rfl) ?hy57 ⟨by rw [kt.cell]; rfl, by rw [kt.cell]; rfl, by rw [kt.cell]; rfl, by rw [kt.cell]; rfl⟩ ?hh57
        case hi57 => (simp only [List.getElem?_toArray, List.getElem?_cons_succ, List.getElem?_cons_zero]; rfl)
        case hq57 => exact fun _ _ _ h => h
        case hy57 => exact Or.inl ⟨by rfl, by (intro W hSw; (try obtain ⟨s0, s1, s2, s3⟩ := hSw); go_simp; (try with_reducible rfl))⟩
        (try simp only [Act.put, List.setIfInBounds_toArray, List.set_cons_zero, List.set_cons_succ])
        refine tillH_takeAny (i := 2) (oi := ?oo58) (v := ?vv58) ?hi58 (by kernel_rfl) (by kernel_rfl) (by kernel_rfl) ?hq58 (by kernel_rfl) ?hy58 (fun _ => ⟨by rw [kt.cell]; rfl, by rw [kt.cell]; rfl, by rw [kt.cell]; rfl, by rw [kt.cell]; rfl⟩) ?hh58
        case hi58 => (simp only [List.getElem?_toArray, List.getElem?_cons_succ, List.getElem?_cons_zero]; rfl)
        case hq58 => exact fun _ _ _ h => h
        case hy58 => exact Or.inl ⟨by rfl, by (intro W; go_simp; (try with_reducible rfl))⟩
        (try simp only [Act.put, List.setIfInBounds_toArray, List.set_cons_zero, List.set_cons_succ])
        refine tillH_takeAny (i := 3) (oi := ?oo59) (v := ?vv59) ?hi59 (by kernel_rfl) (by kernel_rfl) (by kernel_rfl) ?hq59 (by kernel_rfl) ?hy59 (fun _ => ⟨by rw [kt.cell]; rfl, by rw [kt.cell]; rfl, by rw [kt.cell]; rfl, by rw [kt.cell]; rfl⟩) ?hh59
        case hi59 => (simp only [List.getElem?_toArray, List.getElem?_cons_succ, List.getElem?_cons_zero]; rfl)
        case hq59 => exact fun _ _ _ h => h
        case hy59 => exact Or.inl ⟨by rfl, by (intro W; go_simp; (try with_reducible rfl))⟩
        (try simp only [Act.put, List.setIfInBounds_toArray, List.set_cons_zero, List.set_cons_succ])
        refine tillH_takeAny (i := 4) (oi := ?oo60) (v := ?vv60) ?hi60 (by kernel_rfl) (by kernel_rfl) (by kernel_rfl) ?hq60 (by kernel_rfl) ?hy60 (fun _ => ⟨by rw [kt.cell]; rfl, by rw [kt.cell]; rfl, by rw [kt.cell]; rfl, by rw [kt.cell]; rfl⟩) ?hh60
        case hi60 => (simp only [List.getElem?_toArray, List.getElem?_cons_succ, List.getElem?_cons_zero]; rfl)
        case hq60 => exact fun _ _ _ h => h
        case hy60 => exact Or.inl ⟨by rfl, by (intro W; go_simp; (try with_reducible rfl))⟩
        (try simp only [Act.put, List.setIfInBounds_toArray, List.set_cons_zero, List.set_cons_succ])
        refine tillH_takeAny (i := 5) (oi := ?oo61) (v := ?vv61) ?hi61 (by kernel_rfl) (by kernel_rfl) (by kernel_rfl) ?hq61 (by kernel_rfl) ?hy61 (fun _ => ⟨by rw [kt.cell]; rfl, by rw [kt.cell]; rfl, by rw [kt.cell]; rfl, by rw [kt.cell]; rfl⟩) ?hh61
        case hi61 => (simp only [List.getElem?_toArray, List.getElem?_cons_succ, List.getElem?_cons_zero]; rfl)
        case hq61 => exact fun _ _ _ h => h
        case hy61 => exact Or.inl ⟨by rfl, by (intro W; go_simp; (try with_reducible rfl))⟩
        (try simp only [Act.put, List.setIfInBounds_toArray, List.set_cons_zero, List.set_cons_succ])
        refine tillH_takeAny (i := 6) (oi := ?oo62) (v := ?vv62) ?hi62 (by kernel_rfl) (by kernel_rfl) (by kernel_rfl) ?hq62 (by kernel_rfl) ?hy62 (fun _ => ⟨by rw [kt.cell]; rfl, by rw [kt.cell]; rfl, by rw [kt.cell]; rfl, by rw [kt.cell]; rfl⟩) ?hh62
        case hi62 => (simp only [List.getElem?_toArray, List.getElem?_cons_succ, List.getElem?_cons_zero]; rfl)
        case hq62 => exact fun _ _ _ h => h
        case hy62 => exact Or.inl ⟨by rfl, by (intro W; go_simp; (try with_reducible rfl))⟩
        (try simp only [Act.put, List.setIfInBounds_toArray, List.set_cons_zero, List.set_cons_succ])
        refine tillH_takeAny (i := 7) (oi := ?oo63) (v := ?vv63) ?hi63 (by kernel_rfl) (by kernel_rfl) (by kernel_rfl) ?hq63 (by kernel_rfl) ?hy63 (fun _ => ⟨by rw [kt.cell]; rfl, by rw [kt.cell]; rfl, by rw [kt.cell]; rfl, by rw [kt.cell]; rfl⟩) ?hh63
        case hi63 => (simp only [List.getElem?_toArray, List.getElem?_cons_succ, List.getElem?_cons_zero]; rfl)
        case hq63 => exact fun _ _ _ h => h
        case hy63 => exact Or.inl ⟨by rfl, by (intro W; go_simp; (try with_reducible rfl))⟩
        (try simp only [Act.put, List.setIfInBounds_toArray, List.set_cons_zero, List.set_cons_succ])
        refine tillH_takeAny (i := 8) (oi := ?oo64) (v := ?vv64) ?hi64 (by kernel_rfl) (by kernel_rfl) (by kernel_rfl) ?hq64 (by kernel_rfl) ?hy64 (fun _ => ⟨by rw [kt.cell]; rfl, by rw [kt.cell]; rfl, by rw [kt.cell]; rfl, by rw [kt.cell]; rfl⟩) ?hh64
        case hi64 => (simp only [List.getElem?_toArray, List.getElem?_cons_succ, List.getElem?_cons_zero]; rfl)
        case hq64 => exact fun _ _ _ h => h
        case hy64 => exact Or.inl ⟨by rfl, by (intro W; go_simp; (try with_reducible rfl))⟩
        (try simp only [Act.put, List.setIfInBounds_toArray, List.set_cons_zero, List.set_cons_succ])
        refine tillH_takeAny (i := 9) (oi := ?oo65) (v := ?vv65) ?hi65 (by kernel_rfl) (by kernel_rfl) (by kernel_rfl) ?hq65 (by kernel_rfl) ?hy65 (fun _ => ⟨by rw [kt.cell]; rfl, by rw [kt.cell]; rfl, by rw [kt.cell]; rfl, by rw [kt.cell]; rfl⟩) ?hh65
        case hi65 => (simp only [List.getElem?_toArray, List.getElem?_cons_succ, List.getElem?_cons_zero]; rfl)
        case hq65 => exact fun _ _ _ h => h
        case hy65 => exact Or.inl ⟨by rfl, by (intro W; go_simp; (try with_reducible rfl))⟩
        (try simp only [Act.put, List.setIfInBounds_toArray, List.set_cons_zero, List.set_cons_succ])
        refine tillH_next (rs := [10]) (by kernel_rfl) (by simp) ?_
        refine NextH.cons rfl (fun K hK => ?_) NextH.nil
        have x3 : D.cell? ⟨w.heap.size + 1, 3, none⟩ = some (.int .i64 acc) := by rw [kt.cell]; rfl
        have z3 := kt.frozen 3
        have hlt := kt.lt
        go_simp
        clear x3 z3 hlt
        have bb := bb.setCell (p := ⟨w.heap.size + 1, 3, none⟩) (by show _ ≤ w.heap.size + 1; omega) (.int .i64 p)
        have kb := kb.far (p := ⟨w.heap.size + 1, 3, none⟩) (by show w.heap.size ≠ w.heap.size + 1; omega) (.int .i64 p)
        have kt : Blk _ (w.heap.size + 1) 31 #[.int .i64 3, .string ⟨#[]⟩, .int .i64 0, .int .i64 p] := kt.set_ 3 (.int .i64 p)
        refine hK.out _ _ (fun h => absurd h (by simp)) ?_
        clear hK K
        generalize D.setCell ⟨w.heap.size + 1, 3, none⟩ (.int .i64 p) = D at *
        (try simp only [Act.put, List.setIfInBounds_toArray, List.set_cons_zero, List.set_cons_succ])
        refine tillH_done (by kernel_rfl) ?_ _
        have x3 : D.cell? ⟨w.heap.size + 1, 3, none⟩ = some (.int .i64 p) := by rw [kt.cell]; rfl
        have x0 : D.cell? ⟨w.heap.size + 1, 0, none⟩ = some (.int .i64 3) := by rw [kt.cell]; rfl
        have x1 : D.cell? ⟨w.heap.size + 1, 1, none⟩ = some (.string ⟨#[]⟩) := by rw [kt.cell]; rfl
        have x2 : D.cell? ⟨w.heap.size + 1, 2, none⟩ = some (.int .i64 0) := by rw [kt.cell]; rfl
        have v0 : D.cell? ⟨w.heap.size, 0, none⟩ = some (.int .i64 0) := by rw [kb.cell]; rfl
        have v1 : D.cell? ⟨w.heap.size, 1, none⟩ = some (.string ⟨#[]⟩) := by rw [kb.cell]; rfl
        have v2 : D.cell? ⟨w.heap.size, 2, none⟩ = some (.int .i64 0) := by rw [kb.cell]; rfl
        have v3 : D.cell? ⟨w.heap.size, 3, none⟩ = some (.int .i64 0) := by rw [kb.cell]; rfl
        have u0 := kb.frozen 0
        have u1 := kb.frozen 1
        have u2 := kb.frozen 2
        have u3 := kb.frozen 3
        have hlt := kt.lt
        have hlb := kb.lt
        by_cases hbig : 9007199254740991 < p
        · have L2 : decide ((9007199254740991 : Int) < (p : Int)) = true := by simp; omega
          have hr : res = none := by rw [← H1.out, HS.out, if_pos hbig]; rfl
          have HNR := Lib.hid (show NumR s a res ⟨#[]⟩ (p : Int) k false by rw [hr]; rfl)
          go_wp2
          exact bodyPost_ret (v := .tuple #[TokV 3 ⟨#[]⟩ 0 p, .int .i64 k, .bool false]) (by simp [results, Tryd.results18, go_sem, v0, v1, v2, v3, hlb]) rfl ⟨⟨#[]⟩, p, k, false, rfl, HNR.out, by repeat (first | with_reducible assumption | (refine Below.setCell ?_ (by first | omega | (simp; omega) | simp) _))⟩
        · have L2 : decide ((9007199254740991 : Int) < (p : Int)) = false := by simp; omega
          go_wp2
          go_roundw
          case rel =>
            refine ⟨k + 1, p, by omega, rfl, by omega, by omega, ?_, bb, kb, kt⟩
            rw [← H1.out, HS.out, if_neg hbig, Option.map_map]
            congr 1
            funext q
            simp only [Function.comp, Prod.mk.injEq, true_and]
            omega
          case measure => simp only [intOf]; omega
    · have L1 : decide ((k : Int) < (s.size : Int)) = false := by simpa using hl
      have hkz : s.data.toList.drop k = [] := List.drop_eq_nil_of_le (by omega)
      obtain ⟨tx, htx⟩ : ∃ tx, s.extract a k = tx := ⟨_, rfl⟩
      have hts : tx.size = k - a := by rw [← htx, ByteArray.size_extract]; omega
      have ya0 : (0 : Int) ≤ a := by omega
      have ya1 : (a : Int) ≤ k := by omega
      have ya2 : (k : Int) ≤ s.size := by omega
      have ya3 : (a : Int).toNat = a := by omega
      have ya4 : (k : Int).toNat = k := by omega
      have hdk : s.data.toList.drop k = [] ∨ ∃ b r, s.data.toList.drop k = b :: r ∧ digitB b = false := Or.inl hkz
      have HE := Lib.hid (num_end s a k acc res hak hdk H1.out)
      clear hdk
      have E1 : ((k : Int) == (s.size : Int)) = true := by simp; omega
      have E2 : (k == s.size) = true := by simp; omega
      have E3 : decide (k = s.size) = true := by simp; omega
      by_cases hz1 : 1 < k - a
      · have T1 : decide ((1 : Int) < ((k - a : Nat) : Int)) = true := by rw [decide_eq_true_eq]; omega
        have T2 : decide (1 < k - a) = true := by simpa using hz1
        have ht0 : 0 < tx.size := by omega
        have ht1 : (0 : Int) < tx.size := by omega
        have hhd := num_head s a k tx htx ht0
        obtain ⟨g0, e0⟩ : ∃ g, ((tx[0].toNat : Int) == 48) = g := ⟨_, rfl⟩
        have he0 : (tx[0] == 48) = g0 := by rw [← e0, u8_eq]; rfl
        have HH := Lib.hid hhd
        have HE0 := Lib.hid he0
        cases g0
        · clear hhd he0
          have hhd := HH.out
          have he0 := HE0.out
          have hok : numOk (s.data.toList.drop a) (k - a) = true := by simp [numOk, hhd, hz1, he0, show a + (k - a) = k by omega, hkz]
          have HNR := Lib.hid (num_fin s a k acc res tx _ hak HE.out htx hok)
          clear hok
          go_upto_region 10 with fail
          clear x0 x1 x2 x3 z0 z1 z2 z3 v0 v1 v2 v3 u0 u1 u2 u3 hlt hlb
          have bb := (bb.setCell (p := ⟨w.heap.size + 1, 1, none⟩) (by show _ ≤ w.heap.size + 1; omega) (.string tx)).drew
          have kb := (kb.far (p := ⟨w.heap.size + 1, 1, none⟩) (by show w.heap.size ≠ w.heap.size + 1; omega) (.string tx)).drew
          have kt : Blk _ (w.heap.size + 1) 31 #[.int .i64 3, .string tx, .int .i64 0, .int .i64 acc] := (kt.set_ 1 (.string tx)).drew
          refine wp_region_held_drew (S := (fun W => W.cell? ⟨w.heap.size + 1, 0, none⟩ = some (.int .i64 3) ∧ W.cell? ⟨w.heap.size + 1, 1, none⟩ = some (.string tx) ∧ W.cell? ⟨w.heap.size + 1, 2, none⟩ = some (.int .i64 0) ∧ W.cell? ⟨w.heap.size + 1, 3, none⟩ = some (.int .i64 acc))) (by kernel_rfl) ⟨by rw [kt.cell]; rfl, by rw [kt.cell]; rfl, by rw [kt.cell]; rfl, by rw [kt.cell]; rfl⟩ (fun _ => ?_)
          generalize (wr.setCell ⟨w.heap.size + 1, 1, none⟩ (.string tx)).drew = D at *
          change wpAnyH _ _ _ _ _ 20 #[false, false, false, false, false, false, false, false, false, false, false, false, false, false, false, false, false, false, false, false] _ _
          refine wpAnyH_take (i := 0) (oi := ?oo66) (v := ?vv66) ?hi66 (by kernel_rfl) (by kernel_rfl) (by kernel_rfl) ?hq66 ?hy66 ⟨by rw [kt.cell]; rfl, by rw [kt.cell]; rfl, by rw [kt.cell]; rfl, by rw [kt.cell]; rfl⟩ ?hh66
          case hi66 => (simp only [List.getElem?_toArray, List.getElem?_cons_succ, List.getElem?_cons_zero]; rfl)
          case hq66 => exact fun _ _ _ h => h
          case hy66 => exact Or.inl ⟨by rfl, by (intro W hSw; (try obtain ⟨s0, s1, s2, s3⟩ := hSw); go_simp; (try with_reducible rfl))⟩
          (try simp only [Act.put, List.setIfInBounds_toArray, List.set_cons_zero, List.set_cons_succ])
          refine wpAnyH_take (i := 1) (oi := ?oo67) (v := ?vv67) ?hi67 (by kernel_rfl) (by kernel_rfl) (by kernel_rfl) ?hq67 ?hy67 ⟨by rw [kt.cell]; rfl, by rw [kt.cell]; rfl, by rw [kt.cell]; rfl, by rw [kt.cell]; rfl⟩ ?hh67
          case hi67 => (simp only [List.getElem?_toArray, List.getElem?_cons_succ, List.getElem?_cons_zero]; rfl)
          case hq67 => exact fun _ _ _ h => h
          case hy67 => exact Or.inl ⟨by rfl, by (intro W hSw; (try obtain ⟨s0, s1, s2, s3⟩ := hSw); go_simp; (try with_reducible rfl))⟩
          (try simp only [Act.put, List.setIfInBounds_toArray, List.set_cons_zero, List.set_cons_succ])
          refine wpAnyH_take (i := 2) (oi := ?oo68) (v := ?vv68) ?hi68 (by kernel_rfl) (by kernel_rfl) (by kernel_rfl) ?hq68 ?hy68 ⟨by rw [kt.cell]; rfl, by rw [kt.cell]; rfl, by rw [kt.cell]; rfl, by rw [kt.cell]; rfl⟩ ?hh68
          case hi68 => (simp only [List.getElem?_toArray, List.getElem?_cons_succ, List.getElem?_cons_zero]; rfl)
          case hq68 => exact fun _ _ _ h => h
          case hy68 => exact Or.inl ⟨by rfl, by (intro W hSw; (try obtain ⟨s0, s1, s2, s3⟩ := hSw); go_simp; (try with_reducible rfl))⟩
          (try simp only [Act.put, List.setIfInBounds_toArray, List.set_cons_zero, List.set_cons_succ])
          refine wpAnyH_take (i := 3) (oi := ?oo69) (v := ?vv69) ?hi69 (by kernel_rfl) (by kernel_rfl) (by kernel_rfl) ?hq69 ?hy69 ⟨by rw [kt.cell]; rfl, by rw [kt.cell]; rfl, by rw [kt.cell]; rfl, by rw [kt.cell]; rfl⟩ ?hh69
          case hi69 => (simp only [List.getElem?_toArray, List.getElem?_cons_succ, List.getElem?_cons_zero]; rfl)
          case hq69 => exact fun _ _ _ h => h
          case hy69 => exact Or.inl ⟨by rfl, by (intro W hSw; (try obtain ⟨s0, s1, s2, s3⟩ := hSw); go_simp; (try with_reducible rfl))⟩
          (try simp only [Act.put, List.setIfInBounds_toArray, List.set_cons_zero, List.set_cons_succ])
          refine wpAnyH_take (i := 4) (oi := ?oo70) (v := ?vv70) ?hi70 (by kernel_rfl) (by kernel_rfl) (by kernel_rfl) ?hq70 ?hy70 ⟨by rw [kt.cell]; rfl, by rw [kt.cell]; rfl, by rw [kt.cell]; rfl, by rw [kt.cell]; rfl⟩ ?hh70
          case hi70 => (simp only [List.getElem?_toArray, List.getElem?_cons_succ, List.getElem?_cons_zero]; rfl)
          case hq70 => exact fun _ _ _ h => h
          case hy70 => exact Or.inl ⟨by rfl, by (intro W hSw; (try obtain ⟨s0, s1, s2, s3⟩ := hSw); go_simp; (try with_reducible rfl))⟩
          (try simp only [Act.put, List.setIfInBounds_toArray, List.set_cons_zero, List.set_cons_succ])
          refine wpAnyH_take (i := 5) (oi := ?oo71) (v := ?vv71) ?hi71 (by kernel_rfl) (by kernel_rfl) (by kernel_rfl) ?hq71 ?hy71 ⟨by rw [kt.cell]; rfl, by rw [kt.cell]; rfl, by rw [kt.cell]; rfl, by rw [kt.cell]; rfl⟩ ?hh71
          case hi71 => (simp only [List.getElem?_toArray, List.getElem?_cons_succ, List.getElem?_cons_zero]; rfl)
          case hq71 => exact fun _ _ _ h => h
          case hy71 => exact Or.inl ⟨by rfl, by (intro W hSw; (try obtain ⟨s0, s1, s2, s3⟩ := hSw); go_simp; (try with_reducible rfl))⟩
          (try simp only [Act.put, List.setIfInBounds_toArray, List.set_cons_zero, List.set_cons_succ])
          refine wpAnyH_take (i := 6) (oi := ?oo72) (v := ?vv72) ?hi72 (by kernel_rfl) (by kernel_rfl) (by kernel_rfl) ?hq72 ?hy72 ⟨by rw [kt.cell]; rfl, by rw [kt.cell]; rfl, by rw [kt.cell]; rfl, by rw [kt.cell]; rfl⟩ ?hh72
          case hi72 => (simp only [List.getElem?_toArray, List.getElem?_cons_succ, List.getElem?_cons_zero]; rfl)
          case hq72 => exact fun _ _ _ h => h
          case hy72 => exact Or.inl ⟨by rfl, by (intro W hSw; (try obtain ⟨s0, s1, s2, s3⟩ := hSw); go_simp; (try with_reducible rfl))⟩
          (try simp only [Act.put, List.setIfInBounds_toArray, List.set_cons_zero, List.set_cons_succ])
          refine wpAnyH_take (i := 7) (oi := ?oo73) (v := ?vv73) ?hi73 (by kernel_rfl) (by kernel_rfl) (by kernel_rfl) ?hq73 ?hy73 ⟨by rw [kt.cell]; rfl, by rw [kt.cell]; rfl, by rw [kt.cell]; rfl, by rw [kt.cell]; rfl⟩ ?hh73
          case hi73 => (simp only [List.getElem?_toArray, List.getElem?_cons_succ, List.getElem?_cons_zero]; rfl)
          case hq73 => exact fun _ _ _ h => h
          case hy73 => exact Or.inl ⟨by rfl, by (intro W hSw; (try obtain ⟨s0, s1, s2, s3⟩ := hSw); go_simp; (try with_reducible rfl))⟩
          (try simp only [Act.put, List.setIfInBounds_toArray, List.set_cons_zero, List.set_cons_succ])
          refine wpAnyH_take (i := 8) (oi := ?oo74) (v := ?vv74) ?hi74 (by kernel_rfl) (by kernel_rfl) (by kernel_rfl) ?hq74 ?hy74 ⟨by rw [kt.cell]; rfl, by rw [kt.cell]; rfl, by rw [kt.cell]; rfl, by rw [kt.cell]; rfl⟩ ?hh74
          case hi74 => (simp only [List.getElem?_toArray, List.getElem?_cons_succ, List.getElem?_cons_zero]; rfl)
          case hq74 => exact fun _ _ _ h => h
          case hy74 => exact Or.inl ⟨by rfl, by (intro W hSw; (try obtain ⟨s0, s1, s2, s3⟩ := hSw); go_simp; (try with_reducible rfl))⟩
          (try simp only [Act.put, List.setIfInBounds_toArray, List.set_cons_zero, List.set_cons_succ])
          refine wpAnyH_take (i := 9) (oi := ?oo75) (v := ?vv75) ?hi75 (by kernel_rfl) (by kernel_rfl) (by kernel_rfl) ?hq75 ?hy75 ⟨by rw [kt.cell]; rfl, by rw [kt.cell]; rfl, by rw [kt.cell]; rfl, by rw [kt.cell]; rfl⟩ ?hh75
          case hi75 => (simp only [List.getElem?_toArray, List.getElem?_cons_succ, List.getElem?_cons_zero]; rfl)
          case hq75 => exact fun _ _ _ h => h
          case hy75 => exact Or.inl ⟨by rfl, by (intro W hSw; (try obtain ⟨s0, s1, s2, s3⟩ := hSw); go_simp; (try with_reducible rfl))⟩
          (try simp only [Act.put, List.setIfInBounds_toArray, List.set_cons_zero, List.set_cons_succ])
          refine wpAnyH_take (i := 10) (oi := ?oo76) (v := undef) ?hi76 (by kernel_rfl) (by kernel_rfl) (by kernel_rfl) ?hq76 ?hy76 ⟨by rw [kt.cell]; rfl, by rw [kt.cell]; rfl, by rw [kt.cell]; rfl, by rw [kt.cell]; rfl⟩ ?hh76
          case hi76 => (simp only [List.getElem?_toArray, List.getElem?_cons_succ, List.getElem?_cons_zero]; rfl)
          case hq76 => exact fun _ _ _ h => h
          case hy76 => exact Or.inr ⟨by rfl, rfl⟩
          (try simp only [Act.put, List.setIfInBounds_toArray, List.set_cons_zero, List.set_cons_succ])
          refine wpAnyH_take (i := 11) (oi := ?oo77) (v := undef) ?hi77 (by kernel_rfl) (by kernel_rfl) (by kernel_rfl) ?hq77 ?hy77 ⟨by rw [kt.cell]; rfl, by rw [kt.cell]; rfl, by rw [kt.cell]; rfl, by rw [kt.cell]; rfl⟩ ?hh77
          case hi77 => (simp only [List.getElem?_toArray, List.getElem?_cons_succ, List.getElem?_cons_zero]; rfl)
          case hq77 => exact fun _ _ _ h => h
          case hy77 => exact Or.inr ⟨by rfl, rfl⟩
          (try simp only [Act.put, List.setIfInBounds_toArray, List.set_cons_zero, List.set_cons_succ])
          refine wpAnyH_take (i := 12) (oi := ?oo78) (v := undef) ?hi78 (by kernel_rfl) (by kernel_rfl) (by kernel_rfl) ?hq78 ?hy78 ⟨by rw [kt.cell]; rfl, by rw [kt.cell]; rfl, by rw [kt.cell]; rfl, by rw [kt.cell]; rfl⟩ ?hh78
          case hi78 => (simp only [List.getElem?_toArray, List.getElem?_cons_succ, List.getElem?_cons_zero]; rfl)
          case hq78 => exact fun _ _ _ h => h
          case hy78 => exact Or.inr ⟨by rfl, rfl⟩
          (try simp only [Act.put, List.setIfInBounds_toArray, List.set_cons_zero, List.set_cons_succ])
          refine wpAnyH_take (i := 13) (oi := ?oo79) (v := undef) ?hi79 (by kernel_rfl) (by kernel_rfl) (by kernel_rfl) ?hq79 ?hy79 ⟨by rw [kt.cell]; rfl, by rw [kt.cell]; rfl, by rw [kt.cell]; rfl, by rw [kt.cell]; rfl⟩ ?hh79
          case hi79 => (simp only [List.getElem?_toArray, List.getElem?_cons_succ, List.getElem?_cons_zero]; rfl)
          case hq79 => exact fun _ _ _ h => h
          case hy79 => exact Or.inr ⟨by rfl, rfl⟩
          (try simp only [Act.put, List.setIfInBounds_toArray, List.set_cons_zero, List.set_cons_succ])
          refine wpAnyH_take (i := 14) (oi := ?oo80) (v := undef) ?hi80 (by kernel_rfl) (by kernel_rfl) (by kernel_rfl) ?hq80 ?hy80 ⟨by rw [kt.cell]; rfl, by rw [kt.cell]; rfl, by rw [kt.cell]; rfl, by rw [kt.cell]; rfl⟩ ?hh80
          case hi80 => (simp only [List.getElem?_toArray, List.getElem?_cons_succ, List.getElem?_cons_zero]; rfl)
          case hq80 => exact fun _ _ _ h => h
          case hy80 => exact Or.inr ⟨by rfl, rfl⟩
          (try simp only [Act.put, List.setIfInBounds_toArray, List.set_cons_zero, List.set_cons_succ])
          refine wpAnyH_take (i := 15) (oi := ?oo81) (v := ?vv81) ?hi81 (by kernel_rfl) (by kernel_rfl) (by kernel_rfl) ?hq81 ?hy81 ⟨by rw [kt.cell]; rfl, by rw [kt.cell]; rfl, by rw [kt.cell]; rfl, by rw [kt.cell]; rfl⟩ ?hh81
          case hi81 => (simp only [List.getElem?_toArray, List.getElem?_cons_succ, List.getElem?_cons_zero]; rfl)
          case hq81 => exact fun _ _ _ h => h
          case hy81 => exact Or.inl ⟨by rfl, by (intro W hSw; (try obtain ⟨s0, s1, s2, s3⟩ := hSw); go_simp; (try with_reducible rfl))⟩
          (try simp only [Act.put, List.setIfInBounds_toArray, List.set_cons_zero, List.set_cons_succ])
          refine wpAnyH_take (i := 16) (oi := ?oo82) (v := ?vv82) ?hi82 (by kernel_rfl) (by kernel_rfl) (by kernel_rfl) ?hq82 ?hy82 ⟨by rw [kt.cell]; rfl, by rw [kt.cell]; rfl, by rw [kt.cell]; rfl, by rw [kt.cell]; rfl⟩ ?hh82
          case hi82 => (simp only [List.getElem?_toArray, List.getElem?_cons_succ, List.getElem?_cons_zero]; rfl)
          case hq82 => exact fun _ _ _ h => h
          case hy82 => exact Or.inl ⟨by rfl, by (intro W hSw; (try obtain ⟨s0, s1, s2, s3⟩ := hSw); go_simp; (try with_reducible rfl))⟩
          (try simp only [Act.put, List.setIfInBounds_toArray, List.set_cons_zero, List.set_cons_succ])
          refine wpAnyH_ready (rs := [17]) (by kernel_rfl) (by simp) ?_
          refine AllReadyH.cons rfl (fun K hK => ?_) AllReadyH.nil
          have b0 : D.cell? ⟨w.heap.size, 0, none⟩ = some (.int .i64 0) := by rw [kb.cell]; rfl
          have f0 := kb.frozen 0
          have b1 : D.cell? ⟨w.heap.size, 1, none⟩ = some (.string ⟨#[]⟩) := by rw [kb.cell]; rfl
          have f1 := kb.frozen 1
          have b2 : D.cell? ⟨w.heap.size, 2, none⟩ = some (.int .i64 0) := by rw [kb.cell]; rfl
          have f2 := kb.frozen 2
          have b3 : D.cell? ⟨w.heap.size, 3, none⟩ = some (.int .i64 0) := by rw [kb.cell]; rfl
          have f3 := kb.frozen 3
          have hlb := kb.lt
          go_simp
          clear b0 b1 b2 b3 f0 f1 f2 f3 hlb
          have kb : Blk ((((D.setCell ⟨w.heap.size, 0, none⟩ (.int .i64 3)).setCell ⟨w.heap.size, 1, none⟩ (.string tx)).setCell ⟨w.heap.size, 2, none⟩ (.int .i64 0)).setCell ⟨w.heap.size, 3, none⟩ (.int .i64 acc)) w.heap.size 31 #[.int .i64 3, .string tx, .int .i64 0, .int .i64 acc] := ((((kb.set_ 0 _).set_ 1 _).set_ 2 _).set_ 3 _)
          have kt : Blk ((((D.setCell ⟨w.heap.size, 0, none⟩ (.int .i64 3)).setCell ⟨w.heap.size, 1, none⟩ (.string tx)).setCell ⟨w.heap.size, 2, none⟩ (.int .i64 0)).setCell ⟨w.heap.size, 3, none⟩ (.int .i64 acc)) _ _ _ := ((((kt.far (p := ⟨w.heap.size, 0, none⟩) (by show w.heap.size + 1 ≠ w.heap.size; omega) _).far (p := ⟨w.heap.size, 1, none⟩) (by show w.heap.size + 1 ≠ w.heap.size; omega) _).far (p := ⟨w.heap.size, 2, none⟩) (by show w.heap.size + 1 ≠ w.heap.size; omega) _).far (p := ⟨w.heap.size, 3, none⟩) (by show w.heap.size + 1 ≠ w.heap.size; omega) _)
          have bb : Below w.heap.size w ((((D.setCell ⟨w.heap.size, 0, none⟩ (.int .i64 3)).setCell ⟨w.heap.size, 1, none⟩ (.string tx)).setCell ⟨w.heap.size, 2, none⟩ (.int .i64 0)).setCell ⟨w.heap.size, 3, none⟩ (.int .i64 acc)) := ((((bb.setCell (p := ⟨w.heap.size, 0, none⟩) (by show _ ≤ w.heap.size; omega) _).setCell (p := ⟨w.heap.size, 1, none⟩) (by show _ ≤ w.heap.size; omega) _).setCell (p := ⟨w.heap.size, 2, none⟩) (by show _ ≤ w.heap.size; omega) _).setCell (p := ⟨w.heap.size, 3, none⟩) (by show _ ≤ w.heap.size; omega) _)
          refine hK.out _ _ ⟨by rw [kt.cell]; rfl, by rw [kt.cell]; rfl, by rw [kt.cell]; rfl, by rw [kt.cell]; rfl⟩ (fun _ => ?_)
          clear hK K
          generalize ((((D.setCell ⟨w.heap.size, 0, none⟩ (.int .i64 3)).setCell ⟨w.heap.size, 1, none⟩ (.string tx)).setCell ⟨w.heap.size, 2, none⟩ (.int .i64 0)).setCell ⟨w.heap.size, 3, none⟩ (.int .i64 acc)) = D at *
          (try simp only [Act.put, List.setIfInBounds_toArray, List.set_cons_zero, List.set_cons_succ])
          refine wpAnyH_take (i := 18) (oi := ?oo83) (v := ?vv83) ?hi83 (by kernel_rfl) (by kernel_rfl) (by kernel_rfl) ?hq83 ?hy83 ⟨by rw [kt.cell]; rfl, by rw [kt.cell]; rfl, by rw [kt.cell]; rfl, by rw [kt.cell]; rfl⟩ ?hh83
          case hi83 => (simp only [List.getElem?_toArray, List.getElem?_cons_succ, List.getElem?_cons_zero]; rfl)
          case hq83 => exact fun _ _ _ h => h
          case hy83 => exact Or.inl ⟨by rfl, by (intro W hSw; (try obtain ⟨s0, s1, s2, s3⟩ := hSw); go_simp; (try with_reducible rfl))⟩
          (try simp only [Act.put, List.setIfInBounds_toArray, List.set_cons_zero, List.set_cons_succ])
          refine wpAnyH_take (i := 19) (oi := ?oo84) (v := ?vv84) ?hi84 (by kernel_rfl) (by kernel_rfl) (by kernel_rfl) ?hq84 ?hy84 ⟨by rw [kt.cell]; rfl, by rw [kt.cell]; rfl, by rw [kt.cell]; rfl, by rw [kt.cell]; rfl⟩ ?hh84
          case hi84 => (simp only [List.getElem?_toArray, List.getElem?_cons_succ, List.getElem?_cons_zero]; rfl)
          case hq84 => exact fun _ _ _ h => h
          case hy84 => exact Or.inl ⟨by rfl, by (intro W hSw; (try obtain ⟨s0, s1, s2, s3⟩ := hSw); go_simp; (try with_reducible rfl))⟩
          (try simp only [Act.put, List.setIfInBounds_toArray, List.set_cons_zero, List.set_cons_succ])
          refine wpAnyH_done (by kernel_rfl) ?_ _
          go_wp2_with fail
          have b0 : D.cell? ⟨w.heap.size, 0, none⟩ = some (.int .i64 3) := by rw [kb.cell]; rfl
          have b1 : D.cell? ⟨w.heap.size, 1, none⟩ = some (.string tx) := by rw [kb.cell]; rfl
          have b2 : D.cell? ⟨w.heap.size, 2, none⟩ = some (.int .i64 0) := by rw [kb.cell]; rfl
          have b3 : D.cell? ⟨w.heap.size, 3, none⟩ = some (.int .i64 acc) := by rw [kb.cell]; rfl
          have hlb := kb.lt
          exact bodyPost_ret (v := .tuple #[TokV 3 tx 0 acc, .int .i64 k, .bool true]) (by simp [results, Tryd.results18, go_sem, b0, b1, b2, b3, hlb]) rfl ⟨tx, acc, k, true, rfl, HNR.out, bb⟩
        · clear hhd he0
          have hhd := HH.out
          have he0 := HE0.out
          have hok : numOk (s.data.toList.drop a) (k - a) = false := by simp [numOk, hhd, hz1, he0]
          have HNR := Lib.hid (num_fin s a k acc res tx _ hak HE.out htx hok)
          clear hok
          go_upto_region 10 with fail
          clear x0 x1 x2 x3 z0 z1 z2 z3 v0 v1 v2 v3 u0 u1 u2 u3 hlt hlb
          have bb := (bb.setCell (p := ⟨w.heap.size + 1, 1, none⟩) (by show _ ≤ w.heap.size + 1; omega) (.string tx)).drew
          have kb := (kb.far (p := ⟨w.heap.size + 1, 1, none⟩) (by show w.heap.size ≠ w.heap.size + 1; omega) (.string tx)).drew
          have kt : Blk _ (w.heap.size + 1) 31 #[.int .i64 3, .string tx, .int .i64 0, .int .i64 acc] := (kt.set_ 1 (.string tx)).drew
          refine wp_region_held_drew (S := (fun W => W.cell? ⟨w.heap.size + 1, 0, none⟩ = some (.int .i64 3) ∧ W.cell? ⟨w.heap.size + 1, 1, none⟩ = some (.string tx) ∧ W.cell? ⟨w.heap.size + 1, 2, none⟩ = some (.int .i64 0) ∧ W.cell? ⟨w.heap.size + 1, 3, none⟩ = some (.int .i64 acc))) (by kernel_rfl) ⟨by rw [kt.cell]; rfl, by rw [kt.cell]; rfl, by rw [kt.cell]; rfl, by rw [kt.cell]; rfl⟩ (fun _ => ?_)
          generalize (wr.setCell ⟨w.heap.size + 1, 1, none⟩ (.string tx)).drew = D at *
          change wpAnyH _ _ _ _ _ 20 #[false, false, false, false, false, false, false, false, false, false, false, false, false, false, false, false, false, false, false, false] _ _
          refine wpAnyH_take (i := 0) (oi := ?oo85) (v := ?vv85) ?hi85 (by kernel_rfl) (by kernel_rfl) (by kernel_rfl) ?hq85 ?hy85 ⟨by rw [kt.cell]; rfl, by rw [kt.cell]; rfl, by rw [kt.cell]; rfl, by rw [kt.cell]; rfl⟩ ?hh85
          case hi85 => (simp only [List.getElem?_toArray, List.getElem?_cons_succ, List.getElem?_cons_zero]; rfl)
          case hq85 => exact fun _ _ _ h => h
          case hy85 => exact Or.inl ⟨by rfl, by (intro W hSw; (try obtain ⟨s0, s1, s2, s3⟩ := hSw); go_simp; (try with_reducible rfl))⟩
          (try simp only [Act.put, List.setIfInBounds_toArray, List.set_cons_zero, List.set_cons_succ])
          refine wpAnyH_take (i := 1) (oi := ?oo86) (v := ?vv86) ?hi86 (by kernel_rfl) (by kernel_rfl) (by kernel_rfl) ?hq86 ?hy86 ⟨by rw [kt.cell]; rfl, by rw [kt.cell]; rfl, by rw [kt.cell]; rfl, by rw [kt.cell]; rfl⟩ ?hh86
          case hi86 => (simp only [List.getElem?_toArray, List.getElem?_cons_succ, List.getElem?_cons_zero]; rfl)
          case hq86 => exact fun _ _ _ h => h
          case hy86 => exact Or.inl ⟨by rfl, by (intro W hSw; (try obtain ⟨s0, s1, s2, s3⟩ := hSw); go_simp; (try with_reducible rfl))⟩
          (try simp only [Act.put, List.setIfInBounds_toArray, List.set_cons_zero, List.set_cons_succ])
          refine wpAnyH_take (i := 2) (oi := ?oo87) (v := ?vv87) ?hi87 (by kernel_rfl) (by kernel_rfl) (by kernel_rfl) ?hq87 ?hy87 ⟨by rw [kt.cell]; rfl, by rw [kt.cell]; rfl, by rw [kt.cell]; rfl, by rw [kt.cell]; rfl⟩ ?hh87
          case hi87 => (simp only [List.getElem?_toArray, List.getElem?_cons_succ, List.getElem?_cons_zero]; rfl)
          case hq87 => exact fun _ _ _ h => h
          case hy87 => exact Or.inl ⟨by rfl, by (intro W hSw; (try obtain ⟨s0, s1, s2, s3⟩ := hSw); go_simp; (try with_reducible rfl))⟩
          (try simp only [Act.put, List.setIfInBounds_toArray, List.set_cons_zero, List.set_cons_succ])
          refine wpAnyH_take (i := 3) (oi := ?oo88) (v := ?vv88) ?hi88 (by kernel_rfl) (by kernel_rfl) (by kernel_rfl) ?hq88 ?hy88 ⟨by rw [kt.cell]; rfl, by rw [kt.cell]; rfl, by rw [kt.cell]; rfl, by rw [kt.cell]; rfl⟩ ?hh88
          case hi88 => (simp only [List.getElem?_toArray, List.getElem?_cons_succ, List.getElem?_cons_zero]; rfl)
          case hq88 => exact fun _ _ _ h => h
          case hy88 => exact Or.inl ⟨by rfl, by (intro W hSw; (try obtain ⟨s0, s1, s2, s3⟩ := hSw); go_simp; (try with_reducible rfl))⟩
          (try simp only [Act.put, List.setIfInBounds_toArray, List.set_cons_zero, List.set_cons_succ])
          refine wpAnyH_take (i := 4) (oi := ?oo89) (v := ?vv89) ?hi89 (by kernel_rfl) (by kernel_rfl) (by kernel_rfl) ?hq89 ?hy89 ⟨by rw [kt.cell]; rfl, by rw [kt.cell]; rfl, by rw [kt.cell]; rfl, by rw [kt.cell]; rfl⟩ ?hh89
          case hi89 => (simp only [List.getElem?_toArray, List.getElem?_cons_succ, List.getElem?_cons_zero]; rfl)
          case hq89 => exact fun _ _ _ h => h
          case hy89 => exact Or.inl ⟨by rfl, by (intro W hSw; (try obtain ⟨s0, s1, s2, s3⟩ := hSw); go_simp; (try with_reducible rfl))⟩
          (try simp only [Act.put, List.setIfInBounds_toArray, List.set_cons_zero, List.set_cons_succ])
          refine wpAnyH_take (i := 5) (oi := ?oo90) (v := undef) ?hi90 (by kernel_rfl) (by kernel_rfl) (by kernel_rfl) ?hq90 ?hy90 ⟨by rw [kt.cell]; rfl, by rw [kt.cell]; rfl, by rw [kt.cell]; rfl, by rw [kt.cell]; rfl⟩ ?hh90
          case hi90 => (simp only [List.getElem?_toArray, List.getElem?_cons_succ, List.getElem?_cons_zero]; rfl)
          case hq90 => exact fun _ _ _ h => h
          case hy90 => exact Or.inr ⟨by rfl, rfl⟩
          (try simp only [Act.put, List.setIfInBounds_toArray, List.set_cons_zero, List.set_cons_succ])
          refine wpAnyH_take (i := 6) (oi := ?oo91) (v := undef) ?hi91 (by kernel_rfl) (by kernel_rfl) (by kernel_rfl) ?hq91 ?hy91 ⟨by rw [kt.cell]; rfl, by rw [kt.cell]; rfl, by rw [kt.cell]; rfl, by rw [kt.cell]; rfl⟩ ?hh91
          case hi91 => (simp only [List.getElem?_toArray, List.getElem?_cons_succ, List.getElem?_cons_zero]; rfl)
          case hq91 => exact fun _ _ _ h => h
          case hy91 => exact Or.inr ⟨by rfl, rfl⟩
          (try simp only [Act.put, List.setIfInBounds_toArray, List.set_cons_zero, List.set_cons_succ])
          refine wpAnyH_take (i := 7) (oi := ?oo92) (v := undef) ?hi92 (by kernel_rfl) (by kernel_rfl) (by kernel_rfl) ?hq92 ?hy92 ⟨by rw [kt.cell]; rfl, by rw [kt.cell]; rfl, by rw [kt.cell]; rfl, by rw [kt.cell]; rfl⟩ ?hh92
          case hi92 => (simp only [List.getElem?_toArray, List.getElem?_cons_succ, List.getElem?_cons_zero]; rfl)
          case hq92 => exact fun _ _ _ h => h
          case hy92 => exact Or.inr ⟨by rfl, rfl⟩
          (try simp only [Act.put, List.setIfInBounds_toArray, List.set_cons_zero, List.set_cons_succ])
          refine wpAnyH_take (i := 8) (oi := ?oo93) (v := undef) ?hi93 (by kernel_rfl) (by kernel_rfl) (by kernel_rfl) ?hq93 ?hy93 ⟨by rw [kt.cell]; rfl, by rw [kt.cell]; rfl, by rw [kt.cell]; rfl, by rw [kt.cell]; rfl⟩ ?hh93
          case hi93 => (simp only [List.getElem?_toArray, List.getElem?_cons_succ, List.getElem?_cons_zero]; rfl)
          case hq93 => exact fun _ _ _ h => h
          case hy93 => exact Or.inr ⟨by rfl, rfl⟩
          (try simp only [Act.put, List.setIfInBounds_toArray, List.set_cons_zero, List.set_cons_succ])
          refine wpAnyH_take (i := 9) (oi := ?oo94) (v := undef) ?hi94 (by kernel_rfl) (by kernel_rfl) (by kernel_rfl) ?hq94 ?hy94 ⟨by rw [kt.cell]; rfl, by rw [kt.cell]; rfl, by rw [kt.cell]; rfl, by rw [kt.cell]; rfl⟩ ?hh94
          case hi94 => (simp only [List.getElem?_toArray, List.getElem?_cons_succ, List.getElem?_cons_zero]; rfl)
          case hq94 => exact fun _ _ _ h => h
          case hy94 => exact Or.inr ⟨by rfl, rfl⟩
          (try simp only [Act.put, List.setIfInBounds_toArray, List.set_cons_zero, List.set_cons_succ])
          refine wpAnyH_take (i := 10) (oi := ?oo95) (v := undef) ?hi95 (by kernel_rfl) (by kernel_rfl) (by kernel_rfl) ?hq95 ?hy95 ⟨by rw [kt.cell]; rfl, by rw [kt.cell]; rfl, by rw [kt.cell]; rfl, by rw [kt.cell]; rfl⟩ ?hh95
          case hi95 => (simp only [List.getElem?_toArray, List.getElem?_cons_succ, List.getElem?_cons_zero]; rfl)
          case hq95 => exact fun _ _ _ h => h
          case hy95 => exact Or.inr ⟨by rfl, rfl⟩
          (try simp only [Act.put, List.setIfInBounds_toArray, List.set_cons_zero, List.set_cons_succ])
          refine wpAnyH_take (i := 11) (oi := ?oo96) (v := undef) ?hi96 (by kernel_rfl) (by kernel_rfl) (by kernel_rfl) ?hq96 ?hy96 ⟨by rw [kt.cell]; rfl, by rw [kt.cell]; rfl, by rw [kt.cell]; rfl, by rw [kt.cell]; rfl⟩ ?hh96
          case hi96 => (simp only [List.getElem?_toArray, List.getElem?_cons_succ, List.getElem?_cons_zero]; rfl)
          case hq96 => exact fun _ _ _ h => h
          case hy96 => exact Or.inr ⟨by rfl, rfl⟩
          (try simp only [Act.put, List.setIfInBounds_toArray, List.set_cons_zero, List.set_cons_succ])
          refine wpAnyH_take (i := 12) (oi := ?oo97) (v := undef) ?hi97 (by kernel_rfl) (by kernel_rfl) (by kernel_rfl) ?hq97 ?hy97 ⟨by rw [kt.cell]; rfl, by rw [kt.cell]; rfl, by rw [kt.cell]; rfl, by rw [kt.cell]; rfl⟩ ?hh97
          case hi97 => (simp only [List.getElem?_toArray, List.getElem?_cons_succ, List.getElem?_cons_zero]; rfl)
          case hq97 => exact fun _ _ _ h => h
          case hy97 => exact Or.inr ⟨by rfl, rfl⟩
          (try simp only [Act.put, List.setIfInBounds_toArray, List.set_cons_zero, List.set_cons_succ])
          refine wpAnyH_take (i := 13) (oi := ?oo98) (v := undef) ?hi98 (by kernel_rfl) (by kernel_rfl) (by kernel_rfl) ?hq98 ?hy98 ⟨by rw [kt.cell]; rfl, by rw [kt.cell]; rfl, by rw [kt.cell]; rfl, by rw [kt.cell]; rfl⟩ ?hh98
          case hi98 => (simp only [List.getElem?_toArray, List.getElem?_cons_succ, List.getElem?_cons_zero]; rfl)
          case hq98 => exact fun _ _ _ h => h
          case hy98 => exact Or.inr ⟨by rfl, rfl⟩
          (try simp only [Act.put, List.setIfInBounds_toArray, List.set_cons_zero, List.set_cons_succ])
          refine wpAnyH_take (i := 14) (oi := ?oo99) (v := undef) ?hi99 (by kernel_rfl) (by kernel_rfl) (by kernel_rfl) ?hq99 ?hy99 ⟨by rw [kt.cell]; rfl, by rw [kt.cell]; rfl, by rw [kt.cell]; rfl, by rw [kt.cell]; rfl⟩ ?hh99
          case hi99 => (simp only [List.getElem?_toArray, List.getElem?_cons_succ, List.getElem?_cons_zero]; rfl)
          case hq99 => exact fun _ _ _ h => h
          case hy99 => exact Or.inr ⟨by rfl, rfl⟩
          (try simp only [Act.put, List.setIfInBounds_toArray, List.set_cons_zero, List.set_cons_succ])
          refine wpAnyH_take (i := 15) (oi := ?oo100) (v := undef) ?hi100 (by kernel_rfl) (by kernel_rfl) (by kernel_rfl) ?hq100 ?hy100 ⟨by rw [kt.cell]; rfl, by rw [kt.cell]; rfl, by rw [kt.cell]; rfl, by rw [kt.cell]; rfl⟩ ?hh100
          case hi100 => (simp only [List.getElem?_toArray, List.getElem?_cons_succ, List.getElem?_cons_zero]; rfl)
          case hq100 => exact fun _ _ _ h => h
          case hy100 => exact Or.inr ⟨by rfl, rfl⟩
          (try simp only [Act.put, List.setIfInBounds_toArray, List.set_cons_zero, List.set_cons_succ])
          refine wpAnyH_take (i := 16) (oi := ?oo101) (v := ?vv101) ?hi101 (by kernel_rfl) (by kernel_rfl) (by kernel_rfl) ?hq101 ?hy101 ⟨by rw [kt.cell]; rfl, by rw [kt.cell]; rfl, by rw [kt.cell]; rfl, by rw [kt.cell]; rfl⟩ ?hh101
          case hi101 => (simp only [List.getElem?_toArray, List.getElem?_cons_succ, List.getElem?_cons_zero]; rfl)
          case hq101 => exact fun _ _ _ h => h
          case hy101 => exact Or.inl ⟨by rfl, by (intro W hSw; (try obtain ⟨s0, s1, s2, s3⟩ := hSw); go_simp; (try with_reducible rfl))⟩
          (try simp only [Act.put, List.setIfInBounds_toArray, List.set_cons_zero, List.set_cons_succ])
          refine wpAnyH_ready (rs := [17]) (by kernel_rfl) (by simp) ?_
          refine AllReadyH.cons rfl (fun K hK => ?_) AllReadyH.nil
          have b0 : D.cell? ⟨w.heap.size, 0, none⟩ = some (.int .i64 0) := by rw [kb.cell]; rfl
          have f0 := kb.frozen 0
          have b1 : D.cell? ⟨w.heap.size, 1, none⟩ = some (.string ⟨#[]⟩) := by rw [kb.cell]; rfl
          have f1 := kb.frozen 1
          have b2 : D.cell? ⟨w.heap.size, 2, none⟩ = some (.int .i64 0) := by rw [kb.cell]; rfl
          have f2 := kb.frozen 2
          have b3 : D.cell? ⟨w.heap.size, 3, none⟩ = some (.int .i64 0) := by rw [kb.cell]; rfl
          have f3 := kb.frozen 3
          have hlb := kb.lt
          go_simp
          clear b0 b1 b2 b3 f0 f1 f2 f3 hlb
          have kb : Blk ((((D.setCell ⟨w.heap.size, 0, none⟩ (.int .i64 3)).setCell ⟨w.heap.size, 1, none⟩ (.string tx)).setCell ⟨w.heap.size, 2, none⟩ (.int .i64 0)).setCell ⟨w.heap.size, 3, none⟩ (.int .i64 acc)) w.heap.size 31 #[.int .i64 3, .string tx, .int .i64 0, .int .i64 acc] := ((((kb.set_ 0 _).set_ 1 _).set_ 2 _).set_ 3 _)
          have kt : Blk ((((D.setCell ⟨w.heap.size, 0, none⟩ (.int .i64 3)).setCell ⟨w.heap.size, 1, none⟩ (.string tx)).setCell ⟨w.heap.size, 2, none⟩ (.int .i64 0)).setCell ⟨w.heap.size, 3, none⟩ (.int .i64 acc)) _ _ _ := ((((kt.far (p := ⟨w.heap.size, 0, none⟩) (by show w.heap.size + 1 ≠ w.heap.size; omega) _).far (p := ⟨w.heap.size, 1, none⟩) (by show w.heap.size + 1 ≠ w.heap.size; omega) _).far (p := ⟨w.heap.size, 2, none⟩) (by show w.heap.size + 1 ≠ w.heap.size; omega) _).far (p := ⟨w.heap.size, 3, none⟩) (by show w.heap.size + 1 ≠ w.heap.size; omega) _)
          have bb : Below w.heap.size w ((((D.setCell ⟨w.heap.size, 0, none⟩ (.int .i64 3)).setCell ⟨w.heap.size, 1, none⟩ (.string tx)).setCell ⟨w.heap.size, 2, none⟩ (.int .i64 0)).setCell ⟨w.heap.size, 3, none⟩ (.int .i64 acc)) := ((((bb.setCell (p := ⟨w.heap.size, 0, none⟩) (by show _ ≤ w.heap.size; omega) _).setCell (p := ⟨w.heap.size, 1, none⟩) (by show _ ≤ w.heap.size; omega) _).setCell (p := ⟨w.heap.size, 2, none⟩) (by show _ ≤ w.heap.size; omega) _).setCell (p := ⟨w.heap.size, 3, none⟩) (by show _ ≤ w.heap.size; omega) _)
          refine hK.out _ _ ⟨by rw [kt.cell]; rfl, by rw [kt.cell]; rfl, by rw [kt.cell]; rfl, by rw [kt.cell]; rfl⟩ (fun _ => ?_)
          clear hK K
          generalize ((((D.setCell ⟨w.heap.size, 0, none⟩ (.int .i64 3)).setCell ⟨w.heap.size, 1, none⟩ (.string tx)).setCell ⟨w.heap.size, 2, none⟩ (.int .i64 0)).setCell ⟨w.heap.size, 3, none⟩ (.int .i64 acc)) = D at *
          (try simp only [Act.put, List.setIfInBounds_toArray, List.set_cons_zero, List.set_cons_succ])
          refine wpAnyH_take (i := 18) (oi := ?oo102) (v := ?vv102) ?hi102 (by kernel_rfl) (by kernel_rfl) (by kernel_rfl) ?hq102 ?hy102 ⟨by rw [kt.cell]; rfl, by rw [kt.cell]; rfl, by rw [kt.cell]; rfl, by rw [kt.cell]; rfl⟩ ?hh102
          case hi102 => (simp only [List.getElem?_toArray, List.getElem?_cons_succ, List.getElem?_cons_zero]; rfl)
          case hq102 => exact fun _ _ _ h => h
          case hy102 => exact Or.inl ⟨by rfl, by (intro W hSw; (try obtain ⟨s0, s1, s2, s3⟩ := hSw); go_simp; (try with_reducible rfl))⟩
          (try simp only [Act.put, List.setIfInBounds_toArray, List.set_cons_zero, List.set_cons_succ])
          refine wpAnyH_take (i := 19) (oi := ?oo103) (v := ?vv103) ?hi103 (by kernel_rfl) (by kernel_rfl) (by kernel_rfl) ?hq103 ?hy103 ⟨by rw [kt.cell]; rfl, by rw [kt.cell]; rfl, by rw [kt.cell]; rfl, by rw [kt.cell]; rfl⟩ ?hh103
          case hi103 => (simp only [List.getElem?_toArray, List.getElem?_cons_succ, List.getElem?_cons_zero]; rfl)
          case hq103 => exact fun _ _ _ h => h
          case hy103 => exact Or.inl ⟨by rfl, by (intro W hSw; (try obtain ⟨s0, s1, s2, s3⟩ := hSw); go_simp; (try with_reducible rfl))⟩
          (try simp only [Act.put, List.setIfInBounds_toArray, List.set_cons_zero, List.set_cons_succ])
          refine wpAnyH_done (by kernel_rfl) ?_ _
          go_wp2_with fail
          have b0 : D.cell? ⟨w.heap.size, 0, none⟩ = some (.int .i64 3) := by rw [kb.cell]; rfl
          have b1 : D.cell? ⟨w.heap.size, 1, none⟩ = some (.string tx) := by rw [kb.cell]; rfl
          have b2 : D.cell? ⟨w.heap.size, 2, none⟩ = some (.int .i64 0) := by rw [kb.cell]; rfl
          have b3 : D.cell? ⟨w.heap.size, 3, none⟩ = some (.int .i64 acc) := by rw [kb.cell]; rfl
          have hlb := kb.lt
          exact bodyPost_ret (v := .tuple #[TokV 3 tx 0 acc, .int .i64 k, .bool false]) (by simp [results, Tryd.results18, go_sem, b0, b1, b2, b3, hlb]) rfl ⟨tx, acc, k, false, rfl, HNR.out, bb⟩
      · have T1 : decide ((1 : Int) < ((k - a : Nat) : Int)) = false := by rw [decide_eq_false_iff_not]; omega
        have T2 : decide (1 < k - a) = false := by simpa using hz1
        have hok : numOk (s.data.toList.drop a) (k - a) = true := by simp [numOk, hz1, show a + (k - a) = k by omega, hkz]
        have HNR := Lib.hid (num_fin s a k acc res tx _ hak HE.out htx hok)
        clear hok
        go_upto_region 10 with fail
        clear x0 x1 x2 x3 z0 z1 z2 z3 v0 v1 v2 v3 u0 u1 u2 u3 hlt hlb
        have bb := (bb.setCell (p := ⟨w.heap.size + 1, 1, none⟩) (by show _ ≤ w.heap.size + 1; omega) (.string tx)).drew
        have kb := (kb.far (p := ⟨w.heap.size + 1, 1, none⟩) (by show w.heap.size ≠ w.heap.size + 1; omega) (.string tx)).drew
        have kt : Blk _ (w.heap.size + 1) 31 #[.int .i64 3, .string tx, .int .i64 0, .int .i64 acc] := (kt.set_ 1 (.string tx)).drew
        refine wp_region_held_drew (S := (fun W => W.cell? ⟨w.heap.size + 1, 0, none⟩ = some (.int .i64 3) ∧ W.cell? ⟨w.heap.size + 1, 1, none⟩ = some (.string tx) ∧ W.cell? ⟨w.heap.size + 1, 2, none⟩ = some (.int .i64 0) ∧ W.cell? ⟨w.heap.size + 1, 3, none⟩ = some (.int .i64 acc))) (by kernel_rfl) ⟨by rw [kt.cell]; rfl, by rw [kt.cell]; rfl, by rw [kt.cell]; rfl, by rw [kt.cell]; rfl⟩ (fun _ => ?_)
        generalize (wr.setCell ⟨w.heap.size + 1, 1, none⟩ (.string tx)).drew = D at *
        change wpAnyH _ _ _ _ _ 20 #[false, false, false, false, false, false, false, false, false, false, false, false, false, false, false, false, false, false, false, false] _ _
        refine wpAnyH_take (i := 0) (oi := ?oo104) (v := ?vv104) ?hi104 (by kernel_rfl) (by kernel_rfl) (by kernel_rfl) ?hq104 ?hy104 ⟨by rw [kt.cell]; rfl, by rw [kt.cell]; rfl, by rw [kt.cell]; rfl, by rw [kt.cell]; rfl⟩ ?hh104
        case hi104 => (simp only [List.getElem?_toArray, List.getElem?_cons_succ, List.getElem?_cons_zero]; rfl)
        case hq104 => exact fun _ _ _ h => h
        case hy104 => exact Or.inl ⟨by rfl, by (intro W hSw; (try obtain ⟨s0, s1, s2, s3⟩ := hSw); go_simp; (try with_reducible rfl))⟩
        (try simp only [Act.put, List.setIfInBounds_toArray, List.set_cons_zero, List.set_cons_succ])
        refine wpAnyH_take (i := 1) (oi := ?oo105) (v := ?vv105) ?hi105 (by kernel_rfl) (by kernel_rfl) (by kernel_rfl) ?hq105 ?hy105 ⟨by rw [kt.cell]; rfl, by rw [kt.cell]; rfl, by rw [kt.cell]; rfl, by rw [kt.cell]; rfl⟩ ?hh105
        case hi105 => (simp only [List.getElem?_toArray, List.getElem?_cons_succ, List.getElem?_cons_zero]; rfl)
        case hq105 => exact fun _ _ _ h => h
        case hy105 => exact Or.inl ⟨by rfl, by (intro W hSw; (try obtain ⟨s0, s1, s2, s3⟩ := hSw); go_simp; (try with_reducible rfl))⟩
        (try simp only [Act.put, List.setIfInBounds_toArray, List.set_cons_zero, List.set_cons_succ])
        refine wpAnyH_take (i := 2) (oi := ?oo106) (v := ?vv106) ?hi106 (by kernel_rfl) (by kernel_rfl) (by kernel_rfl) ?hq106 ?hy106 ⟨by rw [kt.cell]; rfl, by rw [kt.cell]; rfl, by rw [kt.cell]; rfl, by rw [kt.cell]; rfl⟩ ?hh106
        case hi106 => (simp only [List.getElem?_toArray, List.getElem?_cons_succ, List.getElem?_cons_zero]; rfl)
        case hq106 => exact fun _ _ _ h => h
        case hy106 => exact Or.inl ⟨by rfl, by (intro W hSw; (try obtain ⟨s0, s1, s2, s3⟩ := hSw); go_simp; (try with_reducible rfl))⟩
        (try simp only [Act.put, List.setIfInBounds_toArray, List.set_cons_zero, List.set_cons_succ])
        refine wpAnyH_take (i := 3) (oi := ?oo107) (v := ?vv107) ?hi107 (by kernel_rfl) (by kernel_rfl) (by kernel_rfl) ?hq107 ?hy107 ⟨by rw [kt.cell]; rfl, by rw [kt.cell]; rfl, by rw [kt.cell]; rfl, by rw [kt.cell]; rfl⟩ ?hh107
        case hi107 => (simp only [List.getElem?_toArray, List.getElem?_cons_succ, List.getElem?_cons_zero]; rfl)
        case hq107 => exact fun _ _ _ h => h
        case hy107 => exact Or.inl ⟨by rfl, by (intro W hSw; (try obtain ⟨s0, s1, s2, s3⟩ := hSw); go_simp; (try with_reducible rfl))⟩
        (try simp only [Act.put, List.setIfInBounds_toArray, List.set_cons_zero, List.set_cons_succ])
        refine wpAnyH_take (i := 4) (oi := ?oo108) (v := ?vv108) ?hi108 (by kernel_rfl) (by kernel_rfl) (by kernel_rfl) ?hq108 ?hy108 ⟨by rw [kt.cell]; rfl, by rw [kt.cell]; rfl, by rw [kt.cell]; rfl, by rw [kt.cell]; rfl⟩ ?hh108
        case hi108 => (simp only [List.getElem?_toArray, List.getElem?_cons_succ, List.getElem?_cons_zero]; rfl)
        case hq108 => exact fun _ _ _ h => h
        case hy108 => exact Or.inl ⟨by rfl, by (intro W hSw; (try obtain ⟨s0, s1, s2, s3⟩ := hSw); go_simp; (try with_reducible rfl))⟩
        (try simp only [Act.put, List.setIfInBounds_toArray, List.set_cons_zero, List.set_cons_succ])
        refine wpAnyH_take (i := 5) (oi := ?oo109) (v := ?vv109) ?hi109 (by kernel_rfl) (by kernel_rfl) (by kernel_rfl) ?hq109 ?hy109 ⟨by rw [kt.cell]; rfl, by rw [kt.cell]; rfl, by rw [kt.cell]; rfl, by rw [kt.cell]; rfl⟩ ?hh109
        case hi109 => (simp only [List.getElem?_toArray, List.getElem?_cons_succ, List.getElem?_cons_zero]; rfl)
        case hq109 => exact fun _ _ _ h => h
        case hy109 => exact Or.inl ⟨by rfl, by (intro W hSw; (try obtain ⟨s0, s1, s2, s3⟩ := hSw); go_simp; (try with_reducible rfl))⟩
        (try simp only [Act.put, List.setIfInBounds_toArray, List.set_cons_zero, List.set_cons_succ])
        refine wpAnyH_take (i := 6) (oi := ?oo110) (v := ?vv110) ?hi110 (by kernel_rfl) (by kernel_rfl) (by kernel_rfl) ?hq110 ?hy110 ⟨by rw [kt.cell]; rfl, by rw [kt.cell]; rfl, by rw [kt.cell]; rfl, by rw [kt.cell]; rfl⟩ ?hh110
        case hi110 => (simp only [List.getElem?_toArray, List.getElem?_cons_succ, List.getElem?_cons_zero]; rfl)
        case hq110 => exact fun _ _ _ h => h
        case hy110 => exact Or.inl ⟨by rfl, by (intro W hSw; (try obtain ⟨s0, s1, s2, s3⟩ := hSw); go_simp; (try with_reducible rfl))⟩
        (try simp only [Act.put, List.setIfInBounds_toArray, List.set_cons_zero, List.set_cons_succ])
        refine wpAnyH_take (i := 7) (oi := ?oo111) (v := ?vv111) ?hi111 (by kernel_rfl) (by kernel_rfl) (by kernel_rfl) ?hq111 ?hy111 ⟨by rw [kt.cell]; rfl, by rw [kt.cell]; rfl, by rw [kt.cell]; rfl, by rw [kt.cell]; rfl⟩ ?hh111
        case hi111 => (simp only [List.getElem?_toArray, List.getElem?_cons_succ, List.getElem?_cons_zero]; rfl)
        case hq111 => exact fun _ _ _ h => h
        case hy111 => exact Or.inl ⟨by rfl, by (intro W hSw; (try obtain ⟨s0, s1, s2, s3⟩ := hSw); go_simp; (try with_reducible rfl))⟩
        (try simp only [Act.put, List.setIfInBounds_toArray, List.set_cons_zero, List.set_cons_succ])
        refine wpAnyH_take (i := 8) (oi := ?oo112) (v := ?vv112) ?hi112 (by kernel_rfl) (by kernel_rfl) (by kernel_rfl) ?hq112 ?hy112 ⟨by rw [kt.cell]; rfl, by rw [kt.cell]; rfl, by rw [kt.cell]; rfl, by rw [kt.cell]; rfl⟩ ?hh112
        case hi112 => (simp only [List.getElem?_toArray, List.getElem?_cons_succ, List.getElem?_cons_zero]; rfl)
        case hq112 => exact fun _ _ _ h => h
        case hy112 => exact Or.inl ⟨by rfl, by (intro W hSw; (try obtain ⟨s0, s1, s2, s3⟩ := hSw); go_simp; (try with_reducible rfl))⟩
        (try simp only [Act.put, List.setIfInBounds_toArray, List.set_cons_zero, List.set_cons_succ])
        refine wpAnyH_take (i := 9) (oi := ?oo113) (v := ?vv113) ?hi113 (by kernel_rfl) (by kernel_rfl) (by kernel_rfl) ?hq113 ?hy113 ⟨by rw [kt.cell]; rfl, by rw [kt.cell]; rfl, by rw [kt.cell]; rfl, by rw [kt.cell]; rfl⟩ ?hh113
        case hi113 => (simp only [List.getElem?_toArray, List.getElem?_cons_succ, List.getElem?_cons_zero]; rfl)
        case hq113 => exact fun _ _ _ h => h
        case hy113 => exact Or.inl ⟨by rfl, by (intro W hSw; (try obtain ⟨s0, s1, s2, s3⟩ := hSw); go_simp; (try with_reducible rfl))⟩
        (try simp only [Act.put, List.setIfInBounds_toArray, List.set_cons_zero, List.set_cons_succ])
        refine wpAnyH_take (i := 10) (oi := ?oo114) (v := undef) ?hi114 (by kernel_rfl) (by kernel_rfl) (by kernel_rfl) ?hq114 ?hy114 ⟨by rw [kt.cell]; rfl, by rw [kt.cell]; rfl, by rw [kt.cell]; rfl, by rw [kt.cell]; rfl⟩ ?hh114
        case hi114 => (simp only [List.getElem?_toArray, List.getElem?_cons_succ, List.getElem?_cons_zero]; rfl)
        case hq114 => exact fun _ _ _ h => h
        case hy114 => exact Or.inr ⟨by rfl, rfl⟩
        (try simp only [Act.put, List.setIfInBounds_toArray, List.set_cons_zero, List.set_cons_succ])
        refine wpAnyH_take (i := 11) (oi := ?oo115) (v := undef) ?hi115 (by kernel_rfl) (by kernel_rfl) (by kernel_rfl) ?hq115 ?hy115 ⟨by rw [kt.cell]; rfl, by rw [kt.cell]; rfl, by rw [kt.cell]; rfl, by rw [kt.cell]; rfl⟩ ?hh115
        case hi115 => (simp only [List.getElem?_toArray, List.getElem?_cons_succ, List.getElem?_cons_zero]; rfl)
        case hq115 => exact fun _ _ _ h => h
        case hy115 => exact Or.inr ⟨by rfl, rfl⟩
        (try simp only [Act.put, List.setIfInBounds_toArray, List.set_cons_zero, List.set_cons_succ])
        refine wpAnyH_take (i := 12) (oi := ?oo116) (v := undef) ?hi116 (by kernel_rfl) (by kernel_rfl) (by kernel_rfl) ?hq116 ?hy116 ⟨by rw [kt.cell]; rfl, by rw [kt.cell]; rfl, by rw [kt.cell]; rfl, by rw [kt.cell]; rfl⟩ ?hh116
        case hi116 => (simp only [List.getElem?_toArray, List.getElem?_cons_succ, List.getElem?_cons_zero]; rfl)
        case hq116 => exact fun _ _ _ h => h
        case hy116 => exact Or.inr ⟨by rfl, rfl⟩
        (try simp only [Act.put, List.setIfInBounds_toArray, List.set_cons_zero, List.set_cons_succ])
        refine wpAnyH_take (i := 13) (oi := ?oo117) (v := undef) ?hi117 (by kernel_rfl) (by kernel_rfl) (by kernel_rfl) ?hq117 ?hy117 ⟨by rw [kt.cell]; rfl, by rw [kt.cell]; rfl, by rw [kt.cell]; rfl, by rw [kt.cell]; rfl⟩ ?hh117
        case hi117 => (simp only [List.getElem?_toArray, List.getElem?_cons_succ, List.getElem?_cons_zero]; rfl)
        case hq117 => exact fun _ _ _ h => h
        case hy117 => exact Or.inr ⟨by rfl, rfl⟩
        (try simp only [Act.put, List.setIfInBounds_toArray, List.set_cons_zero, List.set_cons_succ])
        refine wpAnyH_take (i := 14) (oi := ?oo118) (v := undef) ?hi118 (by kernel_rfl) (by kernel_rfl) (by kernel_rfl) ?hq118 ?hy118 ⟨by rw [kt.cell]; rfl, by rw [kt.cell]; rfl, by rw [kt.cell]; rfl, by rw [kt.cell]; rfl⟩ ?hh118
        case hi118 => (simp only [List.getElem?_toArray, List.getElem?_cons_succ, List.getElem?_cons_zero]; rfl)
        case hq118 => exact fun _ _ _ h => h
        case hy118 => exact Or.inr ⟨by rfl, rfl⟩
        (try simp only [Act.put, List.setIfInBounds_toArray, List.set_cons_zero, List.set_cons_succ])
        refine wpAnyH_take (i := 15) (oi := ?oo119) (v := ?vv119) ?hi119 (by kernel_rfl) (by kernel_rfl) (by kernel_rfl) ?hq119 ?hy119 ⟨by rw [kt.cell]; rfl, by rw [kt.cell]; rfl, by rw [kt.cell]; rfl, by rw [kt.cell]; rfl⟩ ?hh119
        case hi119 => (simp only [List.getElem?_toArray, List.getElem?_cons_succ, List.getElem?_cons_zero]; rfl)
        case hq119 => exact fun _ _ _ h => h
        case hy119 => exact Or.inl ⟨by rfl, by (intro W hSw; (try obtain ⟨s0, s1, s2, s3⟩ := hSw); go_simp; (try with_reducible rfl))⟩
        (try simp only [Act.put, List.setIfInBounds_toArray, List.set_cons_zero, List.set_cons_succ])
        refine wpAnyH_take (i := 16) (oi := ?oo120) (v := ?vv120) ?hi120 (by kernel_rfl) (by kernel_rfl) (by kernel_rfl) ?hq120 ?hy120 ⟨by rw [kt.cell]; rfl, by rw [kt.cell]; rfl, by rw [kt.cell]; rfl, by rw [kt.cell]; rfl⟩ ?hh120
        case hi120 => (simp only [List.getElem?_toArray, List.getElem?_cons_succ, List.getElem?_cons_zero]; rfl)
        case hq120 => exact fun _ _ _ h => h
        case hy120 => exact Or.inl ⟨by rfl, by (intro W hSw; (try obtain ⟨s0, s1, s2, s3⟩ := hSw); go_simp; (try with_reducible rfl))⟩
        (try simp only [Act.put, List.setIfInBounds_toArray, List.set_cons_zero, List.set_cons_succ])
        refine wpAnyH_ready (rs := [17]) (by kernel_rfl) (by simp) ?_
        refine AllReadyH.cons rfl (fun K hK => ?_) AllReadyH.nil
        have b0 : D.cell? ⟨w.heap.size, 0, none⟩ = some (.int .i64 0) := by rw [kb.cell]; rfl
        have f0 := kb.frozen 0
        have b1 : D.cell? ⟨w.heap.size, 1, none⟩ = some (.string ⟨#[]⟩) := by rw [kb.cell]; rfl
        have f1 := kb.frozen 1
        have b2 : D.cell? ⟨w.heap.size, 2, none⟩ = some (.int .i64 0) := by rw [kb.cell]; rfl
        have f2 := kb.frozen 2
        have b3 : D.cell? ⟨w.heap.size, 3, none⟩ = some (.int .i64 0) := by rw [kb.cell]; rfl
        have f3 := kb.frozen 3
        have hlb := kb.lt
        go_simp
        clear b0 b1 b2 b3 f0 f1 f2 f3 hlb
        have kb : Blk ((((D.setCell ⟨w.heap.size, 0, none⟩ (.int .i64 3)).setCell ⟨w.heap.size, 1, none⟩ (.string tx)).setCell ⟨w.heap.size, 2, none⟩ (.int .i64 0)).setCell ⟨w.heap.size, 3, none⟩ (.int .i64 acc)) w.heap.size 31 #[.int .i64 3, .string tx, .int .i64 0, .int .i64 acc] := ((((kb.set_ 0 _).set_ 1 _).set_ 2 _).set_ 3 _)
        have kt : Blk ((((D.setCell ⟨w.heap.size, 0, none⟩ (.int .i64 3)).setCell ⟨w.heap.size, 1, none⟩ (.string tx)).setCell ⟨w.heap.size, 2, none⟩ (.int .i64 0)).setCell ⟨w.heap.size, 3, none⟩ (.int .i64 acc)) _ _ _ := ((((kt.far (p := ⟨w.heap.size, 0, none⟩) (by show w.heap.size + 1 ≠ w.heap.size; omega) _).far (p := ⟨w.heap.size, 1, none⟩) (by show w.heap.size + 1 ≠ w.heap.size; omega) _).far (p := ⟨w.heap.size, 2, none⟩) (by show w.heap.size + 1 ≠ w.heap.size; omega) _).far (p := ⟨w.heap.size, 3, none⟩) (by show w.heap.size + 1 ≠ w.heap.size; omega) _)
        have bb : Below w.heap.size w ((((D.setCell ⟨w.heap.size, 0, none⟩ (.int .i64 3)).setCell ⟨w.heap.size, 1, none⟩ (.string tx)).setCell ⟨w.heap.size, 2, none⟩ (.int .i64 0)).setCell ⟨w.heap.size, 3, none⟩ (.int .i64 acc)) := ((((bb.setCell (p := ⟨w.heap.size, 0, none⟩) (by show _ ≤ w.heap.size; omega) _).setCell (p := ⟨w.heap.size, 1, none⟩) (by show _ ≤ w.heap.size; omega) _).setCell (p := ⟨w.heap.size, 2, none⟩) (by show _ ≤ w.heap.size; omega) _).setCell (p := ⟨w.heap.size, 3, none⟩) (by show _ ≤ w.heap.size; omega) _)
        refine hK.out _ _ ⟨by rw [kt.cell]; rfl, by rw [kt.cell]; rfl, by rw [kt.cell]; rfl, by rw [kt.cell]; rfl⟩ (fun _ => ?_)
        clear hK K
        generalize ((((D.setCell ⟨w.heap.size, 0, none⟩ (.int .i64 3)).setCell ⟨w.heap.size, 1, none⟩ (.string tx)).setCell ⟨w.heap.size, 2, none⟩ (.int .i64 0)).setCell ⟨w.heap.size, 3, none⟩ (.int .i64 acc)) = D at *
        (try simp only [Act.put, List.setIfInBounds_toArray, List.set_cons_zero, List.set_cons_succ])
        refine wpAnyH_take (i := 18) (oi := ?oo121) (v := ?vv121) ?hi121 (by kernel_rfl) (by kernel_rfl) (by kernel_rfl) ?hq121 ?hy121 ⟨by rw [kt.cell]; rfl, by rw [kt.cell]; rfl, by rw [kt.cell]; rfl, by rw [kt.cell]; rfl⟩ ?hh121
        case hi121 => (simp only [List.getElem?_toArray, List.getElem?_cons_succ, List.getElem?_cons_zero]; rfl)
        case hq121 => exact fun _ _ _ h => h
        case hy121 => exact Or.inl ⟨by rfl, by (intro W hSw; (try obtain ⟨s0, s1, s2, s3⟩ := hSw); go_simp; (try with_reducible rfl))⟩
        (try simp only [Act.put, List.setIfInBounds_toArray, List.set_cons_zero, List.set_cons_succ])
        refine wpAnyH_take (i := 19) (oi := ?oo122) (v := ?vv122) ?hi122 (by kernel_rfl) (by kernel_rfl) (by kernel_rfl) ?hq122 ?hy122 ⟨by rw [kt.cell]; rfl, by rw [kt.cell]; rfl, by rw [kt.cell]; rfl, by rw [kt.cell]; rfl⟩ ?hh122
        case hi122 => (simp only [List.getElem?_toArray, List.getElem?_cons_succ, List.getElem?_cons_zero]; rfl)
        case hq122 => exact fun _ _ _ h => h
        case hy122 => exact Or.inl ⟨by rfl, by (intro W hSw; (try obtain ⟨s0, s1, s2, s3⟩ := hSw); go_simp; (try with_reducible rfl))⟩
        (try simp only [Act.put, List.setIfInBounds_toArray, List.set_cons_zero, List.set_cons_succ])
        refine wpAnyH_done (by kernel_rfl) ?_ _
        go_wp2_with fail
        have b0 : D.cell? ⟨w.heap.size, 0, none⟩ = some (.int .i64 3) := by rw [kb.cell]; rfl
        have b1 : D.cell? ⟨w.heap.size, 1, none⟩ = some (.string tx) := by rw [kb.cell]; rfl
        have b2 : D.cell? ⟨w.heap.size, 2, none⟩ = some (.int .i64 0) := by rw [kb.cell]; rfl
        have b3 : D.cell? ⟨w.heap.size, 3, none⟩ = some (.int .i64 acc) := by rw [kb.cell]; rfl
        have hlb := kb.lt
        exact bodyPost_ret (v := .tuple #[TokV 3 tx 0 acc, .int .i64 k, .bool true]) (by simp [results, Tryd.results18, go_sem, b0, b1, b2, b3, hlb]) rfl ⟨tx, acc, k, true, rfl, HNR.out, bb⟩
end Go.Proofs.YtolfcmfilfjgfaaDoor
