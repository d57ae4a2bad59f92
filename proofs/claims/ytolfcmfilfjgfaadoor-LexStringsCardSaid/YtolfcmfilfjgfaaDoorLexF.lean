/- Strings: what 'quoted' computes. -/
import Derived.Test.YtolfcmfilfjgfaaDoorLexE
import Derived.Test.YtolfcmfilfjgfaaDoorLexC
import Derived.Test.YtolfcmfilfjgfaaDoorTxtQ
set_option linter.unusedVariables false
set_option linter.unusedSimpArgs false
namespace Go.Proofs.YtolfcmfilfjgfaaDoor
open Go.RowKit

/-- A string's units and length, from behind its quote: bytes to pass over, bytes left, plain bytes so far, units so far. -/
def quoL (q : UInt8) : Nat → List UInt8 → List UInt8 → List UInt8 → Option (List UInt8 × Nat)
  | _, [], _, _ => none
  | k + 1, _ :: r, pl, un => (quoL q k r pl un).map fun x => (x.1, x.2 + 1)
  | 0, b :: r, pl, un =>
    if b == 10 then none
    else if b == q then some (un ++ ofB ⟨pl.toArray⟩, 1)
    else if b != 92 then (quoL q 0 r (pl ++ [b]) un).map fun x => (x.1, x.2 + 1)
    else match escL r with
      | none => none
      | some (u, n) => (quoL q n r [] (un ++ (ofB ⟨pl.toArray⟩ ++ u))).map fun x => (x.1, x.2 + 1)
theorem quo_skip (q : UInt8) (k : Nat) : ∀ (r pl un : List UInt8), k ≤ r.length → quoL q k r pl un = (quoL q 0 (r.drop k) pl un).map fun x => (x.1, x.2 + k) := by
  induction k with
  | zero => intro r pl un _; simp
  | succ k ih =>
    intro r pl un h
    cases r with
    | nil => simp at h
    | cons b r =>
      rw [quoL, ih r pl un (by simpa using h), Option.map_map]
      congr 1
theorem ofB_length (s : ByteArray) : (ofB s).length ≤ 4 * s.size := by
  have := decUnits_length s s.size 0
  unfold ofB unitsOf
  rw [unitsB_length]; omega
theorem escL_len (r u : List UInt8) (n : Nat) (h : escL r = some (u, n)) : n ≤ r.length ∧ u.length ≤ 4 ∧ 1 ≤ n := by
  cases r with
  | nil => cases h
  | cons b r =>
    rw [escL] at h
    split at h
    · split at h
      · cases h
      · rename_i h1 h2
        rw [Option.map_eq_some_iff] at h
        obtain ⟨v, _, hv⟩ := h
        simp only [Prod.mk.injEq] at hv
        obtain ⟨rfl, rfl⟩ := hv
        simp only [Bool.or_eq_true, decide_eq_true_eq, not_or] at h2
        exact ⟨by simp only [List.length_cons]; omega, by simp [unitB], by omega⟩
    · simp only [Option.some.injEq, Prod.mk.injEq] at h
      obtain ⟨rfl, rfl⟩ := h
      refine ⟨by simp, ?_, by omega⟩
      have := ofB_length ((⟨#[10, 9, 0, 92, 39, 34]⟩ : ByteArray).extract (Lib.indexByte escsL b).toNat ((Lib.indexByte escsL b).toNat + 1))
      rw [ByteArray.size_extract] at this
      omega

/-- One round of 'quoted', as equations. -/
theorem quo_end (q b : UInt8) (r pl un : List UInt8) (h : (b == 10) = true) : quoL q 0 (b :: r) pl un = none := by rw [quoL, if_pos h]
theorem quo_hit (q b : UInt8) (r pl un : List UInt8) (h : (b == 10) = false) (h2 : (b == q) = true) : quoL q 0 (b :: r) pl un = some (un ++ ofB ⟨pl.toArray⟩, 1) := by rw [quoL, if_neg (by simp [h]), if_pos h2]
theorem quo_go (q b : UInt8) (r pl un : List UInt8) (h : (b == 10) = false) (h2 : (b == q) = false) (h3 : (b == 92) = false) : quoL q 0 (b :: r) pl un = (quoL q 0 r (pl ++ [b]) un).map fun x => (x.1, x.2 + 1) := by rw [quoL, if_neg (by simp [h]), if_neg (by simp [h2]), if_pos (by simp only [bne, h3]; rfl)]
theorem quo_bad (q b : UInt8) (r pl un : List UInt8) (h : (b == 10) = false) (h2 : (b == q) = false) (h3 : (b == 92) = true) (h4 : escL r = none) : quoL q 0 (b :: r) pl un = none := by rw [quoL, if_neg (by simp [h]), if_neg (by simp [h2]), if_neg (by simp only [bne, h3]; decide), h4]
theorem quo_esc (q b : UInt8) (r pl un u : List UInt8) (n : Nat) (h : (b == 10) = false) (h2 : (b == q) = false) (h3 : (b == 92) = true) (h4 : escL r = some (u, n)) :
    quoL q 0 (b :: r) pl un = (quoL q 0 (r.drop n) [] (un ++ (ofB ⟨pl.toArray⟩ ++ u))).map fun x => (x.1, x.2 + (n + 1)) := by
  rw [quoL, if_neg (by simp [h]), if_neg (by simp [h2]), if_neg (by simp only [bne, h3]; decide), h4]
  simp only
  rw [quo_skip q n r _ _ (escL_len _ _ _ h4).1, Option.map_map]
  congr 1

/-- What the token's place holds: the bytes plain so far. -/
def plB (s : ByteArray) (p k : Nat) : List UInt8 := (s.data.toList.drop p).take (k - p)
theorem plB_ext (s : ByteArray) (p k : Nat) : (⟨(plB s p k).toArray⟩ : ByteArray) = s.extract p k := by
  have := ext_piece s p k
  unfold plB
  rw [← this]
theorem plB_snoc (s : ByteArray) (p k : Nat) (hp : p ≤ k) (hk : k < s.size) : plB s p (k + 1) = plB s p k ++ [s[k]] := by
  unfold plB
  rw [show k + 1 - p = k - p + 1 by omega, List.take_succ_eq_append_getElem (by rw [List.length_drop, len_of]; omega)]
  congr 2
  rw [List.getElem_drop]
  have : p + (k - p) = k := by omega
  simp only [this]
  rfl
theorem plB_nil (s : ByteArray) (p : Nat) : plB s p p = [] := by unfold plB; simp
def QuoR (R : Option (List UInt8 × Nat)) (a : Nat) (t : Value) (F : Int) (ok : Bool) : Prop :=
  match R with
  | none => ok = false
  | some (u, n) => t = TokV 4 ⟨u.toArray⟩ 0 0 ∧ F = ((a + n : Nat) : Int) ∧ ok = true

theorem ba_app (x y : List UInt8) : ((⟨x.toArray⟩ : ByteArray) ++ ⟨y.toArray⟩) = ⟨(x ++ y).toArray⟩ := ByteArray.ext (by rw [ByteArray.data_append]; simp)
theorem escape_k (s : ByteArray) (k : Nat) (E : Option (List UInt8 × Nat)) (hs : s.size ≤ 16384) (HE : Hid (escL (s.data.toList.drop k) = E)) (w : World) :
    Calls Tryd.prog 26 #[.string (s.extract k s.size)] w fun e w' => e = .returned (escV E) ∧ Below w.heap.size w w' := by
  refine (escape_any _ w (by rw [ByteArray.size_extract]; omega)).mono ?_
  rintro e w' ⟨rfl, b⟩
  exact ⟨by rw [ext_drop, HE.out], b⟩
theorem of_k (s : ByteArray) (i j : Nat) (B : List UInt8) (hs : s.size ≤ 16384) (HB : Hid (ofB (s.extract i j) = B)) (w : World) :
    Calls Tryd.prog 25 #[.string (s.extract i j)] w fun e w' => e = .returned (.string ⟨B.toArray⟩) ∧ Below w.heap.size w w' := by
  refine (of_any _ w (by rw [ByteArray.size_extract]; omega)).mono ?_
  rintro e w' ⟨rfl, b⟩
  exact ⟨by rw [HB.out], b⟩

set_option maxHeartbeats 2000000 in
set_option maxRecDepth 100000 in
theorem quoted_any (s : ByteArray) (a : Nat) (R : Option (List UInt8 × Nat)) (w : World) (ha : a < s.size) (hs : s.size ≤ 16384) (HR : Hid ((quoL s[a] 0 (s.data.toList.drop (a + 1)) [] []).map (fun x => (x.1, x.2 + 1)) = R)) :
    Calls Tryd.prog 19 #[.string s, .int .i64 a] w fun e w' => ∃ k txt N F ok, e = .returned (.tuple #[TokV k txt 0 N, .int .i64 F, .bool ok]) ∧ QuoR R a (TokV k txt 0 N) F ok ∧ Below w.heap.size w w' := by
  have hlen := len_of s
  have xa0 : (0 : Int) ≤ a := by omega
  have xa1 : (a : Int) < s.size := by omega
  have xa2 : (a : Int).toNat = a := by omega
  have wa : IntKind.i64.wrap ((a : Int) + 1) = ((a + 1 : Nat) : Int) := by rw [IntWalk.i64_in _ (by omega)]; rfl
  obtain ⟨q, hq⟩ : ∃ q, s[a] = q := ⟨_, rfl⟩
  rw [hq] at HR
  go_enter Tryd.func19, Tryd.ntmps19
  go_wp2_with fail
  try rw [hq]
  clear hq
  go_loopw [8, 9, 10] (fun vp vu vi wr => ∃ (k p : Nat) (U : List UInt8), k ≤ s.size ∧ a + 1 ≤ p ∧ p ≤ k ∧ vp = .int .i64 p ∧ vu = .string ⟨U.toArray⟩ ∧ vi = .int .i64 k ∧
    (quoL q 0 (s.data.toList.drop k) (plB s p k) U).map (fun x => (x.1, x.2 + (k - a))) = R ∧ U.length ≤ 4 * (p - a) ∧ Below w.heap.size w wr ∧ Blk wr w.heap.size 31 #[.int .i64 0, .string ⟨#[]⟩, .int .i64 0, .int .i64 0]) (fun _ _ vi _ => s.size - (intOf vi).toNat)
  case atStart =>
    refine ⟨a + 1, a + 1, [], by omega, Nat.le_refl _, Nat.le_refl _, rfl, rfl, rfl, ?_, by simp, (Below.refl _ w).alloc (Nat.le_refl _) _, Blk.new w _ _⟩
    rw [plB_nil, ← HR.out, show a + 1 - a = 1 by omega]
  case round =>
    obtain ⟨k, p, U, hk, hap, hpk, rfl, rfl, rfl, h1, hU, bb, kb⟩ := hrel
    have H1 := Lib.hid h1
    clear h1
    by_cases hl : k < s.size
    · have L1 : decide ((k : Int) < (s.size : Int)) = true := by simpa using hl
      have hd := drop_at s k hl
      have y0 : (0 : Int) ≤ k := by omega
      have y1 : (k : Int) < s.size := by omega
      have y2 : (k : Int).toNat = k := by omega
      have a1 : IntKind.i64.wrap ((k : Int) + 1) = ((k + 1 : Nat) : Int) := by rw [IntWalk.i64_in _ (by omega)]; rfl
      have hsn := plB_snoc s p k hpk hl
      obtain ⟨g1, e1⟩ : ∃ g, ((s[k].toNat : Int) == 10) = g := ⟨_, rfl⟩
      obtain ⟨g2, e2⟩ : ∃ g, ((s[k].toNat : Int) == (q.toNat : Int)) = g := ⟨_, rfl⟩
      obtain ⟨g3, e3⟩ : ∃ g, ((s[k].toNat : Int) == 92) = g := ⟨_, rfl⟩
      have G1 := Lib.hid (show (s[k] == 10) = g1 by rw [u8_eq]; exact e1)
      have G2 := Lib.hid (show (s[k] == q) = g2 by rw [u8_eq]; exact e2)
      have G3 := Lib.hid (show (s[k] == 92) = g3 by rw [u8_eq]; exact e3)
      have HD := Lib.hid hd
      have HSN := Lib.hid hsn
      clear hd hsn
      cases g1
      · cases g2
        · cases g3
          · go_wp2
            go_roundw
            case rel =>
              refine ⟨k + 1, p, U, by omega, hap, by omega, rfl, rfl, rfl, ?_, hU, bb, kb⟩
              rw [← H1.out, HD.out, quo_go q _ _ _ _ G1.out G2.out G3.out, HSN.out, Option.map_map]
              congr 1
              funext x
              simp only [Function.comp, Prod.mk.injEq, true_and]
              omega
            case measure => simp only [intOf]; omega
          · obtain ⟨E, hE⟩ : ∃ E, escL (s.data.toList.drop (k + 1)) = E := ⟨_, rfl⟩
            have HE := Lib.hid hE
            clear hE
            have z1 : ((k + 1 : Nat) : Int) ≤ s.size := by omega
            have z0 : (0 : Int) ≤ ((k + 1 : Nat) : Int) := by omega
            have z2 : ((k + 1 : Nat) : Int).toNat = k + 1 := by omega
            go_wp2_with fail
            refine (escape_k s (k + 1) E hs HE _).mono ?_
            rintro e W1 ⟨rfl, b1⟩
            have kb1 := kb.below b1 kb.lt
            have bb1 := bb.trans (b1.mono bb.size)
            clear bb kb b1
            cases E with
            | none =>
              simp only [escV]
              have hR : R = none := by rw [← H1.out, HD.out, quo_bad q _ _ _ _ G1.out G2.out G3.out HE.out]; rfl
              have x0 : W1.cell? ⟨w.heap.size, 0, none⟩ = some (.int .i64 0) := by rw [kb1.cell]; rfl
              have xf0 := kb1.frozen 0
              have x1 : W1.cell? ⟨w.heap.size, 1, none⟩ = some (.string ⟨#[]⟩) := by rw [kb1.cell]; rfl
              have xf1 := kb1.frozen 1
              have x2 : W1.cell? ⟨w.heap.size, 2, none⟩ = some (.int .i64 0) := by rw [kb1.cell]; rfl
              have xf2 := kb1.frozen 2
              have x3 : W1.cell? ⟨w.heap.size, 3, none⟩ = some (.int .i64 0) := by rw [kb1.cell]; rfl
              have xf3 := kb1.frozen 3
              have xl := kb1.lt
              go_wp2
              exact bodyPost_ret (v := .tuple #[TokV 0 ⟨#[]⟩ 0 0, .int .i64 a, .bool false]) (by simp [results, Tryd.results19, go_sem, x0, x1, x2, x3, xl, ba_app]) rfl ⟨0, ⟨#[]⟩, 0, a, false, rfl, by rw [hR]; rfl, by repeat (first | with_reducible assumption | (refine Below.setCell ?_ (by first | omega | (simp; omega) | simp) _))⟩
            | some un =>
              obtain ⟨u, n⟩ := un
              simp only [escV]
              obtain ⟨n1, n2, n3⟩ := escL_len _ _ _ HE.out
              rw [List.length_drop, hlen] at n1
              obtain ⟨B, hB⟩ : ∃ B, ofB (s.extract p k) = B := ⟨_, rfl⟩
              have hBl := ofB_length (s.extract p k)
              rw [hB, ByteArray.size_extract] at hBl
              have HB := Lib.hid hB
              clear hB
              have z3 : (0 : Int) ≤ (p : Int) := by omega
              have z4 : (p : Int) ≤ k := by omega
              have z5 : (k : Int) ≤ s.size := by omega
              have z6 : (p : Int).toNat = p := by omega
              have a2 : IntKind.i64.wrap (1 + (n : Int)) = ((1 + n : Nat) : Int) := by rw [IntWalk.i64_in _ (by omega)]; rfl
              have a3 : IntKind.i64.wrap ((k : Int) + ((1 + n : Nat) : Int)) = ((k + (1 + n) : Nat) : Int) := by rw [IntWalk.i64_in _ (by omega)]; omega
              go_wp2_with fail
              refine (of_k s p k B hs HB _).mono ?_
              rintro e W2 ⟨rfl, b2⟩
              have kb2 := kb1.below b2 kb1.lt
              have bb2 := bb1.trans (b2.mono bb1.size)
              clear bb1 kb1 b2
              have s1 : ¬ 9223372036854775807 < B.length + u.length := by omega
              have s2 : ¬ 9223372036854775807 < U.length + (B.length + u.length) := by omega
              go_wp2
              go_roundw
              case rel =>
                refine ⟨k + (1 + n), k + (1 + n), U ++ (B ++ u), by omega, by omega, Nat.le_refl _, rfl, ?_, rfl, ?_, ?_, bb2, kb2⟩
                · simp [ba_app]
                · rw [← H1.out, HD.out, quo_esc q _ _ _ _ u n G1.out G2.out G3.out HE.out, plB_ext, HB.out, List.drop_drop, plB_nil, Option.map_map, show k + 1 + n = k + (1 + n) by omega]
                  congr 1
                  funext x
                  simp only [Function.comp, Prod.mk.injEq, true_and]
                  omega
                · simp only [List.length_append]; omega
              case measure => simp only [intOf]; omega
        · obtain ⟨B, hB⟩ : ∃ B, ofB (s.extract p k) = B := ⟨_, rfl⟩
          have hBl := ofB_length (s.extract p k)
          rw [hB, ByteArray.size_extract] at hBl
          have HB := Lib.hid hB
          clear hB
          have hR : R = some (U ++ B, k + 1 - a) := by
            rw [← H1.out, HD.out, quo_hit q _ _ _ _ G1.out G2.out, plB_ext, HB.out]
            simp; omega
          have HRR := Lib.hid hR
          clear hR
          have z3 : (0 : Int) ≤ (p : Int) := by omega
          have z4 : (p : Int) ≤ k := by omega
          have z5 : (k : Int) ≤ s.size := by omega
          have z6 : (p : Int).toNat = p := by omega
          have s2 : ¬ 9223372036854775807 < U.length + B.length := by omega
          go_wp2_with fail
          refine (of_k s p k B hs HB _).mono ?_
          rintro e W2 ⟨rfl, b2⟩
          have kb2 := kb.below b2 kb.lt
          have bb2 := bb.trans (b2.mono bb.size)
          clear bb kb b2
          have x0 : W2.cell? ⟨w.heap.size, 0, none⟩ = some (.int .i64 0) := by rw [kb2.cell]; rfl
          have xf0 := kb2.frozen 0
          have x1 : W2.cell? ⟨w.heap.size, 1, none⟩ = some (.string ⟨#[]⟩) := by rw [kb2.cell]; rfl
          have xf1 := kb2.frozen 1
          have x2 : W2.cell? ⟨w.heap.size, 2, none⟩ = some (.int .i64 0) := by rw [kb2.cell]; rfl
          have xf2 := kb2.frozen 2
          have x3 : W2.cell? ⟨w.heap.size, 3, none⟩ = some (.int .i64 0) := by rw [kb2.cell]; rfl
          have xf3 := kb2.frozen 3
          have xl := kb2.lt
          go_wp2
          exact bodyPost_ret (v := .tuple #[TokV 4 ⟨(U ++ B).toArray⟩ 0 0, .int .i64 ((k + 1 : Nat) : Int), .bool true]) (by simp [results, Tryd.results19, go_sem, x0, x1, x2, x3, xl, ba_app]) rfl ⟨4, ⟨(U ++ B).toArray⟩, 0, ((k + 1 : Nat) : Int), true, rfl, by rw [HRR.out]; exact ⟨rfl, by omega, rfl⟩, by repeat (first | with_reducible assumption | (refine Below.setCell ?_ (by first | omega | (simp; omega) | simp) _))⟩
      · have hR : R = none := by rw [← H1.out, HD.out, quo_end q _ _ _ _ G1.out]; rfl
        have x0 : wr.cell? ⟨w.heap.size, 0, none⟩ = some (.int .i64 0) := by rw [kb.cell]; rfl
        have xf0 := kb.frozen 0
        have x1 : wr.cell? ⟨w.heap.size, 1, none⟩ = some (.string ⟨#[]⟩) := by rw [kb.cell]; rfl
        have xf1 := kb.frozen 1
        have x2 : wr.cell? ⟨w.heap.size, 2, none⟩ = some (.int .i64 0) := by rw [kb.cell]; rfl
        have xf2 := kb.frozen 2
        have x3 : wr.cell? ⟨w.heap.size, 3, none⟩ = some (.int .i64 0) := by rw [kb.cell]; rfl
        have xf3 := kb.frozen 3
        have xl := kb.lt
        go_wp2
        exact bodyPost_ret (v := .tuple #[TokV 0 ⟨#[]⟩ 0 0, .int .i64 a, .bool false]) (by simp [results, Tryd.results19, go_sem, x0, x1, x2, x3, xl, ba_app]) rfl ⟨0, ⟨#[]⟩, 0, a, false, rfl, by rw [hR]; rfl, by repeat (first | with_reducible assumption | (refine Below.setCell ?_ (by first | omega | (simp; omega) | simp) _))⟩
    · have L1 : decide ((k : Int) < (s.size : Int)) = false := by simpa using hl
      have hz : s.data.toList.drop k = [] := List.drop_eq_nil_of_le (by omega)
      have hR : R = none := by rw [← H1.out, hz]; rfl
      have x0 : wr.cell? ⟨w.heap.size, 0, none⟩ = some (.int .i64 0) := by rw [kb.cell]; rfl
      have xf0 := kb.frozen 0
      have x1 : wr.cell? ⟨w.heap.size, 1, none⟩ = some (.string ⟨#[]⟩) := by rw [kb.cell]; rfl
      have xf1 := kb.frozen 1
      have x2 : wr.cell? ⟨w.heap.size, 2, none⟩ = some (.int .i64 0) := by rw [kb.cell]; rfl
      have xf2 := kb.frozen 2
      have x3 : wr.cell? ⟨w.heap.size, 3, none⟩ = some (.int .i64 0) := by rw [kb.cell]; rfl
      have xf3 := kb.frozen 3
      have xl := kb.lt
      go_wp2
      exact bodyPost_ret (v := .tuple #[TokV 0 ⟨#[]⟩ 0 0, .int .i64 a, .bool false]) (by simp [results, Tryd.results19, go_sem, x0, x1, x2, x3, xl, ba_app]) rfl ⟨0, ⟨#[]⟩, 0, a, false, rfl, by rw [hR]; rfl, by repeat (first | with_reducible assumption | (refine Below.setCell ?_ (by first | omega | (simp; omega) | simp) _))⟩
end Go.Proofs.YtolfcmfilfjgfaaDoor
