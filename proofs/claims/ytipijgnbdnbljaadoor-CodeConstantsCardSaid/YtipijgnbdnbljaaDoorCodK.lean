/- Contracts of text.Val of one letter, of a function's Constant and of its Emit. -/
import Derived.Test.YtipijgnbdnbljaaDoorCodF
import Derived.Test.YtipijgnbdnbljaaDoorTxtO
import Derived.Deep.DeepCutAuto
import Derived.Deep.CutBlock
import Derived.Deep.RegionLaw
import Derived.OwnWalk
import Derived.Laws.StructEq
import Derived.Outline
set_option linter.unusedVariables false
set_option linter.unusedSimpArgs false
namespace Go.Proofs.YtipijgnbdnbljaaDoor
open Go.RowKit

theorem ofB_byte (c : UInt8) (h : c.toNat < 128) : ofB ⟨#[c]⟩ = [0, c] := by
  have hs : (⟨#[c]⟩ : ByteArray).size = 1 := rfl
  have hd : Utf8.decode ⟨#[c]⟩ 0 = (c.toNat, 1) := decode_ascii ⟨#[c]⟩ 0 (by rw [hs]; decide) h
  unfold ofB unitsOf
  rw [hs, decUnits, if_pos (by rw [hs]; decide), hd, decUnits_end _ _ _ (by rw [hs]; simp)]
  simp only [runeUnits, if_pos (show c.toNat < 65536 by omega)]
  simp [unitsB, unitB]
  rw [show c.toNat / 256 = 0 by omega]; rfl

set_option maxHeartbeats 1000000 in
theorem val_byte (c : UInt8) (h : c.toNat < 128) (w : World) :
    Calls Tryd.prog 12 #[.string ⟨#[c]⟩] w fun e w' => e = .returned (.agg #[.int .i64 7, .int .i64 0, .string ⟨#[0, c]⟩]) ∧ Below w.heap.size w w' := by
  have C := Lib.hid (fun W => of_any ⟨#[c]⟩ W (show 1 ≤ 17592186044416 by decide))
  rw [ofB_byte c h] at C
  go_enter Tryd.func12, Tryd.ntmps12
  go_wp2_with fail
  refine (C.out _).mono ?_
  rintro e w1 ⟨rfl, b1⟩
  have hc : ∀ o, w1.cell? ⟨w.heap.size, o, none⟩ = (w.alloc (.cells #[.int .i64 0, .int .i64 0, .string ⟨#[]⟩] 41)).cell? ⟨w.heap.size, o, none⟩ := fun o => b1.cell (p := ⟨w.heap.size, o, none⟩) (by simp)
  have hf : ∀ o, w1.frozen? ⟨w.heap.size, o, none⟩ = (w.alloc (.cells #[.int .i64 0, .int .i64 0, .string ⟨#[]⟩] 41)).frozen? ⟨w.heap.size, o, none⟩ := fun o => b1.frozen (p := ⟨w.heap.size, o, none⟩) (by simp)
  have hz : w.heap.size < w1.heap.size := by have := b1.size; simp at this; omega
  go_wp2
  refine bodyPost_ret (v := .agg #[.int .i64 7, .int .i64 0, .string ⟨#[0, c]⟩]) (by simp [results, Tryd.results12, go_sem, hc]) rfl ⟨rfl, ?_⟩
  exact ((((((Below.refl _ _).alloc (Nat.le_refl _) _).trans (b1.mono (by simp))).setCell (p := ⟨w.heap.size, 0, none⟩) (Nat.le_refl _) _)).setCell (p := ⟨w.heap.size, 1, none⟩) (Nat.le_refl _) _).setCell (p := ⟨w.heap.size, 2, none⟩) (Nat.le_refl _) _

theorem infoVal : (Tryd.prog.info? 41).map (fun i => (i.zero, i.size, i.bytes)) = some (some (.agg #[.int .i64 0, .int .i64 0, .string ⟨#[]⟩]), 3, 32) := by kernel_rfl
def nilS : Value := .slice none 0 0
/-- A function's cells. -/
def FB (i c f : Value) : Array Value := #[.string ⟨#[]⟩, .int .i64 0, .int .i64 0, .bool false, .bool false, .bool false, .bool false, .bool false, i, c, f]
abbrev V := Int × Int × ByteArray
def vCells (l : List V) : List Value := l.flatMap fun x => [.int .i64 x.1, .int .i64 x.2.1, .string x.2.2]
theorem vCells_append (a b : List V) : vCells (a ++ b) = vCells a ++ vCells b := by simp [vCells]
def v0 : V := (0, 0, ⟨#[]⟩)
theorem vCells_get (l : List V) (k : Nat) (hk : k < l.length) : (vCells l)[k * 3]? = some (.int .i64 (l.getD k v0).1) ∧ (vCells l)[k * 3 + 1]? = some (.int .i64 (l.getD k v0).2.1) ∧ (vCells l)[k * 3 + 2]? = some (.string (l.getD k v0).2.2) := by
  induction l generalizing k with
  | nil => simp at hk
  | cons x l ih =>
    cases k with
    | zero => exact ⟨rfl, rfl, rfl⟩
    | succ k =>
      have := ih k (by simpa using hk)
      rw [show (k + 1) * 3 = k * 3 + 3 by omega]
      simpa [vCells] using this
/-- Are two values the same? -/
def veq (x y : V) : Bool := x.1 == y.1 && (x.2.1 == y.2.1 && x.2.2.toList == y.2.2.toList)
theorem veq_iff (x y : V) : veq x y = true ↔ x = y := by
  obtain ⟨k, n, s⟩ := x
  obtain ⟨k', n', s'⟩ := y
  unfold veq
  simp only [Bool.and_eq_true, beq_iff_eq, Prod.mk.injEq]
  exact ⟨fun h => ⟨h.1, h.2.1, ba_ext h.2.2⟩, fun h => ⟨h.1, h.2.1, by rw [h.2.2]⟩⟩

/-- The row of values that a slice value owns, element by element. -/
theorem own_vals {W : World} {B : Nat} {cv : Value} {vs : List V} (h : W.ownsRow B 41 3 cv vs.length (vCells vs)) : ∃ a cap, cv = .slice a vs.length cap ∧ (0 < vs.length → ∃ b, a = some ⟨b, 0, none⟩ ∧ b < W.heap.size ∧ ∀ k, k < vs.length →
    W.cell? ⟨b, k * 3, none⟩ = some (.int .i64 (vs.getD k v0).1) ∧ W.cell? ⟨b, k * 3 + 1, none⟩ = some (.int .i64 (vs.getD k v0).2.1) ∧ W.cell? ⟨b, k * 3 + 2, none⟩ = some (.string (vs.getD k v0).2.2)) := by
  rcases h.2 with ⟨rfl, hn⟩ | ⟨b, cap, cur, rfl, hb, hh, _⟩
  · exact ⟨none, 0, by rw [hn], fun h => by omega⟩
  · refine ⟨_, cap, rfl, fun hn => ⟨b, rfl, (Array.getElem?_eq_some_iff.1 hh).1, fun k hk => ?_⟩⟩
    have := vCells_get vs k hk
    rw [h.cellAt _ (by omega), h.cellAt _ (by omega), h.cellAt _ (by omega)]
    exact this

set_option maxHeartbeats 4000000 in
set_option maxRecDepth 100000 in
/-- A constant that is there: its place. -/
theorem constant_old (g B i : Nat) (ins cv fv : Value) (vs : List V) (k n : Int) (s : ByteArray) (w : World) (hb : Blk w g 33 (FB ins cv fv)) (own : w.ownsRow B 41 3 cv vs.length (vCells vs)) (hl : vs.length ≤ 1000)
    (hi : i < vs.length) (hv : vs.getD i v0 = (k, n, s)) (hn : ∀ j, j < i → vs.getD j v0 ≠ (k, n, s)) :
    Calls Tryd.prog 13 #[.pointer (some ⟨g, 0, none⟩), .agg #[.int .i64 k, .int .i64 n, .string s]] w (Ret (.int .i64 i) w) := by
  obtain ⟨a, cap, rfl, hc⟩ := own_vals own
  obtain ⟨b, rfl, hbl, hcell⟩ := hc (by omega)
  have f9 : w.cell? ⟨g, 9, none⟩ = some (.slice (some ⟨b, 0, none⟩) vs.length cap) := by rw [hb.cell]; rfl
  have hgl := hb.lt
  obtain ⟨m, hm⟩ : ∃ m, vs.length = m := ⟨_, rfl⟩
  rw [hm] at f9 hl hi
  have HC := Lib.hid hcell
  have HM := Lib.hid hm
  have HV := Lib.hid hv
  have HN := Lib.hid hn
  clear hcell hv hn hm own hb hc
  go_enter Tryd.func13, Tryd.ntmps13
  go_wp2_with fail
  go_loopw [12] (fun c wr => ∃ j : Nat, j ≤ i ∧ c = .int .i64 j ∧ Below (w.heap.size + 1) (w.alloc (.cells #[.int .i64 k, .int .i64 n, .string s] 41)) wr) (fun c _ => m - (intOf c).toNat)
  case atStart => exact ⟨0, Nat.zero_le _, rfl, Below.refl _ _⟩
  case round =>
    obtain ⟨j, hj, rfl, hbw⟩ := hrel
    have hz := hbw.size
    rw [World.size_alloc] at hz
    have hjm : j < m := by omega
    have t1 : decide ((j : Int) < (m : Int)) = true := by simp; omega
    have z1 : (0 : Int) ≤ (j : Int) := by omega
    have z2 : (j : Int) < (m : Int) := by omega
    have bl : Below w.heap.size w wr := ((Below.refl _ _).alloc (Nat.le_refl _) _).trans (hbw.mono (by omega))
    obtain ⟨c0, c1, c2⟩ := HC.out j (by have := HM.out; omega)
    obtain ⟨el, hel⟩ : ∃ x, vs.getD j v0 = x := ⟨_, rfl⟩
    rw [hel] at c0 c1 c2
    obtain ⟨ek, en, es⟩ := el
    simp only at c0 c1 c2
    have d0 := (bl.cell (p := ⟨b, j * 3, none⟩) hbl).trans c0
    have d1 := (bl.cell (p := ⟨b, j * 3 + 1, none⟩) hbl).trans c1
    have d2 := (bl.cell (p := ⟨b, j * 3 + 2, none⟩) hbl).trans c2
    have bv := (Blk.new w 41 #[.int .i64 k, .int .i64 n, .string s]).below hbw (by omega)
    have x0 : wr.cell? ⟨w.heap.size, 0, none⟩ = some (.int .i64 k) := by rw [bv.cell]; rfl
    have x1 : wr.cell? ⟨w.heap.size, 1, none⟩ = some (.int .i64 n) := by rw [bv.cell]; rfl
    have x2 : wr.cell? ⟨w.heap.size, 2, none⟩ = some (.string s) := by rw [bv.cell]; rfl
    have hbv := bv.lt
    clear bv c0 c1 c2
    have bl2 := bl.alloc bl.size (.cells #[.int .i64 ek, .int .i64 en, .string es] 41)
    have bw2 := hbw.alloc hz (.cells #[.int .i64 ek, .int .i64 en, .string es] 41)
    clear bl hbw
    by_cases hek : ek = k
    case neg =>
      have q0 : (ek == k) = false := by simpa using hek
      have hji : j < i := by
        rcases Nat.lt_or_ge j i with h | h
        · exact h
        · have : j = i := by omega
          subst this
          rw [hel] at HV
          exact absurd (congrArg (·.1) HV.out) hek
      go_wp2_with fail
      go_roundw
      case rel => exact ⟨j + 1, by omega, by go_num, bw2⟩
      case measure => simp [intOf]; omega
    case pos =>
      subst hek
      by_cases hen : en = n
      case neg =>
        have q0 : (en == n) = false := by simpa using hen
        have hji : j < i := by
          rcases Nat.lt_or_ge j i with h | h
          · exact h
          · have : j = i := by omega
            subst this
            rw [hel] at HV
            exact absurd (congrArg (·.2.1) HV.out) hen
        go_wp2_with fail
        go_roundw
        case rel => exact ⟨j + 1, by omega, by go_num, bw2⟩
        case measure => simp [intOf]; omega
      case pos =>
        subst hen
        by_cases hes : es.toList = s.toList
        case neg =>
          have q0 : (es.toList == s.toList) = false := by simpa using hes
          have hji : j < i := by
            rcases Nat.lt_or_ge j i with h | h
            · exact h
            · have : j = i := by omega
              subst this
              rw [hel] at HV
              exact absurd (by have := congrArg (·.2.2) HV.out; simp only at this; rw [this]) hes
          go_wp2_with fail
          go_roundw
          case rel => exact ⟨j + 1, by omega, by go_num, bw2⟩
          case measure => simp [intOf]; omega
        case pos =>
          have q0 : (es.toList == s.toList) = true := by simpa using hes
          have hji : j = i := by
            rcases Nat.lt_or_ge j i with h | h
            · exact absurd (by rw [hel, ba_ext hes]) (HN.out j h)
            · omega
          subst hji
          go_wp2_with fail
          go_ret
          exact ⟨rfl, bl2⟩

theorem mid_facts {W w1 : World} {g B n : Nat} {o : Obj} {ins cv fv : Value} {xs : List Value} (hb : Blk W g 33 (FB ins cv fv)) (ho : W.ownsRow B 41 3 cv n xs) (hg : ((W.alloc o).drew).grownBy w1 cv.ownBlock) :
    w1.cell? ⟨g, 9, none⟩ = some cv ∧ w1.frozen? ⟨g, 9, none⟩ = false := by
  have kb : Blk w1 g 33 (FB ins cv fv) := Blk.grown (Blk.drew (hb.alloc o)) hg (fun e => own_blk_ne ho hb (by decide) e.symm)
  exact ⟨by rw [kb.cell]; rfl, kb.frozen 9⟩

theorem constant_post {w wr w1 : World} {g B gq capq : Nat} {o : Obj} {ins cv fv : Value} {vs : List V} {k n : Int} {s : ByteArray} (bl : Below w.heap.size w wr) (hb : Blk w g 33 (FB ins cv fv)) (own : w.ownsRow B 41 3 cv vs.length (vCells vs))
    (hg : (wr.alloc o).grownBy w1 cv.ownBlock) (ho : w1.ownsRow B 41 3 (.slice (some ⟨gq, 0, none⟩) (vs.length + 1) capq) (vs.length + 1) (vCells vs ++ [.int .i64 k, .int .i64 n, .string s])) (hat : cv.ownBlock = some gq ∨ gq = wr.heap.size + 1) :
    (w1.setCell ⟨g, 9, none⟩ (.slice (some ⟨gq, 0, none⟩) (vs.length + 1) capq)).ownsRow B 41 3 (.slice (some ⟨gq, 0, none⟩) (vs.length + 1) capq) (vs.length + 1) (vCells (vs ++ [(k, n, s)])) ∧
    Blk (w1.setCell ⟨g, 9, none⟩ (.slice (some ⟨gq, 0, none⟩) (vs.length + 1) capq)) g 33 (FB ins (.slice (some ⟨gq, 0, none⟩) (vs.length + 1) capq) fv) ∧
    Upd w (w1.setCell ⟨g, 9, none⟩ (.slice (some ⟨gq, 0, none⟩) (vs.length + 1) capq)) (fun q => q = g ∨ cv.ownBlock = some q) ∧
    (cv.ownBlock = some gq ∨ w.heap.size ≤ gq) := by
  have u0 : Upd w (wr.alloc o) (fun q => q = g ∨ cv.ownBlock = some q) := (Upd.of_below_all bl).alloc o
  have hbw : Blk wr g 33 (FB ins cv fv) := hb.below bl hb.lt
  have oww : wr.ownsRow B 41 3 cv vs.length (vCells vs) := (Upd.of_below_all (M := fun _ => False) bl).own own (fun _ _ h => h)
  have kb : Blk w1 g 33 (FB ins cv fv) := Blk.grown (hbw.alloc o) hg (fun e => own_blk_ne oww hbw (by decide) e.symm)
  refine ⟨?_, ?_, (u0.grown hg (fun q e => .inr e)).set g 9 _ (.inl rfl), ?_⟩
  · rw [vCells_append]
    exact own_set ho kb (by decide) 9 _
  · exact kb.set_ 9 _
  · rcases hat with h | h
    · exact .inl h
    · have := bl.size; exact .inr (by omega)

set_option maxHeartbeats 4000000 in
set_option maxRecDepth 100000 in
/-- A constant that is not there yet: the place behind the others. -/
theorem constant_new (g B : Nat) (ins cv fv : Value) (vs : List V) (k n : Int) (s : ByteArray) (w : World) (hb : Blk w g 33 (FB ins cv fv)) (own : w.ownsRow B 41 3 cv vs.length (vCells vs)) (hl : vs.length ≤ 1000) (hB : B ≤ w.heap.size)
    (hn : ∀ j, j < vs.length → vs.getD j v0 ≠ (k, n, s)) :
    Calls Tryd.prog 13 #[.pointer (some ⟨g, 0, none⟩), .agg #[.int .i64 k, .int .i64 n, .string s]] w fun e w' => e = .returned (.int .i64 vs.length) ∧
      ∃ gq capq, w'.ownsRow B 41 3 (.slice (some ⟨gq, 0, none⟩) (vs.length + 1) capq) (vs.length + 1) (vCells (vs ++ [(k, n, s)])) ∧ Blk w' g 33 (FB ins (.slice (some ⟨gq, 0, none⟩) (vs.length + 1) capq) fv) ∧ Upd w w' (fun q => q = g ∨ cv.ownBlock = some q) ∧ (cv.ownBlock = some gq ∨ w.heap.size ≤ gq) := by
  have own0 := own
  obtain ⟨a, cap, rfl, hc⟩ := own_vals own
  have f9 : w.cell? ⟨g, 9, none⟩ = some (.slice a vs.length cap) := by rw [hb.cell]; rfl
  have hgl := hb.lt
  obtain ⟨m, hm⟩ : ∃ m, vs.length = m := ⟨_, rfl⟩
  rw [hm] at f9 hl own ⊢
  have HC := Lib.hid hc
  have HM := Lib.hid hm
  have HN := Lib.hid hn
  clear hc hn hm
  go_enter Tryd.func13, Tryd.ntmps13
  go_wp2_with fail
  go_loopw [12] (fun c wr => ∃ j : Nat, j ≤ m ∧ c = .int .i64 j ∧ Below (w.heap.size + 1) (w.alloc (.cells #[.int .i64 k, .int .i64 n, .string s] 41)) wr) (fun c _ => m - (intOf c).toNat)
  case atStart => exact ⟨0, Nat.zero_le _, rfl, Below.refl _ _⟩
  case round =>
    obtain ⟨j, hj, rfl, hbw⟩ := hrel
    have hz := hbw.size
    rw [World.size_alloc] at hz
    have bl : Below w.heap.size w wr := ((Below.refl _ _).alloc (Nat.le_refl _) _).trans (hbw.mono (by omega))
    have bv := (Blk.new w 41 #[.int .i64 k, .int .i64 n, .string s]).below hbw (by omega)
    have x0 : wr.cell? ⟨w.heap.size, 0, none⟩ = some (.int .i64 k) := by rw [bv.cell]; rfl
    have x1 : wr.cell? ⟨w.heap.size, 1, none⟩ = some (.int .i64 n) := by rw [bv.cell]; rfl
    have x2 : wr.cell? ⟨w.heap.size, 2, none⟩ = some (.string s) := by rw [bv.cell]; rfl
    have hbv := bv.lt
    by_cases hjm : j < m
    · have t1 : decide ((j : Int) < (m : Int)) = true := by simp; omega
      have z1 : (0 : Int) ≤ (j : Int) := by omega
      have z2 : (j : Int) < (m : Int) := by omega
      obtain ⟨b, rfl, hbl, hcell⟩ := HC.out (by have := HM.out; omega)
      obtain ⟨c0, c1, c2⟩ := hcell j (by have := HM.out; omega)
      obtain ⟨el, hel⟩ : ∃ x, vs.getD j v0 = x := ⟨_, rfl⟩
      rw [hel] at c0 c1 c2
      have hne := HN.out j (by have := HM.out; omega)
      rw [hel] at hne
      obtain ⟨ek, en, es⟩ := el
      simp only at c0 c1 c2
      have d0 := (bl.cell (p := ⟨b, j * 3, none⟩) hbl).trans c0
      have d1 := (bl.cell (p := ⟨b, j * 3 + 1, none⟩) hbl).trans c1
      have d2 := (bl.cell (p := ⟨b, j * 3 + 2, none⟩) hbl).trans c2
      clear bv c0 c1 c2 hcell hel
      have HNE := Lib.hid hne
      clear hne
      have bw2 := hbw.alloc hz (.cells #[.int .i64 ek, .int .i64 en, .string es] 41)
      clear bl hbw
      by_cases hek : ek = k
      case neg =>
        have q0 : (ek == k) = false := by simpa using hek
        go_wp2_with fail
        go_roundw
        case rel => exact ⟨j + 1, by omega, by go_num, bw2⟩
        case measure => simp [intOf]; omega
      case pos =>
        subst hek
        by_cases hen : en = n
        case neg =>
          have q0 : (en == n) = false := by simpa using hen
          go_wp2_with fail
          go_roundw
          case rel => exact ⟨j + 1, by omega, by go_num, bw2⟩
          case measure => simp [intOf]; omega
        case pos =>
          subst hen
          have hes : ¬ es.toList = s.toList := fun h => HNE.out (by rw [ba_ext h])
          have q0 : (es.toList == s.toList) = false := by simpa using hes
          go_wp2_with fail
          go_roundw
          case rel => exact ⟨j + 1, by omega, by go_num, bw2⟩
          case measure => simp [intOf]; omega
    · obtain rfl : j = m := by omega
      have t1 : decide ((j : Int) < (j : Int)) = false := by simp
      obtain ⟨i0, hi, hz0, hz1, hz2⟩ := info_parts infoVal
      have ownw : wr.ownsRow B 41 3 (.slice a j cap) j (vCells vs) := by
        have := (Upd.of_below_all (M := fun _ => False) bl).own own (fun _ _ h => h)
        exact this
      have hbw2 : Blk wr g 33 (FB ins (.slice a j cap) fv) := by have := hb.below bl hgl; rwa [HM.out] at this
      have q9 : wr.cell? ⟨g, 9, none⟩ = some (.slice a j cap) := by rw [hbw2.cell]; rfl
      have fz9 := hbw2.frozen 9
      have hgw := hbw2.lt
      have hzl := bl.size
      have HOW := Lib.hid ownw
      have HBW := Lib.hid hbw2
      clear ownw hbw2 bv
      go_upto_region 7 with fail
      go_cut [] (fun wx => ∃ gq capq w1, (wr.alloc (.cells #[.int .i64 k, .int .i64 n, .string s] 41)).grownBy w1 (Value.slice a j cap).ownBlock ∧ w1.ownsRow B 41 3 (.slice (some ⟨gq, 0, none⟩) (j + 1) capq) (j + 1) (vCells vs ++ [.int .i64 k, .int .i64 n, .string s]) ∧ ((Value.slice a j cap).ownBlock = some gq ∨ gq = wr.heap.size + 1) ∧ wx = w1.setCell ⟨g, 9, none⟩ (.slice (some ⟨gq, 0, none⟩) (j + 1) capq))
      case first =>
        go_region_law ((refine step_append_lies _ (by rfl) _ _ _ (by rfl) B 41 i0 _ 3 32 Tryd.underlying29 hi hz0 hz1 hz2 rfl (by omega) (.slice a j cap) j (vCells vs) (by rfl) ((HOW.out.alloc _).drew) ⟨wr.heap.size, 0, none⟩ 1 1 [.int .i64 k, .int .i64 n, .string s] (by rfl) (by rfl) (World.news_of_block (cs := #[.int .i64 k, .int .i64 n, .string s]) (t := 41) (fr := (0, 0)) (heap_alloc_new wr _)) (by simp [Value.oneCell']) (by omega) (by unfold maxLen; omega) (by omega) (by simp; omega) (wr.heap.size + 1) (by simp) ?_; intro gq capq w1 hown1 hgrow hat hlt; obtain ⟨d9, e9⟩ := mid_facts HBW.out HOW.out hgrow))
        all_goals
          go_wp2_with fail
          go_meet
          exact ⟨gq, capq, w1, ⟨hgrow.os, hgrow.tape, hgrow.output, hgrow.size, hgrow.block⟩, hown1, hat, rfl⟩
      case rest =>
      obtain ⟨gq, capq, w1, hgrow, hown1, hat, rfl⟩ := hcut
      rw [← HM.out] at hown1 hgrow hat
      have hpost := constant_post bl hb own0 hgrow hown1 hat
      rw [HM.out] at hpost
      obtain ⟨p1, p2, p3, p4⟩ := hpost
      have c9 : (w1.setCell ⟨g, 9, none⟩ (.slice (some ⟨gq, 0, none⟩) (j + 1) capq)).cell? ⟨g, 9, none⟩ = some (.slice (some ⟨gq, 0, none⟩) (j + 1) capq) := by rw [p2.cell]; rfl
      have HP := Lib.hid (And.intro p1 (And.intro p2 (And.intro p3 p4)))
      clear p1 p2 p3 p4 hown1 hgrow hat bl hb own0 own hbw x0 x1 x2 q9 fz9 HOW HBW HC HN
      generalize w1.setCell ⟨g, 9, none⟩ (.slice (some ⟨gq, 0, none⟩) (j + 1) capq) = W at *
      go_wp2_with fail
      go_ret
      obtain ⟨p1, p2, p3, p4⟩ := HP.out
      exact ⟨by simp, gq, capq, p1, p2, p3, p4⟩
end Go.Proofs.YtipijgnbdnbljaaDoor
