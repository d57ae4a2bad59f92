/- A source's tokens: what 'Scan' computes. -/
import Derived.Test.YtolfcmfilfjgfaaDoorLexG
import Derived.Deep.CutBlock
set_option linter.unusedVariables false
set_option linter.unusedSimpArgs false
namespace Go.Proofs.YtolfcmfilfjgfaaDoor
open Go.RowKit

/-- A token as it lies: kind, text, place, number. -/
structure Tk where
  k : Nat
  t : List UInt8
  a : Nat
  n : Nat
deriving DecidableEq
def tkC (x : Tk) : List Value := [.int .i64 x.k, .string ⟨x.t.toArray⟩, .int .i64 x.a, .int .i64 x.n]
def tkCells (l : List Tk) : List Value := l.flatMap tkC
theorem tkCells_append (a b : List Tk) : tkCells (a ++ b) = tkCells a ++ tkCells b := by simp [tkCells]
theorem tkCells_one (x : Tk) : tkCells [x] = [.int .i64 x.k, .string ⟨x.t.toArray⟩, .int .i64 x.a, .int .i64 x.n] := by simp [tkCells, tkC]
inductive ScanT where
  | bad (at_ : Nat)
  | toks (l : List Tk)
def ScanT.add (l : List Tk) : ScanT → ScanT
  | .bad p => .bad p
  | .toks m => .toks (l ++ m)
theorem ScanT.add_add (l m : List Tk) (r : ScanT) : (r.add m).add l = r.add (l ++ m) := by cases r <;> simp [ScanT.add]
/-- The tokens of what is left, at a place; the first number: more rounds than bytes are left. -/
def scanL : Nat → List UInt8 → Nat → ScanT
  | 0, _, a => .bad a
  | f + 1, R, a =>
    if (blkL 0 R).2 = false then .bad (a + (blkL 0 R).1)
    else match R.drop (blkL 0 R).1 with
      | [] => .toks [⟨0, [], a + (blkL 0 R).1, 0⟩]
      | c :: r => match oneL (c :: r) with
        | none => .bad (a + (blkL 0 R).1)
        | some (k, x, N, n) => (scanL f ((c :: r).drop n) (a + (blkL 0 R).1 + n)).add [⟨k, x, a + (blkL 0 R).1, N⟩]
def scanB (l : List UInt8) : ScanT := scanL (l.length + 1) l 0

theorem blkL_le : ∀ (R : List UInt8) (k : Nat), (blkL k R).1 ≤ R.length
  | [], k => by cases k <;> simp [blkL]
  | b :: r, k + 1 => by rw [blkL]; have := blkL_le r k; simp; omega
  | b :: r, 0 => by
    rw [blkL]
    split
    · have := blkL_le r 0; simp; omega
    · split
      · split
        · simp
        · have := blkL_le r (Lib.indexByte (b :: r) 10).toNat; simp; omega
      · split
        · split
          · simp
          · have := blkL_le r ((Lib.index (List.drop 1 r) [42, 47]).toNat + 3); simp only [List.length_cons]; omega
        · simp
theorem numL_len : ∀ (l : List UInt8) (acc N n : Nat), numL acc l = some (N, n) → n ≤ l.length
  | [], acc, N, n, h => by simp [numL] at h; omega
  | b :: r, acc, N, n, h => by
    rw [numL] at h
    split at h
    · split at h
      · cases h
      · rw [Option.map_eq_some_iff] at h
        obtain ⟨⟨N', n'⟩, h1, h2⟩ := h
        have := numL_len r _ _ _ h1
        simp only [Prod.mk.injEq] at h2
        simp only [List.length_cons]; omega
    · simp at h; simp; omega
theorem quoL_len : ∀ (l : List UInt8) (q : UInt8) (k : Nat) (pl un u : List UInt8) (n : Nat), quoL q k l pl un = some (u, n) → n ≤ l.length
  | [], q, k, pl, un, u, n, h => by cases k <;> simp [quoL] at h
  | b :: r, q, k + 1, pl, un, u, n, h => by
    rw [quoL, Option.map_eq_some_iff] at h
    obtain ⟨⟨u', n'⟩, h1, h2⟩ := h
    have := quoL_len r q k pl un u' n' h1
    simp only [Prod.mk.injEq] at h2
    simp only [List.length_cons]; omega
  | b :: r, q, 0, pl, un, u, n, h => by
    rw [quoL] at h
    split at h
    · cases h
    · split at h
      · simp at h; simp; omega
      · split at h
        · rw [Option.map_eq_some_iff] at h
          obtain ⟨⟨u', n'⟩, h1, h2⟩ := h
          have := quoL_len r _ _ _ _ _ _ h1
          simp only [Prod.mk.injEq] at h2
          simp only [List.length_cons]; omega
        · split at h
          · cases h
          · rw [Option.map_eq_some_iff] at h
            obtain ⟨⟨u', n'⟩, h1, h2⟩ := h
            have := quoL_len r _ _ _ _ _ _ h1
            simp only [Prod.mk.injEq] at h2
            simp only [List.length_cons]; omega
theorem oneL_len (R : List UInt8) (k : Nat) (x : List UInt8) (N n : Nat) (h : oneL R = some (k, x, N, n)) : 1 ≤ n ∧ n ≤ R.length := by
  cases R with
  | nil => cases h
  | cons c r =>
    rw [oneL] at h
    split at h
    · rename_i hc
      split at h
      · simp only [Option.some.injEq, Prod.mk.injEq] at h
        obtain ⟨_, _, _, rfl⟩ := h
        refine ⟨?_, nameN_le _⟩
        rw [nameN_cons, nameB, hc]; simp
      · cases h
    · split at h
      · rename_i hd
        split at h
        · cases h
        · rename_i N' n' hn
          split at h
          · simp only [Option.some.injEq, Prod.mk.injEq] at h
            obtain ⟨_, _, _, rfl⟩ := h
            refine ⟨?_, numL_len _ _ _ _ hn⟩
            rw [numL, if_pos hd] at hn
            split at hn
            · cases hn
            · rw [Option.map_eq_some_iff] at hn
              obtain ⟨⟨N2, n2⟩, _, h2⟩ := hn
              simp only [Prod.mk.injEq] at h2
              omega
          · cases h
      · split at h
        · rw [Option.map_eq_some_iff] at h
          obtain ⟨⟨u, n'⟩, h1, h2⟩ := h
          simp only [Prod.mk.injEq] at h2
          obtain ⟨_, _, _, rfl⟩ := h2
          have := quoL_len _ _ _ _ _ _ _ h1
          simp only [List.length_cons]; omega
        · rw [Option.map_eq_some_iff] at h
          obtain ⟨y, h1, h2⟩ := h
          simp only [Prod.mk.injEq] at h2
          obtain ⟨_, rfl, _, rfl⟩ := h2
          have hm := List.mem_of_find?_eq_some h1
          have hp := List.find?_some h1
          have hl := (List.isPrefixOf_iff_prefix.1 hp).length_le
          have : ∀ z ∈ signsL, 1 ≤ z.length := by decide
          exact ⟨this y hm, hl⟩

theorem infoTok : ((Tryd.prog.info? 31).map (fun i => (i.zero, i.size, i.bytes))) = some (some (.agg #[.int .i64 0, .string ⟨#[]⟩, .int .i64 0, .int .i64 0]), 4, 40) := by kernel_rfl

abbrev FaultV (k a : Int) : Value := .agg #[.int .i64 k, .int .i64 a]
def ScanR (R : ScanT) (B : Nat) (v f : Value) (w' : World) : Prop :=
  match R with
  | .bad p => v = .slice none 0 0 ∧ f = FaultV 3 p
  | .toks l => f = FaultV 0 0 ∧ ∃ g cap, v = .slice (some ⟨g, 0, none⟩) l.length cap ∧ w'.ownsRow B 31 4 v l.length (tkCells l)
def ScanPost (R : ScanT) (w : World) (e : Ending) (w' : World) : Prop :=
  ∃ v f, e = .returned (.tuple #[v, f]) ∧ ScanR R w.heap.size v f w' ∧ Below w.heap.size w w'

set_option maxHeartbeats 2000000 in
set_option maxRecDepth 100000 in
theorem scan_any (s : ByteArray) (m : Int) (R : ScanT) (w : World) (hs : s.size ≤ 16384) (h2 : 2 ≤ w.heap.size) (hm : w.cell? ⟨1, 0, none⟩ = some (.int .i64 m)) (tb : Tb w) (HR : Hid (scanL (s.size + 1) s.data.toList 0 = R)) :
    Calls Tryd.prog 7 #[.string s] w (ScanPost R w) := by
  have hlen := len_of s
  have L0 : decide ((16384 : Int) < (s.size : Int)) = false := by simp; omega
  obtain ⟨i0, hi, hz0, hz1, hz2⟩ := info_parts infoTok
  go_enter Tryd.func7, Tryd.ntmps7
  go_wp2_with fail
  go_loopw [4, 5] (fun vl va wr => ∃ (k f : Nat) (toks : List Tk), k ≤ s.size ∧ va = .int .i64 k ∧ wr.ownsRow w.heap.size 31 4 vl toks.length (tkCells toks) ∧ toks.length ≤ k ∧ s.size < k + f ∧ (scanL f (s.data.toList.drop k) k).add toks = R ∧ Below w.heap.size w wr ∧ Blk wr w.heap.size 27 #[.int .i64 0, .int .i64 0]) (fun _ va _ => s.size - (intOf va).toNat)
  case atStart =>
    refine ⟨0, s.size + 1, [], by omega, rfl, World.ownsRow_nil _ _ _ _, by simp, by omega, ?_, (Below.refl _ w).alloc (Nat.le_refl _) _, Blk.new w _ _⟩
    rw [List.drop_zero, HR.out]; cases R <;> rfl
  case round =>
    obtain ⟨k, f, toks, hk, rfl, own, htk, hf, h1, bb, kb⟩ := hrel
    obtain ⟨f, rfl⟩ : ∃ f', f = f' + 1 := ⟨f - 1, by omega⟩
    obtain ⟨b, hb⟩ : ∃ b, blkL 0 (s.data.toList.drop k) = b := ⟨_, rfl⟩
    obtain ⟨bn, bo⟩ := b
    have hbl := blkL_le (s.data.toList.drop k) 0
    rw [hb, List.length_drop, hlen] at hbl
    simp only at hbl
    rw [scanL, hb] at h1
    simp only at h1
    have H1 := Lib.hid h1
    have hmr := keep_m bb h2 hm
    have hbk := blank_any s k m wr hk hs hmr
    rw [hb] at hbk
    simp only at hbk
    have HB := Lib.hid hbk
    clear h1 hbk
    obtain ⟨a, ha⟩ : ∃ a, k + bn = a := ⟨_, rfl⟩
    rw [ha] at HB H1
    have HOW := Lib.hid own
    clear own
    have hsub : (s.data.toList.drop k).drop bn = s.data.toList.drop a := by rw [List.drop_drop, ha]
    rw [hsub] at H1
    cases bo
    · have HRB := Lib.hid (show R = .bad a by rw [← H1.out, if_pos rfl]; rfl)
      clear H1 HR
      have x0 : wr.cell? ⟨w.heap.size, 0, none⟩ = some (.int .i64 0) := by rw [kb.cell]; rfl
      have xf0 := kb.frozen 0
      have x1 : wr.cell? ⟨w.heap.size, 1, none⟩ = some (.int .i64 0) := by rw [kb.cell]; rfl
      have xf1 := kb.frozen 1
      have xl := kb.lt
      go_wp2_with fail
      refine HB.out.mono ?_
      rintro e w' ⟨rfl, rfl⟩
      go_wp2
      exact bodyPost_ret (v := .tuple #[.slice none 0 0, FaultV 3 a]) (by simp [results, Tryd.results7, go_sem, x0, x1, xl]) rfl ⟨_, _, rfl, by rw [HRB.out]; exact ⟨rfl, rfl⟩, by repeat (first | with_reducible assumption | (refine Below.setCell ?_ (by first | omega | (simp; omega) | simp) _))⟩
    · by_cases hend : a = s.size
      · subst hend
        have E1 : ((s.size : Int) == (s.size : Int)) = true := by simp
        have HRB := Lib.hid (show R = .toks (toks ++ [⟨0, [], s.size, 0⟩]) by rw [← H1.out, if_neg (by decide), List.drop_eq_nil_of_le (by omega : s.data.toList.length ≤ s.size)]; rfl)
        clear H1 HR hsub
        have x0 : wr.cell? ⟨w.heap.size, 0, none⟩ = some (.int .i64 0) := by rw [kb.cell]; rfl
        have xf0 := kb.frozen 0
        have x1 : wr.cell? ⟨w.heap.size, 1, none⟩ = some (.int .i64 0) := by rw [kb.cell]; rfl
        have xf1 := kb.frozen 1
        have xl := kb.lt
        go_wp2_with fail
        refine HB.out.mono ?_
        rintro e w' ⟨rfl, rfl⟩
        clear x0 x1 xf0 xf1 xl
        have hzr := bb.size
        go_wp2_with (at_builtin; refine wpList_append_lies _ rfl _ _ 24 rfl w.heap.size 31 i0 _ 4 40 Tryd.underlying24 hi hz0 hz1 hz2 rfl (by decide) _ _ _ rfl (HOW.out.alloc _) ⟨wr.heap.size, 0, none⟩ 1 1 [.int .i64 0, .string ⟨#[]⟩, .int .i64 (s.size : Int), .int .i64 0] rfl rfl (World.news_of_block (cs := #[.int .i64 0, .string ⟨#[]⟩, .int .i64 (s.size : Int), .int .i64 0]) (t := 31) (fr := (0, 0)) (heap_alloc_new wr _)) (by simp [Value.oneCell']) (by decide) (by unfold maxLen; omega) (by omega) (by simp; omega) _ rfl ?_)
        intro gg cap w3 hown3 hgrow3 hat3 hlt3
        have bb3 := (bb.alloc bb.size (.cells #[.int .i64 0, .string ⟨#[]⟩, .int .i64 s.size, .int .i64 0] 31)).grown hgrow3 (by simp; have := bb.size; omega) (fun k' hk' => (HOW.out.lt k' hk').1)
        have kb3 : Blk w3 w.heap.size 27 #[.int .i64 0, .int .i64 0] := Blk.grown (kb.alloc _) hgrow3 (fun e => own_blk_ne HOW.out kb (by decide) e.symm)
        have HO3 := Lib.hid hown3
        clear hgrow3 hat3 hown3
        have x0 : w3.cell? ⟨w.heap.size, 0, none⟩ = some (.int .i64 0) := by rw [kb3.cell]; rfl
        have xf0 := kb3.frozen 0
        have x1 : w3.cell? ⟨w.heap.size, 1, none⟩ = some (.int .i64 0) := by rw [kb3.cell]; rfl
        have xf1 := kb3.frozen 1
        have xl := kb3.lt
        go_wp2
        exact bodyPost_ret (v := .tuple #[.slice (some ⟨gg, 0, none⟩) (toks.length + 1) cap, FaultV 0 0]) (by simp [results, Tryd.results7, go_sem, x0, x1, xl]) rfl ⟨_, _, rfl, by
          rw [HRB.out]
          refine ⟨rfl, gg, cap, by rw [List.length_append]; rfl, ?_⟩
          rw [tkCells_append, tkCells_one, List.length_append]
          first | exact HO3.out | exact (own_set (own_set HO3.out kb3 (by decide) 0 _) (kb3.set_ 0 _) (by decide) 1 _), by repeat (first | with_reducible assumption | (refine Below.setCell ?_ (by first | omega | (simp; omega) | simp) _))⟩
      · have E1 : ((a : Int) == (s.size : Int)) = false := by simp; omega
        have hal : a < s.size := by omega
        have hd := drop_at s a hal
        obtain ⟨O, hO⟩ : ∃ O, oneL (s.data.toList.drop a) = O := ⟨_, rfl⟩
        have hstep : R = (match O with | none => ScanT.bad a | some (k, x, N, n) => (scanL f (s.data.toList.drop (a + n)) (a + n)).add [⟨k, x, a, N⟩]).add toks := by
          rw [← H1.out, if_neg (by decide), hd]
          simp only
          rw [← hd, hO]
          cases O with
          | none => rfl
          | some x => simp only [List.drop_drop]
        have HS := Lib.hid hstep
        have hone := one_any s a m wr hal hs (by have := bb.size; omega) hmr (tb.below bb)
        rw [hO] at hone
        have HN := Lib.hid hone
        have HO := Lib.hid hO
        clear H1 HR hsub hstep hone hO hd
        go_wp2_with fail
        refine HB.out.mono ?_
        rintro e w' ⟨rfl, rfl⟩
        go_wp2_with fail
        refine HN.out.mono ?_
        rintro e W1 ⟨kx, txt, N, F, ok, rfl, hr, b1⟩
        have HRR := Lib.hid hr
        have kb1 := kb.below b1 kb.lt
        have bb1 := bb.trans (b1.mono bb.size)
        clear hr
        cases O with
        | none =>
          have hok : ok = false := HRR.out
          subst hok
          have x0 : W1.cell? ⟨w.heap.size, 0, none⟩ = some (.int .i64 0) := by rw [kb1.cell]; rfl
          have xf0 := kb1.frozen 0
          have x1 : W1.cell? ⟨w.heap.size, 1, none⟩ = some (.int .i64 0) := by rw [kb1.cell]; rfl
          have xf1 := kb1.frozen 1
          have xl := kb1.lt
          go_wp2
          exact bodyPost_ret (v := .tuple #[.slice none 0 0, FaultV 3 a]) (by simp [results, Tryd.results7, go_sem, x0, x1, xl]) rfl ⟨_, _, rfl, by rw [HS.out]; exact ⟨rfl, rfl⟩, by repeat (first | with_reducible assumption | (refine Below.alloc ?_ (by first | omega | (simp; omega) | simp) _) | (refine Below.setCell ?_ (by first | omega | (simp; omega) | simp) _))⟩
        | some o =>
          obtain ⟨ok_, ox, oN, on⟩ := o
          obtain ⟨r1, r2, r3⟩ := HRR.out
          simp only [TokV, Value.agg.injEq, Array.mk.injEq, List.cons.injEq, Value.int.injEq, true_and, Value.string.injEq, and_true] at r1
          obtain ⟨rfl, rfl, rfl⟩ := r1
          subst r2 r3
          obtain ⟨n1, n2⟩ := oneL_len _ _ _ _ _ HO.out
          rw [List.length_drop, hlen] at n2
          have own1 : W1.ownsRow w.heap.size 31 4 u4 toks.length (tkCells toks) := (Upd.of_below_all (M := fun _ => False) b1).own HOW.out (fun _ _ h => h)
          have HOW1 := Lib.hid own1
          clear b1 HOW own1 HRR HB HN
          have hzr := bb1.size
          have hnews := World.news_of_block (cs := #[.int .i64 (ok_ : Int), .string ⟨ox.toArray⟩, .int .i64 (a : Int), .int .i64 (oN : Int)]) (t := 31) (fr := (0, 0)) (heap_alloc_new (W1.alloc (.cells #[.int .i64 (ok_ : Int), .string ⟨ox.toArray⟩, .int .i64 (a : Int), .int .i64 (oN : Int)] 31)) _)
          rw [World.size_alloc] at hnews
          have wan : IntKind.i64.wrap ((a : Int) + (on : Int)) = ((a + on : Nat) : Int) := by rw [IntWalk.i64_in _ (by omega)]; rfl
          go_wp2_with (at_builtin; refine wpList_append_lies _ rfl _ _ 24 rfl w.heap.size 31 i0 _ 4 40 Tryd.underlying24 hi hz0 hz1 hz2 rfl (by decide) _ _ _ rfl ((HOW1.out.alloc _).alloc _) ⟨W1.heap.size + 1, 0, none⟩ 1 1 [.int .i64 (ok_ : Int), .string ⟨ox.toArray⟩, .int .i64 (a : Int), .int .i64 (oN : Int)] rfl rfl hnews (by simp [Value.oneCell']) (by decide) (by unfold maxLen; omega) (by omega) (by simp; omega) _ rfl ?_)
          intro gg cap w3 hown3 hgrow3 hat3 hlt3
          have bb2 := bb1.alloc bb1.size (.cells #[.int .i64 (ok_ : Int), .string ⟨ox.toArray⟩, .int .i64 (a : Int), .int .i64 (oN : Int)] 31)
          have bb3 := (bb2.alloc bb2.size (.cells #[.int .i64 (ok_ : Int), .string ⟨ox.toArray⟩, .int .i64 (a : Int), .int .i64 (oN : Int)] 31)).grown hgrow3 (by simp; have := bb1.size; omega) (fun k' hk' => (HOW1.out.lt k' hk').1)
          have kb3 : Blk w3 w.heap.size 27 #[.int .i64 0, .int .i64 0] := Blk.grown ((kb1.alloc _).alloc _) hgrow3 (fun e => own_blk_ne HOW1.out kb1 (by decide) e.symm)
          have HO3 := Lib.hid hown3
          clear hgrow3 hat3 hown3
          go_wp2
          go_roundw
          case rel =>
            refine ⟨a + on, f, toks ++ [⟨ok_, ox, a, oN⟩], by omega, by first | rfl | (rw [Int.natCast_add]), ?_, by rw [List.length_append]; simp; omega, by omega, ?_, bb3, kb3⟩
            · rw [tkCells_append, tkCells_one, List.length_append]; exact HO3.out
            · rw [HS.out, ← ScanT.add_add]
          case measure => simp only [intOf]; omega
end Go.Proofs.YtolfcmfilfjgfaaDoor
