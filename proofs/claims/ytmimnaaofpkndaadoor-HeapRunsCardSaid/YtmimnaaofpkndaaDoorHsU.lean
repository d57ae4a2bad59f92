/- HeapRuns: the document's Keys. -/
import Derived.Test.YtmimnaaofpkndaaDoorHsH
import Derived.Test.YtmimnaaofpkndaaDoorOrdC
import Derived.Lib.ItoaMem
import Derived.Lib.ItoaLen
import Derived.Lib.AppendIntMem
import Derived.Deep.CutBlock
set_option linter.unusedVariables false
set_option linter.unusedSimpArgs false
namespace Go.Proofs.YtmimnaaofpkndaaDoor.Hp
open Go.RowKit Go.Proofs.YtmimnaaofpkndaaDoor Go.Shelf Go.Sort
attribute [local go_sem] Oper.semAt_some
/-- The powers of ten as they were laid. -/
def PG (w : World) : Prop := Lib.TabIs Tryd.prog w "internal/strconv.uint64pow10" .u64 Lib.pow10Tab
theorem PG.below {w W : World} (h : PG w) (b : Below w.heap.size w W) : PG W := Lib.tabBelow_of_tabIs h W b
theorem dec_eq (n : Nat) (h : n < 12000) : Lib.decDigits n = Tx.decB n := by
  induction n using Nat.strongRecOn with
  | _ n ih =>
    rw [Lib.decDigits]
    split
    · rename_i h10; rw [dig_small n h10]
    · rename_i h10
      rw [ih (n / 10) (by omega) (by omega), dig_step n h (by omega), dig_small (n % 10) (by omega)]
theorem itoa_any (n : Nat) (hn : n < 12000) (w : World) (hP : PG w) : Calls Tryd.prog 70 #[.int .i64 (n : Int)] w fun e w' => e = .returned (.string ⟨(Tx.decB n).toArray⟩) ∧ Below w.heap.size w w' := by
  refine (Tryd.strconv_Itoa (n : Int) (by omega) (by omega) w hP).mono ?_
  rintro e w' ⟨rfl, k, os, rfl⟩
  rw [Lib.itoa_nonneg, dec_eq n hn]
  exact ⟨rfl, Lib.below_grow _ w (Nat.le_refl _) k os⟩
/-- Which places Keys takes, and up to where it looks. -/
def selP (o : PO) (i : Nat) : Bool := if o.arr = true then decide ((o.L.getD i E0).1 ≠ 10) else o.A.any (isKey (keyD i))
def lenP (o : PO) : Nat := if o.arr = true then o.L.length else if o.A.length = 0 then 0 else 1000
def plcK (o : PO) (n : Nat) : List K3 := ((List.range n).filter (selP o)).map keyD
theorem plcK_succ (o : PO) (n : Nat) : plcK o (n + 1) = plcK o n ++ if selP o n = true then [keyD n] else [] := by
  unfold plcK
  rw [List.range_succ, List.filter_append, List.map_append]
  congr 1
  by_cases h : selP o n = true
  · simp [h]
  · simp [h]
theorem plcK_len (o : PO) (n : Nat) : (plcK o n).length ≤ n := by
  unfold plcK
  rw [List.length_map]
  exact Nat.le_trans (List.length_filter_le _ _) (by simp)
theorem plcK_end (o : PO) : plcK o (lenP o) = if o.arr = true then plcL o.L else plcA o.A := by
  unfold plcK lenP
  by_cases ha : o.arr = true
  · rw [if_pos ha, if_pos ha]
    unfold plcL
    congr 1
    refine List.filter_congr fun i _ => ?_
    unfold selP
    rw [if_pos ha]
  · rw [if_neg ha, if_neg ha]
    have hs : ∀ i, selP o i = o.A.any (isKey (keyD i)) := fun i => by unfold selP; rw [if_neg ha]
    unfold plcA
    obtain ⟨N, hN⟩ : ∃ N, N = 1000 := ⟨_, rfl⟩
    rw [← hN]
    refine congrArg (List.map keyD) ?_
    by_cases h0 : o.A.length = 0
    · rw [if_pos h0]
      have hA : o.A = [] := List.eq_nil_of_length_eq_zero h0
      rw [hA, List.range_zero, List.filter_nil, List.filter_eq_nil_iff.2]
      intro a _
      simp
    · rw [if_neg h0]
      exact List.filter_congr fun i _ => hs i
theorem norm_keyD (n : Nat) : norm (keyD n) = keyD n := by
  unfold norm kK kN kS
  rw [show (keyD n).1 = 7 from rfl]
  rfl
theorem any_fnd {o : PO} (hO : o.Ok) (n : Nat) : o.A.any (isKey (keyD n)) = decide (0 ≤ fnd o.A (keyD n)) := by
  have hiff : ∀ x ∈ o.A, isKey (keyD n) x = decide (x.key = keyD n) := fun x hx => by
    obtain ⟨h1, h2, -⟩ := hO.ks x hx
    unfold isKey
    rw [h2, ks_norm h1, norm_keyD]
    simp
  have h1 : o.A.any (isKey (keyD n)) = o.A.any (fun x => decide (x.key = keyD n)) := by
    rw [Bool.eq_iff_iff, List.any_eq_true, List.any_eq_true]
    exact ⟨fun ⟨x, hx, h⟩ => ⟨x, hx, by rw [← hiff x hx]; exact h⟩, fun ⟨x, hx, h⟩ => ⟨x, hx, by rw [hiff x hx]; exact h⟩⟩
  rw [h1]
  unfold fnd fndI
  cases hx : o.A.findIdx? (fun x => decide (x.key = keyD n)) with
  | none =>
    rw [List.findIdx?_eq_none_iff] at hx
    rw [show decide ((0 : Int) ≤ -1) = false from rfl, List.any_eq_false]
    intro x hm
    rw [hx x hm]
    decide
  | some i =>
    have := List.findIdx?_eq_some_iff_findIdx_eq.1 hx
    rw [show decide ((0 : Int) ≤ (i : Int)) = true from (by rw [decide_eq_true_eq]; omega), List.any_eq_true]
    refine ⟨o.A[i]'this.1, List.getElem_mem _, ?_⟩
    have h2 := List.findIdx_getElem (p := fun x => decide (x.key = keyD n)) (xs := o.A) (w := by rw [this.2]; exact this.1)
    simpa [this.2] using h2
theorem txtA_succ {A : List Ent} {arr : Bool} {i : Nat} {x : Ent} (hx : A[i]? = some x) : txtA arr (A.take (i + 1)) = txtA arr (A.take i) ++ if (decide (x.key.1 = 7) && (arr || decide (plcV x.key < 0))) = true then [x.key] else [] := by
  unfold txtA
  rw [List.take_add_one, hx, List.filter_append, List.map_append]
  congr 1
  cases h : (decide (x.key.1 = 7) && (arr || decide (plcV x.key < 0))) <;> simp [h]
theorem symA_succ {A : List Ent} {i : Nat} {x : Ent} (hx : A[i]? = some x) : symA (A.take (i + 1)) = symA (A.take i) ++ if x.key.1 = 8 then [x.key] else [] := by
  unfold symA
  rw [List.take_add_one, hx, List.filter_append, List.map_append]
  congr 1
  by_cases h : x.key.1 = 8 <;> simp [h]
theorem txtA_len (arr : Bool) (A : List Ent) (i : Nat) : (txtA arr (A.take i)).length ≤ i := by
  unfold txtA
  rw [List.length_map]
  exact Nat.le_trans (List.length_filter_le _ _) (by rw [List.length_take]; omega)
theorem symA_len (A : List Ent) (i : Nat) : (symA (A.take i)).length ≤ i := by
  unfold symA
  rw [List.length_map]
  exact Nat.le_trans (List.length_filter_le _ _) (by rw [List.length_take]; omega)
theorem own_news {W : World} {B n : Nat} {T : List K3} {a : Option Addr} {c : Nat} (h : W.ownsRow B 34 3 (.slice a n c) n (valsC T)) : 0 < n → ∃ ad, a = some ad ∧ ∀ j u, (valsC T)[j]? = some u → W.cell? (ad.add j) = some u := by
  intro hn
  obtain ⟨a', c', e, ha⟩ := own_shape h
  injection e with e1 e2 e3
  subst e1
  obtain ⟨g, rfl⟩ := ha hn
  refine ⟨_, rfl, fun j u hu => ?_⟩
  have hl := (List.getElem?_eq_some_iff.1 hu).1
  have h0 : (⟨g, 0, none⟩ : Addr).add j = ⟨g, j, none⟩ := by
    unfold Addr.add
    split
    · rename_i h; subst h; rfl
    · rw [Nat.zero_add]
  rw [h0]
  exact (h.cellAt j (by rw [← h.1]; exact hl)).trans hu
theorem valsC_oneU (L : List K3) : ∀ u ∈ valsC L, u.oneCell' = true := by
  intro u hu
  obtain ⟨x, _, hx⟩ := List.mem_flatMap.1 hu
  simp at hx
  rcases hx with rfl | rfl | rfl <;> rfl
/-- Three rows of keys that the call owns, none on another. -/
structure KR (w W : World) (vp vt vs : Value) (P T S : List K3) : Prop where
  p : W.ownsRow w.heap.size 34 3 vp P.length (valsC P)
  t : W.ownsRow w.heap.size 34 3 vt T.length (valsC T)
  s : W.ownsRow w.heap.size 34 3 vs S.length (valsC S)
  pt : ∀ g, vp.ownBlock = some g → vt.ownBlock ≠ some g
  ps : ∀ g, vp.ownBlock = some g → vs.ownBlock ≠ some g
  ts : ∀ g, vt.ownBlock = some g → vs.ownBlock ≠ some g
  b : Below w.heap.size w W
section
variable {w W W' w3 : World} {vp vt vs : Value} {P T S : List K3}
theorem KR.below (h : KR w W vp vt vs P T S) (u : Below W.heap.size W W') : KR w W' vp vt vs P T S := by
  have hu := Upd.of_below_all (M := fun _ => False) u
  exact ⟨hu.own h.p (fun _ _ e => e), hu.own h.t (fun _ _ e => e), hu.own h.s (fun _ _ e => e), h.pt, h.ps, h.ts, h.b.trans (u.mono h.b.size)⟩
theorem KR.upd (h : KR w W vp vt vs P T S) {o : Obj} {v : Value} (hg : (W.alloc o).grownBy w3 v.ownBlock) (hv : ∀ g, v.ownBlock = some g → w.heap.size ≤ g) : Below w.heap.size w w3 ∧ Upd W w3 (fun k => v.ownBlock = some k) := by
  have u : Upd W w3 (fun k => v.ownBlock = some k) := ((Upd.refl W _).alloc o).grown hg (fun k e => e)
  exact ⟨h.b.trans (u.below h.b.size hv), u⟩
theorem KR.moreP {g cap n : Nat} {o : Obj} (k : K3) (h : KR w W vp vt vs P T S) (hn : P.length = n) (hown : w3.ownsRow w.heap.size 34 3 (.slice (some ⟨g, 0, none⟩) (n + 1) cap) (n + 1) (valsC P ++ [.int .i64 k.1, .int .i64 k.2.1, .string k.2.2])) (hg : (W.alloc o).grownBy w3 vp.ownBlock) (hat : vp.ownBlock = some g ∨ W.heap.size ≤ g) :
    KR w w3 (.slice (some ⟨g, 0, none⟩) (n + 1) cap) vt vs (P ++ [k]) T S := by
  obtain ⟨hb, u⟩ := h.upd hg (fun g hg => (h.p.lt g hg).1)
  have ne : ∀ {v : Value} {l : List K3}, W.ownsRow w.heap.size 34 3 v l.length (valsC l) → (∀ g, vp.ownBlock = some g → v.ownBlock ≠ some g) → ∀ g', (Value.slice (some ⟨g, 0, none⟩) (n + 1) cap).ownBlock = some g' → v.ownBlock ≠ some g' := fun hr hd g' hg' e => by
    obtain rfl : g = g' := by simpa [Value.ownBlock] using hg'
    rcases hat with q | q
    · exact hd g q e
    · have := (hr.lt g e).2; omega
  refine ⟨?_, u.own h.t (fun k hk e => h.pt k e hk), u.own h.s (fun k hk e => h.ps k e hk), ne h.t h.pt, ne h.s h.ps, h.ts, hb⟩
  rw [List.length_append, valsC_append, hn]
  exact hown
theorem KR.moreT {g cap n : Nat} {o : Obj} (k : K3) (h : KR w W vp vt vs P T S) (hn : T.length = n) (hown : w3.ownsRow w.heap.size 34 3 (.slice (some ⟨g, 0, none⟩) (n + 1) cap) (n + 1) (valsC T ++ [.int .i64 k.1, .int .i64 k.2.1, .string k.2.2])) (hg : (W.alloc o).grownBy w3 vt.ownBlock) (hat : vt.ownBlock = some g ∨ W.heap.size ≤ g) :
    KR w w3 vp (.slice (some ⟨g, 0, none⟩) (n + 1) cap) vs P (T ++ [k]) S := by
  obtain ⟨hb, u⟩ := h.upd hg (fun g hg => (h.t.lt g hg).1)
  have ne : ∀ {v : Value} {l : List K3}, W.ownsRow w.heap.size 34 3 v l.length (valsC l) → (∀ g, vt.ownBlock = some g → v.ownBlock ≠ some g) → ∀ g', (Value.slice (some ⟨g, 0, none⟩) (n + 1) cap).ownBlock = some g' → v.ownBlock ≠ some g' := fun hr hd g' hg' e => by
    obtain rfl : g = g' := by simpa [Value.ownBlock] using hg'
    rcases hat with q | q
    · exact hd g q e
    · have := (hr.lt g e).2; omega
  refine ⟨u.own h.p (fun k hk e => h.pt k hk e), ?_, u.own h.s (fun k hk e => h.ts k e hk), fun g' hp ht => ne h.p (fun g h1 h2 => h.pt g h2 h1) g' ht hp, h.ps, ne h.s h.ts, hb⟩
  rw [List.length_append, valsC_append, hn]
  exact hown
theorem KR.moreS {g cap n : Nat} {o : Obj} (k : K3) (h : KR w W vp vt vs P T S) (hn : S.length = n) (hown : w3.ownsRow w.heap.size 34 3 (.slice (some ⟨g, 0, none⟩) (n + 1) cap) (n + 1) (valsC S ++ [.int .i64 k.1, .int .i64 k.2.1, .string k.2.2])) (hg : (W.alloc o).grownBy w3 vs.ownBlock) (hat : vs.ownBlock = some g ∨ W.heap.size ≤ g) :
    KR w w3 vp vt (.slice (some ⟨g, 0, none⟩) (n + 1) cap) P T (S ++ [k]) := by
  obtain ⟨hb, u⟩ := h.upd hg (fun g hg => (h.s.lt g hg).1)
  have ne : ∀ {v : Value} {l : List K3}, W.ownsRow w.heap.size 34 3 v l.length (valsC l) → (∀ g, vs.ownBlock = some g → v.ownBlock ≠ some g) → ∀ g', (Value.slice (some ⟨g, 0, none⟩) (n + 1) cap).ownBlock = some g' → v.ownBlock ≠ some g' := fun hr hd g' hg' e => by
    obtain rfl : g = g' := by simpa [Value.ownBlock] using hg'
    rcases hat with q | q
    · exact hd g q e
    · have := (hr.lt g e).2; omega
  refine ⟨u.own h.p (fun k hk e => h.ps k hk e), u.own h.t (fun k hk e => h.ts k hk e), ?_, h.pt, fun g' hp hs => ne h.p (fun g h1 h2 => h.ps g h2 h1) g' hs hp, fun g' ht hs => ne h.t (fun g h1 h2 => h.ts g h2 h1) g' hs ht, hb⟩
  rw [List.length_append, valsC_append, hn]
  exact hown
end
set_option maxRecDepth 100000 in
set_option maxHeartbeats 16000000 in
theorem rkeys_any {o : PO} {q : Nat} {pv ev : Value} {w : World} (h : RO o q pv ev w) (hO : o.Ok) (hG : LG w) (hP : PG w) (hA : o.A.length ≤ 4000) :
    Calls Tryd.prog 38 #[.pointer (some ⟨q, 0, none⟩)] w fun e w' => ∃ rv, e = .returned rv ∧ w'.ownsRow w.heap.size 34 3 rv o.keys.length (valsC o.keys) ∧ Below w.heap.size w w' := by
  obtain ⟨i0, hi, hz0, hz1, hz2⟩ := info_parts infoVal
  have H := Lib.hid (And.intro h (And.intro hO (And.intro hG (And.intro hP hA))))
  obtain ⟨n, hn⟩ : ∃ n, o.L.length = n := ⟨_, rfl⟩
  obtain ⟨m, hm⟩ : ∃ m, o.A.length = m := ⟨_, rfl⟩
  have hre := h.re
  have hrp := h.rp
  rw [hn] at hre
  rw [hm] at hrp
  obtain ⟨ea, ecap, rfl, hea⟩ := own_shape hre
  obtain ⟨pa, pcap, rfl, hpa⟩ := own_shape hrp
  have hn40 : n ≤ 40 := hn ▸ hO.le
  have hm4 : m ≤ 4000 := hm ▸ hA
  have HN := Lib.hid (And.intro hn hm)
  have HEA := Lib.hid (And.intro hea hpa)
  obtain ⟨ar, har⟩ : ∃ ar, o.arr = ar := ⟨_, rfl⟩
  have HAR := Lib.hid har
  have hpl : ar = false → n = 0 := fun e => by rw [← hn, hO.pl (har.trans e)]; rfl
  clear h hO hG hP hA hn hm hre hrp hea hpa har
  -- what the object's cells hold, in all worlds above
  have hcell : ∀ W, Below w.heap.size w W → W.cell? ⟨q, 0, none⟩ = some (.bool ar) ∧ W.cell? ⟨q, 5, none⟩ = some (.slice ea n ecap) ∧ W.cell? ⟨q, 4, none⟩ = some (.slice pa m pcap) ∧ q < W.heap.size := fun W b => by
    have h1 := (H.out.1.below b).ob
    rw [← HAR.out]
    exact ⟨by rw [h1.cell]; rfl, by rw [h1.cell]; rfl, by rw [h1.cell]; rfl, h1.lt⟩
  have HC := Lib.hid hcell
  clear hcell
  go_enter Tryd.func38, Tryd.ntmps38
  go_upto_block 0 with fail
  have hK0 : KR w w (.slice none 0 0) (.slice none 0 0) (.slice none 0 0) (plcK o 0) [] [] := ⟨World.ownsRow_nil _ _ _ _, World.ownsRow_nil _ _ _ _, World.ownsRow_nil _ _ _ _, fun g h => (by simp [Value.ownBlock] at h), fun g h => (by simp [Value.ownBlock] at h), fun g h => (by simp [Value.ownBlock] at h), Below.refl _ _⟩
  have HK0 := Lib.hid hK0
  clear hK0
  go_cut [3, 6, 7] from 10 to 69 (fun vp v6 v7 wx => Hid (KR w wx vp (.slice none 0 0) (.slice none 0 0) (plcK o (lenP o)) [] []))
  case first =>
    go_wp2_with fail
    go_loopw [3, 6, 7] (fun vp vi v7 wr => ∃ i : Nat, i ≤ lenP o ∧ vi = .int .i64 (i : Int) ∧ Hid (KR w wr vp (.slice none 0 0) (.slice none 0 0) (plcK o i) [] [])) (fun _ vi _ _ => lenP o - (intOf vi).toNat)
    case atStart => exact ⟨0, Nat.zero_le _, rfl, HK0⟩
    case round =>
      obtain ⟨i, hil, rfl, HK⟩ := hrel
      have hi1000 : i ≤ 1000 := by
        have h1 : lenP o ≤ 1000 := by
          unfold lenP
          rw [HN.out.1, HN.out.2]
          split
          · omega
          · split <;> omega
        omega
      obtain ⟨nP, hnP⟩ : ∃ k, (plcK o i).length = k := ⟨_, rfl⟩
      have hnPi : nP ≤ i := hnP ▸ plcK_len o i
      have HP := Lib.hid hnP
      have hbw := HK.out.b
      obtain ⟨x0, x5, x4, lq⟩ := HC.out wr hbw
      obtain ⟨N, hN⟩ : ∃ N, lenP o = N := ⟨_, rfl⟩
      have hNv : N = if ar = true then n else if m = 0 then 0 else 1000 := by
        rw [← hN, ← HAR.out, ← HN.out.1, ← HN.out.2]; rfl
      rw [hN] at hil
      obtain ⟨pla, plcap, rfl, -⟩ : ∃ a c, u3 = Value.slice a nP c ∧ True := by
        obtain ⟨a, c, e, _⟩ := own_shape HK.out.p
        rw [hnP] at e
        exact ⟨a, c, e, trivial⟩
      clear hnP
      by_cases hlt : i < N
      · have aw : IntKind.i64.wrap ((i : Int) + 1) = ((i + 1 : Nat) : Int) := by rw [IntWalk.i64_in _ (by omega)]; rfl
        have hi999 : i < 1000 := by
          rw [hNv] at hlt
          split at hlt
          · omega
          · split at hlt <;> omega
        have t1 : decide ((i : Int) < 1000) = true := by rw [decide_eq_true_eq]; omega
        -- the key
        have hkey : ∃ W5, Hid (∀ W, Below w.heap.size w W → Calls Tryd.prog 70 #[.int .i64 (i : Int)] W fun e w' => e = .returned (.string ⟨(Tx.decB i).toArray⟩) ∧ Below W.heap.size W w') ∧ W5 = w := ⟨w, Lib.hid (fun W b => itoa_any i (by omega) W (H.out.2.2.2.1.below b)), rfl⟩
        obtain ⟨-, HIT, -⟩ := hkey
        have HST : Hid (∀ W, Below w.heap.size w W → Calls Tryd.prog 69 #[.string ⟨(Tx.decB i).toArray⟩] W fun e w' => e = .returned (VK (keyD i)) ∧ Below W.heap.size W w') := Lib.hid (fun W b => rstr_any (Tx.decB i) (Tx.decB_ascii i (by omega)) (by have := decB_len i (by omega); omega) W (H.out.2.2.1.below b))
        obtain ⟨⟨k1, k2, k3⟩, hkd⟩ : ∃ k : K3, keyD i = k := ⟨_, rfl⟩
        have HKD := Lib.hid hkd
        rw [hkd] at HST
        clear hkd
        cases ar with
        | true =>
          have hNn : N = n := by rw [hNv, if_pos rfl]
          have t2 : decide ((i : Int) < (n : Int)) = true := by rw [decide_eq_true_eq]; omega
          obtain ⟨ge, rfl⟩ := HEA.out.1 (by omega)
          obtain ⟨x, hx⟩ : ∃ x, o.L[i]? = some x := ⟨_, List.getElem?_eq_getElem (by rw [HN.out.1]; omega)⟩
          have hre : ∀ W, Below w.heap.size w W → W.cell? ⟨ge, i * 3, none⟩ = some (.int .i64 x.1) := fun W b => by
            have h1 := (H.out.1.below b).re
            rw [HN.out.1] at h1
            exact (h1.cellAt (i * 3) (by omega)).trans (valsC_get _ i 0 x hx (by decide))
          have HRE := Lib.hid hre
          have hselx : selP o i = decide (x.1 ≠ 10) := by
            unfold selP
            rw [if_pos HAR.out, List.getD_eq_getElem?_getD, hx]
            rfl
          have z0 : (0 : Int) ≤ (i : Int) := by omega
          have z1 : (i : Int) < (n : Int) := by omega
          clear hre x4
          go_wp2_with fail
          refine (HIT.out wr hbw).mono ?_
          rintro e W1 ⟨rfl, b1⟩
          have bW1 := hbw.trans (b1.mono hbw.size)
          go_wp2_with fail
          refine (HST.out W1 bW1).mono ?_
          rintro e W2 ⟨rfl, b2⟩
          have bW2 := b1.trans (b2.mono b1.size)
          have bW3 := bW2.alloc bW2.size (.cells #[.int .i64 k1, .int .i64 k2, .string k3] 34)
          have HK5 := Lib.hid (HK.out.below bW3)
          have kb := Blk.new W2 34 #[.int .i64 k1, .int .i64 k2, .string k3]
          have HKB := Lib.hid kb
          clear x0 x5 lq b1 bW1 b2 bW2 bW3 kb
          go_upto_region 6 with fail
          generalize W2.alloc (.cells #[.int .i64 k1, .int .i64 k2, .string k3] 34) = W5 at *
          generalize W2.heap.size = qb at *
          obtain ⟨x0, x5, -, lq⟩ := HC.out W5 HK5.out.b
          have y0 : W5.cell? ⟨qb, 0, none⟩ = some (.int .i64 k1) := by rw [HKB.out.cell]; rfl
          have y1 : W5.cell? ⟨qb, 1, none⟩ = some (.int .i64 k2) := by rw [HKB.out.cell]; rfl
          have y2 : W5.cell? ⟨qb, 2, none⟩ = some (.string k3) := by rw [HKB.out.cell]; rfl
          have lqb := HKB.out.lt
          have e0 := HRE.out W5 HK5.out.b
          by_cases h10 : x.1 = 10
          · have t3 : (x.1 == 10) = true := by rw [h10]; rfl
            have hsel : selP o i = false := by rw [hselx]; simp [h10]
            have HK6 : Hid (KR w W5 (.slice pla nP plcap) (.slice none 0 0) (.slice none 0 0) (plcK o (i + 1)) [] []) := Lib.hid (by rw [plcK_succ, hsel, if_neg (by decide), List.append_nil]; exact HK5.out)
            rw [h10] at e0 t3
            go_wp2_with fail
            go_roundw
            case rel => exact ⟨i + 1, by omega, rfl, HK6⟩
            case measure => simp only [intOf]; omega
          · have t3 : (x.1 == 10) = false := by simp [h10]
            have hsel : selP o i = true := by rw [hselx]; simp [h10]
            have ap : Hid (∀ (w3 : World) (g cap : Nat), w3.ownsRow w.heap.size 34 3 (.slice (some ⟨g, 0, none⟩) (nP + 1) cap) (nP + 1) (valsC (plcK o i) ++ [.int .i64 k1, .int .i64 k2, .string k3]) → (W5.alloc (.cells #[.int .i64 k1, .int .i64 k2, .string k3] 34)).grownBy w3 (Value.slice pla nP plcap).ownBlock → ((Value.slice pla nP plcap).ownBlock = some g ∨ g = W5.heap.size + 1) → KR w w3 (.slice (some ⟨g, 0, none⟩) (nP + 1) cap) (.slice none 0 0) (.slice none 0 0) (plcK o (i + 1)) [] []) := Lib.hid fun w3 g cap h1 h2 h3 => by
              have h4 := HK5.out.moreP (k1, k2, k3) HP.out h1 h2 (h3.imp id (fun e => by omega))
              rw [plcK_succ, if_pos hsel, HKD.out]
              exact h4
            have hb5 : w.heap.size ≤ W5.heap.size := HK5.out.b.size
            have hrow5 : W5.ownsRow w.heap.size 34 3 (.slice pla nP plcap) nP (valsC (plcK o i)) := by have := HK5.out.p; rw [HP.out] at this; exact this
            go_wp2_with (at_builtin; refine wpList_append_lies _ rfl _ _ 45 rfl w.heap.size 34 i0 _ 3 32 Tryd.underlying45 hi hz0 hz1 hz2 rfl (by decide) _ _ _ rfl (hrow5.alloc _) ⟨W5.heap.size, 0, none⟩ 1 1 [.int .i64 k1, .int .i64 k2, .string k3] rfl rfl (World.news_of_block (cs := #[.int .i64 k1, .int .i64 k2, .string k3]) (t := 34) (fr := (0, 0)) (heap_alloc_new W5 _)) (by simp [Value.oneCell']) (by decide) (by unfold maxLen; omega) (by omega) (by simp; omega) _ rfl ?_)
            intro g3 cap3 w3 hown3 hgrow3 hat3 hlt3
            have HK3 := Lib.hid (ap.out w3 g3 cap3 hown3 hgrow3 hat3)
            clear hown3 hgrow3 hat3 hlt3 ap hrow5 y0 y1 y2
            go_wp2_with fail
            go_roundw
            case rel => exact ⟨i + 1, by omega, rfl, HK3⟩
            case measure => simp only [intOf]; omega
        | false =>
          obtain rfl : n = 0 := hpl rfl
          have hm0 : m ≠ 0 := fun e => by
            rw [hNv, if_neg (by decide), if_pos e] at hlt; omega
          have t2 : decide ((i : Int) < ((0 : Nat) : Int)) = false := by rw [decide_eq_false_iff_not]; omega
          have t4 : decide ((0 : Int) < (m : Int)) = true := by rw [decide_eq_true_eq]; omega
          have hselx : selP o i = decide (0 ≤ fnd o.A (keyD i)) := by
            unfold selP
            rw [if_neg (by rw [HAR.out]; decide)]
            exact any_fnd H.out.2.1 i
          have HFD : Hid (∀ W, Below w.heap.size w W → Calls Tryd.prog 71 #[.pointer (some ⟨q, 0, none⟩), VS k1 k2 k3] W fun e w' => e = .returned (.int .i64 (fnd o.A (keyD i))) ∧ Below W.heap.size W w') := Lib.hid (fun W b => by
            have h1 := rfind_any (k := keyD i) (H.out.1.below b) H.out.2.2.2.2
            rw [HKD.out] at h1 ⊢
            exact h1)
          obtain ⟨fv, hfv⟩ : ∃ fv, fnd o.A (keyD i) = fv := ⟨_, rfl⟩
          rw [hfv] at HFD hselx
          clear hfv
          go_wp2_with fail
          refine (HIT.out wr hbw).mono ?_
          rintro e W1 ⟨rfl, b1⟩
          have bW1 := hbw.trans (b1.mono hbw.size)
          go_wp2_with fail
          refine (HST.out W1 bW1).mono ?_
          rintro e W2 ⟨rfl, b2⟩
          have bW2 := b1.trans (b2.mono b1.size)
          have bW3 := bW2.alloc bW2.size (.cells #[.int .i64 k1, .int .i64 k2, .string k3] 34)
          have HK5 := Lib.hid (HK.out.below bW3)
          have kb := Blk.new W2 34 #[.int .i64 k1, .int .i64 k2, .string k3]
          have HKB := Lib.hid kb
          clear x0 x5 x4 lq b1 bW1 b2 bW2 bW3 kb
          go_upto_region 6 with fail
          generalize W2.alloc (.cells #[.int .i64 k1, .int .i64 k2, .string k3] 34) = W4 at *
          generalize W2.heap.size = qb at *
          obtain ⟨x0, x5, -, lq⟩ := HC.out W4 HK5.out.b
          have y0 : W4.cell? ⟨qb, 0, none⟩ = some (.int .i64 k1) := by rw [HKB.out.cell]; rfl
          have y1 : W4.cell? ⟨qb, 1, none⟩ = some (.int .i64 k2) := by rw [HKB.out.cell]; rfl
          have y2 : W4.cell? ⟨qb, 2, none⟩ = some (.string k3) := by rw [HKB.out.cell]; rfl
          have lqb := HKB.out.lt
          go_wp2_with fail
          refine (HFD.out W4 HK5.out.b).mono ?_
          rintro e W5 ⟨rfl, b5⟩
          have HKX := Lib.hid (HK5.out.below b5)
          have HKY := Lib.hid (HKB.out.below b5 HKB.out.lt)
          clear b5 x0 x5 lq y0 y1 y2 lqb HK5 HKB
          have HK5 := HKX
          have HKB := HKY
          clear HKX HKY
          have y0 : W5.cell? ⟨qb, 0, none⟩ = some (.int .i64 k1) := by rw [HKB.out.cell]; rfl
          have y1 : W5.cell? ⟨qb, 1, none⟩ = some (.int .i64 k2) := by rw [HKB.out.cell]; rfl
          have y2 : W5.cell? ⟨qb, 2, none⟩ = some (.string k3) := by rw [HKB.out.cell]; rfl
          have lqb := HKB.out.lt
          cases hsel : decide (0 ≤ fv) with
          | true =>
            have t3 : decide (0 ≤ fv) = true := hsel
            rw [hsel] at hselx
            have hsel := hselx
            have ap : Hid (∀ (w3 : World) (g cap : Nat), w3.ownsRow w.heap.size 34 3 (.slice (some ⟨g, 0, none⟩) (nP + 1) cap) (nP + 1) (valsC (plcK o i) ++ [.int .i64 k1, .int .i64 k2, .string k3]) → (W5.alloc (.cells #[.int .i64 k1, .int .i64 k2, .string k3] 34)).grownBy w3 (Value.slice pla nP plcap).ownBlock → ((Value.slice pla nP plcap).ownBlock = some g ∨ g = W5.heap.size + 1) → KR w w3 (.slice (some ⟨g, 0, none⟩) (nP + 1) cap) (.slice none 0 0) (.slice none 0 0) (plcK o (i + 1)) [] []) := Lib.hid fun w3 g cap h1 h2 h3 => by
              have h4 := HK5.out.moreP (k1, k2, k3) HP.out h1 h2 (h3.imp id (fun e => by omega))
              rw [plcK_succ, if_pos hsel, HKD.out]
              exact h4
            have hb5 : w.heap.size ≤ W5.heap.size := HK5.out.b.size
            have hrow5 : W5.ownsRow w.heap.size 34 3 (.slice pla nP plcap) nP (valsC (plcK o i)) := by have := HK5.out.p; rw [HP.out] at this; exact this
            go_wp2_with (at_builtin; refine wpList_append_lies _ rfl _ _ 45 rfl w.heap.size 34 i0 _ 3 32 Tryd.underlying45 hi hz0 hz1 hz2 rfl (by decide) _ _ _ rfl (hrow5.alloc _) ⟨W5.heap.size, 0, none⟩ 1 1 [.int .i64 k1, .int .i64 k2, .string k3] rfl rfl (World.news_of_block (cs := #[.int .i64 k1, .int .i64 k2, .string k3]) (t := 34) (fr := (0, 0)) (heap_alloc_new W5 _)) (by simp [Value.oneCell']) (by decide) (by unfold maxLen; omega) (by omega) (by simp; omega) _ rfl ?_)
            intro g3 cap3 w3 hown3 hgrow3 hat3 hlt3
            have HK3 := Lib.hid (ap.out w3 g3 cap3 hown3 hgrow3 hat3)
            clear hown3 hgrow3 hat3 hlt3 ap hrow5 y0 y1 y2
            go_wp2_with fail
            go_roundw
            case rel => exact ⟨i + 1, by omega, rfl, HK3⟩
            case measure => simp only [intOf]; omega
          | false =>
            have t3 : decide (0 ≤ fv) = false := hsel
            rw [hsel] at hselx
            have HK6 : Hid (KR w W5 (.slice pla nP plcap) (.slice none 0 0) (.slice none 0 0) (plcK o (i + 1)) [] []) := Lib.hid (by rw [plcK_succ, hselx, if_neg (by decide), List.append_nil]; exact HK5.out)
            go_wp2_with fail
            go_roundw
            case rel => exact ⟨i + 1, by omega, rfl, HK6⟩
            case measure => simp only [intOf]; omega
      · obtain rfl : i = N := by omega
        have HKe : Hid (KR w wr (.slice pla nP plcap) (.slice none 0 0) (.slice none 0 0) (plcK o (lenP o)) [] []) := by rw [hN]; exact HK
        cases ar with
        | true =>
          rw [if_pos rfl] at hNv
          have t1 : decide ((i : Int) < 1000) = true := by rw [decide_eq_true_eq]; omega
          have t2 : decide ((i : Int) < (n : Int)) = false := by rw [decide_eq_false_iff_not]; omega
          go_wp2_with fail
          go_meet
          exact HKe
        | false =>
          obtain rfl : n = 0 := hpl rfl
          rw [if_neg (by decide)] at hNv
          by_cases hm0 : m = 0
          · rw [if_pos hm0] at hNv
            subst hm0 hNv
            have t1 : decide (((0 : Nat) : Int) < 1000) = true := by decide
            have t2 : decide (((0 : Nat) : Int) < ((0 : Nat) : Int)) = false := by decide
            have t4 : decide ((0 : Int) < ((0 : Nat) : Int)) = false := by decide
            go_wp2_with fail
            go_meet
            exact HKe
          · rw [if_neg hm0] at hNv
            have t1 : decide ((i : Int) < 1000) = false := by rw [decide_eq_false_iff_not]; omega
            go_wp2_with fail
            go_meet
            exact HKe
  case rest =>
  have hle : lenP o ≤ 1000 := by
    unfold lenP
    rw [HN.out.1, HN.out.2]
    split
    · omega
    · split <;> omega
  obtain ⟨P, hPe⟩ : ∃ P, plcK o (lenP o) = P := ⟨_, rfl⟩
  obtain ⟨nP, hnP⟩ : ∃ k, P.length = k := ⟨_, rfl⟩
  have hnPi : nP ≤ 1000 := by
    have := plcK_len o (lenP o)
    rw [hPe, hnP] at this
    omega
  have HPE := Lib.hid (And.intro hPe hnP)
  rw [hPe] at hcut
  have HK0 := hcut
  clear hPe hnP hle hcut
  go_upto_block 2 with fail
  go_cut [4, 5, 8, 9] from 70 to 106 (fun vt vs v8 v9 wx => Hid (KR w wx u3 vt vs P (txtA ar o.A) (symA o.A)))
  case first =>
    go_wp2_with fail
    go_loopw [4, 5, 8, 9] (fun vt vs vi v9 wr => ∃ i : Nat, i ≤ m ∧ vi = .int .i64 (i : Int) ∧ Hid (KR w wr u3 vt vs P (txtA ar (o.A.take i)) (symA (o.A.take i)))) (fun _ _ vi _ _ => m - (intOf vi).toNat)
    case atStart => exact ⟨0, Nat.zero_le _, rfl, HK0⟩
    case round =>
      obtain ⟨i, him, rfl, HK⟩ := hrel
      obtain ⟨nT, hnT⟩ : ∃ k, (txtA ar (o.A.take i)).length = k := ⟨_, rfl⟩
      obtain ⟨nS, hnS⟩ : ∃ k, (symA (o.A.take i)).length = k := ⟨_, rfl⟩
      have hnTi : nT ≤ i := hnT ▸ txtA_len ar o.A i
      have hnSi : nS ≤ i := hnS ▸ symA_len o.A i
      have HTS := Lib.hid (And.intro hnT hnS)
      obtain ⟨ta, tcap, rfl⟩ : ∃ a c, u4 = Value.slice a nT c := by
        obtain ⟨a, c, e, _⟩ := own_shape HK.out.t
        rw [hnT] at e
        exact ⟨a, c, e⟩
      obtain ⟨sa, scap, rfl⟩ : ∃ a c, u5 = Value.slice a nS c := by
        obtain ⟨a, c, e, _⟩ := own_shape HK.out.s
        rw [hnS] at e
        exact ⟨a, c, e⟩
      have hbw := HK.out.b
      obtain ⟨x0, -, x4, lq⟩ := HC.out wr hbw
      clear hnT hnS
      by_cases hlt : i < m
      · have aw : IntKind.i64.wrap ((i : Int) + 1) = ((i + 1 : Nat) : Int) := by rw [IntWalk.i64_in _ (by omega)]; rfl
        have t1 : decide ((i : Int) < (m : Int)) = true := by rw [decide_eq_true_eq]; omega
        obtain ⟨gp, rfl⟩ := HEA.out.2 (by omega)
        obtain ⟨x, hx⟩ : ∃ x, o.A[i]? = some x := ⟨_, List.getElem?_eq_getElem (by rw [HN.out.2]; omega)⟩
        obtain ⟨hks, hgr, -, -⟩ := H.out.2.1.ks x (List.mem_of_getElem? hx)
        obtain ⟨k1, k2, k3⟩ : K3 := x.key
        have hrp := (H.out.1.below hbw).rp
        rw [HN.out.2] at hrp
        obtain ⟨k1, hk1⟩ : ∃ k, x.key.1 = k := ⟨_, rfl⟩
        obtain ⟨k2, hk2⟩ : ∃ k, x.key.2.1 = k := ⟨_, rfl⟩
        obtain ⟨k3, hk3⟩ : ∃ k, x.key.2.2 = k := ⟨_, rfl⟩
        have hxk : x.key = (k1, k2, k3) := by rw [← hk1, ← hk2, ← hk3]
        have p0 : wr.cell? ⟨gp, i * 7, none⟩ = some (.int .i64 k1) := (hrp.cellAt (i * 7) (by omega)).trans (by rw [show i * 7 = i * 7 + 0 from rfl, propsC_get _ i x hx 0 (by decide), ← hk1]; rfl)
        have p1 : wr.cell? ⟨gp, i * 7 + 1, none⟩ = some (.int .i64 k2) := (hrp.cellAt (i * 7 + 1) (by omega)).trans (by rw [propsC_get _ i x hx 1 (by decide), ← hk2]; rfl)
        have p2 : wr.cell? ⟨gp, i * 7 + 2, none⟩ = some (.string k3) := (hrp.cellAt (i * 7 + 2) (by omega)).trans (by rw [propsC_get _ i x hx 2 (by decide), ← hk3]; rfl)
        have hT := txtA_succ (arr := ar) hx
        have hS := symA_succ hx
        rw [hxk] at hT hS hks
        dsimp only at hT hS
        have z0 : (0 : Int) ≤ (i : Int) := by omega
        have z1 : (i : Int) < (m : Int) := by omega
        have HX := Lib.hid (And.intro hT (And.intro hS hks))
        have hkind : k1 = 7 ∨ k1 = 8 := ks_kind hks
        have bW3 := hbw.alloc hbw.size (.cells #[.int .i64 k1, .int .i64 k2, .string k3] 34)
        have HK5 := Lib.hid (HK.out.below ((Below.refl _ _).alloc (Nat.le_refl _) (.cells #[.int .i64 k1, .int .i64 k2, .string k3] 34)))
        have HKB := Lib.hid (Blk.new wr 34 #[.int .i64 k1, .int .i64 k2, .string k3])
        clear hrp hk1 hk2 hk3 hxk hT hS hks hgr hx bW3
        go_upto_region 13 with fail
        generalize wr.alloc (.cells #[.int .i64 k1, .int .i64 k2, .string k3] 34) = W5 at *
        generalize wr.heap.size = qb at *
        clear x0 x4 lq p0 p1 p2 hbw
        obtain ⟨x0, -, x4, lq⟩ := HC.out W5 HK5.out.b
        have y0 : W5.cell? ⟨qb, 0, none⟩ = some (.int .i64 k1) := by rw [HKB.out.cell]; rfl
        have y1 : W5.cell? ⟨qb, 1, none⟩ = some (.int .i64 k2) := by rw [HKB.out.cell]; rfl
        have y2 : W5.cell? ⟨qb, 2, none⟩ = some (.string k3) := by rw [HKB.out.cell]; rfl
        have lqb := HKB.out.lt
        have hb5 : w.heap.size ≤ W5.heap.size := HK5.out.b.size
        rcases hkind with h7 | h8
        rotate_left
        · subst h8
          have hrow5 : W5.ownsRow w.heap.size 34 3 (.slice sa nS scap) nS (valsC (symA (o.A.take i))) := (by have := HK5.out.s; rw [HTS.out.2] at this; exact this)
          go_wp2_with (at_builtin; refine wpList_append_lies _ rfl _ _ 45 rfl w.heap.size 34 i0 _ 3 32 Tryd.underlying45 hi hz0 hz1 hz2 rfl (by decide) _ _ _ rfl (hrow5.alloc _) ⟨W5.heap.size, 0, none⟩ 1 1 [.int .i64 8, .int .i64 k2, .string k3] rfl rfl (World.news_of_block (cs := #[.int .i64 8, .int .i64 k2, .string k3]) (t := 34) (fr := (0, 0)) (heap_alloc_new W5 _)) (by simp [Value.oneCell']) (by decide) (by unfold maxLen; omega) (by omega) (by simp; omega) _ rfl ?_)
          intro g3 cap3 w3 hown3 hgrow3 hat3 hlt3
          have HK3 := Lib.hid (show KR w w3 u3 (.slice ta nT tcap) (.slice (some ⟨g3, 0, none⟩) (nS + 1) cap3) P (txtA ar (o.A.take (i + 1))) (symA (o.A.take (i + 1))) from (by rw [HX.out.1, HX.out.2.1, if_neg (by simp), if_pos (by decide), List.append_nil]; exact HK5.out.moreS (8, k2, k3) HTS.out.2 hown3 hgrow3 (hat3.imp id (fun e => by omega))))
          clear hown3 hgrow3 hat3 hlt3 hrow5 y0 y1 y2
          go_wp2_with fail
          go_roundw
          case rel => exact ⟨i + 1, by omega, rfl, HK3⟩
          case measure => simp only [intOf]; omega
        · subst h7
          have tk : ((7 : Int) == 8) = false := by decide
          cases ar with
          | true =>
            have hrow5 : W5.ownsRow w.heap.size 34 3 (.slice ta nT tcap) nT (valsC (txtA true (o.A.take i))) := (by have := HK5.out.t; rw [HTS.out.1] at this; exact this)
            go_wp2_with (at_builtin; refine wpList_append_lies _ rfl _ _ 45 rfl w.heap.size 34 i0 _ 3 32 Tryd.underlying45 hi hz0 hz1 hz2 rfl (by decide) _ _ _ rfl (hrow5.alloc _) ⟨W5.heap.size, 0, none⟩ 1 1 [.int .i64 7, .int .i64 k2, .string k3] rfl rfl (World.news_of_block (cs := #[.int .i64 7, .int .i64 k2, .string k3]) (t := 34) (fr := (0, 0)) (heap_alloc_new W5 _)) (by simp [Value.oneCell']) (by decide) (by unfold maxLen; omega) (by omega) (by simp; omega) _ rfl ?_)
            intro g3 cap3 w3 hown3 hgrow3 hat3 hlt3
            have HK3 := Lib.hid (show KR w w3 u3 (.slice (some ⟨g3, 0, none⟩) (nT + 1) cap3) (.slice sa nS scap) P (txtA true (o.A.take (i + 1))) (symA (o.A.take (i + 1))) from (by rw [HX.out.1, HX.out.2.1, if_pos (by simp), if_neg (by decide), List.append_nil]; exact HK5.out.moreT (7, k2, k3) HTS.out.1 hown3 hgrow3 (hat3.imp id (fun e => by omega))))
            clear hown3 hgrow3 hat3 hlt3 hrow5 y0 y1 y2
            go_wp2_with fail
            go_roundw
            case rel => exact ⟨i + 1, by omega, rfl, HK3⟩
            case measure => simp only [intOf]; omega
          | false =>
            have HPL : Hid (∀ W, Calls Tryd.prog 72 #[VS 7 k2 k3] W fun e w' => e = .returned (.int .i64 (plcV (7, k2, k3))) ∧ Below W.heap.size W w') := Lib.hid (fun W => place_any HX.out.2.2 W)
            obtain ⟨pv, hpv⟩ : ∃ v, plcV (7, k2, k3) = v := ⟨_, rfl⟩
            rw [hpv] at HPL
            have HPV := Lib.hid hpv
            clear hpv
            go_wp2_with fail
            refine (HPL.out W5).mono ?_
            rintro e W6 ⟨rfl, b6⟩
            have HKX := Lib.hid (HK5.out.below b6)
            have HKY := Lib.hid (HKB.out.below b6 HKB.out.lt)
            clear b6 x0 x4 lq y0 y1 y2 lqb HK5 HKB hb5
            obtain ⟨W5, hW5⟩ : ∃ W5, W6 = W5 := ⟨_, rfl⟩
            subst hW5
            have HK5 := HKX
            have HKB := HKY
            clear HKX HKY
            have y0 : W6.cell? ⟨qb, 0, none⟩ = some (.int .i64 7) := by rw [HKB.out.cell]; rfl
            have y1 : W6.cell? ⟨qb, 1, none⟩ = some (.int .i64 k2) := by rw [HKB.out.cell]; rfl
            have y2 : W6.cell? ⟨qb, 2, none⟩ = some (.string k3) := by rw [HKB.out.cell]; rfl
            have lqb := HKB.out.lt
            have hb5 : w.heap.size ≤ W6.heap.size := HK5.out.b.size
            cases hneg : decide (pv < 0) with
            | true =>
              have hrow5 : W6.ownsRow w.heap.size 34 3 (.slice ta nT tcap) nT (valsC (txtA false (o.A.take i))) := (by have := HK5.out.t; rw [HTS.out.1] at this; exact this)
              go_wp2_with (at_builtin; refine wpList_append_lies _ rfl _ _ 45 rfl w.heap.size 34 i0 _ 3 32 Tryd.underlying45 hi hz0 hz1 hz2 rfl (by decide) _ _ _ rfl (hrow5.alloc _) ⟨W6.heap.size, 0, none⟩ 1 1 [.int .i64 7, .int .i64 k2, .string k3] rfl rfl (World.news_of_block (cs := #[.int .i64 7, .int .i64 k2, .string k3]) (t := 34) (fr := (0, 0)) (heap_alloc_new W6 _)) (by simp [Value.oneCell']) (by decide) (by unfold maxLen; omega) (by omega) (by simp; omega) _ rfl ?_)
              intro g3 cap3 w3 hown3 hgrow3 hat3 hlt3
              have HK3 := Lib.hid (show KR w w3 u3 (.slice (some ⟨g3, 0, none⟩) (nT + 1) cap3) (.slice sa nS scap) P (txtA false (o.A.take (i + 1))) (symA (o.A.take (i + 1))) from (by rw [HX.out.1, HX.out.2.1, HPV.out, hneg, if_pos (by decide), if_neg (by decide), List.append_nil]; exact HK5.out.moreT (7, k2, k3) HTS.out.1 hown3 hgrow3 (hat3.imp id (fun e => by omega))))
              clear hown3 hgrow3 hat3 hlt3 hrow5 y0 y1 y2
              go_wp2_with fail
              go_roundw
              case rel => exact ⟨i + 1, by omega, rfl, HK3⟩
              case measure => simp only [intOf]; omega
            | false =>
              have HK3 : Hid (KR w W6 u3 (.slice ta nT tcap) (.slice sa nS scap) P (txtA false (o.A.take (i + 1))) (symA (o.A.take (i + 1)))) := Lib.hid (by
                rw [HX.out.1, HX.out.2.1, HPV.out, hneg, if_neg (by decide), if_neg (by decide), List.append_nil, List.append_nil]
                exact HK5.out)
              go_wp2_with fail
              go_roundw
              case rel => exact ⟨i + 1, by omega, rfl, HK3⟩
              case measure => simp only [intOf]; omega
      · obtain rfl : i = m := by omega
        have t1 : decide ((i : Int) < (i : Int)) = false := by simp
        have HKe : Hid (KR w wr u3 (.slice ta nT tcap) (.slice sa nS scap) P (txtA ar o.A) (symA o.A)) := by
          have h1 : o.A.take i = o.A := by rw [← HN.out.2]; exact List.take_length ..
          have h2 := HK
          rw [h1] at h2
          exact h2
        go_wp2_with fail
        go_meet
        exact HKe
  case rest =>
  obtain ⟨nT, hnT⟩ : ∃ k, (txtA ar o.A).length = k := ⟨_, rfl⟩
  obtain ⟨nS, hnS⟩ : ∃ k, (symA o.A).length = k := ⟨_, rfl⟩
  have hnTi : nT ≤ m := by
    have := txtA_len ar o.A m
    rw [← HN.out.2, List.take_length, hnT, HN.out.2] at this
    exact this
  have hnSi : nS ≤ m := by
    have := symA_len o.A m
    rw [← HN.out.2, List.take_length, hnS, HN.out.2] at this
    exact this
  have HNT := Lib.hid hnT
  have HNS := Lib.hid hnS
  have HK := hcut
  obtain ⟨pa2, pcap2, rfl⟩ : ∃ a c, u3 = Value.slice a nP c := by
    obtain ⟨a, c, e, _⟩ := own_shape HK.out.p
    rw [HPE.out.2] at e
    exact ⟨a, c, e⟩
  obtain ⟨ta, tcap, rfl⟩ : ∃ a c, u4 = Value.slice a nT c := by
    obtain ⟨a, c, e, _⟩ := own_shape HK.out.t
    rw [hnT] at e
    exact ⟨a, c, e⟩
  obtain ⟨sa, scap, rfl⟩ : ∃ a c, u5 = Value.slice a nS c := by
    obtain ⟨a, c, e, _⟩ := own_shape HK.out.s
    rw [hnS] at e
    exact ⟨a, c, e⟩
  clear hnT hnS hcut
  have hbw := HK.out.b
  obtain ⟨x0, -, -, lq⟩ := HC.out _ hbw
  cases ar with
  | true =>
    have HST : Hid (∀ W, Below w.heap.size w W → Calls Tryd.prog 69 #[.string ⟨#[108, 101, 110, 103, 116, 104]⟩] W fun e w' => e = .returned (VK lenK) ∧ Below W.heap.size W w') := Lib.hid (fun W b => by
      have h1 := rstr_any [108, 101, 110, 103, 116, 104] (by decide) (by decide) W (H.out.2.2.1.below b)
      rw [show keyL [108, 101, 110, 103, 116, 104] = lenK by kernel_rfl] at h1
      exact h1)
    go_wp2_with fail
    refine (HST.out _ hbw).mono ?_
    rintro e W5 ⟨rfl, b5⟩
    have HK5 := Lib.hid (HK.out.below b5)
    obtain ⟨⟨k1, k2, k3⟩, hkk⟩ : ∃ k, lenK = k := ⟨_, rfl⟩
    have HKK := Lib.hid hkk
    rw [hkk]
    clear b5 hbw x0 lq HK hkk
    have hb5 : w.heap.size ≤ W5.heap.size := HK5.out.b.size
    have hrow5 : W5.ownsRow w.heap.size 34 3 (.slice ta nT tcap) nT (valsC (txtA true o.A)) := by have := HK5.out.t; rw [HNT.out] at this; exact this
    go_wp2_with (at_builtin; refine wpList_append_lies _ rfl _ _ 45 rfl w.heap.size 34 i0 _ 3 32 Tryd.underlying45 hi hz0 hz1 hz2 rfl (by decide) _ _ _ rfl (hrow5.alloc _) ⟨W5.heap.size, 0, none⟩ 1 1 [.int .i64 k1, .int .i64 k2, .string k3] rfl rfl (World.news_of_block (cs := #[.int .i64 k1, .int .i64 k2, .string k3]) (t := 34) (fr := (0, 0)) (heap_alloc_new W5 _)) (by simp [Value.oneCell']) (by decide) (by unfold maxLen; omega) (by omega) (by simp; omega) _ rfl ?_)
    intro g3 cap3 w3 hown3 hgrow3 hat3 hlt3
    have HK3 := Lib.hid (HK5.out.moreT (k1, k2, k3) HNT.out hown3 hgrow3 (hat3.imp id (fun e => by omega)))
    clear hown3 hgrow3 hat3 hlt3 hrow5
    have HLT : Hid ((txtA true o.A ++ [(k1, k2, k3)]).length = nT + 1) := Lib.hid (by rw [List.length_append, HNT.out]; rfl)
    have HEND : Hid (o.keys = P ++ (txtA true o.A ++ [(k1, k2, k3)]) ++ symA o.A) := Lib.hid (by
      unfold PO.keys
      rw [if_pos HAR.out, ← HKK.out, ← HPE.out.1, plcK_end, if_pos HAR.out]
      simp only [List.append_assoc])
    have hP1 := HK3.out.p
    have hT1 := HK3.out.t
    have hS1 := HK3.out.s
    rw [HPE.out.2] at hP1
    rw [HLT.out] at hT1
    rw [HNS.out] at hS1
    have hbb := HK3.out.b.size
    have hlT : (valsC (txtA true o.A ++ [(k1, k2, k3)])).length = (nT + 1) * 3 := by rw [valsC_length, HLT.out]
    have HN2 := Lib.hid (And.intro (own_news hT1) (And.intro hlT (And.intro hS1 (And.intro HK3.out.ps (And.intro HK3.out.b HK3.out.ts)))))
    clear hT1 hS1 hlT
    go_wp2_with (at_builtin; refine wpList_onto rfl _ _ 45 rfl w.heap.size 34 i0 _ 3 32 Tryd.underlying45 hi hz0 hz1 hz2 rfl (by decide) _ nP (valsC P) rfl hP1 _ (nT + 1) _ (valsC (txtA true o.A ++ [(k1, k2, k3)])) rfl HN2.out.2.1 HN2.out.1 (valsC_oneU _) (by unfold maxLen; omega) (by omega) hbb ?_)
    intro v7 w7 hown7 hgr7 hat7
    have u7 : Upd _ w7 (fun k => (Value.slice pa2 nP pcap2).ownBlock = some k) := Upd.of_grown hgr7 (fun k e => e)
    have hS7 := u7.own HN2.out.2.2.1 (fun k hk e => HN2.out.2.2.2.1 k e hk)
    have b7 := HN2.out.2.2.2.2.1.trans (u7.below hbb (fun k e => (hP1.lt k e).1))
    have hown7' : w7.ownsRow w.heap.size 34 3 v7 (nP + (nT + 1)) (valsC (P ++ (txtA true o.A ++ [(k1, k2, k3)]))) := by rw [valsC_append]; exact hown7
    obtain ⟨va, vcap, rfl, -⟩ := own_shape hown7'
    have hlS : (valsC (symA o.A)).length = nS * 3 := by rw [valsC_length, HNS.out]
    have hb7 := b7.size
    have HN7 := Lib.hid (And.intro (own_news hS7) (And.intro hlS b7))
    clear hown7 hgr7 hat7 u7 hS7 b7 hlS hP1 HN2
    go_wp2_with (at_builtin; refine wpList_onto rfl _ _ 45 rfl w.heap.size 34 i0 _ 3 32 Tryd.underlying45 hi hz0 hz1 hz2 rfl (by decide) _ (nP + (nT + 1)) (valsC (P ++ (txtA true o.A ++ [(k1, k2, k3)]))) rfl hown7' _ nS _ (valsC (symA o.A)) rfl HN7.out.2.1 HN7.out.1 (valsC_oneU _) (by unfold maxLen; omega) (by omega) hb7 ?_)
    intro v8 w8 hown8 hgr8 hat8
    have b8 := HN7.out.2.2.trans ((Upd.of_grown (M := fun k => (Value.slice va (nP + (nT + 1)) vcap).ownBlock = some k) hgr8 (fun k e => e)).below hb7 (fun k e => (hown7'.lt k e).1))
    have hfin : w8.ownsRow w.heap.size 34 3 v8 o.keys.length (valsC o.keys) := by
      rw [HEND.out, List.length_append, List.length_append, HPE.out.2, HLT.out, HNS.out, valsC_append (P ++ _)]
      exact hown8
    have HF := Lib.hid (And.intro hfin b8)
    clear hfin b8 hown8 hgr8 hat8 hown7'
    go_wp2_with fail
    go_ret
    exact ⟨_, rfl, HF.out⟩
  | false =>
    have HLT : Hid ((txtA false o.A).length = nT) := HNT
    have HEND : Hid (o.keys = P ++ txtA false o.A ++ symA o.A) := Lib.hid (by
      unfold PO.keys
      rw [if_neg (by rw [HAR.out]; decide), ← HPE.out.1, plcK_end, if_neg (by rw [HAR.out]; decide)])
    have HK3 := HK
    clear HK hbw
    have hP1 := HK3.out.p
    have hT1 := HK3.out.t
    have hS1 := HK3.out.s
    rw [HPE.out.2] at hP1
    rw [HLT.out] at hT1
    rw [HNS.out] at hS1
    have hbb := HK3.out.b.size
    have hlT : (valsC (txtA false o.A)).length = (nT) * 3 := by rw [valsC_length, HLT.out]
    have HN2 := Lib.hid (And.intro (own_news hT1) (And.intro hlT (And.intro hS1 (And.intro HK3.out.ps (And.intro HK3.out.b HK3.out.ts)))))
    clear hT1 hS1 hlT
    go_wp2_with (at_builtin; refine wpList_onto rfl _ _ 45 rfl w.heap.size 34 i0 _ 3 32 Tryd.underlying45 hi hz0 hz1 hz2 rfl (by decide) _ nP (valsC P) rfl hP1 _ (nT) _ (valsC (txtA false o.A)) rfl HN2.out.2.1 HN2.out.1 (valsC_oneU _) (by unfold maxLen; omega) (by omega) hbb ?_)
    intro v7 w7 hown7 hgr7 hat7
    have u7 : Upd _ w7 (fun k => (Value.slice pa2 nP pcap2).ownBlock = some k) := Upd.of_grown hgr7 (fun k e => e)
    have hS7 := u7.own HN2.out.2.2.1 (fun k hk e => HN2.out.2.2.2.1 k e hk)
    have b7 := HN2.out.2.2.2.2.1.trans (u7.below hbb (fun k e => (hP1.lt k e).1))
    have hown7' : w7.ownsRow w.heap.size 34 3 v7 (nP + (nT)) (valsC (P ++ (txtA false o.A))) := by rw [valsC_append]; exact hown7
    obtain ⟨va, vcap, rfl, -⟩ := own_shape hown7'
    have hlS : (valsC (symA o.A)).length = nS * 3 := by rw [valsC_length, HNS.out]
    have hb7 := b7.size
    have HN7 := Lib.hid (And.intro (own_news hS7) (And.intro hlS b7))
    clear hown7 hgr7 hat7 u7 hS7 b7 hlS hP1 HN2
    go_wp2_with (at_builtin; refine wpList_onto rfl _ _ 45 rfl w.heap.size 34 i0 _ 3 32 Tryd.underlying45 hi hz0 hz1 hz2 rfl (by decide) _ (nP + (nT)) (valsC (P ++ (txtA false o.A))) rfl hown7' _ nS _ (valsC (symA o.A)) rfl HN7.out.2.1 HN7.out.1 (valsC_oneU _) (by unfold maxLen; omega) (by omega) hb7 ?_)
    intro v8 w8 hown8 hgr8 hat8
    have b8 := HN7.out.2.2.trans ((Upd.of_grown (M := fun k => (Value.slice va (nP + (nT)) vcap).ownBlock = some k) hgr8 (fun k e => e)).below hb7 (fun k e => (hown7'.lt k e).1))
    have hfin : w8.ownsRow w.heap.size 34 3 v8 o.keys.length (valsC o.keys) := by
      rw [HEND.out, List.length_append, List.length_append, HPE.out.2, HLT.out, HNS.out, valsC_append (P ++ _)]
      exact hown8
    have HF := Lib.hid (And.intro hfin b8)
    clear hfin b8 hown8 hgr8 hat8 hown7'
    go_wp2_with fail
    go_ret
    exact ⟨_, rfl, HF.out⟩
end Go.Proofs.YtmimnaaofpkndaaDoor.Hp
