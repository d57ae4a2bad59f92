/- HsD: several texts in one. -/
import Derived.Test.YtmimnaaofpkndaaDoorHrL
import Derived.Test.YtmimnaaofpkndaaDoorTxt
import Derived.Lib.RuneCountTail
import Derived.Lib.IndexBytes
import Derived.Lib.QuoteLoop
/- HeapRuns: the document's objects in memory; Place. -/
set_option linter.unusedVariables false
set_option linter.unusedSimpArgs false
namespace Go.Proofs.YtmimnaaofpkndaaDoor.Hp
open Go.RowKit Go.Proofs.YtmimnaaofpkndaaDoor Go.Shelf
/-- A list of properties, cell by cell. -/
def propC (x : Ent) : List Value := [.int .i64 x.key.1, .int .i64 x.key.2.1, .string x.key.2.2, .int .i64 x.val.1, .int .i64 x.val.2.1, .string x.val.2.2, .int .i64 x.flags]
def propsC (A : List Ent) : List Value := A.flatMap propC
theorem propsC_length (A : List Ent) : (propsC A).length = A.length * 7 := by
  induction A with
  | nil => rfl
  | cons x A ih =>
    have : propsC (x :: A) = propC x ++ propsC A := rfl
    rw [this, List.length_append, ih, List.length_cons]
    show 7 + _ = _
    omega
theorem propsC_append (A B : List Ent) : propsC (A ++ B) = propsC A ++ propsC B := by simp [propsC]
theorem propsC_get (A : List Ent) (i : Nat) (x : Ent) (h : A[i]? = some x) (j : Nat) (hj : j < 7) : (propsC A)[i * 7 + j]? = (propC x)[j]? := by
  induction A generalizing i with
  | nil => simp at h
  | cons y A ih =>
    have e : propsC (y :: A) = propC y ++ propsC A := rfl
    have hl : (propC y).length = 7 := rfl
    rw [e]
    cases i with
    | zero =>
      simp only [List.getElem?_cons_zero, Option.some.injEq] at h
      subst h
      rw [List.getElem?_append_left (by omega)]
      simp
    | succ i =>
      rw [List.getElem?_cons_succ] at h
      rw [List.getElem?_append_right (by omega), hl, show (i + 1) * 7 + j - 7 = i * 7 + j by omega]
      exact ih i h
structure RO (o : PO) (q : Nat) (pv ev : Value) (w : World) : Prop where
  ob : Blk w q 133 #[.bool o.arr, .bool o.clo, .bool o.clo, .int .i64 (o.pr : Int), pv, ev]
  rp : w.ownsRow 1 127 7 pv o.A.length (propsC o.A)
  re : w.ownsRow 1 34 3 ev o.L.length (valsC o.L)
  sep : ∀ g, pv.ownBlock = some g → ev.ownBlock ≠ some g
def roB (q : Nat) (pv ev : Value) (k : Nat) : Prop := k = q ∨ pv.ownBlock = some k ∨ ev.ownBlock = some k
section
variable {o : PO} {q : Nat} {pv ev : Value} {w w' : World}
theorem RO.upd {M : Nat → Prop} (h : RO o q pv ev w) (u : Upd w w' M) (hM : ∀ k, roB q pv ev k → ¬ M k) : RO o q pv ev w' :=
  ⟨u.blk h.ob (hM q (.inl rfl)), u.own h.rp (fun g e => hM g (.inr (.inl e))), u.own h.re (fun g e => hM g (.inr (.inr e))), h.sep⟩
theorem RO.below (h : RO o q pv ev w) (u : Below w.heap.size w w') : RO o q pv ev w' := h.upd (M := fun _ => False) (Upd.of_below_all u) (fun _ _ e => e)
theorem RO.all_lt (h : RO o q pv ev w) (k : Nat) (hk : roB q pv ev k) : k < w.heap.size := by
  rcases hk with rfl | hk | hk
  · exact h.ob.lt
  · exact (h.rp.lt k hk).2
  · exact (h.re.lt k hk).2
theorem RO.np (h : RO o q pv ev w) : pv.ownBlock ≠ some q := own_blk_ne h.rp h.ob (by decide)
theorem RO.ne (h : RO o q pv ev w) : ev.ownBlock ≠ some q := own_blk_ne h.re h.ob (by decide)
end
structure LeftR (o : PO) (q : Nat) (pv ev : Value) (w : World) (o' : PO) (w' : World) : Prop where
  up : Upd w w' (roB q pv ev)
  ex : ∃ pv' ev', RO o' q pv' ev' w' ∧ (∀ k, roB q pv' ev' k → roB q pv ev k ∨ w.heap.size ≤ k)
theorem LeftR.same {o : PO} {q : Nat} {pv ev : Value} {w w' : World} (h : RO o q pv ev w) (u : Below w.heap.size w w') : LeftR o q pv ev w o w' :=
  ⟨(Upd.of_below_all (M := fun _ => False) u).mono (fun k _ hk => False.elim hk), pv, ev, h.below u, fun k hk => .inl hk⟩
/-- The units of a key's string. -/
def Und (k : K3) : Prop := k.1 = 8 ∨ (k.1 = 7 ∧ ∃ l : List UInt8, (∀ c, c ∈ l → c.toNat < 128) ∧ l.length ≤ 5 + 1 ∧ k = keyL l)
theorem ks_und {k : K3} (h : KS k) : Und k := by
  refine ks_cases (P := Und) ?_ ?_ ?_ ?_ ?_ ?_ ?_ h
  · exact fun _ _ => .inl rfl
  · exact .inr ⟨rfl, _, by decide, by decide, rfl⟩
  · exact .inr ⟨rfl, _, by decide, by decide, rfl⟩
  · exact .inr ⟨rfl, _, by decide, by decide, rfl⟩
  · exact .inr ⟨rfl, _, by decide, by decide, rfl⟩
  · exact fun i hi => .inr ⟨rfl, _, Tx.decB_ascii i (by omega), by have := decB_len i (by omega); omega, rfl⟩
  · exact .inr ⟨rfl, [108, 101, 110, 103, 116, 104], by decide, by decide, keyL_len.symm⟩
end Go.Proofs.YtmimnaaofpkndaaDoor.Hp

/- HeapRuns: the document's Place, find and Own. -/
set_option linter.unusedVariables false
set_option linter.unusedSimpArgs false
namespace Go.Proofs.YtmimnaaofpkndaaDoor.Hp
open Go.RowKit Go.Proofs.YtmimnaaofpkndaaDoor Go.Shelf
attribute [local go_sem] Oper.semAt_some
theorem place_any {k : K3} (hk : KS k) (w : World) : Calls Tryd.prog 72 #[VK k] w fun e w' => e = .returned (.int .i64 (plcV k)) ∧ Below w.heap.size w w' := by
  rcases ks_und hk with h8 | ⟨h7, l, hl, hlen, hkl⟩
  · rw [show plcV k = -1 from if_neg (by rw [h8]; decide)]
    obtain ⟨k1, k2, k3⟩ := k
    dsimp only at h8
    subst h8
    clear hk
    go_enter Tryd.func72, Tryd.ntmps72
    go_wp2
    go_ret
    exact ⟨rfl, (Below.refl _ _).alloc (Nat.le_refl _) _⟩
  · have hu : k.2.2 = Tx.uS (l.map (·.toNat)) := by rw [hkl]; show (⟨(Tx.ofB ⟨l.toArray⟩).toArray⟩ : ByteArray) = _; rw [Tx.ofB_ascii l hl]; rfl
    have hf : Tx.Fits (l.map (·.toNat)) := fun u hu => by
      obtain ⟨c, hc, rfl⟩ := List.mem_map.1 hu
      have := hl c hc; omega
    have hv : plcV k = Tx.idxL (l.map (·.toNat)) := by rw [hkl]; exact plcV_keyL l hl
    rw [hv]
    obtain ⟨k1, k2, k3⟩ := k
    dsimp only at h7 hu
    have hm : (l.map (·.toNat)).length ≤ 6 := by rw [List.length_map]; omega
    generalize l.map (·.toNat) = m at *
    subst h7
    rw [hu]
    have hb := (Below.refl w.heap.size w).alloc (Nat.le_refl _) (.cells #[.int .i64 7, .int .i64 k2, .string (Tx.uS m)] 34)
    have HL := Lib.hid (Tx.list_uS m hf (w.alloc (.cells #[.int .i64 7, .int .i64 k2, .string (Tx.uS m)] 34)) (by omega))
    have HB := Lib.hid (And.intro hb (And.intro hf hm))
    generalize Tx.uS m = us at *
    clear hk hu hkl hv hl hlen hf hb
    go_enter Tryd.func72, Tryd.ntmps72
    go_wp2_with fail
    refine HL.out.mono ?_
    rintro e w2 ⟨a, cap, rfl, hR, -, b2⟩
    have HR := Lib.hid (And.intro hR b2)
    clear hR b2 HL
    go_wp2_with fail
    refine (Tx.refIndex_any a m.length cap m w2 HR.out.1 HB.out.2.1).mono ?_
    rintro e w3 ⟨rfl, q, rfl⟩
    go_wp2
    go_ret
    exact ⟨rfl, below_drw (HB.out.1.trans (HR.out.2.mono HB.out.1.size)) q⟩
end Go.Proofs.YtmimnaaofpkndaaDoor.Hp

/- HeapRuns: the document's find. -/
set_option linter.unusedVariables false
set_option linter.unusedSimpArgs false
namespace Go.Proofs.YtmimnaaofpkndaaDoor.Hp
open Go.RowKit Go.Proofs.YtmimnaaofpkndaaDoor Go.Shelf
attribute [local go_sem] Oper.semAt_some
def fndI (A : List Ent) (k : K3) : Option Nat := A.findIdx? (fun x => decide (x.key = k))
def fnd (A : List Ent) (k : K3) : Int := match fndI A k with
  | some i => (i : Int)
  | none => -1
theorem fnd_at {A : List Ent} {k : K3} {i : Nat} (hi : i < A.length) (he : A[i].key = k) (hn : ∀ j (hj : j < A.length), j < i → A[j].key ≠ k) : fnd A k = (i : Int) := by
  unfold fnd fndI
  rw [List.findIdx?_eq_some_iff_getElem.2 ⟨hi, by simpa using he, fun j hj => by simpa using hn j (by omega) hj⟩]
theorem fnd_no {A : List Ent} {k : K3} (hn : ∀ j (hj : j < A.length), A[j].key ≠ k) : fnd A k = -1 := by
  unfold fnd fndI
  rw [List.findIdx?_eq_none_iff.2 (fun x hx => by obtain ⟨j, hj, rfl⟩ := List.mem_iff_getElem.1 hx; simpa using hn j hj)]
set_option maxRecDepth 100000 in
set_option maxHeartbeats 8000000 in
theorem rfind_any {o : PO} {q : Nat} {pv ev : Value} {k : K3} {w : World} (h : RO o q pv ev w) (hA : o.A.length ≤ 4000) :
    Calls Tryd.prog 71 #[.pointer (some ⟨q, 0, none⟩), VK k] w fun e w' => e = .returned (.int .i64 (fnd o.A k)) ∧ Below w.heap.size w w' := by
  obtain ⟨k1, k2, k3⟩ := k
  have hb := (Below.refl w.heap.size w).alloc (Nat.le_refl _) (.cells #[.int .i64 k1, .int .i64 k2, .string k3] 34)
  have kb := Blk.new w 34 #[.int .i64 k1, .int .i64 k2, .string k3]
  have H := Lib.hid (And.intro h (And.intro hb (And.intro kb hA)))
  clear h hb kb hA
  go_enter Tryd.func71, Tryd.ntmps71
  go_wp2_with fail
  generalize hw1 : w.alloc (.cells #[.int .i64 k1, .int .i64 k2, .string k3] 34) = w1 at *
  clear hw1
  go_loopw [5] (fun v wr => ∃ i : Nat, i ≤ o.A.length ∧ v = .int .i64 (i : Int) ∧ Hid (Below w1.heap.size w1 wr) ∧ Hid (∀ j (hj : j < o.A.length), j < i → o.A[j].key ≠ (k1, k2, k3))) (fun v _ => o.A.length - (intOf v).toNat)
  case atStart => exact ⟨0, Nat.zero_le _, rfl, Lib.hid (Below.refl _ _), Lib.hid (fun j _ hj => absurd hj (Nat.not_lt_zero _))⟩
  case round =>
    obtain ⟨i, hi, rfl, HB, HN⟩ := hrel
    obtain ⟨h, hb, kb, hA⟩ := H.out
    have hR := h.below (hb.trans (HB.out.mono hb.size))
    have kR := kb.below HB.out kb.lt
    obtain ⟨n, hn⟩ : ∃ n, o.A.length = n := ⟨_, rfl⟩
    have hrow := hR.rp
    rw [hn] at hrow hi hA
    obtain ⟨pa, pcap, hpv, hpa⟩ := own_shape hrow
    subst hpv
    have x4 : wr.cell? ⟨q, 4, none⟩ = some (.slice pa n pcap) := by rw [hR.ob.cell]; rfl
    have p0 : wr.cell? ⟨w.heap.size, 0, none⟩ = some (.int .i64 k1) := by rw [kR.cell]; rfl
    have p1 : wr.cell? ⟨w.heap.size, 1, none⟩ = some (.int .i64 k2) := by rw [kR.cell]; rfl
    have p2 : wr.cell? ⟨w.heap.size, 2, none⟩ = some (.string k3) := by rw [kR.cell]; rfl
    have HF := Lib.hid (fun m => And.intro (below_drw (hb.trans (HB.out.mono hb.size)) m) (below_drw HB.out m))
    have HNn := Lib.hid hn
    clear h hb kb HB
    by_cases hlt : i < n
    · have t1 : decide ((i : Int) < (n : Int)) = true := by rw [decide_eq_true_eq]; omega
      have ak : IntKind.i64.wrap ((i : Int) + 1) = ((i + 1 : Nat) : Int) := by rw [IntWalk.i64_in _ (by omega)]; rfl
      obtain ⟨g, rfl⟩ := hpa (by omega)
      have hil : i < o.A.length := by omega
      obtain ⟨x, hx⟩ : ∃ x, o.A[i] = x := ⟨_, rfl⟩
      have hxi : o.A[i]? = some x := by rw [← hx]; exact List.getElem?_eq_getElem hil
      have hg := fun j (hj : j < 7) => (hrow.cellAt (i * 7 + j) (by omega)).trans (propsC_get o.A i x hxi j hj)
      obtain ⟨⟨x1, x2, x3⟩, xv, xf, xg⟩ := x
      have e0 : wr.cell? ⟨g, i * 7, none⟩ = some (.int .i64 x1) := hg 0 (by decide)
      have e1 : wr.cell? ⟨g, i * 7 + 1, none⟩ = some (.int .i64 x2) := hg 1 (by decide)
      have e2 : wr.cell? ⟨g, i * 7 + 2, none⟩ = some (.string x3) := hg 2 (by decide)
      have z0 : (0 : Int) ≤ (i : Int) := by omega
      have z1 : (i : Int) < (n : Int) := by omega
      have HX : Hid (∃ h : i < o.A.length, o.A[i] = ⟨(x1, x2, x3), xv, xf, xg⟩) := Lib.hid ⟨hil, hx⟩
      clear hg hxi hx hil hR kR hrow hpa
      by_cases h0 : x1 = k1
      · subst h0
        have s0 : (x1 == x1) = true := by simp
        by_cases h1 : x2 = k2
        · subst h1
          have s1 : (x2 == x2) = true := by simp
          by_cases h2 : x3 = k3
          · subst h2
            have s2 : (x3.toList == x3.toList) = true := by simp
            go_wp2_with fail
            go_quiet (fail)
            go_wp2_with fail
            go_ret
            obtain ⟨h1, h2⟩ := HX.out
            exact ⟨by rw [fnd_at h1 (by rw [h2]) HN.out]; rfl, (HF.out _).1⟩
          · have s2 : (x3.toList == k3.toList) = false := beq_false_of_ne (fun e => h2 (ba_ext e))
            have HN2 : Hid (∀ j (hj : j < o.A.length), j < i + 1 → o.A[j].key ≠ (x1, x2, k3)) := Lib.hid (fun j hj hji => by
              rcases Nat.lt_or_ge j i with e | e
              · exact HN.out j hj e
              · obtain rfl : j = i := by omega
                obtain ⟨_, h9⟩ := HX.out
                rw [h9]
                intro e; exact h2 (congrArg (·.2.2) e))
            clear h2 HN
            go_wp2_with fail
            go_quiet (fail)
            go_wp2_with fail
            go_roundw
            case rel => exact ⟨i + 1, by omega, rfl, Lib.hid (HF.out _).2, HN2⟩
            case measure => simp only [intOf]; omega
        · have s1 : (x2 == k2) = false := by simpa using h1
          have HN2 : Hid (∀ j (hj : j < o.A.length), j < i + 1 → o.A[j].key ≠ (x1, k2, k3)) := Lib.hid (fun j hj hji => by
            rcases Nat.lt_or_ge j i with e | e
            · exact HN.out j hj e
            · obtain rfl : j = i := by omega
              obtain ⟨_, h9⟩ := HX.out
              rw [h9]
              intro e; exact h1 (congrArg (·.2.1) e))
          clear h1 HN
          go_wp2_with fail
          go_quiet (fail)
          go_wp2_with fail
          go_roundw
          case rel => exact ⟨i + 1, by omega, rfl, Lib.hid (HF.out _).2, HN2⟩
          case measure => simp only [intOf]; omega
      · have s0 : (x1 == k1) = false := by simpa using h0
        have HN2 : Hid (∀ j (hj : j < o.A.length), j < i + 1 → o.A[j].key ≠ (k1, k2, k3)) := Lib.hid (fun j hj hji => by
          rcases Nat.lt_or_ge j i with e | e
          · exact HN.out j hj e
          · obtain rfl : j = i := by omega
            obtain ⟨_, h9⟩ := HX.out
            rw [h9]
            intro e; exact h0 (congrArg (·.1) e))
        clear h0 HN
        go_wp2_with fail
        go_quiet (fail)
        go_wp2_with fail
        go_roundw
        case rel => exact ⟨i + 1, by omega, rfl, Lib.hid (HF.out _).2, HN2⟩
        case measure => simp only [intOf]; omega
    · obtain rfl : i = n := by omega
      have t1 : decide ((i : Int) < (i : Int)) = false := by simp
      clear hR kR hrow hpa
      go_wp2
      go_ret
      exact ⟨by rw [fnd_no (fun j hj => HN.out j hj (by have := HNn.out; omega))]; rfl, (HF.out 0).1⟩
end Go.Proofs.YtmimnaaofpkndaaDoor.Hp

/- Contract of the reference's Units: the units of any string's UTF-8, as a new row. -/
set_option linter.unusedVariables false
namespace Go.Proofs.YtmimnaaofpkndaaDoor.Tx
open Go.RowKit
theorem tabs_below {B g3 g4 : Nat} {w w' : World} (h : Lib.Utf8Tabs g3 g4 w) (b : Below B w w') (h3 : g3 < B) (h4 : g4 < B) : Lib.Utf8Tabs g3 g4 w' :=
  ⟨fun c hc => (b.cell (p := ⟨g3, c, none⟩) h3).trans (h.1 c hc), fun i hi => ⟨(b.cell (p := ⟨g4, 2 * i, none⟩) h4).trans (h.2 i hi).1, (b.cell (p := ⟨g4, 2 * i + 1, none⟩) h4).trans (h.2 i hi).2⟩⟩
theorem tail_extract (s : ByteArray) (pos k : Nat) : ((s.extract pos s.size).extract k (s.extract pos s.size).size) = s.extract (pos + k) s.size := by
  apply ByteArray.ext
  apply Array.toList_inj.1
  rw [Lib.extract_to_end, Lib.extract_to_end, Lib.extract_to_end, List.drop_drop]
theorem decode_fit (s : ByteArray) (pos : Nat) (h : pos < s.size) : pos + (Utf8.decode s pos).2 ≤ s.size := by
  rw [Lib.decode_at]
  have := Lib.decodeN_width_le (s.size - pos) (s.get! pos).toNat (s.get! (pos + 1)).toNat (s.get! (pos + 2)).toNat (s.get! (pos + 3)).toNat (by omega)
  omega
theorem tail_facts (s : ByteArray) (pos : Nat) (h : pos < s.size) (T : ByteArray) (hT : s.extract pos s.size = T) :
    Lib.decodeGo T = Utf8.decode s pos ∧ T.extract (Utf8.decode s pos).2 T.size = s.extract (pos + (Utf8.decode s pos).2) s.size := by
  subst hT
  refine ⟨?_, tail_extract s pos _⟩
  have hs : (s.extract pos s.size).size ≠ 0 := by rw [ByteArray.size_extract]; omega
  rw [Lib.decodeGo, if_neg hs, Lib.tail_decode, Nat.add_zero]
def strSize : Value → Nat
  | .string t => t.size
  | _ => 0
/-- A new row of the call's own that holds these numbers. -/
def NewRow (B : Nat) (w : World) (l : List Nat) (e : Ending) (w' : World) : Prop :=
  ∃ v, e = .returned v ∧ w'.ownsRow B 3 1 v l.length (numCells .i64 (ints l)) ∧ Below B w w'
theorem append_one (B : Nat) (w wr w1 : World) (u : Nat) (hb : Below B w wr) (hz : B ≤ wr.heap.size) (v : Value) (n : Nat) (xs : List Value) (hown : wr.ownsRow B 3 1 v n xs) (o : Obj) (hg : (wr.alloc o).grownBy w1 v.ownBlock) : Below B w w1 :=
  (hb.alloc hz o).grown hg (by simp; omega) (fun k' hk' => ((hown.alloc o).lt k' hk').1)
set_option maxHeartbeats 4000000 in
set_option maxRecDepth 1000000 in
theorem units_any (s : ByteArray) (w : World) (hs : s.size ≤ 1000000) (hT : Lib.Utf8Tabs 1 2 w) (hw : 3 ≤ w.heap.size) :
    Calls Tryd.prog 84 #[.string s] w (NewRow w.heap.size w (unitsOf s)) := by
  obtain ⟨i0, hi, hz0, hz1, hz2⟩ := info_parts infoInt
  have HT := Lib.hid hT
  clear hT
  go_enter Tryd.func84, Tryd.ntmps84
  go_wp2
  go_loopw [0, 3] (fun sv v wr => ∃ (pos fuel : Nat) (acc : List Nat), pos ≤ s.size ∧ sv = .string (s.extract pos s.size) ∧ wr.ownsRow w.heap.size 3 1 v acc.length (numCells .i64 (ints acc)) ∧ Below w.heap.size w wr ∧ acc ++ decUnits s fuel pos = unitsOf s ∧ s.size ≤ pos + fuel ∧ acc.length ≤ 2 * pos) (fun sv _ _ => strSize sv)
  case atStart => exact ⟨0, s.size, [], by omega, by congr 1; exact (ByteArray.ext (Array.toList_inj.1 (by rw [Lib.extract_to_end]; rfl))).symm, World.ownsRow_nil _ _ _ _, Below.refl _ _, rfl, by omega, by simp⟩
  case round =>
    obtain ⟨pos, fuel, acc, hpos, rfl, hown, hb, hacc, hfu, hal⟩ := hrel
    have hz := hb.size
    obtain ⟨T, hTe⟩ : ∃ T, s.extract pos s.size = T := ⟨_, rfl⟩
    have hTs : T.size = s.size - pos := by rw [← hTe, ByteArray.size_extract]; omega
    have HTe := Lib.hid hTe
    have HA := Lib.hid hacc
    rw [hTe]
    clear hTe hacc
    by_cases hp : pos < s.size
    · have t0 : decide (0 < T.size) = true := decide_eq_true (by omega)
      have h1 := decode_max s pos
      have h2 := width_pos s pos hp
      have h3 := decode_fit s pos hp
      obtain ⟨f, rfl⟩ : ∃ f, fuel = f + 1 := ⟨fuel - 1, by omega⟩
      have hstep : decUnits s (f + 1) pos = runeUnits (Utf8.decode s pos).1 ++ decUnits s f (pos + (Utf8.decode s pos).2) := by rw [decUnits, if_pos hp]
      obtain ⟨hdc, hsl⟩ := tail_facts s pos hp T HTe.out
      obtain ⟨r, wd, hrw⟩ : ∃ r wd, Utf8.decode s pos = (r, wd) := ⟨_, _, rfl⟩
      rw [hrw] at h1 h2 h3 hstep hdc hsl
      simp only at h1 h2 h3 hstep hsl
      have HS := Lib.hid hstep
      have HD := Lib.hid hdc
      have HX := Lib.hid hsl
      clear hrw hstep hdc hsl
      have y1 : (wd : Int) ≤ (T.size : Int) := by omega
      obtain ⟨R, hRr⟩ : ∃ R : Int, (r : Int) = R := ⟨_, rfl⟩
      have R0 : 0 ≤ R := by omega
      have R1 : R ≤ 1114111 := by omega
      clear h1
      have HTs := Lib.hid hTs
      clear hTs
      have y0 : (0 : Int) ≤ (wd : Int) := by omega
      have hcd : ∀ W, Below w.heap.size w W → Calls Tryd.prog 89 #[.string T] W fun e w' => e = .returned (.tuple #[.int .i32 R, .int .i64 wd]) ∧ Below W.heap.size W w' := fun W hW => by
        have := Tryd.utf8_DecodeRuneInString T W (tabs_below HT.out hW (by omega) (by omega))
        rw [HD.out] at this
        rw [← hRr]
        exact this
      have HC := Lib.hid hcd
      have HRR := Lib.hid hRr
      clear hcd hRr
      by_cases h32 : r < 65536
      · have t2 : R < 65536 := by have := HRR.out; omega
        have t1 : decide (R < 65536) = true := decide_eq_true t2
        have HR := Lib.hid (show runeUnits r = [r] by rw [runeUnits, if_pos h32])
        clear h32
        go_wp2_with fail
        refine (HC.out _ hb).mono ?_
        rintro e w1 ⟨rfl, b1⟩
        have hb1 := hb.trans (b1.mono hz)
        have hz1' := hb1.size
        have hown1 : w1.ownsRow w.heap.size 3 1 u3 acc.length (numCells .i64 (ints acc)) := hown.kept (row := none) ⟨b1.os, b1.tape, b1.output, b1.size, fun k hk _ => b1.block k hk⟩ (by cases hv : u3.ownBlock <;> simp)
        go_wp2_with (at_builtin; refine wpList_append_own _ rfl _ _ 22 rfl w.heap.size 3 i0 (.int .i64 0) 1 8 Tryd.underlying22 hi hz0 hz1 hz2 rfl (by decide) _ _ _ rfl (hown1.alloc _) ⟨w1.heap.size, 0, none⟩ 1 1 [.int .i64 R] rfl rfl (by intro j v hj; match j, hj with | 0, hj => simp at hj; subst hj; simp [Addr.add]) (by simp [Value.oneCell']) (by unfold maxLen; omega) (by omega) (by simp; omega) ?_)
        intro v' w2 hown2 hg2 _
        have hb2 := append_one w.heap.size w w1 w2 r hb1 hz1' _ _ _ hown1 _ hg2
        clear hown hown1 hg2
        go_wp2
        go_roundw
        case rel =>
          refine ⟨pos + wd, f, acc ++ [r], by omega, by rw [← HX.out], ?_, hb2, ?_, by omega, by simp; omega⟩
          · rw [List.length_append, ints_append, numCells_append]
            rw [← HRR.out] at hown2
            exact hown2
          · rw [← HA.out, HS.out, HR.out]; simp
        case measure => have := HTs.out; simp [strSize, ByteArray.size_extract]; omega
      · have t2 : 65536 ≤ R := by have := HRR.out; omega
        have t1 : decide (R < 65536) = false := decide_eq_false (by omega)
        have HR := Lib.hid (show runeUnits r = [55296 + (r - 65536) / 1024, 56320 + (r - 65536) % 1024] by rw [runeUnits, if_neg h32])
        clear h32
        go_wp2_with fail
        refine (HC.out _ hb).mono ?_
        rintro e w1 ⟨rfl, b1⟩
        have hb1 := hb.trans (b1.mono hz)
        have hz1' := hb1.size
        have hown1 : w1.ownsRow w.heap.size 3 1 u3 acc.length (numCells .i64 (ints acc)) := hown.kept (row := none) ⟨b1.os, b1.tape, b1.output, b1.size, fun k hk _ => b1.block k hk⟩ (by cases hv : u3.ownBlock <;> simp)
        go_wp2_with (at_builtin; refine wpList_append_own _ rfl _ _ 22 rfl w.heap.size 3 i0 (.int .i64 0) 1 8 Tryd.underlying22 hi hz0 hz1 hz2 rfl (by decide) _ _ _ rfl (hown1.alloc _) ⟨w1.heap.size, 0, none⟩ 2 2 [.int .i64 (55296 + (R - 65536) / 1024), .int .i64 (56320 + (R - 65536) % 1024)] rfl rfl (cell_two_new _ _ _ _) (by simp [Value.oneCell']) (by unfold maxLen; omega) (by omega) (by simp; omega) ?_)
        intro v' w2 hown2 hg2 _
        have hb2 := append_one w.heap.size w w1 w2 r hb1 hz1' _ _ _ hown1 _ hg2
        clear hown hown1 hg2
        go_wp2
        go_roundw
        case rel =>
          refine ⟨pos + wd, f, acc ++ [55296 + (r - 65536) / 1024, 56320 + (r - 65536) % 1024], by omega, by rw [← HX.out], ?_, hb2, ?_, by omega, by simp; omega⟩
          · rw [List.length_append, ints_append, numCells_append]
            have hcr := HRR.out
            have e1 : (55296 + (R - 65536) / 1024) = ((55296 + (r - 65536) / 1024 : Nat) : Int) := by omega
            have e2 : (56320 + (R - 65536) % 1024) = ((56320 + (r - 65536) % 1024 : Nat) : Int) := by omega
            rw [e1, e2] at hown2
            exact hown2
          · rw [← HA.out, HS.out, HR.out]; simp
        case measure => have := HTs.out; simp [strSize, ByteArray.size_extract]; omega
    · have t0 : decide (0 < T.size) = false := decide_eq_false (by omega)
      have hend := decUnits_end s fuel pos hp
      have HE := Lib.hid hend
      clear hend hTs
      go_wp2
      go_ret
      refine ⟨_, rfl, ?_, hb⟩
      have h := HA.out
      rw [HE.out, List.append_nil] at h
      rw [← h]
      exact hown
end Go.Proofs.YtmimnaaofpkndaaDoor.Tx

/- HeapRuns: the document's Str. -/
set_option linter.unusedVariables false
set_option linter.unusedSimpArgs false
namespace Go.Proofs.YtmimnaaofpkndaaDoor.Hp
open Go.RowKit Go.Proofs.YtmimnaaofpkndaaDoor Go.Shelf
attribute [local go_sem] Oper.semAt_some
/-- What is laid: the length's key, UTF-8's tables. -/
structure LG (w : World) : Prop where
  lg : Lg w
  tb : Lib.Utf8Tabs 1 2 w
  sz : 3 ≤ w.heap.size
theorem LG.below {w w' : World} (h : LG w) (b : Below w.heap.size w w') : LG w' := ⟨h.lg.below b, Tx.tabs_below h.tb b (by have := h.sz; omega) (by have := h.sz; omega), Nat.le_trans h.sz b.size⟩
theorem LG.upd {w w' : World} {M : Nat → Prop} (h : LG w) (u : Upd w w' M) (hM : ∀ k, M k → 3 ≤ k) : LG w' := by
  have hn : ∀ k, k < 3 → ¬ M k := fun k hk e => by have := hM k e; omega
  exact ⟨h.lg.upd u (hn 0 (by decide)), ⟨fun c hc => u.cell (h.tb.1 c hc) (hn _ (by simp)), fun i hi => ⟨u.cell (h.tb.2 i hi).1 (hn _ (by simp)), u.cell (h.tb.2 i hi).2 (hn _ (by simp))⟩⟩, Nat.le_trans h.sz u.size⟩
theorem unitsOf_ascii (l : List UInt8) (h : ∀ c, c ∈ l → c.toNat < 128) : Tx.unitsOf ⟨l.toArray⟩ = l.map (·.toNat) := by
  unfold Tx.unitsOf
  exact Tx.decUnits_ascii l h _ 0 (by show l.length ≤ 0 + l.toArray.size; simp)
set_option maxRecDepth 100000 in
set_option maxHeartbeats 4000000 in
theorem rstr_any (l : List UInt8) (h : ∀ c, c ∈ l → c.toNat < 128) (hl : l.length ≤ 1000) (w : World) (hG : LG w) :
    Calls Tryd.prog 69 #[.string ⟨l.toArray⟩] w fun e w' => e = .returned (VK (keyL l)) ∧ Below w.heap.size w w' := by
  have hb := (Below.refl w.heap.size w).alloc (Nat.le_refl _) (.cells #[.int .i64 0, .int .i64 0, .string ⟨#[]⟩] 34)
  have kb := Blk.new w 34 #[.int .i64 0, .int .i64 0, .string ⟨#[]⟩]
  have HU := Lib.hid (Tx.units_any ⟨l.toArray⟩ _ (by show l.toArray.size ≤ _; simp; omega) (hG.below hb).tb (hG.below hb).sz)
  have hu := unitsOf_ascii l h
  have hk : keyL l = (7, 0, Tx.uS (l.map (·.toNat))) := by
    unfold keyL
    rw [Tx.ofB_ascii l h]
    rfl
  have hf : Tx.Fits (l.map (·.toNat)) := fun u hu => by
    obtain ⟨c, hc, rfl⟩ := List.mem_map.1 hu
    have := h c hc; omega
  have hm : (l.map (·.toNat)).length ≤ 1000 := by rw [List.length_map]; omega
  rw [hu] at HU
  rw [hk]
  have hs : (⟨l.toArray⟩ : ByteArray).size ≤ 1000 := by show l.toArray.size ≤ _; simp; omega
  generalize l.map (·.toNat) = m at *
  generalize (⟨l.toArray⟩ : ByteArray) = s at *
  have HB := Lib.hid (And.intro hb (And.intro hf (And.intro hm kb)))
  clear h hl hG hu hk hf hm hb hs kb
  go_enter Tryd.func69, Tryd.ntmps69
  go_wp2_with fail
  refine HU.out.mono ?_
  rintro e w2 ⟨v, rfl, hown, b2⟩
  have hown' : w2.ownsRow (w.alloc (.cells #[.int .i64 0, .int .i64 0, .string ⟨#[]⟩] 34)).heap.size 3 1 v (Tx.ints m).length (numCells (Tx.ints m)) := by rw [Tx.ints_length]; exact hown
  obtain ⟨a, cap, rfl, hR, -⟩ := Tx.sliceR_own hown'
  rw [Tx.ints_length] at hR ⊢
  have hb2 := HB.out.1.trans (b2.mono HB.out.1.size)
  have HR := Lib.hid (Tx.str_any a m.length cap m w2 hR HB.out.2.1 (by have := HB.out.2.2.1; omega))
  have HB2 := Lib.hid (And.intro hb2 (HB.out.2.2.2.below b2 HB.out.2.2.2.lt))
  clear hown hown' hR b2 hb2 HU HB
  go_wp2_with fail
  refine HR.out.mono ?_
  rintro e w3 ⟨rfl, b3⟩
  have hb3 := HB2.out.1.trans (b3.mono HB2.out.1.size)
  have kb3 := HB2.out.2.below b3 HB2.out.2.lt
  have y0 : w3.cell? ⟨w.heap.size, 0, none⟩ = some (.int .i64 0) := by rw [kb3.cell]; rfl
  have y1 : w3.cell? ⟨w.heap.size, 1, none⟩ = some (.int .i64 0) := by rw [kb3.cell]; rfl
  have y2 : w3.cell? ⟨w.heap.size, 2, none⟩ = some (.string ⟨#[]⟩) := by rw [kb3.cell]; rfl
  have q0 := kb3.frozen 0
  have q1 := kb3.frozen 1
  have q2 := kb3.frozen 2
  have lr := kb3.lt
  have HB3 := Lib.hid hb3
  clear hb3 kb3 b3 HB2 HR
  go_wp2
  refine bodyPost_ret (v := VS 7 0 (Tx.uS m)) (by simp [results, Tryd.results69, go_sem, y0, y1, y2, q0, q1, q2, lr]) rfl ⟨rfl, ?_⟩
  exact ((HB3.out.setCell (p := ⟨w.heap.size, 0, none⟩) (by simp) _).setCell (p := ⟨w.heap.size, 1, none⟩) (by simp) _).setCell (p := ⟨w.heap.size, 2, none⟩) (by simp) _
end Go.Proofs.YtmimnaaofpkndaaDoor.Hp
