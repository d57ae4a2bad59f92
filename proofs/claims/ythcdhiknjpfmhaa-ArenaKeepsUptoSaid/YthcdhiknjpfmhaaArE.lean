/- The arena: a collection without roots; the statements' own example 'fit'. -/
import Derived.Test.YthcdhiknjpfmhaaArD
set_option linter.unusedVariables false
set_option linter.unusedSimpArgs false
namespace Go.Proofs.Ythcdhiknjpfmhaa
open Go.RowKit

/-- A marker that has come to nothing. -/
def mkA (A : Nat) : Array Value := #[.pointer (some ⟨A, 0, none⟩), .slice none 0 0, .slice none 0 0]
theorem drain_none (A M : Nat) (w : World) (h : Blk w M 70 (mkA A)) :
    Calls Try.prog 27 #[.pointer (some ⟨M, 0, none⟩)] w fun e w' => (∃ v, e = .returned v) ∧ Below w.heap.size w w' := by
  have x1 : w.cell? ⟨M, 1, none⟩ = some (.slice none 0 0) := by rw [h.cell]; rfl
  have hl := h.lt
  clear h
  go_enter Try.func27, Try.ntmps27
  go_wp2_with fail
  go_loopw [] (fun wr => wr = w.alloc (.cells #[.pointer (some ⟨M, 0, none⟩)] 67)) (fun _ => 0)
  case atStart => rfl
  case round =>
    obtain rfl := hrel
    go_wp2
    go_end0
    exact ⟨⟨_, rfl⟩, (Below.refl _ w).alloc (Nat.le_refl _) _⟩
def bv (v : Value) : Nat := match v with | .bool true => 1 | _ => 0
theorem settle_none (A M : Nat) (w : World) (h : Blk w M 70 (mkA A)) :
    Calls Try.prog 28 #[.pointer (some ⟨M, 0, none⟩)] w fun e w' => (∃ v, e = .returned v) ∧ Below w.heap.size w w' := by
  have x1 : w.cell? ⟨M, 1, none⟩ = some (.slice none 0 0) := by rw [h.cell]; rfl
  have x2 : w.cell? ⟨M, 2, none⟩ = some (.slice none 0 0) := by rw [h.cell]; rfl
  have hl := h.lt
  clear h
  go_enter Try.func28, Try.ntmps28
  go_wp2_with fail
  go_loopw [2] (fun v wr => wr = w.alloc (.cells #[.pointer (some ⟨M, 0, none⟩)] 67) ∧ ∃ b : Bool, v = .bool b) (fun v _ => bv v)
  case atStart => exact ⟨rfl, true, rfl⟩
  case round =>
    obtain ⟨rfl, b, rfl⟩ := hrel
    cases b
    · go_wp2
      go_end0
      exact ⟨⟨_, rfl⟩, (Below.refl _ w).alloc (Nat.le_refl _) _⟩
    · obtain ⟨wA, hwA⟩ : ∃ x, x = w.alloc (.cells #[.pointer (some ⟨M, 0, none⟩)] 67) := ⟨_, rfl⟩
      go_wp2_with fail
      go_loopw [13] (fun v wr => wr = w.alloc (.cells #[.pointer (some ⟨M, 0, none⟩)] 67) ∧ v = .int .i64 0) (fun _ _ => 0)
      case atStart => exact ⟨rfl, rfl⟩
      case round =>
        obtain ⟨rfl, rfl⟩ := hrel
        go_wp2
        go_roundw
        case rel => exact ⟨trivial, false, rfl⟩
        case measure => simp [bv]
theorem own_mono {w : World} {b b' size n : Nat} {e : TypeId} {v : Value} {xs : List Value} (h : w.ownsRow b e size v n xs) (hb : b' ≤ b) : w.ownsRow b' e size v n xs := by
  refine ⟨h.1, ?_⟩
  rcases h.2 with hn | ⟨g, cap, cur, rfl, hg, rest⟩
  · exact .inl hn
  · exact .inr ⟨g, cap, cur, rfl, Nat.le_trans hb hg, rest⟩
theorem SwP.back {w W w' : World} {A B : Nat} {cv fv rv : Value} {cs : List Cell} {fr ro : List Int} {live : Int} {nd : Nat → NodeF} {e : Ending} (b : Below w.heap.size w W) (h : SwP W A B cv fv rv cs fr ro live nd e w') : SwP w A B cv fv rv cs fr ro live nd e w' := by
  obtain ⟨vg, fv', h1, h2, h3, h4, h5, h6, h7⟩ := h
  have hs := b.size
  refine ⟨vg, fv', h1, own_mono h2 hs, h3, h4, (Upd.of_below_all b).trans (h5.mono fun k _ e => ?_), fun g hg => ?_, fun g hg => ⟨(h7 g hg).1, Nat.le_trans hs (h7 g hg).2⟩⟩
  · rcases e with e | e | e | e | e
    · exact .inl e
    · exact .inr (.inl e)
    · exact .inr (.inr (.inl e))
    · exact .inr (.inr (.inr (.inl e)))
    · exact .inr (.inr (.inr (.inr (Nat.le_trans hs e))))
  · rcases h6 g hg with e | e
    · exact .inl e
    · exact .inr (Nat.le_trans hs e)
theorem neq_nil_func (w : World) : (binOp .neq 60 .nilFunc .nilFunc).run Try.prog w = .ok (.bool false) w := by kernel_rfl
set_option maxHeartbeats 1000000 in
/-- A collection without roots, of cells that are not marked. -/
theorem collect_none {w : World} {A B : Nat} {cv fv rv : Value} {cs : List Cell} {fr : List Int} {live : Int} (nd : Nat → NodeF) (h : Ar w A B cv fv rv cs fr [] live) (hN : ∀ N, N ∈ bodies cs → Blk w N 30 (ndA (nd N)))
    (hnd : (bodies cs).Nodup) (he : ∀ N, N ∈ bodies cs → 0 ≤ (nd N).2.2.2 ∧ (nd N).2.2.2 ≤ 1000000000) (hl : cs.length ≤ 1000000) (hfl : fr.length ≤ 1000000) (hlv : 0 ≤ live ∧ live ≤ 1000000000) (hB : B ≤ w.heap.size) (hm : ∀ c ∈ cs, c.2 = false) :
    Calls Try.prog 12 #[.pointer (some ⟨A, 0, none⟩), .nilFunc] w (SwP w A B cv fv rv cs fr [] live nd) := by
  obtain ⟨ra, rcap, rfl, _⟩ := own_shape h.roots
  have x2 : w.cell? ⟨A, 2, none⟩ = some (.slice ra 0 rcap) := by rw [h.blk.cell]; rfl
  have hAl := h.blk.lt
  have HH := Lib.hid (And.intro h hN)
  clear h hN
  have qf := neq_nil_func
  go_enter Try.func12, Try.ntmps12
  go_wp2_with fail
  go_loopw [24] (fun v wr => wr = (w.alloc (.cells (mkA A) 70)).alloc (.cells #[.pointer (some ⟨w.heap.size, 0, none⟩)] 67) ∧ v = .int .i64 0) (fun _ _ => 0)
  case atStart => exact ⟨rfl, rfl⟩
  case round =>
    obtain ⟨rfl, rfl⟩ := hrel
    have kM : Blk ((w.alloc (.cells (mkA A) 70)).alloc (.cells #[.pointer (some ⟨w.heap.size, 0, none⟩)] 67)) w.heap.size 70 (mkA A) := (Blk.new w _ _).alloc _
    have kx : Blk ((w.alloc (.cells (mkA A) 70)).alloc (.cells #[.pointer (some ⟨w.heap.size, 0, none⟩)] 67)) (w.heap.size + 1) 67 #[.pointer (some ⟨w.heap.size, 0, none⟩)] := by
      have := Blk.new (w.alloc (.cells (mkA A) 70)) 67 #[.pointer (some ⟨w.heap.size, 0, none⟩)]
      rwa [World.size_alloc] at this
    have b1 : Below w.heap.size w ((w.alloc (.cells (mkA A) 70)).alloc (.cells #[.pointer (some ⟨w.heap.size, 0, none⟩)] 67)) := ((Below.refl _ w).alloc (Nat.le_refl _) _).alloc (by simp) _
    have KM := Lib.hid (And.intro kM (And.intro kx b1))
    clear kM kx b1
    go_wp2_with fail
    refine (drain_none A w.heap.size _ KM.out.1).mono ?_
    rintro e W2 ⟨⟨v, rfl⟩, c2⟩
    have kM2 := KM.out.1.below c2 KM.out.1.lt
    have kx2 := KM.out.2.1.below c2 KM.out.2.1.lt
    have b2 := KM.out.2.2.trans (c2.mono KM.out.2.2.size)
    have d2 : W2.cell? ⟨w.heap.size + 1, 0, none⟩ = some (.pointer (some ⟨w.heap.size, 0, none⟩)) := by rw [kx2.cell]; rfl
    clear c2 KM
    go_wp2_with fail
    refine (settle_none A w.heap.size W2 kM2).mono ?_
    rintro e W3 ⟨⟨v3, rfl⟩, c3⟩
    have b3 := b2.trans (c3.mono b2.size)
    obtain ⟨h, hN⟩ := HH.out
    have h3 := h.below b3
    have hN3 : ∀ N, N ∈ bodies cs → Blk W3 N 30 (ndA (nd N)) := fun N hn => (hN N hn).below b3 (hN N hn).lt
    obtain ⟨ca, ccap, rfl, hca⟩ := own_shape h.cells
    have y0 : W3.cell? ⟨A, 0, none⟩ = some (.slice ca cs.length ccap) := by rw [h3.blk.cell]; rfl
    have H3 := Lib.hid (And.intro h3 (And.intro hN3 b3))
    obtain ⟨n, hn⟩ : ∃ n, cs.length = n := ⟨_, rfl⟩
    have HNN := Lib.hid hn
    rw [hn] at y0 hl hca ⊢
    have HM := Lib.hid hm
    clear kM2 kx2 b2 d2 c3 b3 h3 hN3 h hN HH hn hm
    go_wp2_with fail
    go_loop [48] (fun v => ∃ i : Nat, i ≤ n ∧ v = .int .i64 i) (fun v => n - (intOf v).toNat)
    case atStart => exact ⟨0, by omega, rfl⟩
    case round =>
      obtain ⟨i, hin, rfl⟩ := hrel
      by_cases hlt : i < n
      · have L1 : decide ((i : Int) < (n : Int)) = true := by simp; omega
        obtain ⟨gc, rfl⟩ := hca (by omega)
        have z0 : (0 : Int) ≤ i := by omega
        have z1 : (i : Int) < n := by omega
        have z2 : (i : Int).toNat = i := by omega
        have a1 : IntKind.i64.wrap ((i : Int) + 1) = ((i + 1 : Nat) : Int) := by rw [IntWalk.i64_in _ (by omega)]; rfl
        have hcl := H3.out.1.cells
        rw [HNN.out] at hcl
        have hg := clCells_get cs i (by rw [HNN.out]; exact hlt)
        have c1 := (hcl.cellAt (i * 2 + 1) (by omega)).trans hg.2
        have hmk : (cs.getD i (none, false)).2 = false := by
          rw [List.getD_eq_getElem?_getD, List.getElem?_eq_getElem (by rw [HNN.out]; exact hlt)]
          exact HM.out _ (List.getElem_mem _)
        rw [hmk] at c1
        clear hcl hg hmk
        go_wp2
        go_round
        case rel => exact ⟨i + 1, by omega, by first | rfl | rw [Int.natCast_add]⟩
        case measure => simp only [intOf]; omega
      · obtain rfl : i = n := by omega
        have L1 : decide ((i : Int) < (i : Int)) = false := by simp
        go_wp2_with fail
        have h5 := H3.out.1
        rw [HNN.out] at h5
        refine (sweep_any nd h5 H3.out.2.1 hnd he (by rw [HNN.out]; exact hl) hfl hlv (Nat.le_trans hB H3.out.2.2.size)).mono ?_
        rintro e W4 hs
        have hb := SwP.back H3.out.2.2 hs
        obtain ⟨vg, fv', rfl, hrest⟩ := hb
        have HR := Lib.hid hrest
        clear hs hrest
        go_wp2
        exact bodyPost_ret (v := vg) (by simp [results, Try.results12, go_sem]) rfl ⟨vg, fv', rfl, by
          have hr := HR.out
          rw [show i = cs.length from HNN.out.symm] at hr
          exact hr⟩
end Go.Proofs.Ythcdhiknjpfmhaa
