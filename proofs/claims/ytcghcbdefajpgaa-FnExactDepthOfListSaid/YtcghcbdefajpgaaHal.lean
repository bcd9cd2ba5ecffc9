/- Walks: whether all words stand in a list, of the program. -/
import Derived.Test.YtcghcbdefajpgaaHas
namespace Go.Proofs.Ytcghcbdefajpgaa
open Go.RowKit
set_option linter.unusedSimpArgs false

/-- Whether all words stand in a list, and the code. -/
noncomputable def Gm.allR (g : Gm) (ms : List Mc) : List (List Int) → Bool × Int
  | [] => (true, 0)
  | u :: us => if g.inB ms u = true then g.allR ms us else (false, (g.moM u).2)
theorem Gm.inB_code {g : Gm} {ms : List Mc} {u : List Int} (h : g.inB ms u = true) : (g.moM u).2 = 0 := by
  unfold Gm.inB at h
  split at h
  · assumption
  · cases h

set_option maxRecDepth 100000 in
set_option maxHeartbeats 2000000 in
theorem hasAll_any (g : Gm) (hok : g.Ok) (G : Nat) (vo vt : Value) (l : Nat) (vw vm : Value) (ms : List Mc) (base : Nat) (hms : AllIs ms) (hl : ms.length ≤ 1000) (v : Value) (uss : List (List Int)) (hu : ∀ u ∈ uss, g.Nums u ∧ u.length ≤ 1048576) (hle : uss.length ≤ 1000000) (w : World) (hG : GrpAt w G g vo vt)
    (hL : w.heap[l]? = some (.cells #[.pointer (some ⟨G, 0, none⟩), vw, vm] 64 (0, 0))) (hM : OwnW w base 31 98 vm (msC ms)) (hr : RdLL w v uss) :
    Calls Try.prog 22 #[.pointer (some ⟨l, 0, none⟩), v] w fun e w' => e = .returned (.tuple #[.bool (g.allR ms uss).1, .int .i64 (g.allR ms uss).2]) ∧ Below w.heap.size w w' := by
  have HH := hidd (fun W (hb : Below w.heap.size w W) u (hn : g.Nums u) (hn2 : u.length ≤ 1048576) v' (hr' : RdI W v' u) => has_any g hok G vo vt l vw vm ms base hms hl v' u hn hn2 W (hG.below hb) (hp_bel hL hb) (hM.below hb) hr')
  have HU := hidd hu
  obtain ⟨A, c, rows, rfl, h1, h2, h3⟩ := hr
  have H1 := hidd h1
  have H3 := hidd h3
  have HT : Hid (g.allR ms (uss.drop 0) = g.allR ms uss) := hidd rfl
  obtain ⟨T, hT⟩ : ∃ T, T = g.allR ms uss := ⟨_, rfl⟩
  rw [← hT] at HT ⊢
  clear hok hms hG hL hM hu h1 h3 hT
  go_enter Try.func22, Try.ntmps22
  go_wp2_with fail
  go_loopw [13] (fun y wr => ∃ i : Nat, y = .int .i64 i ∧ i ≤ uss.length ∧ Hid (g.allR ms (uss.drop i) = T) ∧ Hid (Below w.heap.size w wr)) (fun y _ => uss.length - (intOf y).toNat)
  case atStart => exact ⟨0, rfl, Nat.zero_le _, HT, hidd (Below.refl _ _)⟩
  case round =>
    clear HT
    obtain ⟨i, rfl, hi, HT, Hb⟩ := hrel
    by_cases hlt : i < uss.length
    · have i1 : (i : Int) < uss.length := by omega
      have i0 : (0 : Int) ≤ i := by omega
      have hir : i < rows.length := by rw [h2]; exact hlt
      have hri := (H3.out i rows[i] uss[i] (List.getElem?_eq_getElem hir) (List.getElem?_eq_getElem hlt)).below Hb.out
      obtain ⟨bq, oq, rfl, hcell⟩ := (H1.out.below Hb.out).at_ (List.getElem?_eq_getElem hir)
      obtain ⟨r, hrr⟩ : ∃ r, r = rows[i] := ⟨_, rfl⟩
      rw [← hrr] at hri hcell
      have HTs := HT.out
      rw [List.drop_eq_getElem_cons hlt, Gm.allR] at HTs
      have hun := HU.out _ (List.getElem_mem hlt)
      obtain ⟨u, huu⟩ : ∃ u, u = uss[i] := ⟨_, rfl⟩
      rw [← huu] at hri HTs hun
      have HC := hidd (HH.out wr Hb.out u hun.1 hun.2 r hri)
      have HTt := hidd HTs
      obtain ⟨Ar, cr, rfl, _⟩ := hri
      have hin := fun h => Gm.inB_code (g := g) (ms := ms) (u := u) h
      have hmc := g.moM_code u
      obtain ⟨b, hb⟩ : ∃ b, b = g.inB ms u := ⟨_, rfl⟩
      obtain ⟨M, hM⟩ : ∃ M, M = g.moM u := ⟨_, rfl⟩
      rw [← hb, ← hM] at HC HTt
      rw [← hb, ← hM] at hin
      rw [← hM] at hmc
      clear HTs hrr huu hun hb hM
      go_wp2_with fail
      refine HC.out.mono ?_
      rintro e w2 ⟨rfl, hb2⟩
      have Hb2 := hidd (bel_then Hb.out hb2)
      have B3 := hidd (bel_then Hb2.out (bel_alloc' w2 (.cells M.1.cells 31)))
      clear hb2 HC hcell
      cases b with
      | true =>
        have hc0 := hin rfl
        rw [if_pos rfl] at HTt
        rw [hc0]
        clear hin hc0 hmc
        go_wp2_with ((with_reducible show wpList _ _ _ _ _ (World.alloc _ _)); refine stNew rfl (.tmp 9) (.tmp 22) (by rfl) M.1 w2.heap.size rfl (by rw [zeroC_M]; exact Mc.cells_size _) (by rfl) (by rfl) ?_)
        go_roundw
        case rel => exact ⟨i + 1, by go_num, by omega, HTt, B3⟩
        case measure => first | (simp [intOf]; done) | (simp [intOf]; omega)
      | false =>
        rw [if_neg (by decide)] at HTt
        obtain ⟨k, hk⟩ : ∃ k, k = M.2 := ⟨_, rfl⟩
        rw [← hk] at HTt ⊢
        clear hin hmc hk
        by_cases hk0 : k = 0
        · subst hk0
          go_wp2_with ((with_reducible show wpList _ _ _ _ _ (World.alloc _ _)); refine stNew rfl (.tmp 9) (.tmp 22) (by rfl) M.1 w2.heap.size rfl (by rw [zeroC_M]; exact Mc.cells_size _) (by rfl) (by rfl) ?_)
          go_ret2
          exact ⟨by rw [← HTt.out]; rfl, B3.out⟩
        · have hk1 : (k != 0) = true := by simp [hk0]
          have hk2 : (k == 0) = false := by simp [hk0]
          clear hk0
          go_wp2_with ((with_reducible show wpList _ _ _ _ _ (World.alloc _ _)); refine stNew rfl (.tmp 9) (.tmp 22) (by rfl) M.1 w2.heap.size rfl (by rw [zeroC_M]; exact Mc.cells_size _) (by rfl) (by rfl) ?_)
          go_ret2
          exact ⟨by rw [← HTt.out]; rfl, B3.out⟩
    · have he : i = uss.length := by omega
      have HE := hidd (show T = (true, 0) by rw [← HT.out, List.drop_of_length_le (by omega)]; rfl)
      subst he
      clear hlt
      go_wp2_with fail
      go_ret2
      exact ⟨by rw [HE.out]; rfl, Hb.out⟩
end Go.Proofs.Ytcghcbdefajpgaa
