/- Small texts of the walks under one roof. -/
import Derived.Test.YtcghcbdefajpgaaBE
import Derived.Maps.OwnSet
import Derived.Test.YtcghcbdefajpgaaBC
import Derived.Test.YtcghcbdefajpgaaBA
import Derived.BigQuiet
import Derived.Deep.QuietTactic
/- Walks: the key of a word, words compared, a word looked for in a list. -/
namespace Go.Proofs.Ytcghcbdefajpgaa
open Go.RowKit

/-- The key of a word. -/
def kyB (xs : List Int) : List Int := xs.map fun x => x + 100
theorem kyB_len (xs : List Int) : (kyB xs).length = xs.length := by simp [kyB]
def kyT (xs : List Int) : ByteArray := strOfNums (kyB xs)
theorem kyB_get (xs : List Int) {k : Nat} (h : k < xs.length) : (u8s (kyB xs))[k]? = some (.int .u8 (xs[k] + 100)) := by simp [kyB, u8s, h]

set_option maxHeartbeats 1000000 in
theorem key_any (v : Value) (xs : List Int) (hx : ∀ x ∈ xs, -100 ≤ x ∧ x ≤ 155) (hlen : xs.length ≤ 1048576) (w : World) (hr : RdI w v xs) :
    Calls Try.prog 84 #[v] w fun e w' => e = .returned (.string (kyT xs)) ∧ Below w.heap.size w w' := by
  obtain ⟨A, c, rfl, hr⟩ := hr
  have Hr := hidd hr
  have HX := hidd hx
  have HL := hidd (show (u8s (kyB xs)).length = xs.length by rw [u8s_length, kyB_len])
  clear hr hx
  go_enter Try.func84, Try.ntmps84
  go_wp2_with (at_make; refine mk_own rfl _ _ _ rfl w.heap.size 5 (.int .u8 0) 1 Try.underlying115 info_u8 rfl xs.length rfl rfl (by omega) (by omega) (Nat.le_refl _) ?_; intro w1 ho hg hlt)
  have Ho := hidd ho
  have Bel := hidd ((Below.refl w.heap.size w).grown hg (Nat.le_refl _) (fun k hk => by cases hk))
  clear ho hg
  go_loopw [11] (fun i wr => ∃ k : Nat, k ≤ xs.length ∧ i = .int .i64 k ∧ Hid (Own wr w.heap.size 5 (.slice (some ⟨w.heap.size, 0, none⟩) xs.length xs.length) (part (u8s (kyB xs)) xs.length k (.int .u8 0))) ∧ Hid (Below w.heap.size w wr)) (fun i _ => xs.length - (intOf i).toNat)
  case atStart => exact ⟨0, Nat.zero_le _, rfl, hidd (by rw [part_zero]; exact Ho.out), Bel⟩
  case round =>
    clear Ho Bel
    obtain ⟨k, hk, rfl, Hok, Hb⟩ := hrel
    by_cases hlt : k < xs.length
    · have i1 : (k : Int) < xs.length := by omega
      obtain ⟨b, o, rfl, hc⟩ := Hr.out.get hlt
      have hc' := (Hb.out.cell (p := ⟨b, o + k, none⟩) (World.block_lt_of_cell? _ _ hc)).trans hc
      have hb := HX.out xs[k] (List.getElem_mem hlt)
      have HG := hidd (kyB_get xs hlt)
      obtain ⟨x, hxk⟩ : ∃ x, x = xs[k] := ⟨_, rfl⟩
      rw [← hxk] at hb hc' HG
      clear hc hxk
      have d2 := Hok.out.frozen k
      have d1 := Hok.out.cell (part_get (u8s (kyB xs)) xs.length k (.int .u8 0) HL.out hlt)
      have r1 : IntKind.u8.wrap (x + 100) = x + 100 := IntWalk.u8_in _ (by omega)
      have r2 : IntKind.i64.wrap (x + 100) = x + 100 := IntWalk.i64_in _ (by omega)
      go_wp2_with fail
      go_roundw
      case rel =>
        refine ⟨k + 1, by omega, by go_num, hidd ?_, hidd (Hb.out.setCell (Nat.le_refl _) _)⟩
        have := Hok.out.store k (.int .u8 (x + 100))
        rwa [part_set (u8s (kyB xs)) xs.length k (.int .u8 0) _ HL.out hlt HG.out] at this
      case measure => first | (simp [intOf]; done) | (simp [intOf]; omega)
    · have he : k = xs.length := by omega
      subst he
      clear hlt
      have := Hok.out
      rw [part_all _ _ _ HL.out] at this
      have h2 := this.rdU
      have hcv := run_toString h2
      clear this h2
      go_wp2_with fail
      go_ret
      exact ⟨rfl, Hb.out⟩

set_option maxHeartbeats 1000000 in
theorem l02Like_any (v v' : Value) (xs ys : List Int) (w : World) (hr : RdI w v xs) (hr' : RdI w v' ys) :
    Calls Try.prog 75 #[v, v'] w fun e w' => e = .returned (.bool (decide (xs = ys))) ∧ Below w.heap.size w w' := by
  obtain ⟨A, c, rfl, hr⟩ := hr
  obtain ⟨A', c', rfl, hr'⟩ := hr'
  have hl := hr.1
  rw [ints_length] at hl
  have hl' := hr'.1
  rw [ints_length] at hl'
  have Hr := hidd hr
  have Hr' := hidd hr'
  clear hr hr'
  by_cases hz : xs.length = ys.length
  · have Hz := hidd hz
    go_enter Try.func75, Try.ntmps75
    rw [← hz]
    go_wp2_with fail
    go_loopw [5] (fun i wr => ∃ k : Nat, k ≤ xs.length ∧ i = .int .i64 k ∧ Hid (∀ j, j < k → xs[j]? = ys[j]?) ∧ ∃ q, wr = w.drewN q) (fun i _ => xs.length - (intOf i).toNat)
    case atStart => exact ⟨0, Nat.zero_le _, rfl, hidd (fun j hj => by omega), 0, rfl⟩
    case round =>
      obtain ⟨k, hk, rfl, HQ, q, rfl⟩ := hrel
      by_cases hlt : k < xs.length
      · have hlt' : k < ys.length := by rw [← Hz.out]; exact hlt
        obtain ⟨b, o, rfl, hc⟩ := Hr.out.get hlt
        obtain ⟨b', o', rfl, hc'⟩ := Hr'.out.get hlt'
        have i1 : (k : Int) < xs.length := by omega
        have i2 : (0 : Int) ≤ k := by omega
        have HE := hidd (show xs[k]? = some xs[k] ∧ ys[k]? = some ys[k] from ⟨List.getElem?_eq_getElem hlt, List.getElem?_eq_getElem hlt'⟩)
        obtain ⟨x, hx⟩ : ∃ x, x = xs[k] := ⟨_, rfl⟩
        obtain ⟨y, hy⟩ : ∃ y, y = ys[k] := ⟨_, rfl⟩
        rw [← hx, ← hy] at HE
        rw [← hx] at hc
        rw [← hy] at hc'
        clear hx hy hz
        by_cases hxy : x = y
        · subst hxy
          go_wp2_with fail
          go_quiet (fail)
          go_wp2_with fail
          go_roundw
          case rel =>
            refine ⟨k + 1, by omega, by go_num, hidd (fun j hj => ?_), _, rfl⟩
            by_cases e : j = k
            · subst e; rw [HE.out.1, HE.out.2]
            · exact HQ.out j (by omega)
          case measure => first | (simp [intOf]; done) | (simp [intOf]; omega)
        · go_wp2_with fail
          go_quiet (fail)
          go_wp2_with fail
          go_ret
          refine ⟨?_, bel_drewN (bel_drewN (Below.refl _ _) _) _⟩
          have hne : ¬ xs = ys := fun e => by
            have h1 := HE.out.1
            rw [e, HE.out.2] at h1
            exact hxy (Option.some.inj h1).symm
          rw [decide_eq_false hne]
          rfl
      · have he : k = xs.length := by omega
        subst he
        clear hlt hz
        go_wp2_with fail
        go_ret
        refine ⟨?_, bel_drewN (Below.refl _ _) _⟩
        have he : xs = ys := List.ext_getElem? (fun j => by
          by_cases hj : j < xs.length
          · exact HQ.out j hj
          · rw [List.getElem?_eq_none (by omega), List.getElem?_eq_none (by have := Hz.out; omega)])
        rw [decide_eq_true he]
        rfl
  · have i1 : ¬ (xs.length : Int) = ys.length := by omega
    have Hz := hidd hz
    clear hz
    go_enter Try.func75, Try.ntmps75
    go_wp2_with fail
    go_ret
    refine ⟨?_, Below.refl _ _⟩
    rw [decide_eq_false (fun e => Hz.out (by rw [e]))]
    rfl

/-- The place of a word in a list: the first, or the list's length. -/
def plc (xss : List (List Int)) (ys : List Int) : Nat := first (fun k => decide (xss.getD k [] = ys)) xss.length
def fnd (xss : List (List Int)) (ys : List Int) : Int := if plc xss ys < xss.length then (plc xss ys : Nat) else -1

set_option maxHeartbeats 1000000 in
theorem l02Find_any (v v' : Value) (xss : List (List Int)) (ys : List Int) (hl : xss.length ≤ 1048576) (w : World) (hr : RdLL w v xss) (hr' : RdI w v' ys) :
    Calls Try.prog 49 #[v, v'] w fun e w' => e = .returned (.int .i64 (fnd xss ys)) ∧ Below w.heap.size w w' := by
  obtain ⟨A, c, rows, rfl, h1, h2, h3⟩ := hr
  have H1 := hidd h1
  have H3 := hidd h3
  have Hr' := hidd hr'
  obtain ⟨A1, c1, rfl, hq1⟩ := hr'
  clear h1 h3 hq1
  go_enter Try.func49, Try.ntmps49
  go_wp2_with fail
  go_loopw [5] (fun i wr => ∃ k : Nat, k ≤ xss.length ∧ i = .int .i64 k ∧ Hid (∀ r, r < k → (fun k => decide (xss.getD k [] = ys)) r = false) ∧ Hid (Below w.heap.size w wr)) (fun i _ => xss.length - (intOf i).toNat)
  case atStart => exact ⟨0, Nat.zero_le _, rfl, hidd (fun r hr => absurd hr (Nat.not_lt_zero _)), hidd (Below.refl _ _)⟩
  case round =>
    obtain ⟨k, hk, rfl, HQ, Hb⟩ := hrel
    by_cases hlt : k < xss.length
    · have i1 : (k : Int) < xss.length := by omega
      have hkr : k < rows.length := by rw [h2]; exact hlt
      have hrow := H3.out k rows[k] _ (List.getElem?_eq_getElem hkr) (List.getElem?_eq_getElem hlt)
      obtain ⟨b, o, rfl, hcell⟩ := H1.out.at_ (List.getElem?_eq_getElem hkr)
      have hc' := (Hb.out.cell (p := ⟨b, o + k, none⟩) (World.block_lt_of_cell? _ _ hcell)).trans hcell
      have HG := hidd (show xss.getD k [] = xss[k] by simp [List.getD_eq_getElem?_getD, hlt])
      obtain ⟨r, hrr⟩ : ∃ r, r = rows[k] := ⟨_, rfl⟩
      rw [← hrr] at hrow hc'
      have HL := hidd (l02Like_any r _ xss[k] ys wr (hrow.below Hb.out) (Hr'.out.below Hb.out))
      clear hcell hrr hrow
      by_cases he : xss[k] = ys
      · rw [decide_eq_true he] at HL
        have HE := hidd he
        clear he
        go_wp2_with fail
        clear hc'
        refine HL.out.mono ?_
        rintro e w2 ⟨rfl, hb⟩
        have b2 := hidd (bel_then Hb.out hb)
        clear hb HL
        go_wp2_with fail
        go_ret
        refine ⟨?_, b2.out⟩
        have hp : plc xss ys = k := first_eq (Nat.le_of_lt hlt) (fun _ => decide_eq_true (by rw [HG.out]; exact HE.out)) HQ.out
        unfold fnd
        rw [hp, if_pos hlt]
        rfl
      · rw [decide_eq_false he] at HL
        have HE := hidd he
        clear he
        go_wp2_with fail
        clear hc'
        refine HL.out.mono ?_
        rintro e w2 ⟨rfl, hb⟩
        have b2 := hidd (bel_then Hb.out hb)
        clear hb HL
        go_wp2_with fail
        go_roundw
        case rel =>
          refine ⟨k + 1, by omega, by go_num, hidd (fun r hr => ?_), b2⟩
          by_cases e : r = k
          · subst e; exact decide_eq_false (by rw [HG.out]; exact HE.out)
          · exact HQ.out r (by omega)
        case measure => first | (simp [intOf]; done) | (simp [intOf]; omega)
    · have he : k = xss.length := by omega
      subst he
      clear hlt
      go_wp2_with fail
      go_ret
      refine ⟨?_, Hb.out⟩
      have hp : plc xss ys = xss.length := first_eq (Nat.le_refl _) (fun h => absurd h (Nat.lt_irrefl _)) HQ.out
      unfold fnd
      rw [hp, if_neg (Nat.lt_irrefl _)]
      rfl
end Go.Proofs.Ytcghcbdefajpgaa

/- Plain laws: the search for all sections of a word. -/
namespace Go.Proofs.Ytcghcbdefajpgaa
open Go.RowKit

/-- One more word, if it is new and there is room. -/
def ext (W : List (List Int)) (s : List Int) : Option (List (List Int)) := if plc W s < W.length then some W else if W.length = 200 then none else some (W ++ [s])
/-- The sections of a word at the first n letters taken in; the row of their places. -/
def Gm.bfRow (g : Gm) (u : List Int) : Nat → List (List Int) → Option (List (List Int) × List Int)
  | 0, W => some (W, [])
  | n + 1, W =>
    match g.bfRow u n W with
    | none => none
    | some (W', row) => (ext W' (g.nrm (g.sc u n))).map fun W'' => (W'', row ++ [(plc W' (g.nrm (g.sc u n)) : Int)])
/-- The search from place i on. -/
def Gm.bf (g : Gm) (fits : List Int → Bool) : Nat → Nat → List (List Int) → List (List Int) → List (List Int) × List (List Int) × Int
  | 0, _, W, R => (W, R, 0)
  | f + 1, i, W, R =>
    if i < W.length then
      if fits (W.getD i []) then
        match g.bfRow (W.getD i []) g.l W with
        | none => ([], [], 3)
        | some (W', row) => g.bf fits f (i + 1) W' (R ++ [row])
      else ([], [], 5)
    else (W, R, 0)
/-- All sections of a word. -/
def Gm.secs (g : Gm) (fits : List Int → Bool) (u : List Int) : List (List Int) × List (List Int) × Int := g.bf fits 201 0 [g.nrm u] []
theorem plc_le (W : List (List Int)) (s : List Int) : plc W s ≤ W.length := first_le _ _
theorem ext_len {W W' : List (List Int)} {s : List Int} (h : ext W s = some W') : W.length ≤ W'.length ∧ (W.length ≤ 200 → W'.length ≤ 200) := by
  unfold ext at h
  split at h
  · cases h; exact ⟨Nat.le_refl _, id⟩
  · split at h
    · cases h
    · rename_i h1 h2
      cases h
      rw [List.length_append]
      simp only [List.length_cons, List.length_nil]
      exact ⟨by omega, fun _ => by omega⟩
theorem Gm.bfRow_len {g : Gm} {u : List Int} : ∀ (n : Nat) {W W' : List (List Int)} {row : List Int}, g.bfRow u n W = some (W', row) → W.length ≤ W'.length ∧ (W.length ≤ 200 → W'.length ≤ 200) ∧ row.length = n
  | 0, W, W', row, h => by
    cases h
    exact ⟨Nat.le_refl _, id, rfl⟩
  | n + 1, W, W', row, h => by
    rw [Gm.bfRow] at h
    match e : g.bfRow u n W with
    | none => rw [e] at h; cases h
    | some (W1, r1) =>
      rw [e] at h
      obtain ⟨a1, a2, a3⟩ := Gm.bfRow_len n e
      match e2 : ext W1 (g.nrm (g.sc u n)) with
      | none => simp only [e2, Option.map_none] at h; cases h
      | some W2 =>
        simp only [e2, Option.map_some] at h
        cases h
        obtain ⟨b1, b2⟩ := ext_len e2
        exact ⟨Nat.le_trans a1 b1, fun h2 => b2 (a2 h2), by rw [List.length_append, a3]; rfl⟩
end Go.Proofs.Ytcghcbdefajpgaa

/- Laws for the map from keys to places: a literal's entry. -/
namespace Go.Proofs.Ytcghcbdefajpgaa
open Go.RowKit
open Go.Maps (Keyed)

/-- An entry of a map's literal is written like 'm[k] = v'. -/
theorem insert_own {H : Type} {P : Program} (w : World) {ops : Array Oper} {rest : List Oper} {o : Oper} {a : Act} {Q : Exit → Act → World → Prop}
    (hg : o.guard = none) (m x v : Operand) (t : TypeId) (hop : o.op = Op.insert t m x v)
    (k e : TypeId) (K : Keyed P k) (ht : P.underlying t = some (.map k e)) (R : Value → Option (DataW H × List MemPlace)) (b n : Nat) (D : DataW H)
    (hm : a.eval m = .map (some b)) (hown : w.ownsMap P k R b n D) (hn : n < maxLen) (key val : Value) (kl : Lit) (hx : a.eval x = key) (hv : a.eval v = val) (hkey : keyOf P k key = some kl)
    (d : DataW H) (ps : List MemPlace) (hval : R val = some (d, ps))
    (hK : ∀ w', w'.ownsMap P k R b (n + 1) (D.put kl d) → w.grownBy w' (some b) → wpList P ops Q rest (a.put o.dst undef) w') :
    wpList P ops Q (o :: rest) a w := by
  refine wpList_plain hg fun K' hK' => ?_
  obtain ⟨w', hrun, r1, r2⟩ := hown.update K ht hn hkey hval
  unfold Oper.wp
  simp [execOp, hop, hm, hx, hv, hrun, Result.andThen]
  exact hK' _ _ (hK w' r1 r2)
end Go.Proofs.Ytcghcbdefajpgaa

/- Plain laws: places in a list as it grows; keys tell words apart. -/
namespace Go.Proofs.Ytcghcbdefajpgaa
open Go.RowKit

theorem getD_app {W : List (List Int)} {s : List Int} {k : Nat} (h : k < W.length) : (W ++ [s]).getD k [] = W.getD k [] := by
  simp [List.getD_eq_getElem?_getD, List.getElem?_append, h]
theorem getD_last (W : List (List Int)) (s : List Int) : (W ++ [s]).getD W.length [] = s := by simp [List.getD_eq_getElem?_getD]
theorem plc_spec (W : List (List Int)) (s : List Int) : plc W s ≤ W.length ∧ (plc W s < W.length → W.getD (plc W s) [] = s) ∧ ∀ r, r < plc W s → ¬ W.getD r [] = s := by
  obtain ⟨a, b, c⟩ := first_spec (fun k => decide (W.getD k [] = s)) W.length
  exact ⟨a, fun h => of_decide_eq_true (b h), fun r hr => of_decide_eq_false (c r hr)⟩
theorem plc_snoc_in {W : List (List Int)} {s t : List Int} (h : plc W t < W.length) : plc (W ++ [s]) t = plc W t := by
  obtain ⟨a, b, c⟩ := plc_spec W t
  refine first_eq (by rw [List.length_append]; omega) (fun _ => decide_eq_true (by rw [getD_app h]; exact b h)) (fun r hr => decide_eq_false (by rw [getD_app (by omega)]; exact c r hr))
theorem plc_snoc_same {W : List (List Int)} {s : List Int} (h : ¬ plc W s < W.length) : plc (W ++ [s]) s = W.length := by
  obtain ⟨a, b, c⟩ := plc_spec W s
  have e : plc W s = W.length := by omega
  refine first_eq (by rw [List.length_append]; omega) (fun _ => decide_eq_true (getD_last W s)) (fun r hr => decide_eq_false (by rw [getD_app hr]; exact c r (by omega)))
theorem plc_snoc_out {W : List (List Int)} {s t : List Int} (h : ¬ plc W t < W.length) (hne : s ≠ t) : ¬ plc (W ++ [s]) t < (W ++ [s]).length := by
  obtain ⟨a, b, c⟩ := plc_spec W t
  have e : plc W t = W.length := by omega
  have : plc (W ++ [s]) t = (W ++ [s]).length := first_eq (Nat.le_refl _) (fun h2 => absurd h2 (Nat.lt_irrefl _)) (fun r hr => decide_eq_false (by
    rw [List.length_append] at hr
    by_cases hr2 : r < W.length
    · rw [getD_app hr2]; exact c r (by omega)
    · have : r = W.length := by simp at hr; omega
      rw [this, getD_last]
      exact hne))
  omega
/-- Different words have different keys. -/
theorem kyT_inj {xs ys : List Int} (hx : ∀ x ∈ xs, -100 ≤ x ∧ x ≤ 155) (hy : ∀ y ∈ ys, -100 ≤ y ∧ y ≤ 155) (h : kyT xs = kyT ys) : xs = ys := by
  have hl : xs.length = ys.length := by
    have := congrArg ByteArray.size h
    unfold kyT at this
    rwa [strOfNums_size, strOfNums_size, kyB_len, kyB_len] at this
  apply List.ext_getElem hl
  intro k h1 h2
  have a1 : k < (kyB xs).length := by rw [kyB_len]; exact h1
  have a2 : k < (kyB ys).length := by rw [kyB_len]; exact h2
  have e1 : (kyT xs)[k]'(by unfold kyT; rw [strOfNums_size]; exact a1) = UInt8.ofNat ((kyB xs)[k]).toNat := str_get _ a1
  have e2 : (kyT ys)[k]'(by unfold kyT; rw [strOfNums_size]; exact a2) = UInt8.ofNat ((kyB ys)[k]).toNat := str_get _ a2
  have e3 : UInt8.ofNat ((kyB xs)[k]).toNat = UInt8.ofNat ((kyB ys)[k]).toNat := by
    rw [← e1, ← e2]
    congr 1
  have b1 := hx xs[k] (List.getElem_mem h1)
  have b2 := hy ys[k] (List.getElem_mem h2)
  have c1 : (kyB xs)[k] = xs[k] + 100 := by simp [kyB]
  have c2 : (kyB ys)[k] = ys[k] + 100 := by simp [kyB]
  rw [c1, c2] at e3
  have e4 := congrArg UInt8.toNat e3
  rw [UInt8.toNat_ofNat', UInt8.toNat_ofNat'] at e4
  omega

/-! ### The map as a datum -/
section
variable {H : Type}
def kyL (s : List Int) : Lit := .string (kyT s).data.toList
def Small (s : List Int) : Prop := ∀ x ∈ s, -100 ≤ x ∧ x ≤ 155
theorem kyL_inj {s t : List Int} (hs : Small s) (ht : Small t) (h : kyL s = kyL t) : s = t := by
  unfold kyL at h
  injection h with h
  exact kyT_inj hs ht (ByteArray.ext (Array.toList_inj.1 h))
/-- The map holds the places of the list's words. -/
structure KeyMap (D : DataW H) (W : List (List Int)) : Prop where
  isMap : Maps.IsMap D
  has : ∀ s, Small s → Maps.has D (kyL s) = decide (plc W s < W.length)
  at_ : ∀ s z, Small s → plc W s < W.length → D.atKey (kyL s) z = .lit (.int .i64 (plc W s : Nat))
theorem KeyMap.put {D : DataW H} {W : List (List Int)} (h : KeyMap D W) {s : List Int} (hs : Small s) (hn : ¬ plc W s < W.length) : KeyMap (D.put (kyL s) (.lit (.int .i64 (W.length : Nat)))) (W ++ [s]) where
  isMap := h.isMap.put _ _
  has t ht := by
    by_cases e : t = s
    · subst e
      rw [Maps.has_put_same h.isMap (by trivial), plc_snoc_same hn]
      simp
    · rw [Maps.has_put_other (fun e2 => e (kyL_inj ht hs e2)), h.has t ht]
      by_cases hi : plc W t < W.length
      · rw [plc_snoc_in hi, decide_eq_true hi, decide_eq_true (by rw [List.length_append]; omega)]
      · rw [decide_eq_false hi, decide_eq_false (plc_snoc_out hi (Ne.symm e))]
  at_ t z ht hi := by
    by_cases e : t = s
    · subst e
      rw [Maps.atKey_put_same h.isMap (by trivial), plc_snoc_same hn]
    · rw [Maps.atKey_put_other (fun e2 => e (kyL_inj ht hs e2))]
      by_cases hi2 : plc W t < W.length
      · rw [plc_snoc_in hi2, h.at_ t z ht hi2]
      · exact absurd hi (plc_snoc_out hi2 (Ne.symm e))
end
end Go.Proofs.Ytcghcbdefajpgaa

/- Walks: whether a word leaves every letter where it is. -/
namespace Go.Proofs.Ytcghcbdefajpgaa
open Go.RowKit

/-- The word moves no letter. -/
def Gm.still (g : Gm) (W : List Int) : Bool := decide (first (fun x => decide (¬ g.im W x = x)) g.l = g.l)
theorem Gm.still_yes {g : Gm} {W : List Int} (h : ∀ x, x < g.l → g.im W x = x) : g.still W = true := by
  have : first (fun x => decide (¬ g.im W x = x)) g.l = g.l := first_eq (Nat.le_refl _) (fun h => absurd h (Nat.lt_irrefl _)) (fun r hr => decide_eq_false (fun hn => hn (h r hr)))
  exact decide_eq_true this
theorem Gm.still_no {g : Gm} {W : List Int} {x : Nat} (hx : x < g.l) (h : ¬ g.im W x = x) : g.still W = false := by
  refine decide_eq_false (fun e => ?_)
  have := (first_spec (fun x => decide (¬ g.im W x = x)) g.l).2.2 x (by omega)
  exact of_decide_eq_false this h

end Go.Proofs.Ytcghcbdefajpgaa

/- Plain laws for the search's memory: a queue of words, the rows of places, the map of keys. -/
namespace Go.Proofs.Ytcghcbdefajpgaa
open Go.RowKit

/-- One more row. -/
theorem LLr.push {w w' : World} {B : Nat} {v v' r : Value} {rows : List Value} {xss : List (List Int)} {ys : List Int} (h : LLr w B v rows xss) (hr : Own w B 2 r (ints ys)) (hnew : ∀ (j : Nat) (u : Value), rows[j]? = some u → Apart u r) (hv : Own w' B 26 v' (rows ++ [r])) (hg : w.grownBy w' v.ownBlock) : LLr w' B v' (rows ++ [r]) (xss ++ [ys]) := by
  have get : ∀ (j : Nat) (t : Value), (rows ++ [r])[j]? = some t → (j < rows.length ∧ rows[j]? = some t) ∨ (j = rows.length ∧ t = r) := by
    intro j t hj
    rw [List.getElem?_append] at hj
    by_cases hlt : j < rows.length
    · rw [if_pos hlt] at hj; exact .inl ⟨hlt, hj⟩
    · rw [if_neg hlt] at hj
      match h : j - rows.length, hj with
      | 0, hj => simp at hj; exact .inr ⟨by omega, hj.symm⟩
  have hl := h.len
  refine ⟨hv, by simp [hl], fun j t zs h1 h2 => ?_, fun i j t t' h1 h2 hne => ?_⟩
  · rcases get j t h1 with ⟨hlt, h3⟩ | ⟨he, rfl⟩
    · rw [List.getElem?_append, if_pos (by omega)] at h2
      have ho := h.row j t zs h3 h2
      exact ho.keep hg (ho.apart h.v types_ne)
    · rw [List.getElem?_append, if_neg (by omega), show j - xss.length = 0 by omega] at h2
      simp at h2
      subst h2
      exact hr.keep hg (hr.apart h.v types_ne)
  · rcases get i t h1 with ⟨hlt, h3⟩ | ⟨he, rfl⟩
    · rcases get j t' h2 with ⟨hlt2, h4⟩ | ⟨he2, rfl⟩
      · exact h.ap i j t t' h3 h4 hne
      · exact hnew i t h3
    · rcases get j t' h2 with ⟨hlt2, h4⟩ | ⟨he2, rfl⟩
      · exact (hnew j t' h4).symm
      · omega
/-- A write to another slice of slices. -/
theorem LLr.keepL {w w' : World} {B B' : Nat} {v u : Value} {rows us : List Value} {xss : List (List Int)} (h : LLr w B v rows xss) (hu : Own w B' 26 u us) (ha : Apart v u) (hg : w.grownBy w' u.ownBlock) : LLr w' B v rows xss :=
  ⟨h.v.keep hg ha, h.len, fun j r xs h1 h2 => (h.row j r xs h1 h2).keep hg ((h.row j r xs h1 h2).apart hu types_ne), h.ap⟩
/-- A map's block is no slice's. -/
theorem Own.offMap {w : World} {base : Nat} {e : TypeId} {v : Value} {vs : List Value} (h : Own w base e v vs) {b c : Nat} {es : Array MapEntry} (hm : w.heap[b]? = some (.map es c)) : v.ownBlock = none ∨ v.ownBlock ≠ some b := by
  rcases h.2 with ⟨h1, _⟩ | ⟨g, cap, cur, h1, _, hg, _⟩
  · left; rw [h1]; rfl
  · right
    rw [h1]
    intro hh
    have : g = b := by simpa [Value.ownBlock] using hh
    subst this
    rw [hg] at hm
    cases hm
def Mp (w : World) (b n : Nat) (D : DataW Unit) : Prop := w.ownsMap Try.prog 9 (plainElem Try.prog 2) b n D
theorem Own.keepM {w w' : World} {base : Nat} {e : TypeId} {v : Value} {vs : List Value} (h : Own w base e v vs) {b n : Nat} {D : DataW Unit} (hm : Mp w b n D) (hg : w.grownBy w' (some b)) : Own w' base e v vs := by
  obtain ⟨es, c, hb, _⟩ := hm
  exact h.grown hg (h.offMap hb)
theorem LLr.keepM {w w' : World} {B : Nat} {v : Value} {rows : List Value} {xss : List (List Int)} (h : LLr w B v rows xss) {b n : Nat} {D : DataW Unit} (hm : Mp w b n D) (hg : w.grownBy w' (some b)) : LLr w' B v rows xss :=
  ⟨h.v.keepM hm hg, h.len, fun j r xs h1 h2 => (h.row j r xs h1 h2).keepM hm hg, h.ap⟩
theorem Mp.keep {w w' : World} {b n : Nat} {D : DataW Unit} (hm : Mp w b n D) {base : Nat} {e : TypeId} {v : Value} {vs : List Value} (h : Own w base e v vs) (hg : w.grownBy w' v.ownBlock) : Mp w' b n D := by
  obtain ⟨es, c, hb, _⟩ := id hm
  refine World.ownsMap.kept hm hg (fun e2 => ?_)
  rcases h.offMap hb with h1 | h1
  · rw [h1] at e2; cases e2
  · exact h1 e2.symm
theorem Mp.below {w w' : World} {b n : Nat} {D : DataW Unit} (hm : Mp w b n D) (hb : Below w.heap.size w w') : Mp w' b n D := World.ownsMap.kept hm (grown_bel hb) (by simp)

/-- The search's memory: the queue W, the rows R, the map. -/
structure Qs (w : World) (B : Nat) (vw vr : Value) (rw rr : List Value) (W R : List (List Int)) (b : Nat) (D : DataW Unit) : Prop where
  q : LLr w B vw rw W
  n : LLr w B vr rr R
  a : Apart vr vw
  m : Mp w b W.length D
  k : KeyMap D W
  mb : B ≤ b
theorem Qs.below {w w' : World} {B : Nat} {vw vr : Value} {rw rr : List Value} {W R : List (List Int)} {b : Nat} {D : DataW Unit} (h : Qs w B vw vr rw rr W R b D) (hb : Below w.heap.size w w') : Qs w' B vw vr rw rr W R b D :=
  ⟨h.q.below hb, h.n.below hb, h.a, h.m.below hb, h.k, h.mb⟩
/-- .. with a row under way. -/
structure Qr (w : World) (B : Nat) (vw vr : Value) (rw rr : List Value) (W R : List (List Int)) (b : Nat) (D : DataW Unit) (B' : Nat) (u : Value) (xs : List Int) : Prop where
  qs : Qs w B vw vr rw rr W R b D
  ow : Own w B' 2 u (ints xs)
  uw : Off u rw
  un : Off u rr
  bb : B ≤ B'
theorem Qr.below {w w' : World} {B B' : Nat} {vw vr u : Value} {rw rr : List Value} {W R : List (List Int)} {b : Nat} {D : DataW Unit} {xs : List Int} (h : Qr w B vw vr rw rr W R b D B' u xs) (hb : Below w.heap.size w w') : Qr w' B vw vr rw rr W R b D B' u xs :=
  ⟨h.qs.below hb, h.ow.below hb, h.uw, h.un, h.bb⟩
theorem Qs.row {w : World} {B : Nat} {vw vr : Value} {rw rr : List Value} {W R : List (List Int)} {b : Nat} {D : DataW Unit} (h : Qs w B vw vr rw rr W R b D) {B' : Nat} (hB : B ≤ B') : Qr w B vw vr rw rr W R b D B' (.slice none 0 0) [] :=
  ⟨h, Own.nil _ _ _, fun j r hj => by
    obtain ⟨ys, _, ho⟩ := h.q.list hj
    exact Apart.symm (.inl rfl), fun j r hj => Apart.symm (.inl rfl), hB⟩
/-- .. and a new word beside it. -/
structure Q3 (w : World) (B : Nat) (vw vr : Value) (rw rr : List Value) (W R : List (List Int)) (b : Nat) (D : DataW Unit) (B' : Nat) (u : Value) (xs : List Int) (s : Value) (zs : List Int) : Prop where
  r : Qr w B vw vr rw rr W R b D B' u xs
  so : Own w B 2 s (ints zs)
  su : Apart s u
  sw : ∀ (j : Nat) (u : Value), rw[j]? = some u → Apart u s
theorem Qr.half {w w2 : World} {B B' : Nat} {vw vr u s : Value} {rw rr : List Value} {W R : List (List Int)} {b : Nat} {D : DataW Unit} {xs zs : List Int} (h : Qr w B vw vr rw rr W R b D B' u xs) {B2 : Nat} (hs : Own w2 B2 2 s (ints zs)) (hB : w.heap.size ≤ B2) (hBB : B ≤ B2) (hb : Below w.heap.size w w2) : Q3 w2 B vw vr rw rr W R b D B' u xs s zs :=
  ⟨h.below hb, hs.mono hBB, own_ne' h.ow hs hB, fun j t hj => by obtain ⟨ys, _, ho⟩ := h.qs.q.list hj; exact own_ne ho hs hB⟩
theorem Q3.below {w w' : World} {B B' : Nat} {vw vr u s : Value} {rw rr : List Value} {W R : List (List Int)} {b : Nat} {D : DataW Unit} {xs zs : List Int} (h : Q3 w B vw vr rw rr W R b D B' u xs s zs) (hb : Below w.heap.size w w') : Q3 w' B vw vr rw rr W R b D B' u xs s zs :=
  ⟨h.r.below hb, h.so.below hb, h.su, h.sw⟩
/-- The map is written: the key stands in it, the queue does not hold the word yet. -/
structure Q4 (w : World) (B : Nat) (vw vr : Value) (rw rr : List Value) (W R : List (List Int)) (b : Nat) (D : DataW Unit) (B' : Nat) (u : Value) (xs : List Int) (s : Value) (zs : List Int) : Prop where
  q : LLr w B vw rw W
  n : LLr w B vr rr R
  a : Apart vr vw
  m : Mp w b (W.length + 1) D
  k : KeyMap D (W ++ [zs])
  mb : B ≤ b
  ow : Own w B' 2 u (ints xs)
  uw : Off u rw
  un : Off u rr
  bb : B ≤ B'
  so : Own w B 2 s (ints zs)
  su : Apart s u
  sw : ∀ (j : Nat) (u : Value), rw[j]? = some u → Apart u s
theorem Q3.put {w w' : World} {B B' : Nat} {vw vr u s : Value} {rw rr : List Value} {W R : List (List Int)} {b : Nat} {D : DataW Unit} {xs zs : List Int} (h : Q3 w B vw vr rw rr W R b D B' u xs s zs) (hz : Small zs) (hn : ¬ plc W zs < W.length) (hm : Mp w' b (W.length + 1) (D.put (kyL zs) (.lit (.int .i64 (W.length : Nat))))) (hg : w.grownBy w' (some b)) :
    Q4 w' B vw vr rw rr W R b (D.put (kyL zs) (.lit (.int .i64 (W.length : Nat)))) B' u xs s zs :=
  ⟨h.r.qs.q.keepM h.r.qs.m hg, h.r.qs.n.keepM h.r.qs.m hg, h.r.qs.a, hm, h.r.qs.k.put hz hn, h.r.qs.mb, h.r.ow.keepM h.r.qs.m hg, h.r.uw, h.r.un, h.r.bb, h.so.keepM h.r.qs.m hg, h.su, h.sw⟩
theorem Off.push {u r : Value} {rows : List Value} (h : Off u rows) (hr : Apart r u) : Off u (rows ++ [r]) := fun j t hj => by
  rw [List.getElem?_append] at hj
  by_cases hlt : j < rows.length
  · rw [if_pos hlt] at hj; exact h j t hj
  · rw [if_neg hlt] at hj
    match h2 : j - rows.length, hj with
    | 0, hj => simp at hj; rw [← hj]; exact hr
theorem Q4.push {w w' : World} {B B' : Nat} {vw vw' vr u s : Value} {rw rr : List Value} {W R : List (List Int)} {b : Nat} {D : DataW Unit} {xs zs : List Int} (h : Q4 w B vw vr rw rr W R b D B' u xs s zs) (hv : Own w' B 26 vw' (rw ++ [s])) (hg : w.grownBy w' vw.ownBlock) (hl : Lies w.heap.size vw vw') :
    Qr w' B vw' vr (rw ++ [s]) rr (W ++ [zs]) R b D B' u xs :=
  ⟨⟨h.q.push h.so h.sw hv hg, h.n.keepL h.q.v h.a hg, h.a.lies h.n.v (Nat.le_refl _) hl, by rw [List.length_append]; exact h.m.keep h.q.v hg, h.k, h.mb⟩, h.ow.keep hg (h.ow.apart h.q.v types_ne), h.uw.push h.su, h.un, h.bb⟩
/-- One more place in the row. -/
theorem Qr.put {w w' : World} {B B' : Nat} {vw vr u u' : Value} {rw rr : List Value} {W R : List (List Int)} {b : Nat} {D : DataW Unit} {xs xs' : List Int} (h : Qr w B vw vr rw rr W R b D B' u xs) (hu : Own w' B' 2 u' (ints xs')) (hg : w.grownBy w' u.ownBlock) (hl : Lies w.heap.size u u') : Qr w' B vw vr rw rr W R b D B' u' xs' :=
  ⟨⟨h.qs.q.keep h.ow h.uw hg, h.qs.n.keep h.ow h.un hg, h.qs.a, h.qs.m.keep h.ow hg, h.qs.k, h.qs.mb⟩, hu, fun j t hj => by obtain ⟨ys, _, ho⟩ := h.qs.q.list hj; exact (h.uw j t hj).lies ho (Nat.le_refl _) hl, fun j t hj => by obtain ⟨ys, _, ho⟩ := h.qs.n.list hj; exact (h.un j t hj).lies ho (Nat.le_refl _) hl, h.bb⟩
/-- The row is done. -/
theorem Qr.done {w w' : World} {B B' : Nat} {vw vr vr' u : Value} {rw rr : List Value} {W R : List (List Int)} {b : Nat} {D : DataW Unit} {xs : List Int} (h : Qr w B vw vr rw rr W R b D B' u xs) (hv : Own w' B 26 vr' (rr ++ [u])) (hg : w.grownBy w' vr.ownBlock) (hl : Lies w.heap.size vr vr') : Qs w' B vw vr' rw (rr ++ [u]) W (R ++ [xs]) b D :=
  ⟨h.qs.q.keepL h.qs.n.v h.qs.a.symm hg, h.qs.n.push (h.ow.mono h.bb) h.un hv hg, (h.qs.a.symm.lies h.qs.q.v (Nat.le_refl _) hl).symm, h.qs.m.keep h.qs.n.v hg, h.qs.k, h.qs.mb⟩

/-! ### The search's plain laws -/
/-- Words of a bounded length over the machine's numbers. -/
def Gm.Wd (g : Gm) (L : Nat) (W : List (List Int)) : Prop := ∀ s ∈ W, g.Nums s ∧ s.length ≤ L
theorem Gm.Wd.get {g : Gm} {L : Nat} {W : List (List Int)} (h : g.Wd L W) {i : Nat} (hi : i < W.length) : g.Nums (W.getD i []) ∧ (W.getD i []).length ≤ L := by
  rw [List.getD_eq_getElem?_getD, List.getElem?_eq_getElem hi]
  exact h _ (List.getElem_mem hi)
theorem Gm.Wd.push {g : Gm} {L : Nat} {W : List (List Int)} {s : List Int} (h : g.Wd L W) (hs : g.Nums s ∧ s.length ≤ L) : g.Wd L (W ++ [s]) := fun t ht => by
  rcases List.mem_append.1 ht with h1 | h1
  · exact h t h1
  · rw [List.mem_singleton.1 h1]; exact hs
theorem Gm.Nums.sml {g : Gm} (hok : g.Ok) {s : List Int} (h : g.Nums s) : Small s := fun x hx => by
  have := Gm.Nums.small hok h x hx
  omega
theorem Gm.nsc {g : Gm} (hok : g.Ok) {L : Nat} {s : List Int} (h : g.Nums s ∧ s.length ≤ L) {x : Nat} (hx : x < g.l) : g.Nums (g.nrm (g.sc s x)) ∧ (g.nrm (g.sc s x)).length ≤ L :=
  ⟨Gm.nrm_nums (Gm.sc_nums hok h.1 hx), Nat.le_trans (g.nrm_len _) (by rw [g.sc_len]; exact h.2)⟩
theorem Gm.bfRow_zero (g : Gm) (u : List Int) (W : List (List Int)) : g.bfRow u 0 W = some (W, []) := rfl
theorem Gm.bfRow_seen {g : Gm} {u : List Int} {n : Nat} {W W' : List (List Int)} {row : List Int} (h : g.bfRow u n W = some (W', row)) (hp : plc W' (g.nrm (g.sc u n)) < W'.length) : g.bfRow u (n + 1) W = some (W', row ++ [(plc W' (g.nrm (g.sc u n)) : Int)]) := by
  rw [Gm.bfRow, h]
  simp only [ext, if_pos hp, Option.map_some]
theorem Gm.bfRow_new {g : Gm} {u : List Int} {n : Nat} {W W' : List (List Int)} {row : List Int} (h : g.bfRow u n W = some (W', row)) (hp : ¬ plc W' (g.nrm (g.sc u n)) < W'.length) (hr : ¬ W'.length = 200) : g.bfRow u (n + 1) W = some (W' ++ [g.nrm (g.sc u n)], row ++ [(W'.length : Int)]) := by
  have := plc_le W' (g.nrm (g.sc u n))
  rw [Gm.bfRow, h]
  have e : plc W' (g.nrm (g.sc u n)) = W'.length := by omega
  simp only [ext, e, Nat.lt_irrefl, if_false, if_neg hr, Option.map_some]
theorem Gm.bfRow_full {g : Gm} {u : List Int} {n : Nat} {W W' : List (List Int)} {row : List Int} (h : g.bfRow u n W = some (W', row)) (hp : ¬ plc W' (g.nrm (g.sc u n)) < W'.length) (hr : W'.length = 200) : g.bfRow u (n + 1) W = none := by
  rw [Gm.bfRow, h]
  simp only [ext, if_neg hp, if_pos hr, Option.map_none]
theorem Gm.bfRow_none {g : Gm} {u : List Int} {W : List (List Int)} {n : Nat} (h : g.bfRow u n W = none) : ∀ m, n ≤ m → g.bfRow u m W = none
  | 0, hm => by rwa [show n = 0 by omega] at h
  | m + 1, hm => by
    by_cases e : n = m + 1
    · rwa [e] at h
    · rw [Gm.bfRow, Gm.bfRow_none h m (by omega)]
theorem Gm.bfRow_wd {g : Gm} (hok : g.Ok) {L : Nat} {u : List Int} (hu : g.Nums u ∧ u.length ≤ L) : ∀ (n : Nat) {W W' : List (List Int)} {row : List Int}, n ≤ g.l → g.Wd L W → g.bfRow u n W = some (W', row) → g.Wd L W'
  | 0, W, W', row, _, hW, h => by cases h; exact hW
  | n + 1, W, W', row, hn, hW, h => by
    rw [Gm.bfRow] at h
    match e : g.bfRow u n W with
    | none => rw [e] at h; cases h
    | some (W1, r1) =>
      rw [e] at h
      have h1 := Gm.bfRow_wd hok hu n (by omega) hW e
      match e2 : ext W1 (g.nrm (g.sc u n)) with
      | none => simp only [e2, Option.map_none] at h; cases h
      | some W2 =>
        simp only [e2, Option.map_some] at h
        cases h
        unfold ext at e2
        split at e2
        · cases e2; exact h1
        · split at e2
          · cases e2
          · cases e2; exact h1.push (Gm.nsc hok hu (by omega))
theorem Gm.bf_end {g : Gm} {fits : List Int → Bool} {f i : Nat} {W R : List (List Int)} (h : ¬ i < W.length) : g.bf fits (f + 1) i W R = (W, R, 0) := by rw [Gm.bf, if_neg h]
theorem Gm.bf_bad {g : Gm} {fits : List Int → Bool} {f i : Nat} {W R : List (List Int)} (h : i < W.length) (hf : fits (W.getD i []) = false) : g.bf fits (f + 1) i W R = ([], [], 5) := by rw [Gm.bf, if_pos h, hf]; rfl
theorem Gm.bf_full {g : Gm} {fits : List Int → Bool} {f i : Nat} {W R : List (List Int)} (h : i < W.length) (hf : fits (W.getD i []) = true) (hr : g.bfRow (W.getD i []) g.l W = none) : g.bf fits (f + 1) i W R = ([], [], 3) := by rw [Gm.bf, if_pos h, hf, if_pos rfl, hr]
theorem Gm.bf_on {g : Gm} {fits : List Int → Bool} {f i : Nat} {W R W' : List (List Int)} {row : List Int} (h : i < W.length) (hf : fits (W.getD i []) = true) (hr : g.bfRow (W.getD i []) g.l W = some (W', row)) : g.bf fits (f + 1) i W R = g.bf fits f (i + 1) W' (R ++ [row]) := by rw [Gm.bf, if_pos h, hf, if_pos rfl, hr]
theorem KeyMap.nil : KeyMap (.map [] : DataW Unit) [] := ⟨Maps.isMap_empty, fun _ _ => rfl, fun _ _ _ h => absurd h (Nat.not_lt_zero _)⟩
end Go.Proofs.Ytcghcbdefajpgaa

/- Plain laws: what is reached in a graph from a point by at least one line; the lasting points. -/
namespace Go.Proofs.Ytcghcbdefajpgaa
open Go.RowKit

/-- How many places are not met. -/
def unM (bs : List Bool) : Nat := bs.countP (fun b => !b)
theorem unM_le (bs : List Bool) : unM bs ≤ bs.length := List.countP_le_length
theorem unM_set {bs : List Bool} {a : Nat} (ha : a < bs.length) (h : bs.getD a false = false) : unM (bs.set a true) + 1 = unM bs := by
  rw [List.getD_eq_getElem?_getD, List.getElem?_eq_getElem ha, Option.getD_some] at h
  have hp : 0 < unM bs := List.countP_pos_iff.2 ⟨bs[a], List.getElem_mem ha, by rw [h]; rfl⟩
  have := List.countP_set (p := fun b => !b) (a := true) ha
  unfold unM at *
  rw [this, h]
  simp
  omega
theorem getD_set (bs : List Bool) (a r : Nat) : (bs.set a true).getD r false = if a = r ∧ a < bs.length then true else bs.getD r false := by
  rw [List.getD_eq_getElem?_getD, List.getD_eq_getElem?_getD, List.getElem?_set]
  by_cases h : a = r
  · subst h
    by_cases h2 : a < bs.length
    · simp [h2]
    · simp [h2]
  · simp [h]
/-- The first x letters of a row, taken in. -/
def rcS (row : List Int) : Nat → List Bool × List Int → List Bool × List Int
  | 0, s => s
  | x + 1, s => if (rcS row x s).1.getD (row.getD x 0).toNat false then rcS row x s else ((rcS row x s).1.set (row.getD x 0).toNat true, (rcS row x s).2 ++ [row.getD x 0])
def rcL (R : List (List Int)) (l : Nat) : Nat → Nat → List Bool × List Int → List Bool
  | 0, _, s => s.1
  | f + 1, i, s => if i < s.2.length then rcL R l f (i + 1) (rcS (R.getD (s.2.getD i 0).toNat []) l s) else s.1
/-- What is reached from a point. -/
def rch (R : List (List Int)) (l n q : Nat) : List Bool := rcL R l (n + 2) 0 (List.replicate n false, [(q : Int)])
/-- A graph of n points, each with l lines. -/
def Grf (R : List (List Int)) (l n : Nat) : Prop := R.length = n ∧ ∀ q, q < n → (R.getD q []).length = l ∧ ∀ x, x < l → ∃ r : Nat, (R.getD q []).getD x 0 = r ∧ r < n
def sc (R : List (List Int)) (q x : Nat) : Nat := ((R.getD q []).getD x 0).toNat
structure RcI (R : List (List Int)) (l n q0 : Nat) (s : List Bool × List Int) : Prop where
  len : s.1.length = n
  cn : s.2.length + unM s.1 = n + 1
  head : s.2[0]? = some (q0 : Int)
  inQ : ∀ i, i < s.2.length → ∃ r : Nat, s.2.getD i 0 = r ∧ r < n
  met : ∀ r, s.1.getD r false = true → ∃ i, i < s.2.length ∧ s.2.getD i 0 = (r : Int)
  least : ∀ S : Nat → Prop, (∀ x, x < l → S (sc R q0 x)) → (∀ q x, q < n → S q → x < l → S (sc R q x)) → ∀ r, s.1.getD r false = true → S r
  inM : ∀ i, i < s.2.length → i = 0 ∨ s.1.getD (s.2.getD i 0).toNat false = true
theorem RcI.start {R : List (List Int)} {l n q0 : Nat} (h : q0 < n) : RcI R l n q0 (List.replicate n false, [(q0 : Int)]) := by
  have hz : ∀ r, (List.replicate n false).getD r false = false := fun r => by
    rw [List.getD_eq_getElem?_getD, List.getElem?_replicate]
    split <;> rfl
  refine ⟨by simp, ?_, rfl, fun i hi => ?_, fun r hr => ?_, fun S _ _ r hr => ?_, fun i hi => ?_⟩
  · show 1 + unM (List.replicate n false) = n + 1
    have : unM (List.replicate n false) = n := by unfold unM; rw [List.countP_replicate]; simp
    omega
  · simp at hi; subst hi; exact ⟨q0, rfl, h⟩
  · rw [hz] at hr; cases hr
  · rw [hz] at hr; cases hr
  · simp at hi; exact .inl hi
theorem getD_app' {Q : List Int} {r : Int} {i : Nat} (h : i < Q.length) : (Q ++ [r]).getD i 0 = Q.getD i 0 := by
  simp [List.getD_eq_getElem?_getD, List.getElem?_append, h]
theorem getD_last' (Q : List Int) (r : Int) : (Q ++ [r]).getD Q.length 0 = r := by simp [List.getD_eq_getElem?_getD]
/-- One row taken in: nothing goes, what stands in the row is met. -/
theorem rcS_ok {R : List (List Int)} {l n q0 : Nat} (hG : Grf R l n) {s : List Bool × List Int} (h : RcI R l n q0 s) {i : Nat} (hi : i < s.2.length) : ∀ x, x ≤ l →
    RcI R l n q0 (rcS (R.getD (s.2.getD i 0).toNat []) x s) ∧ s.2 <+: (rcS (R.getD (s.2.getD i 0).toNat []) x s).2 ∧ (∀ r, s.1.getD r false = true → (rcS (R.getD (s.2.getD i 0).toNat []) x s).1.getD r false = true) ∧ ∀ y, y < x → (rcS (R.getD (s.2.getD i 0).toNat []) x s).1.getD (sc R (s.2.getD i 0).toNat y) false = true
  | 0, _ => ⟨h, List.prefix_refl _, fun _ h => h, fun y hy => absurd hy (Nat.not_lt_zero _)⟩
  | x + 1, hx => by
    obtain ⟨a, b, c, d⟩ := rcS_ok hG h hi x (by omega)
    obtain ⟨q, hq, hqn⟩ := h.inQ i hi
    have hqt : (s.2.getD i 0).toNat = q := by rw [hq, Int.toNat_natCast]
    rw [hqt] at a b c d ⊢
    obtain ⟨r, hr, hrn⟩ := (hG.2 q hqn).2 x (by omega)
    have hrt : ((R.getD q []).getD x 0).toNat = r := by rw [hr, Int.toNat_natCast]
    have hsc : sc R q x = r := hrt
    rw [rcS, hrt]
    obtain ⟨t, ht⟩ : ∃ t, t = rcS (R.getD q []) x s := ⟨_, rfl⟩
    rw [← ht] at a b c d ⊢
    by_cases hm : t.1.getD r false = true
    · rw [if_pos hm]
      refine ⟨a, b, c, fun y hy => ?_⟩
      by_cases e : y = x
      · subst e; rw [hsc]; exact hm
      · exact d y (by omega)
    · rw [if_neg hm, hr]
      have hm' : t.1.getD r false = false := by cases h2 : t.1.getD r false <;> simp_all
      have hlen := a.len
      have hg : ∀ z, (t.1.set r true).getD z false = if r = z then true else t.1.getD z false := fun z => by
        rw [getD_set]
        by_cases e : r = z
        · rw [if_pos ⟨e, by omega⟩, if_pos e]
        · rw [if_neg (fun h => e h.1), if_neg e]
      refine ⟨⟨by simp [hlen], ?_, ?_, fun j hj => ?_, fun z hz => ?_, fun S h1 h2 z hz => ?_, fun j hj => ?_⟩, b.trans (List.prefix_append _ _), fun z hz => ?_, fun y hy => ?_⟩
      · have := unM_set (show r < t.1.length by omega) hm'
        have := a.cn
        simp only [List.length_append, List.length_cons, List.length_nil]
        omega
      · have := a.head
        have hp : 0 < t.2.length := by
          apply Decidable.byContradiction
          intro hn
          rw [List.getElem?_eq_none (by omega)] at this
          cases this
        simp only
        rw [List.getElem?_append_left hp]
        exact this
      · simp only [List.length_append, List.length_cons, List.length_nil] at hj
        by_cases e : j < t.2.length
        · simp only; rw [getD_app' e]; exact a.inQ j e
        · have : j = t.2.length := by omega
          subst this
          simp only; rw [getD_last']
          exact ⟨r, rfl, hrn⟩
      · simp only at hz ⊢
        rw [hg] at hz
        by_cases e : r = z
        · subst e
          exact ⟨t.2.length, by simp, getD_last' _ _⟩
        · rw [if_neg e] at hz
          obtain ⟨j, hj, hj2⟩ := a.met z hz
          exact ⟨j, by simp; omega, by rw [getD_app' hj]; exact hj2⟩
      · simp only at hz
        rw [hg] at hz
        by_cases e : r = z
        · subst e
          rw [← hsc]
          rcases h.inM i hi with h0 | h0
          · have hq0 : q = q0 := by
              have := h.head
              subst h0
              rw [List.getD_eq_getElem?_getD, this] at hq
              simp at hq
              omega
            rw [hq0]; exact h1 x (by omega)
          · rw [hqt] at h0
            exact h2 q x hqn (h.least S h1 h2 q h0) (by omega)
        · rw [if_neg e] at hz
          exact a.least S h1 h2 z hz
      · simp only [List.length_append, List.length_cons, List.length_nil] at hj
        simp only
        by_cases e : j < t.2.length
        · rw [getD_app' e]
          rcases a.inM j e with h0 | h0
          · exact .inl h0
          · right; rw [hg]; split
            · rfl
            · exact h0
        · have : j = t.2.length := by omega
          subst this
          right
          rw [getD_last', Int.toNat_natCast, hg, if_pos rfl]
      · simp only
        rw [hg]
        split
        · rfl
        · exact c z hz
      · simp only
        rw [hg]
        by_cases e : y = x
        · subst e; rw [hsc, if_pos rfl]
        · split
          · rfl
          · exact d y (by omega)
/-- The end: closed and least. -/
theorem rcL_ok {R : List (List Int)} {l n q0 : Nat} (hG : Grf R l n) : ∀ (f i : Nat) (s : List Bool × List Int), RcI R l n q0 s → n + 2 ≤ f + i → i ≤ s.2.length → (∀ j, j < i → ∀ x, x < l → s.1.getD (sc R (s.2.getD j 0).toNat x) false = true) →
    ∃ s', rcL R l f i s = s'.1 ∧ RcI R l n q0 s' ∧ ∀ j, j < s'.2.length → ∀ x, x < l → s'.1.getD (sc R (s'.2.getD j 0).toNat x) false = true
  | 0, i, s, h, hf, hi, _ => by
    have := h.cn
    omega
  | f + 1, i, s, h, hf, hi, hd => by
    rw [rcL]
    by_cases e : i < s.2.length
    · rw [if_pos e]
      obtain ⟨a, b, c, d⟩ := rcS_ok hG h e l (Nat.le_refl _)
      have hb : ∀ j, j < s.2.length → (rcS (R.getD (s.2.getD i 0).toNat []) l s).2.getD j 0 = s.2.getD j 0 := fun j hj => by
        obtain ⟨t, ht⟩ := b
        rw [← ht, List.getD_eq_getElem?_getD, List.getD_eq_getElem?_getD, List.getElem?_append_left hj]
      have hle := b.length_le
      refine rcL_ok hG f (i + 1) _ a (by omega) (by omega) fun j hj x hx => ?_
      rw [hb j (by omega)]
      by_cases e2 : j = i
      · subst e2; exact d x hx
      · exact c _ (hd j (by omega) x hx)
    · rw [if_neg e]
      have : i = s.2.length := by omega
      subst this
      exact ⟨s, rfl, h, hd⟩
theorem rch_ok {R : List (List Int)} {l n q : Nat} (hG : Grf R l n) (hq : q < n) : (rch R l n q).length = n ∧ (∀ x, x < l → (rch R l n q).getD (sc R q x) false = true) ∧ (∀ r x, (rch R l n q).getD r false = true → x < l → (rch R l n q).getD (sc R r x) false = true) ∧
    ∀ S : Nat → Prop, (∀ x, x < l → S (sc R q x)) → (∀ r x, r < n → S r → x < l → S (sc R r x)) → ∀ r, (rch R l n q).getD r false = true → S r := by
  obtain ⟨s, e, h, hd⟩ := rcL_ok hG (n + 2) 0 _ (RcI.start hq) (by omega) (by simp) (fun j hj => absurd hj (Nat.not_lt_zero _))
  unfold rch
  rw [e]
  refine ⟨h.len, fun x hx => ?_, fun r x hr hx => ?_, h.least⟩
  · have hp : 0 < s.2.length := by
      apply Decidable.byContradiction
      intro hn
      have := h.head
      rw [List.getElem?_eq_none (by omega)] at this
      cases this
    have := hd 0 hp x hx
    rw [List.getD_eq_getElem?_getD (l := s.2), h.head] at this
    exact this
  · obtain ⟨j, hj, e⟩ := h.met r hr
    have := hd j hj x hx
    rw [e, Int.toNat_natCast] at this
    exact this

/-! ### The lasting points -/
def orL (a b : List Bool) : List Bool := List.zipWith (· || ·) a b
/-- The points behind those of the first k that come back to themselves. -/
def lsK (R : List (List Int)) (l n : Nat) : Nat → List Bool
  | 0 => List.replicate n false
  | k + 1 => if (rch R l n k).getD k false then orL (lsK R l n k) (rch R l n k) else lsK R l n k
theorem orL_len {a b : List Bool} {n : Nat} (h : a.length = n) (h2 : b.length = n) : (orL a b).length = n := by simp [orL, h, h2]
theorem orL_get {a b : List Bool} {n : Nat} (h : a.length = n) (h2 : b.length = n) (r : Nat) : (orL a b).getD r false = (a.getD r false || b.getD r false) := by
  unfold orL
  rw [List.getD_eq_getElem?_getD, List.getD_eq_getElem?_getD, List.getD_eq_getElem?_getD, List.getElem?_zipWith]
  by_cases hr : r < n
  · rw [List.getElem?_eq_getElem (by omega), List.getElem?_eq_getElem (by omega)]; rfl
  · rw [List.getElem?_eq_none (by omega), List.getElem?_eq_none (by omega)]; rfl
theorem lsK_len {R : List (List Int)} {l n : Nat} (hG : Grf R l n) : ∀ k, k ≤ n → (lsK R l n k).length = n
  | 0, _ => by simp [lsK]
  | k + 1, hk => by
    rw [lsK]
    split
    · exact orL_len (lsK_len hG k (by omega)) (rch_ok hG (by omega)).1
    · exact lsK_len hG k (by omega)
theorem lsK_closed {R : List (List Int)} {l n : Nat} (hG : Grf R l n) : ∀ k, k ≤ n → ∀ r x, (lsK R l n k).getD r false = true → x < l → (lsK R l n k).getD (sc R r x) false = true
  | 0, _, r, x, h, _ => by
    rw [lsK, List.getD_eq_getElem?_getD, List.getElem?_replicate] at h
    split at h <;> cases h
  | k + 1, hk, r, x, h, hx => by
    rw [lsK] at h ⊢
    split
    · rename_i hc
      rw [if_pos hc, orL_get (lsK_len hG k (by omega)) (rch_ok hG (by omega)).1, Bool.or_eq_true] at h
      rw [orL_get (lsK_len hG k (by omega)) (rch_ok hG (by omega)).1, Bool.or_eq_true]
      rcases h with h | h
      · exact .inl (lsK_closed hG k (by omega) r x h hx)
      · exact .inr ((rch_ok hG (by omega)).2.2.1 r x h hx)
    · rename_i hc
      rw [if_neg hc] at h
      exact lsK_closed hG k (by omega) r x h hx
/-- A point that is in already brings nothing new. -/
theorem lsK_skip {R : List (List Int)} {l n k : Nat} (hG : Grf R l n) (hk : k < n) (h : (lsK R l n k).getD k false = true) : lsK R l n (k + 1) = lsK R l n k := by
  rw [lsK]
  split
  · have h1 := lsK_len hG k (by omega)
    have h2 := rch_ok hG hk
    apply List.ext_getElem (by rw [orL_len h1 h2.1, h1])
    intro r hr hr2
    have e : ∀ (z : List Bool) (hz : r < z.length), z[r] = z.getD r false := fun z hz => by rw [List.getD_eq_getElem?_getD, List.getElem?_eq_getElem hz]; rfl
    rw [e, e, orL_get h1 h2.1]
    cases h3 : (rch R l n k).getD r false with
    | false => simp
    | true =>
      have := h2.2.2.2 (fun z => (lsK R l n k).getD z false = true) (fun x hx => lsK_closed hG k (by omega) k x h hx) (fun z x _ hz hx => lsK_closed hG k (by omega) z x hz hx) r h3
      rw [this]; rfl
  · rfl
end Go.Proofs.Ytcghcbdefajpgaa

/- Plain laws: what the search leaves is a graph. -/
namespace Go.Proofs.Ytcghcbdefajpgaa
open Go.RowKit

theorem getD_snoc {xs : List Int} {a : Int} {x : Nat} : (xs ++ [a]).getD x 0 = if x < xs.length then xs.getD x 0 else if x = xs.length then a else 0 := by
  by_cases h : x < xs.length
  · rw [if_pos h, getD_app' h]
  · rw [if_neg h]
    by_cases e : x = xs.length
    · rw [if_pos e, e, getD_last']
    · rw [if_neg e, List.getD_eq_getElem?_getD, List.getElem?_eq_none (by simp; omega)]; rfl
theorem Gm.bfRow_row {g : Gm} {u : List Int} : ∀ (n : Nat) {W W' : List (List Int)} {row : List Int}, g.bfRow u n W = some (W', row) → ∀ x, x < n → ∃ r : Nat, row.getD x 0 = r ∧ r < W'.length
  | 0, W, W', row, _, x, hx => absurd hx (Nat.not_lt_zero _)
  | n + 1, W, W', row, h, x, hx => by
    rw [Gm.bfRow] at h
    match e : g.bfRow u n W with
    | none => rw [e] at h; cases h
    | some (W1, r1) =>
      rw [e] at h
      match e2 : ext W1 (g.nrm (g.sc u n)) with
      | none => simp only [e2, Option.map_none] at h; cases h
      | some W2 =>
        simp only [e2, Option.map_some] at h
        cases h
        have hl := (Gm.bfRow_len n e).2.2
        have hw := (ext_len e2).1
        rw [getD_snoc, hl]
        by_cases hlt : x < n
        · rw [if_pos hlt]
          obtain ⟨r, a, b⟩ := Gm.bfRow_row n e x hlt
          exact ⟨r, a, by omega⟩
        · rw [if_neg hlt, if_pos (by omega)]
          refine ⟨_, rfl, ?_⟩
          unfold ext at e2
          have := plc_le W1 (g.nrm (g.sc u n))
          split at e2
          · cases e2; assumption
          · split at e2
            · cases e2
            · cases e2
              rw [List.length_append]
              simp only [List.length_cons, List.length_nil]
              omega
/-- What the search leaves when it comes to its end. -/
structure Gm.SecOk (g : Gm) (L : Nat) (W R : List (List Int)) : Prop where
  grf : Grf R g.l W.length
  le : W.length ≤ 200
  pos : 0 < W.length
  wd : g.Wd L W
theorem Gm.bf_ok {g : Gm} (hok : g.Ok) {L : Nat} {fits : List Int → Bool} : ∀ (f i : Nat) (W R : List (List Int)), i ≤ W.length → R.length = i → W.length ≤ 200 → 0 < W.length → g.Wd L W → (∀ q, q < i → (R.getD q []).length = g.l ∧ ∀ x, x < g.l → ∃ r : Nat, (R.getD q []).getD x 0 = r ∧ r < W.length) → 201 ≤ f + i →
    (g.bf fits f i W R).2.2 = 0 → g.SecOk L (g.bf fits f i W R).1 (g.bf fits f i W R).2.1
  | 0, i, W, R, h1, _, h3, _, _, _, h6, _ => by omega
  | f + 1, i, W, R, h1, h2, h3, h4, hW, h5, h6, hc => by
    by_cases hi : i < W.length
    · cases hf : fits (W.getD i []) with
      | false => rw [Gm.bf_bad hi hf] at hc; cases hc
      | true =>
        match e : g.bfRow (W.getD i []) g.l W with
        | none => rw [Gm.bf_full hi hf e] at hc; cases hc
        | some (W', row) =>
          rw [Gm.bf_on hi hf e] at hc ⊢
          obtain ⟨a1, a2, a3⟩ := Gm.bfRow_len g.l e
          have hr := Gm.bfRow_row g.l e
          refine Gm.bf_ok hok f (i + 1) W' (R ++ [row]) (by omega) (by rw [List.length_append]; simp; omega) (a2 h3) (by omega) (Gm.bfRow_wd hok (hW.get hi) g.l (Nat.le_refl _) hW e) (fun q hq => ?_) (by omega) hc
          by_cases e2 : q < i
          · rw [getD_app (by omega)]
            obtain ⟨b1, b2⟩ := h5 q e2
            refine ⟨b1, fun x hx => ?_⟩
            obtain ⟨r, c1, c2⟩ := b2 x hx
            exact ⟨r, c1, by omega⟩
          · have e3 : q = R.length := by omega
            rw [e3, getD_last]
            exact ⟨a3, hr⟩
    · rw [Gm.bf_end hi]
      have e : i = W.length := by omega
      subst e
      exact ⟨⟨h2, h5⟩, h3, h4, hW⟩
theorem Gm.secs_ok {g : Gm} (hok : g.Ok) {u : List Int} (hu : g.Nums u) {fits : List Int → Bool} (hc : (g.secs fits u).2.2 = 0) : g.SecOk u.length (g.secs fits u).1 (g.secs fits u).2.1 :=
  Gm.bf_ok hok 201 0 [g.nrm u] [] (by simp) rfl (by simp) (by simp) (fun s hs => by
    rw [List.mem_singleton.1 hs]
    exact ⟨Gm.nrm_nums hu, g.nrm_len u⟩) (fun q hq => absurd hq (Nat.not_lt_zero _)) (by omega) hc
/-- The codes that the search can end with. -/
theorem Gm.bf_code {g : Gm} {fits : List Int → Bool} : ∀ (f i : Nat) (W R : List (List Int)), (g.bf fits f i W R).2.2 = 0 ∨ ((g.bf fits f i W R).2.2 = 3 ∨ (g.bf fits f i W R).2.2 = 5) ∧ (g.bf fits f i W R).1 = [] ∧ (g.bf fits f i W R).2.1 = []
  | 0, i, W, R => .inl rfl
  | f + 1, i, W, R => by
    by_cases hi : i < W.length
    · cases hf : fits (W.getD i []) with
      | false => rw [Gm.bf_bad hi hf]; exact .inr ⟨.inr rfl, rfl, rfl⟩
      | true =>
        match e : g.bfRow (W.getD i []) g.l W with
        | none => rw [Gm.bf_full hi hf e]; exact .inr ⟨.inl rfl, rfl, rfl⟩
        | some (W', row) => rw [Gm.bf_on hi hf e]; exact Gm.bf_code f (i + 1) _ _
    · rw [Gm.bf_end hi]; exact .inl rfl
theorem Gm.secs_code (g : Gm) (fits : List Int → Bool) (u : List Int) : (g.secs fits u).2.2 = 0 ∨ ((g.secs fits u).2.2 = 3 ∨ (g.secs fits u).2.2 = 5) ∧ (g.secs fits u).1 = [] ∧ (g.secs fits u).2.1 = [] := g.bf_code 201 0 _ _
/-- .. where every word fits. -/
theorem Gm.bf_all {g : Gm} : ∀ (f i : Nat) (W R : List (List Int)), (g.bf (fun _ => true) f i W R).2.2 ≠ 5
  | 0, i, W, R => by simp [Gm.bf]
  | f + 1, i, W, R => by
    by_cases hi : i < W.length
    · match e : g.bfRow (W.getD i []) g.l W with
      | none => rw [Gm.bf_full hi rfl e]; exact (by decide : (3 : Int) ≠ 5)
      | some (W', row) => rw [Gm.bf_on hi rfl e]; exact Gm.bf_all f (i + 1) _ _
    · rw [Gm.bf_end hi]; exact (by decide : (0 : Int) ≠ 5)
end Go.Proofs.Ytcghcbdefajpgaa

/- Plain laws: the classes of equal states that one state reaches, as they are met. -/
namespace Go.Proofs.Ytcghcbdefajpgaa
open Go.RowKit

/-- The classes behind the first letters of a state, taken in; the rounds. -/
def Gm.boX (g : Gm) (s : Nat) : Nat → List Nat → List Nat
  | 0, O => O
  | x + 1, O => if g.lst (g.nx s x) ∈ g.boX s x O then g.boX s x O else g.boX s x O ++ [g.lst (g.nx s x)]
def Gm.bo (g : Gm) : Nat → List Nat
  | 0 => [g.lst 0]
  | k + 1 => if k < (g.bo k).length then g.boX ((g.bo k).getD k 0) g.l (g.bo k) else g.bo k
def Gm.bof (g : Gm) : List Nat := g.bo g.s
structure Gm.Bo (g : Gm) (O : List Nat) : Prop where
  lt : ∀ q ∈ O, q < g.s
  rep : ∀ q ∈ O, g.lst q = q
  cn : cnt (fun q => O.contains q) g.s = O.length
theorem cnt_add {p p' : Nat → Bool} : ∀ {n s : Nat}, s < n → p s = false → p' s = true → (∀ q, q ≠ s → p' q = p q) → cnt p' n = cnt p n + 1
  | 0, s, h, _, _, _ => absurd h (Nat.not_lt_zero _)
  | n + 1, s, h, h0, h1, hq => by
    by_cases e : s = n
    · subst e
      have : cnt p' s = cnt p s := by
        have a := (cnt_mono s (p := p) (p' := p') (fun q hq2 hp => by rw [← hq q (by omega)]; exact hp)).1
        have b := (cnt_mono s (p := p') (p' := p) (fun q hq2 hp => by rw [hq q (by omega)]; exact hp)).1
        omega
      unfold cnt
      rw [this, h0, h1]
      simp
    · have := cnt_add (n := n) (by omega) h0 h1 hq
      unfold cnt
      rw [this, hq n (fun e2 => e e2.symm)]
      omega
theorem Gm.Bo.le {g : Gm} {O : List Nat} (h : g.Bo O) : O.length ≤ g.s := by rw [← h.cn]; exact cnt_le _ _
theorem Gm.Bo.push {g : Gm} {O : List Nat} (h : g.Bo O) {r : Nat} (hr : r < g.s) (hn : g.lst r ∉ O) : g.Bo (O ++ [g.lst r]) := by
  have hl := g.lst_le' r
  refine ⟨fun q hq => ?_, fun q hq => ?_, ?_⟩
  · rcases List.mem_append.1 hq with a | a
    · exact h.lt q a
    · rw [List.mem_singleton.1 a]; omega
  · rcases List.mem_append.1 hq with a | a
    · exact h.rep q a
    · rw [List.mem_singleton.1 a]; exact g.lst_lst r
  · rw [cnt_add (p := fun q => O.contains q) (s := g.lst r) (by omega) ?_ ?_ ?_, h.cn, List.length_append]
    · rfl
    · simpa using hn
    · simp
    · intro q hq; simp [hq]
theorem Gm.boX_ok {g : Gm} (hok : g.Tb) {s : Nat} (hs : s < g.s) {O : List Nat} (h : g.Bo O) : ∀ x, x ≤ g.l → g.Bo (g.boX s x O) ∧ O <+: g.boX s x O
  | 0, _ => ⟨h, List.prefix_refl _⟩
  | x + 1, hx => by
    obtain ⟨a, b⟩ := Gm.boX_ok hok hs h x (by omega)
    rw [Gm.boX]
    split
    · exact ⟨a, b⟩
    · rename_i hn
      exact ⟨a.push (hok.nlt s x hs (by omega)) hn, b.trans (List.prefix_append _ _)⟩
theorem Gm.boX_pre (g : Gm) (s : Nat) (O : List Nat) : ∀ {x y : Nat}, x ≤ y → g.boX s x O <+: g.boX s y O := by
  intro x y h
  induction h with
  | refl => exact List.prefix_refl _
  | step _ ih =>
    rw [Gm.boX]
    split
    · exact ih
    · exact ih.trans (List.prefix_append _ _)
theorem Gm.bo_ok {g : Gm} (hok : g.Tb) : ∀ k, g.Bo (g.bo k)
  | 0 => by
    have := g.lst_le' 0
    have h1 := hok.s1
    have hz : ∀ n, cnt (fun q => ([] : List Nat).contains q) n = 0 := by
      intro n
      induction n with
      | zero => rfl
      | succ n ih => unfold cnt; rw [ih]; simp
    have h0 : g.Bo [] := ⟨fun q h => absurd h (by simp), fun q h => absurd h (by simp), by rw [hz]; rfl⟩
    exact h0.push (r := 0) (by omega) (by simp)
  | k + 1 => by
    have h := Gm.bo_ok hok k
    rw [Gm.bo]
    split
    · rename_i hk
      refine (Gm.boX_ok hok (h.lt _ ?_) h g.l (Nat.le_refl _)).1
      rw [List.getD_eq_getElem?_getD, List.getElem?_eq_getElem hk]
      exact List.getElem_mem hk
    · exact h
theorem Gm.bo_at {g : Gm} (hok : g.Tb) {k i : Nat} (hi : i < (g.bo k).length) : (g.bo k).getD i 0 < g.s := by
  refine (Gm.bo_ok hok k).lt _ ?_
  rw [List.getD_eq_getElem?_getD, List.getElem?_eq_getElem hi]
  exact List.getElem_mem hi
theorem Gm.bo_pre1 (g : Gm) (k : Nat) : g.bo k <+: g.bo (k + 1) := by
  rw [Gm.bo]
  split
  · exact g.boX_pre _ _ (Nat.zero_le _)
  · exact List.prefix_refl _
theorem Gm.bo_pre (g : Gm) {i j : Nat} (h : i ≤ j) : g.bo i <+: g.bo j := by
  induction h with
  | refl => exact List.prefix_refl _
  | step _ ih => exact ih.trans (g.bo_pre1 _)
theorem Gm.bo_stop (g : Gm) {k : Nat} (h : (g.bo k).length ≤ k) {j : Nat} (hj : k ≤ j) : g.bo j = g.bo k := by
  induction hj with
  | refl => rfl
  | @step m hm ih =>
    have hm : k ≤ m := hm
    rw [Gm.bo, ih, if_neg (by omega)]
theorem Gm.bof_of {g : Gm} (hok : g.Tb) {k : Nat} (h : (g.bo k).length ≤ k) : g.bof = g.bo k := by
  unfold Gm.bof
  by_cases hk : k ≤ g.s
  · exact g.bo_stop h hk
  · have := (Gm.bo_ok hok g.s).le
    exact (g.bo_stop this (by omega)).symm
theorem Gm.bo_bof {g : Gm} (hok : g.Tb) (k : Nat) : g.bo k <+: g.bof := by
  by_cases hk : k ≤ g.s
  · exact g.bo_pre hk
  · rw [show g.bof = g.bo k from (g.bo_stop (Gm.bo_ok hok g.s).le (by omega : g.s ≤ k)).symm]
    exact List.prefix_refl _
/-- The place of a class. -/
def ixO (O : List Nat) (q : Nat) : Nat := first (fun j => decide (O[j]? = some q)) O.length
theorem ixO_spec (O : List Nat) (q : Nat) : (q ∈ O → ixO O q < O.length ∧ O[ixO O q]? = some q) ∧ (q ∉ O → ixO O q = O.length) := by
  obtain ⟨a, b, c⟩ := first_spec (fun j => decide (O[j]? = some q)) O.length
  constructor
  · intro h
    have hlt : ixO O q < O.length := by
      apply Decidable.byContradiction
      intro hn
      obtain ⟨j, hj, e⟩ := List.getElem_of_mem h
      have := c j (by unfold ixO at hn; omega)
      rw [List.getElem?_eq_getElem hj, e] at this
      simp at this
    exact ⟨hlt, of_decide_eq_true (b hlt)⟩
  · intro h
    apply Decidable.byContradiction
    intro hn
    have hlt : ixO O q < O.length := by unfold ixO at *; omega
    exact h (List.mem_of_getElem? (of_decide_eq_true (b hlt)))
theorem ixO_pre {O O' : List Nat} (h : O <+: O') {q : Nat} (hq : q ∈ O) : ixO O' q = ixO O q := by
  obtain ⟨t, rfl⟩ := h
  obtain ⟨a, b⟩ := (ixO_spec O q).1 hq
  refine first_eq (by rw [List.length_append]; omega) (fun _ => decide_eq_true (by rw [List.getElem?_append_left a]; exact b)) (fun r hr => ?_)
  have := (first_spec (fun j => decide (O[j]? = some q)) O.length).2.2 r hr
  rw [List.getElem?_append_left (by omega)]
  exact this
theorem ixO_last {O : List Nat} {q : Nat} (h : q ∉ O) : ixO (O ++ [q]) q = O.length := by
  refine first_eq (by rw [List.length_append]; simp) (fun _ => decide_eq_true (by simp)) (fun r hr => ?_)
  rw [List.getElem?_append_left hr]
  exact decide_eq_false (fun e => h (List.mem_of_getElem? e))
/-- The numbers that the reference keeps: -1 where a class was not met. -/
def nbO (O : List Nat) (q : Nat) : Int := if q ∈ O then (ixO O q : Nat) else -1
theorem nbO_push {O : List Nat} {r : Nat} (h : r ∉ O) (q : Nat) : nbO (O ++ [r]) q = if q = r then (O.length : Int) else nbO O q := by
  unfold nbO
  by_cases e : q = r
  · subst e
    rw [if_pos (by simp), if_pos rfl, ixO_last h]
  · rw [if_neg e]
    by_cases hq : q ∈ O
    · rw [if_pos hq, if_pos (List.mem_append_left _ hq), ixO_pre (List.prefix_append _ _) hq]
    · rw [if_neg hq, if_neg (by simp [hq, e])]
/-- Every class behind a state is in the last list. -/
theorem Gm.boX_mem (g : Gm) (s : Nat) (O : List Nat) : ∀ {n x : Nat}, x < n → g.lst (g.nx s x) ∈ g.boX s n O
  | 0, x, h => absurd h (Nat.not_lt_zero _)
  | n + 1, x, h => by
    by_cases e : x = n
    · subst e
      rw [Gm.boX]
      split
      · assumption
      · exact List.mem_append_right _ (List.mem_singleton.2 rfl)
    · have := g.boX_mem s O (show x < n by omega)
      exact (g.boX_pre s O (Nat.le_succ n)).subset this

/-! ### The table of a word's sections -/
def Gm.sT (g : Gm) (W R : List (List Int)) : Gm := ⟨g.l, W.length, fun q x => ((R.getD q []).getD x 0).toNat, fun q x => g.im (W.getD q []) x⟩
/-- The number of a state's class. -/
def Gm.nuO (g : Gm) (r : Nat) : Nat := ixO g.bof (g.lst r)
/-- The machine of the first row of a table, and the code. -/
def Gm.toM (g : Gm) : Mc × Int := if g.bof.length > 16 then (Mc.zero, 3) else (gaM g g.bof g.nuO, 0)
/-- The machine of a word, and the code. -/
def Gm.moM (g : Gm) (u : List Int) : Mc × Int := if (g.secs (fun _ => true) u).2.2 = 0 then (g.sT (g.secs (fun _ => true) u).1 (g.secs (fun _ => true) u).2.1).toM else (Mc.zero, (g.secs (fun _ => true) u).2.2)
end Go.Proofs.Ytcghcbdefajpgaa

/- Walks: slices.Equal over whole numbers. -/
namespace Go.Proofs.Ytcghcbdefajpgaa
open Go.RowKit

theorem drewN_twice (w : World) (a b : Nat) : ∃ n, (w.drewN a).drewN b = w.drewN n := ⟨a + b, by simp [World.drewN, Nat.add_assoc]⟩
set_option maxHeartbeats 400000 in
theorem slicesEqSame_any (v v' : Value) (xs ys : List Int) (hxy : xs.length = ys.length) (w : World) (hr : RdI w v xs) (hr' : RdI w v' ys) :
    Calls Try.prog 56 #[v, v'] w fun e w' => e = .returned (.bool (decide (xs = ys))) ∧ ∃ n, w' = w.drewN n := by
  obtain ⟨A, c, rfl, hr⟩ := hr
  obtain ⟨A', c', rfl, hr'⟩ := hr'
  rw [← hxy]
  have hl := hr.1
  rw [ints_length] at hl
  have Hr := hidd hr
  have Hr' := hidd hr'
  have Hxy := hidd hxy
  clear hr hr' hxy
  go_enter Try.func56, Try.ntmps56
  go_wp2
  go_loopw [13] (fun i wr => ∃ k : Nat, k ≤ xs.length ∧ i = .int .i64 k ∧ Hid (∀ j, j < k → xs[j]? = ys[j]?) ∧ ∃ q, wr = w.drewN q) (fun i _ => xs.length - (intOf i).toNat)
  case atStart => exact ⟨0, Nat.zero_le _, rfl, hidd (fun j hj => by omega), 0, rfl⟩
  case round =>
    obtain ⟨k, hk, rfl, HE, q, rfl⟩ := hrel
    by_cases hlt : k < xs.length
    · have hlt2 : k < ys.length := by rw [← Hxy.out]; exact hlt
      obtain ⟨b, o, rfl, hc⟩ := Hr.out.get hlt
      obtain ⟨b', o', rfl, hc'⟩ := Hr'.out.get hlt2
      have i1 : (k : Int) < xs.length := by omega
      have i2 : (0 : Int) ≤ k := by omega
      obtain ⟨a, ha⟩ : ∃ a, a = xs[k] := ⟨_, rfl⟩
      obtain ⟨a', ha'⟩ : ∃ a, a = ys[k] := ⟨_, rfl⟩
      rw [← ha] at hc
      rw [← ha'] at hc'
      have Ha := hidd (show xs[k]? = some a by rw [ha]; exact List.getElem?_eq_getElem hlt)
      have Ha' := hidd (show ys[k]? = some a' by rw [ha']; exact List.getElem?_eq_getElem hlt2)
      clear ha ha'
      by_cases e : a = a'
      · subst e
        have hd : (a != a) = false := bne_self_eq_false a
        go_wp2
        go_quiet (fail)
        go_wp2
        go_roundw
        case rel => exact ⟨k + 1, by omega, by go_num, hidd (fun j hj => by
          by_cases e : j = k
          · subst e; rw [Ha.out, Ha'.out]
          · exact HE.out j (by omega)), _, rfl⟩
        case measure => simp [intOf]; omega
      · have hd : (a != a') = true := bne_iff_ne.2 e
        have He := hidd e
        clear e
        go_wp2
        go_quiet (fail)
        go_wp2
        go_ret
        exact ⟨ret_b (decide_eq_false fun h => by
          have h2 := Ha.out
          rw [h, Ha'.out] at h2
          exact He.out (by cases h2; rfl)).symm, drewN_twice _ _ _⟩
    · go_wp2
      go_ret
      exact ⟨ret_b (decide_eq_true (List.ext_getElem? fun j => by
        by_cases hj : j < xs.length
        · exact HE.out j (by omega)
        · rw [List.getElem?_eq_none (by omega), List.getElem?_eq_none (by rw [← Hxy.out]; omega)])).symm, _, rfl⟩


theorem slicesEq_any (v v' : Value) (xs ys : List Int) (w : World) (hr : RdI w v xs) (hr' : RdI w v' ys) :
    Calls Try.prog 56 #[v, v'] w fun e w' => e = .returned (.bool (decide (xs = ys))) ∧ ∃ n, w' = w.drewN n := by
  by_cases hxy : xs.length = ys.length
  · exact slicesEqSame_any v v' xs ys hxy w hr hr'
  · have H := hidd (show decide (xs = ys) = false from decide_eq_false (fun e => hxy (by rw [e])))
    have i1 : ¬ (xs.length : Int) = ys.length := by omega
    have l1 := hr.le
    have l2 := hr'.le
    obtain ⟨A, c, rfl, hq⟩ := hr
    obtain ⟨A', c', rfl, hq'⟩ := hr'
    clear hxy hq hq'
    go_enter Try.func56, Try.ntmps56
    go_wp2
    go_ret
    exact ⟨ret_b H.out.symm, 0, rfl⟩
end Go.Proofs.Ytcghcbdefajpgaa

/- Walks: slices.Index and slices.Contains over whole numbers. -/
namespace Go.Proofs.Ytcghcbdefajpgaa
open Go.RowKit

def eqP (xs : List Int) (y : Int) (j : Nat) : Bool := decide (xs.getD j 0 = y)
theorem any_contains (xs : List Int) (y : Int) : (List.range xs.length).any (eqP xs y) = xs.contains y := by
  rw [Bool.eq_iff_iff]
  simp only [List.any_eq_true, List.mem_range, eqP, decide_eq_true_eq, List.contains_iff_mem]
  constructor
  · rintro ⟨j, hj, h⟩
    rw [List.getD_eq_getElem?_getD, List.getElem?_eq_getElem hj, Option.getD_some] at h
    rw [← h]
    exact List.getElem_mem hj
  · intro h
    obtain ⟨j, hj, e⟩ := List.getElem_of_mem h
    exact ⟨j, hj, by rw [List.getD_eq_getElem?_getD, List.getElem?_eq_getElem hj, Option.getD_some]; exact e⟩
set_option maxHeartbeats 400000 in
/-- The first place of a number, or -1. -/
theorem slicesIdx_any (v : Value) (xs : List Int) (y : Int) (w : World) (hr : RdI w v xs) :
    Calls Try.prog 89 #[v, .int .i64 y] w fun e w' => e = .returned (.int .i64 (fidx (eqP xs y) xs.length)) ∧ w = w' := by
  obtain ⟨A, c, rfl, hr⟩ := hr
  have hl := hr.1
  rw [ints_length] at hl
  have Hr := hidd hr
  clear hr
  go_enter Try.func89, Try.ntmps89
  go_wp2
  go_loopw [8] (fun i wr => ∃ j : Nat, j ≤ xs.length ∧ i = .int .i64 j ∧ wr = w ∧ Hid (∀ k, k < j → eqP xs y k = false)) (fun i _ => xs.length - (intOf i).toNat)
  case atStart => exact ⟨0, Nat.zero_le _, rfl, rfl, hidd (fun k hk => absurd hk (Nat.not_lt_zero _))⟩
  case round =>
    obtain ⟨j, hj, rfl, rfl, HQ⟩ := hrel
    by_cases hjl : j < xs.length
    · obtain ⟨b, o, rfl, hc⟩ := Hr.out.get hjl
      have i1 : (j : Int) < xs.length := by omega
      obtain ⟨a, ha⟩ : ∃ a, a = xs[j] := ⟨_, rfl⟩
      rw [← ha] at hc
      have Ha := hidd (show xs.getD j 0 = a by rw [List.getD_eq_getElem?_getD, List.getElem?_eq_getElem hjl, ha]; rfl)
      clear ha
      by_cases e : y = a
      · subst e
        have H1 := hidd (show eqP xs y j = true from decide_eq_true Ha.out)
        go_wp2
        go_ret
        exact ⟨ret_i (fidx_hit hjl H1.out HQ.out).symm, rfl⟩
      · have H1 := hidd (show eqP xs y j = false from decide_eq_false (fun h => e (by rw [← h, Ha.out])))
        go_wp2
        go_roundw
        case rel =>
          refine ⟨j + 1, by omega, by go_num, trivial, hidd (fun k hk => ?_)⟩
          by_cases e2 : k = j
          · subst e2; exact H1.out
          · exact HQ.out k (by omega)
        case measure => simp [intOf]; omega
    · have he : j = xs.length := by omega
      subst he
      clear hjl
      go_wp2
      go_ret
      exact ⟨ret_i (fidx_miss HQ.out).symm, rfl⟩
theorem slicesContains_any (v : Value) (xs : List Int) (y : Int) (w : World) (hr : RdI w v xs) :
    Calls Try.prog 86 #[v, .int .i64 y] w fun e w' => e = .returned (.bool (xs.contains y)) ∧ w = w' := by
  have HI := hidd (slicesIdx_any v xs y w hr)
  have HA := hidd (show decide (0 ≤ fidx (eqP xs y) xs.length) = xs.contains y by rw [fidx_any, any_contains])
  obtain ⟨A, c, rfl, hq⟩ := hr
  obtain ⟨f, hf⟩ : ∃ f, f = fidx (eqP xs y) xs.length := ⟨_, rfl⟩
  rw [← hf] at HI HA
  clear hq hf
  go_enter Try.func86, Try.ntmps86
  go_wp2_with (go_at_call 89; refine HI.out.mono ?_; rintro e w1 ⟨rfl, rfl⟩)
  go_ret
  exact ⟨ret_b HA.out, rfl⟩
end Go.Proofs.Ytcghcbdefajpgaa
