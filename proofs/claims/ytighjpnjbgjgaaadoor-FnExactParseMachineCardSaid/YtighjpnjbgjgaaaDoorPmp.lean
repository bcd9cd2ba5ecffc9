/- Plain: a text in pieces, and the machine that its pieces tell. -/
import Derived.Test.YtighjpnjbgjgaaaDoorBF
import Derived.Lib.SplitLaws
namespace Go.Proofs.YtighjpnjbgjgaaaDoor
open Go.RowKit

/-- The pieces of a text between the bytes c. -/
def spl (c : UInt8) : List UInt8 → List (List UInt8)
  | [] => [[]]
  | b :: t => if b = c then [] :: spl c t else (b :: (spl c t).headD []) :: (spl c t).tail
theorem spl_ne (c : UInt8) : ∀ s, spl c s ≠ []
  | [] => by simp [spl]
  | b :: t => by rw [spl]; split <;> simp
theorem spl_cons (c : UInt8) (s : List UInt8) : (spl c s).headD [] :: (spl c s).tail = spl c s := by
  match h : spl c s, spl_ne c s with
  | _ :: _, _ => rfl
theorem spl_none {c : UInt8} : ∀ {a : List UInt8}, c ∉ a → spl c a = [a]
  | [], _ => rfl
  | b :: a, h => by
    rw [List.mem_cons, not_or] at h
    rw [spl, if_neg (fun e => h.1 e.symm), spl_none h.2]
    rfl
theorem spl_app {c : UInt8} {t : List UInt8} : ∀ {a : List UInt8}, c ∉ a → spl c (a ++ c :: t) = a :: spl c t
  | [], _ => by rw [List.nil_append, spl, if_pos rfl]
  | b :: a, h => by
    rw [List.mem_cons, not_or] at h
    rw [List.cons_append, spl, if_neg (fun e => h.1 e.symm), spl_app h.2]
    rfl
theorem join_two (c : UInt8) (p q : List UInt8) (r : List (List UInt8)) : Lib.join (p :: q :: r) [c] = p ++ c :: Lib.join (q :: r) [c] := by
  rw [Lib.join_cons, Lib.join_cons]
  simp [Lib.joinTail]
theorem spl_join (c : UInt8) : ∀ ps, ps ≠ [] → (∀ p ∈ ps, c ∉ p) → spl c (Lib.join ps [c]) = ps
  | [p], _, h => by rw [Lib.join_one]; exact spl_none (h p (by simp))
  | p :: q :: r, _, h => by
    rw [join_two, spl_app (h p (by simp)), spl_join c (q :: r) (by simp) (fun x hx => h x (List.mem_cons_of_mem _ hx))]
theorem join_head (c b : UInt8) (p : List UInt8) (r : List (List UInt8)) : Lib.join ((b :: p) :: r) [c] = b :: Lib.join (p :: r) [c] := by
  rw [Lib.join_cons, Lib.join_cons]; rfl
theorem join_spl (c : UInt8) : ∀ s, Lib.join (spl c s) [c] = s
  | [] => by rw [spl, Lib.join_one]
  | b :: t => by
    rw [spl]
    split
    · rename_i e
      subst e
      match h : spl b t, spl_ne b t with
      | q :: r, _ => rw [join_two, ← h, join_spl b t]; rfl
    · rw [join_head, spl_cons, join_spl c t]
theorem idx_cons (b c : UInt8) (l : List UInt8) : Lib.index (b :: l) [c] = if c = b then 0 else if Lib.index l [c] == -1 then -1 else Lib.index l [c] + 1 := by
  rw [Lib.index]
  by_cases h : c = b
  · subst h; simp
  · simp [h]
theorem idx_miss {c : UInt8} : ∀ {s : List UInt8}, s.count c = 0 → Lib.index s [c] = -1
  | [], _ => by simp [Lib.index]
  | b :: s, h => by
    rw [List.count_cons] at h
    have hb : ¬ c = b := fun e => by subst e; simp at h
    rw [idx_cons, if_neg hb, idx_miss (s := s) (by omega)]
    rfl
theorem splitK_spl (c : UInt8) : ∀ (s : List UInt8), Lib.splitK [c] 0 (s.count c) s = spl c s
  | [] => rfl
  | b :: s => by
    have ih := splitK_spl c s
    by_cases h : b = c
    · subst h
      rw [List.count_cons_self, Lib.splitK, idx_cons, if_pos rfl, if_neg (by decide), spl, if_pos rfl]
      simp [ih]
    · rw [List.count_cons_of_ne h, spl, if_neg h, ← ih]
      cases hk : s.count c with
      | zero => rfl
      | succ k =>
        have hi : Lib.index s [c] ≠ -1 := fun e => by
          rcases Lib.index_spec s [c] with ⟨_, h2⟩ | ⟨i, h2, _⟩
          · have hm : c ∈ s := List.count_pos_iff.1 (by omega)
            obtain ⟨j, hj, hje⟩ := List.getElem_of_mem hm
            have := h2 j (by omega)
            unfold Lib.occAt at this
            rw [List.drop_eq_getElem_cons hj, hje] at this
            simp at this
          · omega
        have hge := Lib.index_ge s [c]
        have hidx : Lib.index (b :: s) [c] = Lib.index s [c] + 1 := by rw [idx_cons, if_neg (fun e => h e.symm), if_neg (by simpa using hi)]
        rw [Lib.splitK, Lib.splitK, hidx, if_neg (by simp; omega), if_neg (by simpa using hi)]
        obtain ⟨i, hi2⟩ : ∃ i : Nat, Lib.index s [c] = i := ⟨(Lib.index s [c]).toNat, by omega⟩
        rw [hi2]
        have e1 : ((i : Int) + 1).toNat = i + 1 := by omega
        rw [e1]
        simp [List.take_succ_cons]
theorem cut_hit {b : UInt8} {c : UInt8} (h : b ≠ c) (r : List UInt8) : Lib.cut (b :: c :: r) [c] = ([b], r, true) := by
  have e : Lib.index (b :: c :: r) [c] = 1 := by
    rw [idx_cons, if_neg (fun e => h e.symm), idx_cons, if_pos rfl]; rfl
  unfold Lib.cut
  rw [e, if_pos (by decide)]
  rfl
theorem cut_back {c : UInt8} {s : List UInt8} (h1 : (Lib.cut s [c]).2.2 = true) (h2 : (Lib.cut s [c]).1.length = 1) : ∃ b r, s = b :: c :: r ∧ b ≠ c := by
  unfold Lib.cut at h1 h2
  by_cases h : 0 ≤ Lib.index s [c]
  · rw [if_pos h] at h2
    have hr := Lib.index_room s [c] h
    simp only [List.length_take, List.length_cons, List.length_nil] at h2 hr
    have e : Lib.index s [c] = 1 := by omega
    match s, e with
    | [], e => simp [Lib.index] at e
    | b :: s, e =>
      rw [idx_cons] at e
      by_cases hb : c = b
      · rw [if_pos hb] at e; cases e
      · rw [if_neg hb] at e
        by_cases hm : Lib.index s [c] = -1
        · rw [hm] at e; cases e
        · rw [if_neg (by simpa using hm)] at e
          have e2 : Lib.index s [c] = 0 := by omega
          match s, e2 with
          | [], e2 => simp [Lib.index] at e2
          | d :: s, e2 =>
            rw [idx_cons] at e2
            by_cases hd : c = d
            · subst hd; exact ⟨b, s, rfl, fun e => hb e.symm⟩
            · rw [if_neg hd] at e2
              by_cases hm2 : Lib.index s [c] = -1
              · rw [hm2] at e2; cases e2
              · rw [if_neg (by simpa using hm2)] at e2
                have := Lib.index_ge s [c]
                omega
  · rw [if_neg h] at h1
    cases h1

/-! ### What the pieces tell -/
def rdN (ps : List (List UInt8)) (q x : Nat) : Nat := match (ps.getD q [])[2 * x + 1]? with | some b => (b.toNat + 159) % 256 | none => 0
def rdO (ps : List (List UInt8)) (q x : Nat) : Nat := match (ps.getD q [])[2 * x]? with | some b => (b.toNat + 208) % 256 | none => 0
def Gm.rowU (g : Gm) (q : Nat) : List UInt8 := bytesL (g.rowB q g.l)
def Gm.rowsU (g : Gm) : List (List UInt8) := (List.range g.s).map g.rowU
theorem Gm.rowB_at (g : Gm) (q : Nat) : ∀ k x, x < k → (g.rowB q k)[2 * x]? = some (48 + (g.ou q x : Int)) ∧ (g.rowB q k)[2 * x + 1]? = some (97 + (g.nx q x : Int))
  | 0, x, h => absurd h (Nat.not_lt_zero _)
  | k + 1, x, h => by
    rw [Gm.rowB]
    by_cases e : x < k
    · rw [List.getElem?_append_left (by rw [g.rowB_len]; omega), List.getElem?_append_left (by rw [g.rowB_len]; omega)]
      exact g.rowB_at q k x e
    · have : x = k := by omega
      subst this
      rw [List.getElem?_append_right (by rw [g.rowB_len]; omega), List.getElem?_append_right (by rw [g.rowB_len]; omega), g.rowB_len, show 2 * x - 2 * x = 0 by omega, show 2 * x + 1 - 2 * x = 1 by omega]
      exact ⟨rfl, rfl⟩
theorem bytesL_get (xs : List Int) (i : Nat) : (bytesL xs)[i]? = (xs[i]?).map fun n => UInt8.ofNat n.toNat := by
  unfold bytesL
  rw [strOfNums_data, List.getElem?_map]
theorem bytesL_len (xs : List Int) : (bytesL xs).length = xs.length := by unfold bytesL; rw [strOfNums_data, List.length_map]
theorem Gm.rowU_len (g : Gm) (q : Nat) : (g.rowU q).length = 2 * g.l := by unfold Gm.rowU; rw [bytesL_len, g.rowB_len]
theorem Gm.rowU_at (g : Gm) (q x : Nat) (h : x < g.l) : (g.rowU q)[2 * x]? = some (UInt8.ofNat (48 + g.ou q x)) ∧ (g.rowU q)[2 * x + 1]? = some (UInt8.ofNat (97 + g.nx q x)) := by
  obtain ⟨h1, h2⟩ := g.rowB_at q g.l x h
  unfold Gm.rowU
  rw [bytesL_get, bytesL_get, h1, h2]
  refine ⟨?_, ?_⟩
  · show some (UInt8.ofNat (48 + (g.ou q x : Int)).toNat) = _
    rw [show (48 + (g.ou q x : Int)).toNat = 48 + g.ou q x by omega]
  · show some (UInt8.ofNat (97 + (g.nx q x : Int)).toNat) = _
    rw [show (97 + (g.nx q x : Int)).toNat = 97 + g.nx q x by omega]
theorem Gm.rowsU_len (g : Gm) : g.rowsU.length = g.s := by simp [Gm.rowsU]
theorem Gm.rowsU_get (g : Gm) {q : Nat} (h : q < g.s) : g.rowsU[q]? = some (g.rowU q) := by simp [Gm.rowsU, h]
theorem Gm.rowsU_getD (g : Gm) (q : Nat) : g.rowsU.getD q [] = if q < g.s then g.rowU q else [] := by
  rw [List.getD_eq_getElem?_getD]
  by_cases h : q < g.s
  · rw [if_pos h, g.rowsU_get h]; rfl
  · rw [if_neg h, List.getElem?_eq_none (by rw [g.rowsU_len]; omega)]; rfl
theorem Gm.rd_rows {g : Gm} (hok : g.Ok) {q x : Nat} (hq : q < 16) (hx : x < 3) : rdN g.rowsU q x = g.nx q x ∧ rdO g.rowsU q x = g.ou q x := by
  unfold rdN rdO
  rw [g.rowsU_getD]
  have hl := hok.l3
  have hs := hok.s16
  by_cases h : q < g.s ∧ x < g.l
  · rw [if_pos h.1, (g.rowU_at q x h.2).1, (g.rowU_at q x h.2).2]
    have h1 := hok.nlt q x h.1 h.2
    have h2 := hok.olt q x h.1 h.2
    simp only [UInt8.toNat_ofNat']
    omega
  · have hz := hok.zn q x hq hx (by omega)
    have ho := hok.zo q x hq hx (by omega)
    rw [hz, ho]
    by_cases h3 : q < g.s
    · rw [if_pos h3, List.getElem?_eq_none (by rw [g.rowU_len]; omega), List.getElem?_eq_none (by rw [g.rowU_len]; omega)]
      exact ⟨rfl, rfl⟩
    · rw [if_neg h3]
      exact ⟨rfl, rfl⟩
theorem Gm.rowU_byte {g : Gm} (hok : g.Ok) {q : Nat} (hq : q < g.s) {b : UInt8} (h : b ∈ g.rowU q) : b ≠ 44 := by
  obtain ⟨j, hj, e⟩ := List.getElem_of_mem h
  rw [g.rowU_len] at hj
  have h1 := hok.nlt q (j / 2) hq (by omega)
  have h2 := hok.olt q (j / 2) hq (by omega)
  have hl := hok.l3
  have hs := hok.s16
  obtain ⟨a1, a2⟩ := g.rowU_at q (j / 2) (by omega)
  have e2 : (g.rowU q)[j]? = some b := by rw [List.getElem?_eq_getElem (by rw [g.rowU_len]; omega), e]
  intro hb
  subst hb
  rcases Nat.mod_two_eq_zero_or_one j with hm | hm
  · rw [show 2 * (j / 2) = j by omega, e2] at a1
    have := congrArg UInt8.toNat (Option.some.inj a1)
    rw [UInt8.toNat_ofNat'] at this
    have h3 : (44 : UInt8).toNat = 44 := rfl
    omega
  · rw [show 2 * (j / 2) + 1 = j by omega, e2] at a2
    have := congrArg UInt8.toNat (Option.some.inj a2)
    rw [UInt8.toNat_ofNat'] at this
    have h3 : (44 : UInt8).toNat = 44 := rfl
    omega
theorem Gm.body_rows (g : Gm) (hs : 1 ≤ g.s) : bytesL (g.bodyB g.s) = Lib.join g.rowsU [44] := by
  obtain ⟨n, hn⟩ : ∃ n, g.s = n + 1 := ⟨g.s - 1, by omega⟩
  have h := g.body_join n
  rw [← hn] at h
  rw [h]
  congr 1
  unfold Gm.rowsL Gm.rowsU
  rw [List.map_map]
  rfl
/-- The text of a machine, in pieces. -/
theorem Gm.txt_data {g : Gm} (hok : g.Ok) : g.txt.data.toList = UInt8.ofNat (48 + g.l) :: 58 :: Lib.join g.rowsU [44] := by
  rw [← g.body_rows hok.s1]
  show bytesL (g.hdB ++ g.bodyB g.s) = _
  rw [bytesL_append]
  show UInt8.ofNat (48 + (g.l : Int)).toNat :: 58 :: bytesL (g.bodyB g.s) = _
  rw [show (48 + (g.l : Int)).toNat = 48 + g.l by omega]
theorem Gm.txt_spl {g : Gm} (hok : g.Ok) : spl 44 (Lib.join g.rowsU [44]) = g.rowsU := by
  refine spl_join 44 _ (fun e => ?_) (fun p hp => ?_)
  · have := congrArg List.length e
    rw [g.rowsU_len] at this
    have := hok.s1
    simp at *
    omega
  · obtain ⟨q, hq, rfl⟩ := List.mem_map.1 hp
    exact fun h => Gm.rowU_byte hok (List.mem_range.1 hq) h rfl
theorem Gm.l_byte {g : Gm} (hok : g.Ok) : (UInt8.ofNat (48 + g.l)).toNat = 48 + g.l := by
  have := hok.l3
  rw [UInt8.toNat_ofNat']
  omega
/-- The text out of the pieces. -/
theorem Gm.txt_back {g : Gm} (hok : g.Ok) {t : ByteArray} {b : UInt8} {r : List UInt8} (ht : t.data.toList = b :: 58 :: r) (hb : b.toNat = 48 + g.l) (hp : (spl 44 r).length = g.s) (hlen : ∀ q, q < g.s → ((spl 44 r).getD q []).length = 2 * g.l)
    (hrd : ∀ q x, q < g.s → x < g.l → rdN (spl 44 r) q x = g.nx q x ∧ rdO (spl 44 r) q x = g.ou q x) : g.txt = t := by
  have key : spl 44 r = g.rowsU := by
    apply List.ext_getElem?
    intro q
    by_cases hq : q < g.s
    · rw [g.rowsU_get hq]
      have e1 : (spl 44 r)[q]? = some ((spl 44 r).getD q []) := by rw [List.getD_eq_getElem?_getD, List.getElem?_eq_getElem (by omega)]; rfl
      rw [e1]
      congr 1
      have hl := hlen q hq
      have hr := hrd q
      unfold rdN rdO at hr
      obtain ⟨p, hpp⟩ : ∃ p, p = (spl 44 r).getD q [] := ⟨_, rfl⟩
      rw [← hpp] at hl hr ⊢
      apply List.ext_getElem?
      intro j
      by_cases hj : j < 2 * g.l
      · obtain ⟨h1, h2⟩ := hr (j / 2) hq (by omega)
        obtain ⟨a1, a2⟩ := g.rowU_at q (j / 2) (by omega)
        have n1 := hok.nlt q (j / 2) hq (by omega)
        have n2 := hok.olt q (j / 2) hq (by omega)
        have hl3 := hok.l3
        have hs16 := hok.s16
        rw [List.getElem?_eq_getElem (by omega)] at h1 h2
        simp only at h1 h2
        rcases Nat.mod_two_eq_zero_or_one j with hm | hm
        · simp only [show 2 * (j / 2) = j by omega] at a1 h2
          rw [a1, List.getElem?_eq_getElem (by omega)]
          congr 1
          apply UInt8.toNat.inj
          rw [UInt8.toNat_ofNat']
          have := (p[j]).toNat_lt
          omega
        · simp only [show 2 * (j / 2) + 1 = j by omega] at a2 h1
          rw [a2, List.getElem?_eq_getElem (by omega)]
          congr 1
          apply UInt8.toNat.inj
          rw [UInt8.toNat_ofNat']
          have := (p[j]).toNat_lt
          omega
      · rw [List.getElem?_eq_none (by omega), List.getElem?_eq_none (by rw [g.rowU_len]; omega)]
    · rw [List.getElem?_eq_none (by omega), List.getElem?_eq_none (by rw [g.rowsU_len]; omega)]
  have e : g.txt.data.toList = t.data.toList := by
    rw [Gm.txt_data hok, ht, ← key, join_spl]
    congr 1
    apply UInt8.toNat.inj
    rw [Gm.l_byte hok, hb]
  cases ht1 : g.txt with
  | mk d => cases t with
    | mk d' =>
      rw [ht1] at e
      congr 1
      exact Array.ext' e

/-! ### The machine that a text tells, if there is one -/
/-- What the pieces of a text tell, whether or not it is a machine's. -/
def prM (t : ByteArray) : Mc := ⟨((t.data.toList.headD 0).toNat : Int) - 48, ((spl 44 (t.data.toList.drop 2)).length : Nat), rdN (spl 44 (t.data.toList.drop 2)), rdO (spl 44 (t.data.toList.drop 2))⟩
/-- The text is a machine's. -/
def prOk (t : ByteArray) : Prop := (prM t).ok = true ∧ (prM t).gm.txt = t
open Classical in
noncomputable def prR (t : ByteArray) : Mc × Int := if prOk t then (prM t, 0) else (Mc.zero, 6)
theorem prR_yes {t : ByteArray} (h : prOk t) : prR t = (prM t, 0) := if_pos h
theorem prR_no {t : ByteArray} (h : ¬ prOk t) : prR t = (Mc.zero, 6) := if_neg h
/-- What is seen at the text of a machine. -/
theorem prOk_see {t : ByteArray} (h : prOk t) : ∃ g : Gm, g.Ok ∧ prM t = g.mc ∧ g.txt = t ∧ t.data.toList = UInt8.ofNat (48 + g.l) :: 58 :: Lib.join g.rowsU [44] ∧ spl 44 (Lib.join g.rowsU [44]) = g.rowsU := by
  obtain ⟨g, h1, h2⟩ := Mc.to_gm h.1
  have h3 := h.2
  rw [h1] at h3
  have h4 : g.txt = t := h3
  exact ⟨g, h2, h1, h4, by rw [← h4]; exact Gm.txt_data h2, Gm.txt_spl h2⟩
/-- The text of a machine is found. -/
theorem prOk_back {t : ByteArray} {b : UInt8} {r : List UInt8} (ht : t.data.toList = b :: 58 :: r) (hok : (prM t).ok = true) (hlen : ∀ q, q < (spl 44 r).length → (((spl 44 r).getD q []).length : Int) = 2 * ((b.toNat : Int) - 48)) : prOk t := by
  obtain ⟨g, h1, h2⟩ := Mc.to_gm hok
  have e : prM t = ⟨(b.toNat : Int) - 48, ((spl 44 r).length : Nat), rdN (spl 44 r), rdO (spl 44 r)⟩ := by
    unfold prM
    rw [ht]
    rfl
  rw [e] at h1
  have e1 : (b.toNat : Int) - 48 = g.l := congrArg Mc.L h1
  have e2 : (((spl 44 r).length : Nat) : Int) = g.s := congrArg Mc.S h1
  have e3 : rdN (spl 44 r) = g.nx := congrArg Mc.nx h1
  have e4 : rdO (spl 44 r) = g.ou := congrArg Mc.ou h1
  refine ⟨hok, ?_⟩
  rw [e, h1]
  exact Gm.txt_back h2 ht (by omega) (by omega) (fun q hq => by have := hlen q (by omega); omega) (fun q x _ _ => ⟨by rw [e3], by rw [e4]⟩)
end Go.Proofs.YtighjpnjbgjgaaaDoor
