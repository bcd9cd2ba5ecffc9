/- Walks: what a state makes of a word: the program's lead and the reference's l01Act. -/
import Derived.Test.YtjnnbjlombopnaaCode
namespace Go.Proofs.Ytjnnbjlombopnaa
open Go.RowKit

/-! ### Bytes -/
def u8s (xs : List Int) : List Value := xs.map fun x => .int .u8 x
theorem u8s_length (xs : List Int) : (u8s xs).length = xs.length := by simp [u8s]
theorem u8s_get (xs : List Int) (j : Nat) : (u8s xs)[j]? = xs[j]?.map (Value.int .u8) := by simp [u8s]
theorem u8s_append (xs ys : List Int) : u8s (xs ++ ys) = u8s xs ++ u8s ys := by simp [u8s]
def RdU (w : World) (v : Value) (xs : List Int) : Prop := ∃ A c, v = .slice A xs.length c ∧ Rd w A (u8s xs)
theorem Own.rdU {w : World} {base : Nat} {e : TypeId} {v : Value} {xs : List Int} (h : Own w base e v (u8s xs)) : RdU w v xs := by
  obtain ⟨A, c, rfl⟩ := h.slice
  exact ⟨A, c, by rw [u8s_length], h.rd.2⟩
/-- A slice of bytes, as a string. -/
theorem run_toString {w : World} {v : Value} {xs : List Int} (h : RdU w v xs) : (convert 167 9 v).run Try.prog w = .ok (.string (strOfNums xs)) w := by
  obtain ⟨A, c, rfl, hl, hr⟩ := h
  by_cases hx : xs = []
  · subst hx
    cases A with
    | none => exact run_convert_bytes_nil w 167 5 Try.underlying167 Try.underlying5 _ _ _ Try.underlying9
    | some a =>
      have h0 : (loadCells a 0).run Try.prog w = .ok (([] : List Int).map (Value.int .u8)).toArray w := run_loadCells_list (P := Try.prog) w a [] (fun j v hj => by simp at hj)
      rw [show ([] : List Int).length = 0 from rfl, run_convert_bytes_string w 167 9 5 _ _ c Try.underlying167 Try.underlying5 Try.underlying9, run_bytesToString w a 0 c [] h0]
      rfl
  · obtain ⟨b, o, rfl, hc⟩ := hr (fun e => hx (by simpa [u8s] using e))
    exact run_convert_bytes_arg w 167 5 Try.underlying167 Try.underlying5 b o _ c xs rfl (fun i hi => by
      have := hc i (.int .u8 (xs.getD i 0)) (by rw [u8s_get, List.getElem?_eq_getElem hi, getD_lt 0 hi]; rfl)
      exact this) _ Try.underlying9

/-! ### Small callees -/
theorem letter_any (x : Int) (w : World) (h0 : 0 ≤ x) (h1 : x ≤ 200) : Calls Try.prog 187 #[.int .i64 x] w fun e w' => e = .returned (.int .u8 (48 + x)) ∧ w = w' := by
  go_enter Try.func187, Try.ntmps187
  go_wp2
  go_ret
  exact ⟨rfl, rfl⟩
theorem mnext_any (g : Gm) (b o q x : Nat) (Q X : Int) (w : World) (hA : g.At w b o) (hQ : Q = q) (hX : X = x) (hq : q < 16) (hx : x < 3) :
    Calls Try.prog 188 #[.pointer (some ⟨b, o, none⟩), .int .i64 Q, .int .i64 X] w fun e w' => e = .returned (.int .i64 (g.nx q x)) ∧ w = w' := by
  subst hQ hX
  have a := hA.n q x hq hx
  have ab := hA.nb q x hq hx
  clear hA
  have i1 : (q : Int) < 16 := by omega
  have i2 : (x : Int) < 3 := by omega
  have i3 : (0 : Int) ≤ q := by omega
  have i4 : (0 : Int) ≤ x := by omega
  go_enter Try.func188, Try.ntmps188
  go_wp2
  go_ret
  exact ⟨rfl, rfl⟩
theorem mout_any (g : Gm) (b o q x : Nat) (Q X : Int) (w : World) (hA : g.At w b o) (hQ : Q = q) (hX : X = x) (hq : q < 16) (hx : x < 3) :
    Calls Try.prog 181 #[.pointer (some ⟨b, o, none⟩), .int .i64 Q, .int .i64 X] w fun e w' => e = .returned (.int .i64 (g.ou q x)) ∧ w = w' := by
  subst hQ hX
  have a := hA.o q x hq hx
  have ab := hA.ob q x hq hx
  clear hA
  have i1 : (q : Int) < 16 := by omega
  have i2 : (x : Int) < 3 := by omega
  have i3 : (0 : Int) ≤ q := by omega
  have i4 : (0 : Int) ≤ x := by omega
  go_enter Try.func181, Try.ntmps181
  go_wp2
  go_ret
  exact ⟨rfl, rfl⟩

/-! ### What a state makes of a word -/
def lt (s : ByteArray) (k : Nat) : Nat := s[k]!.toNat - 48
theorem lt_of {s : ByteArray} {k : Nat} (hk : k < s.size) (h : 48 ≤ s[k].toNat) : ((s[k].toNat : Int) - 48) = lt s k := by
  unfold lt; rw [getElem!_pos s k hk]; omega
def Gm.st (g : Gm) (q : Nat) (s : ByteArray) : Nat → Nat
  | 0 => q
  | k + 1 => g.nx (g.st q s k) (lt s k)
/-- The letters that a state puts out, as bytes. -/
def Gm.ob (g : Gm) (q : Nat) (s : ByteArray) (n : Nat) : List Int := (List.range n).map fun k => 48 + (g.ou (g.st q s k) (lt s k) : Int)
def Gm.act (g : Gm) (q : Nat) (s : ByteArray) : ByteArray := strOfNums (g.ob q s s.size)
theorem Gm.ob_length (g : Gm) (q : Nat) (s : ByteArray) (n : Nat) : (g.ob q s n).length = n := by simp [Gm.ob]
theorem Gm.ob_succ (g : Gm) (q : Nat) (s : ByteArray) (n : Nat) : g.ob q s (n + 1) = g.ob q s n ++ [48 + (g.ou (g.st q s n) (lt s n) : Int)] := by simp [Gm.ob, List.range_succ]
theorem Gm.ob_get (g : Gm) (q : Nat) (s : ByteArray) (n k : Nat) (hk : k < n) : (g.ob q s n)[k]? = some (48 + (g.ou (g.st q s k) (lt s k) : Int)) := by simp [Gm.ob, hk]
/-- A word of letters, place by place. -/
structure Lts (l : Nat) (s : ByteArray) : Prop where
  lo : ∀ k, (hk : k < s.size) → 48 ≤ s[k].toNat
  hi : ∀ k, k < s.size → lt s k < l
theorem Lts.of {l : Nat} {s : ByteArray} (h : lettersB l s = true) : Lts l s := by
  have key : ∀ k, (hk : k < s.size) → 48 ≤ s[k].toNat ∧ (s[k].toNat : Int) - 48 < l := by
    intro k hk
    have := List.all_eq_true.1 h k (List.mem_range.2 hk)
    unfold lOk at this
    rw [getElem!_pos s k hk] at this
    exact of_decide_eq_true this
  refine ⟨fun k hk => (key k hk).1, fun k hk => ?_⟩
  have := key k hk
  unfold lt
  rw [getElem!_pos s k hk]
  omega
theorem Gm.st_lt {g : Gm} (h : g.Ok) {q : Nat} (hq : q < g.s) {s : ByteArray} (hs : Lts g.l s) : ∀ k, k ≤ s.size → g.st q s k < g.s
  | 0, _ => hq
  | k + 1, hk => h.nlt _ _ (Gm.st_lt h hq hs k (by omega)) (hs.hi k (by omega))

set_option maxHeartbeats 400000 in
theorem lead_any (g : Gm) (hok : g.Ok) (b o q : Nat) (Q : Int) (s : ByteArray) (w : World) (hA : g.At w b o) (hQ : Q = q) (hq : q < g.s) (hl : Lts g.l s) (hs : s.size ≤ 140737488351232) :
    Calls Try.prog 118 #[.pointer (some ⟨b, o, none⟩), .int .i64 Q, .string s] w fun e w' => e = .returned (.tuple #[.string (g.act q s), .int .i64 (g.st q s s.size)]) ∧ Below w.heap.size w w' := by
  subst hQ
  have HA := hidd hA
  have HO := hidd hok
  have HL := hidd hl
  have Hq := hidd hq
  clear hA hok hl hq
  go_enter Try.func118, Try.ntmps118
  go_wp2_with (at_make; refine mk_own rfl _ _ _ rfl w.heap.size 5 (.int .u8 0) 1 Try.underlying167 info_u8 rfl s.size rfl rfl (by omega) (by omega) (Nat.le_refl _) ?_; intro w1 ho hg hlt)
  have Ho := hidd ho
  have Bel := hidd ((Below.refl w.heap.size w).grown hg (Nat.le_refl _) (fun k hk => by cases hk))
  have HN := hidd (g.ob_length q s s.size)
  clear ho hg
  go_loopw [1, 16] (fun t i wr => ∃ k : Nat, k ≤ s.size ∧ i = .int .i64 k ∧ t = .int .i64 (g.st q s k) ∧ Hid (Own wr w.heap.size 5 (.slice (some ⟨w.heap.size, 0, none⟩) s.size s.size) (part (u8s (g.ob q s s.size)) s.size k (.int .u8 0))) ∧ Hid (Below w.heap.size w wr)) (fun _ i _ => s.size - (intOf i).toNat)
  case atStart => exact ⟨0, Nat.zero_le _, rfl, rfl, by rw [part_zero]; exact Ho.out, Bel.out⟩
  case round =>
    obtain ⟨k, hk, rfl, rfl, Hok, Hb⟩ := hrel
    by_cases hlt : k < s.size
    · have h48 := HL.out.lo k hlt
      have hc256 : s[k].toNat < 256 := s[k].toNat_lt
      have hst := Gm.st_lt HO.out Hq.out HL.out k hk
      have hlk := HL.out.hi k hlt
      have l3 := HO.out.l3
      have s16 := HO.out.s16
      have hol := HO.out.olt _ _ hst hlk
      have e1 := hidd (lt_of hlt h48)
      have d2 := Hok.out.frozen k
      have d1 := Hok.out.cell (part_get (u8s (g.ob q s s.size)) s.size k (.int .u8 0) (by rw [u8s_length]; exact HN.out) hlt)
      have A1 := hidd (HA.out.below Hb.out HA.out.lt)
      have i5 : (48 : Int) ≤ s[k].toNat := by omega
      have i6 : (s[k].toNat : Int) < 256 := by omega
      go_wp2_with fail
      refine (mout_any g b o _ (lt s k) _ _ _ A1.out rfl e1.out (by omega) (by omega)).mono ?_
      rintro e w2 ⟨rfl, rfl⟩
      go_wp2_with fail
      refine (letter_any _ _ (by omega) (by omega)).mono ?_
      rintro e w2 ⟨rfl, rfl⟩
      go_wp2_with fail
      refine (mnext_any g b o _ (lt s k) _ _ _ ((A1.out).same fun i => ?_) rfl e1.out (by omega) (by omega)).mono ?_
      · exact (Below.refl w.heap.size wr).setCell (p := ⟨w.heap.size, k, none⟩) (Nat.le_refl _) (Value.int IntKind.u8 (48 + ↑(g.ou (g.st q s k) (lt s k)))) |>.cell (p := ⟨b, i, none⟩) HA.out.lt
      rintro e w2 ⟨rfl, rfl⟩
      go_wp2_with fail
      go_roundw
      case rel =>
        refine ⟨k + 1, by omega, by go_num, rfl, ?_, Hb.out.setCell (Nat.le_refl _) _⟩
        have := Hok.out.store k (.int .u8 (48 + ↑(g.ou (g.st q s k) (lt s k))))
        rwa [part_set (u8s (g.ob q s s.size)) s.size k (.int .u8 0) _ (by rw [u8s_length]; exact HN.out) hlt (by rw [u8s_get, g.ob_get q s s.size k hlt]; rfl)] at this
      case measure => simp [intOf]; omega
    · have he : k = s.size := by omega
      subst he
      have := Hok.out
      rw [part_all _ _ _ (by rw [u8s_length]; exact HN.out)] at this
      have hcv := run_toString this.rdU
      clear this
      go_wp2
      go_ret2
      exact ⟨rfl, Hb.out⟩
end Go.Proofs.Ytjnnbjlombopnaa
