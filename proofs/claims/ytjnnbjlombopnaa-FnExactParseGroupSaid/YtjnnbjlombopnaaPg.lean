/- Walks: ParseGroup, of the program and of the reference. -/
import Derived.Test.YtjnnbjlombopnaaWords
import Derived.Lib.Bytealg
import Derived.Lib.Strings
import Derived.Lib.Walk
namespace Go.Proofs.Ytjnnbjlombopnaa
open Go.RowKit

set_option maxHeartbeats 400000 in
set_option maxRecDepth 100000 in
theorem sliteIndexByte_any (s : ByteArray) (c : Int) (w : World) :
    Calls Try.prog 189 #[.string s, .int .u8 c] w fun e w' => e = .returned (.int .i64 (Lib.indexByte s.data.toList c.toNat.toUInt8)) ∧ w = w' := by
  go_enter Try.func189, Try.ntmps189
  go_wp2
  rw [run_callFunc_extern Try.func229 (by kernel_rfl) (by kernel_rfl) (by kernel_rfl) (e := Extern.BytealgIndexByte.indexByte) (by kernel_rfl), Lib.run_indexByteString]
  simp only [Result.andThen]
  rw [Oper.upon_value]
  go_wp2
  go_ret
  exact ⟨rfl, rfl⟩
theorem stringsIndexByte_any (s : ByteArray) (c : Int) (r : Int) (w : World) (hr : Lib.indexByte s.data.toList c.toNat.toUInt8 = r) :
    Calls Try.prog 123 #[.string s, .int .u8 c] w fun e w' => e = .returned (.int .i64 r) ∧ w = w' := by
  have Hr := hidd hr
  clear hr
  go_enter Try.func123, Try.ntmps123
  go_wp2_with fail
  refine (sliteIndexByte_any _ _ _).mono ?_
  rintro e w1 ⟨rfl, rfl⟩
  rw [Hr.out]
  go_wp2
  go_ret
  exact ⟨rfl, rfl⟩
theorem idx_fwd : ∀ n, n < 256 → Lib.indexByte [97, 98, 99, 100, 101, 102, 103, 104, 105, 106, 107, 108, 109, 110, 111, 112] (n : Nat).toUInt8 = if 97 ≤ n ∧ n ≤ 112 then (n : Int) - 97 else -1 := by decide +kernel
theorem idx_bwd : ∀ n, n < 256 → Lib.indexByte [65, 66, 67, 68, 69, 70, 71, 72, 73, 74, 75, 76, 77, 78, 79, 80] (n : Nat).toUInt8 = if 65 ≤ n ∧ n ≤ 80 then (n : Int) - 65 else -1 := by decide +kernel

/-- The number of a letter; 0 where there is none. -/
def pch (n : Nat) : Int := if 97 ≤ n ∧ n ≤ 112 then (n : Int) - 96 else if 65 ≤ n ∧ n ≤ 80 then 64 - (n : Int) else 0
def pgt (s : ByteArray) (n : Nat) : List Int := (List.range n).map fun k => pch s[k]!.toNat
theorem pgt_length (s : ByteArray) (n : Nat) : (pgt s n).length = n := by simp [pgt]
theorem pgt_succ (s : ByteArray) (n : Nat) (h : n < s.size) : pgt s (n + 1) = pgt s n ++ [pch s[n].toNat] := by
  unfold pgt
  rw [List.range_succ, List.map_append]
  show _ ++ [pch s[n]!.toNat] = _
  rw [getElem!_pos s n h]
def pgx (s : ByteArray) : List Int := pgt s s.size
theorem pgx_bad {s : ByteArray} {k : Nat} (hk : k < s.size) (h : pch s[k].toNat = 0) (q : Nat) : gwB q (pgx s) = false := by
  unfold gwB
  have : (pgx s).all (numOk q) = false := by
    rw [List.all_eq_false]
    refine ⟨0, ?_, by simp [num_no0]⟩
    unfold pgx pgt
    rw [List.mem_map]
    exact ⟨k, List.mem_range.2 hk, by rw [getElem!_pos s k hk]; exact h⟩
  rw [this, Bool.and_false]
def pgR (m : Mc) (s : ByteArray) : List Int × Int := if m.ok then (if gwB m.S.toNat (pgx s) then (pgx s, 0) else ([], 6)) else ([], 1)
theorem pgR_bad {m : Mc} {s : ByteArray} (h : m.ok = false) : pgR m s = ([], 1) := by unfold pgR; rw [h]; rfl
theorem pgR_no {g : Gm} {s : ByteArray} (h0 : g.mc.ok = true) (h : gwB g.s (pgx s) = false) : pgR g.mc s = ([], 6) := by
  unfold pgR; rw [h0, show g.mc.S.toNat = g.s from rfl, h]; rfl
theorem pgR_yes {g : Gm} {s : ByteArray} (h0 : g.mc.ok = true) (h : gwB g.s (pgx s) = true) : pgR g.mc s = (pgx s, 0) := by
  unfold pgR; rw [h0, show g.mc.S.toNat = g.s from rfl, h]; rfl
theorem gwB_long {q : Nat} {xs : List Int} (h : ¬ xs.length ≤ 40) : gwB q xs = false := by unfold gwB; rw [decide_eq_false h]; rfl
theorem ints_snoc (xs : List Int) (x : Int) : ints (xs ++ [x]) = ints xs ++ [.int .i64 x] := by simp [ints]

set_option maxRecDepth 100000 in
set_option maxHeartbeats 1000000 in
theorem implParseGroup_any (m : Mc) (cs : Array Value) (hm : m.Is cs) (s : ByteArray) (w : World) (hs : s.size ≤ 1048576) :
    Calls Try.prog 49 #[.agg cs, .string s] w fun e w' => (∃ v, e = .returned (.tuple #[v, .int .i64 (pgR m s).2]) ∧ Own w' w.heap.size 2 v (ints (pgR m s).1)) ∧ Below w.heap.size w w' := by
  have Hm := hidd hm
  clear hm
  cases hq : m.ok with
  | false =>
    have HR := hidd (pgR_bad (s := s) hq)
    have Hq := hidd hq
    clear hq
    go_enter Try.func49, Try.ntmps49
    go_wp2_with (refine ldI rfl (.tmp 2) rfl w.heap.size rfl Hm.out (hp_new rfl) ?_)
    refine (implIsMachine_any _ _ Hm.out _).mono ?_
    rintro e w1 ⟨rfl, hb⟩
    rw [Hq.out]
    go_wp2
    go_ret2
    exact ⟨⟨_, by rw [HR.out]; rfl, by rw [HR.out]; exact Own.nil _ _ _⟩, bel_then (bel_alloc _ _) hb⟩
  | true =>
    obtain ⟨g, rfl, hok⟩ := Mc.to_gm hq
    by_cases h40 : s.size ≤ 40
    · have Hq := hidd hq
      have HO := hidd hok
      clear hq hok
      go_enter Try.func49, Try.ntmps49
      go_wp2_with (refine ldI rfl (.tmp 2) rfl w.heap.size rfl Hm.out (hp_new rfl) ?_)
      refine (implIsMachine_any _ _ Hm.out _).mono ?_
      rintro e w1 ⟨rfl, hb⟩
      rw [Hq.out]
      have B1 := hidd (bel_then (bel_alloc _ _) hb)
      have Z1 := hidd (show w.heap.size + 1 ≤ w1.heap.size by have := hb.size; simpa using this)
      have K1 := hidd (hp_bel (hp_new rfl) hb : w1.heap[w.heap.size]? = some (.cells cs 27 (0, 0)))
      clear hb
      go_wp2
      go_loopw [6, 17] (fun u i wr => ∃ k : Nat, k ≤ s.size ∧ i = .int .i64 k ∧ Hid (Own wr w1.heap.size 2 u (ints (pgt s k))) ∧ Hid (Below w1.heap.size w1 wr)) (fun _ i _ => s.size - (intOf i).toNat)
      case atStart => exact ⟨0, Nat.zero_le _, rfl, Own.nil _ _ _, Below.refl _ _⟩
      case round =>
        obtain ⟨k, hk, rfl, Hok, Hb⟩ := hrel
        have hbase := Hb.out.size
        by_cases hlt : k < s.size
        · have hc256 : s[k].toNat < 256 := s[k].toNat_lt
          have hp := pgt_succ s k hlt
          have hlen : (ints (pgt s k)).length + 1 ≤ 1099511627776 := by rw [ints_length, pgt_length]; omega
          have Hf := hidd (idx_fwd s[k].toNat hc256)
          have Hg := hidd (idx_bwd s[k].toNat hc256)
          obtain ⟨n, hn⟩ : ∃ n, n = s[k].toNat := ⟨_, rfl⟩
          rw [← hn] at hp hc256 Hf Hg
          have Hn := hidd hn
          have Hp := hidd hp
          clear hn hp
          by_cases ha : 97 ≤ n ∧ n ≤ 112
          · have e1 : pch n = (n : Int) - 97 + 1 := by unfold pch; rw [if_pos ha]; omega
            have E1 := hidd e1
            have hf := Hf.out
            rw [if_pos ha] at hf
            have Hf' := hidd hf
            obtain ⟨ha1, ha2⟩ := ha
            clear e1 hf
            have i1 : (97 : Int) ≤ n := by omega
            have i2 : (n : Int) ≤ 112 := by omega
            go_wp2_with fail
            rw [← Hn.out]
            refine (stringsIndexByte_any _ _ ((n : Int) - 97) _ (by rw [Int.toNat_natCast]; exact Hf'.out)).mono ?_
            rintro e w2 ⟨rfl, rfl⟩
            have b0 : ((n : Int) - 97 + 1 == 0) = false := by rw [beq_eq_false_iff_ne]; omega
            go_wp2_with (at_builtin; refine app_own rfl _ _ _ rfl w1.heap.size 2 (.int .i64 0) 8 Try.underlying30 info_i64 rfl Hok.out rfl rfl rfl hlen (by decide) hbase ?_; intro v' w2 ho hgr hle; have Ho2 := hidd ho; have b2 := hidd (bel_own Hok.out hgr hbase); clear ho hgr)
            go_roundw
            case rel => exact ⟨k + 1, by omega, by go_num, by rw [Hp.out, ints_snoc, E1.out]; exact Ho2.out, Hb.out.trans b2.out⟩
            case measure => simp [intOf]; omega
          · have hf := Hf.out
            rw [if_neg ha] at hf
            have Hf' := hidd hf
            clear hf
            by_cases hA : 65 ≤ n ∧ n ≤ 80
            · have e1 : pch n = -((n : Int) - 65 + 1) := by unfold pch; rw [if_neg ha, if_pos hA]; omega
              have E1 := hidd e1
              have hg := Hg.out
              rw [if_pos hA] at hg
              have Hg' := hidd hg
              obtain ⟨hA1, hA2⟩ := hA
              clear e1 hg ha
              have i1 : (65 : Int) ≤ n := by omega
              have i2 : (n : Int) ≤ 80 := by omega
              go_wp2_with fail
              rw [← Hn.out]
              refine (stringsIndexByte_any _ _ (-1) _ (by rw [Int.toNat_natCast]; exact Hf'.out)).mono ?_
              rintro e w2 ⟨rfl, rfl⟩
              go_wp2_with fail
              rw [← Hn.out]
              refine (stringsIndexByte_any _ _ ((n : Int) - 65) _ (by rw [Int.toNat_natCast]; exact Hg'.out)).mono ?_
              rintro e w2 ⟨rfl, rfl⟩
              go_wp2_with (at_builtin; refine app_own rfl _ _ _ rfl w1.heap.size 2 (.int .i64 0) 8 Try.underlying30 info_i64 rfl Hok.out rfl rfl rfl hlen (by decide) hbase ?_; intro v' w2 ho hgr hle; have Ho2 := hidd ho; have b2 := hidd (bel_own Hok.out hgr hbase); clear ho hgr)
              go_roundw
              case rel => exact ⟨k + 1, by omega, by go_num, by rw [Hp.out, ints_snoc, E1.out]; exact Ho2.out, Hb.out.trans b2.out⟩
              case measure => simp [intOf]; omega
            · have e1 : pch n = 0 := by unfold pch; rw [if_neg ha, if_neg hA]
              have E1 := hidd e1
              have hg := Hg.out
              rw [if_neg hA] at hg
              have Hg' := hidd hg
              clear e1 hg ha hA
              go_wp2_with fail
              rw [← Hn.out]
              refine (stringsIndexByte_any _ _ (-1) _ (by rw [Int.toNat_natCast]; exact Hf'.out)).mono ?_
              rintro e w2 ⟨rfl, rfl⟩
              go_wp2_with fail
              rw [← Hn.out]
              refine (stringsIndexByte_any _ _ (-1) _ (by rw [Int.toNat_natCast]; exact Hg'.out)).mono ?_
              rintro e w2 ⟨rfl, rfl⟩
              go_wp2_with (at_builtin; refine app_own rfl _ _ _ rfl w1.heap.size 2 (.int .i64 0) 8 Try.underlying30 info_i64 rfl Hok.out rfl rfl rfl hlen (by decide) hbase ?_; intro v' w2 ho hgr hle; have Ho2 := hidd ho; have b2 := hidd (bel_own Hok.out hgr hbase); clear ho hgr)
              go_roundw
              case rel => exact ⟨k + 1, by omega, by go_num, by rw [Hp.out, ints_snoc, E1.out]; exact Ho2.out, Hb.out.trans b2.out⟩
              case measure => simp [intOf]; omega
        · have he : k = s.size := by omega
          subst he
          cases hw : gwB g.s (pgx s) with
          | true =>
            have HR := hidd (pgR_yes Hq.out hw)
            have Hc := hidd (show g.mc.gwB (pgt s s.size) = true by unfold Mc.gwB; rw [Hq.out]; exact hw)
            clear hw
            go_wp2_with (refine ldI rfl (.tmp 2) rfl w.heap.size rfl Hm.out (hp_bel K1.out Hb.out) ?_)
            refine (implIsGroupWord_any _ _ Hm.out _ (pgt s s.size) _ Hok.out.rdI).mono ?_
            rintro e w2 ⟨rfl, hb⟩
            rw [Hc.out]
            go_wp2
            go_ret2
            exact ⟨⟨_, by rw [HR.out]; rfl, by rw [HR.out]; exact (Hok.out.below hb).mono (by have := Z1.out; omega)⟩, bel_then B1.out (bel_then Hb.out hb)⟩
          | false =>
            have HR := hidd (pgR_no Hq.out hw)
            have Hc := hidd (show g.mc.gwB (pgt s s.size) = false by unfold Mc.gwB; rw [Hq.out]; exact hw)
            clear hw
            go_wp2_with (refine ldI rfl (.tmp 2) rfl w.heap.size rfl Hm.out (hp_bel K1.out Hb.out) ?_)
            refine (implIsGroupWord_any _ _ Hm.out _ (pgt s s.size) _ Hok.out.rdI).mono ?_
            rintro e w2 ⟨rfl, hb⟩
            rw [Hc.out]
            go_wp2
            go_ret2
            exact ⟨⟨_, by rw [HR.out]; rfl, by rw [HR.out]; exact Own.nil _ _ _⟩, bel_then B1.out (bel_then Hb.out hb)⟩
    · have HR := hidd (pgR_no hq (gwB_long (q := g.s) (xs := pgx s) (by unfold pgx; rw [pgt_length]; exact h40)))
      have Hq := hidd hq
      clear hq hok
      go_enter Try.func49, Try.ntmps49
      go_wp2_with (refine ldI rfl (.tmp 2) rfl w.heap.size rfl Hm.out (hp_new rfl) ?_)
      refine (implIsMachine_any _ _ Hm.out _).mono ?_
      rintro e w1 ⟨rfl, hb⟩
      rw [Hq.out]
      go_wp2
      go_ret2
      exact ⟨⟨_, by rw [HR.out]; rfl, by rw [HR.out]; exact Own.nil _ _ _⟩, bel_then (bel_alloc _ _) hb⟩
end Go.Proofs.Ytjnnbjlombopnaa
