/- Walks: a text cut into its pieces, of the reference. -/
import Derived.Test.YtighjpnjbgjgaaaDoorPms
import Derived.Test.YtighjpnjbgjgaaaDoorBE
import Derived.Test.YtighjpnjbgjgaaaDoorBB
namespace Go.Proofs.YtighjpnjbgjgaaaDoor
open Go.RowKit
set_option linter.unusedSimpArgs false

theorem str_at {s : ByteArray} {k : Nat} (h : k < s.size) : s.data.toList[k]'(by rw [Array.length_toList]; exact h) = s[k] := by
  rw [Array.getElem_toList]; rfl
theorem cell_belw {w w' : World} {p : Addr} {v : Value} (h : w.cell? p = some v) (hb : Below w.heap.size w w') : w'.cell? p = some v := (hb.cell (World.block_lt_of_cell? w _ h)).trans h
theorem str_len (s : ByteArray) : s.data.toList.length = s.size := by rw [Array.length_toList]; rfl

set_option maxRecDepth 100000 in
set_option maxHeartbeats 1000000 in
theorem l01Split_any (s : ByteArray) (hs : s.size ≤ 1048576) (w : World) :
    Calls Tryd.prog 13 #[.string s, .int .u8 44] w fun e w' => (∃ (v : Value) (bs : List ByteArray), e = .returned v ∧ Own w' w.heap.size 9 v (bs.map Value.string) ∧ bs.map (·.data.toList) = spl 44 s.data.toList) ∧ Below w.heap.size w w' := by
  go_enter Tryd.func13, Tryd.ntmps13
  go_wp2
  obtain ⟨w1, hw1⟩ : ∃ w1, w1 = w.alloc (.cells #[] 9) := ⟨_, rfl⟩
  rw [← hw1]
  have Bel := hidd (show Below w.heap.size w w1 by rw [hw1]; exact bel_alloc _ _)
  have Ho := hidd (show Own w1 w.heap.size 9 (.slice (some ⟨w.heap.size, 0, none⟩) 0 0) (([] : List ByteArray).map Value.string) by rw [hw1]; exact Own.empty w 9 w.heap.size (Nat.le_refl _))
  clear hw1
  go_loopw [5, 6, 7] (fun o p y wr => ∃ (k a : Nat) (bs : List ByteArray), y = .int .i64 k ∧ p = .int .i64 a ∧ a ≤ k ∧ k ≤ s.size ∧ Hid (SpI 44 s.data.toList k a (bs.map (·.data.toList))) ∧ bs.length ≤ a ∧ Hid (Own wr w.heap.size 9 o (bs.map Value.string)) ∧ Hid (Below w.heap.size w wr)) (fun _ _ y _ => s.size - (intOf y).toNat)
  case atStart => exact ⟨0, 0, [], rfl, rfl, Nat.le_refl _, Nat.zero_le _, hidd (SpI.start _ _), Nat.le_refl _, Ho, Bel⟩
  case round =>
    clear Ho Bel
    obtain ⟨k, a, bs, rfl, rfl, hak, hk, HI, hba, HO, Hb⟩ := hrel
    have hbase := Hb.out.size
    by_cases hlt : k < s.size
    · have i1 : (k : Int) < s.size := by omega
      have i0 : (0 : Int) ≤ k := by omega
      have hkl : k < s.data.toList.length := by rw [str_len]; exact hlt
      by_cases hc : s[k].toNat = 44
      · have HS := hidd (HI.out.hit hkl (by rw [str_at hlt]; exact UInt8.toNat.inj hc))
        have hE : ((bs ++ [s.extract a k]).map (·.data.toList)) = bs.map (·.data.toList) ++ [(s.data.toList.drop a).take (k - a)] := by simp [Lib.extract_data]
        rw [← hE] at HS
        have hE2 : ((bs ++ [s.extract a k]).map Value.string) = bs.map Value.string ++ [.string (s.extract a k)] := by simp
        have hlen : (bs.map Value.string).length + 1 ≤ 1099511627776 := by simp; omega
        have HE2 := hidd hE2
        have hc' : (s[k].toNat : Int) = 44 := by omega
        clear hE hE2 HI
        go_wp2_with (at_builtin; refine app_own rfl _ _ _ rfl w.heap.size 9 (.string ⟨#[]⟩) 16 Tryd.underlying34 info_str rfl HO.out rfl rfl rfl hlen (by decide) hbase ?_; intro v' w2 ho hgr hle; have Ho2 := hidd ho; have b2 := hidd (bel_own HO.out hgr hbase); clear ho hgr)
        go_roundw
        case rel => exact ⟨k + 1, k + 1, bs ++ [s.extract a k], by go_num, by go_num, by omega, by omega, HS, by simp; omega, hidd (by rw [HE2.out]; exact Ho2.out), hidd (Hb.out.trans b2.out)⟩
        case measure => first | (simp [intOf]; done) | (simp [intOf]; omega)
      · have HS := hidd (HI.out.miss hkl (by rw [str_at hlt]; exact fun e => hc (by rw [e]; rfl)))
        have hc' : ¬ (s[k].toNat : Int) = 44 := by omega
        clear HI
        go_wp2_with fail
        go_roundw
        case rel => exact ⟨k + 1, a, bs, by go_num, rfl, by omega, by omega, HS, hba, HO, Hb⟩
        case measure => first | (simp [intOf]; done) | (simp [intOf]; omega)
    · have he : k = s.size := by omega
      have HS := hidd (show spl 44 s.data.toList = bs.map (·.data.toList) ++ [s.data.toList.drop a] from SpI.done (by rw [str_len, ← he]; exact HI.out))
      have hE : ((bs ++ [s.extract a s.size]).map (·.data.toList)) = bs.map (·.data.toList) ++ [s.data.toList.drop a] := by simp only [List.map_append, List.map_cons, List.map_nil, Lib.extract_to_end]
      rw [← hE] at HS
      have HE2 := hidd (show ((bs ++ [s.extract a s.size]).map Value.string) = bs.map Value.string ++ [.string (s.extract a s.size)] by simp)
      have hlen : (bs.map Value.string).length + 1 ≤ 1099511627776 := by simp; omega
      subst he
      clear hlt hE HI
      go_wp2_with (at_builtin; refine app_own rfl _ _ _ rfl w.heap.size 9 (.string ⟨#[]⟩) 16 Tryd.underlying34 info_str rfl HO.out rfl rfl rfl hlen (by decide) hbase ?_; intro v' w2 ho hgr hle; have Ho2 := hidd ho; have b2 := hidd (bel_own HO.out hgr hbase); clear ho hgr)
      go_ret
      exact ⟨⟨_, bs ++ [s.extract a s.size], rfl, by rw [HE2.out]; exact Ho2.out, HS.out.symm⟩, Hb.out.trans b2.out⟩
end Go.Proofs.YtighjpnjbgjgaaaDoor
