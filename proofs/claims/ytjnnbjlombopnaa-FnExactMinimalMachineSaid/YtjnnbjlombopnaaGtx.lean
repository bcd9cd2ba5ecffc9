/- Walks: the text of a group word, of the program and of the reference. -/
import Derived.Test.YtjnnbjlombopnaaWords
namespace Go.Proofs.Ytjnnbjlombopnaa
open Go.RowKit

def gch (k : Int) : Int := if 0 < k then 96 + k else 64 - k
def gtx (xs : List Int) : List Int := xs.map gch
theorem gtx_length (xs : List Int) : (gtx xs).length = xs.length := by simp [gtx]
theorem gtx_get (xs : List Int) (k : Nat) (hk : k < xs.length) : (gtx xs)[k]? = some (gch xs[k]) := by simp [gtx, hk]
/-- Numbers of states, or of their inverses. -/
def Nums (xs : List Int) : Prop := ∀ k, (hk : k < xs.length) → xs[k] ≠ 0 ∧ -16 ≤ xs[k] ∧ xs[k] ≤ 16
theorem Nums.of {g : Gm} (h : g.Ok) {xs : List Int} (hw : gwB g.s xs = true) : Nums xs := fun k hk => by
  have := (gwB_mem hw).2 _ (List.getElem_mem hk)
  have := h.s16
  omega
theorem take_succ_get {α : Type} (l : List α) (k : Nat) (hk : k < l.length) : l.take (k + 1) = l.take k ++ [l[k]] := by
  rw [List.take_add_one, List.getElem?_eq_getElem hk]; rfl

set_option maxHeartbeats 400000 in
theorem groupText_any (v : Value) (xs : List Int) (w : World) (hr : RdI w v xs) (hv : Nums xs) (hn : xs.length ≤ 1048576) :
    Calls Try.prog 121 #[v] w fun e w' => e = .returned (.string (strOfNums (gtx xs))) ∧ Below w.heap.size w w' := by
  obtain ⟨A, c, rfl, hr⟩ := hr
  have Hr := hidd hr
  have Hv := hidd hv
  have Hl := hidd (show (u8s (gtx xs)).length = xs.length by rw [u8s_length, gtx_length])
  clear hr hv
  go_enter Try.func121, Try.ntmps121
  go_wp2_with (at_make; refine mk_own rfl _ _ _ rfl w.heap.size 5 (.int .u8 0) 1 Try.underlying167 info_u8 rfl xs.length rfl rfl (by omega) (by omega) (Nat.le_refl _) ?_; intro w1 ho hg hlt)
  have Ho := hidd ho
  have Bel := hidd ((Below.refl w.heap.size w).grown hg (Nat.le_refl _) (fun k hk => by cases hk))
  clear ho hg
  go_loopw [11] (fun i wr => ∃ k : Nat, k ≤ xs.length ∧ i = .int .i64 k ∧ Hid (Own wr w.heap.size 5 (.slice (some ⟨w.heap.size, 0, none⟩) xs.length xs.length) (part (u8s (gtx xs)) xs.length k (.int .u8 0))) ∧ Hid (Below w.heap.size w wr)) (fun i _ => xs.length - (intOf i).toNat)
  case atStart => exact ⟨0, Nat.zero_le _, rfl, by rw [part_zero]; exact Ho.out, Bel.out⟩
  case round =>
    obtain ⟨k, hk, rfl, Hok, Hb⟩ := hrel
    by_cases hlt : k < xs.length
    · obtain ⟨b, o, rfl, hc⟩ := (Hr.out.below Hb.out).get hlt
      have hx := Hv.out k hlt
      have hp := part_set (u8s (gtx xs)) xs.length k (.int .u8 0) (.int .u8 (gch xs[k])) Hl.out hlt (by rw [u8s_get, gtx_get _ _ hlt]; rfl)
      obtain ⟨z, hz⟩ : ∃ z, z = xs[k] := ⟨_, rfl⟩
      rw [← hz] at hc hx hp
      clear hz
      have Hp := hidd hp
      clear hp
      obtain ⟨hx0, hx1, hx2⟩ := hx
      have d1 := Hok.out.cell (part_get (u8s (gtx xs)) xs.length k (.int .u8 0) Hl.out hlt)
      have d2 := Hok.out.frozen k
      by_cases hpos : 0 < z
      · go_wp2
        go_roundw
        case rel =>
          refine ⟨k + 1, by omega, by go_num, ?_, Hb.out.setCell (Nat.le_refl _) _⟩
          have := Hok.out.store k (.int .u8 (gch z))
          rw [Hp.out] at this
          have e : gch z = 97 + (z - 1) := by unfold gch; rw [if_pos hpos]; omega
          rw [e] at this
          exact this
        case measure => simp [intOf]; omega
      · have hneg : z < 0 := by omega
        clear hx0
        go_wp2
        go_roundw
        case rel =>
          refine ⟨k + 1, by omega, by go_num, ?_, Hb.out.setCell (Nat.le_refl _) _⟩
          have := Hok.out.store k (.int .u8 (gch z))
          rw [Hp.out] at this
          have e : gch z = 65 + (-z - 1) := by unfold gch; rw [if_neg hpos]; omega
          rw [e] at this
          exact this
        case measure => simp [intOf]; omega
    · have he : k = xs.length := by omega
      subst he
      have := Hok.out
      rw [part_all _ _ _ Hl.out] at this
      have hcv := run_toString this.rdU
      clear this
      go_wp2
      go_ret
      exact ⟨rfl, Hb.out⟩

set_option maxHeartbeats 400000 in
theorem l02Text_any (v : Value) (xs : List Int) (w : World) (hr : RdI w v xs) (hv : Nums xs) (hn : xs.length ≤ 1048576) :
    Calls Try.prog 120 #[v] w fun e w' => e = .returned (.string (strOfNums (gtx xs))) ∧ Below w.heap.size w w' := by
  obtain ⟨A, c, rfl, hr⟩ := hr
  have Hr := hidd hr
  have Hv := hidd hv
  clear hr hv
  go_enter Try.func120, Try.ntmps120
  go_wp2
  obtain ⟨w1, hw1⟩ : ∃ w1, w1 = w.alloc (.cells #[] 5) := ⟨_, rfl⟩
  rw [← hw1]
  have Bel := hidd (show Below w.heap.size w w1 by rw [hw1]; exact bel_alloc _ _)
  have Ho := hidd (show Own w1 w.heap.size 5 (.slice (some ⟨w.heap.size, 0, none⟩) 0 0) [] by rw [hw1]; exact Own.empty w 5 w.heap.size (Nat.le_refl _))
  clear hw1
  go_loopw [3, 4] (fun u i wr => ∃ k : Nat, k ≤ xs.length ∧ i = .int .i64 k ∧ Hid (Own wr w.heap.size 5 u (u8s (gtx (xs.take k)))) ∧ Hid (Below w.heap.size w wr)) (fun _ i _ => xs.length - (intOf i).toNat)
  case atStart => exact ⟨0, Nat.zero_le _, rfl, Ho.out, Bel.out⟩
  case round =>
    obtain ⟨k, hk, rfl, Hok, Hb⟩ := hrel
    have hbase := Hb.out.size
    by_cases hlt : k < xs.length
    · obtain ⟨b, o, rfl, hc⟩ := (Hr.out.below Hb.out).get hlt
      have hx := Hv.out k hlt
      have hp : u8s (gtx (xs.take (k + 1))) = u8s (gtx (xs.take k)) ++ [.int .u8 (gch xs[k])] := by rw [take_succ_get xs k hlt]; unfold gtx u8s; rw [List.map_append, List.map_append]; rfl
      obtain ⟨z, hz⟩ : ∃ z, z = xs[k] := ⟨_, rfl⟩
      rw [← hz] at hc hx hp
      clear hz
      have Hp := hidd hp
      clear hp
      obtain ⟨hx0, hx1, hx2⟩ := hx
      have hlen : (u8s (gtx (xs.take k))).length + 1 ≤ 1099511627776 := by rw [u8s_length, gtx_length, List.length_take]; omega
      by_cases hpos : 0 < z
      · go_wp2_with (at_builtin; refine app_own rfl _ _ _ rfl w.heap.size 5 (.int .u8 0) 1 Try.underlying167 info_u8 rfl Hok.out rfl rfl rfl hlen (by decide) hbase ?_; intro v' w2 ho hgr hle; have Ho2 := hidd ho; have b2 := hidd (bel_own Hok.out hgr hbase); clear ho hgr)
        go_roundw
        case rel =>
          refine ⟨k + 1, by omega, by go_num, ?_, Hb.out.trans b2.out⟩
          have := Ho2.out
          have e : gch z = 97 + z - 1 := by unfold gch; rw [if_pos hpos]; omega
          rw [Hp.out, e]
          exact this
        case measure => simp [intOf]; omega
      · have hneg : z < 0 := by omega
        clear hx0
        go_wp2_with (at_builtin; refine app_own rfl _ _ _ rfl w.heap.size 5 (.int .u8 0) 1 Try.underlying167 info_u8 rfl Hok.out rfl rfl rfl hlen (by decide) hbase ?_; intro v' w2 ho hgr hle; have Ho2 := hidd ho; have b2 := hidd (bel_own Hok.out hgr hbase); clear ho hgr)
        go_roundw
        case rel =>
          refine ⟨k + 1, by omega, by go_num, ?_, Hb.out.trans b2.out⟩
          have := Ho2.out
          have e : gch z = 65 - z - 1 := by unfold gch; rw [if_neg hpos]; omega
          rw [Hp.out, e]
          exact this
        case measure => simp [intOf]; omega
    · have he : k = xs.length := by omega
      subst he
      have := Hok.out
      rw [List.take_of_length_le (Nat.le_refl _)] at this
      have hcv := run_toString this.rdU
      clear this
      go_wp2
      go_ret
      exact ⟨rfl, Hb.out⟩

/-! ### GroupText -/
def gtR (m : Mc) (xs : List Int) : ByteArray × Int := if codeW m [xs] = 0 then (strOfNums (gtx xs), 0) else (⟨#[]⟩, 1)
theorem gw_code (m : Mc) (xs : List Int) : m.gwB xs = decide (codeW m [xs] = 0) := by
  unfold Mc.gwB codeW
  rw [all_one1]
  cases m.ok && gwB m.S.toNat xs <;> rfl
set_option maxHeartbeats 400000 in
theorem specGroupText_any (m : Mc) (cs : Array Value) (hm : m.Is cs) (v : Value) (xs : List Int) (w : World) (hr : RdI w v xs) :
    Calls Try.prog 46 #[.agg cs, v] w fun e w' => e = .returned (.tuple #[.string (gtR m xs).1, .int .i64 (gtR m xs).2]) ∧ Below w.heap.size w w' := by
  have Hm := hidd hm
  have Hr := hidd hr
  obtain ⟨A0, c0, rfl, hq0⟩ := hr
  clear hm hq0
  by_cases hc : codeW m [xs] = 0
  · have HR : Hid (gtR m xs = _) := hidd (if_pos hc)
    obtain ⟨g, rfl, hok, hw⟩ := codeW_zero hc
    have Hc := hidd hc
    have HN := hidd (Nums.of hok (hw xs (List.mem_singleton.2 rfl)))
    have h40 := (gwB_mem (hw xs (List.mem_singleton.2 rfl))).1
    clear hc hok hw
    go_enter Try.func46, Try.ntmps46
    go_wp2_with (refine ldI rfl (.tmp 2) rfl w.heap.size rfl Hm.out (hp_new rfl) ?_)
    refine (l02Code_any _ _ Hm.out _ [xs] _ ?_).mono ?_
    · exact RdLL.lit1 (Hr.out.alloc _) _ _ (by simp)
    rintro e w1 ⟨rfl, hb⟩
    rw [Hc.out]
    have B1 := hidd (bel_then ((bel_alloc w (.cells cs 27)).alloc (by simp) _) hb)
    clear hb
    go_wp2_with fail
    refine (l02Text_any _ xs _ (Hr.out.below B1.out) HN.out (by omega)).mono ?_
    rintro e w2 ⟨rfl, hb⟩
    go_wp2
    go_ret2
    exact ⟨by rw [HR.out]; rfl, bel_then B1.out hb⟩
  · have HR : Hid (gtR m xs = _) := hidd (if_neg hc)
    have Hc := hidd (codeW_one hc)
    clear hc
    go_enter Try.func46, Try.ntmps46
    go_wp2_with (refine ldI rfl (.tmp 2) rfl w.heap.size rfl Hm.out (hp_new rfl) ?_)
    refine (l02Code_any _ _ Hm.out _ [xs] _ ?_).mono ?_
    · exact RdLL.lit1 (Hr.out.alloc _) _ _ (by simp)
    rintro e w1 ⟨rfl, hb⟩
    rw [Hc.out]
    go_wp2
    go_ret2
    exact ⟨by rw [HR.out]; rfl, bel_then ((bel_alloc w (.cells cs 27)).alloc (by simp) _) hb⟩
set_option maxHeartbeats 400000 in
theorem implGroupText_any (m : Mc) (cs : Array Value) (hm : m.Is cs) (v : Value) (xs : List Int) (w : World) (hr : RdI w v xs) :
    Calls Try.prog 47 #[.agg cs, v] w fun e w' => e = .returned (.tuple #[.string (gtR m xs).1, .int .i64 (gtR m xs).2]) ∧ Below w.heap.size w w' := by
  have Hm := hidd hm
  have Hr := hidd hr
  clear hm hr
  by_cases hc : codeW m [xs] = 0
  · have HR : Hid (gtR m xs = _) := hidd (if_pos hc)
    have Hc := hidd (show m.gwB xs = true by rw [gw_code]; exact decide_eq_true hc)
    obtain ⟨g, rfl, hok, hw⟩ := codeW_zero hc
    have HN := hidd (Nums.of hok (hw xs (List.mem_singleton.2 rfl)))
    have h40 := (gwB_mem (hw xs (List.mem_singleton.2 rfl))).1
    clear hc hok hw
    go_enter Try.func47, Try.ntmps47
    go_wp2_with (refine ldI rfl (.tmp 2) rfl w.heap.size rfl Hm.out (hp_new rfl) ?_)
    refine (implIsGroupWord_any _ _ Hm.out _ xs _ (Hr.out.alloc _)).mono ?_
    rintro e w1 ⟨rfl, hb⟩
    rw [Hc.out]
    have B1 := hidd (bel_then (bel_alloc _ _) hb)
    clear hb
    go_wp2_with fail
    refine (groupText_any v xs _ (Hr.out.below B1.out) HN.out (by omega)).mono ?_
    rintro e w2 ⟨rfl, hb⟩
    go_wp2
    go_ret2
    exact ⟨by rw [HR.out]; rfl, bel_then B1.out hb⟩
  · have HR : Hid (gtR m xs = _) := hidd (if_neg hc)
    have Hc := hidd (show m.gwB xs = false by rw [gw_code]; exact decide_eq_false hc)
    clear hc
    go_enter Try.func47, Try.ntmps47
    go_wp2_with (refine ldI rfl (.tmp 2) rfl w.heap.size rfl Hm.out (hp_new rfl) ?_)
    refine (implIsGroupWord_any _ _ Hm.out _ xs _ (Hr.out.alloc _)).mono ?_
    rintro e w1 ⟨rfl, hb⟩
    rw [Hc.out]
    go_wp2
    go_ret2
    exact ⟨by rw [HR.out]; rfl, bel_then (bel_alloc _ _) hb⟩
end Go.Proofs.Ytjnnbjlombopnaa
