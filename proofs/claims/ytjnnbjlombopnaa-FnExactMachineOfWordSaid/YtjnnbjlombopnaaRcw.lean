/- Walks: what is reached in a graph from a point, of the program and of the reference. -/
import Derived.Test.YtjnnbjlombopnaaBH
import Derived.Test.YtjnnbjlombopnaaBI
namespace Go.Proofs.Ytjnnbjlombopnaa
open Go.RowKit
set_option linter.unusedSimpArgs false

def bvs (bs : List Bool) : List Value := bs.map Value.bool
theorem bvs_len (bs : List Bool) : (bvs bs).length = bs.length := by simp [bvs]
theorem bvs_set (bs : List Bool) (p : Nat) (b : Bool) : (bvs bs).set p (.bool b) = bvs (bs.set p b) := by simp [bvs, List.map_set]
theorem bvs_get {bs : List Bool} {p : Nat} (h : p < bs.length) : (bvs bs)[p]? = some (.bool (bs.getD p false)) := by simp [bvs, List.getD_eq_getElem?_getD, h]
theorem infoB : (Try.prog.info? 4).map (fun i => (i.zero, i.size, i.bytes)) = some (some (.bool false), 1, 1) := by kernel_rfl
theorem int_ne_bool : 2 ≠ 4 := by decide
theorem own_far_bool {w : World} {base base' g n c : Nat} {u : Value} {vs ws : List Value} (h : Own w base 2 u vs) (h' : Own w base' 4 (.slice (some ⟨g, 0, none⟩) n c) ws) (j : Nat) (x : Value) : Own (w.setCell ⟨g, j, none⟩ x) base 2 u vs := by
  refine h.far ?_ x
  rcases h.apart h' int_ne_bool with e | e
  · rw [e]; exact fun h => by cases h
  · exact e

section
variable {P : Program} {w : World} {ops : Array Oper} {rest : List Oper} {o : Oper} {a : Act} {Q : Exit → Act → World → Prop}
/-- The same as app_at, where the box's place is spelt otherwise. -/
theorem app_atP (hgd : o.guard = none) (s x : Operand) (t : TypeId) (hop : o.op = .call { callee := .builtin .append, args := #[s, x], argTypes := #[t, t] }) (base : Nat) (e : TypeId) (z : Value) (bytes : Nat) (h1 : P.underlying t = some (.slice e))
    (hinfo : (P.info? e).map (fun i => (i.zero, i.size, i.bytes)) = some (some z, 1, bytes)) (hz : z.cells.size = 1) {v u : Value} {vs : List Value} {te : TypeId} {p : Nat} (hown : Own w base e v vs) (hs : a.eval s = v) (hx : a.eval x = .slice (some ⟨p, 0, none⟩) 1 1) (hp : p = w.heap.size) (h1c : u.oneCell' = true)
    (hlen : vs.length + 1 ≤ 1099511627776) (hby : bytes ≤ 64) (hbase : base ≤ w.heap.size)
    (hK : ∀ v' w', Own w' base e v' (vs ++ [u]) → w.grownBy w' v.ownBlock → w.heap.size < w'.heap.size → Lies w.heap.size v v' → wpList P ops Q rest (a.put o.dst v') w') : wpList P ops Q (o :: rest) a (w.alloc (.cells #[u] te)) := by
  subst hp
  exact app_at hgd s x t hop base e z bytes h1 hinfo hz hown hs hx h1c hlen hby hbase hK
end

set_option maxRecDepth 100000 in
set_option maxHeartbeats 2000000 in
theorem l04Reached_any (R : List (List Int)) (l n q : Nat) (hG : Grf R l n) (hn : n ≤ 1000) (hl : l ≤ 3) (hq : q < n) (v : Value) (w : World) (hr : RdLL w v R) :
    Calls Try.prog 220 #[v, .int .i64 (q : Nat)] w fun e w' => (∃ g, e = .returned (.slice (some ⟨g, 0, none⟩) n n) ∧ Own w' w.heap.size 4 (.slice (some ⟨g, 0, none⟩) n n) (bvs (rch R l n q))) ∧ Below w.heap.size w w' := by
  obtain ⟨A, c, rows, rfl, h1, h2, h3⟩ := hr
  have H1 := hidd h1
  have H3 := hidd h3
  have HG := hidd hG
  have hRn := hG.1
  have hrn : rows.length = n := by rw [h2]; exact hG.1
  have HI0 := hidd (RcI.start (R := R) (l := l) hq)
  rw [hRn]
  have HRn := hidd hRn
  have Hrn := hidd hrn
  clear h1 h2 h3 hG hRn hrn
  go_enter Try.func220, Try.ntmps220
  go_wp2_with (at_make; refine mk_own rfl _ _ _ rfl w.heap.size 4 (.bool false) 1 Try.underlying100 infoB rfl n rfl rfl (by omega) (by omega) (Nat.le_refl _) ?_; intro w1 ho hg hlt1; have Ho := hidd (show Own w1 w.heap.size 4 (.slice (some ⟨w.heap.size, 0, none⟩) n n) (bvs (List.replicate n false)) by simpa [bvs] using ho); have Bel := hidd ((Below.refl w.heap.size w).grown hg (Nat.le_refl _) (fun k hk => by cases hk)); clear ho hg)
  have Q0 := hidd (show Own (w1.alloc (.cells #[.int .i64 (q : Nat)] 2)) w.heap.size 2 (.slice (some ⟨w1.heap.size, 0, none⟩) 1 1) (ints [(q : Int)]) from Own.of_full (vs := [.int .i64 (q : Nat)]) (hp_new rfl) rfl Bel.out.size (by omega))
  have W0 := hidd (Ho.out.alloc (.cells #[.int .i64 (q : Nat)] 2))
  have B0 := hidd (bel_then Bel.out (bel_alloc' w1 (.cells #[.int .i64 (q : Nat)] 2)))
  have HT : Hid (rcL R l (n + 2 - 0) 0 (List.replicate n false, [(q : Int)]) = rch R l n q) := hidd rfl
  clear Ho Bel
  go_loopw [6, 7] (fun u y wr => ∃ (i : Nat) (bs : List Bool) (Q : List Int), y = .int .i64 i ∧ i ≤ Q.length ∧ Hid (RcI R l n q (bs, Q)) ∧ Hid (rcL R l (n + 2 - i) i (bs, Q) = rch R l n q) ∧ Hid (Own wr w.heap.size 2 u (ints Q)) ∧ Hid (Own wr w.heap.size 4 (.slice (some ⟨w.heap.size, 0, none⟩) n n) (bvs bs)) ∧ Hid (Below w.heap.size w wr)) (fun _ y _ => n + 1 - (intOf y).toNat)
  case atStart => exact ⟨0, _, [(q : Int)], rfl, Nat.zero_le _, HI0, HT, Q0, W0, B0⟩
  case round =>
    clear HI0 HT Q0 W0 B0
    obtain ⟨i, bs, Q, rfl, hi, HI, HT, HU, HW, Hb⟩ := hrel
    obtain ⟨Au, cu, hue⟩ := HU.out.slice
    rw [ints_length] at hue
    subst hue
    have hQn : Q.length ≤ n + 1 := by have h := HI.out.cn; dsimp only at h; omega
    obtain ⟨wo, rfl⟩ : ∃ wo, wo = wr := ⟨_, rfl⟩
    by_cases hlt : i < Q.length
    · have i1 : (i : Int) < Q.length := by omega
      have i0 : (0 : Int) ≤ i := by omega
      obtain ⟨f, hf⟩ : ∃ f, n + 2 - i = f + 1 := ⟨n + 1 - i, by omega⟩
      have HT2 := HT.out
      rw [hf, rcL, if_pos hlt] at HT2
      have HT3 := hidd HT2
      have hok := fun x hx => rcS_ok HG.out HI.out hlt x hx
      obtain ⟨r, hr, hrn⟩ := HI.out.inQ i hlt
      dsimp only at hr hok
      rw [hr, Int.toNat_natCast] at HT3 hok
      have hqc : Q[i] = (r : Int) := by rw [← hr, List.getD_eq_getElem?_getD, List.getElem?_eq_getElem hlt]; rfl
      obtain ⟨bu, ou, hA, hcu⟩ := (HU.out.rd.2).get hlt
      subst hA
      rw [hqc] at hcu
      have hrr : r < rows.length := by rw [Hrn.out]; exact hrn
      have hrR : r < R.length := by rw [HRn.out]; exact hrn
      obtain ⟨hrl, hrx⟩ := HG.out.2 r hrn
      have HRx := hidd hrx
      obtain ⟨row, hrow⟩ : ∃ row, row = R.getD r [] := ⟨_, rfl⟩
      rw [← hrow] at HT3 hok hrl HRx
      have HOk := hidd hok
      have hri := H3.out r rows[r] row (List.getElem?_eq_getElem hrr) (by rw [hrow, List.getD_eq_getElem?_getD, List.getElem?_eq_getElem hrR]; rfl)
      obtain ⟨bq, oq, hA2, hcr⟩ := (H1.out.below Hb.out).at_ (List.getElem?_eq_getElem hrr)
      subst hA2
      obtain ⟨rv, hrv⟩ : ∃ rv, rv = rows[r] := ⟨_, rfl⟩
      rw [← hrv] at hri hcr
      obtain ⟨Ar, cr, rfl, hq1⟩ := hri
      have Hq1 := hidd hq1
      rw [hrl] at hcr
      have Hrl := hidd hrl
      have j1 : (r : Int) < n := by omega
      have j2 : (0 : Int) ≤ r := by omega
      have HF1 := hidd hf
      clear HT2 hok hr hrv hq1 hqc hrx hrow hrl hf
      go_wp2_with fail
      clear hcu hcr
      go_loopw [6, 9] (fun u y wr => ∃ x : Nat, y = .int .i64 x ∧ x ≤ l ∧ Hid (Own wr w.heap.size 2 u (ints (rcS row x (bs, Q)).2)) ∧ Hid (Own wr w.heap.size 4 (.slice (some ⟨w.heap.size, 0, none⟩) n n) (bvs (rcS row x (bs, Q)).1)) ∧ Hid (Below w.heap.size w wr)) (fun _ y _ => l - (intOf y).toNat)
      case atStart => exact ⟨0, rfl, Nat.zero_le _, HU, HW, Hb⟩
      case round =>
        obtain ⟨x, rfl, hx, HU2, HW2, Hb2⟩ := hrel
        by_cases hlx : x < l
        · have k1 : (x : Int) < l := by omega
          have k0 : (0 : Int) ≤ x := by omega
          obtain ⟨z, hz, hzn⟩ := HRx.out x hlx
          have hxr : x < row.length := by rw [Hrl.out]; exact hlx
          have hzc : row[x] = (z : Int) := by rw [← hz, List.getD_eq_getElem?_getD, List.getElem?_eq_getElem hxr]; rfl
          obtain ⟨bz, oz, hAz, hcz0⟩ := Hq1.out.get hxr
          subst hAz
          rw [hzc] at hcz0
          have hbl : bz < w.heap.size := World.block_lt_of_cell? _ _ hcz0
          have hcz := (Hb2.out.cell (p := ⟨bz, oz + x, none⟩) hbl).trans hcz0
          have n1 : ¬ bz = w.heap.size := by omega
          have n2 : ¬ w.heap.size = bz := by omega
          have z1 : (z : Int) < n := by omega
          have z2 : (0 : Int) ≤ z := by omega
          have hsx := (HOk.out x hx).1
          have HSt := hidd (show rcS row (x + 1) (bs, Q) = if (rcS row x (bs, Q)).1.getD z false then rcS row x (bs, Q) else ((rcS row x (bs, Q)).1.set z true, (rcS row x (bs, Q)).2 ++ [(z : Int)]) by rw [rcS, hz, Int.toNat_natCast])
          have hln := hsx.len
          have hcn := hsx.cn
          obtain ⟨⟨bs2, Q2⟩, hS⟩ : ∃ S : List Bool × List Int, S = rcS row x (bs, Q) := ⟨_, rfl⟩
          rw [← hS] at HU2 HW2 HSt hln hcn
          dsimp only at HU2 HW2 HSt hln hcn
          obtain ⟨Au2, cu2, hue2⟩ := HU2.out.slice
          rw [ints_length] at hue2
          subst hue2
          have hzb : z < bs2.length := by rw [hln]; exact hzn
          have d1 := HW2.out.cell (bvs_get hzb)
          have d2 := HW2.out.frozen z
          clear hz hzc hsx hS hcz0 hbl
          cases hbv : bs2.getD z false with
          | true =>
            rw [hbv] at d1
            rw [hbv, if_pos rfl] at HSt
            clear hbv
            go_wp2_with fail
            go_roundw
            case rel => exact ⟨x + 1, by go_num, by omega, hidd (by rw [HSt.out]; exact HU2.out), hidd (by rw [HSt.out]; exact HW2.out), Hb2⟩
            case measure => first | (simp [intOf]; done) | (simp [intOf]; omega)
          | false =>
            rw [hbv] at d1
            rw [hbv, if_neg (by decide)] at HSt
            have HW3 := hidd (by have h := HW2.out.store z (.bool true); rw [bvs_set] at h; exact h)
            have HU3 := hidd (own_far_bool HU2.out HW2.out z (.bool true))
            have Hb3 := hidd (Hb2.out.setCell (p := ⟨w.heap.size, z, none⟩) (Nat.le_refl _) (.bool true))
            have hbase := Hb3.out.size
            have hlen2 : (ints Q2).length + 1 ≤ 1099511627776 := by rw [ints_length]; omega
            clear hbv
            go_wp2_with (at_builtin; refine app_atP rfl _ _ _ rfl w.heap.size 2 (.int .i64 0) 8 Try.underlying30 info_i64 rfl HU3.out rfl rfl (by simp) rfl hlen2 (by decide) hbase ?_; intro v' w6 ho hgr hle6 hli; have Ho2 := hidd ho; have b2 := hidd (bel_own HU3.out hgr hbase); have HW4 := hidd (HW3.out.grown hgr (HW3.out.apart HU3.out (by decide))); clear ho hgr hli)
            go_roundw
            case rel => exact ⟨x + 1, by go_num, by omega, hidd (by rw [HSt.out, ints_append]; exact Ho2.out), hidd (by rw [HSt.out]; exact HW4.out), hidd (Hb3.out.trans b2.out)⟩
            case measure => first | (simp [intOf]; done) | (simp [intOf]; omega)
        · have he : x = l := by omega
          subst he
          obtain ⟨hsx, hpf, _, _⟩ := HOk.out x (Nat.le_refl _)
          have hpl := hpf.length_le
          clear hpf hlx
          go_wp2_with fail
          go_roundw
          case rel => exact ⟨i + 1, _, _, by go_num, by omega, hidd hsx, hidd (by rw [show n + 2 - (i + 1) = f by have := HF1.out; omega]; exact HT3.out), HU2, HW2, Hb2⟩
          case measure => first | (simp [intOf]; done) | (simp [intOf]; omega)
    · have he : i = Q.length := by omega
      obtain ⟨f, hf⟩ : ∃ f, n + 2 - i = f + 1 := ⟨n + 1 - i, by omega⟩
      have HT2 := HT.out
      rw [hf, rcL, if_neg hlt] at HT2
      have HT3 := hidd HT2
      subst he
      clear HT2 hf hlt
      go_wp2_with fail
      go_ret
      exact ⟨⟨_, rfl, by rw [← HT3.out]; exact HW.out⟩, Hb.out⟩
set_option maxRecDepth 100000 in
set_option maxHeartbeats 2000000 in
theorem reached_any (R : List (List Int)) (l n q : Nat) (hG : Grf R l n) (hn : n ≤ 1000) (hl : l ≤ 3) (hq : q < n) (v : Value) (w : World) (hr : RdLL w v R) :
    Calls Try.prog 222 #[v, .int .i64 (q : Nat)] w fun e w' => (∃ g, e = .returned (.slice (some ⟨g, 0, none⟩) n n) ∧ Own w' w.heap.size 4 (.slice (some ⟨g, 0, none⟩) n n) (bvs (rch R l n q))) ∧ Below w.heap.size w w' := by
  obtain ⟨A, c, rows, rfl, h1, h2, h3⟩ := hr
  have H1 := hidd h1
  have H3 := hidd h3
  have HG := hidd hG
  have hRn := hG.1
  have hrn : rows.length = n := by rw [h2]; exact hG.1
  have HI0 := hidd (RcI.start (R := R) (l := l) hq)
  rw [hRn]
  have HRn := hidd hRn
  have Hrn := hidd hrn
  clear h1 h2 h3 hG hRn hrn
  go_enter Try.func222, Try.ntmps222
  go_wp2_with (at_make; refine mk_own rfl _ _ _ rfl w.heap.size 4 (.bool false) 1 Try.underlying100 infoB rfl n rfl rfl (by omega) (by omega) (Nat.le_refl _) ?_; intro w1 ho hg hlt1; have Ho := hidd (show Own w1 w.heap.size 4 (.slice (some ⟨w.heap.size, 0, none⟩) n n) (bvs (List.replicate n false)) by simpa [bvs] using ho); have Bel := hidd ((Below.refl w.heap.size w).grown hg (Nat.le_refl _) (fun k hk => by cases hk)); clear ho hg)
  have Q0 := hidd (show Own (w1.alloc (.cells #[.int .i64 (q : Nat)] 2)) w.heap.size 2 (.slice (some ⟨w1.heap.size, 0, none⟩) 1 1) (ints [(q : Int)]) from Own.of_full (vs := [.int .i64 (q : Nat)]) (hp_new rfl) rfl Bel.out.size (by omega))
  have W0 := hidd (Ho.out.alloc (.cells #[.int .i64 (q : Nat)] 2))
  have B0 := hidd (bel_then Bel.out (bel_alloc' w1 (.cells #[.int .i64 (q : Nat)] 2)))
  have HT : Hid (rcL R l (n + 2 - 0) 0 (List.replicate n false, [(q : Int)]) = rch R l n q) := hidd rfl
  clear Ho Bel
  go_loopw [6, 7] (fun u y wr => ∃ (i : Nat) (bs : List Bool) (Q : List Int), y = .int .i64 i ∧ i ≤ Q.length ∧ Hid (RcI R l n q (bs, Q)) ∧ Hid (rcL R l (n + 2 - i) i (bs, Q) = rch R l n q) ∧ Hid (Own wr w.heap.size 2 u (ints Q)) ∧ Hid (Own wr w.heap.size 4 (.slice (some ⟨w.heap.size, 0, none⟩) n n) (bvs bs)) ∧ Hid (Below w.heap.size w wr)) (fun _ y _ => n + 1 - (intOf y).toNat)
  case atStart => exact ⟨0, _, [(q : Int)], rfl, Nat.zero_le _, HI0, HT, Q0, W0, B0⟩
  case round =>
    clear HI0 HT Q0 W0 B0
    obtain ⟨i, bs, Q, rfl, hi, HI, HT, HU, HW, Hb⟩ := hrel
    obtain ⟨Au, cu, hue⟩ := HU.out.slice
    rw [ints_length] at hue
    subst hue
    have hQn : Q.length ≤ n + 1 := by have h := HI.out.cn; dsimp only at h; omega
    obtain ⟨wo, rfl⟩ : ∃ wo, wo = wr := ⟨_, rfl⟩
    by_cases hlt : i < Q.length
    · have i1 : (i : Int) < Q.length := by omega
      have i0 : (0 : Int) ≤ i := by omega
      obtain ⟨f, hf⟩ : ∃ f, n + 2 - i = f + 1 := ⟨n + 1 - i, by omega⟩
      have HT2 := HT.out
      rw [hf, rcL, if_pos hlt] at HT2
      have HT3 := hidd HT2
      have hok := fun x hx => rcS_ok HG.out HI.out hlt x hx
      obtain ⟨r, hr, hrn⟩ := HI.out.inQ i hlt
      dsimp only at hr hok
      rw [hr, Int.toNat_natCast] at HT3 hok
      have hqc : Q[i] = (r : Int) := by rw [← hr, List.getD_eq_getElem?_getD, List.getElem?_eq_getElem hlt]; rfl
      obtain ⟨bu, ou, hA, hcu⟩ := (HU.out.rd.2).get hlt
      subst hA
      rw [hqc] at hcu
      have hrr : r < rows.length := by rw [Hrn.out]; exact hrn
      have hrR : r < R.length := by rw [HRn.out]; exact hrn
      obtain ⟨hrl, hrx⟩ := HG.out.2 r hrn
      have HRx := hidd hrx
      obtain ⟨row, hrow⟩ : ∃ row, row = R.getD r [] := ⟨_, rfl⟩
      rw [← hrow] at HT3 hok hrl HRx
      have HOk := hidd hok
      have hri := H3.out r rows[r] row (List.getElem?_eq_getElem hrr) (by rw [hrow, List.getD_eq_getElem?_getD, List.getElem?_eq_getElem hrR]; rfl)
      obtain ⟨bq, oq, hA2, hcr⟩ := (H1.out.below Hb.out).at_ (List.getElem?_eq_getElem hrr)
      subst hA2
      obtain ⟨rv, hrv⟩ : ∃ rv, rv = rows[r] := ⟨_, rfl⟩
      rw [← hrv] at hri hcr
      obtain ⟨Ar, cr, rfl, hq1⟩ := hri
      have Hq1 := hidd hq1
      rw [hrl] at hcr
      have Hrl := hidd hrl
      have j1 : (r : Int) < n := by omega
      have j2 : (0 : Int) ≤ r := by omega
      have HF1 := hidd hf
      clear HT2 hok hr hrv hq1 hqc hrx hrow hrl hf
      go_wp2_with fail
      clear hcu hcr
      go_loopw [6, 29] (fun u y wr => ∃ x : Nat, y = .int .i64 x ∧ x ≤ l ∧ Hid (Own wr w.heap.size 2 u (ints (rcS row x (bs, Q)).2)) ∧ Hid (Own wr w.heap.size 4 (.slice (some ⟨w.heap.size, 0, none⟩) n n) (bvs (rcS row x (bs, Q)).1)) ∧ Hid (Below w.heap.size w wr)) (fun _ y _ => l - (intOf y).toNat)
      case atStart => exact ⟨0, rfl, Nat.zero_le _, HU, HW, Hb⟩
      case round =>
        obtain ⟨x, rfl, hx, HU2, HW2, Hb2⟩ := hrel
        by_cases hlx : x < l
        · have k1 : (x : Int) < l := by omega
          have k0 : (0 : Int) ≤ x := by omega
          obtain ⟨z, hz, hzn⟩ := HRx.out x hlx
          have hxr : x < row.length := by rw [Hrl.out]; exact hlx
          have hzc : row[x] = (z : Int) := by rw [← hz, List.getD_eq_getElem?_getD, List.getElem?_eq_getElem hxr]; rfl
          obtain ⟨bz, oz, hAz, hcz0⟩ := Hq1.out.get hxr
          subst hAz
          rw [hzc] at hcz0
          have hbl : bz < w.heap.size := World.block_lt_of_cell? _ _ hcz0
          have hcz := (Hb2.out.cell (p := ⟨bz, oz + x, none⟩) hbl).trans hcz0
          have n1 : ¬ bz = w.heap.size := by omega
          have n2 : ¬ w.heap.size = bz := by omega
          have z1 : (z : Int) < n := by omega
          have z2 : (0 : Int) ≤ z := by omega
          have hsx := (HOk.out x hx).1
          have HSt := hidd (show rcS row (x + 1) (bs, Q) = if (rcS row x (bs, Q)).1.getD z false then rcS row x (bs, Q) else ((rcS row x (bs, Q)).1.set z true, (rcS row x (bs, Q)).2 ++ [(z : Int)]) by rw [rcS, hz, Int.toNat_natCast])
          have hln := hsx.len
          have hcn := hsx.cn
          obtain ⟨⟨bs2, Q2⟩, hS⟩ : ∃ S : List Bool × List Int, S = rcS row x (bs, Q) := ⟨_, rfl⟩
          rw [← hS] at HU2 HW2 HSt hln hcn
          dsimp only at HU2 HW2 HSt hln hcn
          obtain ⟨Au2, cu2, hue2⟩ := HU2.out.slice
          rw [ints_length] at hue2
          subst hue2
          have hzb : z < bs2.length := by rw [hln]; exact hzn
          have d1 := HW2.out.cell (bvs_get hzb)
          have d2 := HW2.out.frozen z
          clear hz hzc hsx hS hcz0 hbl
          cases hbv : bs2.getD z false with
          | true =>
            rw [hbv] at d1
            rw [hbv, if_pos rfl] at HSt
            clear hbv
            go_wp2_with fail
            go_roundw
            case rel => exact ⟨x + 1, by go_num, by omega, hidd (by rw [HSt.out]; exact HU2.out), hidd (by rw [HSt.out]; exact HW2.out), Hb2⟩
            case measure => first | (simp [intOf]; done) | (simp [intOf]; omega)
          | false =>
            rw [hbv] at d1
            rw [hbv, if_neg (by decide)] at HSt
            have HW3 := hidd (by have h := HW2.out.store z (.bool true); rw [bvs_set] at h; exact h)
            have HU3 := hidd (own_far_bool HU2.out HW2.out z (.bool true))
            have Hb3 := hidd (Hb2.out.setCell (p := ⟨w.heap.size, z, none⟩) (Nat.le_refl _) (.bool true))
            have hbase := Hb3.out.size
            have hlen2 : (ints Q2).length + 1 ≤ 1099511627776 := by rw [ints_length]; omega
            clear hbv
            go_wp2_with (at_builtin; refine app_atP rfl _ _ _ rfl w.heap.size 2 (.int .i64 0) 8 Try.underlying30 info_i64 rfl HU3.out rfl rfl (by simp) rfl hlen2 (by decide) hbase ?_; intro v' w6 ho hgr hle6 hli; have Ho2 := hidd ho; have b2 := hidd (bel_own HU3.out hgr hbase); have HW4 := hidd (HW3.out.grown hgr (HW3.out.apart HU3.out (by decide))); clear ho hgr hli)
            go_roundw
            case rel => exact ⟨x + 1, by go_num, by omega, hidd (by rw [HSt.out, ints_append]; exact Ho2.out), hidd (by rw [HSt.out]; exact HW4.out), hidd (Hb3.out.trans b2.out)⟩
            case measure => first | (simp [intOf]; done) | (simp [intOf]; omega)
        · have he : x = l := by omega
          subst he
          obtain ⟨hsx, hpf, _, _⟩ := HOk.out x (Nat.le_refl _)
          have hpl := hpf.length_le
          clear hpf hlx
          go_wp2_with fail
          go_roundw
          case rel => exact ⟨i + 1, _, _, by go_num, by omega, hidd hsx, hidd (by rw [show n + 2 - (i + 1) = f by have := HF1.out; omega]; exact HT3.out), HU2, HW2, Hb2⟩
          case measure => first | (simp [intOf]; done) | (simp [intOf]; omega)
    · have he : i = Q.length := by omega
      obtain ⟨f, hf⟩ : ∃ f, n + 2 - i = f + 1 := ⟨n + 1 - i, by omega⟩
      have HT2 := HT.out
      rw [hf, rcL, if_neg hlt] at HT2
      have HT3 := hidd HT2
      subst he
      clear HT2 hf hlt
      go_wp2_with fail
      go_ret
      exact ⟨⟨_, rfl, by rw [← HT3.out]; exact HW.out⟩, Hb.out⟩
end Go.Proofs.Ytjnnbjlombopnaa
