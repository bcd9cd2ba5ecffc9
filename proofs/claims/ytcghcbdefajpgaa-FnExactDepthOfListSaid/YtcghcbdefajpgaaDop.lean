/- Walks: the products of a list's words, of the program. -/
import Derived.Test.YtcghcbdefajpgaaDol
import Derived.Test.YtcghcbdefajpgaaBB
import Derived.Test.YtcghcbdefajpgaaLla
namespace Go.Proofs.Ytcghcbdefajpgaa
open Go.RowKit
set_option linter.unusedSimpArgs false

/-- A slice of slices of numbers reads so, and a row without memory has no room. -/
def RdLN (w : World) (v : Value) (xss : List (List Int)) : Prop :=
  ∃ (A : Option Addr) (c : Nat) (rows : List Value), v = .slice A xss.length c ∧ Rd w A rows ∧ rows.length = xss.length ∧ ∀ (j : Nat) (r : Value) (xs : List Int), rows[j]? = some r → xss[j]? = some xs → RdI w r xs ∧ NilOk r
theorem RdLN.below {w w' : World} {v : Value} {xss : List (List Int)} (h : RdLN w v xss) (hb : Below w.heap.size w w') : RdLN w' v xss := by
  obtain ⟨A, c, rows, e, h1, h2, h3⟩ := h
  exact ⟨A, c, rows, e, h1.below hb, h2, fun j r xs e1 e2 => ⟨(h3 j r xs e1 e2).1.below hb, (h3 j r xs e1 e2).2⟩⟩
theorem RdLN.ll {w : World} {v : Value} {xss : List (List Int)} (h : RdLN w v xss) : RdLL w v xss := by
  obtain ⟨A, c, rows, e, h1, h2, h3⟩ := h
  exact ⟨A, c, rows, e, h1, h2, fun j r xs e1 e2 => (h3 j r xs e1 e2).1⟩
theorem LLr.ln {w : World} {B : Nat} {v : Value} {rows : List Value} {xss : List (List Int)} (h : LLr w B v rows xss) : RdLN w v xss := by
  obtain ⟨A, c, e⟩ := h.v.slice
  rw [h.len] at e
  subst e
  exact ⟨A, c, rows, rfl, h.v.rd.2, h.len, fun j r xs e1 e2 => ⟨(h.row j r xs e1 e2).rdI, (h.row j r xs e1 e2).nilOk⟩⟩

set_option maxRecDepth 100000 in
set_option maxHeartbeats 2000000 in
theorem products_any (v : Value) (xss : List (List Int)) (hl : xss.length ≤ 32) (hw : ∀ u ∈ xss, u.length ≤ 1048576) (w : World) (hr : RdLN w v xss) :
    Calls Try.prog 27 #[v] w fun e w' => (∃ a rows, e = .returned a ∧ LLr w' w.heap.size a rows (prods xss)) ∧ Below w.heap.size w w' := by
  obtain ⟨A, c, rows, rfl, h1, h2, h3⟩ := hr
  have H1 := hidd h1
  have H3 := hidd h3
  have HW := hidd hw
  clear h1 h3 hw
  go_enter Try.func27, Try.ntmps27
  go_wp2_with fail
  go_loopw [3, 10] (fun q y wr => ∃ (i : Nat) (rs : List Value), y = .int .i64 i ∧ i ≤ xss.length ∧ Hid (LLr wr w.heap.size q rs (prK xss (i * xss.length))) ∧ Hid (Below w.heap.size w wr)) (fun _ y _ => xss.length - (intOf y).toNat)
  case atStart => exact ⟨0, [], rfl, Nat.zero_le _, hidd (by rw [Nat.zero_mul]; exact LLr.nil _ _), hidd (Below.refl _ _)⟩
  case round =>
    obtain ⟨i, rs, rfl, hi, HQ, Hb⟩ := hrel
    obtain ⟨Aq, cq, hqe⟩ := HQ.out.v.slice
    subst hqe
    by_cases hlt : i < xss.length
    · have i1 : (i : Int) < xss.length := by omega
      have i0 : (0 : Int) ≤ i := by omega
      have hir : i < rows.length := by rw [h2]; exact hlt
      obtain ⟨hra, hna⟩ := H3.out i rows[i] xss[i] (List.getElem?_eq_getElem hir) (List.getElem?_eq_getElem hlt)
      have Ha := hidd hra
      have Na := hidd hna
      have La := HW.out _ (List.getElem_mem hlt)
      obtain ⟨bq, oq, rfl, hcell⟩ := (H1.out.below Hb.out).at_ (List.getElem?_eq_getElem hir)
      have HP := hidd (fun j (hj : j < xss.length) => pk_at hlt hj)
      obtain ⟨a, ha⟩ : ∃ a, a = rows[i] := ⟨_, rfl⟩
      obtain ⟨xa, hxa⟩ : ∃ xa, xa = xss[i] := ⟨_, rfl⟩
      rw [← ha, ← hxa] at Ha
      rw [← ha] at Na hcell
      simp only [← hxa] at HP La
      clear hra hna ha hxa
      obtain ⟨Xa, ca, rfl, _⟩ := Ha.out
      go_wp2_with fail
      go_loopw [3, 16] (fun q y wr => ∃ (j : Nat) (rs : List Value), y = .int .i64 j ∧ j ≤ xss.length ∧ Hid (LLr wr w.heap.size q rs (prK xss (i * xss.length + j))) ∧ Hid (Below w.heap.size w wr)) (fun _ y _ => xss.length - (intOf y).toNat)
      case atStart => exact ⟨0, rs, rfl, Nat.zero_le _, HQ, Hb⟩
      case round =>
        clear HQ Hb hcell
        obtain ⟨j, rs, rfl, hj, HQ, Hb⟩ := hrel
        obtain ⟨Ap, cp, hpe⟩ := HQ.out.v.slice
        subst hpe
        by_cases hjt : j < xss.length
        · have j1 : (j : Int) < xss.length := by omega
          have j0 : (0 : Int) ≤ j := by omega
          have hjr : j < rows.length := by rw [h2]; exact hjt
          obtain ⟨hrb, hnb⟩ := H3.out j rows[j] xss[j] (List.getElem?_eq_getElem hjr) (List.getElem?_eq_getElem hjt)
          have Hb2 := hidd (hrb.below Hb.out)
          have Nb := hidd hnb
          have Lb := HW.out _ (List.getElem_mem hjt)
          obtain ⟨b2, o2, hA2, hcell⟩ := (H1.out.below Hb.out).at_ (List.getElem?_eq_getElem hjr)
          have HS := hidd (show prK xss (i * xss.length + (j + 1)) = prK xss (i * xss.length + j) ++ [xa ++ xss[j]] by rw [← Nat.add_assoc, prK_succ, HP.out j hjt])
          simp only [Option.some.injEq, Addr.mk.injEq, and_true] at hA2
          obtain ⟨rfl, rfl⟩ := hA2
          obtain ⟨b, hb⟩ : ∃ b, b = rows[j] := ⟨_, rfl⟩
          obtain ⟨xb, hxb⟩ : ∃ xb, xb = xss[j] := ⟨_, rfl⟩
          rw [← hb, ← hxb] at Hb2
          rw [← hb] at Nb hcell
          rw [← hxb] at HS Lb
          clear hrb hnb hb hxb
          obtain ⟨Xb, cb, rfl, _⟩ := Hb2.out
          go_wp2_with fail
          refine (concat64 _ [ints xa, ints xb] _ ?_ (two_one xa xb) (by rw [two_lens]; omega)).mono ?_
          · exact RdVV.two (Ha.out.below Hb.out) Hb2.out Na.out Nb.out _ _ rfl
          rintro e w3 ⟨⟨u, rfl, ho⟩, hb3⟩
          rw [two_flat] at ho
          have hb3' := (bel_alloc' wr (.cells #[.slice Xa xa.length ca, .slice Xb xb.length cb] 26)).trans (hb3.mono (by simp))
          have B3 := hidd (bel_then Hb.out hb3')
          have HQ3 := hidd (HQ.out.below hb3')
          have hbr := Hb.out.size
          have Ho := hidd (show Own w3 wr.heap.size _ _ _ from ho.mono (by simp))
          have HNw : Hid (∀ (j : Nat) (t : Value), rs[j]? = some t → Apart t u) := hidd (fun j t hj => by obtain ⟨ys, _, ho'⟩ := HQ.out.list hj; exact own_ne ho' ho (by simp))
          obtain ⟨Au, cu, hue⟩ := ho.slice
          subst hue
          have hln : (prK xss (i * xss.length + j)).length ≤ 1024 := by
            rw [prK_len]
            have := row_lt hlt hjt
            have : xss.length * xss.length ≤ 32 * 32 := Nat.mul_le_mul hl hl
            omega
          have hlen3 : rs.length + 1 ≤ 1099511627776 := by rw [HQ3.out.len]; omega
          have hbase := B3.out.size
          clear hb3 ho hb3' hcell HQ Hb Hb2
          go_wp2_with (at_builtin; refine app_at rfl _ _ _ rfl w.heap.size 26 (.slice none 0 0) 24 Try.underlying27 info_ints rfl HQ3.out.v rfl rfl rfl hlen3 (by decide) hbase ?_; intro v' w6 ho6 hgr6 hle6 hli6; have HQ6 := hidd (HQ3.out.push (Ho.out.mono (by omega)) HNw.out ho6 hgr6); have b6 := hidd (B3.out.trans (bel_own HQ3.out.v hgr6 hbase)); clear ho6 hgr6 hle6 hli6)
          go_roundw
          case rel => exact ⟨j + 1, _, by go_num, by omega, hidd (by rw [HS.out]; exact HQ6.out), b6⟩
          case measure => first | (simp [intOf]; done) | (simp [intOf]; omega)
        · have he : j = xss.length := by omega
          subst he
          clear hjt
          go_wp2_with fail
          go_roundw
          case rel => exact ⟨i + 1, rs, by go_num, by omega, hidd (by rw [Nat.succ_mul]; exact HQ.out), Hb⟩
          case measure => first | (simp [intOf]; done) | (simp [intOf]; omega)
    · have he : i = xss.length := by omega
      have HE := hidd (show LLr wr w.heap.size (.slice Aq rs.length cq) rs (prods xss) by unfold prods; rw [← he]; rw [← he] at HQ; exact HQ.out)
      clear hlt HQ
      subst he
      go_wp2_with fail
      go_ret
      exact ⟨⟨_, rs, rfl, HE.out⟩, Hb.out⟩
end Go.Proofs.Ytcghcbdefajpgaa
