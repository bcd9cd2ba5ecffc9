/- Walks: ActOnWord and SectionAt, of the program and of the reference, with the codes of their arguments. -/
import Derived.Test.YtjnnbjlombopnaaLead
namespace Go.Proofs.Ytjnnbjlombopnaa
open Go.RowKit

/-- An empty slice that is not nil. -/
theorem Own.empty (w : World) (e : TypeId) (base : Nat) (hb : base ≤ w.heap.size) : Own (w.alloc (.cells #[] e)) base e (.slice (some ⟨w.heap.size, 0, none⟩) 0 0) [] :=
  ⟨rfl, .inr ⟨w.heap.size, 0, #[], rfl, hb, hp_new rfl, Nat.le_refl _, by unfold maxLen; omega, rfl, rfl⟩⟩

set_option maxHeartbeats 400000 in
theorem l01Act_any (g : Gm) (hok : g.Ok) (cs : Array Value) (hg : g.Is cs) (q : Nat) (Q : Int) (s : ByteArray) (w : World) (hQ : Q = q) (hq : q < g.s) (hl : Lts g.l s) (hs : s.size ≤ 140737488351232) (hs2 : s.size ≤ 1099511627775) :
    Calls Try.prog 116 #[.agg cs, .int .i64 Q, .string s] w fun e w' => e = .returned (.tuple #[.string (g.act q s), .int .i64 (g.st q s s.size)]) ∧ Below w.heap.size w w' := by
  subst hQ
  have HG := hidd hg
  have HO := hidd hok
  have HL := hidd hl
  have Hq := hidd hq
  clear hg hok hl hq
  go_enter Try.func116, Try.ntmps116
  go_wp2
  obtain ⟨w1, hw1⟩ : ∃ w1, w1 = (w.alloc (.cells cs 27)).alloc (.cells #[] 5) := ⟨_, rfl⟩
  rw [← hw1]
  have Bel := hidd (show Below w.heap.size w w1 by rw [hw1]; exact ((Below.refl _ _).alloc (Nat.le_refl _) _).alloc (by simp) _)
  have HA := hidd (show g.At w1 w.heap.size 0 by rw [hw1]; exact (Gm.At.of_is HG.out (hp_new rfl)).alloc _)
  have Ho := hidd (show Own w1 (w.heap.size + 1) 5 (.slice (some ⟨w.heap.size + 1, 0, none⟩) 0 0) [] by
    rw [hw1]
    have := Own.empty (w.alloc (.cells cs 27)) 5 (w.heap.size + 1) (by simp)
    simpa using this)
  have HZ := hidd (show w1.heap.size = w.heap.size + 2 by rw [hw1]; simp)
  clear hw1
  go_loopw [1, 8, 9] (fun t v i wr => ∃ k : Nat, k ≤ s.size ∧ i = .int .i64 k ∧ t = .int .i64 (g.st q s k) ∧ Hid (Own wr (w.heap.size + 1) 5 v (u8s (g.ob q s k))) ∧ Hid (Below (w.heap.size + 1) w1 wr)) (fun _ _ i _ => s.size - (intOf i).toNat)
  case atStart => exact ⟨0, Nat.zero_le _, rfl, rfl, Ho.out, Below.refl _ _⟩
  case round =>
    obtain ⟨k, hk, rfl, rfl, Hok, Hb⟩ := hrel
    by_cases hlt : k < s.size
    · have h48 := HL.out.lo k hlt
      have hc256 : s[k].toNat < 256 := s[k].toNat_lt
      have hst := Gm.st_lt HO.out Hq.out HL.out k hk
      have hlk := HL.out.hi k hlt
      have l3 := HO.out.l3
      have s16 := HO.out.s16
      have hol := HO.out.olt _ _ hst hlk
      have e2 : lt s k = s[k].toNat - 48 := by unfold lt; rw [getElem!_pos s k hlt]
      have E2 := hidd e2
      have A1 := hidd (HA.out.below Hb.out (by omega))
      have a2 := A1.out.o (g.st q s k) (lt s k) (by omega) (by omega)
      have a3 := A1.out.nb (g.st q s k) (lt s k) (by omega) (by omega)
      have hl3 : lt s k < 3 := by omega
      have hs16 : g.st q s k < 16 := by omega
      rw [E2.out] at a2 a3 hol hlk
      rw [Nat.zero_add] at a2
      clear e2
      have i5 : (48 : Int) ≤ s[k].toNat := by omega
      have i6 : (s[k].toNat : Int) < 256 := by omega
      have i7 : (g.st q s k : Int) < 16 := by omega
      have i8 : (s[k].toNat : Int) - 48 < 3 := by omega
      have i9 : g.ou (g.st q s k) (s[k].toNat - 48) < 3 := by omega
      have hbase : w.heap.size + 1 ≤ wr.heap.size := by have := Hb.out.size; have := HZ.out; omega
      have hlen : (u8s (g.ob q s k)).length + 1 ≤ 1099511627776 := by rw [u8s_length, g.ob_length]; omega
      go_wp2_with (at_builtin; refine app_own rfl _ _ _ rfl (w.heap.size + 1) 5 (.int .u8 0) 1 Try.underlying167 info_u8 rfl Hok.out rfl rfl rfl hlen (by decide) hbase ?_; intro v' w2 ho hgr hle; have Ho2 := hidd ho; have b2 := hidd (bel_own Hok.out hgr hbase); have a4 := (A1.out.below b2.out (by omega)).n (g.st q s k) (lt s k) hs16 hl3; rw [E2.out, Nat.zero_add] at a4; clear ho hgr a2)
      go_roundw
      case rel =>
        refine ⟨k + 1, by omega, by go_num, ?_, ?_, Hb.out.trans b2.out⟩
        · show _ = Value.int .i64 ((g.nx (g.st q s k) (lt s k) : Nat) : Int)
          rw [E2.out]
        · rw [g.ob_succ, u8s_append, E2.out]; exact Ho2.out
      case measure => simp [intOf]; omega
    · have he : k = s.size := by omega
      subst he
      have hcv := run_toString Hok.out.rdU
      go_wp2
      go_ret2
      exact ⟨rfl, Bel.out.trans (Hb.out.mono (by omega))⟩

/-! ### Codes -/
def inS (m : Mc) (q : Int) : Bool := decide (0 ≤ q ∧ q ≤ m.S - 1)
/-- The code of a machine, a word and states. -/
def codeB (m : Mc) (s : ByteArray) (sts : List Int) : Int := if m.ok && wordB m.L s then (if sts.all (inS m) then 0 else 2) else 1
theorem codeB_bad {m : Mc} {s : ByteArray} {sts : List Int} (h : m.ok = false) : codeB m s sts = 1 := by unfold codeB; rw [h]; rfl
theorem codeB_word {m : Mc} {s : ByteArray} {sts : List Int} (h : wordB m.L s = false) : codeB m s sts = 1 := by unfold codeB; rw [h, Bool.and_false]; rfl
theorem codeB_no {m : Mc} {s : ByteArray} {sts : List Int} (h0 : m.ok = true) (h : wordB m.L s = true) (h2 : sts.all (inS m) = false) : codeB m s sts = 2 := by unfold codeB; rw [h0, h, h2]; rfl
theorem codeB_yes {m : Mc} {s : ByteArray} {sts : List Int} (h0 : m.ok = true) (h : wordB m.L s = true) (h2 : sts.all (inS m) = true) : codeB m s sts = 0 := by unfold codeB; rw [h0, h, h2]; rfl
theorem codeB_zero {m : Mc} {s : ByteArray} {sts : List Int} (h : codeB m s sts = 0) : m.ok = true ∧ wordB m.L s = true ∧ sts.all (inS m) = true := by
  unfold codeB at h
  cases h1 : m.ok <;> cases h2 : wordB m.L s <;> cases h3 : sts.all (inS m) <;> rw [h1, h2, h3] at h <;> simp at h ⊢
theorem all_one1 {α : Type} (p : α → Bool) (x : α) : [x].all p = p x := by simp
theorem RdI.lit1 (w : World) (x : Int) (t : TypeId) (n : Nat) (hn : n = w.heap.size) : RdI (w.alloc (.cells #[.int .i64 x] t)) (.slice (some ⟨n, 0, none⟩) 1 1) [x] :=
  ⟨some ⟨n, 0, none⟩, 1, rfl, by simp [ints], fun _ => ⟨n, 0, rfl, fun j v hj => by
    match j, hj with
    | 0, hj =>
      rw [blkc (hp_new hn)]
      exact hj⟩⟩
theorem RdI.lit2 (w : World) (x y : Int) (t : TypeId) (n : Nat) (hn : n = w.heap.size) : RdI (w.alloc (.cells #[.int .i64 x, .int .i64 y] t)) (.slice (some ⟨n, 0, none⟩) 2 2) [x, y] :=
  ⟨some ⟨n, 0, none⟩, 2, rfl, by simp [ints], fun _ => ⟨n, 0, rfl, fun j v hj => by
    match j, hj with
    | 0, hj =>
      rw [blkc (hp_new hn)]
      exact hj
    | 1, hj =>
      rw [blkc (hp_new hn)]
      exact hj⟩⟩
/-- A block that is laid, and what follows below it. -/
theorem bel_alloc (w : World) (o : Obj) : Below w.heap.size w (w.alloc o) := (Below.refl _ _).alloc (Nat.le_refl _) _

set_option maxHeartbeats 400000 in
theorem l01Code_any (m : Mc) (cs : Array Value) (hm : m.Is cs) (a : Int) (s : ByteArray) (w : World) (hs : s.size ≤ 140737488351232) :
    Calls Try.prog 115 #[.agg cs, .int .i64 a, .string s] w fun e w' => e = .returned (.int .i64 (codeB m s [a])) ∧ Below w.heap.size w w' := by
  have Hm := hidd hm
  clear hm
  cases hq : m.ok with
  | false =>
    have Hq := hidd hq
    clear hq
    go_enter Try.func115, Try.ntmps115
    go_wp2_with (refine ldI rfl (.tmp 3) rfl w.heap.size rfl Hm.out (hp_new rfl) ?_)
    refine (l01Is_any m cs Hm.out _).mono ?_
    rintro e w1 ⟨rfl, hb⟩
    rw [Hq.out]
    go_wp2
    go_ret
    exact ⟨ret_i (codeB_bad Hq.out).symm, bel_then (bel_alloc _ _) hb⟩
  | true =>
    obtain ⟨hL, hS, _⟩ := m.ok_iff.1 hq
    have Hq := hidd hq
    clear hq
    cases hw : wordB m.L s with
    | false =>
      have Hw := hidd hw
      clear hw
      go_enter Try.func115, Try.ntmps115
      go_wp2_with (refine ldI rfl (.tmp 3) rfl w.heap.size rfl Hm.out (hp_new rfl) ?_)
      refine (l01Is_any m cs Hm.out _).mono ?_
      rintro e w1 ⟨rfl, hb⟩
      rw [Hq.out]
      have B1 := hidd (bel_then (bel_alloc _ _) hb)
      have K1 := hidd (hp_bel (hp_new rfl) hb : w1.heap[w.heap.size]? = some (.cells cs 27 (0, 0)))
      clear hb
      go_wp2_with (refine ldI rfl (.tmp 3) rfl w.heap.size rfl Hm.out K1.out ?_)
      refine (l01Word_any m cs Hm.out s _ hs).mono ?_
      rintro e w2 ⟨rfl, hb⟩
      rw [Hw.out]
      go_wp2
      go_ret
      exact ⟨ret_i (codeB_word Hw.out).symm, bel_then B1.out hb⟩
    | true =>
      have Hw := hidd hw
      clear hw
      obtain ⟨hS1, hS2⟩ := hS
      clear hL
      have c1 := Hm.out.s
      cases hi : inS m a with
      | false =>
        have Hi := hidd hi
        have hi' : ¬ (0 ≤ a ∧ a ≤ m.S - 1) := of_decide_eq_false hi
        clear hi
        go_enter Try.func115, Try.ntmps115
        go_wp2_with (refine ldI rfl (.tmp 3) rfl w.heap.size rfl Hm.out (hp_new rfl) ?_)
        refine (l01Is_any m cs Hm.out _).mono ?_
        rintro e w1 ⟨rfl, hb⟩
        rw [Hq.out]
        have B1 := hidd (bel_then (bel_alloc _ _) hb)
        have K1 := hidd (hp_bel (hp_new rfl) hb : w1.heap[w.heap.size]? = some (.cells cs 27 (0, 0)))
        clear hb
        go_wp2_with (refine ldI rfl (.tmp 3) rfl w.heap.size rfl Hm.out K1.out ?_)
        refine (l01Word_any m cs Hm.out s _ hs).mono ?_
        rintro e w2 ⟨rfl, hb⟩
        rw [Hw.out]
        have k2 := (blkc (hp_bel K1.out hb) 1).trans Hm.out.s
        go_wp2_with fail
        refine (l01In_no _ _ _ _ (by omega)).mono ?_
        rintro e w3 ⟨rfl, rfl⟩
        go_wp2
        go_ret
        exact ⟨ret_i (codeB_no Hq.out Hw.out (by rw [all_one1]; exact Hi.out)).symm, bel_then B1.out hb⟩
      | true =>
        have Hi := hidd hi
        have hi' : 0 ≤ a ∧ a ≤ m.S - 1 := of_decide_eq_true hi
        obtain ⟨hi1, hi2⟩ := hi'
        clear hi
        go_enter Try.func115, Try.ntmps115
        go_wp2_with (refine ldI rfl (.tmp 3) rfl w.heap.size rfl Hm.out (hp_new rfl) ?_)
        refine (l01Is_any m cs Hm.out _).mono ?_
        rintro e w1 ⟨rfl, hb⟩
        rw [Hq.out]
        have B1 := hidd (bel_then (bel_alloc _ _) hb)
        have K1 := hidd (hp_bel (hp_new rfl) hb : w1.heap[w.heap.size]? = some (.cells cs 27 (0, 0)))
        clear hb
        go_wp2_with (refine ldI rfl (.tmp 3) rfl w.heap.size rfl Hm.out K1.out ?_)
        refine (l01Word_any m cs Hm.out s _ hs).mono ?_
        rintro e w2 ⟨rfl, hb⟩
        rw [Hw.out]
        have k2 := (blkc (hp_bel K1.out hb) 1).trans Hm.out.s
        go_wp2_with fail
        refine (l01In_yes _ _ _ _ (by omega) (by omega)).mono ?_
        rintro e w3 ⟨rfl, rfl⟩
        go_wp2
        go_ret
        exact ⟨ret_i (codeB_yes Hq.out Hw.out (by rw [all_one1]; exact Hi.out)).symm, bel_then B1.out hb⟩

theorem isState_any (m : Mc) (b o : Nat) (a : Int) (w : World) (hA : m.At w b o) (h1 : 1 ≤ m.S) (h2 : m.S ≤ 16) :
    Calls Try.prog 186 #[.pointer (some ⟨b, o, none⟩), .int .i64 a] w fun e w' => e = .returned (.bool (inS m a)) ∧ Below w.heap.size w w' := by
  have c1 := hA.s
  clear hA
  cases hi : inS m a with
  | false =>
    have hi' : ¬ (0 ≤ a ∧ a ≤ m.S - 1) := of_decide_eq_false hi
    clear hi
    go_enter Try.func186, Try.ntmps186
    go_wp2_with fail
    refine (within_no _ _ _ _ (by omega)).mono ?_
    rintro e w3 ⟨rfl, rfl⟩
    go_wp2
    go_ret
    exact ⟨rfl, Below.refl _ _⟩
  | true =>
    have hi' : 0 ≤ a ∧ a ≤ m.S - 1 := of_decide_eq_true hi
    obtain ⟨hi1, hi2⟩ := hi'
    clear hi
    go_enter Try.func186, Try.ntmps186
    go_wp2_with fail
    refine (within_yes _ _ _ _ (by omega) (by omega)).mono ?_
    rintro e w3 ⟨rfl, rfl⟩
    go_wp2
    go_ret
    exact ⟨rfl, Below.refl _ _⟩
theorem codeClosure (m : Mc) (b : Nat) (a : Int) (w : World) (hA : m.At w b 0) (h1 : 1 ≤ m.S) (h2 : m.S ≤ 16) :
    Calls Try.prog 185 #[.int .i64 a, .pointer (some ⟨b, 0, none⟩)] w fun e w' => e = .returned (.bool (!inS m a)) ∧ Below w.heap.size w w' := by
  have HA := hidd hA
  clear hA
  obtain ⟨r, hr⟩ : ∃ r, inS m a = r := ⟨_, rfl⟩
  have Hr := hidd hr
  clear hr
  go_enter Try.func185, Try.ntmps185
  go_wp2_with fail
  refine (isState_any m b 0 a _ HA.out h1 h2).mono ?_
  rintro e w3 ⟨rfl, hb⟩
  rw [Hr.out]
  go_wp2
  go_ret
  exact ⟨ret_b (by rw [Hr.out]), hb⟩
set_option maxHeartbeats 400000 in
theorem codeOf_any (m : Mc) (cs : Array Value) (hm : m.Is cs) (s : ByteArray) (v : Value) (sts : List Int) (w : World) (hs : s.size ≤ 140737488351232) (hr : RdI w v sts) :
    Calls Try.prog 117 #[.agg cs, .string s, v] w fun e w' => e = .returned (.int .i64 (codeB m s sts)) ∧ Below w.heap.size w w' := by
  obtain ⟨A, c, rfl, hr⟩ := hr
  have Hm := hidd hm
  have Hr := hidd hr
  clear hm hr
  cases hq : m.ok with
  | false =>
    have Hq := hidd hq
    clear hq
    go_enter Try.func117, Try.ntmps117
    go_wp2_with (refine ldI rfl (.tmp 3) rfl w.heap.size rfl Hm.out (hp_new rfl) ?_)
    refine (implIsMachine_any m cs Hm.out _).mono ?_
    rintro e w1 ⟨rfl, hb⟩
    rw [Hq.out]
    go_wp2
    go_ret
    exact ⟨ret_i (codeB_bad Hq.out).symm, bel_then (bel_alloc _ _) hb⟩
  | true =>
    obtain ⟨hL, hS, _⟩ := m.ok_iff.1 hq
    have Hq := hidd hq
    clear hq
    cases hw : wordB m.L s with
    | false =>
      have Hw := hidd hw
      clear hw
      go_enter Try.func117, Try.ntmps117
      go_wp2_with (refine ldI rfl (.tmp 3) rfl w.heap.size rfl Hm.out (hp_new rfl) ?_)
      refine (implIsMachine_any m cs Hm.out _).mono ?_
      rintro e w1 ⟨rfl, hb⟩
      rw [Hq.out]
      have k2 := (blkc (hp_bel (hp_new rfl) hb : w1.heap[w.heap.size]? = some (.cells cs 27 (0, 0))) 0).trans Hm.out.l
      go_wp2_with fail
      refine (isWord_any m.L s _ hs).mono ?_
      rintro e w2 ⟨rfl, rfl⟩
      rw [Hw.out]
      go_wp2
      go_ret
      exact ⟨ret_i (codeB_word Hw.out).symm, bel_then (bel_alloc _ _) hb⟩
    | true =>
      have Hw := hidd hw
      clear hw
      obtain ⟨hS1, hS2⟩ := hS
      clear hL
      obtain ⟨r, hi⟩ : ∃ r, sts.all (inS m) = r := ⟨_, rfl⟩
      have Hi := hidd hi
      clear hi
      go_enter Try.func117, Try.ntmps117
      go_wp2_with (refine ldI rfl (.tmp 3) rfl w.heap.size rfl Hm.out (hp_new rfl) ?_)
      refine (implIsMachine_any m cs Hm.out _).mono ?_
      rintro e w1 ⟨rfl, hb⟩
      rw [Hq.out]
      have B1 := hidd (bel_then (bel_alloc _ _) hb)
      have K1 := hidd (hp_bel (hp_new rfl) hb : w1.heap[w.heap.size]? = some (.cells cs 27 (0, 0)))
      clear hb
      have k2 := (blkc K1.out 0).trans Hm.out.l
      go_wp2_with fail
      refine (isWord_any m.L s _ hs).mono ?_
      rintro e w2 ⟨rfl, rfl⟩
      rw [Hw.out]
      go_wp2_with fail
      rw [← ints_length sts]
      refine (containsFunc64 185 _ (enters_of Try.func185 (by kernel_rfl) rfl) A c (ints sts) _ (fun j => !inS m (sts.getD j 0)) _ (Hr.out.below B1.out) (ints_e sts) ?_).mono ?_
      · intro j W hj hb
        exact codeClosure m _ _ W (Mc.At.of_is Hm.out (hp_bel K1.out hb)) hS1 hS2
      rw [ints_length, any_not, Hi.out]
      rintro e w2 ⟨rfl, hb2⟩
      cases r with
      | false =>
        go_wp2
        go_ret
        exact ⟨ret_i (codeB_no Hq.out Hw.out Hi.out).symm, bel_then B1.out hb2⟩
      | true =>
        go_wp2
        go_ret
        exact ⟨ret_i (codeB_yes Hq.out Hw.out Hi.out).symm, bel_then B1.out hb2⟩

/-! ### ActOnWord, SectionAt -/
def Mc.gm (m : Mc) : Gm := ⟨m.L.toNat, m.S.toNat, m.nx, m.ou⟩
theorem Gm.mc_gm (g : Gm) : g.mc.gm = g := rfl
def actR (m : Mc) (a : Int) (s : ByteArray) : ByteArray × Int := if codeB m s [a] = 0 then (m.gm.act a.toNat s, 0) else (⟨#[]⟩, codeB m s [a])
def secR (m : Mc) (a : Int) (s : ByteArray) : Int × Int := if codeB m s [a] = 0 then (m.gm.st a.toNat s s.size, 0) else (0, codeB m s [a])
/-- What a code of naught says. -/
theorem code_zero {m : Mc} {s : ByteArray} {a : Int} (h : codeB m s [a] = 0) : ∃ (g : Gm) (q : Nat), m = g.mc ∧ a = q ∧ g.Ok ∧ q < g.s ∧ Lts g.l s ∧ s.size ≤ 40 := by
  obtain ⟨h1, h2, h3⟩ := codeB_zero h
  obtain ⟨g, rfl, hok⟩ := Mc.to_gm h1
  rw [all_one1] at h3
  have h3' : 0 ≤ a ∧ a ≤ (g.s : Int) - 1 := of_decide_eq_true h3
  unfold wordB at h2
  rw [Bool.and_eq_true] at h2
  exact ⟨g, a.toNat, rfl, by omega, hok, by omega, Lts.of h2.1, of_decide_eq_true h2.2⟩

set_option maxHeartbeats 400000 in
theorem specActOnWord_any (m : Mc) (cs : Array Value) (hm : m.Is cs) (a : Int) (s : ByteArray) (w : World) (hs : s.size ≤ 1048576) :
    Calls Try.prog 42 #[.agg cs, .int .i64 a, .string s] w fun e w' => e = .returned (.tuple #[.string (actR m a s).1, .int .i64 (actR m a s).2]) ∧ Below w.heap.size w w' := by
  have Hm := hidd hm
  clear hm
  by_cases hc : codeB m s [a] = 0
  · obtain ⟨g, q, rfl, rfl, hok, hq, hl, h40⟩ := code_zero hc
    have HR : Hid (actR g.mc q s = _) := hidd (if_pos hc)
    have Hc := hidd hc
    have Hok := hidd hok
    have Hq := hidd hq
    have Hl := hidd hl
    clear hc hok hq hl
    go_enter Try.func42, Try.ntmps42
    go_wp2_with (refine ldI rfl (.tmp 3) rfl w.heap.size rfl Hm.out (hp_new rfl) ?_)
    refine (l01Code_any _ cs Hm.out _ s _ (by omega)).mono ?_
    rintro e w1 ⟨rfl, hb⟩
    rw [Hc.out]
    have B1 := hidd (bel_then (bel_alloc _ _) hb)
    have K1 := hidd (hp_bel (hp_new rfl) hb : w1.heap[w.heap.size]? = some (.cells cs 27 (0, 0)))
    clear hb
    go_wp2_with (refine ldI rfl (.tmp 3) rfl w.heap.size rfl Hm.out K1.out ?_)
    refine (l01Act_any g Hok.out cs ⟨Hm.out⟩ q _ s _ rfl Hq.out Hl.out (by omega) (by omega)).mono ?_
    rintro e w2 ⟨rfl, hb⟩
    go_wp2
    go_ret2
    exact ⟨by rw [HR.out]; rfl, bel_then B1.out hb⟩
  · have HR : Hid (actR m a s = _) := hidd (if_neg hc)
    obtain ⟨c, hcc⟩ : ∃ c, codeB m s [a] = c := ⟨_, rfl⟩
    rw [hcc] at hc
    have h1 : (c == 0) = false := by simp [hc]
    have h2 : (c != 0) = true := by simp [hc]
    have Hc := hidd hcc
    clear hc hcc
    go_enter Try.func42, Try.ntmps42
    go_wp2_with (refine ldI rfl (.tmp 3) rfl w.heap.size rfl Hm.out (hp_new rfl) ?_)
    refine (l01Code_any _ cs Hm.out _ s _ (by omega)).mono ?_
    rintro e w1 ⟨rfl, hb⟩
    rw [Hc.out]
    go_wp2
    go_ret2
    exact ⟨by rw [HR.out, Hc.out]; rfl, bel_then (bel_alloc _ _) hb⟩
set_option maxHeartbeats 400000 in
theorem implActOnWord_any (m : Mc) (cs : Array Value) (hm : m.Is cs) (a : Int) (s : ByteArray) (w : World) (hs : s.size ≤ 1048576) :
    Calls Try.prog 43 #[.agg cs, .int .i64 a, .string s] w fun e w' => e = .returned (.tuple #[.string (actR m a s).1, .int .i64 (actR m a s).2]) ∧ Below w.heap.size w w' := by
  have Hm := hidd hm
  clear hm
  by_cases hc : codeB m s [a] = 0
  · obtain ⟨g, q, rfl, rfl, hok, hq, hl, h40⟩ := code_zero hc
    have HR : Hid (actR g.mc q s = _) := hidd (if_pos hc)
    have Hc := hidd hc
    have Hok := hidd hok
    have Hq := hidd hq
    have Hl := hidd hl
    clear hc hok hq hl
    go_enter Try.func43, Try.ntmps43
    go_wp2_with (refine ldI rfl (.tmp 3) rfl w.heap.size rfl Hm.out (hp_new rfl) ?_)
    refine (codeOf_any _ cs Hm.out s _ [(q : Int)] _ (by omega) ?_).mono ?_
    · exact RdI.lit1 _ _ _ _ (by simp)
    rintro e w1 ⟨rfl, hb⟩
    rw [Hc.out]
    have B1 := hidd (bel_then ((bel_alloc w (.cells cs 27)).alloc (by simp) _) hb)
    have K1 := hidd (hp_bel (hp_old (hp_new rfl)) hb : w1.heap[w.heap.size]? = some (.cells cs 27 (0, 0)))
    clear hb
    go_wp2_with fail
    refine (lead_any g Hok.out _ 0 q _ s _ (Gm.At.of_is ⟨Hm.out⟩ K1.out) rfl Hq.out Hl.out (by omega)).mono ?_
    rintro e w2 ⟨rfl, hb⟩
    go_wp2
    go_ret2
    exact ⟨by rw [HR.out]; rfl, bel_then B1.out hb⟩
  · have HR : Hid (actR m a s = _) := hidd (if_neg hc)
    obtain ⟨c, hcc⟩ : ∃ c, codeB m s [a] = c := ⟨_, rfl⟩
    rw [hcc] at hc
    have h1 : (c == 0) = false := by simp [hc]
    have h2 : (c != 0) = true := by simp [hc]
    have Hc := hidd hcc
    clear hc hcc
    go_enter Try.func43, Try.ntmps43
    go_wp2_with (refine ldI rfl (.tmp 3) rfl w.heap.size rfl Hm.out (hp_new rfl) ?_)
    refine (codeOf_any _ cs Hm.out s _ [a] _ (by omega) ?_).mono ?_
    · exact RdI.lit1 _ _ _ _ (by simp)
    rintro e w1 ⟨rfl, hb⟩
    rw [Hc.out]
    go_wp2
    go_ret2
    exact ⟨by rw [HR.out, Hc.out]; rfl, bel_then ((bel_alloc w (.cells cs 27)).alloc (by simp) _) hb⟩
set_option maxHeartbeats 400000 in
theorem specSectionAt_any (m : Mc) (cs : Array Value) (hm : m.Is cs) (a : Int) (s : ByteArray) (w : World) (hs : s.size ≤ 1048576) :
    Calls Try.prog 44 #[.agg cs, .int .i64 a, .string s] w fun e w' => e = .returned (.tuple #[.int .i64 (secR m a s).1, .int .i64 (secR m a s).2]) ∧ Below w.heap.size w w' := by
  have Hm := hidd hm
  clear hm
  by_cases hc : codeB m s [a] = 0
  · obtain ⟨g, q, rfl, rfl, hok, hq, hl, h40⟩ := code_zero hc
    have HR : Hid (secR g.mc q s = _) := hidd (if_pos hc)
    have Hc := hidd hc
    have Hok := hidd hok
    have Hq := hidd hq
    have Hl := hidd hl
    clear hc hok hq hl
    go_enter Try.func44, Try.ntmps44
    go_wp2_with (refine ldI rfl (.tmp 3) rfl w.heap.size rfl Hm.out (hp_new rfl) ?_)
    refine (l01Code_any _ cs Hm.out _ s _ (by omega)).mono ?_
    rintro e w1 ⟨rfl, hb⟩
    rw [Hc.out]
    have B1 := hidd (bel_then (bel_alloc _ _) hb)
    have K1 := hidd (hp_bel (hp_new rfl) hb : w1.heap[w.heap.size]? = some (.cells cs 27 (0, 0)))
    clear hb
    go_wp2_with (refine ldI rfl (.tmp 3) rfl w.heap.size rfl Hm.out K1.out ?_)
    refine (l01Act_any g Hok.out cs ⟨Hm.out⟩ q _ s _ rfl Hq.out Hl.out (by omega) (by omega)).mono ?_
    rintro e w2 ⟨rfl, hb⟩
    go_wp2
    go_ret2
    exact ⟨by rw [HR.out]; rfl, bel_then B1.out hb⟩
  · have HR : Hid (secR m a s = _) := hidd (if_neg hc)
    obtain ⟨c, hcc⟩ : ∃ c, codeB m s [a] = c := ⟨_, rfl⟩
    rw [hcc] at hc
    have h1 : (c == 0) = false := by simp [hc]
    have h2 : (c != 0) = true := by simp [hc]
    have Hc := hidd hcc
    clear hc hcc
    go_enter Try.func44, Try.ntmps44
    go_wp2_with (refine ldI rfl (.tmp 3) rfl w.heap.size rfl Hm.out (hp_new rfl) ?_)
    refine (l01Code_any _ cs Hm.out _ s _ (by omega)).mono ?_
    rintro e w1 ⟨rfl, hb⟩
    rw [Hc.out]
    go_wp2
    go_ret2
    exact ⟨by rw [HR.out, Hc.out]; rfl, bel_then (bel_alloc _ _) hb⟩
set_option maxHeartbeats 400000 in
theorem implSectionAt_any (m : Mc) (cs : Array Value) (hm : m.Is cs) (a : Int) (s : ByteArray) (w : World) (hs : s.size ≤ 1048576) :
    Calls Try.prog 45 #[.agg cs, .int .i64 a, .string s] w fun e w' => e = .returned (.tuple #[.int .i64 (secR m a s).1, .int .i64 (secR m a s).2]) ∧ Below w.heap.size w w' := by
  have Hm := hidd hm
  clear hm
  by_cases hc : codeB m s [a] = 0
  · obtain ⟨g, q, rfl, rfl, hok, hq, hl, h40⟩ := code_zero hc
    have HR : Hid (secR g.mc q s = _) := hidd (if_pos hc)
    have Hc := hidd hc
    have Hok := hidd hok
    have Hq := hidd hq
    have Hl := hidd hl
    clear hc hok hq hl
    go_enter Try.func45, Try.ntmps45
    go_wp2_with (refine ldI rfl (.tmp 3) rfl w.heap.size rfl Hm.out (hp_new rfl) ?_)
    refine (codeOf_any _ cs Hm.out s _ [(q : Int)] _ (by omega) ?_).mono ?_
    · exact RdI.lit1 _ _ _ _ (by simp)
    rintro e w1 ⟨rfl, hb⟩
    rw [Hc.out]
    have B1 := hidd (bel_then ((bel_alloc w (.cells cs 27)).alloc (by simp) _) hb)
    have K1 := hidd (hp_bel (hp_old (hp_new rfl)) hb : w1.heap[w.heap.size]? = some (.cells cs 27 (0, 0)))
    clear hb
    go_wp2_with fail
    refine (lead_any g Hok.out _ 0 q _ s _ (Gm.At.of_is ⟨Hm.out⟩ K1.out) rfl Hq.out Hl.out (by omega)).mono ?_
    rintro e w2 ⟨rfl, hb⟩
    go_wp2
    go_ret2
    exact ⟨by rw [HR.out]; rfl, bel_then B1.out hb⟩
  · have HR : Hid (secR m a s = _) := hidd (if_neg hc)
    obtain ⟨c, hcc⟩ : ∃ c, codeB m s [a] = c := ⟨_, rfl⟩
    rw [hcc] at hc
    have h1 : (c == 0) = false := by simp [hc]
    have h2 : (c != 0) = true := by simp [hc]
    have Hc := hidd hcc
    clear hc hcc
    go_enter Try.func45, Try.ntmps45
    go_wp2_with (refine ldI rfl (.tmp 3) rfl w.heap.size rfl Hm.out (hp_new rfl) ?_)
    refine (codeOf_any _ cs Hm.out s _ [a] _ (by omega) ?_).mono ?_
    · exact RdI.lit1 _ _ _ _ (by simp)
    rintro e w1 ⟨rfl, hb⟩
    rw [Hc.out]
    go_wp2
    go_ret2
    exact ⟨by rw [HR.out, Hc.out]; rfl, bel_then ((bel_alloc w (.cells cs 27)).alloc (by simp) _) hb⟩
end Go.Proofs.Ytjnnbjlombopnaa
