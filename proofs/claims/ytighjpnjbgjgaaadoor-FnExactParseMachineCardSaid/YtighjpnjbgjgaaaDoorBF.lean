/- Small texts of the walks under one roof. -/
import Derived.Test.YtighjpnjbgjgaaaDoorBB
import Derived.Shelf.Strings.OnBuilder
import Derived.Test.YtighjpnjbgjgaaaDoorBE
import Derived.Test.YtighjpnjbgjgaaaDoorBA
/- strings.Join, by the shelf's contract. -/
namespace Go.Proofs
open Go.Shelf Go.RowKit
shelf_lay Lays.n156 Nm 156 at Tryd as Tryd.laysJoin
theorem Tryd.joinExtra : Builder.Extra Tryd.prog Tryd.laysJoin_ren where
  sizeBuilder := by kernel_rfl
  liesBuilder := by kernel_rfl
  t5 := Tryd.underlying5
  a5 := Tryd.isAgg5
  z5 := Tryd.sizeOf5
  v5 := Tryd.zeroValue5
  infoByte := by kernel_rfl
  cellsByte := by kernel_rfl
  sizeByte := by kernel_rfl
  neB5 := by decide
end Go.Proofs
namespace Go.Proofs.YtighjpnjbgjgaaaDoor
open Go.RowKit
theorem join_any (bk o c : Nat) (xs : List ByteArray) (sep : ByteArray) (w : World)
    (hcells : ∀ (j : Nat) x, xs[j]? = some x → w.cell? ⟨bk, o + j, none⟩ = some (.string x)) (hbk : bk < w.heap.size) (hN : xs.length ≤ 140737488355328) (hcap : xs.length ≤ c)
    (hlen : (Lib.join (xs.map (·.data.toList)) sep.data.toList).length ≤ 140737488355328) :
    Calls Tryd.prog 22 #[.slice (some ⟨bk, o, none⟩) xs.length c, .string sep] w fun e w' => e = .returned (.string ⟨(Lib.join (xs.map (·.data.toList)) sep.data.toList).toArray⟩) ∧ Below w.heap.size w w' :=
  Any.strings_Join Tryd.laysJoin Tryd.joinExtra bk o c xs sep w hcells hbk hN hcap hlen
end Go.Proofs.YtighjpnjbgjgaaaDoor

/- Walks: MachineText, of the program and of the reference. -/
namespace Go.Proofs.YtighjpnjbgjgaaaDoor
open Go.RowKit

/-! ### Plain laws -/
/-- The first k pairs of a state's row, as bytes. -/
def Gm.rowB (g : Gm) (q : Nat) : Nat → List Int
  | 0 => []
  | k + 1 => g.rowB q k ++ [48 + (g.ou q k : Int), 97 + (g.nx q k : Int)]
def spB (q : Nat) : List Int := if q = 0 then [] else [44]
def Gm.bodyB (g : Gm) : Nat → List Int
  | 0 => []
  | q + 1 => g.bodyB q ++ spB q ++ g.rowB q g.l
def Gm.hdB (g : Gm) : List Int := [48 + (g.l : Int), 58]
def Gm.txt (g : Gm) : ByteArray := strOfNums (g.hdB ++ g.bodyB g.s)
theorem Gm.rowB_len (g : Gm) (q : Nat) : ∀ k, (g.rowB q k).length = 2 * k
  | 0 => rfl
  | k + 1 => by rw [Gm.rowB, List.length_append, g.rowB_len q k]; simp; omega
theorem Gm.bodyB_len (g : Gm) : ∀ q, (g.bodyB q).length ≤ q * (2 * g.l + 1)
  | 0 => Nat.zero_le _
  | q + 1 => by
    have h1 := g.bodyB_len q
    have h2 : (spB q).length ≤ 1 := by unfold spB; split <;> simp
    rw [Gm.bodyB, List.length_append, List.length_append, g.rowB_len, Nat.succ_mul q (2 * g.l + 1)]
    omega
theorem Gm.bodyB_bd {g : Gm} (hok : g.Ok) {q : Nat} (hq : q ≤ g.s) : (g.bodyB q).length ≤ 112 := by
  have h1 := g.bodyB_len q
  have h2 : q * (2 * g.l + 1) ≤ 16 * 7 := Nat.mul_le_mul (by have := hok.s16; omega) (by have := hok.l3; omega)
  omega
theorem comma : (⟨#[44]⟩ : ByteArray) = strOfNums [44] := rfl
theorem colon : (⟨#[58]⟩ : ByteArray) = strOfNums [58] := rfl

theorem RdU.two {w : World} {g : Nat} {x y : Int} {t : TypeId} (h : w.heap[g]? = some (.cells #[.int .u8 x, .int .u8 y] t (0, 0))) : RdU w (.slice (some ⟨g, 0, none⟩) 2 2) [x, y] :=
  ⟨_, 2, rfl, by simp [u8s], fun _ => ⟨g, 0, rfl, fun j v hj => by
    match j, hj with
    | 0, hj => rw [blkc h]; simpa [u8s] using hj
    | 1, hj => rw [blkc h]; simpa [u8s] using hj⟩⟩

set_option linter.unusedSimpArgs false
end Go.Proofs.YtighjpnjbgjgaaaDoor

/- Walks: machineText of the program. -/
namespace Go.Proofs.YtighjpnjbgjgaaaDoor
open Go.RowKit

section
variable {P : Program} {w : World} {ops : Array Oper} {rest : List Oper} {o : Oper} {a : Act} {Q : Exit → Act → World → Prop}
/-- An append of a whole block, as one step of a region that draws. -/
theorem step_apps {K : Act → World → Prop} {E : Prop} (hgd : o.guard = none) (s x : Operand) (t : TypeId) (hop : o.op = .call { callee := .builtin .append, args := #[s, x], argTypes := #[t, t] }) (base : Nat) (e : TypeId) (z : Value) (bytes : Nat) (h1 : P.underlying t = some (.slice e))
    (hinfo : (P.info? e).map (fun i => (i.zero, i.size, i.bytes)) = some (some z, 1, bytes)) (hz : z.cells.size = 1) {v : Value} {us vs : List Value} {te : TypeId} {p n : Nat} (hown : Own w base e v vs) (hp : w.heap[p]? = some (.cells us.toArray te (0, 0))) (hn : us.length = n) (hs : a.eval s = v) (hx : a.eval x = .slice (some ⟨p, 0, none⟩) n n) (h1c : ∀ u ∈ us, u.oneCell' = true)
    (hlen : vs.length + n ≤ 1099511627776) (hby : bytes ≤ 64) (hbase : base ≤ w.heap.size)
    (hK : ∀ v' w', Own w' base e v' (vs ++ us) → w.grownBy w' v.ownBlock → w.heap.size ≤ w'.heap.size → Lies w.heap.size v v' → K (a.put o.dst v') w') :
    if Region.wanted o (yielded ops a.tmps) = true then Oper.wp P o a w K Q else E := by
  subst hn
  obtain ⟨i, hi, hz0, hz1, hz2⟩ := info_parts hinfo
  have hw : Region.wanted o (yielded ops a.tmps) = true := by simp [Region.wanted, hgd]
  rw [if_pos hw]
  obtain ⟨v', w', hr, h2, h3, h4, h5⟩ := run_append_own_at (P := P) w base t o.type e i z 1 bytes h1 hi hz0 hz1 hz2 hz (by decide) v vs.length vs hown ⟨p, 0, none⟩ us.length us.length us (by omega) (fun j y hj => by
    have hadd : (⟨p, 0, none⟩ : Addr).add j = ⟨p, j, none⟩ := by unfold Addr.add; split <;> simp_all
    rw [hadd, blkc hp]
    simpa using hj) h1c (by unfold maxLen; omega) (by
    have : (vs.length + us.length) * bytes ≤ 1099511627776 * 64 := Nat.mul_le_mul hlen hby
    omega) hbase
  have ho' : Own w' base e v' (vs ++ us) := by unfold Own; rw [List.length_append]; exact h2
  unfold Oper.wp execOp
  simp only [hop, resolve, invoke, builtin, Sem.run_bind, Sem.run_pure, Result.andThen_ok, List.map_toArray, List.map_cons, List.map_nil, hs, hx, hr]
  refine hK v' w' ho' h3 h3.size ?_
  rcases h5 with h | h
  · exact .inl h
  · exact .inr ⟨_, h, Nat.le_refl _⟩
end

/-! ### The rows joined -/
def bytesL (xs : List Int) : List UInt8 := (strOfNums xs).data.toList
theorem bytesL_append (xs ys : List Int) : bytesL (xs ++ ys) = bytesL xs ++ bytesL ys := by unfold bytesL; rw [strOfNums_append, ByteArray.data_append, Array.toList_append]
theorem join_snoc (xs : List (List UInt8)) (y sep : List UInt8) (h : xs ≠ []) : Lib.join (xs ++ [y]) sep = Lib.join xs sep ++ sep ++ y := by
  match xs, h with
  | x :: r, _ =>
    rw [List.cons_append, Lib.join_cons, Lib.join_cons]
    simp [Lib.joinTail]
def Gm.rowS (g : Gm) (q : Nat) : ByteArray := strOfNums (g.rowB q g.l)
def Gm.rowsL (g : Gm) (n : Nat) : List ByteArray := (List.range n).map g.rowS
theorem Gm.rowsL_len (g : Gm) (n : Nat) : (g.rowsL n).length = n := by simp [Gm.rowsL]
theorem Gm.body_join (g : Gm) : ∀ n, bytesL (g.bodyB (n + 1)) = Lib.join ((g.rowsL (n + 1)).map (·.data.toList)) [44]
  | 0 => by
    show bytesL ([] ++ spB 0 ++ g.rowB 0 g.l) = _
    simp [Gm.rowsL, Lib.join_one, spB, Gm.rowS, bytesL]
  | n + 1 => by
    have e : (g.rowsL (n + 1 + 1)).map (·.data.toList) = (g.rowsL (n + 1)).map (·.data.toList) ++ [(g.rowS (n + 1)).data.toList] := by
      simp [Gm.rowsL, List.range_succ]
    rw [e, join_snoc _ _ _ (by simp [Gm.rowsL, List.range_succ]), ← Gm.body_join g n, Gm.bodyB, bytesL_append, bytesL_append]
    rfl
theorem Gm.body_str (g : Gm) (n : Nat) : (⟨(Lib.join ((g.rowsL (n + 1)).map (·.data.toList)) [44]).toArray⟩ : ByteArray) = strOfNums (g.bodyB (n + 1)) := by
  rw [← g.body_join n]
  unfold bytesL
  rfl
def Gm.rws (g : Gm) : List Value := (List.range g.s).map fun q => .string (g.rowS q)
theorem Gm.rws_len (g : Gm) : g.rws.length = g.s := by simp [Gm.rws]
theorem Gm.rws_get (g : Gm) {q : Nat} (h : q < g.s) : g.rws[q]? = some (.string (g.rowS q)) := by simp [Gm.rws, h]

set_option linter.unusedSimpArgs false
set_option maxRecDepth 100000 in
set_option maxHeartbeats 1000000 in
theorem machineText_any (g : Gm) (hok : g.Ok) (cs : Array Value) (hm : g.Is cs) (w : World) :
    Calls Tryd.prog 11 #[.agg cs] w fun e w' => e = .returned (.string g.txt) ∧ Below w.heap.size w w' := by
  have HO := hidd hok
  have Hm := hidd hm
  have l3 := hok.l3
  have l2 := hok.l2
  have s16 := hok.s16
  have a1 := (Gm.At.of_is hm (hp_new (w := w) (o := .cells cs 25) rfl)).s
  rw [Nat.zero_add] at a1
  clear hok hm
  go_enter Tryd.func11, Tryd.ntmps11
  go_wp2_with (at_make; refine mk_own rfl _ _ _ rfl (w.heap.size + 1) 9 (.string ⟨#[]⟩) 16 Tryd.underlying34 info_str rfl g.s rfl rfl (by omega) (by omega) (by simp) ?_; intro w1 ho hg hlt; have K1 := hidd ((hg.block w.heap.size (by simp) (fun h => by cases h)).trans (hp_new rfl) : w1.heap[w.heap.size]? = some (.cells cs 25 (0, 0))); have B1 := hidd (bel_then (bel_alloc' w (.cells cs 25)) (bel_grown (Below.refl _ _) hg (Nat.le_refl _) (fun k e => by cases e))); have Ho := hidd ho; have a2 := (Gm.At.of_is Hm.out K1.out).s; rw [Nat.zero_add] at a2; clear ho hg)
  clear a1 a2
  have hsz : (w.alloc (.cells cs 25)).heap.size = w.heap.size + 1 := by simp
  rw [hsz] at Ho hlt
  have hHo := hidd (show Own w1 (w.heap.size + 1) 9 (.slice (some ⟨w.heap.size + 1, 0, none⟩) g.s g.s) (part g.rws g.s 0 (.string ⟨#[]⟩)) by rw [part_zero]; exact Ho.out)
  have HL := hidd g.rws_len
  clear Ho hsz
  go_loopw [12] (fun i wr => ∃ q : Nat, q ≤ g.s ∧ i = .int .i64 q ∧ Hid (Own wr (w.heap.size + 1) 9 (.slice (some ⟨w.heap.size + 1, 0, none⟩) g.s g.s) (part g.rws g.s q (.string ⟨#[]⟩))) ∧ Hid (Below (w.heap.size + 1) w1 wr)) (fun i _ => g.s - (intOf i).toNat)
  case atStart => exact ⟨0, Nat.zero_le _, rfl, hHo, hidd (Below.refl _ _)⟩
  case round =>
    clear hHo
    obtain ⟨q, hq, rfl, HT, Hb⟩ := hrel
    have KX := hidd (show wr.heap[w.heap.size]? = some (.cells cs 25 (0, 0)) from (Hb.out.block _ (by omega)).trans K1.out)
    by_cases hqs : q < g.s
    · have i1 : (q : Int) < g.s := by omega
      have a1 := (Gm.At.of_is Hm.out KX.out).l
      go_wp2_with fail
      clear a1
      go_loopw [5, 17] (fun t i wr => ∃ k : Nat, k ≤ g.l ∧ i = .int .i64 k ∧ Hid (Own wr (w.heap.size + 1) 5 t (u8s (g.rowB q k))) ∧ Hid (Own wr (w.heap.size + 1) 9 (.slice (some ⟨w.heap.size + 1, 0, none⟩) g.s g.s) (part g.rws g.s q (.string ⟨#[]⟩))) ∧ Hid (Below (w.heap.size + 1) w1 wr)) (fun _ i _ => g.l - (intOf i).toNat)
      case atStart => exact ⟨0, Nat.zero_le _, rfl, hidd (Own.nil _ _ _), HT, Hb⟩
      case round =>
        clear HT Hb KX
        obtain ⟨k, hk, rfl, HU, HT, Hb⟩ := hrel
        by_cases hkl : k < g.l
        · have i2 : (k : Int) < g.l := by omega
          have HX := hidd (show ∀ W : World, W.heap[w.heap.size]? = some (.cells cs 25 (0, 0)) → g.At W w.heap.size 0 from fun W hW => Gm.At.of_is Hm.out hW)
          have S0 := hidd (show wr.drew.heap[w.heap.size]? = some (.cells cs 25 (0, 0)) from (Hb.out.block _ (by omega)).trans K1.out)
          have j2 : (k : Int) < 3 := by omega
          have j3 : (0 : Int) ≤ k := by omega
          have j4 : (q : Int) < 16 := by omega
          have j5 : (0 : Int) ≤ q := by omega
          have A0 := HX.out _ S0.out
          have hn256 := A0.nb q k (by omega) (by omega)
          have hol := HO.out.olt q k hqs hkl
          have hnl := HO.out.nlt q k hqs hkl
          have HM := hidd (mout_any g w.heap.size 0 q k q k wr.drew A0 rfl rfl (by omega) (by omega))
          have r2 : IntKind.u8.wrap (97 + (g.nx q k : Int)) = 97 + (g.nx q k : Int) := IntWalk.u8_in _ (by omega)
          obtain ⟨y, hy⟩ : ∃ y, y = g.ou q k := ⟨_, rfl⟩
          obtain ⟨z, hz⟩ : ∃ z, z = g.nx q k := ⟨_, rfl⟩
          have HR := hidd (show u8s (g.rowB q (k + 1)) = u8s (g.rowB q k) ++ [.int .u8 (48 + (y : Int)), .int .u8 (97 + (z : Int))] by rw [Gm.rowB, u8s_append, hy, hz]; rfl)
          have HN := hidd (show ∀ W : World, W.heap[w.heap.size]? = some (.cells cs 25 (0, 0)) → W.cell? ⟨w.heap.size, 2 + q * 3 + k, none⟩ = some (.int .u8 (z : Nat)) from fun W hW => by have := (HX.out W hW).n q k (by omega) (by omega); rw [Nat.zero_add, ← hz] at this; exact this)
          rw [← hy] at HM
          rw [← hz] at r2 hn256
          clear A0 HX hz
          have hy3 : y < 3 := by omega
          clear hol hnl hy
          have HU0 := hidd (HU.out.below (drew_bel' wr))
          have HT0 := hidd (HT.out.below (drew_bel' wr))
          have Hb0 := hidd (show Below (w.heap.size + 1) w1 wr.drew from Hb.out.trans ((drew_bel' wr).mono (by have := Hb.out.size; omega)))
          clear HU HT Hb
          have hlen2 : (u8s (g.rowB q k)).length + 2 ≤ 1099511627776 := by rw [u8s_length, g.rowB_len]; omega
          go_wp2_with fail
          refine wp_region_held (S := fun w' => w'.heap[w.heap.size]? = some (.cells cs 25 (0, 0))) (by kernel_rfl) ?_
          change wpAnyH _ _ _ _ _ _ _ _ (World.drew _)
          refine wpAnyH_take (i := 0) (v := ?v0) rfl (by kernel_rfl) (by kernel_rfl) (by kernel_rfl) (fun _ _ _ h => h) (Or.inl ⟨by rfl, ?h0⟩) S0.out ?_
          case h0 => (intro w4 hS; have k2 := HN.out w4 hS; clear hS; go_simp; first | done | with_reducible rfl)
          simp only [Act.put, List.getElem_toArray, List.getElem_cons_succ, List.getElem_cons_zero, List.setIfInBounds_toArray, List.set_cons_zero, List.set_cons_succ]
          refine wpAnyH_take (i := 1) (v := ?v1) rfl (by kernel_rfl) (by kernel_rfl) (by kernel_rfl) (fun _ _ _ h => h) (Or.inl ⟨by rfl, ?h1⟩) S0.out ?_
          case h1 => (intro w4 hS; have k2 := HN.out w4 hS; clear hS; go_simp; first | done | with_reducible rfl)
          simp only [Act.put, List.getElem_toArray, List.getElem_cons_succ, List.getElem_cons_zero, List.setIfInBounds_toArray, List.set_cons_zero, List.set_cons_succ]
          refine wpAnyH_take (i := 2) (v := ?v2) rfl (by kernel_rfl) (by kernel_rfl) (by kernel_rfl) (fun _ _ _ h => h) (Or.inl ⟨by rfl, ?h2⟩) S0.out ?_
          case h2 => (intro w4 hS; have k2 := HN.out w4 hS; clear hS; go_simp; first | done | with_reducible rfl)
          simp only [Act.put, List.getElem_toArray, List.getElem_cons_succ, List.getElem_cons_zero, List.setIfInBounds_toArray, List.set_cons_zero, List.set_cons_succ]
          refine wpAnyH_take (i := 5) (v := ?v5) rfl (by kernel_rfl) (by kernel_rfl) (by kernel_rfl) (fun _ _ _ h => h) (Or.inl ⟨by rfl, ?h5⟩) S0.out ?_
          case h5 => (intro w4 hS; have k2 := HN.out w4 hS; clear hS; go_simp; first | done | with_reducible rfl)
          simp only [Act.put, List.getElem_toArray, List.getElem_cons_succ, List.getElem_cons_zero, List.setIfInBounds_toArray, List.set_cons_zero, List.set_cons_succ]
          refine wpAnyH_take (i := 6) (v := ?v6) rfl (by kernel_rfl) (by kernel_rfl) (by kernel_rfl) (fun _ _ _ h => h) (Or.inl ⟨by rfl, ?h6⟩) S0.out ?_
          case h6 => (intro w4 hS; have k2 := HN.out w4 hS; clear hS; go_simp; first | done | with_reducible rfl)
          simp only [Act.put, List.getElem_toArray, List.getElem_cons_succ, List.getElem_cons_zero, List.setIfInBounds_toArray, List.set_cons_zero, List.set_cons_succ]
          refine wpAnyH_take (i := 7) (v := ?v7) rfl (by kernel_rfl) (by kernel_rfl) (by kernel_rfl) (fun _ _ _ h => h) (Or.inl ⟨by rfl, ?h7⟩) S0.out ?_
          case h7 => (intro w4 hS; have k2 := HN.out w4 hS; clear hS; go_simp; first | done | with_reducible rfl)
          simp only [Act.put, List.getElem_toArray, List.getElem_cons_succ, List.getElem_cons_zero, List.setIfInBounds_toArray, List.set_cons_zero, List.set_cons_succ]
          refine wpAnyH_take (i := 8) (v := ?v8) rfl (by kernel_rfl) (by kernel_rfl) (by kernel_rfl) (fun _ _ _ h => h) (Or.inl ⟨by rfl, ?h8⟩) S0.out ?_
          case h8 => (intro w4 hS; have k2 := HN.out w4 hS; clear hS; go_simp; first | done | with_reducible rfl)
          simp only [Act.put, List.getElem_toArray, List.getElem_cons_succ, List.getElem_cons_zero, List.setIfInBounds_toArray, List.set_cons_zero, List.set_cons_succ]
          refine wpAnyH_take (i := 9) (v := ?v9) rfl (by kernel_rfl) (by kernel_rfl) (by kernel_rfl) (fun _ _ _ h => h) (Or.inl ⟨by rfl, ?h9⟩) S0.out ?_
          case h9 => (intro w4 hS; have k2 := HN.out w4 hS; clear hS; go_simp; first | done | with_reducible rfl)
          simp only [Act.put, List.getElem_toArray, List.getElem_cons_succ, List.getElem_cons_zero, List.setIfInBounds_toArray, List.set_cons_zero, List.set_cons_succ]
          refine wpAnyH_take (i := 10) (v := ?v10) rfl (by kernel_rfl) (by kernel_rfl) (by kernel_rfl) (fun _ _ _ h => h) (Or.inl ⟨by rfl, ?h10⟩) S0.out ?_
          case h10 => (intro w4 hS; have k2 := HN.out w4 hS; clear hS; go_simp; first | done | with_reducible rfl)
          simp only [Act.put, List.getElem_toArray, List.getElem_cons_succ, List.getElem_cons_zero, List.setIfInBounds_toArray, List.set_cons_zero, List.set_cons_succ]
          refine wpAnyH_take (i := 11) (v := ?v11) rfl (by kernel_rfl) (by kernel_rfl) (by kernel_rfl) (fun _ _ _ h => h) (Or.inl ⟨by rfl, ?h11⟩) S0.out ?_
          case h11 => (intro w4 hS; have k2 := HN.out w4 hS; clear hS; go_simp; first | done | with_reducible rfl)
          simp only [Act.put, List.getElem_toArray, List.getElem_cons_succ, List.getElem_cons_zero, List.setIfInBounds_toArray, List.set_cons_zero, List.set_cons_succ]
          refine wpAnyH_ready (rs := [3]) (by kernel_rfl) (by simp) (AllReadyH.cons rfl (fun K hK => ?_) AllReadyH.nil)
          go_simp
          refine HM.out.mono ?_
          rintro e w5 ⟨rfl, rfl⟩
          refine hK.out _ _ S0.out (fun _ => ?_)
          clear hK K HM
          refine wpAnyH_ready (rs := [4]) (by kernel_rfl) (by simp) (AllReadyH.cons rfl (fun K hK => ?_) AllReadyH.nil)
          go_simp
          refine (letter_any _ _ (by omega) (by omega)).mono ?_
          rintro e w5 ⟨rfl, rfl⟩
          refine hK.out _ _ S0.out (fun _ => ?_)
          clear hK K
          refine wpAnyH_ready (rs := [12]) (by kernel_rfl) (by simp) (AllReadyH.cons rfl (fun K hK => ?_) AllReadyH.nil)
          go_simp
          obtain ⟨w5, hw5⟩ : ∃ w5, w5 = (wr.alloc (.cells #[.int .u8 (48 + (y : Int)), .int .u8 (97 + (z : Int))] 5)).drew := ⟨_, rfl⟩
          have hz5 : wr.drew.heap.size = wr.heap.size := rfl
          have b5 : Below wr.drew.heap.size wr.drew w5 := by rw [hw5]; exact bel_alloc' wr.drew _
          have P5 := hidd (show w5.heap[wr.heap.size]? = some (.cells [.int .u8 (48 + (y : Int)), .int .u8 (97 + (z : Int))].toArray 5 (0, 0)) by rw [hw5]; exact hp_new rfl)
          have S5 := hidd (hp_bel S0.out b5)
          have HU5 := hidd (HU0.out.below b5)
          have HT5 := hidd (HT0.out.below b5)
          have Hb5 := hidd (Hb0.out.trans (b5.mono (by have := Hb0.out.size; omega)))
          rw [← hw5]
          refine hK.out _ _ S5.out (fun _ => ?_)
          clear hK K hw5 b5 hz5 HU0 HT0 Hb0 S0
          have hbase : w.heap.size + 1 ≤ w5.heap.size := by have := Hb5.out.size; omega
          refine wpAnyH_ready (rs := [13]) (by kernel_rfl) (by simp) (AllReadyH.cons rfl (fun K hK => ?_) AllReadyH.nil)
          refine step_apps rfl _ _ _ rfl (w.heap.size + 1) 5 (.int .u8 0) 1 Tryd.underlying43 info_u8 rfl HU5.out P5.out rfl rfl rfl (by simp [Value.oneCell']) hlen2 (by decide) hbase ?_
          intro v' w6 ho hgr hle hli
          have HU6 := hidd (show Own w6 (w.heap.size + 1) 5 v' (u8s (g.rowB q (k + 1))) by rw [HR.out]; exact ho)
          have HT6 := hidd (HT5.out.grown hgr (HT5.out.apart HU5.out (by decide)))
          have Hb6 := hidd (Hb5.out.trans (bel_own HU5.out hgr hbase))
          have S6 := hidd ((Hb6.out.block _ (by omega)).trans K1.out)
          clear ho hgr hle hli HU5 HT5 Hb5 P5 S5
          refine hK.out _ _ S6.out (fun _ => ?_)
          clear hK K
          refine wpAnyH_take (i := 14) (v := ?v14) rfl (by kernel_rfl) (by kernel_rfl) (by kernel_rfl) (fun _ _ _ h => h) (Or.inl ⟨by rfl, ?h14⟩) S6.out ?_
          case h14 => (intro w4 hS; clear hS; go_simp; first | done | with_reducible rfl)
          simp only [Act.put, List.getElem_toArray, List.getElem_cons_succ, List.getElem_cons_zero, List.setIfInBounds_toArray, List.set_cons_zero, List.set_cons_succ]
          refine wpAnyH_done (by kernel_rfl) ?_ _
          go_wp2_with fail
          go_roundw
          case rel => exact ⟨k + 1, by omega, by go_num, HU6, HT6, Hb6⟩
          case measure => first | (simp [intOf]; done) | (simp [intOf]; omega)
        · have he : k = g.l := by omega
          subst he
          clear hkl
          have hcv := run_toString HU.out.rdU
          rw [show strOfNums (g.rowB q g.l) = g.rowS q from rfl] at hcv
          have j4 : (q : Int) < 16 := by omega
          have j5 : (0 : Int) ≤ q := by omega
          have d1 := HT.out.cell (part_get g.rws g.s q (.string ⟨#[]⟩) HL.out hqs)
          have d2 := HT.out.frozen q
          go_wp2_with fail
          go_roundw
          case rel =>
            refine ⟨q + 1, by omega, by go_num, hidd ?_, hidd (Hb.out.setCell (by dsimp only; omega) _)⟩
            have := HT.out.store q (.string (g.rowS q))
            rwa [part_set g.rws g.s q (.string ⟨#[]⟩) _ HL.out hqs (g.rws_get hqs)] at this
          case measure => first | (simp [intOf]; done) | (simp [intOf]; omega)
    · have he : q = g.s := by omega
      subst he
      clear hqs
      have hTs := HT.out
      rw [part_all _ _ _ HL.out] at hTs
      have HTs := hidd (hTs.below (drew_bel' wr))
      clear hTs HT
      obtain ⟨n, hn⟩ : ∃ n, g.s = n + 1 := ⟨g.s - 1, by have := HO.out.s1; omega⟩
      have HJ := hidd (show ∀ W : World, Below wr.drew.heap.size wr.drew W → Calls Tryd.prog 22 #[.slice (some ⟨w.heap.size + 1, 0, none⟩) g.s g.s, .string ⟨#[44]⟩] W fun e w' => e = .returned (.string (strOfNums (g.bodyB g.s))) ∧ Below W.heap.size W w' from fun W hW => by
        have h1 := HTs.out.below hW
        have hlt2 := h1.block (w.heap.size + 1) rfl
        have h := join_any (w.heap.size + 1) 0 g.s (g.rowsL g.s) ⟨#[44]⟩ W (fun j x hj => by
          have hjl : j < g.s := by
            have := (List.getElem?_eq_some_iff.1 hj).1
            rwa [g.rowsL_len] at this
          have hx : x = g.rowS j := by
            have : (g.rowsL g.s)[j]? = some (g.rowS j) := by simp [Gm.rowsL, hjl]
            rw [this] at hj
            exact (Option.some.inj hj).symm
          rw [hx, Nat.zero_add]
          exact h1.cell (g.rws_get hjl)) hlt2.2 (by rw [g.rowsL_len]; omega) (by rw [g.rowsL_len]; omega) (by
          show (Lib.join ((g.rowsL g.s).map (·.data.toList)) [44]).length ≤ _
          rw [hn, ← g.body_join n]
          have hb := Gm.bodyB_bd HO.out (q := g.s) (Nat.le_refl _)
          rw [hn] at hb
          have e : (bytesL (g.bodyB (n + 1))).length = (strOfNums (g.bodyB (n + 1))).size := rfl
          rw [e, strOfNums_size]
          omega)
        rw [g.rowsL_len] at h
        refine h.mono ?_
        rintro e w' ⟨rfl, hb⟩
        refine ⟨?_, hb⟩
        have := g.body_str n
        rw [← hn] at this
        exact congrArg (fun s => Ending.returned (.string s)) this)
      have HC := hidd (show strOfNums g.hdB ++ strOfNums (g.bodyB g.s) = g.txt by unfold Gm.txt; rw [strOfNums_append])
      have HZ := hidd (show ¬ 9223372036854775807 < (strOfNums g.hdB).size + (strOfNums (g.bodyB g.s)).size by
        have hb := Gm.bodyB_bd HO.out (q := g.s) (Nat.le_refl _)
        have : g.hdB.length = 2 := rfl
        rw [strOfNums_size, strOfNums_size]; omega)
      have HX := hidd (show ∀ W : World, Below wr.drew.heap.size wr.drew W → W.cell? ⟨w.heap.size, 0, none⟩ = some (.int .i64 g.l) from fun W hW => (Gm.At.of_is Hm.out (hp_bel (show wr.drew.heap[w.heap.size]? = some (.cells cs 25 (0, 0)) from KX.out) hW)).l)
      have S0 := hidd (Below.refl wr.drew.heap.size wr.drew)
      clear hn KX HTs hq
      go_wp2_with fail
      refine wp_region_held (S := fun W => Below wr.drew.heap.size wr.drew W) (by kernel_rfl) ?_
      change wpAnyH _ _ _ _ _ _ _ _ (World.drew _)
      refine wpAnyH_take (i := 0) (v := ?u0) rfl (by kernel_rfl) (by kernel_rfl) (by kernel_rfl) (fun _ _ _ h => h) (Or.inl ⟨by rfl, ?g0⟩) S0.out ?_
      case g0 => (intro w4 hS; have k2 := HX.out w4 hS; clear hS; go_simp; first | done | with_reducible rfl)
      simp only [Act.put, List.getElem_toArray, List.getElem_cons_succ, List.getElem_cons_zero, List.setIfInBounds_toArray, List.set_cons_zero, List.set_cons_succ]
      refine wpAnyH_take (i := 1) (v := ?u1) rfl (by kernel_rfl) (by kernel_rfl) (by kernel_rfl) (fun _ _ _ h => h) (Or.inl ⟨by rfl, ?g1⟩) S0.out ?_
      case g1 => (intro w4 hS; have k2 := HX.out w4 hS; clear hS; go_simp; first | done | with_reducible rfl)
      simp only [Act.put, List.getElem_toArray, List.getElem_cons_succ, List.getElem_cons_zero, List.setIfInBounds_toArray, List.set_cons_zero, List.set_cons_succ]
      refine wpAnyH_take (i := 5) (v := ?u5) rfl (by kernel_rfl) (by kernel_rfl) (by kernel_rfl) (fun _ _ _ h => h) (Or.inl ⟨by rfl, ?g5⟩) S0.out ?_
      case g5 => (intro w4 hS; have k2 := HX.out w4 hS; clear hS; go_simp; first | done | with_reducible rfl)
      simp only [Act.put, List.getElem_toArray, List.getElem_cons_succ, List.getElem_cons_zero, List.setIfInBounds_toArray, List.set_cons_zero, List.set_cons_succ]
      refine wpAnyH_ready (rs := [2]) (by kernel_rfl) (by simp) (AllReadyH.cons rfl (fun K hK => ?_) AllReadyH.nil)
      go_simp
      refine (letter_any _ _ (by omega) (by omega)).mono ?_
      rintro e w5 ⟨rfl, rfl⟩
      refine hK.out _ _ S0.out (fun _ => ?_)
      clear hK K
      refine wpAnyH_grow (fun _ _ h1 h2 => bel_then h2 h1) 1 #[true, true, true, true, true, true, true, true, false] [⟨3, 44, false, fun v w => ∃ b, v = .slice (some ⟨b, 0, none⟩) 2 2 ∧ w.heap[b]? = some (.cells #[.int .u8 (48 + (g.l : Int)), .int .u8 58] 5 (0, 0)), fun v w w' hb ⟨g, e, h⟩ => ⟨g, e, hp_bel h hb⟩⟩, Ft.val 4 45 (.string (strOfNums g.hdB)), Ft.val 6 47 (.string (strOfNums (g.bodyB g.s))), Ft.val 7 48 (.string g.txt)] [3, 4, 6, 7] [44, 45, 47, 48] rfl rfl (by kernel_rfl) ?_ S0.out ?_
      · simp only [List.forall_mem_cons]
        refine ⟨?_, ?_, ?_, ?_, fun _ h => by cases h⟩
        · refine ⟨_, rfl, rfl, fun u w2 hS hb hf K hK => ?_⟩
          simp only [putT, List.map_cons, List.map_nil, Ft.val, putF, List.foldl_cons, List.foldl_nil, Act.put, List.setIfInBounds_toArray, List.set_cons_zero, List.set_cons_succ] at hK ⊢
          clear hS hf
          go_simp
          exact hK _ _ (bel_alloc' _ _) ⟨_, rfl, hp_new rfl⟩ (fun h => by cases h)
        · refine ⟨_, rfl, rfl, fun u w2 hS hb hf K hK => ?_⟩
          obtain ⟨gb, e21, h21⟩ := fs_at hf 0 _ rfl (by kernel_rfl)
          have e21' : u 44 = .slice (some ⟨gb, 0, none⟩) 2 2 := e21
          have hcv := run_toString (RdU.two h21)
          simp only [putT, List.map_cons, List.map_nil, Ft.val, putF, List.foldl_cons, List.foldl_nil, Act.put, List.setIfInBounds_toArray, List.set_cons_zero, List.set_cons_succ] at hK ⊢
          rw [e21'] at hK ⊢
          clear hS hf e21 e21'
          go_simp
          exact hK _ _ (Below.refl _ _) rfl (fun h => by cases h)
        · refine ⟨_, rfl, rfl, fun u w2 hS hb hf K hK => ?_⟩
          simp only [putT, List.map_cons, List.map_nil, Ft.val, putF, List.foldl_cons, List.foldl_nil, Act.put, List.setIfInBounds_toArray, List.set_cons_zero, List.set_cons_succ] at hK ⊢
          clear hf
          go_simp
          refine (HJ.out w2 hS).mono ?_
          rintro e w3 ⟨rfl, hb3⟩
          exact hK _ _ hb3 rfl (fun h => by cases h)
        · refine ⟨_, rfl, rfl, fun u w2 hS hb hf K hK => ?_⟩
          have e15 : u 45 = .string (strOfNums g.hdB) := fs_at hf 1 _ rfl (by kernel_rfl)
          have e22 : u 47 = .string (strOfNums (g.bodyB g.s)) := fs_at hf 2 _ rfl (by kernel_rfl)
          simp only [putT, List.map_cons, List.map_nil, Ft.val, putF, List.foldl_cons, List.foldl_nil, Act.put, List.setIfInBounds_toArray, List.set_cons_zero, List.set_cons_succ] at hK ⊢
          rw [e15, e22] at hK ⊢
          clear hS hf e15 e22
          go_simp
          rw [if_neg HZ.out, HC.out]
          exact hK _ _ (Below.refl _ _) rfl (fun h => by cases h)
      · intro u w2 hS hb hf hne
        have e23 : u 48 = .string g.txt := fs_all hf 3 _ rfl
        have hsz := Hb.out.size
        have hb2 := hidd (B1.out.trans (((Hb.out.trans ((drew_bel' wr).mono (by omega))).trans (hb.mono (show w.heap.size + 1 ≤ wr.drew.heap.size from (by omega : w.heap.size + 1 ≤ wr.heap.size)))).mono (by omega)))
        clear hsz
        simp only [putT, List.map_cons, List.map_nil, Ft.val, putF, List.foldl_cons, List.foldl_nil, Act.put, List.setIfInBounds_toArray, List.set_cons_zero, List.set_cons_succ, List.getElem_toArray, List.getElem_cons_succ, List.getElem_cons_zero, e23]
        clear hf hne e23 hb
        refine wpAnyH_take (i := 8) (v := ?v8z) rfl (by kernel_rfl) (by kernel_rfl) (by kernel_rfl) (fun _ _ _ h => h) (Or.inl ⟨by rfl, ?h8z⟩) hS ?_
        case h8z => (intro w2 hS; clear hS; go_simp; first | done | with_reducible rfl)
        simp only [Act.put, List.getElem_toArray, List.getElem_cons_succ, List.getElem_cons_zero, List.setIfInBounds_toArray, List.set_cons_zero, List.set_cons_succ]
        refine wpAnyH_done (by kernel_rfl) ?_ _
        go_wp2_with fail
        go_ret
        exact ⟨rfl, hb2.out⟩

/-! ### MachineText -/
def mtxR (m : Mc) : ByteArray × Int := if m.ok = true then (m.gm.txt, 0) else (⟨#[]⟩, 1)
end Go.Proofs.YtighjpnjbgjgaaaDoor
