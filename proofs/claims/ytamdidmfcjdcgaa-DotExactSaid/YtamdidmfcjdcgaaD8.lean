/- The machine's operations, as those over plain values: copy, clear, make, literals, slicing, places. No condition. -/
import Derived.Test.YtamdidmfcjdcgaaD7
set_option linter.unusedVariables false
set_option linter.unusedSectionVars false
set_option linter.unusedSimpArgs false
set_option linter.constructorNameAsVariable false
namespace Go.Proofs.Ytamdidmfcjdcgaa.D
open Go Go.RowKit

section
variable {P : Program} {n0 : Nat} {w : World} {own : Nat → Option Nat} {loc : Loc} {ob : OB} {nid : Nat} [Bk]

theorem rowsOf_sub {ob0 ob : OB} {xv : V} {xs : List (List V)} (hsub : ∀ id o, ob0 id = some o → ob id = some o) (h : rowsOf ob0 xv = some xs) : rowsOf ob xv = some xs := by
  cases xv with
  | sl id off len =>
    simp only [rowsOf] at h ⊢
    cases h0 : ob0 id with
    | none => simp [h0] at h
    | some X => rw [hsub id X h0]; rw [h0] at h; exact h
  | _ => exact h

/-- The element's size at a slice type. -/
def elSz (P : Program) (t : TypeId) : Option Nat := (sliceEl P t).bind fun e => (P.info? e).map (·.size)

theorem elSz_spec {t : TypeId} {k : Nat} (h : elSz P t = some k) : ∃ e i, P.underlying t = some (.slice e) ∧ P.info? e = some i ∧ i.size = k := by
  unfold elSz sliceEl at h
  split at h
  · rename_i e h1
    simp only [Option.bind_some] at h
    cases h2 : P.info? e with
    | none => simp [h2] at h
    | some i => simp [h2] at h; exact ⟨e, i, h1, h2, h⟩
  · simp at h

theorem take_flat : ∀ (l : List (List V)) (k n : Nat), (∀ ch ∈ l, ch.length = k) → (l.take n).flatten = l.flatten.take (n * k)
  | [], k, n, _ => by simp
  | r :: l, k, 0, _ => by simp
  | r :: l, k, n + 1, h => by
    have hr := h r (by simp)
    have ih := take_flat l k n (fun ch hc => h ch (by simp [hc]))
    rw [List.take_succ_cons, List.flatten_cons, List.flatten_cons, ih, Nat.add_mul, Nat.one_mul, Nat.add_comm (n * k), ← hr, List.take_length_add_append]

theorem take_okRow {xs : List (List V)} {k n : Nat} (h : xs.all (okRow k) = true) : (xs.take n).all (okRow k) = true :=
  List.all_eq_true.2 fun ch hc => List.all_eq_true.1 h ch (List.mem_of_mem_take hc)

/-- The first rows of what is read. -/
theorem rows_take (hwf : WF n0 w own loc ob) {v : V} {x : Value} {rows : List (List V)} {k n : Nat} (hn : n ≤ rows.length) (hv : rowsOf ob v = some rows) (hk : rows.all (okRow k) = true)
    (hx : RV w (okf own n0 w.heap.size) loc v x) :
    ∃ a cap ys, x = .slice a rows.length cap ∧ ys.length = n * k ∧ RVs w (okf own n0 w.heap.size) loc (rows.take n).flatten ys ∧ (∀ y ∈ ys, y.oneCell' = true) ∧
      (Builtin.firstCells k n x).run P w = .ok ys.toArray w := by
  obtain ⟨a, cap, ys, h1, h2, h3, h4, h5⟩ := rows_src (P := P) hwf hv hk hx
  obtain ⟨hlen, hleaf⟩ := okRow_spec hk
  have hnk : n * k ≤ ys.length := by rw [h2]; exact Nat.mul_le_mul_right _ hn
  refine ⟨a, cap, ys.take (n * k), h1, by rw [List.length_take]; omega, ⟨by rw [take_flat _ _ _ hlen, List.length_take, List.length_take, h3.1], fun i v x hv hx => ?_⟩, fun y hy => h4 y (List.mem_of_mem_take hy), ?_⟩
  · rw [take_flat _ _ _ hlen, List.getElem?_take] at hv
    rw [List.getElem?_take] at hx
    split at hv
    · rename_i hi
      rw [if_pos hi] at hx
      exact h3.2 i v x hv hx
    · cases hv
  · subst h1
    cases a with
    | none =>
      simp [Builtin.firstCells] at h5 ⊢
      subst h5; simp
    | some a =>
      simp only [Builtin.firstCells] at h5 ⊢
      have aux : ∀ (m : Nat) (l : List Value) (i : Nat) (acc : Array Value), l.length = m → (loadCellsFrom a i m acc).run P w = .ok (acc ++ l.toArray) w → ∀ m', m' ≤ m → (loadCellsFrom a i m' acc).run P w = .ok (acc ++ (l.take m').toArray) w := by
        intro m
        induction m with
        | zero => intro l i acc hl h m' hm'; obtain rfl : m' = 0 := by omega
                  simp [loadCellsFrom]
        | succ m ih =>
          intro l i acc hl h m' hm'
          cases m' with
          | zero => simp [loadCellsFrom]
          | succ m' =>
            cases l with
            | nil => simp at hl
            | cons y l =>
              simp only [loadCellsFrom, Sem.run_bind] at h ⊢
              cases hld : (load (a.add i)).run P w with
              | halt e w' => rw [hld] at h; simp at h
              | ok z w' =>
                rw [hld] at h
                simp only [Result.andThen_ok] at h ⊢
                have hw' : w' = w := by
                  rw [run_load] at hld
                  split at hld
                  · injection hld with _ h2; exact h2.symm
                  · split at hld
                    · injection hld with _ h2; exact h2.symm
                    · cases hld
                subst hw'
                have hsize : ∀ n i (acc : Array Value) r, (loadCellsFrom a i n acc).run P w' = .ok r w' → ∃ t : List Value, r = acc ++ t.toArray := by
                  intro n
                  induction n with
                  | zero => intro i acc r h; simp [loadCellsFrom] at h; exact ⟨[], by simp [h]⟩
                  | succ n ihn =>
                    intro i acc r h
                    simp only [loadCellsFrom, Sem.run_bind] at h
                    cases hl2 : (load (a.add i)).run P w' with
                    | halt e w'' => rw [hl2] at h; simp at h
                    | ok z2 w'' =>
                      rw [hl2] at h; simp only [Result.andThen_ok] at h
                      have hw2 : w'' = w' := by
                        rw [run_load] at hl2
                        split at hl2
                        · injection hl2 with _ h2; exact h2.symm
                        · split at hl2
                          · injection hl2 with _ h2; exact h2.symm
                          · cases hl2
                      rw [hw2] at h
                      obtain ⟨t, ht⟩ := ihn _ _ _ h
                      exact ⟨z2 :: t, by rw [ht]; simp⟩
                obtain ⟨t, ht⟩ := hsize _ _ _ _ h
                have hzt : y :: l = z :: t := by
                  have : acc.toList ++ (y :: l) = acc.toList ++ (z :: t) := by
                    have := congrArg Array.toList ht
                    simpa using this
                  exact List.append_cancel_left this
                injection hzt with hy hl'
                subst hy
                have := ih l (i + 1) (acc.push y) (by simpa using hl) (by rw [h]; simp) m' (by omega)
                rw [this]; simp
      have := aux (rows.length * k) ys 0 #[] (by rw [h2]) (by simpa [loadCells] using h5) (n * k) (Nat.mul_le_mul_right _ hn)
      simpa [loadCells] using this

/-- copy. -/
theorem copy_does (hwf : WF n0 w own loc ob) {ts : Array TypeId} {k : Nat} {t0 : TypeId} (ht0 : ts[0]? = some t0) (ht : elSz P t0 = some k) (ty : TypeId) {d x : Value} {dv xv r : V} {us : Ups} {ob0 : OB}
    (hsub : ∀ id o, ob0 id = some o → ob id = some o)
    (hd : RV w (okf own n0 w.heap.size) loc dv d) (hx : RV w (okf own n0 w.heap.size) loc xv x) (hop : opF (.cpy k) [dv, xv] ob0 nid = some (r, us)) :
    ∃ y w', (Builtin.copy_ ts ty #[d, x]).run P w = .ok y w' ∧ RV w' (okf own n0 w'.heap.size) loc r y ∧ WF n0 w' own loc (apps ob us) ∧ Stp w own loc w' own loc := by
  obtain ⟨e, i, hu, hi, hik⟩ := elSz_spec ht
  simp only [opF] at hop
  cases hrows : rowsOf ob0 xv with
  | none => simp [hrows] at hop
  | some xs =>
  simp only [hrows, Option.bind_some] at hop
  have hrows' := rowsOf_sub hsub hrows
  split at hop
  case isFalse => cases hop
  rename_i hk
  obtain ⟨hxl, hxf⟩ := okRow_spec hk
  have nilcase : ∀ (a : Option Addr) (c : Nat), d = .slice a 0 c → r = .c (.int .i64 0) → us = [] → ∃ y w', (Builtin.copy_ ts ty #[d, x]).run P w = .ok y w' ∧ RV w' (okf own n0 w'.heap.size) loc r y ∧ WF n0 w' own loc (apps ob us) ∧ Stp w own loc w' own loc := by
    rintro a c rfl rfl rfl
    obtain ⟨xa, xc, ys, rfl, _⟩ := rows_src (P := P) hwf hrows' hk hx
    refine ⟨.int .i64 0, w, ?_, .c _, hwf, .refl _ _ _⟩
    have hf : (Builtin.firstCells i.size 0 (.slice xa xs.length xc)).run P w = .ok #[] w := by
      cases xa <;> simp [Builtin.firstCells, loadCells, loadCellsFrom]
    cases a <;> simp [Builtin.copy_, ht0, run_underlying hu, size_of hi, Builtin.lenOf, hf, storeCells, goInt]
  cases dv with
  | z => obtain ⟨a, rfl⟩ := hd.z_inv; simp only at hop; injection hop with hop; injection hop with h1 h2; exact nilcase _ _ rfl h1.symm h2.symm
  | im f l =>
    cases l with
    | nil =>
      simp only at hop; injection hop with hop; injection hop with h1 h2
      cases hd with
      | e f a cap h => exact nilcase _ _ rfl h1.symm h2.symm
      | im f l k' b off n cap ys hn hk' hc ho h0 h => subst hn; exact nilcase _ _ rfl h1.symm h2.symm
    | cons _ _ => simp at hop
  | sl id off len =>
    simp only at hop
    cases hX0 : ob0 id with
    | none => simp [hX0] at hop
    | some X =>
    simp only [hX0, Option.bind_some] at hop
    have hX := hsub id X hX0
    split at hop
    case isFalse => cases hop
    rename_i hcond
    obtain ⟨hXk, hfit⟩ := hcond
    injection hop with hop; injection hop with h1 h2; subst h1; subst h2
    obtain ⟨p, hp, hor, hcap, rfl⟩ := sl_at hwf hX hd
    have hpk : p.k = k := by rw [← hor.k]; exact hXk
    obtain ⟨xa, xc, ys, rfl, hyl, hyr, hy1, hrun⟩ := rows_take (P := P) hwf (n := min xs.length len) (Nat.min_le_left _ _) hrows' hk hx
    have htk : xs.take (min xs.length len) = xs.take len := by
      rw [List.take_eq_take_iff]; omega
    rw [htk] at hyr
    obtain ⟨w', hst, ⟨h1, h2⟩, _⟩ := over_run (P := P) hwf hX hp hor (at_ := off) (xs := xs.take len) (ys := ys) (by omega) (by rw [List.length_take]; omega) (fun ch hc => by rw [hpk]; exact hxl ch (List.mem_of_mem_take hc)) hyr hy1
    refine ⟨.int .i64 (min xs.length len : Nat), w', ?_, .c _, by rw [← hXk]; exact h1, h2⟩
    subst hik
    have e1 : Nat.min xs.length len = min xs.length len := rfl
    simp [Builtin.copy_, ht0, run_underlying hu, size_of hi, Builtin.lenOf, e1, hrun, hst, goInt]
  | _ => simp at hop

/-- clear. -/
theorem clear_does (hwf : WF n0 w own loc ob) {ts : Array TypeId} {k : Nat} {t0 : TypeId} {z : List V} (ht0 : ts[0]? = some t0) (ht : elSz P t0 = some k) (hz : (sliceEl P t0).bind (zeroOf P) = some z) (hzk : okRow k z = true) (ty : TypeId) {d : Value} {dv r : V} {us : Ups} {ob0 : OB}
    (hsub : ∀ id o, ob0 id = some o → ob id = some o)
    (hd : RV w (okf own n0 w.heap.size) loc dv d) (hop : opF (.clr k z) [dv] ob0 nid = some (r, us)) :
    ∃ y w', (Builtin.clear_ ts ty #[d]).run P w = .ok y w' ∧ RV w' (okf own n0 w'.heap.size) loc r y ∧ WF n0 w' own loc (apps ob us) ∧ Stp w own loc w' own loc := by
  obtain ⟨e, i, hu, hi, hik⟩ := elSz_spec ht
  have hse : sliceEl P t0 = some e := by simp [sliceEl, hu]
  rw [hse] at hz
  simp only [Option.bind_some, zeroOf, hi] at hz
  cases hzv : i.zero with
  | none => simp [hzv] at hz
  | some zv =>
  simp only [hzv, Option.bind_some] at hz
  cases hzl : toVs zv.cells.toList with
  | none => simp [hzl] at hz
  | some zl =>
  simp only [hzl, Option.bind_some] at hz
  split at hz
  case isFalse => cases hz
  rename_i hzs
  injection hz with hz
  have hz' : zl = z := hz
  subst hz'
  simp only [opF] at hop
  have htup : RV w (okf own n0 w.heap.size) loc (.tp []) (.tuple #[]) := .tp [] [] rfl (fun i v x h => by cases h)
  have nilcase : ∀ (a : Option Addr) (c : Nat), d = .slice a 0 c → r = .tp [] → us = [] → ∃ y w', (Builtin.clear_ ts ty #[d]).run P w = .ok y w' ∧ RV w' (okf own n0 w'.heap.size) loc r y ∧ WF n0 w' own loc (apps ob us) ∧ Stp w own loc w' own loc := by
    rintro a c rfl rfl rfl
    refine ⟨.tuple #[], w, ?_, htup, hwf, .refl _ _ _⟩
    cases a <;> simp [Builtin.clear_, ht0, run_underlying hu]
  cases dv with
  | z => obtain ⟨a, rfl⟩ := hd.z_inv; simp only at hop; injection hop with hop; injection hop with h1 h2; exact nilcase _ _ rfl h1.symm h2.symm
  | im f l =>
    cases l with
    | nil =>
      simp only at hop; injection hop with hop; injection hop with h1 h2
      cases hd with
      | e f a cap h => exact nilcase _ _ rfl h1.symm h2.symm
      | im f l k' b off n cap ys hn hk' hc ho h0 h => subst hn; exact nilcase _ _ rfl h1.symm h2.symm
    | cons _ _ => simp at hop
  | sl id off len =>
    simp only at hop
    cases hX0 : ob0 id with
    | none => simp [hX0] at hop
    | some X =>
    simp only [hX0, Option.bind_some] at hop
    have hX := hsub id X hX0
    split at hop
    case isFalse => cases hop
    rename_i hcond
    obtain ⟨hXk, hfit⟩ := hcond
    injection hop with hop; injection hop with h1 h2; subst h1; subst h2
    obtain ⟨p, hp, hor, hcap, rfl⟩ := sl_at hwf hX hd
    have hpk : p.k = k := by rw [← hor.k]; exact hXk
    simp only [okRow, Bool.and_eq_true, beq_iff_eq] at hzk
    obtain ⟨hzr, _⟩ := toVs_rv (w := w) (ok := okf own n0 w.heap.size) (loc := loc) hzl
    have hzsz : zv.cells.size = k := by have := hzr.1; simp at this; rw [this]; exact hzk.1
    have hys : RVs w (okf own n0 w.heap.size) loc (List.replicate len zl).flatten (List.replicate len zv.cells.toList).flatten := by
      have hlz : ∀ n, (List.replicate n zl).flatten.length = n * k := fun n => by simp [hzk.1]
      have hlv : ∀ n, (List.replicate n zv.cells.toList).flatten.length = n * k := fun n => by simp [hzsz]
      refine ⟨by rw [hlz, hlv], fun q v x h1 h2 => ?_⟩
      have aux : ∀ (n q : Nat), (List.replicate n zl).flatten[q]? = some v → (List.replicate n zv.cells.toList).flatten[q]? = some x → RV w (okf own n0 w.heap.size) loc v x := by
        intro n
        induction n with
        | zero => intro q h; simp at h
        | succ n ih =>
          intro q h1 h2
          rw [List.replicate_succ, List.flatten_cons] at h1 h2
          by_cases hq : q < k
          · rw [List.getElem?_append_left (by rw [hzk.1]; exact hq)] at h1
            rw [List.getElem?_append_left (by simpa [hzsz] using hq)] at h2
            exact hzr.2 q v x h1 h2
          · rw [List.getElem?_append_right (by rw [hzk.1]; omega), hzk.1] at h1
            rw [List.getElem?_append_right (by simp [hzsz]; omega)] at h2
            simp only [Array.length_toList, hzsz] at h2
            exact ih _ h1 h2
      exact aux len q h1 h2
    have hzc : (Builtin.zeroCells zv.cells len).toList = (List.replicate len zv.cells.toList).flatten := by
      apply List.ext_getElem?
      intro q
      have hlv : (List.replicate len zv.cells.toList).flatten.length = len * k := by simp [hzsz]
      by_cases hq : q < len * k
      · have hk0 : 0 < k := Nat.pos_of_ne_zero (by rintro rfl; simp at hq)
        have hm := Nat.mod_lt q hk0
        have hqd : q / k < len := (Nat.div_lt_iff_lt_mul hk0).2 hq
        have e2 : q = q / k * k + q % k := by have := Nat.div_add_mod q k; rw [Nat.mul_comm] at this; omega
        have hr : (List.replicate len zv.cells.toList).flatten[q]? = zv.cells.toList[q % k]? := by
          have aux : ∀ (n i : Nat), i < n → (List.replicate n zv.cells.toList).flatten[i * k + q % k]? = zv.cells.toList[q % k]? := by
            intro n
            induction n with
            | zero => intro i h; omega
            | succ n ih =>
              intro i h
              rw [List.replicate_succ, List.flatten_cons]
              cases i with
              | zero => rw [List.getElem?_append_left (by simp [hzsz]; exact hm)]; simp
              | succ i =>
                rw [List.getElem?_append_right (by simp [hzsz, Nat.add_mul]; omega)]
                have : (i + 1) * k + q % k - zv.cells.toList.length = i * k + q % k := by simp [hzsz, Nat.add_mul]; omega
                rw [this]; exact ih i (by omega)
          have := aux len (q / k) hqd
          rw [← e2] at this; exact this
        rw [hr]
        simp [Builtin.zeroCells, hzsz, hq, hm]
      · rw [List.getElem?_eq_none (by simp [Builtin.zeroCells, hzsz]; omega), List.getElem?_eq_none (by omega)]
    have hy1 : ∀ y ∈ (List.replicate len zv.cells.toList).flatten, y.oneCell' = true := rvs_one (rows := List.replicate len zl) (fun ch hc => by rw [List.eq_of_mem_replicate hc]; exact hzk.2) hys
    obtain ⟨w', hst, ⟨h1, h2⟩, _⟩ := over_run (P := P) hwf hX hp hor (at_ := off) (xs := List.replicate len zl) (by omega) (by simp; omega) (fun ch hc => by rw [List.eq_of_mem_replicate hc, hpk]; exact hzk.1) hys hy1
    refine ⟨.tuple #[], w', ?_, htup.stp h2, by rw [← hXk]; exact h1, h2⟩
    cases len with
    | zero => simp [storeCells] at hst; simp [Builtin.clear_, ht0, run_underlying hu, hst]
    | succ n => simp [Builtin.clear_, ht0, run_underlying hu, zero_of hi hzv, hzc, hst]
  | _ => simp at hop

end
end Go.Proofs.Ytamdidmfcjdcgaa.D
