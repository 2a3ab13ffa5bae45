/- The machine's operations, as those over plain values: append, copy, clear, make, literals. No condition. -/
import Derived.Test.YtamdidmfcjdcgaaD6
set_option linter.unusedVariables false
set_option linter.unusedSectionVars false
set_option linter.unusedSimpArgs false
set_option linter.constructorNameAsVariable false
namespace Go.Proofs.Ytamdidmfcjdcgaa.D
open Go Go.RowKit

section
variable {P : Program} {n0 : Nat} {w : World} {own : Nat → Option Nat} {loc : Loc} {ob : OB} {nid : Nat} [Bk]

theorem growBy_le (n : Nat) : ∀ r c, c ≤ 2 * n + 768 → Builtin.growBy n r c ≤ 2 * n + 768
  | 0, c, h => h
  | r + 1, c, h => by
    simp only [Builtin.growBy]
    split
    · exact h
    · exact growBy_le n r _ (by omega)

theorem nextcap_le (need old : Nat) (h : old < need) : Builtin.nextslicecap need old ≤ 2 * need + 768 := by
  unfold Builtin.nextslicecap
  split
  · omega
  · split
    · omega
    · exact growBy_le _ _ _ (by omega)

/-- What a call's answer is, in a run: the world may have drawn. -/
theorem Stp.drew (w : World) (own : Nat → Option Nat) (loc : Loc) : Stp w own loc w.drew own loc :=
  ⟨rfl, rfl, rfl, Nat.le_refl _, fun b hb h => ⟨h, rfl⟩, fun id h => .inl rfl⟩

theorem WF.drew (hwf : WF n0 w own loc ob) : WF n0 w.drew own loc ob where
  has := fun id o h => by
    obtain ⟨p, h1, h2⟩ := hwf.has id o h
    exact ⟨p, h1, h2.stp (.drew w own loc) rfl⟩
  owns := hwf.owns
  lt := hwf.lt

/-- A slice's cells, behind a draw too. -/
theorem rows_src2 (hwf : WF n0 w own loc ob) {v : V} {x : Value} {rows : List (List V)} {k : Nat} (hv : rowsOf ob v = some rows) (hk : rows.all (okRow k) = true)
    (hx : RV w (okf own n0 w.heap.size) loc v x) :
    ∃ a cap ys, x = .slice a rows.length cap ∧ ys.length = rows.length * k ∧ RVs w (okf own n0 w.heap.size) loc rows.flatten ys ∧ (∀ y ∈ ys, y.oneCell' = true) ∧
      (Builtin.firstCells k rows.length x).run P w = .ok ys.toArray w ∧ (Builtin.firstCells k rows.length x).run P w.drew = .ok ys.toArray w.drew := by
  obtain ⟨a, cap, ys, h1, h2, h3, h4, h5⟩ := rows_src (P := P) hwf hv hk hx
  obtain ⟨a', cap', ys', h1', h2', h3', h4', h5'⟩ := rows_src (P := P) (w := w.drew) (hwf.drew) hv hk (hx.stp (.drew w own loc))
  refine ⟨a, cap, ys, h1, h2, h3, h4, h5, ?_⟩
  have hys : ys' = ys := by
    rw [h1'] at h1; cases h1
    rw [h1'] at h5 h5'
    cases a with
    | none => 
      simp [Builtin.firstCells] at h5 h5'
      rw [h5, h5']
    | some a =>
      simp only [Builtin.firstCells] at h5 h5'
      have e : (loadCells a (rows.length * k)).run P w.drew = ((loadCells a (rows.length * k)).run P w).andThen fun v _ => .ok v w.drew := by
        have aux : ∀ n i acc, (loadCellsFrom a i n acc).run P w.drew = .ok ys'.toArray w.drew → (loadCellsFrom a i n acc).run P w = .ok ys.toArray w → ys'.toArray = ys.toArray := by
          intro n
          induction n with
          | zero => intro i acc h6 h7; simp [loadCellsFrom] at h6 h7; rw [← h6, ← h7]
          | succ n ih =>
            intro i acc h6 h7
            simp only [loadCellsFrom, Sem.run_bind, run_load, World.cell?_drew] at h6 h7
            cases hc : w.cell? (a.add i) with
            | some y => simp only [hc, Result.andThen_ok] at h6 h7; exact ih _ _ h6 h7
            | none =>
              simp only [hc] at h6 h7
              cases hf : w.farLoad P (a.add i) false with
              | error e => rw [show (Mode.plain == Mode.atomic) = false from rfl, hf] at h7; simp at h7
              | ok r =>
                have : w.drew.farLoad P (a.add i) false = w.farLoad P (a.add i) false := rfl
                rw [show (Mode.plain == Mode.atomic) = false from rfl] at h6 h7
                rw [this, hf] at h6; rw [hf] at h7
                simp only [Result.andThen_ok] at h6 h7
                exact ih _ _ h6 h7
        have := aux _ _ _ h5' h5
        rw [h5', h5]; simp [this]
      rw [h5', h5] at e
      simp at e; exact e
  rw [← hys]; exact h5'

/-- The types that an append is at: the element's size. -/
def appTy (P : Program) (ts : Array TypeId) : Option Nat :=
  match ts[0]?, ts[1]? with
  | some s, some x => match P.underlying s, P.underlying x with
    | some (.slice e), some (.slice _) => match P.info? e with
      | some i => if 0 < i.bytes ∧ i.bytes ≤ 4096 ∧ i.zero.map (·.cells.size) = some i.size then some i.size else none
      | none => none
    | _, _ => none
  | _, _ => none

/-- What an append comes to: written in place, or copied. -/
theorem append_run {ts : Array TypeId} {k : Nat} (ht : appTy P ts = some k) (ty : TypeId) (base : Option Addr) (sLen sCap n xc : Nat) (xa : Option Addr) (news : List Value)
    (hx : (Builtin.firstCells k n (.slice xa n xc)).run P w = .ok news.toArray w) (hx' : (Builtin.firstCells k n (.slice xa n xc)).run P w.drew = .ok news.toArray w.drew)
    (olds : List Value) (hs' : sCap < sLen + n → (Builtin.firstCells k sLen (.slice base sLen sCap)).run P w.drew = .ok olds.toArray w.drew)
    (hsmall : sLen + n ≤ maxLen) :
    (sLen + n ≤ sCap → ∀ w', (match base with | some a => (storeCells (a.add (sLen * k)) news).run P w | none => .ok () w) = .ok () w' →
      (Builtin.append_ ts ty #[.slice base sLen sCap, .slice xa n xc]).run P w = .ok (.slice base (sLen + n) sCap) w') ∧
    (sCap < sLen + n → ∃ (e : TypeId) (C : Nat) (rest : Array Value), sLen + n ≤ C ∧ (olds.length = sLen * k → news.length = n * k → C * k ≤ (olds.toArray ++ news.toArray ++ rest).size) ∧
      (Builtin.append_ ts ty #[.slice base sLen sCap, .slice xa n xc]).run P w = .ok (.slice (some ⟨w.drew.heap.size, 0, none⟩) (sLen + n) C) (w.drew.alloc (.cells (olds.toArray ++ news.toArray ++ rest) e))) := by
  unfold appTy at ht
  split at ht
  · rename_i s x hs hx0
    split at ht
    · rename_i e e2 hus hux
      split at ht
      · rename_i i hi
        split at ht
        · rename_i hb
          obtain ⟨hb1, hb2, hb3⟩ := hb
          obtain ⟨z, hz, hzs⟩ := Option.map_eq_some_iff.1 hb3
          cases ht
          refine ⟨fun hle w' hst => ?_, fun hlt => ?_⟩
          · have : (Builtin.append_ ts ty #[.slice base sLen sCap, .slice xa n xc]).run P w = (match base with | some a => (storeCells (a.add (sLen * i.size)) news).run P w | none => .ok () w).andThen fun _ w' => .ok (.slice base (sLen + n) sCap) w' := by
              cases base with
              | none => simp [Builtin.append_, hs, hx0, run_underlying hus, run_underlying hux, size_of hi, Builtin.lenOf, hle, hx]
              | some a => simp [Builtin.append_, hs, hx0, run_underlying hus, run_underlying hux, size_of hi, Builtin.lenOf, hle, hx]
            rw [this, hst]; rfl
          · have hnle : ¬ sLen + n ≤ sCap := by omega
            have h1 : ¬ (((sLen + n : Nat) : Int) > IntKind.i64.max ∧ (false = true ∨ i.bytes = 0)) := by simp; omega
            have h2 : ¬ Builtin.nextslicecap (sLen + n) sCap * i.bytes > 2 ^ 48 := by
              have := nextcap_le (sLen + n) sCap hlt
              have h3 : Builtin.nextslicecap (sLen + n) sCap * i.bytes ≤ (2 * maxLen + 768) * 4096 := Nat.mul_le_mul (by omega) hb2
              unfold maxLen at h3; omega
            have hf : (Question.appendCap (sLen + n) sCap e).forced = false := rfl
            have hC : sLen + n ≤ (Question.appendCap (sLen + n) sCap e).cut (w.tape w.drawn (Question.appendCap (sLen + n) sCap e)) := by simp [Question.cut]
            refine ⟨e, (Question.appendCap (sLen + n) sCap e).cut (w.tape w.drawn (Question.appendCap (sLen + n) sCap e)), Builtin.zeroCells z.cells ((Question.appendCap (sLen + n) sCap e).cut (w.tape w.drawn (Question.appendCap (sLen + n) sCap e)) - (sLen + n)), hC, fun ho hn => ?_, ?_⟩
            · generalize (Question.appendCap (sLen + n) sCap e).cut (w.tape w.drawn (Question.appendCap (sLen + n) sCap e)) = C at hC ⊢
              have : C * i.size = (sLen + n) * i.size + (C - (sLen + n)) * i.size := by rw [← Nat.add_mul]; congr 1; omega
              simp [Builtin.zeroCells, hzs, ho, hn, this, Nat.add_mul]
            · have hb0 : i.bytes ≠ 0 := by omega
              have h3 : ¬ 281474976710656 < Builtin.nextslicecap (sLen + n) sCap * i.bytes := by simpa using h2
              have hso := hs' hlt
              have hap : ∀ (o : Obj), ({ heap := w.drew.heap.push o, tape := w.drew.tape, drawn := w.drew.drawn, os := w.drew.os, output := w.drew.output } : World) = w.drew.alloc o := fun o => rfl
              simp [hf, -World.size_drew, Builtin.append_, hs, hx0, run_underlying hus, run_underlying hux, size_of hi, info_of hi, Builtin.lenOf, hnle, hb0, h3, hso, hx', zero_of hi hz, newRow]
              congr 2; rw [← Array.append_assoc]; simp
        · cases ht
      · cases ht
    · cases ht
  · cases ht

/-- What a slice over an object is, in the machine. -/
theorem sl_at (hwf : WF n0 w own loc ob) {id off len : Nat} {X : Ob} {x : Value} (hX : ob id = some X) (hx : RV w (okf own n0 w.heap.size) loc (.sl id off len) x) :
    ∃ p, loc id = some (some p) ∧ OR w (okf own n0 w.heap.size) loc p X ∧ off + len ≤ p.cap ∧ x = .slice (some ⟨p.b, p.base + off * p.k, none⟩) len (p.cap - off) := by
  obtain ⟨p, hp, hor⟩ := hwf.has id X hX
  cases hx with
  | sl _ _ _ a c hl h =>
    obtain ⟨h1, rfl, rfl⟩ := h p hp
    exact ⟨p, hp, hor, h1, rfl⟩

/-- A copied slice: the cells of a new object. -/
theorem grown_cells {ok : Fl → Nat → Prop} {A B : List (List V)} {ya yb : List Value} {k : Nat} (rest : Array Value) (hA : ∀ ch ∈ A, ch.length = k) (hB : ∀ ch ∈ B, ch.length = k)
    (ha : RVs w ok loc A.flatten ya) (hb : RVs w ok loc B.flatten yb) : ∀ i j v, el (A ++ B) i j = some v → ∃ x, (ya.toArray ++ yb.toArray ++ rest)[i * k + j]? = some x ∧ RV w ok loc v x := by
  intro i j v hv
  have hAB : ∀ ch ∈ A ++ B, ch.length = k := fun ch h => by
    rcases List.mem_append.1 h with h | h
    · exact hA ch h
    · exact hB ch h
  obtain ⟨hi, hj⟩ := el_lt hAB hv
  have h1 : (A ++ B).flatten[i * k + j]? = some v := by rw [flat_at _ k i j hAB hj]; exact hv
  rw [List.flatten_append] at h1
  have hR : RVs w ok loc (A.flatten ++ B.flatten) (ya ++ yb) := by
    refine ⟨by simp only [List.length_append, ha.1, hb.1], fun q v x h2 h3 => ?_⟩
    by_cases hq : q < A.flatten.length
    · rw [List.getElem?_append_left hq] at h2
      rw [List.getElem?_append_left (by rw [ha.1]; exact hq)] at h3
      exact ha.2 q v x h2 h3
    · rw [List.getElem?_append_right (by omega)] at h2
      rw [List.getElem?_append_right (by rw [ha.1]; omega), ha.1] at h3
      exact hb.2 _ v x h2 h3
  have hlt := (List.getElem?_eq_some_iff.1 h1).1
  have hlt2 : i * k + j < (ya ++ yb).length := by rw [hR.1]; exact hlt
  refine ⟨(ya ++ yb)[i * k + j], ?_, hR.2 _ v _ h1 (List.getElem?_eq_getElem hlt2)⟩
  rw [← List.getElem?_eq_getElem hlt2]
  rw [Array.getElem?_append_left (by simpa using hlt2)]
  simp

def upd (ob : OB) (i : Nat) (o : Option Ob) : OB := fun j => if j = i then o else ob j

/-- append. -/
theorem append_does (hwf : WF n0 w own loc ob) (hnid : loc nid = none) {ts : Array TypeId} {k : Nat} (ht : appTy P ts = some k) (ty : TypeId) {s x : Value} {sv xv r : V} {us : Ups} {ob0 : OB}
    (hsub : ∀ id o, ob0 id = some o → ob id = some o)
    (hs : RV w (okf own n0 w.heap.size) loc sv s) (hx : RV w (okf own n0 w.heap.size) loc xv x) (hop : opF (.app k) [sv, xv] ob0 nid = some (r, us)) :
    ∃ y w' own' loc', (Builtin.append_ ts ty #[s, x]).run P w = .ok y w' ∧ RV w' (okf own' n0 w'.heap.size) loc' r y ∧
      WF n0 w' own' loc' (apps ob us) ∧ Stp w own loc w' own' loc' ∧ ∀ id, id ≠ nid → loc id = none → loc' id = none := by
  simp only [opF] at hop
  cases hrows : rowsOf ob0 xv with
  | none => simp [hrows] at hop
  | some xs =>
  simp only [hrows, Option.bind_some] at hop
  have hrows' : rowsOf ob xv = some xs := by
    cases xv with
    | sl id off len =>
      simp only [rowsOf] at hrows ⊢
      cases h : ob0 id with
      | none => simp [h] at hrows
      | some X => rw [hsub id X h]; rw [h] at hrows; exact hrows
    | _ => exact hrows
  split at hop
  case isFalse => cases hop
  rename_i hk
  obtain ⟨hxl, hxf⟩ := okRow_spec hk
  obtain ⟨xa, xc, ys, rfl, hyl, hyr, hy1, hrun, hrun'⟩ := rows_src2 (P := P) hwf hrows' hk hx
  cases sv with
  | z =>
    obtain ⟨a, rfl⟩ := hs.z_inv
    simp only at hop
    split at hop
    · rename_i h0
      injection hop with hop; injection hop with h1 h2; subst h1; subst h2
      have hys : ys = [] := List.length_eq_zero_iff.1 (by rw [hyl, h0]; simp)
      subst hys
      have := (append_run (P := P) (w := w) ht ty a 0 0 xs.length xc xa [] hrun hrun' [] (fun h => by omega) (by unfold maxLen; omega)).1 (by omega) w (by
        cases a with
        | none => rfl
        | some a => simp [storeCells])
      rw [h0] at this
      exact ⟨_, w, own, loc, by rw [h0]; exact this, .z _, hwf, .refl _ _ _, fun _ _ h => h⟩
    · rename_i h0
      split at hop
      · rename_i hm
        injection hop with hop; injection hop with h1 h2; subst h1; subst h2
        obtain ⟨e, C, rest, hC, hsz, hap⟩ := (append_run (P := P) (w := w) ht ty a 0 0 xs.length xc xa ys hrun hrun' [] (fun h => by
          cases a <;> simp [Builtin.firstCells, loadCells, loadCellsFrom]) (by omega)).2 (by omega)
        have hg := grown_cells (k := k) rest (A := []) (by simp) hxl (ya := []) ⟨rfl, fun i v x h => by cases h⟩ hyr
        obtain ⟨h1, h2⟩ := new_ob hwf.drew hnid (([] : List Value).toArray ++ ys.toArray ++ rest) e k C xs none (hsz (by simp) hyl) (by omega) hxl (fun c h => by cases h)
          (fun i j v hv => by
            obtain ⟨x, h3, h4⟩ := hg i j v (by simpa using hv)
            exact ⟨x, h3, h4.stp (.drew w own loc)⟩)
        refine ⟨_, _, _, _, hap, ?_, h1, (Stp.drew w own loc).trans h2, fun id hne h => by simp [hne, h]⟩
        have := RV.sl (w := w.drew.alloc (.cells (([] : List Value).toArray ++ ys.toArray ++ rest) e)) (ok := okf (fun b => if b = w.drew.heap.size then some nid else own b) n0 (w.drew.alloc (.cells (([] : List Value).toArray ++ ys.toArray ++ rest) e)).heap.size)
          (loc := fun id => if id = nid then some (some ⟨w.drew.heap.size, 0, k, C⟩) else loc id) nid 0 xs.length (some ⟨w.drew.heap.size, 0, none⟩) C (by simp) (fun p hp => by
            simp only [if_true, Option.some.injEq] at hp
            subst hp
            exact ⟨by simp only [Nat.zero_add]; omega, by simp, by simp⟩)
        simpa using this
      · cases hop
  | sl id off len =>
    simp only at hop
    cases hX0 : ob0 id with
    | none => simp [hX0] at hop
    | some X =>
    simp only [hX0, Option.bind_some] at hop
    have hX := hsub id X hX0
    split at hop
    case isFalse => cases hop
    rename_i hcond
    obtain ⟨hXk, hfit, hsmall⟩ := hcond
    obtain ⟨p, hp, hor, hcap, rfl⟩ := sl_at hwf hX hs
    have hpk : p.k = k := by rw [← hor.k]; exact hXk
    have hat : (⟨p.b, p.base + off * p.k, none⟩ : Addr).add (len * k) = ⟨p.b, p.base + (off + len) * p.k, none⟩ := by
      rw [addr_add, hpk, Nat.add_mul, Nat.add_assoc]
    split at hop
    · rename_i hin
      injection hop with hop; injection hop with h1 h2; subst h1; subst h2
      have hcl := hor.len
      obtain ⟨w', hst, ⟨h1, h2⟩, _⟩ := over_run (P := P) hwf hX hp hor (at_ := off + len) (xs := xs) (ys := ys) hfit (by omega) (by rw [hpk]; exact hxl) hyr hy1
      have := (append_run (P := P) (w := w) ht ty (some ⟨p.b, p.base + off * p.k, none⟩) len (p.cap - off) xs.length xc xa ys hrun hrun' [] (fun h => by omega) hsmall).1 (by omega) w' (by
        simp only [hat]; exact hst)
      refine ⟨_, w', own, loc, this, ?_, ?_, h2, fun _ _ h => h⟩
      · exact .sl id off _ _ _ (by rw [hp]; simp) fun q hq => by rw [hp] at hq; cases hq; exact ⟨by omega, rfl, rfl⟩
      · rw [← hXk]; exact h1
    · rename_i hin
      split at hop
      · rename_i hoff
        subst hoff
        injection hop with hop; injection hop with h1 h2; subst h1; subst h2
        have hne : id ≠ nid := by rintro rfl; rw [hp] at hnid; cases hnid
        have hover : over X.l len xs = X.l.take len ++ xs := by
          unfold over; rw [List.drop_eq_nil_of_le (by omega), List.append_nil]
        have hobs : apps ob [(id, none), (nid, some ⟨k, X.l.take len ++ xs, none⟩)] = fun j => if j = nid then some ⟨k, X.l.take len ++ xs, none⟩ else if j = id then none else ob j := by
          simp only [apps]
        rw [hobs]
        simp only [Nat.zero_mul, Nat.zero_add, Nat.add_zero, Nat.sub_zero] at hat hfit hcap hin hsmall ⊢
        by_cases hroom : len + xs.length ≤ p.cap
        · obtain ⟨w', hst, _, h3⟩ := over_run (P := P) hwf hX hp hor (at_ := len) (xs := xs) (ys := ys) hfit hroom (by rw [hpk]; exact hxl) hyr hy1
          obtain ⟨h1, h2⟩ := h3 nid none hnid (fun c h => by cases h)
          have := (append_run (P := P) (w := w) ht ty (some ⟨p.b, p.base, none⟩) len p.cap xs.length xc xa ys hrun hrun' [] (fun h => by omega) hsmall).1 hroom w' (by
            simp only [hat]; exact hst)
          refine ⟨_, w', _, _, this, ?_, by rw [← hover, ← hXk]; exact h1, h2, fun j hj h => ?_⟩
          · exact .sl nid 0 _ _ _ (by simp) fun q hq => by simp at hq; subst hq; exact ⟨by omega, by simp, by simp⟩
          · have : j ≠ id := by rintro rfl; rw [hp] at h; cases h
            simp [hj, this, h]
        · have hseg : rowsOf ob (.sl id 0 len) = some (X.l.take len) := by simp [rowsOf, hX, hfit]
          have hlk : ∀ ch ∈ X.l.take len, ch.length = k := fun ch h => by rw [← hpk]; exact hor.rows ch (List.mem_of_mem_take h)
          have htl : (X.l.take len).length = len := by rw [List.length_take]; omega
          obtain ⟨zs, hz1, hz2, hz3⟩ := rows_cells (w := w) (ok := okf own n0 w.heap.size) (loc := loc) (rows := X.l.take len) (k := k) (b := p.b) (off := p.base) hlk (fun i j v hv => by
            rw [← hpk]
            exact hor.cells i j v (by
              have := el_take_drop (l := X.l) (a := 0) (n := len) (by simpa using hv)
              simpa using this))
          obtain ⟨e, C, rest, hC, hsz, hap⟩ := (append_run (P := P) (w := w) ht ty (some ⟨p.b, p.base, none⟩) len p.cap xs.length xc xa ys hrun hrun' zs (fun h => by
            have := loadCells_run (P := P) (w := w.drew) p.b p.base zs (fun q y hq => by simpa using hz3 q y hq)
            rw [hz1, htl] at this
            simp only [Builtin.firstCells]
            exact this) hsmall).2 (by omega)
          have hg := grown_cells (k := k) rest hlk hxl hz2 hyr
          obtain ⟨ha1, ha2⟩ := kill_ob hwf.drew (id := id) (by rw [hp]; simp)
          have hnid' : (fun j => if j = id then some none else loc j) nid = none := by simp [Ne.symm hne, hnid]
          obtain ⟨h1, h2⟩ := new_ob ha1 hnid' (zs.toArray ++ ys.toArray ++ rest) e k C (X.l.take len ++ xs) none (hsz (by rw [hz1, htl]) hyl) (by simp only [List.length_append, htl]; exact hC)
            (fun ch h => by
              rcases List.mem_append.1 h with h | h
              · exact hlk ch h
              · exact hxl ch h) (fun c h => by cases h)
            (fun i j v hv => by
              obtain ⟨x, h3, h4⟩ := hg i j v hv
              exact ⟨x, h3, (h4.stp (.drew w own loc)).stp ha2⟩)
          refine ⟨_, _, _, _, hap, ?_, h1, ((Stp.drew w own loc).trans ha2).trans h2, fun j hj h => ?_⟩
          · exact .sl nid 0 _ _ _ (by simp) fun q hq => by
              simp only [if_true, Option.some.injEq] at hq
              subst hq
              exact ⟨by simp only [Nat.zero_add]; omega, by simp, by simp⟩
          · have : j ≠ id := by rintro rfl; rw [hp] at h; cases h
            simp [hj, this, h]
      · cases hop
  | _ => simp at hop

end
end Go.Proofs.Ytamdidmfcjdcgaa.D
