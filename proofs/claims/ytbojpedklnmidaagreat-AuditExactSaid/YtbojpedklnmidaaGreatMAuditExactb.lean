/- AuditExact, packed. No condition beyond the statement's own. -/
import Derived.Test.YtbojpedklnmidaaGreatMAuditExacta
section
set_option linter.unusedVariables false
set_option linter.unusedSectionVars false
set_option linter.unusedSimpArgs false
set_option linter.constructorNameAsVariable false
/- The machine's operations do what those over plain values do: slices, function values, built-ins. No condition. -/
namespace Go.Proofs.YtbojpedklnmidaaGreat.D
open Go Go.RowKit
section
variable {P : Program} {n0 : Nat} {w : World} {own : Nat → Option Nat} {loc : Loc} {ob : OB} {nid : Nat} [Bk]
theorem snd_slice {dst : Option Tmp} {ty : TypeId} {pos : String} {after : Array Edge} {guard : Option (Nat × Bool)} (t : TypeId) (x : Operand) (lo hi mx : Option Operand) {h op : Ok} {xs : List Operand} (hc : compOp P ⟨dst, .slice t x lo hi mx, ty, pos, after, guard⟩ h = some (op, xs)) {ρ : Operand → Value} {vs : List V} {r : V} {us : Ups} {ob0 : OB}
    (hwf : WF n0 w own loc ob) (hn0 : n0 ≤ w.heap.size) (hnid : loc nid = none) (hsub : ∀ id o, ob0 id = some o → ob id = some o)
    (hv : RVs w (okf own n0 w.heap.size) loc vs (xs.map ρ)) (hop : opF op vs ob0 nid = some (r, us)) : Does P n0 w own loc ob nid (execOp ρ ⟨dst, .slice t x lo hi mx, ty, pos, after, guard⟩) r us := by
  cases mx with
  | none =>
    simp only [compOp] at hc
    obtain ⟨k, hk, hc⟩ := Option.map_eq_some_iff.1 hc
    injection hc with h1 h2; subst h1; subst h2
    have fin : ∀ (v : V) (lo' hi' : Option Int) (v' : V), sliceV ob0 k v lo' hi' = some v' → (∀ n, lo' = some n → ∃ kk, lo.map ρ = some (.int kk n)) → (lo' = none → lo.map ρ = none) → (∀ n, hi' = some n → ∃ kk, hi.map ρ = some (.int kk n)) → (hi' = none → hi.map ρ = none) →
        RV w (okf own n0 w.heap.size) loc v (ρ x) → r = v' → us = [] → Does P n0 w own loc ob nid (execOp ρ ⟨dst, .slice t x lo hi none, ty, pos, after, guard⟩) r us := by
      rintro v lo' hi' v' hs a1 a2 a3 a4 hx rfl rfl
      obtain ⟨y, h3, h4⟩ := slice_rv (P := P) hwf hk a1 a2 a3 a4 hx (sliceV_sub hsub hs)
      exact .of_same hwf (s := Instr.sliceAt t (ρ x) (lo.map ρ) (hi.map ρ) none) h3 h4
    cases lo with
    | none =>
      cases hi with
      | none =>
        obtain ⟨v, rfl, hx⟩ := rvs1 (by simpa using hv)
        simp only [opF, Option.isSome_none] at hop
        obtain ⟨v', hl, hop⟩ := Option.map_eq_some_iff.1 hop
        injection hop with h5 h6
        exact fin v none none v' hl (fun n h => by cases h) (fun _ => rfl) (fun n h => by cases h) (fun _ => rfl) hx h5.symm h6.symm
      | some hi =>
        obtain ⟨v, v2, rfl, hx, hy⟩ := rvs2 (by simpa using hv)
        simp only [opF, Option.isSome_none, Option.isSome_some] at hop
        obtain ⟨b, hb, hop⟩ := Option.bind_eq_some_iff.1 hop
        obtain ⟨v', hl, hop⟩ := Option.map_eq_some_iff.1 hop
        injection hop with h5 h6
        obtain ⟨kk, hkk⟩ := toInt_inv hb
        rw [hkk] at hy
        exact fin v none (some b) v' hl (fun n h => by cases h) (fun _ => rfl) (fun n h => by injection h with h; subst h; exact ⟨kk, by simp [hy.c_inv]⟩) (fun h => by cases h) hx h5.symm h6.symm
    | some lo =>
      cases hi with
      | none =>
        obtain ⟨v, v2, rfl, hx, hy⟩ := rvs2 (by simpa using hv)
        simp only [opF, Option.isSome_none, Option.isSome_some] at hop
        obtain ⟨b, hb, hop⟩ := Option.bind_eq_some_iff.1 hop
        obtain ⟨v', hl, hop⟩ := Option.map_eq_some_iff.1 hop
        injection hop with h5 h6
        obtain ⟨kk, hkk⟩ := toInt_inv hb
        rw [hkk] at hy
        exact fin v (some b) none v' hl (fun n h => by injection h with h; subst h; exact ⟨kk, by simp [hy.c_inv]⟩) (fun h => by cases h) (fun n h => by cases h) (fun _ => rfl) hx h5.symm h6.symm
      | some hi =>
        obtain ⟨v, v2, v3, rfl, hx, hy, hz⟩ := rvs3 (by simpa using hv)
        simp only [opF, Option.isSome_some] at hop
        obtain ⟨b, hb, hop⟩ := Option.bind_eq_some_iff.1 hop
        obtain ⟨c, hcc, hop⟩ := Option.bind_eq_some_iff.1 hop
        obtain ⟨v', hl, hop⟩ := Option.map_eq_some_iff.1 hop
        injection hop with h5 h6
        obtain ⟨kk, hkk⟩ := toInt_inv hb
        obtain ⟨kc, hkc⟩ := toInt_inv hcc
        rw [hkk] at hy
        rw [hkc] at hz
        exact fin v (some b) (some c) v' hl (fun n h => by injection h with h; subst h; exact ⟨kk, by simp [hy.c_inv]⟩) (fun h => by cases h) (fun n h => by injection h with h; subst h; exact ⟨kc, by simp [hz.c_inv]⟩) (fun h => by cases h) hx h5.symm h6.symm
  | some mx =>
    cases lo with
    | none => simp [compOp] at hc
    | some lo =>
      cases hi with
      | none => simp [compOp] at hc
      | some hi =>
        simp only [compOp] at hc
        obtain ⟨k, hk, hc⟩ := Option.map_eq_some_iff.1 hc
        injection hc with h1 h2; subst h1; subst h2
        obtain ⟨v, v2, v3, v4, rfl, hx, hy, hz, hq⟩ := rvs4 hv
        simp only [opF] at hop
        obtain ⟨a, ha, hop⟩ := Option.bind_eq_some_iff.1 hop
        obtain ⟨b, hb, hop⟩ := Option.bind_eq_some_iff.1 hop
        obtain ⟨c, hcc, hop⟩ := Option.bind_eq_some_iff.1 hop
        obtain ⟨n, hn, hop⟩ := Option.bind_eq_some_iff.1 hop
        split at hop
        case isFalse => cases hop
        rename_i hcond
        injection hop with hop; injection hop with h5 h6; subst h5; subst h6
        obtain ⟨ka, hka⟩ := toInt_inv ha
        obtain ⟨kb, hkb⟩ := toInt_inv hb
        obtain ⟨kc, hkc⟩ := toInt_inv hcc
        rw [hka] at hy; rw [hkb] at hz; rw [hkc] at hq
        obtain ⟨e, i, hu, hii, hik⟩ := elSz_spec hk
        have hsl : (∃ aa cap, ρ x = .slice aa n cap ∧ n ≤ cap) := by
          clear hop hv
          generalize ρ x = xr at hx
          unfold lenS at hn
          split at hn
          · injection hn with hn; subst hn
            cases hx with
            | e f a cap h => exact ⟨_, _, rfl, Nat.zero_le _⟩
            | im f l k b off n cap ys hn hk hc ho h0 h => subst hn; exact ⟨_, _, rfl, hc⟩
          · injection hn with hn; subst hn
            obtain ⟨aa, e⟩ := hx.z_inv
            exact ⟨aa, 0, e, Nat.le_refl _⟩
          · obtain ⟨X, hX, hn⟩ := Option.map_eq_some_iff.1 hn
            subst hn
            obtain ⟨p, hp, hor, hcp, e⟩ := sl_at hwf (hsub _ X hX) hx
            exact ⟨_, _, e, by omega⟩
          · cases hn
        obtain ⟨aa, cap, hxe, hcap⟩ := hsl
        refine .of_same hwf (s := Instr.sliceAt t (ρ x) (some (ρ lo)) (some (ρ hi)) (some (ρ mx))) (y := .slice (if c.toNat = a.toNat then aa else aa.map (·.add (a.toNat * k))) (b.toNat - a.toNat) (c.toNat - a.toNat)) ?_ (.u _)
        rw [hxe, hy.c_inv, hz.c_inv, hq.c_inv]
        obtain ⟨h0, h1, h2, h3⟩ := hcond
        have e1 : 0 ≤ c ∧ c ≤ (cap : Int) := ⟨by omega, by omega⟩
        have e2 : 0 ≤ b ∧ b ≤ ((c.toNat : Nat) : Int) := ⟨by omega, by omega⟩
        have e3 : 0 ≤ a ∧ a ≤ ((b.toNat : Nat) : Int) := ⟨by omega, by omega⟩
        simp only [Instr.sliceAt, Instr.slice, Sem.run_bind, run_underlying hu, Result.andThen_ok, Instr.sliceBounds, Instr.sliceBound, asIntOf, Sem.run_pure, Sem.run_ite, e1, e2, e3, and_self, if_true, size_of hii, hik]
theorem snd_makeFunc {dst : Option Tmp} {ty : TypeId} {pos : String} {after : Array Edge} {guard : Option (Nat × Bool)} (fn : Fn) (first caps : Array Operand) {h op : Ok} {xs : List Operand} (hc : compOp P ⟨dst, .makeFunc fn first caps, ty, pos, after, guard⟩ h = some (op, xs)) {ρ : Operand → Value} {vs : List V} {r : V} {us : Ups} {ob0 : OB}
    (hwf : WF n0 w own loc ob) (hn0 : n0 ≤ w.heap.size) (hnid : loc nid = none) (hsub : ∀ id o, ob0 id = some o → ob id = some o)
    (hv : RVs w (okf own n0 w.heap.size) loc vs (xs.map ρ)) (hop : opF op vs ob0 nid = some (r, us)) : Does P n0 w own loc ob nid (execOp ρ ⟨dst, .makeFunc fn first caps, ty, pos, after, guard⟩) r us := by
  cases fn <;> simp only [compOp] at hc
  all_goals first | (cases hc; done) | skip
  split at hc
  case isFalse => cases hc
  rename_i hf
  injection hc with hc; injection hc with h1 h2; subst h1; subst h2
  simp only [opF] at hop
  injection hop with hop; injection hop with h5 h6; subst h5; subst h6
  have hfe : first = #[] := Array.eq_empty_of_size_eq_zero hf
  subst hfe
  refine .of_same hwf (s := Instr.makeFunc _ (#[].map ρ) (caps.map ρ)) (y := .func (.func _) #[] (caps.toList.map ρ).toArray) ?_ (.fn _ _ _ hv.1 hv.2)
  have e : caps.map ρ = (caps.toList.map ρ).toArray := by apply Array.ext'; simp
  simp [Instr.makeFunc, e]
theorem exec_bi {dst : Option Tmp} {ty : TypeId} {pos : String} {after : Array Edge} {guard : Option (Nat × Bool)} (b : Builtin) (args : Array Operand) (argTypes : Array TypeId) (ρ : Operand → Value) :
    execOp ρ ⟨dst, .call ⟨.builtin b, args, argTypes⟩, ty, pos, after, guard⟩ = builtin b argTypes ty (args.map fun | .const _ => true | _ => false) (args.map ρ) := by
  simp only [execOp, resolve, invoke]
  rfl
theorem snd_call {dst : Option Tmp} {ty : TypeId} {pos : String} {after : Array Edge} {guard : Option (Nat × Bool)} (c : Call) {h op : Ok} {xs : List Operand} (hc : compOp P ⟨dst, .call c, ty, pos, after, guard⟩ h = some (op, xs)) {ρ : Operand → Value} {vs : List V} {r : V} {us : Ups} {ob0 : OB}
    (hwf : WF n0 w own loc ob) (hn0 : n0 ≤ w.heap.size) (hnid : loc nid = none) (hsub : ∀ id o, ob0 id = some o → ob id = some o)
    (hv : RVs w (okf own n0 w.heap.size) loc vs (xs.map ρ)) (hop : opF op vs ob0 nid = some (r, us)) : Does P n0 w own loc ob nid (execOp ρ ⟨dst, .call c, ty, pos, after, guard⟩) r us := by
  obtain ⟨cal, args, argTypes⟩ := c
  cases cal with
  | value f => simp [compOp] at hc
  | invoke a b => simp [compOp] at hc
  | builtin b =>
  have two : ∀ {a : Array Operand}, a.size = 2 → ∃ x y, a = #[x, y] := fun {a} h => ⟨a[0], a[1], by
    apply Array.ext (by simpa using h)
    intro i h1 h2
    simp at h2
    rcases (by omega : i = 0 ∨ i = 1) with rfl | rfl <;> rfl⟩
  have one : ∀ {a : Array Operand}, a.size = 1 → ∃ x, a = #[x] := fun {a} h => ⟨a[0], by
    apply Array.ext (by simpa using h)
    intro i h1 h2
    simp at h2
    obtain rfl : i = 0 := by omega
    rfl⟩
  cases b <;> simp only [compOp] at hc
  all_goals first | (cases hc; done) | skip
  case len =>
    obtain ⟨t, ht, hc⟩ := Option.bind_eq_some_iff.1 hc
    split at hc
    case isFalse => cases hc
    rename_i hcond
    obtain ⟨x, rfl⟩ := one hcond
    obtain ⟨op', hop', hc⟩ := Option.map_eq_some_iff.1 hc
    injection hc with h1 h2; subst h1; subst h2
    obtain ⟨v, rfl, hx⟩ := rvs1 (by simpa using hv)
    rw [exec_bi]
    unfold lenTy at hop'
    split at hop'
    · rename_i e hu
      injection hop' with hop'; subst hop'
      simp only [opF] at hop
      obtain ⟨n, hn, hop⟩ := Option.map_eq_some_iff.1 hop
      injection hop with h5 h6; subst h5; subst h6
      have hx' : ∃ a c, ρ x = .slice a n c := by
        clear hv
        generalize ρ x = xr at hx
        unfold lenOf at hn
        split at hn
        · injection hn with hn; subst hn
          cases hx with
          | e f a cap h => exact ⟨_, _, rfl⟩
          | im f l k b off n cap ys hn hk hc ho h0 h => subst hn; exact ⟨_, _, rfl⟩
        · injection hn with hn; subst hn
          obtain ⟨a, e⟩ := hx.z_inv
          exact ⟨_, _, e⟩
        · injection hn with hn; subst hn
          cases hx with
          | sl _ _ _ a c hl h => exact ⟨_, _, rfl⟩
        · cases hn
      obtain ⟨a, c, hxe⟩ := hx'
      refine .of_same hwf (s := Builtin.len_ argTypes ty (#[x].map ρ)) (y := goInt n) ?_ (.c _)
      simp [Builtin.len_, ht, hxe, run_underlying hu]
    · rename_i hu
      injection hop' with hop'; subst hop'
      simp only [opF] at hop
      obtain ⟨s, hs, hop⟩ := Option.map_eq_some_iff.1 hop
      injection hop with h5 h6; subst h5; subst h6
      have hs' : v = .c (.string s) := by
        unfold toStr at hs
        split at hs
        · injection hs with hs; subst hs; rfl
        · cases hs
      rw [hs'] at hx
      have hxe := hx.c_inv
      refine .of_same hwf (s := Builtin.len_ argTypes ty (#[x].map ρ)) (y := goInt s.size) ?_ (.c _)
      simp [Builtin.len_, ht, hxe, run_underlying hu]
    · cases hop'
  case cap =>
    obtain ⟨t, ht, hc⟩ := Option.bind_eq_some_iff.1 hc
    split at hc
    case isFalse => cases hc
    rename_i hcond
    obtain ⟨x, rfl⟩ := one hcond
    obtain ⟨k, hk, hc⟩ := Option.map_eq_some_iff.1 hc
    injection hc with h1 h2; subst h1; subst h2
    obtain ⟨v, rfl, hx⟩ := rvs1 (by simpa using hv)
    rw [exec_bi]
    obtain ⟨e, i, hu, hi, hik⟩ := elSz_spec hk
    simp only [opF] at hop
    obtain ⟨n, hn, hop⟩ := Option.map_eq_some_iff.1 hop
    injection hop with h5 h6; subst h5; subst h6
    have hx' : ∃ a l, ρ x = .slice a l n := by
      clear hv
      generalize ρ x = xr at hx
      unfold capS at hn
      split at hn
      · injection hn with hn; subst hn
        obtain ⟨a, e⟩ := hx.z_inv
        exact ⟨_, _, e⟩
      · obtain ⟨X, hX0, hn⟩ := Option.bind_eq_some_iff.1 hn
        obtain ⟨c, hc, rfl⟩ := Option.map_eq_some_iff.1 hn
        obtain ⟨p, hp, hor, hcap, rfl⟩ := sl_at hwf (hsub _ _ hX0) hx
        rw [← hor.cap c hc]
        exact ⟨_, _, rfl⟩
      · cases hn
    obtain ⟨a, l, hxe⟩ := hx'
    refine .of_same hwf (s := Builtin.cap_ argTypes ty (#[x].map ρ)) (y := goInt n) ?_ (.c _)
    simp [Builtin.cap_, ht, hxe, run_underlying hu]
  case append =>
    split at hc
    case isFalse => cases hc
    rename_i hcond
    obtain ⟨x, y, rfl⟩ := two hcond
    split at hc
    · rename_i kz hkz
      injection hc with hc; injection hc with h1 h2; subst h1; subst h2
      obtain ⟨v, v2, rfl, hx, hy⟩ := rvs2 (by simpa using hv)
      rw [exec_bi]
      obtain ⟨y', w', own', loc', h3, h4, h5, h6, h7⟩ := appz_does hwf hnid hkz ty hsub hx hy hop
      exact .of_value (s := Builtin.append_ argTypes ty (#[x, y].map ρ)) (by simpa using h3) h4 h5 h6 h7
    obtain ⟨k, hk, hc⟩ := Option.map_eq_some_iff.1 hc
    injection hc with h1 h2; subst h1; subst h2
    obtain ⟨v, v2, rfl, hx, hy⟩ := rvs2 (by simpa using hv)
    rw [exec_bi]
    obtain ⟨y', w', own', loc', h3, h4, h5, h6, h7⟩ := append_does hwf hnid hk ty hsub hx hy hop
    exact .of_value (s := Builtin.append_ argTypes ty (#[x, y].map ρ)) (by simpa using h3) h4 h5 h6 h7
  case copy =>
    split at hc
    case isFalse => cases hc
    rename_i hcond
    obtain ⟨x, y, rfl⟩ := two hcond
    obtain ⟨k, hk, hc⟩ := Option.map_eq_some_iff.1 hc
    obtain ⟨t0, ht0, hk⟩ := Option.bind_eq_some_iff.1 hk
    injection hc with h1 h2; subst h1; subst h2
    obtain ⟨v, v2, rfl, hx, hy⟩ := rvs2 (by simpa using hv)
    rw [exec_bi]
    obtain ⟨y', w', h3, h4, h5, h6⟩ := copy_does hwf ht0 hk ty hsub hx hy hop
    exact .of_value (s := Builtin.copy_ argTypes ty (#[x, y].map ρ)) (by simpa using h3) h4 h5 h6 (fun _ _ h => h)
  case clear =>
    split at hc
    case isFalse => cases hc
    rename_i hcond
    obtain ⟨x, rfl⟩ := one hcond
    obtain ⟨t0, ht0, hc⟩ := Option.bind_eq_some_iff.1 hc
    obtain ⟨k, hk, hc⟩ := Option.bind_eq_some_iff.1 hc
    obtain ⟨z, hz, hc⟩ := Option.bind_eq_some_iff.1 hc
    split at hc
    case isFalse => cases hc
    rename_i hok
    injection hc with hc; injection hc with h1 h2; subst h1; subst h2
    obtain ⟨v, rfl, hx⟩ := rvs1 (by simpa using hv)
    rw [exec_bi]
    obtain ⟨y', w', h3, h4, h5, h6⟩ := clear_does hwf ht0 hk hz hok ty hsub hx hop
    exact .of_value (s := Builtin.clear_ argTypes ty (#[x].map ρ)) (by simpa using h3) h4 h5 h6 (fun _ _ h => h)
  case max =>
    split at hc
    case isFalse => cases hc
    rename_i hcond
    obtain ⟨x, y, rfl⟩ := two hcond
    injection hc with hc; injection hc with h1 h2; subst h1; subst h2
    obtain ⟨v, v2, rfl, hx, hy⟩ := rvs2 (by simpa using hv)
    rw [exec_bi]
    simp only [opF] at hop
    obtain ⟨a, ha, hop⟩ := Option.bind_eq_some_iff.1 hop
    obtain ⟨b, hb, hop⟩ := Option.bind_eq_some_iff.1 hop
    obtain ⟨q, hq, hop⟩ := Option.map_eq_some_iff.1 hop
    injection hop with h5 h6; subst h5; subst h6
    rw [toC_inv ha] at hx; rw [toC_inv hb] at hy
    have e1 := hx.c_inv; have e2 := hy.c_inv
    unfold mxS at hq
    split at hq
    · injection hq with hq; subst hq
      exact .of_same hwf (s := Builtin.max_ argTypes ty (#[x, y].map ρ)) (by simp [e1, e2, run_max_int2]) (.c _)
    · cases hq
  case min =>
    split at hc
    case isFalse => cases hc
    rename_i hcond
    obtain ⟨x, y, rfl⟩ := two hcond
    injection hc with hc; injection hc with h1 h2; subst h1; subst h2
    obtain ⟨v, v2, rfl, hx, hy⟩ := rvs2 (by simpa using hv)
    rw [exec_bi]
    simp only [opF] at hop
    obtain ⟨a, ha, hop⟩ := Option.bind_eq_some_iff.1 hop
    obtain ⟨b, hb, hop⟩ := Option.bind_eq_some_iff.1 hop
    obtain ⟨q, hq, hop⟩ := Option.map_eq_some_iff.1 hop
    injection hop with h5 h6; subst h5; subst h6
    rw [toC_inv ha] at hx; rw [toC_inv hb] at hy
    have e1 := hx.c_inv; have e2 := hy.c_inv
    unfold mnS at hq
    split at hq
    · injection hq with hq; subst hq
      exact .of_same hwf (s := Builtin.min_ argTypes ty (#[x, y].map ρ)) (by simp [e1, e2, run_min_int2]) (.c _)
    · cases hq
theorem op_sound {o : Oper} {h op : Ok} {xs : List Operand} (hc : compOp P o h = some (op, xs)) {ρ : Operand → Value} {vs : List V} {r : V} {us : Ups} {ob0 : OB}
    (hwf : WF n0 w own loc ob) (hn0 : n0 ≤ w.heap.size) (hnid : loc nid = none) (hsub : ∀ id o, ob0 id = some o → ob id = some o) (hρ : ∀ v, ρ (.const v) = v)
    (hv : RVs w (okf own n0 w.heap.size) loc vs (xs.map ρ)) (hop : opF op vs ob0 nid = some (r, us)) : Does P n0 w own loc ob nid (execOp ρ o) r us := by
  obtain ⟨dst, oo, ty, pos, after, guard⟩ := o
  cases oo
  case move x => exact snd_move x hc hwf hn0 hnid hsub hv hop
  case assign x => exact snd_assign x hc hwf hn0 hnid hsub hv hop
  case pick c a b => exact snd_pick c a b hc hwf hn0 hnid hsub hv hop
  case alloc t => exact snd_alloc t hc hwf hn0 hnid hsub hv hop
  case box t x => exact snd_box t x hc hwf hn0 hnid hsub hv hop
  case build t x => exact snd_build t x hc hwf hn0 hnid hsub hv hop
  case buildSlice t n x => exact snd_buildSlice t n x hc hwf hn0 hnid hsub hv hop
  case load t x => exact snd_load t x hc hwf hn0 hnid hsub hv hop
  case store t a x => exact snd_store t a x hc hwf hn0 hnid hsub hv hop
  case binOp op t x y t2 => exact snd_binOp op t x y t2 hc hwf hn0 hnid hsub hρ hv hop
  case unOp op t x => exact snd_unOp op t x hc hwf hn0 hnid hsub hv hop
  case convert s d x => exact snd_convert s d x hc hwf hn0 hnid hsub hv hop
  case fieldAddr s x f => exact snd_fieldAddr s x f hc hwf hn0 hnid hsub hv hop
  case nilCheck x => exact snd_nilCheck x hc hwf hn0 hnid hsub hv hop
  case field t x f => exact snd_field t x f hc hwf hn0 hnid hsub hv hop
  case indexAddr t x i => exact snd_indexAddr t x i hc hwf hn0 hnid hsub hv hop
  case makeSlice t l c => exact snd_makeSlice t l c hc hwf hn0 hnid hsub hv hop
  case extract x i => exact snd_extract x i hc hwf hn0 hnid hsub hv hop
  case slice t x lo hi mx => exact snd_slice t x lo hi mx hc hwf hn0 hnid hsub hv hop
  case makeMap t rs => exact snd_makeMap t rs hc hwf hn0 hnid hsub hv hop
  case lookup t x i two => exact snd_lookup t x i two hc hwf hn0 hnid hsub hv hop
  case mapUpdate t m k x => exact snd_mapUpdate t m k x hc hwf hn0 hnid hsub hv hop
  case entry x => exact snd_entry x hc hwf hn0 hnid hsub hv hop
  case range t x => exact snd_range t x hc hwf hn0 hnid hsub hv hop
  case makeFunc fn first caps => exact snd_makeFunc fn first caps hc hwf hn0 hnid hsub hv hop
  case call c => exact snd_call c hc hwf hn0 hnid hsub hv hop
  all_goals (simp [compOp] at hc)
end
end Go.Proofs.YtbojpedklnmidaaGreat.D
end
section
set_option linter.unusedVariables false
set_option linter.unusedSectionVars false
set_option linter.unusedSimpArgs false
set_option linter.constructorNameAsVariable false
/- Calls over plain values: what is handed over, and what comes back. No condition. -/
namespace Go.Proofs.YtbojpedklnmidaaGreat.D
open Go Go.RowKit
def resFl : Fl → Fl
  | .n => .n
  | _ => .b
def resV (ob : OB) : Nat → V → V
  | 0, _ => .u
  | _ + 1, .c v => .c v
  | _ + 1, .q => .q
  | _ + 1, .z => .im .b []
  | n + 1, .im f l => .im (resFl f) (l.map fun r => r.map (resV ob n))
  | n + 1, .sl id off len => match rowsOf ob (.sl id off len) with
    | some l => .im .n (l.map fun r => r.map (resV ob n))
    | none => .u
  | n + 1, .pt id i o => match (ob id).bind fun x => x.l[i]? with
    | some r => .bp ((r.drop o).map (resV ob n))
    | none => .u
  | n + 1, .bp l => .bp (l.map (resV ob n))
  | n + 1, .fn f caps => .fn f (caps.map (resV ob n))
  | n + 1, .ag l => .ag (l.map (resV ob n))
  | n + 1, .tp l => .tp (l.map (resV ob n))
  | _ + 1, .u => .u
  | _ + 1, .mp _ => .u
  | _ + 1, .mi _ => .u
def gV (ob : OB) : Nat → V → V
  | 0, _ => .u
  | _ + 1, .c v => .c v
  | _ + 1, .q => .q
  | _ + 1, .z => .im .b []
  | n + 1, .im .b l => .im .b (l.map fun r => r.map (gV ob n))
  | n + 1, .sl id off len => match rowsOf ob (.sl id off len) with
    | some l => .im .b (l.map fun r => r.map (gV ob n))
    | none => .u
  | n + 1, .ag l => .ag (l.map (gV ob n))
  | n + 1, .tp l => .tp (l.map (gV ob n))
  | _ + 1, _ => .u
inductive NoB : V → Prop
  | c (v : Value) : NoB (.c v)
  | u : NoB .u
  | q : NoB .q
  | z : NoB .z
  | im (f : Fl) (l : List (List V)) (hf : f = .b) (h : ∀ i j v, el l i j = some v → NoB v) : NoB (.im f l)
  | ag (l : List V) (h : ∀ (i : Nat) (v : V), l[i]? = some v → NoB v) : NoB (.ag l)
  | tp (l : List V) (h : ∀ (i : Nat) (v : V), l[i]? = some v → NoB v) : NoB (.tp l)
theorem gV_noB (ob : OB) : ∀ n v, NoB (gV ob n v)
  | 0, v => by cases v <;> exact .u
  | n + 1, v => by
    have rows : ∀ l : List (List V), ∀ i j v, el (l.map fun r => r.map (gV ob n)) i j = some v → NoB v := fun l i j v h => by
      obtain ⟨r, h1, h2⟩ := el_some h
      rw [List.getElem?_map] at h1
      cases hl : l[i]? with
      | none => rw [hl] at h1; cases h1
      | some r' =>
        rw [hl] at h1; injection h1 with h1; subst h1
        rw [List.getElem?_map] at h2
        cases hj : r'[j]? with
        | none => rw [hj] at h2; cases h2
        | some v' => rw [hj] at h2; injection h2 with h2; subst h2; exact gV_noB ob n v'
    have one : ∀ l : List V, ∀ (i : Nat) (v : V), (l.map (gV ob n))[i]? = some v → NoB v := fun l i v h => by
      rw [List.getElem?_map] at h
      cases hl : l[i]? with
      | none => rw [hl] at h; cases h
      | some v' => rw [hl] at h; injection h with h; subst h; exact gV_noB ob n v'
    cases v with
    | c v => exact .c v
    | u => exact .u
    | q => exact .q
    | z => exact .im _ [] rfl (fun i j v h => by simp [el] at h)
    | im f l => cases f <;> simp only [gV] <;> first | exact .u | exact .im _ _ rfl (rows l)
    | sl id off len =>
      simp only [gV]
      split
      · exact .im _ _ rfl (rows _)
      · exact .u
    | pt id i o => exact .u
    | mp id => exact .u
    | mi id => exact .u
    | bp l => exact .u
    | fn f caps => exact .u
    | ag l => exact .ag _ (one l)
    | tp l => exact .tp _ (one l)
theorem RV.noB {w : World} {ok ok' : Fl → Nat → Prop} {loc loc' : Loc} {v : V} {x : Value} (hok : ∀ f b, f = .b → ok f b → ok' f b) (h : RV w ok loc v x) (hv : NoB v) : RV w ok' loc' v x := by
  induction h with
  | c v => exact .c v
  | u x => exact .u x
  | q b => exact .q b
  | z a => exact .z a
  | e f a cap h => exact .e f a cap h
  | im f l k b off n cap ys hn hk hc ho h0 h ih =>
    cases hv with
    | im f l hf hl => exact .im f l k b off n cap ys hn hk hc (hok _ _ hf ho) h0 fun i j v hv => ih i j v hv (hl i j v hv)
  | sl => cases hv
  | pt => cases hv
  | mp => cases hv
  | mi => cases hv
  | bp => cases hv
  | fn => cases hv
  | ag l xs hn h ih => cases hv with | ag l hl => exact .ag l xs hn fun i v x hv hx => ih i v x hv hx (hl i v hv)
  | tp l xs hn h ih => cases hv with | tp l hl => exact .tp l xs hn fun i v x hv hx => ih i v x hv hx (hl i v hv)
def rok (B : Nat → Prop) (n0 n : Nat) (bo : Option Nat) (f : Fl) (b : Nat) : Prop := b < n ∧ bo ≠ some b ∧ ((f = .b ∧ B b) ∨ n0 ≤ b)
@[reducible] def bkC [Bk] (own : Nat → Option Nat) (n0 n : Nat) : Bk := ⟨fun b => own b = none ∧ b < n ∧ (Bk.B b ∨ n0 ≤ b)⟩
section
variable {P : Program} {n0 : Nat} {w : World} {own : Nat → Option Nat} {loc : Loc} {ob : OB} {nid : Nat} [Bk]
theorem sl_rows (hwf : WF n0 w own loc ob) {id off len : Nat} {rows : List (List V)} {x : Value} (hr : rowsOf ob (.sl id off len) = some rows) (hx : RV w (okf own n0 w.heap.size) loc (.sl id off len) x) :
    ∃ p cap, loc id = some (some p) ∧ x = .slice (some ⟨p.b, p.base + off * p.k, none⟩) len cap ∧ rows.length = len ∧ len ≤ cap ∧ (∀ ch ∈ rows, ch.length = p.k) ∧
      ∀ i j v, el rows i j = some v → ∃ y, w.cell? ⟨p.b, p.base + off * p.k + i * p.k + j, none⟩ = some y ∧ RV w (okf own n0 w.heap.size) loc v y := by
  simp only [rowsOf] at hr
  obtain ⟨X, hX, hr⟩ := Option.bind_eq_some_iff.1 hr
  split at hr
  case isFalse => cases hr
  rename_i hle
  injection hr with hr; subst hr
  obtain ⟨p, hp, hor, hcap, rfl⟩ := sl_at hwf hX hx
  refine ⟨p, _, hp, rfl, by simp; omega, by omega, fun ch hc => hor.rows ch (List.mem_of_mem_drop (List.mem_of_mem_take hc)), fun i j v hv => ?_⟩
  obtain ⟨y, h1, h2⟩ := hor.cells _ _ _ (el_take_drop hv)
  refine ⟨y, ?_, h2⟩
  rw [← h1]; congr 2
  rw [Nat.add_mul]; omega
theorem el_map {l : List (List V)} {f : V → V} {i j : Nat} {v : V} (h : el (l.map fun r => r.map f) i j = some v) : ∃ v2, el l i j = some v2 ∧ v = f v2 := by
  obtain ⟨r, h1, h2⟩ := el_some h
  rw [List.getElem?_map] at h1
  cases hl : l[i]? with
  | none => rw [hl] at h1; cases h1
  | some r' =>
    rw [hl] at h1; injection h1 with h1; subst h1
    rw [List.getElem?_map] at h2
    cases hj : r'[j]? with
    | none => rw [hj] at h2; cases h2
    | some v' => rw [hj] at h2; injection h2 with h2; exact ⟨v', el_mk hl hj, h2.symm⟩
theorem map_at {α β : Type} {l : List α} {f : α → β} {i : Nat} {v : β} (h : (l.map f)[i]? = some v) : ∃ v2, l[i]? = some v2 ∧ v = f v2 := by
  rw [List.getElem?_map] at h
  cases hl : l[i]? with
  | none => rw [hl] at h; cases h
  | some v' => rw [hl] at h; injection h with h; exact ⟨v', rfl, h.symm⟩
theorem res_rv (hwf : WF n0 w own loc ob) {ob0 : OB} (hsub : ∀ id o, ob0 id = some o → ob id = some o) : ∀ (n : Nat) (v : V) (x : Value), RV w (okf own n0 w.heap.size) loc v x → RV w (@okf (bkC own n0 w.heap.size) (fun _ => none) w.heap.size w.heap.size) (fun _ => none) (resV ob0 n v) x
  | 0, v, x, h => by cases v <;> exact .u x
  | n + 1, v, x, h => by
    have okb : ∀ f b, okf own n0 w.heap.size f b → @okf (bkC own n0 w.heap.size) (fun _ => none) w.heap.size w.heap.size (resFl f) b := fun f b h => by
      refine ⟨rfl, h.2.1, ?_⟩
      cases f with
      | n => exact .inl rfl
      | b => exact .inr (.inl ⟨rfl, h.1, h.2.1, h.2.2.elim (fun h => by cases h) (fun h => h.elim (fun h => .inl h.2) .inr)⟩)
      | o => exact .inr (.inl ⟨rfl, h.1, h.2.1, h.2.2.elim (fun h => by cases h) (fun h => h.elim (fun h => by cases h.1) .inr)⟩)
    cases h with
    | c => exact .c _
    | u x => exact .u x
    | q b => exact .q b
    | z a => exact .e .b a 0 (fun h => by cases h)
    | e f a cap h => simp only [resV, List.map_nil]; exact .e _ a cap (fun h => by cases f <;> cases h)
    | im f l k b off n' cap ys hn hk hc ho h0 h =>
      refine .im (resFl f) _ k b off n' cap ys (by simpa using hn) (fun ch hch => ?_) hc (okb f b ho) (fun i j v hv => ?_) (fun i j v hv => ?_)
      · obtain ⟨r, h1, rfl⟩ := List.mem_map.1 hch; simpa using hk r h1
      · obtain ⟨q, h1, rfl⟩ := el_map hv; exact h0 i j q h1
      · obtain ⟨q, h1, rfl⟩ := el_map hv; exact res_rv hwf hsub n q _ (h i j q h1)
    | mp id a hl hp => exact .u _
    | mi id a hl hp => exact .u _
    | sl id off len a c hl hm hp =>
      simp only [resV]
      split
      · rename_i rows hr
        obtain ⟨p, cap, h1, h2, h3, h4, h5, h6⟩ := sl_rows hwf (rowsOf_sub hsub hr) (.sl id off len a c hl hm hp)
        rw [h2]
        have hb := (hwf.owns id p h1).2
        refine .im .n _ p.k p.b (p.base + off * p.k) len cap (fun i j => (w.cell? ⟨p.b, p.base + off * p.k + i * p.k + j, none⟩).getD undef) (by simpa using h3.symm) (fun ch hch => ?_) h4 ⟨rfl, hb, .inl rfl⟩ (fun i j v hv => ?_) (fun i j v hv => ?_)
        · obtain ⟨r, h1, rfl⟩ := List.mem_map.1 hch; simpa using h5 r h1
        · obtain ⟨q, h7, rfl⟩ := el_map hv
          obtain ⟨y, h8, h9⟩ := h6 i j q h7
          rw [h8]; rfl
        · obtain ⟨q, h7, rfl⟩ := el_map hv
          obtain ⟨y, h8, h9⟩ := h6 i j q h7
          rw [h8]; exact res_rv hwf hsub n q _ h9
      · exact .u _
    | pt id i o a hl hm hp =>
      simp only [resV]
      split
      · rename_i r hr
        obtain ⟨X, hX, hr⟩ := Option.bind_eq_some_iff.1 hr
        obtain ⟨p, h1, hxr⟩ := hwf.has id X (hsub id X hX)
        have hor := hxr.c (hm p h1)
        rw [hp p h1]
        have hb := (hwf.owns id p h1).2
        have key : ∀ (j : Nat) (q : V), (r.drop o)[j]? = some q → ∃ y, w.cell? ⟨p.b, p.base + i * p.k + o + j, none⟩ = some y ∧ RV w (okf own n0 w.heap.size) loc q y := fun j q hq => by
          rw [List.getElem?_drop] at hq
          obtain ⟨y, h2, h3⟩ := hor.cells i (o + j) q (el_mk hr hq)
          exact ⟨y, by rw [← h2]; congr 2; omega, h3⟩
        refine .bp _ p.b (p.base + i * p.k + o) (fun j => (w.cell? ⟨p.b, p.base + i * p.k + o + j, none⟩).getD undef) ⟨rfl, hb, .inl rfl⟩ (fun j v hv => ?_) (fun j v hv => ?_)
        · obtain ⟨q, h7, rfl⟩ := map_at hv
          obtain ⟨y, h8, h9⟩ := key j q h7
          rw [h8]; rfl
        · obtain ⟨q, h7, rfl⟩ := map_at hv
          obtain ⟨y, h8, h9⟩ := key j q h7
          rw [h8]; exact res_rv hwf hsub n q _ h9
      · exact .u _
    | bp l b off ys ho h0 h =>
      refine .bp _ b off ys (okb _ _ ho) (fun j v hv => ?_) (fun j v hv => ?_)
      · obtain ⟨q, h7, rfl⟩ := map_at hv; exact h0 j q h7
      · obtain ⟨q, h7, rfl⟩ := map_at hv; exact res_rv hwf hsub n q _ (h j q h7)
    | fn f caps xs hn h =>
      refine .fn f _ xs (by simpa using hn) fun i v x hv hx => ?_
      obtain ⟨q, h7, rfl⟩ := map_at hv; exact res_rv hwf hsub n q _ (h i q x h7 hx)
    | ag l xs hn h =>
      refine .ag _ xs (by simpa using hn) fun i v x hv hx => ?_
      obtain ⟨q, h7, rfl⟩ := map_at hv; exact res_rv hwf hsub n q _ (h i q x h7 hx)
    | tp l xs hn h =>
      refine .tp _ xs (by simpa using hn) fun i v x hv hx => ?_
      obtain ⟨q, h7, rfl⟩ := map_at hv; exact res_rv hwf hsub n q _ (h i q x h7 hx)
theorem g_rv (hwf : WF n0 w own loc ob) (hnew : ∀ b id, own b = some id → n0 ≤ b) {id0 : Nat} (h0' : ob id0 = none) : ∀ (n : Nat) (v : V) (x : Value), RV w (okf own n0 w.heap.size) loc v x → RV w (fun f b => b < w.heap.size ∧ own b ≠ some id0 ∧ ((f = .b ∧ Bk.B b) ∨ n0 ≤ b)) (fun _ => none) (gV ob n v) x
  | 0, v, x, h => by cases v <;> exact .u x
  | n + 1, v, x, h => by
    cases h with
    | c => exact .c _
    | u x => exact .u x
    | q b => exact .q b
    | z a => exact .e .b a 0 (fun h => by cases h)
    | e f a cap h => cases f <;> simp only [gV, List.map_nil] <;> first | exact .u _ | exact .e _ a cap (fun h => by cases h)
    | im f l k b off n' cap ys hn hk hc ho h0 h =>
      cases f <;> simp only [gV] <;> first | exact .u _ | skip
      all_goals
        refine .im _ _ k b off n' cap ys (by simpa using hn) (fun ch hch => ?_) hc ⟨ho.2.1, by rw [ho.1]; simp, ho.2.2.elim (fun h => by cases h) (fun h => h)⟩ (fun i j v hv => ?_) (fun i j v hv => ?_)
        · obtain ⟨r, h1, rfl⟩ := List.mem_map.1 hch; simpa using hk r h1
        · obtain ⟨q, h1, rfl⟩ := el_map hv; exact h0 i j q h1
        · obtain ⟨q, h1, rfl⟩ := el_map hv; exact g_rv hwf hnew h0' n q _ (h i j q h1)
    | mp id a hl hp => exact .u _
    | mi id a hl hp => exact .u _
    | sl id off len a c hl hm hp =>
      simp only [gV]
      split
      · rename_i rows hr
        obtain ⟨p, cap, h1, h2, h3, h4, h5, h6⟩ := sl_rows hwf hr (.sl id off len a c hl hm hp)
        rw [h2]
        have hb := hwf.owns id p h1
        refine .im .b _ p.k p.b (p.base + off * p.k) len cap (fun i j => (w.cell? ⟨p.b, p.base + off * p.k + i * p.k + j, none⟩).getD undef) (by simpa using h3.symm) (fun ch hch => ?_) h4 ⟨hb.2, by
          rw [hb.1]; intro e; injection e with e; subst e
          simp [rowsOf, h0'] at hr, .inr (hnew _ _ hb.1)⟩ (fun i j v hv => ?_) (fun i j v hv => ?_)
        · obtain ⟨r, h1, rfl⟩ := List.mem_map.1 hch; simpa using h5 r h1
        · obtain ⟨q, h7, rfl⟩ := el_map hv
          obtain ⟨y, h8, h9⟩ := h6 i j q h7
          rw [h8]; rfl
        · obtain ⟨q, h7, rfl⟩ := el_map hv
          obtain ⟨y, h8, h9⟩ := h6 i j q h7
          rw [h8]; exact g_rv hwf hnew h0' n q _ h9
      · exact .u _
    | pt id i o a hl hm hp => exact .u _
    | bp l b off ys ho h0 h => exact .u _
    | fn f caps xs hn h => exact .u _
    | ag l xs hn h =>
      refine .ag _ xs (by simpa using hn) fun i v x hv hx => ?_
      obtain ⟨q, h7, rfl⟩ := map_at hv; exact g_rv hwf hnew h0' n q _ (h i q x h7 hx)
    | tp l xs hn h =>
      refine .tp _ xs (by simpa using hn) fun i v x hv hx => ?_
      obtain ⟨q, h7, rfl⟩ := map_at hv; exact g_rv hwf hnew h0' n q _ (h i q x h7 hx)
end
end Go.Proofs.YtbojpedklnmidaaGreat.D
end
section
set_option linter.unusedVariables false
set_option linter.unusedSectionVars false
set_option linter.unusedSimpArgs false
set_option linter.constructorNameAsVariable false
/- Calls over plain values: what a call answers, and how it is taken. No condition. -/
namespace Go.Proofs.YtbojpedklnmidaaGreat.D
open Go Go.RowKit
def OwnS (B : Nat → Prop) (w : World) (n0 : Nat) (bo : Option Nat) (l : List (List V)) (x : Value) : Prop :=
  (l = [] ∧ ∃ a, x = .slice a 0 0) ∨
  l ≠ [] ∧ ∃ b off k cap, bo = some b ∧ x = .slice (some ⟨b, off, none⟩) l.length cap ∧ n0 ≤ b ∧ b < w.heap.size ∧ l.length ≤ cap ∧ (∀ ch ∈ l, ch.length = k) ∧
    (∃ cs el, w.heap[b]? = some (.cells cs el (0, 0)) ∧ off + cap * k ≤ cs.size) ∧
    ∀ i j v, el l i j = some v → ∃ y, w.cell? ⟨b, off + i * k + j, none⟩ = some y ∧ NoB v ∧ RV w (rok B n0 w.heap.size bo) (fun _ => none) v y
def Res1 (B : Nat → Prop) (w : World) (n0 : Nat) (bo : Option Nat) (r : V) (x : Value) : Prop :=
  match r with
  | .im .o l => OwnS B w n0 bo l x
  | r => NoB r ∧ RV w (rok B n0 w.heap.size bo) (fun _ => none) r x
def isO : V → Bool
  | .im .o _ => true
  | _ => false
def ResL (B : Nat → Prop) (w : World) (n0 : Nat) (rs : List V) (xs : List Value) : Prop :=
  ∃ bo, xs.length = rs.length ∧ (∀ (i : Nat) (r : V) (x : Value), rs[i]? = some r → xs[i]? = some x → Res1 B w n0 bo r x) ∧
    ∀ (i j : Nat) (r s : V), rs[i]? = some r → rs[j]? = some s → isO r = true → isO s = true → i = j
def ResV (B : Nat → Prop) (w : World) (n0 : Nat) (r : V) (x : Value) : Prop :=
  match r with
  | .tp rs => ∃ xs : List Value, x = .tuple xs.toArray ∧ ResL B w n0 rs xs
  | r => ResL B w n0 [r] [x]
def callable (P : Program) (f : FuncId) : Bool :=
  match P.funcs[f]? with
  | some fn => fn.body.isSome && fn.name != "runtime.NumGoroutine"
  | none => false
def FnB (P : Program) (f : FuncId) (args : List V) (r : V) : Prop :=
  callable P f = true ∧ ∀ (B : Bk) (w : World) (xs : List Value), RVs w (@okf B (fun _ => none) w.heap.size w.heap.size) (fun _ => none) args xs →
    Calls P f xs.toArray w fun e w' => ∃ x, e = .returned x ∧ ResV B.B w' w.heap.size r x ∧ Below w.heap.size w w'
def frz1 : V → V
  | .im .o l => .im .b l
  | v => v
def frz : V → V
  | .tp l => .tp (l.map frz1)
  | v => frz1 v
def impO (k nid : Nat) : V → V × Ups
  | .im .o l => if l.length = 0 then (.z, []) else (.sl nid 0 l.length, [(nid, some ⟨k, l, none⟩)])
  | v => (v, [])
def impL (k nid : Nat) : List V → List V × Ups
  | [] => ([], [])
  | v :: l => if isO v then ((impO k nid v).1 :: l, (impO k nid v).2) else (v :: (impL k nid l).1, (impL k nid l).2)
def imp (m : Md) (nid : Nat) (r : V) : V × Ups :=
  match m with
  | .fz => (frz r, [])
  | .own k => match r with
    | .tp l => (.tp (impL k nid l).1, (impL k nid l).2)
    | v => impO k nid v
def impOk (m : Md) (r : V) : Prop :=
  match m with
  | .fz => True
  | .own k => match r with
    | .tp l => ∀ s, V.im .o s ∈ l → ∀ ch ∈ s, ch.length = k
    | .im .o s => ∀ ch ∈ s, ch.length = k
    | _ => True
section
variable {P : Program} {n0 : Nat} {w w' : World} {own : Nat → Option Nat} {loc : Loc} {ob : OB} {nid : Nat} [Bk]
theorem stp_below (hwf : WF n0 w own loc ob) (hb : Below w.heap.size w w') : WF n0 w' own loc ob ∧ Stp w own loc w' own loc := by
  have hs : Stp w own loc w' own loc := ⟨hb.os, hb.tape, hb.output, hb.size, fun b hlt ho => ⟨ho, hb.block b hlt⟩, fun id h => .inl rfl⟩
  refine ⟨⟨fun id o h => ?_, fun id p h => ?_, fun b id h => ?_⟩, hs⟩
  · obtain ⟨p, h1, h2⟩ := hwf.has id o h
    exact ⟨p, h1, h2.stp hs (hb.block _ (hwf.owns id p h1).2)⟩
  · have := hwf.owns id p h
    exact ⟨this.1, Nat.lt_of_lt_of_le this.2 hb.size⟩
  · exact Nat.lt_of_lt_of_le (hwf.lt b id h) hb.size
theorem rok_ok (hwf : WF n0 w own loc ob) (hn0 : n0 ≤ w.heap.size) {m : Nat} {bo : Option Nat} {f : Fl} {c : Nat} (hf : f = .b) (h : rok (bkC own n0 w.heap.size).B w.heap.size m bo f c) : okf own n0 m f c := by
  obtain ⟨h1, h2, h3⟩ := h
  rcases h3 with ⟨_, h3, h4, h5⟩ | h3
  · exact ⟨h3, h1, h5.elim (fun h => .inr (.inl ⟨hf, h⟩)) (fun h => .inr (.inr h))⟩
  · refine ⟨?_, h1, .inr (.inr (by omega))⟩
    cases ho : own c with
    | none => rfl
    | some id => exact absurd (hwf.lt _ _ ho) (by omega)
theorem adopt_ob (hwf : WF n0 w own loc ob) (hb : Below w.heap.size w w') (hn0 : n0 ≤ w.heap.size) (hnid : loc nid = none) {b off k cap : Nat} {l : List (List V)} (hbn : w.heap.size ≤ b) (hbl : b < w'.heap.size)
    (hcap : l.length ≤ cap) (hk : ∀ ch ∈ l, ch.length = k) (hmem : ∃ cs el, w'.heap[b]? = some (.cells cs el (0, 0)) ∧ off + cap * k ≤ cs.size)
    (hc : ∀ i j v, el l i j = some v → ∃ y, w'.cell? ⟨b, off + i * k + j, none⟩ = some y ∧ NoB v ∧ RV w' (rok (bkC own n0 w.heap.size).B w.heap.size w'.heap.size (some b)) (fun _ => none) v y) :
    WF n0 w' (fun c => if c = b then some nid else own c) (fun id => if id = nid then some (some ⟨b, off, k, cap, 0⟩) else loc id) (fun j => if j = nid then some ⟨k, l, none⟩ else ob j) ∧
    Stp w own loc w' (fun c => if c = b then some nid else own c) (fun id => if id = nid then some (some ⟨b, off, k, cap, 0⟩) else loc id) := by
  have hs : Stp w own loc w' (fun c => if c = b then some nid else own c) (fun id => if id = nid then some (some ⟨b, off, k, cap, 0⟩) else loc id) := by
    refine ⟨hb.os, hb.tape, hb.output, hb.size, fun c hlt ho => ⟨by rw [if_neg (by omega)]; exact ho, hb.block c hlt⟩, fun id hid => ?_⟩
    by_cases h : id = nid
    · subst h; exact absurd hnid hid
    · left; simp [h]
  have hnone : ∀ c, w.heap.size ≤ c → own c = none := fun c hc => by
    cases ho : own c with
    | none => rfl
    | some id => exact absurd (hwf.lt _ _ ho) (by omega)
  refine ⟨⟨fun id o h => ?_, fun id p h => ?_, fun c id h => ?_⟩, hs⟩
  · by_cases hid : id = nid
    · subst hid
      simp only [if_true] at h
      cases h
      refine ⟨⟨b, off, k, cap, 0⟩, by simp, .of rfl ⟨hmem, rfl, hcap, hk, fun i j v hv => ?_, fun c h => by cases h⟩⟩
      obtain ⟨y, h1, h2, h3⟩ := hc i j v hv
      refine ⟨y, h1, h3.noB (fun f c hf h => ?_) h2⟩
      have hcb : c ≠ b := fun e => h.2.1 (by rw [e])
      obtain ⟨k1, k2, k3⟩ := rok_ok hwf hn0 hf h
      exact ⟨by simp only [hcb, if_false]; exact k1, k2, k3⟩
    · simp only [hid, if_false] at h
      obtain ⟨p, h1, h2⟩ := hwf.has id o h
      exact ⟨p, by simp only [hid, if_false]; exact h1, h2.stp hs (hb.block _ (hwf.owns id p h1).2)⟩
  · by_cases hid : id = nid
    · subst hid
      simp only [if_true, Option.some.injEq] at h
      subst h
      exact ⟨by simp, hbl⟩
    · simp only [hid, if_false] at h
      have := hwf.owns id p h
      exact ⟨by rw [if_neg (by omega)]; exact this.1, Nat.lt_of_lt_of_le this.2 hb.size⟩
  · by_cases hcb : c = b
    · subst hcb; exact hbl
    · simp only [hcb, if_false] at h
      exact Nat.lt_of_lt_of_le (hwf.lt c id h) hb.size
theorem frz1_rv (hwf : WF n0 w own loc ob) (hb : Below w.heap.size w w') (hn0 : n0 ≤ w.heap.size) {bo : Option Nat} {r : V} {x : Value} (h : Res1 (bkC own n0 w.heap.size).B w' w.heap.size bo r x) :
    RV w' (okf own n0 w'.heap.size) loc (frz1 r) x := by
  have hok : ∀ c, w.heap.size ≤ c ∧ c < w'.heap.size → okf own n0 w'.heap.size .b c := fun c hc => by
    refine ⟨?_, hc.2, .inr (.inr (by omega))⟩
    cases ho : own c with
    | none => rfl
    | some id => exact absurd (hwf.lt _ _ ho) (by omega)
  have gen : (NoB r ∧ RV w' (rok (bkC own n0 w.heap.size).B w.heap.size w'.heap.size bo) (fun _ => none) r x) → RV w' (okf own n0 w'.heap.size) loc r x := fun ⟨h1, h2⟩ =>
    h2.noB (fun f c hf hc => rok_ok hwf hn0 hf hc) h1
  cases r with
  | im f l =>
    cases f with
    | o =>
      simp only [Res1] at h
      simp only [frz1]
      rcases h with ⟨rfl, a, rfl⟩ | ⟨_, b, off, k, cap, hbo, rfl, h1, h2, h3, h4, h5, h6⟩
      · exact .e .b a 0 (fun h => by cases h)
      · refine .im .b l k b off _ cap (fun i j => (w'.cell? ⟨b, off + i * k + j, none⟩).getD undef) rfl h4 h3 (hok b ⟨h1, h2⟩) (fun i j v hv => ?_) (fun i j v hv => ?_)
        · obtain ⟨y, h7, h8, h9⟩ := h6 i j v hv
          rw [h7]; rfl
        · obtain ⟨y, h7, h8, h9⟩ := h6 i j v hv
          rw [h7]; exact h9.noB (fun f c hf hc => rok_ok hwf hn0 hf hc) h8
    | _ => exact gen h
  | _ => exact gen h
theorem Res1.of_notO {B : Nat → Prop} {n : Nat} {bo : Option Nat} {r : V} {x : Value} (ho : isO r = false) (h : Res1 B w n bo r x) : NoB r ∧ RV w (rok B n w.heap.size bo) (fun _ => none) r x := by
  cases r with
  | im f l => cases f <;> first | exact h | simp [isO] at ho
  | _ => exact h
theorem impL_len (k nid : Nat) : ∀ l : List V, (impL k nid l).1.length = l.length
  | [] => rfl
  | v :: l => by simp only [impL]; split <;> simp [impL_len k nid l]
theorem impL_at (k nid : Nat) : ∀ (l : List V) (i : Nat) (r : V), (∀ (i j : Nat) (r s : V), l[i]? = some r → l[j]? = some s → isO r = true → isO s = true → i = j) → l[i]? = some r →
    (impL k nid l).1[i]? = some (impO k nid r).1 ∧ (isO r = true → (impL k nid l).2 = (impO k nid r).2)
  | [], i, r, _, h => by simp at h
  | v :: l, i, r, hu, h => by
    simp only [impL]
    by_cases hv : isO v = true
    · rw [if_pos hv]
      cases i with
      | zero => simp at h; subst h; exact ⟨rfl, fun _ => rfl⟩
      | succ i =>
        simp at h
        have hno : isO r = false := by
          cases hr : isO r with
          | false => rfl
          | true => exact absurd (hu 0 (i + 1) v r rfl (by simpa using h) hv hr) (by omega)
        refine ⟨?_, fun h => by rw [hno] at h; cases h⟩
        have e : (impO k nid r).1 = r := by cases r with
          | im f l => cases f <;> first | rfl | simp [isO] at hno
          | _ => rfl
        simpa [e] using h
    · rw [if_neg hv]
      cases i with
      | zero =>
        simp at h; subst h
        have e : (impO k nid v).1 = v := by cases v with
          | im f l => cases f <;> first | rfl | simp [isO] at hv
          | _ => rfl
        exact ⟨by simp [e], fun h => absurd h hv⟩
      | succ i =>
        simp at h
        have := impL_at k nid l i r (fun i j r s h1 h2 h3 h4 => by have := hu (i + 1) (j + 1) r s (by simpa using h1) (by simpa using h2) h3 h4; omega) h
        exact ⟨by simpa using this.1, this.2⟩
theorem impL_none (k nid : Nat) : ∀ l : List V, (∀ v ∈ l, isO v = false) → (impL k nid l).2 = []
  | [], _ => rfl
  | v :: l, h => by
    simp only [impL]
    rw [if_neg (by rw [h v (by simp)]; simp)]
    exact impL_none k nid l fun v hv => h v (by simp [hv])
theorem imp_rv (hwf : WF n0 w own loc ob) (hb : Below w.heap.size w w') (hn0 : n0 ≤ w.heap.size) (hnid : loc nid = none) {m : Md} {r : V} {x : Value} (hm : impOk m r) (h : ResV (bkC own n0 w.heap.size).B w' w.heap.size r x) :
    ∃ own' loc', RV w' (okf own' n0 w'.heap.size) loc' (imp m nid r).1 x ∧ WF n0 w' own' loc' (apps ob (imp m nid r).2) ∧ Stp w own loc w' own' loc' ∧ ∀ id, id ≠ nid → loc id = none → loc' id = none := by
  obtain ⟨hwf', hs'⟩ := stp_below hwf hb
  cases m with
  | fz =>
    refine ⟨own, loc, ?_, hwf', hs', fun _ _ h => h⟩
    have one : ∀ rs xs, ResL (bkC own n0 w.heap.size).B w' w.heap.size rs xs → RVs w' (okf own n0 w'.heap.size) loc (rs.map frz1) xs := fun rs xs ⟨bo, h1, h2, h3⟩ => by
      refine ⟨by simpa using h1, fun i v x hv hx => ?_⟩
      obtain ⟨q, h4, rfl⟩ := map_at hv
      exact frz1_rv hwf hb hn0 (h2 i q x h4 hx)
    have single : ResL (bkC own n0 w.heap.size).B w' w.heap.size [r] [x] → RV w' (okf own n0 w'.heap.size) loc (frz1 r) x := fun h => (one _ _ h).2 0 _ x rfl rfl
    cases r with
    | tp rs =>
      obtain ⟨xs, rfl, h⟩ := h
      exact .tp _ xs (one _ _ h).1 (one _ _ h).2
    | _ => exact single h
  | own k =>
    have adopt : ∀ (rs : List V) (xs : List Value), ResL (bkC own n0 w.heap.size).B w' w.heap.size rs xs → (∀ s, V.im .o s ∈ rs → ∀ ch ∈ s, ch.length = k) →
        ∃ own' loc', RVs w' (okf own' n0 w'.heap.size) loc' (impL k nid rs).1 xs ∧ WF n0 w' own' loc' (apps ob (impL k nid rs).2) ∧ Stp w own loc w' own' loc' ∧ ∀ id, id ≠ nid → loc id = none → loc' id = none := by
      rintro rs xs ⟨bo, h1, h2, h3⟩ hk
      have hown : ∀ c, w.heap.size ≤ c → own c = none := fun c hc => by
        cases ho : own c with
        | none => rfl
        | some id => exact absurd (hwf.lt _ _ ho) (by omega)
      by_cases hex : ∃ (i : Nat) (s : List (List V)), rs[i]? = some (V.im .o s) ∧ s ≠ []
      · obtain ⟨i, s, hi, hs⟩ := hex
        have hixs : i < xs.length := by rw [h1]; exact (List.getElem?_eq_some_iff.1 hi).1
        have hr := h2 i _ xs[i] hi (List.getElem?_eq_getElem hixs)
        simp only [Res1] at hr
        rcases hr with ⟨e, _⟩ | ⟨_, b, off, k', cap, hbo, hxe, hb1, hb2, hb3, hb4, hb5, hb6⟩
        · exact absurd e hs
        have hkk : k' = k := by
          obtain ⟨ch, hch⟩ := List.exists_mem_of_ne_nil s hs
          rw [← hb4 ch hch, hk s (List.mem_of_getElem? hi) ch hch]
        subst hkk
        subst hbo
        obtain ⟨ha1, ha2⟩ := adopt_ob hwf hb hn0 hnid hb1 hb2 hb3 hb4 hb5 hb6
        have hlen0 : s.length ≠ 0 := fun e => hs (List.eq_nil_of_length_eq_zero e)
        have hat := impL_at k' nid rs i _ h3 hi
        have hups : (impL k' nid rs).2 = [(nid, some ⟨k', s, none⟩)] := by rw [hat.2 rfl]; simp [impO, hlen0]
        refine ⟨_, _, ⟨by rw [impL_len]; exact h1, fun j v x hv hx => ?_⟩, by rw [hups]; exact ha1, ha2, fun id hne h => by simp [hne, h]⟩
        have hjr : j < rs.length := by rw [← impL_len k' nid rs]; exact (List.getElem?_eq_some_iff.1 hv).1
        have hj := List.getElem?_eq_getElem hjr
        have haj := (impL_at k' nid rs j _ h3 hj).1
        rw [haj] at hv
        injection hv with hv
        by_cases hji : j = i
        · subst hji
          rw [hj] at hi; injection hi with hi
          rw [hi] at hv
          simp [impO, hlen0] at hv
          subst hv
          have : x = xs[j] := by rw [List.getElem?_eq_getElem hixs] at hx; injection hx with hx; exact hx.symm
          rw [this, hxe]
          refine .sl nid 0 _ _ _ (by simp) (fun q hq => by simp only [if_true, Option.some.injEq] at hq; subst hq; rfl) fun q hq => ?_
          simp only [if_true, Option.some.injEq] at hq
          subst hq
          exact ⟨by simpa using hb3, by simp, by simp⟩
        · have hno : isO rs[j] = false := by
            cases ho : isO rs[j] with
            | false => rfl
            | true => exact absurd (h3 j i _ _ hj hi ho rfl) hji
          have hr2 := (h2 j _ x hj hx).of_notO hno
          have e : (impO k' nid rs[j]).1 = rs[j] := by
            generalize rs[j] = q at hno
            cases q with
            | im f l => cases f <;> first | rfl | simp [isO] at hno
            | _ => rfl
          rw [e] at hv; subst hv
          refine hr2.2.noB (fun f c hf hc => ?_) hr2.1
          have hcb : c ≠ b := fun e => hc.2.1 (by rw [e])
          obtain ⟨k1, k2, k3⟩ := rok_ok hwf hn0 hf hc
          exact ⟨by simp only [hcb, if_false]; exact k1, k2, k3⟩
      · have hnil : ∀ (i : Nat) (s : List (List V)), rs[i]? = some (V.im .o s) → s = [] := fun i s hi => Classical.byContradiction fun hs => hex ⟨i, s, hi, hs⟩
        have hups : (impL k nid rs).2 = [] := by
          by_cases hany : ∃ v ∈ rs, isO v = true
          · obtain ⟨v, hv, ho⟩ := hany
            obtain ⟨i, hi⟩ := List.getElem?_of_mem hv
            have := (impL_at k nid rs i v h3 hi).2 ho
            rw [this]
            cases v with
            | im f l => cases f <;> first | (simp [isO] at ho; done) | (have := hnil i l hi; subst this; rfl)
            | _ => simp [isO] at ho
          · exact impL_none k nid rs fun v hv => by
              cases ho : isO v with
              | false => rfl
              | true => exact absurd ⟨v, hv, ho⟩ hany
        refine ⟨own, loc, ⟨by rw [impL_len]; exact h1, fun j v x hv hx => ?_⟩, by rw [hups]; exact hwf', hs', fun _ _ h => h⟩
        have hjr : j < rs.length := by rw [← impL_len k nid rs]; exact (List.getElem?_eq_some_iff.1 hv).1
        have hj := List.getElem?_eq_getElem hjr
        rw [(impL_at k nid rs j _ h3 hj).1] at hv
        injection hv with hv
        have hr := h2 j _ x hj hx
        cases ho : isO rs[j] with
        | false =>
          have hr2 := hr.of_notO ho
          have e : (impO k nid rs[j]).1 = rs[j] := by
            generalize rs[j] = q at ho
            cases q with
            | im f l => cases f <;> first | rfl | simp [isO] at ho
            | _ => rfl
          rw [e] at hv; subst hv
          exact hr2.2.noB (fun f c hf hc => rok_ok hwf hn0 hf hc) hr2.1
        | true =>
          have key : ∀ q, rs[j]? = some q → isO q = true → Res1 (bkC own n0 w.heap.size).B w' w.heap.size bo q x → RV w' (okf own n0 w'.heap.size) loc (impO k nid q).1 x := fun q hq ho hr => by
            cases q with
            | im f l =>
              cases f <;> first | (simp [isO] at ho; done) | skip
              have := hnil j l hq
              subst this
              simp only [Res1] at hr
              rcases hr with ⟨_, a, rfl⟩ | ⟨hne, _⟩
              · exact .z a
              · exact absurd rfl hne
            | _ => simp [isO] at ho
          rw [← hv]; exact key _ hj ho hr
    cases r with
    | tp rs =>
      obtain ⟨xs, rfl, h⟩ := h
      obtain ⟨own', loc', h1, h2⟩ := adopt rs xs h hm
      exact ⟨own', loc', .tp _ xs h1.1 h1.2, h2⟩
    | im f l =>
      obtain ⟨own', loc', h1, h2⟩ := adopt [.im f l] [x] h (fun s hs ch hch => by
        simp at hs; obtain ⟨rfl, rfl⟩ := hs; exact hm ch hch)
      have e : (impL k nid [V.im f l]).1 = [(impO k nid (.im f l)).1] ∧ (impL k nid [V.im f l]).2 = (impO k nid (.im f l)).2 := by
        cases f <;> simp [impL, isO, impO]
      rw [e.1] at h1; rw [e.2] at h2
      exact ⟨own', loc', h1.2 0 _ x rfl rfl, h2⟩
    | _ =>
      obtain ⟨own', loc', h1, h2⟩ := adopt [_] [x] h (fun s hs => by simp at hs)
      exact ⟨own', loc', h1.2 0 _ x rfl rfl, h2⟩
end
end Go.Proofs.YtbojpedklnmidaaGreat.D
end
section
set_option linter.unusedVariables false
set_option linter.unusedSectionVars false
set_option linter.unusedSimpArgs false
set_option linter.constructorNameAsVariable false
/- Regions over plain values. No condition. -/
namespace Go.Proofs.YtbojpedklnmidaaGreat.D
open Go Go.RowKit
abbrev Env := Nat → V
structure RO where
  d : Option Nat
  g : Option (Nat × Bool)
  op : Ok
  xs : List Od
def ev (env : Env) : Od → V
  | .t n => env n
  | .k v => v
def put (env : Env) (d : Option Nat) (v : V) : Env :=
  match d with
  | some n => fun i => if i = n then v else env i
  | none => env
def compCall (c : Call) (h : Ok) : Option (Ok × List Operand) :=
  match c.callee, h with
  | .value (.func f), .call _ m => some (.call f m, c.args.toList)
  | .value (.tmp t), .callv m => some (.callv m, .tmp t :: c.args.toList)
  | .value (.func f), .rcall _ => some (.rcall f, c.args.toList)
  | _, _ => none
def isCall : Ok → Bool
  | .call _ _ | .callv _ | .rcall _ | .mnx => true
  | _ => false
def noCall : Option (Ok × List Operand) → Option (Ok × List Operand)
  | some q => if isCall q.1 then none else some q
  | none => none
def compAny (P : Program) (o : Oper) (h : Ok) : Option (Ok × List Operand) :=
  match h with
  | .call _ _ | .callv _ | .rcall _ => match o.op with
    | .call c => compCall c h
    | _ => none
  | .mnx => match o.op with
    | .next it false => some (.mnx, [it])
    | _ => none
  | _ => noCall (compOp P o h)
def dstOk (nt : Nat) : Option Nat → Bool
  | some d => d < nt
  | none => true
def compRO (P : Program) (nt : Nat) (ops : Array Oper) (o : Oper) (h : Ok) : Option RO :=
  if dstOk nt o.dst then
    (match o.guard with
    | none => some none
    | some (j, want) => ((ops[j]?).bind (·.dst)).map fun t => some (t, want)).bind fun g =>
    (compAny P o h).bind fun q => (optAll (q.2.map (comOd nt))).map fun xs => ⟨o.dst, g, q.1, xs⟩
  else none
def compOps (P : Program) (nt : Nat) (all : Array Oper) : List Oper → List RO → Option (List RO)
  | [], [] => some []
  | o :: l, h :: m => (compRO P nt all o h.op).bind fun r => (compOps P nt all l m).map (r :: ·)
  | _, _ => none
def OpR (P : Program) (op : Ok) (vs : List V) (ob : OB) (nid : Nat) (r : V) (us : Ups) : Prop :=
  match op with
  | .call f m => ∃ q, FnB P f (vs.map (resV ob 6)) q ∧ impOk m q ∧ r = (imp m nid q).1 ∧ us = (imp m nid q).2
  | .callv m => ∃ f caps args q, vs = .fn f caps :: args ∧ FnB P f ((args ++ caps).map (resV ob 6)) q ∧ impOk m q ∧ r = (imp m nid q).1 ∧ us = (imp m nid q).2
  | op => opF op vs ob nid = some (r, us)
def sk : Option Bool → V
  | some b => .c (.bool b)
  | none => .c undef
def gd (g : Option (Nat × Bool)) (env : Env) (A B : Prop) : Prop :=
  match g with
  | none => A
  | some (t, want) => ∃ b, env t = sk b ∧ (b = some want → A) ∧ (¬ b = some want → B)
def FnS (P : Program) (f : FuncId) (args : List V) (ob : OB) (nid : Nat) (C : V → OB → Nat → Prop) : Prop :=
  callable P f = true ∧ ∀ (B : Bk) (n0 : Nat) (w : World) (own : Nat → Option Nat) (loc : Loc) (xs : List Value), WF n0 w own loc ob → n0 ≤ w.heap.size → (∀ id, nid ≤ id → loc id = none) → RVs w (okf own n0 w.heap.size) loc args xs →
    Calls P f xs.toArray w fun e w' => ∃ x r ob' nid' own' loc', e = .returned x ∧ RV w' (okf own' n0 w'.heap.size) loc' r x ∧ WF n0 w' own' loc' ob' ∧ Stp w own loc w' own' loc' ∧ (∀ id, nid' ≤ id → loc' id = none) ∧ C r ob' nid'
def FnX (P : Program) (f : FuncId) (args : List V) (ob : OB) (nid : Nat) (C : V → OB → Nat → Prop) : Prop :=
  ∀ (B : Bk) (n0 : Nat) (w : World) (own : Nat → Option Nat) (loc : Loc) (xs : List Value), WF n0 w own loc ob → n0 ≤ w.heap.size → (∀ id, nid ≤ id → loc id = none) → RVs w (okf own n0 w.heap.size) loc args xs →
    ∃ x w' r ob' nid' own' loc', (callFunc f xs.toArray).run P w = .ok (.value x) w' ∧ RV w' (okf own' n0 w'.heap.size) loc' r x ∧ WF n0 w' own' loc' ob' ∧ Stp w own loc w' own' loc' ∧ (∀ id, nid' ≤ id → loc' id = none) ∧ C r ob' nid'
def NxS (vs : List V) (ob : OB) (nid : Nat) (C : V → OB → Nat → Prop) : Prop :=
  ∃ (it id : Nat) (seen : List Nat) (rows : List (List V)) (cap cap' : Option Nat), vs = [.mi it] ∧ ob it = some ⟨0, itRows id rows.length seen, cap⟩ ∧ ob id = some ⟨0, rows, cap'⟩ ∧
    ((∀ i, i < rows.length → i ∈ seen) → C (.tp [.c (.bool false)]) ob nid) ∧
    ∀ i kv vv, i < rows.length → i ∉ seen → rows[i]? = some [kv, vv] → C (.tp [.c (.bool true), kv, vv]) (fun j => if j = it then some ⟨0, itRows id rows.length (seen ++ [i]), none⟩ else ob j) nid
def stpR (P : Program) (op : Ok) (vs : List V) (ob : OB) (nid : Nat) (C : V → OB → Nat → Prop) : Prop :=
  match op with
  | .rcall f => FnS P f vs ob nid C ∨ FnX P f vs ob nid C
  | .mnx => NxS vs ob nid C
  | op => ∃ r us, OpR P op vs ob nid r us ∧ C r (apps ob us) (nid + 1)
def wpS (P : Program) : List RO → Nat → Env → OB → (Env → OB → Nat → Prop) → Prop
  | [], nid, env, ob, K => K env ob nid
  | o :: l, nid, env, ob, K => gd o.g env (stpR P o.op (o.xs.map (ev env)) ob nid fun r ob' n' => wpS P l n' (put env o.d r) ob' K)
      (wpS P l (nid + 1) (put env o.d (.c undef)) ob K)
structure SR [Bk] (nt n0 : Nat) (w0 : World) (own0 : Nat → Option Nat) (loc0 : Loc) (env : Env) (ob : OB) (a : Act) (w : World) (own : Nat → Option Nat) (loc : Loc) : Prop where
  defers : a.defers = []
  size : a.tmps.size = nt
  wf : WF n0 w own loc ob
  vals : ∀ t, RV w (okf own n0 w.heap.size) loc (env t) (a.tmps.getD t undef)
  stp : Stp w0 own0 loc0 w own loc
  le : n0 ≤ w.heap.size
  new : ∀ b id, own b = some id → own0 b = none → n0 ≤ b
section
variable {P : Program} {nt n0 : Nat} {w0 w : World} {own0 own : Nat → Option Nat} {loc0 loc : Loc} {env : Env} {ob : OB} {a : Act} [Bk]
theorem ev_rv (h : SR nt n0 w0 own0 loc0 env ob a w own loc) {o : Operand} {x : Od} (hx : comOd nt o = some x) : RV w (okf own n0 w.heap.size) loc (ev env x) (a.eval o) := by
  cases o with
  | tmp t =>
    simp only [comOd] at hx
    split at hx
    · injection hx with hx; subst hx; exact h.vals t
    · cases hx
  | const v =>
    simp only [comOd] at hx
    obtain ⟨q, h1, h2⟩ := Option.map_eq_some_iff.1 hx
    subst h2; exact constV_rv h1
  | func f =>
    simp only [comOd] at hx
    injection hx with hx; subst hx
    exact .fn f [] [] rfl (fun i v x h => by cases h)
  | global g => simp [comOd] at hx
theorem evs_rv (h : SR nt n0 w0 own0 loc0 env ob a w own loc) {os : List Operand} {xs : List Od} (hx : optAll (os.map (comOd nt)) = some xs) :
    RVs w (okf own n0 w.heap.size) loc (xs.map (ev env)) (os.map a.eval) := by
  have hp := optAll_spec hx
  have hl : os.length = xs.length := by have := congrArg List.length hp; simpa using this
  refine ⟨by simp [hl], fun i v x hv hx => ?_⟩
  obtain ⟨q, h1, rfl⟩ := map_at hv
  rw [List.getElem?_map] at hx
  cases ho : os[i]? with
  | none => rw [ho] at hx; cases hx
  | some o =>
    rw [ho] at hx; injection hx with hx; subst hx
    have h5 : (os.map (comOd nt))[i]? = (xs.map some)[i]? := by rw [hp]
    rw [List.getElem?_map, List.getElem?_map, ho, h1] at h5
    injection h5 with h5
    exact ev_rv h h5
theorem put_tmps (a : Act) (d : Option Nat) (x : Value) (hd : dstOk a.tmps.size d = true) (t : Nat) : (a.put d x).tmps.getD t undef = match d with | some n => if t = n then x else a.tmps.getD t undef | none => a.tmps.getD t undef := by
  cases d with
  | none => rfl
  | some n =>
    simp only [dstOk, decide_eq_true_eq] at hd
    simp only [Act.put, Array.getD_eq_getD_getElem?, Array.getElem?_setIfInBounds]
    by_cases h : t = n
    · subst h; simp [hd]
    · rw [if_neg (fun e => h e.symm), if_neg h]
theorem SR.put {own' : Nat → Option Nat} {loc' : Loc} {w' : World} {ob' : OB} (h : SR nt n0 w0 own0 loc0 env ob a w own loc) {d : Option Nat} (hd : dstOk nt d = true) {r : V} {x : Value}
    (hr : RV w' (okf own' n0 w'.heap.size) loc' r x) (hwf : WF n0 w' own' loc' ob') (hs : Stp w own loc w' own' loc') :
    SR nt n0 w0 own0 loc0 (put env d r) ob' (a.put d x) w' own' loc' where
  defers := by cases d <;> exact h.defers
  size := by cases d <;> simp [Act.put, h.size]
  wf := hwf
  vals := fun t => by
    rw [put_tmps a d x (by rw [h.size]; exact hd)]
    cases d with
    | none => exact (h.vals t).stp hs
    | some n =>
      simp only [D.put]
      by_cases ht : t = n
      · rw [if_pos ht, if_pos ht]; exact hr
      · rw [if_neg ht, if_neg ht]; exact (h.vals t).stp hs
  stp := h.stp.trans hs
  le := Nat.le_trans h.le hs.size
  new := fun b id hb h0 => by
    by_cases hlt : b < w.heap.size
    · cases ho : own b with
      | none => rw [(hs.block b hlt ho).1] at hb; cases hb
      | some i => exact h.new b i ho h0
    · have := h.le; omega
theorem call_run {f : FuncId} (hf : callable P f = true) (args : Array Value) : (callFunc f args).run P w = .ok (.enter f args) w := by
  unfold callable at hf
  split at hf
  · rename_i fn hfn
    simp only [Bool.and_eq_true, bne_iff_ne, ne_eq] at hf
    obtain ⟨h1, h2⟩ := hf
    obtain ⟨c, hc⟩ := Option.isSome_iff_exists.1 h1
    simp [callFunc, hfn, h2, hc]
  · cases hf
theorem op_wp (h : SR nt n0 w0 own0 loc0 env ob a w own loc) {ops : Array Oper} {o : Oper} {hk : Ok} {ro : RO} (hc : compRO P nt ops o hk = some ro) {ob0 : OB} (hsub : ∀ id x, ob0 id = some x → ob id = some x) {nid : Nat} (hnid : loc nid = none)
    {r : V} {us : Ups} (hR : OpR P ro.op (ro.xs.map (ev env)) ob0 nid r us) {K : Act → World → Prop} {Q : Exit → Act → World → Prop}
    (hK : ∀ x w' own' loc', SR nt n0 w0 own0 loc0 (put env ro.d r) (apps ob us) (a.put o.dst x) w' own' loc' → Stp w own loc w' own' loc' → (∀ id, id ≠ nid → loc id = none → loc' id = none) → K (a.put o.dst x) w') : o.wp P a w K Q := by
  unfold compRO at hc
  split at hc
  case isFalse => cases hc
  rename_i hd
  obtain ⟨g, hg, hc⟩ := Option.bind_eq_some_iff.1 hc
  obtain ⟨⟨op, os⟩, hq, hc⟩ := Option.bind_eq_some_iff.1 hc
  obtain ⟨xs, hxs, hc⟩ := Option.map_eq_some_iff.1 hc
  subst hc
  simp only at hR hK
  have hv := evs_rv h hxs
  have plain : ∀ (hcp : compOp P o hk = some (op, os)), opF op (xs.map (ev env)) ob0 nid = some (r, us) → o.wp P a w K Q := fun hcp hop => by
    obtain ⟨x, w', own', loc', hrun, hr, hwf, hs, hn⟩ := op_sound hcp h.wf h.le hnid hsub (ρ := a.eval) (fun v => rfl) hv hop
    unfold Oper.wp
    rcases hrun with hrun | ⟨hrun, rfl⟩
    · rw [hrun]; exact hK x w' own' loc' (h.put hd hr hwf hs) hs hn
    · rw [hrun]; exact hK undef w' own' loc' (h.put hd hr hwf hs) hs hn
  have called : ∀ (f : FuncId) (m : Md) (q : V) (vargs : List V) (rargs : Array Value), (execOp a.eval o).run P w = (callFunc f rargs).run P w → RVs w (okf own n0 w.heap.size) loc vargs rargs.toList → FnB P f (vargs.map (resV ob0 6)) q → impOk m q → r = (imp m nid q).1 → us = (imp m nid q).2 → o.wp P a w K Q := by
    rintro f m q vargs rargs hex hva ⟨hcl, hfn⟩ hm rfl rfl
    have hres : RVs w (@okf (bkC own n0 w.heap.size) (fun _ => none) w.heap.size w.heap.size) (fun _ => none) (vargs.map (resV ob0 6)) rargs.toList := by
      refine ⟨by simpa using hva.1, fun i v x hv hx => ?_⟩
      obtain ⟨q', h1, rfl⟩ := map_at hv
      exact res_rv h.wf hsub 6 q' x (hva.2 i q' x h1 hx)
    have hcall := hfn (bkC own n0 w.heap.size) w rargs.toList hres
    unfold Oper.wp
    rw [hex, call_run hcl, Oper.upon_enter]
    have e : rargs.toList.toArray = rargs := by simp
    rw [e] at hcall
    refine hcall.mono fun e w' ⟨x, he, hr, hb⟩ => ?_
    subst he
    obtain ⟨own', loc', h1, h2, h3, h4⟩ := imp_rv h.wf hb h.le hnid hm hr
    exact hK x w' own' loc' (h.put hd h1 h2 h3) h3 h4
  have viaOp : compAny P o hk = noCall (compOp P o hk) → o.wp P a w K Q := fun e => by
    rw [e] at hq
    cases hcp : compOp P o hk with
    | none => rw [hcp] at hq; cases hq
    | some q =>
      rw [hcp] at hq
      simp only [noCall] at hq
      split at hq
      · cases hq
      · rename_i hnc
        injection hq with hq; subst hq
        refine plain hcp ?_
        unfold OpR at hR
        split at hR
        · exact absurd rfl hnc
        · exact absurd rfl hnc
        · exact hR
  cases hk
  case call =>
    unfold compAny at hq
    simp only at hq
    split at hq
    case h_2 => cases hq
    rename_i c hop
    obtain ⟨cal, cargs, cty⟩ := c
    cases cal with
    | invoke _ _ => cases hq
    | builtin _ => cases hq
    | value fo =>
      cases fo with
      | tmp _ => cases hq
      | const _ => cases hq
      | global _ => cases hq
      | func f' =>
      injection hq with hq; injection hq with h1 h2; subst h1; subst h2
      obtain ⟨q, hf, hm, hr, hu⟩ := hR
      refine called f' _ q (xs.map (ev env)) (cargs.map a.eval) ?_ (by simpa using hv) hf hm hr hu
      simp [execOp, hop, resolve, Deferred.ofValue, invoke, Act.eval]
  case callv =>
    unfold compAny at hq
    simp only at hq
    split at hq
    case h_2 => cases hq
    rename_i c hop
    obtain ⟨cal, cargs, cty⟩ := c
    cases cal with
    | invoke _ _ => cases hq
    | builtin _ => cases hq
    | value fo =>
      cases fo with
      | func _ => cases hq
      | const _ => cases hq
      | global _ => cases hq
      | tmp t' =>
      injection hq with hq; injection hq with h1 h2; subst h1; subst h2
      obtain ⟨f, caps, args, q, hvs, hf, hm, hr, hu⟩ := hR
      rw [hvs] at hv
      obtain ⟨hv1, hv2⟩ := hv
      have h0 := hv2 0 _ (a.eval (.tmp t')) rfl rfl
      generalize hfx : a.eval (.tmp t') = fx at h0
      cases h0 with
      | fn _ _ cx hcl hcr =>
        refine called f _ q (args ++ caps) (cargs.map a.eval ++ cx.toArray) ?_ ⟨by simp at hv1 ⊢; omega, fun i v x hi hx => ?_⟩ hf hm hr hu
        · simp only [execOp, hop, resolve, hfx, Deferred.ofValue, Sem.run_bind, Sem.run_pure, Result.andThen_ok, invoke]
          simp
        · simp only [Array.toList_append] at hx
          have hal : args.length = (cargs.map a.eval).toList.length := by simp at hv1 ⊢; omega
          by_cases hlt : i < args.length
          · rw [List.getElem?_append_left hlt] at hi
            rw [List.getElem?_append_left (by omega)] at hx
            exact hv2 (i + 1) v x (by simpa using hi) (by simpa using hx)
          · rw [List.getElem?_append_right (by omega)] at hi
            rw [List.getElem?_append_right (by omega), ← hal] at hx
            exact hcr _ v x hi (by simpa using hx)
  case rcall =>
    unfold compAny at hq
    simp only at hq
    split at hq
    case h_2 => cases hq
    rename_i c hop
    obtain ⟨cal, cargs, cty⟩ := c
    cases cal with
    | invoke _ _ => cases hq
    | builtin _ => cases hq
    | value fo =>
      cases fo with
      | tmp _ => cases hq
      | const _ => cases hq
      | global _ => cases hq
      | func f' =>
      injection hq with hq; injection hq with h1 h2; subst h1; subst h2
      simp [OpR, opF] at hR
  case mnx =>
    unfold compAny at hq
    simp only at hq
    split at hq
    case h_2 => cases hq
    injection hq with hq; injection hq with h1 h2; subst h1; subst h2
    simp [OpR, opF] at hR
  all_goals exact viaOp rfl
omit [Bk] in
theorem noCall_not {q : Option (Ok × List Operand)} {f : Nat} {os : List Operand} (h : noCall q = some (.rcall f, os)) : False := by
  cases q with
  | none => cases h
  | some q =>
    simp only [noCall] at h
    split at h
    · cases h
    · rename_i hn
      injection h with h; subst h
      exact hn rfl
omit [Bk] in
theorem noCall_nx {q : Option (Ok × List Operand)} {os : List Operand} (h : noCall q = some (.mnx, os)) : False := by
  cases q with
  | none => cases h
  | some q =>
    simp only [noCall] at h
    split at h
    · cases h
    · rename_i hn
      injection h with h; subst h
      exact hn rfl
theorem step_wp (h : SR nt n0 w0 own0 loc0 env ob a w own loc) {ops : Array Oper} {o : Oper} {hk : Ok} {ro : RO} (hc : compRO P nt ops o hk = some ro) {nid : Nat} (hf : ∀ id, nid ≤ id → loc id = none)
    {C : V → OB → Nat → Prop} (hS : stpR P ro.op (ro.xs.map (ev env)) ob nid C) {K : Act → World → Prop} {Q : Exit → Act → World → Prop}
    (hK : ∀ x r ob' n' w' own' loc', SR nt n0 w0 own0 loc0 (put env ro.d r) ob' (a.put o.dst x) w' own' loc' → (∀ id, n' ≤ id → loc' id = none) → C r ob' n' → K (a.put o.dst x) w') : o.wp P a w K Q := by
  by_cases hr : ∃ f, ro.op = .rcall f
  · obtain ⟨f, hrf⟩ := hr
    rw [hrf] at hS
    unfold compRO at hc
    split at hc
    case isFalse => cases hc
    rename_i hd
    obtain ⟨g, hg, hc⟩ := Option.bind_eq_some_iff.1 hc
    obtain ⟨⟨op, os⟩, hq, hc⟩ := Option.bind_eq_some_iff.1 hc
    obtain ⟨xs, hxs, hc⟩ := Option.map_eq_some_iff.1 hc
    subst hc
    simp only at hrf hS hK
    subst hrf
    have hv := evs_rv h hxs
    have hex : (execOp a.eval o).run P w = (callFunc f (os.map a.eval).toArray).run P w := by
      cases hk
      case call =>
        unfold compAny at hq
        simp only at hq
        split at hq
        case h_2 => cases hq
        rename_i c hop
        obtain ⟨cal, cargs, cty⟩ := c
        cases cal with
        | invoke _ _ => cases hq
        | builtin _ => cases hq
        | value fo => cases fo <;> cases hq
      case callv =>
        unfold compAny at hq
        simp only at hq
        split at hq
        case h_2 => cases hq
        rename_i c hop
        obtain ⟨cal, cargs, cty⟩ := c
        cases cal with
        | invoke _ _ => cases hq
        | builtin _ => cases hq
        | value fo => cases fo <;> cases hq
      case rcall =>
        unfold compAny at hq
        simp only at hq
        split at hq
        case h_2 => cases hq
        rename_i c hop
        obtain ⟨cal, cargs, cty⟩ := c
        cases cal with
        | invoke _ _ => cases hq
        | builtin _ => cases hq
        | value fo =>
          cases fo with
          | tmp _ => cases hq
          | const _ => cases hq
          | global _ => cases hq
          | func f' =>
          injection hq with hq; injection hq with h1 h2; injection h1 with h1; subst h1; subst h2
          have e : (cargs.toList.map a.eval).toArray = cargs.map a.eval := by apply Array.ext'; simp
          simp only [e]
          simp [execOp, hop, resolve, Deferred.ofValue, invoke, Act.eval]
      case mnx =>
        unfold compAny at hq
        simp only at hq
        split at hq <;> cases hq
      all_goals exact (noCall_not hq).elim
    rcases hS with ⟨hcl, hfn⟩ | hfn
    case inr =>
      obtain ⟨x, w', r, ob', nid', own', loc', hrun, h1, h2, h3, h4, h5⟩ := hfn _ n0 w own loc _ h.wf h.le hf hv
      unfold Oper.wp
      rw [hex, hrun]
      exact hK x r ob' nid' w' own' loc' (h.put hd h1 h2 h3) h4 h5
    unfold Oper.wp
    rw [hex, call_run hcl, Oper.upon_enter]
    refine (hfn _ n0 w own loc _ h.wf h.le hf hv).mono fun e w' ⟨x, r, ob', nid', own', loc', he, h1, h2, h3, h4, h5⟩ => ?_
    subst he
    exact hK x r ob' nid' w' own' loc' (h.put hd h1 h2 h3) h4 h5
  by_cases hm : ro.op = .mnx
  · rw [hm] at hS
    obtain ⟨it, id, seen, rows, cap, cap', hvs, hI, hM, hC1, hC2⟩ := hS
    unfold compRO at hc
    split at hc
    case isFalse => cases hc
    rename_i hd
    obtain ⟨g, hg, hc⟩ := Option.bind_eq_some_iff.1 hc
    obtain ⟨⟨op, os⟩, hq, hc⟩ := Option.bind_eq_some_iff.1 hc
    obtain ⟨xs, hxs, hc⟩ := Option.map_eq_some_iff.1 hc
    subst hc
    simp only at hm hvs hK
    subst hm
    have hv := evs_rv h hxs
    have hex : ∃ i, o.op = .next i false ∧ os = [i] := by
      cases hk
      case mnx =>
        unfold compAny at hq
        simp only at hq
        split at hq
        case h_2 => cases hq
        rename_i i hop
        injection hq with hq; injection hq with h1 h2
        exact ⟨i, hop, h2.symm⟩
      case call => 
        unfold compAny compCall at hq
        simp only at hq
        split at hq
        case h_2 => cases hq
        split at hq <;> cases hq
      case callv =>
        unfold compAny compCall at hq
        simp only at hq
        split at hq
        case h_2 => cases hq
        split at hq <;> cases hq
      case rcall =>
        unfold compAny compCall at hq
        simp only at hq
        split at hq
        case h_2 => cases hq
        split at hq <;> cases hq
      all_goals exact (noCall_nx hq).elim
    obtain ⟨i, hop, rfl⟩ := hex
    rw [hvs] at hv
    obtain ⟨_, hv2⟩ := hv
    have hx := hv2 0 _ _ rfl rfl
    have hrun : ∀ y w', (Instr.next (a.eval i) false o.type).run P w = .ok y w' → (execOp a.eval o).run P w = .ok (.value y) w' := fun y w' e => by
      simp [execOp, hop, e]
    rcases nx_run h.wf hI hM hx o.type with ⟨hall, w', h1, h2, h3⟩ | ⟨j, kv, vv, kx, vx, w', g1, g2, g3, g4, g5, g6, g7, g8⟩
    · unfold Oper.wp
      rw [hrun _ _ h1]
      exact hK (.tuple #[.bool false]) (.tp [.c (.bool false)]) ob nid w' own loc (h.put hd (.tp _ [.bool false] rfl fun i v x h1 h2 => by
        cases i with
        | zero => simp at h1 h2; subst h1; subst h2; exact .c _
        | succ i => simp at h1) h2 h3) hf (hC1 hall)
    · unfold Oper.wp
      rw [hrun _ _ g4]
      exact hK (.tuple #[.bool true, kx, vx]) (.tp [.c (.bool true), kv, vv]) _ nid w' own loc (h.put hd (.tp _ [.bool true, kx, vx] rfl fun i v x h1 h2 => by
        match i with
        | 0 => simp at h1 h2; subst h1; subst h2; exact .c _
        | 1 => simp at h1 h2; subst h1; subst h2; exact g5
        | 2 => simp at h1 h2; subst h1; subst h2; exact g6
        | i + 3 => simp at h1) g7 g8) hf (hC2 j kv vv g1 g2 g3)
  · unfold stpR at hS
    split at hS
    · rename_i heq; exact absurd ⟨_, heq⟩ hr
    · rename_i heq; exact absurd heq hm
    · obtain ⟨r, us, hR, hC⟩ := hS
      exact op_wp h hc (fun _ _ h => h) (hf nid (Nat.le_refl _)) hR fun x w' own' loc' hsr hst hn => hK x r _ (nid + 1) w' own' loc' hsr (fun id hid => hn id (by omega) (hf id (by omega))) hC
end
end Go.Proofs.YtbojpedklnmidaaGreat.D
end
section
set_option linter.unusedVariables false
set_option linter.unusedSectionVars false
set_option linter.unusedSimpArgs false
set_option linter.constructorNameAsVariable false
/- Code over plain values. No condition. -/
namespace Go.Proofs.YtbojpedklnmidaaGreat.D
open Go Go.RowKit
section
variable {P : Program} {nt n0 : Nat} {w0 : World} {own0 : Nat → Option Nat} {loc0 : Loc} [Bk]
theorem gd_wanted {env : Env} {ob : OB} {a : Act} {w : World} {own : Nat → Option Nat} {loc : Loc} (h : SR nt n0 w0 own0 loc0 env ob a w own loc) {ops : Array Oper} {o : Oper} {hk : Ok} {ro : RO} (hc : compRO P nt ops o hk = some ro) {A B : Prop} (hg : gd ro.g env A B) :
    (Region.wanted o (yielded ops a.tmps) = true ∧ A) ∨ (Region.wanted o (yielded ops a.tmps) = false ∧ B) := by
  unfold compRO at hc
  split at hc
  case isFalse => cases hc
  obtain ⟨g, hgu, hc⟩ := Option.bind_eq_some_iff.1 hc
  obtain ⟨⟨op, os⟩, hq, hc⟩ := Option.bind_eq_some_iff.1 hc
  obtain ⟨xs, hxs, hc⟩ := Option.map_eq_some_iff.1 hc
  subst hc
  simp only at hg
  split at hgu
  · rename_i hgn
    injection hgu with hgu; subst hgu
    exact .inl ⟨by simp [Region.wanted, hgn], hg⟩
  · rename_i j want hgn
    obtain ⟨t, ht, hgu⟩ := Option.map_eq_some_iff.1 hgu
    subst hgu
    obtain ⟨b, hb, h1, h2⟩ := hg
    have hv := h.vals t
    have hy : yielded ops a.tmps j = b := by
      unfold yielded
      rw [ht]
      simp only [Option.bind_some]
      cases b with
      | some b =>
        rw [hb] at hv
        have hx := RV.c_inv hv
        rw [Array.getD_eq_getD_getElem?] at hx
        cases hq : a.tmps[t]? with
        | none => rw [hq] at hx; simp [undef] at hx
        | some y => rw [hq] at hx; simp at hx; subst hx; rfl
      | none =>
        rw [hb] at hv
        have hx := RV.c_inv hv
        rw [Array.getD_eq_getD_getElem?] at hx
        cases hq : a.tmps[t]? with
        | none => rfl
        | some y => rw [hq] at hx; simp at hx; subst hx; rfl
    by_cases hbw : b = some want
    · exact .inl ⟨by simp [Region.wanted, hgn, hy, hbw], h1 hbw⟩
    · exact .inr ⟨by simp [Region.wanted, hgn, hy, hbw], h2 hbw⟩
theorem compRO_d {ops : Array Oper} {o : Oper} {hk : Ok} {ro : RO} (hc : compRO P nt ops o hk = some ro) : ro.d = o.dst ∧ dstOk nt o.dst = true := by
  unfold compRO at hc
  split at hc
  case isFalse => cases hc
  rename_i hd
  obtain ⟨g, hgu, hc⟩ := Option.bind_eq_some_iff.1 hc
  obtain ⟨⟨op, os⟩, hq, hc⟩ := Option.bind_eq_some_iff.1 hc
  obtain ⟨xs, hxs, hc⟩ := Option.map_eq_some_iff.1 hc
  subst hc
  exact ⟨rfl, hd⟩
theorem wpS_sound {ops : Array Oper} {Q : Exit → Act → World → Prop} {K : Env → OB → Nat → Prop} : ∀ (l : List Oper) (hs m : List RO) (nid : Nat) (env : Env) (ob : OB) (a : Act) (w : World) (own : Nat → Option Nat) (loc : Loc),
    compOps P nt ops l hs = some m → SR nt n0 w0 own0 loc0 env ob a w own loc → (∀ id, nid ≤ id → loc id = none) → wpS P m nid env ob K →
    (∀ env ob a w own loc n, SR nt n0 w0 own0 loc0 env ob a w own loc → (∀ id, n ≤ id → loc id = none) → K env ob n → Q .normal a w) → wpList P ops Q l a w
  | [], hs, m, nid, env, ob, a, w, own, loc, hc, h, hf, hw, hQ => by
    cases hs with
    | cons _ _ => simp [compOps] at hc
    | nil => simp only [compOps] at hc; injection hc with hc; subst hc; exact hQ env ob a w own loc nid h hf hw
  | o :: l, hs, m, nid, env, ob, a, w, own, loc, hc, h, hf, hw, hQ => by
    cases hs with
    | nil => simp [compOps] at hc
    | cons hk hs =>
      simp only [compOps] at hc
      obtain ⟨ro, hro, hc⟩ := Option.bind_eq_some_iff.1 hc
      obtain ⟨m', hm', hc⟩ := Option.map_eq_some_iff.1 hc
      subst hc
      simp only [wpS] at hw
      have hd := compRO_d hro
      unfold wpList
      rcases gd_wanted h hro hw with ⟨h1, hK⟩ | ⟨h1, hK⟩
      · rw [if_pos h1]
        left
        exact step_wp h hro hf hK fun x r ob' n' w' own' loc' hsr hf' hC => wpS_sound l hs m' n' _ _ _ _ _ _ hm' hsr hf' hC hQ
      · rw [if_neg (by rw [h1]; simp)]
        have hsr := h.put (d := o.dst) hd.2 (r := .c undef) (x := undef) (.c _) h.wf (.refl _ _ _)
        rw [hd.1] at hK
        exact wpS_sound l hs m' (nid + 1) _ _ _ _ _ _ hm' hsr (fun id hid => hf id (by omega)) hK hQ
end
inductive Ex where
  | nrm
  | ex (id : Nat)
  | rt
inductive IC where
  | skip
  | rg (ops : List RO) (draw : Bool)
  | rb (a : List RO) (o : RO) (b : List RO)
  | re (ops : List RO) (np : List (List Nat))
  | sq (a b : IC)
  | cn (c : Od) (a b : IC)
  | bl (id : Nat) (c : IC)
  | lp (c : IC)
  | ex (id : Nat)
  | rt
abbrev Post := Ex → Env → OB → Nat → Prop
end Go.Proofs.YtbojpedklnmidaaGreat.D
end
section
set_option linter.unusedVariables false
set_option linter.unusedSectionVars false
set_option linter.unusedSimpArgs false
set_option linter.constructorNameAsVariable false
/- Regions over plain values, in whatever order. No condition. -/
namespace Go.Proofs.YtbojpedklnmidaaGreat.D
open Go Go.RowKit
def noRead : Ok → Bool
  | .mv | .pick | .bin _ | .bb _ | .eqs _ _ | .un _ | .conv _ | .box _ | .alloc _ | .bld _ _ | .bsl _ _ _ _ _ | .fld _ _ | .mks _ _ _ | .len | .slen | .mx | .mn | .ext _ | .mkf _ => true
  | _ => false
theorem opF_noRead {op : Ok} (h : noRead op = true) (vs : List V) (ob ob' : OB) (nid : Nat) : opF op vs ob nid = opF op vs ob' nid := by
  cases op <;> first | (simp [noRead] at h; done) | (rcases vs with _ | ⟨a, _ | ⟨b, _ | ⟨c, _ | ⟨d, l⟩⟩⟩⟩ <;> rfl)
def looks (o : RO) : List Nat := (o.xs.filterMap fun | .t n => some n | .k _ => none) ++ (match o.g with | some (t, _) => [t] | none => [])
def binding (e : Edge) : Bool := Region.binds .any e
def maskOf (acc : List Nat) (o : Oper) : Nat := o.after.toList.foldr (fun e s => if binding e then s ||| 2 ^ e.on ||| acc.getD e.on 0 else s) 0
def ancL : List Oper → List Nat → List Nat
  | [], acc => acc
  | o :: l, acc => ancL l (acc ++ [maskOf acc o])
def cmp (an : List Nat) (i j : Nat) : Bool := if i < j then (an.getD j 0).testBit i else (an.getD i 0).testBit j
def drawOK (ops : Array Oper) (m : List RO) : Bool :=
  let an := ancL ops.toList []
  let n := m.length
  (ops.size == n) &&
  (List.range n).all fun j => match m[j]?, ops[j]? with
    | some oj, some o =>
      (o.after.toList.all fun e => !binding e || e.on < j) &&
      (List.range n).all fun i => i == j || match m[i]? with
        | some oi =>
          (match oi.d with
          | some t => (oj.d != some t) && (!(looks oj).contains t || cmp an i j)
          | none => true) &&
          (!isLoud oi.op || noRead oj.op || cmp an i j)
        | none => false
    | _, _ => false
def wpD (P : Program) : List RO → Nat → Env → OB → Ups → (Env → OB → Prop) → Prop
  | [], _, env, ob, dl, K => K env (apps ob dl)
  | o :: l, nid, env, ob, dl, K => gd o.g env
      (∃ r us, OpR P o.op (o.xs.map (ev env)) ob nid r us ∧ wpD P l (nid + 1) (put env o.d r) (if isLoud o.op then apps ob us else ob) (if isLoud o.op then dl else dl ++ us) K)
      (wpD P l (nid + 1) (put env o.d (.c undef)) ob dl K)
structure Rec where
  ex : Bool
  r : V
  us : Ups
def Rec.val (t : Rec) : V := if t.ex then t.r else .c undef
def cenv (m : List RO) (tr : Nat → Rec) (env : Env) : Nat → Env
  | 0 => env
  | j + 1 => match m[j]? with
    | some o => put (cenv m tr env j) o.d (tr j).val
    | none => cenv m tr env j
def cob (m : List RO) (tr : Nat → Rec) (ob : OB) : Nat → OB
  | 0 => ob
  | j + 1 => match m[j]? with
    | some o => cond ((tr j).ex && isLoud o.op) (apps (cob m tr ob j) (tr j).us) (cob m tr ob j)
    | none => cob m tr ob j
def qUps (m : List RO) (tr : Nat → Rec) : Nat → Ups
  | 0 => []
  | j + 1 => match m[j]? with
    | some o => cond ((tr j).ex && !isLoud o.op) (qUps m tr j ++ (tr j).us) (qUps m tr j)
    | none => qUps m tr j
def TrOk (P : Program) (m : List RO) (base : Nat) (env : Env) (ob : OB) (tr : Nat → Rec) : Prop :=
  ∀ j o, m[j]? = some o → gd o.g (cenv m tr env j) ((tr j).ex = true ∧ OpR P o.op (o.xs.map (ev (cenv m tr env j))) (cob m tr ob j) (base + j) (tr j).r (tr j).us) ((tr j).ex = false)
theorem gd_imp {g : Option (Nat × Bool)} {env : Env} {A B A' B' : Prop} (ha : A → A') (hb : B → B') (h : gd g env A B) : gd g env A' B' := by
  unfold gd at *
  split
  · exact ha h
  · obtain ⟨b, h1, h2, h3⟩ := h
    exact ⟨b, h1, fun e => ha (h2 e), fun e => hb (h3 e)⟩
def shiftT (r0 : Rec) (tr : Nat → Rec) : Nat → Rec
  | 0 => r0
  | i + 1 => tr i
theorem cenv_shift (o : RO) (l : List RO) (r0 : Rec) (tr : Nat → Rec) (env : Env) : ∀ j, cenv (o :: l) (shiftT r0 tr) env (j + 1) = cenv l tr (put env o.d r0.val) j
  | 0 => by simp [cenv, shiftT]
  | j + 1 => by
    rw [cenv, cenv_shift o l r0 tr env j]
    simp only [cenv, List.getElem?_cons_succ]
    cases l[j]? <;> rfl
theorem cob_shift (o : RO) (l : List RO) (r0 : Rec) (tr : Nat → Rec) (ob : OB) : ∀ j, cob (o :: l) (shiftT r0 tr) ob (j + 1) = cob l tr (cond (r0.ex && isLoud o.op) (apps ob r0.us) ob) j
  | 0 => rfl
  | j + 1 => by
    rw [cob, cob_shift o l r0 tr ob j]
    simp only [cob, List.getElem?_cons_succ]
    cases l[j]? <;> rfl
theorem qUps_shift (o : RO) (l : List RO) (r0 : Rec) (tr : Nat → Rec) : ∀ j, qUps (o :: l) (shiftT r0 tr) (j + 1) = (cond (r0.ex && !isLoud o.op) r0.us []) ++ qUps l tr j
  | 0 => by
    show cond (r0.ex && !isLoud o.op) ([] ++ r0.us) [] = _
    cases (r0.ex && !isLoud o.op) <;> simp [qUps]
  | j + 1 => by
    rw [qUps, qUps_shift o l r0 tr j]
    simp only [qUps, List.getElem?_cons_succ]
    cases l[j]? with
    | none => rfl
    | some q =>
      show cond ((tr j).ex && !isLoud q.op) (cond (r0.ex && !isLoud o.op) r0.us [] ++ qUps l tr j ++ (tr j).us) (cond (r0.ex && !isLoud o.op) r0.us [] ++ qUps l tr j) = cond (r0.ex && !isLoud o.op) r0.us [] ++ cond ((tr j).ex && !isLoud q.op) (qUps l tr j ++ (tr j).us) (qUps l tr j)
      cases ((tr j).ex && !isLoud q.op)
      · rfl
      · exact List.append_assoc _ _ _
theorem wpD_tr {P : Program} {K : Env → OB → Prop} : ∀ (l : List RO) (nid : Nat) (env : Env) (ob : OB) (dl : Ups), wpD P l nid env ob dl K →
    ∃ tr, TrOk P l nid env ob tr ∧ K (cenv l tr env l.length) (apps (cob l tr ob l.length) (dl ++ qUps l tr l.length))
  | [], nid, env, ob, dl, h => ⟨fun _ => ⟨false, .u, []⟩, fun j o h => by simp at h, by simpa [cenv, cob, qUps, wpD] using h⟩
  | o :: l, nid, env, ob, dl, h => by
    have go : ∀ (r0 : Rec), (gd o.g env (r0.ex = true ∧ OpR P o.op (o.xs.map (ev env)) ob nid r0.r r0.us) (r0.ex = false)) →
        wpD P l (nid + 1) (put env o.d r0.val) (cond (r0.ex && isLoud o.op) (apps ob r0.us) ob) (dl ++ (cond (r0.ex && !isLoud o.op) r0.us [])) K →
        ∃ tr, TrOk P (o :: l) nid env ob tr ∧ K (cenv (o :: l) tr env (o :: l).length) (apps (cob (o :: l) tr ob (o :: l).length) (dl ++ qUps (o :: l) tr (o :: l).length)) := fun r0 h0 h1 => by
      obtain ⟨tr, h2, h3⟩ := wpD_tr l (nid + 1) _ _ _ h1
      refine ⟨shiftT r0 tr, fun j q hq => ?_, ?_⟩
      · cases j with
        | zero => simp at hq; subst hq; simpa [cenv, cob, shiftT] using h0
        | succ j =>
          have := h2 j q (by simpa using hq)
          rw [cenv_shift, cob_shift]
          have e : nid + (j + 1) = nid + 1 + j := by omega
          rw [e]; exact this
      · rw [List.length_cons, cenv_shift, cob_shift, qUps_shift, ← List.append_assoc]; exact h3
    simp only [wpD] at h
    have key : (∃ r us, gd o.g env (OpR P o.op (o.xs.map (ev env)) ob nid r us) False ∧ wpD P l (nid + 1) (put env o.d r) (if isLoud o.op then apps ob us else ob) (if isLoud o.op then dl else dl ++ us) K) ∨ (gd o.g env False True ∧ wpD P l (nid + 1) (put env o.d (.c undef)) ob dl K) := by
      unfold gd at *
      split at h
      · obtain ⟨r, us, h1, h2⟩ := h; exact .inl ⟨r, us, h1, h2⟩
      · rename_i t want _
        obtain ⟨b, h1, h2, h3⟩ := h
        by_cases hb : b = some want
        · obtain ⟨r, us, h4, h5⟩ := h2 hb; exact .inl ⟨r, us, ⟨b, h1, fun _ => h4, fun e => absurd hb e⟩, h5⟩
        · exact .inr ⟨⟨b, h1, fun e => absurd e hb, fun _ => trivial⟩, h3 hb⟩
    rcases key with ⟨r, us, h1, h2⟩ | ⟨h1, h2⟩
    · refine go ⟨true, r, us⟩ (gd_imp (fun h => ⟨rfl, h⟩) (fun h => h.elim) h1) ?_
      cases hl : isLoud o.op <;> simp [hl, Rec.val] at h2 ⊢ <;> exact h2
    · refine go ⟨false, .u, []⟩ (gd_imp (fun h => h.elim) (fun _ => rfl) h1) ?_
      simpa [Rec.val] using h2
end Go.Proofs.YtbojpedklnmidaaGreat.D
end
section
set_option linter.unusedVariables false
set_option linter.unusedSectionVars false
set_option linter.unusedSimpArgs false
set_option linter.constructorNameAsVariable false
/- Regions over plain values, in whatever order: what holds at each place. No condition. -/
namespace Go.Proofs.YtbojpedklnmidaaGreat.D
open Go Go.RowKit
def Clo (ops : Array Oper) (D : Nat → Prop) : Prop := ∀ (j : Nat) (o : Oper), ops[j]? = some o → D j → ∀ e ∈ o.after, binding e = true → D e.on
def Rdy (ops : Array Oper) (D : Nat → Prop) (j : Nat) : Prop := ∀ o : Oper, ops[j]? = some o → ∀ e ∈ o.after, binding e = true → D e.on
theorem maskOf_spec {acc : List Nat} {o : Oper} {i : Nat} (h : (maskOf acc o).testBit i = true) : ∃ e ∈ o.after, binding e = true ∧ (i = e.on ∨ (acc.getD e.on 0).testBit i = true) := by
  unfold maskOf at h
  have aux : ∀ l : List Edge, (l.foldr (fun e s => if binding e then s ||| 2 ^ e.on ||| acc.getD e.on 0 else s) 0).testBit i = true → ∃ e ∈ l, binding e = true ∧ (i = e.on ∨ (acc.getD e.on 0).testBit i = true) := by
    intro l
    induction l with
    | nil => intro h; simp at h
    | cons e l ih =>
      intro h
      simp only [List.foldr_cons] at h
      split at h
      · rename_i hb
        rw [Nat.testBit_or, Nat.testBit_or, Nat.testBit_two_pow] at h
        simp only [Bool.or_eq_true, decide_eq_true_eq] at h
        rcases h with (h | h) | h
        · obtain ⟨e', h1, h2⟩ := ih h; exact ⟨e', by simp [h1], h2⟩
        · exact ⟨e, by simp, hb, .inl h.symm⟩
        · exact ⟨e, by simp, hb, .inr h⟩
      · obtain ⟨e', h1, h2⟩ := ih h; exact ⟨e', by simp [h1], h2⟩
  obtain ⟨e, h1, h2⟩ := aux _ h
  exact ⟨e, by simpa using h1, h2⟩
theorem ancL_ok (ops : Array Oper) : ∀ (l : List Oper) (acc : List Nat) (pre : List Oper), ops.toList = pre ++ l → acc.length = pre.length →
    (∀ j i, j < acc.length → (acc.getD j 0).testBit i = true → ∀ D, Clo ops D → Rdy ops D j → D i) →
    ∀ j i, j < (ancL l acc).length → ((ancL l acc).getD j 0).testBit i = true → ∀ D, Clo ops D → Rdy ops D j → D i
  | [], acc, pre, _, _, h => h
  | o :: l, acc, pre, he, hl, h => by
    simp only [ancL]
    refine ancL_ok ops l (acc ++ [maskOf acc o]) (pre ++ [o]) (by rw [he]; simp) (by simp [hl]) fun j i hj hb D hc hr => ?_
    by_cases hlt : j < acc.length
    · rw [List.getD_eq_getElem?_getD, List.getElem?_append_left hlt, ← List.getD_eq_getElem?_getD] at hb
      exact h j i hlt hb D hc hr
    · have hje : j = acc.length := by simp at hj; omega
      subst hje
      rw [List.getD_eq_getElem?_getD, List.getElem?_append_right (Nat.le_refl _)] at hb
      simp at hb
      obtain ⟨e, h1, h2, h3⟩ := maskOf_spec hb
      have ho : ops[acc.length]? = some o := by
        rw [← Array.getElem?_toList, he, hl]; simp
      have hD := hr o ho e h1 h2
      rcases h3 with rfl | h3
      · exact hD
      · by_cases hlt2 : e.on < acc.length
        · exact h e.on i hlt2 h3 D hc fun o' ho' e' he' hb' => hc e.on o' ho' hD e' he' hb'
        · rw [List.getD_eq_getElem?_getD, List.getElem?_eq_none (by omega)] at h3
          simp at h3
structure DrawP (ops : Array Oper) (m : List RO) (an : List Nat) : Prop where
  len : ops.size = m.length
  edge : ∀ (j : Nat) (o : Oper), ops[j]? = some o → ∀ e ∈ o.after, binding e = true → e.on < j
  dst : ∀ (i j : Nat) (oi oj : RO) (t : Nat), i ≠ j → m[i]? = some oi → m[j]? = some oj → oi.d = some t → oj.d ≠ some t
  look : ∀ (i j : Nat) (oi oj : RO) (t : Nat), i ≠ j → m[i]? = some oi → m[j]? = some oj → oi.d = some t → t ∈ looks oj → cmp an i j = true
  loud : ∀ (i j : Nat) (oi oj : RO), i ≠ j → m[i]? = some oi → m[j]? = some oj → isLoud oi.op = true → noRead oj.op = false → cmp an i j = true
  anc : ∀ j i, (an.getD j 0).testBit i = true → ∀ D, Clo ops D → Rdy ops D j → D i
theorem drawOK_spec {ops : Array Oper} {m : List RO} (h : drawOK ops m = true) : DrawP ops m (ancL ops.toList []) := by
  unfold drawOK at h
  simp only [Bool.and_eq_true, beq_iff_eq] at h
  obtain ⟨hlen, hall⟩ := h
  have at_ : ∀ (j : Nat) (oj : RO) (o : Oper), m[j]? = some oj → ops[j]? = some o → (o.after.toList.all fun e => !binding e || e.on < j) = true ∧
      ∀ (i : Nat) (oi : RO), i ≠ j → m[i]? = some oi → (match oi.d with | some t => (oj.d != some t) && (!(looks oj).contains t || cmp (ancL ops.toList []) i j) | none => true) = true ∧
        (!isLoud oi.op || noRead oj.op || cmp (ancL ops.toList []) i j) = true := fun j oj o hj ho => by
    have hjm : j ∈ List.range m.length := List.mem_range.2 (List.getElem?_eq_some_iff.1 hj).1
    have h1 := List.all_eq_true.1 hall j hjm
    simp only [hj, ho, Bool.and_eq_true] at h1
    refine ⟨h1.1, fun i oi hne hi => ?_⟩
    have him : i ∈ List.range m.length := List.mem_range.2 (List.getElem?_eq_some_iff.1 hi).1
    have h2 := List.all_eq_true.1 h1.2 i him
    simp only [hi, Bool.or_eq_true, beq_iff_eq, Bool.and_eq_true] at h2
    rcases h2 with h2 | h2
    · exact absurd h2 hne
    · refine ⟨h2.1, ?_⟩
      simpa [Bool.or_eq_true] using h2.2
  have opAt : ∀ (j : Nat) (oj : RO), m[j]? = some oj → ∃ o, ops[j]? = some o := fun j oj hj => by
    have : j < ops.size := by rw [hlen]; exact (List.getElem?_eq_some_iff.1 hj).1
    exact ⟨ops[j], Array.getElem?_eq_getElem this⟩
  refine ⟨hlen, fun j o ho e he hb => ?_, fun i j oi oj t hne hi hj hd => ?_, fun i j oi oj t hne hi hj hd ht => ?_, fun i j oi oj hne hi hj hl hr => ?_, fun j i hb D hc hr => ?_⟩
  · have hjs : j < ops.size := (Array.getElem?_eq_some_iff.1 ho).1
    have hj : m[j]? = some (m[j]'(by omega)) := List.getElem?_eq_getElem (by omega)
    have := List.all_eq_true.1 (at_ j _ o hj ho).1 e (by simpa using he)
    simpa [hb] using this
  · obtain ⟨o, ho⟩ := opAt j oj hj
    have := ((at_ j oj o hj ho).2 i oi hne hi).1
    rw [hd] at this
    simp only [Bool.and_eq_true, bne_iff_ne, ne_eq] at this
    exact this.1
  · obtain ⟨o, ho⟩ := opAt j oj hj
    have := ((at_ j oj o hj ho).2 i oi hne hi).1
    rw [hd] at this
    simp only [Bool.and_eq_true, Bool.or_eq_true, Bool.not_eq_true'] at this
    rcases this.2 with h | h
    · rw [List.contains_iff_mem.2 ht] at h; cases h
    · exact h
  · obtain ⟨o, ho⟩ := opAt j oj hj
    have := ((at_ j oj o hj ho).2 i oi hne hi).2
    simpa [hl, hr] using this
  · by_cases hj : j < (ancL ops.toList []).length
    · exact ancL_ok ops ops.toList [] [] rfl rfl (fun j i h => by simp at h) j i hj hb D hc hr
    · rw [List.getD_eq_getElem?_getD, List.getElem?_eq_none (by omega)] at hb
      simp at hb
theorem cmp_iff {ops : Array Oper} {m : List RO} {an : List Nat} (hp : DrawP ops m an) {i j : Nat} (hne : i ≠ j) (h : cmp an i j = true) {D : Nat → Prop} (hc : Clo ops D) (hr : Rdy ops D j) (hn : ¬ D j) : D i ↔ i < j := by
  unfold cmp at h
  split at h
  · rename_i hlt
    exact ⟨fun _ => hlt, fun _ => hp.anc j i h D hc hr⟩
  · rename_i hlt
    refine ⟨fun hi => absurd (hp.anc i j h D hc fun o ho e he hb => hc i o ho hi e he hb) hn, fun h => absurd h hlt⟩
theorem apps_append (ob : OB) : ∀ a b : Ups, apps ob (a ++ b) = apps (apps ob a) b
  | [], b => rfl
  | (i, o) :: a, b => apps_append _ a b
set_option maxHeartbeats 2000000 in
theorem opF_quiet {op : Ok} {vs : List V} {ob : OB} {nid : Nat} {r : V} {us : Ups} (h : opF op vs ob nid = some (r, us)) (hl : isLoud op = false) : us = [] ∨ ∃ o, us = [(nid, some o)] := by
  cases op
  case mlk st ks z two =>
    rcases vs with _ | ⟨a, _ | ⟨b, _ | ⟨c, l⟩⟩⟩ <;> first | (simp [opF] at h; done) | skip
    simp only [opF] at h
    split at h
    case h_2 => cases h
    obtain ⟨X, _, h2⟩ := Option.bind_eq_some_iff.1 h
    split at h2
    case isFalse => cases h2
    obtain ⟨q, _, h3⟩ := Option.map_eq_some_iff.1 h2
    injection h3 with h4 h5; exact .inl h5.symm
  case ent =>
    rcases vs with _ | ⟨a, _ | ⟨b, l⟩⟩ <;> first | (simp [opF] at h; done) | skip
    simp only [opF] at h
    split at h
    case h_2 => cases h
    obtain ⟨X, _, h2⟩ := Option.bind_eq_some_iff.1 h
    obtain ⟨q, _, h3⟩ := Option.map_eq_some_iff.1 h2
    injection h3 with h4 h5; exact .inl h5.symm
  case mrg =>
    rcases vs with _ | ⟨a, _ | ⟨b, l⟩⟩ <;> first | (simp [opF] at h; done) | skip
    simp only [opF] at h
    split at h
    case h_2 => cases h
    obtain ⟨X, _, h2⟩ := Option.bind_eq_some_iff.1 h
    injection h2 with h3; injection h3 with h4 h5; exact .inr ⟨_, h5.symm⟩
  case slc k lo hi =>
    cases lo <;> cases hi <;> (rcases vs with _ | ⟨a, _ | ⟨b, _ | ⟨c, _ | ⟨d, l⟩⟩⟩⟩) <;> first | (simp [opF] at h; done) | (simp [opF, Option.bind_eq_some_iff, Option.map_eq_some_iff] at h; grind)
  case appz k z =>
    rcases vs with _ | ⟨a, _ | ⟨b, _ | ⟨c, l⟩⟩⟩ <;> first | (simp [opF] at h; done) | skip
    simp only [opF] at h
    obtain ⟨n, _, h'⟩ := Option.bind_eq_some_iff.1 h
    clear h
    split at h'
    · obtain ⟨X, _, h2⟩ := Option.bind_eq_some_iff.1 h'
      obtain ⟨c, _, h3⟩ := Option.bind_eq_some_iff.1 h2
      split at h3
      · injection h3 with h3; injection h3 with h4 h5; exact .inr ⟨_, h5.symm⟩
      · cases h3
    · cases h'
  all_goals first | (simp [isLoud] at hl; done) | (rcases vs with _ | ⟨a, _ | ⟨b, _ | ⟨c, _ | ⟨d, _ | ⟨e, l⟩⟩⟩⟩⟩)
  all_goals first | (simp [opF] at h; done) | (simp [opF, Option.bind_eq_some_iff, Option.map_eq_some_iff] at h; grind)
set_option maxHeartbeats 2000000 in
theorem opF_loud {op : Ok} {vs : List V} {ob : OB} {nid : Nat} {r : V} {us : Ups} (h : opF op vs ob nid = some (r, us)) (hl : isLoud op = true) : ∀ p ∈ us, ob p.1 ≠ none ∨ p.1 = nid := by
  cases op
  case mup st ks =>
    rcases vs with _ | ⟨a, _ | ⟨b, _ | ⟨c, _ | ⟨d, l⟩⟩⟩⟩ <;> first | (simp [opF] at h; done) | skip
    simp only [opF] at h
    split at h
    case h_2 => cases h
    obtain ⟨X, hX, h2⟩ := Option.bind_eq_some_iff.1 h
    split at h2
    case isFalse => cases h2
    obtain ⟨q, _, h3⟩ := Option.map_eq_some_iff.1 h2
    injection h3 with h4 h5; subst h5
    intro p hp
    left
    simp at hp; subst hp
    simp [hX]
  all_goals first | (simp [isLoud] at hl; done) | (rcases vs with _ | ⟨a, _ | ⟨b, _ | ⟨c, l⟩⟩⟩)
  all_goals first | (simp [opF] at h; done) | skip
  case st.cons.cons.nil n =>
    simp only [opF] at h
    obtain ⟨q, _, h⟩ := Option.bind_eq_some_iff.1 h
    obtain ⟨X, hX, h⟩ := Option.bind_eq_some_iff.1 h
    obtain ⟨row, _, h⟩ := Option.bind_eq_some_iff.1 h
    grind
  case app.cons.cons.nil k =>
    simp only [opF] at h
    obtain ⟨q, _, h⟩ := Option.bind_eq_some_iff.1 h
    split at h
    case isFalse => cases h
    split at h
    · grind
    · obtain ⟨X, hX, h⟩ := Option.bind_eq_some_iff.1 h
      simp only [grown] at h
      grind
    · cases h
  case cpy.cons.cons.nil k =>
    simp only [opF] at h
    obtain ⟨q, _, h⟩ := Option.bind_eq_some_iff.1 h
    split at h
    · obtain ⟨X, hX, h⟩ := Option.bind_eq_some_iff.1 h
      grind
    · grind
    · grind
    · cases h
  case clr.cons.nil k z =>
    simp only [opF] at h
    split at h
    · obtain ⟨X, hX, h⟩ := Option.bind_eq_some_iff.1 h
      grind
    · grind
    · grind
    · cases h
theorem quiet_ups {P : Program} {op : Ok} {vs : List V} {ob : OB} {nid : Nat} {r : V} {us : Ups} (h : OpR P op vs ob nid r us) (hl : isLoud op = false) : us = [] ∨ ∃ o, us = [(nid, some o)] := by
  have hO : ∀ (k : Nat) (v : V), (impO k nid v).2 = [] ∨ ∃ o, (impO k nid v).2 = [(nid, some o)] := fun k v => by
    unfold impO
    split
    · split
      · exact .inl rfl
      · exact .inr ⟨_, rfl⟩
    · exact .inl rfl
  have hL : ∀ (k : Nat) (l : List V), (impL k nid l).2 = [] ∨ ∃ o, (impL k nid l).2 = [(nid, some o)] := fun k l => by
    induction l with
    | nil => exact .inl rfl
    | cons v l ih =>
      simp only [impL]
      split
      · exact hO k v
      · exact ih
  have hI : ∀ (m : Md) (q : V), (imp m nid q).2 = [] ∨ ∃ o, (imp m nid q).2 = [(nid, some o)] := fun m q => by
    cases m with
    | fz => exact .inl rfl
    | own k => cases q <;> first | exact hL k _ | exact hO k _
  unfold OpR at h
  split at h
  · obtain ⟨q, _, _, _, rfl⟩ := h; exact hI _ q
  · obtain ⟨f, caps, args, q, _, _, _, _, rfl⟩ := h; exact hI _ q
  · rename_i op hn1 hn2
    exact opF_quiet h hl
theorem loud_ups {P : Program} {op : Ok} {vs : List V} {ob : OB} {nid : Nat} {r : V} {us : Ups} (h : OpR P op vs ob nid r us) (hl : isLoud op = true) : ∀ p ∈ us, ob p.1 ≠ none ∨ p.1 = nid := by
  unfold OpR at h
  split at h
  · simp [isLoud] at hl
  · simp [isLoud] at hl
  · exact opF_loud h hl
end Go.Proofs.YtbojpedklnmidaaGreat.D
end
section
set_option linter.unusedVariables false
set_option linter.unusedSectionVars false
set_option linter.unusedSimpArgs false
set_option linter.constructorNameAsVariable false
/- Regions over plain values, in whatever order. No condition. -/
namespace Go.Proofs.YtbojpedklnmidaaGreat.D
open Go Go.RowKit
section
variable {P : Program} {ops : Array Oper} {m : List RO} {an : List Nat} {tr : Nat → Rec} {env : Env} {ob : OB} {base : Nat}
theorem put_some (env : Env) (n : Nat) (v : V) (t : Nat) : put env (some n) v t = if t = n then v else env t := rfl
theorem gd_true {g : Option (Nat × Bool)} {env : Env} {x : Bool} {R : Prop} (h : gd g env (x = true ∧ R) (x = false)) (hx : x = true) : R := by
  unfold gd at h
  split at h
  · exact h.2
  · rename_i t want
    obtain ⟨b, h1, h2, h3⟩ := h
    by_cases hb : b = some want
    · exact (h2 hb).2
    · rw [h3 hb] at hx; cases hx
noncomputable def envD (m : List RO) (tr : Nat → Rec) (env : Env) (D : Nat → Prop) : Env := fun t => by
  classical exact if h : ∃ i, D i ∧ ∃ o, m[i]? = some o ∧ o.d = some t then (tr (Classical.choose h)).val else env t
theorem envD_in (hp : DrawP ops m an) {D : Nat → Prop} {i t : Nat} {o : RO} (hi : m[i]? = some o) (hd : o.d = some t) (hD : D i) : envD m tr env D t = (tr i).val := by
  have h : ∃ i, D i ∧ ∃ o, m[i]? = some o ∧ o.d = some t := ⟨i, hD, o, hi, hd⟩
  unfold envD
  rw [dif_pos h]
  obtain ⟨h1, o', h2, h3⟩ := Classical.choose_spec h
  have : Classical.choose h = i := Classical.byContradiction fun hne => hp.dst _ _ o' o t hne h2 hi h3 hd
  rw [this]
theorem envD_out {D : Nat → Prop} {t : Nat} (h : ∀ (i : Nat) (o : RO), m[i]? = some o → o.d = some t → ¬ D i) : envD m tr env D t = env t := by
  unfold envD
  rw [dif_neg]
  rintro ⟨i, h1, o, h2, h3⟩
  exact h i o h2 h3 h1
theorem cenv_in (hp : DrawP ops m an) {i t : Nat} {o : RO} (hi : m[i]? = some o) (hd : o.d = some t) : ∀ j, i < j → cenv m tr env j t = (tr i).val
  | 0, h => by omega
  | j + 1, h => by
    simp only [cenv]
    cases hj : m[j]? with
    | none => 
      have : i < j := by
        have := (List.getElem?_eq_some_iff.1 hi).1
        have := List.getElem?_eq_none_iff.1 hj
        omega
      exact cenv_in hp hi hd j this
    | some q =>
      by_cases hij : i = j
      · subst hij
        rw [hj] at hi; injection hi with hi; subst hi
        show put (cenv m tr env i) q.d (tr i).val t = _
        rw [hd, put_some, if_pos rfl]
      · have hne : q.d ≠ some t := hp.dst i j o q t hij hi hj hd
        have ih := cenv_in hp hi hd j (by omega)
        show put (cenv m tr env j) q.d (tr j).val t = _
        cases hq : q.d with
        | none => exact ih
        | some n =>
          have : t ≠ n := fun e => hne (by rw [hq, e])
          rw [put_some, if_neg this]; exact ih
theorem cenv_out {t : Nat} : ∀ j, (∀ (i : Nat) (o : RO), i < j → m[i]? = some o → o.d ≠ some t) → cenv m tr env j t = env t
  | 0, _ => rfl
  | j + 1, h => by
    simp only [cenv]
    have ih := cenv_out j fun i o hi => h i o (by omega)
    cases hj : m[j]? with
    | none => exact ih
    | some q =>
      have hne := h j q (by omega) hj
      show put (cenv m tr env j) q.d (tr j).val t = _
      cases hq : q.d with
      | none => exact ih
      | some n =>
        have : t ≠ n := fun e => hne (by rw [hq, e])
        rw [put_some, if_neg this]; exact ih
theorem look_eq (hp : DrawP ops m an) {D : Nat → Prop} (hc : Clo ops D) {j : Nat} {oj : RO} (hj : m[j]? = some oj) (hr : Rdy ops D j) (hn : ¬ D j) {t : Nat} (ht : t ∈ looks oj) :
    envD m tr env D t = cenv m tr env j t := by
  by_cases hex : ∃ (i : Nat) (o : RO), m[i]? = some o ∧ o.d = some t
  · obtain ⟨i, o, hi, hd⟩ := hex
    by_cases hij : i = j
    · subst hij
      rw [envD_out, cenv_out]
      · intro i' o' hlt hi' hd'
        exact hp.dst i' i o' o t (by omega) hi' hi hd' hd
      · intro i' o' hi' hd' hD
        by_cases h : i' = i
        · subst h; exact hn hD
        · exact hp.dst i' i o' o t h hi' hi hd' hd
    · have hiff := cmp_iff hp hij (hp.look i j o oj t hij hi hj hd ht) hc hr hn
      by_cases hlt : i < j
      · rw [envD_in hp hi hd (hiff.2 hlt), cenv_in hp hi hd j hlt]
      · rw [envD_out, cenv_out]
        · intro i' o' hlt' hi' hd'
          exact hp.dst i' i o' o t (by omega) hi' hi hd' hd
        · intro i' o' hi' hd' hD
          by_cases h : i' = i
          · subst h; exact hlt (hiff.1 hD)
          · exact hp.dst i' i o' o t h hi' hi hd' hd
  · rw [envD_out, cenv_out]
    · exact fun i o _ hi hd => hex ⟨i, o, hi, hd⟩
    · exact fun i o hi hd _ => hex ⟨i, o, hi, hd⟩
theorem envD_put (hp : DrawP ops m an) {D : Nat → Prop} {j : Nat} {oj : RO} (hj : m[j]? = some oj) (hn : ¬ D j) :
    put (envD m tr env D) oj.d (tr j).val = envD m tr env (fun i => D i ∨ i = j) := by
  funext t
  cases hd : oj.d with
  | none =>
    show envD m tr env D t = _
    by_cases hex : ∃ (i : Nat) (o : RO), m[i]? = some o ∧ o.d = some t ∧ D i
    · obtain ⟨i, o, h1, h2, h3⟩ := hex
      rw [envD_in hp h1 h2 h3, envD_in hp h1 h2 (.inl h3)]
    · rw [envD_out fun i o h1 h2 h3 => hex ⟨i, o, h1, h2, h3⟩, envD_out]
      rintro i o h1 h2 (h3 | h3)
      · exact hex ⟨i, o, h1, h2, h3⟩
      · subst h3; rw [hj] at h1; injection h1 with h1; subst h1; rw [hd] at h2; cases h2
  | some n =>
    rw [put_some]
    by_cases htn : t = n
    · subst htn
      rw [if_pos rfl, envD_in hp hj hd (.inr rfl)]
    · rw [if_neg htn]
      by_cases hex : ∃ (i : Nat) (o : RO), m[i]? = some o ∧ o.d = some t ∧ D i
      · obtain ⟨i, o, h1, h2, h3⟩ := hex
        rw [envD_in hp h1 h2 h3, envD_in hp h1 h2 (.inl h3)]
      · rw [envD_out fun i o h1 h2 h3 => hex ⟨i, o, h1, h2, h3⟩, envD_out]
        rintro i o h1 h2 (h3 | h3)
        · exact hex ⟨i, o, h1, h2, h3⟩
        · subst h3; rw [hj] at h1; injection h1 with h1; subst h1; rw [hd] at h2; injection h2 with h2; exact htn h2.symm
def lookU : Ups → Nat → Option Ob
  | [], _ => none
  | (i, o) :: l, id => if i = id then o else lookU l id
noncomputable def qD (m : List RO) (tr : Nat → Rec) (base : Nat) (D : Nat → Prop) : OB := fun id => by
  classical exact if h : base ≤ id ∧ ∃ o, m[id - base]? = some o ∧ isLoud o.op = false ∧ D (id - base) ∧ (tr (id - base)).ex = true then lookU (tr (id - base)).us id else none
noncomputable def obD (m : List RO) (tr : Nat → Rec) (base : Nat) (ob : OB) (D : Nat → Prop) (k : Nat) : OB := fun id => (qD m tr base D id).or (cob m tr ob k id)
theorem cob_quiet (ht : TrOk P m base env ob tr) (hob : ∀ id, base ≤ id → ob id = none) {i : Nat} {o : RO} (hi : m[i]? = some o) (hl : isLoud o.op = false) : ∀ k, cob m tr ob k (base + i) = none
  | 0 => hob _ (by omega)
  | k + 1 => by
    simp only [cob]
    have ih := cob_quiet ht hob hi hl k
    cases hk : m[k]? with
    | none => exact ih
    | some q =>
      show cond ((tr k).ex && isLoud q.op) (apps (cob m tr ob k) (tr k).us) (cob m tr ob k) (base + i) = none
      cases hx : ((tr k).ex && isLoud q.op) with
      | false => exact ih
      | true =>
        simp only [Bool.and_eq_true] at hx
        have hR : OpR P q.op (q.xs.map (ev (cenv m tr env k))) (cob m tr ob k) (base + k) (tr k).r (tr k).us := by
          exact gd_true (ht k q hk) hx.1
        have hu := loud_ups hR hx.2
        have hik : i ≠ k := by rintro rfl; rw [hi] at hk; injection hk with hk; subst hk; rw [hl] at hx; cases hx.2
        have aux : ∀ (us : Ups) (ob' : OB), ob' (base + i) = none → (∀ p ∈ us, p.1 ≠ base + i) → apps ob' us (base + i) = none := by
          intro us
          induction us with
          | nil => intro ob' h _; exact h
          | cons p us ih2 =>
            intro ob' h hp
            obtain ⟨j, o'⟩ := p
            refine ih2 _ ?_ fun p hp' => hp p (by simp [hp'])
            have := hp (j, o') (by simp)
            show (if base + i = j then o' else ob' (base + i)) = none
            rw [if_neg (fun e => this e.symm)]; exact h
        refine aux _ _ ih fun p hp e => ?_
        rcases hu p hp with h | h
        · rw [e, ih] at h; exact h rfl
        · omega
theorem apps_or : ∀ (us : Ups) (q ob : OB), (∀ p ∈ us, q p.1 = none) → apps (fun id => (q id).or (ob id)) us = fun id => (q id).or (apps ob us id)
  | [], q, ob, _ => rfl
  | (i, o) :: us, q, ob, h => by
    simp only [apps]
    rw [← apps_or us q _ fun p hp => h p (by simp [hp])]
    congr 1
    funext id
    by_cases hid : id = i
    · subst hid; simp [h (id, o) (by simp)]
    · simp [hid]
theorem qD_at {D : Nat → Prop} {i : Nat} {o : RO} (hi : m[i]? = some o) (hl : isLoud o.op = false) (hD : D i) (hx : (tr i).ex = true) : qD m tr base D (base + i) = lookU (tr i).us (base + i) := by
  unfold qD
  have e : base + i - base = i := by omega
  rw [dif_pos ⟨by omega, o, by rw [e]; exact ⟨hi, hl, hD, hx⟩⟩, e]
theorem qD_none {D : Nat → Prop} {id : Nat} (h : ∀ (i : Nat) (o : RO), id = base + i → m[i]? = some o → isLoud o.op = false → D i → (tr i).ex = true → False) : qD m tr base D id = none := by
  unfold qD
  rw [dif_neg]
  rintro ⟨h1, o, h2, h3, h4, h5⟩
  exact h (id - base) o (by omega) h2 h3 h4 h5
theorem qD_congr {D D' : Nat → Prop} {id : Nat} (h : ∀ i, id = base + i → (D i ↔ D' i)) : qD m tr base D id = qD m tr base D' id := by
  by_cases hex : ∃ (i : Nat) (o : RO), id = base + i ∧ m[i]? = some o ∧ isLoud o.op = false ∧ D i ∧ (tr i).ex = true
  · obtain ⟨i, o, rfl, h1, h2, h3, h4⟩ := hex
    rw [qD_at h1 h2 h3 h4, qD_at h1 h2 ((h i rfl).1 h3) h4]
  · rw [qD_none fun i o h0 h1 h2 h3 h4 => hex ⟨i, o, h0, h1, h2, h3, h4⟩, qD_none fun i o h0 h1 h2 h3 h4 => hex ⟨i, o, h0, h1, h2, (h i h0).2 h3, h4⟩]
theorem cob_same {k : Nat} : ∀ j, k ≤ j → (∀ (i : Nat) (o : RO), k ≤ i → i < j → m[i]? = some o → isLoud o.op = false) → cob m tr ob j = cob m tr ob k
  | 0, h, _ => by obtain rfl : k = 0 := by omega
                  rfl
  | j + 1, h, hl => by
    by_cases hk : k = j + 1
    · rw [hk]
    · simp only [cob]
      have ih := cob_same j (by omega) fun i o h1 h2 => hl i o h1 (by omega)
      cases hj : m[j]? with
      | none => exact ih
      | some q =>
        show cond ((tr j).ex && isLoud q.op) _ _ = _
        rw [hl j q (by omega) (by omega) hj, Bool.and_false]; exact ih
def Upto (m : List RO) (D : Nat → Prop) (k : Nat) : Prop := ∀ (i : Nat) (o : RO), m[i]? = some o → isLoud o.op = true → (D i ↔ i < k)
theorem cob_ready (hp : DrawP ops m an) {D : Nat → Prop} (hc : Clo ops D) {j k : Nat} {oj : RO} (hj : m[j]? = some oj) (hr : Rdy ops D j) (hn : ¬ D j) (hu : Upto m D k) (hrd : noRead oj.op = false) : cob m tr ob j = cob m tr ob k := by
  rcases Nat.le_total k j with h | h
  · refine cob_same j h fun i o h1 h2 hi => ?_
    cases hl : isLoud o.op with
    | false => rfl
    | true =>
      have := (cmp_iff hp (by omega) (hp.loud i j o oj (by omega) hi hj hl hrd) hc hr hn).2 h2
      have := (hu i o hi hl).1 this
      omega
  · refine (cob_same k h fun i o h1 h2 hi => ?_).symm
    cases hl : isLoud o.op with
    | false => rfl
    | true =>
      have hD := (hu i o hi hl).2 h2
      by_cases hij : i = j
      · subst hij; exact absurd hD hn
      · have := (cmp_iff hp hij (hp.loud i j o oj hij hi hj hl hrd) hc hr hn).1 hD
        omega
theorem noRead_loud {op : Ok} (h : isLoud op = true) : noRead op = false := by cases op <;> first | rfl | simp [isLoud] at h
theorem obD_step (ht : TrOk P m base env ob tr) (hob : ∀ id, base ≤ id → ob id = none) (hp : DrawP ops m an) {D : Nat → Prop} (hc : Clo ops D) {j k : Nat} {oj : RO} (hj : m[j]? = some oj) (hr : Rdy ops D j) (hn : ¬ D j) (hu : Upto m D k)
    (hx : (tr j).ex = true) : ∃ k', Upto m (fun i => D i ∨ i = j) k' ∧ apps (obD m tr base ob D k) (tr j).us = obD m tr base ob (fun i => D i ∨ i = j) k' := by
  have hR := gd_true (ht j oj hj) hx
  cases hl : isLoud oj.op with
  | false =>
    refine ⟨k, fun i o hi hlo => ?_, ?_⟩
    · rw [← hu i o hi hlo]
      refine ⟨fun h => h.resolve_right ?_, .inl⟩
      rintro rfl; rw [hj] at hi; injection hi with hi; subst hi; rw [hl] at hlo; cases hlo
    · funext id
      rcases quiet_ups hR hl with hus | ⟨o', hus⟩
      · rw [hus]
        simp only [apps, obD]
        congr 1
        by_cases hid : id = base + j
        · subst hid
          rw [qD_none, qD_at hj hl (.inr rfl) hx, hus]
          · rfl
          · intro i o h0 h1 h2 h3 h4
            obtain rfl : i = j := by omega
            exact hn h3
        · exact qD_congr fun i hi => ⟨.inl, fun h => h.resolve_right fun e => hid (by rw [hi, e])⟩
      · rw [hus]
        simp only [apps, obD]
        by_cases hid : id = base + j
        · subst hid
          rw [if_pos rfl, qD_at hj hl (.inr rfl) hx, hus]
          simp [lookU]
        · rw [if_neg hid]
          congr 1
          exact qD_congr fun i hi => ⟨.inl, fun h => h.resolve_right fun e => hid (by rw [hi, e])⟩
  | true =>
    have hcj := cob_ready (tr := tr) (ob := ob) hp hc hj hr hn hu (noRead_loud hl)
    refine ⟨j + 1, fun i o hi hlo => ?_, ?_⟩
    · by_cases hij : i = j
      · subst hij; exact ⟨fun _ => by omega, fun _ => .inr rfl⟩
      · have := cmp_iff hp hij (hp.loud i j o oj hij hi hj hlo (noRead_loud hl)) hc hr hn
        refine ⟨fun h => by have := this.1 (h.resolve_right hij); omega, fun h => .inl (this.2 (by omega))⟩
    · have hcs : cob m tr ob (j + 1) = apps (cob m tr ob j) (tr j).us := by
        simp only [cob, hj]
        show cond ((tr j).ex && isLoud oj.op) _ _ = _
        rw [hx, hl]; rfl
      have e : obD m tr base ob D k = fun id => (qD m tr base D id).or (cob m tr ob j id) := by
        funext id; simp only [obD]; rw [hcj]
      rw [e, apps_or]
      · funext id
        simp only [obD]
        rw [hcs]
        congr 1
        by_cases hid : id = base + j
        · subst hid
          have nq : ∀ D' : Nat → Prop, qD m tr base D' (base + j) = none := fun D' => qD_none fun i o h0 h1 h2 h3 h4 => by
            obtain rfl : i = j := by omega
            rw [hj] at h1; injection h1 with h1; subst h1; rw [hl] at h2; cases h2
          rw [nq, nq]
        · exact qD_congr fun i hi => ⟨.inl, fun h => h.resolve_right fun e => hid (by rw [hi, e])⟩
      · intro p hp'
        rcases loud_ups hR hl p hp' with h | h
        · refine qD_none fun i o h0 h1 h2 h3 h4 => ?_
          rw [h0, cob_quiet ht hob h1 h2 j] at h
          exact h rfl
        · refine qD_none fun i o h0 h1 h2 h3 h4 => ?_
          obtain rfl : i = j := by omega
          rw [hj] at h1; injection h1 with h1; subst h1; rw [hl] at h2; cases h2
theorem qUps_all (ht : TrOk P m base env ob tr) (hob : ∀ id, base ≤ id → ob id = none) (ob' : OB) (hob' : ∀ (i : Nat) (o : RO), m[i]? = some o → isLoud o.op = false → ob' (base + i) = none) :
    ∀ j, apps ob' (qUps m tr j) = fun id => (qD m tr base (fun i => i < j) id).or (ob' id)
  | 0 => by
    funext id
    rw [qD_none fun i o h0 h1 h2 h3 => by omega]; rfl
  | j + 1 => by
    have ih := qUps_all ht hob ob' hob' j
    simp only [qUps]
    cases hj : m[j]? with
    | none =>
      rw [ih]
      funext id
      congr 1
      by_cases hid : id = base + j
      · subst hid
        rw [qD_none fun i o h0 h1 h2 h3 => by omega, qD_none fun i o' h0 h1 h2 h3 h4 => ?_]
        obtain rfl : i = j := by omega
        rw [hj] at h1; cases h1
      · exact qD_congr fun i hi => ⟨fun h => by omega, fun h => by have : i ≠ j := fun e => hid (by rw [hi, e]); omega⟩
    | some o =>
      show apps ob' (cond ((tr j).ex && !isLoud o.op) (qUps m tr j ++ (tr j).us) (qUps m tr j)) = _
      cases hx : ((tr j).ex && !isLoud o.op) with
      | false =>
        show apps ob' (qUps m tr j) = _
        rw [ih]
        funext id
        congr 1
        by_cases hid : id = base + j
        · subst hid
          rw [qD_none fun i o h0 h1 h2 h3 => by omega, qD_none fun i o' h0 h1 h2 h3 h4 => ?_]
          obtain rfl : i = j := by omega
          rw [hj] at h1; injection h1 with h1; subst h1
          rw [h2, h4] at hx; cases hx
        · exact qD_congr fun i hi => ⟨fun h => by omega, fun h => by have : i ≠ j := fun e => hid (by rw [hi, e]); omega⟩
      | true =>
        show apps ob' (qUps m tr j ++ (tr j).us) = _
        simp only [Bool.and_eq_true, Bool.not_eq_true'] at hx
        rw [apps_append, ih]
        have hR := gd_true (ht j o hj) hx.1
        funext id
        rcases quiet_ups hR hx.2 with hus | ⟨o', hus⟩
        · rw [hus]
          show (qD m tr base (fun i => i < j) id).or (ob' id) = _
          congr 1
          by_cases hid : id = base + j
          · subst hid
            rw [qD_none fun i o h0 h1 h2 h3 => by omega, qD_at hj hx.2 (Nat.lt_succ_self j) hx.1, hus]; rfl
          · exact qD_congr fun i hi => ⟨fun h => by omega, fun h => by have : i ≠ j := fun e => hid (by rw [hi, e]); omega⟩
        · rw [hus]
          show (if id = base + j then some o' else (qD m tr base (fun i => i < j) id).or (ob' id)) = _
          by_cases hid : id = base + j
          · subst hid
            rw [if_pos rfl, qD_at hj hx.2 (Nat.lt_succ_self j) hx.1, hus]; simp [lookU]
          · rw [if_neg hid]
            congr 1
            exact qD_congr fun i hi => ⟨fun h => by omega, fun h => by have : i ≠ j := fun e => hid (by rw [hi, e]); omega⟩
end
end Go.Proofs.YtbojpedklnmidaaGreat.D
end
section
set_option linter.unusedVariables false
set_option linter.unusedSectionVars false
set_option linter.unusedSimpArgs false
set_option linter.constructorNameAsVariable false
/- Regions over plain values, in whatever order: the machine goes through them. No condition. -/
namespace Go.Proofs.YtbojpedklnmidaaGreat.D
open Go Go.RowKit
section
variable {P : Program} {ops : Array Oper} {m : List RO} {an : List Nat} {tr : Nat → Rec} {env : Env} {ob : OB} {base : Nat}
variable {nt n0 : Nat} {w0 : World} {own0 : Nat → Option Nat} {loc0 : Loc} [Bk]
theorem obD_skip (hp : DrawP ops m an) {D : Nat → Prop} (hc : Clo ops D) {j k : Nat} {oj : RO} (hj : m[j]? = some oj) (hr : Rdy ops D j) (hn : ¬ D j) (hu : Upto m D k)
    (hx : (tr j).ex = false) : ∃ k', Upto m (fun i => D i ∨ i = j) k' ∧ obD m tr base ob D k = obD m tr base ob (fun i => D i ∨ i = j) k' := by
  have hq : ∀ id, qD m tr base D id = qD m tr base (fun i => D i ∨ i = j) id := fun id => by
    by_cases hid : id = base + j
    · subst hid
      have nq : ∀ D' : Nat → Prop, qD m tr base D' (base + j) = none := fun D' => qD_none fun i o h0 h1 h2 h3 h4 => by
        obtain rfl : i = j := by omega
        rw [hx] at h4; cases h4
      rw [nq, nq]
    · exact qD_congr fun i hi => ⟨.inl, fun h => h.resolve_right fun e => hid (by rw [hi, e])⟩
  cases hl : isLoud oj.op with
  | false =>
    refine ⟨k, fun i o hi hlo => ?_, ?_⟩
    · rw [← hu i o hi hlo]
      refine ⟨fun h => h.resolve_right ?_, .inl⟩
      rintro rfl; rw [hj] at hi; injection hi with hi; subst hi; rw [hl] at hlo; cases hlo
    · funext id; simp only [obD]; rw [hq]
  | true =>
    have hcj := cob_ready (tr := tr) (ob := ob) hp hc hj hr hn hu (noRead_loud hl)
    refine ⟨j + 1, fun i o hi hlo => ?_, ?_⟩
    · by_cases hij : i = j
      · subst hij; exact ⟨fun _ => by omega, fun _ => .inr rfl⟩
      · have := cmp_iff hp hij (hp.loud i j o oj hij hi hj hlo (noRead_loud hl)) hc hr hn
        refine ⟨fun h => by have := this.1 (h.resolve_right hij); omega, fun h => .inl (this.2 (by omega))⟩
    · have hcs : cob m tr ob (j + 1) = cob m tr ob j := by
        simp only [cob, hj]
        show cond ((tr j).ex && isLoud oj.op) _ _ = _
        rw [hx]; rfl
      funext id; simp only [obD]; rw [hq, hcs, hcj]
theorem gd_env {g : Option (Nat × Bool)} {env env' : Env} {A B : Prop} (h : ∀ t want, g = some (t, want) → env t = env' t) (hg : gd g env A B) : gd g env' A B := by
  unfold gd at *
  split
  · exact hg
  · rename_i t want
    obtain ⟨b, h1, h2⟩ := hg
    exact ⟨b, by rw [← h t want rfl]; exact h1, h2⟩
theorem ready_all (hp : DrawP ops m an) {listed : Array Bool} (hs : listed.size = ops.size) (h : Region.ready .any ops listed = []) : ∀ j, j < ops.size → listed.getD j false = true := by
  intro j
  induction j using Nat.strongRecOn with
  | _ j ih =>
    intro hj
    refine Classical.byContradiction fun hn => ?_
    have ho : ops[j]? = some ops[j] := Array.getElem?_eq_getElem hj
    have : j ∈ Region.ready .any ops listed := mem_ready.2 ⟨by
      simp only [Array.getD_eq_getD_getElem?] at hn ⊢
      rw [Array.getElem?_eq_getElem (by omega)] at hn ⊢
      simpa using hn, ops[j], ho, fun e he hb => ih e.on (hp.edge j _ ho e he hb) (by have := hp.edge j _ ho e he hb; omega)⟩
    rw [h] at this; cases this
theorem compOps_at {nt : Nat} : ∀ (l : List Oper) (hs m : List RO), compOps P nt ops l hs = some m → m.length = l.length ∧ ∀ (i : Nat) (o : Oper), l[i]? = some o → ∃ hk ro, m[i]? = some ro ∧ compRO P nt ops o hk = some ro
  | [], hs, m, h => by
    cases hs with
    | nil => simp only [compOps] at h; injection h with h; subst h; exact ⟨rfl, fun i o h => by simp at h⟩
    | cons _ _ => simp [compOps] at h
  | o :: l, hs, m, h => by
    cases hs with
    | nil => simp [compOps] at h
    | cons hk hs =>
      simp only [compOps] at h
      obtain ⟨ro, h1, h⟩ := Option.bind_eq_some_iff.1 h
      obtain ⟨m', h2, h⟩ := Option.map_eq_some_iff.1 h
      subst h
      obtain ⟨h3, h4⟩ := compOps_at l hs m' h2
      refine ⟨by simp [h3], fun i o' hi => ?_⟩
      cases i with
      | zero => simp at hi; subst hi; exact ⟨_, ro, rfl, h1⟩
      | succ i => simpa using h4 i o' (by simpa using hi)
def unl (listed : Array Bool) (n : Nat) : Nat := ((List.range n).filter fun i => !listed.getD i true).length
theorem filter_le {p q : Nat → Bool} : ∀ l : List Nat, (∀ x ∈ l, p x = true → q x = true) → (l.filter p).length ≤ (l.filter q).length
  | [], _ => Nat.le_refl _
  | x :: l, h => by
    have ih := filter_le l fun y hy => h y (by simp [hy])
    have hx := h x (by simp)
    simp only [List.filter_cons]
    cases hp : p x with
    | false => cases hq : q x <;> simp <;> omega
    | true => rw [hx hp]; simp; omega
theorem filter_lt {p q : Nat → Bool} {y : Nat} : ∀ l : List Nat, (∀ x ∈ l, p x = true → q x = true) → y ∈ l → q y = true → p y = false → (l.filter p).length < (l.filter q).length
  | [], _, hy, _, _ => by cases hy
  | x :: l, h, hy, hq, hp => by
    have h' : ∀ z ∈ l, p z = true → q z = true := fun z hz => h z (by simp [hz])
    simp only [List.filter_cons]
    by_cases hxy : x = y
    · subst hxy
      rw [hq, hp]
      have := filter_le l h'
      simp; omega
    · have hyl : y ∈ l := by
        rcases List.mem_cons.1 hy with e | e
        · exact absurd e.symm hxy
        · exact e
      have ih := filter_lt l h' hyl hq hp
      have hx := h x (by simp)
      cases hp' : p x with
      | false => cases hq' : q x <;> simp <;> omega
      | true => rw [hx hp']; simp; omega
theorem unl_set {listed : Array Bool} {n i : Nat} (hi : i < n) (hn : listed.getD i true = false) : unl (listed.setIfInBounds i true) n < unl listed n := by
  have his : i < listed.size := by
    rcases Nat.lt_or_ge i listed.size with h | h
    · exact h
    · rw [Array.getD_eq_getD_getElem?, Array.getElem?_eq_none h] at hn; cases hn
  unfold unl
  refine filter_lt (y := i) _ (fun x _ hx => ?_) (List.mem_range.2 hi) (by rw [hn]; rfl) ?_
  · by_cases hxi : i = x
    · subst hxi; rw [hn]; rfl
    · rw [getD_set_ne true hxi] at hx; exact hx
  · rw [Array.getD_eq_getD_getElem?, Array.getElem?_setIfInBounds, if_pos rfl, if_pos his]; rfl
theorem wpAny_D (hp : DrawP ops m an) {hs : List RO} (hc : compOps P nt ops ops.toList hs = some m) (ht : TrOk P m base env ob tr) (hob : ∀ id, base ≤ id → ob id = none) {Q : Exit → Act → World → Prop}
    (hQ : ∀ a w own loc, SR nt n0 w0 own0 loc0 (cenv m tr env m.length) (apps (cob m tr ob m.length) (qUps m tr m.length)) a w own loc → (∀ id, base + m.length ≤ id → loc id = none) → Q .normal a w) :
    ∀ (fuel : Nat) (listed : Array Bool) (k : Nat) (a : Act) (w : World) (own : Nat → Option Nat) (loc : Loc), listed.size = ops.size → Clo ops (fun i => listed.getD i false = true) → Upto m (fun i => listed.getD i false = true) k →
      SR nt n0 w0 own0 loc0 (envD m tr env fun i => listed.getD i false = true) (obD m tr base ob (fun i => listed.getD i false = true) k) a w own loc →
      (∀ id, base + m.length ≤ id → loc id = none) → (∀ i, i < m.length → ¬ listed.getD i false = true → loc (base + i) = none) → unl listed ops.size ≤ fuel → wpAny P .any ops Q fuel listed a w := by
  have fin : ∀ (listed : Array Bool) (k : Nat) (a : Act) (w : World) (own : Nat → Option Nat) (loc : Loc), listed.size = ops.size → Upto m (fun i => listed.getD i false = true) k →
      SR nt n0 w0 own0 loc0 (envD m tr env fun i => listed.getD i false = true) (obD m tr base ob (fun i => listed.getD i false = true) k) a w own loc →
      (∀ id, base + m.length ≤ id → loc id = none) → Region.ready .any ops listed = [] → Q .normal a w := by
    intro listed k a w own loc hsz hu h hf hr
    have hall := ready_all hp hsz hr
    have hlt : ∀ (i : Nat) (o : RO), m[i]? = some o → listed.getD i false = true := fun i o hi => hall i (by rw [hp.len]; exact (List.getElem?_eq_some_iff.1 hi).1)
    have e1 : (envD m tr env fun i => listed.getD i false = true) = cenv m tr env m.length := by
      funext t
      by_cases hex : ∃ (i : Nat) (o : RO), m[i]? = some o ∧ o.d = some t
      · obtain ⟨i, o, hi, hd⟩ := hex
        rw [envD_in hp hi hd (hlt i o hi), cenv_in hp hi hd _ (List.getElem?_eq_some_iff.1 hi).1]
      · rw [envD_out fun i o hi hd _ => hex ⟨i, o, hi, hd⟩, cenv_out _ fun i o _ hi hd => hex ⟨i, o, hi, hd⟩]
    have e2 : cob m tr ob k = cob m tr ob m.length := by
      rcases Nat.le_total k m.length with h1 | h1
      · refine (cob_same m.length h1 fun i o h2 h3 hi => ?_).symm
        cases hl : isLoud o.op with
        | false => rfl
        | true => have := (hu i o hi hl).1 (hlt i o hi); omega
      · refine cob_same k h1 fun i o h2 h3 hi => ?_
        have := (List.getElem?_eq_some_iff.1 hi).1; omega
    have e3 : obD m tr base ob (fun i => listed.getD i false = true) k = apps (cob m tr ob m.length) (qUps m tr m.length) := by
      rw [qUps_all ht hob _ (fun i o hi hl => cob_quiet ht hob hi hl _)]
      funext id
      simp only [obD]
      rw [e2]
      congr 1
      by_cases hex : ∃ i, id = base + i ∧ i < m.length
      · obtain ⟨i, rfl, hi⟩ := hex
        exact qD_congr fun i' hi' => by
          obtain rfl : i = i' := by omega
          exact ⟨fun _ => hi, fun _ => hall i (by rw [hp.len]; exact hi)⟩
      · rw [qD_none fun i o h0 h1 h2 h3 h4 => hex ⟨i, h0, (List.getElem?_eq_some_iff.1 h1).1⟩, qD_none fun i o h0 h1 h2 h3 h4 => hex ⟨i, h0, (List.getElem?_eq_some_iff.1 h1).1⟩]
    rw [e1, e3] at h
    exact hQ a w own loc h hf
  intro fuel
  induction fuel with
  | zero =>
    intro listed k a w own loc hsz hcl hu h hf hf2 hfu
    have hr : Region.ready .any ops listed = [] := by
      cases hrr : Region.ready .any ops listed with
      | nil => rfl
      | cons i l =>
        have hi : i ∈ Region.ready .any ops listed := by rw [hrr]; simp
        obtain ⟨h1, o, h2, h3⟩ := mem_ready.1 hi
        have : i ∈ (List.range ops.size).filter fun i => !listed.getD i true := List.mem_filter.2 ⟨List.mem_range.2 (Array.getElem?_eq_some_iff.1 h2).1, by simp [h1]⟩
        have hp := List.length_pos_of_mem this
        unfold unl at hfu; omega
    exact ⟨hr, fin listed k a w own loc hsz hu h hf hr⟩
  | succ fuel ih =>
    intro listed k a w own loc hsz hcl hu h hf hf2 hfu
    refine ⟨fun hr => fin listed k a w own loc hsz hu h hf hr, fun j hj => ?_⟩
    obtain ⟨h1, o, ho, he⟩ := mem_ready.1 hj
    have hjs : j < ops.size := (Array.getElem?_eq_some_iff.1 ho).1
    have hjm : j < m.length := by rw [← hp.len]; exact hjs
    have hn : ¬ listed.getD j false = true := by
      simp only [Array.getD_eq_getD_getElem?] at h1 ⊢
      rw [Array.getElem?_eq_getElem (by omega)] at h1 ⊢
      simpa using h1
    obtain ⟨hk, ro, hro, hcr⟩ := (compOps_at _ _ _ hc).2 j o (by rw [Array.getElem?_toList]; exact ho)
    have hrd : Rdy ops (fun i => listed.getD i false = true) j := fun o' ho' e he' hb => by
      rw [ho] at ho'; injection ho' with ho'; subst ho'; exact he e he' hb
    have hD : (fun i => (listed.setIfInBounds j true).getD i false = true) = fun i => listed.getD i false = true ∨ i = j := by
      funext i
      simp only [Array.getD_eq_getD_getElem?, Array.getElem?_setIfInBounds]
      by_cases hij : j = i
      · subst hij; simp [show j < listed.size by omega]
      · rw [if_neg hij]; simp [Ne.symm hij]
    have hcl' : Clo ops (fun i => listed.getD i false = true ∨ i = j) := fun i o' hi hDi e he' hb => by
      rcases hDi with hDi | rfl
      · exact .inl (hcl i o' hi hDi e he' hb)
      · exact .inl (hrd o' hi e he' hb)
    have hunl := unl_set (listed := listed) hjs h1
    have hxs : ro.xs.map (ev (envD m tr env fun i => listed.getD i false = true)) = ro.xs.map (ev (cenv m tr env j)) := by
      refine List.map_congr_left fun x hx => ?_
      cases x with
      | k v => rfl
      | t n => exact look_eq hp hcl hro hrd hn (List.mem_append_left _ (List.mem_filterMap.2 ⟨.t n, hx, rfl⟩))
    have hg := gd_env (env' := envD m tr env fun i => listed.getD i false = true) (fun t want hgt => (look_eq hp hcl hro hrd hn (t := t) (List.mem_append_right _ (by rw [hgt]; simp))).symm) (ht j ro hro)
    have next : ∀ (k' : Nat) (a' : Act) (w' : World) (own' : Nat → Option Nat) (loc' : Loc), Upto m (fun i => listed.getD i false = true ∨ i = j) k' →
        SR nt n0 w0 own0 loc0 (envD m tr env fun i => listed.getD i false = true ∨ i = j) (obD m tr base ob (fun i => listed.getD i false = true ∨ i = j) k') a' w' own' loc' →
        (∀ id, id ≠ base + j → loc id = none → loc' id = none) → wpAny P .any ops Q fuel (listed.setIfInBounds j true) a' w' := fun k' a' w' own' loc' hu' hsr hl => by
      refine ih _ k' a' w' own' loc' (by simp [hsz]) (by rw [hD]; exact hcl') (by rw [hD]; exact hu') (by rw [hD]; exact hsr) (fun id hid => hl id (by omega) (hf id hid)) (fun i hi hni => ?_) (by omega)
      have hni' := fun h => hni (by have := congrFun hD i; exact this.symm ▸ h)
      refine hl _ (fun e => hni' (.inr (by omega))) (hf2 i hi fun h => hni' (.inl h))
    unfold wpOp
    rw [ho]
    simp only
    rcases gd_wanted h hcr hg with ⟨hw, hx, hR⟩ | ⟨hw, hx⟩
    · rw [if_pos hw]
      left
      have hnq : ∀ id x, cob m tr ob k id = some x → obD m tr base ob (fun i => listed.getD i false = true) k id = some x := fun id x hid => by
        simp only [obD]
        rw [qD_none fun i o' h0 h1 h2 h3 h4 => by rw [h0, cob_quiet ht hob h1 h2 k] at hid; cases hid]
        exact hid
      have hR' : OpR P ro.op (ro.xs.map (ev (envD m tr env fun i => listed.getD i false = true))) (cob m tr ob k) (base + j) (tr j).r (tr j).us := by
        rw [hxs]
        cases hrr : noRead ro.op with
        | false => rw [← cob_ready hp hcl hro hrd hn hu hrr]; exact hR
        | true =>
          unfold OpR at hR ⊢
          split at hR
          · rename_i heq; rw [heq] at hrr; simp [noRead] at hrr
          · rename_i heq; rw [heq] at hrr; simp [noRead] at hrr
          · rw [opF_noRead hrr _ _ (cob m tr ob j)]; exact hR
      refine op_wp h hcr hnq (hf2 j hjm hn) hR' fun x w' own' loc' hsr hst hl => ?_
      obtain ⟨k', hk1, hk2⟩ := obD_step ht hob hp hcl hro hrd hn hu hx
      rw [hk2] at hsr
      have hv : (tr j).val = (tr j).r := by simp [Rec.val, hx]
      rw [← hv, envD_put hp hro hn] at hsr
      exact next k' _ _ _ _ hk1 hsr hl
    · rw [if_neg (by rw [hw]; simp)]
      obtain ⟨k', hk1, hk2⟩ := obD_skip (base := base) (ob := ob) hp hcl hro hrd hn hu hx
      have hd := compRO_d hcr
      have hsr := h.put (d := o.dst) hd.2 (r := .c undef) (x := undef) (.c _) h.wf (.refl _ _ _)
      have hv : (tr j).val = .c undef := by simp [Rec.val, hx]
      rw [← hd.1, ← hv, envD_put hp hro hn, hk2] at hsr
      rw [← hd.1]
      exact next k' _ _ _ _ hk1 hsr fun _ _ h => h
theorem wpD_sound (hm : P.follows .mixedOrders = true) {id : Nat} (hd : drawOK ops m = true) {hs : List RO} (hc : compOps P nt ops ops.toList hs = some m) {Q : Exit → Act → World → Prop} {K : Env → OB → Prop}
    {a : Act} {w : World} {own : Nat → Option Nat} {loc : Loc} (h : SR nt n0 w0 own0 loc0 env ob a w own loc) (hf : ∀ id, base ≤ id → loc id = none) (hw : wpD P m base env ob [] K)
    (hQ : ∀ env ob a w own loc, SR nt n0 w0 own0 loc0 env ob a w own loc → (∀ id, base + m.length ≤ id → loc id = none) → K env ob → Q .normal a w) : (Code.region id ops true).wp P Q a w := by
  obtain ⟨tr, ht, hK⟩ := wpD_tr m base env ob [] hw
  rw [List.nil_append] at hK
  have hp := drawOK_spec hd
  have hob : ∀ id, base ≤ id → ob id = none := fun id hid => by
    cases ho : ob id with
    | none => rfl
    | some X => obtain ⟨p, h1, _⟩ := h.wf.has id X ho; rw [hf id hid] at h1; cases h1
  refine wp_region_any hm (wpAny_D (nt := nt) (n0 := n0) (w0 := w0) (own0 := own0) (loc0 := loc0) hp hc ht hob (fun a w own loc hsr hfr => hQ _ _ a w own loc hsr hfr hK) ops.size _ 0 a _ own loc (by simp) (fun j o ho hD e he hb => ?_) (fun i o hi hl => ?_) ?_ (fun id hid => hf id (by omega)) (fun i hi _ => hf _ (by omega)) ?_)
  · simp [Array.getD_eq_getD_getElem?, Array.getElem?_replicate] at hD
    split at hD <;> simp at hD
  · simp [Array.getD_eq_getD_getElem?, Array.getElem?_replicate]
    split <;> simp
  · have e1 : (envD m tr env fun i => (Array.replicate ops.size false).getD i false = true) = env := by
      funext t
      refine envD_out fun i o _ _ hD => ?_
      simp [Array.getD_eq_getD_getElem?, Array.getElem?_replicate] at hD
      split at hD <;> simp at hD
    have e2 : obD m tr base ob (fun i => (Array.replicate ops.size false).getD i false = true) 0 = ob := by
      funext id
      simp only [obD]
      rw [qD_none fun i o h0 h1 h2 h3 h4 => ?_]
      · rfl
      · simp [Array.getD_eq_getD_getElem?, Array.getElem?_replicate] at h3
        split at h3 <;> simp at h3
    rw [e1, e2]
    have hdr := Stp.drew w own loc
    exact ⟨h.defers, h.size, h.wf.drew, fun t => (h.vals t).stp hdr, h.stp.trans hdr, h.le, h.new⟩
  · unfold unl
    exact Nat.le_trans (List.length_filter_le _ _) (by simp)
end
section
variable {P : Program} {ops : Array Oper} {m : List RO} {an : List Nat} {tr : Nat → Rec} {env : Env} {ob : OB} {base : Nat}
variable {nt n0 : Nat} {w0 : World} {own0 : Nat → Option Nat} {loc0 : Loc} [Bk]
def dum : RO := ⟨none, none, .mv, [.k .u]⟩
omit [Bk] in
theorem DrawP.mask (hp : DrawP ops m an) {m' : List RO} (hl : m'.length = m.length) (h : ∀ (i : Nat) (o : RO), m'[i]? = some o → m[i]? = some o ∨ o = dum) : DrawP ops m' an := by
  refine ⟨by rw [hl]; exact hp.len, hp.edge, fun i j oi oj t hne hi hj hd => ?_, fun i j oi oj t hne hi hj hd ht => ?_, fun i j oi oj hne hi hj hlo hr => ?_, hp.anc⟩
  · rcases h i oi hi with hi | rfl
    · rcases h j oj hj with hj | rfl
      · exact hp.dst i j oi oj t hne hi hj hd
      · simp [dum]
    · simp [dum] at hd
  · rcases h i oi hi with hi | rfl
    · rcases h j oj hj with hj | rfl
      · exact hp.look i j oi oj t hne hi hj hd ht
      · simp [looks, dum] at ht
    · simp [dum] at hd
  · rcases h i oi hi with hi | rfl
    · rcases h j oj hj with hj | rfl
      · exact hp.loud i j oi oj hne hi hj hlo hr
      · simp [dum, noRead] at hr
    · simp [dum, isLoud] at hlo
omit [Bk] in
theorem wpD_dumL {b : List RO} {K : Env → OB → Prop} : ∀ (lo base : Nat) (env : Env) (ob : OB) (dl : Ups), wpD P b (base + lo) env ob dl K → wpD P (List.replicate lo dum ++ b) base env ob dl K
  | 0, base, env, ob, dl, h => h
  | lo + 1, base, env, ob, dl, h => by
    rw [List.replicate_succ, List.cons_append]
    simp only [wpD]
    refine ⟨.u, [], by simp [OpR, dum, opF, ev], ?_⟩
    have : base + (lo + 1) = base + 1 + lo := by omega
    rw [this] at h
    simpa [dum, isLoud, put] using wpD_dumL lo (base + 1) env ob dl h
omit [Bk] in
theorem wpD_dumR {K : Env → OB → Prop} (r : Nat) : ∀ (a : List RO) (base : Nat) (env : Env) (ob : OB) (dl : Ups), wpD P a base env ob dl K → wpD P (a ++ List.replicate r dum) base env ob dl K
  | [], base, env, ob, dl, h => by
    have := wpD_dumL (P := P) (b := []) (K := K) r base env ob dl h
    simpa using this
  | o :: a, base, env, ob, dl, h => by
    rw [List.cons_append]
    simp only [wpD] at h ⊢
    exact gd_imp (fun ⟨r', us, h1, h2⟩ => ⟨r', us, h1, wpD_dumR r a _ _ _ _ h2⟩) (fun h => wpD_dumR r a _ _ _ _ h) h
theorem wpAny_R (hp : DrawP ops m an) {lo hi : Nat} (hhi : hi ≤ m.length) (hdum : ∀ (i : Nat) (o : RO), m[i]? = some o → ¬ (lo ≤ i ∧ i < hi) → o = dum)
    (hreal : ∀ (i : Nat) (o : Oper), lo ≤ i → i < hi → ops[i]? = some o → ∃ hk ro, m[i]? = some ro ∧ compRO P nt ops o hk = some ro)
    (hbar : ∀ (i : Nat), hi ≤ i → i < ops.size → ∀ D, (∀ i', i' < lo → D i') → Clo ops D → Rdy ops D i → ∀ i', i' < hi → D i')
    (ht : TrOk P m base env ob tr) (hob : ∀ id, base ≤ id → ob id = none) {Q : Exit → Act → World → Prop}
    (hQ : ∀ (fuel : Nat) (listed : Array Bool) (a : Act) (w : World) (own : Nat → Option Nat) (loc : Loc), listed.size = ops.size → Clo ops (fun i => listed.getD i false = true) → (∀ i, i < hi → listed.getD i false = true) → (∀ i, hi ≤ i → ¬ listed.getD i false = true) →
      SR nt n0 w0 own0 loc0 (cenv m tr env m.length) (apps (cob m tr ob m.length) (qUps m tr m.length)) a w own loc → (∀ id, base + hi ≤ id → loc id = none) → unl listed ops.size ≤ fuel → wpAny P .any ops Q fuel listed a w) :
    ∀ (fuel : Nat) (listed : Array Bool) (k : Nat) (a : Act) (w : World) (own : Nat → Option Nat) (loc : Loc), listed.size = ops.size → (∀ i, i < lo → listed.getD i false = true) → (∀ i, hi ≤ i → ¬ listed.getD i false = true) → Clo ops (fun i => listed.getD i false = true) → Upto m (fun i => listed.getD i false = true) k →
      SR nt n0 w0 own0 loc0 (envD m tr env fun i => listed.getD i false = true) (obD m tr base ob (fun i => listed.getD i false = true) k) a w own loc →
      (∀ id, base + m.length ≤ id → loc id = none) → (∀ i, i < m.length → ¬ listed.getD i false = true → loc (base + i) = none) → unl listed ops.size ≤ fuel → wpAny P .any ops Q fuel listed a w := by
  have fin : ∀ (fuel : Nat) (listed : Array Bool) (k : Nat) (a : Act) (w : World) (own : Nat → Option Nat) (loc : Loc), listed.size = ops.size → Clo ops (fun i => listed.getD i false = true) → Upto m (fun i => listed.getD i false = true) k →
      SR nt n0 w0 own0 loc0 (envD m tr env fun i => listed.getD i false = true) (obD m tr base ob (fun i => listed.getD i false = true) k) a w own loc →
      (∀ id, base + m.length ≤ id → loc id = none) → (∀ i, i < m.length → ¬ listed.getD i false = true → loc (base + i) = none) → (∀ i, hi ≤ i → ¬ listed.getD i false = true) → (∀ i, i < hi → listed.getD i false = true) → unl listed ops.size ≤ fuel → wpAny P .any ops Q fuel listed a w := by
    intro fuel listed k a w own loc hsz hcl hu h hf hf2 hup hall hfu
    have real : ∀ (i : Nat) (o : RO), m[i]? = some o → (∃ t, o.d = some t) ∨ isLoud o.op = true → listed.getD i false = true := fun i o hi' hd => by
      by_cases hin : lo ≤ i ∧ i < hi
      · exact hall i hin.2
      · rw [hdum i o hi' hin] at hd; simp [dum, isLoud] at hd
    have e1 : (envD m tr env fun i => listed.getD i false = true) = cenv m tr env m.length := by
      funext t
      by_cases hex : ∃ (i : Nat) (o : RO), m[i]? = some o ∧ o.d = some t
      · obtain ⟨i, o, hi', hd⟩ := hex
        rw [envD_in hp hi' hd (real i o hi' (.inl ⟨t, hd⟩)), cenv_in hp hi' hd _ (List.getElem?_eq_some_iff.1 hi').1]
      · rw [envD_out fun i o hi hd _ => hex ⟨i, o, hi, hd⟩, cenv_out _ fun i o _ hi hd => hex ⟨i, o, hi, hd⟩]
    have e2 : cob m tr ob k = cob m tr ob m.length := by
      rcases Nat.le_total k m.length with h1 | h1
      · refine (cob_same m.length h1 fun i o h2 h3 hi' => ?_).symm
        cases hl : isLoud o.op with
        | false => rfl
        | true => have := (hu i o hi' hl).1 (real i o hi' (.inr hl)); omega
      · refine cob_same k h1 fun i o h2 h3 hi' => ?_
        have := (List.getElem?_eq_some_iff.1 hi').1; omega
    have dumq : ∀ (i : Nat) (o : RO), m[i]? = some o → hi ≤ i → (tr i).ex = true → lookU (tr i).us (base + i) = none := fun i o hi' hge hx => by
      have hd := hdum i o hi' (by omega)
      have hR := gd_true (ht i o hi') hx
      rw [hd] at hR
      simp [OpR, dum, opF, ev] at hR
      rw [hR.2]; rfl
    have e3 : obD m tr base ob (fun i => listed.getD i false = true) k = apps (cob m tr ob m.length) (qUps m tr m.length) := by
      rw [qUps_all ht hob _ (fun i o hi' hl => cob_quiet ht hob hi' hl _)]
      funext id
      simp only [obD]
      rw [e2]
      congr 1
      by_cases hex : ∃ i, id = base + i ∧ i < m.length
      · obtain ⟨i, rfl, hi'⟩ := hex
        by_cases hlt : i < hi
        · exact qD_congr fun i' hi'' => by
            obtain rfl : i = i' := by omega
            exact ⟨fun _ => hi', fun _ => hall i hlt⟩
        · rw [qD_none fun i' o h0 h1 h2 h3 h4 => by
            obtain rfl : i = i' := by omega
            exact hup i (by omega) h3]
          by_cases hex2 : ∃ o, m[i]? = some o ∧ isLoud o.op = false ∧ (tr i).ex = true
          · obtain ⟨o, q1, q2, q3⟩ := hex2
            rw [qD_at q1 q2 hi' q3, dumq i o q1 (by omega) q3]
          · rw [qD_none fun i' o h0 h1 h2 h3 h4 => by
              obtain rfl : i = i' := by omega
              exact hex2 ⟨o, h1, h2, h4⟩]
      · rw [qD_none fun i o h0 h1 h2 h3 h4 => hex ⟨i, h0, (List.getElem?_eq_some_iff.1 h1).1⟩, qD_none fun i o h0 h1 h2 h3 h4 => hex ⟨i, h0, (List.getElem?_eq_some_iff.1 h1).1⟩]
    rw [e1, e3] at h
    refine hQ fuel listed a w own loc hsz hcl hall hup h (fun id hid => ?_) hfu
    by_cases hlt : id < base + m.length
    · obtain ⟨i, rfl⟩ : ∃ i, id = base + i := ⟨id - base, by omega⟩
      exact hf2 i (by omega) (hup i (by omega))
    · exact hf id (by omega)
  intro fuel
  induction fuel with
  | zero =>
    intro listed k a w own loc hsz hlo hup hcl hu h hf hf2 hfu
    by_cases hall : ∀ i, i < hi → listed.getD i false = true
    · exact fin 0 listed k a w own loc hsz hcl hu h hf hf2 hup hall hfu
    · exfalso
      apply hall
      intro i hi'
      refine Classical.byContradiction fun hn => ?_
      have his : i < ops.size := by rw [hp.len]; omega
      have : i ∈ (List.range ops.size).filter fun i => !listed.getD i true := List.mem_filter.2 ⟨List.mem_range.2 his, by
        simp only [Array.getD_eq_getD_getElem?] at hn ⊢
        rw [Array.getElem?_eq_getElem (by omega)] at hn ⊢
        simpa using hn⟩
      have hp := List.length_pos_of_mem this
      unfold unl at hfu; omega
  | succ fuel ih =>
    intro listed k a w own loc hsz hlo hup hcl hu h hf hf2 hfu
    by_cases hall : ∀ i, i < hi → listed.getD i false = true
    · exact fin _ listed k a w own loc hsz hcl hu h hf hf2 hup hall hfu
    refine ⟨fun hr => absurd (fun i hi' => ready_all hp hsz hr i (by rw [hp.len]; omega)) hall, fun j hj => ?_⟩
    obtain ⟨h1, o, ho, he⟩ := mem_ready.1 hj
    have hjs : j < ops.size := (Array.getElem?_eq_some_iff.1 ho).1
    have hjm : j < m.length := by rw [← hp.len]; exact hjs
    have hn : ¬ listed.getD j false = true := by
      simp only [Array.getD_eq_getD_getElem?] at h1 ⊢
      rw [Array.getElem?_eq_getElem (by omega)] at h1 ⊢
      simpa using h1
    have hrd : Rdy ops (fun i => listed.getD i false = true) j := fun o' ho' e he' hb => by
      rw [ho] at ho'; injection ho' with ho'; subst ho'; exact he e he' hb
    have hjhi : j < hi := Nat.lt_of_not_le fun hge => hall (hbar j hge hjs _ hlo hcl hrd)
    have hjlo : lo ≤ j := Nat.le_of_not_lt fun hlt => hn (hlo j hlt)
    obtain ⟨hk, ro, hro, hcr⟩ := hreal j o hjlo hjhi ho
    have hD : (fun i => (listed.setIfInBounds j true).getD i false = true) = fun i => listed.getD i false = true ∨ i = j := by
      funext i
      simp only [Array.getD_eq_getD_getElem?, Array.getElem?_setIfInBounds]
      by_cases hij : j = i
      · subst hij; simp [show j < listed.size by omega]
      · rw [if_neg hij]; simp [Ne.symm hij]
    have hcl' : Clo ops (fun i => listed.getD i false = true ∨ i = j) := fun i o' hi hDi e he' hb => by
      rcases hDi with hDi | rfl
      · exact .inl (hcl i o' hi hDi e he' hb)
      · exact .inl (hrd o' hi e he' hb)
    have hunl := unl_set (listed := listed) hjs h1
    have hxs : ro.xs.map (ev (envD m tr env fun i => listed.getD i false = true)) = ro.xs.map (ev (cenv m tr env j)) := by
      refine List.map_congr_left fun x hx => ?_
      cases x with
      | k v => rfl
      | t n => exact look_eq hp hcl hro hrd hn (List.mem_append_left _ (List.mem_filterMap.2 ⟨.t n, hx, rfl⟩))
    have hg := gd_env (env' := envD m tr env fun i => listed.getD i false = true) (fun t want hgt => (look_eq hp hcl hro hrd hn (t := t) (List.mem_append_right _ (by rw [hgt]; simp))).symm) (ht j ro hro)
    have next : ∀ (k' : Nat) (a' : Act) (w' : World) (own' : Nat → Option Nat) (loc' : Loc), Upto m (fun i => listed.getD i false = true ∨ i = j) k' →
        SR nt n0 w0 own0 loc0 (envD m tr env fun i => listed.getD i false = true ∨ i = j) (obD m tr base ob (fun i => listed.getD i false = true ∨ i = j) k') a' w' own' loc' →
        (∀ id, id ≠ base + j → loc id = none → loc' id = none) → wpAny P .any ops Q fuel (listed.setIfInBounds j true) a' w' := fun k' a' w' own' loc' hu' hsr hl => by
      have hD' : ∀ i, (listed.setIfInBounds j true).getD i false = true ↔ (listed.getD i false = true ∨ i = j) := fun i => iff_of_eq (congrFun hD i)
      refine ih _ k' a' w' own' loc' (by simp [hsz]) (fun i hi' => (hD' i).2 (.inl (hlo i hi'))) (fun i hi' hh => ?_) (by rw [hD]; exact hcl') (by rw [hD]; exact hu') (by rw [hD]; exact hsr) (fun id hid => hl id (by omega) (hf id hid)) (fun i hi hni => ?_) (by omega)
      · rcases (hD' i).1 hh with hh | hh
        · exact hup i hi' hh
        · omega
      · have hni' := fun h => hni ((hD' i).2 h)
        refine hl _ (fun e => hni' (.inr (by omega))) (hf2 i hi fun h => hni' (.inl h))
    unfold wpOp
    rw [ho]
    simp only
    rcases gd_wanted h hcr hg with ⟨hw, hx, hR⟩ | ⟨hw, hx⟩
    · rw [if_pos hw]
      left
      have hnq : ∀ id x, cob m tr ob k id = some x → obD m tr base ob (fun i => listed.getD i false = true) k id = some x := fun id x hid => by
        simp only [obD]
        rw [qD_none fun i o' h0 h1 h2 h3 h4 => by rw [h0, cob_quiet ht hob h1 h2 k] at hid; cases hid]
        exact hid
      have hR' : OpR P ro.op (ro.xs.map (ev (envD m tr env fun i => listed.getD i false = true))) (cob m tr ob k) (base + j) (tr j).r (tr j).us := by
        rw [hxs]
        cases hrr : noRead ro.op with
        | false => rw [← cob_ready hp hcl hro hrd hn hu hrr]; exact hR
        | true =>
          unfold OpR at hR ⊢
          split at hR
          · rename_i heq; rw [heq] at hrr; simp [noRead] at hrr
          · rename_i heq; rw [heq] at hrr; simp [noRead] at hrr
          · rw [opF_noRead hrr _ _ (cob m tr ob j)]; exact hR
      refine op_wp h hcr hnq (hf2 j hjm hn) hR' fun x w' own' loc' hsr hst hl => ?_
      obtain ⟨k', hk1, hk2⟩ := obD_step ht hob hp hcl hro hrd hn hu hx
      rw [hk2] at hsr
      have hv : (tr j).val = (tr j).r := by simp [Rec.val, hx]
      rw [← hv, envD_put hp hro hn] at hsr
      exact next k' _ _ _ _ hk1 hsr hl
    · rw [if_neg (by rw [hw]; simp)]
      obtain ⟨k', hk1, hk2⟩ := obD_skip (base := base) (ob := ob) hp hcl hro hrd hn hu hx
      have hd := compRO_d hcr
      have hsr := h.put (d := o.dst) hd.2 (r := .c undef) (x := undef) (.c _) h.wf (.refl _ _ _)
      have hv : (tr j).val = .c undef := by simp [Rec.val, hx]
      rw [← hd.1, ← hv, envD_put hp hro hn, hk2] at hsr
      rw [← hd.1]
      exact next k' _ _ _ _ hk1 hsr fun _ _ h => h
def barOKf (ops : Array Oper) (l0 j : Nat) : Bool :=
  let an := ancL ops.toList []
  (List.range ops.size).all fun i => if i < j then (i < l0 || (an.getD j 0).testBit i) else if j < i then (an.getD i 0).testBit j else true
def movOf (o : Oper) : Option Operand := match o.op, o.guard with
  | .move (.tmp x), none => some (.tmp x)
  | _, _ => none
def frOK (ops : Array Oper) : Bool := match ops[0]? with
  | some o => (movOf o).isSome && Region.noSelect ops && Region.free .any ops (Array.replicate ops.size false) 0 && (Region.ready .any ops (Array.replicate ops.size false)).contains 0
  | none => false
def barOK (ops : Array Oper) (j : Nat) : Bool := barOKf ops 0 j || (decide (1 ≤ j) && frOK ops && barOKf ops 1 j)
theorem wpB_core {l0 : Nat} {ma : List RO} {o : RO} {mb : List RO} (hl0 : l0 ≤ ma.length) (hd : drawOK ops (ma ++ o :: mb) = true) (hb : barOKf ops l0 ma.length = true) {hs : List RO} (hc : compOps P nt ops ops.toList hs = some (ma ++ o :: mb)) {Q : Exit → Act → World → Prop} {K : Env → OB → Nat → Prop}
    {a : Act} {w : World} {own : Nat → Option Nat} {loc : Loc} (h : SR nt n0 w0 own0 loc0 env ob a w own loc) (hf : ∀ id, base ≤ id → loc id = none)
    (hw : wpD P (ma.drop l0) (base + l0) env ob [] fun env1 ob1 => wpS P [o] (base + ma.length) env1 ob1 fun env2 ob2 n2 => wpD P mb (n2 + (ma.length + 1)) env2 ob2 [] fun env3 ob3 => K env3 ob3 (n2 + (ma.length + 1) + mb.length))
    (hQ : ∀ env ob n a w own loc, SR nt n0 w0 own0 loc0 env ob a w own loc → (∀ id, n ≤ id → loc id = none) → K env ob n → Q .normal a w)
    {listed0 : Array Bool} (hls : listed0.size = ops.size) (hl1 : ∀ i, listed0.getD i false = true ↔ i < l0) (hcl0 : Clo ops fun i => listed0.getD i false = true) {fuel0 : Nat} (hfu0 : unl listed0 ops.size ≤ fuel0) : wpAny P .any ops Q fuel0 listed0 a w := by
  have hp := drawOK_spec hd
  have hlen : (ma ++ o :: mb).length = ma.length + 1 + mb.length := by simp; omega
  have hos : ops.size = ma.length + 1 + mb.length := by rw [hp.len, hlen]
  have hcat := compOps_at _ _ _ hc
  have hbar1 : ∀ i, i < ma.length → l0 ≤ i → ((ancL ops.toList []).getD ma.length 0).testBit i = true := fun i hi hge => by
    have := List.all_eq_true.1 hb i (List.mem_range.2 (by omega))
    have h2 : ¬ i < l0 := by omega
    simpa [hi, h2] using this
  have hbar2 : ∀ i, ma.length < i → i < ops.size → ((ancL ops.toList []).getD i 0).testBit ma.length = true := fun i hi hs => by
    have := List.all_eq_true.1 hb i (List.mem_range.2 hs)
    have h1 : ¬ i < ma.length := by omega
    simpa [h1, hi] using this
  have needA : ∀ D, (∀ i', i' < l0 → D i') → Clo ops D → Rdy ops D ma.length → ∀ i', i' < ma.length → D i' := fun D hD hcl hr i' hi' => by
    by_cases hlt : i' < l0
    · exact hD i' hlt
    · exact hp.anc _ _ (hbar1 i' hi' (by omega)) D hcl hr
  have needB : ∀ i, ma.length < i → i < ops.size → ∀ D, Clo ops D → Rdy ops D i → D ma.length := fun i hi hs D hcl hr => hp.anc _ _ (hbar2 i hi hs) D hcl hr
  have cloR : ∀ D, Clo ops D → ∀ i, i < ops.size → D i → Rdy ops D i := fun D hcl i hi hD o' ho' e he hb' => hcl i o' ho' hD e he hb'
  have needC : ∀ i, ma.length ≤ i → i < ops.size → ∀ D, (∀ i', i' < l0 → D i') → Clo ops D → Rdy ops D i → ∀ i', i' < ma.length → D i' := fun i hi hs D hD hcl hr i' hi' => by
    by_cases e : i = ma.length
    · subst e; exact needA D hD hcl hr i' hi'
    · exact needA D hD hcl (cloR D hcl _ (by omega) (needB i (by omega) hs D hcl hr)) i' hi'
  have hob : ∀ id, base ≤ id → ob id = none := fun id hid => by
    cases ho : ob id with
    | none => rfl
    | some X => obtain ⟨p, h1, _⟩ := h.wf.has id X ho; rw [hf id hid] at h1; cases h1
  have lowL : ∀ i, listed0.getD i false = true → i < l0 := fun i hi => (hl1 i).1 hi
  obtain ⟨tr, ht, hK⟩ := wpD_tr _ base env ob [] (wpD_dumL l0 base env ob [] (wpD_dumR (1 + mb.length) (ma.drop l0) (base + l0) env ob [] hw))
  rw [List.nil_append] at hK
  have hlA : (List.replicate l0 dum ++ (ma.drop l0 ++ List.replicate (1 + mb.length) dum)).length = (ma ++ o :: mb).length := by simp; omega
  have lowA : ∀ (i : Nat) (q : RO), i < l0 → (List.replicate l0 dum ++ (ma.drop l0 ++ List.replicate (1 + mb.length) dum))[i]? = some q → q = dum := fun i q hi hq => by
    rw [List.getElem?_append_left (by simpa using hi), List.getElem?_replicate, if_pos hi] at hq
    injection hq with hq; exact hq.symm
  have midA : ∀ (i : Nat), l0 ≤ i → i < ma.length → (List.replicate l0 dum ++ (ma.drop l0 ++ List.replicate (1 + mb.length) dum))[i]? = (ma ++ o :: mb)[i]? := fun i h1 h2 => by
    rw [List.getElem?_append_right (by simpa using h1), List.length_replicate, List.getElem?_append_left (by simp; omega), List.getElem?_drop, List.getElem?_append_left h2]
    congr 1; omega
  have highA : ∀ (i : Nat) (q : RO), ma.length ≤ i → (List.replicate l0 dum ++ (ma.drop l0 ++ List.replicate (1 + mb.length) dum))[i]? = some q → q = dum := fun i q hi hq => by
    rw [List.getElem?_append_right (by simp; omega), List.length_replicate, List.getElem?_append_right (by simp; omega), List.getElem?_replicate] at hq
    split at hq
    · injection hq with hq; exact hq.symm
    · cases hq
  have hpA : DrawP ops (List.replicate l0 dum ++ (ma.drop l0 ++ List.replicate (1 + mb.length) dum)) (ancL ops.toList []) := hp.mask hlA fun i q hq => by
    by_cases h1 : i < l0
    · exact .inr (lowA i q h1 hq)
    · by_cases h2 : i < ma.length
      · rw [midA i (by omega) h2] at hq; exact .inl hq
      · exact .inr (highA i q (by omega) hq)
  have e0 : ∀ (l : List RO) (tr : Nat → Rec) (env : Env) (D : Nat → Prop), (∀ (i : Nat) (q : RO), l[i]? = some q → D i → q = dum) → envD l tr env D = env := fun l tr env D hD => by
    funext t
    refine envD_out fun i q h1 h2 h3 => ?_
    rw [hD i q h1 h3] at h2; simp [dum] at h2
  have b0 : ∀ (l : List RO) (tr : Nat → Rec) (base : Nat) (env : Env) (ob : OB) (D : Nat → Prop) (k : Nat), TrOk P l base env ob tr → (∀ (i : Nat) (q : RO), l[i]? = some q → D i → q = dum) → (∀ (i : Nat) (q : RO), i < k → l[i]? = some q → q = dum) → obD l tr base ob D k = ob := fun l tr base env ob D k ht hD hk => by
    funext id
    simp only [obD]
    have hc : cob l tr ob k = ob := by
      induction k with
      | zero => rfl
      | succ k ih =>
        simp only [cob]
        cases hlk : l[k]? with
        | none => exact ih fun i q hi => hk i q (by omega)
        | some q =>
          have hq := hk k q (by omega) hlk
          show cond ((tr k).ex && isLoud q.op) _ _ = _
          rw [hq]
          have : isLoud dum.op = false := rfl
          rw [this, Bool.and_false]
          exact ih fun i q hi => hk i q (by omega)
    rw [hc]
    by_cases hex : ∃ i q, id = base + i ∧ l[i]? = some q ∧ isLoud q.op = false ∧ D i ∧ (tr i).ex = true
    · obtain ⟨i, q, rfl, h1, h2, h3, h4⟩ := hex
      rw [qD_at h1 h2 h3 h4]
      have hR := gd_true (ht i q h1) h4
      rw [hD i q h1 h3] at hR
      simp [OpR, dum, opF, ev] at hR
      rw [hR.2]; rfl
    · rw [qD_none fun i q h0 h1 h2 h3 h4 => hex ⟨i, q, h0, h1, h2, h3, h4⟩]; rfl
  refine wpAny_R (nt := nt) (n0 := n0) (w0 := w0) (own0 := own0) (loc0 := loc0) hpA (lo := l0) (hi := ma.length) (by simp; omega) (fun i q hq hn => ?_) (fun i q h1 h2 hq => ?_) needC ht hob ?_ fuel0 listed0 0 a _ own loc hls (fun i hi => (hl1 i).2 hi) (fun i hi hh => by have := lowL i hh; omega) hcl0 (fun i o hi hl => ⟨fun hD => by rw [lowA i o (lowL i hD) hi] at hl; simp [dum, isLoud] at hl, fun h => by omega⟩) ?_ (fun id hid => hf id (by omega)) (fun i hi _ => hf _ (by omega)) hfu0
  · by_cases h1 : i < l0
    · exact lowA i q h1 hq
    · exact highA i q (by omega) hq
  · obtain ⟨hk, ro, h3, h4⟩ := hcat.2 i q (by rw [Array.getElem?_toList]; exact hq)
    refine ⟨hk, ro, ?_, h4⟩
    rw [midA i h1 h2]; exact h3
  · -- the one operation
    intro fuel listed a w own loc hsz hcl hall hup hsr hf2 hfu
    have hj0 := hup ma.length (Nat.le_refl _)
    have hjs : ma.length < ops.size := by omega
    cases fuel with
    | zero =>
      exfalso
      have : ma.length ∈ (List.range ops.size).filter fun i => !listed.getD i true := List.mem_filter.2 ⟨List.mem_range.2 hjs, by
        have hj0' := hj0
        simp only [Array.getD_eq_getD_getElem?] at hj0' ⊢
        rw [Array.getElem?_eq_getElem (by omega)] at hj0' ⊢
        simpa using hj0'⟩
      have hp := List.length_pos_of_mem this
      unfold unl at hfu; omega
    | succ fuel =>
      refine ⟨fun hr => absurd (ready_all hp hsz hr ma.length hjs) hj0, fun j hj => ?_⟩
      obtain ⟨h1, oj, hoj, he⟩ := mem_ready.1 hj
      have hjs' : j < ops.size := (Array.getElem?_eq_some_iff.1 hoj).1
      have hn : ¬ listed.getD j false = true := by
        simp only [Array.getD_eq_getD_getElem?] at h1 ⊢
        rw [Array.getElem?_eq_getElem (by omega)] at h1 ⊢
        simpa using h1
      have hrd : Rdy ops (fun i => listed.getD i false = true) j := fun o' ho' e he' hb => by
        rw [hoj] at ho'; injection ho' with ho'; subst ho'; exact he e he' hb
      have hjge : ma.length ≤ j := Nat.le_of_not_lt fun hlt => hn (hall j hlt)
      have hje : j = ma.length := by
        by_cases e : j = ma.length
        · exact e
        · exact absurd (needB j (by omega) hjs' _ hcl hrd) hj0
      subst hje
      have hunl := unl_set (listed := listed) hjs h1
      have hD : ∀ i, (listed.setIfInBounds ma.length true).getD i false = true ↔ (listed.getD i false = true ∨ i = ma.length) := fun i => by
        simp only [Array.getD_eq_getD_getElem?, Array.getElem?_setIfInBounds]
        by_cases hij : ma.length = i
        · subst hij; simp [show ma.length < listed.size by omega]
        · rw [if_neg hij]; simp [Ne.symm hij]
      obtain ⟨hk, ro, hro, hcr⟩ := hcat.2 ma.length oj (by rw [Array.getElem?_toList]; exact hoj)
      have hro' : o = ro := by
        rw [List.getElem?_append_right (Nat.le_refl _)] at hro; simpa using hro
      subst hro'
      have part2 : ∀ (env2 : Env) (ob2 : OB) (n2 : Nat) (a : Act) (w : World) (own : Nat → Option Nat) (loc : Loc), SR nt n0 w0 own0 loc0 env2 ob2 a w own loc → (∀ id, n2 ≤ id → loc id = none) →
          (wpD P mb (n2 + (ma.length + 1)) env2 ob2 [] fun env3 ob3 => K env3 ob3 (n2 + (ma.length + 1) + mb.length)) → wpAny P .any ops Q fuel (listed.setIfInBounds ma.length true) a w := by
        intro env2 ob2 n2 a w own loc hsr hf hw
        obtain ⟨tr2, ht2, hK2⟩ := wpD_tr _ n2 env2 ob2 [] (wpD_dumL (ma.length + 1) n2 env2 ob2 [] hw)
        rw [List.nil_append] at hK2
        have hlB : (List.replicate (ma.length + 1) dum ++ mb).length = (ma ++ o :: mb).length := by simp; omega
        have lowB : ∀ (i : Nat) (q : RO), i < ma.length + 1 → (List.replicate (ma.length + 1) dum ++ mb)[i]? = some q → q = dum := fun i q hi hq => by
          rw [List.getElem?_append_left (by simpa using hi), List.getElem?_replicate, if_pos hi] at hq
          injection hq with hq; exact hq.symm
        have highB : ∀ i, ma.length + 1 ≤ i → (List.replicate (ma.length + 1) dum ++ mb)[i]? = (ma ++ o :: mb)[i]? := fun i hi => by
          rw [List.getElem?_append_right (by simpa using hi), List.getElem?_append_right (by omega), List.length_replicate]
          have : i - ma.length = (i - (ma.length + 1)) + 1 := by omega
          rw [this, List.getElem?_cons_succ]
        have hpB : DrawP ops (List.replicate (ma.length + 1) dum ++ mb) (ancL ops.toList []) := hp.mask hlB fun i q hq => by
          by_cases hi : i < ma.length + 1
          · exact .inr (lowB i q hi hq)
          · rw [highB i (by omega)] at hq; exact .inl hq
        have hob2 : ∀ id, n2 ≤ id → ob2 id = none := fun id hid => by
          cases ho : ob2 id with
          | none => rfl
          | some X => obtain ⟨p, h1, _⟩ := hsr.wf.has id X ho; rw [hf id hid] at h1; cases h1
        have hlst : ∀ i, (listed.setIfInBounds ma.length true).getD i false = true → i < ma.length + 1 := fun i hi => by
          rcases (hD i).1 hi with hi | hi
          · exact Nat.lt_of_not_le fun hge => hup i (by omega) hi
          · omega
        refine wpAny_R (nt := nt) (n0 := n0) (w0 := w0) (own0 := own0) (loc0 := loc0) hpB (lo := ma.length + 1) (hi := ops.size) (by rw [hlB, hlen, hos]; exact Nat.le_refl _) (fun i q hq hn => ?_) (fun i q h1 h2 hq => ?_) (fun i h1 h2 => absurd h2 (by omega)) ht2 hob2 ?_ fuel _ 0 a _ own loc (by simp [hsz]) (fun i hi => ?_) (fun i hi hh => ?_) (fun i o' ho' hDi e he' hb' => ?_) (fun i q hq hl => ?_) ?_ (fun id hid => hf id (by omega)) (fun i hi _ => hf _ (by omega)) (by omega)
        · by_cases hi : i < ma.length + 1
          · exact lowB i q hi hq
          · have := (List.getElem?_eq_some_iff.1 hq).1
            rw [hlB, hlen] at this
            exact absurd ⟨by omega, by omega⟩ hn
        · obtain ⟨hk, ro, h3, h4⟩ := hcat.2 i q (by rw [Array.getElem?_toList]; exact hq)
          exact ⟨hk, ro, by rw [highB i h1]; exact h3, h4⟩
        · -- the end
          intro fuel listed a w own loc hsz hcl hall hup hsr hf hfu
          have hr : Region.ready .any ops listed = [] := by
            cases hrr : Region.ready .any ops listed with
            | nil => rfl
            | cons i l =>
              have hi : i ∈ Region.ready .any ops listed := by rw [hrr]; simp
              obtain ⟨h1, o, h2, h3⟩ := mem_ready.1 hi
              have his := (Array.getElem?_eq_some_iff.1 h2).1
              have := hall i his
              simp only [Array.getD_eq_getD_getElem?] at h1 this
              rw [Array.getElem?_eq_getElem (by omega)] at h1 this
              simp at h1 this
              rw [h1] at this; cases this
          have hfin : Q .normal a w := hQ _ _ _ a w own loc hsr (fun id hid => hf id (by rw [hos]; omega)) hK2
          cases fuel with
          | zero => exact ⟨hr, hfin⟩
          | succ fuel => exact ⟨fun _ => hfin, fun j hj => by rw [hr] at hj; cases hj⟩
        · by_cases hi' : i = ma.length
          · exact (hD i).2 (.inr hi')
          · exact (hD i).2 (.inl (hall i (by omega)))
        · have := hlst i hh; omega
        · rcases (hD i).1 hDi with hDi | rfl
          · exact (hD _).2 (.inl (hcl i o' ho' hDi e he' hb'))
          · exact (hD _).2 (.inl (hrd o' ho' e he' hb'))
        · refine ⟨fun hDi => ?_, fun h => by omega⟩
          rw [lowB i q (hlst i hDi) hq] at hl; simp [dum, isLoud] at hl
        · rw [e0 _ tr2 env2 _ fun i q hq hDi => lowB i q (hlst i hDi) hq, b0 _ tr2 n2 env2 ob2 _ 0 ht2 (fun i q hq hDi => lowB i q (hlst i hDi) hq) fun i q hi => by omega]
          exact hsr
      unfold wpOp
      rw [hoj]
      simp only
      have hd' := compRO_d hcr
      simp only [wpS] at hK
      rcases gd_wanted hsr hcr hK with ⟨h1, hK⟩ | ⟨h1, hK⟩
      · rw [if_pos h1]
        left
        exact step_wp hsr hcr hf2 hK fun x r ob' n' w' own' loc' hsr' hf' hC => part2 _ _ _ _ _ _ _ hsr' hf' hC
      · rw [if_neg (by rw [h1]; simp)]
        have hsr' := hsr.put (d := oj.dst) hd'.2 (r := .c undef) (x := undef) (.c _) hsr.wf (.refl _ _ _)
        rw [hd'.1] at hK
        have := part2 _ _ _ _ _ _ _ hsr' (fun id hid => hf2 id (by omega)) hK
        rw [← hd'.1] at this ⊢
        exact this
  · rw [e0 _ tr env _ fun i q hq hDi => lowA i q (lowL i hDi) hq, b0 _ tr base env ob _ 0 ht (fun i q hq hDi => lowA i q (lowL i hDi) hq) fun i q hi => by omega]
    exact h
theorem wpB_sound (hm : P.follows .mixedOrders = true) {id : Nat} {ma : List RO} {o : RO} {mb : List RO} (hd : drawOK ops (ma ++ o :: mb) = true) (hb : barOK ops ma.length = true) {hs : List RO} (hc : compOps P nt ops ops.toList hs = some (ma ++ o :: mb)) {Q : Exit → Act → World → Prop} {K : Env → OB → Nat → Prop}
    {a : Act} {w : World} {own : Nat → Option Nat} {loc : Loc} (h : SR nt n0 w0 own0 loc0 env ob a w own loc) (hf : ∀ id, base ≤ id → loc id = none)
    (hw : wpD P ma base env ob [] fun env1 ob1 => wpS P [o] (base + ma.length) env1 ob1 fun env2 ob2 n2 => wpD P mb (n2 + (ma.length + 1)) env2 ob2 [] fun env3 ob3 => K env3 ob3 (n2 + (ma.length + 1) + mb.length))
    (hQ : ∀ env ob n a w own loc, SR nt n0 w0 own0 loc0 env ob a w own loc → (∀ id, n ≤ id → loc id = none) → K env ob n → Q .normal a w) (hQp : ∀ c a w, ¬ Q (.panic c) a w) : (Code.region id ops true).wp P Q a w := by
  have rep0 : ∀ i, ¬ (Array.replicate ops.size false).getD i false = true := fun i hi => by
    simp [Array.getD_eq_getD_getElem?, Array.getElem?_replicate] at hi
    split at hi <;> simp at hi
  have hdr : SR nt n0 w0 own0 loc0 env ob a { w with drawn := w.drawn + 1 } own loc := by
    have hdr := Stp.drew w own loc
    exact ⟨h.defers, h.size, h.wf.drew, fun t => (h.vals t).stp hdr, h.stp.trans hdr, h.le, h.new⟩
  have hos : ops.size = ma.length + 1 + mb.length := by rw [(drawOK_spec hd).len]; simp; omega
  refine wp_region_any hm ?_
  unfold barOK at hb
  rw [Bool.or_eq_true] at hb
  rcases hb with hb | hb
  · refine wpB_core (l0 := 0) (Nat.zero_le _) hd hb hc hdr hf (by simpa using hw) hQ (by simp) (fun i => ⟨fun h => absurd h (rep0 i), fun h => by omega⟩) (fun j o ho hD e he hb => absurd hD (rep0 j)) ?_
    unfold unl
    exact Nat.le_trans (List.length_filter_le _ _) (by simp)
  · simp only [Bool.and_eq_true, decide_eq_true_eq] at hb
    obtain ⟨⟨h1, hfr⟩, hb⟩ := hb
    unfold frOK at hfr
    split at hfr
    case h_2 => cases hfr
    rename_i o0 ho0
    simp only [Bool.and_eq_true] at hfr
    obtain ⟨⟨⟨hmv, hns⟩, hfree⟩, hrdy⟩ := hfr
    obtain ⟨x, hx1, hx2⟩ : ∃ x, o0.op = .move (.tmp x) ∧ o0.guard = none := by
      unfold movOf at hmv
      split at hmv
      · rename_i x e1 e2; exact ⟨x, e1, e2⟩
      · cases hmv
    obtain ⟨hk, ro, h3, h4⟩ := (compOps_at _ _ _ hc).2 0 o0 (by rw [Array.getElem?_toList]; exact ho0)
    obtain ⟨q, ma', rfl⟩ : ∃ q ma', ma = q :: ma' := by
      cases ma with
      | nil => simp at h1
      | cons q ma' => exact ⟨q, ma', rfl⟩
    have hq : q = ro := by simpa using h3
    subst hq
    have hcr := h4
    unfold compRO at h4
    split at h4
    case isFalse => cases h4
    rename_i hdo
    obtain ⟨g, hg, h4⟩ := Option.bind_eq_some_iff.1 h4
    obtain ⟨⟨op, os⟩, hq2, h4⟩ := Option.bind_eq_some_iff.1 h4
    obtain ⟨xs, hxs, h4⟩ := Option.map_eq_some_iff.1 h4
    rw [hx2] at hg; injection hg with hg; subst hg
    obtain ⟨rfl, rfl⟩ : op = .mv ∧ os = [.tmp x] := by
      unfold compAny at hq2
      split at hq2
      · rw [hx1] at hq2; cases hq2
      · rw [hx1] at hq2; cases hq2
      · rw [hx1] at hq2; cases hq2
      · rw [hx1] at hq2; cases hq2
      · have : compOp P o0 hk = some (.mv, [.tmp x]) := by simp [compOp, hx1]
        rw [this] at hq2
        simp [noCall, isCall] at hq2
        exact ⟨hq2.1.symm, hq2.2.symm⟩
    have hv := evs_rv hdr hxs
    subst h4
    simp only [wpD, gd] at hw
    obtain ⟨r, us, hR, hw⟩ := hw
    obtain ⟨v, hv1, hv2⟩ := rvs1 hv
    rw [hv1] at hR
    simp only [OpR, opF] at hR
    injection hR with hR; injection hR with e1 e2; subst e1; subst e2
    have hsr := hdr.put (d := o0.dst) hdo (r := v) (x := a.eval (.tmp x)) hv2 hdr.wf (.refl _ _ _)
    have hsz : ops.size = (ops.size - 1) + 1 := by omega
    rw [hsz]
    have hrs : (Array.replicate (ops.size - 1 + 1) false) = Array.replicate ops.size false := by rw [← hsz]
    rw [hrs]
    refine wpAny_take (i := 0) (v := a.eval (.tmp x)) ho0 hns hfree hrdy (fun c a w hh => absurd hh (hQp _ _ _)) (.inl ⟨by simp [Region.wanted, hx2], fun w => by rw [show o0 = ⟨o0.dst, o0.op, o0.type, o0.pos, o0.after, o0.guard⟩ from rfl, hx1]; simp [execOp]⟩) ?_
    have hD : ∀ i, ((Array.replicate ops.size false).setIfInBounds 0 true).getD i false = true ↔ i < 1 := fun i => by
      by_cases hi : i = 0
      · subst hi; simp; omega
      · have := rep0 i
        simp only [Array.getD_eq_getD_getElem?, Array.getElem?_setIfInBounds_ne (Ne.symm hi)] at this ⊢
        constructor
        · intro h; exact absurd h this
        · intro h; omega
    have hcl : Clo ops fun i => ((Array.replicate ops.size false).setIfInBounds 0 true).getD i false = true := fun i o' ho' hDi e he hb' => by
      have hi : i = 0 := by have := (hD i).1 hDi; omega
      subst hi
      rw [ho0] at ho'; injection ho' with ho'; subst ho'
      have := (mem_ready.1 (by simpa using hrdy)).2
      obtain ⟨o2, ho2, hall⟩ := this
      rw [ho0] at ho2; injection ho2 with ho2; subst ho2
      exact absurd (hall e he hb') (rep0 _)
    refine wpB_core (l0 := 1) (by simp) hd hb hc hsr hf (by simpa [isLoud] using hw) hQ (by simp) hD hcl ?_
    have h2 := unl_set (listed := Array.replicate ops.size false) (i := 0) (n := ops.size) (by omega) (by have : 0 < ops.size := by omega
                                                                                                          simp [this])
    have h3 : unl (Array.replicate ops.size false) ops.size ≤ ops.size := by unfold unl; exact Nat.le_trans (List.length_filter_le _ _) (by simp)
    omega
end
def bare (o : RO) : RO := ⟨o.d, o.g, .mv, o.xs⟩
def vid : V → List Nat
  | .sl id _ _ => [id]
  | .pt id _ _ => [id]
  | _ => []
def lkB : Ok → Bool
  | .mv | .pick | .bin _ | .bb _ | .eqs _ _ | .un _ | .conv _ | .box _ | .alloc _ | .bld _ _ | .bsl _ _ _ _ _ | .fld _ _ | .mks _ _ _ | .len | .slen | .mx | .mn | .ext _ | .mkf _ | .ld _ | .fa _ | .ia _ | .iar _ _ | .st _ | .app _ | .slc _ _ _ => true
  | _ => false
def isC : V → Bool
  | .c _ => true
  | _ => false
def flatV : V → Bool
  | .c _ | .q | .z | .u => true
  | .ag l => l.all isC
  | .im _ l => l.all fun r => r.all isC
  | _ => false
def isCl : Ok → Bool
  | .call _ _ => true
  | _ => false
def lkI (op : Ok) (vs : List V) : Option (List Nat) := if noRead op then some [] else if lkB op then some (vs.flatMap vid) else if isCl op && vs.all flatV then some [] else none
theorem resV_isC {ob ob' : OB} {n : Nat} {l : List V} (h : l.all isC = true) : l.map (resV ob n) = l.map (resV ob' n) := by
  refine List.map_congr_left fun x hx => ?_
  have := List.all_eq_true.1 h x hx
  cases x <;> first | (simp [isC] at this; done) | (cases n <;> rfl)
theorem resV_flat {ob ob' : OB} : ∀ {n : Nat} {v : V}, flatV v = true → resV ob n v = resV ob' n v
  | 0, _, _ => rfl
  | n + 1, v, h => by
    cases v <;> first | rfl | (simp [flatV] at h; done) | skip
    case im f l =>
      simp only [resV]
      congr 1
      exact List.map_congr_left fun r hr => resV_isC (List.all_eq_true.1 h r hr)
    case ag l =>
      simp only [resV]
      congr 1
      exact resV_isC h
theorem resL_flat {ob ob' : OB} {n : Nat} {vs : List V} (h : vs.all flatV = true) : vs.map (resV ob n) = vs.map (resV ob' n) :=
  List.map_congr_left fun x hx => resV_flat (List.all_eq_true.1 h x hx)
def tch (us : Ups) : List Nat := us.map (·.1)
def nin (x : Nat) : List Nat → Prop
  | [] => True
  | y :: L => x ≠ y ∧ nin x L
def apL : List Nat → List Nat → Prop
  | [], _ => True
  | x :: T, L => nin x L ∧ apL T L
def apart (T : List Nat) : Option (List Nat) → Prop
  | none => T = []
  | some L => apL T L
def sepE (a b : List Nat × Option (List Nat)) : Prop := apart a.1 b.2 ∧ apart b.1 a.2 ∧ apL a.1 b.1
def sepL (past : List (List Nat × Option (List Nat))) : List Nat → List Nat × Option (List Nat) → Prop
  | [], _ => True
  | i :: np, q => (match past[i]? with | some a => sepE a q | none => False) ∧ sepL past np q
def wpE (P : Program) : List RO → List (List Nat) → Nat → Env → OB → List (List Nat × Option (List Nat)) → (Env → OB → Prop) → Prop
  | [], _, _, env, ob, _, K => K env ob
  | o :: l, nps, nid, env, ob, past, K => gd o.g env
      (∃ r us, OpR P o.op (o.xs.map (ev env)) ob nid r us ∧ sepL past (nps.headD []) (tch us, lkI o.op (o.xs.map (ev env))) ∧ wpE P l nps.tail (nid + 1) (put env o.d r) (apps ob us) (past ++ [(tch us, lkI o.op (o.xs.map (ev env)))]) K)
      (wpE P l nps.tail (nid + 1) (put env o.d (.c undef)) ob (past ++ [([], some [])]) K)
def noTouch : Ok → Bool
  | .mv | .pick | .bin _ | .bb _ | .eqs _ _ | .un _ | .conv _ | .bld _ _ | .fld _ _ | .len | .slen | .mx | .mn | .ext _ | .mkf _ | .ld _ | .fa _ | .ia _ | .iar _ _ => true
  | _ => false
def npOK (ops : Array Oper) (m : List RO) (np : List (List Nat)) : Bool :=
  let an := ancL ops.toList []
  (List.range m.length).all fun j => (List.range j).all fun i => cmp an i j || (np.getD j []).contains i || match m[i]?, m[j]? with
    | some oi, some oj => (noTouch oi.op && noTouch oj.op) || (noTouch oi.op && noRead oi.op) || (noTouch oj.op && noRead oj.op)
    | _, _ => true
theorem nin_iff {x : Nat} : ∀ {L : List Nat}, nin x L ↔ x ∉ L
  | [] => by simp [nin]
  | y :: L => by simp [nin, nin_iff (L := L)]
theorem apL_iff : ∀ {T L : List Nat}, apL T L ↔ ∀ x ∈ T, x ∉ L
  | [], L => by simp [apL]
  | x :: T, L => by simp [apL, apL_iff (T := T), nin_iff]
theorem rowsOf_frame {ob ob' : OB} {x : V} (h : ∀ id ∈ vid x, ob id = ob' id) : rowsOf ob x = rowsOf ob' x := by
  cases x <;> first | rfl | (simp only [rowsOf]; rw [h _ (by simp [vid])])
theorem ldV_frame {ob ob' : OB} {n : Option Nat} {x : V} (h : ∀ id ∈ vid x, ob id = ob' id) : ldV ob n x = ldV ob' n x := by
  cases x <;> first | rfl | (simp only [ldV]; rw [h _ (by simp [vid])])
theorem faV_frame {ob ob' : OB} {n : Nat} {x : V} (h : ∀ id ∈ vid x, ob id = ob' id) : faV ob n x = faV ob' n x := by
  cases x <;> first | rfl | (simp only [faV]; rw [h _ (by simp [vid])])
theorem iaV_frame {ob ob' : OB} {k : Nat} {x : V} {i : Int} (h : ∀ id ∈ vid x, ob id = ob' id) : iaV ob k x i = iaV ob' k x i := by
  cases x <;> first | rfl | (simp only [iaV]; rw [h _ (by simp [vid])])
theorem sliceV_frame {ob ob' : OB} {k : Nat} {x : V} {lo hi : Option Int} (h : ∀ id ∈ vid x, ob id = ob' id) : sliceV ob k x lo hi = sliceV ob' k x lo hi := by
  cases x <;> first | rfl | (simp only [sliceV]; rw [h _ (by simp [vid])])
theorem opF_frame {op : Ok} (hl : lkB op = true) {vs : List V} {ob ob' : OB} {nid : Nat} (h : ∀ id ∈ vs.flatMap vid, ob id = ob' id) : opF op vs ob nid = opF op vs ob' nid := by
  by_cases hr : noRead op = true
  · exact opF_noRead hr vs ob ob' nid
  cases op <;> first | (simp [lkB] at hl; done) | (simp [noRead] at hr; done) | skip
  case ld n =>
    rcases vs with _ | ⟨a, _ | ⟨b, l⟩⟩ <;> first | rfl | (simp only [opF]; rw [ldV_frame fun id hid => h id (by simp [hid])])
  case fa n =>
    rcases vs with _ | ⟨a, _ | ⟨b, l⟩⟩ <;> first | rfl | (simp only [opF]; rw [faV_frame fun id hid => h id (by simp [hid])])
  case ia n =>
    rcases vs with _ | ⟨a, _ | ⟨b, _ | ⟨c, l⟩⟩⟩ <;> first | rfl | skip
    simp only [opF]
    congr 1; funext i
    rw [iaV_frame fun id hid => h id (by simp [hid])]
  case iar n k =>
    rcases vs with _ | ⟨a, _ | ⟨b, _ | ⟨c, l⟩⟩⟩ <;> first | rfl | skip
    simp only [opF]
    congr 1; funext i
    rw [faV_frame fun id hid => h id (by simp [hid])]
  case st n =>
    rcases vs with _ | ⟨a, _ | ⟨b, _ | ⟨c, l⟩⟩⟩ <;> first | rfl | skip
    simp only [opF]
    cases a <;> first | rfl | skip
    simp only [toPt, Option.bind_some]
    rw [h _ (by simp [vid])]
  case slc k lo hi =>
    rcases vs with _ | ⟨a, bs⟩
    · rfl
    have e : ∀ u v, sliceV ob k a u v = sliceV ob' k a u v := fun u v => sliceV_frame fun id hid => h id (by simp [hid])
    simp only [opF, e]
  case app k =>
    rcases vs with _ | ⟨a, _ | ⟨b, _ | ⟨c, l⟩⟩⟩ <;> first | rfl | skip
    simp only [opF]
    rw [rowsOf_frame (x := b) fun id hid => h id (by simp [hid])]
    congr 1; funext xs
    split <;> first | rfl | skip
    cases a <;> first | rfl | skip
    simp only []
    rw [h _ (by simp [vid])]
theorem noTouch_us {P : Program} {op : Ok} (hn : noTouch op = true) {vs : List V} {ob : OB} {nid : Nat} {r : V} {us : Ups} (h : OpR P op vs ob nid r us) : us = [] := by
  cases op <;> first | (simp [noTouch] at hn; done) | skip
  all_goals simp only [OpR] at h
  all_goals (rcases vs with _ | ⟨a, _ | ⟨b, _ | ⟨c, _ | ⟨d, l⟩⟩⟩⟩ <;> first | (simp [opF] at h; done) | (simp [opF, Option.bind_eq_some_iff, Option.map_eq_some_iff] at h; grind))
noncomputable def sobD (tr : Nat → Rec) (ob : OB) (D : Nat → Prop) : Nat → OB
  | 0 => ob
  | j + 1 => by classical exact if D j ∧ (tr j).ex = true then apps (sobD tr ob D j) (tr j).us else sobD tr ob D j
theorem apps_out : ∀ (us : Ups) (ob : OB) (id : Nat), id ∉ tch us → apps ob us id = ob id
  | [], _, _, _ => rfl
  | (i, o) :: us, ob, id, h => by
    simp only [tch, List.map_cons, List.mem_cons, not_or] at h
    simp only [apps]
    rw [apps_out us _ id h.2, if_neg h.1]
theorem apps_in : ∀ (us : Ups) (ob ob' : OB) (id : Nat), id ∈ tch us → apps ob us id = apps ob' us id
  | [], _, _, _, h => by simp [tch] at h
  | (i, o) :: us, ob, ob', id, h => by
    simp only [apps]
    by_cases h2 : id ∈ tch us
    · exact apps_in us _ _ id h2
    · rw [apps_out us _ id h2, apps_out us _ id h2]
      simp only [tch, List.map_cons, List.mem_cons] at h h2
      have : id = i := h.resolve_right h2
      rw [if_pos this, if_pos this]
theorem OpR_frame {P : Program} {op : Ok} {vs : List V} {L : List Nat} (hl : lkI op vs = some L) {ob ob' : OB} {nid : Nat} {r : V} {us : Ups} (h : ∀ id ∈ L, ob id = ob' id) (hR : OpR P op vs ob nid r us) : OpR P op vs ob' nid r us := by
  cases hc : isCl op with
  | true =>
    cases op <;> first | (simp [isCl] at hc; done) | skip
    simp only [lkI, noRead, lkB, isCl, Bool.true_and] at hl
    cases ha : vs.all flatV with
    | true => simp only [OpR] at hR ⊢; rw [resL_flat ha (ob' := ob)]; exact hR
    | false => rw [ha] at hl; simp at hl
  | false =>
    have hop : opF op vs ob nid = opF op vs ob' nid := by
      unfold lkI at hl
      split at hl
      · rename_i hn; exact opF_noRead hn vs ob ob' nid
      · split at hl
        · rename_i hb
          injection hl with hl; subst hl
          exact opF_frame hb h
        · simp [hc] at hl
    cases op <;> first | (simp [lkI, noRead, lkB, isCl] at hl; done) | (simp [isCl] at hc; done) | (simp only [OpR] at hR ⊢; rw [← hop]; exact hR)
def lkOf (m : List RO) (tr : Nat → Rec) (env : Env) (j : Nat) : Option (List Nat) := match m[j]? with
  | some o => lkI o.op (o.xs.map (ev (cenv m tr env j)))
  | none => some []
def evt (m : List RO) (tr : Nat → Rec) (env : Env) (j : Nat) : List Nat × Option (List Nat) := if (tr j).ex then (tch (tr j).us, lkOf m tr env j) else ([], some [])
theorem sobD_shift (r0 : Rec) (tr : Nat → Rec) (ob : OB) : ∀ j, sobD (shiftT r0 tr) ob (fun _ => True) (j + 1) = sobD tr (cond r0.ex (apps ob r0.us) ob) (fun _ => True) j
  | 0 => by
    simp only [sobD, shiftT, true_and]
    cases r0.ex <;> simp
  | j + 1 => by
    rw [sobD, sobD_shift r0 tr ob j]
    simp only [sobD, shiftT, true_and]
theorem lkOf_shift (o : RO) (l : List RO) (r0 : Rec) (tr : Nat → Rec) (env : Env) (j : Nat) : lkOf (o :: l) (shiftT r0 tr) env (j + 1) = lkOf l tr (put env o.d r0.val) j := by
  unfold lkOf
  rw [cenv_shift, List.getElem?_cons_succ]
theorem evt_shift (o : RO) (l : List RO) (r0 : Rec) (tr : Nat → Rec) (env : Env) (j : Nat) : evt (o :: l) (shiftT r0 tr) env (j + 1) = evt l tr (put env o.d r0.val) j := by
  unfold evt
  rw [lkOf_shift]; rfl
theorem evts_shift (o : RO) (l : List RO) (r0 : Rec) (tr : Nat → Rec) (env : Env) (j : Nat) : (List.range (j + 1)).map (evt (o :: l) (shiftT r0 tr) env) = evt (o :: l) (shiftT r0 tr) env 0 :: (List.range j).map (evt l tr (put env o.d r0.val)) := by
  rw [List.range_succ_eq_map, List.map_cons, List.map_map]
  congr 1
  exact List.map_congr_left fun i _ => evt_shift o l r0 tr env i
theorem wpE_tr {P : Program} {K : Env → OB → Prop} : ∀ (l : List RO) (nps : List (List Nat)) (nid : Nat) (env : Env) (ob : OB) (past : List (List Nat × Option (List Nat))), wpE P l nps nid env ob past K →
    ∃ tr, (∀ j o, l[j]? = some o → gd o.g (cenv l tr env j) ((tr j).ex = true ∧ OpR P o.op (o.xs.map (ev (cenv l tr env j))) (sobD tr ob (fun _ => True) j) (nid + j) (tr j).r (tr j).us) ((tr j).ex = false)) ∧
      (∀ j, j < l.length → (tr j).ex = true → sepL (past ++ (List.range j).map (evt l tr env)) (nps.getD j []) (evt l tr env j)) ∧ K (cenv l tr env l.length) (sobD tr ob (fun _ => True) l.length)
  | [], nps, nid, env, ob, past, h => ⟨fun _ => ⟨false, .u, []⟩, fun j o h => by simp at h, fun j h => by simp at h, h⟩
  | o :: l, nps, nid, env, ob, past, h => by
    have go : ∀ (r0 : Rec) (e0 : List Nat × Option (List Nat)), (gd o.g env (r0.ex = true ∧ OpR P o.op (o.xs.map (ev env)) ob nid r0.r r0.us) (r0.ex = false)) → (r0.ex = true → sepL past (nps.headD []) e0) →
        e0 = (if r0.ex then (tch r0.us, lkI o.op (o.xs.map (ev env))) else ([], some [])) →
        wpE P l nps.tail (nid + 1) (put env o.d r0.val) (cond r0.ex (apps ob r0.us) ob) (past ++ [e0]) K →
        ∃ tr, (∀ j o', (o :: l)[j]? = some o' → gd o'.g (cenv (o :: l) tr env j) ((tr j).ex = true ∧ OpR P o'.op (o'.xs.map (ev (cenv (o :: l) tr env j))) (sobD tr ob (fun _ => True) j) (nid + j) (tr j).r (tr j).us) ((tr j).ex = false)) ∧
          (∀ j, j < (o :: l).length → (tr j).ex = true → sepL (past ++ (List.range j).map (evt (o :: l) tr env)) (nps.getD j []) (evt (o :: l) tr env j)) ∧ K (cenv (o :: l) tr env (o :: l).length) (sobD tr ob (fun _ => True) (o :: l).length) := fun r0 e0 h0 hs he h1 => by
      obtain ⟨tr, h2, h3, h4⟩ := wpE_tr l nps.tail (nid + 1) _ _ _ h1
      have hev0 : evt (o :: l) (shiftT r0 tr) env 0 = e0 := by
        rw [he]; rfl
      refine ⟨shiftT r0 tr, fun j q hq => ?_, fun j hj hx => ?_, ?_⟩
      · cases j with
        | zero => simp at hq; subst hq; simpa [cenv, sobD, shiftT] using h0
        | succ j =>
          have := h2 j q (by simpa using hq)
          rw [cenv_shift, sobD_shift]
          have e : nid + (j + 1) = nid + 1 + j := by omega
          rw [e]; exact this
      · cases j with
        | zero =>
          rw [List.range_zero, List.map_nil, List.append_nil, hev0]
          have : nps.getD 0 [] = nps.headD [] := by cases nps <;> rfl
          rw [this]; exact hs hx
        | succ j =>
          have := h3 j (by simpa using hj) hx
          rw [evts_shift, evt_shift, hev0]
          have e2 : nps.getD (j + 1) [] = nps.tail.getD j [] := by cases nps <;> rfl
          rw [e2]
          simpa using this
      · rw [List.length_cons, cenv_shift, sobD_shift]; exact h4
    simp only [wpE] at h
    have key : (∃ r us, gd o.g env (OpR P o.op (o.xs.map (ev env)) ob nid r us) False ∧ sepL past (nps.headD []) (tch us, lkI o.op (o.xs.map (ev env))) ∧ wpE P l nps.tail (nid + 1) (put env o.d r) (apps ob us) (past ++ [(tch us, lkI o.op (o.xs.map (ev env)))]) K) ∨ (gd o.g env False True ∧ wpE P l nps.tail (nid + 1) (put env o.d (.c undef)) ob (past ++ [([], some [])]) K) := by
      unfold gd at *
      split at h
      · obtain ⟨r, us, h1, h2⟩ := h; exact .inl ⟨r, us, h1, h2⟩
      · rename_i t want _
        obtain ⟨b, h1, h2, h3⟩ := h
        by_cases hb : b = some want
        · obtain ⟨r, us, h4, h5⟩ := h2 hb; exact .inl ⟨r, us, ⟨b, h1, fun _ => h4, fun e => absurd hb e⟩, h5⟩
        · exact .inr ⟨⟨b, h1, fun e => absurd e hb, fun _ => trivial⟩, h3 hb⟩
    rcases key with ⟨r, us, h1, h2, h3⟩ | ⟨h1, h2⟩
    · exact go ⟨true, r, us⟩ _ (gd_imp (fun h => ⟨rfl, h⟩) (fun h => h.elim) h1) (fun _ => h2) rfl (by simpa [Rec.val] using h3)
    · exact go ⟨false, .u, []⟩ _ (gd_imp (fun h => h.elim) (fun _ => rfl) h1) (fun h => by cases h) rfl (by simpa [Rec.val] using h2)
section
variable {P : Program} {ops : Array Oper} {m : List RO} {tr : Nat → Rec} {env : Env} {ob : OB} {base : Nat}
variable {nt n0 : Nat} {w0 : World} {own0 : Nat → Option Nat} {loc0 : Loc} [Bk]
theorem cenv_bare (j : Nat) : cenv (m.map bare) tr env j = cenv m tr env j := by
  induction j with
  | zero => rfl
  | succ j ih =>
    simp only [cenv, List.getElem?_map, ih]
    cases m[j]? <;> rfl
theorem noTouch_none (a : Option (List Nat)) : apart [] a := by cases a <;> simp [apart, apL]
theorem apt_of {np : List (List Nat)} (hnp : npOK ops m np = true)
    (ht : ∀ j o, m[j]? = some o → gd o.g (cenv m tr env j) ((tr j).ex = true ∧ OpR P o.op (o.xs.map (ev (cenv m tr env j))) (sobD tr ob (fun _ => True) j) (base + j) (tr j).r (tr j).us) ((tr j).ex = false))
    (hs : ∀ j, j < m.length → (tr j).ex = true → sepL ((List.range j).map (evt m tr env)) (np.getD j []) (evt m tr env j))
    {i j : Nat} (hij : i < j) (hj : j < m.length) (hc : cmp (ancL ops.toList []) i j = false) (hxi : (tr i).ex = true) (hxj : (tr j).ex = true) : sepE (tch (tr i).us, lkOf m tr env i) (tch (tr j).us, lkOf m tr env j) := by
  have h1 := List.all_eq_true.1 hnp j (List.mem_range.2 hj)
  have h2 := List.all_eq_true.1 h1 i (List.mem_range.2 hij)
  rw [hc, Bool.false_or] at h2
  have hi : i < m.length := by omega
  have evi : evt m tr env i = (tch (tr i).us, lkOf m tr env i) := by rw [evt, hxi]; rfl
  have evj : evt m tr env j = (tch (tr j).us, lkOf m tr env j) := by rw [evt, hxj]; rfl
  rw [Bool.or_eq_true] at h2
  rcases h2 with h2 | h2
  · have hsj := hs j hj hxj
    have hmem : i ∈ np.getD j [] := List.contains_iff_mem.1 h2
    have gen : ∀ (past : List (List Nat × Option (List Nat))) (L : List Nat) (q : List Nat × Option (List Nat)), sepL past L q → i ∈ L → ∀ a, past[i]? = some a → sepE a q := by
      intro past L q
      induction L with
      | nil => intro _ h; cases h
      | cons k L ih =>
        intro hs hm a ha
        simp only [sepL] at hs
        rcases List.mem_cons.1 hm with rfl | hm
        · rw [ha] at hs; exact hs.1
        · exact ih hs.2 hm a ha
    have := gen _ _ _ hsj hmem (evt m tr env i) (by simp [hij])
    rw [evi, evj] at this
    exact this
  · have hmi : m[i]? = some m[i] := List.getElem?_eq_getElem hi
    have hmj : m[j]? = some m[j] := List.getElem?_eq_getElem hj
    rw [hmi, hmj] at h2
    simp only [Bool.or_eq_true, Bool.and_eq_true] at h2
    have usi := fun hn : noTouch m[i].op = true => noTouch_us hn (gd_true (ht i _ hmi) hxi)
    have usj := fun hn : noTouch m[j].op = true => noTouch_us hn (gd_true (ht j _ hmj) hxj)
    rcases h2 with (⟨a, b⟩ | ⟨a, b⟩) | ⟨a, b⟩
    · rw [usi a, usj b]; exact ⟨noTouch_none _, noTouch_none _, trivial⟩
    · rw [usi a]
      refine ⟨noTouch_none _, ?_, trivial⟩
      have : lkOf m tr env i = some [] := by simp [lkOf, hmi, lkI, b]
      rw [this]; exact apL_iff.2 (by simp)
    · rw [usj a]
      have : lkOf m tr env j = some [] := by simp [lkOf, hmj, lkI, b]
      refine ⟨?_, noTouch_none _, apL_iff.2 (by simp [tch])⟩
      rw [this]; exact apL_iff.2 (by simp)
theorem sob_same {D : Nat → Prop} {j : Nat} (id : Nat) (h1 : ∀ i, i < j → ¬ D i → (tr i).ex = true → id ∉ tch (tr i).us) (h2 : ∀ i, j < i → D i → (tr i).ex = true → id ∉ tch (tr i).us) (hn : ¬ D j) {n : Nat} (hj : j ≤ n) :
    sobD tr ob (fun _ => True) j id = sobD tr ob D n id := by
  have c1 : ∀ k, k ≤ j → sobD tr ob (fun _ => True) k id = sobD tr ob D k id := by
    intro k
    induction k with
    | zero => intro _; rfl
    | succ k ih =>
      intro hk
      have ih := ih (by omega)
      simp only [sobD, true_and]
      by_cases hx : (tr k).ex = true
      · rw [if_pos hx]
        by_cases hD : D k
        · rw [if_pos ⟨hD, hx⟩]
          by_cases hid : id ∈ tch (tr k).us
          · exact apps_in _ _ _ _ hid
          · rw [apps_out _ _ _ hid, apps_out _ _ _ hid, ih]
        · rw [if_neg (fun h => hD h.1), apps_out _ _ _ (h1 k (by omega) hD hx), ih]
      · rw [if_neg hx, if_neg (fun h => hx h.2), ih]
  have c2 : ∀ k, j ≤ k → sobD tr ob D k id = sobD tr ob D j id := by
    intro k
    induction k with
    | zero => intro hk; have : j = 0 := by omega
              subst this; rfl
    | succ k ih =>
      intro hk
      by_cases e : j = k + 1
      · rw [← e]
      · have ih := ih (by omega)
        simp only [sobD]
        by_cases hc : D k ∧ (tr k).ex = true
        · rw [if_pos hc]
          have hjk : j < k := by
            refine Nat.lt_of_le_of_ne (by omega) fun e2 => ?_
            subst e2; exact hn hc.1
          rw [apps_out _ _ _ (h2 k hjk hc.1 hc.2), ih]
        · rw [if_neg hc, ih]
  rw [c1 j (Nat.le_refl _), c2 n hj]
theorem sob_more {D : Nat → Prop} {j : Nat} (h2 : ∀ i, j < i → D i → (tr i).ex = true → ∀ id, id ∈ tch (tr i).us → id ∉ tch (tr j).us) (hn : ¬ D j) {n : Nat} (hj : j < n) (hx : (tr j).ex = true) :
    apps (sobD tr ob D n) (tr j).us = sobD tr ob (fun i => D i ∨ i = j) n := by
  have c1 : ∀ k, k ≤ j → sobD tr ob (fun i => D i ∨ i = j) k = sobD tr ob D k := by
    intro k
    induction k with
    | zero => intro _; rfl
    | succ k ih =>
      intro hk
      simp only [sobD]
      rw [ih (by omega)]
      by_cases hc : D k ∧ (tr k).ex = true
      · rw [if_pos hc, if_pos ⟨.inl hc.1, hc.2⟩]
      · rw [if_neg hc, if_neg (fun h => hc ⟨h.1.resolve_right (by omega), h.2⟩)]
  have c2 : ∀ k, j < k → ∀ id, sobD tr ob (fun i => D i ∨ i = j) k id = apps (sobD tr ob D k) (tr j).us id := by
    intro k
    induction k with
    | zero => intro hk; omega
    | succ k ih =>
      intro hk id
      by_cases e : k = j
      · subst e
        simp only [sobD]
        rw [if_pos ⟨.inr rfl, hx⟩, if_neg (fun h => hn h.1), c1 k (Nat.le_refl _)]
      · have ih := ih (by omega)
        simp only [sobD]
        by_cases hc : D k ∧ (tr k).ex = true
        · rw [if_pos hc, if_pos (show (D k ∨ k = j) ∧ (tr k).ex = true from ⟨.inl hc.1, hc.2⟩)]
          by_cases hid : id ∈ tch (tr k).us
          · rw [apps_out (tr j).us _ id (h2 k (by omega) hc.1 hc.2 id hid)]
            exact apps_in _ _ _ _ hid
          · rw [apps_out _ _ _ hid, ih id]
            by_cases hid2 : id ∈ tch (tr j).us
            · exact apps_in _ _ _ _ hid2
            · rw [apps_out _ _ _ hid2, apps_out _ _ _ hid2, apps_out _ _ _ hid]
        · rw [if_neg hc, if_neg (show ¬ ((D k ∨ k = j) ∧ (tr k).ex = true) from fun h => hc ⟨h.1.resolve_right e, h.2⟩), ih id]
  funext id
  exact (c2 n hj id).symm
theorem sob_skip {D : Nat → Prop} {j : Nat} (hx : (tr j).ex = false) (n : Nat) : sobD tr ob D n = sobD tr ob (fun i => D i ∨ i = j) n := by
  induction n with
  | zero => rfl
  | succ k ih =>
    simp only [sobD]
    rw [ih]
    by_cases e : k = j
    · subst e
      rw [if_neg (fun h => by rw [hx] at h; cases h.2), if_neg (fun h => by rw [hx] at h; cases h.2)]
    · by_cases hc : D k ∧ (tr k).ex = true
      · rw [if_pos hc, if_pos (show (D k ∨ k = j) ∧ (tr k).ex = true from ⟨.inl hc.1, hc.2⟩)]
      · rw [if_neg hc, if_neg (show ¬ ((D k ∨ k = j) ∧ (tr k).ex = true) from fun h => hc ⟨h.1.resolve_right e, h.2⟩)]
theorem wpAny_E (hp : DrawP ops (m.map bare) (ancL ops.toList [])) {hs : List RO} (hc : compOps P nt ops ops.toList hs = some m)
    (ht : ∀ j o, m[j]? = some o → gd o.g (cenv m tr env j) ((tr j).ex = true ∧ OpR P o.op (o.xs.map (ev (cenv m tr env j))) (sobD tr ob (fun _ => True) j) (base + j) (tr j).r (tr j).us) ((tr j).ex = false))
    (hap : ∀ i j, i < j → j < m.length → cmp (ancL ops.toList []) i j = false → (tr i).ex = true → (tr j).ex = true → sepE (tch (tr i).us, lkOf m tr env i) (tch (tr j).us, lkOf m tr env j))
    {Q : Exit → Act → World → Prop}
    (hQ : ∀ a w own loc, SR nt n0 w0 own0 loc0 (cenv m tr env m.length) (sobD tr ob (fun _ => True) m.length) a w own loc → (∀ id, base + m.length ≤ id → loc id = none) → Q .normal a w) :
    ∀ (fuel : Nat) (listed : Array Bool) (a : Act) (w : World) (own : Nat → Option Nat) (loc : Loc), listed.size = ops.size → Clo ops (fun i => listed.getD i false = true) →
      SR nt n0 w0 own0 loc0 (envD (m.map bare) tr env fun i => listed.getD i false = true) (sobD tr ob (fun i => listed.getD i false = true) m.length) a w own loc →
      (∀ id, base + m.length ≤ id → loc id = none) → (∀ i, i < m.length → ¬ listed.getD i false = true → loc (base + i) = none) → unl listed ops.size ≤ fuel → wpAny P .any ops Q fuel listed a w := by
  have hlb : (m.map bare).length = m.length := by simp
  have hln : ops.size = m.length := by rw [hp.len, hlb]
  have fin : ∀ (listed : Array Bool) (a : Act) (w : World) (own : Nat → Option Nat) (loc : Loc), listed.size = ops.size →
      SR nt n0 w0 own0 loc0 (envD (m.map bare) tr env fun i => listed.getD i false = true) (sobD tr ob (fun i => listed.getD i false = true) m.length) a w own loc →
      (∀ id, base + m.length ≤ id → loc id = none) → Region.ready .any ops listed = [] → Q .normal a w := by
    intro listed a w own loc hsz h hf hr
    have hall := ready_all hp hsz hr
    have hlt : ∀ (i : Nat) (o : RO), (m.map bare)[i]? = some o → listed.getD i false = true := fun i o hi => hall i (by rw [hp.len]; exact (List.getElem?_eq_some_iff.1 hi).1)
    have e1 : (envD (m.map bare) tr env fun i => listed.getD i false = true) = cenv m tr env m.length := by
      rw [← cenv_bare, ← hlb]
      funext t
      by_cases hex : ∃ (i : Nat) (o : RO), (m.map bare)[i]? = some o ∧ o.d = some t
      · obtain ⟨i, o, hi, hd⟩ := hex
        rw [envD_in hp hi hd (hlt i o hi), cenv_in hp hi hd _ (List.getElem?_eq_some_iff.1 hi).1]
      · rw [envD_out fun i o hi hd _ => hex ⟨i, o, hi, hd⟩, cenv_out _ fun i o _ hi hd => hex ⟨i, o, hi, hd⟩]
    have e2 : sobD tr ob (fun i => listed.getD i false = true) m.length = sobD tr ob (fun _ => True) m.length := by
      have : ∀ k, k ≤ m.length → sobD tr ob (fun i => listed.getD i false = true) k = sobD tr ob (fun _ => True) k := by
        intro k
        induction k with
        | zero => intro _; rfl
        | succ k ih =>
          intro hk
          simp only [sobD]
          rw [ih (by omega)]
          simp [hall k (by omega)]
      exact this _ (Nat.le_refl _)
    rw [e1, e2] at h
    exact hQ a w own loc h hf
  intro fuel
  induction fuel with
  | zero =>
    intro listed a w own loc hsz hcl h hf hf2 hfu
    have hr : Region.ready .any ops listed = [] := by
      cases hrr : Region.ready .any ops listed with
      | nil => rfl
      | cons i l =>
        have hi : i ∈ Region.ready .any ops listed := by rw [hrr]; simp
        obtain ⟨h1, o, h2, h3⟩ := mem_ready.1 hi
        have : i ∈ (List.range ops.size).filter fun i => !listed.getD i true := List.mem_filter.2 ⟨List.mem_range.2 (Array.getElem?_eq_some_iff.1 h2).1, by simp [h1]⟩
        have hp := List.length_pos_of_mem this
        unfold unl at hfu; omega
    exact ⟨hr, fin listed a w own loc hsz h hf hr⟩
  | succ fuel ih =>
    intro listed a w own loc hsz hcl h hf hf2 hfu
    refine ⟨fun hr => fin listed a w own loc hsz h hf hr, fun j hj => ?_⟩
    obtain ⟨h1, o, ho, he⟩ := mem_ready.1 hj
    have hjs : j < ops.size := (Array.getElem?_eq_some_iff.1 ho).1
    have hjm : j < m.length := by rw [← hln]; exact hjs
    have hn : ¬ listed.getD j false = true := by
      simp only [Array.getD_eq_getD_getElem?] at h1 ⊢
      rw [Array.getElem?_eq_getElem (by omega)] at h1 ⊢
      simpa using h1
    obtain ⟨hk, ro, hro, hcr⟩ := (compOps_at _ _ _ hc).2 j o (by rw [Array.getElem?_toList]; exact ho)
    have hrob : (m.map bare)[j]? = some (bare ro) := by rw [List.getElem?_map, hro]; rfl
    have hrd : Rdy ops (fun i => listed.getD i false = true) j := fun o' ho' e he' hb => by
      rw [ho] at ho'; injection ho' with ho'; subst ho'; exact he e he' hb
    have hD : (fun i => (listed.setIfInBounds j true).getD i false = true) = fun i => listed.getD i false = true ∨ i = j := by
      funext i
      simp only [Array.getD_eq_getD_getElem?, Array.getElem?_setIfInBounds]
      by_cases hij : j = i
      · subst hij; simp [show j < listed.size by omega]
      · rw [if_neg hij]; simp [Ne.symm hij]
    have hcl' : Clo ops (fun i => listed.getD i false = true ∨ i = j) := fun i o' hi hDi e he' hb => by
      rcases hDi with hDi | rfl
      · exact .inl (hcl i o' hi hDi e he' hb)
      · exact .inl (hrd o' hi e he' hb)
    have hunl := unl_set (listed := listed) hjs h1
    have hxs : ro.xs.map (ev (envD (m.map bare) tr env fun i => listed.getD i false = true)) = ro.xs.map (ev (cenv m tr env j)) := by
      refine List.map_congr_left fun x hx => ?_
      cases x with
      | k v => rfl
      | t n =>
        rw [← cenv_bare]
        exact look_eq hp hcl hrob hrd hn (List.mem_append_left _ (List.mem_filterMap.2 ⟨.t n, hx, rfl⟩))
    have hg := gd_env (env' := envD (m.map bare) tr env fun i => listed.getD i false = true) (fun t want hgt => by
      rw [← cenv_bare]
      exact (look_eq hp hcl hrob hrd hn (t := t) (List.mem_append_right _ (by
        have : (bare ro).g = some (t, want) := hgt
        rw [this]; simp))).symm) (ht j ro hro)
    have nc1 : ∀ i, i < j → ¬ listed.getD i false = true → cmp (ancL ops.toList []) i j = false := fun i hi hni => by
      cases hcm : cmp (ancL ops.toList []) i j with
      | false => rfl
      | true => exact absurd ((cmp_iff hp (by omega) hcm hcl hrd hn).2 hi) hni
    have nc2 : ∀ i, j < i → listed.getD i false = true → cmp (ancL ops.toList []) j i = false := fun i hi hdi => by
      cases hcm : cmp (ancL ops.toList []) j i with
      | false => rfl
      | true =>
        unfold cmp at hcm
        rw [if_pos hi] at hcm
        exact absurd (hp.anc i j hcm _ hcl fun o' ho' e he' hb => hcl i o' ho' hdi e he' hb) hn
    have below : ∀ i, listed.getD i false = true → i < m.length := fun i hi => by
      rw [← hln, ← hsz]
      refine Nat.lt_of_not_le fun hge => ?_
      rw [Array.getD_eq_getD_getElem?, Array.getElem?_eq_none hge] at hi; cases hi
    have next : ∀ (a' : Act) (w' : World) (own' : Nat → Option Nat) (loc' : Loc),
        SR nt n0 w0 own0 loc0 (envD (m.map bare) tr env fun i => listed.getD i false = true ∨ i = j) (sobD tr ob (fun i => listed.getD i false = true ∨ i = j) m.length) a' w' own' loc' →
        (∀ id, id ≠ base + j → loc id = none → loc' id = none) → wpAny P .any ops Q fuel (listed.setIfInBounds j true) a' w' := fun a' w' own' loc' hsr hl => by
      refine ih _ a' w' own' loc' (by simp [hsz]) (by rw [hD]; exact hcl') (by rw [hD]; exact hsr) (fun id hid => hl id (by omega) (hf id hid)) (fun i hi hni => ?_) (by omega)
      have hni' := fun h => hni (by have := congrFun hD i; exact this.symm ▸ h)
      refine hl _ (fun e => hni' (.inr (by omega))) (hf2 i hi fun h => hni' (.inl h))
    unfold wpOp
    rw [ho]
    simp only
    rcases gd_wanted h hcr hg with ⟨hw, hx, hR⟩ | ⟨hw, hx⟩
    · rw [if_pos hw]
      left
      have hR' : OpR P ro.op (ro.xs.map (ev (envD (m.map bare) tr env fun i => listed.getD i false = true))) (sobD tr ob (fun i => listed.getD i false = true) m.length) (base + j) (tr j).r (tr j).us := by
        rw [hxs]
        have hlk : lkOf m tr env j = lkI ro.op (ro.xs.map (ev (cenv m tr env j))) := by simp [lkOf, hro]
        cases hL : lkI ro.op (ro.xs.map (ev (cenv m tr env j))) with
        | some L =>
          refine OpR_frame hL (fun id hid => ?_) hR
          refine sob_same id (fun i hi hni hxi hmem => ?_) (fun i hi hdi hxi hmem => ?_) hn (Nat.le_of_lt hjm)
          · have := (hap i j hi hjm (nc1 i hi hni) hxi hx).1
            rw [hlk, hL] at this
            exact apL_iff.1 this id hmem hid
          · have := (hap j i hi (below i hdi) (nc2 i hi hdi) hx hxi).2.1
            rw [hlk, hL] at this
            exact apL_iff.1 this id hmem hid
        | none =>
          have hsame : sobD tr ob (fun _ => True) j = sobD tr ob (fun i => listed.getD i false = true) m.length := by
            funext id
            refine sob_same id (fun i hi hni hxi hmem => ?_) (fun i hi hdi hxi hmem => ?_) hn (Nat.le_of_lt hjm)
            · have := (hap i j hi hjm (nc1 i hi hni) hxi hx).1
              rw [hlk, hL] at this
              have this : tch (tr i).us = [] := this
              rw [this] at hmem; cases hmem
            · have := (hap j i hi (below i hdi) (nc2 i hi hdi) hx hxi).2.1
              rw [hlk, hL] at this
              have this : tch (tr i).us = [] := this
              rw [this] at hmem; cases hmem
          rw [← hsame]; exact hR
      refine op_wp h hcr (fun _ _ h => h) (hf2 j hjm hn) hR' fun x w' own' loc' hsr hst hl => ?_
      rw [sob_more (fun i hi hdi hxi id hid hid2 => by
        have := (hap j i hi (below i hdi) (nc2 i hi hdi) hx hxi).2.2
        exact apL_iff.1 this id hid2 hid) hn hjm hx] at hsr
      have hv : (tr j).val = (tr j).r := by simp [Rec.val, hx]
      have hsr2 : SR nt n0 w0 own0 loc0 (put (envD (m.map bare) tr env fun i => listed.getD i false = true) (bare ro).d (tr j).val) (sobD tr ob (fun i => listed.getD i false = true ∨ i = j) m.length) (a.put o.dst x) w' own' loc' := by rw [hv]; exact hsr
      rw [envD_put hp hrob hn] at hsr2
      exact next _ _ _ _ hsr2 hl
    · rw [if_neg (by rw [hw]; simp)]
      have hd := compRO_d hcr
      have hsr := h.put (d := o.dst) hd.2 (r := .c undef) (x := undef) (.c _) h.wf (.refl _ _ _)
      have hv : (tr j).val = .c undef := by simp [Rec.val, hx]
      have hd1 : (bare ro).d = o.dst := hd.1
      rw [← hd1, ← hv, envD_put hp hrob hn, sob_skip hx] at hsr
      rw [← hd1]
      exact next _ _ _ _ hsr fun _ _ h => h
theorem wpE_sound (hm : P.follows .mixedOrders = true) {id : Nat} {np : List (List Nat)} (hd : drawOK ops (m.map bare) = true) (hnp : npOK ops m np = true) {hs : List RO} (hc : compOps P nt ops ops.toList hs = some m) {Q : Exit → Act → World → Prop} {K : Env → OB → Prop}
    {a : Act} {w : World} {own : Nat → Option Nat} {loc : Loc} (h : SR nt n0 w0 own0 loc0 env ob a w own loc) (hf : ∀ id, base ≤ id → loc id = none) (hw : wpE P m np base env ob [] K)
    (hQ : ∀ env ob a w own loc, SR nt n0 w0 own0 loc0 env ob a w own loc → (∀ id, base + m.length ≤ id → loc id = none) → K env ob → Q .normal a w) : (Code.region id ops true).wp P Q a w := by
  obtain ⟨tr, ht, hs2, hK⟩ := wpE_tr m np base env ob [] hw
  simp only [List.nil_append] at hs2
  have hp := drawOK_spec hd
  have rep0 : ∀ i, ¬ (Array.replicate ops.size false).getD i false = true := fun i hi => by
    simp [Array.getD_eq_getD_getElem?, Array.getElem?_replicate] at hi
    split at hi <;> simp at hi
  refine wp_region_any hm (wpAny_E (nt := nt) (n0 := n0) (w0 := w0) (own0 := own0) (loc0 := loc0) hp hc ht (fun i j hij hj hcm hxi hxj => apt_of hnp ht hs2 hij hj hcm hxi hxj) (fun a w own loc hsr hfr => hQ _ _ a w own loc hsr hfr hK) ops.size _ a _ own loc (by simp) (fun j o ho hD e he hb => absurd hD (rep0 j)) ?_ (fun id hid => hf id (by omega)) (fun i hi _ => hf _ (by omega)) ?_)
  · have e1 : (envD (m.map bare) tr env fun i => (Array.replicate ops.size false).getD i false = true) = env := by
      funext t
      exact envD_out fun i o _ _ hD => rep0 i hD
    have e2 : sobD tr ob (fun i => (Array.replicate ops.size false).getD i false = true) m.length = ob := by
      have : ∀ k, sobD tr ob (fun i => (Array.replicate ops.size false).getD i false = true) k = ob := by
        intro k
        induction k with
        | zero => rfl
        | succ k ih => simp only [sobD]; rw [if_neg (fun h => rep0 k h.1), ih]
      exact this _
    rw [e1, e2]
    have hdr := Stp.drew w own loc
    exact ⟨h.defers, h.size, h.wf.drew, fun t => (h.vals t).stp hdr, h.stp.trans hdr, h.le, h.new⟩
  · unfold unl
    exact Nat.le_trans (List.length_filter_le _ _) (by simp)
end
end Go.Proofs.YtbojpedklnmidaaGreat.D
end
section
set_option linter.unusedVariables false
set_option linter.unusedSectionVars false
set_option linter.unusedSimpArgs false
set_option linter.constructorNameAsVariable false
/- Code and functions over plain values. No condition. -/
namespace Go.Proofs.YtbojpedklnmidaaGreat.D
open Go Go.RowKit
def compC (P : Program) (nt : Nat) : Code → IC → Option IC
  | .skip, .skip => some .skip
  | .region _ ops draw, .rg hs d => (compOps P nt ops ops.toList hs).bind fun m => if draw == d && (!d || (P.follows .mixedOrders && drawOK ops m)) then some (.rg m d) else none
  | .region _ ops draw, .rb ha ho hb => (compOps P nt ops ops.toList (ha ++ ho :: hb)).bind fun m => if draw && P.follows .mixedOrders && drawOK ops m && barOK ops ha.length then (match m.drop ha.length with | o :: b => some (.rb (m.take ha.length) o b) | [] => none) else none
  | .region _ ops draw, .re hs np => (compOps P nt ops ops.toList hs).bind fun m => if draw && P.follows .mixedOrders && drawOK ops (m.map bare) && npOK ops m np then some (.re m np) else none
  | .seq a b, .sq c d => (compC P nt a c).bind fun x => (compC P nt b d).map fun y => .sq x y
  | .cond c a b, .cn _ d e => (comOd nt c).bind fun q => (compC P nt a d).bind fun x => (compC P nt b e).map fun y => .cn q x y
  | .block id c, .bl _ d => (compC P nt c d).map fun x => .bl id x
  | .loop c, .lp d => (compC P nt c d).map .lp
  | .exit id, .ex _ => some (.ex id)
  | .ret, .rt => some .rt
  | _, _ => none
def thenQ (f : Env → OB → Nat → Prop) (Q : Post) : Post := fun e env ob n => match e with
  | .nrm => f env ob n
  | e => Q e env ob n
def blQ (id : Nat) (Q : Post) : Post := fun e env ob n => match e with
  | .ex j => if j = id then Q .nrm env ob n else Q (.ex j) env ob n
  | e => Q e env ob n
def lpQ (I : Env → OB → Nat → Prop) (μ : Env → OB → Nat → Nat) (k : Nat) (Q : Post) : Post := fun e env ob n => match e with
  | .nrm => I env ob n ∧ μ env ob n < k
  | e => Q e env ob n
def kS (Q : Post) : Env → OB → Nat → Prop := fun env ob n => Q .nrm env ob n
def kN (Q : Post) (m : Nat) : Env → OB → Prop := fun env ob => Q .nrm env ob m
def kB2 (P : Program) (b : List RO) (j : Nat) (Q : Post) : Env → OB → Nat → Prop := fun env ob n => wpD P b (n + j) env ob [] (kN Q (n + j + b.length))
def kB1 (P : Program) (o : RO) (b : List RO) (n j : Nat) (Q : Post) : Env → OB → Prop := fun env ob => wpS P [o] n env ob (kB2 P b j Q)
def cnd (v : V) (A B : Prop) : Prop := match v with
  | .c (.bool t) => (t = true → A) ∧ (t = false → B)
  | .q => A ∧ B
  | _ => False
def wpC (P : Program) : IC → Post → Env → OB → Nat → Prop
  | .skip, Q, env, ob, n => Q .nrm env ob n
  | .rg ops false, Q, env, ob, n => wpS P ops n env ob (kS Q)
  | .rg ops true, Q, env, ob, n => wpD P ops n env ob [] (kN Q (n + ops.length))
  | .rb a o b, Q, env, ob, n => wpD P a n env ob [] (kB1 P o b (n + a.length) (a.length + 1) Q)
  | .re m np, Q, env, ob, n => wpE P m np n env ob [] (kN Q (n + m.length))
  | .sq a b, Q, env, ob, n => wpC P a (thenQ (wpC P b Q) Q) env ob n
  | .cn c a b, Q, env, ob, n => cnd (ev env c) (wpC P a Q env ob n) (wpC P b Q env ob n)
  | .bl id c, Q, env, ob, n => wpC P c (blQ id Q) env ob n
  | .lp c, Q, env, ob, n => ∃ (I : Env → OB → Nat → Prop) (μ : Env → OB → Nat → Nat), I env ob n ∧ ∀ env ob n, I env ob n → wpC P c (lpQ I μ (μ env ob n) Q) env ob n
  | .ex id, Q, env, ob, n => Q (.ex id) env ob n
  | .rt, Q, env, ob, n => Q .rt env ob n
section
variable {P : Program} {nt n0 : Nat} {w0 : World} {own0 : Nat → Option Nat} {loc0 : Loc} [Bk]
def Stands (nt n0 : Nat) (w0 : World) (own0 : Nat → Option Nat) (loc0 : Loc) (R : Env → OB → Nat → Prop) (a : Act) (w : World) : Prop :=
  ∃ env ob n own loc, SR nt n0 w0 own0 loc0 env ob a w own loc ∧ (∀ id, n ≤ id → loc id = none) ∧ R env ob n
def post (nt n0 : Nat) (w0 : World) (own0 : Nat → Option Nat) (loc0 : Loc) (Q : Post) : Exit → Act → World → Prop
  | .normal, a, w => Stands nt n0 w0 own0 loc0 (Q .nrm) a w
  | .exit id, a, w => Stands nt n0 w0 own0 loc0 (Q (.ex id)) a w
  | .ret, a, w => Stands nt n0 w0 own0 loc0 (Q .rt) a w
  | _, _, _ => False
theorem wpC_sound : ∀ (c : Code) (h i : IC), compC P nt c h = some i → ∀ (Q : Post) (a : Act) (w : World), Stands nt n0 w0 own0 loc0 (wpC P i Q) a w → c.wp P (post nt n0 w0 own0 loc0 Q) a w := by
  intro c
  induction c with
  | skip =>
    intro h i hc Q a w hs
    cases h <;> simp only [compC] at hc <;> first | (cases hc; done) | skip
    injection hc with hc; subst hc
    exact wp_skip hs
  | region id ops draw =>
    intro h i hc Q a w hs
    by_cases hrb : ∃ ha ho hb, h = .rb ha ho hb
    · obtain ⟨ha, ho, hb, rfl⟩ := hrb
      simp only [compC] at hc
      obtain ⟨m, hm, hc2⟩ := Option.bind_eq_some_iff.1 hc
      clear hc
      split at hc2
      case isFalse => cases hc2
      rename_i hcond
      simp only [Bool.and_eq_true] at hcond
      obtain ⟨⟨⟨hdr, hmx⟩, hdo⟩, hbo⟩ := hcond
      subst hdr
      split at hc2
      case h_2 => cases hc2
      rename_i o b hdrop
      injection hc2 with hc2; subst hc2
      obtain ⟨env, ob, n, own, loc, hsr, hf, hw⟩ := hs
      have hlt : ha.length < m.length := Nat.lt_of_not_le fun hge => by rw [List.drop_eq_nil_of_le hge] at hdrop; cases hdrop
      have hm2 : m = m.take ha.length ++ o :: b := by rw [← hdrop, List.take_append_drop]
      have hl : (m.take ha.length).length = ha.length := by rw [List.length_take]; omega
      refine wpB_sound (ma := m.take ha.length) (o := o) (mb := b) hmx (by rw [← hm2]; exact hdo) (by rw [hl]; exact hbo) (by rw [← hm2]; exact hm) hsr hf (K := Q .nrm) ?_ (fun env ob n a w own loc h1 h2 h3 => ⟨env, ob, n, own, loc, h1, h2, h3⟩) fun _ _ _ h => h
      exact hw
    by_cases hre : ∃ hs np, h = .re hs np
    · obtain ⟨hs', np, rfl⟩ := hre
      simp only [compC] at hc
      obtain ⟨m, hm, hc2⟩ := Option.bind_eq_some_iff.1 hc
      clear hc
      split at hc2
      case isFalse => cases hc2
      rename_i hcond
      simp only [Bool.and_eq_true] at hcond
      obtain ⟨⟨⟨hdr, hmx⟩, hdo⟩, hnp⟩ := hcond
      subst hdr
      injection hc2 with hc2; subst hc2
      obtain ⟨env, ob, n, own, loc, hsr, hf, hw⟩ := hs
      exact wpE_sound hmx hdo hnp hm hsr hf hw fun env ob a w own loc h1 h2 h3 => ⟨env, ob, _, own, loc, h1, h2, h3⟩
    cases h <;> simp only [compC] at hc <;> first | (cases hc; done) | (exact absurd ⟨_, _, _, rfl⟩ hrb) | (exact absurd ⟨_, _, rfl⟩ hre) | skip
    rename_i hs' d
    obtain ⟨m, hm, hc⟩ := Option.bind_eq_some_iff.1 hc
    split at hc
    case isFalse => cases hc
    rename_i hcond
    simp only [Bool.and_eq_true, Bool.or_eq_true, beq_iff_eq, Bool.not_eq_true'] at hcond
    injection hc with hc; subst hc
    obtain ⟨env, ob, n, own, loc, hsr, hf, hw⟩ := hs
    have hlen := (compOps_at _ _ _ hm).1
    have hls : ops.toList.length = m.length := hlen.symm
    cases d with
    | false =>
      obtain ⟨hdr, _⟩ := hcond
      subst hdr
      refine wp_region_list (wpS_sound _ _ _ n env ob a w own loc hm hsr hf hw fun env ob a w own loc n h1 h2 h3 => ⟨env, ob, n, own, loc, h1, h2, h3⟩)
    | true =>
      obtain ⟨hdr, hx⟩ := hcond
      subst hdr
      obtain ⟨hmx, hdo⟩ := hx.resolve_left (by simp)
      exact wpD_sound hmx hdo hm hsr hf hw fun env ob a w own loc h1 h2 h3 => ⟨env, ob, _, own, loc, h1, h2, h3⟩
  | seq x y ihx ihy =>
    intro h i hc Q a w hs
    cases h <;> simp only [compC] at hc <;> first | (cases hc; done) | skip
    obtain ⟨i1, h1, hc⟩ := Option.bind_eq_some_iff.1 hc
    obtain ⟨i2, h2, hc⟩ := Option.map_eq_some_iff.1 hc
    subst hc
    refine wp_seq (wp_mono (ihx _ _ h1 _ a w hs) fun e a w hq => ?_)
    cases e with
    | normal => exact ihy _ _ h2 Q a w hq
    | exit id => exact hq
    | ret => exact hq
    | _ => exact hq
  | cond c x y ihx ihy =>
    intro h i hc Q a w hs
    cases h <;> simp only [compC] at hc <;> first | (cases hc; done) | skip
    obtain ⟨q, hq, hc⟩ := Option.bind_eq_some_iff.1 hc
    obtain ⟨i1, h1, hc⟩ := Option.bind_eq_some_iff.1 hc
    obtain ⟨i2, h2, hc⟩ := Option.map_eq_some_iff.1 hc
    subst hc
    obtain ⟨env, ob, n, own, loc, hsr, hf, hw⟩ := hs
    have hv := ev_rv hsr hq
    simp only [wpC, cnd] at hw
    split at hw
    · rename_i t heq
      rw [heq] at hv
      refine wp_cond_split hv.c_inv (fun ht => ihx _ _ h1 Q a w ⟨env, ob, n, own, loc, hsr, hf, hw.1 ht⟩) (fun ht => ihy _ _ h2 Q a w ⟨env, ob, n, own, loc, hsr, hf, hw.2 ht⟩)
    · rename_i heq
      rw [heq] at hv
      have : ∃ b, a.eval c = .bool b := by
        generalize a.eval c = z at hv
        cases hv; exact ⟨_, rfl⟩
      obtain ⟨b, hb⟩ := this
      refine wp_cond_split hb (fun _ => ihx _ _ h1 Q a w ⟨env, ob, n, own, loc, hsr, hf, hw.1⟩) (fun _ => ihy _ _ h2 Q a w ⟨env, ob, n, own, loc, hsr, hf, hw.2⟩)
    · exact hw.elim
  | block id c ih =>
    intro h i hc Q a w hs
    cases h <;> simp only [compC] at hc <;> first | (cases hc; done) | skip
    obtain ⟨i1, h1, hc⟩ := Option.map_eq_some_iff.1 hc
    subst hc
    refine wp_block (wp_mono (ih _ _ h1 _ a w hs) fun e a w hq => ?_)
    cases e with
    | normal => exact hq
    | exit j =>
      obtain ⟨env, ob, n, own, loc, hsr, hf, hw⟩ := hq
      simp only [Exit.inBlock]
      simp only [blQ] at hw
      by_cases hj : j = id
      · rw [if_pos hj] at hw ⊢; exact ⟨env, ob, n, own, loc, hsr, hf, hw⟩
      · rw [if_neg hj] at hw ⊢; exact ⟨env, ob, n, own, loc, hsr, hf, hw⟩
    | ret => exact hq
    | _ => exact hq
  | loop c ih =>
    intro h i hc Q a w hs
    cases h <;> simp only [compC] at hc <;> first | (cases hc; done) | skip
    obtain ⟨i1, h1, hc⟩ := Option.map_eq_some_iff.1 hc
    subst hc
    obtain ⟨env, ob, n, own, loc, hsr, hf, I, μ, hI, hround⟩ := hs
    let R : Nat → Act → World → Prop := fun k a w => Stands nt n0 w0 own0 loc0 (fun env ob n => I env ob n ∧ μ env ob n = k) a w
    have hmin : ∀ a w, (∃ k, R k a w) → ∃ k, R k a w ∧ ∀ j, R j a w → k ≤ j := fun a w ⟨k, hk⟩ => by
      induction k using Nat.strongRecOn with
      | _ k ih2 =>
        by_cases hex : ∃ j, j < k ∧ R j a w
        · obtain ⟨j, hj1, hj2⟩ := hex; exact ih2 j hj1 hj2
        · exact ⟨k, hk, fun j hj => Classical.byContradiction fun hlt => hex ⟨j, by omega, hj⟩⟩
    let M : Act → World → Nat := fun a w => by classical exact if h : ∃ k, R k a w then Classical.choose (hmin a w h) else 0
    have hM : ∀ a w, (∃ k, R k a w) → R (M a w) a w ∧ ∀ j, R j a w → M a w ≤ j := fun a w h => by
      have := Classical.choose_spec (hmin a w h)
      simp only [M, dif_pos h]; exact this
    refine wp_loop (fun a w => ∃ k, R k a w) M ⟨_, env, ob, n, own, loc, hsr, hf, hI, rfl⟩ fun a w hR => ?_
    obtain ⟨env, ob, n, own, loc, hsr, hf, hI, hk⟩ := (hM a w hR).1
    refine wp_mono (ih _ _ h1 _ a w ⟨env, ob, n, own, loc, hsr, hf, hround env ob n hI⟩) fun e a' w' hq => ?_
    cases e with
    | normal =>
      obtain ⟨env', ob', n', own', loc', hsr', hf', hI', hlt⟩ := hq
      have hR' : R (μ env' ob' n') a' w' := ⟨env', ob', n', own', loc', hsr', hf', hI', rfl⟩
      refine ⟨⟨_, hR'⟩, ?_⟩
      have := (hM a' w' ⟨_, hR'⟩).2 _ hR'
      omega
    | exit id => exact hq
    | ret => exact hq
    | _ => exact hq
  | exit id =>
    intro h i hc Q a w hs
    cases h <;> simp only [compC] at hc <;> first | (cases hc; done) | skip
    injection hc with hc; subst hc
    exact wp_exit hs
  | ret =>
    intro h i hc Q a w hs
    cases h <;> simp only [compC] at hc <;> first | (cases hc; done) | skip
    injection hc with hc; subst hc
    exact wp_ret hs
  | _ =>
    intro h i hc
    cases h <;> simp [compC] at hc
end
end Go.Proofs.YtbojpedklnmidaaGreat.D
end
section
set_option linter.unusedVariables false
set_option linter.unusedSectionVars false
set_option linter.unusedSimpArgs false
set_option linter.constructorNameAsVariable false
/- Functions over plain values. No condition. -/
namespace Go.Proofs.YtbojpedklnmidaaGreat.D
open Go Go.RowKit
inductive Rs where
  | t (n : Nat)
  | c (n : Nat) (sz : Option Nat)
def Rs.n : Rs → Nat
  | .t n => n
  | .c n _ => n
def resTmps (P : Program) : List ResultVar → Option (List Rs)
  | [] => some []
  | .tmp t :: l => (resTmps P l).map (.t t :: ·)
  | .cell a t :: l => (tySz P t).bind fun sz => (resTmps P l).map (.c a sz :: ·)
def rdL (env : Env) (ob : OB) : List Rs → Option (List V)
  | [] => some []
  | .t n :: l => (rdL env ob l).map (env n :: ·)
  | .c n sz :: l => (ldV ob sz (env n)).bind fun v => (rdL env ob l).map (v :: ·)
structure FI where
  c : IC
  rs : List Rs
  nt : Nat
def compF (P : Program) (f : FuncId) (h : IC) : Option FI :=
  match P.funcs[f]? with
  | some fn => fn.body.bind fun c => (compC P fn.ntmps c h).bind fun i => (resTmps P fn.results.toList).bind fun rs =>
    if fn.name != "runtime.NumGoroutine" && rs.all (·.n < fn.ntmps) then some ⟨i, rs, fn.ntmps⟩ else none
  | none => none
def kill (ob : OB) (id : Nat) : OB := fun j => if j = id then none else ob j
def outL (ob : OB) : List V → List V
  | [] => []
  | .sl id off len :: l => match rowsOf ob (.sl id off len) with
      | some rows => if rows.length = 0 then .im .b [] :: l.map (gV ob 6) else .im .o (rows.map fun r => r.map (gV (kill ob id) 6)) :: l.map (gV (kill ob id) 6)
      | none => .u :: l.map (gV ob 6)
  | .z :: l => .im .o [] :: l.map (gV ob 6)
  | v :: l => gV ob 6 v :: l.map (gV ob 6)
def retV : List V → V
  | [.tp _] => .u
  | [v] => v
  | l => .tp l
def finV (r : V) (ob : OB) : Option (List V) → Prop
  | some l => retV (outL ob l) = r
  | none => False
def finQ (rs : List Rs) (r : V) : Post := fun e env ob n => match e with
  | .ex _ => False
  | _ => finV r ob (rdL env ob rs)
def packV : List V → V
  | [v] => v
  | l => .tp l
def finW (C : V → OB → Nat → Prop) (ob : OB) (n : Nat) : Option (List V) → Prop
  | some l => C (packV l) ob n
  | none => False
def finS (rs : List Rs) (C : V → OB → Nat → Prop) : Post := fun e env ob n => match e with
  | .ex _ => False
  | _ => finW C ob n (rdL env ob rs)
def noOb : OB := fun _ => none
def env0 (args : List V) : Env := fun t => args.getD t .u
section
variable {P : Program} {n0 : Nat} {w : World} {own : Nat → Option Nat} {loc : Loc} {ob : OB} [Bk]
theorem gV_notO (ob : OB) (n : Nat) (v : V) : isO (gV ob n v) = false := by
  have := gV_noB ob n v
  cases h : gV ob n v with
  | im f l =>
    rw [h] at this
    cases this with | im f l hf hl => subst hf; rfl
  | _ => rfl
theorem res1_g {bo : Option Nat} {r : V} {x : Value} (hr : NoB r) (h : RV w (rok Bk.B n0 w.heap.size bo) (fun _ => none) r x) : Res1 Bk.B w n0 bo r x := by
  cases r with
  | im f l =>
    cases hr with
    | im f l hf hl => subst hf; exact ⟨.im _ l rfl hl, h⟩
  | _ => exact ⟨hr, h⟩
theorem RV.weak {w : World} {ok ok' : Fl → Nat → Prop} {loc : Loc} {v : V} {x : Value} (h : RV w ok loc v x) (hok : ∀ f b, ok f b → ok' f b) : RV w ok' loc v x :=
  h.mono (fun _ _ _ _ _ h => h) hok (fun _ _ => .inl rfl)
theorem plain_res {bo : Option Nat} {ob' : OB} {own' : Nat → Option Nat} {loc' : Loc} (hwf : WF n0 w own' loc' ob') (hnew : ∀ b id, own' b = some id → n0 ≤ b) {id0 : Nat} (h0 : ob' id0 = none) (hbo : ∀ b, bo = some b → own' b = some id0) {l : List V} {xs : List Value}
    (h : RVs w (okf own' n0 w.heap.size) loc' l xs) : ∀ (i : Nat) (r : V) (x : Value), (l.map (gV ob' 6))[i]? = some r → xs[i]? = some x → isO r = false ∧ Res1 Bk.B w n0 bo r x := fun i r x hr hx => by
  obtain ⟨v, h1, rfl⟩ := map_at hr
  refine ⟨gV_notO _ _ _, res1_g (gV_noB _ _ _) ((g_rv hwf hnew h0 6 v x (h.2 i v x h1 hx)).weak fun f b hb => ⟨hb.1, fun e => hb.2.1 (hbo b e), hb.2.2⟩)⟩
theorem consRes {bo : Option Nat} {r0 : V} {rs : List V} {x0 : Value} {xs : List Value} (hlen : xs.length = rs.length) (h0 : Res1 Bk.B w n0 bo r0 x0) (h : ∀ (i : Nat) (r : V) (x : Value), rs[i]? = some r → xs[i]? = some x → isO r = false ∧ Res1 Bk.B w n0 bo r x) :
    ResL Bk.B w n0 (r0 :: rs) (x0 :: xs) := by
  refine ⟨bo, by simp [hlen], fun i r x hr hx => ?_, fun i j r s hr hs hor hos => ?_⟩
  · cases i with
    | zero => simp at hr hx; subst hr; subst hx; exact h0
    | succ i => exact (h i r x (by simpa using hr) (by simpa using hx)).2
  · have key : ∀ (i : Nat) (r : V), (r0 :: rs)[i]? = some r → isO r = true → i = 0 := fun i r hr hor => by
      cases i with
      | zero => rfl
      | succ i =>
        have hi : i < xs.length := by rw [hlen]; simpa using (List.getElem?_eq_some_iff.1 hr).1
        rw [(h i r _ (by simpa using hr) (List.getElem?_eq_getElem hi)).1] at hor; cases hor
    rw [key i r hr hor, key j s hs hos]
theorem out_res (hwf : WF n0 w own loc ob) (hnew : ∀ b id, own b = some id → n0 ≤ b) {nid : Nat} (hnid : loc nid = none) (vs : List V) (xs : List Value) (h : RVs w (okf own n0 w.heap.size) loc vs xs) : ResL Bk.B w n0 (outL ob vs) xs := by
  have hobn : ob nid = none := by
    cases ho : ob nid with
    | none => rfl
    | some X => obtain ⟨p, h1, _⟩ := hwf.has nid X ho; rw [hnid] at h1; cases h1
  obtain ⟨hl, hr⟩ := h
  cases vs with
  | nil => 
    have : xs = [] := List.length_eq_zero_iff.1 (by simpa using hl)
    subst this
    exact ⟨none, rfl, fun i r x hr => by simp [outL] at hr, fun i j r s hr => by simp [outL] at hr⟩
  | cons v l =>
  cases xs with
  | nil => simp at hl
  | cons x xs =>
  have hx := hr 0 v x rfl rfl
  have htl : RVs w (okf own n0 w.heap.size) loc l xs := ⟨by simpa using hl, fun i a b ha hb => hr (i + 1) a b (by simpa using ha) (by simpa using hb)⟩
  have rest := plain_res (bo := none) hwf hnew hobn (fun b e => by cases e) htl
  have hlen : xs.length = (l.map (gV ob 6)).length := by simpa using htl.1
  have gen : ResL Bk.B w n0 (gV ob 6 v :: l.map (gV ob 6)) (x :: xs) := consRes hlen (res1_g (gV_noB _ _ _) ((g_rv hwf hnew hobn 6 v x hx).weak fun f b hb => ⟨hb.1, by simp, hb.2.2⟩)) rest
  cases v with
  | z =>
    obtain ⟨a, rfl⟩ := hx.z_inv
    exact consRes hlen (.inl ⟨rfl, a, rfl⟩) rest
  | sl id off len =>
    simp only [outL]
    split
    · rename_i rows hrows
      obtain ⟨p, cap, h1, h2, h3, h4, h5, h6⟩ := sl_rows hwf hrows hx
      split
      · rename_i h0
        have : rows = [] := List.eq_nil_of_length_eq_zero h0
        subst this
        have e : len = 0 := by simpa using h3.symm
        subst e
        refine consRes hlen (res1_g (.im .b [] rfl (fun i j v h => by simp [el] at h)) ?_) rest
        rw [h2]; exact .e .b _ _ (fun h => by cases h)
      · rename_i h0
        obtain ⟨X, hX, _⟩ := Option.bind_eq_some_iff.1 hrows
        obtain ⟨p', hp', hor, hcp, hxe⟩ := sl_at hwf hX hx
        rw [h1] at hp'; injection hp' with hp'; injection hp' with hp'; subst hp'
        have hb := hwf.owns id p h1
        obtain ⟨hk1, hk2⟩ := kill_ob hwf (id := id) (by rw [h1]; simp)
        have hkn : (fun j => if j = id then none else ob j) id = (none : Option Ob) := by simp
        have htl' := htl.stp hk2
        have rest' := plain_res (bo := some p.b) hk1 hnew hkn (fun b e => by injection e with e; subst e; exact hb.1) htl'
        refine consRes (by simpa using htl.1) (.inr ⟨fun e => h0 (by simpa using congrArg List.length e), p.b, p.base + off * p.k, p.k, p.cap - off, rfl, ?_, hnew _ _ hb.1, hb.2, ?_, fun ch hch => ?_, ?_, fun i j v hv => ?_⟩) rest'
        · rw [hxe]; simp [h3]
        · simp [h3]; omega
        · obtain ⟨r, h7, rfl⟩ := List.mem_map.1 hch; simpa using h5 r h7
        · obtain ⟨cs, el, h7, h8⟩ := hor.mem
          refine ⟨cs, el, h7, ?_⟩
          have : off * p.k + (p.cap - off) * p.k = p.cap * p.k := by rw [← Nat.add_mul]; congr 1; omega
          omega
        · obtain ⟨q, h7, rfl⟩ := el_map hv
          obtain ⟨y, h8, h9⟩ := h6 i j q h7
          refine ⟨y, h8, gV_noB _ _ _, (g_rv hk1 hnew hkn 6 q y (h9.stp hk2)).weak fun f b hbb => ⟨hbb.1, fun e => hbb.2.1 ?_, hbb.2.2⟩⟩
          injection e with e; subst e; exact hb.1
    · exact consRes hlen (res1_g .u (.u _)) rest
  | _ => exact gen
def packR : List Value → Value
  | [v] => v
  | l => .tuple l.toArray
theorem cell_run (hwf : WF n0 w own loc ob) {t : TypeId} {sz : Option Nat} (ht : tySz P t = some sz) {v r : V} {x : Value} (h : ldV ob sz v = some r) (hx : RV w (okf own n0 w.heap.size) loc v x) :
    ∃ y, (do loadVar t (← asAddr x) : Sem Value).run P w = .ok y w ∧ RV w (okf own n0 w.heap.size) loc r y := by
  obtain ⟨y, h1, h2⟩ := ld_does hwf ht h hx
  have hp : ∃ a, x = .pointer (some a) := by
    cases v <;> simp only [ldV] at h <;> first | (cases h; done) | skip
    · obtain ⟨X, hX, _⟩ := Option.bind_eq_some_iff.1 h
      obtain ⟨p, hp, _⟩ := hwf.has _ X hX
      cases hx with
      | pt id i o a hl hm h => exact ⟨_, by rw [h p hp]⟩
    · cases hx with
      | bp l b off ys ho h0 h => exact ⟨_, rfl⟩
  obtain ⟨a, rfl⟩ := hp
  refine ⟨y, ?_, h2⟩
  rw [← h1]
  simp [Instr.loadAt, Instr.sureAddr, asAddr]
theorem results_run (hwf : WF n0 w own loc ob) {fn : Func} {rs : List Rs} (h : resTmps P fn.results.toList = some rs) {env : Env} {tmps : Array Value} (hv : ∀ t, RV w (okf own n0 w.heap.size) loc (env t) (tmps.getD t undef)) {vs : List V} (hr : rdL env ob rs = some vs) :
    ∃ xs, (results fn tmps).run P w = .ok (packR xs) w ∧ RVs w (okf own n0 w.heap.size) loc vs xs := by
  have key : ∀ (g : ResultVar → Sem Value), (∀ t, g (.tmp t) = pure (tmps.getD t undef)) → (∀ a t, g (.cell a t) = (do loadVar t (← asAddr (tmps.getD a undef)))) → ∀ (l : List ResultVar) (rs : List Rs) (vs : List V), resTmps P l = some rs → rdL env ob rs = some vs →
      ∃ xs, (l.mapM g : Sem (List Value)).run P w = .ok xs w ∧ RVs w (okf own n0 w.heap.size) loc vs xs := by
    intro g g1 g2 l
    induction l with
    | nil =>
      intro rs vs h hr
      simp only [resTmps] at h; injection h with h; subst h
      simp only [rdL] at hr; injection hr with hr; subst hr
      exact ⟨[], by simp, rfl, fun i v x h => by simp at h⟩
    | cons a l ih =>
      intro rs vs h hr
      have cons : ∀ (v : V) (x : Value) (rs' : List Rs) (vs' : List V), (g a).run P w = .ok x w → RV w (okf own n0 w.heap.size) loc v x → resTmps P l = some rs' → rdL env ob rs' = some vs' → vs = v :: vs' → ∃ xs, ((a :: l).mapM g : Sem (List Value)).run P w = .ok xs w ∧ RVs w (okf own n0 w.heap.size) loc vs xs := by
        rintro v x rs' vs' hx hvx h1 h2 rfl
        obtain ⟨xs, h3, h4, h5⟩ := ih rs' vs' h1 h2
        refine ⟨x :: xs, by simp [hx, h3], by simp [h4], fun i v' x' hi hx' => ?_⟩
        cases i with
        | zero => simp at hi hx'; subst hi; subst hx'; exact hvx
        | succ i => exact h5 i v' x' (by simpa using hi) (by simpa using hx')
      cases a with
      | tmp t =>
        simp only [resTmps] at h
        obtain ⟨rs', h1, rfl⟩ := Option.map_eq_some_iff.1 h
        simp only [rdL] at hr
        obtain ⟨vs', h2, rfl⟩ := Option.map_eq_some_iff.1 hr
        exact cons _ (tmps.getD t undef) rs' vs' (by rw [g1]; simp) (hv t) h1 h2 rfl
      | cell a t =>
        simp only [resTmps] at h
        obtain ⟨sz, hsz, h⟩ := Option.bind_eq_some_iff.1 h
        obtain ⟨rs', h1, rfl⟩ := Option.map_eq_some_iff.1 h
        simp only [rdL] at hr
        obtain ⟨v, hld, hr⟩ := Option.bind_eq_some_iff.1 hr
        obtain ⟨vs', h2, rfl⟩ := Option.map_eq_some_iff.1 hr
        obtain ⟨y, h3, h4⟩ := cell_run hwf hsz hld (hv a)
        exact cons v y rs' vs' (by rw [g2]; exact h3) h4 h1 h2 rfl
  unfold results
  simp only [Sem.run_bind]
  have e : fn.results = fn.results.toList.toArray := by simp
  obtain ⟨xs, h1, h2⟩ := key (fun | .tmp t => pure (tmps.getD t undef) | .cell a t => do loadVar t (← asAddr (tmps.getD a undef))) (fun t => rfl) (fun a t => rfl) _ _ _ h hr
  refine ⟨xs, ?_, h2⟩
  rw [e, List.mapM_toArray]
  simp only [Sem.run_map]
  change ((Sem.run P (List.mapM (fun | .tmp t => pure (tmps.getD t undef) | .cell a t => do loadVar t (← asAddr (tmps.getD a undef))) fn.results.toList) w).andThen _).andThen _ = _
  rw [h1]
  simp only [Result.andThen_ok, Sem.run_pure]
  generalize xs = l
  match l with
  | [] => rfl
  | [v] => rfl
  | a :: b :: l => simp [packR]
omit [Bk] in
theorem fnB_intro {f : FuncId} {h : IC} {fi : FI} (hc : compF P f h = some fi) {args : List V} (hn : args.length ≤ fi.nt) {r : V}
    (hw : wpC P fi.c (finQ fi.rs r) (env0 args) noOb 0) : FnB P f args r := by
  unfold compF at hc
  split at hc
  case h_2 => cases hc
  rename_i fn hfn
  obtain ⟨c, hbody, hc⟩ := Option.bind_eq_some_iff.1 hc
  obtain ⟨i, hi, hc⟩ := Option.bind_eq_some_iff.1 hc
  obtain ⟨rs, hrs, hc⟩ := Option.bind_eq_some_iff.1 hc
  split at hc
  case isFalse => cases hc
  rename_i hcond
  simp only [Bool.and_eq_true] at hcond
  injection hc with hc; subst hc
  simp only at hw hn
  refine ⟨by simp [callable, hfn, hbody]; simpa using hcond.1, fun B w xs hxs => ?_⟩
  have hsz : xs.length = args.length := hxs.1
  refine calls_of_wp hfn hbody (wp_mono (wpC_sound (nt := fn.ntmps) (n0 := w.heap.size) (w0 := w) (own0 := fun _ => none) (loc0 := fun _ => none) c h i hi _ _ w ⟨env0 args, fun _ => none, 0, fun _ => none, fun _ => none, ?_, fun _ _ => rfl, hw⟩) fun e a w' hq => ?_)
  · refine ⟨rfl, by simp [hsz]; omega, ⟨fun id o h => (by cases h), fun id p h => (by cases h), fun b id h => (by cases h)⟩, fun t => ?_, .refl _ _ _, Nat.le_refl _, fun b id h => (by cases h)⟩
    unfold env0
    by_cases ht : t < args.length
    · rw [List.getD_eq_getElem?_getD, List.getElem?_eq_getElem ht]
      have hx : t < xs.length := by omega
      have : (xs.toArray ++ Array.replicate (fn.ntmps - xs.toArray.size) undef).getD t undef = xs[t] := by
        rw [Array.getD_eq_getD_getElem?, Array.getElem?_append_left (by simpa using hx)]
        simp [hx]
      rw [this]
      exact hxs.2 t _ _ (List.getElem?_eq_getElem ht) (List.getElem?_eq_getElem hx)
    · rw [List.getD_eq_getElem?_getD, List.getElem?_eq_none (by omega)]
      exact .u _
  · have fin : Stands fn.ntmps w.heap.size w (fun _ => none) (fun _ => none) (fun env ob n => finV r ob (rdL env ob rs)) a w' →
        a.defers = [] ∧ ∃ v, (results fn a.tmps).run P w' = .ok v w' ∧ ∃ x, Ending.returned v = .returned x ∧ ResV B.B w' w.heap.size r x ∧ Below w.heap.size w w' := by
      rintro ⟨env, ob, n, own, loc, hsr, hf, hr⟩
      unfold finV at hr
      split at hr
      case h_2 => exact hr.elim
      rename_i vs hrd
      obtain ⟨xs, hrun, hvs⟩ := results_run hsr.wf hrs hsr.vals hrd
      refine ⟨hsr.defers, _, hrun, _, rfl, ?_, ⟨hsr.stp.os, hsr.stp.tape, hsr.stp.output, hsr.stp.size, fun b hb => (hsr.stp.block b hb rfl).2⟩⟩
      have hres := out_res hsr.wf (fun b id hb => hsr.new b id hb rfl) (hf n (Nat.le_refl _)) _ _ hvs
      rw [← hr]
      clear hrun hvs
      generalize outL ob vs = l at hres
      have hlen := hres.choose_spec.1
      match l, xs, hlen with
      | [], [], _ => exact ⟨[], rfl, hres⟩
      | [v], [x], _ =>
        cases v <;> first | exact hres | exact ⟨none, rfl, fun i r x hr hx => (by
          cases i with
          | zero => simp at hr; subst hr; exact res1_g .u (.u _)
          | succ i => simp at hr), fun i j r s hr hs hor => (by
          cases i with
          | zero => simp at hr; subst hr; cases hor
          | succ i => simp at hr)⟩
      | a :: b :: l, x :: y :: xs, _ =>
        have e : retV (a :: b :: l) = .tp (a :: b :: l) := by cases a <;> rfl
        rw [e]; exact ⟨_, rfl, hres⟩
    cases e with
    | normal => exact fin hq
    | ret => exact fin hq
    | exit id => obtain ⟨_, _, _, _, _, _, _, h⟩ := hq; exact h
    | _ => exact hq.elim
omit [Bk] in
theorem packR_rv {ok : Fl → Nat → Prop} {vs : List V} {xs : List Value} (h : RVs w ok loc vs xs) : RV w ok loc (packV vs) (packR xs) := by
  obtain ⟨h1, h2⟩ := h
  match vs, xs, h1 with
  | [], [], _ => exact .tp [] [] rfl fun i v x h => by simp at h
  | [v], [x], _ => exact h2 0 v x rfl rfl
  | a :: b :: l, x :: y :: m, h1 => exact .tp _ _ h1 h2
omit [Bk] in
theorem fnS_intro {f : FuncId} {h : IC} {fi : FI} (hc : compF P f h = some fi) {args : List V} (hn : args.length ≤ fi.nt) {ob : OB} {nid : Nat} {C : V → OB → Nat → Prop}
    (hw : wpC P fi.c (finS fi.rs C) (env0 args) ob nid) : FnS P f args ob nid C := by
  unfold compF at hc
  split at hc
  case h_2 => cases hc
  rename_i fn hfn
  obtain ⟨c, hbody, hc⟩ := Option.bind_eq_some_iff.1 hc
  obtain ⟨i, hi, hc⟩ := Option.bind_eq_some_iff.1 hc
  obtain ⟨rs, hrs, hc⟩ := Option.bind_eq_some_iff.1 hc
  split at hc
  case isFalse => cases hc
  rename_i hcond
  simp only [Bool.and_eq_true] at hcond
  injection hc with hc; subst hc
  simp only at hw hn
  refine ⟨by simp [callable, hfn, hbody]; simpa using hcond.1, fun B n0 w own loc xs hwf hle hfr hxs => ?_⟩
  have hsz : xs.length = args.length := hxs.1
  refine calls_of_wp hfn hbody (wp_mono (wpC_sound (nt := fn.ntmps) (n0 := n0) (w0 := w) (own0 := own) (loc0 := loc) c h i hi _ _ w ⟨env0 args, ob, nid, own, loc, ?_, hfr, hw⟩) fun e a w' hq => ?_)
  · refine ⟨rfl, by simp [hsz]; omega, hwf, fun t => ?_, .refl _ _ _, hle, fun b id h h' => by rw [h] at h'; cases h'⟩
    unfold env0
    by_cases ht : t < args.length
    · rw [List.getD_eq_getElem?_getD, List.getElem?_eq_getElem ht]
      have hx : t < xs.length := by omega
      have : (xs.toArray ++ Array.replicate (fn.ntmps - xs.toArray.size) undef).getD t undef = xs[t] := by
        rw [Array.getD_eq_getD_getElem?, Array.getElem?_append_left (by simpa using hx)]
        simp [hx]
      rw [this]
      exact hxs.2 t _ _ (List.getElem?_eq_getElem ht) (List.getElem?_eq_getElem hx)
    · rw [List.getD_eq_getElem?_getD, List.getElem?_eq_none (by omega)]
      exact .u _
  · have fin : Stands fn.ntmps n0 w own loc (fun env ob n => finW C ob n (rdL env ob rs)) a w' →
        a.defers = [] ∧ ∃ v, (results fn a.tmps).run P w' = .ok v w' ∧ ∃ x r ob' nid' own' loc', Ending.returned v = .returned x ∧ RV w' (okf own' n0 w'.heap.size) loc' r x ∧ WF n0 w' own' loc' ob' ∧ Stp w own loc w' own' loc' ∧ (∀ id, nid' ≤ id → loc' id = none) ∧ C r ob' nid' := by
      rintro ⟨env, ob', n, own', loc', hsr, hf, hr⟩
      unfold finW at hr
      split at hr
      case h_2 => exact hr.elim
      rename_i vs hrd
      obtain ⟨xs, hrun, hvs⟩ := results_run hsr.wf hrs hsr.vals hrd
      exact ⟨hsr.defers, _, hrun, _, _, ob', n, own', loc', rfl, packR_rv hvs, hsr.wf, hsr.stp, hf, hr⟩
    cases e with
    | normal => exact fin hq
    | ret => exact fin hq
    | exit id => obtain ⟨_, _, _, _, _, _, _, h⟩ := hq; exact h
    | _ => exact hq.elim
end
end Go.Proofs.YtbojpedklnmidaaGreat.D
end
