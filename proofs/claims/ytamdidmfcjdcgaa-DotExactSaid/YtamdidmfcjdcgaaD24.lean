/- Walking over plain values, step by step. No condition. -/
import Derived.Test.YtamdidmfcjdcgaaD23
set_option linter.unusedVariables false
set_option linter.unusedSimpArgs false
set_option linter.constructorNameAsVariable false
namespace Go.Proofs.Ytamdidmfcjdcgaa.D
open Go Go.RowKit

/-- Behind an operation, in a region of one order, of any order. -/
def nxS (P : Program) (d : Option Nat) (l : List RO) (nid : Nat) (env : Env) (ob : OB) (J : Env → OB → Nat → Prop) (x : Option (V × Ups)) : Prop :=
  match x with
  | some (r, us) => wpS P l (nid + 1) (put env d r) (apps ob us) J
  | none => False
def nxD (P : Program) (loud : Bool) (d : Option Nat) (l : List RO) (nid : Nat) (env : Env) (ob : OB) (dl : Ups) (K : Env → OB → Prop) (x : Option (V × Ups)) : Prop :=
  match x with
  | some (r, us) => wpD P l (nid + 1) (put env d r) (cond loud (apps ob us) ob) (cond loud dl (dl ++ us)) K
  | none => False

def exS (P : Program) (o : RO) (l : List RO) (nid : Nat) (env : Env) (ob : OB) (J : Env → OB → Nat → Prop) : Prop :=
  stpR P o.op (o.xs.map (ev env)) ob nid fun r ob' n' => wpS P l n' (put env o.d r) ob' J
def exD (P : Program) (o : RO) (l : List RO) (nid : Nat) (env : Env) (ob : OB) (dl : Ups) (K : Env → OB → Prop) : Prop :=
  ∃ r us, OpR P o.op (o.xs.map (ev env)) ob nid r us ∧ wpD P l (nid + 1) (put env o.d r) (if isLoud o.op then apps ob us else ob) (if isLoud o.op then dl else dl ++ us) K

/-- A guard. -/
def gS (v : V) (want : Bool) (P : Program) (o : RO) (l : List RO) (nid : Nat) (env : Env) (ob : OB) (J : Env → OB → Nat → Prop) : Prop :=
  ∃ b, v = sk b ∧ (b = some want → exS P o l nid env ob J) ∧ (¬ b = some want → wpS P l (nid + 1) (put env o.d (.c undef)) ob J)
def gD (v : V) (want : Bool) (P : Program) (o : RO) (l : List RO) (nid : Nat) (env : Env) (ob : OB) (dl : Ups) (K : Env → OB → Prop) : Prop :=
  ∃ b, v = sk b ∧ (b = some want → exD P o l nid env ob dl K) ∧ (¬ b = some want → wpD P l (nid + 1) (put env o.d (.c undef)) ob dl K)
theorem sk_b {b : Bool} {w : Bool} {A B : Prop} : (∃ b', V.c (.bool b) = sk b' ∧ (b' = some w → A) ∧ (¬ b' = some w → B)) = ((b = w → A) ∧ (¬ b = w → B)) := by
  apply propext; constructor
  · rintro ⟨b', h1, h2, h3⟩
    cases b' with
    | none => simp [sk, undef] at h1
    | some b' => simp [sk] at h1; subst h1; exact ⟨fun e => h2 (by rw [e]), fun e => h3 (by simpa using e)⟩
  · rintro ⟨h2, h3⟩; exact ⟨some b, rfl, fun e => h2 (by simpa using e), fun e => h3 (by simpa using e)⟩
theorem sk_u {w : Bool} {A B : Prop} : (∃ b', V.c undef = sk b' ∧ (b' = some w → A) ∧ (¬ b' = some w → B)) = B := by
  apply propext; constructor
  · rintro ⟨b', h1, h2, h3⟩
    cases b' with
    | none => exact h3 (by simp)
    | some b' => simp [sk, undef] at h1
  · intro h; exact ⟨none, rfl, fun e => (by cases e), fun _ => h⟩

/-- A call: what is to be told is what it answers. -/
def caS (P : Program) (f : Nat) (vs : List V) (m : Md) (d : Option Nat) (l : List RO) (nid : Nat) (env : Env) (ob : OB) (J : Env → OB → Nat → Prop) : Prop :=
  ∃ q, FnB P f vs q ∧ impOk m q ∧ nxS P d l nid env ob J (some (imp m nid q))
def caD (P : Program) (f : Nat) (vs : List V) (m : Md) (d : Option Nat) (l : List RO) (nid : Nat) (env : Env) (ob : OB) (dl : Ups) (K : Env → OB → Prop) : Prop :=
  ∃ q, FnB P f vs q ∧ impOk m q ∧ nxD P false d l nid env ob dl K (some (imp m nid q))
def cvS (P : Program) (v : V) (as_ : List V) (m : Md) (d : Option Nat) (l : List RO) (nid : Nat) (env : Env) (ob : OB) (J : Env → OB → Nat → Prop) : Prop :=
  match v with
  | .fn f caps => caS P f ((as_ ++ caps).map (resV ob 6)) m d l nid env ob J
  | _ => False
def cvD (P : Program) (v : V) (as_ : List V) (m : Md) (d : Option Nat) (l : List RO) (nid : Nat) (env : Env) (ob : OB) (dl : Ups) (K : Env → OB → Prop) : Prop :=
  match v with
  | .fn f caps => caD P f ((as_ ++ caps).map (resV ob 6)) m d l nid env ob dl K
  | _ => False

/-- A call that shares the store. -/
def rcS (P : Program) (f : Nat) (vs : List V) (d : Option Nat) (l : List RO) (nid : Nat) (env : Env) (ob : OB) (J : Env → OB → Nat → Prop) : Prop :=
  FnS P f vs ob nid fun r ob' n' => wpS P l n' (put env d r) ob' J
def gR (P : Program) (w b : Bool) (f : Nat) (vs : List V) (d : Option Nat) (l : List RO) (nid : Nat) (env : Env) (ob : OB) (J : Env → OB → Nat → Prop) : Prop :=
  (b = w → rcS P f vs d l nid env ob J) ∧ (b = !w → wpS P l (nid + 1) (put env d (.c undef)) ob J)

/-- Behind a guard that is not known: the operation's answer, or nothing. -/
def gM (P : Program) (w b : Bool) (d : Option Nat) (l : List RO) (nid : Nat) (env : Env) (ob : OB) (J : Env → OB → Nat → Prop) (x : Option (V × Ups)) : Prop :=
  (b = w → nxS P d l nid env ob J x) ∧ (b = !w → wpS P l (nid + 1) (put env d (.c undef)) ob J)
def gN_ (P : Program) (w b loud : Bool) (d : Option Nat) (l : List RO) (nid : Nat) (env : Env) (ob : OB) (dl : Ups) (K : Env → OB → Prop) (x : Option (V × Ups)) : Prop :=
  (b = w → nxD P loud d l nid env ob dl K x) ∧ (b = !w → wpD P l (nid + 1) (put env d (.c undef)) ob dl K)
def gC (P : Program) (w b : Bool) (f : Nat) (vs : List V) (m : Md) (d : Option Nat) (l : List RO) (nid : Nat) (env : Env) (ob : OB) (J : Env → OB → Nat → Prop) : Prop :=
  (b = w → caS P f vs m d l nid env ob J) ∧ (b = !w → wpS P l (nid + 1) (put env d (.c undef)) ob J)
def gCD (P : Program) (w b : Bool) (f : Nat) (vs : List V) (m : Md) (d : Option Nat) (l : List RO) (nid : Nat) (env : Env) (ob : OB) (dl : Ups) (K : Env → OB → Prop) : Prop :=
  (b = w → caD P f vs m d l nid env ob dl K) ∧ (b = !w → wpD P l (nid + 1) (put env d (.c undef)) ob dl K)
def gW (P : Program) (w b : Bool) (v : V) (as_ : List V) (m : Md) (d : Option Nat) (l : List RO) (nid : Nat) (env : Env) (ob : OB) (J : Env → OB → Nat → Prop) : Prop :=
  (b = w → cvS P v as_ m d l nid env ob J) ∧ (b = !w → wpS P l (nid + 1) (put env d (.c undef)) ob J)
def gWD (P : Program) (w b : Bool) (v : V) (as_ : List V) (m : Md) (d : Option Nat) (l : List RO) (nid : Nat) (env : Env) (ob : OB) (dl : Ups) (K : Env → OB → Prop) : Prop :=
  (b = w → cvD P v as_ m d l nid env ob dl K) ∧ (b = !w → wpD P l (nid + 1) (put env d (.c undef)) ob dl K)

section
variable {P : Program} {Q : Post} {env : Env} {ob : OB} {n nid : Nat} {K : Env → OB → Prop} {J : Env → OB → Nat → Prop} {l : List RO} {dl : Ups} {d : Option Nat} {op : Ok} {xs : List Od} {m : Md}

theorem wpS_congr {l : List RO} : wpS P l nid env ob J = wpS P l nid env ob J := (rfl)
theorem wpD_congr {l : List RO} : wpD P l nid env ob dl K = wpD P l nid env ob dl K := (rfl)
theorem wpC_congr {c : IC} : wpC P c Q env ob nid = wpC P c Q env ob nid := (rfl)
theorem exS_congr {o : RO} : exS P o l nid env ob J = exS P o l nid env ob J := (rfl)
theorem exD_congr {o : RO} : exD P o l nid env ob dl K = exD P o l nid env ob dl K := (rfl)
theorem gS_congr {o : RO} {w : Bool} {v v' : V} (h : v = v') : gS v w P o l nid env ob J = gS v' w P o l nid env ob J := by rw [h]
theorem gD_congr {o : RO} {w : Bool} {v v' : V} (h : v = v') : gD v w P o l nid env ob dl K = gD v' w P o l nid env ob dl K := by rw [h]
theorem nxS_congr {x x' : Option (V × Ups)} (h : x = x') : nxS P d l nid env ob J x = nxS P d l nid env ob J x' := by rw [h]
theorem nxD_congr {b b' : Bool} {x x' : Option (V × Ups)} (hb : b = b') (h : x = x') : nxD P b d l nid env ob dl K x = nxD P b' d l nid env ob dl K x' := by rw [h, hb]
theorem caS_congr {f : Nat} {vs vs' : List V} (h : vs = vs') : caS P f vs m d l nid env ob J = caS P f vs' m d l nid env ob J := by rw [h]
theorem caD_congr {f : Nat} {vs vs' : List V} (h : vs = vs') : caD P f vs m d l nid env ob dl K = caD P f vs' m d l nid env ob dl K := by rw [h]
theorem cvS_congr {v v' : V} {as_ as' : List V} (h : v = v') (ha : as_ = as') : cvS P v as_ m d l nid env ob J = cvS P v' as' m d l nid env ob J := by rw [h, ha]
theorem cvD_congr {v v' : V} {as_ as' : List V} (h : v = v') (ha : as_ = as') : cvD P v as_ m d l nid env ob dl K = cvD P v' as' m d l nid env ob dl K := by rw [h, ha]
theorem kS_congr : kS Q env ob n = kS Q env ob n := (rfl)
theorem rcS_congr {f : Nat} {vs vs' : List V} (h : vs = vs') : rcS P f vs d l nid env ob J = rcS P f vs' d l nid env ob J := by rw [h]
theorem gR_congr {w b : Bool} {f : Nat} {vs vs' : List V} (h : b = w → vs = vs') : gR P w b f vs d l nid env ob J = gR P w b f vs' d l nid env ob J := by cases w <;> cases b <;> simp [gR] at h ⊢ <;> rw [h]
theorem kN_congr {k : Nat} : kN Q k env ob = kN Q k env ob := (rfl)
attribute [congr] kS_congr rcS_congr gR_congr wpS_congr wpD_congr wpC_congr exS_congr exD_congr gS_congr gD_congr nxS_congr nxD_congr caS_congr caD_congr cvS_congr cvD_congr kN_congr
theorem wpC_skip : wpC P .skip Q env ob n = Q .nrm env ob n := (rfl)
theorem wpC_rg : wpC P (.rg l false) Q env ob n = wpS P l n env ob (kS Q) := (rfl)
theorem wpC_rgD : wpC P (.rg l true) Q env ob n = wpD P l n env ob [] (kN Q (n + l.length)) := (rfl)
theorem wpC_sq {a b : IC} : wpC P (.sq a b) Q env ob n = wpC P a (thenQ (wpC P b Q) Q) env ob n := (rfl)
theorem wpC_bl {i : Nat} {a : IC} : wpC P (.bl i a) Q env ob n = wpC P a (blQ i Q) env ob n := (rfl)
theorem wpC_ex {i : Nat} : wpC P (.ex i) Q env ob n = Q (.ex i) env ob n := (rfl)
theorem wpC_rt : wpC P .rt Q env ob n = Q .rt env ob n := (rfl)
/-- A condition, with what it chooses held back. -/
def cnC (P : Program) (v : V) (a b : IC) (Q : Post) (env : Env) (ob : OB) (n : Nat) : Prop := cnd v (wpC P a Q env ob n) (wpC P b Q env ob n)
theorem wpC_cn {c : Od} {a b : IC} : wpC P (.cn c a b) Q env ob n = cnC P (ev env c) a b Q env ob n := (rfl)
theorem cnC_congr {v v' : V} {a b : IC} (h : v = v') : cnC P v a b Q env ob n = cnC P v' a b Q env ob n := by rw [h]
attribute [congr] cnC_congr
theorem cnC_b {t : Bool} {a b : IC} : cnC P (.c (.bool t)) a b Q env ob n = ((t = true → wpC P a Q env ob n) ∧ (t = false → wpC P b Q env ob n)) := (rfl)
theorem cnC_t {a b : IC} : cnC P (.c (.bool true)) a b Q env ob n = wpC P a Q env ob n := by simp [cnC, cnd]
theorem cnC_f {a b : IC} : cnC P (.c (.bool false)) a b Q env ob n = wpC P b Q env ob n := by simp [cnC, cnd]
theorem cnC_q {a b : IC} : cnC P .q a b Q env ob n = (wpC P a Q env ob n ∧ wpC P b Q env ob n) := (rfl)
theorem thenQ_n {f : Env → OB → Nat → Prop} : thenQ f Q .nrm env ob n = f env ob n := (rfl)
theorem thenQ_r {f : Env → OB → Nat → Prop} : thenQ f Q .rt env ob n = Q .rt env ob n := (rfl)
theorem thenQ_e {f : Env → OB → Nat → Prop} {i : Nat} : thenQ f Q (.ex i) env ob n = Q (.ex i) env ob n := (rfl)
theorem blQ_n {i : Nat} : blQ i Q .nrm env ob n = Q .nrm env ob n := (rfl)
theorem blQ_r {i : Nat} : blQ i Q .rt env ob n = Q .rt env ob n := (rfl)
theorem blQ_s {i : Nat} : blQ i Q (.ex i) env ob n = Q .nrm env ob n := by simp [blQ]
theorem blQ_o {i j : Nat} (h : (j == i) = false) : blQ i Q (.ex j) env ob n = Q (.ex j) env ob n := by simp at h; simp [blQ, h]
theorem lpQ_n {I : Env → OB → Nat → Prop} {μ : Env → OB → Nat → Nat} {k : Nat} : lpQ I μ k Q .nrm env ob n = (I env ob n ∧ μ env ob n < k) := (rfl)
theorem lpQ_r {I : Env → OB → Nat → Prop} {μ : Env → OB → Nat → Nat} {k : Nat} : lpQ I μ k Q .rt env ob n = Q .rt env ob n := (rfl)
theorem lpQ_e {I : Env → OB → Nat → Prop} {μ : Env → OB → Nat → Nat} {k i : Nat} : lpQ I μ k Q (.ex i) env ob n = Q (.ex i) env ob n := (rfl)
theorem kS_eq : kS Q env ob n = Q .nrm env ob n := (rfl)
theorem kN_eq {k : Nat} : kN Q k env ob = Q .nrm env ob k := (rfl)
theorem finS_n {rs : List Nat} {C : V → OB → Nat → Prop} : finS rs C .nrm env ob n = C (packV (rs.map env)) ob n := (rfl)
theorem finS_r {rs : List Nat} {C : V → OB → Nat → Prop} : finS rs C .rt env ob n = C (packV (rs.map env)) ob n := (rfl)
theorem packV_0 : packV [] = .tp [] := (rfl)
theorem packV_1 {v : V} : packV [v] = v := (rfl)
theorem packV_2 {a b : V} {l : List V} : packV (a :: b :: l) = .tp (a :: b :: l) := (rfl)
theorem finQ_n {rs : List Nat} {r : V} : finQ rs r .nrm env ob n = (retV (outL ob (rs.map env)) = r) := (rfl)
theorem finQ_r {rs : List Nat} {r : V} : finQ rs r .rt env ob n = (retV (outL ob (rs.map env)) = r) := (rfl)

theorem wpS_nil : wpS P [] nid env ob J = J env ob nid := (rfl)
theorem wpS_n : wpS P (⟨d, none, op, xs⟩ :: l) nid env ob J = exS P ⟨d, none, op, xs⟩ l nid env ob J := (rfl)
theorem wpS_g {t : Nat} {w : Bool} : wpS P (⟨d, some (t, w), op, xs⟩ :: l) nid env ob J = gS (env t) w P ⟨d, none, op, xs⟩ l nid env ob J := (rfl)
theorem gS_bt {b : Bool} {o : RO} : gS (.c (.bool b)) true P o l nid env ob J = ((b = true → exS P o l nid env ob J) ∧ (b = false → wpS P l (nid + 1) (put env o.d (.c undef)) ob J)) := by rw [gS, sk_b]; cases b <;> simp
theorem gS_bf {b : Bool} {o : RO} : gS (.c (.bool b)) false P o l nid env ob J = ((b = false → exS P o l nid env ob J) ∧ (b = true → wpS P l (nid + 1) (put env o.d (.c undef)) ob J)) := by rw [gS, sk_b]; cases b <;> simp
theorem gS_tt {o : RO} : gS (.c (.bool true)) true P o l nid env ob J = exS P o l nid env ob J := by rw [gS, sk_b]; simp
theorem gS_ff {o : RO} : gS (.c (.bool false)) false P o l nid env ob J = exS P o l nid env ob J := by rw [gS, sk_b]; simp
theorem gS_tf {o : RO} : gS (.c (.bool true)) false P o l nid env ob J = wpS P l (nid + 1) (put env o.d (.c undef)) ob J := by rw [gS, sk_b]; simp
theorem gS_ft {o : RO} : gS (.c (.bool false)) true P o l nid env ob J = wpS P l (nid + 1) (put env o.d (.c undef)) ob J := by rw [gS, sk_b]; simp
theorem exS_o (h : isCall op = false) {g : Option (Nat × Bool)} : exS P ⟨d, g, op, xs⟩ l nid env ob J = nxS P d l nid env ob J (opF op (xs.map (ev env)) ob nid) := by
  have e : exS P ⟨d, g, op, xs⟩ l nid env ob J = ∃ r us, opF op (xs.map (ev env)) ob nid = some (r, us) ∧ wpS P l (nid + 1) (put env d r) (apps ob us) J := by
    cases op <;> first | rfl | simp [isCall] at h
  rw [e]; simp only [nxS]
  cases opF op (xs.map (ev env)) ob nid with
  | none => simp
  | some x =>
    obtain ⟨r, us⟩ := x; simp
    exact ⟨fun ⟨_, _, ⟨h1, h2⟩, h⟩ => h1 ▸ h2 ▸ h, fun h => ⟨_, _, ⟨rfl, rfl⟩, h⟩⟩
theorem exS_c {f : Nat} {g : Option (Nat × Bool)} : exS P ⟨d, g, .call f m, xs⟩ l nid env ob J = caS P f ((xs.map (ev env)).map (resV ob 6)) m d l nid env ob J := by
  simp only [exS, stpR, OpR, caS, nxS]
  apply propext
  constructor
  · rintro ⟨r, us, ⟨q, h1, h2, rfl, rfl⟩, h⟩; exact ⟨q, h1, h2, h⟩
  · rintro ⟨q, h1, h2, h⟩; exact ⟨_, _, ⟨q, h1, h2, rfl, rfl⟩, h⟩
theorem exS_r {f : Nat} {g : Option (Nat × Bool)} : exS P ⟨d, g, .rcall f, xs⟩ l nid env ob J = rcS P f (xs.map (ev env)) d l nid env ob J := (rfl)
theorem exS_v {x : Od} {g : Option (Nat × Bool)} : exS P ⟨d, g, .callv m, x :: xs⟩ l nid env ob J = cvS P (ev env x) (xs.map (ev env)) m d l nid env ob J := by
  simp only [exS, stpR, OpR, cvS, caS, nxS]
  apply propext
  constructor
  · rintro ⟨r, us, ⟨f, caps, as_, q, h0, h1, h2, rfl, rfl⟩, h⟩
    simp only [List.map_cons, List.cons.injEq] at h0
    rw [h0.1, h0.2]; exact ⟨q, h1, h2, h⟩
  · intro h
    split at h
    · rename_i f caps heq
      obtain ⟨q, h1, h2, h⟩ := h
      exact ⟨_, _, ⟨f, caps, _, q, by simp [heq], h1, h2, rfl, rfl⟩, h⟩
    · exact h.elim
theorem cvS_f {f : Nat} {caps as_ : List V} : cvS P (.fn f caps) as_ m d l nid env ob J = caS P f ((as_ ++ caps).map (resV ob 6)) m d l nid env ob J := (rfl)
theorem nxS_s {r : V} {us : Ups} : nxS P d l nid env ob J (some (r, us)) = wpS P l (nid + 1) (put env d r) (apps ob us) J := (rfl)
theorem nxS_i {c : Prop} [Decidable c] {x : V × Ups} : nxS P d l nid env ob J (if c then some x else none) = (c ∧ nxS P d l nid env ob J (some x)) := by
  by_cases h : c
  · simp [h]
  · simp [h, nxS]
theorem nxS_m {α : Type} {f : α → V × Ups} {x : Option α} {a : α} (h : x = some a) : nxS P d l nid env ob J (x.map f) = nxS P d l nid env ob J (some (f a)) := by rw [h]; rfl

theorem wpD_nil : wpD P [] nid env ob dl K = K env (apps ob dl) := (rfl)
theorem wpD_n : wpD P (⟨d, none, op, xs⟩ :: l) nid env ob dl K = exD P ⟨d, none, op, xs⟩ l nid env ob dl K := (rfl)
theorem wpD_g {t : Nat} {w : Bool} : wpD P (⟨d, some (t, w), op, xs⟩ :: l) nid env ob dl K = gD (env t) w P ⟨d, none, op, xs⟩ l nid env ob dl K := (rfl)
theorem gD_bt {b : Bool} {o : RO} : gD (.c (.bool b)) true P o l nid env ob dl K = ((b = true → exD P o l nid env ob dl K) ∧ (b = false → wpD P l (nid + 1) (put env o.d (.c undef)) ob dl K)) := by rw [gD, sk_b]; cases b <;> simp
theorem gD_bf {b : Bool} {o : RO} : gD (.c (.bool b)) false P o l nid env ob dl K = ((b = false → exD P o l nid env ob dl K) ∧ (b = true → wpD P l (nid + 1) (put env o.d (.c undef)) ob dl K)) := by rw [gD, sk_b]; cases b <;> simp
theorem gD_tt {o : RO} : gD (.c (.bool true)) true P o l nid env ob dl K = exD P o l nid env ob dl K := by rw [gD, sk_b]; simp
theorem gD_ff {o : RO} : gD (.c (.bool false)) false P o l nid env ob dl K = exD P o l nid env ob dl K := by rw [gD, sk_b]; simp
theorem gD_tf {o : RO} : gD (.c (.bool true)) false P o l nid env ob dl K = wpD P l (nid + 1) (put env o.d (.c undef)) ob dl K := by rw [gD, sk_b]; simp
theorem gD_ft {o : RO} : gD (.c (.bool false)) true P o l nid env ob dl K = wpD P l (nid + 1) (put env o.d (.c undef)) ob dl K := by rw [gD, sk_b]; simp
theorem exD_o (h : isCall op = false) {g : Option (Nat × Bool)} : exD P ⟨d, g, op, xs⟩ l nid env ob dl K = nxD P (isLoud op) d l nid env ob dl K (opF op (xs.map (ev env)) ob nid) := by
  have e : ∀ r us, OpR P op (xs.map (ev env)) ob nid r us = (opF op (xs.map (ev env)) ob nid = some (r, us)) := fun r us => by
    cases op <;> first | rfl | simp [isCall] at h
  simp only [exD, e, nxD]
  cases opF op (xs.map (ev env)) ob nid with
  | none => simp
  | some x =>
    obtain ⟨r, us⟩ := x; cases isLoud op <;> simp <;> exact ⟨fun ⟨_, _, ⟨h1, h2⟩, h⟩ => h1 ▸ h2 ▸ h, fun h => ⟨_, _, ⟨rfl, rfl⟩, h⟩⟩
theorem exD_c {f : Nat} {g : Option (Nat × Bool)} : exD P ⟨d, g, .call f m, xs⟩ l nid env ob dl K = caD P f ((xs.map (ev env)).map (resV ob 6)) m d l nid env ob dl K := by
  simp only [exD, OpR, caD, nxD, isLoud]
  apply propext
  constructor
  · rintro ⟨r, us, ⟨q, h1, h2, rfl, rfl⟩, h⟩; exact ⟨q, h1, h2, h⟩
  · rintro ⟨q, h1, h2, h⟩; exact ⟨_, _, ⟨q, h1, h2, rfl, rfl⟩, h⟩
theorem exD_v {x : Od} {g : Option (Nat × Bool)} : exD P ⟨d, g, .callv m, x :: xs⟩ l nid env ob dl K = cvD P (ev env x) (xs.map (ev env)) m d l nid env ob dl K := by
  simp only [exD, OpR, cvD, caD, nxD, isLoud]
  apply propext
  constructor
  · rintro ⟨r, us, ⟨f, caps, as_, q, h0, h1, h2, rfl, rfl⟩, h⟩
    simp only [List.map_cons, List.cons.injEq] at h0
    rw [h0.1, h0.2]; exact ⟨q, h1, h2, h⟩
  · intro h
    split at h
    · rename_i f caps heq
      obtain ⟨q, h1, h2, h⟩ := h
      exact ⟨_, _, ⟨f, caps, _, q, by simp [heq], h1, h2, rfl, rfl⟩, h⟩
    · exact h.elim
theorem cvD_f {f : Nat} {caps as_ : List V} : cvD P (.fn f caps) as_ m d l nid env ob dl K = caD P f ((as_ ++ caps).map (resV ob 6)) m d l nid env ob dl K := (rfl)
theorem nxD_f {r : V} {us : Ups} : nxD P false d l nid env ob dl K (some (r, us)) = wpD P l (nid + 1) (put env d r) ob (dl ++ us) K := (rfl)
theorem nxD_t {r : V} {us : Ups} : nxD P true d l nid env ob dl K (some (r, us)) = wpD P l (nid + 1) (put env d r) (apps ob us) dl K := (rfl)
theorem nxD_i {c : Prop} [Decidable c] {x : V × Ups} {b : Bool} : nxD P b d l nid env ob dl K (if c then some x else none) = (c ∧ nxD P b d l nid env ob dl K (some x)) := by
  by_cases h : c
  · simp [h]
  · simp [h, nxD]

/-- A call's answer, put in. -/
theorem caS_i {f : Nat} {vs : List V} {q : V} (h : FnB P f vs q) (hm : impOk m q) (hn : nxS P d l nid env ob J (some (imp m nid q))) : caS P f vs m d l nid env ob J := ⟨q, h, hm, hn⟩
theorem caD_i {f : Nat} {vs : List V} {q : V} (h : FnB P f vs q) (hm : impOk m q) (hn : nxD P false d l nid env ob dl K (some (imp m nid q))) : caD P f vs m d l nid env ob dl K := ⟨q, h, hm, hn⟩

theorem gS_u {w : Bool} {o : RO} : gS (.c undef) w P o l nid env ob J = wpS P l (nid + 1) (put env o.d (.c undef)) ob J := sk_u
theorem gD_u {w : Bool} {o : RO} : gD (.c undef) w P o l nid env ob dl K = wpD P l (nid + 1) (put env o.d (.c undef)) ob dl K := sk_u
theorem gS_i1 {b x : Bool} {o : RO} : gS (if b = true then .c (.bool x) else .c undef) true P o l nid env ob J = gS (.c (.bool (b && x))) true P o l nid env ob J := by cases b <;> simp [gS_u, gS_ft, gS_tf]
theorem gS_i2 {b x : Bool} {o : RO} : gS (if b = true then .c undef else .c (.bool x)) true P o l nid env ob J = gS (.c (.bool (!b && x))) true P o l nid env ob J := by cases b <;> simp [gS_u, gS_tf, gS_ft]
theorem gS_i3 {b x : Bool} {o : RO} : gS (if b = true then .c (.bool x) else .c undef) false P o l nid env ob J = gS (.c (.bool (b && !x))) true P o l nid env ob J := by cases b <;> cases x <;> simp [gS_u, gS_tt, gS_ff, gS_tf, gS_ft]
theorem gS_i4 {b x : Bool} {o : RO} : gS (if b = true then .c undef else .c (.bool x)) false P o l nid env ob J = gS (.c (.bool (!b && !x))) true P o l nid env ob J := by cases b <;> cases x <;> simp [gS_u, gS_tt, gS_ff, gS_tf, gS_ft]
theorem gD_i1 {b x : Bool} {o : RO} : gD (if b = true then .c (.bool x) else .c undef) true P o l nid env ob dl K = gD (.c (.bool (b && x))) true P o l nid env ob dl K := by cases b <;> simp [gD_u, gD_ft, gD_tf]
theorem gD_i2 {b x : Bool} {o : RO} : gD (if b = true then .c undef else .c (.bool x)) true P o l nid env ob dl K = gD (.c (.bool (!b && x))) true P o l nid env ob dl K := by cases b <;> simp [gD_u, gD_tf, gD_ft]
theorem gD_i3 {b x : Bool} {o : RO} : gD (if b = true then .c (.bool x) else .c undef) false P o l nid env ob dl K = gD (.c (.bool (b && !x))) true P o l nid env ob dl K := by cases b <;> cases x <;> simp [gD_u, gD_tt, gD_ff, gD_tf, gD_ft]
theorem gD_i4 {b x : Bool} {o : RO} : gD (if b = true then .c undef else .c (.bool x)) false P o l nid env ob dl K = gD (.c (.bool (!b && !x))) true P o l nid env ob dl K := by cases b <;> cases x <;> simp [gD_u, gD_tt, gD_ff, gD_tf, gD_ft]
/-- Guards that are not known. -/
theorem gM_congr {w b : Bool} {x x' : Option (V × Ups)} (h : b = w → x = x') : gM P w b d l nid env ob J x = gM P w b d l nid env ob J x' := by cases w <;> cases b <;> simp [gM] at h ⊢ <;> rw [h]
theorem gN_congr {w b loud : Bool} {x x' : Option (V × Ups)} (h : b = w → x = x') : gN_ P w b loud d l nid env ob dl K x = gN_ P w b loud d l nid env ob dl K x' := by cases w <;> cases b <;> simp [gN_] at h ⊢ <;> rw [h]
theorem gC_congr {w b : Bool} {f : Nat} {vs vs' : List V} (h : b = w → vs = vs') : gC P w b f vs m d l nid env ob J = gC P w b f vs' m d l nid env ob J := by cases w <;> cases b <;> simp [gC] at h ⊢ <;> rw [h]
theorem gCD_congr {w b : Bool} {f : Nat} {vs vs' : List V} (h : b = w → vs = vs') : gCD P w b f vs m d l nid env ob dl K = gCD P w b f vs' m d l nid env ob dl K := by cases w <;> cases b <;> simp [gCD] at h ⊢ <;> rw [h]
theorem gW_congr {w b : Bool} {v v' : V} {as_ as' : List V} (h : b = w → v = v') (ha : b = w → as_ = as') : gW P w b v as_ m d l nid env ob J = gW P w b v' as' m d l nid env ob J := by cases w <;> cases b <;> simp [gW] at h ha ⊢ <;> rw [h, ha]
theorem gWD_congr {w b : Bool} {v v' : V} {as_ as' : List V} (h : b = w → v = v') (ha : b = w → as_ = as') : gWD P w b v as_ m d l nid env ob dl K = gWD P w b v' as' m d l nid env ob dl K := by cases w <;> cases b <;> simp [gWD] at h ha ⊢ <;> rw [h, ha]
attribute [congr] gM_congr gN_congr gC_congr gCD_congr gW_congr gWD_congr
theorem gM_n {w b : Bool} {x : Option (V × Ups)} : gM P w (!b) d l nid env ob J x = gM P (!w) b d l nid env ob J x := by cases w <;> cases b <;> simp [gM]
theorem gR_n {w b : Bool} {f : Nat} {vs : List V} : gR P w (!b) f vs d l nid env ob J = gR P (!w) b f vs d l nid env ob J := by cases w <;> cases b <;> simp [gR]
theorem gC_n {w b : Bool} {f : Nat} {vs : List V} : gC P w (!b) f vs m d l nid env ob J = gC P (!w) b f vs m d l nid env ob J := by cases w <;> cases b <;> simp [gC]
theorem gCD_n {w b : Bool} {f : Nat} {vs : List V} : gCD P w (!b) f vs m d l nid env ob dl K = gCD P (!w) b f vs m d l nid env ob dl K := by cases w <;> cases b <;> simp [gCD]
theorem gW_n {w b : Bool} {v : V} {as_ : List V} : gW P w (!b) v as_ m d l nid env ob J = gW P (!w) b v as_ m d l nid env ob J := by cases w <;> cases b <;> simp [gW]
theorem gWD_n {w b : Bool} {v : V} {as_ : List V} : gWD P w (!b) v as_ m d l nid env ob dl K = gWD P (!w) b v as_ m d l nid env ob dl K := by cases w <;> cases b <;> simp [gWD]
theorem gN_n {w b loud : Bool} {x : Option (V × Ups)} : gN_ P w (!b) loud d l nid env ob dl K x = gN_ P (!w) b loud d l nid env ob dl K x := by cases w <;> cases b <;> simp [gN_]
theorem gM_s {w b : Bool} {r : V} : gM P w b d l nid env ob J (some (r, [])) = wpS P l (nid + 1) (put env d (if b = w then r else .c undef)) ob J := by cases w <;> cases b <;> simp [gM, nxS, apps]
theorem gM_u {w b : Bool} {r : V} {i : Nat} {o : Option Ob} {us : Ups} : gM P w b d l nid env ob J (some (r, (i, o) :: us)) = ((b = w → wpS P l (nid + 1) (put env d r) (apps ob ((i, o) :: us)) J) ∧ (b = !w → wpS P l (nid + 1) (put env d (.c undef)) ob J)) := (rfl)
theorem gM_j {w b : Bool} {c : Prop} [Decidable c] {x : Option (V × Ups)} : gM P w b d l nid env ob J (if c then x else none) = ((b = w → c) ∧ gM P w b d l nid env ob J x) := by cases w <;> cases b <;> by_cases h : c <;> simp [gM, nxS, h]
theorem gN_s {w b loud : Bool} {r : V} : gN_ P w b loud d l nid env ob dl K (some (r, [])) = wpD P l (nid + 1) (put env d (if b = w then r else .c undef)) ob dl K := by cases w <;> cases b <;> cases loud <;> simp [gN_, nxD, apps]
theorem gN_u {w b loud : Bool} {r : V} {i : Nat} {o : Option Ob} {us : Ups} : gN_ P w b loud d l nid env ob dl K (some (r, (i, o) :: us)) = ((b = w → nxD P loud d l nid env ob dl K (some (r, (i, o) :: us))) ∧ (b = !w → wpD P l (nid + 1) (put env d (.c undef)) ob dl K)) := (rfl)
theorem gN_j {w b loud : Bool} {c : Prop} [Decidable c] {x : Option (V × Ups)} : gN_ P w b loud d l nid env ob dl K (if c then x else none) = ((b = w → c) ∧ gN_ P w b loud d l nid env ob dl K x) := by cases w <;> cases b <;> by_cases h : c <;> simp [gN_, nxD, h]
theorem gS_o {b : Bool} (h : isCall op = false) : gS (.c (.bool b)) true P ⟨d, none, op, xs⟩ l nid env ob J = gM P true b d l nid env ob J (opF op (xs.map (ev env)) ob nid) := by rw [gS_bt, exS_o h]; rfl
theorem gS_o' {b : Bool} (h : isCall op = false) : gS (.c (.bool b)) false P ⟨d, none, op, xs⟩ l nid env ob J = gM P false b d l nid env ob J (opF op (xs.map (ev env)) ob nid) := by rw [gS_bf, exS_o h]; cases b <;> simp [gM]
theorem gS_c {b : Bool} {f : Nat} : gS (.c (.bool b)) true P ⟨d, none, .call f m, xs⟩ l nid env ob J = gC P true b f ((xs.map (ev env)).map (resV ob 6)) m d l nid env ob J := by rw [gS_bt, exS_c]; rfl
theorem gS_c' {b : Bool} {f : Nat} : gS (.c (.bool b)) false P ⟨d, none, .call f m, xs⟩ l nid env ob J = gC P false b f ((xs.map (ev env)).map (resV ob 6)) m d l nid env ob J := by rw [gS_bf, exS_c]; cases b <;> simp [gC]
theorem gS_r {b : Bool} {f : Nat} : gS (.c (.bool b)) true P ⟨d, none, .rcall f, xs⟩ l nid env ob J = gR P true b f (xs.map (ev env)) d l nid env ob J := by rw [gS_bt, exS_r]; rfl
theorem gS_r' {b : Bool} {f : Nat} : gS (.c (.bool b)) false P ⟨d, none, .rcall f, xs⟩ l nid env ob J = gR P false b f (xs.map (ev env)) d l nid env ob J := by rw [gS_bf, exS_r]; cases b <;> simp [gR]
theorem gS_v {b : Bool} {x : Od} : gS (.c (.bool b)) true P ⟨d, none, .callv m, x :: xs⟩ l nid env ob J = gW P true b (ev env x) (xs.map (ev env)) m d l nid env ob J := by rw [gS_bt, exS_v]; rfl
theorem gS_v' {b : Bool} {x : Od} : gS (.c (.bool b)) false P ⟨d, none, .callv m, x :: xs⟩ l nid env ob J = gW P false b (ev env x) (xs.map (ev env)) m d l nid env ob J := by rw [gS_bf, exS_v]; cases b <;> simp [gW]
theorem gD_o {b : Bool} (h : isCall op = false) : gD (.c (.bool b)) true P ⟨d, none, op, xs⟩ l nid env ob dl K = gN_ P true b (isLoud op) d l nid env ob dl K (opF op (xs.map (ev env)) ob nid) := by rw [gD_bt, exD_o h]; rfl
theorem gD_o' {b : Bool} (h : isCall op = false) : gD (.c (.bool b)) false P ⟨d, none, op, xs⟩ l nid env ob dl K = gN_ P false b (isLoud op) d l nid env ob dl K (opF op (xs.map (ev env)) ob nid) := by rw [gD_bf, exD_o h]; cases b <;> simp [gN_]
theorem gD_c {b : Bool} {f : Nat} : gD (.c (.bool b)) true P ⟨d, none, .call f m, xs⟩ l nid env ob dl K = gCD P true b f ((xs.map (ev env)).map (resV ob 6)) m d l nid env ob dl K := by rw [gD_bt, exD_c]; rfl
theorem gD_c' {b : Bool} {f : Nat} : gD (.c (.bool b)) false P ⟨d, none, .call f m, xs⟩ l nid env ob dl K = gCD P false b f ((xs.map (ev env)).map (resV ob 6)) m d l nid env ob dl K := by rw [gD_bf, exD_c]; cases b <;> simp [gCD]
theorem gD_v {b : Bool} {x : Od} : gD (.c (.bool b)) true P ⟨d, none, .callv m, x :: xs⟩ l nid env ob dl K = gWD P true b (ev env x) (xs.map (ev env)) m d l nid env ob dl K := by rw [gD_bt, exD_v]; rfl
theorem gD_v' {b : Bool} {x : Od} : gD (.c (.bool b)) false P ⟨d, none, .callv m, x :: xs⟩ l nid env ob dl K = gWD P false b (ev env x) (xs.map (ev env)) m d l nid env ob dl K := by rw [gD_bf, exD_v]; cases b <;> simp [gWD]
theorem gW_f {w b : Bool} {f : Nat} {caps as_ : List V} : gW P w b (.fn f caps) as_ m d l nid env ob J = gC P w b f ((as_ ++ caps).map (resV ob 6)) m d l nid env ob J := (rfl)
theorem gWD_f {w b : Bool} {f : Nat} {caps as_ : List V} : gWD P w b (.fn f caps) as_ m d l nid env ob dl K = gCD P w b f ((as_ ++ caps).map (resV ob 6)) m d l nid env ob dl K := (rfl)
theorem gC_i {w b : Bool} {f : Nat} {vs : List V} {q : V} (h : b = w → FnB P f vs q) (hm : impOk m q) (hn : gM P w b d l nid env ob J (some (imp m nid q))) : gC P w b f vs m d l nid env ob J := ⟨fun e => caS_i (h e) hm (hn.1 e), hn.2⟩
theorem gCD_i {w b : Bool} {f : Nat} {vs : List V} {q : V} (h : b = w → FnB P f vs q) (hm : impOk m q) (hn : gN_ P w b false d l nid env ob dl K (some (imp m nid q))) : gCD P w b f vs m d l nid env ob dl K := ⟨fun e => caD_i (h e) hm (hn.1 e), hn.2⟩

/-- A loop. -/
theorem wpC_lp {c : IC} (I : Env → OB → Nat → Prop) (μ : Env → OB → Nat → Nat) (h0 : I env ob n) (h : ∀ env ob n, I env ob n → wpC P c (lpQ I μ (μ env ob n) Q) env ob n) : wpC P (.lp c) Q env ob n := ⟨I, μ, h0, h⟩

end

/-- The temporaries, and the store: what stands where. -/
theorem put_s (env : Env) (n : Nat) (v : V) : put env (some n) v n = v := by simp [put]
theorem put_o (env : Env) (n m : Nat) (v : V) (h : (m == n) = false) : put env (some n) v m = env m := by simp at h; simp [put, h]
theorem put_n (env : Env) (v : V) : put env none v = env := (rfl)
def updO (ob : OB) (i : Nat) (o : Option Ob) : OB := fun j => if j = i then o else ob j
theorem apps_n (ob : OB) : apps ob [] = ob := (rfl)
theorem apps_c (ob : OB) (i : Nat) (o : Option Ob) (l : Ups) : apps ob ((i, o) :: l) = apps (updO ob i o) l := (rfl)
theorem updO_s (ob : OB) (i : Nat) (o : Option Ob) : updO ob i o i = o := by simp [updO]
theorem updO_o (ob : OB) (i j : Nat) (o : Option Ob) (h : (j == i) = false) : updO ob i o j = ob j := by simp at h; simp [updO, h]
theorem noOb_e (i : Nat) : noOb i = none := (rfl)
theorem kill_s (ob : OB) (i : Nat) : kill ob i i = none := by simp [kill]
theorem kill_o (ob : OB) (i j : Nat) (h : (j == i) = false) : kill ob i j = ob j := by simp at h; simp [kill, h]
theorem ev_t (env : Env) (n : Nat) : ev env (.t n) = env n := (rfl)
theorem ev_k (env : Env) (v : V) : ev env (.k v) = v := (rfl)
theorem env0_c0 (v : V) (l : List V) : env0 (v :: l) 0 = v := (rfl)
theorem env0_cs (v : V) (l : List V) (n : Nat) : env0 (v :: l) (n + 1) = env0 l n := by simp [env0]
theorem env0_n (n : Nat) : env0 [] n = .u := by simp [env0]

end Go.Proofs.Ytamdidmfcjdcgaa.D
