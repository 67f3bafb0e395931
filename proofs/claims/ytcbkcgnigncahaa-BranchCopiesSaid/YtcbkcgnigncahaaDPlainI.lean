import Derived.Test.YtcbkcgnigncahaaDGivenXb
import Derived.WideShapes
import Derived.Sort.KeysCollected
import Derived.Test.YtcbkcgnigncahaaDPlainD
namespace Go.Proofs.Ytcbkcgnigncahaa.P
open Go.RowKit Go.Maps Go.Proofs.YtcbkcgnigncahaaW.PrintWords
set_option linter.unusedVariables false
set_option linter.unusedSimpArgs false
theorem bytes_same : ∀ x y : List UInt8, Op.bytesLess x y = bytesBefore x y
  | [], [] => rfl
  | [], _ :: _ => rfl
  | _ :: _, [] => rfl
  | a :: x, b :: y => by simp only [Op.bytesLess, bytesBefore, bytes_same x y]
theorem ltB_eq (a b : ByteArray) : ltB a b = bytesBefore a.data.toList b.data.toList := by
  unfold ltB
  rw [bytes_same, ByteArray.toList_eq, ByteArray.toList_eq]
def toB (p : Lit × DataW Unit) : S97 := ⟨⟨(Go.strOf p.1).toArray⟩, (lkD p.2).1⟩
def bOf (D : DataW Unit) : List S97 := match D with
  | .map es => es.map toB
  | _ => []
def toV (x : S43) : S92 := ⟨x.f0, x.f1, x.f2, x.f3, x.f4, x.f5, x.f6, x.f7⟩
def vOf (V : List S43) : List S92 := V.map toV
def rfOf (s : Ln) : Rf := ⟨bOf s.D, vOf s.V⟩
theorem rd_vOf {V : List S43} {i : Int} (h0 : 0 ≤ i) (h1 : i < V.length) : rd_T92 (vOf V) i = toV (rd_T43 V i) := by
  unfold rd_T92 rd_T43 vOf
  rw [List.getD_eq_getElem?_getD, List.getD_eq_getElem?_getD, List.getElem?_map, List.getElem?_eq_getElem (show i.toNat < V.length by omega)]
  rfl
def beforeP (p q : Lit × DataW Unit) : Prop := p.1.before q.1 = true
structure Good2 (s : Ln) : Prop extends Good s where
  ris : ∃ es, s.D = .map es ∧ es.Pairwise beforeP
  last : ∀ name, hasB s.D name = true → (lkp s.D name).2 = lastR (vOf s.V) name s.V.length
  branch : ∀ i : Int, 0 ≤ i → i < s.V.length → hasB s.D (rd_T43 s.V i).f2 = true
theorem mem_ins {x p : Lit × DataW Unit} : ∀ {l : List (Lit × DataW Unit)}, p ∈ DataW.insert x l → p = x ∨ p ∈ l
  | [], h => .inl (List.mem_singleton.1 h)
  | y :: r, h => by
    simp only [DataW.insert] at h
    split at h
    · rcases List.mem_cons.1 h with h | h
      · exact .inl h
      · exact .inr h
    · rcases List.mem_cons.1 h with h | h
      · exact .inr (h ▸ List.mem_cons_self)
      · rcases mem_ins h with h | h
        · exact .inl h
        · exact .inr (List.mem_cons_of_mem _ h)
theorem before_total {a b : Lit} (ha : isStr a = true) (hb : isStr b = true) (hne : a ≠ b) (h : a.before b = false) : b.before a = true := by
  cases a with
  | string x =>
    cases b with
    | string y =>
      rcases WideAt.bytes_total x y (fun e => hne (by rw [e])) with h1 | h1
      · rw [show (Lit.string x).before (.string y) = bytesBefore x y from rfl, h1] at h; cases h
      · exact h1
    | _ => simp [isStr] at hb
  | _ => simp [isStr] at ha
theorem before_trans {a b c : Lit} (ha : isStr a = true) (hb : isStr b = true) (hc : isStr c = true) (h1 : a.before b = true) (h2 : b.before c = true) : a.before c = true := by
  cases a with
  | string x =>
    cases b with
    | string y =>
      cases c with
      | string z => exact WideShapes.bytes_trans x y z h1 h2
      | _ => simp [isStr] at hc
    | _ => simp [isStr] at hb
  | _ => simp [isStr] at ha
theorem ins_pw {x : Lit × DataW Unit} (hx : isStr x.1 = true) : ∀ {l : List (Lit × DataW Unit)}, (∀ p ∈ l, isStr p.1 = true) → (∀ p ∈ l, p.1 ≠ x.1) → l.Pairwise beforeP → (DataW.insert x l).Pairwise beforeP
  | [], _, _, _ => by simp [DataW.insert]
  | y :: r, hs, hne, hp => by
    have hy := hs y List.mem_cons_self
    rw [List.pairwise_cons] at hp
    simp only [DataW.insert]
    split
    · rename_i hb
      refine List.pairwise_cons.2 ⟨fun z hz => ?_, List.pairwise_cons.2 hp⟩
      rcases List.mem_cons.1 hz with rfl | hz
      · exact hb
      · exact before_trans hx hy (hs z (List.mem_cons_of_mem _ hz)) hb (hp.1 z hz)
    · rename_i hb
      refine List.pairwise_cons.2 ⟨fun z hz => ?_, ins_pw hx (fun p h => hs p (List.mem_cons_of_mem _ h)) (fun p h => hne p (List.mem_cons_of_mem _ h)) hp.2⟩
      rcases mem_ins hz with rfl | hz
      · exact before_total hx hy (Ne.symm (hne y List.mem_cons_self)) (by simpa using hb)
      · exact hp.1 z hz
theorem keyed_all {es : List (Lit × DataW Unit)} (h : es.any (fun p => !isStr p.1) = false) : ∀ p ∈ es, isStr p.1 = true := by
  intro p hp
  rw [List.any_eq_false] at h
  simpa using h p hp
theorem str_key {p : Lit × DataW Unit} (h : isStr p.1 = true) : p.1 = keyB (toB p).f0 := by
  obtain ⟨a, b⟩ := p
  cases a with
  | string q => simp [keyB, toB, Go.strOf]
  | _ => simp [isStr] at h
theorem key_eq {p : Lit × DataW Unit} (h : isStr p.1 = true) (name : ByteArray) : p.1.sameKey (keyB name) = decide ((toB p).f0 = name) := by
  rw [str_key h]
  show ((toB p).f0.data.toList == name.data.toList) = _
  rw [Bool.eq_iff_iff]
  simp only [beq_iff_eq, decide_eq_true_eq]
  constructor
  · intro e; exact ByteArray.ext (Array.toList_inj.1 e)
  · intro e; rw [e]
theorem bOf_len (s : Ln) (h : Keyed s.D) : (bOf s.D).length = Maps.size s.D := by
  obtain ⟨es, he, _⟩ := h
  rw [he]
  show (es.map toB).length = es.length
  rw [List.length_map]
/-- What find answers. -/
theorem find_of {D : DataW Unit} (hk : Keyed D) (name : ByteArray) : (hasB D name = false ∧ findR (bOf D) name = -1) ∨ (hasB D name = true ∧ 0 ≤ findR (bOf D) name ∧ findR (bOf D) name < (bOf D).length ∧ (rd_T97 (bOf D) (findR (bOf D) name)).f1 = (lkp D name).1) := by
  obtain ⟨es, rfl, he⟩ := hk
  have hs := keyed_all he
  have hidx : (bOf (.map es)).findIdx? (fun b => decide (b.f0 = name)) = es.findIdx? (fun p => p.1.sameKey (keyB name)) := by
    show (es.map toB).findIdx? _ = _
    rw [List.findIdx?_map]
    clear he
    induction es with
    | nil => rfl
    | cons p es ih =>
      simp only [List.findIdx?_cons, Function.comp]
      rw [key_eq (hs p List.mem_cons_self) name]
      rw [show es.findIdx? ((fun b => decide (b.f0 = name)) ∘ toB) = es.findIdx? (fun p => p.1.sameKey (keyB name)) from ih (fun p hp => hs p (List.mem_cons_of_mem _ hp))]
  cases hf : es.findIdx? (fun p => p.1.sameKey (keyB name)) with
  | none =>
    left
    rw [hf] at hidx
    refine ⟨?_, by unfold findR; rw [hidx]⟩
    unfold hasB
    rw [has_eq, List.any_eq_false]
    rw [List.findIdx?_eq_none_iff] at hf
    intro p hp
    rw [hf p hp]
    decide
  | some i =>
    right
    rw [hf] at hidx
    have hR : findR (bOf (.map es)) name = (i : Int) := by unfold findR; rw [hidx]
    rw [List.findIdx?_eq_some_iff_getElem] at hf
    obtain ⟨hi, h1, h2⟩ := hf
    have hlen : (bOf (.map es)).length = es.length := by show (es.map toB).length = _; rw [List.length_map]
    refine ⟨?_, by omega, by omega, ?_⟩
    · unfold hasB
      rw [has_eq, List.any_eq_true]
      exact ⟨es[i], List.getElem_mem _, h1⟩
    · rw [hR, rd97_at i (by omega)]
      have hfind : es.find? (fun p => p.1.sameKey (keyB name)) = some es[i] := by
        rw [List.find?_eq_some_iff_getElem]
        exact ⟨h1, i, hi, rfl, fun j hj => by have := h2 j hj; simpa using this⟩
      have hat : (DataW.map es).atKey (keyB name) (lnD 0 0) = es[i].2 := by
        unfold DataW.atKey
        simp only
        rw [hfind]
      unfold lkp
      rw [hat]
      show ((es.map toB)[i]'(by rw [List.length_map]; exact hi)).f1 = _
      rw [List.getElem_map]
      rfl
theorem lastR_agree {V V' : List S92} {name : ByteArray} : ∀ (n : Nat), (∀ j : Nat, j < n → (rd_T92 V' (j : Int)).f2 = (rd_T92 V (j : Int)).f2) → lastR V' name n = lastR V name n
  | 0, _ => rfl
  | n + 1, h => by
    simp only [lastR]
    rw [h n (Nat.lt_succ_self n), lastR_agree n (fun j hj => h j (by omega))]
theorem lastR_lt (V : List S92) (name : ByteArray) : ∀ n : Nat, -1 ≤ lastR V name n ∧ lastR V name n < n
  | 0 => ⟨Int.le_refl _, by simp [lastR]⟩
  | n + 1 => by
    simp only [lastR]
    have := lastR_lt V name n
    split <;> omega
theorem first_of {s : Ln} (h : Good2 s) {name : ByteArray} (hb : hasB s.D name = true) : firstR (rfOf s) name = firstF (lkp s.D name) := by
  rcases find_of h.keyed name with ⟨h1, _⟩ | ⟨_, h2, h3, h4⟩
  · rw [h1] at hb; cases hb
  · unfold firstR firstF
    have hl : (rfOf s).V.length = s.V.length := by show (vOf s.V).length = _; unfold vOf; rw [List.length_map]
    rw [hl]
    have := h.last name hb
    show (if 0 ≤ lastR (vOf s.V) name s.V.length then lastR (vOf s.V) name s.V.length else if findR (bOf s.D) name < 0 then -1 else (rd_T97 (bOf s.D) (findR (bOf s.D) name)).f1) = _
    rw [← this]
    by_cases h0 : 0 ≤ (lkp s.D name).2
    · rw [if_pos h0, if_pos h0]
    · rw [if_neg h0, if_neg h0, if_neg (by omega), h4]
end Go.Proofs.Ytcbkcgnigncahaa.P
namespace Go.Proofs.Ytcbkcgnigncahaa.P
open Go.RowKit Go.Maps Go.Proofs.YtcbkcgnigncahaaW.PrintWords
set_option linter.unusedVariables false
set_option linter.unusedSimpArgs false
def rpublishF (r : Rf) (name : ByteArray) (a2 a3 a4 a5 : Int) : Int × Int × Rf :=
  if findR r.B name < 0 then (0, 6, r)
  else if rangeB a2 a3 a4 = false then (0, 1, r)
  else if 0 ≤ firstR r name ∧ a3 < (rd_T92 r.V (firstR r name)).f4 then (0, 16, r)
  else if 1024 ≤ r.V.length then (0, 4, r)
  else ((r.V.length : Int), 0, ⟨r.B, r.V ++ [⟨(r.V.length : Int), firstR r name, name, a2, a3, a4, a5, false⟩]⟩)
def rexists (r : Rf) (id : Int) : Bool := decide (0 ≤ id) && decide (id < r.V.length)
def rcloseF (r : Rf) (id : Int) : Int × Rf :=
  if rexists r id = false then (7, r)
  else if (rd_T92 r.V id).f7 = true then (28, r)
  else (0, ⟨r.B, r.V.set id.toNat ⟨(rd_T92 r.V id).f0, (rd_T92 r.V id).f1, (rd_T92 r.V id).f2, (rd_T92 r.V id).f3, (rd_T92 r.V id).f4, (rd_T92 r.V id).f5, (rd_T92 r.V id).f6, true⟩⟩)
def rgetF (r : Rf) (id : Int) : S92 × Int :=
  if rexists r id = false then (z92, 7)
  else if (rd_T92 r.V id).f7 = true then (z92, 28)
  else (rd_T92 r.V id, 0)
def rgo (V : List S92) (t u : Int) : Nat → Int → Int
  | 0, _ => -1
  | k + 1, i => if i < 0 then -1 else if (rd_T92 V i).f7 = true ∨ t < (rd_T92 V i).f3 ∨ u < (rd_T92 V i).f4 then rgo V t u k (rd_T92 V i).f1 else i
def rreadF (r : Rf) (name : ByteArray) (t u : Int) : Int × Int :=
  if findR r.B name < 0 then (-1, 6)
  else if rgo r.V t u (r.V.length + 1) (firstR r name) < 0 then (-1, 7) else (rgo r.V t u (r.V.length + 1) (firstR r name), 0)
def rheadF (r : Rf) (name : ByteArray) : Int × Int :=
  if (rreadF r name 4611686018427387904 4611686018427387904).2 = 7 then (-1, 0) else rreadF r name 4611686018427387904 4611686018427387904
def rdoF (r : Rf) (o : S38) : Int × Int × Rf :=
  if o.f0 = 0 then (0, (rforkF r o.f1 o.f2).1, (rforkF r o.f1 o.f2).2)
  else if o.f0 = 2 then (0, (rcloseF r o.f2).1, (rcloseF r o.f2).2)
  else rpublishF r o.f1 o.f3 o.f4 o.f5 o.f6
section
variable {s : Ln}
theorem rf_len (s : Ln) : (rfOf s).V.length = s.V.length := by show (vOf s.V).length = _; unfold vOf; rw [List.length_map]
theorem rexists_eq (s : Ln) (id : Int) : rexists (rfOf s) id = existsB s id := by unfold rexists existsB; rw [rf_len]
theorem rd_rf {i : Int} (h0 : 0 ≤ i) (h1 : i < s.V.length) : rd_T92 (rfOf s).V i = toV (rd_T43 s.V i) := rd_vOf h0 h1
theorem ins_bOf {es : List (Lit × DataW Unit)} (hs : ∀ p ∈ es, isStr p.1 = true) (name : ByteArray) (hne : ∀ p ∈ es, p.1 ≠ keyB name) (fr l : Int) : (DataW.insert (keyB name, lnD fr l) es).map toB = insR (es.map toB) name fr := by
  unfold insR kOf
  induction es with
  | nil => simp [DataW.insert, toB, keyB, Go.strOf, lkD, lnD]
  | cons p es ih =>
    have hp := hs p List.mem_cons_self
    have hpn := hne p List.mem_cons_self
    have hk := str_key hp
    simp only [DataW.insert, List.map_cons]
    by_cases hb : (keyB name).before p.1 = true
    · have hn : ltB (toB p).f0 name = false := by
        rw [ltB_eq]
        cases e : bytesBefore (toB p).f0.data.toList name.data.toList with
        | false => rfl
        | true =>
          have h1 : bytesBefore name.data.toList (toB p).f0.data.toList = true := by rw [hk] at hb; exact hb
          have := WideShapes.bytes_trans _ _ _ e h1
          rw [WideAt.bytes_irrefl] at this
          cases this
      rw [if_pos hb, List.takeWhile_cons_of_neg (by simpa using hn)]
      simp [toB, keyB, Go.strOf, lkD, lnD]
    · have hn : ltB (toB p).f0 name = true := by
        rw [ltB_eq]
        have h1 := before_total (a := keyB name) (b := p.1) rfl hp (Ne.symm hpn) (by simpa using hb)
        rw [hk] at h1
        exact h1
      rw [if_neg hb, List.takeWhile_cons_of_pos (by simpa using hn)]
      simp only [List.map_cons, List.length_cons, List.take_succ_cons, List.drop_succ_cons, List.cons_append]
      rw [ih (fun q h => hs q (List.mem_cons_of_mem _ h)) (fun q h => hne q (List.mem_cons_of_mem _ h))]
theorem bOf_put {name : ByteArray} (h : Good2 s) (hn : hasB s.D name = false) (fr : Int) : bOf (s.D.put (keyB name) (lnD fr (-1))) = insR (bOf s.D) name fr := by
  obtain ⟨es, he, hk⟩ := h.keyed
  unfold hasB at hn
  rw [he] at hn ⊢
  rw [has_eq, List.any_eq_false] at hn
  have hf : es.filter (fun p => !p.1.sameKey (keyB name)) = es := by
    rw [List.filter_eq_self]
    intro p hp
    have := hn p hp
    simpa using this
  show ((DataW.insert (keyB name, lnD fr (-1)) (es.filter (fun p => !p.1.sameKey (keyB name)))).map toB) = _
  rw [hf]
  refine ins_bOf (keyed_all hk) name (fun p hp e => ?_) fr (-1)
  have := hn p hp
  rw [e] at this
  simp [keyB, Lit.sameKey] at this
theorem rfork_eq (h : Good2 s) (name : ByteArray) (fr : Int) : rforkF (rfOf s) name fr = ((forkF s name fr).1, rfOf (forkF s name fr).2) := by
  have hB : (rfOf s).B.length = Maps.size s.D := bOf_len s h.keyed
  have hV := rf_len s
  by_cases c1 : validB name = false
  · have e1 : rforkF (rfOf s) name fr = (6, rfOf s) := by unfold rforkF; rw [if_pos c1]
    have e2 : forkF s name fr = (6, s) := by unfold forkF; rw [if_pos c1]
    rw [e1, e2]
  rcases find_of h.keyed name with ⟨h1, h2⟩ | ⟨h1, h2, _⟩
  · have n2 : ¬ 0 ≤ findR (rfOf s).B name := by show ¬ 0 ≤ findR (bOf s.D) name; omega
    have n2' : ¬ hasB s.D name = true := by rw [h1]; decide
    by_cases c3 : fr ≠ -1 ∧ existsB s fr = false
    · have c3' : fr ≠ -1 ∧ (fr < 0 ∨ ((rfOf s).V.length : Int) ≤ fr) := by
        refine ⟨c3.1, ?_⟩
        have := c3.2
        unfold existsB at this
        simp at this
        omega
      have e1 : rforkF (rfOf s) name fr = (7, rfOf s) := by unfold rforkF; rw [if_neg c1, if_neg n2, if_pos c3']
      have e2 : forkF s name fr = (7, s) := by unfold forkF; rw [if_neg c1, if_neg n2', if_pos c3]
      rw [e1, e2]
    · have c3' : ¬ (fr ≠ -1 ∧ (fr < 0 ∨ ((rfOf s).V.length : Int) ≤ fr)) := by
        rintro ⟨a, b⟩
        refine c3 ⟨a, ?_⟩
        unfold existsB
        simp
        omega
      by_cases c4 : fr ≠ -1 ∧ closedB s fr = true
      · have hx : 0 ≤ fr ∧ fr < s.V.length := by have := c4.1; omega
        have c4' : 0 ≤ fr ∧ (rd_T92 (rfOf s).V fr).f7 = true := ⟨hx.1, by rw [rd_rf hx.1 hx.2]; exact c4.2⟩
        have e1 : rforkF (rfOf s) name fr = (28, rfOf s) := by unfold rforkF; rw [if_neg c1, if_neg n2, if_neg c3', if_pos c4']
        have e2 : forkF s name fr = (28, s) := by unfold forkF; rw [if_neg c1, if_neg n2', if_neg c3, if_pos c4]
        rw [e1, e2]
      · have c4' : ¬ (0 ≤ fr ∧ (rd_T92 (rfOf s).V fr).f7 = true) := by
          rintro ⟨a, b⟩
          have hx : 0 ≤ fr ∧ fr < s.V.length := by omega
          rw [rd_rf hx.1 hx.2] at b
          exact c4 ⟨by omega, b⟩
        by_cases c5 : 64 ≤ Maps.size s.D
        · have e1 : rforkF (rfOf s) name fr = (4, rfOf s) := by unfold rforkF; rw [if_neg c1, if_neg n2, if_neg c3', if_neg c4', hB, if_pos c5]
          have e2 : forkF s name fr = (4, s) := by unfold forkF; rw [if_neg c1, if_neg n2', if_neg c3, if_neg c4, if_pos c5]
          rw [e1, e2]
        · have e1 : rforkF (rfOf s) name fr = (0, ⟨insR (rfOf s).B name fr, (rfOf s).V⟩) := by unfold rforkF; rw [if_neg c1, if_neg n2, if_neg c3', if_neg c4', hB, if_neg c5]
          have e2 : forkF s name fr = (0, ⟨s.D.put (keyB name) (lnD fr (-1)), s.V⟩) := by unfold forkF; rw [if_neg c1, if_neg n2', if_neg c3, if_neg c4, if_neg c5]
          rw [e1, e2]
          show _ = ((0 : Int), (⟨bOf (s.D.put (keyB name) (lnD fr (-1))), vOf s.V⟩ : Rf))
          rw [bOf_put h h1]
          rfl
  · have e1 : rforkF (rfOf s) name fr = (8, rfOf s) := by unfold rforkF; rw [if_neg c1, if_pos (show 0 ≤ findR (rfOf s).B name from h2)]
    have e2 : forkF s name fr = (8, s) := by unfold forkF; rw [if_neg c1, if_pos h1]
    rw [e1, e2]
theorem rexists_true {r : Rf} {id : Int} (h : rexists r id = true) : 0 ≤ id ∧ id < r.V.length := by
  unfold rexists at h
  simpa using h
theorem rget_eq (s : Ln) (id : Int) : rgetF (rfOf s) id = (toV (getF s id).1, (getF s id).2) := by
  unfold rgetF getF
  rw [rexists_eq]
  by_cases c1 : existsB s id = false
  · rw [if_pos c1, if_pos c1]; rfl
  · have hx := exists_true (s := s) (id := id) (by simpa using c1)
    rw [if_neg c1, if_neg c1, rd_rf hx.1 hx.2]
    by_cases c2 : closedB s id = true
    · rw [if_pos c2, if_pos (show (toV (rd_T43 s.V id)).f7 = true from c2)]; rfl
    · rw [if_neg c2, if_neg (show ¬ (toV (rd_T43 s.V id)).f7 = true from c2)]
theorem rclose_eq (s : Ln) (id : Int) : rcloseF (rfOf s) id = ((closeF s id).1, rfOf (closeF s id).2) := by
  by_cases c1 : existsB s id = false
  · have e1 : rcloseF (rfOf s) id = (7, rfOf s) := by unfold rcloseF; rw [rexists_eq, if_pos c1]
    have e2 : closeF s id = (7, s) := by unfold closeF; rw [if_pos c1]
    rw [e1, e2]
  · have hx := exists_true (s := s) (id := id) (by simpa using c1)
    by_cases c2 : closedB s id = true
    · have e1 : rcloseF (rfOf s) id = (28, rfOf s) := by unfold rcloseF; rw [rexists_eq, if_neg c1, rd_rf hx.1 hx.2, if_pos (show (toV (rd_T43 s.V id)).f7 = true from c2)]
      have e2 : closeF s id = (28, s) := by unfold closeF; rw [if_neg c1, if_pos c2]
      rw [e1, e2]
    · have e2 : closeF s id = (0, ⟨s.D, s.V.set id.toNat ⟨(rd_T43 s.V id).f0, (rd_T43 s.V id).f1, (rd_T43 s.V id).f2, (rd_T43 s.V id).f3, (rd_T43 s.V id).f4, (rd_T43 s.V id).f5, (rd_T43 s.V id).f6, true⟩⟩) := by unfold closeF; rw [if_neg c1, if_neg c2]
      have e1 : rcloseF (rfOf s) id = (0, ⟨(rfOf s).B, (rfOf s).V.set id.toNat (toV ⟨(rd_T43 s.V id).f0, (rd_T43 s.V id).f1, (rd_T43 s.V id).f2, (rd_T43 s.V id).f3, (rd_T43 s.V id).f4, (rd_T43 s.V id).f5, (rd_T43 s.V id).f6, true⟩)⟩) := by
        unfold rcloseF
        rw [rexists_eq, if_neg c1, rd_rf hx.1 hx.2, if_neg (show ¬ (toV (rd_T43 s.V id)).f7 = true from c2)]
        rfl
      rw [e1, e2]
      show ((0 : Int), (⟨bOf s.D, (vOf s.V).set id.toNat _⟩ : Rf)) = (0, ⟨bOf s.D, vOf (s.V.set id.toNat _)⟩)
      unfold vOf
      rw [List.map_set]
theorem rgo_eq (h : Good s) (t u : Int) : ∀ (k : Nat) (i : Int), i < s.V.length → rgo (rfOf s).V t u k i = searchGo s (readP t u) k i
  | 0, i, hi => rfl
  | k + 1, i, hi => by
    simp only [rgo, searchGo]
    by_cases h0 : i < 0
    · rw [if_pos h0, if_pos h0]
    · rw [if_neg h0, if_neg h0, rd_rf (by omega) hi]
      have hp := h.par i (by omega) hi
      have ih := rgo_eq h t u k (rd_T43 s.V i).f1 (by omega)
      rw [hp.2.2]
      show (if (rd_T43 s.V i).f7 = true ∨ t < (rd_T43 s.V i).f3 ∨ u < (rd_T43 s.V i).f4 then rgo (rfOf s).V t u k (rd_T43 s.V i).f1 else i) = _
      rw [ih]
      unfold readP
      cases (rd_T43 s.V i).f7 with
      | true => simp
      | false =>
        by_cases c1 : (rd_T43 s.V i).f3 ≤ t
        · by_cases c2 : (rd_T43 s.V i).f4 ≤ u
          · rw [if_neg (by simp; omega), if_pos (by simp; omega)]
          · rw [if_pos (by simp; omega), if_neg (by simp; omega)]
        · rw [if_pos (by simp; omega), if_neg (by simp; omega)]
theorem rread_eq (h : Good2 s) (name : ByteArray) (t u : Int) : rreadF (rfOf s) name t u = readF s name t u := by
  rcases find_of h.keyed name with ⟨h1, h2⟩ | ⟨h1, h2, _⟩
  · unfold rreadF readF searchF
    rw [if_pos (show findR (rfOf s).B name < 0 by show findR (bOf s.D) name < 0; omega), h1]
    rfl
  · have hf := h.toGood.first h1
    have e : rgo (rfOf s).V t u ((rfOf s).V.length + 1) (firstR (rfOf s) name) = searchGo s (readP t u) (s.V.length + 1) (firstF (lkp s.D name)) := by
      rw [first_of h h1, rf_len, rgo_eq h.toGood t u _ _ hf.2]
    unfold rreadF readF searchF
    rw [if_neg (show ¬ findR (rfOf s).B name < 0 by show ¬ findR (bOf s.D) name < 0; omega), if_neg (show ¬ hasB s.D name = false by rw [h1]; decide), e]
    simp only [true_and]
    rcases search_found h.toGood (readP t u) (s.V.length + 1) (firstF (lkp s.D name)) hf.2 with h' | h'
    · rw [h']
    · rw [if_neg (by omega), if_neg (by omega)]
end
end Go.Proofs.Ytcbkcgnigncahaa.P
