/- Manifests: bytes and back; sorted ones, in plain Lean. No condition. -/
import Derived.Test.YtnddlhjafkhdoaaMan9
set_option linter.unusedSimpArgs false
set_option linter.unusedVariables false
namespace Silo
open Go Go.Eng
theorem u8_back {n : Int} (h0 : 0 ≤ n) (h1 : n ≤ 255) : ((u8I n).toNat : Int) = n := by
  rw [← wrap_u8I]
  simp [IntKind.wrap, IntKind.signed, IntKind.bits]
  omega
theorem chunks_flat : ∀ (l : List (List UInt8)) (X : List UInt8), (∀ x ∈ l, x.length = 32) → chunks l.length (l.flatten ++ X) = l
  | [], _, _ => rfl
  | a :: r, X, h => by
    have ha := h a (by simp)
    simp only [List.length_cons, chunks, List.flatten_cons, List.append_assoc]
    rw [List.take_left' ha, List.drop_left' ha, chunks_flat r X (fun x hx => h x (by simp [hx]))]
theorem manTake_bytes {m : Man} (hm : manMay m = true) : manTake (manBytes m) = some m := by
  obtain ⟨⟨k0, k1⟩, hl, hr1, hr2⟩ := (manMay_iff m).1 hm
  have f1 := risingB_len hr1; have f2 := risingB_len hr2
  have hlen := manBytes_len hm
  have e4 : at_ (manBytes m) 4 = (u8I m.kind).toNat := rfl
  have e5 : at_ (manBytes m) 5 = (u8I m.blobs.length).toNat := rfl
  have e6 : at_ (manBytes m) 6 = (u8I m.subs.length).toNat := rfl
  have h4 := u8_back k0 k1
  have h5 := u8_back (n := m.blobs.length) (by omega) (by omega)
  have h6 := u8_back (n := m.subs.length) (by omega) (by omega)
  have h5' : at_ (manBytes m) 5 = m.blobs.length := by omega
  have h6' : at_ (manBytes m) 6 = m.subs.length := by omega
  have hd : (manBytes m).drop 7 = m.blobs.flatten ++ m.subs.flatten := by
    rw [manBytes_eq, List.append_assoc]; rfl
  have ho : manOf (manBytes m) = m := by
    rw [manOf, hd, h5', h6', List.drop_left' (flat32 f1), chunks_flat _ _ f1]
    have := chunks_flat m.subs [] f2
    rw [List.append_nil] at this
    rw [this, e4, h4]
  rw [manTake_may ⟨by omega, rfl, by rw [h5', h6']; exact hlen⟩, ho, hm]; rfl
theorem all32_riseS (l : List (List UInt8)) : all32 (riseS l) = all32 l := by
  have h := riseS_spec l
  rw [Bool.eq_iff_iff]
  simp only [all32, List.all_eq_true]
  exact ⟨fun h' x hx => h' x ((h.2 x).2 hx), fun h' x hx => h' x ((h.2 x).1 hx)⟩
theorem manSort_zero {m : Man} (h : (manSort m).2 = 0) : manMay (manSort m).1 = true ∧ manSort (manSort m).1 = ((manSort m).1, 0) ∧ (manSort m).1 = ⟨m.kind, riseS m.blobs, riseS m.subs⟩ := by
  unfold manSort at h ⊢
  split at h
  · rename_i h1
    split at h
    · rename_i h2
      rw [if_pos h1, if_pos h2]
      simp only [Bool.and_eq_true] at h1
      refine ⟨?_, ?_, rfl⟩
      · have r1 := risingB_riseS m.blobs
        have r2 := risingB_riseS m.subs
        rw [show (m.blobs.all fun x => decide (x.length = 32)) = true from h1.1.1] at r1
        rw [show (m.subs.all fun x => decide (x.length = 32)) = true from h1.1.2] at r2
        simp only [manMay, r1, r2, h1.2.1, h1.2.2, decide_eq_true h2]; rfl
      · simp only [all32_riseS, riseS_riseS, h1.1.1, h1.1.2, h1.2.1, h1.2.2, Bool.and_self, if_true, if_pos h2]
    · simp at h
  · simp at h
/-- What the law reckons: bad just if Sorted says so. -/
theorem manSort_bad (m : Man) : manSort m = if ((decide (0 ≤ m.kind) && decide (m.kind ≤ 255)) && all32 (m.blobs ++ m.subs)) = true then (if (riseS m.blobs).length + (riseS m.subs).length ≤ 20 then (⟨m.kind, riseS m.blobs, riseS m.subs⟩, 0) else (man0, 2)) else (man0, 1) := by
  have e : all32 (m.blobs ++ m.subs) = (all32 m.blobs && all32 m.subs) := by simp [all32]
  rw [manSort, e]
  congr 1
  rw [Bool.and_comm]
theorem all32_take {D : List (List UInt8)} {j : Nat} (h : j < D.length) : all32 (D.take (j + 1)) = (all32 (D.take j) && decide (D[j].length = 32)) := by
  unfold all32; rw [List.take_succ_eq_append_getElem h, List.all_append]; simp only [List.all_cons, List.all_nil, Bool.and_true]
theorem manSort_texts {m : Man} {B : Nat} (h1 : ∀ x ∈ m.blobs, x.length ≤ B) (h2 : ∀ x ∈ m.subs, x.length ≤ B) (hk : Go.Eng.Int64 m.kind) :
    (∀ x ∈ (manSort m).1.blobs, x.length ≤ B) ∧ (∀ x ∈ (manSort m).1.subs, x.length ≤ B) ∧ (manSort m).1.blobs.length ≤ m.blobs.length ∧ (manSort m).1.subs.length ≤ m.subs.length ∧ Go.Eng.Int64 (manSort m).1.kind := by
  have h0 : Go.Eng.Int64 0 := ⟨by decide, by decide⟩
  unfold manSort
  split
  · split
    · exact ⟨fun x hx => h1 x (((riseS_spec _).2 x).1 hx), fun x hx => h2 x (((riseS_spec _).2 x).1 hx), riseS_len _, riseS_len _, hk⟩
    · exact ⟨by simp [man0], by simp [man0], by simp [man0], by simp [man0], h0⟩
  · exact ⟨by simp [man0], by simp [man0], by simp [man0], by simp [man0], h0⟩
end Silo
