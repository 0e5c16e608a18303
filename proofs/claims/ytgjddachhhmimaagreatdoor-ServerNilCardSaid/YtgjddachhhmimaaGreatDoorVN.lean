/- Which functions a run of ServerNil may reach: the closure as a list, found step by step. -/
import Derived.Test.YtgjddachhhmimaaGreatDoorCards
import Derived.Test.YtgjddachhhmimaaGreatDoorJo
import Derived.Test.YtgjddachhhmimaaGreatDoorAx1
import Derived.WalkKit
import Derived.ProofKit
set_option linter.unusedVariables false
set_option linter.unusedSimpArgs false
namespace Go.Proofs.YtgjddachhhmimaaGreatDoor.serverNil
open Go.Proofs.YtgjddachhhmimaaGreatDoor
/-- The variables that a function's code names. -/
def namesG (P : Program) (g : FuncId) : List Nat := ((P.funcs[g]?).bind (·.body)).elim [] Code.globalsNamed
/-- The variable that a function without code reads. -/
def namesE (P : Program) (g : FuncId) : Option String := (P.funcs[g]?).bind fun fn => if fn.body.isNone then entryReads.lookup fn.name else none
theorem varsNamed_of (P : Program) (f : FuncId) (l : List FuncId) (h : P.closure f = l) :
    P.varsNamed f = (((l.flatMap (namesG P)).eraseDups).filterMap (fun g => (P.globals[g]?).map (·.name)) ++ l.filterMap (namesE P)).eraseDups := by
  unfold Program.varsNamed
  rw [h]
  rfl
/-- Is a number in a list? By the recursor: little to unfold. -/
noncomputable def memN (f : FuncId) (l : List FuncId) : Bool := List.rec (motive := fun _ => Bool) false (fun b _ ih => cond (Nat.beq f b) true ih) l
theorem memN_eq (f : FuncId) : ∀ l : List FuncId, memN f l = l.contains f
  | [] => rfl
  | b :: r => by
    show cond (Nat.beq f b) true (memN f r) = _
    rw [memN_eq f r, List.contains_cons]
    by_cases h : f = b
    · subst h
      simp
    · have h1 : Nat.beq f b = false := by
        cases e : Nat.beq f b
        · rfl
        · exact absurd (Nat.eq_of_beq_eq_true e) h
      have h2 : (f == b) = false := by simpa using h
      rw [h1, h2]
      rfl
/-- Where a function's code leads. -/
noncomputable def leadsG (P : Program) (f : FuncId) : List FuncId := (Ax.nthR f P.funcs.toList).elim [] P.leadsTo
theorem leadsG_eq (P : Program) (f : FuncId) : (P.funcs[f]?).elim [] P.leadsTo = leadsG P f := by
  unfold leadsG
  rw [Ax.nthR_eq, Array.getElem?_toList]
/-- So many steps of the search: what is left to do, what was seen. -/
noncomputable def cstep (P : Program) (k : Nat) : List FuncId → List FuncId → List FuncId × List FuncId :=
  Nat.rec (motive := fun _ => List FuncId → List FuncId → List FuncId × List FuncId) (fun todo seen => (todo, seen))
    (fun _ ih todo seen => List.rec (motive := fun _ => List FuncId × List FuncId) ([], seen) (fun f rest _ => cond (memN f seen) (ih rest seen) (ih (leadsG P f ++ rest) (f :: seen))) todo) k
theorem via_nil (P : Program) (n : Nat) (seen : List FuncId) : P.closureVia n [] seen = seen.reverse := by
  cases n <;> rfl
theorem via_cstep (P : Program) (n : Nat) : ∀ (k : Nat) (todo seen : List FuncId), P.closureVia (k + n) todo seen = P.closureVia n (cstep P k todo seen).1 (cstep P k todo seen).2
  | 0, todo, seen => by rw [Nat.zero_add]; rfl
  | k + 1, [], seen => by
    rw [via_nil]
    exact (via_nil P n seen).symm
  | k + 1, f :: rest, seen => by
    have e : cstep P (k + 1) (f :: rest) seen = cond (memN f seen) (cstep P k rest seen) (cstep P k (leadsG P f ++ rest) (f :: seen)) := rfl
    have s : k + 1 + n = (k + n) + 1 := by omega
    rw [e, s, memN_eq]
    show (if seen.contains f then P.closureVia (k + n) rest seen else P.closureVia (k + n) ((P.funcs[f]?).elim [] P.leadsTo ++ rest) (f :: seen)) = _
    rw [leadsG_eq]
    cases h : seen.contains f
    · exact via_cstep P n k _ _
    · exact via_cstep P n k _ _
/-- Does the search end, with a list, within so many steps? -/
noncomputable def closedAt (P : Program) (k : Nat) (f : FuncId) (l : List FuncId) : Bool := match cstep P k [f] [] with
  | (t, s) => t.isEmpty && s.reverse == l
/-- What a function counts for. -/
def weight (P : Program) (g : Func) : Nat := (P.leadsTo g).length + 1
theorem closure_of (P : Program) (f : FuncId) (k : Nat) (l : List FuncId) (hk : k ≤ (P.funcs.toList.map (weight P)).sum) (h : closedAt P k f l = true) : P.closure f = l := by
  unfold Program.closure
  obtain ⟨n, hn⟩ : ∃ n, 1 + (P.funcs.toList.map fun g => (P.leadsTo g).length + 1).sum = k + n :=
    ⟨1 + (P.funcs.toList.map (weight P)).sum - k, by
      show 1 + (P.funcs.toList.map (weight P)).sum = _
      omega⟩
  rw [hn, via_cstep]
  unfold closedAt at h
  generalize cstep P k [f] [] = r at h
  obtain ⟨t, s⟩ := r
  simp only [Bool.and_eq_true] at h
  obtain ⟨h1, h2⟩ := h
  obtain rfl : t = [] := List.isEmpty_iff.mp h1
  rw [via_nil]
  exact eq_of_beq h2
theorem sum_part {w : Func → Nat} {l : List Func} (a n : Nat) {x y : Nat} (h1 : (((l.drop a).take n).map w).sum = x) (h2 : y ≤ ((l.drop (a + n)).map w).sum) : x + y ≤ ((l.drop a).map w).sum := by
  rw [← List.take_append_drop n (l.drop a), List.map_append, List.sum_append, List.drop_drop, h1]
  omega
def cl0 : List FuncId := [3, 4, 12, 5, 13, 25, 44, 73, 114, 14, 26, 45, 46, 80, 115, 172, 116, 117, 173, 174, 118, 175, 259, 313, 224, 309, 312, 192, 282, 372,
   445, 446, 447, 406, 472, 522, 409, 225, 145, 150, 119, 23, 40, 126, 195, 196, 283, 373, 374, 375, 448, 177, 198, 288, 380, 450, 451, 452, 503, 505,
   539, 557, 567, 337, 428, 404, 285, 378, 568, 569, 574, 575, 504, 506, 405, 163, 338, 156, 416, 507, 453, 103, 167, 168, 169, 170, 219, 257, 258, 289,
   381, 154, 232, 320, 382, 291, 383, 384, 203, 230, 385, 290, 386, 143, 220, 199, 260, 345, 344, 432, 433, 490, 304, 396, 465, 397, 398]
def cl1 : List FuncId := [466, 399, 400, 39, 70, 71, 467, 512, 513, 541, 514, 107, 108, 515, 542, 543, 558, 516, 517, 518, 519, 401, 181, 264, 434, 292, 387, 389, 388, 454,
   508, 455, 202, 176, 120, 178, 261, 346, 262, 347, 435, 436, 152, 226, 310, 311, 407, 408, 228, 113, 315, 316, 411, 475, 314, 410, 473, 474, 523, 545,
   229, 227, 146, 121, 179, 263, 348, 349, 437, 350, 351, 438, 439, 491, 352, 353, 354, 355, 180, 122, 182, 265, 266, 183, 267, 184, 185, 268, 356, 357,
   269, 186, 270, 271, 358, 359, 272, 360, 361, 440, 492, 273, 187, 275, 363, 362, 274, 136, 209, 295, 210, 128, 200, 201, 123, 190, 279]
def cl2 : List FuncId := [162, 246, 329, 328, 330, 332, 425, 331, 334, 427, 483, 422, 478, 426, 482, 525, 480, 479, 333, 247, 335, 302, 395, 464, 366, 442, 367, 443, 501, 370,
   368, 444, 502, 536, 549, 550, 561, 571, 572, 576, 562, 578, 580, 579, 583, 581, 577, 582, 323, 551, 563, 564, 573, 537, 552, 553, 554, 565, 566, 538,
   555, 556, 280, 281, 369, 371, 286, 379, 449, 191, 193, 233, 317, 211, 216, 305, 402, 468, 403, 470, 471, 469, 520, 521, 544, 560, 559, 570, 296, 297,
   393, 298, 394, 456, 457, 509, 458, 459, 510, 511, 540, 460, 461, 462, 463, 299, 189, 277, 365, 278, 188, 276, 364, 441, 493, 494, 533]
def cl3 : List FuncId := [495, 496, 534, 535, 548, 497, 498, 499, 500, 217, 81, 125, 124, 127, 197, 284, 376, 377, 287, 194, 129, 82, 83, 131, 132, 130, 204, 293, 390, 84,
   133, 134, 85, 135, 205, 206, 294, 392, 391, 207, 208, 112, 137, 213, 212, 300, 86, 139, 215, 303, 248, 336, 424, 481, 524, 138, 214, 301, 87, 140,
   88, 141, 218, 142, 27, 48, 90, 92, 153, 91, 151, 148, 93, 155, 231, 234, 318, 235, 319, 236, 237, 238, 239, 240, 94, 157, 47, 89, 144, 221,
   306, 222, 223, 307, 308, 160, 101, 147, 149, 28, 50, 49, 15, 29, 30, 51, 16, 22, 31, 32, 17, 33, 52, 96, 95, 97, 54]
def cl4 : List FuncId := [53, 18, 34, 55, 98, 158, 241, 321, 412, 327, 413, 322, 161, 245, 325, 421, 326, 423, 414, 415, 242, 99, 159, 243, 244, 324, 417, 418, 476, 477,
   419, 420, 56, 35, 57, 100, 58, 102, 164, 249, 250, 165, 251, 252, 253, 166, 254, 340, 339, 429, 485, 484, 526, 486, 527, 531, 547, 546, 528, 529,
   530, 255, 341, 430, 487, 256, 342, 343, 431, 488, 532, 489, 37, 60, 59, 104, 105, 36, 6, 19, 7, 20, 38, 61, 67, 111, 62, 106, 63, 64,
   109, 110, 171, 65, 66, 68, 69, 8, 21, 9, 10, 11, 24, 41, 72, 75, 74, 42, 76, 77, 78, 79, 43]
end Go.Proofs.YtgjddachhhmimaaGreatDoor.serverNil
