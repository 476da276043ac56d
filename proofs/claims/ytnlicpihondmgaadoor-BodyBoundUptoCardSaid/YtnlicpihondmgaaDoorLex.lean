/- Package lexis and what it calls of the library: all contracts by hand, gathered; own text of this session. -/
import Derived.Test.YtnlicpihondmgaaDoorLex6
